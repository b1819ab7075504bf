/- Walks and plain laws, part f. -/
import Derived.Test.YtfhmdpicoccnfaaMA
import Derived.Test.YtfhmdpicoccnfaaMB
import Derived.Test.YtfhmdpicoccnfaaMC
import Derived.Test.YtfhmdpicoccnfaaMD
import Derived.Test.YtfhmdpicoccnfaaME
import Derived.Test.YtfhmdpicoccnfaaRows
import Derived.Deep.LoopGhost
set_option maxHeartbeats 16000000
set_option maxRecDepth 100000
namespace Go.Proofs.Ytfhmdpicoccnfaa
set_option linter.unusedSimpArgs false
set_option linter.unusedVariables false
open Go.RowKit Go.BT
theorem keys_lookB {ord : List (Pc × Sp)} {p : Pc} : p ∈ keysL ord ↔ lookB ord p ≠ none := by
 constructor
 ·intro hp hc
  obtain ⟨e, he, rfl⟩ := List.mem_map.1 hp
  simp only [lookB, Option.map_eq_none_iff, List.find?_eq_none, decide_eq_true_eq] at hc
  exact hc e he rfl
 ·intro h
  by_cases hp : p ∈ keysL ord
  ·exact hp
  ·exact (h (look_none hp)).elim
theorem Stuck_any (S : Nat → Prop) (h : Hall) (minutes : Int) (v : Value) (w : World) (hv0 : AV S w v h) :
  Calls Try.prog 34 #[v, .int .i64 minutes] w fun e w' => ∃ c cut v', e = .returned (.tuple #[v', .int .i64 c]) ∧ StuckS h minutes c cut ∧ SL (Old w) w' v' cut ∧ Step w w' := by
 have hv : AV (fun _ => False) w v h := by
  obtain ⟨cs, e, hr⟩ := hv0
  exact ⟨cs, e, Rep.weak (fun _ _ h => h.elim) hr⟩
 obtain ⟨c0, c1, rfl, h0, h1⟩ := hv.hall
 obtain ⟨p0, k0, rfl⟩ := h0.form
 obtain ⟨p1, k1, rfl⟩ := h1.form
 obtain ⟨W0, hW0⟩ : ∃ W, W = w.alloc (.cells #[.slice p0 h.people.length k0, .slice p1 h.ways.length k1] 78) := ⟨_, rfl⟩
 have hb : Bx W0 w.heap.size [.slice p0 h.people.length k0, .slice p1 h.ways.length k1] 78 := by subst hW0; exact Bx.new w [_, _] _
 have hS : Step w W0 := by subst hW0; exact Step.alloc _ _
 have hav : ∀ W, Step W0 W → AV (fun _ => False) W (.agg #[.slice p0 h.people.length k0, .slice p1 h.ways.length k1]) h := fun W hW => ⟨_, rfl, _, _, rfl, h0.keep (.of_step (hS.trans hW)), h1.keep (.of_step (hS.trans hW))⟩
 have HAV := zH hav
 have HS := zH hS
 have HW := zH hW0
 have HB := zH hb
 have e0 := hb.cell 0
 have e1 := hb.cell 1
 have bl := hb.lt
 simp only [zD, zE] at e0 e1
 clear hv hv0 h0 h1 hW0 hb hS hav
 go_enter Try.func34, Try.ntmps34
 go_upto_region 1 with (fail)
 rw [← HW.out]
 have hcall := zH (vhall_any (fun _ => False) h _ W0 (HAV.out W0 (Step.refl _)))
 go_wp2_with fail
 refine hcall.out.mono ?_
 rintro e w1 ⟨rfl, hS1⟩
 have HT := zH hS1
 clear hS1 hcall
 cases hq : hallB h with
 | false =>
  have HQ := zH hq
  clear hq
  go_wp2
  go_ret2
  exact ⟨1, [], _, rfl, ⟨fun _ => ⟨rfl, rfl⟩, (fun e => by rw [HQ.out] at e; cases e), (fun e => by rw [HQ.out] at e; cases e), (fun e => by rw [HQ.out] at e; cases e)⟩, SL.nil _ _, HS.out.trans HT.out⟩
 | true =>
  have HQ := zH hq
  have HO := zH (hallB_iff.1 hq)
  clear hq
  go_wp2_with fail
  refine (gale.within_any _ _ _ _).mono ?_
  rintro e wz ⟨rfl, rfl⟩
  cases hm : withinB minutes 0 60 with
  | false =>
   have HM := zH (show ¬ (0 ≤ minutes ∧ minutes ≤ 60) by simp [withinB] at hm; omega)
   clear hm
   go_wp2
   go_ret2
   exact ⟨2, [], _, rfl, ⟨(fun e => by rw [HQ.out] at e; cases e), fun _ _ => ⟨rfl, rfl⟩, (fun _ e => (HM.out e).elim), fun _ e => (HM.out e).elim⟩, SL.nil _ _, HS.out.trans HT.out⟩
  | true =>
   have hm2 : 0 ≤ minutes ∧ minutes ≤ 60 := by simp [withinB] at hm; omega
   obtain ⟨T, rfl⟩ : ∃ T : Nat, minutes = T := ⟨minutes.toNat, by omega⟩
   have hmT : T ≤ 61 := by omega
   have HM := zH hm2
   have e0 := (HB.out.step HT.out).cell 0
   have e1 := (HB.out.step HT.out).cell 1
   have bl := (HB.out.step HT.out).lt
   simp only [zD, zE] at e0 e1
   have hcall := zH (flee_any h T _ w1 (HAV.out w1 HT.out) HO.out hmT)
   clear hm hm2
   go_wp2_with fail
   refine hcall.out.mono ?_
   rintro e w2 ⟨B, vp, vw, vl, sc, rfl, hF, hS2⟩
   clear hcall e0 e1 bl
   have ok := netOf_ok HO.out T
   have hcall := zH (fill_any w2 hF HO.out hmT (Fly.start ok) (near_start ok))
   have HS2 := zH (HT.out.trans hS2)
   have HOWN := zH hF.own
   clear hF hS2 ok
   go_wp2_with fail
   refine hcall.out.mono ?_
   rintro e w3 ⟨r, f', ord, rfl, hF, hY, hBf, hmg, hX⟩
   clear hcall
   have HF := zH hF
   have HY := zH (And.intro hY hBf)
   have hwsz := HT.out.size
   have hS3 : Step W0 w3 := StepX.fresh HS2.out hX fun j hj => by have := HOWN.out j hj; omega
   have HS3 := zH hS3
   have HMG := zH hmg
   have hcall := zH (fout_any w3 hF)
   clear hF hY hBf hX hS3 hwsz hmg
   go_wp2_with fail
   refine hcall.out.mono ?_
   clear hcall
   rintro e w4 ⟨rfl, hS4⟩
   have HS4 := zH (HS3.out.trans hS4)
   have HMG4 := zH (HMG.out.keep hS4.keeps id)
   cases q : decide (∀ s, s < h.people.length → f'.rs s = 0) with
   | true =>
    have hz := of_decide_eq_true q
    have HZ := zH (outB_iff.1 (planL_out HO.out HY.out.1 hz)).feas
    clear q hz hS4
    go_wp2
    go_ret2
    exact ⟨7, [], _, rfl, ⟨(fun e => by rw [HQ.out] at e; cases e), (fun _ e => (e HM.out).elim), fun _ _ _ => ⟨rfl, rfl⟩, fun _ _ e => (e (by simpa using HZ.out)).elim⟩, SL.nil _ _, HS.out.trans HS4.out⟩
   | false =>
    have hz := of_decide_eq_false q
    have HZ := zH (stuck_not HO.out HY.out.1 HY.out.2 hz)
    have HZR := zH (show ∃ s, s < (netOf h T).n ∧ 0 < f'.rs s from Classical.byContradiction fun hc => hz fun s hs => by
     have h1 := (HY.out.1.rs_nn (show s < (netOf h T).n from hs)).1
     by_cases q0 : 0 < f'.rs s
     ·exact (hc ⟨s, hs, q0⟩).elim
     ·omega)
    have hp10 : h.people.length ≤ 10 := HO.out.n10
    have e0 := (HB.out.step HS4.out).cell 0
    have e1 := (HB.out.step HS4.out).cell 1
    have bl := (HB.out.step HS4.out).lt
    simp only [zD, zE] at e0 e1
    clear q hz hS4
    go_wp2_with (at_make; refine wpl_make (z := .int .i64 0) eiIntsH rfl _ _ rfl rfl .i64 .i64 h.people.length rfl rfl (by omega) (by omega) ?_)
    obtain ⟨g, hg⟩ : ∃ z, z = w4.heap.size := ⟨_, rfl⟩
    obtain ⟨W5, hW5⟩ : ∃ z, z = w4.alloc (.cells (Array.replicate h.people.length (.int .i64 0)) 3) := ⟨_, rfl⟩
    have hbg : Bx W5 g (List.replicate h.people.length (.int .i64 0)) 3 := by
     rw [show Array.replicate h.people.length (Value.int .i64 0) = (List.replicate h.people.length (Value.int .i64 0)).toArray by simp] at hW5
     subst hW5 hg; exact Bx.new _ _ _
    have hA : Step w4 W5 := by subst hW5; exact Step.alloc _ _
    have hg0 : W0.heap.size ≤ g := by subst hg; exact HS4.out.size
    have hgr : g ≠ r := by have := HMG4.out.lt; omega
    rw [← hW5, ← hg]
    have hnum : Nums W5 g 3 h.people.length (fun _ => 0) := ⟨_, hbg, by simp, fun t ht => by simp [ht]⟩
    have HG := zH (And.intro hg0 hgr)
    have HA := zH (HS4.out.trans hA)
    have HNUM := zH hnum
    have HMG5 := zH (HMG4.out.keep hA.keeps id)
    clear hbg hA hg0 hgr hW5 hg hnum e0 e1 bl HMG4
    have hT1 : IntKind.i64.wrap ((T : Int) + 1) = (T : Int) + 1 := by rw [IntKind.wrap_i64]; omega
    go_loopw [32] (fun i wr => ∃ k : Nat, k ≤ h.people.length ∧ i = .int .i64 k ∧ Nums wr g 3 h.people.length (fun s => if s < k then (T : Int) + 1 else 0) ∧ StepX (fun j => j = g) W5 wr) (fun i _ => h.people.length - (intOf i).toNat)
    case atStart => exact ⟨0, Nat.zero_le _, rfl, HNUM.out.congr fun s _ => by simp, StepX.refl _ _⟩
    case round =>
     obtain ⟨k, hk, rfl, hnum, hX⟩ := hrel
     clear HNUM
     by_cases hlt : k < h.people.length
     ·have HX := zH hX
      have HNUM := zH hnum
      have c0 := hnum.cell hlt
      have z0 := hnum.frozen k
      have zl := hnum.lt
      have hix : (0 : Int) ≤ (k : Int) ∧ (k : Int) < (h.people.length : Int) := by omega
      clear hnum hX
      go_wp2
      go_roundw
      case rel =>
       refine ⟨k + 1, by omega, by go_num, (HNUM.out.set (t := k) ((T : Int) + 1)).congr fun s hs => ?_, HX.out.setCell ⟨g, k, none⟩ _ rfl⟩
       by_cases e : s = k
       ·rw [if_pos e, if_pos (by omega)]
       ·rw [if_neg e]
        by_cases e2 : s < k
        ·rw [if_pos e2, if_pos (by omega)]
        ·rw [if_neg e2, if_neg (by omega)]
      case measure => simp [intOf]; omega
     ·have hkz : k = h.people.length := by omega
      subst hkz
      have hmg := HMG5.out.keep hX.keeps fun e => HG.out.2 e.symm
      obtain ⟨hrun, n0, hmi⟩ := run_range_mg (tm := 141) Try.underlying141 hmg
      obtain ⟨it, hit⟩ : ∃ z, z = wr.heap.size := ⟨_, rfl⟩
      obtain ⟨W6, hW6⟩ : ∃ z, z = wr.alloc (.mapIter (some r) (MG.clock wr r) #[] (MG.clock wr r)) := ⟨_, rfl⟩
      have hA6 : Step wr W6 := by subst hW6; exact Step.alloc _ _
      have hsz : W5.heap.size ≤ it := by subst hit; exact hX.size
      have hitr : it ≠ r := by have := hmg.lt; omega
      have hnl := hnum.lt
      have hitg : it ≠ g := by omega
      have hnum6 := hnum.row (hA6.block g hnl id)
      rw [← hW6, ← hit] at hrun hmi
      have HMI := zH hmi
      have HNUM := zH (hnum6.congr (ψ := fun s => (List.replicate h.people.length ((T : Int) + 1)).getD s 0) fun s hs => by simp [List.getD_eq_getElem?_getD, hs])
      have HSX := zH (StepX.trans (X := fun j => j = g ∨ W5.heap.size ≤ j) ⟨hX.os, hX.tape, hX.output, hX.size, fun j hj hn => hX.block j hj fun e => hn (.inl e)⟩ (.of hA6))
      have HIT := zH (And.intro hsz (And.intro hitr hitg))
      clear hmg hmi hW6 hit hA6 hsz hitr hitg hnum hnum6 hX hnl
      go_wp2
      clear hrun
      go_loopg [] n0 (fun n wr2 => ∃ D c, MI kvP kvS wr2 it r (lookB ord) D n ∧ (∀ p, D p → lookB ord p ≠ none) ∧ CutD (netOf h T) D c ∧ Nums wr2 g 3 h.people.length (fun s => c.getD s 0) ∧ StepX (fun j => j = g ∨ W5.heap.size ≤ j) W5 wr2)
      case atStart => exact ⟨_, _, HMI.out, (fun _ e => e.elim), CutD.start, HNUM.out, HSX.out⟩
      case round =>
       obtain ⟨D, c, hmi, hD, hC, hnum, hX⟩ := hrel
       have HX := zH hX
       have HNM := zH hnum
       have HC := zH (And.intro hD hC)
       have hnx := run_next_mg hmi HIT.out.2.1 kvP_inj
       clear hmi hD hC hnum hX HMI HNUM HSX
       rcases hnx with ⟨rfl, hall, hrun⟩ | ⟨x, sv, n', w1, w', hx, hn', hw1, hwr, hmi, hrun, hent⟩
       ·have HALL := zH hall
        clear hall
        go_wp2
        go_ret2
        have hst : Step W0 wr := StepX.fresh HA.out HX.out fun j hj => hj.elim (fun e => e ▸ HG.out.1) fun e => Nat.le_trans HA.out.size e
        refine ⟨0, c, _, rfl, ⟨(fun e => by rw [HQ.out] at e; cases e), (fun _ e => (e HM.out).elim), (fun _ _ e => (HZ.out (by simpa using e)).elim), fun _ _ _ => ⟨rfl, ?_⟩⟩, ?_, HS.out.trans hst⟩
        ·exact cut_stuck HO.out HY.out.1 HY.out.2 HZR.out HC.out.2 fun p => ⟨fun hp => keys_lookB.2 (HC.out.1 p hp), fun hp => HALL.out p (keys_lookB.1 hp)⟩
        ·have hlen : c.length = h.people.length := HC.out.2.len
         have hsl := Nums.sl (S := Old w) HNM.out (fun e => by have h1 := HG.out.1; have h2 := HS.out.size; unfold Old at e; omega) h.people.length (Nat.le_refl _) (by omega)
         have he : (List.range h.people.length).map (fun s => c.getD s 0) = c := List.ext_getElem (by simp [hlen]) fun i h1 h2 => by simp [List.getD_eq_getElem?_getD, h2]
         rw [he] at hsl
         exact hsl
       ·have hinb : InB (netOf h T) x := by
         obtain ⟨e, he, hk⟩ := List.mem_map.1 (keys_lookB.2 (show lookB ord x ≠ none by rw [hx]; simp))
         have := HY.out.2.toFound.bd e he
         rw [hk] at this
         exact this
        obtain ⟨xs, xm⟩ := x
        obtain ⟨i1, i2, i3, i4⟩ := hinb
        dsimp only at i1 i2 i3 i4
        obtain ⟨k, rfl⟩ : ∃ k : Nat, xs = k := ⟨xs.toNat, by omega⟩
        have hkn : k < h.people.length := by have : (k : Int) < (h.people.length : Int) := i2; omega
        unfold kvP at hrun hent
        unfold kvS at hrun hent
        have hXw : StepX (fun j => j = g ∨ W5.heap.size ≤ j) W5 w' := by
         refine HX.out.trans ?_
         have h2 : StepX (fun j => j = g ∨ W5.heap.size ≤ j) w1 w' := hwr.stepX (.inr HIT.out.1)
         rcases hw1 with rfl | rfl
         ·exact h2
         ·exact (StepX.of (Step.drew wr)).trans h2
        have hsz1 : w1.heap.size = wr.heap.size := by rcases hw1 with rfl | rfl <;> rfl
        have hnw : Nums w' g 3 h.people.length (fun s => c.getD s 0) := by
         refine HNM.out.row ?_
         rw [hwr.block g fun e => HIT.out.2.2 e.symm]
         rcases hw1 with rfl | rfl <;> rfl
        have HX2 := zH hXw
        have HNM2 := zH hnw
        have HMI2 := zH hmi
        have HXX := zH (And.intro hx hn')
        have HIB := zH (show InB (netOf h T) ⟨(k : Int), xm⟩ from ⟨i1, i2, i3, i4⟩)
        clear hXw hnw hmi hwr hw1 hsz1 HX HNM hx hn' i1 i2
        go_upto_region 18 with (fail)
        clear hrun hent
        obtain ⟨W7, hW7⟩ : ∃ z, z = w'.alloc (.cells #[.int .i64 k, .int .i64 xm] 144) := ⟨_, rfl⟩
        obtain ⟨g10, hg10⟩ : ∃ z, z = w'.heap.size := ⟨_, rfl⟩
        rw [← hW7, ← hg10]
        have hb10 : Bx W7 g10 [.int .i64 k, .int .i64 xm] 144 := by subst hW7 hg10; exact Bx.new _ [_, _] _
        have hS7 : Step w' W7 := by subst hW7; exact Step.alloc _ _
        have HB10 := zH hb10
        have HX7 := zH (HX2.out.trans (.of hS7))
        have HNM7 := zH (HNM2.out.row (hS7.block g HNM2.out.lt id))
        have HMI7 := zH (HMI2.out.kept (hS7.block r (by obtain ⟨es, cl, sn, h1, _⟩ := HMI2.out; exact (Array.getElem?_eq_some_iff.1 h1).1) id) (hS7.block it (by obtain ⟨es, cl, sn, _, h1, _⟩ := HMI2.out; exact (Array.getElem?_eq_some_iff.1 h1).1) id))
        have HCC := zH (show CutD (netOf h T) (fun q => D q ∨ q = ⟨(k : Int), xm⟩) (c.set k (Min.min (c.getD k 0) xm)) from by simpa using HC.out.2.step HIB.out)
        have hix : (0 : Int) ≤ (k : Int) ∧ (k : Int) < (h.people.length : Int) := by omega
        obtain ⟨ck, hck⟩ : ∃ z, z = c.getD k 0 := ⟨_, rfl⟩
        have HCK := zH hck
        clear hb10 hS7 hW7 hg10 HX2 HNM2 HMI2 hck
        have HTX := zH (Step.refl W7)
        refine Mk.wp_region_seq (Mk.kdOf [11] [] [(10, 3, 2, #[.int .i64 ck, .int .i64 xm])]) [0, 0, 2, 0, 0, 16, 56, 120, 0, 256, 1016, 2040, 4095, 8191] [0, 1, 2, 3, 4, 5, 6, 7, 8, 9, 10, 11, 12] [13] (by kernel_rfl) (by kernel_rfl) (fun i T z hi hk => by simp only [List.mem_cons, List.not_mem_nil, or_false] at hi; rcases hi with rfl | rfl | rfl | rfl | rfl | rfl | rfl | rfl | rfl | rfl | rfl | rfl | rfl <;> simp [Mk.kdOf] at hk) ?_
        intro Wx hWx
        have HT := zH (HTX.out.trans hWx)
        clear hWx HTX
        have b0 := (HB10.out.step HT.out).cell 0
        have b1 := (HB10.out.step HT.out).cell 1
        simp only [zD, zE] at b0 b1
        have r0 := (HNM7.out.row (HT.out.block g HNM7.out.lt id)).cell hkn
        rw [← HCK.out] at r0
        repeat ((first | (refine Mk.run_off rfl rfl (by rfl) ?_) | (refine Mk.run_chain_off rfl rfl (by rfl) (Mk.K0_mono _) ?_) | ((refine Mk.run_want rfl rfl (by rfl) ⟨?_, fun W hW => ?_, ?_⟩; rotate_left; (· (have d0 := hW.kc b0; have d1 := hW.kc b1; have d2 := hW.kc r0; go_simp; (try with_reducible rfl)))))); (try simp only [Act.put, zA, zB, zC]))
        clear b0 b1 r0
        refine Mk.run_make rfl (by rfl) rfl (fun w => ?_) (fun W8 g8 hW2 hg hgb hgN => ?_)
        ·go_simp
        have HL3 := zH (SLT.bx_ints (S := fun _ => False) (l := [ck, xm]) (show Bx W8 g8 (([ck, xm] : List Int).map (Value.int .i64)) 3 from hg) id ([ck, xm] : List Int).length (Nat.le_refl _) (by simp)).1
        have HTz := zH (HT.out.trans hW2)
        clear hg hgb hgN hW2 HT
        (try simp only [Act.put, zA, zB, zC])
        repeat ((first | (refine Mk.run_off rfl rfl (by rfl) ?_) | (refine Mk.run_chain_off rfl rfl (by rfl) (Mk.K0_mono _) ?_) | ((refine Mk.run_want rfl rfl (by rfl) ⟨?_, fun W hW => ?_, ?_⟩; rotate_left; (· (skip; go_simp; (try with_reducible rfl)))))); (try simp only [Act.put, zA, zB, zC]))
        refine Mk.run_chain rfl rfl (by rfl) (fun Wi hWi K' hK => ?_)
        have HTi := zH (HTz.out.trans hWi)
        have hl3 := SL.go HL3.out hWi
        clear hWi HTz HL3
        go_simp
        refine (least_any ck xm _ _ hl3).mono ?_
        rintro e w9 ⟨rfl, hS9⟩
        have HT9 := zH (HTi.out.trans hS9)
        clear HTi hl3
        refine hK _ _ (StepX.of hS9) ?_
        clear hS9 hK
        (try simp only [Act.put, zA, zB, zC])
        repeat ((first | (refine Mk.run_off rfl rfl (by rfl) ?_) | (refine Mk.run_chain_off rfl rfl (by rfl) (Mk.K0_mono _) ?_) | ((refine Mk.run_want rfl rfl (by rfl) ⟨?_, fun W hW => ?_, ?_⟩; rotate_left; (· (skip; go_simp; (try with_reducible rfl)))))); (try simp only [Act.put, zA, zB, zC]))
        refine Mk.run_end (L := [_]) rfl (fun W6 hW6 => ?_)
        have HT6 := zH (HT9.out.trans hW6)
        clear hW6 HT9
        have hnm := HNM7.out.row (HT6.out.block g HNM7.out.lt id)
        have c0 := hnm.cell hkn
        have z0 := hnm.frozen k
        have zl := hnm.lt
        have HNM8 := zH hnm
        clear hnm
        go_wp2
        go_roundg n'
        case measure => exact HXX.out.2
        case rel =>
         refine ⟨_, _, ?_, ?_, HCC.out, (HNM8.out.set (t := k) (Min.min ck xm)).congr fun s hs => ?_, (HX7.out.trans (.of HT6.out)).setCell ⟨g, k, none⟩ _ (.inl rfl)⟩
         ·refine HMI7.out.kept ?_ ?_
          ·rw [Below.heap_setCell _ ⟨g, k, none⟩ _ r fun e => HG.out.2 e.symm]
           exact HT6.out.block r (by obtain ⟨es, cl, sn, h1, _⟩ := HMI7.out; exact (Array.getElem?_eq_some_iff.1 h1).1) id
          ·rw [Below.heap_setCell _ ⟨g, k, none⟩ _ it fun e => HIT.out.2.2 e]
           exact HT6.out.block it (by obtain ⟨es, cl, sn, _, h1, _⟩ := HMI7.out; exact (Array.getElem?_eq_some_iff.1 h1).1) id
         ·rintro q (hq | rfl)
          ·exact HC.out.1 q hq
          ·rw [HXX.out.1]; simp
         ·have hlen : c.length = h.people.length := HC.out.2.len
          rw [← HCK.out]
          by_cases e : s = k
          ·rw [if_pos e]; subst e; simp [List.getD_eq_getElem?_getD, hlen, hkn]
          ·rw [if_neg e, List.getD_eq_getElem?_getD, List.getD_eq_getElem?_getD, List.getElem?_set, if_neg (Ne.symm e)]
end Go.Proofs.Ytfhmdpicoccnfaa
namespace Go.BT
theorem sumN_in {f : Nat → Int} {B : Int} : ∀ {n : Nat}, (∀ i, i < n → 0 ≤ f i ∧ f i ≤ B) → 0 ≤ sumN n f ∧ sumN n f ≤ B * (n : Int)
 | 0, _ => by simp [sumN]
 | n + 1, h => by
  have h1 := sumN_in (n := n) (fun i hi => h i (by omega))
  have h2 := h n (by omega)
  rw [show sumN (n + 1) f = sumN n f + f n from rfl, Int.natCast_succ, Int.mul_add, Int.mul_one]
  omega
theorem sumN_tail {f : Nat → Int} {a : Nat} : ∀ {b : Nat}, a ≤ b → (∀ t, a ≤ t → t < b → f t = 0) → sumN b f = sumN a f
 | 0, h, _ => by rw [show a = 0 by omega]
 | b + 1, h, hz => by
  by_cases e : a = b + 1
  ·rw [e]
  ·rw [show sumN (b + 1) f = sumN b f + f b from rfl, hz b (by omega) (by omega), Int.add_zero]
   exact sumN_tail (by omega) fun t h1 h2 => hz t h1 (by omega)
def Net.cP (H : Net) (κ : Nat → Nat) (k : Nat) : Int := sumN k fun s => if 0 < κ s then H.pe s else 0
def Net.cW (H : Net) (κ : Nat → Nat) (i t : Nat) : Int := sumN t fun t => if κ (H.u i) ≤ t ∧ t + H.d i < κ (H.v i) then H.c i else 0
def Net.cS (H : Net) (κ : Nat → Nat) (k : Nat) : Int := sumN k fun i => H.cW κ i H.T
theorem Net.size_parts (H : Net) (κ : Nat → Nat) : H.size κ = H.cP κ H.n + H.cS κ H.W := rfl
theorem Net.cP_succ (H : Net) (κ : Nat → Nat) (k : Nat) : H.cP κ (k + 1) = H.cP κ k + if 0 < κ k then H.pe k else 0 := rfl
theorem Net.cS_succ (H : Net) (κ : Nat → Nat) (k : Nat) : H.cS κ (k + 1) = H.cS κ k + H.cW κ k H.T := rfl
theorem Net.cW_succ (H : Net) (κ : Nat → Nat) (i t : Nat) : H.cW κ i (t + 1) = H.cW κ i t + if κ (H.u i) ≤ t ∧ t + H.d i < κ (H.v i) then H.c i else 0 := rfl
theorem Net.cW_start (H : Net) (κ : Nat → Nat) (i : Nat) {t : Nat} (h : t ≤ κ (H.u i)) : H.cW κ i t = 0 := sumN_zero fun j hj => if_neg (by omega)
theorem Net.cW_end (H : Net) (κ : Nat → Nat) (i : Nat) (hd : 1 ≤ H.d i) (hk : κ (H.v i) ≤ H.T + 1) {t : Nat} (h : ¬ (t + H.d i ≤ H.T ∧ t + H.d i < κ (H.v i))) : H.cW κ i t = H.cW κ i H.T := by
 by_cases c : t ≤ H.T
 ·exact (sumN_tail c fun j h1 h2 => if_neg (by omega)).symm
 ·exact sumN_tail (by omega) fun j h1 h2 => if_neg (by omega)
section
variable {h : Hall} {T : Nat} {κ : Nat → Nat}
theorem cP_bd (O : HallOk h) {k : Nat} (hk : k ≤ h.people.length) : 0 ≤ (netOf h T).cP κ k ∧ (netOf h T).cP κ k ≤ 50000 := by
 have h10 := O.n10
 have := sumN_in (n := k) (B := 5000) (f := fun s => if 0 < κ s then (netOf h T).pe s else 0) fun s hs => by
  have hp : (netOf h T).pe s = h.people[s]'(by omega) := by show h.people.getD s 0 = _; simp [List.getD_eq_getElem?_getD, show s < h.people.length by omega]
  have := O.pe s (by omega)
  rw [hp]
  split <;> omega
 unfold Net.cP
 omega
theorem cW_bd (O : HallOk h) {i : Nat} (hi : i < h.ways.length) (t : Nat) : 0 ≤ (netOf h T).cW κ i t ∧ (netOf h T).cW κ i t ≤ 1000 * (t : Int) := by
 refine sumN_in fun j hj => ?_
 have hc : (netOf h T).c i = (h.ways[i]'hi).cap := by show (wyAt h i).cap = _; simp [wyAt, List.getD_eq_getElem?_getD, hi]
 have := (O.way i hi).2.2.2.1
 rw [hc]
 split <;> omega
theorem cS_bd (O : HallOk h) (hT : T ≤ 61) {k : Nat} (hk : k ≤ h.ways.length) : 0 ≤ (netOf h T).cS κ k ∧ (netOf h T).cS κ k ≤ 1220000 := by
 have h20 := O.w20
 have := sumN_in (n := k) (B := 61000) (f := fun i => (netOf h T).cW κ i (netOf h T).T) fun i hi => by
  have := cW_bd (T := T) (κ := κ) O (show i < h.ways.length by omega) T
  show 0 ≤ (netOf h T).cW κ i T ∧ (netOf h T).cW κ i T ≤ 61000
  omega
 unfold Net.cS
 omega
end
theorem stuckB_parts (h : Hall) (T : Nat) (cut : List Int) : stuckB h T cut = (decide (cut.length = h.people.length) && (decide (cut.getD 0 0 = (T : Int) + 1) && ((cut.all fun c => decide (0 ≤ c) && decide (c ≤ (T : Int) + 1)) && decide ((netOf h T).size (cutF cut) < allH h)))) := by
 unfold stuckB cutOk
 simp only [Bool.and_assoc, Bool.decide_and]
end Go.BT
namespace Go.Proofs.Ytfhmdpicoccnfaa
set_option linter.unusedSimpArgs false
set_option linter.unusedVariables false
open Go.RowKit Go.BT
theorem pstuck1_any (p : Int) (T g : Nat) (w : World) (hc : w.cell? ⟨g, 0, none⟩ = some (.int .i64 T)) (hT : T ≤ 60) :
  Calls Try.prog 80 #[.int .i64 p, .pointer (some ⟨g, 0, none⟩)] w fun e w' => e = .returned (.bool (decide (0 ≤ p) && decide (p ≤ (T : Int) + 1))) ∧ Step w w' := by
 have hw : IntKind.i64.wrap ((T : Int) + 1) = (T : Int) + 1 := by rw [IntKind.wrap_i64]; omega
 go_enter Try.func80, Try.ntmps80
 go_wp2_with fail
 refine (gale.within_any _ _ _ _).mono ?_
 rintro e w' ⟨rfl, rfl⟩
 have he : withinB p 0 ((T : Int) + 1) = (decide (0 ≤ p) && decide (p ≤ (T : Int) + 1)) := by simp [withinB]
 rw [he]
 go_wp2
 go_ret
 exact ⟨rfl, Step.refl _⟩
theorem cut_any (S : Nat → Prop) (l : List Int) (T g : Nat) (v : Value) (w : World) (hv : SL S w v l) (hc : w.cell? ⟨g, 0, none⟩ = some (.int .i64 T)) (hT : T ≤ 60) :
  Calls Try.prog 65 #[v, .func (.func 80) #[] #[.pointer (some ⟨g, 0, none⟩)]] w fun e w' => e = .returned (.bool (l.all fun p => decide (0 ≤ p) && decide (p ≤ (T : Int) + 1))) ∧ Step w w' := by
 refine (all_int S l v w 80 #[.pointer (some ⟨g, 0, none⟩)] (Go.Proofs.enters_of Try.func80 (by kernel_rfl) rfl) (fun p => decide (0 ≤ p) && decide (p ≤ (T : Int) + 1)) (fun _ W => Step w W) (fun _ => False) (fun _ h => h.elim)
  (fun _ W hW => hv.keep (.of_step hW)) (fun _ _ _ h1 h2 => h1.trans h2) (Step.refl _) (fun i hi W u hW _ hu => ?_)).mono ?_
 ·subst hu
  refine (pstuck1_any l[i] T g W (hW.kc hc) hT).mono ?_
  rintro e w' ⟨rfl, hS⟩
  exact ⟨rfl, hW.trans hS, hS⟩
 ·rintro e w' ⟨rfl, k, _, _, hS⟩
  exact ⟨rfl, hS⟩
def pstuckB (h : Hall) (minutes : Int) (cut : List Int) : Bool := hallB h && (withinB minutes 0 60 && stuckB h minutes.toNat cut)
theorem ProveStuck_any (S : Nat → Prop) (h : Hall) (minutes : Int) (cut : List Int) (v cv : Value) (w : World) (hv0 : AV S w v h) (hc0 : SL S w cv cut) :
  Calls Try.prog 45 #[v, .int .i64 minutes, cv] w fun e w' => e = .returned (.bool (pstuckB h minutes cut)) ∧ Step w w' := by
 have hmf : ∀ (fn : Fn) (first cap : Array Value) (w : World), (Instr.makeFunc fn first cap).run Try.prog w = .ok (.func fn first cap) w := fun _ _ _ _ => rfl
 have hv : AV (fun _ => False) w v h := by
  obtain ⟨cs, e, hr⟩ := hv0
  exact ⟨cs, e, Rep.weak (fun _ _ h => h.elim) hr⟩
 have hcv : SL (fun _ => False) w cv cut := hc0.weak fun _ _ h => h.elim
 obtain ⟨c0, c1, rfl, h0, h1⟩ := hv.hall
 obtain ⟨pp, kp, bp, op, rfl, _, hlp, hpp, hcp, _⟩ := h0.ints
 obtain ⟨pw, kw, bw, ow, rfl, _, hlw, hpw, hcw, _⟩ := h1.wys
 obtain ⟨pc, kc, bc, oc, rfl, _, hlc, hpc, hcc, _⟩ := hcv.ints
 obtain ⟨W0, hW0⟩ : ∃ W, W = (w.alloc (.cells #[.slice pp h.people.length kp, .slice pw h.ways.length kw] 78)).alloc (.cells #[.int .i64 minutes] 3) := ⟨_, rfl⟩
 have hb : Bx W0 w.heap.size [.slice pp h.people.length kp, .slice pw h.ways.length kw] 78 := by subst hW0; exact (Bx.new w [_, _] _).alloc _
 have hbn : Bx W0 (w.heap.size + 1) [.int .i64 minutes] 3 := by subst hW0; exact Bx.new' _ [_] _ _ (by simp)
 have hS : Step w W0 := by subst hW0; exact (Step.alloc _ _).trans (Step.alloc _ _)
 have hav : ∀ W, Step W0 W → AV (fun _ => False) W (.agg #[.slice pp h.people.length kp, .slice pw h.ways.length kw]) h := fun W hW => ⟨_, rfl, _, _, rfl, h0.keep (.of_step (hS.trans hW)), h1.keep (.of_step (hS.trans hW))⟩
 have HAV := zH hav
 have HS := zH hS
 have HW := zH hW0
 have HB := zH hb
 have HBN := zH hbn
 have HCV := zH hcv
 have HPP := zH (And.intro hpp hcp)
 have HPW := zH (And.intro hpw hcw)
 have HPC := zH (And.intro hpc hcc)
 clear hv hv0 h0 h1 hW0 hb hbn hS hav hc0 hcv hpp hcp hpw hcw hpc hcc
 go_enter Try.func45, Try.ntmps45
 go_upto_region 1 with (fail)
 rw [← HW.out]
 refine wp_region_seq (kdOf [1, 5, 27] []) (0 :: 1 :: 3 :: 7 :: 15 :: 31 :: 63 :: 127 :: 255 :: 511 :: 1023 :: 511 :: 2559 :: 6655 :: 16383 :: 32767 :: 65535 :: 131071 :: 262143 :: 524287 :: 131071 :: 1179647 :: 4194303 :: 8388607 :: 16777215 :: 33554431 :: 33554431 :: 134217727 :: 268435455 :: 536870911 :: []) (0 :: 1 :: 2 :: 3 :: 4 :: 5 :: 6 :: 7 :: 8 :: 9 :: 10 :: 11 :: 12 :: 13 :: 14 :: 15 :: 16 :: 17 :: 18 :: 19 :: 20 :: 21 :: 22 :: 23 :: 24 :: 25 :: 26 :: 27 :: 28 :: 29 :: []) [] (by kernel_rfl) (by kernel_rfl) (fun i T z hi hk => by simp [kdOf] at hk <;> (try (split at hk <;> cases hk))) ?_
 intro Wx hWx
 have HT := zH hWx
 clear hWx
 have e0 := (HB.out.step HT.out).cell 0
 have e1 := (HB.out.step HT.out).cell 1
 simp only [zD, zE] at e0 e1
 repeat ((first | (refine run_off rfl rfl (by rfl) ?_) | (refine run_chain_off rfl rfl (by rfl) (K0_mono _) ?_) | ((refine run_want rfl rfl (by rfl) ⟨?_, fun W hW => ?_, ?_⟩; rotate_left; (· (have d0 := hW.kc e0; have d1 := hW.kc e1; go_simp; (try with_reducible rfl)))))); (try simp only [Act.put, zA, zB, zC]))
 clear e0 e1
 refine run_chain rfl rfl (by rfl) (fun Wi hWi K' hK => ?_)
 have HTi := zH (HT.out.trans hWi)
 clear hWi HT
 go_simp
 refine (vhall_any (fun _ => False) h _ Wi (HAV.out Wi HTi.out)).mono ?_
 rintro e wn ⟨rfl, hSn⟩
 have HT := zH (HTi.out.trans hSn)
 refine hK _ _ (StepX.of hSn) ?_
 clear hSn HTi hK
 cases hq : hallB h with
 | false =>
  (try simp only [Act.put, zA, zB, zC])
  repeat ((first | (refine run_off rfl rfl (by rfl) ?_) | (refine run_chain_off rfl rfl (by rfl) (K0_mono _) ?_) | ((refine run_want rfl rfl (by rfl) ⟨?_, fun W hW => ?_, ?_⟩; rotate_left; (· (skip; go_simp; (try with_reducible rfl)))))); (try simp only [Act.put, zA, zB, zC]))
  refine run_end (L := []) rfl (fun W6 hW6 => ?_)
  have HT6 := zH (HT.out.trans hW6)
  clear hW6
  go_wp2
  go_ret
  refine ⟨?_, HS.out.trans HT6.out⟩
  simp [pstuckB, hq]
 | true =>
  have HO := zH (hallB_iff.1 hq)
  have n0 := (HBN.out.step HT.out).cell 0
  simp only [List.getElem?_cons_zero] at n0
  (try simp only [Act.put, zA, zB, zC])
  repeat ((first | (refine run_off rfl rfl (by rfl) ?_) | (refine run_chain_off rfl rfl (by rfl) (K0_mono _) ?_) | ((refine run_want rfl rfl (by rfl) ⟨?_, fun W hW => ?_, ?_⟩; rotate_left; (· (have d0 := hW.kc n0; go_simp; (try with_reducible rfl)))))); (try simp only [Act.put, zA, zB, zC]))
  refine run_chain rfl rfl (by rfl) (fun Wi hWi K' hK => ?_)
  have HT1 := zH (HT.out.trans hWi)
  clear hWi HT n0
  have HT := HT1
  clear HT1
  go_simp
  refine (gale.within_any _ _ _ _).mono ?_
  rintro e wj ⟨rfl, rfl⟩
  refine hK _ _ (StepX.refl _ _) ?_
  clear hK
  cases hm : withinB minutes 0 60 with
  | false =>
   (try simp only [Act.put, zA, zB, zC])
   repeat ((first | (refine run_off rfl rfl (by rfl) ?_) | (refine run_chain_off rfl rfl (by rfl) (K0_mono _) ?_) | ((refine run_want rfl rfl (by rfl) ⟨?_, fun W hW => ?_, ?_⟩; rotate_left; (· (skip; go_simp; (try with_reducible rfl)))))); (try simp only [Act.put, zA, zB, zC]))
   refine run_end (L := []) rfl (fun W6 hW6 => ?_)
   have HT6 := zH (HT.out.trans hW6)
   clear hW6
   go_wp2
   go_ret
   refine ⟨?_, HS.out.trans HT6.out⟩
   simp [pstuckB, hq, hm]
  | true =>
   have hm2 : 0 ≤ minutes ∧ minutes ≤ 60 := by simp [withinB] at hm; omega
   obtain ⟨T, rfl⟩ : ∃ T : Nat, minutes = T := ⟨minutes.toNat, by omega⟩
   have hT : T ≤ 60 := by omega
   have HF := zH (show pstuckB h T cut = stuckB h T cut by simp [pstuckB, hq, hm])
   have HPT := zH (stuckB_parts h T cut)
   clear hq hm hm2
   have e0 := (HB.out.step HT.out).cell 0
   simp only [zD, zE] at e0
   by_cases q2 : cut.length = h.people.length
   case neg =>
    have q2' : ((cut.length : Int) != (h.people.length : Int)) = true := by simpa [bne] using (by omega : ¬ (cut.length : Int) = h.people.length)
    have HQ := zH (show stuckB h T cut = false by rw [HPT.out, decide_eq_false q2]; rfl)
    clear q2 HPT
    (try simp only [Act.put, zA, zB, zC])
    repeat ((first | (refine run_off rfl rfl (by rfl) ?_) | (refine run_chain_off rfl rfl (by rfl) (K0_mono _) ?_) | ((refine run_want rfl rfl (by rfl) ⟨?_, fun W hW => ?_, ?_⟩; rotate_left; (· (have d0 := hW.kc e0; go_simp; (try with_reducible rfl)))))); (try simp only [Act.put, zA, zB, zC]))
    clear e0
    refine run_end (L := []) rfl (fun W6 hW6 => ?_)
    have HT6 := zH (HT.out.trans hW6)
    clear hW6
    go_wp2
    go_ret
    exact ⟨by rw [HF.out, HQ.out]; rfl, HS.out.trans HT6.out⟩
   case pos =>
    have q2' : ((cut.length : Int) != (h.people.length : Int)) = false := by simp [bne, q2]
    have hn2 := HO.out.n2
    have hcl : 0 < cut.length := by omega
    obtain rfl := HPC.out.1 hcl
    have k0 := (HS.out.trans HT.out).kc (HPC.out.2 0 hcl)
    rw [Nat.add_zero] at k0
    have n0 := (HBN.out.step HT.out).cell 0
    simp only [List.getElem?_cons_zero] at n0
    have hwT : IntKind.i64.wrap ((T : Int) + 1) = (T : Int) + 1 := by rw [IntKind.wrap_i64]; omega
    have hx : (0 : Int) ≤ 0 ∧ (0 : Int) < (cut.length : Int) := by omega
    obtain ⟨z0, hz0⟩ : ∃ z, z = cut[0] := ⟨_, rfl⟩
    have hzd : cut.getD 0 0 = z0 := by rw [hz0]; simp [List.getD_eq_getElem?_getD, hcl]
    rw [← hz0] at k0
    have HL := zH q2
    rw [decide_eq_true q2, hzd, Bool.true_and] at HPT
    clear q2 hz0
    by_cases q3 : z0 = (T : Int) + 1
    case neg =>
     have q3' : (z0 != (T : Int) + 1) = true := by simpa [bne] using q3
     have HQ := zH (show stuckB h T cut = false by rw [HPT.out, decide_eq_false q3]; rfl)
     clear q3 HPT hzd
     (try simp only [Act.put, zA, zB, zC])
     repeat ((first | (refine run_off rfl rfl (by rfl) ?_) | (refine run_chain_off rfl rfl (by rfl) (K0_mono _) ?_) | ((refine run_want rfl rfl (by rfl) ⟨?_, fun W hW => ?_, ?_⟩; rotate_left; (· (have d0 := hW.kc e0; have d1 := hW.kc n0; have d2 := hW.kc k0; go_simp; (try with_reducible rfl)))))); (try simp only [Act.put, zA, zB, zC]))
     clear e0 n0 k0
     refine run_end (L := []) rfl (fun W6 hW6 => ?_)
     have HT6 := zH (HT.out.trans hW6)
     clear hW6
     go_wp2
     go_ret
     exact ⟨by rw [HF.out, HQ.out]; rfl, HS.out.trans HT6.out⟩
    case pos =>
     have q3' : (z0 != (T : Int) + 1) = false := by simp [bne, q3]
     rw [decide_eq_true q3, Bool.true_and] at HPT
     have HZ := zH (hzd.trans q3)
     clear q3 hzd
     (try simp only [Act.put, zA, zB, zC])
     repeat ((first | (refine run_off rfl rfl (by rfl) ?_) | (refine run_chain_off rfl rfl (by rfl) (K0_mono _) ?_) | ((refine run_want rfl rfl (by rfl) ⟨?_, fun W hW => ?_, ?_⟩; rotate_left; (· (have d0 := hW.kc e0; have d1 := hW.kc n0; have d2 := hW.kc k0; go_simp; (try with_reducible rfl)))))); (try simp only [Act.put, zA, zB, zC]))
     clear e0 n0 k0
     refine run_chain rfl rfl (by rfl) (fun Wi hWi K' hK => ?_)
     have HTi := zH (HT.out.trans hWi)
     clear hWi HT
     go_simp
     refine (cut_any (fun _ => False) cut T (w.heap.size + 1) _ Wi (HCV.out.keep (.of_step (HS.out.trans HTi.out))) ((HBN.out.step HTi.out).cell 0) hT).mono ?_
     rintro e wn ⟨rfl, hSn⟩
     have HT := zH (HTi.out.trans hSn)
     refine hK _ _ (StepX.of hSn) ?_
     clear hSn HTi hK q2' q3' hx hwT
     cases hall : (cut.all fun p => decide (0 ≤ p) && decide (p ≤ (T : Int) + 1)) with
     | false =>
      rw [hall] at HPT
      (try simp only [Act.put, zA, zB, zC])
      repeat ((first | (refine run_off rfl rfl (by rfl) ?_) | (refine run_chain_off rfl rfl (by rfl) (K0_mono _) ?_) | ((refine run_want rfl rfl (by rfl) ⟨?_, fun W hW => ?_, ?_⟩; rotate_left; (· (skip; go_simp; (try with_reducible rfl)))))); (try simp only [Act.put, zA, zB, zC]))
      refine run_end (L := []) rfl (fun W6 hW6 => ?_)
      have HT6 := zH (HT.out.trans hW6)
      clear hW6
      go_wp2
      go_ret
      refine ⟨?_, HS.out.trans HT6.out⟩
      rw [HF.out, HPT.out]; rfl
     | true =>
      rw [hall, Bool.true_and] at HPT
      have HALL := zH hall
      clear hall
      (try simp only [Act.put, zA, zB, zC])
      repeat ((first | (refine run_off rfl rfl (by rfl) ?_) | (refine run_chain_off rfl rfl (by rfl) (K0_mono _) ?_) | ((refine run_want rfl rfl (by rfl) ⟨?_, fun W hW => ?_, ?_⟩; rotate_left; (· (skip; go_simp; (try with_reducible rfl)))))); (try simp only [Act.put, zA, zB, zC]))
      refine run_end (L := []) rfl (fun W6 hW6 => ?_)
      have HT6 := zH (HT.out.trans hW6)
      clear hW6 HT
      go_upto_region 4 with (fail)
      have hkap : ∀ s (hs : s < cut.length), cut[s] = ((cutF cut s : Nat) : Int) ∧ cutF cut s ≤ T + 1 := fun s hs => by
       have h1 := List.all_eq_true.1 HALL.out _ (List.getElem_mem hs)
       simp only [Bool.and_eq_true, decide_eq_true_eq] at h1
       have h2 : cutF cut s = cut[s].toNat := by simp [cutF, List.getD_eq_getElem?_getD, hs]
       omega
      obtain ⟨κ, hκ⟩ : ∃ z, z = cutF cut := ⟨_, rfl⟩
      rw [← hκ] at hkap HPT
      have HK := zH hkap
      have hn2' : 0 < h.people.length := by omega
      obtain rfl := HPP.out.1 hn2'
      have HS6 := zH (HS.out.trans HT6.out)
      have e0 := (HB.out.step HT6.out).cell 0
      simp only [zD, zE] at e0
      clear hkap hκ HALL HZ
      go_wp2
      clear e0
      go_loopw [7, 46] (fun s7 s46 wr => ∃ k : Nat, k ≤ h.people.length ∧ s46 = .int .i64 k ∧ s7 = .int .i64 ((netOf h T).cP κ k) ∧ W6 = wr) (fun _ s46 _ => h.people.length - (intOf s46).toNat)
      case atStart => exact ⟨0, Nat.zero_le _, rfl, rfl, rfl⟩
      case round =>
       obtain ⟨k, hk, rfl, rfl, rfl⟩ := hrel
       have hlen := HL.out
       by_cases hlt : k < h.people.length
       ·have p0 := HS6.out.kc (HPP.out.2 k hlt)
        have c0 := HS6.out.kc (HPC.out.2 k (by omega))
        have hkk := HK.out k (by omega)
        rw [hkk.1] at c0
        have hps : (netOf h T).pe k = h.people[k] := by show h.people.getD k 0 = _; simp [List.getD_eq_getElem?_getD, hlt]
        rw [← hps] at p0
        have hix : (0 : Int) ≤ (k : Int) ∧ (k : Int) < (h.people.length : Int) := by omega
        have hix2 : (0 : Int) ≤ (k : Int) ∧ (k : Int) < (cut.length : Int) := by omega
        have hsc := (netOf h T).cP_succ κ k
        have hb1 := cP_bd (T := T) (κ := κ) HO.out (show k + 1 ≤ h.people.length by omega)
        have hb0 := cP_bd (T := T) (κ := κ) HO.out hk
        by_cases hpos : 0 < κ k
        ·have hd : decide (0 < κ k) = true := decide_eq_true hpos
         rw [if_pos hpos] at hsc
         have hwr : IntKind.i64.wrap ((netOf h T).cP κ k + (netOf h T).pe k) = (netOf h T).cP κ (k + 1) := by rw [IntKind.wrap_i64] <;> omega
         clear hkk hps hb0 hb1 hsc hpos hlen
         go_wp2
         go_roundw
         case rel => exact ⟨k + 1, by omega, by go_num, rfl, trivial⟩
         case measure => simp [intOf]; omega
        ·have hd : decide (0 < κ k) = false := decide_eq_false hpos
         rw [if_neg hpos, Int.add_zero] at hsc
         have HSC := zH hsc
         clear hkk hps hb0 hb1 hsc hpos hlen
         go_wp2
         go_roundw
         case rel => exact ⟨k + 1, by omega, by go_num, by rw [HSC.out], trivial⟩
         case measure => simp [intOf]; omega
       ·have hkz : k = h.people.length := by omega
        subst hkz
        have e1 := (HB.out.step HT6.out).cell 1
        simp only [zD, zE] at e1
        clear hlt hk hlen
        go_wp2
        clear e1
        have hwl := HO.out.w20
        go_loopw [7, 63] (fun s7 s63 wr2 => ∃ k : Nat, k ≤ h.ways.length ∧ s63 = .int .i64 k ∧ s7 = .int .i64 ((netOf h T).cP κ h.people.length + (netOf h T).cS κ k) ∧ Step W6 wr2) (fun _ s63 _ => h.ways.length - (intOf s63).toNat)
        case atStart => exact ⟨0, Nat.zero_le _, rfl, by simp [Net.cS, sumN], Step.refl _⟩
        case round =>
         obtain ⟨k, hk, rfl, rfl, hS2⟩ := hrel
         have HS2 := zH hS2
         clear hS2
         by_cases hlt : k < h.ways.length
         ·obtain rfl := HPW.out.1 (by omega)
          obtain ⟨y0, y1, y2, y3⟩ := HPW.out.2 k hlt
          obtain ⟨wa, wb, wc, wd⟩ := way_conds HO.out T hlt
          have hwy := HO.out.way k hlt
          rw [← wa] at y0 hwy
          rw [← wb] at y1 hwy
          rw [← wd] at y2 hwy
          rw [← wc] at y3 hwy
          obtain ⟨U, hU⟩ : ∃ z, z = (netOf h T).u k := ⟨_, rfl⟩
          obtain ⟨V, hV⟩ : ∃ z, z = (netOf h T).v k := ⟨_, rfl⟩
          obtain ⟨D, hD⟩ : ∃ z, z = (netOf h T).d k := ⟨_, rfl⟩
          obtain ⟨C, hC⟩ : ∃ z, z = (netOf h T).c k := ⟨_, rfl⟩
          rw [← hU] at y0 hwy
          rw [← hV] at y1 hwy
          rw [← hC] at y2 hwy
          rw [← hD] at y3 hwy
          have hst := HS6.out.trans HS2.out
          have y0 := hst.kc y0
          have y1 := hst.kc y1
          have y2 := hst.kc y2
          have y3 := hst.kc y3
          have hUn : U < cut.length := by have := HL.out; omega
          have hVn : V < cut.length := by have := HL.out; omega
          have hD1 : 1 ≤ D ∧ D ≤ 15 := by omega
          have hC1 : 0 ≤ C ∧ C ≤ 1000 := by omega
          have hix : (0 : Int) ≤ (k : Int) ∧ (k : Int) < (h.ways.length : Int) := by omega
          have HU := zH (And.intro hU (And.intro hV (And.intro hD hC)))
          clear wa wb wc wd hwy hU hV hD hC hst
          go_upto_region 13 with (fail)
          clear y0 y1 y2 y3
          obtain ⟨W7, hW7⟩ : ∃ z, z = wr.alloc (.cells #[.int .i64 U, .int .i64 V, .int .i64 C, .int .i64 D] 108) := ⟨_, rfl⟩
          obtain ⟨g7, hg7⟩ : ∃ z, z = wr.heap.size := ⟨_, rfl⟩
          rw [← hW7, ← hg7]
          have hb7 : Bx W7 g7 [.int .i64 U, .int .i64 V, .int .i64 C, .int .i64 D] 108 := by subst hW7 hg7; exact Bx.new _ [_, _, _, _] _
          have hS7 : Step W6 W7 := by subst hW7; exact HS2.out.trans (Step.alloc _ _)
          obtain ⟨q0, q1, q2, q3⟩ := cellsW hb7
          have hst := HS6.out.trans hS7
          have cu := hst.kc (HPC.out.2 U hUn)
          have cv := hst.kc (HPC.out.2 V hVn)
          have hku := HK.out U hUn
          have hkv := HK.out V hVn
          rw [hku.1] at cu
          rw [hkv.1] at cv
          have n0 := (HBN.out.step (HT6.out.trans hS7)).cell 0
          simp only [List.getElem?_cons_zero] at n0
          have hix2 : (0 : Int) ≤ (U : Int) ∧ (U : Int) < (cut.length : Int) := by omega
          have hix3 : (0 : Int) ≤ (V : Int) ∧ (V : Int) < (cut.length : Int) := by omega
          have HS7 := zH hS7
          have HKU := zH (And.intro hku.2 hkv.2)
          obtain ⟨A, hA⟩ : ∃ z, z = (netOf h T).cP κ h.people.length + (netOf h T).cS κ k := ⟨_, rfl⟩
          have hAb : 0 ≤ A ∧ A ≤ 1270000 := by
           have h1 := cP_bd (T := T) (κ := κ) HO.out (Nat.le_refl _)
           have h2 := cS_bd (κ := κ) HO.out (show T ≤ 61 by omega) hk
           omega
          have HA := zH hA
          rw [← hA]
          clear hb7 hS7 hW7 hg7 hst hku hkv hA
          have hstart := (netOf h T).cW_start κ k (t := κ U) (by rw [← HU.out.1]; exact Nat.le_refl _)
          have HST := zH hstart
          clear hstart
          go_wp2
          go_loopw [7, 12] (fun s7 s12 wr3 => ∃ t : Nat, κ U ≤ t ∧ t ≤ T + 1 ∧ s12 = .int .i64 t ∧ s7 = .int .i64 (A + (netOf h T).cW κ k t) ∧ Step W7 wr3) (fun _ s12 _ => T + 2 - (intOf s12).toNat)
          case atStart => exact ⟨κ U, Nat.le_refl _, HKU.out.1, rfl, by rw [HST.out, Int.add_zero], Step.refl _⟩
          case round =>
           obtain ⟨t, ht, htT, rfl, rfl, hS3⟩ := hrel
           have q0 := hS3.kc q0
           have q1 := hS3.kc q1
           have q2 := hS3.kc q2
           have q3 := hS3.kc q3
           have cu := hS3.kc cu
           have cv := hS3.kc cv
           have n0 := hS3.kc n0
           have HS3 := zH hS3
           clear hS3
           have hw1 : IntKind.i64.wrap ((t : Int) + (D : Int)) = (t : Int) + (D : Int) := by rw [IntKind.wrap_i64]; omega
           by_cases q : t + D ≤ T ∧ t + D < κ V
           ·have d1 : decide ((t : Int) + (D : Int) ≤ (T : Int)) = true := by simp; omega
            have d2 : decide ((t : Int) + (D : Int) < ((κ V : Nat) : Int)) = true := by simp; omega
            have hcs := (netOf h T).cW_succ κ k t
            rw [← HU.out.1, ← HU.out.2.1, ← HU.out.2.2.1, ← HU.out.2.2.2, if_pos ⟨ht, q.2⟩] at hcs
            have hb := cW_bd (T := T) (κ := κ) HO.out hlt (t + 1)
            have hb0 := cW_bd (T := T) (κ := κ) HO.out hlt t
            have hw2 : IntKind.i64.wrap (A + (netOf h T).cW κ k t + C) = A + (netOf h T).cW κ k (t + 1) := by rw [IntKind.wrap_i64] <;> omega
            have hw3 : IntKind.i64.wrap ((t : Int) + 1) = ((t + 1 : Nat) : Int) := by rw [IntKind.wrap_i64] <;> omega
            clear hcs hb hb0
            go_upto_region 14 with (fail)
            go_quiet (fail)
            go_wp2
            go_roundw
            case rel => exact ⟨t + 1, by omega, by omega, by go_num, by go_num, (by first | exact HS3.out | exact HS3.out.trans (Step.drew _) | exact HS3.out.trans (Step.drewN _ _))⟩
            case measure => simp [intOf]; omega
           ·by_cases qq : t + D ≤ T
            ·have d1 : decide ((t : Int) + (D : Int) ≤ (T : Int)) = true := by simp; omega
             have d2 : decide ((t : Int) + (D : Int) < ((κ V : Nat) : Int)) = false := by simp; omega
             go_upto_region 14 with (fail)
             go_quiet (fail)
             go_wp2
             go_roundw
             case rel =>
              refine ⟨k + 1, by omega, by go_num, ?_, ?_⟩
              ·rw [Net.cS_succ, ← (netOf h T).cW_end κ k (by rw [← HU.out.2.2.1]; exact hD1.1) (by rw [← HU.out.2.1]; exact HKU.out.2) (t := t) (by rw [← HU.out.2.1, ← HU.out.2.2.1]; exact q), HA.out, Int.add_assoc]
              ·first | exact HS7.out.trans HS3.out | exact (HS7.out.trans HS3.out).trans (Step.drew _) | exact (HS7.out.trans HS3.out).trans (Step.drewN _ _)
             case measure => simp [intOf]; omega
            ·have d1 : decide ((t : Int) + (D : Int) ≤ (T : Int)) = false := by simp; omega
             go_upto_region 14 with (fail)
             go_quiet (fail)
             go_wp2
             go_roundw
             case rel =>
              refine ⟨k + 1, by omega, by go_num, ?_, ?_⟩
              ·rw [Net.cS_succ, ← (netOf h T).cW_end κ k (by rw [← HU.out.2.2.1]; exact hD1.1) (by rw [← HU.out.2.1]; exact HKU.out.2) (t := t) (by rw [← HU.out.2.1, ← HU.out.2.2.1]; exact q), HA.out, Int.add_assoc]
              ·first | exact HS7.out.trans HS3.out | exact (HS7.out.trans HS3.out).trans (Step.drew _) | exact (HS7.out.trans HS3.out).trans (Step.drewN _ _)
             case measure => simp [intOf]; omega
         ·have hkz : k = h.ways.length := by omega
          subst hkz
          have hsz := (netOf h T).size_parts κ
          have hnW : (netOf h T).W = h.ways.length := rfl
          have hnn : (netOf h T).n = h.people.length := rfl
          rw [hnW, hnn] at hsz
          rw [← hsz]
          have HSZ := zH hsz
          have hst := HT6.out.trans HS2.out
          have e0 := (HB.out.step hst).cell 0
          have e1 := (HB.out.step hst).cell 1
          simp only [zD, zE] at e0 e1
          have hcall := zH (hall_all (fun _ => False) h _ wr (HAV.out wr hst) HO.out)
          have HST := zH hst
          clear hsz hnW hnn hst
          go_wp2_with fail
          refine hcall.out.mono ?_
          rintro e w9 ⟨rfl, hS9⟩
          have HS9 := zH hS9
          clear hcall hS9 e0 e1
          have HPQ := zH (HF.out.trans HPT.out)
          go_wp2
          go_ret
          refine ⟨?_, (HS.out.trans HST.out).trans HS9.out⟩
          rw [HPQ.out]; rfl
end Go.Proofs.Ytfhmdpicoccnfaa
namespace Go.BT
section
variable {H : Net}
def Net.arrT (H : Net) (pl : Nat → Nat → Int) (s k i t : Nat) : Int := if H.v i = s ∧ H.d i ≤ k ∧ k - H.d i < t then pl i (k - H.d i) else 0
theorem Net.arrT_zero (pl : Nat → Nat → Int) (s k i : Nat) : H.arrT pl s k i 0 = 0 := if_neg fun h => by omega
theorem Net.arrT_end (pl : Nat → Nat → Int) (s k i : Nat) : H.come pl s k i + H.arrT pl s k i H.T = H.come pl s k (i + 1) := rfl
theorem Net.arrT_next (pl : Nat → Nat → Int) (s k i t : Nat) : H.arrT pl s k i (t + 1) = if H.v i = s ∧ k = t + H.d i then H.arrT pl s k i t + pl i t else H.arrT pl s k i t := by
 unfold Net.arrT
 by_cases e : H.v i = s ∧ k = t + H.d i
 ·rw [if_pos e, if_pos ⟨e.1, by omega, by omega⟩, if_neg (by omega), Int.zero_add]
  congr 1; omega
 ·rw [if_neg e]
  by_cases q : H.v i = s ∧ H.d i ≤ k ∧ k - H.d i < t
  ·rw [if_pos q, if_pos ⟨q.1, q.2.1, by omega⟩]
  ·rw [if_neg q, if_neg fun q' => e ⟨q'.1, by omega⟩]
theorem Net.come_in {pl : Nat → Nat → Int} {i : Nat} (hp : ∀ j t, j < i → t < H.T → 0 ≤ pl j t ∧ pl j t ≤ 1000) (s k : Nat) : 0 ≤ H.come pl s k i ∧ H.come pl s k i ≤ 1000 * (i : Int) :=
 sumN_in fun j hj => by
  unfold Net.arr; split
  ·rename_i h; exact hp j _ hj h.2.2
  ·omega
theorem Net.arrT_in {pl : Nat → Nat → Int} {i t : Nat} (hp : ∀ u, u < t → 0 ≤ pl i u ∧ pl i u ≤ 1000) (s k : Nat) : 0 ≤ H.arrT pl s k i t ∧ H.arrT pl s k i t ≤ 1000 := by
 unfold Net.arrT; split
 ·rename_i h; exact hp _ h.2.2
 ·omega
end
def entOk (h : Hall) (T : Nat) (pl : List (List Int)) (i t : Nat) : Bool := decide (0 ≤ planF pl i t ∧ planF pl i t ≤ (wyAt h i).cap) && decide (0 < planF pl i t → t + (wyAt h i).mins.toNat ≤ T)
theorem rowOk_iff {h : Hall} {T : Nat} {pl : List (List Int)} {i : Nat} : rowOk h T pl i = true ↔ (pl.getD i []).length = T ∧ ∀ t, t < T → entOk h T pl i t = true := by
 unfold rowOk entOk
 simp only [Bool.and_eq_true, decide_eq_true_eq, List.all_eq_true, List.mem_range]
theorem outB_len {h : Hall} {T : Nat} {pl : List (List Int)} (hn : pl.length ≠ h.ways.length) : outB h T pl = false := by
 unfold outB; rw [decide_eq_false hn]; rfl
theorem outB_row {h : Hall} {T : Nat} {pl : List (List Int)} {i : Nat} (hi : i < h.ways.length) (hr : ¬ rowOk h T pl i = true) : outB h T pl = false := by
 cases q : outB h T pl with
 | false => rfl
 | true =>
  unfold outB at q
  simp only [Bool.and_eq_true, decide_eq_true_eq, List.all_eq_true, List.mem_range] at q
  exact (hr (q.2.1 i hi)).elim
theorem outB_there {h : Hall} {T : Nat} {pl : List (List Int)} {k : Nat} (hk : k ≤ T) (hr : ¬ thereOk h T pl k = true) : outB h T pl = false := by
 cases q : outB h T pl with
 | false => rfl
 | true =>
  unfold outB at q
  simp only [Bool.and_eq_true, decide_eq_true_eq, List.all_eq_true, List.mem_range] at q
  exact (hr (q.2.2.1 k (by omega))).elim
theorem outB_end {h : Hall} {T : Nat} {pl : List (List Int)} (h1 : pl.length = h.ways.length) (h2 : ∀ i, i < h.ways.length → rowOk h T pl i = true) (h3 : ∀ k, k ≤ T → thereOk h T pl k = true) : outB h T pl = decide ((netOf h T).F (netOf h T).pe (planF pl) 0 T = allH h) := by
 unfold outB
 rw [decide_eq_true h1, List.all_eq_true.2 fun i hi => h2 i (by simpa using hi), List.all_eq_true.2 fun k hk => h3 k (by have := List.mem_range.1 hk; omega)]
 rfl
def minI (l : List Int) : Int := l.tail.foldl min (l.headD 0)
theorem foldl_min_lt (x : Int) : ∀ (l : List Int) (m : Int), l.foldl min m < x ↔ m < x ∨ ∃ y ∈ l, y < x
 | [], m => by simp
 | a :: l, m => by
  rw [List.foldl_cons, foldl_min_lt x l]
  simp only [List.mem_cons, exists_eq_or_imp]
  constructor
  ·rintro (h | h)
   ·by_cases q : m < x
    ·exact .inl q
    ·exact .inr (.inl (by omega))
   ·exact .inr (.inr h)
  ·rintro (h | h | h)
   ·exact .inl (by omega)
   ·exact .inl (by omega)
   ·exact .inr h
theorem minI_neg {l : List Int} (h : 0 < l.length) : minI l < 0 ↔ ∃ y ∈ l, y < 0 := by
 cases l with
 | nil => simp at h
 | cons a l =>
  unfold minI
  simp only [List.tail_cons, List.headD_cons, List.mem_cons, exists_eq_or_imp]
  exact foldl_min_lt 0 l a
theorem foldl_take_succ (l : List Int) (m : Int) {k : Nat} (h : k < l.length) : (l.take (k + 1)).foldl min m = min ((l.take k).foldl min m) l[k] := by
 rw [List.take_succ_eq_append_getElem h, List.foldl_append]; rfl
end Go.BT
namespace Go.Proofs.Ytfhmdpicoccnfaa
set_option linter.unusedSimpArgs false
set_option linter.unusedVariables false
open Go.RowKit Go.BT
theorem Min_any (l : List Int) (v : Value) (w : World) (hv : SL (fun _ => False) w v l) (h0 : 0 < l.length) : Calls Try.prog 78 #[v] w fun e w' => e = .returned (.int .i64 (minI l)) ∧ Step w w' := by
 obtain ⟨pv, cv, bv, ov, rfl, _, hm, hp, hc, _⟩ := hv.ints
 obtain rfl := hp h0
 obtain ⟨a, r, rfl⟩ : ∃ a r, l = a :: r := by
  cases l with
  | nil => simp at h0
  | cons a r => exact ⟨a, r, rfl⟩
 have e0 := hc 0 h0
 simp only [List.getElem_cons_zero, Nat.add_zero] at e0
 have hlen : (a :: r).length = r.length + 1 := rfl
 rw [hlen] at hm ⊢
 have hx : (0 : Int) ≤ 0 ∧ (0 : Int) < ((r.length + 1 : Nat) : Int) := by omega
 have hlt1 : decide (((r.length + 1 : Nat) : Int) < 1) = false := by simp; omega
 have hlt1' : decide ((r.length : Int) + 1 < 1) = false := by simp; omega
 have HC := zH hc
 clear hp hc hv hlen h0
 go_enter Try.func78, Try.ntmps78
 go_wp2
 go_loopw [3, 4] (fun m i wr => ∃ k : Nat, k ≤ r.length ∧ i = .int .i64 ((k + 1 : Nat) : Int) ∧ m = .int .i64 ((r.take k).foldl min a) ∧ Step w wr) (fun _ i _ => r.length + 1 - (intOf i).toNat)
 case atStart => exact ⟨0, Nat.zero_le _, rfl, rfl, Step.refl _⟩
 case round =>
  obtain ⟨k, hk, rfl, rfl, hT⟩ := hrel
  have HT := zH hT
  clear hT e0 hx hlt1 hlt1'
  by_cases hlt : k < r.length
  ·have e1 := HC.out (k + 1) (by simp; omega)
   simp only [List.getElem_cons_succ] at e1
   have e1 := HT.out.kc e1
   have HF := zH (foldl_take_succ r a hlt)
   obtain ⟨m, hm'⟩ : ∃ z, z = (r.take k).foldl min a := ⟨_, rfl⟩
   obtain ⟨x, hx⟩ : ∃ z, z = r[k] := ⟨_, rfl⟩
   rw [← hx] at e1
   rw [← hm', ← hx] at HF
   rw [← hm']
   clear hm' hx
   have hq : (if x < m then x else m) = min m x := by omega
   have hix : (0 : Int) ≤ ((k + 1 : Nat) : Int) ∧ ((k + 1 : Nat) : Int) < ((r.length + 1 : Nat) : Int) := by omega
   go_wp2
   go_roundw
   case rel => exact ⟨k + 1, by omega, by go_num, (by rw [HF.out] <;> first | rfl | (rw [hq]) | (rw [← hq])), HT.out⟩
   case measure => simp [intOf]; omega
  ·have hkz : k = r.length := by omega
   subst hkz
   go_wp2
   go_ret
   exact ⟨by rw [List.take_length]; rfl, HT.out⟩
structure CM (w0 : World) (cb N n : Nat) (rb : Nat → Nat) (m : Nat) (φ : Nat → Nat → Int) (W : World) : Prop where
 bx : ∃ cs, Bx W cb cs 26 ∧ cs.length = N ∧ ∀ k, k < m → cs[k]? = some (.slice (some ⟨rb k, 0, none⟩) n n)
 rows : ∀ k, k < m → Nums W (rb k) 3 n (φ k)
 new : w0.heap.size ≤ cb ∧ ∀ k, k < m → w0.heap.size ≤ rb k
 inj : ∀ i j, i < m → j < m → rb i = rb j → i = j
 st : Step w0 W
section
variable {w0 W W' : World} {cb N n m : Nat} {rb : Nat → Nat} {φ ψ : Nat → Nat → Int}
theorem CM.ne (h : CM w0 cb N n rb m φ W) {k : Nat} (hk : k < m) : rb k ≠ cb := fun e => by
 obtain ⟨cs, h1, _⟩ := h.bx
 obtain ⟨cs', h2, _⟩ := h.rows k hk
 exact bx_ne h2 h1 (by decide) e
theorem CM.step (h : CM w0 cb N n rb m φ W) (k : Step W W') : CM w0 cb N n rb m φ W' := by
 obtain ⟨cs, h1, h2⟩ := h.bx
 exact ⟨⟨cs, h1.step k, h2⟩, fun i hi => (h.rows i hi).row (k.block _ (h.rows i hi).lt id), h.new, h.inj, h.st.trans k⟩
theorem CM.congr (h : CM w0 cb N n rb m φ W) (he : ∀ k, k < m → ∀ s, s < n → φ k s = ψ k s) : CM w0 cb N n rb m ψ W :=
 { h with rows := fun i hi => (h.rows i hi).congr fun s hs => he i hi s hs }
theorem CM.other (h : CM w0 cb N n rb m φ W) {g : Nat} (hg : w0.heap.size ≤ g) (h1 : g ≠ cb) (h2 : ∀ k, k < m → g ≠ rb k) (i : Nat) (v : Value) : CM w0 cb N n rb m φ (W.setCell ⟨g, i, none⟩ v) := by
 obtain ⟨cs, a, b⟩ := h.bx
 exact ⟨⟨cs, a.setOther (Ne.symm h1), b⟩, fun k hk => (h.rows k hk).row (Below.heap_setCell W ⟨g, i, none⟩ v _ (Ne.symm (h2 k hk))), h.new, h.inj, h.st.setNew _ _ hg⟩
theorem CM.set (h : CM w0 cb N n rb m φ W) {k : Nat} (hk : k < m) (s : Nat) (x : Int) : CM w0 cb N n rb m (fun j t => if j = k ∧ t = s then x else φ j t) (W.setCell ⟨rb k, s, none⟩ (.int .i64 x)) := by
 obtain ⟨cs, a, b⟩ := h.bx
 refine ⟨⟨cs, a.setOther (Ne.symm (h.ne hk)), b⟩, fun j hj => ?_, h.new, h.inj, h.st.setNew _ _ (h.new.2 k hk)⟩
 by_cases e : j = k
 ·subst e
  exact ((h.rows j hj).set (t := s) x).congr fun t ht => by simp
 ·exact ((h.rows j hj).row (Below.heap_setCell W ⟨rb k, s, none⟩ _ _ fun e' => e (h.inj j k hj hk e'))).congr fun t ht => by simp [e]
theorem CM.cell (h : CM w0 cb N n rb m φ W) {k : Nat} (hk : k < m) : W.cell? ⟨cb, k, none⟩ = some (.slice (some ⟨rb k, 0, none⟩) n n) := by
 obtain ⟨cs, a, b, c⟩ := h.bx
 rw [a.cell]; exact c k hk
theorem CM.more (h : CM w0 cb N n rb m φ W) (hm : m < N) {gr : Nat} (hg : w0.heap.size ≤ gr) (hn : Nums W gr 3 n (φ m)) (hr : gr ≠ cb ∧ ∀ k, k < m → rb k ≠ gr) : CM w0 cb N n (fun k => if k = m then gr else rb k) (m + 1) φ (W.setCell ⟨cb, m, none⟩ (.slice (some ⟨gr, 0, none⟩) n n)) := by
 obtain ⟨cs, a, b, c⟩ := h.bx
 refine ⟨⟨_, a.setCell m _, by simpa using b, fun k hk => ?_⟩, fun k hk => ?_, ⟨h.new.1, fun k hk => ?_⟩, fun i j hi hj e => ?_, h.st.setNew _ _ h.new.1⟩
 ·rw [List.getElem?_set]
  by_cases e : m = k
  ·subst e; simp [b, hm]
  ·rw [if_neg e, if_neg (Ne.symm e)]; exact c k (by omega)
 ·by_cases e : k = m
  ·rw [e, if_pos rfl]; exact hn.row (Below.heap_setCell W ⟨cb, m, none⟩ _ _ hr.1)
  ·simp only [if_neg e]; exact (h.rows k (by omega)).row (Below.heap_setCell W ⟨cb, m, none⟩ _ _ (h.ne (by omega)))
 ·by_cases e : k = m
  ·rw [if_pos e]; exact hg
  ·rw [if_neg e]; exact h.new.2 k (by omega)
 ·by_cases e1 : i = m <;> by_cases e2 : j = m
  ·omega
  ·simp only [if_pos e1, if_neg e2] at e
   exact (hr.2 j (by omega) e.symm).elim
  ·simp only [if_neg e1, if_pos e2] at e
   exact (hr.2 i (by omega) e).elim
  ·simp only [if_neg e1, if_neg e2] at e
   exact h.inj i j (by omega) (by omega) e
end
end Go.Proofs.Ytfhmdpicoccnfaa
namespace Go.Proofs.Ytfhmdpicoccnfaa
set_option linter.unusedSimpArgs false
set_option linter.unusedVariables false
open Go.RowKit Go.BT
def poutB (h : Hall) (minutes : Int) (pl : List (List Int)) : Bool := hallB h && (withinB minutes 0 60 && outB h minutes.toNat pl)
theorem ProveOut_any (S : Nat → Prop) (h : Hall) (minutes : Int) (pl : List (List Int)) (v cv : Value) (w : World) (hv0 : AV S w v h) (hc0 : SL S w cv pl) :
  Calls Try.prog 44 #[v, .int .i64 minutes, cv] w fun e w' => e = .returned (.bool (poutB h minutes pl)) ∧ Step w w' := by
 have hv : AV (fun _ => False) w v h := by
  obtain ⟨cs, e, hr⟩ := hv0
  exact ⟨cs, e, Rep.weak (fun _ _ h => h.elim) hr⟩
 have hcv : SL (fun _ => False) w cv pl := hc0.weak fun _ _ h => h.elim
 obtain ⟨c0, c1, rfl, h0, h1⟩ := hv.hall
 obtain ⟨pp, kp, bp, op, rfl, _, hlp, hpp, hcp, _⟩ := h0.ints
 obtain ⟨pw, kw, bw, ow, rfl, _, hlw, hpw, hcw, _⟩ := h1.wys
 obtain ⟨pc, kc, bc, oc, rfl, _, hlc, hpc, hcc, _⟩ := hcv.rows
 obtain ⟨W0, hW0⟩ : ∃ W, W = w.alloc (.cells #[.slice pp h.people.length kp, .slice pw h.ways.length kw] 78) := ⟨_, rfl⟩
 have hb : Bx W0 w.heap.size [.slice pp h.people.length kp, .slice pw h.ways.length kw] 78 := by subst hW0; exact Bx.new w [_, _] _
 have hS : Step w W0 := by subst hW0; exact Step.alloc _ _
 have hav : ∀ W, Step W0 W → AV (fun _ => False) W (.agg #[.slice pp h.people.length kp, .slice pw h.ways.length kw]) h := fun W hW => ⟨_, rfl, _, _, rfl, h0.keep (.of_step (hS.trans hW)), h1.keep (.of_step (hS.trans hW))⟩
 have HAV := zH hav
 have HS := zH hS
 have HW := zH hW0
 have HB := zH hb
 have HCV := zH hcv
 have H0 := zH h0
 have HPP := zH (And.intro hpp hcp)
 have HPW := zH (And.intro hpw hcw)
 have HPC := zH (And.intro hpc hcc)
 have e0 := hb.cell 0
 have e1 := hb.cell 1
 have bl := hb.lt
 simp only [zD, zE] at e0 e1
 clear hv hv0 h0 h1 hW0 hb hS hav hc0 hcv hpp hcp hpw hcw hpc hcc
 go_enter Try.func44, Try.ntmps44
 go_upto_region 1 with (fail)
 rw [← HW.out]
 have hcall := zH (vhall_any (fun _ => False) h _ W0 (HAV.out W0 (Step.refl _)))
 go_wp2_with fail
 refine hcall.out.mono ?_
 rintro e w1 ⟨rfl, hS1⟩
 have HT := zH hS1
 clear hS1 hcall
 have HQ := zH (show poutB h minutes pl = (hallB h && (withinB minutes 0 60 && outB h minutes.toNat pl)) from rfl)
 cases hq : hallB h with
 | false =>
  rw [hq] at HQ
  clear hq
  go_wp2
  go_ret
  exact ⟨by rw [HQ.out]; rfl, HS.out.trans HT.out⟩
 | true =>
  have HO := zH (hallB_iff.1 hq)
  rw [hq, Bool.true_and] at HQ
  clear hq
  go_wp2_with fail
  refine (gale.within_any _ _ _ _).mono ?_
  rintro e wz ⟨rfl, rfl⟩
  cases hm : withinB minutes 0 60 with
  | false =>
   rw [hm] at HQ
   clear hm
   go_wp2
   go_ret
   exact ⟨by rw [HQ.out]; rfl, HS.out.trans HT.out⟩
  | true =>
   rw [hm, Bool.true_and] at HQ
   have hm2 : 0 ≤ minutes ∧ minutes ≤ 60 := by simp [withinB] at hm; omega
   obtain ⟨T, rfl⟩ : ∃ T : Nat, minutes = T := ⟨minutes.toNat, by omega⟩
   have hT : T ≤ 60 := by omega
   rw [Int.toNat_natCast] at HQ
   have e0 := HT.out.kc e0
   have e1 := HT.out.kc e1
   clear hm hm2
   by_cases hlen : pl.length = h.ways.length
   case neg =>
    have q2' : ((pl.length : Int) != (h.ways.length : Int)) = true := by simpa [bne] using (by omega : ¬ (pl.length : Int) = h.ways.length)
    have HZ := zH (outB_len (T := T) hlen)
    clear hlen
    go_wp2
    go_ret
    exact ⟨by rw [HQ.out, HZ.out]; rfl, HS.out.trans HT.out⟩
   case pos =>
    have q2' : ((pl.length : Int) != (h.ways.length : Int)) = false := by simp [bne, hlen]
    have HL := zH hlen
    obtain ⟨N, hN⟩ : ∃ z, z = T + 1 := ⟨_, rfl⟩
    have hwT : IntKind.i64.wrap ((T : Int) + 1) = (N : Int) := by rw [IntKind.wrap_i64] <;> omega
    have HN1 := zH hN
    have hN61 : N ≤ 61 := by omega
    have hn10 := HO.out.n10
    clear hlen hN
    go_wp2_with (at_make; refine wpl_make (z := .slice none 0 0) eiRowsH rfl _ _ rfl rfl .i64 .i64 N rfl rfl (by omega) (by omega) ?_)
    obtain ⟨cb, hcb⟩ : ∃ z, z = w1.heap.size := ⟨_, rfl⟩
    obtain ⟨W5, hW5⟩ : ∃ z, z = w1.alloc (.cells (Array.replicate N (.slice none 0 0)) 26) := ⟨_, rfl⟩
    rw [← hW5, ← hcb]
    have hbc : Bx W5 cb (List.replicate N (.slice none 0 0)) 26 := by
     rw [show Array.replicate N (Value.slice none 0 0) = (List.replicate N (Value.slice none 0 0)).toArray by simp] at hW5
     subst hW5 hcb; exact Bx.new _ _ _
    have hA : Step W0 W5 := by subst hW5; exact HT.out.trans (Step.alloc _ _)
    have hcb0 : W0.heap.size ≤ cb := by subst hcb; exact HT.out.size
    have hCM : CM W0 cb N h.people.length (fun _ => 0) 0 (fun _ _ => 0) W5 := ⟨⟨_, hbc, by simp, fun k hk => by omega⟩, fun k hk => by omega, ⟨hcb0, fun k hk => by omega⟩, fun i j hi => by omega, hA⟩
    have HCM := zH hCM
    clear hCM hA hcb0 hbc hW5 hcb e0 e1 bl q2' hwT
    go_loopw [40] (fun i wr => ∃ (k : Nat) (rb : Nat → Nat), k ≤ N ∧ i = .int .i64 k ∧ CM W0 cb N h.people.length rb k (fun _ _ => 0) wr) (fun i _ => N - (intOf i).toNat)
    case atStart => exact ⟨0, _, Nat.zero_le _, rfl, HCM.out⟩
    case round =>
     obtain ⟨k, rb, hk, rfl, hcm⟩ := hrel
     have HCM := zH hcm
     by_cases hlt : k < N
     ·have e0 := (HB.out.step hcm.st).cell 0
      simp only [List.getElem?_cons_zero] at e0
      have hix : (0 : Int) ≤ (k : Int) ∧ (k : Int) < (N : Int) := by omega
      have clt : cb < wr.heap.size := by obtain ⟨cs, a, _⟩ := hcm.bx; exact a.lt
      have czz : ∀ i, wr.frozen? ⟨cb, i, none⟩ = false := by obtain ⟨cs, a, _⟩ := hcm.bx; exact fun i => a.frozen i
      have ccc : ∃ u, wr.cell? ⟨cb, k, none⟩ = some u := by
       obtain ⟨cs, a, b, _⟩ := hcm.bx
       exact ⟨cs[k]'(by omega), by rw [a.cell]; exact List.getElem?_eq_getElem (by omega)⟩
      obtain ⟨u, cc⟩ := ccc
      have hA := Step.alloc wr (.cells (Array.replicate h.people.length (.int .i64 0)) 3)
      have cc := hA.kc cc
      have cz : (wr.alloc (.cells (Array.replicate h.people.length (.int .i64 0)) 3)).frozen? ⟨cb, k, none⟩ = false := by rw [hA.cells.2 cb k clt]; exact czz k
      have HN := zH (show Nums (wr.alloc (.cells (Array.replicate h.people.length (.int .i64 0)) 3)) wr.heap.size 3 h.people.length (fun _ => 0) from ⟨_, by rw [show Array.replicate h.people.length (Value.int .i64 0) = (List.replicate h.people.length (Value.int .i64 0)).toArray by simp]; exact Bx.new _ _ _, by simp, fun t ht => by simp [ht]⟩)
      have HCA := zH (hcm.step hA)
      have hgl : (∀ k', k' < k → rb k' ≠ wr.heap.size) ∧ W0.heap.size ≤ wr.heap.size := ⟨fun k' hk' e => by have := (hcm.rows k' hk').lt; omega, hcm.st.size⟩
      have HGL := zH (And.intro hgl (show wr.heap.size ≠ cb by omega))
      clear hcm czz hgl hA
      go_wp2_with (at_make; refine wpl_make (z := .int .i64 0) eiIntsH rfl _ _ rfl rfl .i64 .i64 h.people.length rfl rfl (by omega) (by omega) ?_)
      go_wp2
      go_roundw
      case rel =>
       have hmr := HCA.out.more hlt HGL.out.1.2 HN.out ⟨HGL.out.2, HGL.out.1.1⟩
       rw [World.setCell_alloc_past _ cb k _ clt] at hmr
       exact ⟨k + 1, _, by omega, by go_num, hmr⟩
      case measure => simp [intOf]; omega
     ·have hkz : N = k := by omega
      subst hkz
      have e1 := (HB.out.step hcm.st).cell 1
      simp only [zD, zE] at e1
      have HC0 := zH (hcm.congr (ψ := fun k s => (netOf h T).come (planF pl) s k 0) fun k _ s _ => rfl)
      have hw20 := HO.out.w20
      clear hlt hk hcm HCM
      go_wp2
      clear e1
      go_loopw [54] (fun s54 wr => ∃ i : Nat, i ≤ h.ways.length ∧ s54 = .int .i64 i ∧ (∀ j, j < i → rowOk h T pl j = true) ∧ CM W0 cb N h.people.length rb N (fun k s => (netOf h T).come (planF pl) s k i) wr) (fun s54 _ => h.ways.length - (intOf s54).toNat)
      case atStart => exact ⟨0, Nat.zero_le _, rfl, (fun j hj => by omega), HC0.out⟩
      case round =>
       obtain ⟨i, hi, rfl, hrow, hcm⟩ := hrel
       have HROW := zH hrow
       have HCM := zH hcm
       clear hrow hcm
       by_cases hlt : i < h.ways.length
       ·obtain rfl := HPW.out.1 (by omega)
        obtain ⟨y0, y1, y2, y3⟩ := HPW.out.2 i hlt
        obtain ⟨wa, wb, wc, wd⟩ := way_conds HO.out T hlt
        have hwy := HO.out.way i hlt
        rw [← wa] at y0 hwy
        rw [← wb] at y1 hwy
        rw [← wd] at y2 hwy
        rw [← wc] at y3 hwy
        have hcap : (wyAt h i).cap = (netOf h T).c i := rfl
        have hmin : (wyAt h i).mins.toNat = (netOf h T).d i := rfl
        obtain ⟨U, hU⟩ : ∃ z, z = (netOf h T).u i := ⟨_, rfl⟩
        obtain ⟨V, hV⟩ : ∃ z, z = (netOf h T).v i := ⟨_, rfl⟩
        obtain ⟨D, hD⟩ : ∃ z, z = (netOf h T).d i := ⟨_, rfl⟩
        obtain ⟨C, hC⟩ : ∃ z, z = (netOf h T).c i := ⟨_, rfl⟩
        rw [← hU] at y0 hwy
        rw [← hV] at y1 hwy
        rw [← hC] at y2 hwy hcap
        rw [← hD] at y3 hwy hmin
        have hst := HS.out.trans HCM.out.st
        have y0 := hst.kc y0
        have y1 := hst.kc y1
        have y2 := hst.kc y2
        have y3 := hst.kc y3
        have hUn : U < h.people.length := by omega
        have hVn : V < h.people.length := by omega
        have hD1 : 1 ≤ D ∧ D ≤ 15 := by omega
        have hC1 : 0 ≤ C ∧ C ≤ 1000 := by omega
        have hix : (0 : Int) ≤ (i : Int) ∧ (i : Int) < (h.ways.length : Int) := by omega
        have HU := zH (And.intro hU (And.intro hV (And.intro hD (And.intro hC (And.intro hcap hmin)))))
        have hpl : i < pl.length := by have := HL.out; omega
        obtain rfl := HPC.out.1 (by omega)
        obtain ⟨ur, hcr, hur⟩ := HPC.out.2 i hpl
        obtain ⟨pr, kr, br, or_, rfl, _, _, hpr, hcr2, _⟩ := hur.ints
        have hcr := hst.kc hcr
        have hpf : ∀ t (ht : t < pl[i].length), planF pl i t = pl[i][t] := fun t ht => by simp [planF, List.getD_eq_getElem?_getD, hpl, ht]
        have hcr2 : ∀ t, t < pl[i].length → w.cell? ⟨br, or_ + t, none⟩ = some (.int .i64 (planF pl i t)) := fun t ht => by rw [hpf t ht]; exact hcr2 t ht
        have hgd : (pl.getD i []).length = pl[i].length := by simp [List.getD_eq_getElem?_getD, hpl]
        obtain ⟨ρl, hρ⟩ : ∃ z, z = pl[i].length := ⟨_, rfl⟩
        rw [← hρ] at hcr hgd hcr2 hpr
        have HR := zH (And.intro hgd (And.intro hpr hcr2))
        have hixp : (0 : Int) ≤ (i : Int) ∧ (i : Int) < (pl.length : Int) := by omega
        clear wa wb wc wd hwy hU hV hD hC hst hcap hmin hgd hpr hcr2 hur hpf hρ
        go_upto_region 12 with (fail)
        clear y0 y1 y2 y3
        obtain ⟨W7, hW7⟩ : ∃ z, z = wr.alloc (.cells #[.int .i64 U, .int .i64 V, .int .i64 C, .int .i64 D] 108) := ⟨_, rfl⟩
        obtain ⟨g7, hg7⟩ : ∃ z, z = wr.heap.size := ⟨_, rfl⟩
        rw [← hW7, ← hg7]
        have hb7 : Bx W7 g7 [.int .i64 U, .int .i64 V, .int .i64 C, .int .i64 D] 108 := by subst hW7 hg7; exact Bx.new _ [_, _, _, _] _
        have hS7 : Step wr W7 := by subst hW7; exact Step.alloc _ _
        have hcr := hS7.kc hcr
        have HB7 := zH hb7
        have HC7 := zH (HCM.out.step hS7)
        clear hb7 hS7 hW7 hg7
        by_cases hrl : ρl = T
        case neg =>
         have q3' : ((ρl : Int) != (T : Int)) = true := by simpa [bne] using (by omega : ¬ (ρl : Int) = T)
         have HZ := zH (outB_row (pl := pl) (T := T) hlt fun hr => hrl (by rw [← HR.out.1]; exact (rowOk_iff.1 hr).1))
         clear hrl
         go_wp2
         go_ret
         exact ⟨by rw [HQ.out, HZ.out]; rfl, HS.out.trans HC7.out.st⟩
        case pos =>
         have q3' : ((ρl : Int) != (T : Int)) = false := by simp [bne, hrl]
         have HRL := zH hrl
         clear hrl
         go_wp2
         clear hcr q3'
         go_loopw [71] (fun s71 wr => ∃ t : Nat, t ≤ T ∧ s71 = .int .i64 t ∧ (∀ u, u < t → entOk h T pl i u = true) ∧ CM W0 cb N h.people.length rb N (fun k s => (netOf h T).come (planF pl) s k i + (netOf h T).arrT (planF pl) s k i t) wr ∧ Bx wr g7 [.int .i64 U, .int .i64 V, .int .i64 C, .int .i64 D] 108) (fun s71 _ => T - (intOf s71).toNat)
         case atStart => exact ⟨0, Nat.zero_le _, rfl, (fun u hu => by omega), HC7.out.congr fun k _ s _ => by rw [Net.arrT_zero, Int.add_zero], HB7.out⟩
         case round =>
          obtain ⟨t, ht, rfl, hent, hcm, hb⟩ := hrel
          have HENT := zH hent
          have HCT := zH hcm
          have HBT := zH hb
          clear hent hcm hb
          by_cases htl : t < T
          ·have hrl := HRL.out
           obtain rfl := HR.out.2.1 (by omega)
           have p0 := (HS.out.trans HCT.out.st).kc (HR.out.2.2 t (by omega))
           obtain ⟨q0, q1, q2, q3⟩ := cellsW HBT.out
           obtain ⟨x, hx⟩ : ∃ z, z = planF pl i t := ⟨_, rfl⟩
           rw [← hx] at p0
           have hixt : (0 : Int) ≤ (t : Int) ∧ (t : Int) < (ρl : Int) := by omega
           have HE := zH (show entOk h T pl i t = (decide (0 ≤ x ∧ x ≤ C) && decide (0 < x → t + D ≤ T)) by unfold entOk; rw [HU.out.2.2.2.2.1, HU.out.2.2.2.2.2, ← hx])
           have HX := zH hx
           have HBAD := zH (show entOk h T pl i t = false → poutB h T pl = false from fun he => by
            rw [HQ.out]
            exact outB_row hlt fun hr => by rw [(rowOk_iff.1 hr).2 t htl] at he; cases he)
           clear hx hrl
           go_wp2_with fail
           refine (gale.within_any _ _ _ _).mono ?_
           rintro e wz ⟨rfl, rfl⟩
           have hwb : withinB x 0 C = (decide (0 ≤ x) && decide (x ≤ C)) := rfl
           cases q0 : withinB x 0 C with
           | false =>
            have HV := zH (HBAD.out (by rw [HE.out, Bool.decide_and, ← hwb, q0]; rfl))
            clear q0 hwb
            go_wp2
            go_ret
            exact ⟨by rw [HV.out]; rfl, HS.out.trans HCT.out.st⟩
           | true =>
            have hx0 : 0 ≤ x ∧ x ≤ C := by rw [q0] at hwb; simpa using hwb.symm
            have hC1' := hC1
            have HE2 := zH (show entOk h T pl i t = decide (0 < x → t + D ≤ T) by rw [HE.out, decide_eq_true hx0]; rfl)
            obtain ⟨K, hK⟩ : ∃ z, z = t + D := ⟨_, rfl⟩
            have hw1 : IntKind.i64.wrap ((t : Int) + (D : Int)) = (K : Int) := by rw [IntKind.wrap_i64] <;> omega
            rw [← hK] at HE2
            have HK := zH hK
            clear q0 hwb hK hC1'
            by_cases hpos : 0 < x
            ·have d1 : decide (0 < x) = true := decide_eq_true hpos
             by_cases hle : K ≤ T
             ·have d2 : decide (T < K) = false := decide_eq_false (by omega)
              have d3 : decide ((T : Int) < (K : Int)) = false := decide_eq_false (by omega)
              have HE3 := zH (show entOk h T pl i t = true by rw [HE2.out]; simp [hle])
              go_upto_region 20 with (fail)
              have hKc := HCT.out.cell (show K < N by have := HN1.out; omega)
              have hRn := HCT.out.rows K (by have := HN1.out; omega)
              have hV1 := hRn.cell hVn
              have hixK : (0 : Int) ≤ (K : Int) ∧ (K : Int) < (N : Int) := by have := HN1.out; omega
              have hixV : (0 : Int) ≤ (V : Int) ∧ (V : Int) < (h.people.length : Int) := by omega
              have hbnd : ∀ j u, j < i → u < (netOf h T).T → 0 ≤ planF pl j u ∧ planF pl j u ≤ 1000 := fun j u hj hu => by
               have h1 := (rowOk_iff.1 (HROW.out j hj)).2 u hu
               simp only [entOk, Bool.and_eq_true, decide_eq_true_eq] at h1
               have h2 := (HO.out.way j (by omega)).2.2.2.1
               rw [wyAt_at (by omega)] at h1
               omega
              have hbn2 : ∀ u, u < t → 0 ≤ planF pl i u ∧ planF pl i u ≤ 1000 := fun u hu => by
               have h1 := HENT.out u hu
               simp only [entOk, Bool.and_eq_true, decide_eq_true_eq] at h1
               rw [HU.out.2.2.2.2.1] at h1
               omega
              have hc1 := (netOf h T).come_in hbnd V K
              have hc2 := (netOf h T).arrT_in hbn2 V K
              obtain ⟨f0, hf0⟩ : ∃ z, z = (netOf h T).come (planF pl) V K i + (netOf h T).arrT (planF pl) V K i t := ⟨_, rfl⟩
              rw [← hf0] at hV1
              have hwf : IntKind.i64.wrap (f0 + x) = f0 + x := by rw [IntKind.wrap_i64]; omega
              have HF0 := zH hf0
              clear hRn hbnd hbn2 hc1 hc2 hf0
              refine wp_region_seq (kdOf [] []) [0, 0, 0, 4, 14, 31, 63, 0, 128, 511, 1023, 0, 4095, 8191, 16383] [0, 1, 2, 3, 4, 5, 6, 7, 8, 9, 10, 11, 12, 13] [14] (by kernel_rfl) (by kernel_rfl) (fun i T z hi hk => by simp [kdOf] at hk <;> (try (split at hk <;> cases hk))) ?_
              intro Wx hWx
              have HT9 := zH hWx
              clear hWx
              have q1 := HT9.out.kc q1
              have q3 := HT9.out.kc q3
              have hKc := HT9.out.kc hKc
              have hV1 := HT9.out.kc hV1
              repeat ((first | (refine run_off rfl rfl (by rfl) ?_) | (refine run_chain_off rfl rfl (by rfl) (K0_mono _) ?_) | ((refine run_want rfl rfl (by rfl) ⟨?_, fun W hW => ?_, ?_⟩; rotate_left; (· (have d0 := hW.kc q1; have d1 := hW.kc q3; have d2 := hW.kc hKc; have d3 := hW.kc hV1; go_simp; (try with_reducible rfl)))))); (try simp only [Act.put, zA, zB, zC]))
              refine run_end (L := [_]) rfl (fun W6 hW6 => ?_)
              have HC6 := zH (HCT.out.step (HT9.out.trans hW6))
              have HB6 := zH (HBT.out.step (HT9.out.trans hW6))
              clear hW6 HT9 hKc hV1 q0 q1 q2 q3 p0
              have hRn := HC6.out.rows K (by have := HN1.out; omega)
              have zc := hRn.cell hVn
              have zz := hRn.frozen V
              have zl := hRn.lt
              clear hRn
              go_wp2
              go_roundw
              case rel =>
               refine ⟨t + 1, by omega, by go_num, fun u hu => ?_, (HC6.out.set (show K < N by have := HN1.out; omega) V (f0 + x)).congr fun k hk s hs => ?_, HB6.out.setOther ?_⟩
               ·by_cases e : u = t
                ·rw [e]; exact HE3.out
                ·exact HENT.out u (by omega)
               ·rw [Net.arrT_next, ← HU.out.2.1, ← HU.out.2.2.1, ← HK.out, ← HX.out]
                by_cases e : k = K ∧ s = V
                ·rw [if_pos e, if_pos ⟨e.2.symm, e.1⟩, e.1, e.2, HF0.out, Int.add_assoc]
                ·rw [if_neg e, if_neg fun e' => e ⟨e'.2, e'.1.symm⟩]
               ·obtain ⟨cs, h1, _⟩ := HC6.out.rows K (by have := HN1.out; omega)
                exact bx_ne HB6.out h1 (by decide)
              case measure => simp [intOf]; omega
             ·have d2 : decide (T < K) = true := decide_eq_true (by omega)
              have d3 : decide ((T : Int) < (K : Int)) = true := decide_eq_true (by omega)
              have HV := zH (HBAD.out (by rw [HE2.out]; simp [hpos, hle]))
              go_wp2
              go_ret
              exact ⟨by rw [HV.out]; rfl, HS.out.trans HCT.out.st⟩
            ·have d1 : decide (0 < x) = false := decide_eq_false hpos
             have HE3 := zH (show entOk h T pl i t = true by rw [HE2.out]; simp [hpos])
             go_wp2
             go_roundw
             case rel =>
              refine ⟨t + 1, by omega, by go_num, fun u hu => ?_, HCT.out.congr fun k hk s hs => ?_, HBT.out⟩
              ·by_cases e : u = t
               ·rw [e]; exact HE3.out
               ·exact HENT.out u (by omega)
              ·rw [Net.arrT_next, ← HX.out]
               split <;> omega
             case measure => simp [intOf]; omega
          ·have htz : T = t := by omega
           subst htz
           have HRI := zH (rowOk_iff.2 ⟨HR.out.1.trans HRL.out, HENT.out⟩)
           have hrl := HRL.out
           have hnl : ¬ T < ρl := by omega
           clear hrl
           go_wp2
           go_roundw
           case rel =>
            refine ⟨i + 1, by omega, by go_num, fun j hj => ?_, HCT.out.congr fun k _ s _ => Net.arrT_end _ _ _ _⟩
            by_cases e : j = i
            ·rw [e]; exact HRI.out
            ·exact HROW.out j (by omega)
           case measure => simp [intOf]; omega
       ·have hkz : h.ways.length = i := by omega
        subst hkz
        have HP := zH (show ∀ i t, i < (netOf h T).W → t < (netOf h T).T → 0 ≤ planF pl i t ∧ planF pl i t ≤ 1000 from fun j u hj hu => by
         have h1 := (rowOk_iff.1 (HROW.out j hj)).2 u hu
         simp only [entOk, Bool.and_eq_true, decide_eq_true_eq] at h1
         have h2 := (HO.out.way j hj).2.2.2.1
         rw [wyAt_at hj] at h1
         omega)
        have ok := netOf_ok HO.out T
        have HD := zH (And.intro ok.d0 (show ∀ s, s < h.people.length → 0 ≤ (netOf h T).pe s ∧ (netOf h T).pe s ≤ 5000 from fun s hs => by
         have h1 := HO.out.pe s hs
         have h2 : (netOf h T).pe s = h.people[s] := by show h.people.getD s 0 = _; simp [List.getD_eq_getElem?_getD, hs]
         rw [h2]; exact h1))
        have e0 := (HB.out.step HCM.out.st).cell 0
        simp only [List.getElem?_cons_zero] at e0
        have hp10 : h.people.length ≤ 1000000 := by omega
        have hcall := zH (clone_hints (fun _ => False) h.people _ wr (H0.out.keep (.of_step (HS.out.trans HCM.out.st))) hp10)
        clear hlt hi ok HC0
        go_wp2_with fail
        refine hcall.out.mono ?_
        rintro e wc ⟨vt, rfl, hown, hSc⟩
        obtain ⟨gt, ct, rfl, hct, hgt, hnt⟩ := own_nums hown (by have := HO.out.n2; omega)
        have HC1 := zH (HCM.out.step hSc)
        have HNT := zH hnt
        have HGT := zH (show (gt ≠ cb ∧ ∀ k, k < N → gt ≠ rb k) ∧ W0.heap.size ≤ gt from by
         refine ⟨⟨fun e => ?_, fun k hk e => ?_⟩, Nat.le_trans HCM.out.st.size hgt⟩
         ·obtain ⟨cs, h1, _⟩ := HCM.out.bx
          have := h1.lt; omega
         ·have := (HCM.out.rows k hk).lt; omega)
        have HCT := zH hct
        clear hcall hown hSc hct hgt hnt e0 HCM
        go_wp2
        go_loopw [116] (fun s116 wr => ∃ t : Nat, t ≤ N ∧ s116 = .int .i64 t ∧ (∀ k, k < t → thereOk h T pl k = true) ∧ CM W0 cb N h.people.length rb N (fun k s => (netOf h T).come (planF pl) s k h.ways.length) wr ∧ Nums wr gt 3 h.people.length (fun s => (netOf h T).bef (netOf h T).pe (planF pl) s t)) (fun s116 _ => N - (intOf s116).toNat)
        case atStart => exact ⟨0, Nat.zero_le _, rfl, (fun k hk => by omega), HC1.out, HNT.out⟩
        case round =>
         obtain ⟨t, ht, rfl, hth, hcm, hnt⟩ := hrel
         have HTH := zH hth
         have HC2 := zH hcm
         have HN2 := zH hnt
         clear hth hcm hnt HC1 HNT
         by_cases htl : t < N
         ·have hcc := HC2.out.cell htl
          have hixt : (0 : Int) ≤ (t : Int) ∧ (t : Int) < (N : Int) := by omega
          go_wp2
          clear hcc
          go_loopw [124] (fun s124 wr => ∃ j : Nat, j ≤ h.people.length ∧ s124 = .int .i64 j ∧ CM W0 cb N h.people.length rb N (fun k s => (netOf h T).come (planF pl) s k h.ways.length) wr ∧ Nums wr gt 3 h.people.length (fun s => if s < j then (netOf h T).bef (netOf h T).pe (planF pl) s t + (netOf h T).come (planF pl) s t h.ways.length else (netOf h T).bef (netOf h T).pe (planF pl) s t)) (fun s124 _ => h.people.length - (intOf s124).toNat)
          case atStart => exact ⟨0, Nat.zero_le _, rfl, HC2.out, HN2.out.congr fun s _ => by simp⟩
          case round =>
           obtain ⟨j, hj, rfl, hcm, hnt⟩ := hrel
           have HC3 := zH hcm
           have HN3 := zH hnt
           clear hcm hnt
           by_cases hjl : j < h.people.length
           ·have r0 := (HC3.out.rows t htl).cell hjl
            have t0 := HN3.out.cell hjl
            have tz := HN3.out.frozen j
            have tl := HN3.out.lt
            rw [if_neg (Nat.lt_irrefl j)] at t0
            have hb1 := Net.bef_le HP.out HD.out.1 j (HD.out.2 j hjl) hw20 t
            have hb2 := Net.come_le HP.out j t (Nat.le_refl _)
            have hWl : (netOf h T).W = h.ways.length := rfl
            rw [hWl] at hb2
            obtain ⟨x0, hx0⟩ : ∃ z, z = (netOf h T).bef (netOf h T).pe (planF pl) j t := ⟨_, rfl⟩
            obtain ⟨x1, hx1⟩ : ∃ z, z = (netOf h T).come (planF pl) j t h.ways.length := ⟨_, rfl⟩
            rw [← hx0] at t0 hb1
            rw [← hx1] at r0 hb2
            have hwx : IntKind.i64.wrap (x0 + x1) = x0 + x1 := by rw [IntKind.wrap_i64]; omega
            have hixj : (0 : Int) ≤ (j : Int) ∧ (j : Int) < (h.people.length : Int) := by omega
            have HX := zH (And.intro hx0 hx1)
            clear hb1 hb2 hWl hx0 hx1
            go_wp2
            go_roundw
            case rel =>
             refine ⟨j + 1, by omega, by go_num, HC3.out.other HGT.out.2 HGT.out.1.1 HGT.out.1.2 _ _, (HN3.out.set (t := j) (x0 + x1)).congr fun s hs => ?_⟩
             by_cases e : s = j
             ·rw [if_pos e, if_pos (by omega), e, HX.out.1, HX.out.2]
             ·rw [if_neg e]
              by_cases e2 : s < j
              ·rw [if_pos e2, if_pos (by omega)]
              ·rw [if_neg e2, if_neg (by omega)]
            case measure => simp [intOf]; omega
           ·have hjz : h.people.length = j := by omega
            subst hjz
            have e1 := (HB.out.step HC3.out.st).cell 1
            simp only [zD, zE] at e1
            have HN4 := zH (HN3.out.congr (ψ := fun s => (netOf h T).mid2 (netOf h T).pe (planF pl) s t 0) fun s hs => by rw [if_pos (by omega), Net.mid2_zero]; rfl)
            clear HN3
            go_wp2
            clear e1
            go_loopw [140] (fun s140 wr => ∃ i : Nat, i ≤ h.ways.length ∧ s140 = .int .i64 i ∧ CM W0 cb N h.people.length rb N (fun k s => (netOf h T).come (planF pl) s k h.ways.length) wr ∧ Nums wr gt 3 h.people.length (fun s => (netOf h T).mid2 (netOf h T).pe (planF pl) s t i)) (fun s140 _ => h.ways.length - (intOf s140).toNat)
            case atStart => exact ⟨0, Nat.zero_le _, rfl, HC3.out, HN4.out⟩
            case round =>
             obtain ⟨i, hi, rfl, hcm, hnt⟩ := hrel
             have HC5 := zH hcm
             have HN5 := zH hnt
             clear hcm hnt HN4
             by_cases hil : i < h.ways.length
             ·obtain rfl := HPW.out.1 (by omega)
              obtain ⟨y0, y1, y2, y3⟩ := HPW.out.2 i hil
              obtain ⟨wa, wb, wc, wd⟩ := way_conds HO.out T hil
              have hwy := HO.out.way i hil
              rw [← wa] at y0 hwy
              obtain ⟨U, hU⟩ : ∃ z, z = (netOf h T).u i := ⟨_, rfl⟩
              rw [← hU] at y0 hwy
              have hst := HS.out.trans HC5.out.st
              have y0 := hst.kc y0
              have y1 := hst.kc y1
              have y2 := hst.kc y2
              have y3 := hst.kc y3
              have hUn : U < h.people.length := by omega
              have HU := zH hU
              have hix : (0 : Int) ≤ (i : Int) ∧ (i : Int) < (h.ways.length : Int) := by omega
              clear wa wb wc wd hwy hU hst
              go_upto_region 35 with (fail)
              clear y0 y1 y2 y3
              obtain ⟨W8, hW8⟩ : ∃ z, z = wr.alloc (.cells #[.int .i64 U, .int .i64 h.ways[i].dst, .int .i64 h.ways[i].cap, .int .i64 h.ways[i].mins] 108) := ⟨_, rfl⟩
              obtain ⟨g8, hg8⟩ : ∃ z, z = wr.heap.size := ⟨_, rfl⟩
              rw [← hW8, ← hg8]
              have hb8 : Bx W8 g8 [.int .i64 U, .int .i64 h.ways[i].dst, .int .i64 h.ways[i].cap, .int .i64 h.ways[i].mins] 108 := by subst hW8 hg8; exact Bx.new _ [_, _, _, _] _
              have hS8 : Step wr W8 := by subst hW8; exact Step.alloc _ _
              have q0 := (cellsW hb8).1
              have HC8 := zH (HC5.out.step hS8)
              have HN8 := zH (HN5.out.row (hS8.block gt HN5.out.lt id))
              clear hb8 hS8 hW8 hg8 HC5 HN5
              by_cases htT : t < T
              ·have dT : decide ((t : Int) < (T : Int)) = true := decide_eq_true (by omega)
               have dT' : decide (t < T) = true := decide_eq_true htT
               have hpl : i < pl.length := by have := HL.out; omega
               obtain rfl := HPC.out.1 (by omega)
               obtain ⟨ur, hcr, hur⟩ := HPC.out.2 i hpl
               obtain ⟨pr, kr, br, or_, rfl, _, _, hpr, hcr2, _⟩ := hur.ints
               have hrl : pl[i].length = T := by
                have h1 := (rowOk_iff.1 (HROW.out i hil)).1
                rw [List.getD_eq_getElem?_getD, List.getElem?_eq_getElem hpl, Option.getD_some] at h1
                exact h1
               obtain rfl := hpr (by omega)
               have hst := HS.out.trans HC8.out.st
               have hcr := hst.kc hcr
               have p0 := hst.kc (hcr2 t (by omega))
               have hpf : planF pl i t = pl[i][t]'(by omega) := by simp [planF, List.getD_eq_getElem?_getD, hpl, show t < pl[i].length by omega]
               obtain ⟨x, hx⟩ : ∃ z, z = planF pl i t := ⟨_, rfl⟩
               rw [← hpf, ← hx] at p0
               rw [hrl] at hcr
               have t0 := HN8.out.cell hUn
               have hb1 := Net.mid2_le HP.out HD.out.1 U (HD.out.2 U hUn) hw20 t i hi
               have hb2 := HP.out i t hil htT
               rw [← hx] at hb2
               obtain ⟨x0, hx0⟩ : ∃ z, z = (netOf h T).mid2 (netOf h T).pe (planF pl) U t i := ⟨_, rfl⟩
               rw [← hx0] at t0 hb1
               have hwx : IntKind.i64.wrap (x0 - x) = x0 - x := by rw [IntKind.wrap_i64]; omega
               have HX := zH (And.intro hx hx0)
               have hixp : (0 : Int) ≤ (i : Int) ∧ (i : Int) < (pl.length : Int) := by omega
               have hixT : (0 : Int) ≤ (t : Int) ∧ (t : Int) < (T : Int) := by omega
               have hixU : (0 : Int) ≤ (U : Int) ∧ (U : Int) < (h.people.length : Int) := by omega
               clear hur hpr hcr2 hrl hst hpf hx hx0 hb1 hb2
               go_upto_region 36 with (fail)
               refine wp_region_seq (kdOf [] []) [0, 0, 2, 7, 15, 0, 0, 96, 224, 0, 992, 2016, 4095, 8191, 16383] [0, 1, 2, 3, 4, 5, 6, 7, 8, 9, 10, 11, 12, 13] [14] (by kernel_rfl) (by kernel_rfl) (fun i T z hi hk => by simp [kdOf] at hk <;> (try (split at hk <;> cases hk))) ?_
               intro Wx hWx
               have HT9 := zH hWx
               clear hWx
               have q0 := HT9.out.kc q0
               have hcr := HT9.out.kc hcr
               have p0 := HT9.out.kc p0
               have t0 := HT9.out.kc t0
               repeat ((first | (refine run_off rfl rfl (by rfl) ?_) | (refine run_chain_off rfl rfl (by rfl) (K0_mono _) ?_) | ((refine run_want rfl rfl (by rfl) ⟨?_, fun W hW => ?_, ?_⟩; rotate_left; (· (have d0 := hW.kc q0; have d1 := hW.kc hcr; have d2 := hW.kc p0; have d3 := hW.kc t0; go_simp; (try with_reducible rfl)))))); (try simp only [Act.put, zA, zB, zC]))
               refine run_end (L := [_]) rfl (fun W6 hW6 => ?_)
               have HC6 := zH (HC8.out.step (HT9.out.trans hW6))
               have HN6 := zH (HN8.out.row ((HT9.out.trans hW6).block gt HN8.out.lt id))
               clear hW6 HT9 hcr p0 t0 q0
               have zc := HN6.out.cell hUn
               have zz := HN6.out.frozen U
               have zl := HN6.out.lt
               go_wp2
               go_roundw
               case rel =>
                refine ⟨i + 1, by omega, by go_num, HC6.out.other HGT.out.2 HGT.out.1.1 HGT.out.1.2 _ _, (HN6.out.set (t := U) (x0 - x)).congr fun s hs => ?_⟩
                rw [Net.mid2_next]
                unfold Net.dep
                rw [← HU.out]
                by_cases e : s = U
                ·rw [if_pos e, if_pos ⟨e.symm, htT⟩, e, HX.out.1, HX.out.2]
                ·rw [if_neg e, if_neg fun e' => e e'.1.symm, Int.sub_zero]
               case measure => simp [intOf]; omega
              ·have dT : decide ((t : Int) < (T : Int)) = false := decide_eq_false (by omega)
               have dT' : decide (t < T) = false := decide_eq_false htT
               go_wp2
               go_roundw
               case rel =>
                refine ⟨i + 1, by omega, by go_num, HC8.out, HN8.out.congr fun s hs => ?_⟩
                rw [Net.mid2_next]
                unfold Net.dep
                rw [if_neg fun e' => htT e'.2, Int.sub_zero]
               case measure => simp [intOf]; omega
             ·have hiz : h.ways.length = i := by omega
              subst hiz
              have HF := zH (show ∀ s, (netOf h T).mid2 (netOf h T).pe (planF pl) s t h.ways.length = (netOf h T).F (netOf h T).pe (planF pl) s t from fun s => Net.mid2_all HD.out.1 _ _ s t)
              have hn2 := HO.out.n2
              obtain ⟨L, hL⟩ : ∃ z, z = (List.range h.people.length).map (fun s => (netOf h T).mid2 (netOf h T).pe (planF pl) s t h.ways.length) := ⟨_, rfl⟩
              have hsl := Nums.sl (S := fun _ => False) HN5.out id ct HCT.out (by omega)
              rw [← hL] at hsl
              have hL0 : 0 < L.length := by rw [hL]; simp; omega
              have hneg : minI L < 0 ↔ ¬ thereOk h T pl t = true := by
               rw [minI_neg hL0, hL]
               unfold thereOk
               simp only [List.mem_map, List.mem_range, List.all_eq_true, decide_eq_true_eq]
               constructor
               ·rintro ⟨y, ⟨s, hs, rfl⟩, hy⟩ hall
                rw [HF.out s] at hy
                have := hall s hs
                omega
               ·intro hn
                refine Classical.byContradiction fun hc => hn fun s hs => ?_
                by_cases q : 0 ≤ (netOf h T).F (netOf h T).pe (planF pl) s t
                ·exact q
                ·exact (hc ⟨_, ⟨s, hs, rfl⟩, by rw [HF.out s]; omega⟩).elim
              have HNEG := zH hneg
              have hcall := zH (Min_any L _ wr hsl hL0)
              clear hneg hsl hL hL0 hn2 hil
              go_wp2_with fail
              refine hcall.out.mono ?_
              rintro e w9 ⟨rfl, hS9⟩
              have HC9 := zH (HC5.out.step hS9)
              have HN9 := zH (HN5.out.row (hS9.block gt HN5.out.lt id))
              clear hcall hS9 HN5 HC5
              by_cases hq : minI L < 0
              ·have dq : decide (minI L < 0) = true := decide_eq_true hq
               have HV := zH (outB_there (T := T) (by have := HN1.out; omega) (HNEG.out.1 hq))
               clear hq
               go_wp2
               go_ret
               exact ⟨by rw [HQ.out, HV.out]; rfl, HS.out.trans HC9.out.st⟩
              ·have dq : decide (minI L < 0) = false := decide_eq_false hq
               have HV := zH (show thereOk h T pl t = true from Classical.byContradiction fun hc => hq (HNEG.out.2 hc))
               clear hq
               go_wp2
               go_roundw
               case rel =>
                refine ⟨t + 1, by omega, by go_num, fun k hk => ?_, HC9.out, HN9.out.congr fun s hs => HF.out s⟩
                by_cases e : k = t
                ·rw [e]; exact HV.out
                ·exact HTH.out k (by omega)
               case measure => simp [intOf]; omega
         ·have htz : N = t := by omega
          subst htz
          have hn2 := HO.out.n2
          have HE := zH (outB_end (T := T) HL.out HROW.out fun k hk => HTH.out k (by have := HN1.out; omega))
          have hF : (netOf h T).bef (netOf h T).pe (planF pl) 0 N = (netOf h T).F (netOf h T).pe (planF pl) 0 T := by rw [HN1.out]; rfl
          have hn0 : 0 < h.people.length := by omega
          have t0 := HN2.out.cell hn0
          rw [hF] at t0
          obtain ⟨f0, hf0⟩ : ∃ z, z = (netOf h T).F (netOf h T).pe (planF pl) 0 T := ⟨_, rfl⟩
          rw [← hf0] at t0 HE
          have e0 := (HB.out.step HC2.out.st).cell 0
          have e1 := (HB.out.step HC2.out.st).cell 1
          simp only [zD, zE] at e0 e1
          have hx0 : (0 : Int) ≤ 0 ∧ (0 : Int) < (h.people.length : Int) := by omega
          clear hF hf0 htl ht
          go_upto_region 41 with (fail)
          refine wp_region_seq (kdOf [4] []) [0, 1, 3, 0, 8, 31, 63] [0, 1, 2, 3, 4, 5, 6] [] (by kernel_rfl) (by kernel_rfl) (fun i T z hi hk => by simp [kdOf] at hk <;> (try (split at hk <;> cases hk))) ?_
          intro Wx hWx
          have HT := zH hWx
          clear hWx
          have e0 := HT.out.kc e0
          have e1 := HT.out.kc e1
          have t0 := HT.out.kc t0
          repeat ((first | (refine run_off rfl rfl (by rfl) ?_) | (refine run_chain_off rfl rfl (by rfl) (K0_mono _) ?_) | ((refine run_want rfl rfl (by rfl) ⟨?_, fun W hW => ?_, ?_⟩; rotate_left; (· (have d0 := hW.kc e0; have d1 := hW.kc e1; have d2 := hW.kc t0; go_simp; (try with_reducible rfl)))))); (try simp only [Act.put, zA, zB, zC]))
          clear e0 e1 t0
          refine run_chain rfl rfl (by rfl) (fun Wi hWi K' hK => ?_)
          have HTi := zH (HT.out.trans hWi)
          clear hWi HT
          go_simp
          refine (hall_all (fun _ => False) h _ Wi (HAV.out Wi (HC2.out.st.trans HTi.out)) HO.out).mono ?_
          rintro e wn ⟨rfl, hSn⟩
          have HT := zH (HTi.out.trans hSn)
          refine hK _ _ (StepX.of hSn) ?_
          clear hSn HTi hK
          (try simp only [Act.put, zA, zB, zC])
          repeat ((first | (refine run_off rfl rfl (by rfl) ?_) | (refine run_chain_off rfl rfl (by rfl) (K0_mono _) ?_) | ((refine run_want rfl rfl (by rfl) ⟨?_, fun W hW => ?_, ?_⟩; rotate_left; (· (skip; go_simp; (try with_reducible rfl)))))); (try simp only [Act.put, zA, zB, zC]))
          refine run_end (L := []) rfl (fun W6 hW6 => ?_)
          have HT6 := zH ((HC2.out.st.trans HT.out).trans hW6)
          clear hW6 HT
          go_wp2
          go_ret
          refine ⟨?_, HS.out.trans HT6.out⟩
          rw [HQ.out, HE.out]
          first | rfl | simp [Bool.beq_eq_decide_eq]
end Go.Proofs.Ytfhmdpicoccnfaa
namespace Go.BT
def calmN : ByteArray := ⟨#[99, 97, 108, 109]⟩
def stormN : ByteArray := ⟨#[115, 116, 111, 114, 109]⟩
def toldF : List Fc := [⟨calmN, [⟨10, 30⟩, ⟨20, 40⟩]⟩, ⟨stormN, [⟨25, 60⟩, ⟨50, 90⟩]⟩]
def fieldS : Site := ⟨[⟨100, 0⟩, ⟨-100, 0⟩, ⟨0, 100⟩, ⟨0, -100⟩], [⟨30, 4⟩, ⟨60, 7⟩, ⟨90, 10⟩], [⟨100, 30⟩, ⟨50, 20⟩, ⟨0, 0⟩], 0⟩
theorem told_ok : forecastsC toldF = 0 := by
 have h1 : fewFB toldF = true := by decide
 have h2 : toldF.all (evenFB toldF) = true := by decide
 have h3 : (toldF.all fun f => nameB f.name) = true := by decide
 have h4 : (namesOf toldF).Nodup := by
  have : calmN ≠ stormN := fun e => by
   have := congrArg (fun b => b.data.size) e
   revert this; decide
  simp [namesOf, toldF, this]
 unfold forecastsC
 rw [if_pos h1, if_pos h2, if_pos h3, if_pos h4]
theorem told_worst : worstC toldF [⟨0, 20, 24⟩] = 0 ∧ worstR toldF [⟨0, 20, 24⟩] = [30, 40] := by
 have h1 : readC toldF [⟨0, 20, 24⟩] = 0 := by
  unfold readC; rw [if_pos told_ok]; decide
 have h2 : leftN toldF [⟨0, 20, 24⟩] toldF.length = [0] := by decide
 have h3 : worstC toldF [⟨0, 20, 24⟩] = 0 := by
  unfold worstC; rw [if_pos h1, h2]; decide
 refine ⟨h3, ?_⟩
 unfold worstR
 rw [if_pos h3, h2]; decide
theorem field_ok : siteB fieldS = true := by decide
end Go.BT
namespace Go.BT
theorem limited_parts {s : Site} {l : List Int} (h : limitedB s l = true) : l.length = s.stages.length ∧ (l.all fun n => withinB n (-1) 1000) = true ∧ (∀ j (hj : j + 1 < l.length), l[j] ≤ l[j + 1]) ∧ l.getD (l.length - 1) 0 = 1000 := by
 simp only [limitedB, Bool.and_eq_true, decide_eq_true_eq] at h
 refine ⟨h.1.1.1, h.1.1.2, fun j hj => ?_, h.2⟩
 have := List.all_eq_true.1 h.1.2 j (List.mem_range.2 (by omega))
 simp only [decide_eq_true_eq, List.getD_eq_getElem?_getD, List.getElem?_eq_getElem (show j < l.length by omega), List.getElem?_eq_getElem hj, Option.getD_some] at this
 exact this
theorem minutes_ok {s : Site} (hs : SiteOk s) {i : Nat} (hi : i < s.stages.length) : minutesAt s i = s.stages[i].minutes ∧ 0 ≤ s.stages[i].minutes ∧ s.stages[i].minutes ≤ 240 := by
 refine ⟨by unfold minutesAt; rw [List.getElem?_eq_getElem hi], ?_⟩
 by_cases e : i + 1 < s.stages.length
 ·have := hs.st i e; omega
 ·have h := hs.last
  rw [show s.stages.length - 1 = i by omega, List.getElem?_eq_getElem hi] at h
  rw [Option.some.inj h]; decide
theorem plan_next {s : Site} {limits worst : List Int} {out : Int} (hs : SiteOk s) : ∀ (k : Nat) (_ : k ≤ s.stages.length) (st : PlanS), planTo s limits worst out k = some st → (0 ≤ st.next ∧ st.next ≤ 2880) ∧ st.begin_.length = s.stages.length
 | 0, _, st, h => by
  unfold planTo at h
  obtain rfl := Option.some.inj h
  simp
 | k + 1, hk, st, h => by
  unfold planTo at h
  cases hp : planTo s limits worst out k with
  | none => rw [hp] at h; simp at h
  | some st0 =>
   rw [hp] at h
   have ih := plan_next hs k (by omega) st0 hp
   simp only [planStep] at h
   cases hd : deadI worst (limits.getD (s.stages.length - 1 - k) 0) with
   | none => rw [hd] at h; obtain rfl := Option.some.inj h; exact ih
   | some d =>
    rw [hd] at h
    simp only at h
    split at h
    ·simp at h
    ·rename_i hn
     obtain rfl := Option.some.inj h
     have h1 : ¬ leftAt s st0 (s.stages.length - 1 - k) d < 0 := fun q => hn (.inl q)
     have h2 := minutes_ok hs (show s.stages.length - 1 - k < s.stages.length by omega)
     refine ⟨?_, by simpa using ih.2⟩
     simp only [leftAt] at h1 ⊢
     omega
end Go.BT
namespace Go.Proofs.Ytfhmdpicoccnfaa
set_option linter.unusedSimpArgs false
set_option linter.unusedVariables false
open Go.RowKit Go.BT
theorem dead_idx (worst : List Int) (lim : Int) : idxOf (fun n => decide (lim < n)) worst = match deadI worst lim with | some h => (h : Int) | none => -1 := rfl
theorem limited_ok (s : Site) (l : List Int) (u v : Value) (w : World) (hu : AV (fun _ => False) w u s) (hv : SL (fun _ => False) w v l) (h : limitedB s l = true) (hn : 1 ≤ s.stages.length) : Calls Try.prog 64 #[u, v] w fun e w' => e = .returned (.bool true) ∧ Step w w' := by
 obtain ⟨a1, a2, a3, a4⟩ := limited_parts h
 have hm := hv.len
 obtain ⟨c0, c1, c2, rfl, q0, q1, q2⟩ := hu.site
 obtain ⟨p1, k1, rfl⟩ := q1.form
 obtain ⟨p2, k2, rfl⟩ := q2.form
 obtain ⟨p0, k0, rfl⟩ := q0.form
 obtain ⟨W0, hW0⟩ : ∃ W, W = w.alloc (.cells #[.slice p0 s.base.length k0, .slice p1 s.levels.length k1, .slice p2 s.stages.length k2, .int .i64 s.openS] 63) := ⟨_, rfl⟩
 have hbx : Bx W0 w.heap.size [.slice p0 s.base.length k0, .slice p1 s.levels.length k1, .slice p2 s.stages.length k2, .int .i64 s.openS] 63 := by subst hW0; exact Bx.new w [_, _, _, _] _
 have hS : Step w W0 := by subst hW0; exact Step.alloc _ _
 have hv0 := SL.go hv hS
 obtain ⟨pv, cv, bv, ov, rfl, _, _, hp, hc, _⟩ := hv0.ints
 obtain rfl := hp (by omega)
 have HW := zH hW0
 have HS := zH hS
 have HV := zH hv0
 have HA := zH (And.intro a2 a3)
 have HT := zH (Step.refl W0)
 have HLN := zH (show 1 ≤ l.length by omega)
 have hlast : l[l.length - 1]'(by omega) = 1000 := by
  rw [List.getD_eq_getElem?_getD, List.getElem?_eq_getElem (by omega)] at a4
  exact a4
 have HE := zH (show W0.cell? ⟨bv, ov + (l.length - 1), none⟩ = some (.int .i64 1000) by rw [hc (l.length - 1) (by omega), hlast])
 have hq : ((l.length : Int) == (s.stages.length : Int)) = true := by rw [a1]; simp
 have g2 := hbx.cell 2
 simp only [zD, zE] at g2
 have hw1 : IntKind.i64.wrap ((l.length : Int) - 1) = (l.length : Int) - 1 := by rw [IntKind.wrap_i64]; omega
 have hx2 : (0 : Int) ≤ (l.length : Int) - 1 ∧ (l.length : Int) - 1 < (l.length : Int) := by omega
 have htn : ((l.length : Int) - 1).toNat = l.length - 1 := by omega
 have h1s : (1 : Int) ≤ (l.length : Int) := by omega
 have h1n : 1 ≤ l.length := by omega
 clear hW0 hbx hS hu hv q0 q1 q2 hv0 hp hc hlast a1 a2 a3 a4 h hn
 go_enter Try.func64, Try.ntmps64
 go_wp2_with fail
 rw [← HW.out]
 refine (all_lim1 l _ _ (SL.go HV.out HT.out)).mono ?_
 rintro e wn ⟨rfl, hSn⟩
 rw [HA.out.1]
 have HTi := zH (HT.out.trans hSn)
 clear HT hSn g2
 have HT := HTi
 clear HTi
 go_wp2_with fail
 refine (IsSorted_ok l _ _ (SL.go HV.out HT.out) HLN.out HA.out.2).mono ?_
 rintro e wm ⟨rfl, hSn⟩
 have HTi := zH (HT.out.trans hSn)
 clear HT hSn
 have HT := HTi
 clear HTi
 have e0 := HT.out.kc HE.out
 go_wp2
 go_ret
 exact ⟨rfl, HS.out.trans HT.out⟩
theorem plan2_any (n lim : Int) (limits : List Int) (b c : Nat) (vl : Value) (i : Nat) (w : World) (hl : SL (fun _ => False) w vl limits) (hb : w.cell? ⟨b, 0, none⟩ = some vl) (hc : w.cell? ⟨c, 0, none⟩ = some (.int .i64 (i : Int))) (hi : i < limits.length) (hlim : lim = limits.getD i 0) :
  Calls Try.prog 68 #[.int .i64 n, .pointer (some ⟨b, 0, none⟩), .pointer (some ⟨c, 0, none⟩)] w fun e w' => e = .returned (.bool (decide (lim < n))) ∧ Step w w' := by
 obtain ⟨pv, cv, bv, ov, rfl, _, _, hp, hcc, _⟩ := hl.ints
 obtain rfl := hp (by omega)
 have e0 := hcc i hi
 have hL : limits[i] = lim := by rw [hlim, List.getD_eq_getElem?_getD, List.getElem?_eq_getElem hi]; rfl
 rw [hL] at e0
 have hix : (0 : Int) ≤ (i : Int) ∧ (i : Int) < (limits.length : Int) := by omega
 clear hp hcc hl hL hlim
 go_enter Try.func68, Try.ntmps68
 go_wp2
 go_ret
 exact ⟨rfl, (by with_reducible repeat (first | assumption | exact Step.refl _ | apply Step.s_alloc | apply Step.s_drew | apply Step.s_drewN | refine Step.trans ?_ (by assumption)))⟩
def layB (n k : Nat) : List Int := (List.range n).map fun i => if i < k then -1 else 0
theorem lay_len (n k : Nat) : (layB n k).length = n := by simp [layB]
theorem lay_start (n : Nat) : layB n 0 = List.replicate n 0 := by
 refine List.ext_getElem (by simp [layB]) fun i h1 h2 => ?_
 simp [layB]
theorem lay_end (n : Nat) : layB n n = List.replicate n (-1) := by
 refine List.ext_getElem (by simp [layB]) fun i h1 h2 => ?_
 have : i < n := by simpa [layB] using h1
 simp [layB, this]
theorem lay_set (n k : Nat) : (layB n k).set k (-1) = layB n (k + 1) := by
 refine List.ext_getElem (by simp [layB]) fun i h1 h2 => ?_
 rw [List.getElem_set]
 simp only [layB, List.getElem_map, List.getElem_range]
 by_cases e : k = i
 ·subst e; rw [if_pos rfl, if_pos (by omega)]
 ·rw [if_neg e]
  by_cases q : i < k
  ·rw [if_pos q, if_pos (by omega)]
  ·rw [if_neg q, if_neg (by omega)]
theorem plan_none {s : Site} {limits worst : List Int} {out : Int} {k : Nat} (h : planTo s limits worst out k = none) : ∀ m, k ≤ m → planTo s limits worst out m = none
 | 0, hm => by
  have : k = 0 := by omega
  subst this; exact h
 | m + 1, hm => by
  by_cases e : k = m + 1
  ·subst e; exact h
  ·rw [planTo, plan_none h m (by omega)]
theorem dead_lt {worst : List Int} {lim : Int} {d : Nat} (h : deadI worst lim = some d) : d < worst.length := by
 unfold deadI at h
 rw [List.findIdx?_eq_some_iff_getElem] at h
 exact h.1
def cellI (ip : Value) (w : World) : Int := match ip with
 | .pointer (some a) => intOf ((w.cell? a).getD undef)
 | _ => 0
theorem cellI_bx {c : Nat} {w : World} {n : Int} {T : TypeId} (h : Bx w c [.int .i64 n] T) : cellI (.pointer (some ⟨c, 0, none⟩)) w = n := by
 have := h.cell 0
 simp only [List.getElem?_cons_zero] at this
 simp [cellI, this, intOf]
theorem Plan_ok (s : Site) (limits worst : List Int) (now : Nat) (out : Int) (u v x : Value) (w : World) (hu : AV (fun _ => False) w u s) (hv : SL (fun _ => False) w v limits) (hx : SL (fun _ => False) w x worst) (hs : siteB s = true) (h1 : limitedB s limits = true) (h2 : windsB worst = true) (h3 : now < s.stages.length) (h4 : 0 ≤ out ∧ out ≤ 60) :
  Calls Try.prog 26 #[u, v, x, .int .i64 now, .int .i64 out] w fun e w' => ((planR s limits worst now out = none ∧ e = .returned (.tuple #[.slice none 0 0, .int .i64 0, .int .i64 11])) ∨ ∃ st v', planR s limits worst now out = some st ∧ e = .returned (.tuple #[v', .int .i64 st.call, .int .i64 0]) ∧ SL (fun _ => False) w' v' st.begin_) ∧ Step w w' := by
 obtain ⟨c0, c1, c2, rfl, q0, q1, q2⟩ := hu.site
 obtain ⟨p1, k1, rfl⟩ := q1.form
 obtain ⟨p2, k2, rfl⟩ := q2.form
 obtain ⟨p0, k0, rfl⟩ := q0.form
 have hok := site_ok hs
 obtain ⟨pv, cv, rfl⟩ := hv.form
 obtain ⟨px, cx, rfl⟩ := hx.form
 obtain ⟨W0, hW0⟩ : ∃ W, W = (w.alloc (.cells #[.slice p0 s.base.length k0, .slice p1 s.levels.length k1, .slice p2 s.stages.length k2, .int .i64 s.openS] 63)).alloc (.cells #[.slice pv limits.length cv] 26) := ⟨_, rfl⟩
 have hbx : Bx W0 w.heap.size [.slice p0 s.base.length k0, .slice p1 s.levels.length k1, .slice p2 s.stages.length k2, .int .i64 s.openS] 63 := by subst hW0; exact (Bx.new w [_, _, _, _] _).step (Step.alloc _ _)
 have hbl : Bx W0 (w.heap.size + 1) [.slice pv limits.length cv] 26 := by subst hW0; exact Bx.new' _ [_] _ _ (by simp)
 have hS : Step w W0 := by subst hW0; exact (by with_reducible repeat (first | assumption | exact Step.refl _ | apply Step.s_alloc | apply Step.s_drew | apply Step.s_drewN | refine Step.trans ?_ (by assumption)))
 have HW := zH hW0
 have HB := zH hbx
 have HBL := zH hbl
 have HS := zH hS
 have HV := zH (SL.go hv hS)
 have HX := zH (SL.go hx hS)
 have HAV := zH (AV.go hu hS)
 have HV2 := zH (SL.go q2 hS)
 have HOK := zH hok
 have HZ := zH (And.intro hs (And.intro h1 (And.intro h2 (And.intro h3 h4))))
 have HT := zH (Step.refl W0)
 have hwd : withinB (worst.length : Int) 1 48 = true ∧ (worst.all fun n => withinB n 0 1000) = true := by
  simp only [windsB, Bool.and_eq_true, decide_eq_true_eq] at h2
  exact ⟨by simp [withinB]; omega, h2.2⟩
 have HWD := zH hwd
 have HNW := zH (show withinB (now : Int) 0 ((s.stages.length : Int) - 1) = true by simp [withinB]; omega)
 have HOU := zH (show withinB out 0 60 = true by simp [withinB]; omega)
 have hnst := hok.nst
 have hwl : IntKind.i64.wrap ((s.stages.length : Int) - 1) = (s.stages.length : Int) - 1 := by rw [IntKind.wrap_i64]; omega
 clear hW0 hbx hbl hS hu hv hx q0 q1 q2 hok hs h1 h2 h3 h4 hwd
 go_enter Try.func26, Try.ntmps26
 go_upto_region 1 with (fail)
 rw [← HW.out]
 have g0 := (HB.out.step HT.out).cell 0
 have g1 := (HB.out.step HT.out).cell 1
 have g2 := (HB.out.step HT.out).cell 2
 have g3 := (HB.out.step HT.out).cell 3
 simp only [zD, zE] at g0 g1 g2 g3
 have hcall := zH (valid_ok s _ _ (AV.go HAV.out HT.out) HZ.out.1)
 go_wp2_with fail
 refine hcall.out.mono ?_
 clear hcall
 rintro e wn ⟨rfl, hSn⟩
 have HTi := zH (HT.out.trans hSn)
 clear hSn HT
 have HT := HTi
 clear HTi
 clear g0 g1 g2 g3
 have g0 := (HB.out.step HT.out).cell 0
 have g1 := (HB.out.step HT.out).cell 1
 have g2 := (HB.out.step HT.out).cell 2
 have g3 := (HB.out.step HT.out).cell 3
 have l0 := (HBL.out.step HT.out).cell 0
 simp only [zD, zE] at g0 g1 g2 g3 l0
 have hcall := zH (limited_ok s limits _ _ _ (AV.go HAV.out HT.out) (SL.go HV.out HT.out) HZ.out.2.1 (by have := HOK.out.nst; omega))
 go_wp2_with fail
 refine hcall.out.mono ?_
 clear hcall
 rintro e wn ⟨rfl, hSn⟩
 have HTi := zH (HT.out.trans hSn)
 clear hSn HT
 have HT := HTi
 clear HTi
 clear g0 g1 g2 g3 l0
 go_wp2_with fail
 refine (gale.within_any _ _ _ _).mono ?_
 rintro e wx ⟨rfl, rfl⟩
 rw [HWD.out.1]
 have hcall := zH (all_plan1 worst _ _ (SL.go HX.out HT.out))
 go_wp2_with fail
 refine hcall.out.mono ?_
 clear hcall
 rintro e wn ⟨rfl, hSn⟩
 have HTi := zH (HT.out.trans hSn)
 clear hSn HT
 have HT := HTi
 clear HTi
 rw [HWD.out.2]
 have g2 := (HB.out.step HT.out).cell 2
 simp only [zD, zE] at g2
 go_wp2_with fail
 refine (gale.within_any _ _ _ _).mono ?_
 rintro e wx ⟨rfl, rfl⟩
 rw [HNW.out]
 go_wp2_with fail
 refine (gale.within_any _ _ _ _).mono ?_
 rintro e wx ⟨rfl, rfl⟩
 rw [HOU.out]
 obtain ⟨wb, hwb⟩ : ∃ W, W = wn := ⟨_, rfl⟩
 subst hwb
 go_wp2_with (at_make; refine wpl_make (z := .int .i64 0) eiInts rfl _ _ rfl rfl .i64 .i64 s.stages.length rfl rfl (by omega) (by omega) ?_)
 obtain ⟨W1, hW1⟩ : ∃ W, W = wb.alloc (.cells (Array.replicate s.stages.length (.int .i64 0)) 3) := ⟨_, rfl⟩
 have HB1 := zH (show Bx W1 wb.heap.size ((layB s.stages.length 0).map (Value.int .i64)) 3 by
  rw [lay_start, List.map_replicate]
  rw [show Array.replicate s.stages.length (Value.int .i64 0) = (List.replicate s.stages.length (Value.int .i64 0)).toArray by simp] at hW1
  subst hW1
  exact Bx.new _ _ _)
 have HS1 := zH (show Step wb W1 by subst hW1; exact Step.alloc _ _)
 have HW1 := zH hW1
 clear hW1 g2
 go_wp2
 rw [← HW1.out]
 go_loopw [55] (fun i wr => ∃ k : Nat, k ≤ s.stages.length ∧ i = .int .i64 k ∧ Bx wr wb.heap.size ((layB s.stages.length k).map (Value.int .i64)) 3 ∧ StepX (fun j => j = wb.heap.size) W1 wr) (fun i _ => s.stages.length - (intOf i).toNat)
 case atStart => exact ⟨0, Nat.zero_le _, rfl, HB1.out, StepX.refl _ _⟩
 case round =>
  obtain ⟨k, hk, rfl, hb, hX⟩ := hrel
  have HX1 := zH hX
  have HBK := zH hb
  by_cases hlt : k < s.stages.length
  ·have c0 := ints_cell hb (k := k) (by rw [lay_len]; exact hlt)
   have z0 := hb.frozen k
   have yl := hb.lt
   have hix : (0 : Int) ≤ (k : Int) ∧ (k : Int) < (s.stages.length : Int) := by omega
   clear hb hX
   go_wp2
   go_roundw
   case rel => exact ⟨k + 1, by omega, by go_num, by rw [← lay_set, ← ints_set]; exact HBK.out.setCell _ _, HX1.out.setCell ⟨wb.heap.size, k, none⟩ _ rfl⟩
   case measure => simp [intOf]; omega
  have hke : k = s.stages.length := by omega
  subst hke
  rw [lay_end] at hb
  obtain ⟨wc, hwc⟩ : ∃ W, W = wr := ⟨_, rfl⟩
  subst hwc
  have HTC := zH (show Step wb wc from StepX.fresh HS1.out hX (fun j hj => by omega))
  have HBG := zH hb
  have HLG := zH hb.lt
  clear hb hX HX1 HBK hk
  have HT2 := zH (HT.out.trans HTC.out)
  obtain ⟨pq, kq, bq, oq, heq, _, _, hpq, hcq, _⟩ := (SL.go HV2.out HT2.out).stgs
  injection heq with heq1 _ heq3
  subst heq1 heq3
  obtain rfl := hpq (by omega)
  have HST := zH hcq
  clear hpq hcq
  have g2 := (HB.out.step HT2.out).cell 2
  simp only [zD, zE] at g2
  go_upto_region 13 with (fail)
  clear g2 hwl hlt
  go_loopw [10, 11, 14, 15] (fun bg call next ip wr => bg = .slice (some ⟨wb.heap.size, 0, none⟩) s.stages.length s.stages.length ∧ ∃ (k : Nat) (st : PlanS) (c : Nat) (iv : Int), k ≤ s.stages.length - now ∧ iv = (s.stages.length : Int) - 1 - k ∧ planTo s limits worst out k = some st ∧ call = .int .i64 st.call ∧ next = .int .i64 st.next ∧ ip = .pointer (some ⟨c, 0, none⟩) ∧ wb.heap.size < c ∧ Bx wr c [.int .i64 iv] 3 ∧ Bx wr wb.heap.size (st.begin_.map (Value.int .i64)) 3 ∧ Step wb wr) (fun _ _ _ ip wr => (cellI ip wr + 1 - now).toNat)
  case atStart => exact ⟨rfl, 0, _, wc.heap.size, _, Nat.zero_le _, rfl, rfl, rfl, rfl, rfl, HLG.out, by simpa using Bx.new wc [.int .i64 ((s.stages.length : Int) - 1)] 3, HBG.out.alloc _, HTC.out.trans (Step.alloc _ _)⟩
  case round =>
   obtain ⟨rfl, k, st, c, iv, hk, hiv, hpl, rfl, rfl, rfl, hgc, hbc, hbg, hT⟩ := hrel
   have HTR := zH (HT.out.trans hT)
   have HTB := zH hT
   have HBC := zH hbc
   have HBG2 := zH hbg
   have HPL := zH hpl
   have HGC := zH hgc
   have HNX := zH (plan_next HOK.out k (by omega) st hpl)
   have c0 := hbc.cell 0
   have cl := hbc.lt
   simp only [List.getElem?_cons_zero] at c0
   clear hT hbc hbg hpl hgc
   by_cases hlk : k < s.stages.length - now
   ·obtain ⟨ii, hii⟩ : ∃ ii : Nat, ii = s.stages.length - 1 - k := ⟨_, rfl⟩
    have hie : iv = (ii : Int) := by omega
    subst hie
    have hin : ii < s.stages.length := by omega
    have d1 : decide ((now : Int) ≤ (ii : Int)) = true := decide_eq_true (by omega)
    have d1n : decide (now ≤ ii) = true := decide_eq_true (by omega)
    have HII := zH (And.intro hii (And.intro hin hlk))
    have HL := zH (limited_parts HZ.out.2.1).1
    clear hk hiv hlk hii
    have hdi := dead_idx worst (limits.getD ii 0)
    have hcall := zH (indexFunc_int (fun _ => False) worst _ wr 68 #[.pointer (some ⟨w.heap.size + 1, 0, none⟩), .pointer (some ⟨c, 0, none⟩)] (Go.Proofs.enters_of Try.func68 (by kernel_rfl) rfl) (fun n => decide (limits.getD ii 0 < n)) (fun _ W => Step wr W)
     (fun _ W hW => SL.go HX.out (HTR.out.trans hW)) (Step.refl _) (fun i hi W u hW _ hu => by
      subst hu
      refine (plan2_any _ (limits.getD ii 0) limits _ c _ ii W (SL.go HV.out (HTR.out.trans hW)) (by have := (HBL.out.step (HTR.out.trans hW)).cell 0; simpa using this) (by have := (HBC.out.step hW).cell 0; simpa using this) (by have := HL.out; have := HII.out.2.1; omega) rfl).mono ?_
      rintro e w' ⟨rfl, hs⟩
      exact ⟨rfl, hW.trans hs⟩))
    have HLS := zH (show (HPL.out).symm = (HPL.out).symm from rfl)
    have HSTEP := zH (show planTo s limits worst out (k + 1) = planStep s limits worst out ii st by rw [planTo, HPL.out, HII.out.1])
    clear HLS
    go_wp2_with fail
    refine hcall.out.mono ?_
    rintro e wn ⟨rfl, _, _, _, hSn⟩
    clear hcall
    have HTR2 := zH (HTR.out.trans hSn)
    have HTB2 := zH (HTB.out.trans hSn)
    have HBC2 := zH (HBC.out.step hSn)
    have HBG3 := zH (HBG2.out.step hSn)
    clear hSn HTR HTB HBG2 c0 cl
    have hwi : IntKind.i64.wrap ((ii : Int) - 1) = (ii : Int) - 1 := by rw [IntKind.wrap_i64]; omega
    cases hd : deadI worst (limits.getD ii 0) with
    | none =>
     rw [hd] at hdi
     rw [hdi]
     dsimp only
     have HS2 := zH (show planStep s limits worst out ii st = some st by unfold planStep; rw [hd])
     clear hd hdi
     have c0 := HBC2.out.cell 0
     have cl := HBC2.out.lt
     simp only [List.getElem?_cons_zero] at c0
     go_wp2
     go_roundw
     case rel => exact ⟨rfl, k + 1, st, (wn).heap.size, (ii : Int) - 1, by have := HII.out; omega, by have := HII.out; omega, by rw [HSTEP.out, HS2.out], rfl, rfl, rfl, by have := HGC.out; have := HBC.out.lt; have := cl; omega, by simpa using Bx.new (wn) [.int .i64 ((ii : Int) - 1)] 3, (HBG3.out).alloc _, (HTB2.out).trans (Step.alloc _ _)⟩
     case measure =>
      rw [cellI_bx HBC.out, cellI_bx (show Bx ((wn).alloc (.cells #[.int .i64 ((ii : Int) - 1)] 3)) (wn).heap.size [.int .i64 ((ii : Int) - 1)] 3 by simpa using Bx.new (wn) [.int .i64 ((ii : Int) - 1)] 3)]
      have := HII.out
      clear hwi
      (try clear hwo)
      omega
    | some d =>
     rw [hd] at hdi
     rw [hdi]
     dsimp only
     have hdl := dead_lt hd
     have HDB := zH (show d ≤ 47 by
      have h2 := HZ.out.2.2.1
      simp only [windsB, Bool.and_eq_true, decide_eq_true_eq] at h2
      omega)
     have HPS := zH (show planStep s limits worst out ii st = if leftAt s st ii d < 0 ∨ ((ii : Int) = s.openS ∧ leftAt s st ii d - out < 0) then none else some ⟨st.begin_.set ii (leftAt s st ii d), leftAt s st ii d, if (ii : Int) = s.openS then leftAt s st ii d - out else st.call⟩ by unfold planStep; rw [hd])
     obtain ⟨q', d', b', o', he', _, _, hp', hc', _⟩ := (SL.go HV2.out HTR2.out).stgs
     injection he' with he1 _ he3
     rw [hp' (by omega)] at he1
     injection he1 with he1
     injection he1 with he4 he5 _
     subst he3 he4 he5
     have hmo := minutes_ok HOK.out hin
     obtain ⟨_, m1⟩ := hc' ii hin
     rw [← hmo.1] at m1
     have hmb : 0 ≤ minutesAt s ii ∧ minutesAt s ii ≤ 240 := by rw [hmo.1]; exact hmo.2
     obtain ⟨mn, hmn⟩ : ∃ x, x = minutesAt s ii := ⟨_, rfl⟩
     rw [← hmn] at m1 hmb
     have hnx := HNX.out.1
     have HLF := zH (show leftAt s st ii d = min (60 * (d : Int)) st.next - mn by unfold leftAt; rw [hmn])
     have hd0 : decide ((d : Int) < 0) = false := decide_eq_false (by omega)
     have hdd := HDB.out
     have hw60 : IntKind.i64.wrap (60 * (d : Int)) = 60 * (d : Int) := by rw [IntKind.wrap_i64]; omega
     have hwmn : IntKind.i64.wrap (min (60 * (d : Int)) st.next - mn) = min (60 * (d : Int)) st.next - mn := by rw [IntKind.wrap_i64]; omega
     have HM1 := zH m1
     have HRNG := zH (show -300 ≤ min (60 * (d : Int)) st.next - mn ∧ min (60 * (d : Int)) st.next - mn ≤ 3000 by omega)
     have HHW := zH (And.intro hw60 hwmn)
     clear hdi hd hdl hp' hc' hmo hmn hmb hnx hdd hw60 hwmn m1
     go_upto_region 17 with (fail)
     have HTX := zH (Step.refl wn)
     have hw60 := HHW.out.1
     have hwmn := HHW.out.2
     have hsx : (0 : Int) ≤ (ii : Int) ∧ (ii : Int) < (s.stages.length : Int) := by omega
     refine Mk.wp_region_seq (Mk.kdOf [4] [] [(3, 3, 2, #[.int .i64 (60 * (d : Int)), .int .i64 st.next])]) [0, 1, 0, 7, 15, 0, 32, 0, 224, 480, 992, 2047, 4095] [0, 1, 2, 5, 6, 7, 8, 9, 10, 3, 4, 11, 12] [] (by kernel_rfl) (by kernel_rfl) (fun i T z hi hk => by simp only [List.mem_cons, List.not_mem_nil, or_false] at hi; rcases hi with rfl | rfl | rfl | rfl | rfl | rfl | rfl | rfl | rfl | rfl | rfl | rfl | rfl <;> simp [Mk.kdOf] at hk) ?_
     intro Wx hWx
     have HTy := zH (HTX.out.trans hWx)
     clear hWx HTX
     have c0 := (HBC2.out.step HTy.out).cell 0
     have cl := (HBC2.out.step HTy.out).lt
     have g2 := (HB.out.step (HTR2.out.trans HTy.out)).cell 2
     have m1 := HTy.out.kc HM1.out
     simp only [zD, zE] at c0 g2
     repeat ((first | (refine Mk.run_off rfl rfl (by rfl) ?_) | (refine Mk.run_chain_off rfl rfl (by rfl) (Mk.K0_mono _) ?_) | ((refine Mk.run_want rfl rfl (by rfl) ⟨?_, fun W hW => ?_, ?_⟩; rotate_left; (· (have d0 := hW.kc c0; have d1 := hW.kc g2; have d2 := hW.kc m1; go_simp; (try with_reducible rfl)))))); (try simp only [Act.put, zA, zB, zC]))
     clear c0 cl g2 m1
     refine Mk.run_make rfl (by rfl) rfl (fun w => ?_) (fun W2 g hW2 hg hgb hgN => ?_)
     ·go_simp
     have HL3 := zH (SLT.bx_ints (S := fun _ => False) (l := [60 * (d : Int), st.next]) (show Bx W2 g (([60 * (d : Int), st.next] : List Int).map (Value.int .i64)) 3 from hg) id ([60 * (d : Int), st.next] : List Int).length (Nat.le_refl _) (by simp)).1
     have HTz := zH (HTy.out.trans hW2)
     clear HTy hg hgb hgN hW2
     (try simp only [Act.put, zA, zB, zC])
     have c0 := (HBC2.out.step HTz.out).cell 0
     have cl := (HBC2.out.step HTz.out).lt
     have g2 := (HB.out.step (HTR2.out.trans HTz.out)).cell 2
     have m1 := HTz.out.kc HM1.out
     simp only [zD, zE] at c0 g2
     repeat ((first | (refine Mk.run_off rfl rfl (by rfl) ?_) | (refine Mk.run_chain_off rfl rfl (by rfl) (Mk.K0_mono _) ?_) | ((refine Mk.run_want rfl rfl (by rfl) ⟨?_, fun W hW => ?_, ?_⟩; rotate_left; (· (have d0 := hW.kc c0; have d1 := hW.kc g2; have d2 := hW.kc m1; go_simp; (try with_reducible rfl)))))); (try simp only [Act.put, zA, zB, zC]))
     clear c0 cl g2 m1
     refine Mk.run_chain rfl rfl (by rfl) (fun Wi hWi K' hK => ?_)
     have HTi := zH (HTz.out.trans hWi)
     have hl3 := SL.go HL3.out hWi
     clear hWi HTz HL3
     go_simp
     refine (least_any (60 * (d : Int)) st.next _ _ hl3).mono ?_
     rintro e w9 ⟨rfl, hS9⟩
     have HT9 := zH (HTi.out.trans hS9)
     clear HTi hl3
     refine hK _ _ (StepX.of hS9) ?_
     clear hS9
     (try simp only [Act.put, zA, zB, zC])
     have c0 := (HBC2.out.step HT9.out).cell 0
     have cl := (HBC2.out.step HT9.out).lt
     have g2 := (HB.out.step (HTR2.out.trans HT9.out)).cell 2
     have m1 := HT9.out.kc HM1.out
     simp only [zD, zE] at c0 g2
     repeat ((first | (refine Mk.run_off rfl rfl (by rfl) ?_) | (refine Mk.run_chain_off rfl rfl (by rfl) (Mk.K0_mono _) ?_) | ((refine Mk.run_want rfl rfl (by rfl) ⟨?_, fun W hW => ?_, ?_⟩; rotate_left; (· (have d0 := hW.kc c0; have d1 := hW.kc g2; have d2 := hW.kc m1; go_simp; (try with_reducible rfl)))))); (try simp only [Act.put, zA, zB, zC]))
     clear c0 cl g2 m1
     refine Mk.run_end (L := []) rfl (fun W6 hW6 => ?_)
     have HT6 := zH (HT9.out.trans hW6)
     clear hW6 HT9 hK hw60 hwmn
     obtain ⟨nx, hnx⟩ : ∃ x, x = min (60 * (d : Int)) st.next - mn := ⟨_, rfl⟩
     rw [← hnx] at HLF HRNG ⊢
     have HNXX := zH hnx
     rw [HLF.out] at HPS
     clear hnx
     have hbl18 := HBG3.out.step HT6.out
     have z1 := ints_cell hbl18 (k := ii) (by have := HNX.out.2; omega)
     have z0 := hbl18.frozen ii
     have zl := hbl18.lt
     have c0 := (HBC2.out.step HT6.out).cell 0
     have cl := (HBC2.out.step HT6.out).lt
     simp only [List.getElem?_cons_zero] at c0
     go_upto_region 19 with (fail)
     obtain ⟨W7, hW7⟩ : ∃ W, W = W6.setCell ⟨wb.heap.size, ii, none⟩ (.int .i64 nx) := ⟨_, rfl⟩
     rw [← hW7]
     have hwr7 : Wrote wb.heap.size W6 W7 := by rw [hW7]; exact .setCell _ _ _ _
     have HB7 := zH (show Bx W7 wb.heap.size ((st.begin_.set ii nx).map (Value.int .i64)) 3 by rw [hW7, ← ints_set]; exact hbl18.setCell _ _)
     have HTB7 := zH (show Step wb W7 from Step.wrote (HTB2.out.trans HT6.out) hwr7 (Nat.le_refl _))
     have hgc := HGC.out
     have HBC7 := zH ((HBC2.out.step HT6.out).keep hwr7.keeps (show ¬ c = wb.heap.size by omega))
     have HT7 := zH (show Step W0 W7 from HT.out.trans HTB7.out)
     clear z1 z0 zl c0 cl hW7 hwr7 hbl18 hgc
     have c0 := HBC7.out.cell 0
     have cl := HBC7.out.lt
     have g3 := (HB.out.step HT7.out).cell 3
     simp only [zD, zE] at c0 g3
     have HO4 := zH HZ.out.2.2.2.2
     have hwo : IntKind.i64.wrap (nx - out) = nx - out := by have := HO4.out; have := HRNG.out; rw [IntKind.wrap_i64]; omega
     obtain ⟨op, hop⟩ : ∃ x, x = s.openS := ⟨_, rfl⟩
     rw [← hop] at g3 HPS
     clear hop
     by_cases ho : (ii : Int) = op
     ·have dq : ((ii : Int) == op) = true := by simpa using ho
      by_cases hn : nx < 0
      ·have dn : decide (nx < 0) = true := decide_eq_true hn
       have HS2 := zH (show planStep s limits worst out ii st = none by rw [HPS.out, if_pos (.inl hn)])
       clear hn ho
       have HNO := zH (show planR s limits worst now out = none by
        unfold planR
        rw [Int.toNat_natCast]
        exact plan_none (by rw [HSTEP.out]; exact HS2.out) _ (by have := HII.out; omega))
       go_wp2
       go_ret3
       exact ⟨.inl ⟨HNO.out, rfl⟩, HS.out.trans HT7.out⟩
      ·have dn : decide (nx < 0) = false := decide_eq_false hn
       by_cases hc : nx - out < 0
       ·have dc : decide (nx - out < 0) = true := decide_eq_true hc
        have HS2 := zH (show planStep s limits worst out ii st = none by rw [HPS.out, if_pos (.inr ⟨ho, hc⟩)])
        clear hn hc ho
        have HNO := zH (show planR s limits worst now out = none by
         unfold planR
         rw [Int.toNat_natCast]
         exact plan_none (by rw [HSTEP.out]; exact HS2.out) _ (by have := HII.out; omega))
        go_wp2
        go_ret3
        exact ⟨.inl ⟨HNO.out, rfl⟩, HS.out.trans HT7.out⟩
       ·have dc : decide (nx - out < 0) = false := decide_eq_false hc
        have HS2 := zH (show planStep s limits worst out ii st = some ⟨st.begin_.set ii nx, nx, nx - out⟩ by
         rw [HPS.out, if_neg (fun h => h.elim hn (fun h => hc h.2)), if_pos ho])
        clear hn hc ho
        go_wp2
        go_roundw
        case rel => exact ⟨rfl, k + 1, ⟨st.begin_.set ii nx, nx, nx - out⟩, (W7).heap.size, (ii : Int) - 1, by have := HII.out; omega, by have := HII.out; omega, by rw [HSTEP.out, HS2.out], rfl, rfl, rfl, by have := HGC.out; have := HBC.out.lt; have := cl; omega, by simpa using Bx.new (W7) [.int .i64 ((ii : Int) - 1)] 3, (HB7.out).alloc _, (HTB7.out).trans (Step.alloc _ _)⟩
        case measure =>
         rw [cellI_bx HBC.out, cellI_bx (show Bx ((W7).alloc (.cells #[.int .i64 ((ii : Int) - 1)] 3)) (W7).heap.size [.int .i64 ((ii : Int) - 1)] 3 by simpa using Bx.new (W7) [.int .i64 ((ii : Int) - 1)] 3)]
         have := HII.out
         clear hwi
         (try clear hwo)
         omega
     ·have dq : ((ii : Int) == op) = false := by simpa using ho
      by_cases hn : nx < 0
      ·have dn : decide (nx < 0) = true := decide_eq_true hn
       have HS2 := zH (show planStep s limits worst out ii st = none by rw [HPS.out, if_pos (.inl hn)])
       clear hn ho
       have HNO := zH (show planR s limits worst now out = none by
        unfold planR
        rw [Int.toNat_natCast]
        exact plan_none (by rw [HSTEP.out]; exact HS2.out) _ (by have := HII.out; omega))
       go_wp2
       go_ret3
       exact ⟨.inl ⟨HNO.out, rfl⟩, HS.out.trans HT7.out⟩
      ·have dn : decide (nx < 0) = false := decide_eq_false hn
       have HS2 := zH (show planStep s limits worst out ii st = some ⟨st.begin_.set ii nx, nx, st.call⟩ by
        rw [HPS.out, if_neg (fun h => h.elim hn (fun h => ho h.1)), if_neg ho])
       clear hn ho
       go_wp2
       go_roundw
       case rel => exact ⟨rfl, k + 1, ⟨st.begin_.set ii nx, nx, st.call⟩, (W7).heap.size, (ii : Int) - 1, by have := HII.out; omega, by have := HII.out; omega, by rw [HSTEP.out, HS2.out], rfl, rfl, rfl, by have := HGC.out; have := HBC.out.lt; have := cl; omega, by simpa using Bx.new (W7) [.int .i64 ((ii : Int) - 1)] 3, (HB7.out).alloc _, (HTB7.out).trans (Step.alloc _ _)⟩
       case measure =>
        rw [cellI_bx HBC.out, cellI_bx (show Bx ((W7).alloc (.cells #[.int .i64 ((ii : Int) - 1)] 3)) (W7).heap.size [.int .i64 ((ii : Int) - 1)] 3 by simpa using Bx.new (W7) [.int .i64 ((ii : Int) - 1)] 3)]
        have := HII.out
        clear hwi
        (try clear hwo)
        omega
   ·have hke : k = s.stages.length - now := by omega
    have HPR := zH (show planR s limits worst now out = some st by unfold planR; rw [Int.toNat_natCast, ← hke]; exact HPL.out)
    have d1 : decide ((now : Int) ≤ iv) = false := decide_eq_false (by omega)
    have HSL := zH (SL.bx_ints HBG2.out (S := fun _ => False) id s.stages.length (by rw [HNX.out.2]; exact Nat.le_refl _) (by have := HNX.out.2; omega))
    clear hk hiv hlk hke
    go_wp2
    go_ret3
    refine ⟨.inr ⟨st, _, HPR.out, rfl, ?_⟩, HS.out.trans HTR.out⟩
    have hfin := HSL.out
    rw [HNX.out.2] at hfin
    exact hfin
theorem gints_any (S : Nat → Prop) (a b : List Int) (va vb : Value) (w : World) (ha : SL S w va a) (hb : SL S w vb b) :
  Calls Try.prog 23 #[va, vb] w fun e w' => e = .returned (.bool (intsB a b)) ∧ Step w w' := by
 obtain ⟨pa, ca, ba, oa, rfl, _, hma, hpa, hca, h0a⟩ := ha.ints
 obtain ⟨pb, cb, bb, ob, rfl, _, hmb, hpb, hcb, h0b⟩ := hb.ints
 by_cases hl : a.length = b.length
 ·have hne : ((a.length : Int) != (b.length : Int)) = false := by simp [hl]
  have Hl := zH hl
  clear hl
  go_enter Try.func23, Try.ntmps23
  go_wp2
  go_loopw [5] (fun i wr => ∃ k : Nat, k ≤ a.length ∧ i = .int .i64 k ∧ a.take k = b.take k ∧ Below w.heap.size w wr) (fun i _ => a.length - (intOf i).toNat)
  case atStart => exact ⟨0, Nat.zero_le _, rfl, rfl, Below.refl _ _⟩
  case round =>
   obtain ⟨k, hk, rfl, ht, hB⟩ := hrel
   have HT := zH ht
   clear ht
   by_cases hlt : k < a.length
   ·have hltb : k < b.length := by have := Hl.out; omega
    obtain rfl := hpa (by omega)
    obtain rfl := hpb (by omega)
    have e1 := (hB.cell (p := ⟨ba, oa + k, none⟩) (h0a (by omega)).1).trans (hca k hlt)
    have e2 := (hB.cell (p := ⟨bb, ob + k, none⟩) (h0b (by omega)).1).trans (hcb k hltb)
    have hx : (0 : Int) ≤ (k : Int) ∧ (k : Int) < (a.length : Int) := by omega
    have hy : (0 : Int) ≤ (k : Int) ∧ (k : Int) < (b.length : Int) := by omega
    clear hpa hpb hca hcb h0a h0b
    go_wp2
    go_quiet (fail)
    go_wp2
    ·have hx : (a[k] != b[k]) = true := by assumption
     go_ret
     exact ⟨by rw [ints_miss hlt hltb (by simpa using hx)]; rfl, .of (below_drewN hB _)⟩
    ·have hx : (a[k] != b[k]) = false := by assumption
     go_roundw
     case rel => exact ⟨k + 1, by omega, by go_num, ints_hit hlt hltb HT.out (by simpa using hx), below_drewN hB _⟩
     case measure => simp [intOf]; omega
   ·go_wp2
    go_ret
    exact ⟨by rw [ints_end Hl.out (by omega) HT.out]; rfl, .of hB⟩
 ·have hne : ((a.length : Int) != (b.length : Int)) = true := by simp; omega
  go_enter Try.func23, Try.ntmps23
  go_wp2
  go_ret
  refine ⟨?_, Step.refl _⟩
  have : a ≠ b := fun h => hl (by rw [h])
  simp [intsB, this]
theorem told_sz : calmN.size ≤ 9223372036854775807 ∧ stormN.size ≤ 9223372036854775807 := by decide
theorem siHall : SI Try.prog 78 2 := ⟨⟨_, Try.underlying78⟩, by kernel_rfl⟩
theorem siSiteH : SI Try.prog 63 4 := ⟨⟨_, Try.underlying63⟩, by kernel_rfl⟩
theorem ring_any (w : World) : Calls Try.prog 49 #[] w fun e w' => ∃ v', e = .returned v' ∧ AV (Old w) w' v' ringH ∧ Step w w' := by
 go_enter Try.func49, Try.ntmps49
 go_wp2
 refine ret_struct (k := 2) rfl siHall rfl (((Bx.new w [.slice (some ⟨w.heap.size + 1, 0, none⟩) 3 3, .slice (some ⟨w.heap.size + 1 + 1, 0, none⟩) 2 2] 78).alloc _).alloc _) rfl rfl ⟨_, rfl, ⟨_, rfl, _, _, rfl, ?_, ?_⟩, ((Step.alloc _ _).trans (Step.alloc _ _)).trans (Step.alloc _ _)⟩
 ·refine SL.bx (S := Old w) (l := ringH.people) ((Bx.new' _ [.int .i64 0, .int .i64 50, .int .i64 20] 3 _ (by simp)).alloc _) (by unfold Old; omega) 3 (by decide) (by decide) fun i hi => ?_
  match i, hi with
  | 0, _ => rfl
  | 1, _ => rfl
  | 2, _ => rfl
 ·refine SL.bx (S := Old w) (l := ringH.ways) (Bx.new' _ [.int .i64 1, .int .i64 0, .int .i64 10, .int .i64 1, .int .i64 2, .int .i64 1, .int .i64 5, .int .i64 2] 108 _ (by simp)) (by unfold Old; omega) 2 (by decide) (by decide) fun i hi => ?_
  match i, hi with
  | 0, _ => rfl
  | 1, _ => rfl
theorem told_any (w : World) : Calls Try.prog 47 #[] w fun e w' => ∃ v', e = .returned v' ∧ SL (Old w) w' v' toldF ∧ Step w w' := by
 go_enter Try.func47, Try.ntmps47
 go_wp2
 go_ret
 refine ⟨_, rfl, ?_, ((Step.alloc _ _).trans (Step.alloc _ _)).trans (Step.alloc _ _)⟩
 have h1 : SL (Old w) (((w.alloc (.cells #[.int .i64 10, .int .i64 30, .int .i64 20, .int .i64 40] 99)).alloc (.cells #[.int .i64 25, .int .i64 60, .int .i64 50, .int .i64 90] 99)).alloc (.cells #[.string calmN, .slice (some ⟨w.heap.size, 0, none⟩) 2 2, .string stormN, .slice (some ⟨w.heap.size + 1, 0, none⟩) 2 2] 117)) (.slice (some ⟨w.heap.size, 0, none⟩) 2 2) ([⟨10, 30⟩, ⟨20, 40⟩] : List Rng) := by
  refine SL.bx (S := Old w) (l := ([⟨10, 30⟩, ⟨20, 40⟩] : List Rng)) (((Bx.new w [.int .i64 10, .int .i64 30, .int .i64 20, .int .i64 40] 99).alloc _).alloc _) (by unfold Old; omega) 2 (by decide) (by decide) fun i hi => ?_
  match i, hi with
  | 0, _ => rfl
  | 1, _ => rfl
 have h2 : SL (Old w) (((w.alloc (.cells #[.int .i64 10, .int .i64 30, .int .i64 20, .int .i64 40] 99)).alloc (.cells #[.int .i64 25, .int .i64 60, .int .i64 50, .int .i64 90] 99)).alloc (.cells #[.string calmN, .slice (some ⟨w.heap.size, 0, none⟩) 2 2, .string stormN, .slice (some ⟨w.heap.size + 1, 0, none⟩) 2 2] 117)) (.slice (some ⟨w.heap.size + 1, 0, none⟩) 2 2) ([⟨25, 60⟩, ⟨50, 90⟩] : List Rng) := by
  refine SL.bx (S := Old w) (l := ([⟨25, 60⟩, ⟨50, 90⟩] : List Rng)) ((Bx.new' _ [.int .i64 25, .int .i64 60, .int .i64 50, .int .i64 90] 99 _ (by simp)).alloc _) (by unfold Old; omega) 2 (by decide) (by decide) fun i hi => ?_
  match i, hi with
  | 0, _ => rfl
  | 1, _ => rfl
 refine SL.bx (S := Old w) (l := toldF) (Bx.new' _ [.string calmN, .slice (some ⟨w.heap.size, 0, none⟩) 2 2, .string stormN, .slice (some ⟨w.heap.size + 1, 0, none⟩) 2 2] 117 _ (by simp)) (by unfold Old; omega) 2 (by decide) (by decide) fun i hi => ?_
 match i, hi with
 | 0, _ => exact ⟨_, rfl, h1, told_sz.1⟩
 | 1, _ => exact ⟨_, rfl, h2, told_sz.2⟩
theorem field_any (w : World) : Calls Try.prog 48 #[] w fun e w' => ∃ v', e = .returned v' ∧ AV (Old w) w' v' fieldS ∧ Step w w' := by
 go_enter Try.func48, Try.ntmps48
 go_wp2
 refine ret_struct (k := 4) rfl siSiteH rfl ((((Bx.new w [.slice (some ⟨w.heap.size + 1, 0, none⟩) 4 4, .slice (some ⟨w.heap.size + 1 + 1, 0, none⟩) 3 3, .slice (some ⟨w.heap.size + 1 + 1 + 1, 0, none⟩) 3 3, .int .i64 0] 63).alloc _).alloc _).alloc _) rfl rfl ⟨_, rfl, ⟨_, rfl, _, _, _, rfl, ?_, ?_, ?_⟩, (((Step.alloc _ _).trans (Step.alloc _ _)).trans (Step.alloc _ _)).trans (Step.alloc _ _)⟩
 ·refine SL.bx (S := Old w) (l := fieldS.base) (((Bx.new' _ [.int .i64 100, .int .i64 0, .int .i64 (-100), .int .i64 0, .int .i64 0, .int .i64 100, .int .i64 0, .int .i64 (-100)] 152 _ (by simp)).alloc _).alloc _) (by unfold Old; omega) 4 (by decide) (by decide) fun i hi => ?_
  match i, hi with
  | 0, _ => rfl
  | 1, _ => rfl
  | 2, _ => rfl
  | 3, _ => rfl
 ·refine SL.bx (S := Old w) (l := fieldS.levels) ((Bx.new' _ [.int .i64 30, .int .i64 4, .int .i64 60, .int .i64 7, .int .i64 90, .int .i64 10] 135 _ (by simp)).alloc _) (by unfold Old; omega) 3 (by decide) (by decide) fun i hi => ?_
  match i, hi with
  | 0, _ => rfl
  | 1, _ => rfl
  | 2, _ => rfl
 ·refine SL.bx (S := Old w) (l := fieldS.stages) (Bx.new' _ [.int .i64 100, .int .i64 30, .int .i64 50, .int .i64 20, .int .i64 0, .int .i64 0] 131 _ (by simp)) (by unfold Old; omega) 3 (by decide) (by decide) fun i hi => ?_
  match i, hi with
  | 0, _ => rfl
  | 1, _ => rfl
  | 2, _ => rfl
theorem fplanR : ∃ st, planR fieldS [30, 60, 1000] [20, 40, 70] 0 12 = some st ∧ st.begin_ = [30, 100, -1] ∧ st.call = 18 := by
 have h : (planR fieldS [30, 60, 1000] [20, 40, 70] 0 12).map (fun st => (st.begin_, st.call)) = some ([30, 100, -1], 18) := by decide
 cases q : planR fieldS [30, 60, 1000] [20, 40, 70] 0 12 with
 | none => rw [q] at h; cases h
 | some st =>
  rw [q] at h
  simp only [Option.map_some, Option.some.injEq, Prod.mk.injEq] at h
  exact ⟨st, rfl, h.1, h.2⟩
theorem field_lim : limitedB fieldS [30, 60, 1000] = true ∧ windsB [20, 40, 70] = true := by decide
theorem gwakes_any (w : World) : Calls Try.prog 14 #[] w fun e w' => e = .returned (.bool true) ∧ Step w w' := by
 go_enter Try.func14, Try.ntmps14
 go_wp2_with fail
 refine (told_any _).mono ?_
 rintro e wa ⟨v1, rfl, hv1, hS1⟩
 have HS1 := zH hS1
 have HV1 := zH (hv1.weak (T := fun _ => False) fun _ _ h => h.elim)
 obtain ⟨p1, c1, rfl⟩ := hv1.form
 clear hv1 hS1
 go_wp2_with fail
 refine (Worst_any (fun _ => False) toldF [⟨0, 20, 24⟩] _ _ _ (HV1.out.keep (.of_step (Step.alloc _ _))) (SL.bx (S := fun _ => False) (l := ([⟨0, 20, 24⟩] : List Rdg)) (Bx.new wa [.int .i64 0, .int .i64 20, .int .i64 24] 101) id 1 (by decide) (by decide) fun i hi => by match i, hi with | 0, _ => rfl)).mono ?_
 rintro e wb ⟨v2, rfl, hv2, hS2⟩
 rw [told_worst.1]
 rw [told_worst.2] at hv2
 have HS2 := zH ((HS1.out.trans (Step.alloc _ _)).trans hS2)
 have HV2 := zH (hv2.weak (T := fun _ => False) fun _ _ h => h.elim)
 clear hv2 hS2 HV1 HS1
 go_wp2_with fail
 refine (field_any _).mono ?_
 rintro e wc ⟨v3, rfl, hv3, hS3⟩
 have HS3 := zH hS3
 have HV3 := zH hv3
 clear hv3 hS3
 go_wp2_with fail
 obtain ⟨st, hpl, hbg, hcl⟩ := fplanR
 have HPL := zH (And.intro hpl (And.intro hbg hcl))
 clear hpl hbg hcl
 have hl1 : SL (fun _ => False) ((wc.alloc (.cells #[.int .i64 30, .int .i64 60, .int .i64 1000] 3)).alloc (.cells #[.int .i64 20, .int .i64 40, .int .i64 70] 3)) (.slice (some ⟨wc.heap.size, 0, none⟩) 3 3) ([30, 60, 1000] : List Int) :=
  (SLT.bx_ints (S := fun _ => False) (l := [30, 60, 1000]) ((Bx.new wc (([30, 60, 1000] : List Int).map (Value.int .i64)) 3).alloc _) id 3 (by decide) (by simp)).1
 have hl2 : SL (fun _ => False) ((wc.alloc (.cells #[.int .i64 30, .int .i64 60, .int .i64 1000] 3)).alloc (.cells #[.int .i64 20, .int .i64 40, .int .i64 70] 3)) (.slice (some ⟨wc.heap.size + 1, 0, none⟩) 3 3) ([20, 40, 70] : List Int) :=
  (SLT.bx_ints (S := fun _ => False) (l := [20, 40, 70]) (Bx.new' (wc.alloc (.cells #[.int .i64 30, .int .i64 60, .int .i64 1000] 3)) (([20, 40, 70] : List Int).map (Value.int .i64)) 3 (wc.heap.size + 1) (by simp)) id 3 (by decide) (by simp)).1
 have hu3 : AV (fun _ => False) ((wc.alloc (.cells #[.int .i64 30, .int .i64 60, .int .i64 1000] 3)).alloc (.cells #[.int .i64 20, .int .i64 40, .int .i64 70] 3)) v3 fieldS := by
  obtain ⟨cs, e, hr⟩ := HV3.out
  exact ⟨cs, e, Rep.keep (.of_step ((Step.alloc _ _).trans (Step.alloc _ _))) (Rep.weak (fun _ _ h => h.elim) hr)⟩
 have hcall := zH (Plan_ok fieldS [30, 60, 1000] [20, 40, 70] 0 12 v3 _ _ _ hu3 hl1 hl2 field_ok field_lim.1 field_lim.2 (by decide) (by decide))
 clear hl1 hl2 hu3
 refine hcall.out.mono ?_
 clear hcall
 rintro e wd ⟨hpl, hS4⟩
 rcases hpl with ⟨h1, rfl⟩ | ⟨st', v4, h1, rfl, hv4⟩
 ·rw [show (((0 : Nat) : Int)) = 0 from rfl, HPL.out.1] at h1; cases h1
 have hst : st' = st := by
  rw [show (((0 : Nat) : Int)) = 0 from rfl, HPL.out.1] at h1
  exact (Option.some.inj h1).symm
 subst hst
 rw [HPL.out.2.2]
 rw [HPL.out.2.1] at hv4
 have HS4 := zH ((HS3.out.trans ((Step.alloc _ _).trans (Step.alloc _ _))).trans hS4)
 have HV4 := zH hv4
 clear h1 hv4 hS4 HV3 HPL HS3
 go_wp2_with fail
 refine (ring_any _).mono ?_
 rintro e we ⟨v5, rfl, hv5, hS5⟩
 have HS5 := zH (HS4.out.trans hS5)
 have HV5 := zH hv5
 have HV4' := zH (HV4.out.keep (.of_step hS5))
 clear hv5 hS5 HS4 HV4
 go_wp2_with fail
 refine (Leave_any (Old wd) ringH _ _ HV5.out).mono ?_
 rintro e wf ⟨c6, n6, pl, v6, rfl, hL, hv6, hS6⟩
 obtain ⟨rfl, rfl, hout⟩ := leave_ring hL
 have HS6 := zH (HS5.out.trans hS6)
 have HV6 := zH (hv6.weak (T := fun _ => False) fun _ _ h => h.elim)
 have HV4 := zH (HV4'.out.keep (.of_step hS6))
 have HOUT := zH hout
 obtain ⟨p6, k6, rfl⟩ := hv6.form
 clear hv6 hS6 hL hout HV5 HS5 HV4'
 go_wp2_with fail
 refine (ring_any _).mono ?_
 rintro e wg ⟨v7, rfl, hv7, hS7⟩
 have HS7 := zH (HS6.out.trans hS7)
 have HV7 := zH hv7
 have HV4' := zH (HV4.out.keep (.of_step hS7))
 have HV6' := zH (HV6.out.keep (.of_step hS7))
 clear hv7 hS7 HS6 HV4 HV6
 go_wp2_with fail
 refine (Stuck_any (Old wf) ringH 6 _ _ HV7.out).mono ?_
 rintro e wh ⟨c8, cut, v8, rfl, hL, hv8, hS8⟩
 obtain ⟨rfl, hstk⟩ := stuck_ring hL
 have HS8 := zH (HS7.out.trans hS8)
 have HV8 := zH (hv8.weak (T := fun _ => False) fun _ _ h => h.elim)
 have HV4 := zH (HV4'.out.keep (.of_step hS8))
 have HV6 := zH (HV6'.out.keep (.of_step hS8))
 have HSTK := zH hstk
 obtain ⟨p8, k8, rfl⟩ := hv8.form
 clear hv8 hS8 hL hstk HV7 HS7 HV4' HV6'
 have HV2' := zH (HV2.out.keep (.of_step HS8.out))
 have HW8 := zH (HS2.out.trans HS8.out)
 clear HV2 HS2 HS8
 go_wp2_with fail
 have hi1 := gints_any (fun _ => False) [30, 40] [30, 40] v2 (.slice (some ⟨wh.heap.size, 0, none⟩) 2 2) (wh.alloc (.cells #[.int .i64 30, .int .i64 40] 3)) (HV2'.out.keep (.of_step (Step.alloc _ _))) (SLT.bx_ints (S := fun _ => False) (l := [30, 40]) (Bx.new wh (([30, 40] : List Int).map (Value.int .i64)) 3) id 2 (by decide) (by simp)).1
 rw [show intsB [30, 40] [30, 40] = true by decide] at hi1
 refine hi1.mono ?_
 clear hi1
 rintro e wi ⟨rfl, hS9⟩
 have HSA := zH ((Step.alloc wh (.cells #[.int .i64 30, .int .i64 40] 3)).trans hS9)
 clear hS9
 go_wp2_with fail
 have hi1 := gints_any (fun _ => False) [30, 100, -1] [30, 100, -1] v4 (.slice (some ⟨wi.heap.size, 0, none⟩) 3 3) (wi.alloc (.cells #[.int .i64 30, .int .i64 100, .int .i64 (-1)] 3)) (HV4.out.keep (.of_step (HSA.out.trans (Step.alloc _ _)))) (SLT.bx_ints (S := fun _ => False) (l := [30, 100, -1]) (Bx.new wi (([30, 100, -1] : List Int).map (Value.int .i64)) 3) id 3 (by decide) (by simp)).1
 rw [show intsB [30, 100, -1] [30, 100, -1] = true by decide] at hi1
 refine hi1.mono ?_
 clear hi1
 rintro e wj ⟨rfl, hS9⟩
 have HSB := zH ((HSA.out.trans (Step.alloc wi (.cells #[.int .i64 30, .int .i64 100, .int .i64 (-1)] 3))).trans hS9)
 clear hS9 HSA
 go_wp2_with fail
 refine (ring_any _).mono ?_
 rintro e wk ⟨v9, rfl, hv9, hS9⟩
 have HSC := zH (HSB.out.trans hS9)
 have HV9 := zH hv9
 clear hv9 hS9 HSB
 go_wp2_with fail
 have hi1 := ProveOut_any (fun _ => False) ringH 7 pl v9 _ wk (by obtain ⟨cs, e, hr⟩ := HV9.out; exact ⟨cs, e, Rep.weak (fun _ _ h => h.elim) hr⟩) (HV6.out.keep (.of_step HSC.out))
 rw [show poutB ringH 7 pl = true by unfold poutB; rw [ring_ok, show withinB 7 0 60 = true by decide]; exact HOUT.out] at hi1
 refine hi1.mono ?_
 clear hi1
 rintro e wl ⟨rfl, hS9⟩
 have HSD := zH (HSC.out.trans hS9)
 clear hS9 HSC HV9
 go_wp2_with fail
 refine (ring_any _).mono ?_
 rintro e wm ⟨v10, rfl, hv10, hS9⟩
 have HSE := zH (HSD.out.trans hS9)
 have HV10 := zH hv10
 clear hv10 hS9 HSD
 go_wp2_with fail
 have hi1 := ProveStuck_any (fun _ => False) ringH 6 cut v10 _ wm (by obtain ⟨cs, e, hr⟩ := HV10.out; exact ⟨cs, e, Rep.weak (fun _ _ h => h.elim) hr⟩) (HV8.out.keep (.of_step HSE.out))
 rw [show pstuckB ringH 6 cut = true by unfold pstuckB; rw [ring_ok, show withinB 6 0 60 = true by decide]; exact HSTK.out] at hi1
 refine hi1.mono ?_
 clear hi1
 rintro e wn ⟨rfl, hS9⟩
 have HSF := zH (HSE.out.trans hS9)
 clear hS9 HSE HV10
 go_wp2
 go_ret
 exact ⟨rfl, HW8.out.trans HSF.out⟩
end Go.Proofs.Ytfhmdpicoccnfaa
namespace Go.BT
end Go.BT
namespace Go.Proofs.Ytfhmdpicoccnfaa
set_option linter.unusedSimpArgs false
set_option linter.unusedVariables false
open Go.RowKit Go.BT
end Go.Proofs.Ytfhmdpicoccnfaa
namespace Go.BT
end Go.BT
namespace Go.Proofs.Ytfhmdpicoccnfaa
set_option linter.unusedSimpArgs false
set_option linter.unusedVariables false
open Go.RowKit Go.BT
end Go.Proofs.Ytfhmdpicoccnfaa
