/- Walks and plain laws, part q. -/
import Derived.Test.YtgpiieogiafdoaaGreatM5
import Derived.Test.YtgpiieogiafdoaaGreatMw
import Derived.Test.YtgpiieogiafdoaaGreatMx
import Derived.Test.YtgpiieogiafdoaaGreatMy
import Derived.Test.YtgpiieogiafdoaaGreatMz
set_option maxHeartbeats 16000000
set_option maxRecDepth 100000
namespace Go.Proofs.YtgpiieogiafdoaaGreat
set_option linter.unusedSimpArgs false
set_option linter.unusedVariables false
open Go.RowKit Go.BT
theorem seat_nn {h : House} {b : Book} (hb : bookB h b = true) {i j : Nat} (hi : i < b.seats.length) (hj : j < b.seats[i].length) : -1 ≤ seatAt b i j := by
 have h1 := List.all_eq_true.1 (bookB_parts hb).rows _ (List.getElem_mem hi)
 simp only [rowB, Bool.and_eq_true] at h1
 have h2 := List.all_eq_true.1 h1.2 _ (List.getElem_mem hj)
 simp only [withinB, decide_eq_true_eq] at h2
 have : seatAt b i j = b.seats[i][j] := by simp [seatAt, List.getD_eq_getElem?_getD, hi, hj]
 omega
theorem among_any (S : Nat → Prop) (l : List Int) (n : Int) (v : Value) (w : World) (hv : SL S w v l) :
  Calls Tryz.prog 62 #[v, .int .i64 n] w fun e w' => e = .returned (.bool (decide (n ∈ l))) ∧ Step w w' := by
 obtain ⟨px, kx, bx, ox, rfl, _, mx, hpx, hcx, _⟩ := hv.ints
 have HX := zH (And.intro hpx hcx)
 clear hv hpx hcx
 go_enter Tryz.func62, Tryz.ntmps62
 go_upto_region 2 with (fail)
 go_loopw [5] (fun i wr => ∃ k : Nat, k ≤ l.length ∧ i = .int .i64 k ∧ n ∉ l.take k ∧ Step w wr) (fun i _ => l.length - (intOf i).toNat)
 case atStart => exact ⟨0, Nat.zero_le _, rfl, by simp, Step.refl _⟩
 case round =>
  obtain ⟨k, hk, rfl, ht, hT⟩ := hrel
  have HA := zH ht
  have HT := zH hT
  clear ht hT
  by_cases hlt : k < l.length
  ·obtain rfl := HX.out.1 (by omega)
   have g1 := HX.out.2 k hlt
   have g1 := HT.out.kc g1
   have hix1 : (0 : Int) ≤ (k : Int) ∧ (k : Int) < (l.length : Int) := by omega
   obtain ⟨x, hx⟩ := (show ∃ x, l[k] = x from ⟨_, rfl⟩)
   rw [hx] at g1
   have HK := zH hx
   clear hx
   by_cases q1 : x = n
   ·have d1 : (x == n) = true := by rw [q1]; simp
    have HQ := zH (show n ∈ l by rw [← q1, ← HK.out]; exact List.getElem_mem hlt)
    clear q1
    go_wp2
    go_ret
    exact ⟨by rw [decide_eq_true HQ.out]; rfl, HT.out⟩
   ·have d1 : (x == n) = false := by rw [beq_eq_false_iff_ne]; exact q1
    have HF := zH (not_take hlt HA.out (show n ≠ l[k] by rw [HK.out]; exact fun e => q1 e.symm))
    clear q1
    go_wp2
    go_roundw
    case rel => exact ⟨k + 1, by omega, by go_num, HF.out, HT.out⟩
    case measure => simp [intOf]; omega
  ·have HE := zH (show n ∉ l by have := HA.out; rwa [List.take_of_length_le (by omega)] at this)
   clear HA
   go_wp2
   go_ret
   exact ⟨by rw [decide_eq_false HE.out]; rfl, HT.out⟩
theorem mess_bad {h : House} {l : List BT.Message} {k : Nat} (hk : k < l.length) (hb : messV h l[k] = false) : l.all (messV h) = false := by
 rw [List.all_eq_false]
 exact ⟨l[k], List.getElem_mem hk, by simp [hb]⟩
theorem mess_step {h : House} {l : List BT.Message} {k : Nat} (hk : k < l.length) (ht : (l.take k).all (messV h) = true) (hb : messV h l[k] = true) : (l.take (k + 1)).all (messV h) = true := by
 rw [List.take_succ_eq_append_getElem hk, List.all_append, ht]; simp [hb]
theorem RightWorld_any (S T : Nat → Prop) (h : House) (W : Wd) (v u : Value) (w : World) (hv : AV S w v h) (hu : AV T w u W) (hok : valid h = true) :
  Calls Tryz.prog 21 #[v, u] w fun e w' => e = .returned (.bool (worldB h W)) ∧ Step w w' := by
 have HH0 := zH hv
 obtain ⟨c0, c1, c2, c3, c4, rfl, h0, h1, h2, h3, h4⟩ := hv.house
 obtain ⟨p0, k0, rfl⟩ := h0.form
 obtain ⟨p1, k1, rfl⟩ := h1.form
 obtain ⟨p2, k2, rfl⟩ := h2.form
 obtain ⟨p3, k3, rfl⟩ := h3.form
 obtain ⟨p4, k4, rfl⟩ := h4.form
 obtain ⟨b0, b1, rfl, s0, s1⟩ := hu.wd
 obtain ⟨pb, kb, bb, bo, rfl, _, _, hpb, hcb, _⟩ := s0.books
 obtain ⟨pm, km, bm, mo, rfl, _, hlm, hpm, hcm, _⟩ := s1.mess
 obtain ⟨W0, hW0⟩ : ∃ z9, z9 = (w.alloc (.cells #[.slice p0 h.sectors.length k0, .slice p1 h.prices.length k1, .slice p2 h.dates.length k2, .slice p3 h.frm.length k3, .slice p4 h.holds.length k4] 26)).alloc (.cells #[.slice pb W.books.length kb, .slice pm W.msgs.length km] 49) := ⟨_, rfl⟩
 have hS : Step w W0 := by subst hW0; exact (by with_reducible repeat (first | assumption | exact Step.refl _ | apply Step.s_alloc | apply Step.s_drew | apply Step.s_drewN | refine Step.trans ?_ (by assumption)))
 have hb0 : Bx W0 w.heap.size [.slice p0 h.sectors.length k0, .slice p1 h.prices.length k1, .slice p2 h.dates.length k2, .slice p3 h.frm.length k3, .slice p4 h.holds.length k4] 26 := by subst hW0; exact (Bx.new _ [_, _, _, _, _] _).alloc _
 have hb1 : Bx W0 (w.heap.size + 1) [.slice pb W.books.length kb, .slice pm W.msgs.length km] 49 := by subst hW0; exact Bx.new' _ [_, _] _ _ (by simp)
 have HS := zH hS
 have HB := zH hb0
 have HB1 := zH hb1
 have HC := zH (And.intro hpb hcb)
 have HCM := zH (And.intro hpm hcm)
 have HLM := zH hlm
 have HV := zH hok
 have HW := zH hW0
 clear hv hu h0 h1 h2 h3 h4 s0 s1 hpb hcb hpm hcm hlm hS hb0 hb1 hW0 hok
 go_enter Tryz.func21, Tryz.ntmps21
 go_upto_region 1 with (fail)
 rw [← HW.out]
 clear HW
 obtain ⟨e0, e1, e2, e3, e4⟩ := cells5 HB.out
 obtain ⟨u0, u1⟩ : _ ∧ _ := ⟨HB1.out.cell 0, HB1.out.cell 1⟩
 simp only [zD, zE] at u0 u1
 refine wp_region_seqM (fun c d v a w h => by cases d <;> exact h) (kdOf [4] []) [0, 1, 3, 0, 8, 31] [0, 1, 2, 3, 4, 5] [] (by kernel_rfl) (by kernel_rfl) (fun i T z hi hk => by simp [kdOf] at hk <;> (try (split at hk <;> cases hk))) ?_
 intro Wx hWx
 have e0 := (hWx).kc e0; have e1 := (hWx).kc e1; have e2 := (hWx).kc e2; have e3 := (hWx).kc e3; have e4 := (hWx).kc e4; have u0 := (hWx).kc u0; have u1 := (hWx).kc u1
 repeat ((first | (refine run_off rfl rfl (by rfl) ?_) | (refine run_chain_off rfl rfl (by rfl) (K0_mono _) ?_) | ((refine run_want rfl rfl (by rfl) ⟨?_, fun W hW => ?_, ?_⟩; rotate_left; (· (have d0 := hW.kc e0; have d1 := hW.kc e1; have d2 := hW.kc e2; have d3 := hW.kc e3; have d4 := hW.kc e4; have d5 := hW.kc u0; have d6 := hW.kc u1; go_simp; (try with_reducible rfl)))))); (try simp only [Act.put, zA, zB, zC]))
 refine run_chain rfl rfl (by rfl) (fun Wi hWi K' hK => ?_)
 have HTi := zH (hWx.trans hWi)
 clear hWx
 have hcall := Agencies_any S h _ Wi (HH0.out.keep (.of_step (HS.out.trans HTi.out))) (by have := bounds_valid HV.out; omega)
 have HCALL := zH hcall
 clear hcall
 go_simp
 refine HCALL.out.mono ?_
 rintro e wn2 ⟨rfl, hSn⟩
 clear HCALL
 refine hK _ _ (StepX.of hSn) ?_
 have HT := zH (HTi.out.trans hSn)
 clear hSn hK HTi hWi e0 e1 e2 e3 e4 u0 u1
 by_cases ql : W.books.length = agN h
 rotate_left
 ·have d1 : ((W.books.length : Int) != (agN h : Int)) = true := by rw [bne_iff_ne]; omega
  have HF := zH (show worldB h W = false by simp [worldB, ql])
  clear ql
  (try simp only [Act.put, zA, zB, zC])
  repeat ((first | (refine run_off rfl rfl (by rfl) ?_) | (refine run_chain_off rfl rfl (by rfl) (K0_mono _) ?_) | ((refine run_want rfl rfl (by rfl) ⟨?_, fun W hW => ?_, ?_⟩; rotate_left; (· (skip; go_simp; (try with_reducible rfl)))))); (try simp only [Act.put, zA, zB, zC]))
  refine run_end (L := []) rfl (fun Wy hWy => ?_)
  go_wp2
  go_ret
  exact ⟨by rw [HF.out]; rfl, HS.out.trans (HT.out.trans hWy)⟩
 have d1 : ((W.books.length : Int) != (agN h : Int)) = false := by rw [ql]; simp
 have HL := zH ql
 clear ql
 (try simp only [Act.put, zA, zB, zC])
 repeat ((first | (refine run_off rfl rfl (by rfl) ?_) | (refine run_chain_off rfl rfl (by rfl) (K0_mono _) ?_) | ((refine run_want rfl rfl (by rfl) ⟨?_, fun W hW => ?_, ?_⟩; rotate_left; (· (skip; go_simp; (try with_reducible rfl)))))); (try simp only [Act.put, zA, zB, zC]))
 refine run_end (L := []) rfl (fun Wy hWy => ?_)
 have HTy := zH (HT.out.trans hWy)
 clear hWy HT d1
 have hl6 : W.books.length ≤ 6 := by have := bounds_valid HV.out; have := HL.out; omega
 go_upto_region 4 with (fail)
 go_loopw [5] (fun iv wr => ∃ k : Nat, k ≤ W.books.length ∧ iv = .int .i64 k ∧ (List.range k).all (okA h W) = true ∧ Step W0 wr) (fun iv _ => W.books.length - (intOf iv).toNat)
 case atStart => exact ⟨0, Nat.zero_le _, rfl, by simp, HTy.out⟩
 case round =>
  obtain ⟨k, hk, rfl, ht, hT⟩ := hrel
  have HA := zH ht
  have HT := zH hT
  clear ht hT
  obtain ⟨u0, u1⟩ : _ ∧ _ := ⟨(HB1.out.step HT.out).cell 0, (HB1.out.step HT.out).cell 1⟩
  simp only [zD, zE] at u0 u1
  by_cases hlt : k < W.books.length
  ·obtain rfl := HC.out.1 (by omega)
   obtain ⟨z1, z2, z4, ⟨f0, f1, f2, f3, f4, f5⟩, t1, t2, t4⟩ := HC.out.2 k hlt
   obtain ⟨b, hb⟩ : ∃ b, b = W.books[k] := ⟨_, rfl⟩
   have hbq : bk W k = b := by rw [hb]; exact bk_at hlt
   rw [← hb] at f0 f3 f5 t1 t2 t4
   obtain ⟨r1, n1, e1⟩ := t1.form
   obtain ⟨r2, n2, e2⟩ := t2.form
   obtain ⟨r4, n4, e4⟩ := t4.form
   subst e1 e2 e4
   have HX := zH (show AV T w (.agg #[.int .i64 b.agency, .slice r1 b.seats.length n1, .slice r2 b.off.length n2, .int .i64 b.sent, .slice r4 b.took.length n4, .int .i64 b.cash]) b from ⟨_, rfl, _, _, _, rfl, t1, t2, t4⟩)
   have HBQ := zH hbq
   have f0 := (HS.out.trans HT.out).kc f0; have f1 := (HS.out.trans HT.out).kc f1; have f2 := (HS.out.trans HT.out).kc f2; have f3 := (HS.out.trans HT.out).kc f3; have f4 := (HS.out.trans HT.out).kc f4; have f5 := (HS.out.trans HT.out).kc f5
   clear t1 t2 t4 hb hbq
   have hix : (0 : Int) ≤ (k : Int) ∧ (k : Int) < (W.books.length : Int) := by omega
   go_upto_region 6 with (fail)
   obtain ⟨e0, e1, e2, e3, e4⟩ := cells5 (HB.out.step HT.out)
   refine wp_region_seqM (fun c d v a w h => by cases d <;> exact h) (kdOf [6] []) [0, 0, 2, 0, 14, 30, 63, 127, 255, 511, 1023, 511, 4095, 8191, 16383, 511, 65535, 131071] [0, 1, 2, 3, 4, 5, 6, 7, 8, 9, 10, 11, 12, 13, 14, 15, 16, 17] [] (by kernel_rfl) (by kernel_rfl) (fun i T z hi hk => by simp [kdOf] at hk <;> (try (split at hk <;> cases hk))) ?_
   intro Wx hWx
   have e0 := (hWx).kc e0; have e1 := (hWx).kc e1; have e2 := (hWx).kc e2; have e3 := (hWx).kc e3; have e4 := (hWx).kc e4; have u0 := (hWx).kc u0; have u1 := (hWx).kc u1; have f0 := (hWx).kc f0; have f1 := (hWx).kc f1; have f2 := (hWx).kc f2; have f3 := (hWx).kc f3; have f4 := (hWx).kc f4; have f5 := (hWx).kc f5
   repeat ((first | (refine run_off rfl rfl (by rfl) ?_) | (refine run_chain_off rfl rfl (by rfl) (K0_mono _) ?_) | ((refine run_want rfl rfl (by rfl) ⟨?_, fun W hW => ?_, ?_⟩; rotate_left; (· (have d0 := hW.kc e0; have d1 := hW.kc e1; have d2 := hW.kc e2; have d3 := hW.kc e3; have d4 := hW.kc e4; have d5 := hW.kc u0; have d6 := hW.kc u1; have d7 := hW.kc f0; have d8 := hW.kc f1; have d9 := hW.kc f2; have d10 := hW.kc f3; have d11 := hW.kc f4; have d12 := hW.kc f5; go_simp; (try with_reducible rfl)))))); (try simp only [Act.put, zA, zB, zC]))
   refine run_chain rfl rfl (by rfl) (fun Wi hWi K' hK => ?_)
   have HTi := zH ((HT.out.trans hWx).trans hWi)
   clear hWx
   go_simp
   refine (RightBook_any (fun _ => False) h b _ _ _ (AV.weak (fun _ _ h => h.elim) (HH0.out.keep (.of_step (HS.out.trans HTi.out)))) (AV.weak (fun _ _ h => h.elim) (HX.out.keep (.of_step (HS.out.trans HTi.out)))) HV.out).mono ?_
   rintro e wn ⟨rfl, hSn⟩
   refine hK _ _ (StepX.of hSn) ?_
   have HTn := zH (HTi.out.trans hSn)
   have u0 := (hWi.trans hSn).kc u0; have u1 := (hWi.trans hSn).kc u1; have f0 := (hWi.trans hSn).kc f0; have f1 := (hWi.trans hSn).kc f1; have f2 := (hWi.trans hSn).kc f2; have f3 := (hWi.trans hSn).kc f3; have f4 := (hWi.trans hSn).kc f4; have f5 := (hWi.trans hSn).kc f5
   clear hSn hK HTi hWi e0 e1 e2 e3 e4
   cases qb : bookB h b with
   | false =>
    have HF := zH (show worldB h W = false by
     have := okA_bad (h := h) (W := W) hlt (by simp [okA, HBQ.out, qb])
     simp only [worldB, this]; simp)
    clear qb
    (try simp only [Act.put, zA, zB, zC])
    repeat ((first | (refine run_off rfl rfl (by rfl) ?_) | (refine run_chain_off rfl rfl (by rfl) (K0_mono _) ?_) | ((refine run_want rfl rfl (by rfl) ⟨?_, fun W hW => ?_, ?_⟩; rotate_left; (· (have d0 := hW.kc u0; have d1 := hW.kc u1; have d2 := hW.kc f0; have d3 := hW.kc f1; have d4 := hW.kc f2; have d5 := hW.kc f3; have d6 := hW.kc f4; have d7 := hW.kc f5; go_simp; (try with_reducible rfl)))))); (try simp only [Act.put, zA, zB, zC]))
    refine run_end (L := []) rfl (fun Wy hWy => ?_)
    have HTy := zH (HTn.out.trans hWy)
    clear hWy
    go_wp2
    go_ret
    exact ⟨by rw [HF.out]; rfl, HS.out.trans HTy.out⟩
   | true =>
   have HQB := zH qb
   clear qb
   by_cases qa : b.agency = k
   rotate_left
   ·have d1 : (b.agency != (k : Int)) = true := by rw [bne_iff_ne]; exact qa
    have HF := zH (show worldB h W = false by
     have := okA_bad (h := h) (W := W) hlt (by simp [okA, HBQ.out, qa])
     simp only [worldB, this]; simp)
    clear qa
    (try simp only [Act.put, zA, zB, zC])
    repeat ((first | (refine run_off rfl rfl (by rfl) ?_) | (refine run_chain_off rfl rfl (by rfl) (K0_mono _) ?_) | ((refine run_want rfl rfl (by rfl) ⟨?_, fun W hW => ?_, ?_⟩; rotate_left; (· (have d0 := hW.kc u0; have d1 := hW.kc u1; have d2 := hW.kc f0; have d3 := hW.kc f1; have d4 := hW.kc f2; have d5 := hW.kc f3; have d6 := hW.kc f4; have d7 := hW.kc f5; go_simp; (try with_reducible rfl)))))); (try simp only [Act.put, zA, zB, zC]))
    refine run_end (L := []) rfl (fun Wy hWy => ?_)
    have HTy := zH (HTn.out.trans hWy)
    clear hWy
    go_wp2
    go_ret
    exact ⟨by rw [HF.out]; rfl, HS.out.trans HTy.out⟩
   have d1 : (b.agency != (k : Int)) = false := by rw [qa]; simp
   have HN := zH (okA_step (h := h) (W := W) HA.out (show okA h W k = true by simp [okA, HBQ.out, qa, HQB.out]))
   clear qa
   (try simp only [Act.put, zA, zB, zC])
   repeat ((first | (refine run_off rfl rfl (by rfl) ?_) | (refine run_chain_off rfl rfl (by rfl) (K0_mono _) ?_) | ((refine run_want rfl rfl (by rfl) ⟨?_, fun W hW => ?_, ?_⟩; rotate_left; (· (have d0 := hW.kc u0; have d1 := hW.kc u1; have d2 := hW.kc f0; have d3 := hW.kc f1; have d4 := hW.kc f2; have d5 := hW.kc f3; have d6 := hW.kc f4; have d7 := hW.kc f5; go_simp; (try with_reducible rfl)))))); (try simp only [Act.put, zA, zB, zC]))
   refine run_end (L := []) rfl (fun Wy hWy => ?_)
   have HTy := zH (HTn.out.trans hWy)
   clear hWy HTn u0 u1 f0 f1 f2 f3 f4 f5 d1
   go_wp2
   go_roundw
   case rel => exact ⟨k + 1, by omega, by go_num, HN.out, HTy.out⟩
   case measure => simp [intOf]; omega
  ·have HAA := zH (show (List.range W.books.length).all (okA h W) = true by
    have e : k = W.books.length := by omega
    rw [← e]; exact HA.out)
   clear HA
   go_upto_region 9 with (fail)
   clear u0 u1
   go_loopw [6] (fun iv wr => ∃ k : Nat, k ≤ W.msgs.length ∧ iv = .int .i64 k ∧ (W.msgs.take k).all (messV h) = true ∧ Step W0 wr) (fun iv _ => W.msgs.length - (intOf iv).toNat)
   case atStart => exact ⟨0, Nat.zero_le _, rfl, by simp, HT.out⟩
   case round =>
    obtain ⟨k, hk, rfl, ht, hT⟩ := hrel
    have HA := zH ht
    have HT := zH hT
    clear ht hT
    obtain ⟨u0, u1⟩ : _ ∧ _ := ⟨(HB1.out.step HT.out).cell 0, (HB1.out.step HT.out).cell 1⟩
    simp only [zD, zE] at u0 u1
    by_cases hlt : k < W.msgs.length
    ·obtain rfl := HCM.out.1 (by omega)
     obtain ⟨c4, ⟨g0, g1, g2, g3, g4⟩, s4⟩ := HCM.out.2 k hlt
     obtain ⟨p4, k4', e4⟩ := s4.form
     subst e4
     have HM := zH (show AV T w (.agg #[.int .i64 W.msgs[k].frm, .int .i64 W.msgs[k].dst, .int .i64 W.msgs[k].number, .int .i64 W.msgs[k].shw, .slice p4 W.msgs[k].seats.length k4']) W.msgs[k] from ⟨_, rfl, _, rfl, s4⟩)
     have g0 := (HS.out.trans HT.out).kc g0; have g1 := (HS.out.trans HT.out).kc g1; have g2 := (HS.out.trans HT.out).kc g2; have g3 := (HS.out.trans HT.out).kc g3; have g4 := (HS.out.trans HT.out).kc g4
     clear s4
     have hix : (0 : Int) ≤ (k : Int) ∧ (k : Int) < (W.msgs.length : Int) := by omega
     go_upto_region 11 with (fail)
     obtain ⟨e0, e1, e2, e3, e4⟩ := cells5 (HB.out.step HT.out)
     refine wp_region_seqM (fun c d v a w h => by cases d <;> exact h) (kdOf [6] []) [0, 0, 2, 0, 14, 30, 63, 127] [0, 1, 2, 3, 4, 5, 6, 7] [] (by kernel_rfl) (by kernel_rfl) (fun i T z hi hk => by simp [kdOf] at hk <;> (try (split at hk <;> cases hk))) ?_
     intro Wx hWx
     have e0 := (hWx).kc e0; have e1 := (hWx).kc e1; have e2 := (hWx).kc e2; have e3 := (hWx).kc e3; have e4 := (hWx).kc e4; have u0 := (hWx).kc u0; have u1 := (hWx).kc u1; have g0 := (hWx).kc g0; have g1 := (hWx).kc g1; have g2 := (hWx).kc g2; have g3 := (hWx).kc g3; have g4 := (hWx).kc g4
     repeat ((first | (refine run_off rfl rfl (by rfl) ?_) | (refine run_chain_off rfl rfl (by rfl) (K0_mono _) ?_) | ((refine run_want rfl rfl (by rfl) ⟨?_, fun W hW => ?_, ?_⟩; rotate_left; (· (have d0 := hW.kc e0; have d1 := hW.kc e1; have d2 := hW.kc e2; have d3 := hW.kc e3; have d4 := hW.kc e4; have d5 := hW.kc u0; have d6 := hW.kc u1; have d7 := hW.kc g0; have d8 := hW.kc g1; have d9 := hW.kc g2; have d10 := hW.kc g3; have d11 := hW.kc g4; go_simp; (try with_reducible rfl)))))); (try simp only [Act.put, zA, zB, zC]))
     refine run_chain rfl rfl (by rfl) (fun Wi hWi K' hK => ?_)
     have HTi := zH ((HT.out.trans hWx).trans hWi)
     clear hWx
     go_simp
     refine (RightMessage_any S T h W.msgs[k] _ _ _ (HH0.out.keep (.of_step (HS.out.trans HTi.out))) (HM.out.keep (.of_step (HS.out.trans HTi.out))) HV.out).mono ?_
     rintro e wn ⟨rfl, hSn⟩
     refine hK _ _ (StepX.of hSn) ?_
     have HTn := zH (HTi.out.trans hSn)
     clear hSn hK HTi hWi e0 e1 e2 e3 e4 u0 u1 g0 g1 g2 g3 g4
     cases qb : messV h W.msgs[k] with
     | false =>
      have HF := zH (show worldB h W = false by
       have := mess_bad hlt qb
       simp only [worldB, this]; simp)
      clear qb
      (try simp only [Act.put, zA, zB, zC])
      repeat ((first | (refine run_off rfl rfl (by rfl) ?_) | (refine run_chain_off rfl rfl (by rfl) (K0_mono _) ?_) | ((refine run_want rfl rfl (by rfl) ⟨?_, fun W hW => ?_, ?_⟩; rotate_left; (· (skip; go_simp; (try with_reducible rfl)))))); (try simp only [Act.put, zA, zB, zC]))
      refine run_end (L := []) rfl (fun Wy hWy => ?_)
      have HTy := zH (HTn.out.trans hWy)
      clear hWy
      go_wp2
      go_ret
      exact ⟨by rw [HF.out]; rfl, HS.out.trans HTy.out⟩
     | true =>
      have HN := zH (mess_step hlt HA.out qb)
      clear qb
      (try simp only [Act.put, zA, zB, zC])
      repeat ((first | (refine run_off rfl rfl (by rfl) ?_) | (refine run_chain_off rfl rfl (by rfl) (K0_mono _) ?_) | ((refine run_want rfl rfl (by rfl) ⟨?_, fun W hW => ?_, ?_⟩; rotate_left; (· (skip; go_simp; (try with_reducible rfl)))))); (try simp only [Act.put, zA, zB, zC]))
      refine run_end (L := []) rfl (fun Wy hWy => ?_)
      have HTy := zH (HTn.out.trans hWy)
      clear hWy HTn
      have hl9 := HLM.out
      go_wp2
      go_roundw
      case rel => exact ⟨k + 1, by omega, by go_num, HN.out, HTy.out⟩
      case measure => simp [intOf]; omega
    ·have HF := zH (show worldB h W = true by
      have h1 := HA.out
      rw [List.take_of_length_le (by omega)] at h1
      unfold worldB; rw [HV.out, h1, HAA.out, decide_eq_true HL.out]; rfl)
     clear HA HAA
     go_wp2
     go_ret
     exact ⟨by rw [HF.out]; rfl, HS.out.trans HT.out⟩
def firstL (l : List Int) : Int := l.headD (-1)
theorem firstL_app (l : List Int) (x : Int) (h : firstL l < 0) (hn : ∀ y ∈ l, 0 ≤ y) : firstL (l ++ [x]) = x := by
 cases l with
 | nil => rfl
 | cons y t => have := hn y List.mem_cons_self; simp [firstL] at h; omega
theorem firstL_keep (l : List Int) (x : Int) (h : ¬ firstL l < 0) : firstL (l ++ [x]) = firstL l := by
 cases l with
 | nil => simp [firstL] at h
 | cons y t => rfl
theorem numsB_nn {p : Nat → Bool} {k : Nat} : ∀ y ∈ numsB p k, 0 ≤ y := by
 intro y hy
 unfold numsB at hy
 obtain ⟨a, _, rfl⟩ := List.mem_map.1 hy
 omega
theorem Places_any (S T : Nat → Prop) (h : House) (W : Wd) (k j : Nat) (v u : Value) (w : World) (hv : AV S w v h) (hu : AV T w u W) (hok : worldB h W = true) (hk : k < h.dates.length) (hj : (j : Int) < sizeL h.sectors) (hl2 : W.msgs.length ≤ 1000000) :
  Calls Tryz.prog 24 #[v, u, .int .i64 k, .int .i64 j] w fun e w' => e = .returned (.tuple #[.int .i64 ((numsB (agsP W k j) W.books.length).length + (numsB (mgsP W k j) W.msgs.length).length : Nat), .int .i64 (firstL (numsB (agsP W k j) W.books.length)), .int .i64 (firstL (numsB (mgsP W k j) W.msgs.length))]) ∧ Step w w' := by
 have F := worldB_parts hok
 have hb6 : W.books.length ≤ 6 := by have := bounds_valid F.val; have := F.len; omega
 obtain ⟨c0, c1, c2, c3, c4, rfl, h0, h1, h2, h3, h4⟩ := hv.house
 obtain ⟨p0, k0, rfl⟩ := h0.form
 obtain ⟨p1, k1, rfl⟩ := h1.form
 obtain ⟨p2, k2, rfl⟩ := h2.form
 obtain ⟨p3, k3, rfl⟩ := h3.form
 obtain ⟨p4, k4, rfl⟩ := h4.form
 obtain ⟨b0, b1, rfl, s0, s1⟩ := hu.wd
 obtain ⟨pb, kb, bb, bo, rfl, _, _, hpb, hcb, _⟩ := s0.books
 obtain ⟨pm, km, bm, mo, rfl, _, hlm, hpm, hcm, _⟩ := s1.mess
 obtain ⟨W0, hW0⟩ : ∃ z9, z9 = (w.alloc (.cells #[.slice p0 h.sectors.length k0, .slice p1 h.prices.length k1, .slice p2 h.dates.length k2, .slice p3 h.frm.length k3, .slice p4 h.holds.length k4] 26)).alloc (.cells #[.slice pb W.books.length kb, .slice pm W.msgs.length km] 49) := ⟨_, rfl⟩
 have hS : Step w W0 := by subst hW0; exact (by with_reducible repeat (first | assumption | exact Step.refl _ | apply Step.s_alloc | apply Step.s_drew | apply Step.s_drewN | refine Step.trans ?_ (by assumption)))
 have hb1 : Bx W0 (w.heap.size + 1) [.slice pb W.books.length kb, .slice pm W.msgs.length km] 49 := by subst hW0; exact Bx.new' _ [_, _] _ _ (by simp)
 have HS := zH hS
 have HB1 := zH hb1
 have HC := zH (And.intro hpb hcb)
 have HCM := zH (And.intro hpm hcm)
 have HV := zH (And.intro F hj)
 have HW := zH hW0
 clear hv hu h0 h1 h2 h3 h4 s0 s1 hpb hcb hpm hcm hlm hS hb1 hW0 hok F hj
 go_enter Tryz.func24, Tryz.ntmps24
 go_upto_region 1 with (fail)
 rw [← HW.out]
 clear HW
 go_upto_region 3 with (fail)
 have HT := zH (Step.refl W0)
 go_loopw [11, 12, 14] (fun v1 v2 iv wr => ∃ a : Nat, a ≤ W.books.length ∧ iv = .int .i64 a ∧ v1 = .int .i64 (numsB (agsP W k j) a).length ∧ v2 = .int .i64 (firstL (numsB (agsP W k j) a)) ∧ Step W0 wr) (fun _ _ iv _ => W.books.length - (intOf iv).toNat)
 case atStart => exact ⟨0, Nat.zero_le _, rfl, rfl, rfl, HT.out⟩
 case round =>
  obtain ⟨a, ha, rfl, rfl, rfl, hT⟩ := hrel
  clear HT
  have HT := zH hT
  clear hT
  obtain ⟨u0, u1⟩ : _ ∧ _ := ⟨(HB1.out.step HT.out).cell 0, (HB1.out.step HT.out).cell 1⟩
  simp only [zD, zE] at u0 u1
  have hlen := numsB_len (agsP W k j) a
  by_cases hat : a < W.books.length
  ·obtain rfl := HC.out.1 (by omega)
   obtain ⟨z1, z2, z4, ⟨_, f1, _, _, _, _⟩, t1, t2, t4⟩ := HC.out.2 a hat
   have hbv := HV.out.1.book a hat
   obtain ⟨b, hb⟩ : ∃ b, b = W.books[a] := ⟨_, rfl⟩
   have hbq : bk W a = b := by rw [hb]; exact bk_at hat
   rw [← hb] at t1 hbv
   have P := bookB_parts hbv.2
   have his : k < b.seats.length := by rw [P.seats]; exact hk
   have hjs : j < b.seats[k].length := by
    have h1 := List.all_eq_true.1 P.rows _ (List.getElem_mem his)
    simp only [rowB, Bool.and_eq_true, decide_eq_true_eq] at h1
    have := h1.1
    have := HV.out.2
    omega
   have hge := seat_nn hbv.2 his hjs
   obtain ⟨sb, so, sk, tb, tp, tk, rfl, g1, g2⟩ := t1.seat his hjs
   obtain ⟨x, hx⟩ : ∃ x, x = seatAt b k j := ⟨_, rfl⟩
   rw [← hx] at g2 hge
   have hag : agsP W k j a = decide (x ≠ -1) := by unfold agsP; rw [hbq, ← hx]
   obtain ⟨n1, hn1⟩ : ∃ n, n = b.seats[k].length := ⟨_, rfl⟩
   obtain ⟨n0, hn0⟩ : ∃ n, n = b.seats.length := ⟨_, rfl⟩
   rw [← hn1] at g1 hjs
   rw [← hn0] at f1 his
   have f1 := (HS.out.trans HT.out).kc f1; have g1 := (HS.out.trans HT.out).kc g1; have g2 := (HS.out.trans HT.out).kc g2
   have hixa : (0 : Int) ≤ (a : Int) ∧ (a : Int) < (W.books.length : Int) := by omega
   have hixs : (0 : Int) ≤ (k : Int) ∧ (k : Int) < (n0 : Int) := by omega
   have hixj : (0 : Int) ≤ (j : Int) ∧ (j : Int) < (n1 : Int) := by omega
   clear hn1 hn0 hx hb hbq t2 t4 hbv P
   cases qa : agsP W k j a with
   | false =>
    have hd : decide ((0 : Int) ≤ x) = false := by
     rw [qa] at hag
     have : ¬ x ≠ -1 := of_decide_eq_false hag.symm
     exact decide_eq_false (by omega)
    have HN1 := zH (show numsB (agsP W k j) (a + 1) = numsB (agsP W k j) a from numsB_no qa)
    clear hag qa hge
    go_wp2
    go_roundw
    case rel => exact ⟨a + 1, by omega, by go_num, by rw [HN1.out], by rw [HN1.out], HT.out⟩
    case measure => simp [intOf]; omega
   | true =>
    have hd : decide ((0 : Int) ≤ x) = true := by
     rw [qa] at hag
     have : x ≠ -1 := of_decide_eq_true hag.symm
     exact decide_eq_true (by omega)
    have HN1 := zH (show numsB (agsP W k j) (a + 1) = numsB (agsP W k j) a ++ [(a : Int)] from numsB_yes qa)
    clear hag qa hge
    obtain ⟨L, hL⟩ : ∃ L, L = numsB (agsP W k j) a := ⟨_, rfl⟩
    have HLN := zH (show ∀ y ∈ L, 0 ≤ y by rw [hL]; exact numsB_nn)
    rw [← hL] at hlen HN1 ⊢
    clear hL
    by_cases qf : firstL L < 0
    ·have df : decide (firstL L < 0) = true := decide_eq_true qf
     have HF2 := zH (firstL_app L a qf HLN.out)
     clear qf
     go_wp2
     go_roundw
     case rel => exact ⟨a + 1, by omega, by go_num, by rw [HN1.out]; simp, by rw [HN1.out, HF2.out], HT.out⟩
     case measure => simp [intOf]; omega
    ·have df : decide (firstL L < 0) = false := decide_eq_false qf
     have HF2 := zH (firstL_keep L a qf)
     clear qf
     go_wp2
     go_roundw
     case rel => exact ⟨a + 1, by omega, by go_num, by rw [HN1.out]; simp, by rw [HN1.out, HF2.out], HT.out⟩
     case measure => simp [intOf]; omega
  ·obtain rfl : a = W.books.length := by omega
   obtain ⟨LA, hLA⟩ : ∃ L, L = numsB (agsP W k j) W.books.length := ⟨_, rfl⟩
   rw [← hLA] at hlen ⊢
   obtain ⟨cn, hcn⟩ : ∃ c, c = LA.length := ⟨_, rfl⟩
   obtain ⟨fl, hfl⟩ : ∃ c, c = firstL LA := ⟨_, rfl⟩
   rw [← hcn] at hlen ⊢
   rw [← hfl]
   have HLA := zH (show cn = (numsB (agsP W k j) W.books.length).length ∧ fl = firstL (numsB (agsP W k j) W.books.length) from ⟨by rw [hcn, hLA], by rw [hfl, hLA]⟩)
   clear hcn hfl hat hLA
   go_upto_region 10 with (fail)
   clear u0 u1
   go_loopw [11, 13, 15] (fun v1 v2 iv wr => ∃ a : Nat, a ≤ W.msgs.length ∧ iv = .int .i64 a ∧ v1 = .int .i64 ((cn : Int) + ((numsB (mgsP W k j) a).length : Int)) ∧ v2 = .int .i64 (firstL (numsB (mgsP W k j) a)) ∧ Step W0 wr) (fun _ _ iv _ => W.msgs.length - (intOf iv).toNat)
   case atStart => exact ⟨0, Nat.zero_le _, rfl, by rw [numsB_zero]; simp, rfl, HT.out⟩
   case round =>
    obtain ⟨a, ha, rfl, rfl, rfl, hT⟩ := hrel
    clear HT
    have HT := zH hT
    clear hT
    obtain ⟨u0, u1⟩ : _ ∧ _ := ⟨(HB1.out.step HT.out).cell 0, (HB1.out.step HT.out).cell 1⟩
    simp only [zD, zE] at u0 u1
    have hlen2 := numsB_len (mgsP W k j) a
    by_cases hat : a < W.msgs.length
    ·obtain rfl := HCM.out.1 (by omega)
     obtain ⟨x4, ⟨g0, g1, g2, g3, g4⟩, s4⟩ := HCM.out.2 a hat
     obtain ⟨dn, hdn, hdl, _, _⟩ := dst_in HV.out.1.len (HV.out.1.msg a hat)
     obtain ⟨m, hm⟩ : ∃ m, m = W.msgs[a] := ⟨_, rfl⟩
     have hmq : ms W a = m := by rw [hm]; exact ms_at hat
     rw [← hm] at g0 g1 g2 g3 s4 hdn
     obtain ⟨r4, l4, e4⟩ := s4.form
     subst e4
     have HM := zH (show AV T w (.agg #[.int .i64 m.frm, .int .i64 m.dst, .int .i64 m.number, .int .i64 m.shw, .slice r4 m.seats.length l4]) m from ⟨_, rfl, _, rfl, s4⟩)
     have HMS := zH s4
     obtain rfl := HC.out.1 (by omega)
     obtain ⟨z1, z2, z4, ⟨f0, f1, f2, f3, f4, f5⟩, t1, t2, t4⟩ := HC.out.2 dn hdl
     obtain ⟨b, hb⟩ : ∃ b, b = W.books[dn] := ⟨_, rfl⟩
     have hbq : bk W dn = b := by rw [hb]; exact bk_at hdl
     rw [← hb] at f0 f3 f5 t1 t2 t4
     obtain ⟨r1, n1, e1⟩ := t1.form
     obtain ⟨r2, n2, e2⟩ := t2.form
     obtain ⟨r5, n5, e5⟩ := t4.form
     subst e1 e2 e5
     have HX := zH (show AV T w (.agg #[.int .i64 b.agency, .slice r1 b.seats.length n1, .slice r2 b.off.length n2, .int .i64 b.sent, .slice r5 b.took.length n5, .int .i64 b.cash]) b from ⟨_, rfl, _, _, _, rfl, t1, t2, t4⟩)
     have HMG := zH (show mgsP W k j a = (decide (m.shw = k) && (decide ((j : Int) ∈ m.seats) && !hasK b.took (keyOf m))) by
      unfold mgsP carriesB
      rw [hmq, show m.dst.toNat = dn by omega, hbq])
     have HDN := zH hdn
     have g0 := (HS.out.trans HT.out).kc g0; have g1 := (HS.out.trans HT.out).kc g1; have g2 := (HS.out.trans HT.out).kc g2; have g3 := (HS.out.trans HT.out).kc g3; have g4 := (HS.out.trans HT.out).kc g4; have f0 := (HS.out.trans HT.out).kc f0; have f1 := (HS.out.trans HT.out).kc f1; have f2 := (HS.out.trans HT.out).kc f2; have f3 := (HS.out.trans HT.out).kc f3; have f4 := (HS.out.trans HT.out).kc f4; have f5 := (HS.out.trans HT.out).kc f5
     have hixa : (0 : Int) ≤ (a : Int) ∧ (a : Int) < (W.msgs.length : Int) := by omega
     clear t1 t2 t4 s4 hm hmq hb hbq hdn
     go_upto_region 13 with (fail)
     obtain ⟨W7, hW7⟩ : ∃ z9, z9 = wr.alloc (.cells #[.int .i64 m.frm, .int .i64 m.dst, .int .i64 m.number, .int .i64 m.shw, .slice r4 m.seats.length l4] 58) := ⟨_, rfl⟩
     have hb7 : Bx W7 wr.heap.size [.int .i64 m.frm, .int .i64 m.dst, .int .i64 m.number, .int .i64 m.shw, .slice r4 m.seats.length l4] 58 := by subst hW7; exact Bx.new _ [_, _, _, _, _] _
     have hS7 : Step wr W7 := by subst hW7; exact Step.alloc _ _
     rw [← hW7]
     obtain ⟨g9, hg9⟩ : ∃ g, g = wr.heap.size := ⟨_, rfl⟩
     rw [← hg9] at hb7 ⊢
     have HT7 := zH (HT.out.trans hS7)
     have u0 := (hS7).kc u0; have u1 := (hS7).kc u1; have f0 := (hS7).kc f0; have f1 := (hS7).kc f1; have f2 := (hS7).kc f2; have f3 := (hS7).kc f3; have f4 := (hS7).kc f4; have f5 := (hS7).kc f5
     clear g0 g1 g2 g3 g4 hW7 hg9
     obtain ⟨m0, m1, m2, m3, m4⟩ := cells5 hb7
     clear hb7 hS7
     rw [HDN.out] at m1
     have hixd : (0 : Int) ≤ (dn : Int) ∧ (dn : Int) < (W.books.length : Int) := by omega
     by_cases qs : m.shw = k
     ·have d1 : (m.shw == (k : Int)) = true := by rw [qs]; simp
      have HQS := zH qs
      clear qs
      refine wp_region_seqM (fun c d v a w h => by cases d <;> exact h) (kdOf [8, 18] []) [0, 1, 0, 7, 15, 31, 63, 31, 255, 511, 1023, 2047, 4095, 2047, 10239, 32767, 65535, 2047, 262143, 524287, 1048575] [0, 1, 2, 3, 4, 5, 6, 7, 8, 9, 10, 11, 12, 13, 14, 15, 16, 17, 18, 19, 20] [] (by kernel_rfl) (by kernel_rfl) (fun i T z hi hk => by simp [kdOf] at hk <;> (try (split at hk <;> cases hk))) ?_
      intro Wx hWx
      have u0 := (hWx).kc u0; have u1 := (hWx).kc u1; have m0 := (hWx).kc m0; have m1 := (hWx).kc m1; have m2 := (hWx).kc m2; have m3 := (hWx).kc m3; have m4 := (hWx).kc m4; have f0 := (hWx).kc f0; have f1 := (hWx).kc f1; have f2 := (hWx).kc f2; have f3 := (hWx).kc f3; have f4 := (hWx).kc f4; have f5 := (hWx).kc f5
      repeat ((first | (refine run_off rfl rfl (by rfl) ?_) | (refine run_chain_off rfl rfl (by rfl) (K0_mono _) ?_) | ((refine run_want rfl rfl (by rfl) ⟨?_, fun W hW => ?_, ?_⟩; rotate_left; (· (have d0 := hW.kc u0; have d1 := hW.kc u1; have d2 := hW.kc m0; have d3 := hW.kc m1; have d4 := hW.kc m2; have d5 := hW.kc m3; have d6 := hW.kc m4; have d7 := hW.kc f0; have d8 := hW.kc f1; have d9 := hW.kc f2; have d10 := hW.kc f3; have d11 := hW.kc f4; have d12 := hW.kc f5; go_simp; (try with_reducible rfl)))))); (try simp only [Act.put, zA, zB, zC]))
      refine run_chain rfl rfl (by rfl) (fun Wi hWi K' hK => ?_)
      have HTi := zH ((HT7.out.trans hWx).trans hWi)
      clear hWx
      go_simp
      refine (among_any T m.seats j _ _ (HMS.out.keep (.of_step (HS.out.trans HTi.out)))).mono ?_
      rintro e wn ⟨rfl, hSn⟩
      refine hK _ _ (StepX.of hSn) ?_
      have HTn := zH (HTi.out.trans hSn)
      have u0 := (hWi.trans hSn).kc u0; have u1 := (hWi.trans hSn).kc u1; have m0 := (hWi.trans hSn).kc m0; have m1 := (hWi.trans hSn).kc m1; have m2 := (hWi.trans hSn).kc m2; have m3 := (hWi.trans hSn).kc m3; have m4 := (hWi.trans hSn).kc m4; have f0 := (hWi.trans hSn).kc f0; have f1 := (hWi.trans hSn).kc f1; have f2 := (hWi.trans hSn).kc f2; have f3 := (hWi.trans hSn).kc f3; have f4 := (hWi.trans hSn).kc f4; have f5 := (hWi.trans hSn).kc f5
      clear hSn hK HTi hWi
      cases qn : decide ((j : Int) ∈ m.seats) with
      | false =>
       have HN := zH (show numsB (mgsP W k j) (a + 1) = numsB (mgsP W k j) a from numsB_no (by rw [HMG.out, qn]; simp))
       clear qn
       (try simp only [Act.put, zA, zB, zC])
       repeat ((first | (refine run_off rfl rfl (by rfl) ?_) | (refine run_chain_off rfl rfl (by rfl) (K0_mono _) ?_) | ((refine run_want rfl rfl (by rfl) ⟨?_, fun W hW => ?_, ?_⟩; rotate_left; (· (have d0 := hW.kc u0; have d1 := hW.kc u1; have d2 := hW.kc m0; have d3 := hW.kc m1; have d4 := hW.kc m2; have d5 := hW.kc m3; have d6 := hW.kc m4; go_simp; (try with_reducible rfl)))))); (try simp only [Act.put, zA, zB, zC]))
       refine run_end (L := []) rfl (fun Wy hWy => ?_)
       have HTy := zH (HTn.out.trans hWy)
       clear hWy u0 u1 m0 m1 m2 m3 m4 f0 f1 f2 f3 f4 f5 d1
       go_wp2
       go_roundw
       case rel => exact ⟨a + 1, by omega, by go_num, by rw [HN.out], by rw [HN.out], HTy.out⟩
       case measure => simp [intOf]; omega
      | true =>
       have HQN := zH qn
       clear qn
       (try simp only [Act.put, zA, zB, zC])
       repeat ((first | (refine run_off rfl rfl (by rfl) ?_) | (refine run_chain_off rfl rfl (by rfl) (K0_mono _) ?_) | ((refine run_want rfl rfl (by rfl) ⟨?_, fun W hW => ?_, ?_⟩; rotate_left; (· (have d0 := hW.kc u0; have d1 := hW.kc u1; have d2 := hW.kc m0; have d3 := hW.kc m1; have d4 := hW.kc m2; have d5 := hW.kc m3; have d6 := hW.kc m4; have d7 := hW.kc f0; have d8 := hW.kc f1; have d9 := hW.kc f2; have d10 := hW.kc f3; have d11 := hW.kc f4; have d12 := hW.kc f5; go_simp; (try with_reducible rfl)))))); (try simp only [Act.put, zA, zB, zC]))
       refine run_chain rfl rfl (by rfl) (fun Wi hWi K' hK => ?_)
       have HTi := zH (HTn.out.trans hWi)
       go_simp
       refine (Has_any T T b m _ _ _ (HX.out.keep (.of_step (HS.out.trans HTi.out))) (by have h9 := HM.out.keep (.of_step (HS.out.trans HTi.out)); rw [HDN.out] at h9; exact h9)).mono ?_
       rintro e wn2 ⟨rfl, hSn⟩
       refine hK _ _ (StepX.of hSn) ?_
       have HTn2 := zH (HTi.out.trans hSn)
       clear hSn hK HTi hWi HTn u0 u1 m0 m1 m2 m3 m4 f0 f1 f2 f3 f4 f5
       cases qh : hasK b.took (keyOf m) with
       | true =>
        have HN := zH (show numsB (mgsP W k j) (a + 1) = numsB (mgsP W k j) a from numsB_no (by rw [HMG.out, HQN.out, qh]; simp))
        clear qh
        (try simp only [Act.put, zA, zB, zC])
        repeat ((first | (refine run_off rfl rfl (by rfl) ?_) | (refine run_chain_off rfl rfl (by rfl) (K0_mono _) ?_) | ((refine run_want rfl rfl (by rfl) ⟨?_, fun W hW => ?_, ?_⟩; rotate_left; (· (skip; go_simp; (try with_reducible rfl)))))); (try simp only [Act.put, zA, zB, zC]))
        refine run_end (L := []) rfl (fun Wy hWy => ?_)
        have HTy := zH (HTn2.out.trans hWy)
        clear hWy d1
        go_wp2
        go_roundw
        case rel => exact ⟨a + 1, by omega, by go_num, by rw [HN.out], by rw [HN.out], HTy.out⟩
        case measure => simp [intOf]; omega
       | false =>
        have HN := zH (show numsB (mgsP W k j) (a + 1) = numsB (mgsP W k j) a ++ [(a : Int)] from numsB_yes (by rw [HMG.out, HQN.out, qh, HQS.out]; simp))
        clear qh
        (try simp only [Act.put, zA, zB, zC])
        repeat ((first | (refine run_off rfl rfl (by rfl) ?_) | (refine run_chain_off rfl rfl (by rfl) (K0_mono _) ?_) | ((refine run_want rfl rfl (by rfl) ⟨?_, fun W hW => ?_, ?_⟩; rotate_left; (· (skip; go_simp; (try with_reducible rfl)))))); (try simp only [Act.put, zA, zB, zC]))
        refine run_end (L := []) rfl (fun Wy hWy => ?_)
        have HTy := zH (HTn2.out.trans hWy)
        clear hWy d1
        obtain ⟨L, hL⟩ : ∃ L, L = numsB (mgsP W k j) a := ⟨_, rfl⟩
        have HLN := zH (show ∀ y ∈ L, 0 ≤ y by rw [hL]; exact numsB_nn)
        rw [← hL] at hlen2 HN ⊢
        clear hL
        by_cases qf : firstL L < 0
        ·have df : decide (firstL L < 0) = true := decide_eq_true qf
         have HF2 := zH (firstL_app L a qf HLN.out)
         clear qf
         go_wp2
         go_roundw
         case rel => exact ⟨a + 1, by omega, by go_num, by rw [HN.out]; simp; omega, by rw [HN.out, HF2.out], HTy.out⟩
         case measure => simp [intOf]; omega
        ·have df : decide (firstL L < 0) = false := decide_eq_false qf
         have HF2 := zH (firstL_keep L a qf)
         clear qf
         go_wp2
         go_roundw
         case rel => exact ⟨a + 1, by omega, by go_num, by rw [HN.out]; simp; omega, by rw [HN.out, HF2.out], HTy.out⟩
         case measure => simp [intOf]; omega
     ·have d1 : (m.shw == (k : Int)) = false := by rw [beq_eq_false_iff_ne]; exact qs
      have HN := zH (show numsB (mgsP W k j) (a + 1) = numsB (mgsP W k j) a from numsB_no (by rw [HMG.out]; simp [qs]))
      clear qs
      refine wp_region_seqM (fun c d v a w h => by cases d <;> exact h) (kdOf [8, 18] []) [0, 1, 0, 7, 15, 31, 63, 31, 255, 511, 1023, 2047, 4095, 2047, 10239, 32767, 65535, 2047, 262143, 524287, 1048575] [0, 1, 2, 3, 4, 5, 6, 7, 8, 9, 10, 11, 12, 13, 14, 15, 16, 17, 18, 19, 20] [] (by kernel_rfl) (by kernel_rfl) (fun i T z hi hk => by simp [kdOf] at hk <;> (try (split at hk <;> cases hk))) ?_
      intro Wx hWx
      have u0 := (hWx).kc u0; have u1 := (hWx).kc u1; have m0 := (hWx).kc m0; have m1 := (hWx).kc m1; have m2 := (hWx).kc m2; have m3 := (hWx).kc m3; have m4 := (hWx).kc m4
      repeat ((first | (refine run_off rfl rfl (by rfl) ?_) | (refine run_chain_off rfl rfl (by rfl) (K0_mono _) ?_) | ((refine run_want rfl rfl (by rfl) ⟨?_, fun W hW => ?_, ?_⟩; rotate_left; (· (have d0 := hW.kc u0; have d1 := hW.kc u1; have d2 := hW.kc m0; have d3 := hW.kc m1; have d4 := hW.kc m2; have d5 := hW.kc m3; have d6 := hW.kc m4; go_simp; (try with_reducible rfl)))))); (try simp only [Act.put, zA, zB, zC]))
      refine run_end (L := []) rfl (fun Wy hWy => ?_)
      have HTy := zH ((HT7.out.trans hWx).trans hWy)
      clear hWx hWy u0 u1 m0 m1 m2 m3 m4 f0 f1 f2 f3 f4 f5 d1
      go_wp2
      go_roundw
      case rel => exact ⟨a + 1, by omega, by go_num, by rw [HN.out], by rw [HN.out], HTy.out⟩
      case measure => simp [intOf]; omega
    ·obtain rfl : a = W.msgs.length := by omega
     go_wp2
     go_ret3
     exact ⟨by rw [← HLA.out.1, ← HLA.out.2]; first | rfl | (simp only [Int.natCast_add]; rfl), HS.out.trans HT.out⟩
theorem num_of {W : Wd} (hn : numOk W.msgs = true) {k : Nat} (hk : k < W.msgs.length) : (ms W k).number = sentTo W (ms W k).frm k + 1 := by
 simp only [numOk, List.all_eq_true, List.mem_range] at hn
 have := hn k hk
 unfold numA at this
 rw [mgAt_at hk, ← ms_at hk, sentF_to] at this
 simpa using this
theorem num_key {W : Wd} (hn : numOk W.msgs = true) {k q : Nat} (hk : k < W.msgs.length) (hq : q < W.msgs.length) (he : keyOf (ms W k) = keyOf (ms W q)) : k = q := by
 have e1 : (ms W k).frm = (ms W q).frm := by unfold keyOf at he; injection he
 have e2 : (ms W k).number = (ms W q).number := by unfold keyOf at he; injection he
 rw [num_of hn hk, num_of hn hq, e1] at e2
 have e2 : sentTo W (ms W q).frm k = sentTo W (ms W q).frm q := by omega
 rcases Nat.lt_trichotomy k q with hlt | hlt | hlt
 ·have h1 := sentTo_succ W (ms W q).frm hk
  rw [if_pos e1] at h1
  have := sentTo_mono W (ms W q).frm (show k + 1 ≤ q by omega)
  omega
 ·exact hlt
 ·have h1 := sentTo_succ W (ms W q).frm hq
  rw [if_pos rfl] at h1
  have := sentTo_mono W (ms W q).frm (show q + 1 ≤ k by omega)
  omega
theorem toF_from (x : Key) (a : Int) : ∀ (l : List BT.Message) (f : Key → Option Int), (l.foldl stepT f) x = some a → (∃ m ∈ l, keyOf m = x ∧ m.dst = a) ∨ f x = some a
 | [], f, h => .inr h
 | m :: l, f, h => by
  rw [List.foldl_cons] at h
  rcases toF_from x a l (stepT f m) h with ⟨m', h1, h2⟩ | h1
  ·exact .inl ⟨m', List.mem_cons_of_mem _ h1, h2⟩
  ·unfold stepT at h1
   by_cases e : x = keyOf m
   ·rw [if_pos e] at h1
    injection h1 with h1
    exact .inl ⟨m, List.mem_cons_self, e.symm, h1⟩
   ·rw [if_neg e] at h1
    exact .inr h1
theorem toF_iff {W : Wd} (hn : numOk W.msgs = true) (x : Key) (a : Int) : toF W.msgs x = some a ↔ ∃ m ∈ W.msgs, keyOf m = x ∧ m.dst = a := by
 constructor
 ·intro h
  rcases toF_from x a W.msgs _ h with h1 | h1
  ·exact h1
  ·cases h1
 ·rintro ⟨m, hm, hk, hd⟩
  obtain ⟨k, hkl, rfl⟩ := List.getElem_of_mem hm
  refine toF_to x a W.msgs (fun _ => none) (fun m' hm' he => ?_) (.inl ⟨_, hm, hk⟩)
  obtain ⟨q, hq, rfl⟩ := List.getElem_of_mem hm'
  have : q = k := num_key hn hq hkl (by rw [ms_at hq, ms_at hkl, he, hk])
  subst this
  exact hd
def foundB (l : List BT.Message) (x : Key) (a : Int) (k : Nat) : Bool := (List.range k).any fun i => decide ((mgAt l i).dst = a) && decide (x = keyOf (mgAt l i))
theorem foundB_succ (l : List BT.Message) (x : Key) (a : Int) (k : Nat) : foundB l x a (k + 1) = (foundB l x a k || (decide ((mgAt l k).dst = a) && decide (x = keyOf (mgAt l k)))) := by
 unfold foundB
 rw [List.range_succ, List.any_append]; simp
theorem foundB_all {W : Wd} (hn : numOk W.msgs = true) (x : Key) (a : Int) : foundB W.msgs x a W.msgs.length = decide (toF W.msgs x = some a) := by
 cases q : foundB W.msgs x a W.msgs.length with
 | true =>
  unfold foundB at q
  obtain ⟨i, hi, hb⟩ := List.any_eq_true.1 q
  have hi := List.mem_range.1 hi
  simp only [Bool.and_eq_true, decide_eq_true_eq, mgAt_at hi] at hb
  exact (decide_eq_true ((toF_iff hn x a).2 ⟨_, List.getElem_mem hi, hb.2.symm, hb.1⟩)).symm
 | false =>
  refine (decide_eq_false fun h => ?_).symm
  obtain ⟨m, hm, hk, hd⟩ := (toF_iff hn x a).1 h
  obtain ⟨i, hi, rfl⟩ := List.getElem_of_mem hm
  have : foundB W.msgs x a W.msgs.length = true := by
   unfold foundB
   refine List.any_eq_true.2 ⟨i, List.mem_range.2 hi, ?_⟩
   simp [mgAt_at hi, hd, hk]
  rw [q] at this; cases this
def sentL (W : Wd) (k : Nat) : List Value := (List.range W.books.length).map fun (a : Nat) => Value.int .i64 (sentTo W (a : Int) k)
theorem sentL_zero (W : Wd) : sentL W 0 = List.replicate W.books.length (Value.int .i64 0) := by
 refine List.ext_getElem (by simp [sentL]) fun i h1 h2 => ?_
 simp [sentL, sentTo]
theorem sentL_at (W : Wd) (k : Nat) {a : Nat} (h : a < W.books.length) : (sentL W k)[a]? = some (Value.int .i64 (sentTo W (a : Int) k)) := by
 simp [sentL, h]
theorem sentL_next (W : Wd) {k f : Nat} (hk : k < W.msgs.length) (hf : f < W.books.length) (he : (ms W k).frm = f) : (sentL W k).set f (Value.int .i64 ((sentTo W (f : Int) k : Int) + 1)) = sentL W (k + 1) := by
 refine List.ext_getElem (by simp [sentL]) fun i h1 h2 => ?_
 have hi : i < W.books.length := by simpa [sentL] using h2
 simp only [sentL, List.getElem_set, List.getElem_map, List.getElem_range]
 rw [sentTo_succ W (i : Int) hk, he]
 by_cases e : f = i
 ·subst e; simp
 ·have e' : ¬ ((f : Int) = (i : Int)) := by omega
  simp [e, e']
theorem sentTo_le (W : Wd) (a : Int) (k : Nat) : sentTo W a k ≤ k := by
 unfold sentTo
 have h1 := List.length_filter_le (fun m : BT.Message => decide (m.frm = a)) (W.msgs.take k)
 have h2 : (W.msgs.take k).length ≤ k := by rw [List.length_take]; exact Nat.min_le_left _ _
 omega
theorem num_iff {W : Wd} {k : Nat} (hk : k < W.msgs.length) : numA W.msgs k = decide ((ms W k).number = sentTo W (ms W k).frm k + 1) := by
 unfold numA
 rw [mgAt_at hk, ← ms_at hk, sentF_to]
theorem RSound_any (S T : Nat → Prop) (h : House) (W : Wd) (v u : Value) (w : World) (hv : AV S w v h) (hu : AV T w u W) (hok : valid h = true) (hm : W.msgs.length ≤ 1000000) :
  Calls Tryz.prog 22 #[v, u] w fun e w' => e = .returned (.bool (soundB h W)) ∧ Step w w' := by
 have HH0 := zH hv
 have HU0 := zH hu
 obtain ⟨c0, c1, c2, c3, c4, rfl, h0, h1, h2, h3, h4⟩ := hv.house
 obtain ⟨p0, k0, rfl⟩ := h0.form
 obtain ⟨p1, k1, rfl⟩ := h1.form
 obtain ⟨p2, k2, rfl⟩ := h2.form
 obtain ⟨p3, k3, rfl⟩ := h3.form
 obtain ⟨p4, k4, rfl⟩ := h4.form
 have HROWS := zH h4
 obtain ⟨b0, b1, rfl, s0, s1⟩ := hu.wd
 obtain ⟨pb, kb, bb, bo, rfl, _, _, hpb, hcb, _⟩ := s0.books
 obtain ⟨pm, km, bm, mo, rfl, _, hlm, hpm, hcm, _⟩ := s1.mess
 obtain ⟨W0, hW0⟩ : ∃ z9, z9 = (w.alloc (.cells #[.slice p0 h.sectors.length k0, .slice p1 h.prices.length k1, .slice p2 h.dates.length k2, .slice p3 h.frm.length k3, .slice p4 h.holds.length k4] 26)).alloc (.cells #[.slice pb W.books.length kb, .slice pm W.msgs.length km] 49) := ⟨_, rfl⟩
 have hS : Step w W0 := by subst hW0; exact (by with_reducible repeat (first | assumption | exact Step.refl _ | apply Step.s_alloc | apply Step.s_drew | apply Step.s_drewN | refine Step.trans ?_ (by assumption)))
 have hb0 : Bx W0 w.heap.size [.slice p0 h.sectors.length k0, .slice p1 h.prices.length k1, .slice p2 h.dates.length k2, .slice p3 h.frm.length k3, .slice p4 h.holds.length k4] 26 := by subst hW0; exact (Bx.new _ [_, _, _, _, _] _).alloc _
 have hb1 : Bx W0 (w.heap.size + 1) [.slice pb W.books.length kb, .slice pm W.msgs.length km] 49 := by subst hW0; exact Bx.new' _ [_, _] _ _ (by simp)
 have HS := zH hS
 have HB := zH hb0
 have HB1 := zH hb1
 have HC := zH (And.intro hpb hcb)
 have HCM := zH (And.intro hpm hcm)
 have HM := zH hm
 have HV := zH hok
 have HW := zH hW0
 have HC1 := zH (RightWorld_any S T h W _ _ W0 (HH0.out.keep (.of_step hS)) (HU0.out.keep (.of_step hS)) hok)
 clear hv hu h0 h1 h2 h3 h4 s0 s1 hpb hcb hpm hcm hlm hS hb0 hb1 hW0 hok hm
 go_enter Tryz.func22, Tryz.ntmps22
 go_upto_region 1 with (fail)
 rw [← HW.out]
 clear HW
 obtain ⟨e0, e1, e2, e3, e4⟩ := cells5 HB.out
 obtain ⟨u0, u1⟩ : _ ∧ _ := ⟨HB1.out.cell 0, HB1.out.cell 1⟩
 simp only [zD, zE] at u0 u1
 go_wp2_with fail
 refine HC1.out.mono ?_
 rintro e wn ⟨rfl, hSn⟩
 have HT := zH hSn
 clear HC1 hSn e0 e1 e2 e3 e4 u0 u1
 cases qw : worldB h W with
 | false =>
  have HF := zH (show soundB h W = false by simp [soundB, qw])
  clear qw
  go_wp2
  go_ret
  exact ⟨by rw [HF.out]; rfl, HS.out.trans HT.out⟩
 | true =>
 have HQ := zH qw
 have HP := zH (worldB_parts qw)
 clear qw
 obtain ⟨u0, u1⟩ : _ ∧ _ := ⟨(HB1.out.step HT.out).cell 0, (HB1.out.step HT.out).cell 1⟩
 simp only [zD, zE] at u0 u1
 have hl6 : W.books.length ≤ 6 := by have := bounds_valid HV.out; have := HP.out.len; omega
 have hx2 : (0 : Int) ≤ (W.books.length : Int) := by omega
 go_wp2_with (at_make; refine wpl_make (z := .int .i64 0) eiInts rfl _ _ rfl rfl .i64 .i64 W.books.length rfl rfl (by omega) (by omega) ?_)
 clear u0 u1
 obtain ⟨V1, hV1⟩ : ∃ z9, z9 = wn.alloc (.cells (Array.replicate W.books.length (.int .i64 0)) 3) := ⟨_, rfl⟩
 have hbs : Bx V1 wn.heap.size (sentL W 0) 3 := by subst hV1; rw [sentL_zero, ← List.toArray_replicate]; exact Bx.new' _ _ _ _ rfl
 have hS1 : Step wn V1 := by subst hV1; exact Step.alloc _ _
 rw [← hV1]
 obtain ⟨gs, hgs⟩ : ∃ g, g = wn.heap.size := ⟨_, rfl⟩
 rw [← hgs] at hbs ⊢
 have hgw : W0.heap.size ≤ gs := by rw [hgs]; exact HT.out.size
 have HT1 := zH (HT.out.trans hS1)
 have HBS := zH hbs
 have HGW := zH hgw
 clear hbs hS1 hV1 hgs HT hgw
 go_loopw [6] (fun iv wr => ∃ k : Nat, k ≤ W.msgs.length ∧ iv = .int .i64 k ∧ (List.range k).all (numA W.msgs) = true ∧ Bx wr gs (sentL W k) 3 ∧ Step W0 wr) (fun iv _ => W.msgs.length - (intOf iv).toNat)
 case atStart => exact ⟨0, Nat.zero_le _, rfl, by simp, HBS.out, HT1.out⟩
 case round =>
  obtain ⟨k, hk, rfl, ht, hbs, hT⟩ := hrel
  have HA := zH ht
  have HT := zH hT
  have HBS' := zH hbs
  clear ht hT hbs HBS HT1
  obtain ⟨u0, u1⟩ : _ ∧ _ := ⟨(HB1.out.step HT.out).cell 0, (HB1.out.step HT.out).cell 1⟩
  simp only [zD, zE] at u0 u1
  have hm9 := HM.out
  by_cases hlt : k < W.msgs.length
  ·obtain rfl := HCM.out.1 (by omega)
   obtain ⟨x4, ⟨g0, g1, g2, g3, g4⟩, s4⟩ := HCM.out.2 k hlt
   obtain ⟨_, _, _, _, fn, hfn, hfl⟩ := dst_in HP.out.len (HP.out.msg k hlt)
   obtain ⟨m, hm⟩ : ∃ m, m = W.msgs[k] := ⟨_, rfl⟩
   have hmq : ms W k = m := by rw [hm]; exact ms_at hlt
   rw [← hm] at g0 g1 g2 g3 s4 hfn
   obtain ⟨r4, l4, e4⟩ := s4.form
   subst e4
   have HMQ := zH hmq
   have HFN := zH hfn
   rw [hfn] at g0
   have g0 := (HS.out.trans HT.out).kc g0; have g1 := (HS.out.trans HT.out).kc g1; have g2 := (HS.out.trans HT.out).kc g2; have g3 := (HS.out.trans HT.out).kc g3; have g4 := (HS.out.trans HT.out).kc g4
   have hixa : (0 : Int) ≤ (k : Int) ∧ (k : Int) < (W.msgs.length : Int) := by omega
   clear s4 hm hmq hfn
   go_upto_region 8 with (fail)
   obtain ⟨W7, hW7⟩ : ∃ z9, z9 = wr.alloc (.cells #[.int .i64 fn, .int .i64 m.dst, .int .i64 m.number, .int .i64 m.shw, .slice r4 m.seats.length l4] 58) := ⟨_, rfl⟩
   have hb7 : Bx W7 wr.heap.size [.int .i64 fn, .int .i64 m.dst, .int .i64 m.number, .int .i64 m.shw, .slice r4 m.seats.length l4] 58 := by subst hW7; exact Bx.new _ [_, _, _, _, _] _
   have hS7 : Step wr W7 := by subst hW7; exact Step.alloc _ _
   have hng : wr.heap.size ≠ gs := by have := (HBS'.out.lt); omega
   rw [← hW7]
   obtain ⟨g9, hg9⟩ : ∃ g, g = wr.heap.size := ⟨_, rfl⟩
   rw [← hg9] at hb7 hng ⊢
   have HT7 := zH (HT.out.trans hS7)
   have HB7 := zH hb7
   have HBS7 := zH (HBS'.out.step hS7)
   clear g0 g1 g2 g3 g4 hW7 hg9 u0 u1 hS7 hb7
   obtain ⟨m0, m1, m2, m3, m4⟩ := cells5 HB7.out
   have sc := HBS7.out.cell fn
   rw [sentL_at W k hfl] at sc
   have hsl := sentTo_le W (fn : Int) k
   obtain ⟨v, hvv⟩ : ∃ v, v = sentTo W (fn : Int) k := ⟨_, rfl⟩
   rw [← hvv] at sc hsl
   have HVV := zH hvv
   have hixf : (0 : Int) ≤ (fn : Int) ∧ (fn : Int) < (W.books.length : Int) := by omega
   clear hvv
   have sf := HBS7.out.frozen fn
   go_wp2
   clear m0 m1 m2 m3 m4 sc sf
   obtain ⟨W8, hW8⟩ : ∃ z9, z9 = W7.setCell ⟨gs, fn, none⟩ (.int .i64 ((v : Int) + 1)) := ⟨_, rfl⟩
   have hb8 := HB7.out.keep (Wrote.setCell W7 gs fn (.int .i64 ((v : Int) + 1))).keeps hng
   have hs8 := HBS7.out.setCell fn (.int .i64 ((v : Int) + 1))
   have hS8 := HT7.out.setNew ⟨gs, fn, none⟩ (.int .i64 ((v : Int) + 1)) HGW.out
   rw [← hW8] at hb8 hs8 hS8 ⊢
   rw [HVV.out, sentL_next W hlt hfl (by rw [HMQ.out, HFN.out])] at hs8
   have HT8 := zH hS8
   have HBS8 := zH hs8
   clear hW8 hs8 hS8 HT7 HBS7
   obtain ⟨m0, m1, m2, m3, m4⟩ := cells5 hb8
   have sc := HBS8.out.cell fn
   rw [sentL_at W (k + 1) hfl, sentTo_succ W (fn : Int) hlt, HMQ.out, HFN.out, if_pos rfl, ← HVV.out] at sc
   have hse : (((v + 1 : Nat)) : Int) = (v : Int) + 1 := by omega
   rw [hse] at sc
   clear hse hb8
   by_cases qn : m.number = (v : Int) + 1
   rotate_left
   ·have d1 : (m.number != (v : Int) + 1) = true := by rw [bne_iff_ne]; exact qn
    have HF := zH (show soundB h W = false by
     have h1 : numOk W.msgs = false := all_bad hlt (by rw [num_iff hlt, HMQ.out, HFN.out, ← HVV.out]; simp [qn])
     simp [soundB, countedB, h1])
    clear qn
    go_quiet (fail)
    go_wp2
    go_ret
    exact ⟨by rw [HF.out]; rfl, HS.out.trans (HT8.out.trans (Step.drewN _ _))⟩
   have d1 : (m.number != (v : Int) + 1) = false := by rw [qn]; simp
   have HN := zH (all_step HA.out (show numA W.msgs k = true by rw [num_iff hlt, HMQ.out, HFN.out, ← HVV.out]; simp [qn]))
   clear qn
   go_quiet (fail)
   go_wp2
   go_roundw
   case rel => exact ⟨k + 1, by omega, by go_num, HN.out, HBS8.out.step (Step.drewN _ _), HT8.out.trans (Step.drewN _ _)⟩
   case measure => simp [intOf]; omega
  ·have HNUM := zH (show numOk W.msgs = true by
    have e : k = W.msgs.length := by omega
    unfold numOk
    rw [← e]; exact HA.out)
   have HBSF := zH (show Bx wr gs (sentL W W.msgs.length) 3 by
    have e : k = W.msgs.length := by omega
    rw [← e]; exact HBS'.out)
   have HTq := zH HT.out
   clear HA HBS' HT
   generalize wr = wq at *
   go_upto_region 12 with (fail)
   clear u0 u1
   go_loopw [8] (fun iv wr => ∃ a : Nat, a ≤ W.books.length ∧ iv = .int .i64 a ∧ (List.range a).all (knowB W) = true ∧ Step wq wr) (fun iv _ => W.books.length - (intOf iv).toNat)
   case atStart => exact ⟨0, Nat.zero_le _, rfl, by simp, Step.refl _⟩
   case round =>
    obtain ⟨a, ha, rfl, ht, hT⟩ := hrel
    have HA := zH ht
    have HT := zH hT
    have HT0 := zH (HTq.out.trans hT)
    clear ht hT
    obtain ⟨u0, u1⟩ : _ ∧ _ := ⟨(HB1.out.step HT0.out).cell 0, (HB1.out.step HT0.out).cell 1⟩
    simp only [zD, zE] at u0 u1
    by_cases hat : a < W.books.length
    ·obtain rfl := HC.out.1 (by omega)
     obtain ⟨z1, z2, z4, ⟨f0, f1, f2, f3, f4, f5⟩, t1, t2, t4⟩ := HC.out.2 a hat
     obtain ⟨b, hb⟩ : ∃ b, b = W.books[a] := ⟨_, rfl⟩
     have hbq : bk W a = b := by rw [hb]; exact bk_at hat
     rw [← hb] at f0 f3 f5 t1 t2 t4
     obtain ⟨r1, n1, e1⟩ := t1.form
     obtain ⟨r2, n2, e2⟩ := t2.form
     obtain ⟨r5, n5, e5⟩ := t4.form
     subst e1 e2 e5
     have HBQ := zH hbq
     have HTK := zH t4
     have f0 := (HS.out.trans HT0.out).kc f0; have f1 := (HS.out.trans HT0.out).kc f1; have f2 := (HS.out.trans HT0.out).kc f2; have f3 := (HS.out.trans HT0.out).kc f3; have f4 := (HS.out.trans HT0.out).kc f4; have f5 := (HS.out.trans HT0.out).kc f5
     have hixa : (0 : Int) ≤ (a : Int) ∧ (a : Int) < (W.books.length : Int) := by omega
     clear t1 t2 t4 hb hbq
     go_upto_region 15 with (fail)
     obtain ⟨W7, hW7⟩ : ∃ z9, z9 = wr.alloc (.cells #[.int .i64 b.agency, .slice r1 b.seats.length n1, .slice r2 b.off.length n2, .int .i64 b.sent, .slice r5 b.took.length n5, .int .i64 b.cash] 56) := ⟨_, rfl⟩
     have hb7 : Bx W7 wr.heap.size [.int .i64 b.agency, .slice r1 b.seats.length n1, .slice r2 b.off.length n2, .int .i64 b.sent, .slice r5 b.took.length n5, .int .i64 b.cash] 56 := by subst hW7; exact Bx.new _ [_, _, _, _, _, _] _
     have hS7 : Step wr W7 := by subst hW7; exact Step.alloc _ _
     rw [← hW7]
     obtain ⟨g9, hg9⟩ : ∃ g, g = wr.heap.size := ⟨_, rfl⟩
     rw [← hg9] at hb7 ⊢
     have HT7 := zH (HT.out.trans hS7)
     have HB7 := zH hb7
     clear f0 f1 f2 f3 f4 f5 hW7 hg9 u0 u1 hS7 hb7
     obtain ⟨f0, f1, f2, f3, f4, f5⟩ := cells6 HB7.out
     have sc := (HBSF.out.step HT7.out).cell a
     rw [sentL_at W W.msgs.length hat] at sc
     obtain ⟨v, hvv⟩ : ∃ v, v = sentTo W (a : Int) W.msgs.length := ⟨_, rfl⟩
     rw [← hvv] at sc
     have HVV := zH (show ((sentF W.msgs) (a : Int)).getD 0 = (v : Int) by
      have := sentF_to W W.msgs.length a
      rw [List.take_length] at this
      rw [this, hvv])
     clear hvv
     by_cases qs : b.sent = (v : Int)
     rotate_left
     ·have d1 : (b.sent != (v : Int)) = true := by rw [bne_iff_ne]; exact qs
      have HF := zH (show soundB h W = false by
       have h1 : (List.range W.books.length).all (knowB W) = false := all_bad hat (by unfold knowB; rw [HBQ.out, HVV.out]; simp [qs])
       simp [soundB, countedB, h1])
      clear qs
      go_quiet (fail)
      go_wp2
      go_ret
      exact ⟨by rw [HF.out]; rfl, HS.out.trans (HTq.out.trans (HT7.out.trans (Step.drewN _ _)))⟩
     have d1 : (b.sent != (v : Int)) = false := by rw [qs]; simp
     have HQS := zH (show decide (b.sent = ((sentF W.msgs) (a : Int)).getD 0) = true by rw [HVV.out]; exact decide_eq_true qs)
     clear qs
     go_quiet (fail)
     go_upto_region 18 with (fail)
     clear d1 sc f0 f1 f2 f3 f4 f5
     obtain ⟨qt, ct, bt, ot, hte, _, hlt9, hpt, hct, _⟩ := HTK.out.keys
     injection hte with hte1 hte2 hte3
     clear hte2 hte3
     subst hte1
     have HCT := zH (And.intro hpt hct)
     have HL9 := zH hlt9
     clear hpt hct hlt9
     go_loopw [10] (fun iv wr => ∃ q : Nat, q ≤ b.took.length ∧ iv = .int .i64 q ∧ (b.took.take q).all (fun x => decide (toF W.msgs x = some (a : Int))) = true ∧ Step W7 wr) (fun iv _ => b.took.length - (intOf iv).toNat)
     case atStart => exact ⟨0, Nat.zero_le _, rfl, by simp, Step.drewN _ _⟩
     case round =>
      obtain ⟨q, hq, rfl, ht, hT⟩ := hrel
      have HAQ := zH ht
      have HTt := zH hT
      clear ht hT
      obtain ⟨f0, f1, f2, f3, f4, f5⟩ := cells6 (HB7.out.step HTt.out)
      have hl9 := HL9.out
      by_cases hqt : q < b.took.length
      ·obtain ⟨x, hx⟩ : ∃ x, x = b.took[q] := ⟨_, rfl⟩
       have HXX := zH hx
       go_upto_region 22 with (fail)
       clear f0 f1 f2 f3 f4 f5
       go_loopw [11, 12] (fun v1 iv wr => ∃ i : Nat, i ≤ W.msgs.length ∧ iv = .int .i64 i ∧ v1 = .bool (foundB W.msgs x a i) ∧ Step W7 wr) (fun _ iv _ => W.msgs.length - (intOf iv).toNat)
       case atStart => exact ⟨0, Nat.zero_le _, rfl, rfl, HTt.out⟩
       case round =>
        obtain ⟨i, hi, rfl, rfl, hT⟩ := hrel
        clear HTt
        have HTt := zH hT
        have HT0 := zH ((HTq.out.trans HT7.out).trans hT)
        clear hT
        obtain ⟨u0, u1⟩ : _ ∧ _ := ⟨(HB1.out.step HT0.out).cell 0, (HB1.out.step HT0.out).cell 1⟩
        simp only [zD, zE] at u0 u1
        have hm9 := HM.out
        by_cases hit : i < W.msgs.length
        ·obtain rfl := HCM.out.1 (by omega)
         obtain ⟨x4, ⟨g0, g1, g2, g3, g4⟩, s4⟩ := HCM.out.2 i hit
         obtain ⟨m, hm⟩ : ∃ m, m = W.msgs[i] := ⟨_, rfl⟩
         have HMA := zH (show mgAt W.msgs i = m by rw [mgAt_at hit, hm])
         rw [← hm] at g0 g1 g2 g3 s4
         obtain ⟨r4, l4, e4⟩ := s4.form
         subst e4
         have g0 := (HS.out.trans HT0.out).kc g0; have g1 := (HS.out.trans HT0.out).kc g1; have g2 := (HS.out.trans HT0.out).kc g2; have g3 := (HS.out.trans HT0.out).kc g3; have g4 := (HS.out.trans HT0.out).kc g4
         have hixi : (0 : Int) ≤ (i : Int) ∧ (i : Int) < (W.msgs.length : Int) := by omega
         clear s4 hm
         go_upto_region 25 with (fail)
         obtain ⟨W5, hW5⟩ : ∃ z9, z9 = wr.alloc (.cells #[.int .i64 m.frm, .int .i64 m.dst, .int .i64 m.number, .int .i64 m.shw, .slice r4 m.seats.length l4] 58) := ⟨_, rfl⟩
         have hb5 : Bx W5 wr.heap.size [.int .i64 m.frm, .int .i64 m.dst, .int .i64 m.number, .int .i64 m.shw, .slice r4 m.seats.length l4] 58 := by subst hW5; exact Bx.new _ [_, _, _, _, _] _
         have hS5 : Step wr W5 := by subst hW5; exact Step.alloc _ _
         rw [← hW5]
         obtain ⟨g8, hg8⟩ : ∃ g, g = wr.heap.size := ⟨_, rfl⟩
         rw [← hg8] at hb5 ⊢
         have HT5 := zH (HTt.out.trans hS5)
         clear g0 g1 g2 g3 g4 hW5 hg8 u0 u1
         obtain ⟨m0, m1, m2, m3, m4⟩ := cells5 hb5
         obtain ⟨f0, f1, f2, f3, f4, f5⟩ := cells6 (HB7.out.step HT5.out)
         obtain rfl := HCT.out.1 (by omega)
         obtain ⟨y0, y1⟩ := HCT.out.2 q hqt
         rw [← hx] at y0 y1
         have y0 := (HS.out.trans (HT0.out.trans hS5)).kc y0; have y1 := (HS.out.trans (HT0.out.trans hS5)).kc y1
         have hixq : (0 : Int) ≤ (q : Int) ∧ (q : Int) < (b.took.length : Int) := by omega
         clear hb5 hS5 HTt HT0 hx
         have HSU := zH (foundB_succ W.msgs x a i)
         rw [HMA.out] at HSU
         cases qf : foundB W.msgs x a i with
         | true =>
          have HN := zH (show foundB W.msgs x a (i + 1) = true by rw [HSU.out, qf]; rfl)
          clear qf
          go_quiet (fail)
          go_wp2
          go_roundw
          case rel => exact ⟨i + 1, by omega, by go_num, by rw [HN.out], HT5.out.trans (Step.drewN _ _)⟩
          case measure => simp [intOf]; omega
         | false =>
          by_cases qd : m.dst = (a : Int)
          rotate_left
          ·have d1 : (m.dst == (a : Int)) = false := by rw [beq_eq_false_iff_ne]; exact qd
           have HN := zH (show foundB W.msgs x a (i + 1) = false by rw [HSU.out, qf]; simp [qd])
           clear qf qd
           go_quiet (fail)
           go_wp2
           go_roundw
           case rel => exact ⟨i + 1, by omega, by go_num, by rw [HN.out], HT5.out.trans (Step.drewN _ _)⟩
           case measure => simp [intOf]; omega
          have d1 : (m.dst == (a : Int)) = true := by rw [qd]; simp
          obtain ⟨xf, hxf⟩ : ∃ z, z = x.frm := ⟨_, rfl⟩
          obtain ⟨xn, hxn⟩ : ∃ z, z = x.number := ⟨_, rfl⟩
          obtain ⟨kf, hkf⟩ : ∃ z, z = m.frm := ⟨_, rfl⟩
          obtain ⟨kn, hkn⟩ : ∃ z, z = m.number := ⟨_, rfl⟩
          rw [← hxf] at y0
          rw [← hxn] at y1
          rw [← hkf] at m0
          rw [← hkn] at m2
          have HKE := zH (show decide (x = keyOf m) = decide (xf = kf ∧ xn = kn) by
           rw [hxf, hxn, hkf, hkn]; cases x; simp [keyOf])
          clear hxf hxn hkf hkn
          by_cases q1 : xf = kf
          ·subst q1
           by_cases q2 : xn = kn
           ·subst q2
            have HN := zH (show foundB W.msgs x a (i + 1) = true by rw [HSU.out, qf, HKE.out]; simp [qd])
            clear qf qd
            go_quiet (fail)
            go_wp2
            go_roundw
            case rel => exact ⟨i + 1, by omega, by go_num, by rw [HN.out], HT5.out.trans (Step.drewN _ _)⟩
            case measure => simp [intOf]; omega
           ·have HN := zH (show foundB W.msgs x a (i + 1) = false by rw [HSU.out, qf, HKE.out]; simp [q2])
            clear qf qd
            go_quiet (fail)
            go_wp2
            go_roundw
            case rel => exact ⟨i + 1, by omega, by go_num, by rw [HN.out], HT5.out.trans (Step.drewN _ _)⟩
            case measure => simp [intOf]; omega
          ·have HN := zH (show foundB W.msgs x a (i + 1) = false by rw [HSU.out, qf, HKE.out]; simp [q1])
           clear qf qd
           go_quiet (fail)
           go_wp2
           go_roundw
           case rel => exact ⟨i + 1, by omega, by go_num, by rw [HN.out], HT5.out.trans (Step.drewN _ _)⟩
           case measure => simp [intOf]; omega
        ·have hie : i = W.msgs.length := by omega
         have HFD := zH (show foundB W.msgs x a i = decide (toF W.msgs x = some (a : Int)) by rw [hie]; exact foundB_all HNUM.out x a)
         clear hie
         cases qf : foundB W.msgs x a i with
         | true =>
          have HN := zH (show (b.took.take (q + 1)).all (fun x => decide (toF W.msgs x = some (a : Int))) = true by
           rw [List.take_succ_eq_append_getElem hqt, List.all_append, HAQ.out, ← HXX.out]
           simp only [List.all_cons, List.all_nil, Bool.and_true, Bool.true_and]
           rw [← HFD.out, qf])
          clear qf
          go_wp2
          go_roundw
          case rel => exact ⟨q + 1, by omega, by go_num, HN.out, HTt.out⟩
          case measure => simp [intOf]; omega
         | false =>
          have HF := zH (show soundB h W = false by
           have h1 : (List.range W.books.length).all (knowB W) = false := all_bad hat (by
            unfold knowB
            rw [HBQ.out]
            have : (b.took.all fun x => decide (toF W.msgs x = some (a : Int))) = false := by
             rw [List.all_eq_false]
             exact ⟨x, by rw [HXX.out]; exact List.getElem_mem hqt, by rw [← HFD.out, qf]; simp⟩
            rw [this]; simp)
           simp [soundB, countedB, h1])
          clear qf
          go_wp2
          go_ret
          exact ⟨by rw [HF.out]; rfl, HS.out.trans HT0.out⟩
      ·have HKN := zH (show knowB W a = true by
        unfold knowB
        have h1 := HAQ.out
        rw [List.take_of_length_le (by omega)] at h1
        rw [HBQ.out, HQS.out, h1]; rfl)
       go_wp2
       go_roundw
       case rel => exact ⟨a + 1, by omega, by go_num, all_step HA.out HKN.out, HT7.out.trans HTt.out⟩
       case measure => simp [intOf]; omega
    ·have HKA := zH (show countedB W = true by
      have e : a = W.books.length := by omega
      have h1 := HA.out
      rw [e] at h1
      unfold countedB
      rw [HNUM.out, h1]; rfl)
     have HF := zH (show soundB h W = (List.range h.dates.length).all (oneRow h W) by simp only [soundB, HQ.out, HKA.out, Bool.true_and])
     go_upto_region 29 with (fail)
     clear HA HBSF u0 u1 HT hat
     generalize wr = wp at *
     have hbv := bounds_valid HV.out
     obtain ⟨pr, cr, rb, ro, hpe, _, _, hpr, hcr, _⟩ := HROWS.out.rows
     injection hpe with hpe1 hpe2 hpe3
     clear hpe2 hpe3
     subst hpe1
     obtain rfl := hpr (by omega)
     obtain ⟨x0, hx0, hsx⟩ := hcr 0 (by omega)
     obtain ⟨px, cx, rfl⟩ := hsx.form
     obtain ⟨nz, hnz⟩ : ∃ n : Nat, sizeL h.sectors = n := ⟨(sizeL h.sectors).toNat, by omega⟩
     have hz1 : nz ≤ 100 := by omega
     have hz2 : (h.holds[0]'(by omega)).length = nz := by have := hbv.2.2.2.2.2.2.2.2.1 0 (by omega); omega
     rw [hz2] at hx0
     simp only [Nat.add_zero] at hx0
     have HX0 := zH hx0
     have HNZ := zH hnz
     have hd6 : h.dates.length ≤ 6 := by omega
     have hdh : 0 < h.holds.length := by omega
     have HML := zH HM.out
     clear hbv hpr hcr hsx hx0 hnz hz2
     go_loopw [14] (fun iv wr => ∃ k : Nat, k ≤ h.dates.length ∧ iv = .int .i64 k ∧ (List.range k).all (oneRow h W) = true ∧ Step W0 wr) (fun iv _ => h.dates.length - (intOf iv).toNat)
     case atStart => exact ⟨0, Nat.zero_le _, rfl, by simp, HT0.out⟩
     case round =>
      obtain ⟨k, hk, rfl, ht, hT⟩ := hrel
      have HA := zH ht
      have HT := zH hT
      clear ht hT
      obtain ⟨e0, e1, e2, e3, e4⟩ := cells5 (HB.out.step HT.out)
      by_cases hlt : k < h.dates.length
      ·go_upto_region 32 with (fail)
       clear e0 e1 e2 e3 e4
       go_loopw [15] (fun iv w2 => ∃ j : Nat, j ≤ nz ∧ iv = .int .i64 j ∧ (List.range j).all (onePl W k) = true ∧ Step W0 w2) (fun iv _ => nz - (intOf iv).toNat)
       case atStart => exact ⟨0, Nat.zero_le _, rfl, by simp, HT.out⟩
       case round =>
        obtain ⟨j, hj, rfl, ht, hT⟩ := hrel
        have HA2 := zH ht
        clear HT
        have HT := zH hT
        clear ht hT
        obtain ⟨e0, e1, e2, e3, e4⟩ := cells5 (HB.out.step HT.out)
        have x0 := (HS.out.trans HT.out).kc HX0.out
        have hix0 : (0 : Int) < (h.holds.length : Int) := by omega
        by_cases hjt : j < nz
        ·obtain ⟨u0, u1⟩ : _ ∧ _ := ⟨(HB1.out.step HT.out).cell 0, (HB1.out.step HT.out).cell 1⟩
         simp only [zD, zE] at u0 u1
         have hcall := zH (Places_any S T h W k j _ _ wr (HH0.out.keep (.of_step (HS.out.trans HT.out))) (HU0.out.keep (.of_step (HS.out.trans HT.out))) HQ.out hlt (by have := HNZ.out; omega) HML.out)
         go_wp2_with fail
         refine hcall.out.mono ?_
         rintro e wn5 ⟨rfl, hSn⟩
         have HT5 := zH (HT.out.trans hSn)
         clear HT hSn hcall u0 u1 e0 e1 e2 e3 e4 x0
         obtain ⟨la, hla⟩ : ∃ n : Nat, n = (numsB (agsP W k j) W.books.length).length := ⟨_, rfl⟩
         obtain ⟨lm, hlm⟩ : ∃ n : Nat, n = (numsB (mgsP W k j) W.msgs.length).length := ⟨_, rfl⟩
         rw [← hla, ← hlm]
         have HL := zH (And.intro hla hlm)
         clear hla hlm
         by_cases q1 : la + lm = 1
         ·have d1 : (((la + lm : Nat) : Int) != 1) = false := by simp; omega
          have HN := zH (all_step HA2.out (show onePl W k j = true by unfold onePl; rw [← HL.out.1, ← HL.out.2]; simp [q1]))
          obtain ⟨lq, hlq⟩ : ∃ n, n = la + lm := ⟨_, rfl⟩
          rw [← hlq] at d1 ⊢
          clear q1 hlq
          go_wp2
          go_roundw
          case rel => exact ⟨j + 1, by omega, by go_num, HN.out, HT5.out⟩
          case measure => simp [intOf]; omega
         ·have d1 : (((la + lm : Nat) : Int) != 1) = true := by rw [bne_iff_ne]; omega
          have HN := zH (show (List.range h.dates.length).all (oneRow h W) = false from all_bad hlt (by
           have : onePl W k j = false := by unfold onePl; rw [← HL.out.1, ← HL.out.2]; simp [q1]
           unfold oneRow
           rw [show (sizeL h.sectors).toNat = nz by rw [HNZ.out]; simp]
           exact all_bad hjt this))
          obtain ⟨lq, hlq⟩ : ∃ n, n = la + lm := ⟨_, rfl⟩
          rw [← hlq] at d1 ⊢
          clear q1 hlq
          go_wp2
          go_ret
          exact ⟨by rw [HF.out, HN.out]; rfl, HS.out.trans HT5.out⟩
        ·have HN := zH (all_step HA.out (show oneRow h W k = true by
          unfold oneRow
          rw [show (sizeL h.sectors).toNat = nz by rw [HNZ.out]; simp]
          have e : j = nz := by omega
          rw [← e]; exact HA2.out))
         go_wp2
         go_roundw
         case rel => exact ⟨k + 1, by omega, by go_num, HN.out, HT.out⟩
         case measure => simp [intOf]; omega
      ·have HN := zH (show (List.range h.dates.length).all (oneRow h W) = true by
        have e : k = h.dates.length := by omega
        rw [← e]; exact HA.out)
       go_wp2
       go_ret
       exact ⟨by rw [HF.out, HN.out]; rfl, HS.out.trans HT.out⟩
end Go.Proofs.YtgpiieogiafdoaaGreat
