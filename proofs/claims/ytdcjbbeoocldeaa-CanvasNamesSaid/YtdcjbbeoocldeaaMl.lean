/- The law CanvasBalances is walked: it answers true. -/
import Derived.Test.YtdcjbbeoocldeaaMj
import Derived.Test.YtdcjbbeoocldeaaRows
/- Walks: the law CanvasBalances: it answers true. -/
namespace Go.Proofs.Ytdcjbbeoocldeaa
set_option linter.unusedSimpArgs false
set_option linter.unusedVariables false
open Go.RowKit Go.BT

theorem Tent_any (S : Nat → Prop) (t : List Head) (v : Value) (w : World) (hv : SL S w v t) (hn : fewT t) :
    Calls Try.prog 19 #[v] w fun e w' => ∃ v', e = .returned v' ∧ SL (Old w) w' v' t ∧ Step w w' :=
  (TentO_any S t v w hv hn).mono fun _ _ ⟨v', h1, h2, h3⟩ => ⟨v', h1, h2.sl fun j h4 _ h5 => by unfold Old at h5; omega, h3⟩
theorem few_of {l : List Tst} {t : List Head} (h : few l t = true) : l.length ≤ 45 ∧ fewT t := by
  simp only [few, Bool.and_eq_true, decide_eq_true_eq, List.all_eq_true] at h
  exact ⟨h.1.2, h.2, fun i hi => by have := h.1.1 _ (List.getElem_mem hi); simpa [fewH] using this⟩
/-- A value carried along. -/
theorem SL.go {α : Type} [Rep α] {S : Nat → Prop} {w w' : World} {v : Value} {l : List α} (h : SL S w v l) (k : Step w w') : SL (fun _ => False) w' v l := (h.weak fun _ _ h => h.elim).keep (.of_step k)
theorem AV.go {α : Type} [Rep α] {S : Nat → Prop} {w w' : World} {v : Value} {l : α} (h : AV S w v l) (k : Step w w') : AV (fun _ => False) w' v l := (h.weak fun _ _ h => h.elim).keep (.of_step k)
set_option maxRecDepth 100000 in
set_option maxHeartbeats 8000000 in
theorem CanvasBalances_any (l : List Tst) (t : List Head) (i : Int) (p : Vec) (v u : Value) (w : World) (hv : SL (fun _ => False) w v l) (hu : SL (fun _ => False) w u t) :
    Calls Try.prog 3 #[v, u, .int .i64 i, .agg #[.int .i64 p.x, .int .i64 p.y]] w fun e w' => e = .returned (.bool true) ∧ Step w w' := by
  obtain ⟨W0, hW0⟩ : ∃ W, W = w.alloc (.cells #[.int .i64 p.x, .int .i64 p.y] 26) := ⟨_, rfl⟩
  have hb : Bx W0 w.heap.size [.int .i64 p.x, .int .i64 p.y] 26 := by subst hW0; exact Bx.new w [_, _] _
  have hS : Step w W0 := by subst hW0; exact (by repeat (first | (with_reducible assumption) | (with_reducible exact Step.refl _) | (with_reducible apply Step.s_alloc) | (with_reducible apply Step.s_drew) | (with_reducible apply Step.s_drewN) | (with_reducible refine Step.trans ?_ (by with_reducible assumption))))
  have HB := Lib.hid hb
  have HV := Lib.hid (SL.go hv hS)
  have HU := Lib.hid (SL.go hu hS)
  have HS := Lib.hid hS
  have HT := Lib.hid (Step.refl W0)
  have HW := Lib.hid hW0
  obtain ⟨pv, cv, rfl⟩ := hv.form
  obtain ⟨pu, cu, rfl⟩ := hu.form
  clear hb hS hW0 hv hu
  go_enter Try.func3, Try.ntmps3
  go_upto_region 1 with (fail)
  rw [← HW.out]
  clear HW
  go_wp2_with fail
  refine (Few_any (fun _ => False) l t _ _ _ (HV.out.keep (.of_step HT.out)) (HU.out.keep (.of_step HT.out))).mono ?_
  rintro e wn ⟨rfl, hSn⟩
  have HTi := Lib.hid (HT.out.trans hSn)
  clear hSn HT
  have HT := HTi
  clear HTi
  cases qf : few l t with
  | false =>
    clear qf
    go_wp2_with fail
    refine (wakes_any _).mono ?_
    rintro e wz ⟨rfl, hSz⟩
    go_wp2
    go_ret
    exact ⟨rfl, HS.out.trans (HT.out.trans hSz)⟩
  | true =>
  have HFEW := Lib.hid (few_of qf)
  clear qf
  go_upto_region 3 with (fail)
  have HSZ0 := Lib.hid (HT.out.size)
  have hwq := HT.out
  refine wp_region_seqM (fun c d v a w h => by cases d <;> exact h) (kdOf [1, 3, 6, 7] [(11, 31, .agg #[.int .i64 0, .slice none 0 0])]) [0, 1, 0, 7, 0, 0, 47, 127, 255, 511, 511, 0, 3071, 8191] [0, 2, 4, 5, 1, 3, 6, 7, 8, 9, 10, 11] [12, 13] (by kernel_rfl) (by kernel_rfl) (fun i T z hi hk => by simp only [List.mem_cons, List.not_mem_nil, or_false] at hi; rcases hi with rfl | rfl | rfl | rfl | rfl | rfl | rfl | rfl | rfl | rfl | rfl | rfl <;> simp [kdOf] at hk <;> (obtain ⟨rfl, rfl⟩ := hk; first | (show Option.bind _ _ = some _; kernel_rfl) | (refine ⟨_, rfl, fun _ _ => ?_⟩; go_simp))) ?_
  intro Wx hWx
  have HTx := Lib.hid (HT.out.trans hWx)
  clear hWx HT
  have HT := HTx
  clear HTx
  have n0 := (HB.out.step HT.out).cell 0
  have n1 := (HB.out.step HT.out).cell 1
  simp only [List.getElem?_cons_zero, List.getElem?_cons_succ] at n0 n1
  repeat (first | (refine run_off rfl rfl (by rfl) ?_; (try simp only [Act.put, List.setIfInBounds_toArray, List.set_cons_zero, List.set_cons_succ])) | (refine run_chain_off rfl rfl (by rfl) (K0_mono _) ?_; (try simp only [Act.put, List.setIfInBounds_toArray, List.set_cons_zero, List.set_cons_succ])) | ((refine run_want rfl rfl (by rfl) ⟨?_, fun W hW => ?_, ?_⟩; rotate_left; (· (have d0 := hW.keeps.cell id n0; have d1 := hW.keeps.cell id n1; go_simp; (try with_reducible rfl)))); (try simp only [Act.put, List.setIfInBounds_toArray, List.set_cons_zero, List.set_cons_succ])))
  clear n0 n1
  refine run_chain rfl rfl (by rfl) (fun Wi hWi K' hK => ?_)
  have HTi := Lib.hid (HT.out.trans hWi)
  have HZW := Lib.hid HTi.out.size
  clear hWi HT
  go_simp
  refine (Tests_any _ l _ _ (SL.go HV.out HTi.out) (by have := HFEW.out.1; omega)).mono ?_
  rintro e wn ⟨v1, rfl, hv1, hSn⟩
  have HT := Lib.hid (HTi.out.trans (StepX.of hSn))
  clear HTi
  have Hhv1 := Lib.hid (SL.go hv1 (Step.refl _))
  clear hv1
  refine hK _ _ (StepX.of hSn) ?_
  clear hSn
  (try simp only [Act.put, List.setIfInBounds_toArray, List.set_cons_zero, List.set_cons_succ])
  repeat (first | (refine run_off rfl rfl (by rfl) ?_; (try simp only [Act.put, List.setIfInBounds_toArray, List.set_cons_zero, List.set_cons_succ])) | (refine run_chain_off rfl rfl (by rfl) (K0_mono _) ?_; (try simp only [Act.put, List.setIfInBounds_toArray, List.set_cons_zero, List.set_cons_succ])) | ((refine run_want rfl rfl (by rfl) ⟨?_, fun W hW => ?_, ?_⟩; rotate_left; (· (skip; go_simp; (try with_reducible rfl)))); (try simp only [Act.put, List.setIfInBounds_toArray, List.set_cons_zero, List.set_cons_succ])))
  refine run_chain rfl rfl (by rfl) (fun Wi hWi K' hK => ?_)
  have HTi := Lib.hid (HT.out.trans hWi)
  have h1i := Lib.hid (SL.go Hhv1.out hWi)
  clear hWi HT Hhv1
  go_simp
  refine (Tent_any _ t _ _ (SL.go HU.out HTi.out) HFEW.out.2).mono ?_
  rintro e wn ⟨v2, rfl, hv2, hSn⟩
  have HT := Lib.hid (HTi.out.trans (StepX.of hSn))
  have Hhv1 := Lib.hid (SL.go h1i.out hSn)
  have HZI := Lib.hid HTi.out.size
  clear HTi h1i
  have Hhv2 := Lib.hid (SL.go hv2 (Step.refl _))
  clear hv2
  refine hK _ _ (StepX.of hSn) ?_
  clear hSn
  (try simp only [Act.put, List.setIfInBounds_toArray, List.set_cons_zero, List.set_cons_succ])
  have n0 := (HB.out.step HT.out).cell 0
  have n1 := (HB.out.step HT.out).cell 1
  simp only [List.getElem?_cons_zero, List.getElem?_cons_succ] at n0 n1
  repeat (first | (refine run_off rfl rfl (by rfl) ?_; (try simp only [Act.put, List.setIfInBounds_toArray, List.set_cons_zero, List.set_cons_succ])) | (refine run_chain_off rfl rfl (by rfl) (K0_mono _) ?_; (try simp only [Act.put, List.setIfInBounds_toArray, List.set_cons_zero, List.set_cons_succ])) | ((refine run_want rfl rfl (by rfl) ⟨?_, fun W hW => ?_, ?_⟩; rotate_left; (· (have d0 := hW.keeps.cell id n0; have d1 := hW.keeps.cell id n1; go_simp; (try with_reducible rfl)))); (try simp only [Act.put, List.setIfInBounds_toArray, List.set_cons_zero, List.set_cons_succ])))
  clear n0 n1
  refine run_chain rfl rfl (by rfl) (fun Wi hWi K' hK => ?_)
  have HTi := Lib.hid (HT.out.trans hWi)
  have h1i := Lib.hid (SL.go Hhv1.out hWi)
  have h2i := Lib.hid (SL.go Hhv2.out hWi)
  clear hWi HT Hhv1 Hhv2
  go_simp
  refine (Vector_any p _).mono ?_
  rintro e wn ⟨rfl, hSn⟩
  have HT := Lib.hid (HTi.out.trans (StepX.of hSn))
  have Hhv1 := Lib.hid (SL.go h1i.out hSn)
  have Hhv2 := Lib.hid (SL.go h2i.out hSn)
  have HZI := Lib.hid HTi.out.size
  clear HTi h1i h2i
  refine hK _ _ (StepX.of hSn) ?_
  clear hSn
  (try simp only [Act.put, List.setIfInBounds_toArray, List.set_cons_zero, List.set_cons_succ])
  repeat (first | (refine run_off rfl rfl (by rfl) ?_; (try simp only [Act.put, List.setIfInBounds_toArray, List.set_cons_zero, List.set_cons_succ])) | (refine run_chain_off rfl rfl (by rfl) (K0_mono _) ?_; (try simp only [Act.put, List.setIfInBounds_toArray, List.set_cons_zero, List.set_cons_succ])) | ((refine run_want rfl rfl (by rfl) ⟨?_, fun W hW => ?_, ?_⟩; rotate_left; (· (skip; go_simp; (try with_reducible rfl)))); (try simp only [Act.put, List.setIfInBounds_toArray, List.set_cons_zero, List.set_cons_succ])))
  refine run_chain rfl rfl (by rfl) (fun Wi hWi K' hK => ?_)
  have HTi := Lib.hid (HT.out.trans hWi)
  have h1i := Lib.hid (SL.go Hhv1.out hWi)
  have h2i := Lib.hid (SL.go Hhv2.out hWi)
  clear hWi HT Hhv1 Hhv2
  go_simp
  refine (Balanced_any (fun _ => False) l t i p _ _ _ h1i.out h2i.out).mono ?_
  rintro e wn ⟨vb, rfl, hvb, hSn⟩
  have HT := Lib.hid (HTi.out.trans (StepX.of hSn))
  have Hhv1 := Lib.hid (SL.go h1i.out hSn)
  have Hhv2 := Lib.hid (SL.go h2i.out hSn)
  have HZI := Lib.hid HTi.out.size
  clear HTi h1i h2i
  obtain ⟨bb, hbb⟩ : ∃ b, b = balR l t i p := ⟨_, rfl⟩
  obtain ⟨bc, hbc⟩ : ∃ b, b = balC l t i p := ⟨_, rfl⟩
  rw [← hbb] at hvb
  rw [← hbc]
  obtain ⟨cb, rfl, hls⟩ := hvb.av.bal
  obtain ⟨pb, kb, rfl⟩ := hls.form
  have HLS := Lib.hid (hls.weak (T := fun j => Old Wi j ∨ wn.heap.size ≤ j) (fun j hj hs => hs.resolve_right (by omega)))
  have HBB := Lib.hid (And.intro hbb hbc)
  clear Hhv1 Hhv2 hvb hls hbb hbc
  refine hK _ _ (StepX.of hSn) ?_
  clear hSn hK
  (try simp only [Act.put, List.setIfInBounds_toArray, List.set_cons_zero, List.set_cons_succ])
  repeat (first | (refine run_off rfl rfl (by rfl) ?_; (try simp only [Act.put, List.setIfInBounds_toArray, List.set_cons_zero, List.set_cons_succ])) | (refine run_chain_off rfl rfl (by rfl) (K0_mono _) ?_; (try simp only [Act.put, List.setIfInBounds_toArray, List.set_cons_zero, List.set_cons_succ])) | ((refine run_want rfl rfl (by rfl) ⟨?_, fun W hW => ?_, ?_⟩; rotate_left; (· (skip; go_simp; (try with_reducible rfl)))); (try simp only [Act.put, List.setIfInBounds_toArray, List.set_cons_zero, List.set_cons_succ])))
  refine run_alloc rfl rfl (fun W5 g hW5 hg hgb hgN => ?_)
  (try simp only [Act.put, List.setIfInBounds_toArray, List.set_cons_zero, List.set_cons_succ])
  refine run_end (L := [_, _]) rfl (fun W6 hW6 => ?_)
  have hb6 := Bx.step (w := W5) (cs := [_, _]) hg hW6
  refine wpl_store (v := .agg #[.int .i64 bb.whole, .slice pb bb.parts.length kb]) rfl _ _ _ rfl rfl rfl hb6 (by kernel_rfl) (by simp [Value.cells]) (by simp [Value.cells, Value.oneCell']) [.int .i64 bb.whole, .slice pb bb.parts.length kb] rfl (fun w7 hb7 hw7 => ?_)
  have hg0 := HSZ0.out
  have HTx := Lib.hid (Step.wrote ((HT.out.trans hW5).trans hW6) hw7 (by omega))
  have HLSx := Lib.hid (SL.weak (T := fun _ => False) (fun _ _ h => h.elim) ((HLS.out.keep (.of_step (hW5.trans hW6))).keep (Keeps.wrote hw7 (show Old Wi g ∨ wn.heap.size ≤ g from hgN.2))))
  have HBG := Lib.hid hb7
  clear hW5 hg hgb hgN hW6 hb6 hb7 hw7 HT hg0 HSZ0 HLS hwq
  have HT := Lib.hid (Step.refl w7)
  have HBw := Lib.hid (HB.out.step HTx.out)
  have n0 := HBw.out.cell 0
  have n1 := HBw.out.cell 1
  simp only [List.getElem?_cons_zero, List.getElem?_cons_succ] at n0 n1
  have HV7 := Lib.hid (SL.go HV.out HTx.out)
  have HU7 := Lib.hid (SL.go HU.out HTx.out)
  have HS7 := Lib.hid (HS.out.trans HTx.out)
  clear HS HTx HV HU HB
  have HS := HS7
  clear HS7
  go_wp2_with fail
  refine (Corner_any p _).mono ?_
  rintro e wn ⟨rfl, hSn⟩
  have HTi := Lib.hid (HT.out.trans hSn)
  clear hSn HT
  have HT := HTi
  clear HTi
  clear n0 n1
  go_wp2_with fail
  refine (asked_any (fun _ => False) l t i (cornerB p) _ _ _ (SL.go HV7.out HT.out) (SL.go HU7.out HT.out)).mono ?_
  rintro e wn ⟨rfl, hSn⟩
  have HTi := Lib.hid (HT.out.trans hSn)
  clear hSn HT
  have HT := HTi
  clear HTi
  obtain ⟨c, hc⟩ : ∃ c, c = atC l t i (cornerB p) := ⟨_, rfl⟩
  rw [← hc]
  by_cases h0 : c = 0
  rotate_left
  · have hd1 : (c == 0) = false := by simpa using h0
    have hd2 : (c != 0) = true := by simpa using h0
    have hbc : bc = c := by rw [HBB.out.2]; unfold balC; rw [← hc, if_neg h0]
    have hbn : bb = noBal := by rw [HBB.out.1]; unfold balR; rw [← HBB.out.2, hbc, if_neg h0]
    subst hbc hbn
    clear h0 hc
    go_upto_region 5 with (fail)
    refine wp_region_seq (kdOf [8, 15, 16] []) [0, 1, 3, 7, 7, 7, 55, 119, 255, 7, 7, 7, 3079, 7175, 15367, 32767, 65535, 131071, 262143] [0, 1, 2, 3, 4, 5, 6, 7, 9, 10, 11, 12, 13, 14, 8, 15, 16, 17, 18] [] (by kernel_rfl) (by kernel_rfl) (fun i T z hi hk => by simp [kdOf] at hk <;> (try (split at hk <;> cases hk))) ?_
    intro Wx hWx
    have HTx := Lib.hid (HT.out.trans hWx)
    clear hWx HT
    have HT := HTx
    clear HTx
    repeat (first | (refine run_off rfl rfl (by rfl) ?_; (try simp only [Act.put, List.setIfInBounds_toArray, List.set_cons_zero, List.set_cons_succ])) | (refine run_chain_off rfl rfl (by rfl) (K0_mono _) ?_; (try simp only [Act.put, List.setIfInBounds_toArray, List.set_cons_zero, List.set_cons_succ])) | ((refine run_want rfl rfl (by rfl) ⟨?_, fun W hW => ?_, ?_⟩; rotate_left; (· (skip; go_simp; (try with_reducible rfl)))); (try simp only [Act.put, List.setIfInBounds_toArray, List.set_cons_zero, List.set_cons_succ])))
    refine run_end (L := []) rfl (fun W6 hW6 => ?_)
    have HT6 := Lib.hid (HT.out.trans hW6)
    clear hW6 HT
    have HT := HT6
    clear HT6
    have r0 : W6.cell? ⟨g, 0, none⟩ = some (.int .i64 0) := (HBG.out.step HT.out).cell 0
    have r1 : W6.cell? ⟨g, 1, none⟩ = some (.slice pb 0 kb) := (HBG.out.step HT.out).cell 1
    go_wp2_with fail
    refine (wakes_any _).mono ?_
    rintro e wz ⟨rfl, hSz⟩
    go_wp2
    go_ret
    exact ⟨rfl, HS.out.trans (HT.out.trans hSz)⟩
  have hat := hc.symm.trans h0
  subst h0
  clear hc
  obtain ⟨k1, k2, k3, k4, k5⟩ := atC_ok hat
  obtain ⟨hpa, hpb, hpn, hpg⟩ := head_parts (headAt_ok k2 k3)
  obtain ⟨k, rfl⟩ : ∃ k : Nat, i = k := ⟨i.toNat, by omega⟩
  have hlt : k < t.length := by omega
  rw [headAt_eq hlt] at hpa hpb hpn hpg
  have HHA := Lib.hid (headAt_eq hlt)
  have hix : (0 : Int) ≤ (k : Int) ∧ (k : Int) < (t.length : Int) := by omega
  obtain ⟨pu', cu', bu, ou, heu, _, _, hpu, hcu, _⟩ := HU7.out.heads
  injection heu with heu1 _ heu3
  subst heu1 heu3
  obtain rfl := hpu (by omega)
  obtain ⟨c2, e1, e2, e3, e4⟩ := hcu k hlt
  obtain ⟨h, hh⟩ : ∃ h, h = t[k] := ⟨_, rfl⟩
  rw [← hh] at HHA e1 e2 e4 hpa hpb hpn hpg
  obtain ⟨pg, cg, rfl⟩ := e4.form
  have HHV := Lib.hid (show AV (fun _ => False) w7 (.agg #[.int .i64 h.area, .int .i64 h.bears, .slice pg h.guys.length cg]) h from ⟨_, rfl, _, rfl, e4⟩)
  have HE := Lib.hid (And.intro e1 (And.intro e2 e3))
  have HSM := Lib.hid (forces_small k1 hpg)
  have HFL := Lib.hid (show (forcesL l h.guys).length ≤ 8 by rw [forces_len]; exact hpn)
  have HK1 := Lib.hid (And.intro k1 (And.intro hpg (show h.guys.length ≤ 1000 by omega)))
  obtain ⟨F, hF⟩ : ∃ F, F = forcesL l h.guys := ⟨_, rfl⟩
  rw [← hF] at HSM HFL
  have HFE := Lib.hid hF
  clear e1 e2 e3 e4 hF hh hpu hcu hpb hpn hpg k1 k2 k3 k5
  obtain ⟨q, hq⟩ : ∃ q, q = timesV p h.area := ⟨_, rfl⟩
  have hqi : inV 10000000 q := by rw [hq]; exact times_in (N := 1000) (corner_in k4) hpa
  have hqf := in_fits hqi (by decide)
  have HQF := Lib.hid (show fits (h.area * p.x) ∧ fits (h.area * p.y) by rw [hq] at hqf; exact hqf)
  have HQ := Lib.hid (And.intro hq hqi)
  have HBC := Lib.hid (show bc = (if (searchL F q).2 = true then 0 else 7) by rw [HBB.out.2]; unfold balC; rw [hat, if_pos rfl]; unfold headF headP; rw [HHA.out, ← HFE.out, ← hq])
  have HBQ := Lib.hid (show bb = (if bc = 0 then (searchL F q).1 else noBal) by rw [HBB.out.1]; unfold balR; rw [← HBB.out.2]; unfold headF headP; rw [HHA.out, ← HFE.out, ← hq])
  clear hq hqi hqf k4 hat hpa HBB
  go_upto_region 5 with (fail)
  refine wp_region_seq (kdOf [8, 15, 16] []) [0, 1, 3, 7, 7, 7, 55, 119, 255, 7, 7, 7, 3079, 7175, 15367, 32767, 65535, 131071, 262143] [0, 1, 2, 3, 4, 5, 6, 7, 9, 10, 11, 12, 13, 14, 8, 15, 16, 17, 18] [] (by kernel_rfl) (by kernel_rfl) (fun i T z hi hk => by simp [kdOf] at hk <;> (try (split at hk <;> cases hk))) ?_
  intro Wx hWx
  have HTx := Lib.hid (HT.out.trans hWx)
  clear hWx HT
  have HT := HTx
  clear HTx
  have n0 := (HBw.out.step HT.out).cell 0
  have n1 := (HBw.out.step HT.out).cell 1
  simp only [List.getElem?_cons_zero, List.getElem?_cons_succ] at n0 n1
  have e1 := HT.out.keeps.cell id HE.out.1
  have e2 := HT.out.keeps.cell id HE.out.2.1
  have e3 := HT.out.keeps.cell id HE.out.2.2
  repeat (first | (refine run_off rfl rfl (by rfl) ?_; (try simp only [Act.put, List.setIfInBounds_toArray, List.set_cons_zero, List.set_cons_succ])) | (refine run_chain_off rfl rfl (by rfl) (K0_mono _) ?_; (try simp only [Act.put, List.setIfInBounds_toArray, List.set_cons_zero, List.set_cons_succ])) | ((refine run_want rfl rfl (by rfl) ⟨?_, fun W hW => ?_, ?_⟩; rotate_left; (· (have d0 := hW.keeps.cell id n0; have d1 := hW.keeps.cell id n1; have d2 := hW.keeps.cell id e1; have d3 := hW.keeps.cell id e2; have d4 := hW.keeps.cell id e3; go_simp; (try with_reducible rfl)))); (try simp only [Act.put, List.setIfInBounds_toArray, List.set_cons_zero, List.set_cons_succ])))
  clear n0 n1 e1 e2 e3
  refine run_chain rfl rfl (by rfl) (fun Wi hWi K' hK => ?_)
  have HTi := Lib.hid (HT.out.trans hWi)
  have HZW := Lib.hid HTi.out.size
  clear hWi HT
  go_simp
  refine (Forces_any (fun _ => False) l h _ _ _ (SL.go HV7.out HTi.out) (AV.go HHV.out HTi.out) HK1.out.1 HK1.out.2.1 HK1.out.2.2).mono ?_
  rintro e wn ⟨vF, rfl, hvF, hSn⟩
  have HT := Lib.hid (HTi.out.trans (StepX.of hSn))
  clear HTi
  rw [← HFE.out] at hvF
  have HhvF := Lib.hid (SL.go hvF (Step.refl _))
  clear hvF
  refine hK _ _ (StepX.of hSn) ?_
  clear hSn
  (try simp only [Act.put, List.setIfInBounds_toArray, List.set_cons_zero, List.set_cons_succ])
  have n0 := (HBw.out.step HT.out).cell 0
  have n1 := (HBw.out.step HT.out).cell 1
  simp only [List.getElem?_cons_zero, List.getElem?_cons_succ] at n0 n1
  have e1 := HT.out.keeps.cell id HE.out.1
  have e2 := HT.out.keeps.cell id HE.out.2.1
  have e3 := HT.out.keeps.cell id HE.out.2.2
  repeat (first | (refine run_off rfl rfl (by rfl) ?_; (try simp only [Act.put, List.setIfInBounds_toArray, List.set_cons_zero, List.set_cons_succ])) | (refine run_chain_off rfl rfl (by rfl) (K0_mono _) ?_; (try simp only [Act.put, List.setIfInBounds_toArray, List.set_cons_zero, List.set_cons_succ])) | ((refine run_want rfl rfl (by rfl) ⟨?_, fun W hW => ?_, ?_⟩; rotate_left; (· (have d0 := hW.keeps.cell id n0; have d1 := hW.keeps.cell id n1; have d2 := hW.keeps.cell id e1; have d3 := hW.keeps.cell id e2; have d4 := hW.keeps.cell id e3; go_simp; (try with_reducible rfl)))); (try simp only [Act.put, List.setIfInBounds_toArray, List.set_cons_zero, List.set_cons_succ])))
  clear n0 n1 e1 e2 e3
  refine run_chain rfl rfl (by rfl) (fun Wi hWi K' hK => ?_)
  have HTi := Lib.hid (HT.out.trans hWi)
  have h1i := Lib.hid (SL.go HhvF.out hWi)
  clear hWi HT HhvF
  go_simp
  refine (Times_any p h.area _ HQF.out.1 HQF.out.2).mono ?_
  rintro e wn ⟨rfl, hSn⟩
  have HT := Lib.hid (HTi.out.trans (StepX.of hSn))
  have HhvF := Lib.hid (SL.go h1i.out hSn)
  have HZI := Lib.hid HTi.out.size
  clear HTi h1i
  rw [← HQ.out.1]
  refine hK _ _ (StepX.of hSn) ?_
  clear hSn
  (try simp only [Act.put, List.setIfInBounds_toArray, List.set_cons_zero, List.set_cons_succ])
  repeat (first | (refine run_off rfl rfl (by rfl) ?_; (try simp only [Act.put, List.setIfInBounds_toArray, List.set_cons_zero, List.set_cons_succ])) | (refine run_chain_off rfl rfl (by rfl) (K0_mono _) ?_; (try simp only [Act.put, List.setIfInBounds_toArray, List.set_cons_zero, List.set_cons_succ])) | ((refine run_want rfl rfl (by rfl) ⟨?_, fun W hW => ?_, ?_⟩; rotate_left; (· (skip; go_simp; (try with_reducible rfl)))); (try simp only [Act.put, List.setIfInBounds_toArray, List.set_cons_zero, List.set_cons_succ])))
  refine run_chain rfl rfl (by rfl) (fun Wi hWi K' hK => ?_)
  have HTi := Lib.hid (HT.out.trans hWi)
  have h1i := Lib.hid (SL.go HhvF.out hWi)
  clear hWi HT HhvF
  go_simp
  refine (Balances_any (fun _ => False) F q _ _ h1i.out HSM.out HFL.out (HQ.out.2.mono (by decide))).mono ?_
  rintro e wn ⟨rfl, hSn⟩
  have HT := Lib.hid (HTi.out.trans (StepX.of hSn))
  have HhvF := Lib.hid (SL.go h1i.out hSn)
  have HZI := Lib.hid HTi.out.size
  clear HTi h1i
  refine hK _ _ (StepX.of hSn) ?_
  clear hSn
  (try simp only [Act.put, List.setIfInBounds_toArray, List.set_cons_zero, List.set_cons_succ])
  clear HhvF
  repeat (first | (refine run_off rfl rfl (by rfl) ?_; (try simp only [Act.put, List.setIfInBounds_toArray, List.set_cons_zero, List.set_cons_succ])) | (refine run_chain_off rfl rfl (by rfl) (K0_mono _) ?_; (try simp only [Act.put, List.setIfInBounds_toArray, List.set_cons_zero, List.set_cons_succ])) | ((refine run_want rfl rfl (by rfl) ⟨?_, fun W hW => ?_, ?_⟩; rotate_left; (· (skip; go_simp; (try with_reducible rfl)))); (try simp only [Act.put, List.setIfInBounds_toArray, List.set_cons_zero, List.set_cons_succ])))
  refine run_end (L := []) rfl (fun W6 hW6 => ?_)
  have HT6 := Lib.hid (HT.out.trans hW6)
  clear hW6 HT
  have HT := HT6
  clear HT6
  cases hbl : balL F q with
  | false =>
    have hs := search_bal (p := q) HSM.out
    rw [hbl] at hs
    have hbc := HBC.out
    rw [hs, if_neg (by decide)] at hbc
    have hbn := HBQ.out
    rw [hbc, if_neg (by decide)] at hbn
    subst hbc hbn
    clear hs hbl
    have r0 : W6.cell? ⟨g, 0, none⟩ = some (.int .i64 0) := (HBG.out.step HT.out).cell 0
    have r1 : W6.cell? ⟨g, 1, none⟩ = some (.slice pb 0 kb) := (HBG.out.step HT.out).cell 1
    go_wp2_with fail
    refine (wakes_any _).mono ?_
    rintro e wz ⟨rfl, hSz⟩
    go_wp2
    go_ret
    exact ⟨rfl, HS.out.trans (HT.out.trans hSz)⟩
  | true =>
    have hs := search_bal (p := q) HSM.out
    rw [hbl] at hs
    have hbc := HBC.out
    rw [hs, if_pos rfl] at hbc
    have HIS := Lib.hid (search_is (p := q) HSM.out hs)
    have hbn := HBQ.out
    rw [hbc, if_pos rfl] at hbn
    rw [← hbn] at HIS
    subst hbc
    clear hs hbl hbn HBQ
    go_upto_region 9 with (fail)
    refine wp_region_seq (kdOf [8, 15, 21, 24] []) (0 :: 1 :: 3 :: 7 :: 7 :: 7 :: 55 :: 119 :: 255 :: 7 :: 7 :: 7 :: 3079 :: 7175 :: 15367 :: 32767 :: 7 :: 65543 :: 7 :: 262151 :: 983047 :: 2097151 :: 4194303 :: 8388607 :: 16777215 :: 33554431 :: 67108863 :: []) (0 :: 1 :: 2 :: 3 :: 4 :: 5 :: 6 :: 7 :: 9 :: 10 :: 11 :: 12 :: 13 :: 14 :: 16 :: 17 :: 18 :: 19 :: 20 :: 8 :: 15 :: 21 :: 22 :: 23 :: 24 :: 25 :: 26 :: []) [] (by kernel_rfl) (by kernel_rfl) (fun i T z hi hk => by simp [kdOf] at hk <;> (try (split at hk <;> cases hk))) ?_
    intro Wx hWx
    have HTx := Lib.hid (HT.out.trans hWx)
    clear hWx HT
    have HT := HTx
    clear HTx
    have n0 := (HBw.out.step HT.out).cell 0
    have n1 := (HBw.out.step HT.out).cell 1
    have r0 := (HBG.out.step HT.out).cell 0
    have r1 := (HBG.out.step HT.out).cell 1
    simp only [List.getElem?_cons_zero, List.getElem?_cons_succ] at n0 n1 r0 r1
    have e1 := HT.out.keeps.cell id HE.out.1
    have e2 := HT.out.keeps.cell id HE.out.2.1
    have e3 := HT.out.keeps.cell id HE.out.2.2
    repeat (first | (refine run_off rfl rfl (by rfl) ?_; (try simp only [Act.put, List.setIfInBounds_toArray, List.set_cons_zero, List.set_cons_succ])) | (refine run_chain_off rfl rfl (by rfl) (K0_mono _) ?_; (try simp only [Act.put, List.setIfInBounds_toArray, List.set_cons_zero, List.set_cons_succ])) | ((refine run_want rfl rfl (by rfl) ⟨?_, fun W hW => ?_, ?_⟩; rotate_left; (· (have d0 := hW.keeps.cell id n0; have d1 := hW.keeps.cell id n1; have d2 := hW.keeps.cell id e1; have d3 := hW.keeps.cell id e2; have d4 := hW.keeps.cell id e3; have d5 := hW.keeps.cell id r0; have d6 := hW.keeps.cell id r1; go_simp; (try with_reducible rfl)))); (try simp only [Act.put, List.setIfInBounds_toArray, List.set_cons_zero, List.set_cons_succ])))
    clear n0 n1 e1 e2 e3 r0 r1
    refine run_chain rfl rfl (by rfl) (fun Wi hWi K' hK => ?_)
    have HTi := Lib.hid (HT.out.trans hWi)
    have HZW := Lib.hid HTi.out.size
    clear hWi HT
    go_simp
    refine (Forces_any (fun _ => False) l h _ _ _ (SL.go HV7.out HTi.out) (AV.go HHV.out HTi.out) HK1.out.1 HK1.out.2.1 HK1.out.2.2).mono ?_
    rintro e wn ⟨vF, rfl, hvF, hSn⟩
    have HT := Lib.hid (HTi.out.trans (StepX.of hSn))
    clear HTi
    rw [← HFE.out] at hvF
    have HhvF := Lib.hid (SL.go hvF (Step.refl _))
    clear hvF
    refine hK _ _ (StepX.of hSn) ?_
    clear hSn
    (try simp only [Act.put, List.setIfInBounds_toArray, List.set_cons_zero, List.set_cons_succ])
    have n0 := (HBw.out.step HT.out).cell 0
    have n1 := (HBw.out.step HT.out).cell 1
    have r0 := (HBG.out.step HT.out).cell 0
    have r1 := (HBG.out.step HT.out).cell 1
    simp only [List.getElem?_cons_zero, List.getElem?_cons_succ] at n0 n1 r0 r1
    have e1 := HT.out.keeps.cell id HE.out.1
    have e2 := HT.out.keeps.cell id HE.out.2.1
    have e3 := HT.out.keeps.cell id HE.out.2.2
    repeat (first | (refine run_off rfl rfl (by rfl) ?_; (try simp only [Act.put, List.setIfInBounds_toArray, List.set_cons_zero, List.set_cons_succ])) | (refine run_chain_off rfl rfl (by rfl) (K0_mono _) ?_; (try simp only [Act.put, List.setIfInBounds_toArray, List.set_cons_zero, List.set_cons_succ])) | ((refine run_want rfl rfl (by rfl) ⟨?_, fun W hW => ?_, ?_⟩; rotate_left; (· (have d0 := hW.keeps.cell id n0; have d1 := hW.keeps.cell id n1; have d2 := hW.keeps.cell id e1; have d3 := hW.keeps.cell id e2; have d4 := hW.keeps.cell id e3; have d5 := hW.keeps.cell id r0; have d6 := hW.keeps.cell id r1; go_simp; (try with_reducible rfl)))); (try simp only [Act.put, List.setIfInBounds_toArray, List.set_cons_zero, List.set_cons_succ])))
    clear n0 n1 e1 e2 e3 r0 r1
    refine run_chain rfl rfl (by rfl) (fun Wi hWi K' hK => ?_)
    have HTi := Lib.hid (HT.out.trans hWi)
    have h1i := Lib.hid (SL.go HhvF.out hWi)
    clear hWi HT HhvF
    go_simp
    refine (Times_any p h.area _ HQF.out.1 HQF.out.2).mono ?_
    rintro e wn ⟨rfl, hSn⟩
    have HT := Lib.hid (HTi.out.trans (StepX.of hSn))
    have HhvF := Lib.hid (SL.go h1i.out hSn)
    have HZI := Lib.hid HTi.out.size
    clear HTi h1i
    rw [← HQ.out.1]
    refine hK _ _ (StepX.of hSn) ?_
    clear hSn
    (try simp only [Act.put, List.setIfInBounds_toArray, List.set_cons_zero, List.set_cons_succ])
    have r0 := (HBG.out.step HT.out).cell 0
    have r1 := (HBG.out.step HT.out).cell 1
    simp only [List.getElem?_cons_zero, List.getElem?_cons_succ] at r0 r1
    repeat (first | (refine run_off rfl rfl (by rfl) ?_; (try simp only [Act.put, List.setIfInBounds_toArray, List.set_cons_zero, List.set_cons_succ])) | (refine run_chain_off rfl rfl (by rfl) (K0_mono _) ?_; (try simp only [Act.put, List.setIfInBounds_toArray, List.set_cons_zero, List.set_cons_succ])) | ((refine run_want rfl rfl (by rfl) ⟨?_, fun W hW => ?_, ?_⟩; rotate_left; (· (have d0 := hW.keeps.cell id r0; have d1 := hW.keeps.cell id r1; go_simp; (try with_reducible rfl)))); (try simp only [Act.put, List.setIfInBounds_toArray, List.set_cons_zero, List.set_cons_succ])))
    clear r0 r1
    refine run_chain rfl rfl (by rfl) (fun Wi hWi K' hK => ?_)
    have HTi := Lib.hid (HT.out.trans hWi)
    have h1i := Lib.hid (SL.go HhvF.out hWi)
    clear hWi HT HhvF
    go_simp
    refine (IsBalance_any (fun _ => False) F q bb _ _ _ h1i.out ⟨_, rfl, _, rfl, SL.go HLSx.out HTi.out⟩ HSM.out HFL.out HQ.out.2).mono ?_
    rintro e wn ⟨rfl, hSn⟩
    have HT := Lib.hid (HTi.out.trans (StepX.of hSn))
    have HhvF := Lib.hid (SL.go h1i.out hSn)
    have HZI := Lib.hid HTi.out.size
    clear HTi h1i
    rw [HIS.out]
    refine hK _ _ (StepX.of hSn) ?_
    clear hSn
    (try simp only [Act.put, List.setIfInBounds_toArray, List.set_cons_zero, List.set_cons_succ])
    clear HhvF
    repeat (first | (refine run_off rfl rfl (by rfl) ?_; (try simp only [Act.put, List.setIfInBounds_toArray, List.set_cons_zero, List.set_cons_succ])) | (refine run_chain_off rfl rfl (by rfl) (K0_mono _) ?_; (try simp only [Act.put, List.setIfInBounds_toArray, List.set_cons_zero, List.set_cons_succ])) | ((refine run_want rfl rfl (by rfl) ⟨?_, fun W hW => ?_, ?_⟩; rotate_left; (· (skip; go_simp; (try with_reducible rfl)))); (try simp only [Act.put, List.setIfInBounds_toArray, List.set_cons_zero, List.set_cons_succ])))
    refine run_chain rfl rfl (by rfl) (fun Wi hWi K' hK => ?_)
    have HTi := Lib.hid (HT.out.trans hWi)
    have HZW := Lib.hid HTi.out.size
    clear hWi HT
    go_simp
    refine (wakes_any _).mono ?_
    rintro e wn ⟨rfl, hSn⟩
    have HT := Lib.hid (HTi.out.trans (StepX.of hSn))
    clear HTi
    refine hK _ _ (StepX.of hSn) ?_
    clear hSn
    (try simp only [Act.put, List.setIfInBounds_toArray, List.set_cons_zero, List.set_cons_succ])
    repeat (first | (refine run_off rfl rfl (by rfl) ?_; (try simp only [Act.put, List.setIfInBounds_toArray, List.set_cons_zero, List.set_cons_succ])) | (refine run_chain_off rfl rfl (by rfl) (K0_mono _) ?_; (try simp only [Act.put, List.setIfInBounds_toArray, List.set_cons_zero, List.set_cons_succ])) | ((refine run_want rfl rfl (by rfl) ⟨?_, fun W hW => ?_, ?_⟩; rotate_left; (· (skip; go_simp; (try with_reducible rfl)))); (try simp only [Act.put, List.setIfInBounds_toArray, List.set_cons_zero, List.set_cons_succ])))
    refine run_end (L := []) rfl (fun W6 hW6 => ?_)
    have HT6 := Lib.hid (HT.out.trans hW6)
    clear hW6 HT
    have HT := HT6
    clear HT6
    go_wp2
    go_ret
    exact ⟨rfl, HS.out.trans HT.out⟩
end Go.Proofs.Ytdcjbbeoocldeaa
