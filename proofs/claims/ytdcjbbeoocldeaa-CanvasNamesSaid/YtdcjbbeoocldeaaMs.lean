/- The first head and corner that are too weak: the program's, the document's, and the law CanvasWeakest. -/
import Derived.Test.YtdcjbbeoocldeaaMi
import Derived.Test.YtdcjbbeoocldeaaMl
import Derived.Test.YtdcjbbeoocldeaaRows
/- Walks: the first head and corner that are too weak, by the program; the errors of a wind. -/
namespace Go.BT
open Go.RowKit
section
variable {P : Program} {fn : Func} {R : Ending → World → Prop} {a : Act} {w : World}
/-- Three results, the last a struct in a variable. -/
theorem ret_ttc {t u x : Tmp} {T T' : TypeId} {k g : Nat} {cs : List Value} (hr : fn.results = #[.tmp u, .tmp x, .cell t T]) (hi : SI P T k)
    (ht : a.tmps.getD t undef = .pointer (some ⟨g, 0, none⟩)) (hb : Bx w g cs T') (hk : cs.length = k) (hd : a.defers = []) (hR : R (.returned (.tuple #[a.tmps.getD u undef, a.tmps.getD x undef, .agg cs.toArray])) w) : bodyPost P fn R .ret a w := by
  refine bodyPost_ret (v := .tuple #[a.tmps.getD u undef, a.tmps.getD x undef, .agg cs.toArray]) ?_ hd hR
  have ht' : a.tmps[t]?.getD undef = .pointer (some ⟨g, 0, none⟩) := by simpa using ht
  simp [results, hr, ht', asAddr, run_loadVar_bx hi hb hk]
/-- Four results, the third a struct in a variable. -/
theorem ret_ttct {t u x y : Tmp} {T T' : TypeId} {k g : Nat} {cs : List Value} (hr : fn.results = #[.tmp u, .tmp x, .cell t T, .tmp y]) (hi : SI P T k)
    (ht : a.tmps.getD t undef = .pointer (some ⟨g, 0, none⟩)) (hb : Bx w g cs T') (hk : cs.length = k) (hd : a.defers = []) (hR : R (.returned (.tuple #[a.tmps.getD u undef, a.tmps.getD x undef, .agg cs.toArray, a.tmps.getD y undef])) w) : bodyPost P fn R .ret a w := by
  refine bodyPost_ret (v := .tuple #[a.tmps.getD u undef, a.tmps.getD x undef, .agg cs.toArray, a.tmps.getD y undef]) ?_ hd hR
  have ht' : a.tmps[t]?.getD undef = .pointer (some ⟨g, 0, none⟩) := by simpa using ht
  simp [results, hr, ht', asAddr, run_loadVar_bx hi hb hk]
end
theorem weakK_some {F : List Vec} {area : Int} {wind : List Vec} {j : Nat} (hj : j < wind.length) (h1 : ∀ i (hi : i < j) (hl : i < wind.length), balL F (timesV wind[i] area) = true) (h2 : balL F (timesV wind[j] area) = false) : weakK F area wind = some j := by
  unfold weakK
  rw [List.findIdx?_eq_some_iff_getElem]
  exact ⟨hj, by simp [h2], fun i hi => by simp [h1 i hi (by omega)]⟩
theorem weakK_no {F : List Vec} {area : Int} {wind : List Vec} (h1 : ∀ i (hl : i < wind.length), balL F (timesV wind[i] area) = true) : weakK F area wind = none := by
  rw [weakK_none, List.all_eq_true]
  intro c hc
  obtain ⟨i, hi, rfl⟩ := List.getElem_of_mem hc
  exact h1 i hi
/-- A direction in which what is pushed is more than all can hold. -/
def TooWeak (l : List Tst) (t : List Head) (wind : List Vec) (i k x y : Int) : Prop := ∀ (a b : Nat) (ha : a < t.length) (hb : b < wind.length), i = a → k = b → helpL (forcesL l t[a].guys) ⟨x, y⟩ < dotV ⟨x, y⟩ (timesV wind[b] t[a].area) ∧ (-500000 ≤ x ∧ x ≤ 500000) ∧ -500000 ≤ y ∧ y ≤ 500000
end Go.BT
namespace Go.Proofs.Ytdcjbbeoocldeaa
set_option linter.unusedSimpArgs false
set_option linter.unusedVariables false
open Go.RowKit Go.BT

set_option maxRecDepth 100000 in
set_option maxHeartbeats 8000000 in
theorem weakest_any (S : Nat → Prop) (l : List Tst) (t : List Head) (wind : List Vec) (v u x : Value) (w : World) (hv : SL S w v l) (hu : SL S w u t) (hx : SL S w x wind) (hl : l.all tstB = true) (ht : t.all headB = true) (hw : wind.all cornerB = true) :
    Calls Try.prog 79 #[u, v, x] w fun e w' => ∃ a b : Int, e = .returned (.tuple #[.int .i64 (weakP l t wind).1, .int .i64 (weakP l t wind).2, .agg #[.int .i64 a, .int .i64 b]]) ∧ (standB l t wind = true → a = 0 ∧ b = 0) ∧ TooWeak l t wind (weakP l t wind).1 (weakP l t wind).2 a b ∧ Step w w' := by
  have hmt := hu.len
  have hmw := hx.len
  obtain ⟨W0, hW0⟩ : ∃ W, W = w.alloc (.cells #[.int .i64 0, .int .i64 0] 40) := ⟨_, rfl⟩
  have hb : Bx W0 w.heap.size [.int .i64 0, .int .i64 0] 40 := by subst hW0; exact Bx.new w [_, _] _
  have hS : Step w W0 := by subst hW0; exact Step.alloc _ _
  have HV := Lib.hid (SL.go hv hS)
  obtain ⟨pu, cu, bu, ou, rfl, _, _, hpu, hcu, _⟩ := (SL.go hu hS).heads
  obtain ⟨px, cx, bx, ox, rfl, _, _, hpx, hcx, _⟩ := (SL.go hx hS).vecs
  have HB := Lib.hid hb
  have HS := Lib.hid hS
  have HW := Lib.hid hW0
  have HPU := Lib.hid (And.intro hpu hcu)
  have HPX := Lib.hid (And.intro hpx hcx)
  have HL := Lib.hid (And.intro hl (And.intro ht hw))
  obtain ⟨pv, cv, rfl⟩ := hv.form
  clear hb hS hW0 hv hu hx hpu hcu hpx hcx hl ht hw
  go_enter Try.func79, Try.ntmps79
  go_wp2
  rw [← HW.out]
  go_loopw [18] (fun i wr => ∃ k : Nat, k ≤ t.length ∧ i = .int .i64 k ∧ weakFrom l wind (t.drop k) k = weakP l t wind ∧ Step W0 wr) (fun i _ => t.length - (intOf i).toNat)
  case atStart => exact ⟨0, Nat.zero_le _, rfl, rfl, Step.refl _⟩
  case round =>
    obtain ⟨k, hk, rfl, hwk, hT⟩ := hrel
    have HWK := Lib.hid hwk
    have HT := Lib.hid hT
    clear hwk hT
    by_cases hlt : k < t.length
    · obtain rfl := HPU.out.1 (by omega)
      obtain ⟨c2, e1, e2, e3, e4⟩ := HPU.out.2 k hlt
      have e1 := HT.out.keeps.cell id e1
      have e2 := HT.out.keeps.cell id e2
      have e3 := HT.out.keeps.cell id e3
      have hix : (0 : Int) ≤ (k : Int) ∧ (k : Int) < (t.length : Int) := by omega
      have hhd := head_parts (all_get HL.out.2.1 hlt)
      have HST := Lib.hid (weakFrom_step (l := l) (wind := wind) hlt)
      obtain ⟨h, hh⟩ : ∃ h, h = t[k] := ⟨_, rfl⟩
      rw [← hh] at e1 e2 e4 hhd HST
      have HH := Lib.hid hh
      obtain ⟨pg, cg, rfl⟩ := e4.form
      have HHV := Lib.hid (show AV (fun _ => False) wr (.agg #[.int .i64 h.area, .int .i64 h.bears, .slice pg h.guys.length cg]) h from ⟨_, rfl, _, rfl, SL.go e4 HT.out⟩)
      have HHD := Lib.hid hhd
      have HSM := Lib.hid (forces_small HL.out.1 hhd.2.2.2)
      have HFL := Lib.hid (show (forcesL l h.guys).length ≤ 8 by rw [forces_len]; exact hhd.2.2.1)
      have hsa := Step.alloc wr (.cells #[.int .i64 h.area, .int .i64 h.bears, .slice pg h.guys.length cg] 89)
      have hcall := Lib.hid (measure_any (fun _ => False) l h (.slice pv l.length cv) (.agg #[.int .i64 h.area, .int .i64 h.bears, .slice pg h.guys.length cg]) _ (SL.go HV.out (HT.out.trans hsa)) (AV.go HHV.out hsa) HL.out.1 hhd.2.2.2 (by omega))
      clear hh e4 hhd hsa
      go_wp2_with fail
      refine hcall.out.mono ?_
      rintro e wm ⟨vm, rfl, hmv, hSm⟩
      obtain ⟨F, hF⟩ : ∃ F, F = forcesL l h.guys := ⟨_, rfl⟩
      rw [← hF] at hmv HSM HFL HST
      have HFE := Lib.hid hF
      have hmv := hmv.triv
      have hmv0 := hmv
      obtain ⟨b, p2, n2, q2, p3, q3, rfl, hsl⟩ := hmv
      obtain ⟨wl, hwl⟩ : ∃ W, W = wm.alloc (.cells #[.int .i64 h.area, .int .i64 b, .slice p2 n2 q2, .slice p3 F.length q3] 117) := ⟨_, rfl⟩
      have hbm : Bx wl wm.heap.size [.int .i64 h.area, .int .i64 b, .slice p2 n2 q2, .slice p3 F.length q3] 117 := by rw [hwl]; exact Bx.new wm [_, _, _, _] _
      have hsl2 : Step wm wl := by rw [hwl]; exact Step.alloc _ _
      have HBM := Lib.hid hbm
      have HMV := Lib.hid (hmv0.step hsl2)
      have HTl := Lib.hid (HT.out.trans ((Step.alloc _ _).trans (hSm.trans hsl2)))
      have HWL := Lib.hid hwl
      clear hcall hF hmv0 hsl hwl hbm hsl2 hSm e1 e2 e3 HT HHV
      go_wp2
      rw [← HWL.out]
      go_loopw [28] (fun i wr => ∃ j : Nat, j ≤ wind.length ∧ i = .int .i64 j ∧ (∀ i' (hi : i' < j) (hl : i' < wind.length), balL F (timesV wind[i'] h.area) = true) ∧ Step wl wr) (fun i _ => wind.length - (intOf i).toNat)
      case atStart => exact ⟨0, Nat.zero_le _, rfl, fun i hi => absurd hi (by omega), Step.refl _⟩
      case round =>
        obtain ⟨j, hj, rfl, hall, hT⟩ := hrel
        have HALL := Lib.hid hall
        have HT := Lib.hid hT
        clear hall hT
        by_cases hltj : j < wind.length
        · obtain rfl := HPX.out.1 (by omega)
          obtain ⟨x1, x2⟩ := HPX.out.2 j hltj
          have x1 := (HTl.out.trans HT.out).keeps.cell id x1
          have x2 := (HTl.out.trans HT.out).keeps.cell id x2
          have hjx : (0 : Int) ≤ (j : Int) ∧ (j : Int) < (wind.length : Int) := by omega
          have hcn := corner_in (all_get HL.out.2.2 hltj)
          have HNX := Lib.hid (weakK_some (F := F) (area := h.area) hltj HALL.out)
          have HSO := Lib.hid (show ∀ i' (hi : i' < j + 1) (hl : i' < wind.length), balL F (timesV wind[j] h.area) = true → balL F (timesV wind[i'] h.area) = true from fun i' hi hl q => if e : i' = j then by subst e; exact q else HALL.out i' (by omega) hl)
          obtain ⟨cn, hcj⟩ : ∃ c, c = wind[j] := ⟨_, rfl⟩
          rw [← hcj] at x1 x2 hcn HNX
          simp only [← hcj] at HSO
          have HCJ := Lib.hid hcj
          obtain ⟨q, hq⟩ : ∃ q, q = timesV cn h.area := ⟨_, rfl⟩
          have hqi : inV 10000000 q := by rw [hq]; exact times_in (N := 1000) hcn HHD.out.1
          have hqf := in_fits hqi (by decide)
          have HQF := Lib.hid (show fits (h.area * cn.x) ∧ fits (h.area * cn.y) by rw [hq] at hqf; exact hqf)
          have HQ := Lib.hid (And.intro hq hqi)
          rw [← hq] at HNX
          simp only [← hq] at HSO
          clear hcj hq hqi hqf hcn
          go_upto_region 8 with (fail)
          obtain ⟨wa, hwa⟩ : ∃ W, W = wr.alloc (.cells #[.int .i64 cn.x, .int .i64 cn.y] 40) := ⟨_, rfl⟩
          rw [← hwa]
          have HGA := Lib.hid (show Bx wa wr.heap.size [.int .i64 cn.x, .int .i64 cn.y] 40 by rw [hwa]; exact Bx.new wr [_, _] _)
          have hsa : Step wl wa := by rw [hwa]; exact HT.out.trans (Step.alloc _ _)
          have HSA := Lib.hid hsa
          clear hwa hsa x1 x2 HT
          have HT := Lib.hid (Step.refl wa)
          have HSZ0 := Lib.hid HT.out.size
          refine wp_region_seqM (fun c d v a w h => by cases d <;> exact h) (kdOf [5, 6] [(10, 40, .agg #[.int .i64 0, .int .i64 0])]) [0, 0, 0, 4, 12, 30, 63, 127, 255, 255, 0, 1535, 4095] [0, 1, 2, 3, 4, 5, 6, 7, 8, 9, 10] [11, 12] (by kernel_rfl) (by kernel_rfl) (fun i T z hi hk => by simp only [List.mem_cons, List.not_mem_nil, or_false] at hi; rcases hi with rfl | rfl | rfl | rfl | rfl | rfl | rfl | rfl | rfl | rfl | rfl <;> simp [kdOf] at hk <;> (obtain ⟨rfl, rfl⟩ := hk; first | (show Option.bind _ _ = some _; kernel_rfl) | (refine ⟨_, rfl, fun _ _ => ?_⟩; go_simp))) ?_
          intro Wx hWx
          have HTx := Lib.hid (HT.out.trans hWx)
          clear hWx HT
          have HT := HTx
          clear HTx
          (try clear m0 m1 m2 m3 n0 n1)
          obtain ⟨m0, m1, m2, m3⟩ := cells4 (HBM.out.step (HSA.out.trans HT.out))
          have n0 := (HGA.out.step HT.out).cell 0
          have n1 := (HGA.out.step HT.out).cell 1
          simp only [List.getElem?_cons_zero, List.getElem?_cons_succ] at n0 n1
          repeat (first | (refine run_off rfl rfl (by rfl) ?_; (try simp only [Act.put, List.setIfInBounds_toArray, List.set_cons_zero, List.set_cons_succ])) | (refine run_chain_off rfl rfl (by rfl) (K0_mono _) ?_; (try simp only [Act.put, List.setIfInBounds_toArray, List.set_cons_zero, List.set_cons_succ])) | ((refine run_want rfl rfl (by rfl) ⟨?_, fun W hW => ?_, ?_⟩; rotate_left; (· (have d0 := hW.keeps.cell id m0; have d1 := hW.keeps.cell id m1; have d2 := hW.keeps.cell id m2; have d3 := hW.keeps.cell id m3; have d4 := hW.keeps.cell id n0; have d5 := hW.keeps.cell id n1; go_simp; (try with_reducible rfl)))); (try simp only [Act.put, List.setIfInBounds_toArray, List.set_cons_zero, List.set_cons_succ])))
          clear m0 m1 m2 m3 n0 n1
          refine run_chain rfl rfl (by rfl) (fun Wi hWi K' hK => ?_)
          have HTi := Lib.hid (HT.out.trans hWi)
          have HZW := Lib.hid HTi.out.size
          clear hWi HT
          go_simp
          refine (times_any cn h.area _ HQF.out.1 HQF.out.2).mono ?_
          rintro e wn ⟨rfl, hSn⟩
          have HT := Lib.hid (HTi.out.trans (StepX.of hSn))
          clear HTi
          rw [← HQ.out.1]
          refine hK _ _ (StepX.of hSn) ?_
          clear hSn
          (try simp only [Act.put, List.setIfInBounds_toArray, List.set_cons_zero, List.set_cons_succ])
          (try clear m0 m1 m2 m3 n0 n1)
          obtain ⟨m0, m1, m2, m3⟩ := cells4 (HBM.out.step (HSA.out.trans HT.out))
          have n0 := (HGA.out.step HT.out).cell 0
          have n1 := (HGA.out.step HT.out).cell 1
          simp only [List.getElem?_cons_zero, List.getElem?_cons_succ] at n0 n1
          repeat (first | (refine run_off rfl rfl (by rfl) ?_; (try simp only [Act.put, List.setIfInBounds_toArray, List.set_cons_zero, List.set_cons_succ])) | (refine run_chain_off rfl rfl (by rfl) (K0_mono _) ?_; (try simp only [Act.put, List.setIfInBounds_toArray, List.set_cons_zero, List.set_cons_succ])) | ((refine run_want rfl rfl (by rfl) ⟨?_, fun W hW => ?_, ?_⟩; rotate_left; (· (have d0 := hW.keeps.cell id m0; have d1 := hW.keeps.cell id m1; have d2 := hW.keeps.cell id m2; have d3 := hW.keeps.cell id m3; have d4 := hW.keeps.cell id n0; have d5 := hW.keeps.cell id n1; go_simp; (try with_reducible rfl)))); (try simp only [Act.put, List.setIfInBounds_toArray, List.set_cons_zero, List.set_cons_succ])))
          clear m0 m1 m2 m3 n0 n1
          refine run_chain rfl rfl (by rfl) (fun Wi hWi K' hK => ?_)
          have HTi := Lib.hid (HT.out.trans hWi)
          clear hWi HT
          go_simp
          refine (weak_any F h.area q _ _ (HMV.out.step (HSA.out.trans HTi.out)) HSM.out HFL.out (HQ.out.2.mono (by decide))).mono ?_
          rintro e wn ⟨zx, zy, rfl, _, hzw, hSn⟩
          have HZW := Lib.hid hzw
          have HT := Lib.hid (HTi.out.trans hSn)
          refine hK _ _ (StepX.of hSn) ?_
          clear HTi hSn hK hzw
          (try simp only [Act.put, List.setIfInBounds_toArray, List.set_cons_zero, List.set_cons_succ])
          repeat (first | (refine run_off rfl rfl (by rfl) ?_; (try simp only [Act.put, List.setIfInBounds_toArray, List.set_cons_zero, List.set_cons_succ])) | (refine run_chain_off rfl rfl (by rfl) (K0_mono _) ?_; (try simp only [Act.put, List.setIfInBounds_toArray, List.set_cons_zero, List.set_cons_succ])) | ((refine run_want rfl rfl (by rfl) ⟨?_, fun W hW => ?_, ?_⟩; rotate_left; (· (skip; go_simp; (try with_reducible rfl)))); (try simp only [Act.put, List.setIfInBounds_toArray, List.set_cons_zero, List.set_cons_succ])))
          refine run_alloc rfl rfl (fun W5 g hW5 hg hgb hgN => ?_)
          (try simp only [Act.put, List.setIfInBounds_toArray, List.set_cons_zero, List.set_cons_succ])
          refine run_end (L := [_, _]) rfl (fun W6 hW6 => ?_)
          have hb6 := Bx.step (w := W5) (cs := [_, _]) hg hW6
          refine wpl_store (v := .agg #[.int .i64 zx, .int .i64 zy]) rfl _ _ _ rfl rfl rfl hb6 (by kernel_rfl) (by simp [Value.cells]) (by simp [Value.cells, Value.oneCell']) [.int .i64 zx, .int .i64 zy] rfl (fun w7 hb7 hw7 => ?_)
          have hg0 := HSZ0.out
          have HTx := Lib.hid (HSA.out.trans (Step.wrote ((HT.out.trans hW5).trans hW6) hw7 (by omega)))
          have HBG := Lib.hid hb7
          clear hW5 hg hgb hgN hW6 hb6 hb7 hw7 HT hg0 HSZ0
          cases hbl : balL F q with
          | true =>
            have HB2 := Lib.hid hbl
            clear hbl
            go_wp2
            go_roundw
            case rel => exact ⟨j + 1, by omega, by go_num, fun i' hi hl => HSO.out i' hi hl HB2.out, HTx.out⟩
            case measure => simp [intOf]; omega
          | false =>
            have hwp : weakP l t wind = ((k : Int), (j : Int)) := by rw [← HWK.out, HST.out, HNX.out hbl]
            have hzz := HZW.out hbl
            have HST2 := Lib.hid (show standB l t wind = true → False from fun hs => by have := weakP_iff.1.2 hs; rw [hwp] at this; simp at this; omega)
            have HTW := Lib.hid (show TooWeak l t wind k j zx zy from fun a b ha hb e1 e2 => by
              obtain rfl : k = a := by omega
              obtain rfl : j = b := by omega
              rw [← HH.out, ← HFE.out, ← HCJ.out, ← HQ.out.1]
              exact hzz)
            have HWP := Lib.hid hwp
            clear hwp hzz hbl
            have hbr := HB.out.step (HTl.out.trans HTx.out)
            have z0 := hbr.frozen 0
            have z1 := hbr.frozen 1
            have y0 := hbr.cell 0
            have y1 := hbr.cell 1
            have g0 := HBG.out.cell 0
            have g1 := HBG.out.cell 1
            simp only [List.getElem?_cons_zero, List.getElem?_cons_succ] at y0 y1 g0 g1
            have HBR := Lib.hid hbr
            have hlt1 := hbr.lt
            have hlt2 := HBG.out.lt
            clear hbr
            go_upto_region 10 with (fail)
            refine wp_region_seqM (fun c d v a w h => by cases d <;> exact h) (kdOf [] []) [0, 0, 0, 1, 11, 31] [0, 1, 2, 3, 4] [5] (by kernel_rfl) (by kernel_rfl) (fun i T z hi hk => by simp [kdOf] at hk <;> (try (split at hk <;> cases hk))) ?_
            intro Wx hWx
            have HX := Lib.hid hWx
            have g0 := hWx.keeps.cell id g0
            have g1 := hWx.keeps.cell id g1
            clear hWx y0 y1 z0 z1
            repeat (first | (refine run_off rfl rfl (by rfl) ?_; (try simp only [Act.put, List.setIfInBounds_toArray, List.set_cons_zero, List.set_cons_succ])) | (refine run_chain_off rfl rfl (by rfl) (K0_mono _) ?_; (try simp only [Act.put, List.setIfInBounds_toArray, List.set_cons_zero, List.set_cons_succ])) | ((refine run_want rfl rfl (by rfl) ⟨?_, fun W hW => ?_, ?_⟩; rotate_left; (· (have d0 := hW.keeps.cell id g0; have d1 := hW.keeps.cell id g1; go_simp; (try with_reducible rfl)))); (try simp only [Act.put, List.setIfInBounds_toArray, List.set_cons_zero, List.set_cons_succ])))
            refine run_end (L := [_]) rfl (fun W8 hW8 => ?_)
            have hb8 := (HBR.out.step HX.out).step hW8
            refine wpl_store (v := .agg #[.int .i64 zx, .int .i64 zy]) rfl _ _ _ rfl rfl rfl hb8 (by kernel_rfl) (by simp [Value.cells]) (by simp [Value.cells, Value.oneCell']) [.int .i64 zx, .int .i64 zy] rfl (fun w9 hb9 hw9 => ?_)
            have HB9 := Lib.hid hb9
            have HS9 := Lib.hid (Step.wrote ((HS.out.trans (HTl.out.trans HTx.out)).trans (HX.out.trans hW8)) hw9 (Nat.le_refl _))
            clear g0 g1 hb8 hb9 hw9 hW8 hlt1 hlt2
            go_wp2
            exact ret_ttc (k := 2) rfl siVec rfl HB9.out rfl rfl ⟨zx, zy, by rw [HWP.out]; rfl, fun hs => (HST2.out hs).elim, by rw [HWP.out]; exact HTW.out, HS9.out⟩
        · have HNN := Lib.hid (show weakFrom l wind (t.drop (k + 1)) (k + 1) = weakP l t wind by rw [← HWK.out, HST.out, weakK_no (fun i' hl => HALL.out i' (by omega) hl)])
          go_wp2
          go_roundw
          case rel => exact ⟨k + 1, by omega, by go_num, HNN.out, HTl.out.trans HT.out⟩
          case measure => simp [intOf]; omega
    · have hwp : weakP l t wind = (-1, -1) := by rw [← HWK.out, List.drop_of_length_le (by omega)]; rfl
      have HTW := Lib.hid (show TooWeak l t wind (-1) (-1) 0 0 from fun a b ha hb e1 e2 => by omega)
      have HWP := Lib.hid hwp
      have hbr := HB.out.step HT.out
      have z0 := hbr.frozen 0
      have z1 := hbr.frozen 1
      have y0 := hbr.cell 0
      have y1 := hbr.cell 1
      simp only [List.getElem?_cons_zero, List.getElem?_cons_succ] at y0 y1
      have HBR := Lib.hid hbr
      clear hbr hwp
      go_wp2
      have b2 := set2 HBR.out (.int .i64 0) (.int .i64 0)
      exact ret_ttc (k := 2) rfl siVec rfl b2.1 rfl rfl ⟨0, 0, by rw [HWP.out]; rfl, fun _ => ⟨rfl, rfl⟩, by rw [HWP.out]; exact HTW.out, StepX.fresh (HS.out.trans HT.out) b2.2 (fun j hj => by omega)⟩
end Go.Proofs.Ytdcjbbeoocldeaa
/- Walks: whether a list is a wind, by the document; the errors of a tent in a wind; the first head and corner that are too weak, of whatever is handed in, and by the document. -/
namespace Go.Proofs.Ytdcjbbeoocldeaa
set_option linter.unusedSimpArgs false
set_option linter.unusedVariables false
open Go.RowKit Go.BT

set_option maxHeartbeats 2000000 in
theorem RWind_any (S : Nat → Prop) (l : List Vec) (v : Value) (w : World) (hv : SL S w v l) : Calls Try.prog 80 #[v] w fun e w' => e = .returned (.bool (windB l)) ∧ Step w w' := by
  have hm := hv.len
  obtain ⟨pv, cv, b, o, rfl, _, _, hp, hc, _⟩ := hv.vecs
  have HP := Lib.hid (And.intro hp hc)
  clear hp hc hv
  go_enter Try.func80, Try.ntmps80
  go_wp2
  go_loopw [3] (fun i wr => ∃ k : Nat, k ≤ l.length ∧ i = .int .i64 k ∧ (∀ j (hj : j < k) (hl : j < l.length), cornerB l[j] = true) ∧ Step w wr) (fun i _ => l.length - (intOf i).toNat)
  case atStart => exact ⟨0, Nat.zero_le _, rfl, fun j hj => absurd hj (by omega), Step.refl _⟩
  case round =>
    obtain ⟨k, hk, rfl, hall, hT⟩ := hrel
    have HALL := Lib.hid hall
    have HT := Lib.hid hT
    clear hall hT
    by_cases hlt : k < l.length
    · obtain rfl := HP.out.1 (by omega)
      obtain ⟨e1, e2⟩ := HP.out.2 k hlt
      have e1 := HT.out.keeps.cell id e1
      have e2 := HT.out.keeps.cell id e2
      have hix : (0 : Int) ≤ (k : Int) ∧ (k : Int) < (l.length : Int) := by omega
      have HNO := Lib.hid (fun q => all_miss (p := cornerB) hlt q)
      have HSO := Lib.hid (show ∀ j (hj : j < k + 1) (hl : j < l.length), cornerB l[k] = true → cornerB l[j] = true from fun j hj hl q => if e : j = k then by subst e; exact q else HALL.out j (by omega) hl)
      obtain ⟨x, hx⟩ : ∃ x, x = l[k] := ⟨_, rfl⟩
      rw [← hx] at e1 e2
      simp only [← hx] at HNO HSO
      clear hx
      go_wp2_with fail
      refine (Corner_any x _).mono ?_
      rintro e w' ⟨rfl, hS⟩
      have HTx := Lib.hid (HT.out.trans hS)
      clear HT hS e1 e2
      cases q : cornerB x with
      | false =>
        have HN := Lib.hid (show windB l = false by unfold windB; rw [HNO.out q, Bool.and_false])
        clear q
        go_wp2
        go_ret
        exact ⟨by rw [HN.out]; rfl, HTx.out⟩
      | true =>
        have HQ := Lib.hid q
        clear q
        go_wp2
        go_roundw
        case rel => exact ⟨k + 1, by omega, by go_num, fun j hj hl => HSO.out j hj hl HQ.out, HTx.out⟩
        case measure => simp [intOf]; omega
    · have HN := Lib.hid (show windB l = withinB l.length 1 12 by unfold windB; rw [all_of (fun j hj => HALL.out j (by omega) hj), Bool.and_true])
      by_cases h1 : 1 ≤ (l.length : Int)
      · have hd1 : decide (1 ≤ (l.length : Int)) = true := by simpa using h1
        by_cases h2 : (l.length : Int) ≤ 12
        · have hd2 : decide ((l.length : Int) ≤ 12) = true := by simpa using h2
          have HN2 := Lib.hid (show windB l = true by rw [HN.out]; simp [withinB]; omega)
          clear h1 h2
          go_wp2
          go_ret
          exact ⟨by rw [HN2.out]; rfl, HT.out⟩
        · have hd2 : decide ((l.length : Int) ≤ 12) = false := by simpa using h2
          have HN2 := Lib.hid (show windB l = false by rw [HN.out]; simp [withinB]; omega)
          clear h1 h2
          go_wp2
          go_ret
          exact ⟨by rw [HN2.out]; rfl, HT.out⟩
      · have hd1 : decide (1 ≤ (l.length : Int)) = false := by simpa using h1
        have HN2 := Lib.hid (show windB l = false by rw [HN.out]; simp [withinB]; omega)
        clear h1
        go_wp2
        go_ret
        exact ⟨by rw [HN2.out]; rfl, HT.out⟩
/-- The error of tests, a tent and a wind. -/
def blownC (l : List Tst) (t : List Head) (wind : List Vec) : Int := if readyC l t = 0 then (if windB wind = true then soundC l else 1) else readyC l t
theorem blown_ok {l : List Tst} {t : List Head} {wind : List Vec} (h : blownC l t wind = 0) : l.all tstB = true ∧ tentB t = true ∧ windB wind = true ∧ readyC l t = 0 := by
  unfold blownC at h
  split at h
  · rename_i h1
    obtain ⟨a, b⟩ := ready_ok h1
    split at h
    · rename_i h2; exact ⟨a, b, h2, h1⟩
    · simp at h
  · rename_i h1; exact absurd h h1
theorem wind_all {wind : List Vec} (h : windB wind = true) : wind.all cornerB = true ∧ 1 ≤ wind.length ∧ wind.length ≤ 12 := by
  unfold windB at h
  rw [Bool.and_eq_true] at h
  have := within_iff.1 h.1
  exact ⟨h.2, by omega, by omega⟩
theorem blown_any (S : Nat → Prop) (l : List Tst) (t : List Head) (wind : List Vec) (v u x : Value) (w : World) (hv : SL S w v l) (hu : SL S w u t) (hx : SL S w x wind) :
    Calls Try.prog 78 #[v, u, x] w fun e w' => e = .returned (.int .i64 (blownC l t wind)) ∧ Step w w' := by
  have HV := Lib.hid hv
  have HX := Lib.hid hx
  have hcall := Lib.hid (ready_any S l t v u w hv hu)
  obtain ⟨pv, cv, rfl⟩ := hv.form
  obtain ⟨pu, cu, rfl⟩ := hu.form
  obtain ⟨px, cx, rfl⟩ := hx.form
  clear hv hu hx
  go_enter Try.func78, Try.ntmps78
  go_wp2_with fail
  refine hcall.out.mono ?_
  rintro e w1 ⟨rfl, hS⟩
  have HS := Lib.hid hS
  obtain ⟨c, hc⟩ : ∃ c, c = readyC l t := ⟨_, rfl⟩
  rw [← hc]
  have HC := Lib.hid hc
  clear hcall hc hS
  by_cases h0 : c = 0
  · subst h0
    go_wp2_with fail
    refine (windy_any S wind _ _ (HX.out.keep (.of_step HS.out))).mono ?_
    rintro e w2 ⟨rfl, hS2⟩
    have HS2 := Lib.hid (HS.out.trans hS2)
    clear hS2
    cases q : windB wind with
    | false =>
      have HQ := Lib.hid (show blownC l t wind = 1 by unfold blownC; rw [if_pos HC.out.symm, q, if_neg (by decide)])
      clear q
      go_wp2
      go_ret
      exact ⟨by rw [HQ.out]; rfl, HS2.out⟩
    | true =>
      have HQ := Lib.hid (show blownC l t wind = soundC l by unfold blownC; rw [if_pos HC.out.symm, q, if_pos rfl])
      clear q
      go_wp2_with fail
      refine (sound_any S l _ _ (HV.out.keep (.of_step HS2.out)) (ready_ok HC.out.symm).1).mono ?_
      rintro e w3 ⟨rfl, hS3⟩
      go_wp2
      go_ret
      exact ⟨by rw [HQ.out]; rfl, HS2.out.trans hS3⟩
  · have hd : (c != 0) = true := by simpa using h0
    have HQ := Lib.hid (show blownC l t wind = c by unfold blownC; rw [← HC.out, if_neg h0])
    clear h0
    go_wp2
    go_ret
    exact ⟨by rw [HQ.out]; rfl, HS.out⟩
theorem LBlown_any (S : Nat → Prop) (l : List Tst) (t : List Head) (wind : List Vec) (v u x : Value) (w : World) (hv : SL S w v l) (hu : SL S w u t) (hx : SL S w x wind) :
    Calls Try.prog 44 #[v, u, x] w fun e w' => e = .returned (.int .i64 (blownC l t wind)) ∧ Step w w' := by
  have HV := Lib.hid hv
  have HX := Lib.hid hx
  have hcall := Lib.hid (Fault_any S l t v u w hv hu)
  obtain ⟨pv, cv, rfl⟩ := hv.form
  obtain ⟨pu, cu, rfl⟩ := hu.form
  obtain ⟨px, cx, rfl⟩ := hx.form
  clear hv hu hx
  go_enter Try.func44, Try.ntmps44
  go_wp2_with fail
  refine hcall.out.mono ?_
  rintro e w1 ⟨rfl, hS⟩
  have HS := Lib.hid hS
  obtain ⟨c, hc⟩ : ∃ c, c = readyC l t := ⟨_, rfl⟩
  rw [← hc]
  have HC := Lib.hid hc
  clear hcall hc hS
  by_cases h0 : c = 0
  · subst h0
    go_wp2_with fail
    refine (RWind_any S wind _ _ (HX.out.keep (.of_step HS.out))).mono ?_
    rintro e w2 ⟨rfl, hS2⟩
    have HS2 := Lib.hid (HS.out.trans hS2)
    clear hS2
    cases q : windB wind with
    | false =>
      have HQ := Lib.hid (show blownC l t wind = 1 by unfold blownC; rw [if_pos HC.out.symm, q, if_neg (by decide)])
      clear q
      go_wp2
      go_ret
      exact ⟨by rw [HQ.out]; rfl, HS2.out⟩
    | true =>
      have HQ := Lib.hid (show blownC l t wind = soundC l by unfold blownC; rw [if_pos HC.out.symm, q, if_pos rfl])
      clear q
      go_wp2_with fail
      refine (clashing_any S l _ _ (HV.out.keep (.of_step HS2.out)) (ready_ok HC.out.symm).1).mono ?_
      rintro e w3 ⟨rfl, hS3⟩
      go_wp2
      go_ret
      exact ⟨by rw [HQ.out]; rfl, HS2.out.trans hS3⟩
  · have hd : (c != 0) = true := by simpa using h0
    have HQ := Lib.hid (show blownC l t wind = c by unfold blownC; rw [← HC.out, if_neg h0])
    clear h0
    go_wp2
    go_ret
    exact ⟨by rw [HQ.out]; rfl, HS.out⟩
end Go.Proofs.Ytdcjbbeoocldeaa
/- Walks: the first head and corner that are too weak, with errors; by the document; whether a tent stands. -/
namespace Go.Proofs.Ytdcjbbeoocldeaa
set_option linter.unusedSimpArgs false
set_option linter.unusedVariables false
open Go.RowKit Go.BT

def weakR (l : List Tst) (t : List Head) (wind : List Vec) : Int × Int := if blownC l t wind = 0 then weakP l t wind else (0, 0)
set_option maxRecDepth 100000 in
set_option maxHeartbeats 8000000 in
theorem Weakest_any (S : Nat → Prop) (l : List Tst) (t : List Head) (wind : List Vec) (v u x : Value) (w : World) (hv : SL S w v l) (hu : SL S w u t) (hx : SL S w x wind) :
    Calls Try.prog 42 #[v, u, x] w fun e w' => ∃ a b : Int, e = .returned (.tuple #[.int .i64 (weakR l t wind).1, .int .i64 (weakR l t wind).2, .agg #[.int .i64 a, .int .i64 b], .int .i64 (blownC l t wind)]) ∧ (blownC l t wind ≠ 0 → a = 0 ∧ b = 0) ∧ (blownC l t wind = 0 → (standB l t wind = true → a = 0 ∧ b = 0) ∧ TooWeak l t wind (weakP l t wind).1 (weakP l t wind).2 a b) ∧ Step w w' := by
  obtain ⟨W0, hW0⟩ : ∃ W, W = w.alloc (.cells #[.int .i64 0, .int .i64 0] 40) := ⟨_, rfl⟩
  have hb : Bx W0 w.heap.size [.int .i64 0, .int .i64 0] 40 := by subst hW0; exact Bx.new w [_, _] _
  have hS : Step w W0 := by subst hW0; exact Step.alloc _ _
  have HV := Lib.hid (SL.go hv hS)
  have HU := Lib.hid (SL.go hu hS)
  have HX := Lib.hid (SL.go hx hS)
  have HB := Lib.hid hb
  have HS := Lib.hid hS
  have HW := Lib.hid hW0
  obtain ⟨pv, cv, rfl⟩ := hv.form
  obtain ⟨pu, cu, rfl⟩ := hu.form
  obtain ⟨px, cx, rfl⟩ := hx.form
  clear hb hS hW0 hv hu hx
  go_enter Try.func42, Try.ntmps42
  go_wp2_with fail
  rw [← HW.out]
  refine (blown_any (fun _ => False) l t wind _ _ _ _ HV.out HU.out HX.out).mono ?_
  rintro e w1 ⟨rfl, hS1⟩
  have HT := Lib.hid hS1
  obtain ⟨c, hc⟩ : ∃ c, c = blownC l t wind := ⟨_, rfl⟩
  rw [← hc]
  have HC := Lib.hid hc
  clear hS1
  by_cases h0 : c = 0
  rotate_left
  · have hd : (c != 0) = true := by simpa using h0
    have HR := Lib.hid (show weakR l t wind = (0, 0) by unfold weakR; rw [← hc, if_neg h0])
    have H0 := Lib.hid h0
    have hbr := HB.out.step HT.out
    have z0 := hbr.frozen 0
    have z1 := hbr.frozen 1
    have y0 := hbr.cell 0
    have y1 := hbr.cell 1
    simp only [List.getElem?_cons_zero, List.getElem?_cons_succ] at y0 y1
    have HBR := Lib.hid hbr
    clear hbr h0 hc
    go_wp2
    have b2 := set2 HBR.out (.int .i64 0) (.int .i64 0)
    exact ret_ttct (k := 2) rfl siVec rfl b2.1 rfl rfl ⟨0, 0, by rw [HR.out, ← HC.out]; rfl, fun _ => ⟨rfl, rfl⟩, fun h => (H0.out (HC.out.trans h)).elim, StepX.fresh (HS.out.trans HT.out) b2.2 (fun j hj => by omega)⟩
  subst h0
  obtain ⟨k1, k2, k3, k4⟩ := blown_ok hc.symm
  have HK := Lib.hid (And.intro k1 (And.intro (tent_parts k2).2 (wind_all k3).1))
  have HR := Lib.hid (show weakR l t wind = weakP l t wind by unfold weakR; rw [← hc, if_pos rfl])
  clear k1 k2 k3 k4 hc
  go_wp2_with fail
  refine (weakest_any (fun _ => False) l t wind _ _ _ _ (SL.go HV.out HT.out) (SL.go HU.out HT.out) (SL.go HX.out HT.out) HK.out.1 HK.out.2.1 HK.out.2.2).mono ?_
  rintro e w2 ⟨a, b, rfl, hst, htw, hS2⟩
  have HTW := Lib.hid (And.intro hst htw)
  have HT2 := Lib.hid (HT.out.trans hS2)
  clear hst htw hS2 HT
  have hbr := HB.out.step HT2.out
  have z0 := hbr.frozen 0
  have z1 := hbr.frozen 1
  have y0 := hbr.cell 0
  have y1 := hbr.cell 1
  have yl := hbr.lt
  simp only [List.getElem?_cons_zero, List.getElem?_cons_succ] at y0 y1
  have HBR := Lib.hid hbr
  clear hbr
  go_upto_region 5 with (fail)
  have b2 := set2 HBR.out (.int .i64 a) (.int .i64 b)
  have hS5 := StepX.fresh (HS.out.trans HT2.out) b2.2 (fun j hj => by omega)
  obtain ⟨W5, hW5⟩ : ∃ W, W = (w2.setCell ⟨w.heap.size, 0, none⟩ (.int .i64 a)).setCell ⟨w.heap.size, 1, none⟩ (.int .i64 b) := ⟨_, rfl⟩
  rw [← hW5] at b2 hS5 ⊢
  have HB5 := Lib.hid b2.1
  have HS5 := Lib.hid hS5
  clear b2 hS5 hW5 z0 z1 y0 y1 yl
  refine wp_region_seqM (fun c d v a w h => by cases d <;> exact h) (kdOf [] []) [0, 0, 0, 1, 11, 31, 63] [0, 1, 2, 3, 4] [5, 6] (by kernel_rfl) (by kernel_rfl) (fun i T z hi hk => by simp [kdOf] at hk <;> (try (split at hk <;> cases hk))) ?_
  intro Wx hWx
  have HXx := Lib.hid hWx
  have g0 := (HB5.out.step hWx).cell 0
  have g1 := (HB5.out.step hWx).cell 1
  simp only [List.getElem?_cons_zero, List.getElem?_cons_succ] at g0 g1
  clear hWx
  repeat (first | (refine run_off rfl rfl (by rfl) ?_; (try simp only [Act.put, List.setIfInBounds_toArray, List.set_cons_zero, List.set_cons_succ])) | (refine run_chain_off rfl rfl (by rfl) (K0_mono _) ?_; (try simp only [Act.put, List.setIfInBounds_toArray, List.set_cons_zero, List.set_cons_succ])) | ((refine run_want rfl rfl (by rfl) ⟨?_, fun W hW => ?_, ?_⟩; rotate_left; (· (have d0 := hW.keeps.cell id g0; have d1 := hW.keeps.cell id g1; go_simp; (try with_reducible rfl)))); (try simp only [Act.put, List.setIfInBounds_toArray, List.set_cons_zero, List.set_cons_succ])))
  refine run_end (L := [_, _]) rfl (fun W8 hW8 => ?_)
  have hb8 := (HB5.out.step HXx.out).step hW8
  refine wpl_store (v := .agg #[.int .i64 a, .int .i64 b]) rfl _ _ _ rfl rfl rfl hb8 (by kernel_rfl) (by simp [Value.cells]) (by simp [Value.cells, Value.oneCell']) [.int .i64 a, .int .i64 b] rfl (fun w9 hb9 hw9 => ?_)
  have HB9 := Lib.hid hb9
  have HS9 := Lib.hid (Step.wrote (HS5.out.trans (HXx.out.trans hW8)) hw9 (Nat.le_refl _))
  clear g0 g1 hb8 hb9 hw9 hW8
  go_wp2
  exact ret_ttct (k := 2) rfl siVec rfl HB9.out rfl rfl ⟨a, b, by rw [HR.out, ← HC.out]; rfl, fun h => (h HC.out.symm).elim, fun _ => HTW.out, HS9.out⟩
/-- The errors apart, and whether it stands. -/
def standsL (l : List Tst) (t : List Head) (wind : List Vec) : Bool := decide (blownC l t wind = 0) && standB l t wind
set_option maxRecDepth 100000 in
set_option maxHeartbeats 8000000 in
theorem stands_any (S : Nat → Prop) (l : List Tst) (t : List Head) (wind : List Vec) (v u x : Value) (w : World) (hv : SL S w v l) (hu : SL S w u t) (hx : SL S w x wind) :
    Calls Try.prog 46 #[v, u, x] w fun e w' => e = .returned (.bool (standsL l t wind)) ∧ Step w w' := by
  have hcall := Lib.hid (Weakest_any S l t wind v u x w hv hu hx)
  obtain ⟨pv, cv, rfl⟩ := hv.form
  obtain ⟨pu, cu, rfl⟩ := hu.form
  obtain ⟨px, cx, rfl⟩ := hx.form
  clear hv hu hx
  go_enter Try.func46, Try.ntmps46
  go_wp2_with fail
  refine hcall.out.mono ?_
  rintro e w1 ⟨a, b, rfl, hz, hok, hS⟩
  obtain ⟨c, hc⟩ : ∃ c, c = blownC l t wind := ⟨_, rfl⟩
  rw [← hc] at hz hok ⊢
  have HS := Lib.hid (hS.trans (Step.alloc w1 (.cells #[.int .i64 a, .int .i64 b] 40)))
  clear hcall hS
  by_cases h0 : c = 0
  rotate_left
  · have hd : (c == 0) = false := by simpa using h0
    have HN := Lib.hid (show standsL l t wind = false by unfold standsL; rw [← hc]; simp [h0])
    clear h0 hc hz hok
    go_wp2
    go_ret
    exact ⟨by rw [HN.out]; rfl, HS.out⟩
  subst h0
  have hr : weakR l t wind = weakP l t wind := by unfold weakR; rw [← hc, if_pos rfl]
  rw [hr]
  cases qs : standB l t wind with
  | false =>
    have hne : ¬ (weakP l t wind).1 < 0 := fun h => by rw [weakP_iff.1.1 h] at qs; exact absurd qs (by decide)
    have HN := Lib.hid (show standsL l t wind = false by unfold standsL; rw [qs, Bool.and_false])
    obtain ⟨m, hm⟩ : ∃ m, m = (weakP l t wind).1 := ⟨_, rfl⟩
    rw [← hm] at hne ⊢
    have hd2 : (m == -1) = false := by simp; omega
    clear hz hok hr hc qs hm hne
    go_wp2
    go_ret
    exact ⟨by rw [HN.out]; rfl, HS.out⟩
  | true =>
    obtain ⟨rfl, rfl⟩ := (hok rfl).1 qs
    have hw := weakP_iff.2 qs
    rw [hw]
    have HN := Lib.hid (show standsL l t wind = true by unfold standsL; rw [← hc, qs]; rfl)
    clear hz hok hr hc qs hw
    go_wp2
    go_ret
    exact ⟨by rw [HN.out]; rfl, HS.out⟩
set_option maxRecDepth 100000 in
set_option maxHeartbeats 8000000 in
theorem RWeakest_any (S : Nat → Prop) (l : List Tst) (t : List Head) (wind : List Vec) (v u x : Value) (w : World) (hv : SL S w v l) (hu : SL S w u t) (hx : SL S w x wind) (hl : l.all tstB = true) (ht : t.all headB = true) (hw : wind.all cornerB = true) :
    Calls Try.prog 45 #[v, u, x] w fun e w' => e = .returned (.tuple #[.int .i64 (weakP l t wind).1, .int .i64 (weakP l t wind).2]) ∧ Step w w' := by
  have hmt := hu.len
  have hmw := hx.len
  have HV := Lib.hid (SL.go hv (Step.refl _))
  obtain ⟨pu, cu, bu, ou, rfl, _, _, hpu, hcu, _⟩ := hu.heads
  obtain ⟨px, cx, bx, ox, rfl, _, _, hpx, hcx, _⟩ := hx.vecs
  have HPU := Lib.hid (And.intro hpu hcu)
  have HPX := Lib.hid (And.intro hpx hcx)
  have HL := Lib.hid (And.intro hl (And.intro ht hw))
  obtain ⟨pv, cv, rfl⟩ := hv.form
  clear hv hu hx hpu hcu hpx hcx hl ht hw
  go_enter Try.func45, Try.ntmps45
  go_wp2
  go_loopw [8] (fun i wr => ∃ k : Nat, k ≤ t.length ∧ i = .int .i64 k ∧ weakFrom l wind (t.drop k) k = weakP l t wind ∧ Step w wr) (fun i _ => t.length - (intOf i).toNat)
  case atStart => exact ⟨0, Nat.zero_le _, rfl, rfl, Step.refl _⟩
  case round =>
    obtain ⟨k, hk, rfl, hwk, hT⟩ := hrel
    have HWK := Lib.hid hwk
    have HT := Lib.hid hT
    clear hwk hT
    by_cases hlt : k < t.length
    · obtain rfl := HPU.out.1 (by omega)
      obtain ⟨c2, e1, e2, e3, e4⟩ := HPU.out.2 k hlt
      have HE := Lib.hid (And.intro e1 (And.intro e2 e3))
      have e1 := HT.out.keeps.cell id e1
      have e2 := HT.out.keeps.cell id e2
      have e3 := HT.out.keeps.cell id e3
      have hix : (0 : Int) ≤ (k : Int) ∧ (k : Int) < (t.length : Int) := by omega
      have hhd := head_parts (all_get HL.out.2.1 hlt)
      have HST := Lib.hid (weakFrom_step (l := l) (wind := wind) hlt)
      obtain ⟨h, hh⟩ : ∃ h, h = t[k] := ⟨_, rfl⟩
      rw [← hh] at HE e1 e2 e4 hhd HST
      obtain ⟨pg, cg, rfl⟩ := e4.form
      have HHD := Lib.hid hhd
      have HSM := Lib.hid (forces_small HL.out.1 hhd.2.2.2)
      have HFL := Lib.hid (show (forcesL l h.guys).length ≤ 8 by rw [forces_len]; exact hhd.2.2.1)
      have hcall := Lib.hid (Forces_any (fun _ => False) l h (.slice pv l.length cv) (.agg #[.int .i64 h.area, .int .i64 h.bears, .slice pg h.guys.length cg]) wr (SL.go HV.out HT.out) ⟨_, rfl, _, rfl, SL.go e4 HT.out⟩ HL.out.1 hhd.2.2.2 (by omega))
      clear hh e4 hhd
      go_wp2_with fail
      refine hcall.out.mono ?_
      rintro e wm ⟨vF, rfl, hvF, hSm⟩
      obtain ⟨F, hF⟩ : ∃ F, F = forcesL l h.guys := ⟨_, rfl⟩
      rw [← hF] at hvF HSM HFL HST
      have HTl := Lib.hid (HT.out.trans hSm)
      have HVF := Lib.hid (SL.go hvF (Step.refl _))
      clear hcall hF hSm e1 e2 e3 HT hvF
      go_wp2
      go_loopw [10] (fun i wr => ∃ j : Nat, j ≤ wind.length ∧ i = .int .i64 j ∧ (∀ i' (hi : i' < j) (hl : i' < wind.length), balL F (timesV wind[i'] h.area) = true) ∧ Step wm wr) (fun i _ => wind.length - (intOf i).toNat)
      case atStart => exact ⟨0, Nat.zero_le _, rfl, fun i hi => absurd hi (by omega), Step.refl _⟩
      case round =>
        obtain ⟨j, hj, rfl, hall, hT⟩ := hrel
        have HALL := Lib.hid hall
        have HT := Lib.hid hT
        clear hall hT
        by_cases hltj : j < wind.length
        · obtain rfl := HPX.out.1 (by omega)
          obtain ⟨x1, x2⟩ := HPX.out.2 j hltj
          have HX12 := Lib.hid (And.intro x1 x2)
          have hjx : (0 : Int) ≤ (j : Int) ∧ (j : Int) < (wind.length : Int) := by omega
          have hcn := corner_in (all_get HL.out.2.2 hltj)
          have HNX := Lib.hid (weakK_some (F := F) (area := h.area) hltj HALL.out)
          have HSO := Lib.hid (show ∀ i' (hi : i' < j + 1) (hl : i' < wind.length), balL F (timesV wind[j] h.area) = true → balL F (timesV wind[i'] h.area) = true from fun i' hi hl q => if e : i' = j then by subst e; exact q else HALL.out i' (by omega) hl)
          obtain ⟨cn, hcj⟩ : ∃ c, c = wind[j] := ⟨_, rfl⟩
          rw [← hcj] at HX12 hcn HNX
          simp only [← hcj] at HSO
          obtain ⟨q, hq⟩ : ∃ q, q = timesV cn h.area := ⟨_, rfl⟩
          have hqi : inV 10000000 q := by rw [hq]; exact times_in (N := 1000) hcn HHD.out.1
          have hqf := in_fits hqi (by decide)
          have HQF := Lib.hid (show fits (h.area * cn.x) ∧ fits (h.area * cn.y) by rw [hq] at hqf; exact hqf)
          have HQ := Lib.hid (And.intro hq hqi)
          rw [← hq] at HNX
          simp only [← hq] at HSO
          clear hcj hq hqi hqf hcn x1 x2
          go_upto_region 8 with (fail)
          refine wp_region_seq (kdOf [10, 11] []) [0, 0, 0, 6, 14, 0, 0, 96, 224, 480, 1022, 2047, 4095] [0, 1, 2, 3, 4, 5, 6, 7, 8, 9, 10, 11, 12] [] (by kernel_rfl) (by kernel_rfl) (fun i T z hi hk => by simp [kdOf] at hk <;> (try (split at hk <;> cases hk))) ?_
          intro Wx hWx
          have HTx := Lib.hid (HT.out.trans hWx)
          clear hWx HT
          have HT := HTx
          clear HTx
          have hst := HTl.out.trans HT.out
          have x1 := hst.keeps.cell id HX12.out.1
          have x2 := hst.keeps.cell id HX12.out.2
          have e1 := hst.keeps.cell id HE.out.1
          have e2 := hst.keeps.cell id HE.out.2.1
          have e3 := hst.keeps.cell id HE.out.2.2
          clear hst
          repeat (first | (refine run_off rfl rfl (by rfl) ?_; (try simp only [Act.put, List.setIfInBounds_toArray, List.set_cons_zero, List.set_cons_succ])) | (refine run_chain_off rfl rfl (by rfl) (K0_mono _) ?_; (try simp only [Act.put, List.setIfInBounds_toArray, List.set_cons_zero, List.set_cons_succ])) | ((refine run_want rfl rfl (by rfl) ⟨?_, fun W hW => ?_, ?_⟩; rotate_left; (· (have d0 := hW.keeps.cell id x1; have d1 := hW.keeps.cell id x2; have d2 := hW.keeps.cell id e1; have d3 := hW.keeps.cell id e2; have d4 := hW.keeps.cell id e3; go_simp; (try with_reducible rfl)))); (try simp only [Act.put, List.setIfInBounds_toArray, List.set_cons_zero, List.set_cons_succ])))
          clear x1 x2 e1 e2 e3
          refine run_chain rfl rfl (by rfl) (fun Wi hWi K' hK => ?_)
          have HTi := Lib.hid (HT.out.trans hWi)
          have HZW := Lib.hid HTi.out.size
          clear hWi HT
          go_simp
          refine (Times_any cn h.area _ HQF.out.1 HQF.out.2).mono ?_
          rintro e wn ⟨rfl, hSn⟩
          have HT := Lib.hid (HTi.out.trans (StepX.of hSn))
          clear HTi
          rw [← HQ.out.1]
          refine hK _ _ (StepX.of hSn) ?_
          clear hSn
          (try simp only [Act.put, List.setIfInBounds_toArray, List.set_cons_zero, List.set_cons_succ])
          repeat (first | (refine run_off rfl rfl (by rfl) ?_; (try simp only [Act.put, List.setIfInBounds_toArray, List.set_cons_zero, List.set_cons_succ])) | (refine run_chain_off rfl rfl (by rfl) (K0_mono _) ?_; (try simp only [Act.put, List.setIfInBounds_toArray, List.set_cons_zero, List.set_cons_succ])) | ((refine run_want rfl rfl (by rfl) ⟨?_, fun W hW => ?_, ?_⟩; rotate_left; (· (skip; go_simp; (try with_reducible rfl)))); (try simp only [Act.put, List.setIfInBounds_toArray, List.set_cons_zero, List.set_cons_succ])))
          refine run_chain rfl rfl (by rfl) (fun Wi hWi K' hK => ?_)
          have HTi := Lib.hid (HT.out.trans hWi)
          have HZW := Lib.hid HTi.out.size
          clear hWi HT
          go_simp
          refine (Balances_any (fun _ => False) F q _ _ (SL.go HVF.out HTi.out) HSM.out HFL.out (HQ.out.2.mono (by decide))).mono ?_
          rintro e wn ⟨rfl, hSn⟩
          have HT := Lib.hid (HTi.out.trans (StepX.of hSn))
          clear HTi
          refine hK _ _ (StepX.of hSn) ?_
          clear hSn
          (try simp only [Act.put, List.setIfInBounds_toArray, List.set_cons_zero, List.set_cons_succ])
          repeat (first | (refine run_off rfl rfl (by rfl) ?_; (try simp only [Act.put, List.setIfInBounds_toArray, List.set_cons_zero, List.set_cons_succ])) | (refine run_chain_off rfl rfl (by rfl) (K0_mono _) ?_; (try simp only [Act.put, List.setIfInBounds_toArray, List.set_cons_zero, List.set_cons_succ])) | ((refine run_want rfl rfl (by rfl) ⟨?_, fun W hW => ?_, ?_⟩; rotate_left; (· (skip; go_simp; (try with_reducible rfl)))); (try simp only [Act.put, List.setIfInBounds_toArray, List.set_cons_zero, List.set_cons_succ])))
          refine run_end (L := []) rfl (fun W6 hW6 => ?_)
          have HT6 := Lib.hid (HT.out.trans hW6)
          clear hW6 HT
          have HT := HT6
          clear HT6
          cases hbl : balL F q with
          | true =>
            have HB2 := Lib.hid hbl
            clear hbl
            go_wp2
            go_roundw
            case rel => exact ⟨j + 1, by omega, by go_num, fun i' hi hl => HSO.out i' hi hl HB2.out, HT.out⟩
            case measure => simp [intOf]; omega
          | false =>
            have HWP := Lib.hid (show weakP l t wind = ((k : Int), (j : Int)) by rw [← HWK.out, HST.out, HNX.out hbl])
            clear hbl
            go_wp2
            go_ret2
            exact ⟨by rw [HWP.out]; rfl, HTl.out.trans HT.out⟩
        · have HNN := Lib.hid (show weakFrom l wind (t.drop (k + 1)) (k + 1) = weakP l t wind by rw [← HWK.out, HST.out, weakK_no (fun i' hl => HALL.out i' (by omega) hl)])
          go_wp2
          go_roundw
          case rel => exact ⟨k + 1, by omega, by go_num, HNN.out, HTl.out.trans HT.out⟩
          case measure => simp [intOf]; omega
    · have HWP := Lib.hid (show weakP l t wind = (-1, -1) by rw [← HWK.out, List.drop_of_length_le (by omega)]; rfl)
      go_wp2
      go_ret2
      exact ⟨by rw [HWP.out]; rfl, HT.out⟩
end Go.Proofs.Ytdcjbbeoocldeaa
/- Walks: the law CanvasWeakest: it answers true. -/
namespace Go.Proofs.Ytdcjbbeoocldeaa
set_option linter.unusedSimpArgs false
set_option linter.unusedVariables false
open Go.RowKit Go.BT

theorem weakP_some {l : List Tst} {t : List Head} {wind : List Vec} (h : standB l t wind = false) : ∃ (j k : Nat) (hj : j < t.length) (hk : k < wind.length), weakP l t wind = ((j : Int), (k : Int)) := by
  unfold standB at h
  rcases weakFrom_ge (l := l) (wind := wind) t 0 with ⟨h1, h2⟩ | ⟨j, k, hj, hk, h1, h2, h3⟩
  · rw [h2] at h; exact absurd h (by decide)
  · exact ⟨j, k, hj, hk, by unfold weakP; rw [h1]; simp⟩
set_option maxRecDepth 100000 in
set_option maxHeartbeats 8000000 in
theorem CanvasWeakest_any (l : List Tst) (t : List Head) (wind : List Vec) (v u x : Value) (w : World) (hv : SL (fun _ => False) w v l) (hu : SL (fun _ => False) w u t) (hx : SL (fun _ => False) w x wind) :
    Calls Try.prog 7 #[v, u, x] w fun e w' => e = .returned (.bool true) ∧ Step w w' := by
  have HV := Lib.hid (SL.go hv (Step.refl _))
  have HU := Lib.hid (SL.go hu (Step.refl _))
  have HX := Lib.hid (SL.go hx (Step.refl _))
  have HS := Lib.hid (Step.refl w)
  have HT := Lib.hid (Step.refl w)
  have hmx := hx.len
  obtain ⟨pv, cv, rfl⟩ := hv.form
  obtain ⟨pu, cu, rfl⟩ := hu.form
  obtain ⟨px, cx, rfl⟩ := hx.form
  clear hv hu hx
  go_enter Try.func7, Try.ntmps7
  go_wp2_with fail
  refine (Few_any (fun _ => False) l t _ _ _ (HV.out.keep (.of_step HT.out)) (HU.out.keep (.of_step HT.out))).mono ?_
  rintro e wn ⟨rfl, hSn⟩
  have HTi := Lib.hid (HT.out.trans hSn)
  clear hSn HT
  have HT := HTi
  clear HTi
  cases qf : few l t with
  | false =>
    clear qf
    go_wp2_with fail
    refine (wakes_any _).mono ?_
    rintro e wz ⟨rfl, hSz⟩
    go_wp2
    go_ret
    exact ⟨rfl, HS.out.trans (HT.out.trans hSz)⟩
  | true =>
  have HFEW := Lib.hid (few_of qf)
  clear qf
  by_cases h15 : 15 < (wind.length : Int)
  · have hd : decide (15 < (wind.length : Int)) = true := by simpa using h15
    go_wp2_with fail
    refine (wakes_any _).mono ?_
    rintro e wz ⟨rfl, hSz⟩
    go_wp2
    go_ret
    exact ⟨rfl, HS.out.trans (HT.out.trans hSz)⟩
  have hd : decide (15 < (wind.length : Int)) = false := by simpa using h15
  have HL15 := Lib.hid (show wind.length ≤ 15 by omega)
  clear h15
  go_upto_region 3 with (fail)
  clear hd
  go_wp2_with fail
  refine (Tests_any _ l _ _ (SL.go HV.out HT.out) (by have := HFEW.out.1; omega)).mono ?_
  rintro e wn ⟨v1, rfl, hv1, hSn⟩
  have HTi := Lib.hid (HT.out.trans hSn)
  clear hSn HT
  have HT := HTi
  clear HTi
  have HV1 := Lib.hid (SL.go hv1 (Step.refl _))
  clear hv1
  go_wp2_with fail
  refine (Tent_any _ t _ _ (SL.go HU.out HT.out) HFEW.out.2).mono ?_
  rintro e wm ⟨v2, rfl, hv2, hSn⟩
  have HTm := Lib.hid (HT.out.trans hSn)
  have HV1m := Lib.hid (SL.go HV1.out hSn)
  have HV2 := Lib.hid (SL.go hv2 (Step.refl _))
  clear hSn HT HV1 hv2
  go_wp2_with fail
  refine (Wind_any _ wind _ _ (SL.go HX.out HTm.out) (by have := HL15.out; omega)).mono ?_
  rintro e wn ⟨v3, rfl, hv3, hSn⟩
  have HT := Lib.hid (HTm.out.trans hSn)
  have hv1 := SL.go HV1m.out hSn
  have hv2 := SL.go HV2.out hSn
  clear hSn HTm HV1m HV2
  go_wp2_with fail
  refine (Weakest_any (fun _ => False) l t wind _ _ _ _ hv1 hv2 (SL.go hv3 (Step.refl _))).mono ?_
  rintro e wn ⟨a, b, rfl, hz, hok, hSn⟩
  obtain ⟨c, hc⟩ : ∃ c, c = blownC l t wind := ⟨_, rfl⟩
  rw [← hc] at hz hok ⊢
  have HZ := Lib.hid (And.intro hz hok)
  have HC := Lib.hid hc
  obtain ⟨wa, hwa⟩ : ∃ W, W = wn.alloc (.cells #[.int .i64 a, .int .i64 b] 40) := ⟨_, rfl⟩
  have HBA := Lib.hid (show Bx wa wn.heap.size [.int .i64 a, .int .i64 b] 40 by rw [hwa]; exact Bx.new wn [_, _] _)
  have HTa := Lib.hid (show Step w wa by rw [hwa]; exact HT.out.trans (hSn.trans (Step.alloc _ _)))
  have HWA := Lib.hid hwa
  clear hv1 hv2 hv3 hz hok hSn HT hwa hc
  go_upto_region 4 with (fail)
  rw [← HWA.out]
  generalize wn.heap.size = ga at *
  have HV9 := Lib.hid (SL.go HV.out HTa.out)
  have HU9 := Lib.hid (SL.go HU.out HTa.out)
  have HX9 := Lib.hid (SL.go HX.out HTa.out)
  clear HV HU HX HS
  have HV := HV9
  have HU := HU9
  have HX := HX9
  have HS := HTa
  have HT := Lib.hid (Step.refl wa)
  clear HV9 HU9 HX9 HTa HWA
  go_wp2_with fail
  refine (LBlown_any (fun _ => False) l t wind _ _ _ _ (SL.go HV.out HT.out) (SL.go HU.out HT.out) (SL.go HX.out HT.out)).mono ?_
  rintro e wn ⟨rfl, hSn⟩
  have HTi := Lib.hid (HT.out.trans hSn)
  clear hSn HT
  have HT := HTi
  clear HTi
  rw [← HC.out]
  have r0 := (HBA.out.step HT.out).cell 0
  have r1 := (HBA.out.step HT.out).cell 1
  simp only [List.getElem?_cons_zero, List.getElem?_cons_succ] at r0 r1
  by_cases h0 : c = 0
  rotate_left
  · have hd : (c != 0) = true := by simpa using h0
    obtain ⟨rfl, rfl⟩ := HZ.out.1 h0
    have hr : weakR l t wind = (0, 0) := by unfold weakR; rw [← HC.out, if_neg h0]
    rw [hr]
    clear h0 hr
    go_wp2_with fail
    refine (wakes_any _).mono ?_
    rintro e wz ⟨rfl, hSz⟩
    go_wp2
    go_ret
    exact ⟨rfl, HS.out.trans (HT.out.trans hSz)⟩
  subst h0
  have hok := HZ.out.2 rfl
  obtain ⟨k1, k2, k3, k4⟩ := blown_ok HC.out.symm
  have HK := Lib.hid (And.intro k1 (And.intro (tent_parts k2) (wind_all k3).1))
  have hr : weakR l t wind = weakP l t wind := by unfold weakR; rw [← HC.out, if_pos rfl]
  rw [hr]
  clear hr k1 k2 k3 k4 HZ r0 r1
  have HOK := Lib.hid hok
  clear hok
  go_wp2_with fail
  refine (RWeakest_any (fun _ => False) l t wind _ _ _ _ (SL.go HV.out HT.out) (SL.go HU.out HT.out) (SL.go HX.out HT.out) HK.out.1 HK.out.2.1.2 HK.out.2.2).mono ?_
  rintro e wn ⟨rfl, hSn⟩
  have HTi := Lib.hid (HT.out.trans hSn)
  clear hSn HT
  have HT := HTi
  clear HTi
  cases qs : standB l t wind with
  | true =>
    obtain ⟨rfl, rfl⟩ := HOK.out.1 qs
    have hw := weakP_iff.2 qs
    rw [hw]
    have r0 := (HBA.out.step HT.out).cell 0
    have r1 := (HBA.out.step HT.out).cell 1
    simp only [List.getElem?_cons_zero, List.getElem?_cons_succ] at r0 r1
    clear hw qs
    go_wp2_with fail
    refine (wakes_any _).mono ?_
    rintro e wz ⟨rfl, hSz⟩
    go_wp2
    go_ret
    exact ⟨rfl, HS.out.trans (HT.out.trans hSz)⟩
  | false =>
    obtain ⟨i, k, hi, hk, hw⟩ := weakP_some qs
    have htw := HOK.out.2
    rw [hw] at htw
    have hrow := htw i k hi hk rfl rfl
    rw [hw]
    obtain ⟨pu', cu', bu, ou, heu, _, _, hpu, hcu, _⟩ := HU.out.heads
    injection heu with heu1 _ heu3
    subst heu1 heu3
    obtain rfl := hpu (by omega)
    obtain ⟨c2, e1, e2, e3, e4⟩ := hcu i hi
    obtain ⟨px', cx', bx, ox, hex, _, _, hpx, hcx, _⟩ := HX.out.vecs
    injection hex with hex1 _ hex3
    subst hex1 hex3
    obtain rfl := hpx (by omega)
    obtain ⟨x1, x2⟩ := hcx k hk
    have hhd := head_parts (all_get HK.out.2.1.2 hi)
    have hcn := corner_in (all_get HK.out.2.2 hk)
    have hix : (0 : Int) ≤ (i : Int) ∧ (i : Int) < (t.length : Int) := by omega
    have hkx : (0 : Int) ≤ (k : Int) ∧ (k : Int) < (wind.length : Int) := by omega
    have hneg : decide ((i : Int) < 0) = false := decide_eq_false (by omega)
    obtain ⟨h, hh⟩ : ∃ h, h = t[i] := ⟨_, rfl⟩
    obtain ⟨cn, hcj⟩ : ∃ c, c = wind[k] := ⟨_, rfl⟩
    rw [← hh] at e1 e2 e4 hhd hrow
    rw [← hcj] at x1 x2 hcn hrow
    obtain ⟨pg, cg, rfl⟩ := e4.form
    have HHV := Lib.hid (show AV (fun _ => False) wa (.agg #[.int .i64 h.area, .int .i64 h.bears, .slice pg h.guys.length cg]) h from ⟨_, rfl, _, rfl, e4⟩)
    have HE := Lib.hid (And.intro e1 (And.intro e2 (And.intro e3 (And.intro x1 x2))))
    have HSM := Lib.hid (forces_small HK.out.1 hhd.2.2.2)
    have HFL := Lib.hid (show (forcesL l h.guys).length ≤ 8 by rw [forces_len]; exact hhd.2.2.1)
    have HHD := Lib.hid hhd
    obtain ⟨F, hF⟩ : ∃ F, F = forcesL l h.guys := ⟨_, rfl⟩
    rw [← hF] at HSM HFL hrow
    have HFE := Lib.hid hF
    obtain ⟨q, hq⟩ : ∃ q, q = timesV cn h.area := ⟨_, rfl⟩
    have hqi : inV 10000000 q := by rw [hq]; exact times_in (N := 1000) hcn hhd.1
    have hqf := in_fits hqi (by decide)
    have HQF := Lib.hid (show fits (h.area * cn.x) ∧ fits (h.area * cn.y) by rw [hq] at hqf; exact hqf)
    rw [← hq] at hrow
    have HQ := Lib.hid (And.intro hq hqi)
    have HIW := Lib.hid (show isWeakL F q ⟨a, b⟩ = true by
      unfold isWeakL wayInB
      simp only [Bool.and_eq_true, within_iff, decide_eq_true_eq]
      exact ⟨⟨by omega, by omega⟩, hrow.1⟩)
    clear hq hqi hqf hF hh hcj e1 e2 e3 e4 x1 x2 hhd hcn hrow htw hw hpu hcu hpx hcx qs
    go_upto_region 12 with (fail)
    refine wp_region_seq (kdOf [5, 15, 21, 23] []) (0 :: 0 :: 0 :: 6 :: 14 :: 31 :: 0 :: 0 :: 192 :: 448 :: 0 :: 0 :: 3072 :: 7168 :: 15360 :: 32767 :: 0 :: 65536 :: 0 :: 262144 :: 983040 :: 2097151 :: 4194303 :: 8388607 :: 16777215 :: 33554431 :: []) (0 :: 1 :: 2 :: 3 :: 4 :: 6 :: 7 :: 8 :: 9 :: 10 :: 11 :: 12 :: 13 :: 14 :: 16 :: 17 :: 18 :: 19 :: 20 :: 5 :: 15 :: 21 :: 22 :: 23 :: 24 :: 25 :: []) [] (by kernel_rfl) (by kernel_rfl) (fun i T z hi hk => by simp [kdOf] at hk <;> (try (split at hk <;> cases hk))) ?_
    intro Wx hWx
    have HTx := Lib.hid (HT.out.trans hWx)
    clear hWx HT
    have HT := HTx
    clear HTx
    have e1 := HT.out.keeps.cell id HE.out.1
    have e2 := HT.out.keeps.cell id HE.out.2.1
    have e3 := HT.out.keeps.cell id HE.out.2.2.1
    have x1 := HT.out.keeps.cell id HE.out.2.2.2.1
    have x2 := HT.out.keeps.cell id HE.out.2.2.2.2
    have r0 := (HBA.out.step HT.out).cell 0
    have r1 := (HBA.out.step HT.out).cell 1
    simp only [List.getElem?_cons_zero, List.getElem?_cons_succ] at r0 r1
    repeat (first | (refine run_off rfl rfl (by rfl) ?_; (try simp only [Act.put, List.setIfInBounds_toArray, List.set_cons_zero, List.set_cons_succ])) | (refine run_chain_off rfl rfl (by rfl) (K0_mono _) ?_; (try simp only [Act.put, List.setIfInBounds_toArray, List.set_cons_zero, List.set_cons_succ])) | ((refine run_want rfl rfl (by rfl) ⟨?_, fun W hW => ?_, ?_⟩; rotate_left; (· (have d0 := hW.keeps.cell id e1; have d1 := hW.keeps.cell id e2; have d2 := hW.keeps.cell id e3; have d3 := hW.keeps.cell id x1; have d4 := hW.keeps.cell id x2; have d5 := hW.keeps.cell id r0; have d6 := hW.keeps.cell id r1; go_simp; (try with_reducible rfl)))); (try simp only [Act.put, List.setIfInBounds_toArray, List.set_cons_zero, List.set_cons_succ])))
    clear e1 e2 e3 x1 x2 r0 r1
    refine run_chain rfl rfl (by rfl) (fun Wi hWi K' hK => ?_)
    have HTi := Lib.hid (HT.out.trans hWi)
    have HZW := Lib.hid HTi.out.size
    clear hWi HT
    go_simp
    refine (Forces_any (fun _ => False) l h _ _ _ (SL.go HV.out HTi.out) (AV.go HHV.out HTi.out) HK.out.1 HHD.out.2.2.2 (by have := HHD.out.2.2.1; omega)).mono ?_
    rintro e wn ⟨vF, rfl, hvF, hSn⟩
    have HT := Lib.hid (HTi.out.trans (StepX.of hSn))
    clear HTi
    rw [← HFE.out] at hvF
    have HhvF := Lib.hid (SL.go hvF (Step.refl _))
    clear hvF
    refine hK _ _ (StepX.of hSn) ?_
    clear hSn
    (try simp only [Act.put, List.setIfInBounds_toArray, List.set_cons_zero, List.set_cons_succ])
    have e1 := HT.out.keeps.cell id HE.out.1
    have e2 := HT.out.keeps.cell id HE.out.2.1
    have e3 := HT.out.keeps.cell id HE.out.2.2.1
    have x1 := HT.out.keeps.cell id HE.out.2.2.2.1
    have x2 := HT.out.keeps.cell id HE.out.2.2.2.2
    have r0 := (HBA.out.step HT.out).cell 0
    have r1 := (HBA.out.step HT.out).cell 1
    simp only [List.getElem?_cons_zero, List.getElem?_cons_succ] at r0 r1
    repeat (first | (refine run_off rfl rfl (by rfl) ?_; (try simp only [Act.put, List.setIfInBounds_toArray, List.set_cons_zero, List.set_cons_succ])) | (refine run_chain_off rfl rfl (by rfl) (K0_mono _) ?_; (try simp only [Act.put, List.setIfInBounds_toArray, List.set_cons_zero, List.set_cons_succ])) | ((refine run_want rfl rfl (by rfl) ⟨?_, fun W hW => ?_, ?_⟩; rotate_left; (· (have d0 := hW.keeps.cell id e1; have d1 := hW.keeps.cell id e2; have d2 := hW.keeps.cell id e3; have d3 := hW.keeps.cell id x1; have d4 := hW.keeps.cell id x2; have d5 := hW.keeps.cell id r0; have d6 := hW.keeps.cell id r1; go_simp; (try with_reducible rfl)))); (try simp only [Act.put, List.setIfInBounds_toArray, List.set_cons_zero, List.set_cons_succ])))
    clear e1 e2 e3 x1 x2 r0 r1
    refine run_chain rfl rfl (by rfl) (fun Wi hWi K' hK => ?_)
    have HTi := Lib.hid (HT.out.trans hWi)
    have h1i := Lib.hid (SL.go HhvF.out hWi)
    clear hWi HT HhvF
    go_simp
    refine (Times_any cn h.area _ HQF.out.1 HQF.out.2).mono ?_
    rintro e wn ⟨rfl, hSn⟩
    have HT := Lib.hid (HTi.out.trans (StepX.of hSn))
    have HhvF := Lib.hid (SL.go h1i.out hSn)
    have HZI := Lib.hid HTi.out.size
    clear HTi h1i
    rw [← HQ.out.1]
    refine hK _ _ (StepX.of hSn) ?_
    clear hSn
    (try simp only [Act.put, List.setIfInBounds_toArray, List.set_cons_zero, List.set_cons_succ])
    have e1 := HT.out.keeps.cell id HE.out.1
    have e2 := HT.out.keeps.cell id HE.out.2.1
    have e3 := HT.out.keeps.cell id HE.out.2.2.1
    have x1 := HT.out.keeps.cell id HE.out.2.2.2.1
    have x2 := HT.out.keeps.cell id HE.out.2.2.2.2
    have r0 := (HBA.out.step HT.out).cell 0
    have r1 := (HBA.out.step HT.out).cell 1
    simp only [List.getElem?_cons_zero, List.getElem?_cons_succ] at r0 r1
    repeat (first | (refine run_off rfl rfl (by rfl) ?_; (try simp only [Act.put, List.setIfInBounds_toArray, List.set_cons_zero, List.set_cons_succ])) | (refine run_chain_off rfl rfl (by rfl) (K0_mono _) ?_; (try simp only [Act.put, List.setIfInBounds_toArray, List.set_cons_zero, List.set_cons_succ])) | ((refine run_want rfl rfl (by rfl) ⟨?_, fun W hW => ?_, ?_⟩; rotate_left; (· (have d0 := hW.keeps.cell id e1; have d1 := hW.keeps.cell id e2; have d2 := hW.keeps.cell id e3; have d3 := hW.keeps.cell id x1; have d4 := hW.keeps.cell id x2; have d5 := hW.keeps.cell id r0; have d6 := hW.keeps.cell id r1; go_simp; (try with_reducible rfl)))); (try simp only [Act.put, List.setIfInBounds_toArray, List.set_cons_zero, List.set_cons_succ])))
    clear e1 e2 e3 x1 x2 r0 r1
    refine run_chain rfl rfl (by rfl) (fun Wi hWi K' hK => ?_)
    have HTi := Lib.hid (HT.out.trans hWi)
    have h1i := Lib.hid (SL.go HhvF.out hWi)
    clear hWi HT HhvF
    go_simp
    refine (IsWeak_any (fun _ => False) F q ⟨a, b⟩ _ _ h1i.out HSM.out HFL.out HQ.out.2).mono ?_
    rintro e wn ⟨rfl, hSn⟩
    have HT := Lib.hid (HTi.out.trans (StepX.of hSn))
    have HhvF := Lib.hid (SL.go h1i.out hSn)
    have HZI := Lib.hid HTi.out.size
    clear HTi h1i
    rw [HIW.out]
    refine hK _ _ (StepX.of hSn) ?_
    clear hSn
    (try simp only [Act.put, List.setIfInBounds_toArray, List.set_cons_zero, List.set_cons_succ])
    clear HhvF
    repeat (first | (refine run_off rfl rfl (by rfl) ?_; (try simp only [Act.put, List.setIfInBounds_toArray, List.set_cons_zero, List.set_cons_succ])) | (refine run_chain_off rfl rfl (by rfl) (K0_mono _) ?_; (try simp only [Act.put, List.setIfInBounds_toArray, List.set_cons_zero, List.set_cons_succ])) | ((refine run_want rfl rfl (by rfl) ⟨?_, fun W hW => ?_, ?_⟩; rotate_left; (· (skip; go_simp; (try with_reducible rfl)))); (try simp only [Act.put, List.setIfInBounds_toArray, List.set_cons_zero, List.set_cons_succ])))
    refine run_chain rfl rfl (by rfl) (fun Wi hWi K' hK => ?_)
    have HTi := Lib.hid (HT.out.trans hWi)
    have HZW := Lib.hid HTi.out.size
    clear hWi HT
    go_simp
    refine (wakes_any _).mono ?_
    rintro e wn ⟨rfl, hSn⟩
    have HT := Lib.hid (HTi.out.trans (StepX.of hSn))
    clear HTi
    refine hK _ _ (StepX.of hSn) ?_
    clear hSn
    (try simp only [Act.put, List.setIfInBounds_toArray, List.set_cons_zero, List.set_cons_succ])
    repeat (first | (refine run_off rfl rfl (by rfl) ?_; (try simp only [Act.put, List.setIfInBounds_toArray, List.set_cons_zero, List.set_cons_succ])) | (refine run_chain_off rfl rfl (by rfl) (K0_mono _) ?_; (try simp only [Act.put, List.setIfInBounds_toArray, List.set_cons_zero, List.set_cons_succ])) | ((refine run_want rfl rfl (by rfl) ⟨?_, fun W hW => ?_, ?_⟩; rotate_left; (· (skip; go_simp; (try with_reducible rfl)))); (try simp only [Act.put, List.setIfInBounds_toArray, List.set_cons_zero, List.set_cons_succ])))
    refine run_end (L := []) rfl (fun W6 hW6 => ?_)
    have HT6 := Lib.hid (HT.out.trans hW6)
    clear hW6 HT
    have HT := HT6
    clear HT6
    go_wp2
    go_ret
    exact ⟨rfl, HS.out.trans HT.out⟩
end Go.Proofs.Ytdcjbbeoocldeaa
