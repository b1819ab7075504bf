/- Walks and plain laws, part e. -/
import Derived.Test.YtoanjaidfdkdpaaGreatMc
import Derived.Test.YtoanjaidfdkdpaaGreatMd
import Derived.Test.YtoanjaidfdkdpaaGreatRows
import Derived.Lib.SlicesS
/- Walks: the plan of a site, by the program. -/
namespace Go.Proofs.YtoanjaidfdkdpaaGreat
set_option linter.unusedSimpArgs false
set_option linter.unusedVariables false
open Go.RowKit Go.BT

theorem plan2_any (n lim : Int) (limits : List Int) (b c : Nat) (vl : Value) (i : Nat) (w : World) (hl : SL (fun _ => False) w vl limits) (hb : w.cell? ⟨b, 0, none⟩ = some vl) (hc : w.cell? ⟨c, 0, none⟩ = some (.int .i64 (i : Int))) (hi : i < limits.length) (hlim : lim = limits.getD i 0) :
    Calls Tryz.prog 40 #[.int .i64 n, .pointer (some ⟨b, 0, none⟩), .pointer (some ⟨c, 0, none⟩)] w fun e w' => e = .returned (.bool (decide (lim < n))) ∧ Step w w' := by
  obtain ⟨pv, cv, bv, ov, rfl, _, _, hp, hcc, _⟩ := hl.ints
  obtain rfl := hp (by omega)
  have e0 := hcc i hi
  have hL : limits[i] = lim := by rw [hlim, List.getD_eq_getElem?_getD, List.getElem?_eq_getElem hi]; rfl
  rw [hL] at e0
  have hix : (0 : Int) ≤ (i : Int) ∧ (i : Int) < (limits.length : Int) := by omega
  clear hp hcc hl hL hlim
  go_enter Tryz.func40, Tryz.ntmps40
  go_wp2
  go_ret
  exact ⟨rfl, (by repeat (first | (with_reducible assumption) | (with_reducible exact Step.refl _) | (with_reducible apply Step.s_alloc) | (with_reducible apply Step.s_drew) | (with_reducible apply Step.s_drewN) | (with_reducible refine Step.trans ?_ (by with_reducible assumption))))⟩
theorem begin_len (n : Nat) : (List.replicate n (-1 : Int)).length = n := by simp
/-- The begins while they are laid. -/
def layB (n k : Nat) : List Int := (List.range n).map fun i => if i < k then -1 else 0
theorem lay_len (n k : Nat) : (layB n k).length = n := by simp [layB]
theorem lay_start (n : Nat) : layB n 0 = List.replicate n 0 := by
  refine List.ext_getElem (by simp [layB]) fun i h1 h2 => ?_
  simp [layB]
theorem lay_end (n : Nat) : layB n n = List.replicate n (-1) := by
  refine List.ext_getElem (by simp [layB]) fun i h1 h2 => ?_
  have : i < n := by simpa [layB] using h1
  simp [layB, this]
theorem lay_set (n k : Nat) : (layB n k).set k (-1) = layB n (k + 1) := by
  refine List.ext_getElem (by simp [layB]) fun i h1 h2 => ?_
  rw [List.getElem_set]
  simp only [layB, List.getElem_map, List.getElem_range]
  by_cases e : k = i
  · subst e; rw [if_pos rfl, if_pos (by omega)]
  · rw [if_neg e]
    by_cases q : i < k
    · rw [if_pos q, if_pos (by omega)]
    · rw [if_neg q, if_neg (by omega)]
theorem plan_none {s : Site} {limits worst : List Int} {out : Int} {k : Nat} (h : planTo s limits worst out k = none) : ∀ m, k ≤ m → planTo s limits worst out m = none
  | 0, hm => by
    have : k = 0 := by omega
    subst this; exact h
  | m + 1, hm => by
    by_cases e : k = m + 1
    · subst e; exact h
    · rw [planTo, plan_none h m (by omega)]
theorem dead_lt {worst : List Int} {lim : Int} {d : Nat} (h : deadI worst lim = some d) : d < worst.length := by
  unfold deadI at h
  rw [List.findIdx?_eq_some_iff_getElem] at h
  exact h.1
/-- What a variable holds. -/
def cellI (ip : Value) (w : World) : Int := match ip with
  | .pointer (some a) => intOf ((w.cell? a).getD undef)
  | _ => 0
theorem cellI_bx {c : Nat} {w : World} {n : Int} {T : TypeId} (h : Bx w c [.int .i64 n] T) : cellI (.pointer (some ⟨c, 0, none⟩)) w = n := by
  have := h.cell 0
  simp only [List.getElem?_cons_zero] at this
  simp [cellI, this, intOf]



set_option maxRecDepth 100000 in
set_option maxHeartbeats 8000000 in
theorem Plan_ok (s : Site) (limits worst : List Int) (now : Nat) (out : Int) (u v x : Value) (w : World) (hu : AV (fun _ => False) w u s) (hv : SL (fun _ => False) w v limits) (hx : SL (fun _ => False) w x worst) (hs : siteB s = true) (h1 : limitedB s limits = true) (h2 : windsB worst = true) (h3 : now < s.stages.length) (h4 : 0 ≤ out ∧ out ≤ 60) :
    Calls Tryz.prog 17 #[u, v, x, .int .i64 now, .int .i64 out] w fun e w' => ((planR s limits worst now out = none ∧ e = .returned (.tuple #[.slice none 0 0, .int .i64 0, .int .i64 11])) ∨ ∃ st v', planR s limits worst now out = some st ∧ e = .returned (.tuple #[v', .int .i64 st.call, .int .i64 0]) ∧ SL (fun _ => False) w' v' st.begin_) ∧ Step w w' := by
  obtain ⟨c0, c1, c2, rfl, q0, q1, q2⟩ := hu.site
  obtain ⟨p1, k1, rfl⟩ := q1.form
  obtain ⟨p2, k2, rfl⟩ := q2.form
  obtain ⟨p0, k0, rfl⟩ := q0.form
  have hok := site_ok hs
  obtain ⟨pv, cv, rfl⟩ := hv.form
  obtain ⟨px, cx, rfl⟩ := hx.form
  obtain ⟨W0, hW0⟩ : ∃ W, W = (w.alloc (.cells #[.slice p0 s.base.length k0, .slice p1 s.levels.length k1, .slice p2 s.stages.length k2, .int .i64 s.openS] 51)).alloc (.cells #[.slice pv limits.length cv] 39) := ⟨_, rfl⟩
  have hbx : Bx W0 w.heap.size [.slice p0 s.base.length k0, .slice p1 s.levels.length k1, .slice p2 s.stages.length k2, .int .i64 s.openS] 51 := by subst hW0; exact (Bx.new w [_, _, _, _] _).step (Step.alloc _ _)
  have hbl : Bx W0 (w.heap.size + 1) [.slice pv limits.length cv] 39 := by subst hW0; exact Bx.new' _ [_] _ _ (by simp)
  have hS : Step w W0 := by subst hW0; exact (by repeat (first | (with_reducible assumption) | (with_reducible exact Step.refl _) | (with_reducible apply Step.s_alloc) | (with_reducible apply Step.s_drew) | (with_reducible apply Step.s_drewN) | (with_reducible refine Step.trans ?_ (by with_reducible assumption))))
  have HW := Lib.hid hW0
  have HB := Lib.hid hbx
  have HBL := Lib.hid hbl
  have HS := Lib.hid hS
  have HV := Lib.hid (SL.go hv hS)
  have HX := Lib.hid (SL.go hx hS)
  have HAV := Lib.hid (AV.go hu hS)
  have HV2 := Lib.hid (SL.go q2 hS)
  have HOK := Lib.hid hok
  have HZ := Lib.hid (And.intro hs (And.intro h1 (And.intro h2 (And.intro h3 h4))))
  have HT := Lib.hid (Step.refl W0)
  have hwd : withinB (worst.length : Int) 1 48 = true ∧ (worst.all fun n => withinB n 0 1000) = true := by
    simp only [windsB, Bool.and_eq_true, decide_eq_true_eq] at h2
    exact ⟨by simp [withinB]; omega, h2.2⟩
  have HWD := Lib.hid hwd
  have HNW := Lib.hid (show withinB (now : Int) 0 ((s.stages.length : Int) - 1) = true by simp [withinB]; omega)
  have HOU := Lib.hid (show withinB out 0 60 = true by simp [withinB]; omega)
  have hnst := hok.nst
  have hwl : IntKind.i64.wrap ((s.stages.length : Int) - 1) = (s.stages.length : Int) - 1 := by rw [IntKind.wrap_i64]; omega
  clear hW0 hbx hbl hS hu hv hx q0 q1 q2 hok hs h1 h2 h3 h4 hwd
  go_enter Tryz.func17, Tryz.ntmps17
  go_upto_region 1 with (fail)
  rw [← HW.out]
  have g0 := (HB.out.step HT.out).cell 0
  have g1 := (HB.out.step HT.out).cell 1
  have g2 := (HB.out.step HT.out).cell 2
  have g3 := (HB.out.step HT.out).cell 3
  simp only [List.getElem?_cons_zero, List.getElem?_cons_succ] at g0 g1 g2 g3
  have hcall := Lib.hid (valid_ok s _ _ (AV.go HAV.out HT.out) HZ.out.1)
  go_wp2_with fail
  refine hcall.out.mono ?_
  clear hcall
  rintro e wn ⟨rfl, hSn⟩
  have HTi := Lib.hid (HT.out.trans hSn)
  clear hSn HT
  have HT := HTi
  clear HTi
  clear g0 g1 g2 g3
  have g0 := (HB.out.step HT.out).cell 0
  have g1 := (HB.out.step HT.out).cell 1
  have g2 := (HB.out.step HT.out).cell 2
  have g3 := (HB.out.step HT.out).cell 3
  have l0 := (HBL.out.step HT.out).cell 0
  simp only [List.getElem?_cons_zero, List.getElem?_cons_succ] at g0 g1 g2 g3 l0
  have hcall := Lib.hid (limited_ok s limits _ _ _ (AV.go HAV.out HT.out) (SL.go HV.out HT.out) HZ.out.2.1 (by have := HOK.out.nst; omega))
  go_wp2_with fail
  refine hcall.out.mono ?_
  clear hcall
  rintro e wn ⟨rfl, hSn⟩
  have HTi := Lib.hid (HT.out.trans hSn)
  clear hSn HT
  have HT := HTi
  clear HTi
  clear g0 g1 g2 g3 l0
  go_wp2_with fail
  refine (gale.within_any _ _ _ _).mono ?_
  rintro e wx ⟨rfl, rfl⟩
  rw [HWD.out.1]
  have hcall := Lib.hid (all_plan1 worst _ _ (SL.go HX.out HT.out))
  go_wp2_with fail
  refine hcall.out.mono ?_
  clear hcall
  rintro e wn ⟨rfl, hSn⟩
  have HTi := Lib.hid (HT.out.trans hSn)
  clear hSn HT
  have HT := HTi
  clear HTi
  rw [HWD.out.2]
  have g2 := (HB.out.step HT.out).cell 2
  simp only [List.getElem?_cons_zero, List.getElem?_cons_succ] at g2
  go_wp2_with fail
  refine (gale.within_any _ _ _ _).mono ?_
  rintro e wx ⟨rfl, rfl⟩
  rw [HNW.out]
  go_wp2_with fail
  refine (gale.within_any _ _ _ _).mono ?_
  rintro e wx ⟨rfl, rfl⟩
  rw [HOU.out]
  obtain ⟨wb, hwb⟩ : ∃ W, W = wn := ⟨_, rfl⟩
  subst hwb
  go_wp2_with (at_make; refine wpl_make (z := .int .i64 0) eiInts rfl _ _ rfl rfl .i64 .i64 s.stages.length rfl rfl (by omega) (by omega) ?_)
  obtain ⟨W1, hW1⟩ : ∃ W, W = wb.alloc (.cells (Array.replicate s.stages.length (.int .i64 0)) 3) := ⟨_, rfl⟩
  have HB1 := Lib.hid (show Bx W1 wb.heap.size ((layB s.stages.length 0).map (Value.int .i64)) 3 by
    rw [lay_start, List.map_replicate]
    rw [show Array.replicate s.stages.length (Value.int .i64 0) = (List.replicate s.stages.length (Value.int .i64 0)).toArray by simp] at hW1
    subst hW1
    exact Bx.new _ _ _)
  have HS1 := Lib.hid (show Step wb W1 by subst hW1; exact Step.alloc _ _)
  have HW1 := Lib.hid hW1
  clear hW1 g2
  go_wp2
  rw [← HW1.out]
  go_loopw [55] (fun i wr => ∃ k : Nat, k ≤ s.stages.length ∧ i = .int .i64 k ∧ Bx wr wb.heap.size ((layB s.stages.length k).map (Value.int .i64)) 3 ∧ StepX (fun j => j = wb.heap.size) W1 wr) (fun i _ => s.stages.length - (intOf i).toNat)
  case atStart => exact ⟨0, Nat.zero_le _, rfl, HB1.out, StepX.refl _ _⟩
  case round =>
    obtain ⟨k, hk, rfl, hb, hX⟩ := hrel
    have HX1 := Lib.hid hX
    have HBK := Lib.hid hb
    by_cases hlt : k < s.stages.length
    · have c0 := ints_cell hb (k := k) (by rw [lay_len]; exact hlt)
      have z0 := hb.frozen k
      have yl := hb.lt
      have hix : (0 : Int) ≤ (k : Int) ∧ (k : Int) < (s.stages.length : Int) := by omega
      clear hb hX
      go_wp2
      go_roundw
      case rel => exact ⟨k + 1, by omega, by go_num, by rw [← lay_set, ← ints_set]; exact HBK.out.setCell _ _, HX1.out.setCell ⟨wb.heap.size, k, none⟩ _ rfl⟩
      case measure => simp [intOf]; omega
    have hke : k = s.stages.length := by omega
    subst hke
    rw [lay_end] at hb
    obtain ⟨wc, hwc⟩ : ∃ W, W = wr := ⟨_, rfl⟩
    subst hwc
    have HTC := Lib.hid (show Step wb wc from StepX.fresh HS1.out hX (fun j hj => by omega))
    have HBG := Lib.hid hb
    have HLG := Lib.hid hb.lt
    clear hb hX HX1 HBK hk
    have HT2 := Lib.hid (HT.out.trans HTC.out)
    obtain ⟨pq, kq, bq, oq, heq, _, _, hpq, hcq, _⟩ := (SL.go HV2.out HT2.out).stgs
    injection heq with heq1 _ heq3
    subst heq1 heq3
    obtain rfl := hpq (by omega)
    have HST := Lib.hid hcq
    clear hpq hcq
    have g2 := (HB.out.step HT2.out).cell 2
    simp only [List.getElem?_cons_zero, List.getElem?_cons_succ] at g2
    go_upto_region 13 with (fail)
    clear g2 hwl hlt
    go_loopw [10, 11, 14, 15] (fun bg call next ip wr => bg = .slice (some ⟨wb.heap.size, 0, none⟩) s.stages.length s.stages.length ∧ ∃ (k : Nat) (st : PlanS) (c : Nat) (iv : Int), k ≤ s.stages.length - now ∧ iv = (s.stages.length : Int) - 1 - k ∧ planTo s limits worst out k = some st ∧ call = .int .i64 st.call ∧ next = .int .i64 st.next ∧ ip = .pointer (some ⟨c, 0, none⟩) ∧ wb.heap.size < c ∧ Bx wr c [.int .i64 iv] 3 ∧ Bx wr wb.heap.size (st.begin_.map (Value.int .i64)) 3 ∧ Step wb wr) (fun _ _ _ ip wr => (cellI ip wr + 1 - now).toNat)
    case atStart => exact ⟨rfl, 0, _, wc.heap.size, _, Nat.zero_le _, rfl, rfl, rfl, rfl, rfl, HLG.out, by simpa using Bx.new wc [.int .i64 ((s.stages.length : Int) - 1)] 3, HBG.out.alloc _, HTC.out.trans (Step.alloc _ _)⟩
    case round =>
      obtain ⟨rfl, k, st, c, iv, hk, hiv, hpl, rfl, rfl, rfl, hgc, hbc, hbg, hT⟩ := hrel
      have HTR := Lib.hid (HT.out.trans hT)
      have HTB := Lib.hid hT
      have HBC := Lib.hid hbc
      have HBG2 := Lib.hid hbg
      have HPL := Lib.hid hpl
      have HGC := Lib.hid hgc
      have HNX := Lib.hid (plan_next HOK.out k (by omega) st hpl)
      have c0 := hbc.cell 0
      have cl := hbc.lt
      simp only [List.getElem?_cons_zero] at c0
      clear hT hbc hbg hpl hgc
      by_cases hlk : k < s.stages.length - now
      · obtain ⟨ii, hii⟩ : ∃ ii : Nat, ii = s.stages.length - 1 - k := ⟨_, rfl⟩
        have hie : iv = (ii : Int) := by omega
        subst hie
        have hin : ii < s.stages.length := by omega
        have d1 : decide ((now : Int) ≤ (ii : Int)) = true := decide_eq_true (by omega)
        have d1n : decide (now ≤ ii) = true := decide_eq_true (by omega)
        have HII := Lib.hid (And.intro hii (And.intro hin hlk))
        have HL := Lib.hid (limited_parts HZ.out.2.1).1
        clear hk hiv hlk hii
        have hdi := dead_idx worst (limits.getD ii 0)
        have hcall := Lib.hid (indexFunc_int (fun _ => False) worst _ wr 40 #[.pointer (some ⟨w.heap.size + 1, 0, none⟩), .pointer (some ⟨c, 0, none⟩)] (Go.Proofs.enters_of Tryz.func40 (by kernel_rfl) rfl) (fun n => decide (limits.getD ii 0 < n)) (fun _ W => Step wr W)
          (fun _ W hW => SL.go HX.out (HTR.out.trans hW)) (Step.refl _) (fun i hi W u hW _ hu => by
            subst hu
            refine (plan2_any _ (limits.getD ii 0) limits _ c _ ii W (SL.go HV.out (HTR.out.trans hW)) (by have := (HBL.out.step (HTR.out.trans hW)).cell 0; simpa using this) (by have := (HBC.out.step hW).cell 0; simpa using this) (by have := HL.out; have := HII.out.2.1; omega) rfl).mono ?_
            rintro e w' ⟨rfl, hs⟩
            exact ⟨rfl, hW.trans hs⟩))
        have HLS := Lib.hid (show (HPL.out).symm = (HPL.out).symm from rfl)
        have HSTEP := Lib.hid (show planTo s limits worst out (k + 1) = planStep s limits worst out ii st by rw [planTo, HPL.out, HII.out.1])
        clear HLS
        go_wp2_with fail
        refine hcall.out.mono ?_
        rintro e wn ⟨rfl, _, _, _, hSn⟩
        clear hcall
        have HTR2 := Lib.hid (HTR.out.trans hSn)
        have HTB2 := Lib.hid (HTB.out.trans hSn)
        have HBC2 := Lib.hid (HBC.out.step hSn)
        have HBG3 := Lib.hid (HBG2.out.step hSn)
        clear hSn HTR HTB HBG2 c0 cl
        have hwi : IntKind.i64.wrap ((ii : Int) - 1) = (ii : Int) - 1 := by rw [IntKind.wrap_i64]; omega
        cases hd : deadI worst (limits.getD ii 0) with
        | none =>
          rw [hd] at hdi
          rw [hdi]
          dsimp only
          have HS2 := Lib.hid (show planStep s limits worst out ii st = some st by unfold planStep; rw [hd])
          clear hd hdi
          have c0 := HBC2.out.cell 0
          have cl := HBC2.out.lt
          simp only [List.getElem?_cons_zero] at c0
          go_wp2
          go_roundw
          case rel => exact ⟨rfl, k + 1, st, (wn).heap.size, (ii : Int) - 1, by have := HII.out; omega, by have := HII.out; omega, by rw [HSTEP.out, HS2.out], rfl, rfl, rfl, by have := HGC.out; have := HBC.out.lt; have := cl; omega, by simpa using Bx.new (wn) [.int .i64 ((ii : Int) - 1)] 3, (HBG3.out).alloc _, (HTB2.out).trans (Step.alloc _ _)⟩
          case measure =>
            rw [cellI_bx HBC.out, cellI_bx (show Bx ((wn).alloc (.cells #[.int .i64 ((ii : Int) - 1)] 3)) (wn).heap.size [.int .i64 ((ii : Int) - 1)] 3 by simpa using Bx.new (wn) [.int .i64 ((ii : Int) - 1)] 3)]
            have := HII.out
            clear hwi
            (try clear hwo)
            omega
        | some d =>
          rw [hd] at hdi
          rw [hdi]
          dsimp only
          have hdl := dead_lt hd
          have HDB := Lib.hid (show d ≤ 47 by
            have h2 := HZ.out.2.2.1
            simp only [windsB, Bool.and_eq_true, decide_eq_true_eq] at h2
            omega)
          have HPS := Lib.hid (show planStep s limits worst out ii st = if leftAt s st ii d < 0 ∨ ((ii : Int) = s.openS ∧ leftAt s st ii d - out < 0) then none else some ⟨st.begin_.set ii (leftAt s st ii d), leftAt s st ii d, if (ii : Int) = s.openS then leftAt s st ii d - out else st.call⟩ by unfold planStep; rw [hd])
          obtain ⟨q', d', b', o', he', _, _, hp', hc', _⟩ := (SL.go HV2.out HTR2.out).stgs
          injection he' with he1 _ he3
          rw [hp' (by omega)] at he1
          injection he1 with he1
          injection he1 with he4 he5 _
          subst he3 he4 he5
          have hmo := minutes_ok HOK.out hin
          obtain ⟨_, m1⟩ := hc' ii hin
          rw [← hmo.1] at m1
          have hmb : 0 ≤ minutesAt s ii ∧ minutesAt s ii ≤ 240 := by rw [hmo.1]; exact hmo.2
          obtain ⟨mn, hmn⟩ : ∃ x, x = minutesAt s ii := ⟨_, rfl⟩
          rw [← hmn] at m1 hmb
          have hnx := HNX.out.1
          have HLF := Lib.hid (show leftAt s st ii d = min (60 * (d : Int)) st.next - mn by unfold leftAt; rw [hmn])
          have hd0 : decide ((d : Int) < 0) = false := decide_eq_false (by omega)
          have hdd := HDB.out
          have hw60 : IntKind.i64.wrap (60 * (d : Int)) = 60 * (d : Int) := by rw [IntKind.wrap_i64]; omega
          have hwmn : IntKind.i64.wrap (min (60 * (d : Int)) st.next - mn) = min (60 * (d : Int)) st.next - mn := by rw [IntKind.wrap_i64]; omega
          have HM1 := Lib.hid m1
          have HRNG := Lib.hid (show -300 ≤ min (60 * (d : Int)) st.next - mn ∧ min (60 * (d : Int)) st.next - mn ≤ 3000 by omega)
          have HHW := Lib.hid (And.intro hw60 hwmn)
          clear hdi hd hdl hp' hc' hmo hmn hmb hnx hdd hw60 hwmn m1
          go_upto_region 17 with (fail)
          have HTX := Lib.hid (Step.refl wn)
          have hw60 := HHW.out.1
          have hwmn := HHW.out.2
          have hsx : (0 : Int) ≤ (ii : Int) ∧ (ii : Int) < (s.stages.length : Int) := by omega
          refine Mk.wp_region_seq (Mk.kdOf [4] [] [(3, 3, 2, #[.int .i64 (60 * (d : Int)), .int .i64 st.next])]) [0, 1, 0, 7, 15, 0, 32, 0, 224, 480, 992, 2047, 4095] [0, 1, 2, 5, 6, 7, 8, 9, 10, 3, 4, 11, 12] [] (by kernel_rfl) (by kernel_rfl) (fun i T z hi hk => by simp only [List.mem_cons, List.not_mem_nil, or_false] at hi; rcases hi with rfl | rfl | rfl | rfl | rfl | rfl | rfl | rfl | rfl | rfl | rfl | rfl | rfl <;> simp [Mk.kdOf] at hk) ?_
          intro Wx hWx
          have HTy := Lib.hid (HTX.out.trans hWx)
          clear hWx HTX
          have c0 := (HBC2.out.step HTy.out).cell 0
          have cl := (HBC2.out.step HTy.out).lt
          have g2 := (HB.out.step (HTR2.out.trans HTy.out)).cell 2
          have m1 := HTy.out.keeps.cell id HM1.out
          simp only [List.getElem?_cons_zero, List.getElem?_cons_succ] at c0 g2
          repeat (first | (refine Mk.run_off rfl rfl (by rfl) ?_; (try simp only [Act.put, List.setIfInBounds_toArray, List.set_cons_zero, List.set_cons_succ])) | (refine Mk.run_chain_off rfl rfl (by rfl) (Mk.K0_mono _) ?_; (try simp only [Act.put, List.setIfInBounds_toArray, List.set_cons_zero, List.set_cons_succ])) | ((refine Mk.run_want rfl rfl (by rfl) ⟨?_, fun W hW => ?_, ?_⟩; rotate_left; (· (have d0 := hW.keeps.cell id c0; have d1 := hW.keeps.cell id g2; have d2 := hW.keeps.cell id m1; go_simp; (try with_reducible rfl)))); (try simp only [Act.put, List.setIfInBounds_toArray, List.set_cons_zero, List.set_cons_succ])))
          clear c0 cl g2 m1
          refine Mk.run_make rfl (by rfl) rfl (fun w => ?_) (fun W2 g hW2 hg hgb hgN => ?_)
          · go_simp
          have HL3 := Lib.hid (SLT.bx_ints (S := fun _ => False) (l := [60 * (d : Int), st.next]) (show Bx W2 g (([60 * (d : Int), st.next] : List Int).map (Value.int .i64)) 3 from hg) id ([60 * (d : Int), st.next] : List Int).length (Nat.le_refl _) (by simp)).1
          have HTz := Lib.hid (HTy.out.trans hW2)
          clear HTy hg hgb hgN hW2
          (try simp only [Act.put, List.setIfInBounds_toArray, List.set_cons_zero, List.set_cons_succ])
          have c0 := (HBC2.out.step HTz.out).cell 0
          have cl := (HBC2.out.step HTz.out).lt
          have g2 := (HB.out.step (HTR2.out.trans HTz.out)).cell 2
          have m1 := HTz.out.keeps.cell id HM1.out
          simp only [List.getElem?_cons_zero, List.getElem?_cons_succ] at c0 g2
          repeat (first | (refine Mk.run_off rfl rfl (by rfl) ?_; (try simp only [Act.put, List.setIfInBounds_toArray, List.set_cons_zero, List.set_cons_succ])) | (refine Mk.run_chain_off rfl rfl (by rfl) (Mk.K0_mono _) ?_; (try simp only [Act.put, List.setIfInBounds_toArray, List.set_cons_zero, List.set_cons_succ])) | ((refine Mk.run_want rfl rfl (by rfl) ⟨?_, fun W hW => ?_, ?_⟩; rotate_left; (· (have d0 := hW.keeps.cell id c0; have d1 := hW.keeps.cell id g2; have d2 := hW.keeps.cell id m1; go_simp; (try with_reducible rfl)))); (try simp only [Act.put, List.setIfInBounds_toArray, List.set_cons_zero, List.set_cons_succ])))
          clear c0 cl g2 m1
          refine Mk.run_chain rfl rfl (by rfl) (fun Wi hWi K' hK => ?_)
          have HTi := Lib.hid (HTz.out.trans hWi)
          have hl3 := SL.go HL3.out hWi
          clear hWi HTz HL3
          go_simp
          refine (least_any (60 * (d : Int)) st.next _ _ hl3).mono ?_
          rintro e w9 ⟨rfl, hS9⟩
          have HT9 := Lib.hid (HTi.out.trans hS9)
          clear HTi hl3
          refine hK _ _ (StepX.of hS9) ?_
          clear hS9
          (try simp only [Act.put, List.setIfInBounds_toArray, List.set_cons_zero, List.set_cons_succ])
          have c0 := (HBC2.out.step HT9.out).cell 0
          have cl := (HBC2.out.step HT9.out).lt
          have g2 := (HB.out.step (HTR2.out.trans HT9.out)).cell 2
          have m1 := HT9.out.keeps.cell id HM1.out
          simp only [List.getElem?_cons_zero, List.getElem?_cons_succ] at c0 g2
          repeat (first | (refine Mk.run_off rfl rfl (by rfl) ?_; (try simp only [Act.put, List.setIfInBounds_toArray, List.set_cons_zero, List.set_cons_succ])) | (refine Mk.run_chain_off rfl rfl (by rfl) (Mk.K0_mono _) ?_; (try simp only [Act.put, List.setIfInBounds_toArray, List.set_cons_zero, List.set_cons_succ])) | ((refine Mk.run_want rfl rfl (by rfl) ⟨?_, fun W hW => ?_, ?_⟩; rotate_left; (· (have d0 := hW.keeps.cell id c0; have d1 := hW.keeps.cell id g2; have d2 := hW.keeps.cell id m1; go_simp; (try with_reducible rfl)))); (try simp only [Act.put, List.setIfInBounds_toArray, List.set_cons_zero, List.set_cons_succ])))
          clear c0 cl g2 m1
          refine Mk.run_end (L := []) rfl (fun W6 hW6 => ?_)
          have HT6 := Lib.hid (HT9.out.trans hW6)
          clear hW6 HT9 hK hw60 hwmn
          obtain ⟨nx, hnx⟩ : ∃ x, x = min (60 * (d : Int)) st.next - mn := ⟨_, rfl⟩
          rw [← hnx] at HLF HRNG ⊢
          have HNXX := Lib.hid hnx
          rw [HLF.out] at HPS
          clear hnx
          have hbl18 := HBG3.out.step HT6.out
          have z1 := ints_cell hbl18 (k := ii) (by have := HNX.out.2; omega)
          have z0 := hbl18.frozen ii
          have zl := hbl18.lt
          have c0 := (HBC2.out.step HT6.out).cell 0
          have cl := (HBC2.out.step HT6.out).lt
          simp only [List.getElem?_cons_zero] at c0
          go_upto_region 19 with (fail)
          obtain ⟨W7, hW7⟩ : ∃ W, W = W6.setCell ⟨wb.heap.size, ii, none⟩ (.int .i64 nx) := ⟨_, rfl⟩
          rw [← hW7]
          have hwr7 : Wrote wb.heap.size W6 W7 := by rw [hW7]; exact .setCell _ _ _ _
          have HB7 := Lib.hid (show Bx W7 wb.heap.size ((st.begin_.set ii nx).map (Value.int .i64)) 3 by rw [hW7, ← ints_set]; exact hbl18.setCell _ _)
          have HTB7 := Lib.hid (show Step wb W7 from Step.wrote (HTB2.out.trans HT6.out) hwr7 (Nat.le_refl _))
          have hgc := HGC.out
          have HBC7 := Lib.hid ((HBC2.out.step HT6.out).keep hwr7.keeps (show ¬ c = wb.heap.size by omega))
          have HT7 := Lib.hid (show Step W0 W7 from HT.out.trans HTB7.out)
          clear z1 z0 zl c0 cl hW7 hwr7 hbl18 hgc
          have c0 := HBC7.out.cell 0
          have cl := HBC7.out.lt
          have g3 := (HB.out.step HT7.out).cell 3
          simp only [List.getElem?_cons_zero, List.getElem?_cons_succ] at c0 g3
          have HO4 := Lib.hid HZ.out.2.2.2.2
          have hwo : IntKind.i64.wrap (nx - out) = nx - out := by have := HO4.out; have := HRNG.out; rw [IntKind.wrap_i64]; omega
          obtain ⟨op, hop⟩ : ∃ x, x = s.openS := ⟨_, rfl⟩
          rw [← hop] at g3 HPS
          clear hop
          by_cases ho : (ii : Int) = op
          · have dq : ((ii : Int) == op) = true := by simpa using ho
            by_cases hn : nx < 0
            · have dn : decide (nx < 0) = true := decide_eq_true hn
              have HS2 := Lib.hid (show planStep s limits worst out ii st = none by rw [HPS.out, if_pos (.inl hn)])
              clear hn ho
              have HNO := Lib.hid (show planR s limits worst now out = none by
                unfold planR
                rw [Int.toNat_natCast]
                exact plan_none (by rw [HSTEP.out]; exact HS2.out) _ (by have := HII.out; omega))
              go_wp2
              go_ret3
              exact ⟨.inl ⟨HNO.out, rfl⟩, HS.out.trans HT7.out⟩
            · have dn : decide (nx < 0) = false := decide_eq_false hn
              by_cases hc : nx - out < 0
              · have dc : decide (nx - out < 0) = true := decide_eq_true hc
                have HS2 := Lib.hid (show planStep s limits worst out ii st = none by rw [HPS.out, if_pos (.inr ⟨ho, hc⟩)])
                clear hn hc ho
                have HNO := Lib.hid (show planR s limits worst now out = none by
                  unfold planR
                  rw [Int.toNat_natCast]
                  exact plan_none (by rw [HSTEP.out]; exact HS2.out) _ (by have := HII.out; omega))
                go_wp2
                go_ret3
                exact ⟨.inl ⟨HNO.out, rfl⟩, HS.out.trans HT7.out⟩
              · have dc : decide (nx - out < 0) = false := decide_eq_false hc
                have HS2 := Lib.hid (show planStep s limits worst out ii st = some ⟨st.begin_.set ii nx, nx, nx - out⟩ by
                  rw [HPS.out, if_neg (fun h => h.elim hn (fun h => hc h.2)), if_pos ho])
                clear hn hc ho
                go_wp2
                go_roundw
                case rel => exact ⟨rfl, k + 1, ⟨st.begin_.set ii nx, nx, nx - out⟩, (W7).heap.size, (ii : Int) - 1, by have := HII.out; omega, by have := HII.out; omega, by rw [HSTEP.out, HS2.out], rfl, rfl, rfl, by have := HGC.out; have := HBC.out.lt; have := cl; omega, by simpa using Bx.new (W7) [.int .i64 ((ii : Int) - 1)] 3, (HB7.out).alloc _, (HTB7.out).trans (Step.alloc _ _)⟩
                case measure =>
                  rw [cellI_bx HBC.out, cellI_bx (show Bx ((W7).alloc (.cells #[.int .i64 ((ii : Int) - 1)] 3)) (W7).heap.size [.int .i64 ((ii : Int) - 1)] 3 by simpa using Bx.new (W7) [.int .i64 ((ii : Int) - 1)] 3)]
                  have := HII.out
                  clear hwi
                  (try clear hwo)
                  omega
          · have dq : ((ii : Int) == op) = false := by simpa using ho
            by_cases hn : nx < 0
            · have dn : decide (nx < 0) = true := decide_eq_true hn
              have HS2 := Lib.hid (show planStep s limits worst out ii st = none by rw [HPS.out, if_pos (.inl hn)])
              clear hn ho
              have HNO := Lib.hid (show planR s limits worst now out = none by
                unfold planR
                rw [Int.toNat_natCast]
                exact plan_none (by rw [HSTEP.out]; exact HS2.out) _ (by have := HII.out; omega))
              go_wp2
              go_ret3
              exact ⟨.inl ⟨HNO.out, rfl⟩, HS.out.trans HT7.out⟩
            · have dn : decide (nx < 0) = false := decide_eq_false hn
              have HS2 := Lib.hid (show planStep s limits worst out ii st = some ⟨st.begin_.set ii nx, nx, st.call⟩ by
                rw [HPS.out, if_neg (fun h => h.elim hn (fun h => ho h.1)), if_neg ho])
              clear hn ho
              go_wp2
              go_roundw
              case rel => exact ⟨rfl, k + 1, ⟨st.begin_.set ii nx, nx, st.call⟩, (W7).heap.size, (ii : Int) - 1, by have := HII.out; omega, by have := HII.out; omega, by rw [HSTEP.out, HS2.out], rfl, rfl, rfl, by have := HGC.out; have := HBC.out.lt; have := cl; omega, by simpa using Bx.new (W7) [.int .i64 ((ii : Int) - 1)] 3, (HB7.out).alloc _, (HTB7.out).trans (Step.alloc _ _)⟩
              case measure =>
                rw [cellI_bx HBC.out, cellI_bx (show Bx ((W7).alloc (.cells #[.int .i64 ((ii : Int) - 1)] 3)) (W7).heap.size [.int .i64 ((ii : Int) - 1)] 3 by simpa using Bx.new (W7) [.int .i64 ((ii : Int) - 1)] 3)]
                have := HII.out
                clear hwi
                (try clear hwo)
                omega
      · have hke : k = s.stages.length - now := by omega
        have HPR := Lib.hid (show planR s limits worst now out = some st by unfold planR; rw [Int.toNat_natCast, ← hke]; exact HPL.out)
        have d1 : decide ((now : Int) ≤ iv) = false := decide_eq_false (by omega)
        have HSL := Lib.hid (SL.bx_ints HBG2.out (S := fun _ => False) id s.stages.length (by rw [HNX.out.2]; exact Nat.le_refl _) (by have := HNX.out.2; omega))
        clear hk hiv hlk hke
        go_wp2
        go_ret3
        refine ⟨.inr ⟨st, _, HPR.out, rfl, ?_⟩, HS.out.trans HTR.out⟩
        have hfin := HSL.out
        rw [HNX.out.2] at hfin
        exact hfin
end Go.Proofs.YtoanjaidfdkdpaaGreat
/- Walks: the errors of forecasts, by the document. -/
namespace Go.BT
theorem nodup_names {l : List Fc} : (namesOf l).Nodup ↔ ∀ i j (hi : i < l.length) (hj : j < i), l[j].name ≠ l[i].name := by
  unfold namesOf
  rw [List.Nodup, List.pairwise_iff_getElem]
  constructor
  · intro h i j hi hj
    have := h j i (by simp; omega) (by simpa using hi) hj
    simpa using this
  · intro h i j hi hj hij
    have := h j i (by simpa using hj) hij
    simpa using this
end Go.BT
namespace Go.Proofs.YtoanjaidfdkdpaaGreat
set_option linter.unusedSimpArgs false
set_option linter.unusedVariables false
open Go.RowKit Go.BT




set_option maxRecDepth 100000 in
set_option maxHeartbeats 8000000 in
theorem ForecastsFault_any (S : Nat → Prop) (l : List Fc) (v : Value) (w : World) (hv : SL S w v l) : Calls Tryz.prog 7 #[v] w fun e w' => e = .returned (.int .i64 (forecastsC l)) ∧ Step w w' := by
  have hm := hv.len
  obtain ⟨pv, cv, bv, ov, rfl, _, _, hp, hc, _⟩ := (SL.go hv (Step.refl _)).fcs
  have HC := Lib.hid (And.intro hp hc)
  have HT := Lib.hid (Step.refl w)
  clear hv hp hc
  by_cases h1 : 1 ≤ l.length
  rotate_left
  · have d1 : decide ((l.length : Int) < 1) = true := decide_eq_true (by omega)
    have HR := Lib.hid (show forecastsC l = 3 by unfold forecastsC; rw [if_neg]; unfold fewFB; simp; omega)
    clear h1
    go_enter Tryz.func7, Tryz.ntmps7
    go_wp2
    go_ret
    exact ⟨by rw [HR.out]; rfl, HT.out⟩
  have d1 : decide ((l.length : Int) < 1) = false := decide_eq_false (by omega)
  by_cases h2 : l.length ≤ 10
  rotate_left
  · have d2 : decide (10 < (l.length : Int)) = true := decide_eq_true (by omega)
    have HR := Lib.hid (show forecastsC l = 3 by unfold forecastsC; rw [if_neg]; unfold fewFB; simp; omega)
    clear h1 h2
    go_enter Tryz.func7, Tryz.ntmps7
    go_wp2
    go_ret
    exact ⟨by rw [HR.out]; rfl, HT.out⟩
  have d2 : decide (10 < (l.length : Int)) = false := decide_eq_false (by omega)
  have HL := Lib.hid (And.intro h1 h2)
  have HF := Lib.hid (show fewFB l = l.all fun f => decide (f.hours.length ≤ 48) by unfold fewFB; simp [h1, h2])
  obtain rfl := HC.out.1 (by omega)
  clear h2
  go_enter Tryz.func7, Tryz.ntmps7
  go_upto_region 4 with (fail)
  clear d1 d2
  go_loopw [3] (fun i wr => ∃ k : Nat, k ≤ l.length ∧ i = .int .i64 k ∧ (∀ j (hj : j < k) (hl : j < l.length), l[j].hours.length ≤ 48) ∧ Step w wr) (fun i _ => l.length - (intOf i).toNat)
  case atStart => exact ⟨0, Nat.zero_le _, rfl, fun j hj => absurd hj (by omega), Step.refl _⟩
  case round =>
    obtain ⟨k, hk, rfl, hall, hT⟩ := hrel
    have HA := Lib.hid hall
    have HT := Lib.hid hT
    clear hall hT
    by_cases hlt : k < l.length
    · skip
      have fc := HC.out.2 k (by omega)
      obtain ⟨c1, e1, e2, e3, e4⟩ := fc
      obtain ⟨p2, k2, rfl⟩ := e3.form
      have e1 := HT.out.keeps.cell id e1
      have e2 := HT.out.keeps.cell id e2
      have hix : (0 : Int) ≤ (k : Int) ∧ (k : Int) < (l.length : Int) := by omega
      by_cases q : l[k].hours.length ≤ 48
      · have d : decide (48 < (l[k].hours.length : Int)) = false := decide_eq_false (by omega)
        have HQ := Lib.hid q
        clear q e3 e4
        go_wp2
        go_roundw
        case rel => exact ⟨k + 1, by omega, by go_num, fun j hj hl => if e : j = k then by subst e; exact HQ.out else HA.out j (by omega) hl, HT.out⟩
        case measure => simp [intOf]; omega
      · have d : decide (48 < (l[k].hours.length : Int)) = true := decide_eq_true (by omega)
        have HR := Lib.hid (show forecastsC l = 3 by
          unfold forecastsC
          rw [HF.out, if_neg]
          rw [List.all_eq_true]
          intro h
          have := h l[k] (List.getElem_mem hlt)
          simp at this; omega)
        clear q e3 e4
        go_wp2
        go_ret
        exact ⟨by rw [HR.out]; rfl, HT.out⟩
    have HFW := Lib.hid (show fewFB l = true by
      rw [HF.out, List.all_eq_true]
      intro f hf
      obtain ⟨j, hj, rfl⟩ := List.getElem_of_mem hf
      simpa using HA.out j (by omega) hj)
    have hke : k = l.length := by omega
    subst hke
    clear HA HF
    have hhn : hoursN l = l[0].hours.length := by
      cases l with
      | nil => simp at h1
      | cons a l => rfl
    have HHN := Lib.hid hhn
    clear hhn
    go_upto_region 9 with (fail)
    clear hk hlt
    go_loopw [4] (fun i wr => ∃ k : Nat, k ≤ l.length ∧ i = .int .i64 k ∧ (∀ j (hj : j < k) (hl : j < l.length), evenFB l l[j] = true) ∧ Step w wr) (fun i _ => l.length - (intOf i).toNat)
    case atStart => exact ⟨0, Nat.zero_le _, rfl, fun j hj => absurd hj (by omega), HT.out⟩
    case round =>
      obtain ⟨k, hk, rfl, hall, hT⟩ := hrel
      have HA := Lib.hid hall
      have HT := Lib.hid hT
      clear hall hT
      by_cases hlt : k < l.length
      · skip
        have fc := HC.out.2 k (by omega)
        obtain ⟨c1, e1, e2, e3, e4⟩ := fc
        obtain ⟨p2, k2, rfl⟩ := e3.form
        have e1 := HT.out.keeps.cell id e1
        have e2 := HT.out.keeps.cell id e2
        have hix : (0 : Int) ≤ (k : Int) ∧ (k : Int) < (l.length : Int) := by omega
        obtain ⟨c0, f1, f2, f3, f4⟩ := HC.out.2 0 (by omega)
        obtain ⟨p0, k0, rfl⟩ := f3.form
        have f2 := HT.out.keeps.cell id f2
        rw [← HHN.out, Nat.zero_mul, Nat.add_zero] at f2
        have h0n : 0 < l.length := by omega
        have hix0 : (0 : Int) < (l.length : Int) := by omega
        have HSL := Lib.hid (SL.go e3 HT.out)
        have HEV := Lib.hid (show evenFB l l[k] = (decide (0 < l[k].hours.length) && decide (l[k].hours.length = hoursN l) && l[k].hours.all rangeB) from rfl)
        have HEB := Lib.hid (fun (h : evenFB l l[k] = false) => show forecastsC l = 1 by
          unfold forecastsC
          rw [if_pos HFW.out, if_neg]
          intro hh
          rw [List.all_eq_true] at hh
          rw [hh _ (List.getElem_mem hlt)] at h
          exact absurd h (by decide))
        obtain ⟨f, hf⟩ : ∃ f, f = l[k] := ⟨_, rfl⟩
        rw [← hf] at e1 e2 HSL HEV HEB
        have HFK := Lib.hid hf
        obtain ⟨n, hn⟩ : ∃ n, n = hoursN l := ⟨_, rfl⟩
        rw [← hn] at f2 HEV
        clear e1 e3 e4 f1 f3 f4 hf hn
        by_cases q1 : 0 < f.hours.length
        rotate_left
        · have d : decide ((f.hours.length : Int) < 1) = true := decide_eq_true (by omega)
          have HR := Lib.hid (HEB.out (by rw [HEV.out]; simp [q1]))
          clear q1
          go_upto_region 11 with (fail)
          go_quiet (fail)
          go_wp2
          go_ret
          exact ⟨by rw [HR.out]; rfl, HT.out.trans (Step.drewN _ _)⟩
        have d : decide ((f.hours.length : Int) < 1) = false := decide_eq_false (by omega)
        by_cases q2 : f.hours.length = n
        rotate_left
        · have dq : ((f.hours.length : Int) != (n : Int)) = true := by simp; omega
          have HR := Lib.hid (HEB.out (by rw [HEV.out]; simp [q2]))
          clear q1 q2
          go_upto_region 11 with (fail)
          go_quiet (fail)
          go_wp2
          go_ret
          exact ⟨by rw [HR.out]; rfl, HT.out.trans (Step.drewN _ _)⟩
        have dq : ((f.hours.length : Int) != (n : Int)) = false := by simp; omega
        have HEV2 := Lib.hid (show evenFB l f = f.hours.all rangeB by rw [HEV.out]; simp [q1, q2]; omega)
        clear q1 q2 HEV
        go_upto_region 11 with (fail)
        go_quiet (fail)
        go_upto_region 14 with (fail)
        clear f2 h0n hix0 d dq
        obtain ⟨wo, hwo⟩ : ∃ W, W = wr.drewN nq := ⟨_, rfl⟩
        have HTO := Lib.hid (show Step w wo by rw [hwo]; exact HT.out.trans (Step.drewN _ _))
        have HE2 := Lib.hid (show wo.cell? ⟨bv, ov + k * 2 + 1, none⟩ = some (.slice p2 f.hours.length k2) by rw [hwo]; exact (Step.drewN wr nq).keeps.cell id e2)
        have HSO := Lib.hid (show SL (fun _ => False) wo (.slice p2 f.hours.length k2) f.hours by rw [hwo]; exact SL.go HSL.out (Step.drewN _ _))
        rw [← hwo]
        have hmf := HSO.out.len
        clear hwo e2 HSL HT
        go_loopw [5] (fun i wr => ∃ m : Nat, m ≤ f.hours.length ∧ i = .int .i64 m ∧ (∀ j (hj : j < m) (hl : j < f.hours.length), rangeB f.hours[j] = true) ∧ Step wo wr) (fun i _ => f.hours.length - (intOf i).toNat)
        case atStart => exact ⟨0, Nat.zero_le _, rfl, fun j hj => absurd hj (by omega), Step.refl _⟩
        case round =>
          obtain ⟨m, hmk, rfl, hall, hT⟩ := hrel
          have HB := Lib.hid hall
          have HTI := Lib.hid hT
          have HT := Lib.hid (HTO.out.trans hT)
          clear hall hT
          have e2 := HTI.out.keeps.cell id HE2.out
          by_cases hlm : m < f.hours.length
          · obtain ⟨q1, d1, bb, oo, he, _, _, hpp, hcc, _⟩ := (SL.go HSO.out HTI.out).rngs
            injection he with he1 _ he3
            subst he1 he3
            obtain rfl := hpp (by omega)
            obtain ⟨r1, r2⟩ := hcc m hlm
            have hixm : (0 : Int) ≤ (m : Int) ∧ (m : Int) < (f.hours.length : Int) := by omega
            have HNO := Lib.hid (fun (h : rangeB f.hours[m] = false) => show evenFB l f = false by
              rw [HEV2.out, List.all_eq_false]
              exact ⟨_, List.getElem_mem hlm, by rw [h]; decide⟩)
            obtain ⟨r, hr⟩ : ∃ r, r = f.hours[m] := ⟨_, rfl⟩
            rw [← hr] at r1 r2 HNO
            have HRR := Lib.hid hr
            clear hr hpp hcc
            go_wp2_with fail
            refine (Strong_any r _).mono ?_
            rintro e wz ⟨rfl, hSz⟩
            have HTZ := Lib.hid (HTI.out.trans hSz)
            have HTZ2 := Lib.hid (HT.out.trans hSz)
            clear hSz r1 r2 e2
            cases q : rangeB r with
            | true =>
              have HQ := Lib.hid q
              clear q
              go_wp2
              go_roundw
              case rel => exact ⟨m + 1, by omega, by go_num, fun j hj hl => if e : j = m then by subst e; rw [← HRR.out]; exact HQ.out else HB.out j (by omega) hl, HTZ.out⟩
              case measure => simp [intOf]; omega
            | false =>
              have HR := Lib.hid (HEB.out (HNO.out q))
              clear q
              go_wp2
              go_ret
              exact ⟨by rw [HR.out]; rfl, HTZ2.out⟩
          have HEV3 := Lib.hid (show evenFB l f = true by
            rw [HEV2.out, List.all_eq_true]
            intro r hr
            obtain ⟨j, hj, rfl⟩ := List.getElem_of_mem hr
            exact HB.out j (by omega) hj)
          go_wp2
          go_roundw
          case rel => exact ⟨k + 1, by omega, by go_num, fun j hj hl => if e : j = k then by subst e; rw [← HFK.out]; exact HEV3.out else HA.out j (by omega) hl, HT.out⟩
          case measure => simp [intOf]; omega
      have HEW := Lib.hid (show l.all (evenFB l) = true by
        rw [List.all_eq_true]
        intro f hf
        obtain ⟨j, hj, rfl⟩ := List.getElem_of_mem hf
        exact HA.out j (by omega) hj)
      have hke : k = l.length := by omega
      subst hke
      clear HA
      go_upto_region 19 with (fail)
      clear hk hlt
      go_loopw [6] (fun i wr => ∃ k : Nat, k ≤ l.length ∧ i = .int .i64 k ∧ (∀ j (hj : j < k) (hl : j < l.length), nameB l[j].name = true) ∧ Step w wr) (fun i _ => l.length - (intOf i).toNat)
      case atStart => exact ⟨0, Nat.zero_le _, rfl, fun j hj => absurd hj (by omega), HT.out⟩
      case round =>
        obtain ⟨k, hk, rfl, hall, hT⟩ := hrel
        have HA := Lib.hid hall
        have HT := Lib.hid hT
        clear hall hT
        by_cases hlt : k < l.length
        · skip
          have fc := HC.out.2 k (by omega)
          obtain ⟨c1, e1, e2, e3, e4⟩ := fc
          obtain ⟨p2, k2, rfl⟩ := e3.form
          have e1 := HT.out.keeps.cell id e1
          have e2 := HT.out.keeps.cell id e2
          have hix : (0 : Int) ≤ (k : Int) ∧ (k : Int) < (l.length : Int) := by omega
          have HNB := Lib.hid (fun (h : nameB l[k].name = false) => show forecastsC l = 5 by
            unfold forecastsC
            rw [if_pos HFW.out, if_pos HEW.out, if_neg]
            intro hh
            rw [List.all_eq_true] at hh
            rw [hh _ (List.getElem_mem hlt)] at h
            exact absurd h (by decide))
          obtain ⟨f, hf⟩ : ∃ f, f = l[k] := ⟨_, rfl⟩
          rw [← hf] at e1 e4 HNB
          have HFK := Lib.hid hf
          have HE4 := Lib.hid e4
          clear hf e2 e3 e4
          go_wp2_with fail
          refine (Name_any f.name _ HE4.out).mono ?_
          rintro e wz ⟨rfl, hSz⟩
          have HTZ := Lib.hid (HT.out.trans hSz)
          clear hSz e1
          cases q : nameB f.name with
          | true =>
            have HQ := Lib.hid q
            clear q
            go_wp2
            go_roundw
            case rel => exact ⟨k + 1, by omega, by go_num, fun j hj hl => if e : j = k then by subst e; rw [← HFK.out]; exact HQ.out else HA.out j (by omega) hl, HTZ.out⟩
            case measure => simp [intOf]; omega
          | false =>
            have HR := Lib.hid (HNB.out q)
            clear q
            go_wp2
            go_ret
            exact ⟨by rw [HR.out]; rfl, HTZ.out⟩
        have HNW := Lib.hid (show l.all (fun f => nameB f.name) = true by
          rw [List.all_eq_true]
          intro f hf
          obtain ⟨j, hj, rfl⟩ := List.getElem_of_mem hf
          exact HA.out j (by omega) hj)
        have HFC := Lib.hid (show forecastsC l = if (namesOf l).Nodup then 0 else 6 by
          unfold forecastsC
          rw [if_pos HFW.out, if_pos HEW.out, if_pos HNW.out])
        have hke : k = l.length := by omega
        subst hke
        clear HA
        go_upto_region 24 with (fail)
        clear hk hlt
        go_loopw [7] (fun i wr => ∃ k : Nat, k ≤ l.length ∧ i = .int .i64 k ∧ (∀ i j (hi : i < k) (hl : i < l.length) (hj : j < i), l[j].name ≠ l[i].name) ∧ Step w wr) (fun i _ => l.length - (intOf i).toNat)
        case atStart => exact ⟨0, Nat.zero_le _, rfl, fun i j hi => absurd hi (by omega), HT.out⟩
        case round =>
          obtain ⟨k, hk, rfl, hall, hT⟩ := hrel
          have HA := Lib.hid hall
          have HT := Lib.hid hT
          clear hall hT
          by_cases hlt : k < l.length
          · go_upto_region 27 with (fail)
            obtain ⟨wo, hwo⟩ : ∃ W, W = wr := ⟨_, rfl⟩
            subst hwo
            go_loopw [8] (fun i wr => ∃ m : Nat, m ≤ k ∧ i = .int .i64 m ∧ (∀ j (hj : j < m) (hl : j < l.length), l[j].name ≠ l[k].name) ∧ Step w wr) (fun i _ => k - (intOf i).toNat)
            case atStart => exact ⟨0, Nat.zero_le _, rfl, fun j hj => absurd hj (by omega), HT.out⟩
            case round =>
              obtain ⟨m, hmk, rfl, hall, hT⟩ := hrel
              have HB := Lib.hid hall
              have HT := Lib.hid hT
              clear hall hT
              by_cases hlm : m < k
              · have hdm : decide ((m : Int) < (k : Int)) = true := decide_eq_true (by omega)
                have hdmn : decide (m < k) = true := decide_eq_true hlm
                obtain ⟨c1, e1, _, _, _⟩ := HC.out.2 m (by omega)
                obtain ⟨c2, f1, _, _, _⟩ := HC.out.2 k (by omega)
                have e1 := HT.out.keeps.cell id e1
                have f1 := HT.out.keeps.cell id f1
                have hix : (0 : Int) ≤ (m : Int) ∧ (m : Int) < (l.length : Int) := by omega
                have hixk : (0 : Int) ≤ (k : Int) ∧ (k : Int) < (l.length : Int) := by omega
                have HSAME := Lib.hid (fun (h : l[m].name = l[k].name) => show forecastsC l = 6 by
                  rw [HFC.out, if_neg]
                  intro hn
                  exact nodup_names.1 hn k m hlt hlm h)
                by_cases q : l[m].name = l[k].name
                · have HR := Lib.hid (HSAME.out q)
                  have hq : (l[m].name.toList == l[k].name.toList) = true := (Lib.bytes_beq_iff _ _).2 q
                  obtain ⟨a, ha⟩ : ∃ a, a = l[m].name := ⟨_, rfl⟩
                  obtain ⟨b, hb⟩ : ∃ b, b = l[k].name := ⟨_, rfl⟩
                  rw [← ha] at e1 hq
                  rw [← hb] at f1 hq
                  clear q ha hb HSAME
                  go_upto_region 29 with (fail)
                  go_quiet (fail)
                  go_wp2
                  go_ret
                  exact ⟨by rw [HR.out]; rfl, HT.out.trans (Step.drewN _ _)⟩
                · have HQ := Lib.hid q
                  have hq : (l[m].name.toList == l[k].name.toList) = false := (Lib.bytes_beq_false_iff _ _).2 q
                  obtain ⟨a, ha⟩ : ∃ a, a = l[m].name := ⟨_, rfl⟩
                  obtain ⟨b, hb⟩ : ∃ b, b = l[k].name := ⟨_, rfl⟩
                  rw [← ha] at e1 hq
                  rw [← hb] at f1 hq
                  clear q ha hb HSAME
                  go_upto_region 29 with (fail)
                  go_quiet (fail)
                  go_wp2
                  go_roundw
                  case rel => exact ⟨m + 1, by omega, by go_num, fun j hj hl => if e : j = m then by subst e; exact HQ.out else HB.out j (by omega) hl, HT.out.trans (Step.drewN _ _)⟩
                  case measure => simp [intOf]; omega
              have hdm : decide ((m : Int) < (k : Int)) = false := decide_eq_false (by omega)
              have hdmn : decide (m < k) = false := decide_eq_false hlm
              have hme : m = k := by omega
              subst hme
              go_wp2
              go_roundw
              case rel => exact ⟨m + 1, by omega, by go_num, fun i j hi hl hj => if e : i = m then by subst e; exact HB.out j hj (by omega) else HA.out i j (by omega) hl hj, HT.out⟩
              case measure => simp [intOf]; omega
          have HR := Lib.hid (show forecastsC l = 0 by
            rw [HFC.out, if_pos]
            exact nodup_names.2 fun i j hi hj => HA.out i j (by omega) hi hj)
          go_wp2
          go_ret
          exact ⟨by rw [HR.out]; rfl, HT.out⟩
end Go.Proofs.YtoanjaidfdkdpaaGreat
/- Walks: the errors of readings, and the wind of a level, by the document. -/
namespace Go.Proofs.YtoanjaidfdkdpaaGreat
set_option linter.unusedSimpArgs false
set_option linter.unusedVariables false
open Go.RowKit Go.BT


set_option maxRecDepth 100000 in
set_option maxHeartbeats 8000000 in
theorem ReadingsFault_any (S : Nat → Prop) (l : List Fc) (rs : List Rdg) (v u : Value) (w : World) (hv : SL S w v l) (hu : SL S w u rs) (h0 : 0 < l.length) (hn : hoursN l ≤ 48) : Calls Tryz.prog 8 #[v, u] w fun e w' => e = .returned (.int .i64 (readingsC l rs)) ∧ Step w w' := by
  have hm := hu.len
  obtain ⟨pv, cv, bv, ov, rfl, _, _, hp, hc, _⟩ := (SL.go hv (Step.refl _)).fcs
  obtain rfl := hp h0
  obtain ⟨c0, _, x2, x3, _⟩ := hc 0 h0
  obtain ⟨p0, k0, rfl⟩ := x3.form
  have hhn : hoursN l = l[0].hours.length := by
    cases l with
    | nil => simp at h0
    | cons a l => rfl
  rw [← hhn, Nat.zero_mul, Nat.add_zero] at x2
  have HU := Lib.hid (SL.go hu (Step.refl _))
  obtain ⟨pu, cu, bu, ou, rfl, _, _, hpu, hcu, _⟩ := (SL.go hu (Step.refl _)).rdgs
  have HCU := Lib.hid (And.intro hpu hcu)
  have HX2 := Lib.hid x2
  have HT := Lib.hid (Step.refl w)
  obtain ⟨n, hnn⟩ : ∃ n, n = hoursN l := ⟨_, rfl⟩
  rw [← hnn] at HX2 hn
  have HNN := Lib.hid hnn
  have hwn : IntKind.i64.wrap ((n : Int) - 1) = (n : Int) - 1 := by rw [IntKind.wrap_i64]; omega
  have hix0 : (0 : Int) < (l.length : Int) := by omega
  clear hv hu hp hc x2 x3 hhn hpu hcu hnn hn
  by_cases a1 : rs.length ≤ 60
  rotate_left
  · have d1 : decide (60 < (rs.length : Int)) = true := decide_eq_true (by omega)
    have HR := Lib.hid (show readingsC l rs = 3 by unfold readingsC; rw [if_neg a1])
    clear a1
    go_enter Tryz.func8, Tryz.ntmps8
    go_wp2
    go_ret
    exact ⟨by rw [HR.out]; rfl, HT.out⟩
  have d1 : decide (60 < (rs.length : Int)) = false := decide_eq_false (by omega)
  have HA1 := Lib.hid a1
  clear a1
  go_enter Tryz.func8, Tryz.ntmps8
  go_upto_region 4 with (fail)
  clear d1
  go_loopw [5] (fun i wr => ∃ k : Nat, k ≤ rs.length ∧ i = .int .i64 k ∧ (∀ j (hj : j < k) (hl : j < rs.length), withinB rs[j].hour 0 ((hoursN l : Int) - 1) = true) ∧ Step w wr) (fun i _ => rs.length - (intOf i).toNat)
  case atStart => exact ⟨0, Nat.zero_le _, rfl, fun j hj => absurd hj (by omega), HT.out⟩
  case round =>
    obtain ⟨k, hk, rfl, hall, hT⟩ := hrel
    have HA := Lib.hid hall
    have HTR := Lib.hid hT
    clear hall hT HT
    by_cases hlt : k < rs.length
    · obtain rfl := HCU.out.1 (by omega)
      obtain ⟨e1, e2, e3⟩ := HCU.out.2 k hlt
      have hix : (0 : Int) ≤ (k : Int) ∧ (k : Int) < (rs.length : Int) := by omega
      have HNO := Lib.hid (fun (h : withinB rs[k].hour 0 ((hoursN l : Int) - 1) = false) => show readingsC l rs = 2 by
        unfold readingsC
        rw [if_pos HA1.out, if_neg]
        intro hh
        rw [List.all_eq_true] at hh
        rw [hh _ (List.getElem_mem hlt)] at h
        exact absurd h (by decide))
      obtain ⟨x, hx⟩ : ∃ x, x = rs[k] := ⟨_, rfl⟩
      rw [← hx] at e1 HNO
      rw [← HNN.out] at HNO
      have HXX := Lib.hid hx
      have HE1 := Lib.hid e1
      clear hx e1 e2 e3
      go_upto_region 6 with (fail)
      obtain ⟨wo, hwo⟩ : ∃ W, W = wr := ⟨_, rfl⟩
      subst hwo
      have HT := Lib.hid (Step.refl wo)
      refine wp_region_seq (kdOf [11] []) [0, 0, 3, 7, 15, 0, 32, 96, 224, 480, 992, 2047, 4095] [0, 1, 2, 3, 4, 5, 6, 7, 8, 9, 10, 11, 12] [] (by kernel_rfl) (by kernel_rfl) (fun i T z hi hk => by simp [kdOf] at hk <;> (try (split at hk <;> cases hk))) ?_
      intro Wx hWx
      have HTx := Lib.hid (HT.out.trans hWx)
      clear hWx HT
      have HT := HTx
      clear HTx
      have e1 := (HTR.out.trans HT.out).keeps.cell id HE1.out
      have x2 := (HTR.out.trans HT.out).keeps.cell id HX2.out
      repeat (first | (refine run_off rfl rfl (by rfl) ?_; (try simp only [Act.put, List.setIfInBounds_toArray, List.set_cons_zero, List.set_cons_succ])) | (refine run_chain_off rfl rfl (by rfl) (K0_mono _) ?_; (try simp only [Act.put, List.setIfInBounds_toArray, List.set_cons_zero, List.set_cons_succ])) | ((refine run_want rfl rfl (by rfl) ⟨?_, fun W hW => ?_, ?_⟩; rotate_left; (· (have d0 := hW.keeps.cell id e1; have d1 := hW.keeps.cell id x2; go_simp; (try with_reducible rfl)))); (try simp only [Act.put, List.setIfInBounds_toArray, List.set_cons_zero, List.set_cons_succ])))
      clear e1 x2
      cases q : withinB x.hour 0 ((n : Int) - 1) with
      | true =>
        have HQ := Lib.hid q
        refine run_chain rfl rfl (by rfl) (fun Wi hWi K' hK => ?_)
        have HTi := Lib.hid (HT.out.trans hWi)
        clear hWi HT
        go_simp
        refine (bigtopref01.In_any _ _ _ _).mono ?_
        rintro e wn ⟨rfl, rfl⟩
        rw [q]
        have HT := HTi
        clear HTi
        refine hK _ _ (StepX.refl _ _) ?_
        (try simp only [Act.put, List.setIfInBounds_toArray, List.set_cons_zero, List.set_cons_succ])
        clear q
        repeat (first | (refine run_off rfl rfl (by rfl) ?_; (try simp only [Act.put, List.setIfInBounds_toArray, List.set_cons_zero, List.set_cons_succ])) | (refine run_chain_off rfl rfl (by rfl) (K0_mono _) ?_; (try simp only [Act.put, List.setIfInBounds_toArray, List.set_cons_zero, List.set_cons_succ])) | ((refine run_want rfl rfl (by rfl) ⟨?_, fun W hW => ?_, ?_⟩; rotate_left; (· (skip; go_simp; (try with_reducible rfl)))); (try simp only [Act.put, List.setIfInBounds_toArray, List.set_cons_zero, List.set_cons_succ])))
        refine run_end (L := []) rfl (fun W6 hW6 => ?_)
        have HT6 := Lib.hid (HT.out.trans hW6)
        clear hW6 HT
        have HT := HT6
        clear HT6
        go_wp2
        go_roundw
        case rel => exact ⟨k + 1, by omega, by go_num, fun j hj hl => if e : j = k then by subst e; rw [← HXX.out, ← HNN.out]; exact HQ.out else HA.out j (by omega) hl, HTR.out.trans HT.out⟩
        case measure => simp [intOf]; omega
      | false =>
        have HR := Lib.hid (HNO.out q)
        refine run_chain rfl rfl (by rfl) (fun Wi hWi K' hK => ?_)
        have HTi := Lib.hid (HT.out.trans hWi)
        clear hWi HT
        go_simp
        refine (bigtopref01.In_any _ _ _ _).mono ?_
        rintro e wn ⟨rfl, rfl⟩
        rw [q]
        have HT := HTi
        clear HTi
        refine hK _ _ (StepX.refl _ _) ?_
        (try simp only [Act.put, List.setIfInBounds_toArray, List.set_cons_zero, List.set_cons_succ])
        clear q
        repeat (first | (refine run_off rfl rfl (by rfl) ?_; (try simp only [Act.put, List.setIfInBounds_toArray, List.set_cons_zero, List.set_cons_succ])) | (refine run_chain_off rfl rfl (by rfl) (K0_mono _) ?_; (try simp only [Act.put, List.setIfInBounds_toArray, List.set_cons_zero, List.set_cons_succ])) | ((refine run_want rfl rfl (by rfl) ⟨?_, fun W hW => ?_, ?_⟩; rotate_left; (· (skip; go_simp; (try with_reducible rfl)))); (try simp only [Act.put, List.setIfInBounds_toArray, List.set_cons_zero, List.set_cons_succ])))
        refine run_end (L := []) rfl (fun W6 hW6 => ?_)
        have HT6 := Lib.hid (HT.out.trans hW6)
        clear hW6 HT
        have HT := HT6
        clear HT6
        go_wp2
        go_ret
        exact ⟨by rw [HR.out]; rfl, HTR.out.trans HT.out⟩
    have HHW := Lib.hid (show rs.all (fun x => withinB x.hour 0 ((hoursN l : Int) - 1)) = true by
      rw [List.all_eq_true]
      intro f hf
      obtain ⟨j, hj, rfl⟩ := List.getElem_of_mem hf
      exact HA.out j (by omega) hj)
    have hke : k = rs.length := by omega
    subst hke
    clear HA
    go_upto_region 9 with (fail)
    clear hk hlt hwn hix0
    go_loopw [6] (fun i wr => ∃ k : Nat, k ≤ rs.length ∧ i = .int .i64 k ∧ (∀ j (hj : j < k) (hl : j < rs.length), rangeB ⟨rs[j].lo, rs[j].hi⟩ = true) ∧ Step w wr) (fun i _ => rs.length - (intOf i).toNat)
    case atStart => exact ⟨0, Nat.zero_le _, rfl, fun j hj => absurd hj (by omega), HTR.out⟩
    case round =>
      obtain ⟨k, hk, rfl, hall, hT⟩ := hrel
      have HA := Lib.hid hall
      have HT := Lib.hid hT
      clear hall hT
      by_cases hlt : k < rs.length
      · obtain rfl := HCU.out.1 (by omega)
        obtain ⟨e1, e2, e3⟩ := HCU.out.2 k hlt
        have e2 := HT.out.keeps.cell id e2
        have e3 := HT.out.keeps.cell id e3
        have hix : (0 : Int) ≤ (k : Int) ∧ (k : Int) < (rs.length : Int) := by omega
        have HNO := Lib.hid (fun (h : rangeB ⟨rs[k].lo, rs[k].hi⟩ = false) => show readingsC l rs = 1 by
          unfold readingsC
          rw [if_pos HA1.out, if_pos HHW.out, if_neg]
          intro hh
          rw [List.all_eq_true] at hh
          rw [hh _ (List.getElem_mem hlt)] at h
          exact absurd h (by decide))
        obtain ⟨x, hx⟩ : ∃ x, x = rs[k] := ⟨_, rfl⟩
        rw [← hx] at e2 e3 HNO
        have HXX := Lib.hid hx
        clear hx e1
        go_wp2_with fail
        refine (Strong_any ⟨x.lo, x.hi⟩ _).mono ?_
        rintro e wz ⟨rfl, hSz⟩
        have HTZ := Lib.hid (HT.out.trans hSz)
        clear hSz e2 e3
        cases q : rangeB ⟨x.lo, x.hi⟩ with
        | true =>
          have HQ := Lib.hid q
          clear q
          go_wp2
          go_roundw
          case rel => exact ⟨k + 1, by omega, by go_num, fun j hj hl => if e : j = k then by subst e; rw [← HXX.out]; exact HQ.out else HA.out j (by omega) hl, HTZ.out⟩
          case measure => simp [intOf]; omega
        | false =>
          have HR := Lib.hid (HNO.out q)
          clear q
          go_wp2
          go_ret
          exact ⟨by rw [HR.out]; rfl, HTZ.out⟩
      have HR := Lib.hid (show readingsC l rs = 0 by
        unfold readingsC
        rw [if_pos HA1.out, if_pos HHW.out, if_pos]
        rw [List.all_eq_true]
        intro f hf
        obtain ⟨j, hj, rfl⟩ := List.getElem_of_mem hf
        exact HA.out j (by omega) hj)
      go_wp2
      go_ret
      exact ⟨by rw [HR.out]; rfl, HT.out⟩
end Go.Proofs.YtoanjaidfdkdpaaGreat
/- Walks: whether a site is valid, by the document. -/
namespace Go.BT
/-- What the document asks of a stage. -/
def stRefB (l : List Stg) (i : Nat) : Bool := match l[i]? with
  | some x => withinB x.cover 0 100 && (decide (i + 1 = l.length) == decide (x.cover = 0)) && (match i with | 0 => true | j + 1 => match l[j]? with | some y => decide (x.cover < y.cover) | none => true) && (!decide (i + 1 = l.length) || decide (x.minutes = 0)) && (decide (i + 1 = l.length) || withinB x.minutes 1 240)
  | none => true
theorem site_ref (s : Site) : siteB s = (s.base.all baseB && (List.range s.levels.length).all (levelB s.levels) && (List.range s.stages.length).all (stRefB s.stages) && withinB s.base.length 1 12 && withinB s.levels.length 1 10 && withinB s.stages.length 2 8 && withinB s.openS 0 ((s.stages.length : Int) - 2)) := by
  rw [Bool.eq_iff_iff]
  unfold siteB
  simp only [Bool.and_eq_true, decide_eq_true_eq]
  constructor
  · rintro ⟨⟨⟨⟨⟨⟨⟨h1, h2⟩, h3⟩, h4⟩, h5⟩, h6⟩, h7⟩, h8⟩
    refine ⟨⟨⟨⟨⟨⟨h2, h5⟩, ?_⟩, h1⟩, h3⟩, h4⟩, h8⟩
    have hn : 2 ≤ s.stages.length := by simp only [withinB, Bool.and_eq_true, decide_eq_true_eq] at h4; omega
    rw [List.all_eq_true] at h6 ⊢
    intro i hi
    rw [List.mem_range] at hi
    by_cases e : i + 1 = s.stages.length
    · rw [show s.stages.length - 1 = i by omega, List.getElem?_eq_getElem hi] at h7
      have h7 := Option.some.inj h7
      have hp := h6 (i - 1) (by rw [List.mem_range]; omega)
      unfold stRefB
      rw [List.getElem?_eq_getElem hi]
      simp only [e, h7, decide_true, Bool.not_true, Bool.false_or, Bool.true_or, Bool.and_true, beq_self_eq_true]
      cases i with
      | zero => omega
      | succ j =>
        simp only [Nat.add_sub_cancel] at hp
        unfold stageB at hp
        rw [List.getElem?_eq_getElem (show j < s.stages.length by omega)] at hp
        simp only [Bool.and_eq_true, withinB, decide_eq_true_eq] at hp
        simp only [List.getElem?_eq_getElem (show j < s.stages.length by omega)]
        simp [withinB]; omega
    · have hp := h6 i (by rw [List.mem_range]; omega)
      unfold stageB at hp
      unfold stRefB
      rw [List.getElem?_eq_getElem hi] at hp ⊢
      simp only [Bool.and_eq_true] at hp ⊢
      obtain ⟨⟨p1, p2⟩, p3⟩ := hp
      simp only [withinB, Bool.and_eq_true, decide_eq_true_eq] at p1
      refine ⟨⟨⟨⟨?_, ?_⟩, p3⟩, ?_⟩, ?_⟩
      · simp [withinB]; omega
      · rw [decide_eq_false e, decide_eq_false (by omega)]; rfl
      · rw [decide_eq_false e]; rfl
      · rw [decide_eq_false e, p2]; rfl
  · rintro ⟨⟨⟨⟨⟨⟨h2, h5⟩, h6⟩, h1⟩, h3⟩, h4⟩, h8⟩
    have hn : 2 ≤ s.stages.length := by simp only [withinB, Bool.and_eq_true, decide_eq_true_eq] at h4; omega
    rw [List.all_eq_true] at h6
    refine ⟨⟨⟨⟨⟨⟨⟨h1, h2⟩, h3⟩, h4⟩, h5⟩, ?_⟩, ?_⟩, h8⟩
    · rw [List.all_eq_true]
      intro i hi
      rw [List.mem_range] at hi
      have hi2 : i < s.stages.length := by omega
      have hp := h6 i (by rw [List.mem_range]; omega)
      unfold stRefB at hp
      unfold stageB
      rw [List.getElem?_eq_getElem hi2] at hp ⊢
      simp only [Bool.and_eq_true] at hp ⊢
      obtain ⟨⟨⟨⟨p1, p2⟩, p3⟩, p4⟩, p5⟩ := hp
      rw [decide_eq_false (show ¬ i + 1 = s.stages.length by omega)] at p2 p5
      simp only [Bool.false_or] at p5
      refine ⟨⟨?_, p5⟩, p3⟩
      simp only [withinB, Bool.and_eq_true, decide_eq_true_eq] at p1
      by_cases z : s.stages[i].cover = 0
      · rw [decide_eq_true z] at p2; exact absurd p2 (by decide)
      · simp [withinB]; omega
    · have hp := h6 (s.stages.length - 1) (by rw [List.mem_range]; omega)
      unfold stRefB at hp
      rw [List.getElem?_eq_getElem (show s.stages.length - 1 < s.stages.length by omega)] at hp ⊢
      simp only [Bool.and_eq_true] at hp
      obtain ⟨⟨⟨⟨p1, p2⟩, p3⟩, p4⟩, p5⟩ := hp
      rw [decide_eq_true (show s.stages.length - 1 + 1 = s.stages.length by omega)] at p2 p4
      have z1 : s.stages[s.stages.length - 1].cover = 0 := by simpa using p2
      have z2 : s.stages[s.stages.length - 1].minutes = 0 := by simpa using p4
      obtain ⟨x, hx⟩ : ∃ x, x = s.stages[s.stages.length - 1] := ⟨_, rfl⟩
      rw [← hx] at z1 z2 ⊢
      obtain ⟨a, b⟩ := x
      dsimp only at z1 z2
      rw [z1, z2]
end Go.BT
namespace Go.Proofs.YtoanjaidfdkdpaaGreat
set_option linter.unusedSimpArgs false
set_option linter.unusedVariables false
open Go.RowKit Go.BT





set_option maxRecDepth 100000 in
set_option maxHeartbeats 16000000 in
theorem RightS_any (s : Site) (u : Value) (w : World) (hu : AV (fun _ => False) w u s) : Calls Tryz.prog 6 #[u] w fun e w' => e = .returned (.bool (siteB s)) ∧ Step w w' := by
  obtain ⟨c0, c1, c2, rfl, h0, h1, h2⟩ := hu.site
  have hm0 := h0.len
  have hm1 := h1.len
  have hm2 := h2.len
  obtain ⟨p0, k0, rfl⟩ := h0.form
  obtain ⟨p1, k1, rfl⟩ := h1.form
  obtain ⟨p2, k2, rfl⟩ := h2.form
  obtain ⟨W0, hW0⟩ : ∃ W, W = w.alloc (.cells #[.slice p0 s.base.length k0, .slice p1 s.levels.length k1, .slice p2 s.stages.length k2, .int .i64 s.openS] 29) := ⟨_, rfl⟩
  have hbx : Bx W0 w.heap.size [.slice p0 s.base.length k0, .slice p1 s.levels.length k1, .slice p2 s.stages.length k2, .int .i64 s.openS] 29 := by subst hW0; exact Bx.new w [_, _, _, _] _
  have hS : Step w W0 := by subst hW0; exact Step.alloc _ _
  have HB := Lib.hid hbx
  have HS := Lib.hid hS
  have HW := Lib.hid hW0
  have HV0 := Lib.hid (SL.go h0 hS)
  have HV1 := Lib.hid (SL.go h1 hS)
  have HV2 := Lib.hid (SL.go h2 hS)
  have HSR := Lib.hid (site_ref s)
  have HT := Lib.hid (Step.refl W0)
  have b0 := hbx.cell 0
  simp only [List.getElem?_cons_zero, List.getElem?_cons_succ] at b0
  clear hbx hS hW0 h0 h1 h2 hu
  go_enter Tryz.func6, Tryz.ntmps6
  go_upto_region 2 with (fail)
  rw [← HW.out]
  clear b0
  go_loopw [3] (fun i wr => ∃ k : Nat, k ≤ s.base.length ∧ i = .int .i64 k ∧ (∀ j (hj : j < k) (hl : j < s.base.length), baseB s.base[j] = true) ∧ Step W0 wr) (fun i _ => s.base.length - (intOf i).toNat)
  case atStart => exact ⟨0, Nat.zero_le _, rfl, fun j hj => absurd hj (by omega), HT.out⟩
  case round =>
    obtain ⟨k, hk, rfl, hall, hT⟩ := hrel
    have HA := Lib.hid hall
    have HTR := Lib.hid hT
    clear hall hT HT
    have b0 := (HB.out.step HTR.out).cell 0
    simp only [List.getElem?_cons_zero] at b0
    by_cases hlt : k < s.base.length
    · obtain ⟨q1, d1, bb, oo, he, _, _, hp, hc, _⟩ := (SL.go HV0.out HTR.out).vecs
      injection he with he1 _ he3
      subst he1 he3
      obtain rfl := hp (by omega)
      obtain ⟨e1, e2⟩ := hc k hlt
      have hix : (0 : Int) ≤ (k : Int) ∧ (k : Int) < (s.base.length : Int) := by omega
      have HNO := Lib.hid (fun (h : baseB s.base[k] = false) => show siteB s = false by
        rw [HSR.out]
        have : s.base.all baseB = false := by rw [List.all_eq_false]; exact ⟨_, List.getElem_mem hlt, by rw [h]; decide⟩
        rw [this]; rfl)
      obtain ⟨x, hx⟩ : ∃ x, x = s.base[k] := ⟨_, rfl⟩
      rw [← hx] at e1 e2 HNO
      have HXX := Lib.hid hx
      obtain ⟨xa, xb⟩ := x
      dsimp only at e1 e2
      clear hp hc hx
      go_wp2_with fail
      refine (bigtopref01.In_any _ _ _ _).mono ?_
      rintro e wn ⟨rfl, rfl⟩
      cases q1 : withinB xa (-100) 100 with
      | false =>
        have HR := Lib.hid (HNO.out (by unfold baseB; rw [q1]; rfl))
        clear q1
        go_wp2
        go_ret
        exact ⟨by rw [HR.out]; rfl, HS.out.trans HTR.out⟩
      | true =>
      go_wp2_with fail
      refine (bigtopref01.In_any _ _ _ _).mono ?_
      rintro e wn ⟨rfl, rfl⟩
      cases q2 : withinB xb (-100) 100 with
      | false =>
        have HR := Lib.hid (HNO.out (by unfold baseB; rw [q1, q2]; rfl))
        clear q1 q2
        go_wp2
        go_ret
        exact ⟨by rw [HR.out]; rfl, HS.out.trans HTR.out⟩
      | true =>
        have HQ := Lib.hid (show baseB ⟨xa, xb⟩ = true by unfold baseB; rw [q1, q2]; rfl)
        clear q1 q2
        go_wp2
        go_roundw
        case rel => exact ⟨k + 1, by omega, by go_num, fun j hj hl => if e : j = k then by subst e; rw [← HXX.out]; exact HQ.out else HA.out j (by omega) hl, HTR.out⟩
        case measure => simp [intOf]; omega
    have HBW := Lib.hid (show s.base.all baseB = true by
      rw [List.all_eq_true]
      intro f hf
      obtain ⟨j, hj, rfl⟩ := List.getElem_of_mem hf
      exact HA.out j (by omega) hj)
    have b1 := (HB.out.step HTR.out).cell 1
    simp only [List.getElem?_cons_zero, List.getElem?_cons_succ] at b1
    go_upto_region 7 with (fail)
    clear hlt hk b0 b1 HA
    go_loopw [4] (fun i wr => ∃ k : Nat, k ≤ s.levels.length ∧ i = .int .i64 k ∧ (∀ j (hj : j < k) (hl : j < s.levels.length), levelB s.levels j = true) ∧ Step W0 wr) (fun i _ => s.levels.length - (intOf i).toNat)
    case atStart => exact ⟨0, Nat.zero_le _, rfl, fun j hj => absurd hj (by omega), HTR.out⟩
    case round =>
      obtain ⟨k, hk, rfl, hall, hT⟩ := hrel
      have HA := Lib.hid hall
      clear HTR
      have HTR := Lib.hid hT
      clear hall hT
      have b1 := (HB.out.step HTR.out).cell 1
      simp only [List.getElem?_cons_zero, List.getElem?_cons_succ] at b1
      by_cases hlt : k < s.levels.length
      · obtain ⟨q1, d1, bb, oo, he, _, _, hp, hc, hbl⟩ := (SL.go HV1.out HTR.out).lvls
        injection he with he1 _ he3
        subst he1 he3
        obtain rfl := hp (by omega)
        obtain ⟨e1, e2⟩ := hc k hlt
        have hix : (0 : Int) ≤ (k : Int) ∧ (k : Int) < (s.levels.length : Int) := by omega
        have HPRE := Lib.hid (fun (j : Nat) (hj : j + 1 = k) => hc j (by omega))
        have HNO := Lib.hid (fun (h : levelB s.levels k = false) => show siteB s = false by
          rw [HSR.out]
          have : (List.range s.levels.length).all (levelB s.levels) = false := by rw [List.all_eq_false]; exact ⟨k, List.mem_range.2 hlt, by rw [h]; decide⟩
          rw [this, Bool.and_false]; rfl)
        have HLB := Lib.hid (show levelB s.levels k = (withinB s.levels[k].upto 0 1000 && withinB s.levels[k].push 0 100 && (match k with | 0 => true | j + 1 => match s.levels[j]? with | some y => decide (y.upto < s.levels[k].upto) && decide (y.push ≤ s.levels[k].push) | none => true)) by unfold levelB; rw [List.getElem?_eq_getElem hlt]; cases k <;> rfl)
        obtain ⟨x, hx⟩ : ∃ x, x = s.levels[k] := ⟨_, rfl⟩
        rw [← hx] at e1 e2 HLB
        obtain ⟨xu, xp⟩ := x
        dsimp only at e1 e2 HLB
        obtain ⟨W3, hW3⟩ : ∃ W, W = wr.alloc (.cells #[.int .i64 xu, .int .i64 xp] 68) := ⟨_, rfl⟩
        have HB3 := Lib.hid (show Bx W3 wr.heap.size [.int .i64 xu, .int .i64 xp] 68 by subst hW3; exact Bx.new wr [_, _] _)
        have HS3 := Lib.hid (show Step wr W3 by subst hW3; exact Step.alloc _ _)
        have HW3 := Lib.hid hW3
        have HT := Lib.hid (Step.refl W3)
        have HBC := Lib.hid ((HB.out.step (HTR.out.trans HS3.out)).cell 1)
        simp only [List.getElem?_cons_zero, List.getElem?_cons_succ] at HBC
        clear hp hc hbl hx hW3
        go_upto_region 10 with (fail)
        rw [← HW3.out]
        clear e1 e2 b1
        cases w1 : withinB xu 0 1000 with
        | false =>
          have HR := Lib.hid (HNO.out (by rw [HLB.out, w1]; rfl))
          refine wp_region_seq (kdOf [2, 7] []) (0 :: 1 :: 3 :: 7 :: 15 :: 31 :: 63 :: 127 :: 255 :: 511 :: 1023 :: 2047 :: 4095 :: 8191 :: 16383 :: 32767 :: 16383 :: 81919 :: 16383 :: 278527 :: 999423 :: 2047999 :: 4145151 :: 8388607 :: 16777215 :: 33554431 :: 67108863 :: 33554431 :: 167772159 :: 33554431 :: 570425343 :: 2046820351 :: 4194303999 :: 8489271295 :: 17179869183 :: 34359738367 :: 68719476735 :: 137438953471 :: []) (0 :: 1 :: 2 :: 3 :: 4 :: 5 :: 6 :: 7 :: 8 :: 9 :: 10 :: 11 :: 12 :: 13 :: 14 :: 15 :: 16 :: 17 :: 18 :: 19 :: 20 :: 21 :: 22 :: 23 :: 24 :: 25 :: 26 :: 27 :: 28 :: 29 :: 30 :: 31 :: 32 :: 33 :: 34 :: 35 :: 36 :: 37 :: []) [] (by kernel_rfl) (by kernel_rfl) (fun i T z hi hk => by simp [kdOf] at hk <;> (try (split at hk <;> cases hk))) ?_
          intro Wx hWx
          have HTx := Lib.hid (HT.out.trans hWx)
          clear hWx HT
          have HT := HTx
          clear HTx
          have x0 := (HB3.out.step HT.out).cell 0
          have x1 := (HB3.out.step HT.out).cell 1
          have b1 := HT.out.keeps.cell id HBC.out
          simp only [List.getElem?_cons_zero, List.getElem?_cons_succ] at x0 x1
          repeat (first | (refine run_off rfl rfl (by rfl) ?_; (try simp only [Act.put, List.setIfInBounds_toArray, List.set_cons_zero, List.set_cons_succ])) | (refine run_chain_off rfl rfl (by rfl) (K0_mono _) ?_; (try simp only [Act.put, List.setIfInBounds_toArray, List.set_cons_zero, List.set_cons_succ])) | ((refine run_want rfl rfl (by rfl) ⟨?_, fun W hW => ?_, ?_⟩; rotate_left; (· (have d0 := hW.keeps.cell id x0; have d1 := hW.keeps.cell id x1; have d2 := hW.keeps.cell id b1; go_simp; (try with_reducible rfl)))); (try simp only [Act.put, List.setIfInBounds_toArray, List.set_cons_zero, List.set_cons_succ])))
          clear x0 x1 b1
          refine run_chain rfl rfl (by rfl) (fun Wi hWi K' hK => ?_)
          have HTi := Lib.hid (HT.out.trans hWi)
          clear hWi HT
          go_simp
          refine (bigtopref01.In_any _ _ _ _).mono ?_
          rintro e wn ⟨rfl, rfl⟩
          rw [w1]
          have HT := HTi
          clear HTi
          refine hK _ _ (StepX.refl _ _) ?_
          (try simp only [Act.put, List.setIfInBounds_toArray, List.set_cons_zero, List.set_cons_succ])
          clear w1
          have x0 := (HB3.out.step HT.out).cell 0
          have x1 := (HB3.out.step HT.out).cell 1
          have b1 := HT.out.keeps.cell id HBC.out
          simp only [List.getElem?_cons_zero, List.getElem?_cons_succ] at x0 x1
          repeat (first | (refine run_off rfl rfl (by rfl) ?_; (try simp only [Act.put, List.setIfInBounds_toArray, List.set_cons_zero, List.set_cons_succ])) | (refine run_chain_off rfl rfl (by rfl) (K0_mono _) ?_; (try simp only [Act.put, List.setIfInBounds_toArray, List.set_cons_zero, List.set_cons_succ])) | ((refine run_want rfl rfl (by rfl) ⟨?_, fun W hW => ?_, ?_⟩; rotate_left; (· (have d0 := hW.keeps.cell id x0; have d1 := hW.keeps.cell id x1; have d2 := hW.keeps.cell id b1; go_simp; (try with_reducible rfl)))); (try simp only [Act.put, List.setIfInBounds_toArray, List.set_cons_zero, List.set_cons_succ])))
          clear x0 x1 b1
          refine run_end (L := []) rfl (fun W6 hW6 => ?_)
          have HT6 := Lib.hid (HT.out.trans hW6)
          clear hW6 HT
          have HT := HT6
          clear HT6
          go_wp2
          go_ret
          exact ⟨by rw [HR.out]; rfl, HS.out.trans (HTR.out.trans (HS3.out.trans HT.out))⟩
        | true =>
        cases w2 : withinB xp 0 100 with
        | false =>
          have HR := Lib.hid (HNO.out (by rw [HLB.out, w1, w2]; rfl))
          refine wp_region_seq (kdOf [2, 7] []) (0 :: 1 :: 3 :: 7 :: 15 :: 31 :: 63 :: 127 :: 255 :: 511 :: 1023 :: 2047 :: 4095 :: 8191 :: 16383 :: 32767 :: 16383 :: 81919 :: 16383 :: 278527 :: 999423 :: 2047999 :: 4145151 :: 8388607 :: 16777215 :: 33554431 :: 67108863 :: 33554431 :: 167772159 :: 33554431 :: 570425343 :: 2046820351 :: 4194303999 :: 8489271295 :: 17179869183 :: 34359738367 :: 68719476735 :: 137438953471 :: []) (0 :: 1 :: 2 :: 3 :: 4 :: 5 :: 6 :: 7 :: 8 :: 9 :: 10 :: 11 :: 12 :: 13 :: 14 :: 15 :: 16 :: 17 :: 18 :: 19 :: 20 :: 21 :: 22 :: 23 :: 24 :: 25 :: 26 :: 27 :: 28 :: 29 :: 30 :: 31 :: 32 :: 33 :: 34 :: 35 :: 36 :: 37 :: []) [] (by kernel_rfl) (by kernel_rfl) (fun i T z hi hk => by simp [kdOf] at hk <;> (try (split at hk <;> cases hk))) ?_
          intro Wx hWx
          have HTx := Lib.hid (HT.out.trans hWx)
          clear hWx HT
          have HT := HTx
          clear HTx
          have x0 := (HB3.out.step HT.out).cell 0
          have x1 := (HB3.out.step HT.out).cell 1
          have b1 := HT.out.keeps.cell id HBC.out
          simp only [List.getElem?_cons_zero, List.getElem?_cons_succ] at x0 x1
          repeat (first | (refine run_off rfl rfl (by rfl) ?_; (try simp only [Act.put, List.setIfInBounds_toArray, List.set_cons_zero, List.set_cons_succ])) | (refine run_chain_off rfl rfl (by rfl) (K0_mono _) ?_; (try simp only [Act.put, List.setIfInBounds_toArray, List.set_cons_zero, List.set_cons_succ])) | ((refine run_want rfl rfl (by rfl) ⟨?_, fun W hW => ?_, ?_⟩; rotate_left; (· (have d0 := hW.keeps.cell id x0; have d1 := hW.keeps.cell id x1; have d2 := hW.keeps.cell id b1; go_simp; (try with_reducible rfl)))); (try simp only [Act.put, List.setIfInBounds_toArray, List.set_cons_zero, List.set_cons_succ])))
          clear x0 x1 b1
          refine run_chain rfl rfl (by rfl) (fun Wi hWi K' hK => ?_)
          have HTi := Lib.hid (HT.out.trans hWi)
          clear hWi HT
          go_simp
          refine (bigtopref01.In_any _ _ _ _).mono ?_
          rintro e wn ⟨rfl, rfl⟩
          rw [w1]
          have HT := HTi
          clear HTi
          refine hK _ _ (StepX.refl _ _) ?_
          (try simp only [Act.put, List.setIfInBounds_toArray, List.set_cons_zero, List.set_cons_succ])
          have x0 := (HB3.out.step HT.out).cell 0
          have x1 := (HB3.out.step HT.out).cell 1
          have b1 := HT.out.keeps.cell id HBC.out
          simp only [List.getElem?_cons_zero, List.getElem?_cons_succ] at x0 x1
          repeat (first | (refine run_off rfl rfl (by rfl) ?_; (try simp only [Act.put, List.setIfInBounds_toArray, List.set_cons_zero, List.set_cons_succ])) | (refine run_chain_off rfl rfl (by rfl) (K0_mono _) ?_; (try simp only [Act.put, List.setIfInBounds_toArray, List.set_cons_zero, List.set_cons_succ])) | ((refine run_want rfl rfl (by rfl) ⟨?_, fun W hW => ?_, ?_⟩; rotate_left; (· (have d0 := hW.keeps.cell id x0; have d1 := hW.keeps.cell id x1; have d2 := hW.keeps.cell id b1; go_simp; (try with_reducible rfl)))); (try simp only [Act.put, List.setIfInBounds_toArray, List.set_cons_zero, List.set_cons_succ])))
          clear x0 x1 b1
          refine run_chain rfl rfl (by rfl) (fun Wi hWi K' hK => ?_)
          have HTi := Lib.hid (HT.out.trans hWi)
          clear hWi HT
          go_simp
          refine (bigtopref01.In_any _ _ _ _).mono ?_
          rintro e wn ⟨rfl, rfl⟩
          rw [w2]
          have HT := HTi
          clear HTi
          refine hK _ _ (StepX.refl _ _) ?_
          (try simp only [Act.put, List.setIfInBounds_toArray, List.set_cons_zero, List.set_cons_succ])
          clear w1 w2
          have x0 := (HB3.out.step HT.out).cell 0
          have x1 := (HB3.out.step HT.out).cell 1
          have b1 := HT.out.keeps.cell id HBC.out
          simp only [List.getElem?_cons_zero, List.getElem?_cons_succ] at x0 x1
          repeat (first | (refine run_off rfl rfl (by rfl) ?_; (try simp only [Act.put, List.setIfInBounds_toArray, List.set_cons_zero, List.set_cons_succ])) | (refine run_chain_off rfl rfl (by rfl) (K0_mono _) ?_; (try simp only [Act.put, List.setIfInBounds_toArray, List.set_cons_zero, List.set_cons_succ])) | ((refine run_want rfl rfl (by rfl) ⟨?_, fun W hW => ?_, ?_⟩; rotate_left; (· (have d0 := hW.keeps.cell id x0; have d1 := hW.keeps.cell id x1; have d2 := hW.keeps.cell id b1; go_simp; (try with_reducible rfl)))); (try simp only [Act.put, List.setIfInBounds_toArray, List.set_cons_zero, List.set_cons_succ])))
          clear x0 x1 b1
          refine run_end (L := []) rfl (fun W6 hW6 => ?_)
          have HT6 := Lib.hid (HT.out.trans hW6)
          clear hW6 HT
          have HT := HT6
          clear HT6
          go_wp2
          go_ret
          exact ⟨by rw [HR.out]; rfl, HS.out.trans (HTR.out.trans (HS3.out.trans HT.out))⟩
        | true =>
        cases k with
        | zero =>
          have d0 : decide (0 < ((0 : Nat) : Int)) = false := by decide
          have HLV := Lib.hid (show levelB s.levels (1 - 1) = true by rw [HLB.out, w1, w2]; rfl)
          refine wp_region_seq (kdOf [2, 7] []) (0 :: 1 :: 3 :: 7 :: 15 :: 31 :: 63 :: 127 :: 255 :: 511 :: 1023 :: 2047 :: 4095 :: 8191 :: 16383 :: 32767 :: 16383 :: 81919 :: 16383 :: 278527 :: 999423 :: 2047999 :: 4145151 :: 8388607 :: 16777215 :: 33554431 :: 67108863 :: 33554431 :: 167772159 :: 33554431 :: 570425343 :: 2046820351 :: 4194303999 :: 8489271295 :: 17179869183 :: 34359738367 :: 68719476735 :: 137438953471 :: []) (0 :: 1 :: 2 :: 3 :: 4 :: 5 :: 6 :: 7 :: 8 :: 9 :: 10 :: 11 :: 12 :: 13 :: 14 :: 15 :: 16 :: 17 :: 18 :: 19 :: 20 :: 21 :: 22 :: 23 :: 24 :: 25 :: 26 :: 27 :: 28 :: 29 :: 30 :: 31 :: 32 :: 33 :: 34 :: 35 :: 36 :: 37 :: []) [] (by kernel_rfl) (by kernel_rfl) (fun i T z hi hk => by simp [kdOf] at hk <;> (try (split at hk <;> cases hk))) ?_
          intro Wx hWx
          have HTx := Lib.hid (HT.out.trans hWx)
          clear hWx HT
          have HT := HTx
          clear HTx
          have x0 := (HB3.out.step HT.out).cell 0
          have x1 := (HB3.out.step HT.out).cell 1
          have b1 := HT.out.keeps.cell id HBC.out
          simp only [List.getElem?_cons_zero, List.getElem?_cons_succ] at x0 x1
          repeat (first | (refine run_off rfl rfl (by rfl) ?_; (try simp only [Act.put, List.setIfInBounds_toArray, List.set_cons_zero, List.set_cons_succ])) | (refine run_chain_off rfl rfl (by rfl) (K0_mono _) ?_; (try simp only [Act.put, List.setIfInBounds_toArray, List.set_cons_zero, List.set_cons_succ])) | ((refine run_want rfl rfl (by rfl) ⟨?_, fun W hW => ?_, ?_⟩; rotate_left; (· (have d0 := hW.keeps.cell id x0; have d1 := hW.keeps.cell id x1; have d2 := hW.keeps.cell id b1; go_simp; (try with_reducible rfl)))); (try simp only [Act.put, List.setIfInBounds_toArray, List.set_cons_zero, List.set_cons_succ])))
          clear x0 x1 b1
          refine run_chain rfl rfl (by rfl) (fun Wi hWi K' hK => ?_)
          have HTi := Lib.hid (HT.out.trans hWi)
          clear hWi HT
          go_simp
          refine (bigtopref01.In_any _ _ _ _).mono ?_
          rintro e wn ⟨rfl, rfl⟩
          rw [w1]
          have HT := HTi
          clear HTi
          refine hK _ _ (StepX.refl _ _) ?_
          (try simp only [Act.put, List.setIfInBounds_toArray, List.set_cons_zero, List.set_cons_succ])
          have x0 := (HB3.out.step HT.out).cell 0
          have x1 := (HB3.out.step HT.out).cell 1
          have b1 := HT.out.keeps.cell id HBC.out
          simp only [List.getElem?_cons_zero, List.getElem?_cons_succ] at x0 x1
          repeat (first | (refine run_off rfl rfl (by rfl) ?_; (try simp only [Act.put, List.setIfInBounds_toArray, List.set_cons_zero, List.set_cons_succ])) | (refine run_chain_off rfl rfl (by rfl) (K0_mono _) ?_; (try simp only [Act.put, List.setIfInBounds_toArray, List.set_cons_zero, List.set_cons_succ])) | ((refine run_want rfl rfl (by rfl) ⟨?_, fun W hW => ?_, ?_⟩; rotate_left; (· (have d0 := hW.keeps.cell id x0; have d1 := hW.keeps.cell id x1; have d2 := hW.keeps.cell id b1; go_simp; (try with_reducible rfl)))); (try simp only [Act.put, List.setIfInBounds_toArray, List.set_cons_zero, List.set_cons_succ])))
          clear x0 x1 b1
          refine run_chain rfl rfl (by rfl) (fun Wi hWi K' hK => ?_)
          have HTi := Lib.hid (HT.out.trans hWi)
          clear hWi HT
          go_simp
          refine (bigtopref01.In_any _ _ _ _).mono ?_
          rintro e wn ⟨rfl, rfl⟩
          rw [w2]
          have HT := HTi
          clear HTi
          refine hK _ _ (StepX.refl _ _) ?_
          (try simp only [Act.put, List.setIfInBounds_toArray, List.set_cons_zero, List.set_cons_succ])
          clear w1 w2
          have x0 := (HB3.out.step HT.out).cell 0
          have x1 := (HB3.out.step HT.out).cell 1
          have b1 := HT.out.keeps.cell id HBC.out
          simp only [List.getElem?_cons_zero, List.getElem?_cons_succ] at x0 x1
          repeat (first | (refine run_off rfl rfl (by rfl) ?_; (try simp only [Act.put, List.setIfInBounds_toArray, List.set_cons_zero, List.set_cons_succ])) | (refine run_chain_off rfl rfl (by rfl) (K0_mono _) ?_; (try simp only [Act.put, List.setIfInBounds_toArray, List.set_cons_zero, List.set_cons_succ])) | ((refine run_want rfl rfl (by rfl) ⟨?_, fun W hW => ?_, ?_⟩; rotate_left; (· (have d0 := hW.keeps.cell id x0; have d1 := hW.keeps.cell id x1; have d2 := hW.keeps.cell id b1; go_simp; (try with_reducible rfl)))); (try simp only [Act.put, List.setIfInBounds_toArray, List.set_cons_zero, List.set_cons_succ])))
          clear x0 x1 b1
          refine run_end (L := []) rfl (fun W6 hW6 => ?_)
          have HT6 := Lib.hid (HT.out.trans hW6)
          clear hW6 HT
          have HT := HT6
          clear HT6
          go_wp2
          go_roundw
          case rel => exact ⟨1, by omega, by go_num, fun i hi hl => if e : i + 1 = 1 then by (obtain rfl : i = 1 - 1 := by omega); exact HLV.out else HA.out i (by omega) hl, HTR.out.trans (HS3.out.trans HT.out)⟩
          case measure => simp [intOf]; omega
        | succ j =>
          have hpre := HPRE.out j rfl
          obtain ⟨g1, g2⟩ := hpre
          have hjx : (0 : Int) ≤ (j : Int) ∧ (j : Int) < (s.levels.length : Int) := by omega
          have hwj : IntKind.i64.wrap (j : Int) = (j : Int) := by rw [IntKind.wrap_i64]; omega
          have hd0 : decide ((0 : Int) < ((j + 1 : Nat) : Int)) = true := decide_eq_true (by omega)
          have HLC := Lib.hid (show levelB s.levels (j + 1) = (decide (s.levels[j].upto < xu) && decide (s.levels[j].push ≤ xp)) by
            rw [HLB.out, w1, w2]
            simp only [List.getElem?_eq_getElem (show j < s.levels.length by omega), Bool.true_and])
          obtain ⟨y, hy⟩ : ∃ y, y = s.levels[j] := ⟨_, rfl⟩
          rw [← hy] at g1 g2 HLC
          obtain ⟨yu, yp⟩ := y
          dsimp only at g1 g2 HLC
          have HG := Lib.hid (And.intro (HS3.out.keeps.cell id g1) (HS3.out.keeps.cell id g2))
          clear g1 g2 hy
          by_cases c1 : xu ≤ yu
          · have d1 : decide (xu ≤ yu) = true := decide_eq_true c1
            have HR := Lib.hid (HNO.out (by rw [HLC.out, decide_eq_false (by omega)]; rfl))
            clear c1
            refine wp_region_seq (kdOf [2, 7] []) (0 :: 1 :: 3 :: 7 :: 15 :: 31 :: 63 :: 127 :: 255 :: 511 :: 1023 :: 2047 :: 4095 :: 8191 :: 16383 :: 32767 :: 16383 :: 81919 :: 16383 :: 278527 :: 999423 :: 2047999 :: 4145151 :: 8388607 :: 16777215 :: 33554431 :: 67108863 :: 33554431 :: 167772159 :: 33554431 :: 570425343 :: 2046820351 :: 4194303999 :: 8489271295 :: 17179869183 :: 34359738367 :: 68719476735 :: 137438953471 :: []) (0 :: 1 :: 2 :: 3 :: 4 :: 5 :: 6 :: 7 :: 8 :: 9 :: 10 :: 11 :: 12 :: 13 :: 14 :: 15 :: 16 :: 17 :: 18 :: 19 :: 20 :: 21 :: 22 :: 23 :: 24 :: 25 :: 26 :: 27 :: 28 :: 29 :: 30 :: 31 :: 32 :: 33 :: 34 :: 35 :: 36 :: 37 :: []) [] (by kernel_rfl) (by kernel_rfl) (fun i T z hi hk => by simp [kdOf] at hk <;> (try (split at hk <;> cases hk))) ?_
            intro Wx hWx
            have HTx := Lib.hid (HT.out.trans hWx)
            clear hWx HT
            have HT := HTx
            clear HTx
            have x0 := (HB3.out.step HT.out).cell 0
            have x1 := (HB3.out.step HT.out).cell 1
            have b1 := HT.out.keeps.cell id HBC.out
            simp only [List.getElem?_cons_zero, List.getElem?_cons_succ] at x0 x1
            repeat (first | (refine run_off rfl rfl (by rfl) ?_; (try simp only [Act.put, List.setIfInBounds_toArray, List.set_cons_zero, List.set_cons_succ])) | (refine run_chain_off rfl rfl (by rfl) (K0_mono _) ?_; (try simp only [Act.put, List.setIfInBounds_toArray, List.set_cons_zero, List.set_cons_succ])) | ((refine run_want rfl rfl (by rfl) ⟨?_, fun W hW => ?_, ?_⟩; rotate_left; (· (have d0 := hW.keeps.cell id x0; have d1 := hW.keeps.cell id x1; have d2 := hW.keeps.cell id b1; go_simp; (try with_reducible rfl)))); (try simp only [Act.put, List.setIfInBounds_toArray, List.set_cons_zero, List.set_cons_succ])))
            clear x0 x1 b1
            refine run_chain rfl rfl (by rfl) (fun Wi hWi K' hK => ?_)
            have HTi := Lib.hid (HT.out.trans hWi)
            clear hWi HT
            go_simp
            refine (bigtopref01.In_any _ _ _ _).mono ?_
            rintro e wn ⟨rfl, rfl⟩
            rw [w1]
            have HT := HTi
            clear HTi
            refine hK _ _ (StepX.refl _ _) ?_
            (try simp only [Act.put, List.setIfInBounds_toArray, List.set_cons_zero, List.set_cons_succ])
            have x0 := (HB3.out.step HT.out).cell 0
            have x1 := (HB3.out.step HT.out).cell 1
            have b1 := HT.out.keeps.cell id HBC.out
            simp only [List.getElem?_cons_zero, List.getElem?_cons_succ] at x0 x1
            repeat (first | (refine run_off rfl rfl (by rfl) ?_; (try simp only [Act.put, List.setIfInBounds_toArray, List.set_cons_zero, List.set_cons_succ])) | (refine run_chain_off rfl rfl (by rfl) (K0_mono _) ?_; (try simp only [Act.put, List.setIfInBounds_toArray, List.set_cons_zero, List.set_cons_succ])) | ((refine run_want rfl rfl (by rfl) ⟨?_, fun W hW => ?_, ?_⟩; rotate_left; (· (have d0 := hW.keeps.cell id x0; have d1 := hW.keeps.cell id x1; have d2 := hW.keeps.cell id b1; go_simp; (try with_reducible rfl)))); (try simp only [Act.put, List.setIfInBounds_toArray, List.set_cons_zero, List.set_cons_succ])))
            clear x0 x1 b1
            refine run_chain rfl rfl (by rfl) (fun Wi hWi K' hK => ?_)
            have HTi := Lib.hid (HT.out.trans hWi)
            clear hWi HT
            go_simp
            refine (bigtopref01.In_any _ _ _ _).mono ?_
            rintro e wn ⟨rfl, rfl⟩
            rw [w2]
            have HT := HTi
            clear HTi
            refine hK _ _ (StepX.refl _ _) ?_
            (try simp only [Act.put, List.setIfInBounds_toArray, List.set_cons_zero, List.set_cons_succ])
            have g1 := HT.out.keeps.cell id HG.out.1
            have g2 := HT.out.keeps.cell id HG.out.2
            have x0 := (HB3.out.step HT.out).cell 0
            have x1 := (HB3.out.step HT.out).cell 1
            have b1 := HT.out.keeps.cell id HBC.out
            simp only [List.getElem?_cons_zero, List.getElem?_cons_succ] at x0 x1
            repeat (first | (refine run_off rfl rfl (by rfl) ?_; (try simp only [Act.put, List.setIfInBounds_toArray, List.set_cons_zero, List.set_cons_succ])) | (refine run_chain_off rfl rfl (by rfl) (K0_mono _) ?_; (try simp only [Act.put, List.setIfInBounds_toArray, List.set_cons_zero, List.set_cons_succ])) | ((refine run_want rfl rfl (by rfl) ⟨?_, fun W hW => ?_, ?_⟩; rotate_left; (· (have d0 := hW.keeps.cell id x0; have d1 := hW.keeps.cell id x1; have d2 := hW.keeps.cell id b1; have d3 := hW.keeps.cell id g1; have d4 := hW.keeps.cell id g2; go_simp; (try with_reducible rfl)))); (try simp only [Act.put, List.setIfInBounds_toArray, List.set_cons_zero, List.set_cons_succ])))
            clear x0 x1 b1
            clear g1 g2 w1 w2
            refine run_end (L := []) rfl (fun W6 hW6 => ?_)
            have HT6 := Lib.hid (HT.out.trans hW6)
            clear hW6 HT
            have HT := HT6
            clear HT6
            go_wp2
            go_ret
            exact ⟨by rw [HR.out]; rfl, HS.out.trans (HTR.out.trans (HS3.out.trans HT.out))⟩
          have d1 : decide (xu ≤ yu) = false := decide_eq_false c1
          by_cases c2 : xp < yp
          · have d2 : decide (xp < yp) = true := decide_eq_true c2
            have HR := Lib.hid (HNO.out (by rw [HLC.out, decide_eq_true (show yu < xu by omega), decide_eq_false (by omega)]; rfl))
            clear c1 c2
            refine wp_region_seq (kdOf [2, 7] []) (0 :: 1 :: 3 :: 7 :: 15 :: 31 :: 63 :: 127 :: 255 :: 511 :: 1023 :: 2047 :: 4095 :: 8191 :: 16383 :: 32767 :: 16383 :: 81919 :: 16383 :: 278527 :: 999423 :: 2047999 :: 4145151 :: 8388607 :: 16777215 :: 33554431 :: 67108863 :: 33554431 :: 167772159 :: 33554431 :: 570425343 :: 2046820351 :: 4194303999 :: 8489271295 :: 17179869183 :: 34359738367 :: 68719476735 :: 137438953471 :: []) (0 :: 1 :: 2 :: 3 :: 4 :: 5 :: 6 :: 7 :: 8 :: 9 :: 10 :: 11 :: 12 :: 13 :: 14 :: 15 :: 16 :: 17 :: 18 :: 19 :: 20 :: 21 :: 22 :: 23 :: 24 :: 25 :: 26 :: 27 :: 28 :: 29 :: 30 :: 31 :: 32 :: 33 :: 34 :: 35 :: 36 :: 37 :: []) [] (by kernel_rfl) (by kernel_rfl) (fun i T z hi hk => by simp [kdOf] at hk <;> (try (split at hk <;> cases hk))) ?_
            intro Wx hWx
            have HTx := Lib.hid (HT.out.trans hWx)
            clear hWx HT
            have HT := HTx
            clear HTx
            have x0 := (HB3.out.step HT.out).cell 0
            have x1 := (HB3.out.step HT.out).cell 1
            have b1 := HT.out.keeps.cell id HBC.out
            simp only [List.getElem?_cons_zero, List.getElem?_cons_succ] at x0 x1
            repeat (first | (refine run_off rfl rfl (by rfl) ?_; (try simp only [Act.put, List.setIfInBounds_toArray, List.set_cons_zero, List.set_cons_succ])) | (refine run_chain_off rfl rfl (by rfl) (K0_mono _) ?_; (try simp only [Act.put, List.setIfInBounds_toArray, List.set_cons_zero, List.set_cons_succ])) | ((refine run_want rfl rfl (by rfl) ⟨?_, fun W hW => ?_, ?_⟩; rotate_left; (· (have d0 := hW.keeps.cell id x0; have d1 := hW.keeps.cell id x1; have d2 := hW.keeps.cell id b1; go_simp; (try with_reducible rfl)))); (try simp only [Act.put, List.setIfInBounds_toArray, List.set_cons_zero, List.set_cons_succ])))
            clear x0 x1 b1
            refine run_chain rfl rfl (by rfl) (fun Wi hWi K' hK => ?_)
            have HTi := Lib.hid (HT.out.trans hWi)
            clear hWi HT
            go_simp
            refine (bigtopref01.In_any _ _ _ _).mono ?_
            rintro e wn ⟨rfl, rfl⟩
            rw [w1]
            have HT := HTi
            clear HTi
            refine hK _ _ (StepX.refl _ _) ?_
            (try simp only [Act.put, List.setIfInBounds_toArray, List.set_cons_zero, List.set_cons_succ])
            have x0 := (HB3.out.step HT.out).cell 0
            have x1 := (HB3.out.step HT.out).cell 1
            have b1 := HT.out.keeps.cell id HBC.out
            simp only [List.getElem?_cons_zero, List.getElem?_cons_succ] at x0 x1
            repeat (first | (refine run_off rfl rfl (by rfl) ?_; (try simp only [Act.put, List.setIfInBounds_toArray, List.set_cons_zero, List.set_cons_succ])) | (refine run_chain_off rfl rfl (by rfl) (K0_mono _) ?_; (try simp only [Act.put, List.setIfInBounds_toArray, List.set_cons_zero, List.set_cons_succ])) | ((refine run_want rfl rfl (by rfl) ⟨?_, fun W hW => ?_, ?_⟩; rotate_left; (· (have d0 := hW.keeps.cell id x0; have d1 := hW.keeps.cell id x1; have d2 := hW.keeps.cell id b1; go_simp; (try with_reducible rfl)))); (try simp only [Act.put, List.setIfInBounds_toArray, List.set_cons_zero, List.set_cons_succ])))
            clear x0 x1 b1
            refine run_chain rfl rfl (by rfl) (fun Wi hWi K' hK => ?_)
            have HTi := Lib.hid (HT.out.trans hWi)
            clear hWi HT
            go_simp
            refine (bigtopref01.In_any _ _ _ _).mono ?_
            rintro e wn ⟨rfl, rfl⟩
            rw [w2]
            have HT := HTi
            clear HTi
            refine hK _ _ (StepX.refl _ _) ?_
            (try simp only [Act.put, List.setIfInBounds_toArray, List.set_cons_zero, List.set_cons_succ])
            have g1 := HT.out.keeps.cell id HG.out.1
            have g2 := HT.out.keeps.cell id HG.out.2
            have x0 := (HB3.out.step HT.out).cell 0
            have x1 := (HB3.out.step HT.out).cell 1
            have b1 := HT.out.keeps.cell id HBC.out
            simp only [List.getElem?_cons_zero, List.getElem?_cons_succ] at x0 x1
            repeat (first | (refine run_off rfl rfl (by rfl) ?_; (try simp only [Act.put, List.setIfInBounds_toArray, List.set_cons_zero, List.set_cons_succ])) | (refine run_chain_off rfl rfl (by rfl) (K0_mono _) ?_; (try simp only [Act.put, List.setIfInBounds_toArray, List.set_cons_zero, List.set_cons_succ])) | ((refine run_want rfl rfl (by rfl) ⟨?_, fun W hW => ?_, ?_⟩; rotate_left; (· (have d0 := hW.keeps.cell id x0; have d1 := hW.keeps.cell id x1; have d2 := hW.keeps.cell id b1; have d3 := hW.keeps.cell id g1; have d4 := hW.keeps.cell id g2; go_simp; (try with_reducible rfl)))); (try simp only [Act.put, List.setIfInBounds_toArray, List.set_cons_zero, List.set_cons_succ])))
            clear x0 x1 b1
            clear g1 g2 w1 w2
            refine run_end (L := []) rfl (fun W6 hW6 => ?_)
            have HT6 := Lib.hid (HT.out.trans hW6)
            clear hW6 HT
            have HT := HT6
            clear HT6
            go_wp2
            go_ret
            exact ⟨by rw [HR.out]; rfl, HS.out.trans (HTR.out.trans (HS3.out.trans HT.out))⟩
          have d2 : decide (xp < yp) = false := decide_eq_false c2
          have HLV := Lib.hid (show levelB s.levels (j + 1 + 1 - 1) = true by rw [Nat.add_sub_cancel, HLC.out, decide_eq_true (show yu < xu by omega), decide_eq_true (show yp ≤ xp by omega)]; rfl)
          clear c1 c2
          refine wp_region_seq (kdOf [2, 7] []) (0 :: 1 :: 3 :: 7 :: 15 :: 31 :: 63 :: 127 :: 255 :: 511 :: 1023 :: 2047 :: 4095 :: 8191 :: 16383 :: 32767 :: 16383 :: 81919 :: 16383 :: 278527 :: 999423 :: 2047999 :: 4145151 :: 8388607 :: 16777215 :: 33554431 :: 67108863 :: 33554431 :: 167772159 :: 33554431 :: 570425343 :: 2046820351 :: 4194303999 :: 8489271295 :: 17179869183 :: 34359738367 :: 68719476735 :: 137438953471 :: []) (0 :: 1 :: 2 :: 3 :: 4 :: 5 :: 6 :: 7 :: 8 :: 9 :: 10 :: 11 :: 12 :: 13 :: 14 :: 15 :: 16 :: 17 :: 18 :: 19 :: 20 :: 21 :: 22 :: 23 :: 24 :: 25 :: 26 :: 27 :: 28 :: 29 :: 30 :: 31 :: 32 :: 33 :: 34 :: 35 :: 36 :: 37 :: []) [] (by kernel_rfl) (by kernel_rfl) (fun i T z hi hk => by simp [kdOf] at hk <;> (try (split at hk <;> cases hk))) ?_
          intro Wx hWx
          have HTx := Lib.hid (HT.out.trans hWx)
          clear hWx HT
          have HT := HTx
          clear HTx
          have x0 := (HB3.out.step HT.out).cell 0
          have x1 := (HB3.out.step HT.out).cell 1
          have b1 := HT.out.keeps.cell id HBC.out
          simp only [List.getElem?_cons_zero, List.getElem?_cons_succ] at x0 x1
          repeat (first | (refine run_off rfl rfl (by rfl) ?_; (try simp only [Act.put, List.setIfInBounds_toArray, List.set_cons_zero, List.set_cons_succ])) | (refine run_chain_off rfl rfl (by rfl) (K0_mono _) ?_; (try simp only [Act.put, List.setIfInBounds_toArray, List.set_cons_zero, List.set_cons_succ])) | ((refine run_want rfl rfl (by rfl) ⟨?_, fun W hW => ?_, ?_⟩; rotate_left; (· (have d0 := hW.keeps.cell id x0; have d1 := hW.keeps.cell id x1; have d2 := hW.keeps.cell id b1; go_simp; (try with_reducible rfl)))); (try simp only [Act.put, List.setIfInBounds_toArray, List.set_cons_zero, List.set_cons_succ])))
          clear x0 x1 b1
          refine run_chain rfl rfl (by rfl) (fun Wi hWi K' hK => ?_)
          have HTi := Lib.hid (HT.out.trans hWi)
          clear hWi HT
          go_simp
          refine (bigtopref01.In_any _ _ _ _).mono ?_
          rintro e wn ⟨rfl, rfl⟩
          rw [w1]
          have HT := HTi
          clear HTi
          refine hK _ _ (StepX.refl _ _) ?_
          (try simp only [Act.put, List.setIfInBounds_toArray, List.set_cons_zero, List.set_cons_succ])
          have x0 := (HB3.out.step HT.out).cell 0
          have x1 := (HB3.out.step HT.out).cell 1
          have b1 := HT.out.keeps.cell id HBC.out
          simp only [List.getElem?_cons_zero, List.getElem?_cons_succ] at x0 x1
          repeat (first | (refine run_off rfl rfl (by rfl) ?_; (try simp only [Act.put, List.setIfInBounds_toArray, List.set_cons_zero, List.set_cons_succ])) | (refine run_chain_off rfl rfl (by rfl) (K0_mono _) ?_; (try simp only [Act.put, List.setIfInBounds_toArray, List.set_cons_zero, List.set_cons_succ])) | ((refine run_want rfl rfl (by rfl) ⟨?_, fun W hW => ?_, ?_⟩; rotate_left; (· (have d0 := hW.keeps.cell id x0; have d1 := hW.keeps.cell id x1; have d2 := hW.keeps.cell id b1; go_simp; (try with_reducible rfl)))); (try simp only [Act.put, List.setIfInBounds_toArray, List.set_cons_zero, List.set_cons_succ])))
          clear x0 x1 b1
          refine run_chain rfl rfl (by rfl) (fun Wi hWi K' hK => ?_)
          have HTi := Lib.hid (HT.out.trans hWi)
          clear hWi HT
          go_simp
          refine (bigtopref01.In_any _ _ _ _).mono ?_
          rintro e wn ⟨rfl, rfl⟩
          rw [w2]
          have HT := HTi
          clear HTi
          refine hK _ _ (StepX.refl _ _) ?_
          (try simp only [Act.put, List.setIfInBounds_toArray, List.set_cons_zero, List.set_cons_succ])
          have g1 := HT.out.keeps.cell id HG.out.1
          have g2 := HT.out.keeps.cell id HG.out.2
          have x0 := (HB3.out.step HT.out).cell 0
          have x1 := (HB3.out.step HT.out).cell 1
          have b1 := HT.out.keeps.cell id HBC.out
          simp only [List.getElem?_cons_zero, List.getElem?_cons_succ] at x0 x1
          repeat (first | (refine run_off rfl rfl (by rfl) ?_; (try simp only [Act.put, List.setIfInBounds_toArray, List.set_cons_zero, List.set_cons_succ])) | (refine run_chain_off rfl rfl (by rfl) (K0_mono _) ?_; (try simp only [Act.put, List.setIfInBounds_toArray, List.set_cons_zero, List.set_cons_succ])) | ((refine run_want rfl rfl (by rfl) ⟨?_, fun W hW => ?_, ?_⟩; rotate_left; (· (have d0 := hW.keeps.cell id x0; have d1 := hW.keeps.cell id x1; have d2 := hW.keeps.cell id b1; have d3 := hW.keeps.cell id g1; have d4 := hW.keeps.cell id g2; go_simp; (try with_reducible rfl)))); (try simp only [Act.put, List.setIfInBounds_toArray, List.set_cons_zero, List.set_cons_succ])))
          clear x0 x1 b1
          clear g1 g2 w1 w2
          refine run_end (L := []) rfl (fun W6 hW6 => ?_)
          have HT6 := Lib.hid (HT.out.trans hW6)
          clear hW6 HT
          have HT := HT6
          clear HT6
          go_wp2
          go_roundw
          case rel => exact ⟨j + 1 + 1, by omega, by go_num, fun i hi hl => if e : i + 1 = j + 1 + 1 then by (obtain rfl : i = j + 1 + 1 - 1 := by omega); exact HLV.out else HA.out i (by omega) hl, HTR.out.trans (HS3.out.trans HT.out)⟩
          case measure => simp [intOf]; omega
      have HLW := Lib.hid (show (List.range s.levels.length).all (levelB s.levels) = true by
        rw [List.all_eq_true]
        intro i hi
        rw [List.mem_range] at hi
        exact HA.out i (by omega) hi)
      have b2 := (HB.out.step HTR.out).cell 2
      simp only [List.getElem?_cons_zero, List.getElem?_cons_succ] at b2
      go_upto_region 13 with (fail)
      clear hlt hk b1 b2 HA
      go_loopw [6] (fun i wr => ∃ k : Nat, k ≤ s.stages.length ∧ i = .int .i64 k ∧ (∀ j (hj : j < k) (hl : j < s.stages.length), stRefB s.stages j = true) ∧ Step W0 wr) (fun i _ => s.stages.length - (intOf i).toNat)
      case atStart => exact ⟨0, Nat.zero_le _, rfl, fun j hj => absurd hj (by omega), HTR.out⟩
      case round =>
        obtain ⟨k, hk, rfl, hall, hT⟩ := hrel
        have HA := Lib.hid hall
        clear HTR
        have HTR := Lib.hid hT
        clear hall hT
        have b2 := (HB.out.step HTR.out).cell 2
        simp only [List.getElem?_cons_zero, List.getElem?_cons_succ] at b2
        by_cases hlt : k < s.stages.length
        · obtain ⟨q1, d1, bb, oo, he, _, _, hp, hc, hbl⟩ := (SL.go HV2.out HTR.out).stgs
          injection he with he1 _ he3
          subst he1 he3
          obtain rfl := hp (by omega)
          obtain ⟨e1, e2⟩ := hc k hlt
          have hix : (0 : Int) ≤ (k : Int) ∧ (k : Int) < (s.stages.length : Int) := by omega
          have hwn : IntKind.i64.wrap ((s.stages.length : Int) - 1) = (s.stages.length : Int) - 1 := by rw [IntKind.wrap_i64]; omega
          have HPRE := Lib.hid (fun (j : Nat) (hj : j + 1 = k) => hc j (by omega))
          have HNO := Lib.hid (fun (h : stRefB s.stages k = false) => show siteB s = false by
            rw [HSR.out]
            have : (List.range s.stages.length).all (stRefB s.stages) = false := by rw [List.all_eq_false]; exact ⟨k, List.mem_range.2 hlt, by rw [h]; decide⟩
            rw [this, Bool.and_false]; rfl)
          have HLB := Lib.hid (show stRefB s.stages k = (withinB s.stages[k].cover 0 100 && (decide (k + 1 = s.stages.length) == decide (s.stages[k].cover = 0)) && (match k with | 0 => true | j + 1 => match s.stages[j]? with | some y => decide (s.stages[k].cover < y.cover) | none => true) && (!decide (k + 1 = s.stages.length) || decide (s.stages[k].minutes = 0)) && (decide (k + 1 = s.stages.length) || withinB s.stages[k].minutes 1 240)) by unfold stRefB; rw [List.getElem?_eq_getElem hlt])
          obtain ⟨x, hx⟩ : ∃ x, x = s.stages[k] := ⟨_, rfl⟩
          rw [← hx] at e1 e2 HLB
          obtain ⟨xc, xm⟩ := x
          dsimp only at e1 e2 HLB
          obtain ⟨W3, hW3⟩ : ∃ W, W = wr.alloc (.cells #[.int .i64 xc, .int .i64 xm] 64) := ⟨_, rfl⟩
          have HB3 := Lib.hid (show Bx W3 wr.heap.size [.int .i64 xc, .int .i64 xm] 64 by subst hW3; exact Bx.new wr [_, _] _)
          have HS3 := Lib.hid (show Step wr W3 by subst hW3; exact Step.alloc _ _)
          have HW3 := Lib.hid hW3
          have HT := Lib.hid (Step.refl W3)
          have HBC := Lib.hid ((HB.out.step (HTR.out.trans HS3.out)).cell 2)
          simp only [List.getElem?_cons_zero, List.getElem?_cons_succ] at HBC
          clear hp hc hbl hx hW3
          go_upto_region 16 with (fail)
          rw [← HW3.out]
          clear e1 e2 b2
          obtain ⟨c8, hl⟩ : ∃ c : Bool, ((k : Int) == (s.stages.length : Int) - 1) = c := ⟨_, rfl⟩
          have b2 := HBC.out
          go_upto_region 17 with (fail)
          have HL8 := Lib.hid hl
          clear b2 hl
          cases w1 : withinB xc 0 100 with
          | false =>
            have HR := Lib.hid (HNO.out (by rw [HLB.out, w1]; rfl))
            refine wp_region_seq (kdOf [2, 41] []) (0 :: 1 :: 3 :: 7 :: 15 :: 31 :: 31 :: 95 :: 223 :: 511 :: 1023 :: 2047 :: 4095 :: 8191 :: 16383 :: 32767 :: 65535 :: 32767 :: 163839 :: 32767 :: 557055 :: 1998847 :: 4095999 :: 8290303 :: 16777215 :: 33554431 :: 67108863 :: 134217727 :: 268435455 :: 536870911 :: 1073741823 :: 2147483647 :: 4294967295 :: 8589934591 :: 17179869183 :: 34359738367 :: 68719476735 :: 137438953471 :: 274877906943 :: 549755813887 :: 1099511627775 :: 2199023255551 :: 4398046511103 :: 8796093022207 :: 17592186044415 :: []) (0 :: 1 :: 2 :: 3 :: 4 :: 5 :: 6 :: 7 :: 8 :: 9 :: 10 :: 11 :: 12 :: 13 :: 14 :: 15 :: 16 :: 17 :: 18 :: 19 :: 20 :: 21 :: 22 :: 23 :: 24 :: 25 :: 26 :: 27 :: 28 :: 29 :: 30 :: 31 :: 32 :: 33 :: 34 :: 35 :: 36 :: 37 :: 38 :: 39 :: 40 :: 41 :: 42 :: 43 :: 44 :: []) [] (by kernel_rfl) (by kernel_rfl) (fun i T z hi hk => by simp [kdOf] at hk <;> (try (split at hk <;> cases hk))) ?_
            intro Wx hWx
            have HTx := Lib.hid (HT.out.trans hWx)
            clear hWx HT
            have HT := HTx
            clear HTx
            have x0 := (HB3.out.step HT.out).cell 0
            have x1 := (HB3.out.step HT.out).cell 1
            have b1 := HT.out.keeps.cell id HBC.out
            simp only [List.getElem?_cons_zero, List.getElem?_cons_succ] at x0 x1
            repeat (first | (refine run_off rfl rfl (by rfl) ?_; (try simp only [Act.put, List.setIfInBounds_toArray, List.set_cons_zero, List.set_cons_succ])) | (refine run_chain_off rfl rfl (by rfl) (K0_mono _) ?_; (try simp only [Act.put, List.setIfInBounds_toArray, List.set_cons_zero, List.set_cons_succ])) | ((refine run_want rfl rfl (by rfl) ⟨?_, fun W hW => ?_, ?_⟩; rotate_left; (· (have d0 := hW.keeps.cell id x0; have d1 := hW.keeps.cell id x1; have d2 := hW.keeps.cell id b1; go_simp; (try with_reducible rfl)))); (try simp only [Act.put, List.setIfInBounds_toArray, List.set_cons_zero, List.set_cons_succ])))
            clear x0 x1 b1
            refine run_chain rfl rfl (by rfl) (fun Wi hWi K' hK => ?_)
            have HTi := Lib.hid (HT.out.trans hWi)
            clear hWi HT
            go_simp
            refine (bigtopref01.In_any _ _ _ _).mono ?_
            rintro e wn ⟨rfl, rfl⟩
            rw [w1]
            have HT := HTi
            clear HTi
            refine hK _ _ (StepX.refl _ _) ?_
            (try simp only [Act.put, List.setIfInBounds_toArray, List.set_cons_zero, List.set_cons_succ])
            clear w1
            have x0 := (HB3.out.step HT.out).cell 0
            have x1 := (HB3.out.step HT.out).cell 1
            have b1 := HT.out.keeps.cell id HBC.out
            simp only [List.getElem?_cons_zero, List.getElem?_cons_succ] at x0 x1
            repeat (first | (refine run_off rfl rfl (by rfl) ?_; (try simp only [Act.put, List.setIfInBounds_toArray, List.set_cons_zero, List.set_cons_succ])) | (refine run_chain_off rfl rfl (by rfl) (K0_mono _) ?_; (try simp only [Act.put, List.setIfInBounds_toArray, List.set_cons_zero, List.set_cons_succ])) | ((refine run_want rfl rfl (by rfl) ⟨?_, fun W hW => ?_, ?_⟩; rotate_left; (· (have d0 := hW.keeps.cell id x0; have d1 := hW.keeps.cell id x1; have d2 := hW.keeps.cell id b1; go_simp; (try with_reducible rfl)))); (try simp only [Act.put, List.setIfInBounds_toArray, List.set_cons_zero, List.set_cons_succ])))
            clear x0 x1 b1
            refine run_end (L := []) rfl (fun W6 hW6 => ?_)
            have HT6 := Lib.hid (HT.out.trans hW6)
            clear hW6 HT
            have HT := HT6
            clear HT6
            go_wp2
            go_ret
            exact ⟨by rw [HR.out]; rfl, HS.out.trans (HTR.out.trans (HS3.out.trans HT.out))⟩
          | true =>
          cases k with
          | zero =>
            have d0 : decide (0 < ((0 : Nat) : Int)) = false := by decide
            have HF := Lib.hid (show stRefB s.stages 0 = ((decide (0 + 1 = s.stages.length) == decide (xc = 0)) && true && (!decide (0 + 1 = s.stages.length) || decide (xm = 0)) && (decide (0 + 1 = s.stages.length) || withinB xm 1 240)) by rw [HLB.out, w1]; rfl)
            by_cases L : 0 + 1 = s.stages.length
            · have e8 : c8 = true := by rw [← HL8.out]; simp; omega
              subst e8
              by_cases z : xc = 0
              rotate_left
              · have hz : (xc == 0) = false := by simpa using z
                have HR := Lib.hid (HNO.out (by rw [HF.out, decide_eq_true L, decide_eq_false z]; rfl))
                clear z L
                refine wp_region_seq (kdOf [2, 41] []) (0 :: 1 :: 3 :: 7 :: 15 :: 31 :: 31 :: 95 :: 223 :: 511 :: 1023 :: 2047 :: 4095 :: 8191 :: 16383 :: 32767 :: 65535 :: 32767 :: 163839 :: 32767 :: 557055 :: 1998847 :: 4095999 :: 8290303 :: 16777215 :: 33554431 :: 67108863 :: 134217727 :: 268435455 :: 536870911 :: 1073741823 :: 2147483647 :: 4294967295 :: 8589934591 :: 17179869183 :: 34359738367 :: 68719476735 :: 137438953471 :: 274877906943 :: 549755813887 :: 1099511627775 :: 2199023255551 :: 4398046511103 :: 8796093022207 :: 17592186044415 :: []) (0 :: 1 :: 2 :: 3 :: 4 :: 5 :: 6 :: 7 :: 8 :: 9 :: 10 :: 11 :: 12 :: 13 :: 14 :: 15 :: 16 :: 17 :: 18 :: 19 :: 20 :: 21 :: 22 :: 23 :: 24 :: 25 :: 26 :: 27 :: 28 :: 29 :: 30 :: 31 :: 32 :: 33 :: 34 :: 35 :: 36 :: 37 :: 38 :: 39 :: 40 :: 41 :: 42 :: 43 :: 44 :: []) [] (by kernel_rfl) (by kernel_rfl) (fun i T z hi hk => by simp [kdOf] at hk <;> (try (split at hk <;> cases hk))) ?_
                intro Wx hWx
                have HTx := Lib.hid (HT.out.trans hWx)
                clear hWx HT
                have HT := HTx
                clear HTx
                have x0 := (HB3.out.step HT.out).cell 0
                have x1 := (HB3.out.step HT.out).cell 1
                have b1 := HT.out.keeps.cell id HBC.out
                simp only [List.getElem?_cons_zero, List.getElem?_cons_succ] at x0 x1
                repeat (first | (refine run_off rfl rfl (by rfl) ?_; (try simp only [Act.put, List.setIfInBounds_toArray, List.set_cons_zero, List.set_cons_succ])) | (refine run_chain_off rfl rfl (by rfl) (K0_mono _) ?_; (try simp only [Act.put, List.setIfInBounds_toArray, List.set_cons_zero, List.set_cons_succ])) | ((refine run_want rfl rfl (by rfl) ⟨?_, fun W hW => ?_, ?_⟩; rotate_left; (· (have d0 := hW.keeps.cell id x0; have d1 := hW.keeps.cell id x1; have d2 := hW.keeps.cell id b1; go_simp; (try with_reducible rfl)))); (try simp only [Act.put, List.setIfInBounds_toArray, List.set_cons_zero, List.set_cons_succ])))
                clear x0 x1 b1
                refine run_chain rfl rfl (by rfl) (fun Wi hWi K' hK => ?_)
                have HTi := Lib.hid (HT.out.trans hWi)
                clear hWi HT
                go_simp
                refine (bigtopref01.In_any _ _ _ _).mono ?_
                rintro e wn ⟨rfl, rfl⟩
                rw [w1]
                have HT := HTi
                clear HTi
                refine hK _ _ (StepX.refl _ _) ?_
                (try simp only [Act.put, List.setIfInBounds_toArray, List.set_cons_zero, List.set_cons_succ])
                have x0 := (HB3.out.step HT.out).cell 0
                have x1 := (HB3.out.step HT.out).cell 1
                have b1 := HT.out.keeps.cell id HBC.out
                simp only [List.getElem?_cons_zero, List.getElem?_cons_succ] at x0 x1
                repeat (first | (refine run_off rfl rfl (by rfl) ?_; (try simp only [Act.put, List.setIfInBounds_toArray, List.set_cons_zero, List.set_cons_succ])) | (refine run_chain_off rfl rfl (by rfl) (K0_mono _) ?_; (try simp only [Act.put, List.setIfInBounds_toArray, List.set_cons_zero, List.set_cons_succ])) | ((refine run_want rfl rfl (by rfl) ⟨?_, fun W hW => ?_, ?_⟩; rotate_left; (· (have d0 := hW.keeps.cell id x0; have d1 := hW.keeps.cell id x1; have d2 := hW.keeps.cell id b1; go_simp; (try with_reducible rfl)))); (try simp only [Act.put, List.setIfInBounds_toArray, List.set_cons_zero, List.set_cons_succ])))
                clear x0 x1 b1
                refine run_end (L := []) rfl (fun W6 hW6 => ?_)
                have HT6 := Lib.hid (HT.out.trans hW6)
                clear hW6 HT
                have HT := HT6
                clear HT6
                go_wp2
                go_ret
                exact ⟨by rw [HR.out]; rfl, HS.out.trans (HTR.out.trans (HS3.out.trans HT.out))⟩
              have hz : (xc == 0) = true := by simpa using z
              by_cases m : xm = 0
              rotate_left
              · have hmm : (xm != 0) = true := by simpa using m
                have HR := Lib.hid (HNO.out (by rw [HF.out, decide_eq_true L, decide_eq_true z, decide_eq_false m]; rfl))
                clear z L m
                refine wp_region_seq (kdOf [2, 41] []) (0 :: 1 :: 3 :: 7 :: 15 :: 31 :: 31 :: 95 :: 223 :: 511 :: 1023 :: 2047 :: 4095 :: 8191 :: 16383 :: 32767 :: 65535 :: 32767 :: 163839 :: 32767 :: 557055 :: 1998847 :: 4095999 :: 8290303 :: 16777215 :: 33554431 :: 67108863 :: 134217727 :: 268435455 :: 536870911 :: 1073741823 :: 2147483647 :: 4294967295 :: 8589934591 :: 17179869183 :: 34359738367 :: 68719476735 :: 137438953471 :: 274877906943 :: 549755813887 :: 1099511627775 :: 2199023255551 :: 4398046511103 :: 8796093022207 :: 17592186044415 :: []) (0 :: 1 :: 2 :: 3 :: 4 :: 5 :: 6 :: 7 :: 8 :: 9 :: 10 :: 11 :: 12 :: 13 :: 14 :: 15 :: 16 :: 17 :: 18 :: 19 :: 20 :: 21 :: 22 :: 23 :: 24 :: 25 :: 26 :: 27 :: 28 :: 29 :: 30 :: 31 :: 32 :: 33 :: 34 :: 35 :: 36 :: 37 :: 38 :: 39 :: 40 :: 41 :: 42 :: 43 :: 44 :: []) [] (by kernel_rfl) (by kernel_rfl) (fun i T z hi hk => by simp [kdOf] at hk <;> (try (split at hk <;> cases hk))) ?_
                intro Wx hWx
                have HTx := Lib.hid (HT.out.trans hWx)
                clear hWx HT
                have HT := HTx
                clear HTx
                have x0 := (HB3.out.step HT.out).cell 0
                have x1 := (HB3.out.step HT.out).cell 1
                have b1 := HT.out.keeps.cell id HBC.out
                simp only [List.getElem?_cons_zero, List.getElem?_cons_succ] at x0 x1
                repeat (first | (refine run_off rfl rfl (by rfl) ?_; (try simp only [Act.put, List.setIfInBounds_toArray, List.set_cons_zero, List.set_cons_succ])) | (refine run_chain_off rfl rfl (by rfl) (K0_mono _) ?_; (try simp only [Act.put, List.setIfInBounds_toArray, List.set_cons_zero, List.set_cons_succ])) | ((refine run_want rfl rfl (by rfl) ⟨?_, fun W hW => ?_, ?_⟩; rotate_left; (· (have d0 := hW.keeps.cell id x0; have d1 := hW.keeps.cell id x1; have d2 := hW.keeps.cell id b1; go_simp; (try with_reducible rfl)))); (try simp only [Act.put, List.setIfInBounds_toArray, List.set_cons_zero, List.set_cons_succ])))
                clear x0 x1 b1
                refine run_chain rfl rfl (by rfl) (fun Wi hWi K' hK => ?_)
                have HTi := Lib.hid (HT.out.trans hWi)
                clear hWi HT
                go_simp
                refine (bigtopref01.In_any _ _ _ _).mono ?_
                rintro e wn ⟨rfl, rfl⟩
                rw [w1]
                have HT := HTi
                clear HTi
                refine hK _ _ (StepX.refl _ _) ?_
                (try simp only [Act.put, List.setIfInBounds_toArray, List.set_cons_zero, List.set_cons_succ])
                have x0 := (HB3.out.step HT.out).cell 0
                have x1 := (HB3.out.step HT.out).cell 1
                have b1 := HT.out.keeps.cell id HBC.out
                simp only [List.getElem?_cons_zero, List.getElem?_cons_succ] at x0 x1
                repeat (first | (refine run_off rfl rfl (by rfl) ?_; (try simp only [Act.put, List.setIfInBounds_toArray, List.set_cons_zero, List.set_cons_succ])) | (refine run_chain_off rfl rfl (by rfl) (K0_mono _) ?_; (try simp only [Act.put, List.setIfInBounds_toArray, List.set_cons_zero, List.set_cons_succ])) | ((refine run_want rfl rfl (by rfl) ⟨?_, fun W hW => ?_, ?_⟩; rotate_left; (· (have d0 := hW.keeps.cell id x0; have d1 := hW.keeps.cell id x1; have d2 := hW.keeps.cell id b1; go_simp; (try with_reducible rfl)))); (try simp only [Act.put, List.setIfInBounds_toArray, List.set_cons_zero, List.set_cons_succ])))
                clear x0 x1 b1
                refine run_end (L := []) rfl (fun W6 hW6 => ?_)
                have HT6 := Lib.hid (HT.out.trans hW6)
                clear hW6 HT
                have HT := HT6
                clear HT6
                go_wp2
                go_ret
                exact ⟨by rw [HR.out]; rfl, HS.out.trans (HTR.out.trans (HS3.out.trans HT.out))⟩
              have hmm : (xm != 0) = false := by simpa using m
              have HLV := Lib.hid (show stRefB s.stages (1 - 1) = true by (show stRefB s.stages (0) = true); rw [HF.out, decide_eq_true L, decide_eq_true z, decide_eq_true m]; rfl)
              clear z L m
              refine wp_region_seq (kdOf [2, 41] []) (0 :: 1 :: 3 :: 7 :: 15 :: 31 :: 31 :: 95 :: 223 :: 511 :: 1023 :: 2047 :: 4095 :: 8191 :: 16383 :: 32767 :: 65535 :: 32767 :: 163839 :: 32767 :: 557055 :: 1998847 :: 4095999 :: 8290303 :: 16777215 :: 33554431 :: 67108863 :: 134217727 :: 268435455 :: 536870911 :: 1073741823 :: 2147483647 :: 4294967295 :: 8589934591 :: 17179869183 :: 34359738367 :: 68719476735 :: 137438953471 :: 274877906943 :: 549755813887 :: 1099511627775 :: 2199023255551 :: 4398046511103 :: 8796093022207 :: 17592186044415 :: []) (0 :: 1 :: 2 :: 3 :: 4 :: 5 :: 6 :: 7 :: 8 :: 9 :: 10 :: 11 :: 12 :: 13 :: 14 :: 15 :: 16 :: 17 :: 18 :: 19 :: 20 :: 21 :: 22 :: 23 :: 24 :: 25 :: 26 :: 27 :: 28 :: 29 :: 30 :: 31 :: 32 :: 33 :: 34 :: 35 :: 36 :: 37 :: 38 :: 39 :: 40 :: 41 :: 42 :: 43 :: 44 :: []) [] (by kernel_rfl) (by kernel_rfl) (fun i T z hi hk => by simp [kdOf] at hk <;> (try (split at hk <;> cases hk))) ?_
              intro Wx hWx
              have HTx := Lib.hid (HT.out.trans hWx)
              clear hWx HT
              have HT := HTx
              clear HTx
              have x0 := (HB3.out.step HT.out).cell 0
              have x1 := (HB3.out.step HT.out).cell 1
              have b1 := HT.out.keeps.cell id HBC.out
              simp only [List.getElem?_cons_zero, List.getElem?_cons_succ] at x0 x1
              repeat (first | (refine run_off rfl rfl (by rfl) ?_; (try simp only [Act.put, List.setIfInBounds_toArray, List.set_cons_zero, List.set_cons_succ])) | (refine run_chain_off rfl rfl (by rfl) (K0_mono _) ?_; (try simp only [Act.put, List.setIfInBounds_toArray, List.set_cons_zero, List.set_cons_succ])) | ((refine run_want rfl rfl (by rfl) ⟨?_, fun W hW => ?_, ?_⟩; rotate_left; (· (have d0 := hW.keeps.cell id x0; have d1 := hW.keeps.cell id x1; have d2 := hW.keeps.cell id b1; go_simp; (try with_reducible rfl)))); (try simp only [Act.put, List.setIfInBounds_toArray, List.set_cons_zero, List.set_cons_succ])))
              clear x0 x1 b1
              refine run_chain rfl rfl (by rfl) (fun Wi hWi K' hK => ?_)
              have HTi := Lib.hid (HT.out.trans hWi)
              clear hWi HT
              go_simp
              refine (bigtopref01.In_any _ _ _ _).mono ?_
              rintro e wn ⟨rfl, rfl⟩
              rw [w1]
              have HT := HTi
              clear HTi
              refine hK _ _ (StepX.refl _ _) ?_
              (try simp only [Act.put, List.setIfInBounds_toArray, List.set_cons_zero, List.set_cons_succ])
              have x0 := (HB3.out.step HT.out).cell 0
              have x1 := (HB3.out.step HT.out).cell 1
              have b1 := HT.out.keeps.cell id HBC.out
              simp only [List.getElem?_cons_zero, List.getElem?_cons_succ] at x0 x1
              repeat (first | (refine run_off rfl rfl (by rfl) ?_; (try simp only [Act.put, List.setIfInBounds_toArray, List.set_cons_zero, List.set_cons_succ])) | (refine run_chain_off rfl rfl (by rfl) (K0_mono _) ?_; (try simp only [Act.put, List.setIfInBounds_toArray, List.set_cons_zero, List.set_cons_succ])) | ((refine run_want rfl rfl (by rfl) ⟨?_, fun W hW => ?_, ?_⟩; rotate_left; (· (have d0 := hW.keeps.cell id x0; have d1 := hW.keeps.cell id x1; have d2 := hW.keeps.cell id b1; go_simp; (try with_reducible rfl)))); (try simp only [Act.put, List.setIfInBounds_toArray, List.set_cons_zero, List.set_cons_succ])))
              clear x0 x1 b1
              refine run_end (L := []) rfl (fun W6 hW6 => ?_)
              have HT6 := Lib.hid (HT.out.trans hW6)
              clear hW6 HT
              have HT := HT6
              clear HT6
              go_wp2
              go_roundw
              case rel => exact ⟨1, by omega, by go_num, fun i hi hl => if e : i + 1 = 1 then by (obtain rfl : i = 1 - 1 := by omega); exact HLV.out else HA.out i (by omega) hl, HTR.out.trans (HS3.out.trans HT.out)⟩
              case measure => simp [intOf]; omega
            have e8 : c8 = false := by rw [← HL8.out]; simp; omega
            subst e8
            by_cases z : xc = 0
            · have hz : (xc == 0) = true := by simpa using z
              have HR := Lib.hid (HNO.out (by rw [HF.out, decide_eq_false L, decide_eq_true z]; rfl))
              clear z L
              refine wp_region_seq (kdOf [2, 41] []) (0 :: 1 :: 3 :: 7 :: 15 :: 31 :: 31 :: 95 :: 223 :: 511 :: 1023 :: 2047 :: 4095 :: 8191 :: 16383 :: 32767 :: 65535 :: 32767 :: 163839 :: 32767 :: 557055 :: 1998847 :: 4095999 :: 8290303 :: 16777215 :: 33554431 :: 67108863 :: 134217727 :: 268435455 :: 536870911 :: 1073741823 :: 2147483647 :: 4294967295 :: 8589934591 :: 17179869183 :: 34359738367 :: 68719476735 :: 137438953471 :: 274877906943 :: 549755813887 :: 1099511627775 :: 2199023255551 :: 4398046511103 :: 8796093022207 :: 17592186044415 :: []) (0 :: 1 :: 2 :: 3 :: 4 :: 5 :: 6 :: 7 :: 8 :: 9 :: 10 :: 11 :: 12 :: 13 :: 14 :: 15 :: 16 :: 17 :: 18 :: 19 :: 20 :: 21 :: 22 :: 23 :: 24 :: 25 :: 26 :: 27 :: 28 :: 29 :: 30 :: 31 :: 32 :: 33 :: 34 :: 35 :: 36 :: 37 :: 38 :: 39 :: 40 :: 41 :: 42 :: 43 :: 44 :: []) [] (by kernel_rfl) (by kernel_rfl) (fun i T z hi hk => by simp [kdOf] at hk <;> (try (split at hk <;> cases hk))) ?_
              intro Wx hWx
              have HTx := Lib.hid (HT.out.trans hWx)
              clear hWx HT
              have HT := HTx
              clear HTx
              have x0 := (HB3.out.step HT.out).cell 0
              have x1 := (HB3.out.step HT.out).cell 1
              have b1 := HT.out.keeps.cell id HBC.out
              simp only [List.getElem?_cons_zero, List.getElem?_cons_succ] at x0 x1
              repeat (first | (refine run_off rfl rfl (by rfl) ?_; (try simp only [Act.put, List.setIfInBounds_toArray, List.set_cons_zero, List.set_cons_succ])) | (refine run_chain_off rfl rfl (by rfl) (K0_mono _) ?_; (try simp only [Act.put, List.setIfInBounds_toArray, List.set_cons_zero, List.set_cons_succ])) | ((refine run_want rfl rfl (by rfl) ⟨?_, fun W hW => ?_, ?_⟩; rotate_left; (· (have d0 := hW.keeps.cell id x0; have d1 := hW.keeps.cell id x1; have d2 := hW.keeps.cell id b1; go_simp; (try with_reducible rfl)))); (try simp only [Act.put, List.setIfInBounds_toArray, List.set_cons_zero, List.set_cons_succ])))
              clear x0 x1 b1
              refine run_chain rfl rfl (by rfl) (fun Wi hWi K' hK => ?_)
              have HTi := Lib.hid (HT.out.trans hWi)
              clear hWi HT
              go_simp
              refine (bigtopref01.In_any _ _ _ _).mono ?_
              rintro e wn ⟨rfl, rfl⟩
              rw [w1]
              have HT := HTi
              clear HTi
              refine hK _ _ (StepX.refl _ _) ?_
              (try simp only [Act.put, List.setIfInBounds_toArray, List.set_cons_zero, List.set_cons_succ])
              have x0 := (HB3.out.step HT.out).cell 0
              have x1 := (HB3.out.step HT.out).cell 1
              have b1 := HT.out.keeps.cell id HBC.out
              simp only [List.getElem?_cons_zero, List.getElem?_cons_succ] at x0 x1
              repeat (first | (refine run_off rfl rfl (by rfl) ?_; (try simp only [Act.put, List.setIfInBounds_toArray, List.set_cons_zero, List.set_cons_succ])) | (refine run_chain_off rfl rfl (by rfl) (K0_mono _) ?_; (try simp only [Act.put, List.setIfInBounds_toArray, List.set_cons_zero, List.set_cons_succ])) | ((refine run_want rfl rfl (by rfl) ⟨?_, fun W hW => ?_, ?_⟩; rotate_left; (· (have d0 := hW.keeps.cell id x0; have d1 := hW.keeps.cell id x1; have d2 := hW.keeps.cell id b1; go_simp; (try with_reducible rfl)))); (try simp only [Act.put, List.setIfInBounds_toArray, List.set_cons_zero, List.set_cons_succ])))
              clear x0 x1 b1
              refine run_end (L := []) rfl (fun W6 hW6 => ?_)
              have HT6 := Lib.hid (HT.out.trans hW6)
              clear hW6 HT
              have HT := HT6
              clear HT6
              go_wp2
              go_ret
              exact ⟨by rw [HR.out]; rfl, HS.out.trans (HTR.out.trans (HS3.out.trans HT.out))⟩
            have hz : (xc == 0) = false := by simpa using z
            cases w3 : withinB xm 1 240 with
            | false =>
              have HR := Lib.hid (HNO.out (by rw [HF.out, decide_eq_false L, decide_eq_false z, w3]; rfl))
              clear z L
              refine wp_region_seq (kdOf [2, 41] []) (0 :: 1 :: 3 :: 7 :: 15 :: 31 :: 31 :: 95 :: 223 :: 511 :: 1023 :: 2047 :: 4095 :: 8191 :: 16383 :: 32767 :: 65535 :: 32767 :: 163839 :: 32767 :: 557055 :: 1998847 :: 4095999 :: 8290303 :: 16777215 :: 33554431 :: 67108863 :: 134217727 :: 268435455 :: 536870911 :: 1073741823 :: 2147483647 :: 4294967295 :: 8589934591 :: 17179869183 :: 34359738367 :: 68719476735 :: 137438953471 :: 274877906943 :: 549755813887 :: 1099511627775 :: 2199023255551 :: 4398046511103 :: 8796093022207 :: 17592186044415 :: []) (0 :: 1 :: 2 :: 3 :: 4 :: 5 :: 6 :: 7 :: 8 :: 9 :: 10 :: 11 :: 12 :: 13 :: 14 :: 15 :: 16 :: 17 :: 18 :: 19 :: 20 :: 21 :: 22 :: 23 :: 24 :: 25 :: 26 :: 27 :: 28 :: 29 :: 30 :: 31 :: 32 :: 33 :: 34 :: 35 :: 36 :: 37 :: 38 :: 39 :: 40 :: 41 :: 42 :: 43 :: 44 :: []) [] (by kernel_rfl) (by kernel_rfl) (fun i T z hi hk => by simp [kdOf] at hk <;> (try (split at hk <;> cases hk))) ?_
              intro Wx hWx
              have HTx := Lib.hid (HT.out.trans hWx)
              clear hWx HT
              have HT := HTx
              clear HTx
              have x0 := (HB3.out.step HT.out).cell 0
              have x1 := (HB3.out.step HT.out).cell 1
              have b1 := HT.out.keeps.cell id HBC.out
              simp only [List.getElem?_cons_zero, List.getElem?_cons_succ] at x0 x1
              repeat (first | (refine run_off rfl rfl (by rfl) ?_; (try simp only [Act.put, List.setIfInBounds_toArray, List.set_cons_zero, List.set_cons_succ])) | (refine run_chain_off rfl rfl (by rfl) (K0_mono _) ?_; (try simp only [Act.put, List.setIfInBounds_toArray, List.set_cons_zero, List.set_cons_succ])) | ((refine run_want rfl rfl (by rfl) ⟨?_, fun W hW => ?_, ?_⟩; rotate_left; (· (have d0 := hW.keeps.cell id x0; have d1 := hW.keeps.cell id x1; have d2 := hW.keeps.cell id b1; go_simp; (try with_reducible rfl)))); (try simp only [Act.put, List.setIfInBounds_toArray, List.set_cons_zero, List.set_cons_succ])))
              clear x0 x1 b1
              refine run_chain rfl rfl (by rfl) (fun Wi hWi K' hK => ?_)
              have HTi := Lib.hid (HT.out.trans hWi)
              clear hWi HT
              go_simp
              refine (bigtopref01.In_any _ _ _ _).mono ?_
              rintro e wn ⟨rfl, rfl⟩
              rw [w1]
              have HT := HTi
              clear HTi
              refine hK _ _ (StepX.refl _ _) ?_
              (try simp only [Act.put, List.setIfInBounds_toArray, List.set_cons_zero, List.set_cons_succ])
              have x0 := (HB3.out.step HT.out).cell 0
              have x1 := (HB3.out.step HT.out).cell 1
              have b1 := HT.out.keeps.cell id HBC.out
              simp only [List.getElem?_cons_zero, List.getElem?_cons_succ] at x0 x1
              repeat (first | (refine run_off rfl rfl (by rfl) ?_; (try simp only [Act.put, List.setIfInBounds_toArray, List.set_cons_zero, List.set_cons_succ])) | (refine run_chain_off rfl rfl (by rfl) (K0_mono _) ?_; (try simp only [Act.put, List.setIfInBounds_toArray, List.set_cons_zero, List.set_cons_succ])) | ((refine run_want rfl rfl (by rfl) ⟨?_, fun W hW => ?_, ?_⟩; rotate_left; (· (have d0 := hW.keeps.cell id x0; have d1 := hW.keeps.cell id x1; have d2 := hW.keeps.cell id b1; go_simp; (try with_reducible rfl)))); (try simp only [Act.put, List.setIfInBounds_toArray, List.set_cons_zero, List.set_cons_succ])))
              clear x0 x1 b1
              refine run_chain rfl rfl (by rfl) (fun Wi hWi K' hK => ?_)
              have HTi := Lib.hid (HT.out.trans hWi)
              clear hWi HT
              go_simp
              refine (bigtopref01.In_any _ _ _ _).mono ?_
              rintro e wn ⟨rfl, rfl⟩
              rw [w3]
              have HT := HTi
              clear HTi
              refine hK _ _ (StepX.refl _ _) ?_
              (try simp only [Act.put, List.setIfInBounds_toArray, List.set_cons_zero, List.set_cons_succ])
              have x0 := (HB3.out.step HT.out).cell 0
              have x1 := (HB3.out.step HT.out).cell 1
              have b1 := HT.out.keeps.cell id HBC.out
              simp only [List.getElem?_cons_zero, List.getElem?_cons_succ] at x0 x1
              repeat (first | (refine run_off rfl rfl (by rfl) ?_; (try simp only [Act.put, List.setIfInBounds_toArray, List.set_cons_zero, List.set_cons_succ])) | (refine run_chain_off rfl rfl (by rfl) (K0_mono _) ?_; (try simp only [Act.put, List.setIfInBounds_toArray, List.set_cons_zero, List.set_cons_succ])) | ((refine run_want rfl rfl (by rfl) ⟨?_, fun W hW => ?_, ?_⟩; rotate_left; (· (have d0 := hW.keeps.cell id x0; have d1 := hW.keeps.cell id x1; have d2 := hW.keeps.cell id b1; go_simp; (try with_reducible rfl)))); (try simp only [Act.put, List.setIfInBounds_toArray, List.set_cons_zero, List.set_cons_succ])))
              clear x0 x1 b1
              refine run_end (L := []) rfl (fun W6 hW6 => ?_)
              have HT6 := Lib.hid (HT.out.trans hW6)
              clear hW6 HT
              have HT := HT6
              clear HT6
              go_wp2
              go_ret
              exact ⟨by rw [HR.out]; rfl, HS.out.trans (HTR.out.trans (HS3.out.trans HT.out))⟩
            | true =>
              have HLV := Lib.hid (show stRefB s.stages (1 - 1) = true by (show stRefB s.stages (0) = true); rw [HF.out, decide_eq_false L, decide_eq_false z, w3]; rfl)
              clear z L
              refine wp_region_seq (kdOf [2, 41] []) (0 :: 1 :: 3 :: 7 :: 15 :: 31 :: 31 :: 95 :: 223 :: 511 :: 1023 :: 2047 :: 4095 :: 8191 :: 16383 :: 32767 :: 65535 :: 32767 :: 163839 :: 32767 :: 557055 :: 1998847 :: 4095999 :: 8290303 :: 16777215 :: 33554431 :: 67108863 :: 134217727 :: 268435455 :: 536870911 :: 1073741823 :: 2147483647 :: 4294967295 :: 8589934591 :: 17179869183 :: 34359738367 :: 68719476735 :: 137438953471 :: 274877906943 :: 549755813887 :: 1099511627775 :: 2199023255551 :: 4398046511103 :: 8796093022207 :: 17592186044415 :: []) (0 :: 1 :: 2 :: 3 :: 4 :: 5 :: 6 :: 7 :: 8 :: 9 :: 10 :: 11 :: 12 :: 13 :: 14 :: 15 :: 16 :: 17 :: 18 :: 19 :: 20 :: 21 :: 22 :: 23 :: 24 :: 25 :: 26 :: 27 :: 28 :: 29 :: 30 :: 31 :: 32 :: 33 :: 34 :: 35 :: 36 :: 37 :: 38 :: 39 :: 40 :: 41 :: 42 :: 43 :: 44 :: []) [] (by kernel_rfl) (by kernel_rfl) (fun i T z hi hk => by simp [kdOf] at hk <;> (try (split at hk <;> cases hk))) ?_
              intro Wx hWx
              have HTx := Lib.hid (HT.out.trans hWx)
              clear hWx HT
              have HT := HTx
              clear HTx
              have x0 := (HB3.out.step HT.out).cell 0
              have x1 := (HB3.out.step HT.out).cell 1
              have b1 := HT.out.keeps.cell id HBC.out
              simp only [List.getElem?_cons_zero, List.getElem?_cons_succ] at x0 x1
              repeat (first | (refine run_off rfl rfl (by rfl) ?_; (try simp only [Act.put, List.setIfInBounds_toArray, List.set_cons_zero, List.set_cons_succ])) | (refine run_chain_off rfl rfl (by rfl) (K0_mono _) ?_; (try simp only [Act.put, List.setIfInBounds_toArray, List.set_cons_zero, List.set_cons_succ])) | ((refine run_want rfl rfl (by rfl) ⟨?_, fun W hW => ?_, ?_⟩; rotate_left; (· (have d0 := hW.keeps.cell id x0; have d1 := hW.keeps.cell id x1; have d2 := hW.keeps.cell id b1; go_simp; (try with_reducible rfl)))); (try simp only [Act.put, List.setIfInBounds_toArray, List.set_cons_zero, List.set_cons_succ])))
              clear x0 x1 b1
              refine run_chain rfl rfl (by rfl) (fun Wi hWi K' hK => ?_)
              have HTi := Lib.hid (HT.out.trans hWi)
              clear hWi HT
              go_simp
              refine (bigtopref01.In_any _ _ _ _).mono ?_
              rintro e wn ⟨rfl, rfl⟩
              rw [w1]
              have HT := HTi
              clear HTi
              refine hK _ _ (StepX.refl _ _) ?_
              (try simp only [Act.put, List.setIfInBounds_toArray, List.set_cons_zero, List.set_cons_succ])
              have x0 := (HB3.out.step HT.out).cell 0
              have x1 := (HB3.out.step HT.out).cell 1
              have b1 := HT.out.keeps.cell id HBC.out
              simp only [List.getElem?_cons_zero, List.getElem?_cons_succ] at x0 x1
              repeat (first | (refine run_off rfl rfl (by rfl) ?_; (try simp only [Act.put, List.setIfInBounds_toArray, List.set_cons_zero, List.set_cons_succ])) | (refine run_chain_off rfl rfl (by rfl) (K0_mono _) ?_; (try simp only [Act.put, List.setIfInBounds_toArray, List.set_cons_zero, List.set_cons_succ])) | ((refine run_want rfl rfl (by rfl) ⟨?_, fun W hW => ?_, ?_⟩; rotate_left; (· (have d0 := hW.keeps.cell id x0; have d1 := hW.keeps.cell id x1; have d2 := hW.keeps.cell id b1; go_simp; (try with_reducible rfl)))); (try simp only [Act.put, List.setIfInBounds_toArray, List.set_cons_zero, List.set_cons_succ])))
              clear x0 x1 b1
              refine run_chain rfl rfl (by rfl) (fun Wi hWi K' hK => ?_)
              have HTi := Lib.hid (HT.out.trans hWi)
              clear hWi HT
              go_simp
              refine (bigtopref01.In_any _ _ _ _).mono ?_
              rintro e wn ⟨rfl, rfl⟩
              rw [w3]
              have HT := HTi
              clear HTi
              refine hK _ _ (StepX.refl _ _) ?_
              (try simp only [Act.put, List.setIfInBounds_toArray, List.set_cons_zero, List.set_cons_succ])
              have x0 := (HB3.out.step HT.out).cell 0
              have x1 := (HB3.out.step HT.out).cell 1
              have b1 := HT.out.keeps.cell id HBC.out
              simp only [List.getElem?_cons_zero, List.getElem?_cons_succ] at x0 x1
              repeat (first | (refine run_off rfl rfl (by rfl) ?_; (try simp only [Act.put, List.setIfInBounds_toArray, List.set_cons_zero, List.set_cons_succ])) | (refine run_chain_off rfl rfl (by rfl) (K0_mono _) ?_; (try simp only [Act.put, List.setIfInBounds_toArray, List.set_cons_zero, List.set_cons_succ])) | ((refine run_want rfl rfl (by rfl) ⟨?_, fun W hW => ?_, ?_⟩; rotate_left; (· (have d0 := hW.keeps.cell id x0; have d1 := hW.keeps.cell id x1; have d2 := hW.keeps.cell id b1; go_simp; (try with_reducible rfl)))); (try simp only [Act.put, List.setIfInBounds_toArray, List.set_cons_zero, List.set_cons_succ])))
              clear x0 x1 b1
              refine run_end (L := []) rfl (fun W6 hW6 => ?_)
              have HT6 := Lib.hid (HT.out.trans hW6)
              clear hW6 HT
              have HT := HT6
              clear HT6
              go_wp2
              go_roundw
              case rel => exact ⟨1, by omega, by go_num, fun i hi hl => if e : i + 1 = 1 then by (obtain rfl : i = 1 - 1 := by omega); exact HLV.out else HA.out i (by omega) hl, HTR.out.trans (HS3.out.trans HT.out)⟩
              case measure => simp [intOf]; omega
          | succ j =>
            have hpre := HPRE.out j rfl
            obtain ⟨g1, g2⟩ := hpre
            have hjx : (0 : Int) ≤ (j : Int) ∧ (j : Int) < (s.stages.length : Int) := by omega
            have hwj : IntKind.i64.wrap (j : Int) = (j : Int) := by rw [IntKind.wrap_i64]; omega
            have hd0 : decide ((0 : Int) < ((j + 1 : Nat) : Int)) = true := decide_eq_true (by omega)
            have HLC := Lib.hid (show stRefB s.stages (j + 1) = (withinB xc 0 100 && (decide (j + 1 + 1 = s.stages.length) == decide (xc = 0)) && decide (xc < s.stages[j].cover) && (!decide (j + 1 + 1 = s.stages.length) || decide (xm = 0)) && (decide (j + 1 + 1 = s.stages.length) || withinB xm 1 240)) by
              rw [HLB.out]
              simp only [List.getElem?_eq_getElem (show j < s.stages.length by omega)])
            obtain ⟨y, hy⟩ : ∃ y, y = s.stages[j] := ⟨_, rfl⟩
            rw [← hy] at g1 g2 HLC
            obtain ⟨yu, yp⟩ := y
            dsimp only at g1 g2 HLC
            have HG := Lib.hid (And.intro (HS3.out.keeps.cell id g1) (HS3.out.keeps.cell id g2))
            clear g1 g2 hy
            have HF := Lib.hid (show stRefB s.stages (j + 1) = ((decide (j + 1 + 1 = s.stages.length) == decide (xc = 0)) && decide (xc < yu) && (!decide (j + 1 + 1 = s.stages.length) || decide (xm = 0)) && (decide (j + 1 + 1 = s.stages.length) || withinB xm 1 240)) by rw [HLC.out, w1]; rfl)
            by_cases L : j + 1 + 1 = s.stages.length
            · have e8 : c8 = true := by rw [← HL8.out]; simp; omega
              subst e8
              by_cases z : xc = 0
              rotate_left
              · have hz : (xc == 0) = false := by simpa using z
                have HR := Lib.hid (HNO.out (by rw [HF.out, decide_eq_true L, decide_eq_false z]; rfl))
                clear z L
                refine wp_region_seq (kdOf [2, 41] []) (0 :: 1 :: 3 :: 7 :: 15 :: 31 :: 31 :: 95 :: 223 :: 511 :: 1023 :: 2047 :: 4095 :: 8191 :: 16383 :: 32767 :: 65535 :: 32767 :: 163839 :: 32767 :: 557055 :: 1998847 :: 4095999 :: 8290303 :: 16777215 :: 33554431 :: 67108863 :: 134217727 :: 268435455 :: 536870911 :: 1073741823 :: 2147483647 :: 4294967295 :: 8589934591 :: 17179869183 :: 34359738367 :: 68719476735 :: 137438953471 :: 274877906943 :: 549755813887 :: 1099511627775 :: 2199023255551 :: 4398046511103 :: 8796093022207 :: 17592186044415 :: []) (0 :: 1 :: 2 :: 3 :: 4 :: 5 :: 6 :: 7 :: 8 :: 9 :: 10 :: 11 :: 12 :: 13 :: 14 :: 15 :: 16 :: 17 :: 18 :: 19 :: 20 :: 21 :: 22 :: 23 :: 24 :: 25 :: 26 :: 27 :: 28 :: 29 :: 30 :: 31 :: 32 :: 33 :: 34 :: 35 :: 36 :: 37 :: 38 :: 39 :: 40 :: 41 :: 42 :: 43 :: 44 :: []) [] (by kernel_rfl) (by kernel_rfl) (fun i T z hi hk => by simp [kdOf] at hk <;> (try (split at hk <;> cases hk))) ?_
                intro Wx hWx
                have HTx := Lib.hid (HT.out.trans hWx)
                clear hWx HT
                have HT := HTx
                clear HTx
                have x0 := (HB3.out.step HT.out).cell 0
                have x1 := (HB3.out.step HT.out).cell 1
                have b1 := HT.out.keeps.cell id HBC.out
                simp only [List.getElem?_cons_zero, List.getElem?_cons_succ] at x0 x1
                repeat (first | (refine run_off rfl rfl (by rfl) ?_; (try simp only [Act.put, List.setIfInBounds_toArray, List.set_cons_zero, List.set_cons_succ])) | (refine run_chain_off rfl rfl (by rfl) (K0_mono _) ?_; (try simp only [Act.put, List.setIfInBounds_toArray, List.set_cons_zero, List.set_cons_succ])) | ((refine run_want rfl rfl (by rfl) ⟨?_, fun W hW => ?_, ?_⟩; rotate_left; (· (have d0 := hW.keeps.cell id x0; have d1 := hW.keeps.cell id x1; have d2 := hW.keeps.cell id b1; go_simp; (try with_reducible rfl)))); (try simp only [Act.put, List.setIfInBounds_toArray, List.set_cons_zero, List.set_cons_succ])))
                clear x0 x1 b1
                refine run_chain rfl rfl (by rfl) (fun Wi hWi K' hK => ?_)
                have HTi := Lib.hid (HT.out.trans hWi)
                clear hWi HT
                go_simp
                refine (bigtopref01.In_any _ _ _ _).mono ?_
                rintro e wn ⟨rfl, rfl⟩
                rw [w1]
                have HT := HTi
                clear HTi
                refine hK _ _ (StepX.refl _ _) ?_
                (try simp only [Act.put, List.setIfInBounds_toArray, List.set_cons_zero, List.set_cons_succ])
                have g1 := HT.out.keeps.cell id HG.out.1
                have g2 := HT.out.keeps.cell id HG.out.2
                have x0 := (HB3.out.step HT.out).cell 0
                have x1 := (HB3.out.step HT.out).cell 1
                have b1 := HT.out.keeps.cell id HBC.out
                simp only [List.getElem?_cons_zero, List.getElem?_cons_succ] at x0 x1
                repeat (first | (refine run_off rfl rfl (by rfl) ?_; (try simp only [Act.put, List.setIfInBounds_toArray, List.set_cons_zero, List.set_cons_succ])) | (refine run_chain_off rfl rfl (by rfl) (K0_mono _) ?_; (try simp only [Act.put, List.setIfInBounds_toArray, List.set_cons_zero, List.set_cons_succ])) | ((refine run_want rfl rfl (by rfl) ⟨?_, fun W hW => ?_, ?_⟩; rotate_left; (· (have d0 := hW.keeps.cell id x0; have d1 := hW.keeps.cell id x1; have d2 := hW.keeps.cell id b1; have d3 := hW.keeps.cell id g1; have d4 := hW.keeps.cell id g2; go_simp; (try with_reducible rfl)))); (try simp only [Act.put, List.setIfInBounds_toArray, List.set_cons_zero, List.set_cons_succ])))
                clear x0 x1 b1
                clear g1 g2
                refine run_end (L := []) rfl (fun W6 hW6 => ?_)
                have HT6 := Lib.hid (HT.out.trans hW6)
                clear hW6 HT
                have HT := HT6
                clear HT6
                go_wp2
                go_ret
                exact ⟨by rw [HR.out]; rfl, HS.out.trans (HTR.out.trans (HS3.out.trans HT.out))⟩
              have hz : (xc == 0) = true := by simpa using z
              by_cases c : yu ≤ xc
              · have hc : decide (yu ≤ xc) = true := decide_eq_true c
                have HR := Lib.hid (HNO.out (by rw [HF.out, decide_eq_true L, decide_eq_true z, decide_eq_false (show ¬ xc < yu by omega)]; rfl))
                clear z L c
                refine wp_region_seq (kdOf [2, 41] []) (0 :: 1 :: 3 :: 7 :: 15 :: 31 :: 31 :: 95 :: 223 :: 511 :: 1023 :: 2047 :: 4095 :: 8191 :: 16383 :: 32767 :: 65535 :: 32767 :: 163839 :: 32767 :: 557055 :: 1998847 :: 4095999 :: 8290303 :: 16777215 :: 33554431 :: 67108863 :: 134217727 :: 268435455 :: 536870911 :: 1073741823 :: 2147483647 :: 4294967295 :: 8589934591 :: 17179869183 :: 34359738367 :: 68719476735 :: 137438953471 :: 274877906943 :: 549755813887 :: 1099511627775 :: 2199023255551 :: 4398046511103 :: 8796093022207 :: 17592186044415 :: []) (0 :: 1 :: 2 :: 3 :: 4 :: 5 :: 6 :: 7 :: 8 :: 9 :: 10 :: 11 :: 12 :: 13 :: 14 :: 15 :: 16 :: 17 :: 18 :: 19 :: 20 :: 21 :: 22 :: 23 :: 24 :: 25 :: 26 :: 27 :: 28 :: 29 :: 30 :: 31 :: 32 :: 33 :: 34 :: 35 :: 36 :: 37 :: 38 :: 39 :: 40 :: 41 :: 42 :: 43 :: 44 :: []) [] (by kernel_rfl) (by kernel_rfl) (fun i T z hi hk => by simp [kdOf] at hk <;> (try (split at hk <;> cases hk))) ?_
                intro Wx hWx
                have HTx := Lib.hid (HT.out.trans hWx)
                clear hWx HT
                have HT := HTx
                clear HTx
                have x0 := (HB3.out.step HT.out).cell 0
                have x1 := (HB3.out.step HT.out).cell 1
                have b1 := HT.out.keeps.cell id HBC.out
                simp only [List.getElem?_cons_zero, List.getElem?_cons_succ] at x0 x1
                repeat (first | (refine run_off rfl rfl (by rfl) ?_; (try simp only [Act.put, List.setIfInBounds_toArray, List.set_cons_zero, List.set_cons_succ])) | (refine run_chain_off rfl rfl (by rfl) (K0_mono _) ?_; (try simp only [Act.put, List.setIfInBounds_toArray, List.set_cons_zero, List.set_cons_succ])) | ((refine run_want rfl rfl (by rfl) ⟨?_, fun W hW => ?_, ?_⟩; rotate_left; (· (have d0 := hW.keeps.cell id x0; have d1 := hW.keeps.cell id x1; have d2 := hW.keeps.cell id b1; go_simp; (try with_reducible rfl)))); (try simp only [Act.put, List.setIfInBounds_toArray, List.set_cons_zero, List.set_cons_succ])))
                clear x0 x1 b1
                refine run_chain rfl rfl (by rfl) (fun Wi hWi K' hK => ?_)
                have HTi := Lib.hid (HT.out.trans hWi)
                clear hWi HT
                go_simp
                refine (bigtopref01.In_any _ _ _ _).mono ?_
                rintro e wn ⟨rfl, rfl⟩
                rw [w1]
                have HT := HTi
                clear HTi
                refine hK _ _ (StepX.refl _ _) ?_
                (try simp only [Act.put, List.setIfInBounds_toArray, List.set_cons_zero, List.set_cons_succ])
                have g1 := HT.out.keeps.cell id HG.out.1
                have g2 := HT.out.keeps.cell id HG.out.2
                have x0 := (HB3.out.step HT.out).cell 0
                have x1 := (HB3.out.step HT.out).cell 1
                have b1 := HT.out.keeps.cell id HBC.out
                simp only [List.getElem?_cons_zero, List.getElem?_cons_succ] at x0 x1
                repeat (first | (refine run_off rfl rfl (by rfl) ?_; (try simp only [Act.put, List.setIfInBounds_toArray, List.set_cons_zero, List.set_cons_succ])) | (refine run_chain_off rfl rfl (by rfl) (K0_mono _) ?_; (try simp only [Act.put, List.setIfInBounds_toArray, List.set_cons_zero, List.set_cons_succ])) | ((refine run_want rfl rfl (by rfl) ⟨?_, fun W hW => ?_, ?_⟩; rotate_left; (· (have d0 := hW.keeps.cell id x0; have d1 := hW.keeps.cell id x1; have d2 := hW.keeps.cell id b1; have d3 := hW.keeps.cell id g1; have d4 := hW.keeps.cell id g2; go_simp; (try with_reducible rfl)))); (try simp only [Act.put, List.setIfInBounds_toArray, List.set_cons_zero, List.set_cons_succ])))
                clear x0 x1 b1
                clear g1 g2
                refine run_end (L := []) rfl (fun W6 hW6 => ?_)
                have HT6 := Lib.hid (HT.out.trans hW6)
                clear hW6 HT
                have HT := HT6
                clear HT6
                go_wp2
                go_ret
                exact ⟨by rw [HR.out]; rfl, HS.out.trans (HTR.out.trans (HS3.out.trans HT.out))⟩
              have hc : decide (yu ≤ xc) = false := decide_eq_false c
              by_cases m : xm = 0
              rotate_left
              · have hmm : (xm != 0) = true := by simpa using m
                have HR := Lib.hid (HNO.out (by rw [HF.out, decide_eq_true L, decide_eq_true z, decide_eq_true (show xc < yu by omega), decide_eq_false m]; rfl))
                clear z L m c
                refine wp_region_seq (kdOf [2, 41] []) (0 :: 1 :: 3 :: 7 :: 15 :: 31 :: 31 :: 95 :: 223 :: 511 :: 1023 :: 2047 :: 4095 :: 8191 :: 16383 :: 32767 :: 65535 :: 32767 :: 163839 :: 32767 :: 557055 :: 1998847 :: 4095999 :: 8290303 :: 16777215 :: 33554431 :: 67108863 :: 134217727 :: 268435455 :: 536870911 :: 1073741823 :: 2147483647 :: 4294967295 :: 8589934591 :: 17179869183 :: 34359738367 :: 68719476735 :: 137438953471 :: 274877906943 :: 549755813887 :: 1099511627775 :: 2199023255551 :: 4398046511103 :: 8796093022207 :: 17592186044415 :: []) (0 :: 1 :: 2 :: 3 :: 4 :: 5 :: 6 :: 7 :: 8 :: 9 :: 10 :: 11 :: 12 :: 13 :: 14 :: 15 :: 16 :: 17 :: 18 :: 19 :: 20 :: 21 :: 22 :: 23 :: 24 :: 25 :: 26 :: 27 :: 28 :: 29 :: 30 :: 31 :: 32 :: 33 :: 34 :: 35 :: 36 :: 37 :: 38 :: 39 :: 40 :: 41 :: 42 :: 43 :: 44 :: []) [] (by kernel_rfl) (by kernel_rfl) (fun i T z hi hk => by simp [kdOf] at hk <;> (try (split at hk <;> cases hk))) ?_
                intro Wx hWx
                have HTx := Lib.hid (HT.out.trans hWx)
                clear hWx HT
                have HT := HTx
                clear HTx
                have x0 := (HB3.out.step HT.out).cell 0
                have x1 := (HB3.out.step HT.out).cell 1
                have b1 := HT.out.keeps.cell id HBC.out
                simp only [List.getElem?_cons_zero, List.getElem?_cons_succ] at x0 x1
                repeat (first | (refine run_off rfl rfl (by rfl) ?_; (try simp only [Act.put, List.setIfInBounds_toArray, List.set_cons_zero, List.set_cons_succ])) | (refine run_chain_off rfl rfl (by rfl) (K0_mono _) ?_; (try simp only [Act.put, List.setIfInBounds_toArray, List.set_cons_zero, List.set_cons_succ])) | ((refine run_want rfl rfl (by rfl) ⟨?_, fun W hW => ?_, ?_⟩; rotate_left; (· (have d0 := hW.keeps.cell id x0; have d1 := hW.keeps.cell id x1; have d2 := hW.keeps.cell id b1; go_simp; (try with_reducible rfl)))); (try simp only [Act.put, List.setIfInBounds_toArray, List.set_cons_zero, List.set_cons_succ])))
                clear x0 x1 b1
                refine run_chain rfl rfl (by rfl) (fun Wi hWi K' hK => ?_)
                have HTi := Lib.hid (HT.out.trans hWi)
                clear hWi HT
                go_simp
                refine (bigtopref01.In_any _ _ _ _).mono ?_
                rintro e wn ⟨rfl, rfl⟩
                rw [w1]
                have HT := HTi
                clear HTi
                refine hK _ _ (StepX.refl _ _) ?_
                (try simp only [Act.put, List.setIfInBounds_toArray, List.set_cons_zero, List.set_cons_succ])
                have g1 := HT.out.keeps.cell id HG.out.1
                have g2 := HT.out.keeps.cell id HG.out.2
                have x0 := (HB3.out.step HT.out).cell 0
                have x1 := (HB3.out.step HT.out).cell 1
                have b1 := HT.out.keeps.cell id HBC.out
                simp only [List.getElem?_cons_zero, List.getElem?_cons_succ] at x0 x1
                repeat (first | (refine run_off rfl rfl (by rfl) ?_; (try simp only [Act.put, List.setIfInBounds_toArray, List.set_cons_zero, List.set_cons_succ])) | (refine run_chain_off rfl rfl (by rfl) (K0_mono _) ?_; (try simp only [Act.put, List.setIfInBounds_toArray, List.set_cons_zero, List.set_cons_succ])) | ((refine run_want rfl rfl (by rfl) ⟨?_, fun W hW => ?_, ?_⟩; rotate_left; (· (have d0 := hW.keeps.cell id x0; have d1 := hW.keeps.cell id x1; have d2 := hW.keeps.cell id b1; have d3 := hW.keeps.cell id g1; have d4 := hW.keeps.cell id g2; go_simp; (try with_reducible rfl)))); (try simp only [Act.put, List.setIfInBounds_toArray, List.set_cons_zero, List.set_cons_succ])))
                clear x0 x1 b1
                clear g1 g2
                refine run_end (L := []) rfl (fun W6 hW6 => ?_)
                have HT6 := Lib.hid (HT.out.trans hW6)
                clear hW6 HT
                have HT := HT6
                clear HT6
                go_wp2
                go_ret
                exact ⟨by rw [HR.out]; rfl, HS.out.trans (HTR.out.trans (HS3.out.trans HT.out))⟩
              have hmm : (xm != 0) = false := by simpa using m
              have HLV := Lib.hid (show stRefB s.stages (j + 1 + 1 - 1) = true by (show stRefB s.stages (j + 1) = true); rw [HF.out, decide_eq_true L, decide_eq_true z, decide_eq_true (show xc < yu by omega), decide_eq_true m]; rfl)
              clear z L m c
              refine wp_region_seq (kdOf [2, 41] []) (0 :: 1 :: 3 :: 7 :: 15 :: 31 :: 31 :: 95 :: 223 :: 511 :: 1023 :: 2047 :: 4095 :: 8191 :: 16383 :: 32767 :: 65535 :: 32767 :: 163839 :: 32767 :: 557055 :: 1998847 :: 4095999 :: 8290303 :: 16777215 :: 33554431 :: 67108863 :: 134217727 :: 268435455 :: 536870911 :: 1073741823 :: 2147483647 :: 4294967295 :: 8589934591 :: 17179869183 :: 34359738367 :: 68719476735 :: 137438953471 :: 274877906943 :: 549755813887 :: 1099511627775 :: 2199023255551 :: 4398046511103 :: 8796093022207 :: 17592186044415 :: []) (0 :: 1 :: 2 :: 3 :: 4 :: 5 :: 6 :: 7 :: 8 :: 9 :: 10 :: 11 :: 12 :: 13 :: 14 :: 15 :: 16 :: 17 :: 18 :: 19 :: 20 :: 21 :: 22 :: 23 :: 24 :: 25 :: 26 :: 27 :: 28 :: 29 :: 30 :: 31 :: 32 :: 33 :: 34 :: 35 :: 36 :: 37 :: 38 :: 39 :: 40 :: 41 :: 42 :: 43 :: 44 :: []) [] (by kernel_rfl) (by kernel_rfl) (fun i T z hi hk => by simp [kdOf] at hk <;> (try (split at hk <;> cases hk))) ?_
              intro Wx hWx
              have HTx := Lib.hid (HT.out.trans hWx)
              clear hWx HT
              have HT := HTx
              clear HTx
              have x0 := (HB3.out.step HT.out).cell 0
              have x1 := (HB3.out.step HT.out).cell 1
              have b1 := HT.out.keeps.cell id HBC.out
              simp only [List.getElem?_cons_zero, List.getElem?_cons_succ] at x0 x1
              repeat (first | (refine run_off rfl rfl (by rfl) ?_; (try simp only [Act.put, List.setIfInBounds_toArray, List.set_cons_zero, List.set_cons_succ])) | (refine run_chain_off rfl rfl (by rfl) (K0_mono _) ?_; (try simp only [Act.put, List.setIfInBounds_toArray, List.set_cons_zero, List.set_cons_succ])) | ((refine run_want rfl rfl (by rfl) ⟨?_, fun W hW => ?_, ?_⟩; rotate_left; (· (have d0 := hW.keeps.cell id x0; have d1 := hW.keeps.cell id x1; have d2 := hW.keeps.cell id b1; go_simp; (try with_reducible rfl)))); (try simp only [Act.put, List.setIfInBounds_toArray, List.set_cons_zero, List.set_cons_succ])))
              clear x0 x1 b1
              refine run_chain rfl rfl (by rfl) (fun Wi hWi K' hK => ?_)
              have HTi := Lib.hid (HT.out.trans hWi)
              clear hWi HT
              go_simp
              refine (bigtopref01.In_any _ _ _ _).mono ?_
              rintro e wn ⟨rfl, rfl⟩
              rw [w1]
              have HT := HTi
              clear HTi
              refine hK _ _ (StepX.refl _ _) ?_
              (try simp only [Act.put, List.setIfInBounds_toArray, List.set_cons_zero, List.set_cons_succ])
              have g1 := HT.out.keeps.cell id HG.out.1
              have g2 := HT.out.keeps.cell id HG.out.2
              have x0 := (HB3.out.step HT.out).cell 0
              have x1 := (HB3.out.step HT.out).cell 1
              have b1 := HT.out.keeps.cell id HBC.out
              simp only [List.getElem?_cons_zero, List.getElem?_cons_succ] at x0 x1
              repeat (first | (refine run_off rfl rfl (by rfl) ?_; (try simp only [Act.put, List.setIfInBounds_toArray, List.set_cons_zero, List.set_cons_succ])) | (refine run_chain_off rfl rfl (by rfl) (K0_mono _) ?_; (try simp only [Act.put, List.setIfInBounds_toArray, List.set_cons_zero, List.set_cons_succ])) | ((refine run_want rfl rfl (by rfl) ⟨?_, fun W hW => ?_, ?_⟩; rotate_left; (· (have d0 := hW.keeps.cell id x0; have d1 := hW.keeps.cell id x1; have d2 := hW.keeps.cell id b1; have d3 := hW.keeps.cell id g1; have d4 := hW.keeps.cell id g2; go_simp; (try with_reducible rfl)))); (try simp only [Act.put, List.setIfInBounds_toArray, List.set_cons_zero, List.set_cons_succ])))
              clear x0 x1 b1
              clear g1 g2
              refine run_end (L := []) rfl (fun W6 hW6 => ?_)
              have HT6 := Lib.hid (HT.out.trans hW6)
              clear hW6 HT
              have HT := HT6
              clear HT6
              go_wp2
              go_roundw
              case rel => exact ⟨j + 1 + 1, by omega, by go_num, fun i hi hl => if e : i + 1 = j + 1 + 1 then by (obtain rfl : i = j + 1 + 1 - 1 := by omega); exact HLV.out else HA.out i (by omega) hl, HTR.out.trans (HS3.out.trans HT.out)⟩
              case measure => simp [intOf]; omega
            have e8 : c8 = false := by rw [← HL8.out]; simp; omega
            subst e8
            by_cases z : xc = 0
            · have hz : (xc == 0) = true := by simpa using z
              have HR := Lib.hid (HNO.out (by rw [HF.out, decide_eq_false L, decide_eq_true z]; rfl))
              clear z L
              refine wp_region_seq (kdOf [2, 41] []) (0 :: 1 :: 3 :: 7 :: 15 :: 31 :: 31 :: 95 :: 223 :: 511 :: 1023 :: 2047 :: 4095 :: 8191 :: 16383 :: 32767 :: 65535 :: 32767 :: 163839 :: 32767 :: 557055 :: 1998847 :: 4095999 :: 8290303 :: 16777215 :: 33554431 :: 67108863 :: 134217727 :: 268435455 :: 536870911 :: 1073741823 :: 2147483647 :: 4294967295 :: 8589934591 :: 17179869183 :: 34359738367 :: 68719476735 :: 137438953471 :: 274877906943 :: 549755813887 :: 1099511627775 :: 2199023255551 :: 4398046511103 :: 8796093022207 :: 17592186044415 :: []) (0 :: 1 :: 2 :: 3 :: 4 :: 5 :: 6 :: 7 :: 8 :: 9 :: 10 :: 11 :: 12 :: 13 :: 14 :: 15 :: 16 :: 17 :: 18 :: 19 :: 20 :: 21 :: 22 :: 23 :: 24 :: 25 :: 26 :: 27 :: 28 :: 29 :: 30 :: 31 :: 32 :: 33 :: 34 :: 35 :: 36 :: 37 :: 38 :: 39 :: 40 :: 41 :: 42 :: 43 :: 44 :: []) [] (by kernel_rfl) (by kernel_rfl) (fun i T z hi hk => by simp [kdOf] at hk <;> (try (split at hk <;> cases hk))) ?_
              intro Wx hWx
              have HTx := Lib.hid (HT.out.trans hWx)
              clear hWx HT
              have HT := HTx
              clear HTx
              have x0 := (HB3.out.step HT.out).cell 0
              have x1 := (HB3.out.step HT.out).cell 1
              have b1 := HT.out.keeps.cell id HBC.out
              simp only [List.getElem?_cons_zero, List.getElem?_cons_succ] at x0 x1
              repeat (first | (refine run_off rfl rfl (by rfl) ?_; (try simp only [Act.put, List.setIfInBounds_toArray, List.set_cons_zero, List.set_cons_succ])) | (refine run_chain_off rfl rfl (by rfl) (K0_mono _) ?_; (try simp only [Act.put, List.setIfInBounds_toArray, List.set_cons_zero, List.set_cons_succ])) | ((refine run_want rfl rfl (by rfl) ⟨?_, fun W hW => ?_, ?_⟩; rotate_left; (· (have d0 := hW.keeps.cell id x0; have d1 := hW.keeps.cell id x1; have d2 := hW.keeps.cell id b1; go_simp; (try with_reducible rfl)))); (try simp only [Act.put, List.setIfInBounds_toArray, List.set_cons_zero, List.set_cons_succ])))
              clear x0 x1 b1
              refine run_chain rfl rfl (by rfl) (fun Wi hWi K' hK => ?_)
              have HTi := Lib.hid (HT.out.trans hWi)
              clear hWi HT
              go_simp
              refine (bigtopref01.In_any _ _ _ _).mono ?_
              rintro e wn ⟨rfl, rfl⟩
              rw [w1]
              have HT := HTi
              clear HTi
              refine hK _ _ (StepX.refl _ _) ?_
              (try simp only [Act.put, List.setIfInBounds_toArray, List.set_cons_zero, List.set_cons_succ])
              have g1 := HT.out.keeps.cell id HG.out.1
              have g2 := HT.out.keeps.cell id HG.out.2
              have x0 := (HB3.out.step HT.out).cell 0
              have x1 := (HB3.out.step HT.out).cell 1
              have b1 := HT.out.keeps.cell id HBC.out
              simp only [List.getElem?_cons_zero, List.getElem?_cons_succ] at x0 x1
              repeat (first | (refine run_off rfl rfl (by rfl) ?_; (try simp only [Act.put, List.setIfInBounds_toArray, List.set_cons_zero, List.set_cons_succ])) | (refine run_chain_off rfl rfl (by rfl) (K0_mono _) ?_; (try simp only [Act.put, List.setIfInBounds_toArray, List.set_cons_zero, List.set_cons_succ])) | ((refine run_want rfl rfl (by rfl) ⟨?_, fun W hW => ?_, ?_⟩; rotate_left; (· (have d0 := hW.keeps.cell id x0; have d1 := hW.keeps.cell id x1; have d2 := hW.keeps.cell id b1; have d3 := hW.keeps.cell id g1; have d4 := hW.keeps.cell id g2; go_simp; (try with_reducible rfl)))); (try simp only [Act.put, List.setIfInBounds_toArray, List.set_cons_zero, List.set_cons_succ])))
              clear x0 x1 b1
              clear g1 g2
              refine run_end (L := []) rfl (fun W6 hW6 => ?_)
              have HT6 := Lib.hid (HT.out.trans hW6)
              clear hW6 HT
              have HT := HT6
              clear HT6
              go_wp2
              go_ret
              exact ⟨by rw [HR.out]; rfl, HS.out.trans (HTR.out.trans (HS3.out.trans HT.out))⟩
            have hz : (xc == 0) = false := by simpa using z
            by_cases c : yu ≤ xc
            · have hc : decide (yu ≤ xc) = true := decide_eq_true c
              have HR := Lib.hid (HNO.out (by rw [HF.out, decide_eq_false L, decide_eq_false z, decide_eq_false (show ¬ xc < yu by omega)]; rfl))
              clear z L c
              refine wp_region_seq (kdOf [2, 41] []) (0 :: 1 :: 3 :: 7 :: 15 :: 31 :: 31 :: 95 :: 223 :: 511 :: 1023 :: 2047 :: 4095 :: 8191 :: 16383 :: 32767 :: 65535 :: 32767 :: 163839 :: 32767 :: 557055 :: 1998847 :: 4095999 :: 8290303 :: 16777215 :: 33554431 :: 67108863 :: 134217727 :: 268435455 :: 536870911 :: 1073741823 :: 2147483647 :: 4294967295 :: 8589934591 :: 17179869183 :: 34359738367 :: 68719476735 :: 137438953471 :: 274877906943 :: 549755813887 :: 1099511627775 :: 2199023255551 :: 4398046511103 :: 8796093022207 :: 17592186044415 :: []) (0 :: 1 :: 2 :: 3 :: 4 :: 5 :: 6 :: 7 :: 8 :: 9 :: 10 :: 11 :: 12 :: 13 :: 14 :: 15 :: 16 :: 17 :: 18 :: 19 :: 20 :: 21 :: 22 :: 23 :: 24 :: 25 :: 26 :: 27 :: 28 :: 29 :: 30 :: 31 :: 32 :: 33 :: 34 :: 35 :: 36 :: 37 :: 38 :: 39 :: 40 :: 41 :: 42 :: 43 :: 44 :: []) [] (by kernel_rfl) (by kernel_rfl) (fun i T z hi hk => by simp [kdOf] at hk <;> (try (split at hk <;> cases hk))) ?_
              intro Wx hWx
              have HTx := Lib.hid (HT.out.trans hWx)
              clear hWx HT
              have HT := HTx
              clear HTx
              have x0 := (HB3.out.step HT.out).cell 0
              have x1 := (HB3.out.step HT.out).cell 1
              have b1 := HT.out.keeps.cell id HBC.out
              simp only [List.getElem?_cons_zero, List.getElem?_cons_succ] at x0 x1
              repeat (first | (refine run_off rfl rfl (by rfl) ?_; (try simp only [Act.put, List.setIfInBounds_toArray, List.set_cons_zero, List.set_cons_succ])) | (refine run_chain_off rfl rfl (by rfl) (K0_mono _) ?_; (try simp only [Act.put, List.setIfInBounds_toArray, List.set_cons_zero, List.set_cons_succ])) | ((refine run_want rfl rfl (by rfl) ⟨?_, fun W hW => ?_, ?_⟩; rotate_left; (· (have d0 := hW.keeps.cell id x0; have d1 := hW.keeps.cell id x1; have d2 := hW.keeps.cell id b1; go_simp; (try with_reducible rfl)))); (try simp only [Act.put, List.setIfInBounds_toArray, List.set_cons_zero, List.set_cons_succ])))
              clear x0 x1 b1
              refine run_chain rfl rfl (by rfl) (fun Wi hWi K' hK => ?_)
              have HTi := Lib.hid (HT.out.trans hWi)
              clear hWi HT
              go_simp
              refine (bigtopref01.In_any _ _ _ _).mono ?_
              rintro e wn ⟨rfl, rfl⟩
              rw [w1]
              have HT := HTi
              clear HTi
              refine hK _ _ (StepX.refl _ _) ?_
              (try simp only [Act.put, List.setIfInBounds_toArray, List.set_cons_zero, List.set_cons_succ])
              have g1 := HT.out.keeps.cell id HG.out.1
              have g2 := HT.out.keeps.cell id HG.out.2
              have x0 := (HB3.out.step HT.out).cell 0
              have x1 := (HB3.out.step HT.out).cell 1
              have b1 := HT.out.keeps.cell id HBC.out
              simp only [List.getElem?_cons_zero, List.getElem?_cons_succ] at x0 x1
              repeat (first | (refine run_off rfl rfl (by rfl) ?_; (try simp only [Act.put, List.setIfInBounds_toArray, List.set_cons_zero, List.set_cons_succ])) | (refine run_chain_off rfl rfl (by rfl) (K0_mono _) ?_; (try simp only [Act.put, List.setIfInBounds_toArray, List.set_cons_zero, List.set_cons_succ])) | ((refine run_want rfl rfl (by rfl) ⟨?_, fun W hW => ?_, ?_⟩; rotate_left; (· (have d0 := hW.keeps.cell id x0; have d1 := hW.keeps.cell id x1; have d2 := hW.keeps.cell id b1; have d3 := hW.keeps.cell id g1; have d4 := hW.keeps.cell id g2; go_simp; (try with_reducible rfl)))); (try simp only [Act.put, List.setIfInBounds_toArray, List.set_cons_zero, List.set_cons_succ])))
              clear x0 x1 b1
              clear g1 g2
              refine run_end (L := []) rfl (fun W6 hW6 => ?_)
              have HT6 := Lib.hid (HT.out.trans hW6)
              clear hW6 HT
              have HT := HT6
              clear HT6
              go_wp2
              go_ret
              exact ⟨by rw [HR.out]; rfl, HS.out.trans (HTR.out.trans (HS3.out.trans HT.out))⟩
            have hc : decide (yu ≤ xc) = false := decide_eq_false c
            cases w3 : withinB xm 1 240 with
            | false =>
              have HR := Lib.hid (HNO.out (by rw [HF.out, decide_eq_false L, decide_eq_false z, decide_eq_true (show xc < yu by omega), w3]; rfl))
              clear z L c
              refine wp_region_seq (kdOf [2, 41] []) (0 :: 1 :: 3 :: 7 :: 15 :: 31 :: 31 :: 95 :: 223 :: 511 :: 1023 :: 2047 :: 4095 :: 8191 :: 16383 :: 32767 :: 65535 :: 32767 :: 163839 :: 32767 :: 557055 :: 1998847 :: 4095999 :: 8290303 :: 16777215 :: 33554431 :: 67108863 :: 134217727 :: 268435455 :: 536870911 :: 1073741823 :: 2147483647 :: 4294967295 :: 8589934591 :: 17179869183 :: 34359738367 :: 68719476735 :: 137438953471 :: 274877906943 :: 549755813887 :: 1099511627775 :: 2199023255551 :: 4398046511103 :: 8796093022207 :: 17592186044415 :: []) (0 :: 1 :: 2 :: 3 :: 4 :: 5 :: 6 :: 7 :: 8 :: 9 :: 10 :: 11 :: 12 :: 13 :: 14 :: 15 :: 16 :: 17 :: 18 :: 19 :: 20 :: 21 :: 22 :: 23 :: 24 :: 25 :: 26 :: 27 :: 28 :: 29 :: 30 :: 31 :: 32 :: 33 :: 34 :: 35 :: 36 :: 37 :: 38 :: 39 :: 40 :: 41 :: 42 :: 43 :: 44 :: []) [] (by kernel_rfl) (by kernel_rfl) (fun i T z hi hk => by simp [kdOf] at hk <;> (try (split at hk <;> cases hk))) ?_
              intro Wx hWx
              have HTx := Lib.hid (HT.out.trans hWx)
              clear hWx HT
              have HT := HTx
              clear HTx
              have x0 := (HB3.out.step HT.out).cell 0
              have x1 := (HB3.out.step HT.out).cell 1
              have b1 := HT.out.keeps.cell id HBC.out
              simp only [List.getElem?_cons_zero, List.getElem?_cons_succ] at x0 x1
              repeat (first | (refine run_off rfl rfl (by rfl) ?_; (try simp only [Act.put, List.setIfInBounds_toArray, List.set_cons_zero, List.set_cons_succ])) | (refine run_chain_off rfl rfl (by rfl) (K0_mono _) ?_; (try simp only [Act.put, List.setIfInBounds_toArray, List.set_cons_zero, List.set_cons_succ])) | ((refine run_want rfl rfl (by rfl) ⟨?_, fun W hW => ?_, ?_⟩; rotate_left; (· (have d0 := hW.keeps.cell id x0; have d1 := hW.keeps.cell id x1; have d2 := hW.keeps.cell id b1; go_simp; (try with_reducible rfl)))); (try simp only [Act.put, List.setIfInBounds_toArray, List.set_cons_zero, List.set_cons_succ])))
              clear x0 x1 b1
              refine run_chain rfl rfl (by rfl) (fun Wi hWi K' hK => ?_)
              have HTi := Lib.hid (HT.out.trans hWi)
              clear hWi HT
              go_simp
              refine (bigtopref01.In_any _ _ _ _).mono ?_
              rintro e wn ⟨rfl, rfl⟩
              rw [w1]
              have HT := HTi
              clear HTi
              refine hK _ _ (StepX.refl _ _) ?_
              (try simp only [Act.put, List.setIfInBounds_toArray, List.set_cons_zero, List.set_cons_succ])
              have g1 := HT.out.keeps.cell id HG.out.1
              have g2 := HT.out.keeps.cell id HG.out.2
              have x0 := (HB3.out.step HT.out).cell 0
              have x1 := (HB3.out.step HT.out).cell 1
              have b1 := HT.out.keeps.cell id HBC.out
              simp only [List.getElem?_cons_zero, List.getElem?_cons_succ] at x0 x1
              repeat (first | (refine run_off rfl rfl (by rfl) ?_; (try simp only [Act.put, List.setIfInBounds_toArray, List.set_cons_zero, List.set_cons_succ])) | (refine run_chain_off rfl rfl (by rfl) (K0_mono _) ?_; (try simp only [Act.put, List.setIfInBounds_toArray, List.set_cons_zero, List.set_cons_succ])) | ((refine run_want rfl rfl (by rfl) ⟨?_, fun W hW => ?_, ?_⟩; rotate_left; (· (have d0 := hW.keeps.cell id x0; have d1 := hW.keeps.cell id x1; have d2 := hW.keeps.cell id b1; have d3 := hW.keeps.cell id g1; have d4 := hW.keeps.cell id g2; go_simp; (try with_reducible rfl)))); (try simp only [Act.put, List.setIfInBounds_toArray, List.set_cons_zero, List.set_cons_succ])))
              clear x0 x1 b1
              clear g1 g2
              refine run_chain rfl rfl (by rfl) (fun Wi hWi K' hK => ?_)
              have HTi := Lib.hid (HT.out.trans hWi)
              clear hWi HT
              go_simp
              refine (bigtopref01.In_any _ _ _ _).mono ?_
              rintro e wn ⟨rfl, rfl⟩
              rw [w3]
              have HT := HTi
              clear HTi
              refine hK _ _ (StepX.refl _ _) ?_
              (try simp only [Act.put, List.setIfInBounds_toArray, List.set_cons_zero, List.set_cons_succ])
              have g1 := HT.out.keeps.cell id HG.out.1
              have g2 := HT.out.keeps.cell id HG.out.2
              have x0 := (HB3.out.step HT.out).cell 0
              have x1 := (HB3.out.step HT.out).cell 1
              have b1 := HT.out.keeps.cell id HBC.out
              simp only [List.getElem?_cons_zero, List.getElem?_cons_succ] at x0 x1
              repeat (first | (refine run_off rfl rfl (by rfl) ?_; (try simp only [Act.put, List.setIfInBounds_toArray, List.set_cons_zero, List.set_cons_succ])) | (refine run_chain_off rfl rfl (by rfl) (K0_mono _) ?_; (try simp only [Act.put, List.setIfInBounds_toArray, List.set_cons_zero, List.set_cons_succ])) | ((refine run_want rfl rfl (by rfl) ⟨?_, fun W hW => ?_, ?_⟩; rotate_left; (· (have d0 := hW.keeps.cell id x0; have d1 := hW.keeps.cell id x1; have d2 := hW.keeps.cell id b1; have d3 := hW.keeps.cell id g1; have d4 := hW.keeps.cell id g2; go_simp; (try with_reducible rfl)))); (try simp only [Act.put, List.setIfInBounds_toArray, List.set_cons_zero, List.set_cons_succ])))
              clear x0 x1 b1
              clear g1 g2
              refine run_end (L := []) rfl (fun W6 hW6 => ?_)
              have HT6 := Lib.hid (HT.out.trans hW6)
              clear hW6 HT
              have HT := HT6
              clear HT6
              go_wp2
              go_ret
              exact ⟨by rw [HR.out]; rfl, HS.out.trans (HTR.out.trans (HS3.out.trans HT.out))⟩
            | true =>
              have HLV := Lib.hid (show stRefB s.stages (j + 1 + 1 - 1) = true by (show stRefB s.stages (j + 1) = true); rw [HF.out, decide_eq_false L, decide_eq_false z, decide_eq_true (show xc < yu by omega), w3]; rfl)
              clear z L c
              refine wp_region_seq (kdOf [2, 41] []) (0 :: 1 :: 3 :: 7 :: 15 :: 31 :: 31 :: 95 :: 223 :: 511 :: 1023 :: 2047 :: 4095 :: 8191 :: 16383 :: 32767 :: 65535 :: 32767 :: 163839 :: 32767 :: 557055 :: 1998847 :: 4095999 :: 8290303 :: 16777215 :: 33554431 :: 67108863 :: 134217727 :: 268435455 :: 536870911 :: 1073741823 :: 2147483647 :: 4294967295 :: 8589934591 :: 17179869183 :: 34359738367 :: 68719476735 :: 137438953471 :: 274877906943 :: 549755813887 :: 1099511627775 :: 2199023255551 :: 4398046511103 :: 8796093022207 :: 17592186044415 :: []) (0 :: 1 :: 2 :: 3 :: 4 :: 5 :: 6 :: 7 :: 8 :: 9 :: 10 :: 11 :: 12 :: 13 :: 14 :: 15 :: 16 :: 17 :: 18 :: 19 :: 20 :: 21 :: 22 :: 23 :: 24 :: 25 :: 26 :: 27 :: 28 :: 29 :: 30 :: 31 :: 32 :: 33 :: 34 :: 35 :: 36 :: 37 :: 38 :: 39 :: 40 :: 41 :: 42 :: 43 :: 44 :: []) [] (by kernel_rfl) (by kernel_rfl) (fun i T z hi hk => by simp [kdOf] at hk <;> (try (split at hk <;> cases hk))) ?_
              intro Wx hWx
              have HTx := Lib.hid (HT.out.trans hWx)
              clear hWx HT
              have HT := HTx
              clear HTx
              have x0 := (HB3.out.step HT.out).cell 0
              have x1 := (HB3.out.step HT.out).cell 1
              have b1 := HT.out.keeps.cell id HBC.out
              simp only [List.getElem?_cons_zero, List.getElem?_cons_succ] at x0 x1
              repeat (first | (refine run_off rfl rfl (by rfl) ?_; (try simp only [Act.put, List.setIfInBounds_toArray, List.set_cons_zero, List.set_cons_succ])) | (refine run_chain_off rfl rfl (by rfl) (K0_mono _) ?_; (try simp only [Act.put, List.setIfInBounds_toArray, List.set_cons_zero, List.set_cons_succ])) | ((refine run_want rfl rfl (by rfl) ⟨?_, fun W hW => ?_, ?_⟩; rotate_left; (· (have d0 := hW.keeps.cell id x0; have d1 := hW.keeps.cell id x1; have d2 := hW.keeps.cell id b1; go_simp; (try with_reducible rfl)))); (try simp only [Act.put, List.setIfInBounds_toArray, List.set_cons_zero, List.set_cons_succ])))
              clear x0 x1 b1
              refine run_chain rfl rfl (by rfl) (fun Wi hWi K' hK => ?_)
              have HTi := Lib.hid (HT.out.trans hWi)
              clear hWi HT
              go_simp
              refine (bigtopref01.In_any _ _ _ _).mono ?_
              rintro e wn ⟨rfl, rfl⟩
              rw [w1]
              have HT := HTi
              clear HTi
              refine hK _ _ (StepX.refl _ _) ?_
              (try simp only [Act.put, List.setIfInBounds_toArray, List.set_cons_zero, List.set_cons_succ])
              have g1 := HT.out.keeps.cell id HG.out.1
              have g2 := HT.out.keeps.cell id HG.out.2
              have x0 := (HB3.out.step HT.out).cell 0
              have x1 := (HB3.out.step HT.out).cell 1
              have b1 := HT.out.keeps.cell id HBC.out
              simp only [List.getElem?_cons_zero, List.getElem?_cons_succ] at x0 x1
              repeat (first | (refine run_off rfl rfl (by rfl) ?_; (try simp only [Act.put, List.setIfInBounds_toArray, List.set_cons_zero, List.set_cons_succ])) | (refine run_chain_off rfl rfl (by rfl) (K0_mono _) ?_; (try simp only [Act.put, List.setIfInBounds_toArray, List.set_cons_zero, List.set_cons_succ])) | ((refine run_want rfl rfl (by rfl) ⟨?_, fun W hW => ?_, ?_⟩; rotate_left; (· (have d0 := hW.keeps.cell id x0; have d1 := hW.keeps.cell id x1; have d2 := hW.keeps.cell id b1; have d3 := hW.keeps.cell id g1; have d4 := hW.keeps.cell id g2; go_simp; (try with_reducible rfl)))); (try simp only [Act.put, List.setIfInBounds_toArray, List.set_cons_zero, List.set_cons_succ])))
              clear x0 x1 b1
              clear g1 g2
              refine run_chain rfl rfl (by rfl) (fun Wi hWi K' hK => ?_)
              have HTi := Lib.hid (HT.out.trans hWi)
              clear hWi HT
              go_simp
              refine (bigtopref01.In_any _ _ _ _).mono ?_
              rintro e wn ⟨rfl, rfl⟩
              rw [w3]
              have HT := HTi
              clear HTi
              refine hK _ _ (StepX.refl _ _) ?_
              (try simp only [Act.put, List.setIfInBounds_toArray, List.set_cons_zero, List.set_cons_succ])
              have g1 := HT.out.keeps.cell id HG.out.1
              have g2 := HT.out.keeps.cell id HG.out.2
              have x0 := (HB3.out.step HT.out).cell 0
              have x1 := (HB3.out.step HT.out).cell 1
              have b1 := HT.out.keeps.cell id HBC.out
              simp only [List.getElem?_cons_zero, List.getElem?_cons_succ] at x0 x1
              repeat (first | (refine run_off rfl rfl (by rfl) ?_; (try simp only [Act.put, List.setIfInBounds_toArray, List.set_cons_zero, List.set_cons_succ])) | (refine run_chain_off rfl rfl (by rfl) (K0_mono _) ?_; (try simp only [Act.put, List.setIfInBounds_toArray, List.set_cons_zero, List.set_cons_succ])) | ((refine run_want rfl rfl (by rfl) ⟨?_, fun W hW => ?_, ?_⟩; rotate_left; (· (have d0 := hW.keeps.cell id x0; have d1 := hW.keeps.cell id x1; have d2 := hW.keeps.cell id b1; have d3 := hW.keeps.cell id g1; have d4 := hW.keeps.cell id g2; go_simp; (try with_reducible rfl)))); (try simp only [Act.put, List.setIfInBounds_toArray, List.set_cons_zero, List.set_cons_succ])))
              clear x0 x1 b1
              clear g1 g2
              refine run_end (L := []) rfl (fun W6 hW6 => ?_)
              have HT6 := Lib.hid (HT.out.trans hW6)
              clear hW6 HT
              have HT := HT6
              clear HT6
              go_wp2
              go_roundw
              case rel => exact ⟨j + 1 + 1, by omega, by go_num, fun i hi hl => if e : i + 1 = j + 1 + 1 then by (obtain rfl : i = j + 1 + 1 - 1 := by omega); exact HLV.out else HA.out i (by omega) hl, HTR.out.trans (HS3.out.trans HT.out)⟩
              case measure => simp [intOf]; omega
        have HFIN := Lib.hid (show siteB s = (withinB s.base.length 1 12 && withinB s.levels.length 1 10 && withinB s.stages.length 2 8 && withinB s.openS 0 ((s.stages.length : Int) - 2)) by
          have hst : (List.range s.stages.length).all (stRefB s.stages) = true := by
            rw [List.all_eq_true]
            intro i hi
            rw [List.mem_range] at hi
            exact HA.out i (by omega) hi
          rw [HSR.out, HBW.out, HLW.out, hst]; simp only [Bool.true_and])
        have hwn : IntKind.i64.wrap ((s.stages.length : Int) - 2) = (s.stages.length : Int) - 2 := by rw [IntKind.wrap_i64]; omega
        have v0 := (HB.out.step HTR.out).cell 0
        have v1 := (HB.out.step HTR.out).cell 1
        have v2 := (HB.out.step HTR.out).cell 2
        have v3 := (HB.out.step HTR.out).cell 3
        simp only [List.getElem?_cons_zero, List.getElem?_cons_succ] at v0 v1 v2 v3
        clear b2 HA hk
        go_wp2_with fail
        refine (bigtopref01.In_any _ _ _ _).mono ?_
        rintro e wn ⟨rfl, rfl⟩
        cases w1 : withinB s.base.length 1 12 with
        | false =>
          have HR := Lib.hid (show siteB s = false by rw [HFIN.out, w1]; rfl)
          clear w1
          go_wp2
          go_ret
          exact ⟨by rw [HR.out]; rfl, HS.out.trans HTR.out⟩
        | true =>
        go_wp2_with fail
        refine (bigtopref01.In_any _ _ _ _).mono ?_
        rintro e wn ⟨rfl, rfl⟩
        cases w2 : withinB s.levels.length 1 10 with
        | false =>
          have HR := Lib.hid (show siteB s = false by rw [HFIN.out, w1, w2]; rfl)
          clear w1 w2
          go_wp2
          go_ret
          exact ⟨by rw [HR.out]; rfl, HS.out.trans HTR.out⟩
        | true =>
        go_wp2_with fail
        refine (bigtopref01.In_any _ _ _ _).mono ?_
        rintro e wn ⟨rfl, rfl⟩
        cases w3 : withinB s.stages.length 2 8 with
        | false =>
          have HR := Lib.hid (show siteB s = false by rw [HFIN.out, w1, w2, w3]; rfl)
          clear w1 w2 w3
          go_wp2
          go_ret
          exact ⟨by rw [HR.out]; rfl, HS.out.trans HTR.out⟩
        | true =>
        go_wp2_with fail
        refine (bigtopref01.In_any _ _ _ _).mono ?_
        rintro e wn ⟨rfl, rfl⟩
        have HR := Lib.hid (show siteB s = withinB s.openS 0 ((s.stages.length : Int) - 2) by rw [HFIN.out, w1, w2, w3]; rfl)
        clear w1 w2 w3
        go_wp2
        go_ret
        exact ⟨by rw [HR.out]; rfl, HS.out.trans HTR.out⟩
end Go.Proofs.YtoanjaidfdkdpaaGreat
/- Walks: the law TopStorm: it answers true. -/
namespace Go.BT
theorem worst_code {l : List Fc} {rs : List Rdg} (h1 : forecastsC l = 0) (h2 : readingsC l rs = 0) : worstC l rs = 0 ∨ worstC l rs = 7 := by
  unfold worstC readC
  rw [if_pos h1, if_pos h2]
  split
  · exact .inr rfl
  · exact .inl rfl
theorem worst_is {l : List Fc} {rs : List Rdg} (h1 : forecastsC l = 0) (h : worstC l rs = 0) : windsB (worstR l rs) = true ∧ (worstR l rs).length = hoursN l := by
  unfold worstR
  rw [if_pos h]
  exact ⟨worst_winds h1, by simp [worstL]⟩
theorem sound_code (l : List Tst) : soundC l = 0 ∨ soundC l = 9 := by
  unfold soundC
  split
  · exact .inr rfl
  · exact .inl rfl
theorem areas {t : List Head} (h : tentB t = true) : ∀ x ∈ t, 0 ≤ x.area := by
  intro x hx
  have := List.all_eq_true.1 (by unfold tentB at h; exact (Bool.and_eq_true_iff.1 h).2) x hx
  simp only [headB, Bool.and_eq_true, withinB, decide_eq_true_eq] at this
  exact this.1.1.1.1
theorem begin_small {s : Site} {limits worst : List Int} {i : Nat} {b : Int} (h : BeginOk s limits worst i b) (h0 : 0 ≤ b) (hw : worst.length ≤ 48) : b + minutesAt s i ≤ 2880 := by
  unfold BeginOk at h
  split at h
  · omega
  · rename_i d hd
    have : d < worst.length := by
      unfold deadI at hd
      rw [List.findIdx?_eq_some_iff_getElem] at hd
      exact hd.1
    omega
theorem limits_at {l : List Tst} {t : List Head} {s : Site} {m : Nat} (hm : m < s.stages.length) : (limitsL l t s).getD m 0 = limitL l t s s.stages[m].cover := by
  unfold limitsL
  rw [List.getD_eq_getElem?_getD, List.getElem?_map, List.getElem?_eq_getElem hm]
  rfl
theorem minutes_at {s : Site} {m : Nat} (hm : m < s.stages.length) : minutesAt s m = s.stages[m].minutes := by
  unfold minutesAt
  rw [List.getElem?_eq_getElem hm]
theorem winds_at {l : List Int} (h : windsB l = true) {k : Nat} (hk : k < l.length) : 0 ≤ l[k] ∧ l[k] ≤ 1000 := by
  simp only [windsB, Bool.and_eq_true] at h
  have := all_get h.2 hk
  simpa [withinB] using this
end Go.BT
namespace Go.Proofs.YtoanjaidfdkdpaaGreat
set_option linter.unusedSimpArgs false
set_option linter.unusedVariables false
open Go.RowKit Go.BT

theorem u8_ofG {n : Int} (h : (Lit.int .u8 n).wf = true) : 0 ≤ n ∧ n ≤ 255 := by
  have h1 : IntKind.u8.min = 0 := rfl
  have h2 : IntKind.u8.max = 255 := rfl
  simp [Lit.wf] at h; omega
theorem weakR_stand {l : List Tst} {t : List Head} {wind : List Vec} (h : blownC l t wind = 0) (hs : standB l t wind = true) : (weakR l t wind).1 = -1 := by
  unfold weakR
  rw [if_pos h, weakP_iff.2 hs]









set_option maxRecDepth 100000 in
set_option maxHeartbeats 16000000 in
theorem TopStorm_any (l : List Tst) (t : List Head) (s : Site) (fl : List Fc) (rs : List Rdg) (o0 : Int) (v u x y z : Value) (w : World) (hv : SL (fun _ => False) w v l) (hu : SL (fun _ => False) w u t) (hx : AV (fun _ => False) w x s) (hy : SL (fun _ => False) w y fl) (hz : SL (fun _ => False) w z rs) (ho : (Lit.int .u8 o0).wf = true) :
    Calls Tryz.prog 3 #[v, u, x, y, z, .int .u8 o0] w fun e w' => e = .returned (.bool true) ∧ Step w w' := by
  obtain ⟨c0, c1, c2, rfl, h0, h1, h2⟩ := hx.site
  obtain ⟨p0, k0, rfl⟩ := h0.form
  obtain ⟨p1, k1, rfl⟩ := h1.form
  obtain ⟨p2, k2, rfl⟩ := h2.form
  obtain ⟨W0, hW0⟩ : ∃ W, W = w.alloc (.cells #[.slice p0 s.base.length k0, .slice p1 s.levels.length k1, .slice p2 s.stages.length k2, .int .i64 s.openS] 29) := ⟨_, rfl⟩
  have hS : Step w W0 := by subst hW0; exact Step.alloc _ _
  have HB := Lib.hid (show Bx W0 w.heap.size [.slice p0 s.base.length k0, .slice p1 s.levels.length k1, .slice p2 s.stages.length k2, .int .i64 s.openS] 29 by subst hW0; exact Bx.new w [_, _, _, _] _)
  have HL1 := Lib.hid (SL.go h1 (Step.refl w))
  have HL2 := Lib.hid (SL.go h2 (Step.refl w))
  have HV := Lib.hid (SL.go hv hS)
  have HU := Lib.hid (SL.go hu hS)
  have HY := Lib.hid (SL.go hy hS)
  have HZ := Lib.hid (SL.go hz hS)
  have HX := Lib.hid (AV.go hx hS)
  have HS := Lib.hid hS
  have HT := Lib.hid (Step.refl W0)
  have HW := Lib.hid hW0
  have HO := Lib.hid ho
  obtain ⟨pv, cv, rfl⟩ := hv.form
  obtain ⟨pu, cu, rfl⟩ := hu.form
  obtain ⟨py, cy, rfl⟩ := hy.form
  obtain ⟨pz, cz, rfl⟩ := hz.form
  clear hS hW0 hv hu hx hy hz h0 h1 h2 ho
  go_enter Tryz.func3, Tryz.ntmps3
  go_upto_region 1 with (fail)
  rw [← HW.out]
  go_wp2_with fail
  refine (Few_any (fun _ => False) l t _ _ _ (HV.out.keep (.of_step HT.out)) (HU.out.keep (.of_step HT.out))).mono ?_
  rintro e wn ⟨rfl, hSn⟩
  have HTi := Lib.hid (HT.out.trans hSn)
  clear hSn HT
  have HT := HTi
  clear HTi
  cases qf : few l t with
  | false =>
    clear qf
    go_wp2_with fail
    refine (Sblows_any _).mono ?_
    rintro e wz ⟨rfl, hSz⟩
    go_wp2
    go_ret
    exact ⟨rfl, HS.out.trans (HT.out.trans hSz)⟩
  | true =>
  have HFEW := Lib.hid (few_of qf)
  clear qf
  go_wp2_with fail
  refine (Fault_any (fun _ => False) l t _ _ _ (SL.go HV.out HT.out) (SL.go HU.out HT.out)).mono ?_
  rintro e wn ⟨rfl, hSn⟩
  have HTi := Lib.hid (HT.out.trans hSn)
  clear hSn HT
  have HT := HTi
  clear HTi
  obtain ⟨c, hc⟩ : ∃ c, c = readyC l t := ⟨_, rfl⟩
  rw [← hc]
  by_cases h0 : c = 0
  rotate_left
  · have hd : (c != 0) = true := by simpa using h0
    clear h0 hc
    go_wp2_with fail
    refine (Sblows_any _).mono ?_
    rintro e wz ⟨rfl, hSz⟩
    go_wp2
    go_ret
    exact ⟨rfl, HS.out.trans (HT.out.trans hSz)⟩
  subst h0
  have HRD := Lib.hid hc.symm
  clear hc
  have n0 := (HB.out.step HT.out).cell 0
  have n1 := (HB.out.step HT.out).cell 1
  have n2 := (HB.out.step HT.out).cell 2
  have n3 := (HB.out.step HT.out).cell 3
  simp only [List.getElem?_cons_zero, List.getElem?_cons_succ] at n0 n1 n2 n3
  go_wp2_with fail
  refine (RightS_any s _ _ (AV.go HX.out HT.out)).mono ?_
  rintro e wn ⟨rfl, hSn⟩
  have HTi := Lib.hid (HT.out.trans hSn)
  clear hSn HT
  have HT := HTi
  clear HTi
  clear n0 n1 n2 n3
  obtain ⟨c, hc⟩ : ∃ c, c = siteB s := ⟨_, rfl⟩
  rw [← hc]
  cases c with
  | false =>
    clear hc
    go_wp2_with fail
    refine (Sblows_any _).mono ?_
    rintro e wz ⟨rfl, hSz⟩
    go_wp2
    go_ret
    exact ⟨rfl, HS.out.trans (HT.out.trans hSz)⟩
  | true =>
  have HSB := Lib.hid hc.symm
  clear hc
  go_wp2_with fail
  refine (ForecastsFault_any (fun _ => False) fl _ _ (SL.go HY.out HT.out)).mono ?_
  rintro e wn ⟨rfl, hSn⟩
  have HTi := Lib.hid (HT.out.trans hSn)
  clear hSn HT
  have HT := HTi
  clear HTi
  obtain ⟨c, hc⟩ : ∃ c, c = forecastsC fl := ⟨_, rfl⟩
  rw [← hc]
  by_cases h0 : c = 0
  rotate_left
  · have hd : (c != 0) = true := by simpa using h0
    clear h0 hc
    go_wp2_with fail
    refine (Sblows_any _).mono ?_
    rintro e wz ⟨rfl, hSz⟩
    go_wp2
    go_ret
    exact ⟨rfl, HS.out.trans (HT.out.trans hSz)⟩
  subst h0
  have HFC := Lib.hid hc.symm
  clear hc
  have HFP := Lib.hid (And.intro (few_parts (forecasts_ok HFC.out).1) (hoursN_le HFC.out))
  go_wp2_with fail
  refine (ReadingsFault_any (fun _ => False) fl rs _ _ _ (SL.go HY.out HT.out) (SL.go HZ.out HT.out) (by have := HFP.out.1.1; omega) HFP.out.2.2).mono ?_
  rintro e wn ⟨rfl, hSn⟩
  have HTi := Lib.hid (HT.out.trans hSn)
  clear hSn HT
  have HT := HTi
  clear HTi
  obtain ⟨c, hc⟩ : ∃ c, c = readingsC fl rs := ⟨_, rfl⟩
  rw [← hc]
  by_cases h0 : c = 0
  rotate_left
  · have hd : (c != 0) = true := by simpa using h0
    clear h0 hc
    go_wp2_with fail
    refine (Sblows_any _).mono ?_
    rintro e wz ⟨rfl, hSz⟩
    go_wp2
    go_ret
    exact ⟨rfl, HS.out.trans (HT.out.trans hSz)⟩
  subst h0
  have HRC := Lib.hid hc.symm
  clear hc
  go_upto_region 3 with (fail)
  have HSO := Lib.hid (site_ok HSB.out)
  have HRL := Lib.hid (show rs.length ≤ 1000 by
    have h := HRC.out
    unfold readingsC at h
    split at h
    · omega
    · exact absurd h (by decide))
  have HTS := Lib.hid (show testsC l = 0 by
    have h := HRD.out
    unfold readyC at h; split at h
    · assumption
    · rename_i q; exact absurd h q)
  have HTB := Lib.hid (ready_ok HRD.out).2
  refine wp_region_seq (kdOf [1, 3, 5, 6] []) [0, 1, 0, 7, 0, 31, 63, 127, 255, 255, 511, 2047] [0, 2, 4, 1, 3, 5, 6, 7, 8, 9, 10, 11] [] (by kernel_rfl) (by kernel_rfl) (fun i T z hi hk => by simp [kdOf] at hk <;> (try (split at hk <;> cases hk))) ?_
  intro Wx hWx
  have HTx := Lib.hid (HT.out.trans hWx)
  clear hWx HT
  have HT := HTx
  clear HTx
  have n0 := (HB.out.step HT.out).cell 0
  have n1 := (HB.out.step HT.out).cell 1
  have n2 := (HB.out.step HT.out).cell 2
  have n3 := (HB.out.step HT.out).cell 3
  simp only [List.getElem?_cons_zero, List.getElem?_cons_succ] at n0 n1 n2 n3
  repeat (first | (refine run_off rfl rfl (by rfl) ?_; (try simp only [Act.put, List.setIfInBounds_toArray, List.set_cons_zero, List.set_cons_succ])) | (refine run_chain_off rfl rfl (by rfl) (K0_mono _) ?_; (try simp only [Act.put, List.setIfInBounds_toArray, List.set_cons_zero, List.set_cons_succ])) | ((refine run_want rfl rfl (by rfl) ⟨?_, fun W hW => ?_, ?_⟩; rotate_left; (· (have d0 := hW.keeps.cell id n0; have d1 := hW.keeps.cell id n1; have d2 := hW.keeps.cell id n2; have d3 := hW.keeps.cell id n3; go_simp; (try with_reducible rfl)))); (try simp only [Act.put, List.setIfInBounds_toArray, List.set_cons_zero, List.set_cons_succ])))
  clear n0 n1 n2 n3
  refine run_chain rfl rfl (by rfl) (fun Wi hWi K' hK => ?_)
  have HTi := Lib.hid (HT.out.trans hWi)
  have HZW := Lib.hid HTi.out.size
  clear hWi HT
  go_simp
  refine (Tests_any _ l _ _ (SL.go HV.out HTi.out) (by have := HFEW.out.1; omega)).mono ?_
  rintro e wn ⟨v1, rfl, hv1, hSn⟩
  have HT := Lib.hid (HTi.out.trans (StepX.of hSn))
  clear HTi
  have Hhv1 := Lib.hid (SL.go hv1 (Step.refl _))
  clear hv1
  refine hK _ _ (StepX.of hSn) ?_
  clear hSn
  (try simp only [Act.put, List.setIfInBounds_toArray, List.set_cons_zero, List.set_cons_succ])
  have n0 := (HB.out.step HT.out).cell 0
  have n1 := (HB.out.step HT.out).cell 1
  have n2 := (HB.out.step HT.out).cell 2
  have n3 := (HB.out.step HT.out).cell 3
  simp only [List.getElem?_cons_zero, List.getElem?_cons_succ] at n0 n1 n2 n3
  repeat (first | (refine run_off rfl rfl (by rfl) ?_; (try simp only [Act.put, List.setIfInBounds_toArray, List.set_cons_zero, List.set_cons_succ])) | (refine run_chain_off rfl rfl (by rfl) (K0_mono _) ?_; (try simp only [Act.put, List.setIfInBounds_toArray, List.set_cons_zero, List.set_cons_succ])) | ((refine run_want rfl rfl (by rfl) ⟨?_, fun W hW => ?_, ?_⟩; rotate_left; (· (have d0 := hW.keeps.cell id n0; have d1 := hW.keeps.cell id n1; have d2 := hW.keeps.cell id n2; have d3 := hW.keeps.cell id n3; go_simp; (try with_reducible rfl)))); (try simp only [Act.put, List.setIfInBounds_toArray, List.set_cons_zero, List.set_cons_succ])))
  clear n0 n1 n2 n3
  refine run_chain rfl rfl (by rfl) (fun Wi hWi K' hK => ?_)
  have HTi := Lib.hid (HT.out.trans hWi)
  have h1i := Lib.hid (SL.go Hhv1.out hWi)
  clear hWi HT Hhv1
  go_simp
  refine (Tent_any _ t _ _ (SL.go HU.out HTi.out) HFEW.out.2).mono ?_
  rintro e wn ⟨v2, rfl, hv2, hSn⟩
  have HT := Lib.hid (HTi.out.trans (StepX.of hSn))
  have Hhv1 := Lib.hid (SL.go h1i.out hSn)
  have HZI := Lib.hid HTi.out.size
  clear HTi h1i
  have Hhv2 := Lib.hid (SL.go hv2 (Step.refl _))
  clear hv2
  refine hK _ _ (StepX.of hSn) ?_
  clear hSn
  (try simp only [Act.put, List.setIfInBounds_toArray, List.set_cons_zero, List.set_cons_succ])
  have n0 := (HB.out.step HT.out).cell 0
  have n1 := (HB.out.step HT.out).cell 1
  have n2 := (HB.out.step HT.out).cell 2
  have n3 := (HB.out.step HT.out).cell 3
  simp only [List.getElem?_cons_zero, List.getElem?_cons_succ] at n0 n1 n2 n3
  repeat (first | (refine run_off rfl rfl (by rfl) ?_; (try simp only [Act.put, List.setIfInBounds_toArray, List.set_cons_zero, List.set_cons_succ])) | (refine run_chain_off rfl rfl (by rfl) (K0_mono _) ?_; (try simp only [Act.put, List.setIfInBounds_toArray, List.set_cons_zero, List.set_cons_succ])) | ((refine run_want rfl rfl (by rfl) ⟨?_, fun W hW => ?_, ?_⟩; rotate_left; (· (have d0 := hW.keeps.cell id n0; have d1 := hW.keeps.cell id n1; have d2 := hW.keeps.cell id n2; have d3 := hW.keeps.cell id n3; go_simp; (try with_reducible rfl)))); (try simp only [Act.put, List.setIfInBounds_toArray, List.set_cons_zero, List.set_cons_succ])))
  clear n0 n1 n2 n3
  refine run_chain rfl rfl (by rfl) (fun Wi hWi K' hK => ?_)
  have HTi := Lib.hid (HT.out.trans hWi)
  have h1i := Lib.hid (SL.go Hhv1.out hWi)
  have h2i := Lib.hid (SL.go Hhv2.out hWi)
  clear hWi HT Hhv1 Hhv2
  go_simp
  refine (SiteL_any _ s _ _ (AV.go HX.out HTi.out) (by have := HSO.out.base; omega) (by have := HSO.out.nlev; omega) (by have := HSO.out.nst; omega)).mono ?_
  rintro e wn ⟨v3, rfl, hv3, hSn⟩
  have HT := Lib.hid (HTi.out.trans (StepX.of hSn))
  have Hhv1 := Lib.hid (SL.go h1i.out hSn)
  have Hhv2 := Lib.hid (SL.go h2i.out hSn)
  have HZI := Lib.hid HTi.out.size
  clear HTi h1i h2i
  have Hhv3 := Lib.hid (AV.go hv3 (Step.refl _))
  clear hv3
  refine hK _ _ (StepX.of hSn) ?_
  clear hSn
  (try simp only [Act.put, List.setIfInBounds_toArray, List.set_cons_zero, List.set_cons_succ])
  have n0 := (HB.out.step HT.out).cell 0
  have n1 := (HB.out.step HT.out).cell 1
  have n2 := (HB.out.step HT.out).cell 2
  have n3 := (HB.out.step HT.out).cell 3
  simp only [List.getElem?_cons_zero, List.getElem?_cons_succ] at n0 n1 n2 n3
  repeat (first | (refine run_off rfl rfl (by rfl) ?_; (try simp only [Act.put, List.setIfInBounds_toArray, List.set_cons_zero, List.set_cons_succ])) | (refine run_chain_off rfl rfl (by rfl) (K0_mono _) ?_; (try simp only [Act.put, List.setIfInBounds_toArray, List.set_cons_zero, List.set_cons_succ])) | ((refine run_want rfl rfl (by rfl) ⟨?_, fun W hW => ?_, ?_⟩; rotate_left; (· (have d0 := hW.keeps.cell id n0; have d1 := hW.keeps.cell id n1; have d2 := hW.keeps.cell id n2; have d3 := hW.keeps.cell id n3; go_simp; (try with_reducible rfl)))); (try simp only [Act.put, List.setIfInBounds_toArray, List.set_cons_zero, List.set_cons_succ])))
  clear n0 n1 n2 n3
  refine run_chain rfl rfl (by rfl) (fun Wi hWi K' hK => ?_)
  have HTi := Lib.hid (HT.out.trans hWi)
  have hcall := Limits_any s l t _ _ _ _ (SL.go Hhv1.out hWi) (SL.go Hhv2.out hWi) (AV.go Hhv3.out hWi) HSB.out HTS.out HTB.out
  clear hWi HT Hhv1 Hhv2 Hhv3
  go_simp
  refine hcall.mono ?_
  clear hcall
  rintro e wn ⟨vl, rfl, hvl, hSn⟩
  have HT := Lib.hid (HTi.out.trans (StepX.of hSn))
  have HVL := Lib.hid hvl
  clear HTi hvl
  refine hK _ _ (StepX.of hSn) ?_
  clear hSn
  (try simp only [Act.put, List.setIfInBounds_toArray, List.set_cons_zero, List.set_cons_succ])
  have n0 := (HB.out.step HT.out).cell 0
  have n1 := (HB.out.step HT.out).cell 1
  have n2 := (HB.out.step HT.out).cell 2
  have n3 := (HB.out.step HT.out).cell 3
  simp only [List.getElem?_cons_zero, List.getElem?_cons_succ] at n0 n1 n2 n3
  repeat (first | (refine run_off rfl rfl (by rfl) ?_; (try simp only [Act.put, List.setIfInBounds_toArray, List.set_cons_zero, List.set_cons_succ])) | (refine run_chain_off rfl rfl (by rfl) (K0_mono _) ?_; (try simp only [Act.put, List.setIfInBounds_toArray, List.set_cons_zero, List.set_cons_succ])) | ((refine run_want rfl rfl (by rfl) ⟨?_, fun W hW => ?_, ?_⟩; rotate_left; (· (have d0 := hW.keeps.cell id n0; have d1 := hW.keeps.cell id n1; have d2 := hW.keeps.cell id n2; have d3 := hW.keeps.cell id n3; go_simp; (try with_reducible rfl)))); (try simp only [Act.put, List.setIfInBounds_toArray, List.set_cons_zero, List.set_cons_succ])))
  clear n0 n1 n2 n3
  refine run_end (L := []) rfl (fun W6 hW6 => ?_)
  have HVL6 := Lib.hid (fun h : soundC l = 0 => SL.go (HVL.out h) hW6)
  have HT6 := Lib.hid (HT.out.trans hW6)
  clear hW6 HT HVL
  have HT := HT6
  have HVL := HVL6
  clear HT6 HVL6
  have q1 := SL.go HV.out HT.out
  have q2 := SL.go HU.out HT.out
  have q3 := SL.go HY.out HT.out
  have q4 := SL.go HZ.out HT.out
  have q5 := AV.go HX.out HT.out
  have q6 := HB.out.step HT.out
  have q7 := HS.out.trans HT.out
  clear HV HU HY HZ HX HB HS HT
  have HV := Lib.hid q1
  have HU := Lib.hid q2
  have HY := Lib.hid q3
  have HZ := Lib.hid q4
  have HX := Lib.hid q5
  have HB := Lib.hid q6
  have HS := Lib.hid q7
  have HT := Lib.hid (Step.refl W6)
  clear q1 q2 q3 q4 q5 q6 q7
  go_wp2_with fail
  refine (Forecasts_any _ fl _ _ (SL.go HY.out HT.out) (by have := HFP.out.1.2.1; omega) (fun i hi => by have := HFP.out.1.2.2 _ (List.getElem_mem hi); omega)).mono ?_
  rintro e wn ⟨v4, rfl, hv4, hSn⟩
  have HTi := Lib.hid (HT.out.trans hSn)
  clear hSn HT
  have HT := HTi
  clear HTi
  have Hhv4 := Lib.hid (SL.go hv4 (Step.refl _))
  clear hv4
  go_wp2_with fail
  refine (Readings_any _ rs _ _ (SL.go HZ.out HT.out) HRL.out).mono ?_
  rintro e wn5 ⟨v5, rfl, hv5, hSn⟩
  have Hhv4' := Lib.hid (SL.go Hhv4.out hSn)
  have Hhv5 := Lib.hid (SL.go hv5 (Step.refl _))
  have HTn := Lib.hid (HT.out.trans hSn)
  clear hSn HT
  have HT := HTn
  clear HTn
  clear hv5 Hhv4
  go_wp2_with fail
  refine (Worst_any _ fl rs _ _ _ Hhv4'.out Hhv5.out).mono ?_
  rintro e wn ⟨v15, rfl, hv15, hSn⟩
  have HTi := Lib.hid (HT.out.trans hSn)
  clear hSn HT
  have HT := HTi
  clear HTi
  have HVW := Lib.hid (SL.go hv15 (Step.refl _))
  clear hv15 Hhv4' Hhv5
  rcases worst_code HFC.out HRC.out with hwc | hwc
  rotate_left
  · rw [hwc]
    rcases sound_code l with hsc | hsc
    · rw [hsc]
      clear hsc hwc
      go_wp2_with fail
      refine (Sblows_any _).mono ?_
      rintro e wz ⟨rfl, hSz⟩
      go_wp2
      go_ret
      exact ⟨rfl, HS.out.trans (HT.out.trans hSz)⟩
    · rw [hsc]
      clear hsc hwc
      go_wp2_with fail
      refine (Sblows_any _).mono ?_
      rintro e wz ⟨rfl, hSz⟩
      go_wp2
      go_ret
      exact ⟨rfl, HS.out.trans (HT.out.trans hSz)⟩
  rcases sound_code l with hsc | hsc
  rotate_left
  · rw [hwc, hsc]
    clear hsc hwc
    go_wp2_with fail
    refine (Sblows_any _).mono ?_
    rintro e wz ⟨rfl, hSz⟩
    go_wp2
    go_ret
    exact ⟨rfl, HS.out.trans (HT.out.trans hSz)⟩
  rw [hwc, hsc]
  have hvl := SL.go (HVL.out hsc) HT.out
  have HSC := Lib.hid hsc
  have HWI := Lib.hid (worst_is HFC.out hwc)
  have HLM := Lib.hid (limits_limited (l := l) (t := t) HSB.out (areas HTB.out))
  clear HVL hwc hsc
  obtain ⟨ws, hws⟩ : ∃ L, L = worstR fl rs := ⟨_, rfl⟩
  rw [← hws] at HVW HWI
  obtain ⟨lim, hlim⟩ : ∃ L, L = limitsL l t s := ⟨_, rfl⟩
  rw [← hlim] at hvl HLM
  have HVL := Lib.hid hvl
  have HLE := Lib.hid hlim
  obtain ⟨pw, cw, rfl⟩ := HVW.out.form
  clear hws hlim hvl
  have q1 := SL.go HV.out HT.out
  have q2 := SL.go HU.out HT.out
  have q3 := SL.go HY.out HT.out
  have q4 := SL.go HZ.out HT.out
  have q5 := AV.go HX.out HT.out
  have q6 := HB.out.step HT.out
  have q7 := HS.out.trans HT.out
  clear HV HU HY HZ HX HB HS HT
  have HV := Lib.hid q1
  have HU := Lib.hid q2
  have HY := Lib.hid q3
  have HZ := Lib.hid q4
  have HX := Lib.hid q5
  have HB := Lib.hid q6
  have HS := Lib.hid q7
  have HT := Lib.hid (Step.refl wn)
  clear q1 q2 q3 q4 q5 q6 q7
  have hwl := (HWI.out).2
  have HWL := Lib.hid (show ws.length ≤ 48 by have := HFP.out.2.2; omega)
  clear hwl
  have n0 := (HB.out.step HT.out).cell 0
  have n1 := (HB.out.step HT.out).cell 1
  have n2 := (HB.out.step HT.out).cell 2
  have n3 := (HB.out.step HT.out).cell 3
  simp only [List.getElem?_cons_zero, List.getElem?_cons_succ] at n0 n1 n2 n3
  go_wp2_with fail
  refine (SiteL_any _ s _ _ (AV.go HX.out HT.out) (by have := HSO.out.base; omega) (by have := HSO.out.nlev; omega) (by have := HSO.out.nst; omega)).mono ?_
  rintro e wn ⟨v6, rfl, hv6, hSn⟩
  have HTi := Lib.hid (HT.out.trans hSn)
  clear hSn HT
  have HT := HTi
  clear HTi
  clear n0 n1 n2 n3
  have Hhv6 := Lib.hid (AV.go hv6 (Step.refl _))
  have HVWn := SL.go HVW.out HT.out
  have HVLn := Lib.hid (SL.go HVL.out HT.out)
  clear hv6
  obtain ⟨oo, hoo⟩ : ∃ n, n = o0.tmod 61 := ⟨_, rfl⟩
  have hm1 : o0.tmod 61 = oo := hoo.symm
  have hu8 := u8_ofG HO.out
  have hw1 : IntKind.i64.wrap o0 = o0 := by rw [IntKind.wrap_i64]; omega
  have ho1 : 0 ≤ oo ∧ oo ≤ 60 := by
    have h1 := Int.tmod_nonneg (61 : Int) hu8.1
    have h2 := Int.tmod_lt_of_pos o0 (show (0 : Int) < 61 by decide)
    rw [hm1] at h1 h2
    omega
  have HOO := Lib.hid ho1
  have hw2 : IntKind.i64.wrap oo = oo := by rw [IntKind.wrap_i64]; omega
  have hwl := HWL.out
  clear hoo hu8 ho1
  go_wp2_with (at_builtin; refine wpl_append (α := Int) (S := Old wn) (base := wn.heap.size) (v := .slice (some ⟨wn.heap.size, 0, none⟩) 0 0) (l := []) (m := ws) eiInts rfl _ _ rfl rfl rfl ⟨[], World.ownsRow_lit wn #[] 0 (Nat.le_refl _) (by simp [maxLen]) (by simp), fun i h => absurd h (by simp)⟩ (SL.flat _ (HVWn.keep (.alloc _ _))) ws.length (by simp) ws rfl ?_ ?_ ?_ ?_)
  · simp only [maxLen]; omega
  · omega
  · simp
  intro p' c' w' hown hg
  have hS2 : Step wn w' := .of (((Below.refl _ wn).alloc (Nat.le_refl _) _).grown hg (by simp) (by simp [Value.ownBlock]))
  have hplan := Plan_ok s lim ws 0 oo _ _ _ w' (AV.go Hhv6.out hS2) (SL.go HVLn.out hS2) (SL.go hown.fresh (Step.refl _)) HSB.out HLM.out HWI.out.1 (by have := HSO.out.nst; omega) HOO.out
  rw [show ((0 : Nat) : Int) = 0 from rfl] at hplan
  have HPL := Lib.hid hplan
  have HTi := Lib.hid (HT.out.trans hS2)
  clear HT hS2 hplan hown hg HVLn Hhv6 HVWn
  have HT := HTi
  clear HTi
  go_wp2_with fail
  refine HPL.out.mono ?_
  clear HPL
  rintro e wn7 ⟨hres, hSn⟩
  have HTn := Lib.hid (HT.out.trans hSn)
  clear hSn HT
  have HT := HTn
  clear HTn
  rcases hres with ⟨hp, rfl⟩ | ⟨st, v17, hp, rfl, hv17⟩
  · clear hm1 hw1 hw2 hp
    go_wp2_with fail
    refine (Sblows_any _).mono ?_
    rintro e wz ⟨rfl, hSz⟩
    go_wp2
    go_ret
    exact ⟨rfl, HS.out.trans (HT.out.trans hSz)⟩
  obtain ⟨hb1, _, hb2⟩ := plan_begin (s := s) (limits := lim) (worst := ws) (out := oo) s.stages.length (Nat.le_refl _) st hp
  obtain ⟨bl, hbl⟩ : ∃ L, L = st.begin_ := ⟨_, rfl⟩
  rw [← hbl] at hb1 hb2 hv17
  obtain ⟨pb, cb, bb, ob, rfl, _, _, hpb, hcb, _⟩ := hv17.ints
  have HNS := Lib.hid HSO.out.nst
  obtain rfl := hpb (by have := HNS.out; omega)
  rw [hb1]
  have HBC := Lib.hid (show ∀ i, i < s.stages.length → wn7.cell? ⟨bb, ob + i, none⟩ = some (.int .i64 (bl.getD i 0)) ∧ BeginOk s lim ws i (bl.getD i 0) from fun i h => ⟨by
    rw [List.getD_eq_getElem?_getD, List.getElem?_eq_getElem (show i < bl.length by omega)]
    exact hcb i (by omega), hb2 i (by omega) h⟩)
  have HBLL := Lib.hid hb1
  clear hb1 hb2 hbl hv17 hpb hcb hp hm1 hw1 hw2 hwl
  have q8 := SL.go HVW.out HT.out
  clear HVW
  have HVW := Lib.hid q8
  clear q8
  have q1 := SL.go HV.out HT.out
  have q2 := SL.go HU.out HT.out
  have q3 := SL.go HY.out HT.out
  have q4 := SL.go HZ.out HT.out
  have q5 := AV.go HX.out HT.out
  have q6 := HB.out.step HT.out
  have q7 := HS.out.trans HT.out
  clear HV HU HY HZ HX HB HS HT
  have HV := Lib.hid q1
  have HU := Lib.hid q2
  have HY := Lib.hid q3
  have HZ := Lib.hid q4
  have HX := Lib.hid q5
  have HB := Lib.hid q6
  have HS := Lib.hid q7
  have HT := Lib.hid (Step.refl wn7)
  clear q1 q2 q3 q4 q5 q6 q7
  have n0 := (HB.out.step HT.out).cell 0
  have n1 := (HB.out.step HT.out).cell 1
  have n2 := (HB.out.step HT.out).cell 2
  have n3 := (HB.out.step HT.out).cell 3
  simp only [List.getElem?_cons_zero, List.getElem?_cons_succ] at n0 n1 n2 n3
  have hd1 : ((s.stages.length : Int) != (s.stages.length : Int)) = false := by simp
  have hf0 := HFP.out.1.1
  have h0n : 0 < fl.length := by omega
  obtain ⟨q, d, by_, oy, he, _, _, hpy, hcy, _⟩ := HY.out.fcs
  injection he with he1 _ he3
  subst he1 he3
  obtain rfl := hpy (by omega)
  obtain ⟨cx, _, y2, y3, _⟩ := hcy 0 h0n
  obtain ⟨px, kx, rfl⟩ := y3.form
  rw [Nat.zero_mul, Nat.add_zero] at y2
  have hd2 : ((ws.length : Int) != (fl[0].hours.length : Int)) = false := by
    have h1 := (HWI.out).2
    have h2 : hoursN fl = fl[0].hours.length := by
      cases fl with
      | nil => simp at h0n
      | cons f r => rfl
    simp; omega
  have hx0 : (0 : Int) < (fl.length : Int) := by omega
  clear hpy hcy y3 hf0
  go_upto_region 10 with (fail)
  clear hd1
  go_upto_region 14 with (fail)
  clear y2 hd2 hx0
  clear n0 n1 n2 n3
  have hnl := HSO.out.nlev
  obtain ⟨q1, d1, b1, o1, he, _, _, hp1, hc1, _⟩ := (SL.go HL1.out HS.out).lvls
  injection he with he1 _ he3
  subst he1 he3
  obtain rfl := hp1 (by omega)
  obtain ⟨q2, d2, b2, o2, he, _, _, hp2, hc2, _⟩ := (SL.go HL2.out HS.out).stgs
  injection he with he1 _ he3
  subst he1 he3
  obtain rfl := hp2 (by have := HNS.out; omega)
  obtain ⟨qw, dw, bw, ow, he, _, _, hpw, hcw, _⟩ := HVW.out.ints
  injection he with he1 _ he3
  subst he1 he3
  obtain rfl := hpw (by have := (HWI.out).2; have := HFP.out.2.1; omega)
  have HLV := Lib.hid hc1
  have HSTG := Lib.hid hc2
  have HWC := Lib.hid hcw
  have HWR := Lib.hid (fun k (hk : k < ws.length) => winds_at HWI.out.1 hk)
  clear hnl hp1 hc1 hp2 hc2 hpw hcw
  go_loopw [20, 21] (fun st i wr => ∃ (m k : Nat), m < s.stages.length ∧ k ≤ ws.length ∧ st = .int .i64 m ∧ i = .int .i64 k ∧ Step wn7 wr) (fun _ i _ => ws.length - (intOf i).toNat)
  case atStart => exact ⟨0, 0, by have := HNS.out; omega, Nat.zero_le _, rfl, rfl, HT.out⟩
  case round =>
    obtain ⟨m0, k, hm0, hk, rfl, rfl, hT⟩ := hrel
    clear HT
    have HT := Lib.hid hT
    clear hT
    by_cases hlt : k < ws.length
    rotate_left
    · skip
      go_wp2_with fail
      refine (Sblows_any _).mono ?_
      rintro e wz ⟨rfl, hSz⟩
      go_wp2
      go_ret
      exact ⟨rfl, HS.out.trans (HT.out.trans hSz)⟩
    obtain ⟨wo, hwo⟩ : ∃ W, W = wr := ⟨_, rfl⟩
    subst hwo
    go_upto_region 16 with (fail)
    go_loopw [20] (fun st wi => ∃ m : Nat, m < s.stages.length ∧ st = .int .i64 m ∧ Step wn7 wi) (fun st _ => s.stages.length - (intOf st).toNat)
    case atStart => exact ⟨m0, hm0, rfl, HT.out⟩
    case round =>
      obtain ⟨m, hm, rfl, hT⟩ := hrel
      clear HT
      have HT := Lib.hid hT
      clear hT
      have hns := HNS.out
      have hkw := HWL.out
      have hwn : IntKind.i64.wrap ((s.stages.length : Int) - 1) = (s.stages.length : Int) - 1 := by rw [IntKind.wrap_i64]; omega
      have h60 : IntKind.i64.wrap (60 * (k : Int)) = 60 * (k : Int) := by rw [IntKind.wrap_i64]; omega
      have hmx : (0 : Int) ≤ (m : Int) ∧ (m : Int) < (s.stages.length : Int) := by omega
      have x2 := (HB.out.step HT.out).cell 2
      simp only [List.getElem?_cons_zero, List.getElem?_cons_succ] at x2
      obtain ⟨xb, hbo⟩ := HBC.out m hm
      have xb := HT.out.keeps.cell id xb
      obtain ⟨xc, xm⟩ := HSTG.out m hm
      have xm := HT.out.keeps.cell id xm
      have hma := minutes_at hm
      have hmp : m + 1 < s.stages.length → 1 ≤ s.stages[m].minutes ∧ s.stages[m].minutes ≤ 240 := fun h => (HSO.out.st m h).2
      obtain ⟨b, hb⟩ : ∃ b, b = bl.getD m 0 := ⟨_, rfl⟩
      rw [← hb] at xb hbo
      obtain ⟨mn, hmn⟩ : ∃ x, x = s.stages[m].minutes := ⟨_, rfl⟩
      rw [← hmn] at xm hma hmp
      have HBO := Lib.hid hbo
      have HMA := Lib.hid hma
      have HMP := Lib.hid hmp
      have HMN := Lib.hid hmn
      clear xc hb hbo hma hmp hmn
      go_upto_region 16 with (fail)
      obtain ⟨wz, hwz⟩ : ∃ W, W = wr := ⟨_, rfl⟩
      subst hwz
      (try simp only [Act.put, List.setIfInBounds_toArray, List.set_cons_zero, List.set_cons_succ])
      go_cut [167] (fun c wx => ∃ x : Bool, c = .bool x ∧ (x = true → m + 1 < s.stages.length) ∧ (x = false → m + 1 < s.stages.length → ws[k] ≤ lim.getD m 0) ∧ Step wz wx)
      case first =>
        by_cases a1 : m + 1 < s.stages.length
        rotate_left
        · have d1 : decide ((m : Int) < (s.stages.length : Int) - 1) = false := decide_eq_false (by omega)
          go_quiet (fail)
          go_wp2
          go_meet
          exact ⟨false, rfl, fun h => absurd h (by simp), fun _ h => absurd h a1, Step.drewN _ _⟩
        have d1 : decide ((m : Int) < (s.stages.length : Int) - 1) = true := decide_eq_true (by omega)
        have hbs : 0 ≤ b → b + mn ≤ 2880 := fun h => by have := begin_small HBO.out h HWL.out; rw [HMA.out] at this; exact this
        have hmp := HMP.out a1
        have HA1 := Lib.hid a1
        clear a1
        by_cases a2 : 0 ≤ b
        rotate_left
        · have d2 : decide (0 ≤ b) = false := decide_eq_false a2
          have HRK := Lib.hid (begin_hour HBO.out hlt (fun h => a2 h.1))
          clear a2 hbs hmp
          go_quiet (fail)
          go_wp2
          go_meet
          exact ⟨false, rfl, fun h => absurd h (by simp), fun _ _ => HRK.out, Step.drewN _ _⟩
        have d2 : decide (0 ≤ b) = true := decide_eq_true a2
        have hsw : IntKind.i64.wrap (b + mn) = b + mn := by have := hbs a2; rw [IntKind.wrap_i64]; omega
        by_cases a3 : b + mn ≤ 60 * (k : Int)
        rotate_left
        · have d3 : decide (b + mn ≤ 60 * (k : Int)) = false := decide_eq_false a3
          have HRK := Lib.hid (begin_hour HBO.out hlt (fun h => a3 (by rw [HMA.out] at h; exact h.2)))
          clear a2 a3 hbs hmp
          go_quiet (fail)
          go_wp2
          go_meet
          exact ⟨false, rfl, fun h => absurd h (by simp), fun _ _ => HRK.out, Step.drewN _ _⟩
        have d3 : decide (b + mn ≤ 60 * (k : Int)) = true := decide_eq_true a3
        clear a2 a3 hbs hmp
        go_quiet (fail)
        go_wp2
        go_meet
        exact ⟨true, rfl, fun _ => HA1.out, fun h => absurd h (by simp), Step.drewN _ _⟩
      case rest =>
        obtain ⟨x, rfl, hx1, hx2, hTc⟩ := hcut
        have HX1 := Lib.hid hx1
        have HX2 := Lib.hid hx2
        have HTn := Lib.hid (HT.out.trans hTc)
        clear hx1 hx2 hTc HT
        have HT := HTn
        clear HTn x2 xb xm h60 hmx HBO HMA HMP HMN
        cases x with
        | true =>
          have hm1 := HX1.out rfl
          clear HX1 HX2
          go_wp2
          go_roundw
          case rel => exact ⟨m + 1, hm1, by go_num, HT.out⟩
          case measure => simp [intOf]; omega
        | false =>
        by_cases a1 : m + 1 < s.stages.length
        rotate_left
        · have e18 : ((m : Int) == (s.stages.length : Int) - 1) = true := by simp; omega
          clear HX1 HX2
          go_wp2
          go_roundw
          case rel => exact ⟨m, k + 1, hm, by omega, rfl, by go_num, HT.out⟩
          case measure => simp [intOf]; omega
        have HRK := Lib.hid (HX2.out rfl a1)
        clear HX1 HX2
        have e18 : ((m : Int) == (s.stages.length : Int) - 1) = false := by simp; omega
        go_upto_region 19 with (fail)
        clear e18 hwn hns hkw
        have HLS := Lib.hid (limit_stands (l := l) (t := t) HSO.out (c := s.stages[m].cover) (w := ws[k]) (by have := (HSO.out.st m a1).1.1; omega) (HWR.out k hlt).1 (by have h := HRK.out; rw [HLE.out, limits_at hm] at h; exact h))
        have HCV := Lib.hid (show 0 ≤ s.stages[m].cover ∧ s.stages[m].cover ≤ 100 by have := (HSO.out.st m a1).1; omega)
        obtain ⟨wk, hwk⟩ : ∃ x, x = ws[k] := ⟨_, rfl⟩
        obtain ⟨cv0, hcv⟩ : ∃ x, x = s.stages[m].cover := ⟨_, rfl⟩
        have HWK := Lib.hid (show ∀ wr, Step wn7 wr → wr.cell? ⟨bw, ow + k, none⟩ = some (.int .i64 wk) from fun wr h => by rw [hwk]; exact h.keeps.cell id (HWC.out k hlt))
        rw [← hwk, ← hcv] at HLS
        rw [← hcv] at HCV
        have HCE := Lib.hid hcv
        have HKX := Lib.hid (show (0 : Int) ≤ (k : Int) ∧ (k : Int) < (ws.length : Int) by omega)
        clear HRK hwk hcv
        refine wp_region_seq (kdOf [1, 3, 5] []) [0, 1, 0, 7, 0, 31, 63, 127, 127, 255, 1023] [0, 2, 4, 1, 3, 5, 6, 7, 8, 9, 10] [] (by kernel_rfl) (by kernel_rfl) (fun i T z hi hk => by simp [kdOf] at hk <;> (try (split at hk <;> cases hk))) ?_
        intro Wx hWx
        have HTx := Lib.hid (HT.out.trans hWx)
        clear hWx HT
        have HT := HTx
        clear HTx
        have n0 := (HB.out.step HT.out).cell 0
        have n1 := (HB.out.step HT.out).cell 1
        have n2 := (HB.out.step HT.out).cell 2
        have n3 := (HB.out.step HT.out).cell 3
        simp only [List.getElem?_cons_zero, List.getElem?_cons_succ] at n0 n1 n2 n3
        repeat (first | (refine run_off rfl rfl (by rfl) ?_; (try simp only [Act.put, List.setIfInBounds_toArray, List.set_cons_zero, List.set_cons_succ])) | (refine run_chain_off rfl rfl (by rfl) (K0_mono _) ?_; (try simp only [Act.put, List.setIfInBounds_toArray, List.set_cons_zero, List.set_cons_succ])) | ((refine run_want rfl rfl (by rfl) ⟨?_, fun W hW => ?_, ?_⟩; rotate_left; (· (have d0 := hW.keeps.cell id n0; have d1 := hW.keeps.cell id n1; have d2 := hW.keeps.cell id n2; have d3 := hW.keeps.cell id n3; go_simp; (try with_reducible rfl)))); (try simp only [Act.put, List.setIfInBounds_toArray, List.set_cons_zero, List.set_cons_succ])))
        clear n0 n1 n2 n3
        refine run_chain rfl rfl (by rfl) (fun Wi hWi K' hK => ?_)
        have HTi := Lib.hid (HT.out.trans hWi)
        have HZW := Lib.hid HTi.out.size
        clear hWi HT
        go_simp
        refine (Tent_any _ t _ _ (SL.go HU.out HTi.out) HFEW.out.2).mono ?_
        rintro e wn ⟨v2, rfl, hv2, hSn⟩
        have HT := Lib.hid (HTi.out.trans (StepX.of hSn))
        clear HTi
        have Hhv2 := Lib.hid (SL.go hv2 (Step.refl _))
        clear hv2
        refine hK _ _ (StepX.of hSn) ?_
        clear hSn
        (try simp only [Act.put, List.setIfInBounds_toArray, List.set_cons_zero, List.set_cons_succ])
        have n0 := (HB.out.step HT.out).cell 0
        have n1 := (HB.out.step HT.out).cell 1
        have n2 := (HB.out.step HT.out).cell 2
        have n3 := (HB.out.step HT.out).cell 3
        simp only [List.getElem?_cons_zero, List.getElem?_cons_succ] at n0 n1 n2 n3
        repeat (first | (refine run_off rfl rfl (by rfl) ?_; (try simp only [Act.put, List.setIfInBounds_toArray, List.set_cons_zero, List.set_cons_succ])) | (refine run_chain_off rfl rfl (by rfl) (K0_mono _) ?_; (try simp only [Act.put, List.setIfInBounds_toArray, List.set_cons_zero, List.set_cons_succ])) | ((refine run_want rfl rfl (by rfl) ⟨?_, fun W hW => ?_, ?_⟩; rotate_left; (· (have d0 := hW.keeps.cell id n0; have d1 := hW.keeps.cell id n1; have d2 := hW.keeps.cell id n2; have d3 := hW.keeps.cell id n3; go_simp; (try with_reducible rfl)))); (try simp only [Act.put, List.setIfInBounds_toArray, List.set_cons_zero, List.set_cons_succ])))
        clear n0 n1 n2 n3
        refine run_chain rfl rfl (by rfl) (fun Wi hWi K' hK => ?_)
        have HTi := Lib.hid (HT.out.trans hWi)
        have h1i := Lib.hid (SL.go Hhv2.out hWi)
        clear hWi HT Hhv2
        go_simp
        refine (SiteL_any _ s _ _ (AV.go HX.out HTi.out) (by have := HSO.out.base; omega) (by have := HSO.out.nlev; omega) (by have := HSO.out.nst; omega)).mono ?_
        rintro e wn ⟨v3, rfl, hv3, hSn⟩
        have HT := Lib.hid (HTi.out.trans (StepX.of hSn))
        have Hhv2 := Lib.hid (SL.go h1i.out hSn)
        have HZI := Lib.hid HTi.out.size
        clear HTi h1i
        have Hhv3 := Lib.hid (AV.go hv3 (Step.refl _))
        clear hv3
        refine hK _ _ (StepX.of hSn) ?_
        clear hSn
        (try simp only [Act.put, List.setIfInBounds_toArray, List.set_cons_zero, List.set_cons_succ])
        have n0 := (HB.out.step HT.out).cell 0
        have n1 := (HB.out.step HT.out).cell 1
        have n2 := (HB.out.step HT.out).cell 2
        have n3 := (HB.out.step HT.out).cell 3
        simp only [List.getElem?_cons_zero, List.getElem?_cons_succ] at n0 n1 n2 n3
        repeat (first | (refine run_off rfl rfl (by rfl) ?_; (try simp only [Act.put, List.setIfInBounds_toArray, List.set_cons_zero, List.set_cons_succ])) | (refine run_chain_off rfl rfl (by rfl) (K0_mono _) ?_; (try simp only [Act.put, List.setIfInBounds_toArray, List.set_cons_zero, List.set_cons_succ])) | ((refine run_want rfl rfl (by rfl) ⟨?_, fun W hW => ?_, ?_⟩; rotate_left; (· (have d0 := hW.keeps.cell id n0; have d1 := hW.keeps.cell id n1; have d2 := hW.keeps.cell id n2; have d3 := hW.keeps.cell id n3; go_simp; (try with_reducible rfl)))); (try simp only [Act.put, List.setIfInBounds_toArray, List.set_cons_zero, List.set_cons_succ])))
        clear n0 n1 n2 n3
        refine run_chain rfl rfl (by rfl) (fun Wi hWi K' hK => ?_)
        have HTi := Lib.hid (HT.out.trans hWi)
        have hcall := Lib.hid (Reefed_any s t m _ _ _ (SL.go Hhv2.out hWi) (AV.go Hhv3.out hWi) HSB.out HTB.out hm)
        clear hWi HT Hhv2 Hhv3
        go_simp
        refine hcall.out.mono ?_
        clear hcall
        rintro e wn8 ⟨v22, rfl, hv22, hSn⟩
        have HT := Lib.hid (HTi.out.trans (StepX.of hSn))
        rw [← HCE.out] at hv22
        have HV22 := Lib.hid hv22
        clear HTi hv22
        refine hK _ _ (StepX.of hSn) ?_
        clear hSn
        (try simp only [Act.put, List.setIfInBounds_toArray, List.set_cons_zero, List.set_cons_succ])
        have n0 := (HB.out.step HT.out).cell 0
        have n1 := (HB.out.step HT.out).cell 1
        have n2 := (HB.out.step HT.out).cell 2
        have n3 := (HB.out.step HT.out).cell 3
        simp only [List.getElem?_cons_zero, List.getElem?_cons_succ] at n0 n1 n2 n3
        repeat (first | (refine run_off rfl rfl (by rfl) ?_; (try simp only [Act.put, List.setIfInBounds_toArray, List.set_cons_zero, List.set_cons_succ])) | (refine run_chain_off rfl rfl (by rfl) (K0_mono _) ?_; (try simp only [Act.put, List.setIfInBounds_toArray, List.set_cons_zero, List.set_cons_succ])) | ((refine run_want rfl rfl (by rfl) ⟨?_, fun W hW => ?_, ?_⟩; rotate_left; (· (have d0 := hW.keeps.cell id n0; have d1 := hW.keeps.cell id n1; have d2 := hW.keeps.cell id n2; have d3 := hW.keeps.cell id n3; go_simp; (try with_reducible rfl)))); (try simp only [Act.put, List.setIfInBounds_toArray, List.set_cons_zero, List.set_cons_succ])))
        clear n0 n1 n2 n3
        refine run_end (L := []) rfl (fun W6 hW6 => ?_)
        have HT6 := Lib.hid (HT.out.trans hW6)
        have HV6 := Lib.hid (SL.go HV22.out hW6)
        clear HT HV22 hW6
        go_upto_region 23 with (fail)
        obtain ⟨p22, c22, rfl⟩ := HV6.out.form
        go_loopw [24] (fun i wr => ∃ k2 : Nat, k2 ≤ s.levels.length ∧ i = .int .i64 k2 ∧ Step W6 wr) (fun i _ => s.levels.length - (intOf i).toNat)
        case atStart => exact ⟨0, Nat.zero_le _, rfl, Step.refl _⟩
        case round =>
          obtain ⟨k2, hk2, rfl, hT2⟩ := hrel
          have HT2 := Lib.hid hT2
          have HT := Lib.hid (HT6.out.trans hT2)
          clear hT2
          have n1 := (HB.out.step HT.out).cell 1
          simp only [List.getElem?_cons_zero, List.getElem?_cons_succ] at n1
          by_cases hl2 : k2 < s.levels.length
          rotate_left
          · go_upto_region 29 with (fail)
            have n1 := (HB.out.step HT.out).cell 1
            simp only [List.getElem?_cons_zero, List.getElem?_cons_succ] at n1
            have x4 := HWK.out _ HT.out
            have hkx := HKX.out
            have hl1 := HSO.out.nlev
            have hx2 : (0 : Int) ≤ (s.levels.length : Int) - 1 ∧ (s.levels.length : Int) - 1 < (s.levels.length : Int) := by omega
            have htn : ((s.levels.length : Int) - 1).toNat = s.levels.length - 1 := by omega
            have h1s : (1 : Int) ≤ (s.levels.length : Int) := by omega
            have xl := HT.out.keeps.cell id (HLV.out (s.levels.length - 1) (by omega)).1
            have hle := HLS.out.2 (s.levels.length - 1) (by omega)
            obtain ⟨lu, hlu⟩ : ∃ x, x = s.levels[s.levels.length - 1].upto := ⟨_, rfl⟩
            rw [← hlu] at xl hle
            have d29 : decide (lu < wk) = false := decide_eq_false (by omega)
            clear hlu hle
            have hws : IntKind.i64.wrap ((s.levels.length : Int) - 1) = (s.levels.length : Int) - 1 := by rw [IntKind.wrap_i64]; omega
            clear hl1
            go_upto_region 29 with (fail)
            go_quiet (fail)
            go_wp2
            go_roundw
            case rel => exact ⟨m, k + 1, hm, by omega, rfl, by go_num, HT.out.trans (Step.drewN _ _)⟩
            case measure => simp [intOf]; omega
          go_upto_region 25 with (fail)
          obtain ⟨wz, hwz⟩ : ∃ W, W = wr := ⟨_, rfl⟩
          subst hwz
          (try simp only [Act.put, List.setIfInBounds_toArray, List.set_cons_zero, List.set_cons_succ])
          go_cut [208] (fun c wx => ∃ x : Bool, c = .bool x ∧ (x = false → standB l (reefL cv0 t) (blowL s.base s.levels[k2].push) = true) ∧ Step wz wx)
          case first =>
            have x4 := HWK.out wz HT.out
            have hkx := HKX.out
            by_cases hz : k2 = 0
            · have dz : decide (0 < (k2 : Int)) = false := decide_eq_false (by omega)
              have dzn : decide (0 < k2) = false := decide_eq_false (by omega)
              have HSTL := Lib.hid (HLS.out.1 k2 hl2 (fun i hi => absurd hi (by omega)))
              clear hz
              go_quiet (fail)
              go_wp2
              go_meet
              exact ⟨false, rfl, fun _ => HSTL.out, Step.drewN _ _⟩
            obtain ⟨j, rfl⟩ : ∃ j, k2 = j + 1 := ⟨k2 - 1, by omega⟩
            have hd0 : decide ((0 : Int) < ((j + 1 : Nat) : Int)) = true := decide_eq_true (by omega)
            have hjx : (0 : Int) ≤ (j : Int) ∧ (j : Int) < (s.levels.length : Int) := by omega
            have xj := HT.out.keeps.cell id (HLV.out j (by omega)).1
            obtain ⟨uj, huj⟩ : ∃ x, x = s.levels[j].upto := ⟨_, rfl⟩
            rw [← huj] at xj
            have hwj : IntKind.i64.wrap (j : Int) = (j : Int) := by have := HSO.out.nlev; rw [IntKind.wrap_i64]; omega
            by_cases q : wk ≤ uj
            · have dq : decide (wk ≤ uj) = true := decide_eq_true q
              clear hz q huj
              go_quiet (fail)
              go_wp2
              go_meet
              exact ⟨true, rfl, fun h => absurd h (by simp), Step.drewN _ _⟩
            have dq : decide (wk ≤ uj) = false := decide_eq_false q
            have HSTL := Lib.hid (HLS.out.1 (j + 1) hl2 (fun i hi => by (obtain rfl : i = j := by omega); omega))
            clear hz q huj
            go_quiet (fail)
            go_wp2
            go_meet
            exact ⟨false, rfl, fun _ => HSTL.out, Step.drewN _ _⟩
          case rest =>
            obtain ⟨x, rfl, hx, hTc⟩ := hcut
            have HX2 := Lib.hid hx
            have HTc := Lib.hid hTc
            have HTn := Lib.hid (HT.out.trans hTc)
            have HT2n := Lib.hid (HT2.out.trans hTc)
            clear hx hTc HT HT2 HTc
            have HT := HTn
            have HT2 := HT2n
            clear HTn HT2n n1
            cases x with
            | true =>
              go_upto_region 29 with (fail)
              have n1 := (HB.out.step HT.out).cell 1
              simp only [List.getElem?_cons_zero, List.getElem?_cons_succ] at n1
              have x4 := HWK.out _ HT.out
              have hkx := HKX.out
              have hl1 := HSO.out.nlev
              have hx2 : (0 : Int) ≤ (s.levels.length : Int) - 1 ∧ (s.levels.length : Int) - 1 < (s.levels.length : Int) := by omega
              have htn : ((s.levels.length : Int) - 1).toNat = s.levels.length - 1 := by omega
              have h1s : (1 : Int) ≤ (s.levels.length : Int) := by omega
              have xl := HT.out.keeps.cell id (HLV.out (s.levels.length - 1) (by omega)).1
              have hle := HLS.out.2 (s.levels.length - 1) (by omega)
              obtain ⟨lu, hlu⟩ : ∃ x, x = s.levels[s.levels.length - 1].upto := ⟨_, rfl⟩
              rw [← hlu] at xl hle
              have d29 : decide (lu < wk) = false := decide_eq_false (by omega)
              clear hlu hle
              have hws : IntKind.i64.wrap ((s.levels.length : Int) - 1) = (s.levels.length : Int) - 1 := by rw [IntKind.wrap_i64]; omega
              clear hl1
              go_upto_region 29 with (fail)
              go_quiet (fail)
              go_wp2
              go_roundw
              case rel => exact ⟨m, k + 1, hm, by omega, rfl, by go_num, HT.out.trans (Step.drewN _ _)⟩
              case measure => simp [intOf]; omega
            | false =>
              have HSTL := Lib.hid (HX2.out rfl)
              clear HX2
              go_upto_region 26 with (fail)
              have HVT := Lib.hid (SL.go HV6.out HT2.out)
              have HTW := Lib.hid HT2.out
              clear HT2
              have HP := Lib.hid (HSO.out.lev (k2) hl2)
              have hbz := blown_zero HTS.out HSC.out (reef_tent HCV.out HTB.out) (blow_wind HSO.out hl2)
              have HWK2 := Lib.hid (And.intro hbz (weakR_stand hbz HSTL.out))
              clear hbz HSTL
              have q1 := SL.go HV.out HT.out
              have q2 := SL.go HU.out HT.out
              have q3 := SL.go HY.out HT.out
              have q4 := SL.go HZ.out HT.out
              have q5 := AV.go HX.out HT.out
              have q6 := HB.out.step HT.out
              have q7 := HS.out.trans HT.out
              clear HV HU HY HZ HX HB HS HT
              have HV := Lib.hid q1
              have HU := Lib.hid q2
              have HY := Lib.hid q3
              have HZ := Lib.hid q4
              have HX := Lib.hid q5
              have HB := Lib.hid q6
              have HS := Lib.hid q7
              have HT := Lib.hid (Step.refl wc)
              clear q1 q2 q3 q4 q5 q6 q7
              refine wp_region_seqM (fun c d v a w h => by cases d <;> exact h) (kdOf [1, 5, 6, 7] [(13, 70, .agg #[.int .i64 0, .int .i64 0])]) [0, 1, 0, 0, 0, 27, 59, 127, 255, 511, 511, 511, 511, 0, 9215, 26623, 61439, 131071] [0, 2, 3, 4, 1, 5, 6, 7, 8, 9, 10, 11, 12, 13, 14, 15] [16, 17] (by kernel_rfl) (by kernel_rfl) (fun i T z hi hk => by simp only [List.mem_cons, List.not_mem_nil, or_false] at hi; rcases hi with rfl | rfl | rfl | rfl | rfl | rfl | rfl | rfl | rfl | rfl | rfl | rfl | rfl | rfl | rfl | rfl <;> simp [kdOf] at hk <;> (obtain ⟨rfl, rfl⟩ := hk; first | (show Option.bind _ _ = some _; kernel_rfl) | (refine ⟨_, rfl, fun _ _ => ?_⟩; go_simp))) ?_
              intro Wx hWx
              have HTx := Lib.hid (HT.out.trans hWx)
              clear hWx HT
              have HT := HTx
              clear HTx
              have HVTx := Lib.hid (SL.go HVT.out HT.out)
              clear HVT
              have HVT := HVTx
              clear HVTx
              have n0 := (HB.out.step HT.out).cell 0
              have n1 := (HB.out.step HT.out).cell 1
              have n2 := (HB.out.step HT.out).cell 2
              have n3 := (HB.out.step HT.out).cell 3
              simp only [List.getElem?_cons_zero, List.getElem?_cons_succ] at n0 n1 n2 n3
              repeat (first | (refine run_off rfl rfl (by rfl) ?_; (try simp only [Act.put, List.setIfInBounds_toArray, List.set_cons_zero, List.set_cons_succ])) | (refine run_chain_off rfl rfl (by rfl) (K0_mono _) ?_; (try simp only [Act.put, List.setIfInBounds_toArray, List.set_cons_zero, List.set_cons_succ])) | ((refine run_want rfl rfl (by rfl) ⟨?_, fun W hW => ?_, ?_⟩; rotate_left; (· (have d0 := hW.keeps.cell id n0; have d1 := hW.keeps.cell id n1; have d2 := hW.keeps.cell id n2; have d3 := hW.keeps.cell id n3; go_simp; (try with_reducible rfl)))); (try simp only [Act.put, List.setIfInBounds_toArray, List.set_cons_zero, List.set_cons_succ])))
              clear n0 n1 n2 n3
              refine run_chain rfl rfl (by rfl) (fun Wi hWi K' hK => ?_)
              have HTi := Lib.hid (HT.out.trans hWi)
              have h1i := Lib.hid (SL.go HVT.out hWi)
              clear hWi HT HVT
              go_simp
              refine (Tests_any _ l _ _ (SL.go HV.out HTi.out) (by have := HFEW.out.1; omega)).mono ?_
              rintro e wn ⟨v1, rfl, hv1, hSn⟩
              have HT := Lib.hid (HTi.out.trans (StepX.of hSn))
              have HVT := Lib.hid (SL.go h1i.out hSn)
              have HZI := Lib.hid HTi.out.size
              clear HTi h1i
              have Hhv1 := Lib.hid (SL.go hv1 (Step.refl _))
              clear hv1
              refine hK _ _ (StepX.of hSn) ?_
              clear hSn
              (try simp only [Act.put, List.setIfInBounds_toArray, List.set_cons_zero, List.set_cons_succ])
              have n0 := (HB.out.step HT.out).cell 0
              have n1 := (HB.out.step HT.out).cell 1
              have n2 := (HB.out.step HT.out).cell 2
              have n3 := (HB.out.step HT.out).cell 3
              simp only [List.getElem?_cons_zero, List.getElem?_cons_succ] at n0 n1 n2 n3
              repeat (first | (refine run_off rfl rfl (by rfl) ?_; (try simp only [Act.put, List.setIfInBounds_toArray, List.set_cons_zero, List.set_cons_succ])) | (refine run_chain_off rfl rfl (by rfl) (K0_mono _) ?_; (try simp only [Act.put, List.setIfInBounds_toArray, List.set_cons_zero, List.set_cons_succ])) | ((refine run_want rfl rfl (by rfl) ⟨?_, fun W hW => ?_, ?_⟩; rotate_left; (· (have d0 := hW.keeps.cell id n0; have d1 := hW.keeps.cell id n1; have d2 := hW.keeps.cell id n2; have d3 := hW.keeps.cell id n3; go_simp; (try with_reducible rfl)))); (try simp only [Act.put, List.setIfInBounds_toArray, List.set_cons_zero, List.set_cons_succ])))
              clear n0 n1 n2 n3
              refine run_chain rfl rfl (by rfl) (fun Wi hWi K' hK => ?_)
              have HTi := Lib.hid (HT.out.trans hWi)
              have h1i := Lib.hid (SL.go HVT.out hWi)
              have h2i := Lib.hid (SL.go Hhv1.out hWi)
              clear hWi HT HVT Hhv1
              go_simp
              refine (RWindS_any s (k2) hl2 _ _ (AV.go HX.out HTi.out) HSO.out.corners HP.out.2 (by have := HSO.out.base; omega)).mono ?_
              rintro e wn ⟨v5, rfl, hv5, hSn⟩
              have HT := Lib.hid (HTi.out.trans (StepX.of hSn))
              have HVT := Lib.hid (SL.go h1i.out hSn)
              have Hhv1 := Lib.hid (SL.go h2i.out hSn)
              have HZI := Lib.hid HTi.out.size
              clear HTi h1i h2i
              have Hhv5 := Lib.hid (SL.go hv5 (Step.refl _))
              clear hv5
              refine hK _ _ (StepX.of hSn) ?_
              clear hSn
              (try simp only [Act.put, List.setIfInBounds_toArray, List.set_cons_zero, List.set_cons_succ])
              have n0 := (HB.out.step HT.out).cell 0
              have n1 := (HB.out.step HT.out).cell 1
              have n2 := (HB.out.step HT.out).cell 2
              have n3 := (HB.out.step HT.out).cell 3
              simp only [List.getElem?_cons_zero, List.getElem?_cons_succ] at n0 n1 n2 n3
              repeat (first | (refine run_off rfl rfl (by rfl) ?_; (try simp only [Act.put, List.setIfInBounds_toArray, List.set_cons_zero, List.set_cons_succ])) | (refine run_chain_off rfl rfl (by rfl) (K0_mono _) ?_; (try simp only [Act.put, List.setIfInBounds_toArray, List.set_cons_zero, List.set_cons_succ])) | ((refine run_want rfl rfl (by rfl) ⟨?_, fun W hW => ?_, ?_⟩; rotate_left; (· (have d0 := hW.keeps.cell id n0; have d1 := hW.keeps.cell id n1; have d2 := hW.keeps.cell id n2; have d3 := hW.keeps.cell id n3; go_simp; (try with_reducible rfl)))); (try simp only [Act.put, List.setIfInBounds_toArray, List.set_cons_zero, List.set_cons_succ])))
              clear n0 n1 n2 n3
              refine run_chain rfl rfl (by rfl) (fun Wi hWi K' hK => ?_)
              have HTi := Lib.hid (HT.out.trans hWi)
              have h1i := Lib.hid (SL.go HVT.out hWi)
              have h2i := Lib.hid (SL.go Hhv1.out hWi)
              have h3i := Lib.hid (SL.go Hhv5.out hWi)
              clear hWi HT HVT Hhv1 Hhv5
              go_simp
              refine (Wind_any _ (blowL s.base s.levels[k2].push) _ _ h3i.out (by simp [blowL]; have := HSO.out.base; omega)).mono ?_
              rintro e wn ⟨v6, rfl, hv6, hSn⟩
              have HT := Lib.hid (HTi.out.trans (StepX.of hSn))
              have HVT := Lib.hid (SL.go h1i.out hSn)
              have Hhv1 := Lib.hid (SL.go h2i.out hSn)
              have Hhv5 := Lib.hid (SL.go h3i.out hSn)
              clear HTi h1i h2i h3i
              have Hhv6 := Lib.hid (SL.go hv6 (Step.refl _))
              clear hv6
              refine hK _ _ (StepX.of hSn) ?_
              clear hSn
              (try simp only [Act.put, List.setIfInBounds_toArray, List.set_cons_zero, List.set_cons_succ])
              have n0 := (HB.out.step HT.out).cell 0
              have n1 := (HB.out.step HT.out).cell 1
              have n2 := (HB.out.step HT.out).cell 2
              have n3 := (HB.out.step HT.out).cell 3
              simp only [List.getElem?_cons_zero, List.getElem?_cons_succ] at n0 n1 n2 n3
              repeat (first | (refine run_off rfl rfl (by rfl) ?_; (try simp only [Act.put, List.setIfInBounds_toArray, List.set_cons_zero, List.set_cons_succ])) | (refine run_chain_off rfl rfl (by rfl) (K0_mono _) ?_; (try simp only [Act.put, List.setIfInBounds_toArray, List.set_cons_zero, List.set_cons_succ])) | ((refine run_want rfl rfl (by rfl) ⟨?_, fun W hW => ?_, ?_⟩; rotate_left; (· (have d0 := hW.keeps.cell id n0; have d1 := hW.keeps.cell id n1; have d2 := hW.keeps.cell id n2; have d3 := hW.keeps.cell id n3; go_simp; (try with_reducible rfl)))); (try simp only [Act.put, List.setIfInBounds_toArray, List.set_cons_zero, List.set_cons_succ])))
              clear n0 n1 n2 n3
              refine run_chain rfl rfl (by rfl) (fun Wi hWi K' hK => ?_)
              have HTi := Lib.hid (HT.out.trans hWi)
              have h1i := Lib.hid (SL.go HVT.out hWi)
              have h2i := Lib.hid (SL.go Hhv1.out hWi)
              have h3i := Lib.hid (SL.go Hhv6.out hWi)
              clear hWi HT HVT Hhv1 Hhv6
              go_simp
              refine (Weakest_any (fun _ => False) l (reefL cv0 t) (blowL s.base s.levels[k2].push) _ _ _ _ h2i.out h1i.out h3i.out).mono ?_
              rintro e wn ⟨a, b, rfl, hz, hok, hSn⟩
              have HT := Lib.hid (HTi.out.trans (StepX.of hSn))
              have HVT := Lib.hid (SL.go h1i.out hSn)
              have Hhv1 := Lib.hid (SL.go h2i.out hSn)
              have Hhv6 := Lib.hid (SL.go h3i.out hSn)
              clear HTi h1i h2i h3i
              rw [HWK2.out.1, HWK2.out.2]
              clear hz hok HVT Hhv1 Hhv5 Hhv6
              refine hK _ _ (StepX.of hSn) ?_
              clear hSn
              (try simp only [Act.put, List.setIfInBounds_toArray, List.set_cons_zero, List.set_cons_succ])
              repeat (first | (refine run_off rfl rfl (by rfl) ?_; (try simp only [Act.put, List.setIfInBounds_toArray, List.set_cons_zero, List.set_cons_succ])) | (refine run_chain_off rfl rfl (by rfl) (K0_mono _) ?_; (try simp only [Act.put, List.setIfInBounds_toArray, List.set_cons_zero, List.set_cons_succ])) | ((refine run_want rfl rfl (by rfl) ⟨?_, fun W hW => ?_, ?_⟩; rotate_left; (· (skip; go_simp; (try with_reducible rfl)))); (try simp only [Act.put, List.setIfInBounds_toArray, List.set_cons_zero, List.set_cons_succ])))
              refine run_alloc rfl rfl (fun W5 gw hW5 hg hgb hgN => ?_)
              (try simp only [Act.put, List.setIfInBounds_toArray, List.set_cons_zero, List.set_cons_succ])
              repeat (first | (refine run_off rfl rfl (by rfl) ?_; (try simp only [Act.put, List.setIfInBounds_toArray, List.set_cons_zero, List.set_cons_succ])) | (refine run_chain_off rfl rfl (by rfl) (K0_mono _) ?_; (try simp only [Act.put, List.setIfInBounds_toArray, List.set_cons_zero, List.set_cons_succ])) | ((refine run_want rfl rfl (by rfl) ⟨?_, fun W hW => ?_, ?_⟩; rotate_left; (· (skip; go_simp; (try with_reducible rfl)))); (try simp only [Act.put, List.setIfInBounds_toArray, List.set_cons_zero, List.set_cons_succ])))
              refine run_end (L := [_, _]) rfl (fun W6x hW6 => ?_)
              have hb6 := Bx.step (w := W5) (cs := [_, _]) hg hW6
              refine wpl_store (v := .agg #[.int .i64 a, .int .i64 b]) rfl _ _ _ rfl rfl rfl hb6 (by kernel_rfl) (by simp [Value.cells]) (by simp [Value.cells, Value.oneCell']) [.int .i64 a, .int .i64 b] rfl (fun w8 hb8 hw8 => ?_)
              have HTx := Lib.hid (Step.wrote ((HT.out.trans hW5).trans hW6) hw8 hgb)
              clear hW5 hg hgb hgN hW6 hb6 hb8 hw8 HT
              have HT8 := Lib.hid (HTW.out.trans HTx.out)
              clear HTx
              go_wp2
              go_roundw
              case rel => exact ⟨(k2) + 1, by omega, by go_num, HT8.out⟩
              case measure => simp [intOf]; omega
end Go.Proofs.YtoanjaidfdkdpaaGreat
