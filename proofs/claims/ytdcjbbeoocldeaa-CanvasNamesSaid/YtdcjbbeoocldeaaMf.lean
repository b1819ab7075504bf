/- The reach of a head, by the document and by the program, is walked. -/
import Derived.Test.YtdcjbbeoocldeaaMe
import Derived.Test.YtdcjbbeoocldeaaRows
/- Walks: the reach of a head, by the document. -/
namespace Go.Proofs.Ytdcjbbeoocldeaa
set_option linter.unusedSimpArgs false
set_option linter.unusedVariables false
open Go.RowKit Go.BT

theorem corner_in {v : Vec} (h : cornerB v = true) : inV 10000 v := by
  simp only [cornerB, withinB, Bool.and_eq_true, decide_eq_true_eq] at h
  exact h
theorem times_in {v : Vec} {n A N : Int} (hv : inV A v) (hn : 0 ≤ n ∧ n ≤ N) : inV (N * A) (timesV v n) := ⟨mul_in ⟨by omega, hn.2⟩ hv.1, mul_in ⟨by omega, hn.2⟩ hv.2⟩
theorem in_fits {v : Vec} {A : Int} (hv : inV A v) (hA : A ≤ 4000000000000000000) : fits v.x ∧ fits v.y := by unfold inV at hv; unfold fits; omega
/-- Behind k, by m, nothing is balanced. -/
def Ends (F : List Vec) (q : Vec) (k m : Int) : Prop := 10000 < k + m ∨ balL F (timesV q (k + m)) = false
theorem Ends.more {F : List Vec} {q : Vec} {k m d : Int} (h : Ends F q k m) (hk : 0 ≤ k + m) (hd : 0 ≤ d) : Ends F q (k + d) m := by
  rcases h with h | h
  · exact .inl (by omega)
  · refine .inr ?_
    cases hb : balL F (timesV q (k + d + m)) with
    | false => rfl
    | true => rw [bal_mono hb hk (by omega)] at h; exact absurd h (by decide)
theorem Ends.reach {F : List Vec} {q : Vec} {k : Int} (h : Ends F q k 1) (h0 : 0 ≤ k) (h1 : k ≤ 10000) (hb : balL F (timesV q k) = true) : IsReach F q k :=
  ⟨h0, h1, hb, fun hl => h.resolve_left (by omega)⟩
theorem pow_half {n : Nat} : (2 : Int) ^ (n + 1) / 2 = 2 ^ n := by rw [Int.pow_succ]; omega
theorem pow_le13 : ∀ n : Nat, n ≤ 13 → 1 ≤ (2 : Int) ^ n ∧ (2 : Int) ^ n ≤ 8192 := by decide
set_option maxRecDepth 100000 in
set_option maxHeartbeats 8000000 in
theorem RReach_any (S : Nat → Prop) (l : List Tst) (h : Head) (way : Vec) (v u : Value) (w : World) (hv : SL S w v l) (hu : AV S w u h) (hl : l.all tstB = true) (hh : headB h = true) (hw : cornerB way = true) :
    Calls Try.prog 28 #[v, u, .agg #[.int .i64 way.x, .int .i64 way.y]] w fun e w' => ∃ k : Int, e = .returned (.int .i64 k) ∧ IsReach (forcesL l h.guys) (timesV way h.area) k ∧ Step w w' := by
  obtain ⟨hpa, hpb, hpn, hpg⟩ := head_parts hh
  obtain ⟨c2, rfl, h2⟩ := hu.head
  obtain ⟨pg, cg, rfl⟩ := h2.form
  obtain ⟨W0, hW0⟩ : ∃ W, W = (w.alloc (.cells #[.int .i64 h.area, .int .i64 h.bears, .slice pg h.guys.length cg] 49)).alloc (.cells #[.int .i64 way.x, .int .i64 way.y] 26) := ⟨_, rfl⟩
  have hb1 : Bx W0 w.heap.size [.int .i64 h.area, .int .i64 h.bears, .slice pg h.guys.length cg] 49 := by subst hW0; exact (Bx.new w [_, _, _] _).alloc _
  have hb2 : Bx W0 (w.heap.size + 1) [.int .i64 way.x, .int .i64 way.y] 26 := by subst hW0; exact Bx.new' _ [_, _] _ _ (by simp)
  have hS : Step w W0 := by subst hW0; exact (by repeat (first | (with_reducible assumption) | (with_reducible exact Step.refl _) | (with_reducible apply Step.s_alloc) | (with_reducible apply Step.s_drew) | (with_reducible apply Step.s_drewN) | (with_reducible refine Step.trans ?_ (by with_reducible assumption))))
  have hcall := Lib.hid (Forces_any S l h _ (.agg #[.int .i64 h.area, .int .i64 h.bears, .slice pg h.guys.length cg]) W0 (hv.keep (.of_step hS)) ⟨_, rfl, _, rfl, h2.keep (.of_step hS)⟩ hl hpg (by omega))
  have HSM := Lib.hid (forces_small hl hpg)
  have HFL := Lib.hid (show (forcesL l h.guys).length ≤ 8 by rw [forces_len]; exact hpn)
  obtain ⟨F, hF⟩ : ∃ F, F = forcesL l h.guys := ⟨_, rfl⟩
  rw [← hF] at hcall HSM HFL ⊢
  obtain ⟨q, hq⟩ : ∃ q, q = timesV way h.area := ⟨_, rfl⟩
  have hqi : inV 10000000 q := by rw [hq]; exact times_in (N := 1000) (corner_in hw) hpa
  have hqf := in_fits hqi (by decide)
  have HQF := Lib.hid (show fits (h.area * way.x) ∧ fits (h.area * way.y) by rw [hq] at hqf; exact hqf)
  have HQ := Lib.hid (And.intro hq hqi)
  rw [← hq]
  obtain ⟨pv, cv, rfl⟩ := hv.form
  have HB1 := Lib.hid hb1
  have HB2 := Lib.hid hb2
  have HS := Lib.hid hS
  have HW := Lib.hid hW0
  clear hb1 hb2 hS hW0 h2 hv hpb hpn hpg hF hq hqi hqf hw hh hl hpa
  go_enter Try.func28, Try.ntmps28
  go_wp2_with fail
  rw [← HW.out]
  refine hcall.out.mono ?_
  rintro e w1 ⟨vf, rfl, hvf, hS1⟩
  obtain ⟨pf, cf, rfl⟩ := hvf.form
  have HVF := Lib.hid (SL.weak (T := fun _ => False) (fun _ _ h => h.elim) hvf)
  have HS1 := Lib.hid hS1
  clear hcall hvf hS1
  go_wp2
  go_loopw [8, 9] (fun i st wr => ∃ k s : Int, i = .int .i64 k ∧ st = .int .i64 s ∧ (0 ≤ k ∧ k ≤ 10000) ∧ balL F (timesV q k) = true ∧ ((s = 0 ∧ Ends F q k 1) ∨ ∃ n : Nat, n ≤ 13 ∧ s = 2 ^ n ∧ Ends F q k (2 * s)) ∧ Step w1 wr) (fun _ st _ => (intOf st).toNat)
  case atStart => exact ⟨0, 8192, rfl, rfl, ⟨by omega, by omega⟩, bal_zero _ _, .inr ⟨13, by omega, by decide, .inl (by omega)⟩, Step.refl _⟩
  case round =>
    obtain ⟨k, s, rfl, rfl, hk, hbal, hs, hT⟩ := hrel
    have HBAL := Lib.hid hbal
    have HT := Lib.hid hT
    clear hbal hT
    rcases hs with ⟨rfl, hend⟩ | ⟨n, hn, hs, hend⟩
    · have HR := Lib.hid (hend.reach hk.1 hk.2 HBAL.out)
      clear hend
      go_wp2
      go_ret
      exact ⟨k, rfl, HR.out, HS.out.trans (HS1.out.trans HT.out)⟩
    · have hp := pow_le13 n hn
      rw [← hs] at hp
      have hd : decide (0 < s) = true := by simp; omega
      have hwd : IntKind.i64.wrap (s.tdiv 2) = s / 2 := by rw [Int.tdiv_eq_ediv_of_nonneg (by omega), IntKind.wrap_i64]; omega
      have HEND := Lib.hid hend
      have HN := Lib.hid (And.intro hn hs)
      clear hend hn hs
      go_wp2
      obtain ⟨wo, hwo⟩ : ∃ W, W = wr := ⟨_, rfl⟩
      subst hwo
      go_loopw [8] (fun i wi => ∃ k : Int, i = .int .i64 k ∧ (0 ≤ k ∧ k ≤ 10000) ∧ balL F (timesV q k) = true ∧ Ends F q k (2 * s) ∧ Step w1 wi) (fun i _ => (10000 - intOf i).toNat)
      case atStart => exact ⟨k, rfl, hk, HBAL.out, HEND.out, HT.out⟩
      case round =>
        clear HBAL HEND
        obtain ⟨k, rfl, hk, hbal, hend, hT⟩ := hrel
        have HBAL := Lib.hid hbal
        have HEND := Lib.hid hend
        have HTI := Lib.hid hT
        clear hbal hend hT
        have hwa : IntKind.i64.wrap (k + s) = k + s := by rw [IntKind.wrap_i64]; omega
        by_cases hle : k + s ≤ 10000
        · have hd2 : decide (k + s ≤ 10000) = true := by simpa using hle
          have hki := times_in (N := 10000) (HQ.out.2) (show 0 ≤ k + s ∧ k + s ≤ 10000 by omega)
          have hkf := in_fits hki (by decide)
          have HKF := Lib.hid (And.intro hki hkf)
          clear hki hkf
          obtain ⟨m0, m1, m2⟩ := cells3 (HB1.out.step (HS1.out.trans HTI.out))
          have n0 := (HB2.out.step (HS1.out.trans HTI.out)).cell 0
          have n1 := (HB2.out.step (HS1.out.trans HTI.out)).cell 1
          simp only [List.getElem?_cons_zero, List.getElem?_cons_succ] at n0 n1
          go_wp2_with fail
          refine (Times_any way h.area _ HQF.out.1 HQF.out.2).mono ?_
          rintro e w2 ⟨rfl, hS2⟩
          rw [← HQ.out.1]
          have HS2 := Lib.hid (HTI.out.trans hS2)
          clear m0 m1 m2 n0 n1 hS2
          go_wp2_with fail
          refine (Times_any q (k + s) _ HKF.out.2.1 HKF.out.2.2).mono ?_
          rintro e w3 ⟨rfl, hS3⟩
          have HS3 := Lib.hid (HS2.out.trans hS3)
          clear hS3
          go_wp2_with fail
          refine (Balances_any _ F (timesV q (k + s)) _ _ (HVF.out.keep (.of_step HS3.out)) HSM.out HFL.out HKF.out.1).mono ?_
          rintro e w4 ⟨rfl, hS4⟩
          have HS4 := Lib.hid (HS3.out.trans hS4)
          clear hS4
          cases hb : balL F (timesV q (k + s)) with
          | true =>
            have HB := Lib.hid hb
            clear hb
            go_wp2
            go_roundw
            case rel => exact ⟨k + s, by go_num, by omega, HB.out, HEND.out.more (by omega) (by omega), HS4.out⟩
            case measure => simp [intOf]; omega
          | false =>
            have HB := Lib.hid (show Ends F q k s from .inr hb)
            clear hb
            go_wp2
            go_roundw
            case rel =>
              refine ⟨k, s / 2, rfl, by go_num, by omega, HBAL.out, ?_, HS4.out⟩
              obtain ⟨hn, hs⟩ := HN.out
              cases n with
              | zero => left; rw [hs]; refine ⟨by decide, ?_⟩; have h := HB.out; rw [hs] at h; exact h
              | succ n =>
                right
                refine ⟨n, by omega, by rw [hs, pow_half], ?_⟩
                have h := HB.out
                rw [show 2 * (s / 2) = s by rw [hs, pow_half, Int.pow_succ]; omega]; exact h
            case measure => simp [intOf]; omega
        · have hd2 : decide (k + s ≤ 10000) = false := by simpa using hle
          have HB := Lib.hid (show Ends F q k s from .inl (by omega))
          go_wp2
          go_roundw
          case rel =>
            refine ⟨k, s / 2, rfl, by go_num, by omega, HBAL.out, ?_, HTI.out⟩
            obtain ⟨hn, hs⟩ := HN.out
            cases n with
            | zero => left; rw [hs]; refine ⟨by decide, ?_⟩; have h := HB.out; rw [hs] at h; exact h
            | succ n =>
              right
              refine ⟨n, by omega, by rw [hs, pow_half], ?_⟩
              have h := HB.out
              rw [show 2 * (s / 2) = s by rw [hs, pow_half, Int.pow_succ]; omega]; exact h
          case measure => simp [intOf]; omega
end Go.Proofs.Ytdcjbbeoocldeaa
/- Walks: the reach of a head: the program's way. -/
namespace Go.Proofs.Ytdcjbbeoocldeaa
set_option linter.unusedSimpArgs false
set_option linter.unusedVariables false
open Go.RowKit Go.BT

theorem atC_false {l : List Tst} {t : List Head} {i : Int} : atC l t i false ≠ 0 := fun h => by
  have := (atC_ok h).2.2.2.1
  exact absurd this (by decide)
/-- A direction that may be asked for its reach. -/
def wayB (v : Vec) : Bool := cornerB v && !veq v.x v.y 0 0
set_option maxRecDepth 100000 in
set_option maxHeartbeats 8000000 in
theorem Reach_any (S : Nat → Prop) (l : List Tst) (t : List Head) (i : Int) (way : Vec) (v u : Value) (w : World) (hv : SL S w v l) (hu : SL S w u t) :
    Calls Try.prog 27 #[v, u, .int .i64 i, .agg #[.int .i64 way.x, .int .i64 way.y]] w fun e w' => ∃ k : Int, e = .returned (.tuple #[.int .i64 k, .int .i64 (atC l t i (wayB way))]) ∧ (atC l t i (wayB way) = 0 → IsReach (forcesL l (headAt t i).guys) (timesV way (headAt t i).area) k) ∧ (atC l t i (wayB way) ≠ 0 → k = 0) ∧ Step w w' := by
  obtain ⟨vx, vy⟩ := way
  obtain ⟨W0, hW0⟩ : ∃ W, W = w.alloc (.cells #[.int .i64 vx, .int .i64 vy] 40) := ⟨_, rfl⟩
  have hb : Bx W0 w.heap.size [.int .i64 vx, .int .i64 vy] 40 := by subst hW0; exact Bx.new w [_, _] _
  have hS : Step w W0 := by subst hW0; exact (by repeat (first | (with_reducible assumption) | (with_reducible exact Step.refl _) | (with_reducible apply Step.s_alloc) | (with_reducible apply Step.s_drew) | (with_reducible apply Step.s_drewN) | (with_reducible refine Step.trans ?_ (by with_reducible assumption))))
  have HB := Lib.hid hb
  have HV := Lib.hid hv
  have HU := Lib.hid hu
  have HS := Lib.hid hS
  have HW := Lib.hid hW0
  obtain ⟨pv, cv, rfl⟩ := hv.form
  obtain ⟨pu, cu, rfl⟩ := hu.form
  clear hb hS hW0 hv hu
  dsimp only
  go_enter Try.func27, Try.ntmps27
  go_wp2_with fail
  rw [← HW.out]
  refine (in_any ⟨vx, vy⟩ 10000 _ (by omega)).mono ?_
  rintro e w1 ⟨rfl, hS1⟩
  have HT := Lib.hid (HS.out.trans hS1)
  have hcb0 : (withinB vx (-10000) 10000 && withinB vy (-10000) 10000) = cornerB ⟨vx, vy⟩ := rfl
  dsimp only
  rw [hcb0]
  cases hcb : cornerB ⟨vx, vy⟩ with
  | false =>
    have HRB := Lib.hid (show wayB ⟨vx, vy⟩ = false by unfold wayB; rw [hcb]; rfl)
    go_wp2_with fail
    refine (at_any S l t i false _ _ _ (HV.out.keep (.of_step HT.out)) (HU.out.keep (.of_step HT.out))).mono ?_
    rintro e w2 ⟨vm, rfl, ⟨a1, a2, a3, a4, a5, a6, a7, a8, rfl⟩, hok, hS2⟩
    have HSx := Lib.hid (HT.out.trans hS2)
    obtain ⟨c, hc⟩ : ∃ c, c = atC l t i false := ⟨_, rfl⟩
    rw [← hc] at hok ⊢
    have h0 : c ≠ 0 := by rw [hc]; exact atC_false
    have hd : (c != 0) = true := by simpa using h0
    have HC := Lib.hid (show atC l t i (wayB ⟨vx, vy⟩) = c by rw [HRB.out, hc])
    have H0 := Lib.hid h0
    clear hc hok hS2
    go_wp2
    go_ret2
    exact ⟨0, by rw [HC.out]; rfl, fun h => absurd (HC.out.symm.trans h) H0.out, fun _ => rfl, HSx.out.trans (Step.alloc _ _)⟩
  | true =>
    have n0 := (HB.out.step hS1).cell 0
    have n1 := (HB.out.step hS1).cell 1
    simp only [List.getElem?_cons_zero, List.getElem?_cons_succ] at n0 n1
    by_cases hx : vx = 0
    · by_cases hy : vy = 0
      · have HRB := Lib.hid (show wayB ⟨vx, vy⟩ = false by unfold wayB; rw [hcb, hx, hy]; rfl)
        go_wp2_with fail
        refine (at_any S l t i false _ _ _ (HV.out.keep (.of_step HT.out)) (HU.out.keep (.of_step HT.out))).mono ?_
        rintro e w2 ⟨vm, rfl, ⟨a1, a2, a3, a4, a5, a6, a7, a8, rfl⟩, hok, hS2⟩
        have HSx := Lib.hid (HT.out.trans hS2)
        obtain ⟨c, hc⟩ : ∃ c, c = atC l t i false := ⟨_, rfl⟩
        rw [← hc] at hok ⊢
        have h0 : c ≠ 0 := by rw [hc]; exact atC_false
        have hd : (c != 0) = true := by simpa using h0
        have HC := Lib.hid (show atC l t i (wayB ⟨vx, vy⟩) = c by rw [HRB.out, hc])
        have H0 := Lib.hid h0
        clear hc hok hS2
        go_wp2
        go_ret2
        exact ⟨0, by rw [HC.out]; rfl, fun h => absurd (HC.out.symm.trans h) H0.out, fun _ => rfl, HSx.out.trans (Step.alloc _ _)⟩
      · have HRB := Lib.hid (show wayB ⟨vx, vy⟩ = true by unfold wayB veq; rw [hcb]; simp [hy])
        go_wp2_with fail
        refine (at_any S l t i true _ _ _ (HV.out.keep (.of_step HT.out)) (HU.out.keep (.of_step HT.out))).mono ?_
        rintro e w2 ⟨vm, rfl, ⟨a1, a2, a3, a4, a5, a6, a7, a8, rfl⟩, hok, hS2⟩
        have HSx := Lib.hid (HT.out.trans hS2)
        obtain ⟨c, hc⟩ : ∃ c, c = atC l t i true := ⟨_, rfl⟩
        rw [← hc] at hok ⊢
        clear hx hy
        by_cases h0 : c = 0
        rotate_left
        · skip
          have hd : (c != 0) = true := by simpa using h0
          have HC := Lib.hid (show atC l t i (wayB ⟨vx, vy⟩) = c by rw [HRB.out, hc])
          have H0 := Lib.hid h0
          clear hc hok hS2
          go_wp2
          go_ret2
          exact ⟨0, by rw [HC.out]; rfl, fun h => absurd (HC.out.symm.trans h) H0.out, fun _ => rfl, HSx.out.trans (Step.alloc _ _)⟩
        subst h0
        have HC := Lib.hid (show atC l t i (wayB ⟨vx, vy⟩) = 0 by rw [HRB.out, hc])
        obtain ⟨k1, k2, k3, k4, k5⟩ := atC_ok hc.symm
        obtain ⟨hpa, hpb, hpn, hpg⟩ := head_parts (headAt_ok k2 k3)
        have hmv := hok rfl
        have HSM := Lib.hid (forces_small k1 hpg)
        have HFL := Lib.hid (show (forcesL l (headAt t i).guys).length ≤ 8 by rw [forces_len]; exact hpn)
        obtain ⟨F, hF⟩ : ∃ F, F = forcesL l (headAt t i).guys := ⟨_, rfl⟩
        obtain ⟨ar, har⟩ : ∃ a, a = (headAt t i).area := ⟨_, rfl⟩
        rw [← hF] at hmv HSM HFL
        rw [← har] at hmv hpa
        have HFA := Lib.hid (And.intro hF har)
        clear hF har hok hc hpb hpn hpg k1 k2 k3 k4 k5
        obtain ⟨b, p2, n2, q2, p3, q3, hve, hsl⟩ := hmv
        simp at hve
        obtain ⟨rfl, rfl, ⟨rfl, rfl, rfl⟩, rfl, rfl, rfl⟩ := hve
        obtain ⟨q, hq⟩ : ∃ q, q = timesV ⟨vx, vy⟩ a1 := ⟨_, rfl⟩
        have hqi : inV 10000000 q := by rw [hq]; exact times_in (N := 1000) (corner_in hcb) hpa
        have hqf := in_fits hqi (by decide)
        have HQF := Lib.hid (show fits (a1 * vx) ∧ fits (a1 * vy) by rw [hq] at hqf; exact hqf)
        have HQ := Lib.hid (And.intro hq hqi)
        obtain ⟨wl, hwl⟩ : ∃ W, W = w2.alloc (.cells #[.int .i64 a1, .int .i64 a2, .slice a3 a4 a5, .slice a6 F.length a8] 117) := ⟨_, rfl⟩
        have hbm : Bx wl w2.heap.size [.int .i64 a1, .int .i64 a2, .slice a3 a4 a5, .slice a6 F.length a8] 117 := by rw [hwl]; exact Bx.new w2 [_, _, _, _] _
        have hsl2 : Step w2 wl := by rw [hwl]; exact Step.alloc _ _
        have HBM := Lib.hid hbm
        have HMV := Lib.hid (show MV wl (.agg #[.int .i64 a1, .int .i64 a2, .slice a3 a4 a5, .slice a6 F.length a8]) a1 F from ⟨a2, a3, a4, a5, a6, a8, rfl, hsl.keep (.of_step hsl2)⟩)
        have HBl := Lib.hid ((HB.out.step hS1).step (hS2.trans hsl2))
        have HSl := Lib.hid (HSx.out.trans hsl2)
        have HWL := Lib.hid hwl
        have HT0 := Lib.hid (Step.refl wl)
        clear hq hqi hqf hbm hsl2 hsl hwl hS2 n0 n1 hpa hcb hcb0
        go_wp2
        rw [← HWL.out]
        clear HT
        go_loopw [12, 13] (fun i j wr => ∃ a b : Int, i = .int .i64 a ∧ j = .int .i64 b ∧ 0 ≤ a ∧ a ≤ b ∧ b ≤ 10000 ∧ balL F (timesV q a) = true ∧ (b < 10000 → balL F (timesV q (b + 1)) = false) ∧ Step wl wr) (fun i j _ => (intOf j - intOf i).toNat)
        case atStart => exact ⟨0, 10000, rfl, rfl, by omega, by omega, by omega, bal_zero _ _, fun h => absurd h (by omega), HT0.out⟩
        case round =>
          obtain ⟨a, b, rfl, rfl, ha0, hab, hb0, hba, hbb, hT⟩ := hrel
          have HBA := Lib.hid (And.intro hba hbb)
          have HT := Lib.hid hT
          clear hba hbb hT
          by_cases hlt : a < b
          · have hd : decide (a < b) = true := by simpa using hlt
            obtain ⟨m, hm⟩ : ∃ m, m = (a + b + 1) / 2 := ⟨_, rfl⟩
            have hmb : a < m ∧ m ≤ b := by omega
            have hw4 : IntKind.i64.wrap (a + b) = a + b := by rw [IntKind.wrap_i64]; omega
            have hw6 : IntKind.i64.wrap (a + b + 1) = a + b + 1 := by rw [IntKind.wrap_i64]; omega
            have hw5 : IntKind.i64.wrap ((a + b + 1).tdiv 2) = m := by rw [Int.tdiv_eq_ediv_of_nonneg (by omega), IntKind.wrap_i64]; omega
            have hw7 : IntKind.i64.wrap (m - 1) = m - 1 := by rw [IntKind.wrap_i64]; omega
            have hki := times_in (N := 10000) (HQ.out.2) (show 0 ≤ m ∧ m ≤ 10000 by omega)
            have hkf := in_fits hki (by decide)
            have HKF := Lib.hid (And.intro hki hkf)
            clear hki hkf hm
            go_upto_region 7 with (fail)
            have HSZ0 := Lib.hid (HT.out.size)
            have hwq := HT.out
            refine wp_region_seqM (fun c d v a w h => by cases d <;> exact h) (kdOf [5, 7, 8] [(12, 40, .agg #[.int .i64 0, .int .i64 0])]) [0, 0, 0, 4, 12, 30, 0, 126, 255, 511, 1023, 1023, 0, 6143, 16383] [0, 1, 2, 3, 4, 6, 5, 7, 8, 9, 10, 11, 12] [13, 14] (by kernel_rfl) (by kernel_rfl) (fun i T z hi hk => by simp only [List.mem_cons, List.not_mem_nil, or_false] at hi; rcases hi with rfl | rfl | rfl | rfl | rfl | rfl | rfl | rfl | rfl | rfl | rfl | rfl | rfl <;> simp [kdOf] at hk <;> (obtain ⟨rfl, rfl⟩ := hk; first | (show Option.bind _ _ = some _; kernel_rfl) | (refine ⟨_, rfl, fun _ _ => ?_⟩; go_simp))) ?_
            intro Wx hWx
            have HTx := Lib.hid (hwq.trans hWx)
            clear hWx hwq HT
            have HT := HTx
            clear HTx
            obtain ⟨m0, m1, m2, m3⟩ := cells4 (HBM.out.step HT.out)
            have n0 := (HBl.out.step HT.out).cell 0
            have n1 := (HBl.out.step HT.out).cell 1
            simp only [List.getElem?_cons_zero, List.getElem?_cons_succ] at n0 n1
            repeat (first | (refine run_off rfl rfl (by rfl) ?_; (try simp only [Act.put, List.setIfInBounds_toArray, List.set_cons_zero, List.set_cons_succ])) | (refine run_chain_off rfl rfl (by rfl) (K0_mono _) ?_; (try simp only [Act.put, List.setIfInBounds_toArray, List.set_cons_zero, List.set_cons_succ])) | ((refine run_want rfl rfl (by rfl) ⟨?_, fun W hW => ?_, ?_⟩; rotate_left; (· (have d0 := hW.keeps.cell id m0; have d1 := hW.keeps.cell id m1; have d2 := hW.keeps.cell id m2; have d3 := hW.keeps.cell id m3; have d4 := hW.keeps.cell id n0; have d5 := hW.keeps.cell id n1; go_simp; (try with_reducible rfl)))); (try simp only [Act.put, List.setIfInBounds_toArray, List.set_cons_zero, List.set_cons_succ])))
            refine run_chain rfl rfl (by rfl) (fun Wi hWi K' hK => ?_)
            have HTi := Lib.hid (HT.out.trans hWi)
            have HZW := Lib.hid HTi.out.size
            clear hWi HT
            go_simp
            refine (times_any ⟨vx, vy⟩ a1 _ HQF.out.1 HQF.out.2).mono ?_
            rintro e wn ⟨rfl, hSn⟩
            have HT := Lib.hid (HTi.out.trans (StepX.of hSn))
            clear HTi
            rw [← HQ.out.1]
            refine hK _ _ (StepX.of hSn) ?_
            clear hSn
            (try simp only [Act.put, List.setIfInBounds_toArray, List.set_cons_zero, List.set_cons_succ])
            clear m0 m1 m2 m3 n0 n1
            obtain ⟨m0, m1, m2, m3⟩ := cells4 (HBM.out.step HT.out)
            repeat (first | (refine run_off rfl rfl (by rfl) ?_; (try simp only [Act.put, List.setIfInBounds_toArray, List.set_cons_zero, List.set_cons_succ])) | (refine run_chain_off rfl rfl (by rfl) (K0_mono _) ?_; (try simp only [Act.put, List.setIfInBounds_toArray, List.set_cons_zero, List.set_cons_succ])) | ((refine run_want rfl rfl (by rfl) ⟨?_, fun W hW => ?_, ?_⟩; rotate_left; (· (have d0 := hW.keeps.cell id m0; have d1 := hW.keeps.cell id m1; have d2 := hW.keeps.cell id m2; have d3 := hW.keeps.cell id m3; go_simp; (try with_reducible rfl)))); (try simp only [Act.put, List.setIfInBounds_toArray, List.set_cons_zero, List.set_cons_succ])))
            refine run_chain rfl rfl (by rfl) (fun Wi hWi K' hK => ?_)
            have HTi := Lib.hid (HT.out.trans hWi)
            have HZW := Lib.hid HTi.out.size
            clear hWi HT
            go_simp
            refine (times_any q m _ HKF.out.2.1 HKF.out.2.2).mono ?_
            rintro e wn ⟨rfl, hSn⟩
            have HT := Lib.hid (HTi.out.trans (StepX.of hSn))
            clear HTi
            refine hK _ _ (StepX.of hSn) ?_
            clear hSn
            (try simp only [Act.put, List.setIfInBounds_toArray, List.set_cons_zero, List.set_cons_succ])
            clear m0 m1 m2 m3
            obtain ⟨m0, m1, m2, m3⟩ := cells4 (HBM.out.step HT.out)
            repeat (first | (refine run_off rfl rfl (by rfl) ?_; (try simp only [Act.put, List.setIfInBounds_toArray, List.set_cons_zero, List.set_cons_succ])) | (refine run_chain_off rfl rfl (by rfl) (K0_mono _) ?_; (try simp only [Act.put, List.setIfInBounds_toArray, List.set_cons_zero, List.set_cons_succ])) | ((refine run_want rfl rfl (by rfl) ⟨?_, fun W hW => ?_, ?_⟩; rotate_left; (· (have d0 := hW.keeps.cell id m0; have d1 := hW.keeps.cell id m1; have d2 := hW.keeps.cell id m2; have d3 := hW.keeps.cell id m3; go_simp; (try with_reducible rfl)))); (try simp only [Act.put, List.setIfInBounds_toArray, List.set_cons_zero, List.set_cons_succ])))
            refine run_chain rfl rfl (by rfl) (fun Wi hWi K' hK => ?_)
            have HTi := Lib.hid (HT.out.trans hWi)
            clear hWi HT
            go_simp
            refine (weak_any F a1 (timesV q m) _ _ (HMV.out.step HTi.out) HSM.out HFL.out HKF.out.1).mono ?_
            rintro e wn ⟨zx, zy, rfl, _, _, hSn⟩
            have HT := Lib.hid (HTi.out.trans hSn)
            refine hK _ _ (StepX.of hSn) ?_
            clear HTi hSn hK m0 m1 m2 m3
            (try simp only [Act.put, List.setIfInBounds_toArray, List.set_cons_zero, List.set_cons_succ])
            repeat (first | (refine run_off rfl rfl (by rfl) ?_; (try simp only [Act.put, List.setIfInBounds_toArray, List.set_cons_zero, List.set_cons_succ])) | (refine run_chain_off rfl rfl (by rfl) (K0_mono _) ?_; (try simp only [Act.put, List.setIfInBounds_toArray, List.set_cons_zero, List.set_cons_succ])) | ((refine run_want rfl rfl (by rfl) ⟨?_, fun W hW => ?_, ?_⟩; rotate_left; (· (skip; go_simp; (try with_reducible rfl)))); (try simp only [Act.put, List.setIfInBounds_toArray, List.set_cons_zero, List.set_cons_succ])))
            refine run_alloc rfl rfl (fun W5 g hW5 hg hgb hgN => ?_)
            (try simp only [Act.put, List.setIfInBounds_toArray, List.set_cons_zero, List.set_cons_succ])
            refine run_end (L := [_, _]) rfl (fun W6 hW6 => ?_)
            have hb6 := Bx.step (w := W5) (cs := [_, _]) hg hW6
            refine wpl_store (v := .agg #[.int .i64 zx, .int .i64 zy]) rfl _ _ _ rfl rfl rfl hb6 (by kernel_rfl) (by simp [Value.cells]) (by simp [Value.cells, Value.oneCell']) [.int .i64 zx, .int .i64 zy] rfl (fun w7 hb7 hw7 => ?_)
            have hg0 := HSZ0.out
            have HTx := Lib.hid (Step.wrote ((HT.out.trans hW5).trans hW6) hw7 (by omega))
            clear hW5 hg hgb hgN hW6 hb6 hb7 hw7 HT hg0 HSZ0
            cases hbm : balL F (timesV q m) with
            | true =>
              have HB2 := Lib.hid hbm
              clear hbm
              go_wp2
              go_roundw
              case rel => exact ⟨m, b, rfl, rfl, by omega, hmb.2, hb0, HB2.out, HBA.out.2, HTx.out⟩
              case measure => simp [intOf]; omega
            | false =>
              have HB2 := Lib.hid hbm
              clear hbm
              go_wp2
              skip
              go_roundw
              case rel => exact ⟨a, m - 1, rfl, by go_num, ha0, by omega, by omega, HBA.out.1, fun _ => by rw [Int.sub_add_cancel]; exact HB2.out, HTx.out⟩
              case measure => simp [intOf]; omega
          · have hd : decide (a < b) = false := by simpa using hlt
            have hab : a = b := by omega
            subst hab
            have HR := Lib.hid (show IsReach (forcesL l (headAt t i).guys) (timesV ⟨vx, vy⟩ (headAt t i).area) a by
              rw [← HFA.out.1, ← HFA.out.2, ← HQ.out.1]
              exact ⟨ha0, hb0, HBA.out.1, HBA.out.2⟩)
            go_wp2
            go_ret2
            refine ⟨a, ?_, ?_, ?_, ?_⟩
            · rw [HC.out]; rfl
            · exact fun _ => HR.out
            · exact fun h => absurd HC.out h
            · exact HSl.out.trans HT.out
    · have HRB := Lib.hid (show wayB ⟨vx, vy⟩ = true by unfold wayB veq; rw [hcb]; simp [hx])
      go_wp2_with fail
      refine (at_any S l t i true _ _ _ (HV.out.keep (.of_step HT.out)) (HU.out.keep (.of_step HT.out))).mono ?_
      rintro e w2 ⟨vm, rfl, ⟨a1, a2, a3, a4, a5, a6, a7, a8, rfl⟩, hok, hS2⟩
      have HSx := Lib.hid (HT.out.trans hS2)
      obtain ⟨c, hc⟩ : ∃ c, c = atC l t i true := ⟨_, rfl⟩
      rw [← hc] at hok ⊢
      clear hx
      by_cases h0 : c = 0
      rotate_left
      · skip
        have hd : (c != 0) = true := by simpa using h0
        have HC := Lib.hid (show atC l t i (wayB ⟨vx, vy⟩) = c by rw [HRB.out, hc])
        have H0 := Lib.hid h0
        clear hc hok hS2
        go_wp2
        go_ret2
        exact ⟨0, by rw [HC.out]; rfl, fun h => absurd (HC.out.symm.trans h) H0.out, fun _ => rfl, HSx.out.trans (Step.alloc _ _)⟩
      subst h0
      have HC := Lib.hid (show atC l t i (wayB ⟨vx, vy⟩) = 0 by rw [HRB.out, hc])
      obtain ⟨k1, k2, k3, k4, k5⟩ := atC_ok hc.symm
      obtain ⟨hpa, hpb, hpn, hpg⟩ := head_parts (headAt_ok k2 k3)
      have hmv := hok rfl
      have HSM := Lib.hid (forces_small k1 hpg)
      have HFL := Lib.hid (show (forcesL l (headAt t i).guys).length ≤ 8 by rw [forces_len]; exact hpn)
      obtain ⟨F, hF⟩ : ∃ F, F = forcesL l (headAt t i).guys := ⟨_, rfl⟩
      obtain ⟨ar, har⟩ : ∃ a, a = (headAt t i).area := ⟨_, rfl⟩
      rw [← hF] at hmv HSM HFL
      rw [← har] at hmv hpa
      have HFA := Lib.hid (And.intro hF har)
      clear hF har hok hc hpb hpn hpg k1 k2 k3 k4 k5
      obtain ⟨b, p2, n2, q2, p3, q3, hve, hsl⟩ := hmv
      simp at hve
      obtain ⟨rfl, rfl, ⟨rfl, rfl, rfl⟩, rfl, rfl, rfl⟩ := hve
      obtain ⟨q, hq⟩ : ∃ q, q = timesV ⟨vx, vy⟩ a1 := ⟨_, rfl⟩
      have hqi : inV 10000000 q := by rw [hq]; exact times_in (N := 1000) (corner_in hcb) hpa
      have hqf := in_fits hqi (by decide)
      have HQF := Lib.hid (show fits (a1 * vx) ∧ fits (a1 * vy) by rw [hq] at hqf; exact hqf)
      have HQ := Lib.hid (And.intro hq hqi)
      obtain ⟨wl, hwl⟩ : ∃ W, W = w2.alloc (.cells #[.int .i64 a1, .int .i64 a2, .slice a3 a4 a5, .slice a6 F.length a8] 117) := ⟨_, rfl⟩
      have hbm : Bx wl w2.heap.size [.int .i64 a1, .int .i64 a2, .slice a3 a4 a5, .slice a6 F.length a8] 117 := by rw [hwl]; exact Bx.new w2 [_, _, _, _] _
      have hsl2 : Step w2 wl := by rw [hwl]; exact Step.alloc _ _
      have HBM := Lib.hid hbm
      have HMV := Lib.hid (show MV wl (.agg #[.int .i64 a1, .int .i64 a2, .slice a3 a4 a5, .slice a6 F.length a8]) a1 F from ⟨a2, a3, a4, a5, a6, a8, rfl, hsl.keep (.of_step hsl2)⟩)
      have HBl := Lib.hid ((HB.out.step hS1).step (hS2.trans hsl2))
      have HSl := Lib.hid (HSx.out.trans hsl2)
      have HWL := Lib.hid hwl
      have HT0 := Lib.hid (Step.refl wl)
      clear hq hqi hqf hbm hsl2 hsl hwl hS2 n0 n1 hpa hcb hcb0
      go_wp2
      rw [← HWL.out]
      clear HT
      go_loopw [12, 13] (fun i j wr => ∃ a b : Int, i = .int .i64 a ∧ j = .int .i64 b ∧ 0 ≤ a ∧ a ≤ b ∧ b ≤ 10000 ∧ balL F (timesV q a) = true ∧ (b < 10000 → balL F (timesV q (b + 1)) = false) ∧ Step wl wr) (fun i j _ => (intOf j - intOf i).toNat)
      case atStart => exact ⟨0, 10000, rfl, rfl, by omega, by omega, by omega, bal_zero _ _, fun h => absurd h (by omega), HT0.out⟩
      case round =>
        obtain ⟨a, b, rfl, rfl, ha0, hab, hb0, hba, hbb, hT⟩ := hrel
        have HBA := Lib.hid (And.intro hba hbb)
        have HT := Lib.hid hT
        clear hba hbb hT
        by_cases hlt : a < b
        · have hd : decide (a < b) = true := by simpa using hlt
          obtain ⟨m, hm⟩ : ∃ m, m = (a + b + 1) / 2 := ⟨_, rfl⟩
          have hmb : a < m ∧ m ≤ b := by omega
          have hw4 : IntKind.i64.wrap (a + b) = a + b := by rw [IntKind.wrap_i64]; omega
          have hw6 : IntKind.i64.wrap (a + b + 1) = a + b + 1 := by rw [IntKind.wrap_i64]; omega
          have hw5 : IntKind.i64.wrap ((a + b + 1).tdiv 2) = m := by rw [Int.tdiv_eq_ediv_of_nonneg (by omega), IntKind.wrap_i64]; omega
          have hw7 : IntKind.i64.wrap (m - 1) = m - 1 := by rw [IntKind.wrap_i64]; omega
          have hki := times_in (N := 10000) (HQ.out.2) (show 0 ≤ m ∧ m ≤ 10000 by omega)
          have hkf := in_fits hki (by decide)
          have HKF := Lib.hid (And.intro hki hkf)
          clear hki hkf hm
          go_upto_region 7 with (fail)
          have HSZ0 := Lib.hid (HT.out.size)
          have hwq := HT.out
          refine wp_region_seqM (fun c d v a w h => by cases d <;> exact h) (kdOf [5, 7, 8] [(12, 40, .agg #[.int .i64 0, .int .i64 0])]) [0, 0, 0, 4, 12, 30, 0, 126, 255, 511, 1023, 1023, 0, 6143, 16383] [0, 1, 2, 3, 4, 6, 5, 7, 8, 9, 10, 11, 12] [13, 14] (by kernel_rfl) (by kernel_rfl) (fun i T z hi hk => by simp only [List.mem_cons, List.not_mem_nil, or_false] at hi; rcases hi with rfl | rfl | rfl | rfl | rfl | rfl | rfl | rfl | rfl | rfl | rfl | rfl | rfl <;> simp [kdOf] at hk <;> (obtain ⟨rfl, rfl⟩ := hk; first | (show Option.bind _ _ = some _; kernel_rfl) | (refine ⟨_, rfl, fun _ _ => ?_⟩; go_simp))) ?_
          intro Wx hWx
          have HTx := Lib.hid (hwq.trans hWx)
          clear hWx hwq HT
          have HT := HTx
          clear HTx
          obtain ⟨m0, m1, m2, m3⟩ := cells4 (HBM.out.step HT.out)
          have n0 := (HBl.out.step HT.out).cell 0
          have n1 := (HBl.out.step HT.out).cell 1
          simp only [List.getElem?_cons_zero, List.getElem?_cons_succ] at n0 n1
          repeat (first | (refine run_off rfl rfl (by rfl) ?_; (try simp only [Act.put, List.setIfInBounds_toArray, List.set_cons_zero, List.set_cons_succ])) | (refine run_chain_off rfl rfl (by rfl) (K0_mono _) ?_; (try simp only [Act.put, List.setIfInBounds_toArray, List.set_cons_zero, List.set_cons_succ])) | ((refine run_want rfl rfl (by rfl) ⟨?_, fun W hW => ?_, ?_⟩; rotate_left; (· (have d0 := hW.keeps.cell id m0; have d1 := hW.keeps.cell id m1; have d2 := hW.keeps.cell id m2; have d3 := hW.keeps.cell id m3; have d4 := hW.keeps.cell id n0; have d5 := hW.keeps.cell id n1; go_simp; (try with_reducible rfl)))); (try simp only [Act.put, List.setIfInBounds_toArray, List.set_cons_zero, List.set_cons_succ])))
          refine run_chain rfl rfl (by rfl) (fun Wi hWi K' hK => ?_)
          have HTi := Lib.hid (HT.out.trans hWi)
          have HZW := Lib.hid HTi.out.size
          clear hWi HT
          go_simp
          refine (times_any ⟨vx, vy⟩ a1 _ HQF.out.1 HQF.out.2).mono ?_
          rintro e wn ⟨rfl, hSn⟩
          have HT := Lib.hid (HTi.out.trans (StepX.of hSn))
          clear HTi
          rw [← HQ.out.1]
          refine hK _ _ (StepX.of hSn) ?_
          clear hSn
          (try simp only [Act.put, List.setIfInBounds_toArray, List.set_cons_zero, List.set_cons_succ])
          clear m0 m1 m2 m3 n0 n1
          obtain ⟨m0, m1, m2, m3⟩ := cells4 (HBM.out.step HT.out)
          repeat (first | (refine run_off rfl rfl (by rfl) ?_; (try simp only [Act.put, List.setIfInBounds_toArray, List.set_cons_zero, List.set_cons_succ])) | (refine run_chain_off rfl rfl (by rfl) (K0_mono _) ?_; (try simp only [Act.put, List.setIfInBounds_toArray, List.set_cons_zero, List.set_cons_succ])) | ((refine run_want rfl rfl (by rfl) ⟨?_, fun W hW => ?_, ?_⟩; rotate_left; (· (have d0 := hW.keeps.cell id m0; have d1 := hW.keeps.cell id m1; have d2 := hW.keeps.cell id m2; have d3 := hW.keeps.cell id m3; go_simp; (try with_reducible rfl)))); (try simp only [Act.put, List.setIfInBounds_toArray, List.set_cons_zero, List.set_cons_succ])))
          refine run_chain rfl rfl (by rfl) (fun Wi hWi K' hK => ?_)
          have HTi := Lib.hid (HT.out.trans hWi)
          have HZW := Lib.hid HTi.out.size
          clear hWi HT
          go_simp
          refine (times_any q m _ HKF.out.2.1 HKF.out.2.2).mono ?_
          rintro e wn ⟨rfl, hSn⟩
          have HT := Lib.hid (HTi.out.trans (StepX.of hSn))
          clear HTi
          refine hK _ _ (StepX.of hSn) ?_
          clear hSn
          (try simp only [Act.put, List.setIfInBounds_toArray, List.set_cons_zero, List.set_cons_succ])
          clear m0 m1 m2 m3
          obtain ⟨m0, m1, m2, m3⟩ := cells4 (HBM.out.step HT.out)
          repeat (first | (refine run_off rfl rfl (by rfl) ?_; (try simp only [Act.put, List.setIfInBounds_toArray, List.set_cons_zero, List.set_cons_succ])) | (refine run_chain_off rfl rfl (by rfl) (K0_mono _) ?_; (try simp only [Act.put, List.setIfInBounds_toArray, List.set_cons_zero, List.set_cons_succ])) | ((refine run_want rfl rfl (by rfl) ⟨?_, fun W hW => ?_, ?_⟩; rotate_left; (· (have d0 := hW.keeps.cell id m0; have d1 := hW.keeps.cell id m1; have d2 := hW.keeps.cell id m2; have d3 := hW.keeps.cell id m3; go_simp; (try with_reducible rfl)))); (try simp only [Act.put, List.setIfInBounds_toArray, List.set_cons_zero, List.set_cons_succ])))
          refine run_chain rfl rfl (by rfl) (fun Wi hWi K' hK => ?_)
          have HTi := Lib.hid (HT.out.trans hWi)
          clear hWi HT
          go_simp
          refine (weak_any F a1 (timesV q m) _ _ (HMV.out.step HTi.out) HSM.out HFL.out HKF.out.1).mono ?_
          rintro e wn ⟨zx, zy, rfl, _, _, hSn⟩
          have HT := Lib.hid (HTi.out.trans hSn)
          refine hK _ _ (StepX.of hSn) ?_
          clear HTi hSn hK m0 m1 m2 m3
          (try simp only [Act.put, List.setIfInBounds_toArray, List.set_cons_zero, List.set_cons_succ])
          repeat (first | (refine run_off rfl rfl (by rfl) ?_; (try simp only [Act.put, List.setIfInBounds_toArray, List.set_cons_zero, List.set_cons_succ])) | (refine run_chain_off rfl rfl (by rfl) (K0_mono _) ?_; (try simp only [Act.put, List.setIfInBounds_toArray, List.set_cons_zero, List.set_cons_succ])) | ((refine run_want rfl rfl (by rfl) ⟨?_, fun W hW => ?_, ?_⟩; rotate_left; (· (skip; go_simp; (try with_reducible rfl)))); (try simp only [Act.put, List.setIfInBounds_toArray, List.set_cons_zero, List.set_cons_succ])))
          refine run_alloc rfl rfl (fun W5 g hW5 hg hgb hgN => ?_)
          (try simp only [Act.put, List.setIfInBounds_toArray, List.set_cons_zero, List.set_cons_succ])
          refine run_end (L := [_, _]) rfl (fun W6 hW6 => ?_)
          have hb6 := Bx.step (w := W5) (cs := [_, _]) hg hW6
          refine wpl_store (v := .agg #[.int .i64 zx, .int .i64 zy]) rfl _ _ _ rfl rfl rfl hb6 (by kernel_rfl) (by simp [Value.cells]) (by simp [Value.cells, Value.oneCell']) [.int .i64 zx, .int .i64 zy] rfl (fun w7 hb7 hw7 => ?_)
          have hg0 := HSZ0.out
          have HTx := Lib.hid (Step.wrote ((HT.out.trans hW5).trans hW6) hw7 (by omega))
          clear hW5 hg hgb hgN hW6 hb6 hb7 hw7 HT hg0 HSZ0
          cases hbm : balL F (timesV q m) with
          | true =>
            have HB2 := Lib.hid hbm
            clear hbm
            go_wp2
            go_roundw
            case rel => exact ⟨m, b, rfl, rfl, by omega, hmb.2, hb0, HB2.out, HBA.out.2, HTx.out⟩
            case measure => simp [intOf]; omega
          | false =>
            have HB2 := Lib.hid hbm
            clear hbm
            go_wp2
            skip
            go_roundw
            case rel => exact ⟨a, m - 1, rfl, by go_num, ha0, by omega, by omega, HBA.out.1, fun _ => by rw [Int.sub_add_cancel]; exact HB2.out, HTx.out⟩
            case measure => simp [intOf]; omega
        · have hd : decide (a < b) = false := by simpa using hlt
          have hab : a = b := by omega
          subst hab
          have HR := Lib.hid (show IsReach (forcesL l (headAt t i).guys) (timesV ⟨vx, vy⟩ (headAt t i).area) a by
            rw [← HFA.out.1, ← HFA.out.2, ← HQ.out.1]
            exact ⟨ha0, hb0, HBA.out.1, HBA.out.2⟩)
          go_wp2
          go_ret2
          refine ⟨a, ?_, ?_, ?_, ?_⟩
          · rw [HC.out]; rfl
          · exact fun _ => HR.out
          · exact fun h => absurd HC.out h
          · exact HSl.out.trans HT.out
end Go.Proofs.Ytdcjbbeoocldeaa
