/- Walks and plain laws, part Q. -/
import Derived.Test.YtfhmdpicoccnfaaMD
import Derived.Test.YtfhmdpicoccnfaaMF
import Derived.Test.YtfhmdpicoccnfaaMP
import Derived.Test.YtfhmdpicoccnfaaRows
set_option maxHeartbeats 16000000
set_option maxRecDepth 100000
namespace Go.BT
set_option linter.unusedVariables false
def deadR (worst : List Int) (lim : Int) : Int := match deadI worst lim with | some h => 60 * (h : Int) | none => -1
theorem deadR_some {worst : List Int} {lim : Int} {h : Nat} (q : deadI worst lim = some h) : deadR worst lim = 60 * (h : Int) := by unfold deadR; rw [q]
theorem deadR_none {worst : List Int} {lim : Int} (q : deadI worst lim = none) : deadR worst lim = -1 := by unfold deadR; rw [q]
theorem dead_upto {worst : List Int} {lim : Int} {h : Nat} (q : deadI worst lim = some h) : h < worst.length := by
 unfold deadI at q
 rw [List.findIdx?_eq_some_iff_getElem] at q
 exact q.1
theorem dead_mono {worst : List Int} {a b : Int} (hab : a ≤ b) (h : deadI worst a = none) : deadI worst b = none := by
 unfold deadI at h ⊢
 rw [List.findIdx?_eq_none_iff] at h ⊢
 intro x hx
 have := h x hx
 simp only [decide_eq_false_iff_not] at this ⊢
 omega
theorem limits_up {s : Site} {l : List Int} (h : limitedB s l = true) : ∀ (d j : Nat) (hj : j + d < s.stages.length), l.getD j 0 ≤ l.getD (j + d) 0
 | 0, j, hj => Int.le_refl _
 | d + 1, j, hj => by
  have ih := limits_up h d j (by omega)
  have q : l.length = s.stages.length ∧ (List.range (l.length - 1)).all (fun i => decide (l.getD i 0 ≤ l.getD (i + 1) 0)) = true := by
   simp only [limitedB, Bool.and_eq_true, decide_eq_true_eq] at h
   exact ⟨h.1.1.1, h.1.2⟩
  have := List.all_eq_true.1 q.2 (j + d) (List.mem_range.2 (by omega))
  simp only [decide_eq_true_eq] at this
  exact Int.le_trans ih this
theorem plan_ref {s : Site} {limits worst : List Int} {out : Int} (hl : limitedB s limits = true) : ∀ (k : Nat) (hk : k ≤ s.stages.length) (st : PlanS), planTo s limits worst out k = some st →
  st.begin_.length = s.stages.length ∧ (k = 0 → st.next = 2880) ∧ (0 < k → (deadI worst (limits.getD (s.stages.length - k) 0) = none → st.next = 2880) ∧ ∀ h, deadI worst (limits.getD (s.stages.length - k) 0) = some h → st.next = st.begin_.getD (s.stages.length - k) 0)
 | 0, hk, st, h => by
  unfold planTo at h
  obtain rfl := Option.some.inj h
  exact ⟨by simp, fun _ => rfl, fun q => by omega⟩
 | k + 1, hk, st, h => by
  unfold planTo at h
  cases hp : planTo s limits worst out k with
  | none => rw [hp] at h; simp at h
  | some st0 =>
   rw [hp] at h
   obtain ⟨i1, i2, i3⟩ := plan_ref hl k (by omega) st0 hp
   simp only [planStep] at h
   have e : s.stages.length - (k + 1) = s.stages.length - 1 - k := by omega
   rw [e]
   cases hd : deadI worst (limits.getD (s.stages.length - 1 - k) 0) with
   | none =>
    rw [hd] at h
    obtain rfl := Option.some.inj h
    refine ⟨i1, fun q => by omega, fun _ => ⟨fun _ => ?_, fun h q => by simp at q⟩⟩
    by_cases k0 : k = 0
    ·exact i2 k0
    ·refine (i3 (by omega)).1 (dead_mono ?_ hd)
     have := limits_up hl 1 (s.stages.length - 1 - k) (by omega)
     rwa [show s.stages.length - 1 - k + 1 = s.stages.length - k by omega] at this
   | some d =>
    rw [hd] at h
    simp only at h
    split at h
    ·simp at h
    ·obtain rfl := Option.some.inj h
     refine ⟨by simpa using i1, fun q => by omega, fun _ => ⟨fun q => by simp at q, fun _ _ => ?_⟩⟩
     simp only [List.getD_eq_getElem?_getD, List.getElem?_set]
     rw [if_pos trivial, if_pos (by omega)]; rfl
theorem plan_dead {s : Site} {limits worst : List Int} {out : Int} (hl : limitedB s limits = true) (hw : worst.length ≤ 48) {k : Nat} (hk : k < s.stages.length) {st : PlanS} (h : planTo s limits worst out k = some st) {d : Nat} (hd : deadI worst (limits.getD (s.stages.length - 1 - k) 0) = some d) :
  (k = 0 → min (60 * (d : Int)) st.next = 60 * d) ∧ (0 < k → (deadI worst (limits.getD (s.stages.length - 1 - k + 1) 0) = none → min (60 * (d : Int)) st.next = 60 * d) ∧ ∀ h, deadI worst (limits.getD (s.stages.length - 1 - k + 1) 0) = some h → min (60 * (d : Int)) st.next = min (60 * (d : Int)) (st.begin_.getD (s.stages.length - 1 - k + 1) 0)) := by
 obtain ⟨_, i2, i3⟩ := plan_ref hl k (by omega) st h
 have hdl := dead_upto hd
 refine ⟨fun q => by rw [i2 q]; omega, fun q => ?_⟩
 obtain ⟨j1, j2⟩ := i3 q
 rw [show s.stages.length - 1 - k + 1 = s.stages.length - k by omega]
 exact ⟨fun r => by rw [j1 r]; omega, fun a r => by rw [j2 a r]⟩
/-! ### Who keeps a plan. -/
theorem keeps_bear {s : Site} {limits worst : List Int} {now m i : Nat} {out : Int} {st : PlanS} (hs : siteB s = true) (hl : limitedB s limits = true) (hw : windsB worst = true) (hn : now < s.stages.length) (h : planR s limits worst now out = some st)
  (hi : i < s.stages.length) (hin : now ≤ i) (hm : m < 60 * worst.length) (hb : i + 1 = s.stages.length ∨ st.begin_.getD i 0 < 0 ∨ (m : Int) < st.begin_.getD i 0 + minutesAt s i) : worst.getD (m / 60) 0 ≤ limits.getD i 0 := by
 have hq : m / 60 < worst.length := by omega
 rw [List.getD_eq_getElem?_getD, List.getElem?_eq_getElem hq, Option.getD_some]
 by_cases e : i + 1 = s.stages.length
 ·have h2 : limits.length = s.stages.length ∧ limits.getD (limits.length - 1) 0 = 1000 := by
   simp only [limitedB, Bool.and_eq_true, decide_eq_true_eq] at hl
   exact ⟨hl.1.1.1, hl.2⟩
  rw [show i = limits.length - 1 by omega, h2.2]
  simp only [windsB, Bool.and_eq_true, List.all_eq_true] at hw
  have := hw.2 _ (List.getElem_mem hq)
  simp only [withinB, Bool.and_eq_true, decide_eq_true_eq] at this
  exact this.2
 ·unfold planR at h
  rw [Int.toNat_natCast] at h
  obtain ⟨p1, p2, p3⟩ := plan_begin (s.stages.length - now) (by omega) st h
  refine begin_hour (p3 i (by omega) hi) hq ?_
  rintro ⟨b1, b2⟩
  rcases hb with hb | hb | hb
  ·exact e hb
  ·omega
  ·omega
theorem keeps_leave {s : Site} {limits worst : List Int} {now i : Nat} {out : Int} {st : PlanS} (hm : ∀ i, 0 ≤ minutesAt s i) (hn : now < s.stages.length) (h : planR s limits worst now out = some st) (hi : i + 1 < s.stages.length) (hin : now ≤ i) (hb : 0 ≤ st.begin_.getD i 0) :
  ((i : Int) = s.openS → 0 ≤ st.call ∧ st.call + out ≤ st.begin_.getD i 0) ∧ (0 ≤ st.begin_.getD (i + 1) 0 → st.begin_.getD i 0 + minutesAt s i ≤ st.begin_.getD (i + 1) 0) := by
 unfold planR at h
 rw [Int.toNat_natCast] at h
 have C := plan_chain hm (s.stages.length - now) (by omega) st h
 refine ⟨fun q => ?_, fun q => C.ends i (i + 1) (by omega) (by omega) hi hb q⟩
 have := C.call i (by omega) (by omega) q hb
 omega
theorem site_minutes {s : Site} (hs : siteB s = true) : ∀ i, 0 ≤ minutesAt s i := by
 intro i
 unfold minutesAt
 by_cases hi : i < s.stages.length
 ·rw [List.getElem?_eq_getElem hi]
  have ok := site_ok hs
  by_cases e : i + 1 < s.stages.length
  ·have := ok.st i e; dsimp only; omega
  ·have h := ok.last
   rw [show s.stages.length - 1 = i by omega, List.getElem?_eq_getElem hi] at h
   dsimp only
   rw [Option.some.inj h]; decide
 ·rw [List.getElem?_eq_none (by omega)]; decide
theorem keeps_small {s : Site} {limits worst : List Int} {now i : Nat} {out : Int} {st : PlanS} (hn : now < s.stages.length) (h : planR s limits worst now out = some st) (hi : i < s.stages.length) (hin : now ≤ i) (hb : 0 ≤ st.begin_.getD i 0) (hw : worst.length ≤ 48) : st.begin_.getD i 0 + minutesAt s i ≤ 2880 := by
 unfold planR at h
 rw [Int.toNat_natCast] at h
 obtain ⟨p1, p2, p3⟩ := plan_begin (s.stages.length - now) (by omega) st h
 have q := p3 i (by omega) hi
 unfold BeginOk at q
 split at q
 ·omega
 ·rename_i d hd
  have := dead_upto hd
  omega
end Go.BT
namespace Go.BT
def sortedB (l : List Int) : Bool := (List.range (l.length - 1)).all (fun i => decide (l.getD i 0 ≤ l.getD (i + 1) 0))
theorem sorted_iff {l : List Int} : sortedB l = true ↔ ∀ j (hj : j + 1 < l.length), l[j] ≤ l[j + 1] := by
 unfold sortedB
 rw [List.all_eq_true]
 constructor
 ·intro h j hj
  have := h j (List.mem_range.2 (by omega))
  simp only [decide_eq_true_eq, List.getD_eq_getElem?_getD, List.getElem?_eq_getElem (show j < l.length by omega), List.getElem?_eq_getElem hj, Option.getD_some] at this
  exact this
 ·intro h j hj
  rw [List.mem_range] at hj
  have hj2 : j + 1 < l.length := by omega
  simp only [decide_eq_true_eq, List.getD_eq_getElem?_getD, List.getElem?_eq_getElem (show j < l.length by omega), List.getElem?_eq_getElem hj2, Option.getD_some]
  exact h j hj2
theorem limited_is (s : Site) (l : List Int) : limitedB s l = (decide (l.length = s.stages.length) && l.all (fun n => withinB n (-1) 1000) && sortedB l && decide (l.getD (l.length - 1) 0 = 1000)) := rfl
end Go.BT
namespace Go.Proofs.Ytfhmdpicoccnfaa
set_option linter.unusedSimpArgs false
set_option linter.unusedVariables false
open Go.RowKit Go.BT
theorem sortedG_any (l : List Int) (v : Value) (w : World) (hv : SL (fun _ => False) w v l) (h0 : 1 ≤ l.length) : Calls Try.prog 95 #[v] w fun e w' => e = .returned (.bool (sortedB l)) ∧ Step w w' := by
 have hm := hv.len
 obtain ⟨pv, cv, bv, ov, rfl, _, _, hp, hc, _⟩ := hv.ints
 obtain rfl := hp (by omega)
 have HC := zH hc
 have hw1 : IntKind.i64.wrap ((l.length : Int) - 1) = ((l.length - 1 : Nat) : Int) := by rw [IntKind.wrap_i64]; omega
 clear hv hp hc
 go_enter Try.func95, Try.ntmps95
 go_wp2
 go_loopw [3] (fun i wr => ∃ k : Nat, k < l.length ∧ i = .int .i64 k ∧ (∀ j (hk : k ≤ j) (hj : j + 1 < l.length), l[j] ≤ l[j + 1]) ∧ Step w wr) (fun i _ => (intOf i).toNat)
 case atStart => exact ⟨l.length - 1, by omega, by first | rfl | (rw [← hw1]), fun j h1 h2 => absurd h1 (by omega), Step.refl _⟩
 case round =>
  obtain ⟨k, hk, rfl, hall, hT⟩ := hrel
  have HT := zH hT
  have HA := zH hall
  clear hT hw1 hall
  cases k with
  | zero =>
   have d0 : decide ((0 : Int) < ((0 : Nat) : Int)) = false := by decide
   have HR := zH (show sortedB l = true from sorted_iff.2 fun j hj => HA.out j (Nat.zero_le _) hj)
   go_wp2
   go_ret
   exact ⟨by rw [HR.out]; rfl, HT.out⟩
  | succ j =>
   have d0 : decide ((0 : Int) < ((j + 1 : Nat) : Int)) = true := decide_eq_true (by omega)
   have hjx : (0 : Int) ≤ (j : Int) ∧ (j : Int) < (l.length : Int) := by omega
   have hix : (0 : Int) ≤ ((j + 1 : Nat) : Int) ∧ ((j + 1 : Nat) : Int) < (l.length : Int) := by omega
   have hix2 : (0 : Int) ≤ (j : Int) + 1 ∧ (j : Int) + 1 < (l.length : Int) := by omega
   have htn : ((j : Int) + 1).toNat = j + 1 := by omega
   have hwj : IntKind.i64.wrap (j : Int) = (j : Int) := by rw [IntKind.wrap_i64]; omega
   have HLE := zH (fun (h : l[j]'(by omega) ≤ l[j + 1]) (i : Nat) (hi : j ≤ i) (hl : i + 1 < l.length) => show l[i] ≤ l[i + 1] from if e : i = j then by subst e; exact h else HA.out i (by omega) hl)
   have HNO := zH (fun (h : l[j + 1] < l[j]'(by omega)) => show sortedB l = false by
    rw [Bool.eq_false_iff]; intro q
    have := sorted_iff.1 q j hk
    omega)
   have HE := zH (And.intro (HC.out (j + 1) hk) (HC.out j (by omega)))
   obtain ⟨a, ha⟩ : ∃ a, a = l[j + 1] := ⟨_, rfl⟩
   obtain ⟨b, hb⟩ : ∃ b, b = l[j]'(by omega) := ⟨_, rfl⟩
   rw [← ha, ← hb] at HE HLE HNO
   clear ha hb
   go_upto_region 4 with (fail)
   obtain ⟨wo, hwo⟩ : ∃ W, W = wr := ⟨_, rfl⟩
   subst hwo
   have HTR := HT
   clear HT
   have HT := zH (Step.refl wo)
   by_cases q : a < b
   ·have hd : decide (a < b) = true := decide_eq_true q
    have HR := zH (HNO.out q)
    clear q
    refine wp_region_seq (kdOf [9] []) [0, 0, 3, 7, 0, 0, 32, 112, 240, 511] [0, 1, 2, 3, 4, 5, 6, 7, 8, 9] [] (by kernel_rfl) (by kernel_rfl) (fun i T z hi hk => by simp [kdOf] at hk <;> (try (split at hk <;> cases hk))) ?_
    intro Wx hWx
    have HTx := zH (HT.out.trans hWx)
    clear hWx HT
    have HT := HTx
    clear HTx
    have x0 := (HTR.out.trans HT.out).kc HE.out.1
    have x1 := (HTR.out.trans HT.out).kc HE.out.2
    repeat ((first | (refine run_off rfl rfl (by rfl) ?_) | (refine run_chain_off rfl rfl (by rfl) (K0_mono _) ?_) | ((refine run_want rfl rfl (by rfl) ⟨?_, fun W hW => ?_, ?_⟩; rotate_left; (· (have d0 := hW.kc x0; have d1 := hW.kc x1; go_simp; (try with_reducible rfl)))))); (try simp only [Act.put, zA, zB, zC]))
    clear x0 x1
    refine run_chain rfl rfl (by rfl) (fun Wi hWi K' hK => ?_)
    have HTi := zH (HT.out.trans hWi)
    clear hWi HT
    go_simp
    refine (Less_any _ _ _).mono ?_
    rintro e wn ⟨rfl, rfl⟩
    rw [hd]
    have HT := HTi
    clear HTi
    refine hK _ _ (StepX.refl _ _) ?_
    (try simp only [Act.put, zA, zB, zC])
    repeat ((first | (refine run_off rfl rfl (by rfl) ?_) | (refine run_chain_off rfl rfl (by rfl) (K0_mono _) ?_) | ((refine run_want rfl rfl (by rfl) ⟨?_, fun W hW => ?_, ?_⟩; rotate_left; (· (skip; go_simp; (try with_reducible rfl)))))); (try simp only [Act.put, zA, zB, zC]))
    refine run_end (L := []) rfl (fun W6 hW6 => ?_)
    have HT6 := zH (HT.out.trans hW6)
    clear hW6 HT
    have HT := HT6
    clear HT6
    go_wp2
    go_ret
    exact ⟨by rw [HR.out]; rfl, HTR.out.trans HT.out⟩
   have hd : decide (a < b) = false := decide_eq_false q
   have HR := zH (HLE.out (by omega))
   clear q
   refine wp_region_seq (kdOf [9] []) [0, 0, 3, 7, 0, 0, 32, 112, 240, 511] [0, 1, 2, 3, 4, 5, 6, 7, 8, 9] [] (by kernel_rfl) (by kernel_rfl) (fun i T z hi hk => by simp [kdOf] at hk <;> (try (split at hk <;> cases hk))) ?_
   intro Wx hWx
   have HTx := zH (HT.out.trans hWx)
   clear hWx HT
   have HT := HTx
   clear HTx
   have x0 := (HTR.out.trans HT.out).kc HE.out.1
   have x1 := (HTR.out.trans HT.out).kc HE.out.2
   repeat ((first | (refine run_off rfl rfl (by rfl) ?_) | (refine run_chain_off rfl rfl (by rfl) (K0_mono _) ?_) | ((refine run_want rfl rfl (by rfl) ⟨?_, fun W hW => ?_, ?_⟩; rotate_left; (· (have d0 := hW.kc x0; have d1 := hW.kc x1; go_simp; (try with_reducible rfl)))))); (try simp only [Act.put, zA, zB, zC]))
   clear x0 x1
   refine run_chain rfl rfl (by rfl) (fun Wi hWi K' hK => ?_)
   have HTi := zH (HT.out.trans hWi)
   clear hWi HT
   go_simp
   refine (Less_any _ _ _).mono ?_
   rintro e wn ⟨rfl, rfl⟩
   rw [hd]
   have HT := HTi
   clear HTi
   refine hK _ _ (StepX.refl _ _) ?_
   (try simp only [Act.put, zA, zB, zC])
   repeat ((first | (refine run_off rfl rfl (by rfl) ?_) | (refine run_chain_off rfl rfl (by rfl) (K0_mono _) ?_) | ((refine run_want rfl rfl (by rfl) ⟨?_, fun W hW => ?_, ?_⟩; rotate_left; (· (skip; go_simp; (try with_reducible rfl)))))); (try simp only [Act.put, zA, zB, zC]))
   refine run_end (L := []) rfl (fun W6 hW6 => ?_)
   have HT6 := zH (HT.out.trans hW6)
   clear hW6 HT
   have HT := HT6
   clear HT6
   go_wp2
   go_roundw
   case rel => exact ⟨j, by omega, by go_num, HR.out, HTR.out.trans HT.out⟩
   case measure => simp [intOf]
theorem limitedG_any (s : Site) (l : List Int) (u v : Value) (w : World) (hu : AV (fun _ => False) w u s) (hv : SL (fun _ => False) w v l) (hn : 1 ≤ s.stages.length ∧ s.stages.length ≤ 1000) : Calls Try.prog 64 #[u, v] w fun e w' => e = .returned (.bool (limitedB s l)) ∧ Step w w' := by
 have hm := hv.len
 obtain ⟨c0, c1, c2, rfl, q0, q1, q2⟩ := hu.site
 obtain ⟨p1, k1, rfl⟩ := q1.form
 obtain ⟨p2, k2, rfl⟩ := q2.form
 obtain ⟨p0, k0, rfl⟩ := q0.form
 obtain ⟨W0, hW0⟩ : ∃ W, W = w.alloc (.cells #[.slice p0 s.base.length k0, .slice p1 s.levels.length k1, .slice p2 s.stages.length k2, .int .i64 s.openS] 63) := ⟨_, rfl⟩
 have hbx : Bx W0 w.heap.size [.slice p0 s.base.length k0, .slice p1 s.levels.length k1, .slice p2 s.stages.length k2, .int .i64 s.openS] 63 := by subst hW0; exact Bx.new w [_, _, _, _] _
 have hS : Step w W0 := by subst hW0; exact Step.alloc _ _
 have hv0 := SL.go hv hS
 obtain ⟨pv, cv, rfl⟩ := hv0.form
 have HW := zH hW0
 have HS := zH hS
 have HV := zH hv0
 have HT := zH (Step.refl W0)
 have HLI := zH (limited_is s l)
 have g2 := hbx.cell 2
 simp only [zD, zE] at g2
 clear hW0 hbx hS hu hv q0 q1 q2 hv0
 go_enter Try.func64, Try.ntmps64
 go_upto_region 1 with (fail)
 rw [← HW.out]
 by_cases a1 : l.length = s.stages.length
 rotate_left
 ·have hq : ((l.length : Int) == (s.stages.length : Int)) = false := by simp; omega
  have HR := zH (show limitedB s l = false by rw [HLI.out, decide_eq_false a1]; rfl)
  clear a1
  go_wp2
  go_ret
  exact ⟨by rw [HR.out]; rfl, HS.out.trans HT.out⟩
 have hq : ((l.length : Int) == (s.stages.length : Int)) = true := by rw [a1]; simp
 have HLN := zH a1
 obtain ⟨b1, hb1⟩ : ∃ b, b = l.all (fun n => withinB n (-1) 1000) := ⟨_, rfl⟩
 have HA := zH hb1
 clear a1 hb1
 go_wp2_with fail
 refine (all_lim1 l _ _ (SL.go HV.out HT.out)).mono ?_
 rintro e wn ⟨rfl, hSn⟩
 rw [← HA.out]
 have HTi := zH (HT.out.trans hSn)
 clear HT hSn g2
 have HT := HTi
 clear HTi
 cases b1 with
 | false =>
  have HR := zH (show limitedB s l = false by rw [HLI.out, ← HA.out]; simp)
  go_wp2
  go_ret
  exact ⟨by rw [HR.out]; rfl, HS.out.trans HT.out⟩
 | true =>
 obtain ⟨b2, hb2⟩ : ∃ b, b = sortedB l := ⟨_, rfl⟩
 have HB := zH hb2
 clear hb2
 go_wp2_with fail
 refine (sortedG_any l _ _ (SL.go HV.out HT.out) (by have := HLN.out; omega)).mono ?_
 rintro e wm ⟨rfl, hSn⟩
 rw [← HB.out]
 have HTi := zH (HT.out.trans hSn)
 clear HT hSn
 have HT := HTi
 clear HTi
 cases b2 with
 | false =>
  have HR := zH (show limitedB s l = false by rw [HLI.out, ← HB.out]; simp)
  go_wp2
  go_ret
  exact ⟨by rw [HR.out]; rfl, HS.out.trans HT.out⟩
 | true =>
 obtain ⟨q1, d1, bv, ov, he, _, _, hp, hc, _⟩ := HV.out.ints
 injection he with he1 he2 he3
 subst he1 he3
 obtain rfl := hp (by have := HLN.out; omega)
 have hl1 : l.length - 1 < l.length := by have := HLN.out; omega
 have HE := zH (hc (l.length - 1) hl1)
 obtain ⟨z, hz⟩ : ∃ z, z = l[l.length - 1] := ⟨_, rfl⟩
 have HLA := zH (show limitedB s l = decide (z = 1000) by
  rw [HLI.out, ← HA.out, ← HB.out, decide_eq_true HLN.out, List.getD_eq_getElem?_getD, List.getElem?_eq_getElem hl1, hz]; rfl)
 rw [← hz] at HE
 clear hz hp hc he2
 have hw1 : IntKind.i64.wrap ((l.length : Int) - 1) = (l.length : Int) - 1 := by rw [IntKind.wrap_i64]; omega
 have hx2 : (0 : Int) ≤ (l.length : Int) - 1 ∧ (l.length : Int) - 1 < (l.length : Int) := by omega
 have htn : ((l.length : Int) - 1).toNat = l.length - 1 := by omega
 have h1s : (1 : Int) ≤ (l.length : Int) := by omega
 have h1n : 1 ≤ l.length := by omega
 have e0 := HT.out.kc HE.out
 go_wp2
 go_ret
 exact ⟨by rw [HLA.out]; rfl, HS.out.trans HT.out⟩
end Go.Proofs.Ytfhmdpicoccnfaa
namespace Go.BT
theorem level_at {s : Site} {k : Nat} (h : k < s.levels.length) : levelB s.levels k = (withinB s.levels[k].upto 0 1000 && withinB s.levels[k].push 0 100 && (match (generalizing := false) k with | 0 => true | j + 1 => match s.levels[j]? with | some y => decide (y.upto < s.levels[k].upto) && decide (y.push ≤ s.levels[k].push) | none => true)) := by
 unfold levelB; rw [List.getElem?_eq_getElem h]; cases k <;> rfl
theorem stage_at {s : Site} {k : Nat} (h : k < s.stages.length) : stageB s.stages k = (withinB s.stages[k].cover 1 100 && withinB s.stages[k].minutes 1 240 && (match (generalizing := false) k with | 0 => true | j + 1 => match s.stages[j]? with | some y => decide (s.stages[k].cover < y.cover) | none => true)) := by
 unfold stageB; rw [List.getElem?_eq_getElem h]; cases k <;> rfl
theorem site_level {s : Site} {k : Nat} (h : k < s.levels.length) (hb : levelB s.levels k = false) : siteB s = false := by
 have : (List.range s.levels.length).all (levelB s.levels) = false := by rw [List.all_eq_false]; exact ⟨k, List.mem_range.2 h, by rw [hb]; decide⟩
 unfold siteB; rw [this]; simp
theorem site_stage {s : Site} {k : Nat} (h : k < s.stages.length - 1) (hb : stageB s.stages k = false) : siteB s = false := by
 have : (List.range (s.stages.length - 1)).all (stageB s.stages) = false := by rw [List.all_eq_false]; exact ⟨k, List.mem_range.2 h, by rw [hb]; decide⟩
 unfold siteB; rw [this]; simp
end Go.BT
namespace Go.Proofs.Ytfhmdpicoccnfaa
set_option linter.unusedSimpArgs false
set_option linter.unusedVariables false
open Go.RowKit Go.BT
attribute [local go_sem] eql_stage
theorem siteValid_any (s : Site) (u : Value) (w : World) (hu : AV (fun _ => False) w u s) : Calls Try.prog 63 #[u] w fun e w' => e = .returned (.bool (siteB s)) ∧ Step w w' := by
 obtain ⟨c0, c1, c2, rfl, h0, h1, h2⟩ := hu.site
 have hm0 := h0.len
 have hm1 := h1.len
 have hm2 := h2.len
 obtain ⟨p0, k0, rfl⟩ := h0.form
 obtain ⟨p1, k1, rfl⟩ := h1.form
 obtain ⟨p2, k2, rfl⟩ := h2.form
 obtain ⟨W0, hW0⟩ : ∃ W, W = w.alloc (.cells #[.slice p0 s.base.length k0, .slice p1 s.levels.length k1, .slice p2 s.stages.length k2, .int .i64 s.openS] 63) := ⟨_, rfl⟩
 have hbx : Bx W0 w.heap.size [.slice p0 s.base.length k0, .slice p1 s.levels.length k1, .slice p2 s.stages.length k2, .int .i64 s.openS] 63 := by subst hW0; exact Bx.new w [_, _, _, _] _
 have hS : Step w W0 := by subst hW0; exact Step.alloc _ _
 have HB := zH hbx
 have HS := zH hS
 have HW := zH hW0
 have HV0 := zH (SL.go h0 hS)
 have HV1 := zH (SL.go h1 hS)
 have HV2 := zH (SL.go h2 hS)
 have HT := zH (Step.refl W0)
 have b0 := hbx.cell 0
 have b1 := hbx.cell 1
 have b2 := hbx.cell 2
 simp only [zD, zE] at b0 b1 b2
 clear hbx hS hW0 h0 h1 h2 hu
 go_enter Try.func63, Try.ntmps63
 go_wp2_with fail
 rw [← HW.out]
 refine (gale.within_any _ _ _ _).mono ?_
 rintro e wn ⟨rfl, rfl⟩
 cases q1 : withinB (s.base.length : Int) 1 12 with
 | false =>
  have HR := zH (show siteB s = false by unfold siteB; rw [q1]; simp)
  clear q1
  go_wp2
  go_ret
  exact ⟨by rw [HR.out]; rfl, HS.out.trans HT.out⟩
 | true =>
 go_wp2_with fail
 refine (all_corner s.base _ _ (SL.go HV0.out HT.out)).mono ?_
 rintro e wn ⟨rfl, hSn⟩
 have HTi := zH (HT.out.trans hSn)
 clear HT hSn b0 b1 b2
 have HT := HTi
 clear HTi
 have b1 := (HB.out.step HT.out).cell 1
 have b2 := (HB.out.step HT.out).cell 2
 simp only [zD, zE] at b1 b2
 cases q2 : s.base.all baseB with
 | false =>
  have HR := zH (show siteB s = false by unfold siteB; rw [q2]; simp)
  clear q1 q2
  go_wp2
  go_ret
  exact ⟨by rw [HR.out]; rfl, HS.out.trans HT.out⟩
 | true =>
 go_wp2_with fail
 refine (gale.within_any _ _ _ _).mono ?_
 rintro e wx ⟨rfl, rfl⟩
 cases q3 : withinB (s.levels.length : Int) 1 10 with
 | false =>
  have HR := zH (show siteB s = false by unfold siteB; rw [q3]; simp)
  clear q1 q2 q3
  go_wp2
  go_ret
  exact ⟨by rw [HR.out]; rfl, HS.out.trans HT.out⟩
 | true =>
 go_wp2_with fail
 refine (gale.within_any _ _ _ _).mono ?_
 rintro e wx ⟨rfl, rfl⟩
 cases q4 : withinB (s.stages.length : Int) 2 8 with
 | false =>
  have HR := zH (show siteB s = false by unfold siteB; rw [q4]; simp)
  clear q1 q2 q3 q4
  go_wp2
  go_ret
  exact ⟨by rw [HR.out]; rfl, HS.out.trans HT.out⟩
 | true =>
 have HLN := zH (show (s.levels.length ≤ 10 ∧ 2 ≤ s.stages.length ∧ s.stages.length ≤ 8) by
  simp only [withinB, Bool.and_eq_true, decide_eq_true_eq] at q3 q4; omega)
 have HQ := zH (And.intro q1 (And.intro q2 (And.intro q3 q4)))
 clear q1 q2 q3 q4
 go_wp2
 clear b1 b2
 go_loopw [36] (fun i wr => ∃ k : Nat, k ≤ s.levels.length ∧ i = .int .i64 k ∧ (∀ j (hj : j < k) (hl : j < s.levels.length), levelB s.levels j = true) ∧ Step W0 wr) (fun i _ => s.levels.length - (intOf i).toNat)
 case atStart => exact ⟨0, Nat.zero_le _, rfl, fun j hj => absurd hj (by omega), HT.out⟩
 case round =>
  obtain ⟨k, hk, rfl, hall, hT⟩ := hrel
  have HA := zH hall
  have HTR := zH hT
  clear hT HT hall
  by_cases hlt : k < s.levels.length
  ·obtain ⟨q1, d1, bb, oo, he, _, _, hp, hc, hbl⟩ := (SL.go HV1.out HTR.out).lvls
   injection he with he1 _ he3
   subst he1 he3
   obtain rfl := hp (by omega)
   obtain ⟨e1, e2⟩ := hc k hlt
   have hix : (0 : Int) ≤ (k : Int) ∧ (k : Int) < (s.levels.length : Int) := by omega
   have HPRE := zH (fun (j : Nat) (hj : j + 1 = k) => hc j (by omega))
   have HNO := zH (fun (h : levelB s.levels k = false) => site_level hlt h)
   have HLB := zH (level_at hlt)
   obtain ⟨x, hx⟩ : ∃ x, x = s.levels[k] := ⟨_, rfl⟩
   rw [← hx] at e1 e2 HLB
   obtain ⟨xu, xp⟩ := x
   dsimp only at e1 e2 HLB
   obtain ⟨W3, hW3⟩ : ∃ W, W = wr.alloc (.cells #[.int .i64 xu, .int .i64 xp] 135) := ⟨_, rfl⟩
   have HB3 := zH (show Bx W3 wr.heap.size [.int .i64 xu, .int .i64 xp] 135 by subst hW3; exact Bx.new wr [_, _] _)
   have HS3 := zH (show Step wr W3 by subst hW3; exact Step.alloc _ _)
   have HW3 := zH hW3
   have HT := zH (Step.refl W3)
   have HBC := zH ((HB.out.step (HTR.out.trans HS3.out)).cell 1)
   simp only [zD, zE] at HBC
   clear hp hc hbl hx hW3
   go_upto_region 6 with (fail)
   rw [← HW3.out]
   clear e1 e2
   cases w1 : withinB xu 0 1000 with
   | false =>
    have HR := zH (HNO.out (by rw [HLB.out, w1]; rfl))
    refine wp_region_seq (kdOf [2, 7] []) (0 :: 1 :: 3 :: 7 :: 15 :: 31 :: 63 :: 127 :: 255 :: 511 :: 1023 :: 2047 :: 4095 :: 8191 :: 16383 :: 32767 :: 16383 :: 81919 :: 16383 :: 278527 :: 999423 :: 2047999 :: 4145151 :: 8388607 :: 16777215 :: 33554431 :: 67108863 :: 33554431 :: 167772159 :: 33554431 :: 570425343 :: 2046820351 :: 4194303999 :: 8489271295 :: 17179869183 :: 34359738367 :: 68719476735 :: 137438953471 :: []) (0 :: 1 :: 2 :: 3 :: 4 :: 5 :: 6 :: 7 :: 8 :: 9 :: 10 :: 11 :: 12 :: 13 :: 14 :: 15 :: 16 :: 17 :: 18 :: 19 :: 20 :: 21 :: 22 :: 23 :: 24 :: 25 :: 26 :: 27 :: 28 :: 29 :: 30 :: 31 :: 32 :: 33 :: 34 :: 35 :: 36 :: 37 :: []) [] (by kernel_rfl) (by kernel_rfl) (fun i T z hi hk => by simp [kdOf] at hk <;> (try (split at hk <;> cases hk))) ?_
    intro Wx hWx
    have HTx := zH (HT.out.trans hWx)
    clear hWx HT
    have HT := HTx
    clear HTx
    have x0 := (HB3.out.step HT.out).cell 0
    have x1 := (HB3.out.step HT.out).cell 1
    have b1 := HT.out.kc HBC.out
    simp only [zD, zE] at x0 x1
    repeat ((first | (refine run_off rfl rfl (by rfl) ?_) | (refine run_chain_off rfl rfl (by rfl) (K0_mono _) ?_) | ((refine run_want rfl rfl (by rfl) ⟨?_, fun W hW => ?_, ?_⟩; rotate_left; (· (have d0 := hW.kc x0; have d1 := hW.kc x1; have d2 := hW.kc b1; go_simp; (try with_reducible rfl)))))); (try simp only [Act.put, zA, zB, zC]))
    clear x0 x1 b1
    refine run_chain rfl rfl (by rfl) (fun Wi hWi K' hK => ?_)
    have HTi := zH (HT.out.trans hWi)
    clear hWi HT
    go_simp
    refine (gale.within_any _ _ _ _).mono ?_
    rintro e wn ⟨rfl, rfl⟩
    rw [w1]
    have HT := HTi
    clear HTi
    refine hK _ _ (StepX.refl _ _) ?_
    (try simp only [Act.put, zA, zB, zC])
    clear w1
    have x0 := (HB3.out.step HT.out).cell 0
    have x1 := (HB3.out.step HT.out).cell 1
    have b1 := HT.out.kc HBC.out
    simp only [zD, zE] at x0 x1
    repeat ((first | (refine run_off rfl rfl (by rfl) ?_) | (refine run_chain_off rfl rfl (by rfl) (K0_mono _) ?_) | ((refine run_want rfl rfl (by rfl) ⟨?_, fun W hW => ?_, ?_⟩; rotate_left; (· (have d0 := hW.kc x0; have d1 := hW.kc x1; have d2 := hW.kc b1; go_simp; (try with_reducible rfl)))))); (try simp only [Act.put, zA, zB, zC]))
    clear x0 x1 b1
    refine run_end (L := []) rfl (fun W6 hW6 => ?_)
    have HT6 := zH (HT.out.trans hW6)
    clear hW6 HT
    have HT := HT6
    clear HT6
    go_wp2
    go_ret
    exact ⟨by rw [HR.out]; rfl, HS.out.trans (HTR.out.trans (HS3.out.trans HT.out))⟩
   | true =>
   cases w2 : withinB xp 0 100 with
   | false =>
    have HR := zH (HNO.out (by rw [HLB.out, w1, w2]; rfl))
    refine wp_region_seq (kdOf [2, 7] []) (0 :: 1 :: 3 :: 7 :: 15 :: 31 :: 63 :: 127 :: 255 :: 511 :: 1023 :: 2047 :: 4095 :: 8191 :: 16383 :: 32767 :: 16383 :: 81919 :: 16383 :: 278527 :: 999423 :: 2047999 :: 4145151 :: 8388607 :: 16777215 :: 33554431 :: 67108863 :: 33554431 :: 167772159 :: 33554431 :: 570425343 :: 2046820351 :: 4194303999 :: 8489271295 :: 17179869183 :: 34359738367 :: 68719476735 :: 137438953471 :: []) (0 :: 1 :: 2 :: 3 :: 4 :: 5 :: 6 :: 7 :: 8 :: 9 :: 10 :: 11 :: 12 :: 13 :: 14 :: 15 :: 16 :: 17 :: 18 :: 19 :: 20 :: 21 :: 22 :: 23 :: 24 :: 25 :: 26 :: 27 :: 28 :: 29 :: 30 :: 31 :: 32 :: 33 :: 34 :: 35 :: 36 :: 37 :: []) [] (by kernel_rfl) (by kernel_rfl) (fun i T z hi hk => by simp [kdOf] at hk <;> (try (split at hk <;> cases hk))) ?_
    intro Wx hWx
    have HTx := zH (HT.out.trans hWx)
    clear hWx HT
    have HT := HTx
    clear HTx
    have x0 := (HB3.out.step HT.out).cell 0
    have x1 := (HB3.out.step HT.out).cell 1
    have b1 := HT.out.kc HBC.out
    simp only [zD, zE] at x0 x1
    repeat ((first | (refine run_off rfl rfl (by rfl) ?_) | (refine run_chain_off rfl rfl (by rfl) (K0_mono _) ?_) | ((refine run_want rfl rfl (by rfl) ⟨?_, fun W hW => ?_, ?_⟩; rotate_left; (· (have d0 := hW.kc x0; have d1 := hW.kc x1; have d2 := hW.kc b1; go_simp; (try with_reducible rfl)))))); (try simp only [Act.put, zA, zB, zC]))
    clear x0 x1 b1
    refine run_chain rfl rfl (by rfl) (fun Wi hWi K' hK => ?_)
    have HTi := zH (HT.out.trans hWi)
    clear hWi HT
    go_simp
    refine (gale.within_any _ _ _ _).mono ?_
    rintro e wn ⟨rfl, rfl⟩
    rw [w1]
    have HT := HTi
    clear HTi
    refine hK _ _ (StepX.refl _ _) ?_
    (try simp only [Act.put, zA, zB, zC])
    have x0 := (HB3.out.step HT.out).cell 0
    have x1 := (HB3.out.step HT.out).cell 1
    have b1 := HT.out.kc HBC.out
    simp only [zD, zE] at x0 x1
    repeat ((first | (refine run_off rfl rfl (by rfl) ?_) | (refine run_chain_off rfl rfl (by rfl) (K0_mono _) ?_) | ((refine run_want rfl rfl (by rfl) ⟨?_, fun W hW => ?_, ?_⟩; rotate_left; (· (have d0 := hW.kc x0; have d1 := hW.kc x1; have d2 := hW.kc b1; go_simp; (try with_reducible rfl)))))); (try simp only [Act.put, zA, zB, zC]))
    clear x0 x1 b1
    refine run_chain rfl rfl (by rfl) (fun Wi hWi K' hK => ?_)
    have HTi := zH (HT.out.trans hWi)
    clear hWi HT
    go_simp
    refine (gale.within_any _ _ _ _).mono ?_
    rintro e wn ⟨rfl, rfl⟩
    rw [w2]
    have HT := HTi
    clear HTi
    refine hK _ _ (StepX.refl _ _) ?_
    (try simp only [Act.put, zA, zB, zC])
    clear w1 w2
    have x0 := (HB3.out.step HT.out).cell 0
    have x1 := (HB3.out.step HT.out).cell 1
    have b1 := HT.out.kc HBC.out
    simp only [zD, zE] at x0 x1
    repeat ((first | (refine run_off rfl rfl (by rfl) ?_) | (refine run_chain_off rfl rfl (by rfl) (K0_mono _) ?_) | ((refine run_want rfl rfl (by rfl) ⟨?_, fun W hW => ?_, ?_⟩; rotate_left; (· (have d0 := hW.kc x0; have d1 := hW.kc x1; have d2 := hW.kc b1; go_simp; (try with_reducible rfl)))))); (try simp only [Act.put, zA, zB, zC]))
    clear x0 x1 b1
    refine run_end (L := []) rfl (fun W6 hW6 => ?_)
    have HT6 := zH (HT.out.trans hW6)
    clear hW6 HT
    have HT := HT6
    clear HT6
    go_wp2
    go_ret
    exact ⟨by rw [HR.out]; rfl, HS.out.trans (HTR.out.trans (HS3.out.trans HT.out))⟩
   | true =>
   cases k with
   | zero =>
    have d0 : decide (0 < ((0 : Nat) : Int)) = false := by decide
    have HLV := zH (show levelB s.levels (1 - 1) = true by rw [HLB.out, w1, w2]; rfl)
    refine wp_region_seq (kdOf [2, 7] []) (0 :: 1 :: 3 :: 7 :: 15 :: 31 :: 63 :: 127 :: 255 :: 511 :: 1023 :: 2047 :: 4095 :: 8191 :: 16383 :: 32767 :: 16383 :: 81919 :: 16383 :: 278527 :: 999423 :: 2047999 :: 4145151 :: 8388607 :: 16777215 :: 33554431 :: 67108863 :: 33554431 :: 167772159 :: 33554431 :: 570425343 :: 2046820351 :: 4194303999 :: 8489271295 :: 17179869183 :: 34359738367 :: 68719476735 :: 137438953471 :: []) (0 :: 1 :: 2 :: 3 :: 4 :: 5 :: 6 :: 7 :: 8 :: 9 :: 10 :: 11 :: 12 :: 13 :: 14 :: 15 :: 16 :: 17 :: 18 :: 19 :: 20 :: 21 :: 22 :: 23 :: 24 :: 25 :: 26 :: 27 :: 28 :: 29 :: 30 :: 31 :: 32 :: 33 :: 34 :: 35 :: 36 :: 37 :: []) [] (by kernel_rfl) (by kernel_rfl) (fun i T z hi hk => by simp [kdOf] at hk <;> (try (split at hk <;> cases hk))) ?_
    intro Wx hWx
    have HTx := zH (HT.out.trans hWx)
    clear hWx HT
    have HT := HTx
    clear HTx
    have x0 := (HB3.out.step HT.out).cell 0
    have x1 := (HB3.out.step HT.out).cell 1
    have b1 := HT.out.kc HBC.out
    simp only [zD, zE] at x0 x1
    repeat ((first | (refine run_off rfl rfl (by rfl) ?_) | (refine run_chain_off rfl rfl (by rfl) (K0_mono _) ?_) | ((refine run_want rfl rfl (by rfl) ⟨?_, fun W hW => ?_, ?_⟩; rotate_left; (· (have d0 := hW.kc x0; have d1 := hW.kc x1; have d2 := hW.kc b1; go_simp; (try with_reducible rfl)))))); (try simp only [Act.put, zA, zB, zC]))
    clear x0 x1 b1
    refine run_chain rfl rfl (by rfl) (fun Wi hWi K' hK => ?_)
    have HTi := zH (HT.out.trans hWi)
    clear hWi HT
    go_simp
    refine (gale.within_any _ _ _ _).mono ?_
    rintro e wn ⟨rfl, rfl⟩
    rw [w1]
    have HT := HTi
    clear HTi
    refine hK _ _ (StepX.refl _ _) ?_
    (try simp only [Act.put, zA, zB, zC])
    have x0 := (HB3.out.step HT.out).cell 0
    have x1 := (HB3.out.step HT.out).cell 1
    have b1 := HT.out.kc HBC.out
    simp only [zD, zE] at x0 x1
    repeat ((first | (refine run_off rfl rfl (by rfl) ?_) | (refine run_chain_off rfl rfl (by rfl) (K0_mono _) ?_) | ((refine run_want rfl rfl (by rfl) ⟨?_, fun W hW => ?_, ?_⟩; rotate_left; (· (have d0 := hW.kc x0; have d1 := hW.kc x1; have d2 := hW.kc b1; go_simp; (try with_reducible rfl)))))); (try simp only [Act.put, zA, zB, zC]))
    clear x0 x1 b1
    refine run_chain rfl rfl (by rfl) (fun Wi hWi K' hK => ?_)
    have HTi := zH (HT.out.trans hWi)
    clear hWi HT
    go_simp
    refine (gale.within_any _ _ _ _).mono ?_
    rintro e wn ⟨rfl, rfl⟩
    rw [w2]
    have HT := HTi
    clear HTi
    refine hK _ _ (StepX.refl _ _) ?_
    (try simp only [Act.put, zA, zB, zC])
    clear w1 w2
    have x0 := (HB3.out.step HT.out).cell 0
    have x1 := (HB3.out.step HT.out).cell 1
    have b1 := HT.out.kc HBC.out
    simp only [zD, zE] at x0 x1
    repeat ((first | (refine run_off rfl rfl (by rfl) ?_) | (refine run_chain_off rfl rfl (by rfl) (K0_mono _) ?_) | ((refine run_want rfl rfl (by rfl) ⟨?_, fun W hW => ?_, ?_⟩; rotate_left; (· (have d0 := hW.kc x0; have d1 := hW.kc x1; have d2 := hW.kc b1; go_simp; (try with_reducible rfl)))))); (try simp only [Act.put, zA, zB, zC]))
    clear x0 x1 b1
    refine run_end (L := []) rfl (fun W6 hW6 => ?_)
    have HT6 := zH (HT.out.trans hW6)
    clear hW6 HT
    have HT := HT6
    clear HT6
    go_wp2
    go_roundw
    case rel => exact ⟨1, by omega, by go_num, fun i hi hl => if e : i + 1 = 1 then by (obtain rfl : i = 1 - 1 := by omega); exact HLV.out else HA.out i (by omega) hl, HTR.out.trans (HS3.out.trans HT.out)⟩
    case measure => simp [intOf]; omega
   | succ j =>
    have hpre := HPRE.out j rfl
    obtain ⟨g1, g2⟩ := hpre
    have hjx : (0 : Int) ≤ (j : Int) ∧ (j : Int) < (s.levels.length : Int) := by omega
    have hwj : IntKind.i64.wrap (j : Int) = (j : Int) := by rw [IntKind.wrap_i64]; omega
    have hd0 : decide ((0 : Int) < ((j + 1 : Nat) : Int)) = true := decide_eq_true (by omega)
    have HLC := zH (show levelB s.levels (j + 1) = (decide (s.levels[j].upto < xu) && decide (s.levels[j].push ≤ xp)) by
     rw [HLB.out, w1, w2]
     simp only [List.getElem?_eq_getElem (show j < s.levels.length by omega), Bool.true_and])
    obtain ⟨y, hy⟩ : ∃ y, y = s.levels[j] := ⟨_, rfl⟩
    rw [← hy] at g1 g2 HLC
    obtain ⟨yu, yp⟩ := y
    dsimp only at g1 g2 HLC
    have HG := zH (And.intro (HS3.out.kc g1) (HS3.out.kc g2))
    clear g1 g2 hy
    by_cases c1 : xu ≤ yu
    ·have d1 : decide (xu ≤ yu) = true := decide_eq_true c1
     have HR := zH (HNO.out (by rw [HLC.out, decide_eq_false (by omega)]; rfl))
     clear c1
     refine wp_region_seq (kdOf [2, 7] []) (0 :: 1 :: 3 :: 7 :: 15 :: 31 :: 63 :: 127 :: 255 :: 511 :: 1023 :: 2047 :: 4095 :: 8191 :: 16383 :: 32767 :: 16383 :: 81919 :: 16383 :: 278527 :: 999423 :: 2047999 :: 4145151 :: 8388607 :: 16777215 :: 33554431 :: 67108863 :: 33554431 :: 167772159 :: 33554431 :: 570425343 :: 2046820351 :: 4194303999 :: 8489271295 :: 17179869183 :: 34359738367 :: 68719476735 :: 137438953471 :: []) (0 :: 1 :: 2 :: 3 :: 4 :: 5 :: 6 :: 7 :: 8 :: 9 :: 10 :: 11 :: 12 :: 13 :: 14 :: 15 :: 16 :: 17 :: 18 :: 19 :: 20 :: 21 :: 22 :: 23 :: 24 :: 25 :: 26 :: 27 :: 28 :: 29 :: 30 :: 31 :: 32 :: 33 :: 34 :: 35 :: 36 :: 37 :: []) [] (by kernel_rfl) (by kernel_rfl) (fun i T z hi hk => by simp [kdOf] at hk <;> (try (split at hk <;> cases hk))) ?_
     intro Wx hWx
     have HTx := zH (HT.out.trans hWx)
     clear hWx HT
     have HT := HTx
     clear HTx
     have x0 := (HB3.out.step HT.out).cell 0
     have x1 := (HB3.out.step HT.out).cell 1
     have b1 := HT.out.kc HBC.out
     simp only [zD, zE] at x0 x1
     repeat ((first | (refine run_off rfl rfl (by rfl) ?_) | (refine run_chain_off rfl rfl (by rfl) (K0_mono _) ?_) | ((refine run_want rfl rfl (by rfl) ⟨?_, fun W hW => ?_, ?_⟩; rotate_left; (· (have d0 := hW.kc x0; have d1 := hW.kc x1; have d2 := hW.kc b1; go_simp; (try with_reducible rfl)))))); (try simp only [Act.put, zA, zB, zC]))
     clear x0 x1 b1
     refine run_chain rfl rfl (by rfl) (fun Wi hWi K' hK => ?_)
     have HTi := zH (HT.out.trans hWi)
     clear hWi HT
     go_simp
     refine (gale.within_any _ _ _ _).mono ?_
     rintro e wn ⟨rfl, rfl⟩
     rw [w1]
     have HT := HTi
     clear HTi
     refine hK _ _ (StepX.refl _ _) ?_
     (try simp only [Act.put, zA, zB, zC])
     have x0 := (HB3.out.step HT.out).cell 0
     have x1 := (HB3.out.step HT.out).cell 1
     have b1 := HT.out.kc HBC.out
     simp only [zD, zE] at x0 x1
     repeat ((first | (refine run_off rfl rfl (by rfl) ?_) | (refine run_chain_off rfl rfl (by rfl) (K0_mono _) ?_) | ((refine run_want rfl rfl (by rfl) ⟨?_, fun W hW => ?_, ?_⟩; rotate_left; (· (have d0 := hW.kc x0; have d1 := hW.kc x1; have d2 := hW.kc b1; go_simp; (try with_reducible rfl)))))); (try simp only [Act.put, zA, zB, zC]))
     clear x0 x1 b1
     refine run_chain rfl rfl (by rfl) (fun Wi hWi K' hK => ?_)
     have HTi := zH (HT.out.trans hWi)
     clear hWi HT
     go_simp
     refine (gale.within_any _ _ _ _).mono ?_
     rintro e wn ⟨rfl, rfl⟩
     rw [w2]
     have HT := HTi
     clear HTi
     refine hK _ _ (StepX.refl _ _) ?_
     (try simp only [Act.put, zA, zB, zC])
     have g1 := HT.out.kc HG.out.1
     have g2 := HT.out.kc HG.out.2
     have x0 := (HB3.out.step HT.out).cell 0
     have x1 := (HB3.out.step HT.out).cell 1
     have b1 := HT.out.kc HBC.out
     simp only [zD, zE] at x0 x1
     repeat ((first | (refine run_off rfl rfl (by rfl) ?_) | (refine run_chain_off rfl rfl (by rfl) (K0_mono _) ?_) | ((refine run_want rfl rfl (by rfl) ⟨?_, fun W hW => ?_, ?_⟩; rotate_left; (· (have d0 := hW.kc x0; have d1 := hW.kc x1; have d2 := hW.kc b1; have d3 := hW.kc g1; have d4 := hW.kc g2; go_simp; (try with_reducible rfl)))))); (try simp only [Act.put, zA, zB, zC]))
     clear x0 x1 b1
     clear g1 g2 w1 w2
     refine run_end (L := []) rfl (fun W6 hW6 => ?_)
     have HT6 := zH (HT.out.trans hW6)
     clear hW6 HT
     have HT := HT6
     clear HT6
     go_wp2
     go_ret
     exact ⟨by rw [HR.out]; rfl, HS.out.trans (HTR.out.trans (HS3.out.trans HT.out))⟩
    have d1 : decide (xu ≤ yu) = false := decide_eq_false c1
    by_cases c2 : xp < yp
    ·have d2 : decide (xp < yp) = true := decide_eq_true c2
     have HR := zH (HNO.out (by rw [HLC.out, decide_eq_true (show yu < xu by omega), decide_eq_false (by omega)]; rfl))
     clear c1 c2
     refine wp_region_seq (kdOf [2, 7] []) (0 :: 1 :: 3 :: 7 :: 15 :: 31 :: 63 :: 127 :: 255 :: 511 :: 1023 :: 2047 :: 4095 :: 8191 :: 16383 :: 32767 :: 16383 :: 81919 :: 16383 :: 278527 :: 999423 :: 2047999 :: 4145151 :: 8388607 :: 16777215 :: 33554431 :: 67108863 :: 33554431 :: 167772159 :: 33554431 :: 570425343 :: 2046820351 :: 4194303999 :: 8489271295 :: 17179869183 :: 34359738367 :: 68719476735 :: 137438953471 :: []) (0 :: 1 :: 2 :: 3 :: 4 :: 5 :: 6 :: 7 :: 8 :: 9 :: 10 :: 11 :: 12 :: 13 :: 14 :: 15 :: 16 :: 17 :: 18 :: 19 :: 20 :: 21 :: 22 :: 23 :: 24 :: 25 :: 26 :: 27 :: 28 :: 29 :: 30 :: 31 :: 32 :: 33 :: 34 :: 35 :: 36 :: 37 :: []) [] (by kernel_rfl) (by kernel_rfl) (fun i T z hi hk => by simp [kdOf] at hk <;> (try (split at hk <;> cases hk))) ?_
     intro Wx hWx
     have HTx := zH (HT.out.trans hWx)
     clear hWx HT
     have HT := HTx
     clear HTx
     have x0 := (HB3.out.step HT.out).cell 0
     have x1 := (HB3.out.step HT.out).cell 1
     have b1 := HT.out.kc HBC.out
     simp only [zD, zE] at x0 x1
     repeat ((first | (refine run_off rfl rfl (by rfl) ?_) | (refine run_chain_off rfl rfl (by rfl) (K0_mono _) ?_) | ((refine run_want rfl rfl (by rfl) ⟨?_, fun W hW => ?_, ?_⟩; rotate_left; (· (have d0 := hW.kc x0; have d1 := hW.kc x1; have d2 := hW.kc b1; go_simp; (try with_reducible rfl)))))); (try simp only [Act.put, zA, zB, zC]))
     clear x0 x1 b1
     refine run_chain rfl rfl (by rfl) (fun Wi hWi K' hK => ?_)
     have HTi := zH (HT.out.trans hWi)
     clear hWi HT
     go_simp
     refine (gale.within_any _ _ _ _).mono ?_
     rintro e wn ⟨rfl, rfl⟩
     rw [w1]
     have HT := HTi
     clear HTi
     refine hK _ _ (StepX.refl _ _) ?_
     (try simp only [Act.put, zA, zB, zC])
     have x0 := (HB3.out.step HT.out).cell 0
     have x1 := (HB3.out.step HT.out).cell 1
     have b1 := HT.out.kc HBC.out
     simp only [zD, zE] at x0 x1
     repeat ((first | (refine run_off rfl rfl (by rfl) ?_) | (refine run_chain_off rfl rfl (by rfl) (K0_mono _) ?_) | ((refine run_want rfl rfl (by rfl) ⟨?_, fun W hW => ?_, ?_⟩; rotate_left; (· (have d0 := hW.kc x0; have d1 := hW.kc x1; have d2 := hW.kc b1; go_simp; (try with_reducible rfl)))))); (try simp only [Act.put, zA, zB, zC]))
     clear x0 x1 b1
     refine run_chain rfl rfl (by rfl) (fun Wi hWi K' hK => ?_)
     have HTi := zH (HT.out.trans hWi)
     clear hWi HT
     go_simp
     refine (gale.within_any _ _ _ _).mono ?_
     rintro e wn ⟨rfl, rfl⟩
     rw [w2]
     have HT := HTi
     clear HTi
     refine hK _ _ (StepX.refl _ _) ?_
     (try simp only [Act.put, zA, zB, zC])
     have g1 := HT.out.kc HG.out.1
     have g2 := HT.out.kc HG.out.2
     have x0 := (HB3.out.step HT.out).cell 0
     have x1 := (HB3.out.step HT.out).cell 1
     have b1 := HT.out.kc HBC.out
     simp only [zD, zE] at x0 x1
     repeat ((first | (refine run_off rfl rfl (by rfl) ?_) | (refine run_chain_off rfl rfl (by rfl) (K0_mono _) ?_) | ((refine run_want rfl rfl (by rfl) ⟨?_, fun W hW => ?_, ?_⟩; rotate_left; (· (have d0 := hW.kc x0; have d1 := hW.kc x1; have d2 := hW.kc b1; have d3 := hW.kc g1; have d4 := hW.kc g2; go_simp; (try with_reducible rfl)))))); (try simp only [Act.put, zA, zB, zC]))
     clear x0 x1 b1
     clear g1 g2 w1 w2
     refine run_end (L := []) rfl (fun W6 hW6 => ?_)
     have HT6 := zH (HT.out.trans hW6)
     clear hW6 HT
     have HT := HT6
     clear HT6
     go_wp2
     go_ret
     exact ⟨by rw [HR.out]; rfl, HS.out.trans (HTR.out.trans (HS3.out.trans HT.out))⟩
    have d2 : decide (xp < yp) = false := decide_eq_false c2
    have HLV := zH (show levelB s.levels (j + 1 + 1 - 1) = true by rw [Nat.add_sub_cancel, HLC.out, decide_eq_true (show yu < xu by omega), decide_eq_true (show yp ≤ xp by omega)]; rfl)
    clear c1 c2
    refine wp_region_seq (kdOf [2, 7] []) (0 :: 1 :: 3 :: 7 :: 15 :: 31 :: 63 :: 127 :: 255 :: 511 :: 1023 :: 2047 :: 4095 :: 8191 :: 16383 :: 32767 :: 16383 :: 81919 :: 16383 :: 278527 :: 999423 :: 2047999 :: 4145151 :: 8388607 :: 16777215 :: 33554431 :: 67108863 :: 33554431 :: 167772159 :: 33554431 :: 570425343 :: 2046820351 :: 4194303999 :: 8489271295 :: 17179869183 :: 34359738367 :: 68719476735 :: 137438953471 :: []) (0 :: 1 :: 2 :: 3 :: 4 :: 5 :: 6 :: 7 :: 8 :: 9 :: 10 :: 11 :: 12 :: 13 :: 14 :: 15 :: 16 :: 17 :: 18 :: 19 :: 20 :: 21 :: 22 :: 23 :: 24 :: 25 :: 26 :: 27 :: 28 :: 29 :: 30 :: 31 :: 32 :: 33 :: 34 :: 35 :: 36 :: 37 :: []) [] (by kernel_rfl) (by kernel_rfl) (fun i T z hi hk => by simp [kdOf] at hk <;> (try (split at hk <;> cases hk))) ?_
    intro Wx hWx
    have HTx := zH (HT.out.trans hWx)
    clear hWx HT
    have HT := HTx
    clear HTx
    have x0 := (HB3.out.step HT.out).cell 0
    have x1 := (HB3.out.step HT.out).cell 1
    have b1 := HT.out.kc HBC.out
    simp only [zD, zE] at x0 x1
    repeat ((first | (refine run_off rfl rfl (by rfl) ?_) | (refine run_chain_off rfl rfl (by rfl) (K0_mono _) ?_) | ((refine run_want rfl rfl (by rfl) ⟨?_, fun W hW => ?_, ?_⟩; rotate_left; (· (have d0 := hW.kc x0; have d1 := hW.kc x1; have d2 := hW.kc b1; go_simp; (try with_reducible rfl)))))); (try simp only [Act.put, zA, zB, zC]))
    clear x0 x1 b1
    refine run_chain rfl rfl (by rfl) (fun Wi hWi K' hK => ?_)
    have HTi := zH (HT.out.trans hWi)
    clear hWi HT
    go_simp
    refine (gale.within_any _ _ _ _).mono ?_
    rintro e wn ⟨rfl, rfl⟩
    rw [w1]
    have HT := HTi
    clear HTi
    refine hK _ _ (StepX.refl _ _) ?_
    (try simp only [Act.put, zA, zB, zC])
    have x0 := (HB3.out.step HT.out).cell 0
    have x1 := (HB3.out.step HT.out).cell 1
    have b1 := HT.out.kc HBC.out
    simp only [zD, zE] at x0 x1
    repeat ((first | (refine run_off rfl rfl (by rfl) ?_) | (refine run_chain_off rfl rfl (by rfl) (K0_mono _) ?_) | ((refine run_want rfl rfl (by rfl) ⟨?_, fun W hW => ?_, ?_⟩; rotate_left; (· (have d0 := hW.kc x0; have d1 := hW.kc x1; have d2 := hW.kc b1; go_simp; (try with_reducible rfl)))))); (try simp only [Act.put, zA, zB, zC]))
    clear x0 x1 b1
    refine run_chain rfl rfl (by rfl) (fun Wi hWi K' hK => ?_)
    have HTi := zH (HT.out.trans hWi)
    clear hWi HT
    go_simp
    refine (gale.within_any _ _ _ _).mono ?_
    rintro e wn ⟨rfl, rfl⟩
    rw [w2]
    have HT := HTi
    clear HTi
    refine hK _ _ (StepX.refl _ _) ?_
    (try simp only [Act.put, zA, zB, zC])
    have g1 := HT.out.kc HG.out.1
    have g2 := HT.out.kc HG.out.2
    have x0 := (HB3.out.step HT.out).cell 0
    have x1 := (HB3.out.step HT.out).cell 1
    have b1 := HT.out.kc HBC.out
    simp only [zD, zE] at x0 x1
    repeat ((first | (refine run_off rfl rfl (by rfl) ?_) | (refine run_chain_off rfl rfl (by rfl) (K0_mono _) ?_) | ((refine run_want rfl rfl (by rfl) ⟨?_, fun W hW => ?_, ?_⟩; rotate_left; (· (have d0 := hW.kc x0; have d1 := hW.kc x1; have d2 := hW.kc b1; have d3 := hW.kc g1; have d4 := hW.kc g2; go_simp; (try with_reducible rfl)))))); (try simp only [Act.put, zA, zB, zC]))
    clear x0 x1 b1
    clear g1 g2 w1 w2
    refine run_end (L := []) rfl (fun W6 hW6 => ?_)
    have HT6 := zH (HT.out.trans hW6)
    clear hW6 HT
    have HT := HT6
    clear HT6
    go_wp2
    go_roundw
    case rel => exact ⟨j + 1 + 1, by omega, by go_num, fun i hi hl => if e : i + 1 = j + 1 + 1 then by (obtain rfl : i = j + 1 + 1 - 1 := by omega); exact HLV.out else HA.out i (by omega) hl, HTR.out.trans (HS3.out.trans HT.out)⟩
    case measure => simp [intOf]; omega
  ·have HT := HTR
   clear HTR
   have HLV0 := zH (show (List.range s.levels.length).all (levelB s.levels) = true by
    rw [List.all_eq_true]
    intro i hi
    rw [List.mem_range] at hi
    exact HA.out i (by omega) hi)
   clear HA
   obtain ⟨m, hm⟩ : ∃ m, s.stages.length = m + 1 := ⟨s.stages.length - 1, by have := HLN.out; omega⟩
   have hmb : 1 ≤ m ∧ m ≤ 7 := by have := HLN.out; omega
   have b2 := (HB.out.step HT.out).cell 2
   simp only [zD, zE] at b2
   rw [hm] at b2
   obtain ⟨q1, d1, bb, oo, he, hcap, _, hp, hc, hbl⟩ := (SL.go HV2.out HT.out).stgs
   injection he with he1 _ he3
   subst he1 he3
   obtain rfl := hp (by omega)
   rw [hm] at hcap
   have hwm : IntKind.i64.wrap (m : Int) = (m : Int) := by rw [IntKind.wrap_i64]; omega
   have hwm2 : IntKind.i64.wrap (((m + 1 : Nat) : Int) - 1) = (m : Int) := by rw [IntKind.wrap_i64]; omega
   have HM := zH (And.intro hm hmb)
   have HCAP := zH hcap
   have hcm : m ≤ k2 := by omega
   clear hp hc hbl hcap
   go_upto_region 11 with (fail)
   clear hlt hk
   go_loopw [89] (fun i wr' => ∃ k : Nat, k ≤ m ∧ i = .int .i64 k ∧ (∀ j (hj : j < k) (hl : j < s.stages.length), stageB s.stages j = true) ∧ Step W0 wr') (fun i _ => m - (intOf i).toNat)
   case atStart => exact ⟨0, Nat.zero_le _, rfl, fun j hj => absurd hj (by omega), HT.out⟩
   case round =>
    obtain ⟨k, hk, rfl, hall, hT⟩ := hrel
    have HA := zH hall
    have HTR := zH hT
    clear hT HT b2 hall
    by_cases hlt : k < m
    ·obtain ⟨q1, d1, bb', oo', he, _, _, hp, hc, hbl⟩ := (SL.go HV2.out HTR.out).stgs
     injection he with he1 _ he3
     subst he3
     have hpp := hp (by have := HM.out; omega)
     rw [hpp] at he1
     injection he1 with he1
     injection he1 with he4 he5 _
     subst he4 he5
     have hL := HM.out.1
     have hks : k < s.stages.length := by omega
     obtain ⟨e1, e2⟩ := hc k hks
     have hix : (0 : Int) ≤ (k : Int) ∧ (k : Int) < (m : Int) := by omega
     have HPRE := zH (fun (j : Nat) (hj : j + 1 = k) => hc j (by omega))
     have HNO := zH (fun (h : stageB s.stages k = false) => site_stage (s := s) (by omega) h)
     have HLB := zH (stage_at hks)
     obtain ⟨x, hx⟩ : ∃ x, x = s.stages[k] := ⟨_, rfl⟩
     rw [← hx] at e1 e2 HLB
     obtain ⟨xu, xp⟩ := x
     dsimp only at e1 e2 HLB
     obtain ⟨W3, hW3⟩ : ∃ W, W = wr.alloc (.cells #[.int .i64 xu, .int .i64 xp] 131) := ⟨_, rfl⟩
     have HB3 := zH (show Bx W3 wr.heap.size [.int .i64 xu, .int .i64 xp] 131 by subst hW3; exact Bx.new wr [_, _] _)
     have HS3 := zH (show Step wr W3 by subst hW3; exact Step.alloc _ _)
     have HW3 := zH hW3
     have HT := zH (Step.refl W3)
     have HBC := zH ((HB.out.step (HTR.out.trans HS3.out)).cell 2)
     simp only [zD, zE] at HBC
     rw [hL] at HBC
     clear hp hpp hc hbl hx hW3 hL
     go_upto_region 13 with (fail)
     rw [← HW3.out]
     clear e1 e2
     cases w1 : withinB xu 1 100 with
     | false =>
      have HR := zH (HNO.out (by rw [HLB.out, w1]; rfl))
      refine wp_region_seq (kdOf [2, 7] []) (0 :: 1 :: 3 :: 7 :: 15 :: 31 :: 63 :: 127 :: 255 :: 511 :: 1023 :: 2047 :: 4095 :: 8191 :: 16383 :: 32767 :: 16383 :: 81919 :: 16383 :: 278527 :: 999423 :: 2047999 :: 4145151 :: 8388607 :: 16777215 :: 33554431 :: []) (0 :: 1 :: 2 :: 3 :: 4 :: 5 :: 6 :: 7 :: 8 :: 9 :: 10 :: 11 :: 12 :: 13 :: 14 :: 15 :: 16 :: 17 :: 18 :: 19 :: 20 :: 21 :: 22 :: 23 :: 24 :: 25 :: []) [] (by kernel_rfl) (by kernel_rfl) (fun i T z hi hk => by simp [kdOf] at hk <;> (try (split at hk <;> cases hk))) ?_
      intro Wx hWx
      have HTx := zH (HT.out.trans hWx)
      clear hWx HT
      have HT := HTx
      clear HTx
      have x0 := (HB3.out.step HT.out).cell 0
      have x1 := (HB3.out.step HT.out).cell 1
      have b1 := HT.out.kc HBC.out
      simp only [zD, zE] at x0 x1
      repeat ((first | (refine run_off rfl rfl (by rfl) ?_) | (refine run_chain_off rfl rfl (by rfl) (K0_mono _) ?_) | ((refine run_want rfl rfl (by rfl) ⟨?_, fun W hW => ?_, ?_⟩; rotate_left; (· (have d0 := hW.kc x0; have d1 := hW.kc x1; have d2 := hW.kc b1; go_simp; (try with_reducible rfl)))))); (try simp only [Act.put, zA, zB, zC]))
      clear x0 x1 b1
      refine run_chain rfl rfl (by rfl) (fun Wi hWi K' hK => ?_)
      have HTi := zH (HT.out.trans hWi)
      clear hWi HT
      go_simp
      refine (gale.within_any _ _ _ _).mono ?_
      rintro e wn ⟨rfl, rfl⟩
      rw [w1]
      have HT := HTi
      clear HTi
      refine hK _ _ (StepX.refl _ _) ?_
      (try simp only [Act.put, zA, zB, zC])
      clear w1
      have x0 := (HB3.out.step HT.out).cell 0
      have x1 := (HB3.out.step HT.out).cell 1
      have b1 := HT.out.kc HBC.out
      simp only [zD, zE] at x0 x1
      repeat ((first | (refine run_off rfl rfl (by rfl) ?_) | (refine run_chain_off rfl rfl (by rfl) (K0_mono _) ?_) | ((refine run_want rfl rfl (by rfl) ⟨?_, fun W hW => ?_, ?_⟩; rotate_left; (· (have d0 := hW.kc x0; have d1 := hW.kc x1; have d2 := hW.kc b1; go_simp; (try with_reducible rfl)))))); (try simp only [Act.put, zA, zB, zC]))
      clear x0 x1 b1
      refine run_end (L := []) rfl (fun W6 hW6 => ?_)
      have HT6 := zH (HT.out.trans hW6)
      clear hW6 HT
      have HT := HT6
      clear HT6
      go_wp2
      go_ret
      exact ⟨by rw [HR.out]; rfl, HS.out.trans (HTR.out.trans (HS3.out.trans HT.out))⟩
     | true =>
     cases w2 : withinB xp 1 240 with
     | false =>
      have HR := zH (HNO.out (by rw [HLB.out, w1, w2]; rfl))
      refine wp_region_seq (kdOf [2, 7] []) (0 :: 1 :: 3 :: 7 :: 15 :: 31 :: 63 :: 127 :: 255 :: 511 :: 1023 :: 2047 :: 4095 :: 8191 :: 16383 :: 32767 :: 16383 :: 81919 :: 16383 :: 278527 :: 999423 :: 2047999 :: 4145151 :: 8388607 :: 16777215 :: 33554431 :: []) (0 :: 1 :: 2 :: 3 :: 4 :: 5 :: 6 :: 7 :: 8 :: 9 :: 10 :: 11 :: 12 :: 13 :: 14 :: 15 :: 16 :: 17 :: 18 :: 19 :: 20 :: 21 :: 22 :: 23 :: 24 :: 25 :: []) [] (by kernel_rfl) (by kernel_rfl) (fun i T z hi hk => by simp [kdOf] at hk <;> (try (split at hk <;> cases hk))) ?_
      intro Wx hWx
      have HTx := zH (HT.out.trans hWx)
      clear hWx HT
      have HT := HTx
      clear HTx
      have x0 := (HB3.out.step HT.out).cell 0
      have x1 := (HB3.out.step HT.out).cell 1
      have b1 := HT.out.kc HBC.out
      simp only [zD, zE] at x0 x1
      repeat ((first | (refine run_off rfl rfl (by rfl) ?_) | (refine run_chain_off rfl rfl (by rfl) (K0_mono _) ?_) | ((refine run_want rfl rfl (by rfl) ⟨?_, fun W hW => ?_, ?_⟩; rotate_left; (· (have d0 := hW.kc x0; have d1 := hW.kc x1; have d2 := hW.kc b1; go_simp; (try with_reducible rfl)))))); (try simp only [Act.put, zA, zB, zC]))
      clear x0 x1 b1
      refine run_chain rfl rfl (by rfl) (fun Wi hWi K' hK => ?_)
      have HTi := zH (HT.out.trans hWi)
      clear hWi HT
      go_simp
      refine (gale.within_any _ _ _ _).mono ?_
      rintro e wn ⟨rfl, rfl⟩
      rw [w1]
      have HT := HTi
      clear HTi
      refine hK _ _ (StepX.refl _ _) ?_
      (try simp only [Act.put, zA, zB, zC])
      have x0 := (HB3.out.step HT.out).cell 0
      have x1 := (HB3.out.step HT.out).cell 1
      have b1 := HT.out.kc HBC.out
      simp only [zD, zE] at x0 x1
      repeat ((first | (refine run_off rfl rfl (by rfl) ?_) | (refine run_chain_off rfl rfl (by rfl) (K0_mono _) ?_) | ((refine run_want rfl rfl (by rfl) ⟨?_, fun W hW => ?_, ?_⟩; rotate_left; (· (have d0 := hW.kc x0; have d1 := hW.kc x1; have d2 := hW.kc b1; go_simp; (try with_reducible rfl)))))); (try simp only [Act.put, zA, zB, zC]))
      clear x0 x1 b1
      refine run_chain rfl rfl (by rfl) (fun Wi hWi K' hK => ?_)
      have HTi := zH (HT.out.trans hWi)
      clear hWi HT
      go_simp
      refine (gale.within_any _ _ _ _).mono ?_
      rintro e wn ⟨rfl, rfl⟩
      rw [w2]
      have HT := HTi
      clear HTi
      refine hK _ _ (StepX.refl _ _) ?_
      (try simp only [Act.put, zA, zB, zC])
      clear w1 w2
      have x0 := (HB3.out.step HT.out).cell 0
      have x1 := (HB3.out.step HT.out).cell 1
      have b1 := HT.out.kc HBC.out
      simp only [zD, zE] at x0 x1
      repeat ((first | (refine run_off rfl rfl (by rfl) ?_) | (refine run_chain_off rfl rfl (by rfl) (K0_mono _) ?_) | ((refine run_want rfl rfl (by rfl) ⟨?_, fun W hW => ?_, ?_⟩; rotate_left; (· (have d0 := hW.kc x0; have d1 := hW.kc x1; have d2 := hW.kc b1; go_simp; (try with_reducible rfl)))))); (try simp only [Act.put, zA, zB, zC]))
      clear x0 x1 b1
      refine run_end (L := []) rfl (fun W6 hW6 => ?_)
      have HT6 := zH (HT.out.trans hW6)
      clear hW6 HT
      have HT := HT6
      clear HT6
      go_wp2
      go_ret
      exact ⟨by rw [HR.out]; rfl, HS.out.trans (HTR.out.trans (HS3.out.trans HT.out))⟩
     | true =>
     cases k with
     | zero =>
      have d0 : decide (0 < ((0 : Nat) : Int)) = false := by decide
      have HLV := zH (show stageB s.stages (1 - 1) = true by (show stageB s.stages 0 = true); rw [HLB.out, w1, w2]; rfl)
      refine wp_region_seq (kdOf [2, 7] []) (0 :: 1 :: 3 :: 7 :: 15 :: 31 :: 63 :: 127 :: 255 :: 511 :: 1023 :: 2047 :: 4095 :: 8191 :: 16383 :: 32767 :: 16383 :: 81919 :: 16383 :: 278527 :: 999423 :: 2047999 :: 4145151 :: 8388607 :: 16777215 :: 33554431 :: []) (0 :: 1 :: 2 :: 3 :: 4 :: 5 :: 6 :: 7 :: 8 :: 9 :: 10 :: 11 :: 12 :: 13 :: 14 :: 15 :: 16 :: 17 :: 18 :: 19 :: 20 :: 21 :: 22 :: 23 :: 24 :: 25 :: []) [] (by kernel_rfl) (by kernel_rfl) (fun i T z hi hk => by simp [kdOf] at hk <;> (try (split at hk <;> cases hk))) ?_
      intro Wx hWx
      have HTx := zH (HT.out.trans hWx)
      clear hWx HT
      have HT := HTx
      clear HTx
      have x0 := (HB3.out.step HT.out).cell 0
      have x1 := (HB3.out.step HT.out).cell 1
      have b1 := HT.out.kc HBC.out
      simp only [zD, zE] at x0 x1
      repeat ((first | (refine run_off rfl rfl (by rfl) ?_) | (refine run_chain_off rfl rfl (by rfl) (K0_mono _) ?_) | ((refine run_want rfl rfl (by rfl) ⟨?_, fun W hW => ?_, ?_⟩; rotate_left; (· (have d0 := hW.kc x0; have d1 := hW.kc x1; have d2 := hW.kc b1; go_simp; (try with_reducible rfl)))))); (try simp only [Act.put, zA, zB, zC]))
      clear x0 x1 b1
      refine run_chain rfl rfl (by rfl) (fun Wi hWi K' hK => ?_)
      have HTi := zH (HT.out.trans hWi)
      clear hWi HT
      go_simp
      refine (gale.within_any _ _ _ _).mono ?_
      rintro e wn ⟨rfl, rfl⟩
      rw [w1]
      have HT := HTi
      clear HTi
      refine hK _ _ (StepX.refl _ _) ?_
      (try simp only [Act.put, zA, zB, zC])
      have x0 := (HB3.out.step HT.out).cell 0
      have x1 := (HB3.out.step HT.out).cell 1
      have b1 := HT.out.kc HBC.out
      simp only [zD, zE] at x0 x1
      repeat ((first | (refine run_off rfl rfl (by rfl) ?_) | (refine run_chain_off rfl rfl (by rfl) (K0_mono _) ?_) | ((refine run_want rfl rfl (by rfl) ⟨?_, fun W hW => ?_, ?_⟩; rotate_left; (· (have d0 := hW.kc x0; have d1 := hW.kc x1; have d2 := hW.kc b1; go_simp; (try with_reducible rfl)))))); (try simp only [Act.put, zA, zB, zC]))
      clear x0 x1 b1
      refine run_chain rfl rfl (by rfl) (fun Wi hWi K' hK => ?_)
      have HTi := zH (HT.out.trans hWi)
      clear hWi HT
      go_simp
      refine (gale.within_any _ _ _ _).mono ?_
      rintro e wn ⟨rfl, rfl⟩
      rw [w2]
      have HT := HTi
      clear HTi
      refine hK _ _ (StepX.refl _ _) ?_
      (try simp only [Act.put, zA, zB, zC])
      clear w1 w2
      have x0 := (HB3.out.step HT.out).cell 0
      have x1 := (HB3.out.step HT.out).cell 1
      have b1 := HT.out.kc HBC.out
      simp only [zD, zE] at x0 x1
      repeat ((first | (refine run_off rfl rfl (by rfl) ?_) | (refine run_chain_off rfl rfl (by rfl) (K0_mono _) ?_) | ((refine run_want rfl rfl (by rfl) ⟨?_, fun W hW => ?_, ?_⟩; rotate_left; (· (have d0 := hW.kc x0; have d1 := hW.kc x1; have d2 := hW.kc b1; go_simp; (try with_reducible rfl)))))); (try simp only [Act.put, zA, zB, zC]))
      clear x0 x1 b1
      refine run_end (L := []) rfl (fun W6 hW6 => ?_)
      have HT6 := zH (HT.out.trans hW6)
      clear hW6 HT
      have HT := HT6
      clear HT6
      go_wp2
      go_roundw
      case rel => exact ⟨1, by omega, by go_num, fun i hi hl => if e : i + 1 = 1 then by (obtain rfl : i = 1 - 1 := by omega); exact HLV.out else HA.out i (by omega) hl, HTR.out.trans (HS3.out.trans HT.out)⟩
      case measure => simp [intOf]; omega
     | succ j =>
      have hpre := HPRE.out j rfl
      obtain ⟨g1, g2⟩ := hpre
      have hjx : (0 : Int) ≤ (j : Int) ∧ (j : Int) < ((m + 1 : Nat) : Int) := by omega
      have hjx2 : (j : Int) < (m : Int) + 1 := by omega
      have hwj : IntKind.i64.wrap (j : Int) = (j : Int) := by rw [IntKind.wrap_i64]; omega
      have hd0 : decide ((0 : Int) < ((j + 1 : Nat) : Int)) = true := decide_eq_true (by omega)
      have HLC := zH (show stageB s.stages (j + 1) = decide (xu < s.stages[j].cover) by
       rw [HLB.out, w1, w2]
       simp only [List.getElem?_eq_getElem (show j < s.stages.length by omega), Bool.true_and])
      obtain ⟨y, hy⟩ : ∃ y, y = s.stages[j]'(by have := HM.out.1; omega) := ⟨_, rfl⟩
      rw [← hy] at g1 g2 HLC
      obtain ⟨yu, yp⟩ := y
      dsimp only at g1 g2 HLC
      have HG := zH (And.intro (HS3.out.kc g1) (HS3.out.kc g2))
      clear g1 g2 hy
      by_cases c1 : yu ≤ xu
      ·have d1 : decide (yu ≤ xu) = true := decide_eq_true c1
       have HR := zH (HNO.out (by rw [HLC.out, decide_eq_false (by omega)]))
       clear c1
       refine wp_region_seq (kdOf [2, 7] []) (0 :: 1 :: 3 :: 7 :: 15 :: 31 :: 63 :: 127 :: 255 :: 511 :: 1023 :: 2047 :: 4095 :: 8191 :: 16383 :: 32767 :: 16383 :: 81919 :: 16383 :: 278527 :: 999423 :: 2047999 :: 4145151 :: 8388607 :: 16777215 :: 33554431 :: []) (0 :: 1 :: 2 :: 3 :: 4 :: 5 :: 6 :: 7 :: 8 :: 9 :: 10 :: 11 :: 12 :: 13 :: 14 :: 15 :: 16 :: 17 :: 18 :: 19 :: 20 :: 21 :: 22 :: 23 :: 24 :: 25 :: []) [] (by kernel_rfl) (by kernel_rfl) (fun i T z hi hk => by simp [kdOf] at hk <;> (try (split at hk <;> cases hk))) ?_
       intro Wx hWx
       have HTx := zH (HT.out.trans hWx)
       clear hWx HT
       have HT := HTx
       clear HTx
       have x0 := (HB3.out.step HT.out).cell 0
       have x1 := (HB3.out.step HT.out).cell 1
       have b1 := HT.out.kc HBC.out
       simp only [zD, zE] at x0 x1
       repeat ((first | (refine run_off rfl rfl (by rfl) ?_) | (refine run_chain_off rfl rfl (by rfl) (K0_mono _) ?_) | ((refine run_want rfl rfl (by rfl) ⟨?_, fun W hW => ?_, ?_⟩; rotate_left; (· (have d0 := hW.kc x0; have d1 := hW.kc x1; have d2 := hW.kc b1; go_simp; (try with_reducible rfl)))))); (try simp only [Act.put, zA, zB, zC]))
       clear x0 x1 b1
       refine run_chain rfl rfl (by rfl) (fun Wi hWi K' hK => ?_)
       have HTi := zH (HT.out.trans hWi)
       clear hWi HT
       go_simp
       refine (gale.within_any _ _ _ _).mono ?_
       rintro e wn ⟨rfl, rfl⟩
       rw [w1]
       have HT := HTi
       clear HTi
       refine hK _ _ (StepX.refl _ _) ?_
       (try simp only [Act.put, zA, zB, zC])
       have x0 := (HB3.out.step HT.out).cell 0
       have x1 := (HB3.out.step HT.out).cell 1
       have b1 := HT.out.kc HBC.out
       simp only [zD, zE] at x0 x1
       repeat ((first | (refine run_off rfl rfl (by rfl) ?_) | (refine run_chain_off rfl rfl (by rfl) (K0_mono _) ?_) | ((refine run_want rfl rfl (by rfl) ⟨?_, fun W hW => ?_, ?_⟩; rotate_left; (· (have d0 := hW.kc x0; have d1 := hW.kc x1; have d2 := hW.kc b1; go_simp; (try with_reducible rfl)))))); (try simp only [Act.put, zA, zB, zC]))
       clear x0 x1 b1
       refine run_chain rfl rfl (by rfl) (fun Wi hWi K' hK => ?_)
       have HTi := zH (HT.out.trans hWi)
       clear hWi HT
       go_simp
       refine (gale.within_any _ _ _ _).mono ?_
       rintro e wn ⟨rfl, rfl⟩
       rw [w2]
       have HT := HTi
       clear HTi
       refine hK _ _ (StepX.refl _ _) ?_
       (try simp only [Act.put, zA, zB, zC])
       have g1 := HT.out.kc HG.out.1
       have g2 := HT.out.kc HG.out.2
       have x0 := (HB3.out.step HT.out).cell 0
       have x1 := (HB3.out.step HT.out).cell 1
       have b1 := HT.out.kc HBC.out
       simp only [zD, zE] at x0 x1
       repeat ((first | (refine run_off rfl rfl (by rfl) ?_) | (refine run_chain_off rfl rfl (by rfl) (K0_mono _) ?_) | ((refine run_want rfl rfl (by rfl) ⟨?_, fun W hW => ?_, ?_⟩; rotate_left; (· (have d0 := hW.kc x0; have d1 := hW.kc x1; have d2 := hW.kc b1; have d3 := hW.kc g1; have d4 := hW.kc g2; go_simp; (try with_reducible rfl)))))); (try simp only [Act.put, zA, zB, zC]))
       clear x0 x1 b1
       clear g1 g2 w1 w2
       refine run_end (L := []) rfl (fun W6 hW6 => ?_)
       have HT6 := zH (HT.out.trans hW6)
       clear hW6 HT
       have HT := HT6
       clear HT6
       go_wp2
       go_ret
       exact ⟨by rw [HR.out]; rfl, HS.out.trans (HTR.out.trans (HS3.out.trans HT.out))⟩
      have d1 : decide (yu ≤ xu) = false := decide_eq_false c1
      have HLV := zH (show stageB s.stages (j + 1 + 1 - 1) = true by (show stageB s.stages (j + 1) = true); rw [HLC.out, decide_eq_true (show xu < yu by omega)])
      clear c1
      refine wp_region_seq (kdOf [2, 7] []) (0 :: 1 :: 3 :: 7 :: 15 :: 31 :: 63 :: 127 :: 255 :: 511 :: 1023 :: 2047 :: 4095 :: 8191 :: 16383 :: 32767 :: 16383 :: 81919 :: 16383 :: 278527 :: 999423 :: 2047999 :: 4145151 :: 8388607 :: 16777215 :: 33554431 :: []) (0 :: 1 :: 2 :: 3 :: 4 :: 5 :: 6 :: 7 :: 8 :: 9 :: 10 :: 11 :: 12 :: 13 :: 14 :: 15 :: 16 :: 17 :: 18 :: 19 :: 20 :: 21 :: 22 :: 23 :: 24 :: 25 :: []) [] (by kernel_rfl) (by kernel_rfl) (fun i T z hi hk => by simp [kdOf] at hk <;> (try (split at hk <;> cases hk))) ?_
      intro Wx hWx
      have HTx := zH (HT.out.trans hWx)
      clear hWx HT
      have HT := HTx
      clear HTx
      have x0 := (HB3.out.step HT.out).cell 0
      have x1 := (HB3.out.step HT.out).cell 1
      have b1 := HT.out.kc HBC.out
      simp only [zD, zE] at x0 x1
      repeat ((first | (refine run_off rfl rfl (by rfl) ?_) | (refine run_chain_off rfl rfl (by rfl) (K0_mono _) ?_) | ((refine run_want rfl rfl (by rfl) ⟨?_, fun W hW => ?_, ?_⟩; rotate_left; (· (have d0 := hW.kc x0; have d1 := hW.kc x1; have d2 := hW.kc b1; go_simp; (try with_reducible rfl)))))); (try simp only [Act.put, zA, zB, zC]))
      clear x0 x1 b1
      refine run_chain rfl rfl (by rfl) (fun Wi hWi K' hK => ?_)
      have HTi := zH (HT.out.trans hWi)
      clear hWi HT
      go_simp
      refine (gale.within_any _ _ _ _).mono ?_
      rintro e wn ⟨rfl, rfl⟩
      rw [w1]
      have HT := HTi
      clear HTi
      refine hK _ _ (StepX.refl _ _) ?_
      (try simp only [Act.put, zA, zB, zC])
      have x0 := (HB3.out.step HT.out).cell 0
      have x1 := (HB3.out.step HT.out).cell 1
      have b1 := HT.out.kc HBC.out
      simp only [zD, zE] at x0 x1
      repeat ((first | (refine run_off rfl rfl (by rfl) ?_) | (refine run_chain_off rfl rfl (by rfl) (K0_mono _) ?_) | ((refine run_want rfl rfl (by rfl) ⟨?_, fun W hW => ?_, ?_⟩; rotate_left; (· (have d0 := hW.kc x0; have d1 := hW.kc x1; have d2 := hW.kc b1; go_simp; (try with_reducible rfl)))))); (try simp only [Act.put, zA, zB, zC]))
      clear x0 x1 b1
      refine run_chain rfl rfl (by rfl) (fun Wi hWi K' hK => ?_)
      have HTi := zH (HT.out.trans hWi)
      clear hWi HT
      go_simp
      refine (gale.within_any _ _ _ _).mono ?_
      rintro e wn ⟨rfl, rfl⟩
      rw [w2]
      have HT := HTi
      clear HTi
      refine hK _ _ (StepX.refl _ _) ?_
      (try simp only [Act.put, zA, zB, zC])
      have g1 := HT.out.kc HG.out.1
      have g2 := HT.out.kc HG.out.2
      have x0 := (HB3.out.step HT.out).cell 0
      have x1 := (HB3.out.step HT.out).cell 1
      have b1 := HT.out.kc HBC.out
      simp only [zD, zE] at x0 x1
      repeat ((first | (refine run_off rfl rfl (by rfl) ?_) | (refine run_chain_off rfl rfl (by rfl) (K0_mono _) ?_) | ((refine run_want rfl rfl (by rfl) ⟨?_, fun W hW => ?_, ?_⟩; rotate_left; (· (have d0 := hW.kc x0; have d1 := hW.kc x1; have d2 := hW.kc b1; have d3 := hW.kc g1; have d4 := hW.kc g2; go_simp; (try with_reducible rfl)))))); (try simp only [Act.put, zA, zB, zC]))
      clear x0 x1 b1
      clear g1 g2 w1 w2
      refine run_end (L := []) rfl (fun W6 hW6 => ?_)
      have HT6 := zH (HT.out.trans hW6)
      clear hW6 HT
      have HT := HT6
      clear HT6
      go_wp2
      go_roundw
      case rel => exact ⟨j + 1 + 1, by omega, by go_num, fun i hi hl => if e : i + 1 = j + 1 + 1 then by (obtain rfl : i = j + 1 + 1 - 1 := by omega); exact HLV.out else HA.out i (by omega) hl, HTR.out.trans (HS3.out.trans HT.out)⟩
      case measure => simp [intOf]; omega
    ·have HT := HTR
     clear HTR
     have HST0 := zH (show (List.range (s.stages.length - 1)).all (stageB s.stages) = true by
      rw [List.all_eq_true]
      intro i hi
      rw [List.mem_range] at hi
      exact HA.out i (by have := HM.out.1; omega) (by omega))
     clear HA
     obtain ⟨q1, d1, bb', oo', he, _, _, hp, hc, hbl⟩ := (SL.go HV2.out HT.out).stgs
     injection he with he1 _ he3
     subst he3
     have hpp := hp (by have := HM.out; omega)
     rw [hpp] at he1
     injection he1 with he1
     injection he1 with he4 he5 _
     subst he4 he5
     have hL := HM.out.1
     obtain ⟨e1, e2⟩ := hc m (by omega)
     have HLA := zH (show siteB s = (decide (s.stages[m]'(by omega) = ⟨0, 0⟩) && withinB s.openS 0 ((m : Int) - 1)) by
      unfold siteB
      rw [HQ.out.1, HQ.out.2.1, HQ.out.2.2.1, HQ.out.2.2.2, HLV0.out, HST0.out, show s.stages.length - 1 = m by omega, List.getElem?_eq_getElem (by omega), show (s.stages.length : Int) - 2 = (m : Int) - 1 by omega]
      simp)
     obtain ⟨z, hz⟩ : ∃ z, z = s.stages[m]'(by omega) := ⟨_, rfl⟩
     rw [← hz] at e1 e2 HLA
     obtain ⟨za, zb⟩ := z
     dsimp only at e1 e2
     have b2 := (HB.out.step HT.out).cell 2
     have b3 := (HB.out.step HT.out).cell 3
     simp only [zD, zE] at b2 b3
     rw [hL] at b2
     have hwo : IntKind.i64.wrap ((m : Int) - 1) = (m : Int) - 1 := by rw [IntKind.wrap_i64]; omega
     clear hp hpp hc hbl hz hL
     by_cases ha : za = 0
     rotate_left
     ·have dz : (za == 0) = false := by simpa using ha
      have dv : veq za zb 0 0 = false := by unfold veq; rw [dz]; rfl
      have HR := zH (show siteB s = false by
       rw [HLA.out, decide_eq_false (fun h => ha (by injection h))]; rfl)
      clear ha
      go_wp2
      go_ret
      exact ⟨by rw [HR.out]; rfl, HS.out.trans HT.out⟩
     by_cases hb : zb = 0
     rotate_left
     ·subst ha
      have dz : (zb == 0) = false := by simpa using hb
      have dv : veq 0 zb 0 0 = false := by unfold veq; rw [dz]; rfl
      have HR := zH (show siteB s = false by
       rw [HLA.out, decide_eq_false (fun h => hb (by injection h))]; rfl)
      clear hb
      go_wp2
      go_ret
      exact ⟨by rw [HR.out]; rfl, HS.out.trans HT.out⟩
     subst ha hb
     have HR := zH (show siteB s = withinB s.openS 0 ((m : Int) - 1) by rw [HLA.out]; rfl)
     go_wp2_with fail
     refine (gale.within_any _ _ _ _).mono ?_
     rintro e wx ⟨rfl, rfl⟩
     go_wp2
     go_ret
     exact ⟨by rw [HR.out]; rfl, HS.out.trans HT.out⟩
end Go.Proofs.Ytfhmdpicoccnfaa
namespace Go.Proofs.Ytfhmdpicoccnfaa
set_option linter.unusedSimpArgs false
set_option linter.unusedVariables false
open Go.RowKit Go.BT
theorem planC_site {s : Site} {limits worst : List Int} {now out : Int} (h : siteB s = false) : planC s limits worst now out = 1 := by
 unfold planC; rw [if_neg (by rw [h]; decide)]
theorem planC_asked {s : Site} {limits worst : List Int} {now out : Int} (h : siteB s = true) (h2 : askedB s limits worst now out = false) : planC s limits worst now out = 2 := by
 unfold planC; rw [if_pos h, if_neg (by rw [h2]; decide)]
theorem planE {s : Site} {limits worst : List Int} {now out c : Int} (h : planC s limits worst now out = c) (hc : c ≠ 0) : planB s limits worst now out = [] ∧ planCall s limits worst now out = 0 := by
 unfold planB planCall; rw [h, if_neg hc, if_neg hc]; exact ⟨rfl, rfl⟩
def PlanEnds (s : Site) (limits worst : List Int) (now out : Int) (e : Ending) (w' : World) : Prop := ∃ v', e = .returned (.tuple #[v', .int .i64 (planCall s limits worst now out), .int .i64 (planC s limits worst now out)]) ∧ SL (fun _ => False) w' v' (planB s limits worst now out)
theorem planEnds_err {s : Site} {limits worst : List Int} {now out c : Int} {w : World} (h : planC s limits worst now out = c) (hc : c ≠ 0) : PlanEnds s limits worst now out (.returned (.tuple #[.slice none 0 0, .int .i64 0, .int .i64 c])) w := by
 obtain ⟨a, b⟩ := planE h hc
 exact ⟨_, by rw [b, h], by rw [a]; exact SL.nil _ _⟩
theorem PlanG_any (s : Site) (limits worst : List Int) (now out : Int) (u v x : Value) (w : World) (hu : AV (fun _ => False) w u s) (hv : SL (fun _ => False) w v limits) (hx : SL (fun _ => False) w x worst) :
  Calls Try.prog 26 #[u, v, x, .int .i64 now, .int .i64 out] w fun e w' => PlanEnds s limits worst now out e w' ∧ Step w w' := by
 by_cases hok : siteB s = true ∧ askedB s limits worst now out = true
 ·obtain ⟨hs, ha⟩ := hok
  have hc : planC s limits worst now out = match planR s limits worst now out with | none => 11 | some _ => 0 := by
   unfold planC; rw [if_pos hs, if_pos ha]
   cases planR s limits worst now out <;> rfl
  have ha2 := ha
  simp only [askedB, Bool.and_eq_true] at ha2
  obtain ⟨⟨⟨a1, a2⟩, a3⟩, a4⟩ := ha2
  have so := (site_ok hs).nst
  have b3 : 0 ≤ now ∧ now ≤ (s.stages.length : Int) - 1 := by simpa [withinB] using a3
  have b4 : 0 ≤ out ∧ out ≤ 60 := by simpa [withinB] using a4
  obtain ⟨n, rfl⟩ : ∃ n : Nat, now = n := ⟨now.toNat, by omega⟩
  refine (Plan_ok s limits worst n out u v x w hu hv hx hs a1 a2 (by omega) b4).mono ?_
  rintro e w' ⟨h, hS⟩
  refine ⟨?_, hS⟩
  rcases h with ⟨hr, rfl⟩ | ⟨st, v', hr, rfl, hv'⟩
  ·rw [hr] at hc
   exact planEnds_err hc (by decide)
  ·rw [hr] at hc
   have hc0 : planC s limits worst n out = 0 := hc
   refine ⟨v', ?_, ?_⟩
   ·unfold planCall; rw [if_pos hc0, hr, hc0]
   ·unfold planB; rw [if_pos hc0, hr]; exact hv'
 obtain ⟨c0, c1, c2, rfl, q0, q1, q2⟩ := hu.site
 have hm2 := q2.len
 have hmx := hx.len
 obtain ⟨p1, k1, rfl⟩ := q1.form
 obtain ⟨p2, k2, rfl⟩ := q2.form
 obtain ⟨p0, k0, rfl⟩ := q0.form
 obtain ⟨pv, cv, rfl⟩ := hv.form
 obtain ⟨px, cx, rfl⟩ := hx.form
 obtain ⟨W0, hW0⟩ : ∃ W, W = (w.alloc (.cells #[.slice p0 s.base.length k0, .slice p1 s.levels.length k1, .slice p2 s.stages.length k2, .int .i64 s.openS] 63)).alloc (.cells #[.slice pv limits.length cv] 26) := ⟨_, rfl⟩
 have hbx : Bx W0 w.heap.size [.slice p0 s.base.length k0, .slice p1 s.levels.length k1, .slice p2 s.stages.length k2, .int .i64 s.openS] 63 := by subst hW0; exact (Bx.new w [_, _, _, _] _).step (Step.alloc _ _)
 have hbl : Bx W0 (w.heap.size + 1) [.slice pv limits.length cv] 26 := by subst hW0; exact Bx.new' _ [_] _ _ (by simp)
 have hS : Step w W0 := by subst hW0; exact (by with_reducible repeat (first | assumption | exact Step.refl _ | apply Step.s_alloc | apply Step.s_drew | apply Step.s_drewN | refine Step.trans ?_ (by assumption)))
 have HW := zH hW0
 have HB := zH hbx
 have HBL := zH hbl
 have HS := zH hS
 have HV := zH (SL.go hv hS)
 have HX := zH (SL.go hx hS)
 have HAV := zH (AV.go hu hS)
 have HT := zH (Step.refl W0)
 have HNO := zH hok
 clear hW0 hbx hbl hS hu hv hx q0 q1 q2 hok
 go_enter Try.func26, Try.ntmps26
 go_upto_region 1 with (fail)
 rw [← HW.out]
 have g0 := (HB.out.step HT.out).cell 0
 have g1 := (HB.out.step HT.out).cell 1
 have g2 := (HB.out.step HT.out).cell 2
 have g3 := (HB.out.step HT.out).cell 3
 simp only [zD, zE] at g0 g1 g2 g3
 have hcall := zH (siteValid_any s _ _ (AV.go HAV.out HT.out))
 go_wp2_with fail
 refine hcall.out.mono ?_
 clear hcall
 rintro e wn ⟨rfl, hSn⟩
 have HTi := zH (HT.out.trans hSn)
 clear hSn HT
 have HT := HTi
 clear HTi
 clear g0 g1 g2 g3
 cases hs : siteB s with
 | false =>
  have HR := zH (fun w => planEnds_err (w := w) (planC_site (limits := limits) (worst := worst) (now := now) (out := out) hs) (by decide))
  clear hs
  go_wp2
  go_ret3
  exact ⟨HR.out _, HS.out.trans HT.out⟩
 | true =>
 have HSB := zH hs
 have HN := zH (site_ok hs).nst
 clear hs
 have HER := zH (fun (h : askedB s limits worst now out = false) (w : World) => planEnds_err (w := w) (planC_asked HSB.out h) (by decide))
 have HNA := zH (show askedB s limits worst now out = false by
  rw [Bool.eq_false_iff]; exact fun q => HNO.out ⟨HSB.out, q⟩)
 have HAS := zH (show askedB s limits worst now out = (limitedB s limits && windsB worst && withinB now 0 ((s.stages.length : Int) - 1) && withinB out 0 60) from rfl)
 have g0 := (HB.out.step HT.out).cell 0
 have g1 := (HB.out.step HT.out).cell 1
 have g2 := (HB.out.step HT.out).cell 2
 have g3 := (HB.out.step HT.out).cell 3
 have l0 := (HBL.out.step HT.out).cell 0
 simp only [zD, zE] at g0 g1 g2 g3 l0
 have hcall := zH (limitedG_any s limits _ _ _ (AV.go HAV.out HT.out) (SL.go HV.out HT.out) (by have := HN.out; omega))
 go_wp2_with fail
 refine hcall.out.mono ?_
 clear hcall
 rintro e wn ⟨rfl, hSn⟩
 have HTi := zH (HT.out.trans hSn)
 clear hSn HT
 have HT := HTi
 clear HTi
 clear g0 g1 g2 g3 l0
 cases q1 : limitedB s limits with
 | false =>
  clear q1
  go_wp2
  go_ret3
  exact ⟨HER.out HNA.out _, HS.out.trans HT.out⟩
 | true =>
 have HQ1 := zH q1
 clear q1
 go_wp2_with fail
 refine (gale.within_any _ _ _ _).mono ?_
 rintro e wx ⟨rfl, rfl⟩
 cases q2 : withinB (worst.length : Int) 1 48 with
 | false =>
  clear q2
  go_wp2
  go_ret3
  exact ⟨HER.out HNA.out _, HS.out.trans HT.out⟩
 | true =>
 have HQ2 := zH q2
 clear q2
 have hcall := zH (all_plan1 worst _ _ (SL.go HX.out HT.out))
 go_wp2_with fail
 refine hcall.out.mono ?_
 clear hcall
 rintro e wn ⟨rfl, hSn⟩
 have HTi := zH (HT.out.trans hSn)
 clear hSn HT
 have HT := HTi
 clear HTi
 cases q3 : (worst.all fun n => withinB n 0 1000) with
 | false =>
  clear q3
  go_wp2
  go_ret3
  exact ⟨HER.out HNA.out _, HS.out.trans HT.out⟩
 | true =>
 have HQ3 := zH q3
 clear q3
 have g2 := (HB.out.step HT.out).cell 2
 simp only [zD, zE] at g2
 have hwl : IntKind.i64.wrap ((s.stages.length : Int) - 1) = (s.stages.length : Int) - 1 := by have := HN.out; rw [IntKind.wrap_i64]; omega
 go_wp2_with fail
 refine (gale.within_any _ _ _ _).mono ?_
 rintro e wx ⟨rfl, rfl⟩
 cases q4 : withinB now 0 ((s.stages.length : Int) - 1) with
 | false =>
  clear q4
  go_wp2
  go_ret3
  exact ⟨HER.out HNA.out _, HS.out.trans HT.out⟩
 | true =>
 go_wp2_with fail
 refine (gale.within_any _ _ _ _).mono ?_
 rintro e wx ⟨rfl, rfl⟩
 cases q5 : withinB out 0 60 with
 | false =>
  clear q4 q5
  go_wp2
  go_ret3
  exact ⟨HER.out HNA.out _, HS.out.trans HT.out⟩
 | true =>
 exfalso
 have hw : windsB worst = true := by
  have h1 := HQ2.out
  simp only [withinB, Bool.and_eq_true, decide_eq_true_eq] at h1
  unfold windsB
  rw [HQ3.out, decide_eq_true (by omega), decide_eq_true (by omega)]; rfl
 have := HNA.out
 rw [HAS.out, HQ1.out, hw, q4, q5] at this
 exact absurd this (by decide)
end Go.Proofs.Ytfhmdpicoccnfaa
namespace Go.BT
def smallB (s : Site) : Bool := decide (s.base.length ≤ 15) && decide (s.levels.length ≤ 15) && decide (s.stages.length ≤ 15)
def limAt (l : List Int) (i : Nat) : Bool := withinB (l.getD i 0) (-1) 1000 && (match i with | 0 => true | j + 1 => decide (l.getD j 0 ≤ l.getD i 0))
theorem limAt_all (l : List Int) : (List.range l.length).all (limAt l) = (l.all (fun n => withinB n (-1) 1000) && sortedB l) := by
 rw [Bool.eq_iff_iff, Bool.and_eq_true, List.all_eq_true, List.all_eq_true, sorted_iff]
 constructor
 ·intro h
  refine ⟨fun x hx => ?_, fun j hj => ?_⟩
  ·obtain ⟨j, hj, rfl⟩ := List.getElem_of_mem hx
   have := h j (List.mem_range.2 hj)
   simp only [limAt, Bool.and_eq_true, List.getD_eq_getElem?_getD, List.getElem?_eq_getElem hj, Option.getD_some] at this
   exact this.1
  ·have := h (j + 1) (List.mem_range.2 hj)
   simp only [limAt, Bool.and_eq_true, decide_eq_true_eq, List.getD_eq_getElem?_getD, List.getElem?_eq_getElem hj, List.getElem?_eq_getElem (show j < l.length by omega), Option.getD_some] at this
   exact this.2
 ·rintro ⟨h1, h2⟩ i hi
  rw [List.mem_range] at hi
  unfold limAt
  rw [List.getD_eq_getElem?_getD, List.getElem?_eq_getElem hi, Option.getD_some, h1 _ (List.getElem_mem hi), Bool.true_and]
  cases i with
  | zero => rfl
  | succ j =>
   have := h2 j hi
   simp only [decide_eq_true_eq, List.getD_eq_getElem?_getD, List.getElem?_eq_getElem (show j < l.length by omega), Option.getD_some]
   exact this
theorem limited_ref (s : Site) (l : List Int) : limitedB s l = ((List.range l.length).all (limAt l) && (decide (l.length = s.stages.length) && decide (l.getD (l.length - 1) 0 = 1000))) := by
 rw [limited_is, limAt_all]
 cases decide (l.length = s.stages.length) <;> simp
theorem limAt_no {s : Site} {l : List Int} {i : Nat} (hi : i < l.length) (h : limAt l i = false) : limitedB s l = false := by
 have : (List.range l.length).all (limAt l) = false := by rw [List.all_eq_false]; exact ⟨i, List.mem_range.2 hi, by rw [h]; decide⟩
 rw [limited_ref, this]; rfl
theorem winds_no {l : List Int} {i : Nat} (hi : i < l.length) (h : withinB l[i] 0 1000 = false) : windsB l = false := by
 have : (l.all fun n => withinB n 0 1000) = false := by rw [List.all_eq_false]; exact ⟨_, List.getElem_mem hi, by rw [h]; decide⟩
 unfold windsB; rw [this]; simp
theorem deadI_at {worst : List Int} {lim : Int} {k : Nat} (hk : k < worst.length) (h : ∀ j (hj : j < k), worst[j]'(by omega) ≤ lim) (h2 : lim < worst[k]) : deadI worst lim = some k := by
 unfold deadI
 rw [List.findIdx?_eq_some_iff_getElem]
 exact ⟨hk, by simpa using h2, fun j hj => by have := h j hj; simp; omega⟩
theorem deadI_no {worst : List Int} {lim : Int} (h : ∀ j (hj : j < worst.length), worst[j] ≤ lim) : deadI worst lim = none := by
 unfold deadI
 rw [List.findIdx?_eq_none_iff]
 intro x hx
 obtain ⟨j, hj, rfl⟩ := List.getElem_of_mem hx
 have := h j hj
 simp; omega
end Go.BT
namespace Go.Proofs.Ytfhmdpicoccnfaa
set_option linter.unusedSimpArgs false
set_option linter.unusedVariables false
open Go.RowKit Go.BT
theorem smallSite_any (S : Nat → Prop) (s : Site) (v : Value) (w : World) (hv : AV S w v s) :
  Calls Try.prog 25 #[v] w fun e w' => e = .returned (.bool (smallB s)) ∧ Step w w' := by
 obtain ⟨c0, c1, c2, rfl, h0, h1, h2⟩ := hv.site
 obtain ⟨p0, k0, rfl⟩ := h0.form
 obtain ⟨p1, k1, rfl⟩ := h1.form
 obtain ⟨p2, k2, rfl⟩ := h2.form
 by_cases q0 : s.base.length ≤ 15
 rotate_left
 ·have d0 : decide ((s.base.length : Int) ≤ 15) = false := decide_eq_false (by omega)
  have d1 : smallB s = false := by unfold smallB; rw [decide_eq_false q0]; rfl
  have HD := zH d1
  clear d1
  go_enter Try.func25, Try.ntmps25
  go_wp2
  go_ret
  exact ⟨by rw [HD.out]; rfl, Step.alloc _ _⟩
 have d0 : decide ((s.base.length : Int) ≤ 15) = true := decide_eq_true (by omega)
 by_cases q1 : s.levels.length ≤ 15
 rotate_left
 ·have d2 : decide ((s.levels.length : Int) ≤ 15) = false := decide_eq_false (by omega)
  have d1 : smallB s = false := by unfold smallB; rw [decide_eq_false q1]; simp
  have HD := zH d1
  clear d1
  go_enter Try.func25, Try.ntmps25
  go_wp2
  go_ret
  exact ⟨by rw [HD.out]; rfl, Step.alloc _ _⟩
 have d2 : decide ((s.levels.length : Int) ≤ 15) = true := decide_eq_true (by omega)
 by_cases q2 : s.stages.length ≤ 15
 rotate_left
 ·have d3 : decide ((s.stages.length : Int) ≤ 15) = false := decide_eq_false (by omega)
  have d1 : smallB s = false := by unfold smallB; rw [decide_eq_false q2]; simp
  have HD := zH d1
  clear d1
  go_enter Try.func25, Try.ntmps25
  go_wp2
  go_ret
  exact ⟨by rw [HD.out]; rfl, Step.alloc _ _⟩
 have d3 : decide ((s.stages.length : Int) ≤ 15) = true := decide_eq_true (by omega)
 have d1 : smallB s = true := by unfold smallB; rw [decide_eq_true q0, decide_eq_true q1, decide_eq_true q2]; rfl
 have HD := zH d1
 clear d1
 go_enter Try.func25, Try.ntmps25
 go_wp2
 go_ret
 exact ⟨by rw [HD.out]; rfl, Step.alloc _ _⟩
theorem RWinds_any (l : List Int) (v : Value) (w : World) (hv : SL (fun _ => False) w v l) :
  Calls Try.prog 30 #[v] w fun e w' => e = .returned (.bool (windsB l)) ∧ Step w w' := by
 have hm := hv.len
 obtain ⟨pv, cv, bv, ov, rfl, _, _, hp, hc, _⟩ := hv.ints
 have HC := zH hc
 have HP := zH hp
 clear hv hp hc
 go_enter Try.func30, Try.ntmps30
 go_wp2
 go_loopw [3] (fun i wr => ∃ k : Nat, k ≤ l.length ∧ i = .int .i64 k ∧ (∀ j (hj : j < k) (hl : j < l.length), withinB l[j] 0 1000 = true) ∧ Step w wr) (fun i _ => l.length - (intOf i).toNat)
 case atStart => exact ⟨0, Nat.zero_le _, rfl, fun j hj => absurd hj (by omega), Step.refl _⟩
 case round =>
  obtain ⟨k, hk, rfl, hall, hT⟩ := hrel
  have HA := zH hall
  have HTT := zH hT
  clear hall hT
  by_cases hlt : k < l.length
  ·obtain rfl := HP.out (by omega)
   have e0 := HTT.out.kc (HC.out k hlt)
   have hix : (0 : Int) ≤ (k : Int) ∧ (k : Int) < (l.length : Int) := by omega
   have HNO := zH (fun (h : withinB l[k] 0 1000 = false) => winds_no hlt h)
   obtain ⟨x, hx⟩ : ∃ x, x = l[k] := ⟨_, rfl⟩
   rw [← hx] at e0 HNO
   have HX := zH hx
   clear hx
   go_wp2_with fail
   refine (bigtopref01.In_any _ _ _ _).mono ?_
   rintro e wn ⟨rfl, rfl⟩
   cases q : withinB x 0 1000 with
   | false =>
    have HR := zH (HNO.out q)
    clear q
    go_wp2
    go_ret
    exact ⟨by rw [HR.out]; rfl, HTT.out⟩
   | true =>
    have HQ := zH q
    clear q
    go_wp2
    go_roundw
    case rel => exact ⟨k + 1, by omega, by go_num, fun j hj hl => if e : j = k then by subst e; rw [← HX.out]; exact HQ.out else HA.out j (by omega) hl, HTT.out⟩
    case measure => simp [intOf]; omega
  ·have HAL := zH (show (l.all fun n => withinB n 0 1000) = true by
    rw [List.all_eq_true]
    intro f hf
    obtain ⟨j, hj, rfl⟩ := List.getElem_of_mem hf
    exact HA.out j (by omega) hj)
   by_cases q1 : 1 ≤ l.length
   rotate_left
   ·have d1 : decide ((1 : Int) ≤ (l.length : Int)) = false := decide_eq_false (by omega)
    have d1n : decide (1 ≤ l.length) = false := decide_eq_false (by omega)
    have HR := zH (show windsB l = false by unfold windsB; rw [d1n]; rfl)
    clear q1
    go_wp2
    go_ret
    exact ⟨by rw [HR.out]; rfl, HTT.out⟩
   have d1 : decide ((1 : Int) ≤ (l.length : Int)) = true := decide_eq_true (by omega)
   have d1n : decide (1 ≤ l.length) = true := decide_eq_true (by omega)
   by_cases q2 : l.length ≤ 48
   ·have d2 : decide ((l.length : Int) ≤ 48) = true := decide_eq_true (by omega)
    have d2n : decide (l.length ≤ 48) = true := decide_eq_true (by omega)
    have HR := zH (show windsB l = true by unfold windsB; rw [d1n, d2n, HAL.out]; rfl)
    clear q1 q2
    go_wp2
    go_ret
    exact ⟨by rw [HR.out]; rfl, HTT.out⟩
   ·have d2 : decide ((l.length : Int) ≤ 48) = false := decide_eq_false (by omega)
    have d2n : decide (l.length ≤ 48) = false := decide_eq_false (by omega)
    have HR := zH (show windsB l = false by unfold windsB; rw [d1n, d2n]; rfl)
    clear q1 q2
    go_wp2
    go_ret
    exact ⟨by rw [HR.out]; rfl, HTT.out⟩
theorem RDeadline_any (lim : Int) (l : List Int) (v : Value) (w : World) (hv : SL (fun _ => False) w v l) (hw : l.length ≤ 1000) :
  Calls Try.prog 71 #[.int .i64 lim, v] w fun e w' => e = .returned (.int .i64 (deadR l lim)) ∧ Step w w' := by
 obtain ⟨pv, cv, bv, ov, rfl, _, _, hp, hc, _⟩ := hv.ints
 have HC := zH hc
 have HP := zH hp
 clear hv hp hc
 go_enter Try.func71, Try.ntmps71
 go_wp2
 go_loopw [5] (fun i wr => ∃ k : Nat, k ≤ l.length ∧ i = .int .i64 k ∧ (∀ j (hj : j < k) (hl : j < l.length), l[j] ≤ lim) ∧ Step w wr) (fun i _ => l.length - (intOf i).toNat)
 case atStart => exact ⟨0, Nat.zero_le _, rfl, fun j hj => absurd hj (by omega), Step.refl _⟩
 case round =>
  obtain ⟨k, hk, rfl, hall, hT⟩ := hrel
  have HA := zH hall
  have HTT := zH hT
  clear hall hT
  by_cases hlt : k < l.length
  ·obtain rfl := HP.out (by omega)
   have e0 := HTT.out.kc (HC.out k hlt)
   have hix : (0 : Int) ≤ (k : Int) ∧ (k : Int) < (l.length : Int) := by omega
   have HYES := zH (fun (h : lim < l[k]) => deadR_some (deadI_at hlt (fun j hj => HA.out j hj (by omega)) h))
   obtain ⟨x, hx⟩ : ∃ x, x = l[k] := ⟨_, rfl⟩
   rw [← hx] at e0 HYES
   have HX := zH hx
   clear hx
   by_cases q : lim < x
   ·have d0 : decide (lim < x) = true := decide_eq_true q
    have HR := zH (HYES.out q)
    have hw60 : IntKind.i64.wrap (60 * (k : Int)) = 60 * (k : Int) := by rw [IntKind.wrap_i64]; omega
    clear q
    go_wp2
    go_ret
    exact ⟨by rw [HR.out]; rfl, HTT.out⟩
   ·have d0 : decide (lim < x) = false := decide_eq_false q
    have HQ := zH (show x ≤ lim by omega)
    clear q
    go_wp2
    go_roundw
    case rel => exact ⟨k + 1, by omega, by go_num, fun j hj hl => if e : j = k then by subst e; rw [← HX.out]; exact HQ.out else HA.out j (by omega) hl, HTT.out⟩
    case measure => simp [intOf]; omega
  ·have HR := zH (deadR_none (deadI_no (worst := l) (lim := lim) (fun j hj => HA.out j (by omega) hj)))
   go_wp2
   go_ret
   exact ⟨by rw [HR.out]; rfl, HTT.out⟩
theorem RLimited_any (s : Site) (l : List Int) (u v : Value) (w : World) (hu : AV (fun _ => False) w u s) (hv : SL (fun _ => False) w v l) (hn : 1 ≤ s.stages.length) (hl : l.length ≤ 1000) :
  Calls Try.prog 29 #[u, v] w fun e w' => e = .returned (.bool (limitedB s l)) ∧ Step w w' := by
 obtain ⟨c0, c1, c2, rfl, q0, q1, q2⟩ := hu.site
 obtain ⟨p1, k1, rfl⟩ := q1.form
 obtain ⟨p2, k2, rfl⟩ := q2.form
 obtain ⟨p0, k0, rfl⟩ := q0.form
 obtain ⟨W0, hW0⟩ : ∃ W, W = w.alloc (.cells #[.slice p0 s.base.length k0, .slice p1 s.levels.length k1, .slice p2 s.stages.length k2, .int .i64 s.openS] 55) := ⟨_, rfl⟩
 have hbx : Bx W0 w.heap.size [.slice p0 s.base.length k0, .slice p1 s.levels.length k1, .slice p2 s.stages.length k2, .int .i64 s.openS] 55 := by subst hW0; exact Bx.new w [_, _, _, _] _
 have hS : Step w W0 := by subst hW0; exact Step.alloc _ _
 have hv0 := SL.go hv hS
 obtain ⟨pv, cv, bv, ov, rfl, _, _, hp, hc, _⟩ := hv0.ints
 have HW := zH hW0
 have HS := zH hS
 have HB := zH hbx
 have HC := zH hc
 have HP := zH hp
 have HN := zH hn
 have HLM := zH hl
 have HLI := zH (limited_ref s l)
 clear hW0 hbx hS hu hv q0 q1 q2 hv0 hp hc hn hl
 go_enter Try.func29, Try.ntmps29
 go_upto_region 1 with (fail)
 rw [← HW.out]
 go_wp2
 go_loopw [5] (fun i wr => ∃ k : Nat, k ≤ l.length ∧ i = .int .i64 k ∧ (∀ j (hj : j < k) (hl : j < l.length), limAt l j = true) ∧ Step W0 wr) (fun i _ => l.length - (intOf i).toNat)
 case atStart => exact ⟨0, Nat.zero_le _, rfl, fun j hj => absurd hj (by omega), Step.refl _⟩
 case round =>
  obtain ⟨k, hk, rfl, hall, hT⟩ := hrel
  have HA := zH hall
  have HTR := zH hT
  clear hall hT
  by_cases hlt : k < l.length
  ·obtain rfl := HP.out (by omega)
   have HE := zH (fun (i : Nat) (hi : i < l.length) => show wr.cell? ⟨bv, ov + i, none⟩ = some (.int .i64 (l.getD i 0)) by
    rw [List.getD_eq_getElem?_getD, List.getElem?_eq_getElem hi]; exact HTR.out.kc (HC.out i hi))
   have HNO := zH (fun (h : limAt l k = false) => limAt_no (s := s) hlt h)
   have hix : (0 : Int) ≤ (k : Int) ∧ (k : Int) < (l.length : Int) := by omega
   go_upto_region 4 with (fail)
   obtain ⟨wo, hwo⟩ : ∃ W, W = wr := ⟨_, rfl⟩
   subst hwo
   have HT := zH (Step.refl wo)
   cases k with
   | zero =>
    have HLA := zH (show limAt l 0 = (withinB (l.getD 0 0) (-1) 1000 && true) from rfl)
    have HE0 := zH (show wo.cell? ⟨bv, ov, none⟩ = some (.int .i64 (l.getD 0 0)) from HE.out 0 hlt)
    have hix0 : (0 : Int) < (l.length : Int) := by omega
    obtain ⟨x, hx⟩ : ∃ x, x = l.getD 0 0 := ⟨_, rfl⟩
    rw [← hx] at HLA HE0
    clear hx HE
    have d0 : decide (0 < ((0 : Nat) : Int)) = false := by decide
    cases w1 : withinB x (-1) 1000 with
    | false =>
     have HR := zH (HNO.out (by rw [HLA.out, w1]; rfl))
     refine wp_region_seq (kdOf [4] []) [0, 0, 3, 7, 15, 31, 63, 127, 255, 511, 1023, 1023, 4095, 8191, 1023, 1023, 33791, 115711, 246783, 524287, 1048575, 2097151] [0, 1, 2, 3, 4, 5, 6, 7, 8, 9, 10, 11, 12, 13, 14, 15, 16, 17, 18, 19, 20, 21] [] (by kernel_rfl) (by kernel_rfl) (fun i T z hi hk => by simp [kdOf] at hk <;> (try (split at hk <;> cases hk))) ?_
     intro Wx hWx
     have HTx := zH (HT.out.trans hWx)
     clear hWx HT
     have HT := HTx
     clear HTx
     have e0 := HT.out.kc HE0.out
     repeat ((first | (refine run_off rfl rfl (by rfl) ?_) | (refine run_chain_off rfl rfl (by rfl) (K0_mono _) ?_) | ((refine run_want rfl rfl (by rfl) ⟨?_, fun W hW => ?_, ?_⟩; rotate_left; (· (have d0 := hW.kc e0; go_simp; (try with_reducible rfl)))))); (try simp only [Act.put, zA, zB, zC]))
     clear e0
     refine run_chain rfl rfl (by rfl) (fun Wi hWi K' hK => ?_)
     have HTi := zH (HT.out.trans hWi)
     clear hWi HT
     go_simp
     refine (bigtopref01.In_any _ _ _ _).mono ?_
     rintro e wn ⟨rfl, rfl⟩
     rw [w1]
     have HT := HTi
     clear HTi
     refine hK _ _ (StepX.refl _ _) ?_
     (try simp only [Act.put, zA, zB, zC])
     clear w1
     repeat ((first | (refine run_off rfl rfl (by rfl) ?_) | (refine run_chain_off rfl rfl (by rfl) (K0_mono _) ?_) | ((refine run_want rfl rfl (by rfl) ⟨?_, fun W hW => ?_, ?_⟩; rotate_left; (· (skip; go_simp; (try with_reducible rfl)))))); (try simp only [Act.put, zA, zB, zC]))
     refine run_end (L := []) rfl (fun W6 hW6 => ?_)
     have HT6 := zH (HT.out.trans hW6)
     clear hW6 HT
     have HT := HT6
     clear HT6
     go_wp2
     go_ret
     exact ⟨by rw [HR.out]; rfl, HS.out.trans (HTR.out.trans HT.out)⟩
    | true =>
     have HLV := zH (show limAt l 0 = true by rw [HLA.out, w1]; rfl)
     refine wp_region_seq (kdOf [4] []) [0, 0, 3, 7, 15, 31, 63, 127, 255, 511, 1023, 1023, 4095, 8191, 1023, 1023, 33791, 115711, 246783, 524287, 1048575, 2097151] [0, 1, 2, 3, 4, 5, 6, 7, 8, 9, 10, 11, 12, 13, 14, 15, 16, 17, 18, 19, 20, 21] [] (by kernel_rfl) (by kernel_rfl) (fun i T z hi hk => by simp [kdOf] at hk <;> (try (split at hk <;> cases hk))) ?_
     intro Wx hWx
     have HTx := zH (HT.out.trans hWx)
     clear hWx HT
     have HT := HTx
     clear HTx
     have e0 := HT.out.kc HE0.out
     repeat ((first | (refine run_off rfl rfl (by rfl) ?_) | (refine run_chain_off rfl rfl (by rfl) (K0_mono _) ?_) | ((refine run_want rfl rfl (by rfl) ⟨?_, fun W hW => ?_, ?_⟩; rotate_left; (· (have d0 := hW.kc e0; go_simp; (try with_reducible rfl)))))); (try simp only [Act.put, zA, zB, zC]))
     clear e0
     refine run_chain rfl rfl (by rfl) (fun Wi hWi K' hK => ?_)
     have HTi := zH (HT.out.trans hWi)
     clear hWi HT
     go_simp
     refine (bigtopref01.In_any _ _ _ _).mono ?_
     rintro e wn ⟨rfl, rfl⟩
     rw [w1]
     have HT := HTi
     clear HTi
     refine hK _ _ (StepX.refl _ _) ?_
     (try simp only [Act.put, zA, zB, zC])
     clear w1
     repeat ((first | (refine run_off rfl rfl (by rfl) ?_) | (refine run_chain_off rfl rfl (by rfl) (K0_mono _) ?_) | ((refine run_want rfl rfl (by rfl) ⟨?_, fun W hW => ?_, ?_⟩; rotate_left; (· (skip; go_simp; (try with_reducible rfl)))))); (try simp only [Act.put, zA, zB, zC]))
     refine run_end (L := []) rfl (fun W6 hW6 => ?_)
     have HT6 := zH (HT.out.trans hW6)
     clear hW6 HT
     have HT := HT6
     clear HT6
     go_wp2
     go_roundw
     case rel => exact ⟨1, by omega, by go_num, fun j hj hl => by (obtain rfl : j = 0 := by omega); exact HLV.out, HTR.out.trans HT.out⟩
     case measure => simp [intOf]; omega
   | succ i =>
    have HLA := zH (show limAt l (i + 1) = (withinB (l.getD (i + 1) 0) (-1) 1000 && decide (l.getD i 0 ≤ l.getD (i + 1) 0)) from rfl)
    have HE0 := zH (HE.out (i + 1) hlt)
    have HE1 := zH (HE.out i (by omega))
    obtain ⟨x, hx⟩ : ∃ x, x = l.getD (i + 1) 0 := ⟨_, rfl⟩
    obtain ⟨y, hy⟩ : ∃ y, y = l.getD i 0 := ⟨_, rfl⟩
    rw [← hx] at HLA HE0
    rw [← hy] at HLA HE1
    clear hx hy HE
    have hjx : (0 : Int) ≤ (i : Int) ∧ (i : Int) < (l.length : Int) := by omega
    have hix2 : (0 : Int) ≤ (i : Int) + 1 ∧ (i : Int) + 1 < (l.length : Int) := by omega
    have htn : ((i : Int) + 1).toNat = i + 1 := by omega
    have hwj : IntKind.i64.wrap (i : Int) = (i : Int) := by have := HLM.out; rw [IntKind.wrap_i64]; omega
    have hd0 : decide ((0 : Int) < ((i + 1 : Nat) : Int)) = true := decide_eq_true (by omega)
    cases w1 : withinB x (-1) 1000 with
    | false =>
     have HR := zH (HNO.out (by rw [HLA.out, w1]; rfl))
     refine wp_region_seq (kdOf [4] []) [0, 0, 3, 7, 15, 31, 63, 127, 255, 511, 1023, 1023, 4095, 8191, 1023, 1023, 33791, 115711, 246783, 524287, 1048575, 2097151] [0, 1, 2, 3, 4, 5, 6, 7, 8, 9, 10, 11, 12, 13, 14, 15, 16, 17, 18, 19, 20, 21] [] (by kernel_rfl) (by kernel_rfl) (fun i T z hi hk => by simp [kdOf] at hk <;> (try (split at hk <;> cases hk))) ?_
     intro Wx hWx
     have HTx := zH (HT.out.trans hWx)
     clear hWx HT
     have HT := HTx
     clear HTx
     have e0 := HT.out.kc HE0.out
     have e1 := HT.out.kc HE1.out
     repeat ((first | (refine run_off rfl rfl (by rfl) ?_) | (refine run_chain_off rfl rfl (by rfl) (K0_mono _) ?_) | ((refine run_want rfl rfl (by rfl) ⟨?_, fun W hW => ?_, ?_⟩; rotate_left; (· (have d0 := hW.kc e0; have d1 := hW.kc e1; go_simp; (try with_reducible rfl)))))); (try simp only [Act.put, zA, zB, zC]))
     clear e0 e1
     refine run_chain rfl rfl (by rfl) (fun Wi hWi K' hK => ?_)
     have HTi := zH (HT.out.trans hWi)
     clear hWi HT
     go_simp
     refine (bigtopref01.In_any _ _ _ _).mono ?_
     rintro e wn ⟨rfl, rfl⟩
     rw [w1]
     have HT := HTi
     clear HTi
     refine hK _ _ (StepX.refl _ _) ?_
     (try simp only [Act.put, zA, zB, zC])
     clear w1
     repeat ((first | (refine run_off rfl rfl (by rfl) ?_) | (refine run_chain_off rfl rfl (by rfl) (K0_mono _) ?_) | ((refine run_want rfl rfl (by rfl) ⟨?_, fun W hW => ?_, ?_⟩; rotate_left; (· (skip; go_simp; (try with_reducible rfl)))))); (try simp only [Act.put, zA, zB, zC]))
     refine run_end (L := []) rfl (fun W6 hW6 => ?_)
     have HT6 := zH (HT.out.trans hW6)
     clear hW6 HT
     have HT := HT6
     clear HT6
     go_wp2
     go_ret
     exact ⟨by rw [HR.out]; rfl, HS.out.trans (HTR.out.trans HT.out)⟩
    | true =>
    by_cases q : x < y
    ·have d1 : decide (x < y) = true := decide_eq_true q
     have HR := zH (HNO.out (by rw [HLA.out, w1, decide_eq_false (by omega)]; rfl))
     clear q
     refine wp_region_seq (kdOf [4] []) [0, 0, 3, 7, 15, 31, 63, 127, 255, 511, 1023, 1023, 4095, 8191, 1023, 1023, 33791, 115711, 246783, 524287, 1048575, 2097151] [0, 1, 2, 3, 4, 5, 6, 7, 8, 9, 10, 11, 12, 13, 14, 15, 16, 17, 18, 19, 20, 21] [] (by kernel_rfl) (by kernel_rfl) (fun i T z hi hk => by simp [kdOf] at hk <;> (try (split at hk <;> cases hk))) ?_
     intro Wx hWx
     have HTx := zH (HT.out.trans hWx)
     clear hWx HT
     have HT := HTx
     clear HTx
     have e0 := HT.out.kc HE0.out
     have e1 := HT.out.kc HE1.out
     repeat ((first | (refine run_off rfl rfl (by rfl) ?_) | (refine run_chain_off rfl rfl (by rfl) (K0_mono _) ?_) | ((refine run_want rfl rfl (by rfl) ⟨?_, fun W hW => ?_, ?_⟩; rotate_left; (· (have d0 := hW.kc e0; have d1 := hW.kc e1; go_simp; (try with_reducible rfl)))))); (try simp only [Act.put, zA, zB, zC]))
     clear e0 e1
     refine run_chain rfl rfl (by rfl) (fun Wi hWi K' hK => ?_)
     have HTi := zH (HT.out.trans hWi)
     clear hWi HT
     go_simp
     refine (bigtopref01.In_any _ _ _ _).mono ?_
     rintro e wn ⟨rfl, rfl⟩
     rw [w1]
     have HT := HTi
     clear HTi
     refine hK _ _ (StepX.refl _ _) ?_
     (try simp only [Act.put, zA, zB, zC])
     clear w1
     have e0 := HT.out.kc HE0.out
     have e1 := HT.out.kc HE1.out
     repeat ((first | (refine run_off rfl rfl (by rfl) ?_) | (refine run_chain_off rfl rfl (by rfl) (K0_mono _) ?_) | ((refine run_want rfl rfl (by rfl) ⟨?_, fun W hW => ?_, ?_⟩; rotate_left; (· (have d0 := hW.kc e0; have d1 := hW.kc e1; go_simp; (try with_reducible rfl)))))); (try simp only [Act.put, zA, zB, zC]))
     clear e0 e1
     refine run_end (L := []) rfl (fun W6 hW6 => ?_)
     have HT6 := zH (HT.out.trans hW6)
     clear hW6 HT
     have HT := HT6
     clear HT6
     go_wp2
     go_ret
     exact ⟨by rw [HR.out]; rfl, HS.out.trans (HTR.out.trans HT.out)⟩
    have d1 : decide (x < y) = false := decide_eq_false q
    have HLV := zH (show limAt l (i + 1) = true by rw [HLA.out, w1, decide_eq_true (by omega)]; rfl)
    clear q
    refine wp_region_seq (kdOf [4] []) [0, 0, 3, 7, 15, 31, 63, 127, 255, 511, 1023, 1023, 4095, 8191, 1023, 1023, 33791, 115711, 246783, 524287, 1048575, 2097151] [0, 1, 2, 3, 4, 5, 6, 7, 8, 9, 10, 11, 12, 13, 14, 15, 16, 17, 18, 19, 20, 21] [] (by kernel_rfl) (by kernel_rfl) (fun i T z hi hk => by simp [kdOf] at hk <;> (try (split at hk <;> cases hk))) ?_
    intro Wx hWx
    have HTx := zH (HT.out.trans hWx)
    clear hWx HT
    have HT := HTx
    clear HTx
    have e0 := HT.out.kc HE0.out
    have e1 := HT.out.kc HE1.out
    repeat ((first | (refine run_off rfl rfl (by rfl) ?_) | (refine run_chain_off rfl rfl (by rfl) (K0_mono _) ?_) | ((refine run_want rfl rfl (by rfl) ⟨?_, fun W hW => ?_, ?_⟩; rotate_left; (· (have d0 := hW.kc e0; have d1 := hW.kc e1; go_simp; (try with_reducible rfl)))))); (try simp only [Act.put, zA, zB, zC]))
    clear e0 e1
    refine run_chain rfl rfl (by rfl) (fun Wi hWi K' hK => ?_)
    have HTi := zH (HT.out.trans hWi)
    clear hWi HT
    go_simp
    refine (bigtopref01.In_any _ _ _ _).mono ?_
    rintro e wn ⟨rfl, rfl⟩
    rw [w1]
    have HT := HTi
    clear HTi
    refine hK _ _ (StepX.refl _ _) ?_
    (try simp only [Act.put, zA, zB, zC])
    clear w1
    have e0 := HT.out.kc HE0.out
    have e1 := HT.out.kc HE1.out
    repeat ((first | (refine run_off rfl rfl (by rfl) ?_) | (refine run_chain_off rfl rfl (by rfl) (K0_mono _) ?_) | ((refine run_want rfl rfl (by rfl) ⟨?_, fun W hW => ?_, ?_⟩; rotate_left; (· (have d0 := hW.kc e0; have d1 := hW.kc e1; go_simp; (try with_reducible rfl)))))); (try simp only [Act.put, zA, zB, zC]))
    clear e0 e1
    refine run_end (L := []) rfl (fun W6 hW6 => ?_)
    have HT6 := zH (HT.out.trans hW6)
    clear hW6 HT
    have HT := HT6
    clear HT6
    go_wp2
    go_roundw
    case rel => exact ⟨i + 1 + 1, by omega, by go_num, fun j hj hl => if e : j = i + 1 then by subst e; exact HLV.out else HA.out j (by omega) hl, HTR.out.trans HT.out⟩
    case measure => simp [intOf]; omega
  ·have HF := zH (show limitedB s l = (decide (l.length = s.stages.length) && decide (l.getD (l.length - 1) 0 = 1000)) by
    have : (List.range l.length).all (limAt l) = true := by
     rw [List.all_eq_true]
     intro i hi
     rw [List.mem_range] at hi
     exact HA.out i (by omega) hi
    rw [HLI.out, this]; rfl)
   have g2 := (HB.out.step HTR.out).cell 2
   simp only [zD, zE] at g2
   by_cases a1 : l.length = s.stages.length
   rotate_left
   ·have hq : ((l.length : Int) == (s.stages.length : Int)) = false := by simp; omega
    have HR := zH (show limitedB s l = false by rw [HF.out, decide_eq_false a1]; rfl)
    clear a1 hk
    go_wp2
    go_ret
    exact ⟨by rw [HR.out]; rfl, HS.out.trans HTR.out⟩
   have hq : ((l.length : Int) == (s.stages.length : Int)) = true := by rw [a1]; simp
   obtain rfl := HP.out (by have := HN.out; omega)
   have hl1 : l.length - 1 < l.length := by have := HN.out; omega
   have e0 := HTR.out.kc (HC.out (l.length - 1) hl1)
   obtain ⟨z, hz⟩ : ∃ z, z = l[l.length - 1] := ⟨_, rfl⟩
   have HR := zH (show limitedB s l = decide (z = 1000) by
    rw [HF.out, decide_eq_true a1, List.getD_eq_getElem?_getD, List.getElem?_eq_getElem hl1, hz]; rfl)
   rw [← hz] at e0
   have hw1 : IntKind.i64.wrap ((l.length : Int) - 1) = (l.length : Int) - 1 := by have := HLM.out; rw [IntKind.wrap_i64]; omega
   have hx2 : (0 : Int) ≤ (l.length : Int) - 1 ∧ (l.length : Int) - 1 < (l.length : Int) := by omega
   have htn : ((l.length : Int) - 1).toNat = l.length - 1 := by omega
   have h1s : (1 : Int) ≤ (l.length : Int) := by omega
   have h1n : 1 ≤ l.length := by omega
   clear hz a1 hl1 hk
   go_wp2
   go_ret
   exact ⟨by rw [HR.out]; rfl, HS.out.trans HTR.out⟩
theorem RPlan_any (s : Site) (limits worst : List Int) (now : Nat) (out : Int) (u v x : Value) (w : World) (hu : AV (fun _ => False) w u s) (hv : SL (fun _ => False) w v limits) (hx : SL (fun _ => False) w x worst) (hs : siteB s = true) (h1 : limitedB s limits = true) (h2 : windsB worst = true) (h3 : now < s.stages.length) (h4 : 0 ≤ out ∧ out ≤ 60) :
  Calls Try.prog 32 #[u, v, x, .int .i64 now, .int .i64 out] w fun e w' => ((planR s limits worst now out = none ∧ e = .returned (.tuple #[.slice none 0 0, .int .i64 0, .bool false])) ∨ ∃ st v', planR s limits worst now out = some st ∧ e = .returned (.tuple #[v', .int .i64 st.call, .bool true]) ∧ SL (fun _ => False) w' v' st.begin_) ∧ Step w w' := by
 obtain ⟨c0, c1, c2, rfl, q0, q1, q2⟩ := hu.site
 obtain ⟨p1, k1, rfl⟩ := q1.form
 obtain ⟨p2, k2, rfl⟩ := q2.form
 obtain ⟨p0, k0, rfl⟩ := q0.form
 have hok := site_ok hs
 have hlm := hv.len
 obtain ⟨pv, cv, bv, ov, rfl, _, _, hpv, hcv, _⟩ := hv.ints
 have hll := (limited_parts h1).1
 obtain rfl := hpv (by have := hok.nst; omega)
 obtain ⟨px, cx, rfl⟩ := hx.form
 obtain ⟨W0, hW0⟩ : ∃ W, W = w.alloc (.cells #[.slice p0 s.base.length k0, .slice p1 s.levels.length k1, .slice p2 s.stages.length k2, .int .i64 s.openS] 55) := ⟨_, rfl⟩
 have hbx : Bx W0 w.heap.size [.slice p0 s.base.length k0, .slice p1 s.levels.length k1, .slice p2 s.stages.length k2, .int .i64 s.openS] 55 := by subst hW0; exact Bx.new w [_, _, _, _] _
 have hS : Step w W0 := by subst hW0; exact (by with_reducible repeat (first | assumption | exact Step.refl _ | apply Step.s_alloc | apply Step.s_drew | apply Step.s_drewN | refine Step.trans ?_ (by assumption)))
 have HW := zH hW0
 have HB := zH hbx
 have HS := zH hS
 have HLC := zH (fun (i : Nat) (hi : i < s.stages.length) => show W0.cell? ⟨bv, ov + i, none⟩ = some (.int .i64 (limits.getD i 0)) by
  have hi2 : i < limits.length := by omega
  rw [List.getD_eq_getElem?_getD, List.getElem?_eq_getElem hi2]; exact hS.kc (hcv i hi2))
 rw [hll]
 have HX := zH (SL.go hx hS)
 have HV2 := zH (SL.go q2 hS)
 have HOK := zH hok
 have HZ := zH (And.intro hs (And.intro h1 (And.intro h2 (And.intro h3 h4))))
 have HT := zH (Step.refl W0)
 have hnst := hok.nst
 have HWL := zH (show worst.length ≤ 48 by
  simp only [windsB, Bool.and_eq_true, decide_eq_true_eq] at h2
  exact h2.1.2)
 have hwl : IntKind.i64.wrap ((s.stages.length : Int) - 1) = (s.stages.length : Int) - 1 := by rw [IntKind.wrap_i64]; omega
 clear hW0 hbx hS hu hv hx q0 q1 q2 hok hs h1 h2 h3 h4 hpv hcv hll hlm
 go_enter Try.func32, Try.ntmps32
 go_upto_region 1 with (fail)
 rw [← HW.out]
 have g2 := HB.out.cell 2
 simp only [zD, zE] at g2
 go_wp2_with (at_make; refine wpl_make (z := .int .i64 0) eiInts rfl _ _ rfl rfl .i64 .i64 s.stages.length rfl rfl (by omega) (by omega) ?_)
 obtain ⟨W1, hW1⟩ : ∃ W, W = W0.alloc (.cells (Array.replicate s.stages.length (.int .i64 0)) 3) := ⟨_, rfl⟩
 have HB1 := zH (show Bx W1 W0.heap.size ((layB s.stages.length 0).map (Value.int .i64)) 3 by
  rw [lay_start, List.map_replicate]
  rw [show Array.replicate s.stages.length (Value.int .i64 0) = (List.replicate s.stages.length (Value.int .i64 0)).toArray by simp] at hW1
  subst hW1
  exact Bx.new _ _ _)
 have HS1 := zH (show Step W0 W1 by subst hW1; exact Step.alloc _ _)
 have HW1 := zH hW1
 clear hW1 g2
 go_wp2
 rw [← HW1.out]
 go_loopw [15] (fun i wr => ∃ k : Nat, k ≤ s.stages.length ∧ i = .int .i64 k ∧ Bx wr W0.heap.size ((layB s.stages.length k).map (Value.int .i64)) 3 ∧ StepX (fun j => j = W0.heap.size) W1 wr) (fun i _ => s.stages.length - (intOf i).toNat)
 case atStart => exact ⟨0, Nat.zero_le _, rfl, HB1.out, StepX.refl _ _⟩
 case round =>
  obtain ⟨k, hk, rfl, hb, hX⟩ := hrel
  have HX1 := zH hX
  have HBK := zH hb
  by_cases hlt : k < s.stages.length
  ·have c0 := ints_cell hb (k := k) (by rw [lay_len]; exact hlt)
   have z0 := hb.frozen k
   have yl := hb.lt
   have hix : (0 : Int) ≤ (k : Int) ∧ (k : Int) < (s.stages.length : Int) := by omega
   clear hb hX
   go_wp2
   go_roundw
   case rel => exact ⟨k + 1, by omega, by go_num, by rw [← lay_set, ← ints_set]; exact HBK.out.setCell _ _, HX1.out.setCell ⟨W0.heap.size, k, none⟩ _ rfl⟩
   case measure => simp [intOf]; omega
  have hke : k = s.stages.length := by omega
  subst hke
  rw [lay_end] at hb
  obtain ⟨wc, hwc⟩ : ∃ W, W = wr := ⟨_, rfl⟩
  subst hwc
  have HTC := zH (show Step W0 wc from StepX.fresh HS1.out hX (fun j hj => by omega))
  have HBG := zH hb
  have HLG := zH hb.lt
  clear hb hX HX1 HBK hk
  obtain ⟨pq, kq, bq, oq, heq, _, _, hpq, hcq, _⟩ := HV2.out.stgs
  injection heq with heq1 _ heq3
  subst heq1 heq3
  obtain rfl := hpq (by omega)
  have HST := zH hcq
  clear hpq hcq hlt
  go_upto_region 7 with (fail)
  go_wp2
  go_loopw [10, 11, 12, 14, 16, 17] (fun r0 r1 r2 call i _ wr => r0 = .slice none 0 0 ∧ r1 = .int .i64 0 ∧ r2 = .bool false ∧ ∃ (k : Nat) (st : PlanS), k ≤ s.stages.length - now ∧ i = .int .i64 ((s.stages.length : Int) - 1 - k) ∧ planTo s limits worst out k = some st ∧ call = .int .i64 st.call ∧ Bx wr W0.heap.size (st.begin_.map (Value.int .i64)) 3 ∧ Step W0 wr) (fun _ _ _ _ i _ _ => (intOf i + 1 - now).toNat)
  case atStart => exact ⟨rfl, rfl, rfl, 0, _, Nat.zero_le _, by go_num, rfl, rfl, HBG.out, HTC.out⟩
  case round =>
   obtain ⟨rfl, rfl, rfl, k, st, hk, rfl, hpl, rfl, hbg, hT⟩ := hrel
   have HTR := zH hT
   have HBG2 := zH hbg
   have HPL := zH hpl
   have HNX := zH (plan_next HOK.out k (by omega) st hpl)
   clear hT hbg hpl
   by_cases hlk : k < s.stages.length - now
   ·have hkn : k < s.stages.length := by omega
    have HPD := zH (fun d hd => plan_dead HZ.out.2.1 HWL.out hkn HPL.out (d := d) hd)
    have HSTEP := zH (show planTo s limits worst out (k + 1) = planStep s limits worst out (s.stages.length - 1 - k) st by rw [planTo, HPL.out])
    obtain ⟨ii, hii⟩ : ∃ ii : Nat, ii = s.stages.length - 1 - k := ⟨_, rfl⟩
    rw [← hii] at HPD HSTEP
    have hie : (s.stages.length : Int) - 1 - k = (ii : Int) := by omega
    rw [hie]
    have hin : ii < s.stages.length := by omega
    have d1 : decide ((now : Int) ≤ (ii : Int)) = true := decide_eq_true (by omega)
    have d1n : decide (now ≤ ii) = true := decide_eq_true (by omega)
    have HII := zH (And.intro hii (And.intro hin hlk))
    have l0 := HTR.out.kc (HLC.out ii hin)
    have hix : (0 : Int) ≤ (ii : Int) ∧ (ii : Int) < (s.stages.length : Int) := by omega
    have hwi : IntKind.i64.wrap ((ii : Int) - 1) = (ii : Int) - 1 := by rw [IntKind.wrap_i64]; omega
    obtain ⟨lim, hlim⟩ : ∃ x, x = limits.getD ii 0 := ⟨_, rfl⟩
    rw [← hlim] at l0 HPD
    have HSP := zH (show planStep s limits worst out ii st = match deadI worst lim with
     | none => some st
     | some h => if leftAt s st ii h < 0 ∨ ((ii : Int) = s.openS ∧ leftAt s st ii h - out < 0) then none else some ⟨st.begin_.set ii (leftAt s st ii h), leftAt s st ii h, if (ii : Int) = s.openS then leftAt s st ii h - out else st.call⟩ by rw [hlim]; rfl)
    clear hii hie hlk hk hlim
    go_wp2_with fail
    refine (RDeadline_any lim worst _ _ (SL.go HX.out HTR.out) (by have := HWL.out; omega)).mono ?_
    rintro e wn ⟨rfl, hSn⟩
    have HTR2 := zH (HTR.out.trans hSn)
    have HBG3 := zH (HBG2.out.step hSn)
    clear hSn HTR HBG2 l0
    cases hd : deadI worst lim with
    | none =>
     have HS2 := zH (show planStep s limits worst out ii st = some st by rw [HSP.out, hd])
     rw [deadR_none hd]
     clear hd hix
     go_wp2
     go_roundw
     case rel => exact ⟨rfl, rfl, rfl, k + 1, st, by have := HII.out; omega, by rw [show ((s.stages.length : Int) - 1 - ((k + 1 : Nat) : Int)) = (ii : Int) - 1 by have := HII.out; omega], by rw [HSTEP.out, HS2.out], rfl, HBG3.out, HTR2.out⟩
     case measure =>
      have := HII.out
      simp [intOf]; omega
    | some d =>
     have HPE := zH (HPD.out d hd)
     have hdl := dead_upto hd
     have hdd : d ≤ 47 := by have := HWL.out; omega
     have HPS := zH (show planStep s limits worst out ii st = if leftAt s st ii d < 0 ∨ ((ii : Int) = s.openS ∧ leftAt s st ii d - out < 0) then none else some ⟨st.begin_.set ii (leftAt s st ii d), leftAt s st ii d, if (ii : Int) = s.openS then leftAt s st ii d - out else st.call⟩ by rw [HSP.out, hd])
     rw [deadR_some hd]
     have HDD := zH hdd
     have hd0 : decide (60 * (d : Int) < 0) = false := decide_eq_false (by omega)
     have hw1 : IntKind.i64.wrap ((ii : Int) + 1) = (ii : Int) + 1 := by rw [IntKind.wrap_i64]; omega
     clear hd hdl hdd HSP HPD
     go_upto_region 12 with (fail)
     (try simp only [Act.put, zA, zB, zC])
     go_cut [61] (fun c wx => ∃ x : Bool, c = .bool x ∧ (x = true → ii + 1 < s.stages.length ∧ min (60 * (d : Int)) st.next = min (60 * (d : Int)) (st.begin_.getD (ii + 1) 0)) ∧ (x = false → min (60 * (d : Int)) st.next = 60 * d) ∧ Step wn wx)
     case first =>
      by_cases hk0 : k = 0
      ·have d2 : decide ((ii : Int) + 1 < (s.stages.length : Int)) = false := decide_eq_false (by have := HII.out; omega)
       have d2n : decide (ii + 1 < s.stages.length) = false := decide_eq_false (by have := HII.out; omega)
       have HK0 := zH hk0
       clear hk0
       go_wp2
       go_meet
       exact ⟨false, rfl, fun h => absurd h (by simp), fun _ => HPE.out.1 HK0.out, Step.refl _⟩
      have d2 : decide ((ii : Int) + 1 < (s.stages.length : Int)) = true := decide_eq_true (by have := HII.out; omega)
      have d2n : decide (ii + 1 < s.stages.length) = true := decide_eq_true (by have := HII.out; omega)
      have hi1 : ii + 1 < s.stages.length := by have := HII.out; omega
      have HK0 := zH (And.intro (show 0 < k by omega) hi1)
      have l1 := HTR2.out.kc (HLC.out (ii + 1) hi1)
      have hix2 : (0 : Int) ≤ (ii : Int) + 1 ∧ (ii : Int) + 1 < (s.stages.length : Int) := by omega
      have htn : ((ii : Int) + 1).toNat = ii + 1 := by omega
      obtain ⟨lim2, hlim2⟩ : ∃ x, x = limits.getD (ii + 1) 0 := ⟨_, rfl⟩
      have HPF := zH (HPE.out.2 (by omega))
      rw [← hlim2] at l1 HPF
      clear hk0 hi1 hlim2
      go_wp2_with fail
      refine (RDeadline_any lim2 worst _ _ (SL.go HX.out HTR2.out) (by have := HWL.out; omega)).mono ?_
      rintro e wm ⟨rfl, hSm⟩
      have HSM := zH hSm
      clear hSm l1
      cases hd2 : deadI worst lim2 with
      | none =>
       have HQ := zH (HPF.out.1 hd2)
       rw [deadR_none hd2]
       clear hd2
       go_wp2
       go_meet
       exact ⟨false, rfl, fun h => absurd h (by simp), fun _ => HQ.out, HSM.out⟩
      | some a =>
       have HQ := zH (HPF.out.2 a hd2)
       rw [deadR_some hd2]
       have d3 : decide (0 ≤ 60 * (a : Int)) = true := decide_eq_true (by omega)
       clear hd2
       go_wp2
       go_meet
       exact ⟨true, rfl, fun _ => ⟨HK0.out.2, HQ.out⟩, fun h => absurd h (by simp), HSM.out⟩
     case rest =>
      obtain ⟨x, rfl, hxt, hxf, hTc⟩ := hcut
      have HTR3 := zH (HTR2.out.trans hTc)
      have HBG4 := zH (HBG3.out.step hTc)
      have HXT := zH (And.intro hxt hxf)
      clear hxt hxf hTc HTR2 HBG3
      go_upto_if 61 with (fail)
      go_cut [17] (fun dv wx => dv = .int .i64 (min (60 * (d : Int)) st.next) ∧ wx = wc)
      case first =>
       cases x with
       | false =>
        have HQ := zH (HXT.out.2 rfl)
        go_wp2
        go_meet
        exact ⟨by rw [HQ.out], rfl⟩
       | true =>
        have HQ := zH (HXT.out.1 rfl)
        have hi1 := HQ.out.1
        have b1 := ints_cell HBG4.out (k := ii + 1) (by have := HNX.out.2; omega)
        obtain ⟨y, hy⟩ : ∃ y, y = st.begin_.getD (ii + 1) 0 := ⟨_, rfl⟩
        have hy2 : st.begin_[ii + 1]'(by have := HNX.out.2; omega) = y := by rw [hy, List.getD_eq_getElem?_getD, List.getElem?_eq_getElem (by have := HNX.out.2; omega)]; rfl
        rw [hy2] at b1
        have HQ2 := zH (show min (60 * (d : Int)) st.next = (if y < 60 * (d : Int) then y else 60 * (d : Int)) by rw [HQ.out.2, ← hy]; omega)
        have hix2 : (0 : Int) ≤ (ii : Int) + 1 ∧ (ii : Int) + 1 < (s.stages.length : Int) := by omega
        have htn : ((ii : Int) + 1).toNat = ii + 1 := by omega
        clear hy hy2 HXT
        go_wp2 <;> (go_meet; exact ⟨by rw [HQ2.out]; simp only [Value.int.injEq, true_and]; omega, rfl⟩)
      case rest =>
       obtain ⟨rfl, rfl⟩ := hcut
       have hhw := HNX.out.1
       have HLF := zH (show leftAt s st ii d = min (60 * (d : Int)) st.next - minutesAt s ii from rfl)
       obtain ⟨m0, hm0⟩ : ∃ x, x = min (60 * (d : Int)) st.next := ⟨_, rfl⟩
       have HM0 := zH (show 0 ≤ m0 ∧ m0 ≤ 2880 by have := HDD.out; omega)
       rw [← hm0] at HLF ⊢
       have hmo := minutes_ok HOK.out hin
       obtain ⟨_, m1⟩ := HST.out ii hin
       rw [← hmo.1] at m1
       have hmb : 0 ≤ minutesAt s ii ∧ minutesAt s ii ≤ 240 := by rw [hmo.1]; exact hmo.2
       obtain ⟨mn, hmn⟩ : ∃ x, x = minutesAt s ii := ⟨_, rfl⟩
       rw [← hmn] at m1 hmb HLF
       have m1 := HTR3.out.kc m1
       obtain ⟨nx, hnx⟩ : ∃ x, x = m0 - mn := ⟨_, rfl⟩
       rw [← hnx] at HLF
       rw [HLF.out] at HPS
       have hwn : IntKind.i64.wrap (m0 - mn) = nx := by have := HM0.out; rw [IntKind.wrap_i64]; omega
       have HRNG := zH (show -300 ≤ nx ∧ nx ≤ 3000 by have := HM0.out; omega)
       have g2 := (HB.out.step HTR3.out).cell 2
       simp only [zD, zE] at g2
       have z1 := ints_cell HBG4.out (k := ii) (by have := HNX.out.2; omega)
       have z0 := HBG4.out.frozen ii
       have zl := HBG4.out.lt
       clear hhw hm0 hmo hmn hmb hnx
       go_upto_region 15 with (fail)
       obtain ⟨W7, hW7⟩ : ∃ W, W = wc.setCell ⟨W0.heap.size, ii, none⟩ (.int .i64 nx) := ⟨_, rfl⟩
       rw [← hW7]
       have hwr7 : Wrote W0.heap.size wc W7 := by rw [hW7]; exact .setCell _ _ _ _
       have hbx7 : Bx W7 W0.heap.size ((st.begin_.set ii nx).map (Value.int .i64)) 3 := by rw [hW7, ← ints_set]; exact HBG4.out.setCell _ _
       have HB7 := zH hbx7
       have HT7 := zH (show Step W0 W7 from Step.wrote HTR3.out hwr7 (Nat.le_refl _))
       have y1 := ints_cell hbx7 (k := ii) (by rw [List.length_set]; have := HNX.out.2; omega)
       rw [List.getElem_set_self] at y1
       clear z1 z0 zl m1 g2 hW7 hwr7 hbx7
       have HO4 := zH HZ.out.2.2.2.2
       have hwo : IntKind.i64.wrap (nx - out) = nx - out := by have := HO4.out; have := HRNG.out; rw [IntKind.wrap_i64]; omega
       have g3 := (HB.out.step HT7.out).cell 3
       simp only [zD, zE] at g3
       obtain ⟨op, hop⟩ : ∃ x, x = s.openS := ⟨_, rfl⟩
       rw [← hop] at g3 HPS
       clear hop
       by_cases hn : nx < 0
       ·have dn : decide (nx < 0) = true := decide_eq_true hn
        have HS2 := zH (show planStep s limits worst out ii st = none by rw [HPS.out, if_pos (.inl hn)])
        clear hn
        have HNO := zH (show planR s limits worst now out = none by
         unfold planR
         rw [Int.toNat_natCast]
         exact plan_none (by rw [HSTEP.out]; exact HS2.out) _ (by have := HII.out; omega))
        go_wp2
        go_ret3
        exact ⟨.inl ⟨HNO.out, rfl⟩, HS.out.trans HT7.out⟩
       have dn : decide (nx < 0) = false := decide_eq_false hn
       by_cases ho : (ii : Int) = op
       ·have dq : ((ii : Int) == op) = true := by simpa using ho
        by_cases hc : nx - out < 0
        ·have dc : decide (nx - out < 0) = true := decide_eq_true hc
         have HS2 := zH (show planStep s limits worst out ii st = none by rw [HPS.out, if_pos (.inr ⟨ho, hc⟩)])
         clear hn hc ho
         have HNO := zH (show planR s limits worst now out = none by
          unfold planR
          rw [Int.toNat_natCast]
          exact plan_none (by rw [HSTEP.out]; exact HS2.out) _ (by have := HII.out; omega))
         go_wp2
         go_ret3
         exact ⟨.inl ⟨HNO.out, rfl⟩, HS.out.trans HT7.out⟩
        ·have dc : decide (nx - out < 0) = false := decide_eq_false hc
         have HS2 := zH (show planStep s limits worst out ii st = some ⟨st.begin_.set ii nx, nx, nx - out⟩ by
          rw [HPS.out, if_neg (fun h => h.elim hn (fun h => hc h.2)), if_pos ho])
         clear hn hc ho
         go_wp2
         go_roundw
         case rel => exact ⟨rfl, rfl, rfl, k + 1, ⟨st.begin_.set ii nx, nx, nx - out⟩, by have := HII.out; omega, by rw [show ((s.stages.length : Int) - 1 - ((k + 1 : Nat) : Int)) = (ii : Int) - 1 by have := HII.out; omega], by rw [HSTEP.out, HS2.out], rfl, HB7.out, HT7.out⟩
         case measure =>
          have := HII.out
          simp [intOf]; omega
       ·have dq : ((ii : Int) == op) = false := by simpa using ho
        have HS2 := zH (show planStep s limits worst out ii st = some ⟨st.begin_.set ii nx, nx, st.call⟩ by
         rw [HPS.out, if_neg (fun h => h.elim hn (fun h => ho h.1)), if_neg ho])
        clear hn ho
        go_wp2
        go_roundw
        case rel => exact ⟨rfl, rfl, rfl, k + 1, ⟨st.begin_.set ii nx, nx, st.call⟩, by have := HII.out; omega, by rw [show ((s.stages.length : Int) - 1 - ((k + 1 : Nat) : Int)) = (ii : Int) - 1 by have := HII.out; omega], by rw [HSTEP.out, HS2.out], rfl, HB7.out, HT7.out⟩
        case measure =>
         have := HII.out
         simp [intOf]; omega
   ·have hke : k = s.stages.length - now := by omega
    have HPR := zH (show planR s limits worst now out = some st by unfold planR; rw [Int.toNat_natCast, ← hke]; exact HPL.out)
    have d1 : decide ((now : Int) ≤ (s.stages.length : Int) - 1 - k) = false := decide_eq_false (by omega)
    have HSL := zH (SL.bx_ints HBG2.out (S := fun _ => False) id s.stages.length (by rw [HNX.out.2]; exact Nat.le_refl _) (by have := HNX.out.2; omega))
    clear hk hlk hke
    go_wp2
    go_ret3
    refine ⟨.inr ⟨st, _, HPR.out, rfl, ?_⟩, HS.out.trans HTR.out⟩
    have hfin := HSL.out
    rw [HNX.out.2] at hfin
    exact hfin
end Go.Proofs.Ytfhmdpicoccnfaa
