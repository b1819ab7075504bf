/- Walks and plain laws, part d. -/
import Derived.Test.YtfhmdpicoccnfaaMA
import Derived.Test.YtfhmdpicoccnfaaMB
import Derived.Test.YtfhmdpicoccnfaaMC
import Derived.Test.YtfhmdpicoccnfaaRows
import Derived.BigQuiet
import Derived.Deep.AppendLies
import Derived.Deep.DeepCutAuto
import Derived.Deep.QuietTactic
import Derived.Deep.RegionHeld3
import Derived.Deep.RegionLaw
import Derived.Deep.Upon
import Derived.Lib.Hide
import Derived.WalkKit
import Derived.WalkLawsBesides
import Derived.WalkSmall
import Derived.WideKeyEntry
set_option maxHeartbeats 16000000
set_option maxRecDepth 100000
namespace Go.Proofs.Ytfhmdpicoccnfaa
set_option linter.unusedSimpArgs false
set_option linter.unusedVariables false
open Go.RowKit Go.BT
theorem Strikes_any (S : Nat → Prop) (l : List Fc) (rs : List Rdg) (v u : Value) (w : World) (hv : SL S w v l) (hu : SL S w u rs) :
  Calls Try.prog 15 #[v, u] w fun e w' => ∃ v1 v2, e = .returned (.tuple #[v1, v2, .int .i64 (readC l rs)]) ∧ (readC l rs = 0 → SL (Old w) w' v1 (leftI l rs l.length) ∧ SL (Old w) w' v2 (strikesTo l rs l.length)) ∧ (readC l rs ≠ 0 → v1 = .slice none 0 0 ∧ v2 = .slice none 0 0) ∧ Step w w' := by
 have HV := zH (SL.go hv (Step.refl _))
 have HU := zH (SL.go hu (Step.refl _))
 have HT := zH (Step.refl w)
 have hm := hv.len
 obtain ⟨pv, cv, rfl⟩ := hv.form
 obtain ⟨pu, cu, rfl⟩ := hu.form
 clear hv hu
 go_enter Try.func15, Try.ntmps15
 have hcall := zH (read_any (fun _ => False) l rs _ _ _ HV.out HU.out)
 go_wp2_with fail
 refine hcall.out.mono ?_
 clear hcall
 rintro e wn ⟨rfl, hSn⟩
 have HTi := zH (HT.out.trans hSn)
 clear hSn HT
 have HT := HTi
 clear HTi
 obtain ⟨c, hc⟩ : ∃ c, c = readC l rs := ⟨_, rfl⟩
 rw [← hc]
 by_cases h0 : c = 0
 rotate_left
 ·have hd : (c != 0) = true := by simpa using h0
  have H0 := zH (And.intro h0 hc)
  clear h0 hc
  go_wp2
  go_ret3
  exact ⟨_, _, by rw [← H0.out.2]; rfl, fun h => absurd (H0.out.2.trans h) H0.out.1, fun _ => ⟨rfl, rfl⟩, HT.out⟩
 subst h0
 have HC0 := zH hc.symm
 have HR := zH (read_hours hc.symm)
 have HL := zH (few_parts (forecasts_ok (read_hours hc.symm).1).1)
 clear hc
 have HB0 := zH ((Below.refl w.heap.size w).step (Nat.le_refl _) HT.out)
 clear HT
 go_wp2
 go_loopw [4, 5, 19] (fun a b i wr => ∃ k : Nat, k ≤ l.length ∧ i = .int .i64 k ∧ OwnL (fun _ => False) w.heap.size 3 wr a (leftI l rs k) ∧ OwnL (fun _ => False) w.heap.size 45 wr b (strikesTo l rs k) ∧ Below w.heap.size w wr) (fun _ _ i _ => l.length - (intOf i).toNat)
 case atStart => exact ⟨0, Nat.zero_le _, rfl, OwnL.nil _ _ _ _, OwnL.nil _ _ _ _, HB0.out⟩
 case round =>
  obtain ⟨k, hk, rfl, hoa, hob, hB⟩ := hrel
  have HT := zH (Step.of hB)
  have HB := zH hB
  have HOA := zH hoa
  have HOB := zH hob
  have HLA := zH (Nat.le_trans (left_len l rs k) (Nat.le_trans hk HL.out.2.1))
  have HLB := zH (Nat.le_trans (strikes_len l rs k) (Nat.le_trans hk HL.out.2.1))
  by_cases hlt : k < l.length
  ·obtain ⟨la, hla⟩ : ∃ L, L = leftI l rs k := ⟨_, rfl⟩
   obtain ⟨lb, hlb⟩ : ∃ L, L = strikesTo l rs k := ⟨_, rfl⟩
   rw [← hla] at hoa HOA HLA
   rw [← hlb] at hob HOB HLB
   obtain ⟨pa, ca, rfl, _⟩ := hoa.form
   obtain ⟨pb, cb, rfl, _⟩ := hob.form
   have HLL := zH (And.intro hla hlb)
   obtain ⟨p', c', b', o', he, _, _, hpp, hcc, hbl⟩ := (SL.go HV.out HT.out).fcs
   injection he with he1 he2 he3
   subst he1 he3
   obtain rfl := hpp (by omega)
   obtain ⟨c1, e1, e2, e3, e4⟩ := hcc k hlt
   obtain ⟨p2, k2, rfl⟩ := e3.form
   have hix : (0 : Int) ≤ (k : Int) ∧ (k : Int) < (l.length : Int) := by omega
   have HHR := zH (HR.out.2.2 k hlt)
   have HNX := zH (And.intro (left_next (rs := rs) hlt) (strikes_next (rs := rs) hlt))
   obtain ⟨f, hf⟩ : ∃ f, f = l[k] := ⟨_, rfl⟩
   rw [← hf] at e1 e2 e3 e4 HHR HNX
   have HAV := zH (show AV (fun _ => False) wr (.agg #[.string f.name, .slice p2 f.hours.length k2]) f from ⟨_, rfl, _, rfl, e3, e4⟩)
   clear hoa hob hB hla hlb hpp hcc hbl he2 e3 e4 hf
   go_wp2_with fail
   refine (struck_any f rs _ _ _ (HAV.out.keep (.of_step (Step.alloc _ _))) (SL.go HU.out (HT.out.trans (Step.alloc _ _))) HHR.out).mono ?_
   rintro e wn ⟨rfl, hSn⟩
   have HS4 := zH ((Step.alloc wr (.cells #[.string f.name, .slice p2 f.hours.length k2] 117)).trans hSn)
   have hge := idxOf_ge (hitsB f) rs
   obtain ⟨r, hr⟩ : ∃ r, r = idxOf (hitsB f) rs := ⟨_, rfl⟩
   rw [← hr] at hge HNX ⊢
   clear hSn e1 e2 hr
   cases q : rs.any (hitsB f) with
   | true =>
    rw [q] at hge HNX
    rw [if_pos rfl, if_pos rfl, ← HLL.out.1, ← HLL.out.2, List.append_nil] at HNX
    clear q
    have hA4 := (HOA.out.step HS4.out).alloc (.cells #[.int .i64 (k : Int), .int .i64 r] 45)
    have hB4 := (HOB.out.step HS4.out).alloc (.cells #[.int .i64 (k : Int), .int .i64 r] 45)
    have hBl := (HB.out.step (Nat.le_refl _) HS4.out).step (Nat.le_refl _) (Step.alloc wn (.cells #[.int .i64 (k : Int), .int .i64 r] 45))
    have hbz := hBl.size
    have hl1 := HLB.out
    have HBl := zH hBl
    have HAB := zH (And.intro hA4 hB4)
    clear hBl
    have hu := SLe.one (S := avoid (fun _ => False) (.slice pb lb.length cb)) (w := wn) (cs := [.int .i64 (k : Int), .int .i64 r]) (x := (⟨(k : Int), r⟩ : Vec)) 45 rfl
    clear hA4
    go_wp2_with (at_builtin; refine wpl_append (α := Vec) (S := fun _ => False) (base := w.heap.size) (v := .slice pb lb.length cb) (l := lb) (m := [⟨(k : Int), r⟩]) eiStrikes rfl _ _ rfl rfl rfl hB4 hu (lb.length + 1) (by simp) _ rfl (by simp only [maxLen]; omega) (by omega) hbz ?_)
    intro p5 c5 w5 hown5 hg
    have HF := zH (And.intro hown5 (And.intro (ownL_grown HAB.out.1 hg (fun g hg' => own_own HAB.out.1 HAB.out.2 (by decide) g hg')) (HBl.out.grown hg hbz (fun j hj => (hB4.lt j hj).1))))
    clear hB4 hu hown5 hg hbz hl1 HAB
    go_wp2
    go_roundw
    case rel => exact ⟨k + 1, by omega, by go_num, by rw [HNX.out.1]; exact HF.out.2.1, by rw [HNX.out.2]; exact HF.out.1, HF.out.2.2⟩
    case measure => simp [intOf]; omega
   | false =>
    rw [q] at hge HNX
    rw [if_neg (by decide), if_neg (by decide), ← HLL.out.1, ← HLL.out.2, List.append_nil] at HNX
    clear q
    have hA4 := (HOA.out.step HS4.out).alloc (.cells #[.int .i64 (k : Int)] 3)
    have hB4 := (HOB.out.step HS4.out).alloc (.cells #[.int .i64 (k : Int)] 3)
    have hBl := (HB.out.step (Nat.le_refl _) HS4.out).step (Nat.le_refl _) (Step.alloc wn (.cells #[.int .i64 (k : Int)] 3))
    have hbz := hBl.size
    have hl1 := HLA.out
    have HBl := zH hBl
    have HAB := zH (And.intro hA4 hB4)
    clear hBl
    have hu := SLe.one (S := avoid (fun _ => False) (.slice pa la.length ca)) (w := wn) (cs := [.int .i64 (k : Int)]) (x := ((k : Int) : Int)) 3 rfl
    clear hB4
    go_wp2_with (at_builtin; refine wpl_append (α := Int) (S := fun _ => False) (base := w.heap.size) (v := .slice pa la.length ca) (l := la) (m := [(k : Int)]) eiInts rfl _ _ rfl rfl rfl hA4 hu (la.length + 1) (by simp) _ rfl (by simp only [maxLen]; omega) (by omega) hbz ?_)
    intro p5 c5 w5 hown5 hg
    have HF := zH (And.intro hown5 (And.intro (ownL_grown HAB.out.2 hg (fun g hg' => own_own HAB.out.2 HAB.out.1 (by decide) g hg')) (HBl.out.grown hg hbz (fun j hj => (hA4.lt j hj).1))))
    clear hA4 hu hown5 hg hbz hl1 HAB
    go_wp2
    go_roundw
    case rel => exact ⟨k + 1, by omega, by go_num, by rw [HNX.out.1]; exact HF.out.1, by rw [HNX.out.2]; exact HF.out.2.1, HF.out.2.2⟩
    case measure => simp [intOf]; omega
  ·have hke : k = l.length := by omega
   subst hke
   have HF := zH (And.intro (hoa.sl (S := Old w) fun g h1 _ h2 => by unfold Old at h2; omega) (hob.sl (S := Old w) fun g h1 _ h2 => by unfold Old at h2; omega))
   clear hoa hob hB
   go_wp2
   go_ret3
   exact ⟨_, _, by rw [HC0.out]; rfl, fun _ => HF.out, fun h => absurd HC0.out h, HT.out⟩
end Go.Proofs.Ytfhmdpicoccnfaa
namespace Go.BT
def mixW (l : List Fc) (ids : List Nat) (j k : Nat) : List Int := (List.range (hoursN l)).map fun h => if h < k then worstF l (ids.take (j + 1)) h else worstF l (ids.take j) h
theorem worstm_len (l : List Fc) (ids : List Nat) (j k : Nat) : (mixW l ids j k).length = hoursN l := by simp [mixW]
theorem worstm_start (l : List Fc) (ids : List Nat) : mixW l ids 0 0 = List.replicate (hoursN l) 0 := by
 refine List.ext_getElem (by simp [mixW]) fun i h1 h2 => ?_
 simp [mixW, worstF]
theorem worstm_next (l : List Fc) (ids : List Nat) (j : Nat) : mixW l ids j (hoursN l) = mixW l ids (j + 1) 0 := by
 refine List.ext_getElem (by simp [mixW]) fun i h1 h2 => ?_
 have : i < hoursN l := by simpa [mixW] using h1
 simp only [mixW, List.getElem_map, List.getElem_range]
 rw [if_pos this, if_neg (by omega)]
theorem worstm_end (l : List Fc) (ids : List Nat) : mixW l ids ids.length 0 = worstL l ids := by
 refine List.ext_getElem (by simp [mixW, worstL]) fun i h1 h2 => ?_
 simp only [mixW, worstL, List.getElem_map, List.getElem_range]
 rw [if_neg (by omega), List.take_length]
theorem worstm_at (l : List Fc) (ids : List Nat) (j k : Nat) (hk : k < hoursN l) : (mixW l ids j k)[k]'(by rw [worstm_len]; exact hk) = worstF l (ids.take j) k := by
 simp only [mixW, List.getElem_map, List.getElem_range]
 rw [if_neg (by omega)]
theorem worstm_set (l : List Fc) (ids : List Nat) (j k : Nat) (_ : k < hoursN l) : (mixW l ids j k).set k (worstF l (ids.take (j + 1)) k) = mixW l ids j (k + 1) := by
 refine List.ext_getElem (by simp [mixW]) fun i h1 h2 => ?_
 rw [List.getElem_set]
 simp only [mixW, List.getElem_map, List.getElem_range]
 by_cases e : k = i
 ·subst e; rw [if_pos rfl, if_pos (by omega)]
 ·rw [if_neg e]
  by_cases q : i < k
  ·rw [if_pos q, if_pos (by omega)]
  ·rw [if_neg q, if_neg (by omega)]
theorem worst_take {l : List Fc} {ids : List Nat} {j : Nat} (hj : j < ids.length) (hi : ids[j] < l.length) (k : Nat) : worstF l (ids.take (j + 1)) k = max (worstF l (ids.take j) k) (hourAt l[ids[j]] k).hi := by
 unfold worstF
 rw [List.take_succ_eq_append_getElem hj, List.foldl_append, List.foldl_cons, List.foldl_nil, List.getElem?_eq_getElem hi]
theorem left_lt {l : List Fc} {rs : List Rdg} {j : Nat} (hj : j < (leftN l rs l.length).length) : (leftN l rs l.length)[j] < l.length := by
 have := List.getElem_mem hj
 unfold leftN at this
 rw [List.mem_filter, List.mem_range] at this
 exact this.1
end Go.BT
namespace Go.Proofs.Ytfhmdpicoccnfaa
set_option linter.unusedSimpArgs false
set_option linter.unusedVariables false
open Go.RowKit Go.BT
theorem Worst_any (S : Nat → Prop) (l : List Fc) (rs : List Rdg) (v u : Value) (w : World) (hv : SL S w v l) (hu : SL S w u rs) :
  Calls Try.prog 18 #[v, u] w fun e w' => ∃ v', e = .returned (.tuple #[v', .int .i64 (worstC l rs)]) ∧ SL (Old w) w' v' (worstR l rs) ∧ Step w w' := by
 have HV := zH (SL.go hv (Step.refl _))
 have HU := zH (SL.go hu (Step.refl _))
 have HT := zH (Step.refl w)
 obtain ⟨pv, cv, rfl⟩ := hv.form
 obtain ⟨pu, cu, rfl⟩ := hu.form
 clear hv hu
 go_enter Try.func18, Try.ntmps18
 go_wp2_with fail
 refine (Strikes_any (fun _ => False) l rs _ _ _ HV.out HU.out).mono ?_
 rintro e wn ⟨v1, v2, rfl, hok, hno, hSn⟩
 obtain ⟨c, hc⟩ : ∃ c, c = readC l rs := ⟨_, rfl⟩
 rw [← hc] at hok hno ⊢
 have HTi := zH (HT.out.trans hSn)
 clear HT hSn
 have HT := HTi
 clear HTi
 by_cases h0 : c = 0
 rotate_left
 ·have hd : (c != 0) = true := by simpa using h0
  have HW1 := zH (show worstC l rs = c by unfold worstC; rw [← hc, if_neg h0])
  have HW2 := zH (show worstR l rs = [] by unfold worstR; rw [HW1.out, if_neg h0])
  obtain ⟨rfl, rfl⟩ := hno h0
  clear h0 hc hok hno
  go_wp2
  go_ret2
  exact ⟨_, by rw [HW1.out]; rfl, by rw [HW2.out]; exact SL.nil _ _, HT.out⟩
 subst h0
 obtain ⟨hl1, _⟩ := hok rfl
 have HR := zH (read_hours hc.symm)
 have HN := zH (hoursN_le (read_hours hc.symm).1)
 have HL := zH (few_parts (forecasts_ok (read_hours hc.symm).1).1)
 have HEV := zH (even_parts (forecasts_ok (read_hours hc.symm).1).2.1)
 have HLT := zH (fun j => left_lt (l := l) (rs := rs) (j := j))
 have HLN := zH (show (leftN l rs l.length).length ≤ 10 by
  have h1 := left_len l rs l.length
  have h2 := (few_parts (forecasts_ok (read_hours hc.symm).1).1).2.1
  unfold leftI at h1
  rw [List.length_map] at h1; omega)
 obtain ⟨ids, hids⟩ : ∃ L, L = leftN l rs l.length := ⟨_, rfl⟩
 have hli : leftI l rs l.length = ids.map fun (i : Nat) => (i : Int) := by unfold leftI; rw [← hids]
 rw [hli] at hl1
 rw [← hids] at HLN
 have HID := zH (And.intro hids hc.symm)
 obtain ⟨p1, c1, rfl⟩ := hl1.form
 rw [List.length_map] at *
 have HS1 := zH hl1
 clear hok hno hli hl1
 by_cases h0 : ids.length = 0
 ·have hd : ((ids.length : Int) == 0) = true := by rw [h0]; rfl
  have he : ids = [] := List.eq_nil_of_length_eq_zero h0
  have HW1 := zH (show worstC l rs = 7 by unfold worstC; rw [← hc, if_pos rfl, ← hids, he, if_pos rfl])
  have HW2 := zH (show worstR l rs = [] by unfold worstR; rw [HW1.out, if_neg (by decide)])
  clear h0 he hc hids
  go_wp2
  go_ret2
  exact ⟨_, by rw [HW1.out]; rfl, by rw [HW2.out]; exact SL.nil _ _, HT.out⟩
 have hd : ((ids.length : Int) == 0) = false := beq_eq_false_iff_ne.2 (by omega)
 have HW1 := zH (show worstC l rs = 0 by unfold worstC; rw [← hc, if_pos rfl, ← hids, if_neg (fun e => h0 (by rw [e]; rfl))])
 have HW2 := zH (show worstR l rs = worstL l ids by unfold worstR; rw [HW1.out, if_pos rfl, ← hids])
 clear h0 hc hids
 obtain ⟨pl, cl, bl, ol, he, _, _, hpl, hcl, hbl⟩ := (SL.go HV.out HT.out).fcs
 injection he with he1 he2 he3
 subst he1 he3
 have h0 : 0 < l.length := HL.out.1
 obtain rfl := hpl h0
 obtain ⟨cx, x1, x2, x3, x4⟩ := hcl 0 h0
 obtain ⟨px, kx, rfl⟩ := x3.form
 have hn0 : l[0].hours.length = hoursN l := (HEV.out _ (List.getElem_mem h0)).2.1
 rw [hn0] at x2
 obtain ⟨n, hn⟩ : ∃ n, n = hoursN l := ⟨_, rfl⟩
 rw [← hn] at x2 HN
 have HNN := zH hn
 rw [Nat.zero_mul, Nat.add_zero] at x2
 have hnn := HN.out
 have hix : (0 : Int) < (l.length : Int) := by omega
 obtain ⟨W0, hW0⟩ : ∃ W, W = wn.alloc (.cells (Array.replicate n (.int .i64 0)) 3) := ⟨_, rfl⟩
 have hbx : Bx W0 wn.heap.size ((mixW l ids 0 0).map (Value.int .i64)) 3 := by
  rw [worstm_start, List.map_replicate, ← hn]
  rw [show Array.replicate n (Value.int .i64 0) = (List.replicate n (Value.int .i64 0)).toArray by simp] at hW0
  subst hW0
  exact Bx.new _ _ _
 have HB := zH hbx
 have HWS := zH hW0
 have HS := zH (show Step w W0 by subst hW0; exact HT.out.trans (Step.alloc _ _))
 have HSN := zH (show Step wn W0 by subst hW0; exact Step.alloc _ _)
 have HZ := zH HT.out.size
 clear hbx hW0 hn x1 x3 x4 hpl hcl hbl he2 hn0
 go_wp2_with (at_make; refine wpl_make (z := .int .i64 0) eiInts rfl _ _ rfl rfl .i64 .i64 n rfl rfl (by omega) (by omega) ?_)
 go_wp2
 rw [← HWS.out]
 go_loopw [35] (fun i wr => ∃ j : Nat, j ≤ ids.length ∧ i = .int .i64 j ∧ Bx wr wn.heap.size ((mixW l ids j 0).map (Value.int .i64)) 3 ∧ StepX (fun b => b = wn.heap.size) W0 wr) (fun i _ => ids.length - (intOf i).toNat)
 case atStart => exact ⟨0, Nat.zero_le _, rfl, HB.out, StepX.refl _ _⟩
 case round =>
  obtain ⟨j, hj, rfl, hb, hX⟩ := hrel
  have HX := zH hX
  have HBJ := zH hb
  by_cases hlj : j < ids.length
  ·have hv1 := ((HS1.out.weak (T := fun b => b = wn.heap.size) fun b hb e => by omega).keep (.of_step HSN.out)).keep hX.keeps
   obtain ⟨q1, d1, b1, o1, he, _, _, hp1, hc1, hbl1⟩ := hv1.ints
   rw [List.length_map] at he hp1
   injection he with he1 _ he3
   subst he1 he3
   obtain rfl := hp1 (by omega)
   have e0 := hc1 j (by simpa using hlj)
   simp only [List.getElem_map] at e0
   have hij := HLT.out j (by rw [← HID.out.1]; exact hlj)
   simp only [← HID.out.1] at hij
   have HWT := zH (worst_take hlj hij)
   obtain ⟨q2, d2, b2, o2, he, _, _, hp2, hc2, hbl2⟩ := (((HV.out.weak (T := fun b => b = wn.heap.size) fun b hb e => by have := HZ.out; omega).keep (.of_step HS.out)).keep hX.keeps).fcs
   injection he with he1 _ he3
   subst he3
   rw [hp2 h0] at he1
   injection he1 with he1
   injection he1 with he4 he5 _
   subst he4 he5
   obtain ⟨cf, f1, f2, f3, f4⟩ := hc2 ids[j] hij
   obtain ⟨pf, kf, rfl⟩ := f3.form
   have hnf : l[ids[j]].hours.length = n := by rw [HNN.out]; exact (HEV.out _ (List.getElem_mem hij)).2.1
   rw [hnf] at f2 f3
   have hix2 : (0 : Int) ≤ (ids[j] : Int) ∧ (ids[j] : Int) < (l.length : Int) := by omega
   have hix1 : (0 : Int) ≤ (j : Int) ∧ (j : Int) < (ids.length : Int) := by omega
   have hlj2 := hlj
   obtain ⟨f, hf⟩ : ∃ f, f = l[ids[j]] := ⟨_, rfl⟩
   rw [← hf] at f3 hnf HWT
   obtain ⟨i, hi⟩ : ∃ i, i = ids[j] := ⟨_, rfl⟩
   rw [← hi] at e0 f2 hix2
   have HF := zH (And.intro f3 hnf)
   obtain ⟨wo, hwo⟩ : ∃ W, W = wr := ⟨_, rfl⟩
   subst hwo
   clear hb hX hv1 hp1 hc1 hbl1 f1 f4 hij hp2 hc2 hbl2 f3 hnf hf hi hlj x2
   go_upto_region 11 with (fail)
   clear e0 f2 hix1 hix2 hd hix
   go_loopw [45] (fun h wr => ∃ k : Nat, k ≤ n ∧ h = .int .i64 k ∧ Bx wr wn.heap.size ((mixW l ids j k).map (Value.int .i64)) 3 ∧ StepX (fun b => b = wn.heap.size) wo wr) (fun h _ => n - (intOf h).toNat)
   case atStart => exact ⟨0, Nat.zero_le _, rfl, HBJ.out, StepX.refl _ _⟩
   case round =>
    obtain ⟨k, hk, rfl, hb, hX⟩ := hrel
    have HXI := zH hX
    have HBI := zH hb
    by_cases hlt : k < n
    ·obtain ⟨q3, d3, b3, o3, he, _, _, hp3, hc3, hbl3⟩ := (HF.out.1.keep hX.keeps).rngs
     rw [HF.out.2] at he hp3
     injection he with he1 _ he3
     subst he1 he3
     obtain rfl := hp3 (by omega)
     obtain ⟨r1, r2⟩ := hc3 k (by rw [HF.out.2]; exact hlt)
     have hkn : k < hoursN l := by rw [← HNN.out]; exact hlt
     have hm := worstm_at l ids j k hkn
     have c0 := ints_cell hb (k := k) (by rw [worstm_len]; exact hkn)
     rw [hm] at c0
     have z0 := hb.frozen k
     have yl := hb.lt
     have HSET := zH (worstm_set l ids j k hkn)
     have hwt := HWT.out k
     have hha : hourAt f k = f.hours[k]'(by rw [HF.out.2]; exact hlt) := by
      unfold hourAt
      rw [Int.toNat_natCast, List.getD_eq_getElem?_getD, List.getElem?_eq_getElem (by rw [HF.out.2]; exact hlt)]; rfl
     rw [hha] at hwt
     obtain ⟨r, hr⟩ : ∃ r, r = f.hours[k]'(by rw [HF.out.2]; exact hlt) := ⟨_, rfl⟩
     rw [← hr] at r1 r2 hwt
     have hwt := hwt
     obtain ⟨m0, hm0⟩ : ∃ m, m = worstF l (ids.take j) k := ⟨_, rfl⟩
     rw [← hm0] at c0 hwt
     have HWK := zH hwt
     have hix3 : (0 : Int) ≤ (k : Int) ∧ (k : Int) < (n : Int) := by omega
     obtain ⟨W3, hW3⟩ : ∃ W, W = wr.alloc (.cells #[.int .i64 r.lo, .int .i64 r.hi] 99) := ⟨_, rfl⟩
     have HB3 := zH (show Bx W3 wr.heap.size [.int .i64 r.lo, .int .i64 r.hi] 99 by subst hW3; exact Bx.new wr [_, _] _)
     have HS3 := zH (show Step wr W3 by subst hW3; exact Step.alloc _ _)
     have HW3 := zH hW3
     have HC0 := zH (And.intro c0 z0)
     clear hb hX hp3 hc3 hbl3 hm hha hr hm0 hwt hW3 c0 z0
     go_upto_region 13 with (fail)
     rw [← HW3.out]
     have HT := zH (Step.refl W3)
     have HCW := zH (And.intro (HS3.out.kc HC0.out.1) ((HS3.out.cells.2 _ k yl).trans HC0.out.2))
     have HYL := zH (Nat.lt_of_lt_of_le yl HS3.out.size)
     clear yl r1 r2
     refine wp_region_seq (kdOf [] []) [0, 0, 0, 0, 12, 28, 0, 64, 252, 511, 1023] [0, 1, 2, 3, 4, 5, 6, 7, 8, 9] [10] (by kernel_rfl) (by kernel_rfl) (fun i T z hi hk => by simp [kdOf] at hk <;> (try (split at hk <;> cases hk))) ?_
     intro Wx hWx
     have HTx := zH (HT.out.trans hWx)
     clear hWx HT
     have HT := HTx
     clear HTx
     have s0 := (HB3.out.step HT.out).cell 0
     have s1 := (HB3.out.step HT.out).cell 1
     simp only [zD, zE] at s0 s1
     have c0 := HT.out.kc HCW.out.1
     repeat ((first | (refine run_off rfl rfl (by rfl) ?_) | (refine run_chain_off rfl rfl (by rfl) (K0_mono _) ?_) | ((refine run_want rfl rfl (by rfl) ⟨?_, fun W hW => ?_, ?_⟩; rotate_left; (· (have d0 := hW.kc s0; have d1 := hW.kc s1; have d2 := hW.kc c0; go_simp; (try with_reducible rfl)))))); (try simp only [Act.put, zA, zB, zC]))
     clear s0 s1 c0
     refine run_end (L := [_]) rfl (fun W6 hW6 => ?_)
     have HT6 := zH (HT.out.trans hW6)
     clear hW6 HT
     have HT := HT6
     clear HT6
     have c0 := HT.out.kc HCW.out.1
     have z0 := (HT.out.cells.2 _ k HYL.out).trans HCW.out.2
     have yl := Nat.lt_of_lt_of_le HYL.out HT.out.size
     have hM : (if m0 < r.hi then r.hi else m0) = worstF l (ids.take (j + 1)) k := by rw [HWK.out]; omega
     rw [hM]
     obtain ⟨M, hMM⟩ : ∃ M, M = worstF l (ids.take (j + 1)) k := ⟨_, rfl⟩
     rw [← hMM]
     have HM := zH hMM
     clear hM hMM
     go_wp2
     go_roundw
     case rel => exact ⟨k + 1, by omega, by go_num, by rw [← HSET.out, ← HM.out, ← ints_set]; exact (HBI.out.step (HS3.out.trans HT.out)).setCell _ _, (HXI.out.trans (.of (HS3.out.trans HT.out))).setCell ⟨wn.heap.size, k, none⟩ _ rfl⟩
     case measure => simp [intOf]; omega
    ·have hke : k = hoursN l := by have := HNN.out; omega
     subst hke
     rw [worstm_next] at hb
     have HN2 := zH (And.intro hb (HX.out.trans hX))
     have hwj : wrap64 ((j : Int) + 1) = (j : Int) + 1 := by have := HLN.out; unfold wrap64; omega
     clear hb hX
     go_wp2
     go_roundw
     case rel => exact ⟨j + 1, by clear hwj; omega, by go_num, HN2.out.1, HN2.out.2⟩
     case measure => (try rw [hwj]); clear hwj; simp [intOf]; omega
  ·have hje : j = ids.length := by omega
   subst hje
   rw [worstm_end] at hb
   have HF := zH (SL.bx_ints hb (S := Old w) (by unfold Old; have := HZ.out; omega) n (by simp [worstL]; have := HNN.out; omega) (by simp [worstL]; have := HNN.out; omega))
   clear hb hX
   go_wp2
   go_ret2
   refine ⟨_, by rw [HW1.out]; rfl, ?_, StepX.fresh HS.out HX.out (fun b hb => by have := HZ.out; omega)⟩
   rw [HW2.out]
   have hlw : (worstL l ids).length = n := by rw [HNN.out]; simp [worstL]
   have hfin := HF.out
   rw [hlw] at hfin
   exact hfin
theorem equal_stage (a b c d : Int) (w : World) : (Op.equal 131 (.agg #[.int .i64 a, .int .i64 b]) (.agg #[.int .i64 c, .int .i64 d])).run Try.prog w = .ok (a == c && b == d) w := by
 unfold Op.equal Op.maxDepth
 rw [run_equalIn_agg (w := w) 9999 131 _ _ (by kernel_rfl) (by kernel_rfl)]
 have hf : (Try.prog.fieldsOf 131).toList.map (fun f => (f.name, f.type, f.offset)) = [("Cover", 3, 0), ("Minutes", 3, 1)] := by kernel_rfl
 obtain ⟨f, g, hfg⟩ : ∃ f g, (Try.prog.fieldsOf 131).toList = [f, g] := by
  cases hl : (Try.prog.fieldsOf 131).toList with
  | nil => simp [hl] at hf
  | cons f l =>
   cases l with
   | nil => simp [hl] at hf
   | cons g l =>
    cases l with
    | nil => exact ⟨f, g, rfl⟩
    | cons _ _ => simp [hl] at hf
 rw [hfg] at hf ⊢
 simp only [List.map_cons, List.map_nil, List.cons.injEq, Prod.mk.injEq, and_true] at hf
 obtain ⟨⟨n1, t1, o1⟩, n2, t2, o2⟩ := hf
 have hi : Try.prog.underlying 3 = some (.int .i64) := by kernel_rfl
 simp [Op.eqFields, n1, n2, t1, t2, o1, o2, hi, part, run_underlying hi]
 have hq : ∀ (a b : Int) (w : World), (Op.equalIn 9999 3 (.int .i64 a) (.int .i64 b)).run Try.prog w = .ok (a == b) w := fun a b w => run_equalIn_int (w := w) 9998 _ _ .i64 _ _ hi
 simp only [hq, Result.andThen_ok]
 cases a == c <;> cases b == d <;> simp [Result.andThen]
theorem eql_stage (a b c d : Int) (w : World) : (binOp .eql 131 (.agg #[.int .i64 a, .int .i64 b]) (.agg #[.int .i64 c, .int .i64 d])).run Try.prog w = .ok (.bool (veq a b c d)) w := by
 have h := equal_stage a b c d w
 unfold Op.equal Op.maxDepth at h
 rw [run_eql_struct, h]
 rfl
attribute [local go_sem] eql_stage
theorem all_corner (l : List Vec) (v : Value) (w : World) (hv : SL (fun _ => False) w v l) : Calls Try.prog 92 #[v, .func (.func 93) #[] #[]] w fun e w' => e = .returned (.bool (l.all baseB)) ∧ Step w w' :=
 (all_gvec (fun _ => False) l v w 93 #[] (Go.Proofs.enters_of Try.func93 (by kernel_rfl) rfl) baseB (fun _ W => Step w W) (fun _ => False) (fun _ h => h.elim)
  (fun _ W hW => hv.keep (.of_step hW)) (fun _ _ _ h1 h2 => h1.trans h2) (Step.refl _) (fun i hi W u hW _ hu => by
   subst hu
   refine (corner_gale _ W).mono ?_
   rintro e w' ⟨rfl, hs⟩
   exact ⟨rfl, hW.trans hs, hs⟩)).mono fun e w' ⟨h, k, _, _, hs⟩ => ⟨h, hs⟩
theorem valid_ok (s : Site) (u : Value) (w : World) (hu : AV (fun _ => False) w u s) (hs : siteB s = true) : Calls Try.prog 63 #[u] w fun e w' => e = .returned (.bool true) ∧ Step w w' := by
 obtain ⟨c0, c1, c2, rfl, h0, h1, h2⟩ := hu.site
 have hm1 := h1.len
 obtain ⟨p0, k0, rfl⟩ := h0.form
 obtain ⟨p1, k1, rfl⟩ := h1.form
 obtain ⟨p2, k2, rfl⟩ := h2.form
 have hok := site_ok hs
 obtain ⟨W0, hW0⟩ : ∃ W, W = w.alloc (.cells #[.slice p0 s.base.length k0, .slice p1 s.levels.length k1, .slice p2 s.stages.length k2, .int .i64 s.openS] 63) := ⟨_, rfl⟩
 have hbx : Bx W0 w.heap.size [.slice p0 s.base.length k0, .slice p1 s.levels.length k1, .slice p2 s.stages.length k2, .int .i64 s.openS] 63 := by subst hW0; exact Bx.new w [_, _, _, _] _
 have hS : Step w W0 := by subst hW0; exact Step.alloc _ _
 have HB := zH hbx
 have HS := zH hS
 have HW := zH hW0
 have HV0 := zH (SL.go h0 hS)
 have HV1 := zH (SL.go h1 hS)
 have HV2 := zH (SL.go h2 hS)
 have HOK := zH hok
 have HT := zH (Step.refl W0)
 have hw1 : withinB (s.base.length : Int) 1 12 = true := by have := hok.base; simp [withinB]; omega
 have hw2 : withinB (s.levels.length : Int) 1 10 = true := by have := hok.nlev; simp [withinB]; omega
 have hw3 : withinB (s.stages.length : Int) 2 8 = true := by have := hok.nst; simp [withinB]; omega
 have HWI := zH (And.intro hw1 (And.intro hw2 hw3))
 have b0 := hbx.cell 0
 have b1 := hbx.cell 1
 have b2 := hbx.cell 2
 simp only [zD, zE] at b0 b1 b2
 clear hbx hS hW0 h0 h1 h2 hu hok hw1 hw2 hw3 hs
 go_enter Try.func63, Try.ntmps63
 go_wp2_with fail
 rw [← HW.out]
 refine (gale.within_any _ _ _ _).mono ?_
 rintro e wn ⟨rfl, rfl⟩
 rw [HWI.out.1]
 go_wp2_with fail
 refine (all_corner s.base _ _ HV0.out).mono ?_
 rintro e wn ⟨rfl, hSn⟩
 rw [HOK.out.corners]
 have HTi := zH (HT.out.trans hSn)
 clear HT hSn b0 b1 b2
 have HT := HTi
 clear HTi
 have b1 := (HB.out.step HT.out).cell 1
 have b2 := (HB.out.step HT.out).cell 2
 simp only [zD, zE] at b1 b2
 go_wp2_with fail
 refine (gale.within_any _ _ _ _).mono ?_
 rintro e wx ⟨rfl, rfl⟩
 rw [HWI.out.2.1]
 go_wp2_with fail
 refine (gale.within_any _ _ _ _).mono ?_
 rintro e wx ⟨rfl, rfl⟩
 rw [HWI.out.2.2]
 go_wp2
 clear b1 b2
 go_loopw [36] (fun i wr => ∃ k : Nat, k ≤ s.levels.length ∧ i = .int .i64 k ∧ Step W0 wr) (fun i _ => s.levels.length - (intOf i).toNat)
 case atStart => exact ⟨0, Nat.zero_le _, rfl, HT.out⟩
 case round =>
  obtain ⟨k, hk, rfl, hT⟩ := hrel
  have HTR := zH hT
  clear hT HT
  by_cases hlt : k < s.levels.length
  ·obtain ⟨q1, d1, bb, oo, he, _, _, hp, hc, hbl⟩ := (SL.go HV1.out HTR.out).lvls
   injection he with he1 _ he3
   subst he1 he3
   obtain rfl := hp (by omega)
   obtain ⟨e1, e2⟩ := hc k hlt
   have hix : (0 : Int) ≤ (k : Int) ∧ (k : Int) < (s.levels.length : Int) := by omega
   have hlv := HOK.out.lev k hlt
   have HPRE := zH (fun (j : Nat) (hj : j + 1 = k) => And.intro (hc j (by omega)) (HOK.out.rise j (by omega)))
   obtain ⟨x, hx⟩ : ∃ x, x = s.levels[k] := ⟨_, rfl⟩
   rw [← hx] at e1 e2 hlv
   have HXX := zH hx
   obtain ⟨xu, xp⟩ := x
   dsimp only at e1 e2 hlv
   have HU := zH (show withinB xu 0 1000 = true by simp [withinB]; omega)
   have HP := zH (show withinB xp 0 100 = true by simp [withinB]; omega)
   obtain ⟨W3, hW3⟩ : ∃ W, W = wr.alloc (.cells #[.int .i64 xu, .int .i64 xp] 135) := ⟨_, rfl⟩
   have HB3 := zH (show Bx W3 wr.heap.size [.int .i64 xu, .int .i64 xp] 135 by subst hW3; exact Bx.new wr [_, _] _)
   have HS3 := zH (show Step wr W3 by subst hW3; exact Step.alloc _ _)
   have HW3 := zH hW3
   have HT := zH (Step.refl W3)
   have HBC := zH ((HB.out.step (HTR.out.trans HS3.out)).cell 1)
   simp only [zD, zE] at HBC
   clear hp hc hbl hx hlv hW3
   go_upto_region 6 with (fail)
   rw [← HW3.out]
   clear e1 e2
   cases k with
   | zero =>
    have d0 : decide (0 < ((0 : Nat) : Int)) = false := by decide
    refine wp_region_seq (kdOf [2, 7] []) (0 :: 1 :: 3 :: 7 :: 15 :: 31 :: 63 :: 127 :: 255 :: 511 :: 1023 :: 2047 :: 4095 :: 8191 :: 16383 :: 32767 :: 16383 :: 81919 :: 16383 :: 278527 :: 999423 :: 2047999 :: 4145151 :: 8388607 :: 16777215 :: 33554431 :: 67108863 :: 33554431 :: 167772159 :: 33554431 :: 570425343 :: 2046820351 :: 4194303999 :: 8489271295 :: 17179869183 :: 34359738367 :: 68719476735 :: 137438953471 :: []) (0 :: 1 :: 2 :: 3 :: 4 :: 5 :: 6 :: 7 :: 8 :: 9 :: 10 :: 11 :: 12 :: 13 :: 14 :: 15 :: 16 :: 17 :: 18 :: 19 :: 20 :: 21 :: 22 :: 23 :: 24 :: 25 :: 26 :: 27 :: 28 :: 29 :: 30 :: 31 :: 32 :: 33 :: 34 :: 35 :: 36 :: 37 :: []) [] (by kernel_rfl) (by kernel_rfl) (fun i T z hi hk => by simp [kdOf] at hk <;> (try (split at hk <;> cases hk))) ?_
    intro Wx hWx
    have HTx := zH (HT.out.trans hWx)
    clear hWx HT
    have HT := HTx
    clear HTx
    have x0 := (HB3.out.step HT.out).cell 0
    have x1 := (HB3.out.step HT.out).cell 1
    have b1 := HT.out.kc HBC.out
    simp only [zD, zE] at x0 x1
    repeat ((first | (refine run_off rfl rfl (by rfl) ?_) | (refine run_chain_off rfl rfl (by rfl) (K0_mono _) ?_) | ((refine run_want rfl rfl (by rfl) ⟨?_, fun W hW => ?_, ?_⟩; rotate_left; (· (have d0 := hW.kc x0; have d1 := hW.kc x1; have d2 := hW.kc b1; go_simp; (try with_reducible rfl)))))); (try simp only [Act.put, zA, zB, zC]))
    clear x0 x1 b1
    refine run_chain rfl rfl (by rfl) (fun Wi hWi K' hK => ?_)
    have HTi := zH (HT.out.trans hWi)
    clear hWi HT
    go_simp
    refine (gale.within_any _ _ _ _).mono ?_
    rintro e wn ⟨rfl, rfl⟩
    rw [HU.out]
    have HT := HTi
    clear HTi
    refine hK _ _ (StepX.refl _ _) ?_
    (try simp only [Act.put, zA, zB, zC])
    have x0 := (HB3.out.step HT.out).cell 0
    have x1 := (HB3.out.step HT.out).cell 1
    have b1 := HT.out.kc HBC.out
    simp only [zD, zE] at x0 x1
    repeat ((first | (refine run_off rfl rfl (by rfl) ?_) | (refine run_chain_off rfl rfl (by rfl) (K0_mono _) ?_) | ((refine run_want rfl rfl (by rfl) ⟨?_, fun W hW => ?_, ?_⟩; rotate_left; (· (have d0 := hW.kc x0; have d1 := hW.kc x1; have d2 := hW.kc b1; go_simp; (try with_reducible rfl)))))); (try simp only [Act.put, zA, zB, zC]))
    clear x0 x1 b1
    refine run_chain rfl rfl (by rfl) (fun Wi hWi K' hK => ?_)
    have HTi := zH (HT.out.trans hWi)
    clear hWi HT
    go_simp
    refine (gale.within_any _ _ _ _).mono ?_
    rintro e wn ⟨rfl, rfl⟩
    rw [HP.out]
    have HT := HTi
    clear HTi
    refine hK _ _ (StepX.refl _ _) ?_
    (try simp only [Act.put, zA, zB, zC])
    have x0 := (HB3.out.step HT.out).cell 0
    have x1 := (HB3.out.step HT.out).cell 1
    have b1 := HT.out.kc HBC.out
    simp only [zD, zE] at x0 x1
    repeat ((first | (refine run_off rfl rfl (by rfl) ?_) | (refine run_chain_off rfl rfl (by rfl) (K0_mono _) ?_) | ((refine run_want rfl rfl (by rfl) ⟨?_, fun W hW => ?_, ?_⟩; rotate_left; (· (have d0 := hW.kc x0; have d1 := hW.kc x1; have d2 := hW.kc b1; go_simp; (try with_reducible rfl)))))); (try simp only [Act.put, zA, zB, zC]))
    clear x0 x1 b1
    refine run_end (L := []) rfl (fun W6 hW6 => ?_)
    have HT6 := zH (HT.out.trans hW6)
    clear hW6 HT
    have HT := HT6
    clear HT6
    go_wp2
    go_roundw
    case rel => exact ⟨1, by omega, by go_num, HTR.out.trans (HS3.out.trans HT.out)⟩
    case measure => simp [intOf]; omega
   | succ j =>
    have hpre := HPRE.out j rfl
    rw [← HXX.out] at hpre
    obtain ⟨⟨g1, g2⟩, g3, g4⟩ := hpre
    have hjx : (0 : Int) ≤ (j : Int) ∧ (j : Int) < (s.levels.length : Int) := by omega
    have hwj : IntKind.i64.wrap (j : Int) = (j : Int) := by rw [IntKind.wrap_i64]; omega
    have hd0 : decide ((0 : Int) < ((j + 1 : Nat) : Int)) = true := decide_eq_true (by omega)
    obtain ⟨y, hy⟩ : ∃ y, y = s.levels[j] := ⟨_, rfl⟩
    rw [← hy] at g1 g2 g3 g4
    obtain ⟨yu, yp⟩ := y
    dsimp only at g1 g2 g3 g4
    have HG := zH (And.intro (HS3.out.kc g1) (HS3.out.kc g2))
    have d1 : decide (xu ≤ yu) = false := decide_eq_false (by omega)
    have d2 : decide (xp < yp) = false := decide_eq_false (by omega)
    clear g1 g2 g3 g4 hy
    refine wp_region_seq (kdOf [2, 7] []) (0 :: 1 :: 3 :: 7 :: 15 :: 31 :: 63 :: 127 :: 255 :: 511 :: 1023 :: 2047 :: 4095 :: 8191 :: 16383 :: 32767 :: 16383 :: 81919 :: 16383 :: 278527 :: 999423 :: 2047999 :: 4145151 :: 8388607 :: 16777215 :: 33554431 :: 67108863 :: 33554431 :: 167772159 :: 33554431 :: 570425343 :: 2046820351 :: 4194303999 :: 8489271295 :: 17179869183 :: 34359738367 :: 68719476735 :: 137438953471 :: []) (0 :: 1 :: 2 :: 3 :: 4 :: 5 :: 6 :: 7 :: 8 :: 9 :: 10 :: 11 :: 12 :: 13 :: 14 :: 15 :: 16 :: 17 :: 18 :: 19 :: 20 :: 21 :: 22 :: 23 :: 24 :: 25 :: 26 :: 27 :: 28 :: 29 :: 30 :: 31 :: 32 :: 33 :: 34 :: 35 :: 36 :: 37 :: []) [] (by kernel_rfl) (by kernel_rfl) (fun i T z hi hk => by simp [kdOf] at hk <;> (try (split at hk <;> cases hk))) ?_
    intro Wx hWx
    have HTx := zH (HT.out.trans hWx)
    clear hWx HT
    have HT := HTx
    clear HTx
    have x0 := (HB3.out.step HT.out).cell 0
    have x1 := (HB3.out.step HT.out).cell 1
    have b1 := HT.out.kc HBC.out
    simp only [zD, zE] at x0 x1
    repeat ((first | (refine run_off rfl rfl (by rfl) ?_) | (refine run_chain_off rfl rfl (by rfl) (K0_mono _) ?_) | ((refine run_want rfl rfl (by rfl) ⟨?_, fun W hW => ?_, ?_⟩; rotate_left; (· (have d0 := hW.kc x0; have d1 := hW.kc x1; have d2 := hW.kc b1; go_simp; (try with_reducible rfl)))))); (try simp only [Act.put, zA, zB, zC]))
    clear x0 x1 b1
    refine run_chain rfl rfl (by rfl) (fun Wi hWi K' hK => ?_)
    have HTi := zH (HT.out.trans hWi)
    clear hWi HT
    go_simp
    refine (gale.within_any _ _ _ _).mono ?_
    rintro e wn ⟨rfl, rfl⟩
    rw [HU.out]
    have HT := HTi
    clear HTi
    refine hK _ _ (StepX.refl _ _) ?_
    (try simp only [Act.put, zA, zB, zC])
    have x0 := (HB3.out.step HT.out).cell 0
    have x1 := (HB3.out.step HT.out).cell 1
    have b1 := HT.out.kc HBC.out
    simp only [zD, zE] at x0 x1
    repeat ((first | (refine run_off rfl rfl (by rfl) ?_) | (refine run_chain_off rfl rfl (by rfl) (K0_mono _) ?_) | ((refine run_want rfl rfl (by rfl) ⟨?_, fun W hW => ?_, ?_⟩; rotate_left; (· (have d0 := hW.kc x0; have d1 := hW.kc x1; have d2 := hW.kc b1; go_simp; (try with_reducible rfl)))))); (try simp only [Act.put, zA, zB, zC]))
    clear x0 x1 b1
    refine run_chain rfl rfl (by rfl) (fun Wi hWi K' hK => ?_)
    have HTi := zH (HT.out.trans hWi)
    clear hWi HT
    go_simp
    refine (gale.within_any _ _ _ _).mono ?_
    rintro e wn ⟨rfl, rfl⟩
    rw [HP.out]
    have HT := HTi
    clear HTi
    refine hK _ _ (StepX.refl _ _) ?_
    (try simp only [Act.put, zA, zB, zC])
    have g1 := HT.out.kc HG.out.1
    have g2 := HT.out.kc HG.out.2
    have x0 := (HB3.out.step HT.out).cell 0
    have x1 := (HB3.out.step HT.out).cell 1
    have b1 := HT.out.kc HBC.out
    simp only [zD, zE] at x0 x1
    repeat ((first | (refine run_off rfl rfl (by rfl) ?_) | (refine run_chain_off rfl rfl (by rfl) (K0_mono _) ?_) | ((refine run_want rfl rfl (by rfl) ⟨?_, fun W hW => ?_, ?_⟩; rotate_left; (· (have d0 := hW.kc x0; have d1 := hW.kc x1; have d2 := hW.kc b1; have d3 := hW.kc g1; have d4 := hW.kc g2; go_simp; (try with_reducible rfl)))))); (try simp only [Act.put, zA, zB, zC]))
    clear x0 x1 b1
    clear g1 g2
    refine run_end (L := []) rfl (fun W6 hW6 => ?_)
    have HT6 := zH (HT.out.trans hW6)
    clear hW6 HT
    have HT := HT6
    clear HT6
    go_wp2
    go_roundw
    case rel => exact ⟨j + 1 + 1, by omega, by go_num, HTR.out.trans (HS3.out.trans HT.out)⟩
    case measure => simp [intOf]; omega
  ·have HT := HTR
   clear HTR
   obtain ⟨m, hm⟩ : ∃ m, s.stages.length = m + 1 := ⟨s.stages.length - 1, by have := HOK.out.nst; omega⟩
   have hmb : 1 ≤ m ∧ m ≤ 7 := by have := HOK.out.nst; omega
   have b2 := (HB.out.step HT.out).cell 2
   simp only [zD, zE] at b2
   rw [hm] at b2
   obtain ⟨q1, d1, bb, oo, he, hcap, _, hp, hc, hbl⟩ := (SL.go HV2.out HT.out).stgs
   injection he with he1 _ he3
   subst he1 he3
   obtain rfl := hp (by omega)
   rw [hm] at hcap
   have hwm : IntKind.i64.wrap (m : Int) = (m : Int) := by rw [IntKind.wrap_i64]; omega
   have hwm2 : IntKind.i64.wrap (((m + 1 : Nat) : Int) - 1) = (m : Int) := by rw [IntKind.wrap_i64]; omega
   have HM := zH (And.intro hm hmb)
   have HCAP := zH hcap
   have hcm : m ≤ k2 := by omega
   clear hp hc hbl hcap
   go_upto_region 11 with (fail)
   clear hlt hk
   go_loopw [89] (fun i wr' => ∃ k : Nat, k ≤ m ∧ i = .int .i64 k ∧ Step W0 wr') (fun i _ => m - (intOf i).toNat)
   case atStart => exact ⟨0, Nat.zero_le _, rfl, HT.out⟩
   case round =>
    obtain ⟨k, hk, rfl, hT⟩ := hrel
    have HTR := zH hT
    clear hT HT b2
    by_cases hlt : k < m
    ·obtain ⟨q1, d1, bb', oo', he, _, _, hp, hc, hbl⟩ := (SL.go HV2.out HTR.out).stgs
     injection he with he1 _ he3
     subst he3
     have hpp := hp (by have := HM.out; omega)
     rw [hpp] at he1
     injection he1 with he1
     injection he1 with he4 he5 _
     subst he4 he5
     have hL := HM.out.1
     obtain ⟨e1, e2⟩ := hc k (by omega)
     have hix : (0 : Int) ≤ (k : Int) ∧ (k : Int) < (m : Int) := by omega
     have hlv := HOK.out.st k (by omega)
     have HPRE := zH (fun (j : Nat) (hj : j + 1 = k) => And.intro (hc j (by omega)) (HOK.out.fall j (by omega)))
     obtain ⟨x, hx⟩ : ∃ x, x = s.stages[k]'(by omega) := ⟨_, rfl⟩
     rw [← hx] at e1 e2 hlv
     have HXX := zH hx
     obtain ⟨xu, xp⟩ := x
     dsimp only at e1 e2 hlv
     have HU := zH (show withinB xu 1 100 = true by simp [withinB]; omega)
     have HP := zH (show withinB xp 1 240 = true by simp [withinB]; omega)
     obtain ⟨W3, hW3⟩ : ∃ W, W = wr.alloc (.cells #[.int .i64 xu, .int .i64 xp] 131) := ⟨_, rfl⟩
     have HB3 := zH (show Bx W3 wr.heap.size [.int .i64 xu, .int .i64 xp] 131 by subst hW3; exact Bx.new wr [_, _] _)
     have HS3 := zH (show Step wr W3 by subst hW3; exact Step.alloc _ _)
     have HW3 := zH hW3
     have HT := zH (Step.refl W3)
     have HBC := zH ((HB.out.step (HTR.out.trans HS3.out)).cell 2)
     simp only [zD, zE] at HBC
     rw [hL] at HBC
     clear hp hpp hc hbl hx hlv hW3 hL
     go_upto_region 13 with (fail)
     rw [← HW3.out]
     clear e1 e2
     cases k with
     | zero =>
      have d0 : decide (0 < ((0 : Nat) : Int)) = false := by decide
      refine wp_region_seq (kdOf [2, 7] []) (0 :: 1 :: 3 :: 7 :: 15 :: 31 :: 63 :: 127 :: 255 :: 511 :: 1023 :: 2047 :: 4095 :: 8191 :: 16383 :: 32767 :: 16383 :: 81919 :: 16383 :: 278527 :: 999423 :: 2047999 :: 4145151 :: 8388607 :: 16777215 :: 33554431 :: []) (0 :: 1 :: 2 :: 3 :: 4 :: 5 :: 6 :: 7 :: 8 :: 9 :: 10 :: 11 :: 12 :: 13 :: 14 :: 15 :: 16 :: 17 :: 18 :: 19 :: 20 :: 21 :: 22 :: 23 :: 24 :: 25 :: []) [] (by kernel_rfl) (by kernel_rfl) (fun i T z hi hk => by simp [kdOf] at hk <;> (try (split at hk <;> cases hk))) ?_
      intro Wx hWx
      have HTx := zH (HT.out.trans hWx)
      clear hWx HT
      have HT := HTx
      clear HTx
      have x0 := (HB3.out.step HT.out).cell 0
      have x1 := (HB3.out.step HT.out).cell 1
      have b1 := HT.out.kc HBC.out
      simp only [zD, zE] at x0 x1
      repeat ((first | (refine run_off rfl rfl (by rfl) ?_) | (refine run_chain_off rfl rfl (by rfl) (K0_mono _) ?_) | ((refine run_want rfl rfl (by rfl) ⟨?_, fun W hW => ?_, ?_⟩; rotate_left; (· (have d0 := hW.kc x0; have d1 := hW.kc x1; have d2 := hW.kc b1; go_simp; (try with_reducible rfl)))))); (try simp only [Act.put, zA, zB, zC]))
      clear x0 x1 b1
      refine run_chain rfl rfl (by rfl) (fun Wi hWi K' hK => ?_)
      have HTi := zH (HT.out.trans hWi)
      clear hWi HT
      go_simp
      refine (gale.within_any _ _ _ _).mono ?_
      rintro e wn ⟨rfl, rfl⟩
      rw [HU.out]
      have HT := HTi
      clear HTi
      refine hK _ _ (StepX.refl _ _) ?_
      (try simp only [Act.put, zA, zB, zC])
      have x0 := (HB3.out.step HT.out).cell 0
      have x1 := (HB3.out.step HT.out).cell 1
      have b1 := HT.out.kc HBC.out
      simp only [zD, zE] at x0 x1
      repeat ((first | (refine run_off rfl rfl (by rfl) ?_) | (refine run_chain_off rfl rfl (by rfl) (K0_mono _) ?_) | ((refine run_want rfl rfl (by rfl) ⟨?_, fun W hW => ?_, ?_⟩; rotate_left; (· (have d0 := hW.kc x0; have d1 := hW.kc x1; have d2 := hW.kc b1; go_simp; (try with_reducible rfl)))))); (try simp only [Act.put, zA, zB, zC]))
      clear x0 x1 b1
      refine run_chain rfl rfl (by rfl) (fun Wi hWi K' hK => ?_)
      have HTi := zH (HT.out.trans hWi)
      clear hWi HT
      go_simp
      refine (gale.within_any _ _ _ _).mono ?_
      rintro e wn ⟨rfl, rfl⟩
      rw [HP.out]
      have HT := HTi
      clear HTi
      refine hK _ _ (StepX.refl _ _) ?_
      (try simp only [Act.put, zA, zB, zC])
      have x0 := (HB3.out.step HT.out).cell 0
      have x1 := (HB3.out.step HT.out).cell 1
      have b1 := HT.out.kc HBC.out
      simp only [zD, zE] at x0 x1
      repeat ((first | (refine run_off rfl rfl (by rfl) ?_) | (refine run_chain_off rfl rfl (by rfl) (K0_mono _) ?_) | ((refine run_want rfl rfl (by rfl) ⟨?_, fun W hW => ?_, ?_⟩; rotate_left; (· (have d0 := hW.kc x0; have d1 := hW.kc x1; have d2 := hW.kc b1; go_simp; (try with_reducible rfl)))))); (try simp only [Act.put, zA, zB, zC]))
      clear x0 x1 b1
      refine run_end (L := []) rfl (fun W6 hW6 => ?_)
      have HT6 := zH (HT.out.trans hW6)
      clear hW6 HT
      have HT := HT6
      clear HT6
      go_wp2
      go_roundw
      case rel => exact ⟨1, by omega, by go_num, HTR.out.trans (HS3.out.trans HT.out)⟩
      case measure => simp [intOf]; omega
     | succ j =>
      have hpre := HPRE.out j rfl
      obtain ⟨⟨g1, g2⟩, g3⟩ := hpre
      rw [← HXX.out] at g3
      have hjx : (0 : Int) ≤ (j : Int) ∧ (j : Int) < ((m + 1 : Nat) : Int) := by omega
      have hjx2 : (j : Int) < (m : Int) + 1 := by omega
      have hwj : IntKind.i64.wrap (j : Int) = (j : Int) := by rw [IntKind.wrap_i64]; omega
      have hd0 : decide ((0 : Int) < ((j + 1 : Nat) : Int)) = true := decide_eq_true (by omega)
      obtain ⟨y, hy⟩ : ∃ y, y = s.stages[j]'(by have := HM.out.1; omega) := ⟨_, rfl⟩
      rw [← hy] at g1 g2 g3
      obtain ⟨yu, yp⟩ := y
      dsimp only at g1 g2 g3
      have HG := zH (And.intro (HS3.out.kc g1) (HS3.out.kc g2))
      have d1 : decide (yu ≤ xu) = false := decide_eq_false (by omega)
      clear g1 g2 g3 hy
      refine wp_region_seq (kdOf [2, 7] []) (0 :: 1 :: 3 :: 7 :: 15 :: 31 :: 63 :: 127 :: 255 :: 511 :: 1023 :: 2047 :: 4095 :: 8191 :: 16383 :: 32767 :: 16383 :: 81919 :: 16383 :: 278527 :: 999423 :: 2047999 :: 4145151 :: 8388607 :: 16777215 :: 33554431 :: []) (0 :: 1 :: 2 :: 3 :: 4 :: 5 :: 6 :: 7 :: 8 :: 9 :: 10 :: 11 :: 12 :: 13 :: 14 :: 15 :: 16 :: 17 :: 18 :: 19 :: 20 :: 21 :: 22 :: 23 :: 24 :: 25 :: []) [] (by kernel_rfl) (by kernel_rfl) (fun i T z hi hk => by simp [kdOf] at hk <;> (try (split at hk <;> cases hk))) ?_
      intro Wx hWx
      have HTx := zH (HT.out.trans hWx)
      clear hWx HT
      have HT := HTx
      clear HTx
      have x0 := (HB3.out.step HT.out).cell 0
      have x1 := (HB3.out.step HT.out).cell 1
      have b1 := HT.out.kc HBC.out
      simp only [zD, zE] at x0 x1
      repeat ((first | (refine run_off rfl rfl (by rfl) ?_) | (refine run_chain_off rfl rfl (by rfl) (K0_mono _) ?_) | ((refine run_want rfl rfl (by rfl) ⟨?_, fun W hW => ?_, ?_⟩; rotate_left; (· (have d0 := hW.kc x0; have d1 := hW.kc x1; have d2 := hW.kc b1; go_simp; (try with_reducible rfl)))))); (try simp only [Act.put, zA, zB, zC]))
      clear x0 x1 b1
      refine run_chain rfl rfl (by rfl) (fun Wi hWi K' hK => ?_)
      have HTi := zH (HT.out.trans hWi)
      clear hWi HT
      go_simp
      refine (gale.within_any _ _ _ _).mono ?_
      rintro e wn ⟨rfl, rfl⟩
      rw [HU.out]
      have HT := HTi
      clear HTi
      refine hK _ _ (StepX.refl _ _) ?_
      (try simp only [Act.put, zA, zB, zC])
      have x0 := (HB3.out.step HT.out).cell 0
      have x1 := (HB3.out.step HT.out).cell 1
      have b1 := HT.out.kc HBC.out
      simp only [zD, zE] at x0 x1
      repeat ((first | (refine run_off rfl rfl (by rfl) ?_) | (refine run_chain_off rfl rfl (by rfl) (K0_mono _) ?_) | ((refine run_want rfl rfl (by rfl) ⟨?_, fun W hW => ?_, ?_⟩; rotate_left; (· (have d0 := hW.kc x0; have d1 := hW.kc x1; have d2 := hW.kc b1; go_simp; (try with_reducible rfl)))))); (try simp only [Act.put, zA, zB, zC]))
      clear x0 x1 b1
      refine run_chain rfl rfl (by rfl) (fun Wi hWi K' hK => ?_)
      have HTi := zH (HT.out.trans hWi)
      clear hWi HT
      go_simp
      refine (gale.within_any _ _ _ _).mono ?_
      rintro e wn ⟨rfl, rfl⟩
      rw [HP.out]
      have HT := HTi
      clear HTi
      refine hK _ _ (StepX.refl _ _) ?_
      (try simp only [Act.put, zA, zB, zC])
      have g1 := HT.out.kc HG.out.1
      have g2 := HT.out.kc HG.out.2
      have x0 := (HB3.out.step HT.out).cell 0
      have x1 := (HB3.out.step HT.out).cell 1
      have b1 := HT.out.kc HBC.out
      simp only [zD, zE] at x0 x1
      repeat ((first | (refine run_off rfl rfl (by rfl) ?_) | (refine run_chain_off rfl rfl (by rfl) (K0_mono _) ?_) | ((refine run_want rfl rfl (by rfl) ⟨?_, fun W hW => ?_, ?_⟩; rotate_left; (· (have d0 := hW.kc x0; have d1 := hW.kc x1; have d2 := hW.kc b1; have d3 := hW.kc g1; have d4 := hW.kc g2; go_simp; (try with_reducible rfl)))))); (try simp only [Act.put, zA, zB, zC]))
      clear x0 x1 b1
      clear g1 g2
      refine run_end (L := []) rfl (fun W6 hW6 => ?_)
      have HT6 := zH (HT.out.trans hW6)
      clear hW6 HT
      have HT := HT6
      clear HT6
      go_wp2
      go_roundw
      case rel => exact ⟨j + 1 + 1, by omega, by go_num, HTR.out.trans (HS3.out.trans HT.out)⟩
      case measure => simp [intOf]; omega
    ·have HT := HTR
     clear HTR
     obtain ⟨q1, d1, bb', oo', he, _, _, hp, hc, hbl⟩ := (SL.go HV2.out HT.out).stgs
     injection he with he1 _ he3
     subst he3
     have hpp := hp (by have := HM.out; omega)
     rw [hpp] at he1
     injection he1 with he1
     injection he1 with he4 he5 _
     subst he4 he5
     have hL := HM.out.1
     obtain ⟨e1, e2⟩ := hc m (by omega)
     have hlast := HOK.out.last
     rw [show s.stages.length - 1 = m by omega, List.getElem?_eq_getElem (by omega)] at hlast
     have hlast := Option.some.inj hlast
     rw [hlast] at e1 e2
     dsimp only at e1 e2
     have b2 := (HB.out.step HT.out).cell 2
     have b3 := (HB.out.step HT.out).cell 3
     simp only [zD, zE] at b2 b3
     rw [hL] at b2
     have hwo : IntKind.i64.wrap ((m : Int) - 1) = (m : Int) - 1 := by rw [IntKind.wrap_i64]; omega
     have HO := zH (show withinB s.openS 0 ((m : Int) - 1) = true by have := HOK.out.opn; simp [withinB]; omega)
     clear hp hpp hc hbl hlast hL
     go_wp2_with fail
     refine (gale.within_any _ _ _ _).mono ?_
     rintro e wx ⟨rfl, rfl⟩
     rw [HO.out]
     go_wp2
     go_ret
     exact ⟨rfl, HS.out.trans HT.out⟩
end Go.Proofs.Ytfhmdpicoccnfaa
namespace Go.Proofs.Ytfhmdpicoccnfaa
set_option linter.unusedSimpArgs false
set_option linter.unusedVariables false
open Go.RowKit Go.BT
section
variable {α : Type} [Rep α] {S : Nat → Prop} {base : Nat} {P : Program} {w : World} {u : Value} {m : List α} {t e : TypeId} {z : Value} {bytes : Nat}
theorem own_apart {v : Value} {l : List α} {g : Nat} {cs : List Value} {T : TypeId} (h : OwnL S base e w v l) (hb : Bx w g cs T) (hne : e ≠ T) : v.ownBlock ≠ some g := by
 obtain ⟨xs, ⟨_, ho⟩, _⟩ := h
 rcases ho with ⟨rfl, _⟩ | ⟨g', cap, cur, rfl, _, hg, _⟩
 ·simp [Value.ownBlock]
 ·intro q
  simp [Value.ownBlock] at q
  subst q
  unfold Bx at hb
  rw [hg] at hb
  injection hb with hb
  injection hb with _ h2 _
  exact hne h2
end
end Go.Proofs.Ytfhmdpicoccnfaa
namespace Go.Proofs.Ytfhmdpicoccnfaa
set_option linter.unusedSimpArgs false
set_option linter.unusedVariables false
open Go.RowKit Go.BT
structure TentK (base : Nat) (w : World) (g c : Nat) (hs : List HeadV) (t : List Head) : Prop where
 cap : t.length ≤ c
 max : t.length ≤ 9223372036854775807
 ge : base ≤ g
 bx : ∃ cs, Bx w g cs 204
 inner : Inner base w hs t
 cells : ∀ i (h1 : i < hs.length), w.cell? ⟨g, i * 3, none⟩ = some (.int .i64 hs[i].area) ∧ w.cell? ⟨g, i * 3 + 1, none⟩ = some (.int .i64 hs[i].bears) ∧ w.cell? ⟨g, i * 3 + 2, none⟩ = some hs[i].val
theorem TentO.k {base : Nat} {w : World} {v : Value} {t : List Head} (h : TentO base w v t) (ht : 0 < t.length) : ∃ g c hs, v = .slice (some ⟨g, 0, none⟩) t.length c ∧ TentK base w g c hs t := by
 obtain ⟨hs, ho, hi⟩ := h
 have hsl := ho.sl (fun _ _ _ h => h)
 obtain ⟨xs, ⟨hx, ho⟩, hr⟩ := ho
 have hl := hi.len
 rcases ho with ⟨_, h0⟩ | ⟨g, cap, cur, rfl, hb, hg, hle, hcap, hsz, hcur⟩
 ·omega
 obtain ⟨p, c', b, o, hv, h1, h2, hp, hc⟩ := hsl
 have hbo := hp (by omega)
 injection hv with e1 e2 e3
 rw [← e1] at hbo
 injection hbo with hbo
 injection hbo with hbo1 hbo2
 subst hbo1 hbo2
 refine ⟨g, cap, hs, by rw [hl], by omega, by omega, hb, ⟨cur.toList, by unfold Bx; simpa using hg⟩, hi, fun i h1 => ?_⟩
 obtain ⟨_, _, cs, ⟨hr1, _⟩, hcs⟩ := hc i h1
 subst hr1
 have k3 : Rep.k HeadV = 3 := rfl
 rw [k3] at hcs
 exact ⟨by have := hcs 0 _ rfl; simpa using this, by have := hcs 1 _ rfl; simpa using this, by have := hcs 2 _ rfl; simpa using this⟩
theorem TentK.lt {base : Nat} {w : World} {g c : Nat} {hs : List HeadV} {t : List Head} (h : TentK base w g c hs t) : g < w.heap.size := by obtain ⟨cs, hb⟩ := h.bx; exact hb.lt
theorem TentK.ne {base : Nat} {w : World} {g c : Nat} {hs : List HeadV} {t : List Head} (h : TentK base w g c hs t) {i : Nat} (h1 : i < hs.length) : hs[i].val.ownBlock ≠ some g := by
 obtain ⟨cs, hb⟩ := h.bx
 exact own_apart (h.inner.at_ i h1 (by have := h.inner.len; omega)).2.2 hb (by decide)
theorem TentK.step {base : Nat} {w w' : World} {g c : Nat} {hs : List HeadV} {t : List Head} (h : TentK base w g c hs t) (k : Step w w') : TentK base w' g c hs t :=
 ⟨h.cap, h.max, h.ge, by obtain ⟨cs, hb⟩ := h.bx; exact ⟨cs, hb.step k⟩, h.inner.step k, fun i h1 => ⟨k.kc (h.cells i h1).1, k.kc (h.cells i h1).2.1, k.kc (h.cells i h1).2.2⟩⟩
theorem tent_sl {w : World} {g c : Nat} {t : List Head} (hg : g < w.heap.size) (hc : t.length ≤ c) (hm : t.length ≤ 9223372036854775807) (h : ∀ i (hi : i < t.length), ∃ q, w.cell? ⟨g, i * 3, none⟩ = some (.int .i64 t[i].area) ∧ w.cell? ⟨g, i * 3 + 1, none⟩ = some (.int .i64 t[i].bears) ∧ w.cell? ⟨g, i * 3 + 2, none⟩ = some q ∧ SL (fun _ => False) w q t[i].guys) : SL (fun _ => False) w (.slice (some ⟨g, 0, none⟩) t.length c) t := by
 refine ⟨_, c, g, 0, rfl, hc, hm, fun _ => rfl, fun i hi => ?_⟩
 obtain ⟨q, h1, h2, h3, h4⟩ := h i hi
 have k3 : Rep.k Head = 3 := rfl
 refine ⟨hg, id, [.int .i64 t[i].area, .int .i64 t[i].bears, q], ⟨q, rfl, h4⟩, fun j v hj => ?_⟩
 rw [k3]
 match j, hj with
 | 0, hj => injection hj with e; subst e; simpa using h1
 | 1, hj => injection hj with e; subst e; simpa using h2
 | 2, hj => injection hj with e; subst e; simpa using h3
 | (n + 3), hj => simp at hj
theorem TentK.guys {base : Nat} {w w' : World} {g c : Nat} {hs : List HeadV} {t : List Head} (h : TentK base w g c hs t) {i : Nat} (h1 : i < hs.length) (h2 : i < t.length) {b : Nat} (hb : hs[i].val.ownBlock ≠ some b) (hk : Keeps (fun j => j = b) w w') : SL (fun _ => False) w' hs[i].val t[i].guys :=
 (((ownL_flat (fun j => j = b) (h.inner.at_ i h1 h2).2.2).slb (fun g' hg' e => by subst e; exact hb hg')).keep hk).weak (fun _ _ h => h.elim)
theorem TentK.area {base : Nat} {w : World} {g c : Nat} {hs : List HeadV} {t : List Head} (h : TentK base w g c hs t) {k : Nat} (hk : k < t.length) (x : Int) : SL (fun _ => False) (w.setCell ⟨g, k * 3, none⟩ (.int .i64 x)) (.slice (some ⟨g, 0, none⟩) t.length c) (t.set k ⟨x, t[k].bears, t[k].guys⟩) := by
 have hl := h.inner.len
 have hw := Wrote.setCell w g (k * 3) (.int .i64 x)
 rw [show t.length = (t.set k ⟨x, t[k].bears, t[k].guys⟩).length by simp]
 refine tent_sl (by rw [hw.size]; exact h.lt) (by simpa using h.cap) (by simpa using h.max) fun i hi => ?_
 have hi' : i < t.length := by simpa using hi
 have h1 : i < hs.length := by omega
 obtain ⟨c1, c2, c3⟩ := h.cells i h1
 obtain ⟨a1, a2, _⟩ := h.inner.at_ i h1 hi'
 have hg := h.guys h1 hi' (h.ne h1) hw.keeps
 refine ⟨hs[i].val, ?_, ?_, ?_, ?_⟩
 ·by_cases q : k = i
  ·subst q
   rw [World.cell?_setCell_same _ _ _ c1]; simp
  ·rw [World.cell?_setCell_other _ _ _ _ (by intro e; injection e with _ e _; omega), c1, a1]
   simp [List.getElem_set, q]
 ·rw [World.cell?_setCell_other _ _ _ _ (by intro e; injection e with _ e _; omega), c2, a2]
  by_cases q : k = i
  ·subst q; simp
  ·simp [List.getElem_set, q]
 ·rw [World.cell?_setCell_other _ _ _ _ (by intro e; injection e with _ e _; omega), c3]
 ·by_cases q : k = i
  ·subst q; simpa using hg
  ·simpa [List.getElem_set, q] using hg
theorem TentK.row {base : Nat} {w : World} {g c : Nat} {hs : List HeadV} {t : List Head} (h : TentK base w g c hs t) {k : Nat} (h1 : k < hs.length) (h2 : k < t.length) (h0 : 0 < t[k].guys.length) :
  ∃ b cb, hs[k].val = .slice (some ⟨b, 0, none⟩) t[k].guys.length cb ∧ t[k].guys.length ≤ cb ∧ b ≠ g ∧ base ≤ b ∧ b < w.heap.size ∧ (∀ o, w.frozen? ⟨b, o, none⟩ = false) ∧
   ∀ i (hi : i < t[k].guys.length), w.cell? ⟨b, i * 5, none⟩ = some (.int .i64 t[k].guys[i].x) ∧ w.cell? ⟨b, i * 5 + 1, none⟩ = some (.int .i64 t[k].guys[i].y) ∧ w.cell? ⟨b, i * 5 + 2, none⟩ = some (.int .i64 t[k].guys[i].down) ∧ w.cell? ⟨b, i * 5 + 3, none⟩ = some (.int .i64 t[k].guys[i].soil) ∧ w.cell? ⟨b, i * 5 + 4, none⟩ = some (.int .i64 t[k].guys[i].depth) := by
 have ho := (h.inner.at_ k h1 h2).2.2
 have hne := h.ne h1
 have hsl := ho.slb (S := fun _ => False) (fun _ _ h => h)
 obtain ⟨xs, ⟨hx, ho⟩, hr⟩ := ho
 rcases ho with ⟨_, e⟩ | ⟨b, cap, cur, hv, hb, hg, hle, hcap, hsz, hcur⟩
 ·omega
 obtain ⟨p, c', b', o, hv', _, _, hp, hc, _⟩ := hsl.guys
 obtain rfl := hp h0
 rw [hv] at hv' hne
 injection hv' with e1 e2 e3
 injection e1 with e1
 injection e1 with e1 e4
 subst e1 e4
 refine ⟨b, cap, hv, hle, fun e => hne (by rw [e]; rfl), hb, (Array.getElem?_eq_some_iff.1 hg).1, fun o => by simp [World.frozen?, hg], fun i hi => ?_⟩
 have := hc i hi
 simpa using this
theorem TentK.depth {base : Nat} {w : World} {g c : Nat} {hs : List HeadV} {t : List Head} (h : TentK base w g c hs t) {k : Nat} (h1 : k < hs.length) (h2 : k < t.length) {b cb : Nat} (hv : hs[k].val = .slice (some ⟨b, 0, none⟩) t[k].guys.length cb) (hcb : t[k].guys.length ≤ cb) (hne : b ≠ g) (hlt : b < w.heap.size)
  (hc : ∀ i (hi : i < t[k].guys.length), w.cell? ⟨b, i * 5, none⟩ = some (.int .i64 t[k].guys[i].x) ∧ w.cell? ⟨b, i * 5 + 1, none⟩ = some (.int .i64 t[k].guys[i].y) ∧ w.cell? ⟨b, i * 5 + 2, none⟩ = some (.int .i64 t[k].guys[i].down) ∧ w.cell? ⟨b, i * 5 + 3, none⟩ = some (.int .i64 t[k].guys[i].soil) ∧ w.cell? ⟨b, i * 5 + 4, none⟩ = some (.int .i64 t[k].guys[i].depth))
  {j : Nat} (hj : j < t[k].guys.length) (d : Int) : SL (fun _ => False) (w.setCell ⟨b, j * 5 + 4, none⟩ (.int .i64 d)) (.slice (some ⟨g, 0, none⟩) t.length c) (t.set k ⟨t[k].area, t[k].bears, t[k].guys.set j ⟨t[k].guys[j].x, t[k].guys[j].y, t[k].guys[j].down, t[k].guys[j].soil, d⟩⟩) := by
 have hl := h.inner.len
 have hw := Wrote.setCell w b (j * 5 + 4) (.int .i64 d)
 obtain ⟨cs, hbx⟩ := h.bx
 have hgl : t[k].guys.length ≤ 9223372036854775807 := by
  obtain ⟨_, _, _, _, _, _, hm, _⟩ := ((h.inner.at_ k h1 h2).2.2.slb (S := fun _ => False) (fun _ _ h => h)).guys
  exact hm
 rw [show t.length = (t.set k ⟨t[k].area, t[k].bears, t[k].guys.set j ⟨t[k].guys[j].x, t[k].guys[j].y, t[k].guys[j].down, t[k].guys[j].soil, d⟩⟩).length by simp]
 refine tent_sl (by rw [hw.size]; exact h.lt) (by simpa using h.cap) (by simpa using h.max) fun i hi => ?_
 have hi' : i < t.length := by simpa using hi
 have hih : i < hs.length := by omega
 obtain ⟨c1, c2, c3⟩ := h.cells i hih
 obtain ⟨a1, a2, _⟩ := h.inner.at_ i hih hi'
 have far : ∀ o, (w.setCell ⟨b, j * 5 + 4, none⟩ (.int .i64 d)).cell? ⟨g, o, none⟩ = w.cell? ⟨g, o, none⟩ := fun o => World.cell?_setCell_other _ _ _ _ (by intro e; injection e with e _ _; exact hne e)
 refine ⟨hs[i].val, ?_, ?_, ?_, ?_⟩
 ·rw [far, c1, a1]
  by_cases q : k = i
  ·subst q; simp
  ·simp [List.getElem_set, q]
 ·rw [far, c2, a2]
  by_cases q : k = i
  ·subst q; simp
  ·simp [List.getElem_set, q]
 ·rw [far, c3]
 ·by_cases q : k = i
  ·subst q
   rw [hv]
   simp only [List.getElem_set_self]
   refine ⟨_, cb, b, 0, by rw [List.length_set], by simpa using hcb, by simpa using hgl, fun _ => rfl, fun m hm => ?_⟩
   have hm' : m < t[k].guys.length := by simpa using hm
   obtain ⟨d1, d2, d3, d4, d5⟩ := hc m hm'
   have k5 : Rep.k Guy = 5 := rfl
   rw [k5]
   by_cases r : j = m
   ·subst r
    simp only [List.getElem_set_self]
    refine ⟨by rw [hw.size]; exact hlt, id, _, rfl, fun u v hu => ?_⟩
    match u, hu with
    | 0, hu => injection hu with e; subst e; rw [World.cell?_setCell_other _ _ _ _ (by intro e; injection e with _ e _; omega)]; simpa using d1
    | 1, hu => injection hu with e; subst e; rw [World.cell?_setCell_other _ _ _ _ (by intro e; injection e with _ e _; omega)]; simpa using d2
    | 2, hu => injection hu with e; subst e; rw [World.cell?_setCell_other _ _ _ _ (by intro e; injection e with _ e _; omega)]; simpa using d3
    | 3, hu => injection hu with e; subst e; rw [World.cell?_setCell_other _ _ _ _ (by intro e; injection e with _ e _; omega)]; simpa using d4
    | 4, hu => injection hu with e; subst e; simpa using World.cell?_setCell_same _ _ _ d5
    | (n + 5), hu => simp at hu
   ·rw [List.getElem_set_ne r]
    refine ⟨by rw [hw.size]; exact hlt, id, _, rfl, fun u v hu => ?_⟩
    have hul : u < 5 := by have := (List.getElem?_eq_some_iff.1 hu).1; simpa using this
    rw [World.cell?_setCell_other _ _ _ _ (by intro e; injection e with _ e _; omega)]
    match u, hu with
    | 0, hu => injection hu with e; subst e; simpa using d1
    | 1, hu => injection hu with e; subst e; simpa using d2
    | 2, hu => injection hu with e; subst e; simpa using d3
    | 3, hu => injection hu with e; subst e; simpa using d4
    | 4, hu => injection hu with e; subst e; simpa using d5
    | (n + 5), hu => simp at hu
  ·have hg := h.guys hih hi' (b := b) (h.inner.apart k i h1 hih q b (by rw [hv]; rfl)) hw.keeps
   simpa [List.getElem_set, q] using hg
theorem TentK.more {base base' : Nat} {w w1 : World} {g c : Nat} {hs : List HeadV} {t : List Head} (h : TentK base w g c hs t) {k : Nat} (h1 : k < hs.length) (h2 : k < t.length) {p : Option Addr} {c1 : Nat} {gs : List Guy} (hown : OwnL (fun _ => False) base' 207 w1 (.slice p gs.length c1) gs) (hgr : w.grownBy w1 hs[k].val.ownBlock) :
  SL (fun _ => False) (w1.setCell ⟨g, k * 3 + 2, none⟩ (.slice p gs.length c1)) (.slice (some ⟨g, 0, none⟩) t.length c) (t.set k ⟨t[k].area, t[k].bears, gs⟩) := by
 have hl := h.inner.len
 obtain ⟨cs, hbx⟩ := h.bx
 have hlt := h.lt
 have hgs : w.heap.size ≤ w1.heap.size := hgr.size
 have hbk : w1.heap[g]? = w.heap[g]? := hgr.block g hlt (fun e => h.ne h1 e.symm)
 have hbx1 : Bx w1 g cs 204 := by unfold Bx at *; rw [hbk]; exact hbx
 have hc1 : ∀ o, w1.cell? ⟨g, o, none⟩ = w.cell? ⟨g, o, none⟩ := fun o => by rw [hbx1.cell, hbx.cell]
 have hw := Wrote.setCell w1 g (k * 3 + 2) (.slice p gs.length c1)
 rw [show t.length = (t.set k ⟨t[k].area, t[k].bears, gs⟩).length by simp]
 refine tent_sl (by rw [hw.size]; omega) (by simpa using h.cap) (by simpa using h.max) fun i hi => ?_
 have hi' : i < t.length := by simpa using hi
 have hih : i < hs.length := by omega
 obtain ⟨d1, d2, d3⟩ := h.cells i hih
 rw [← hc1] at d1 d2 d3
 obtain ⟨a1, a2, a3⟩ := h.inner.at_ i hih hi'
 by_cases q : k = i
 ·subst q
  have hne := own_apart hown hbx1 (by decide)
  refine ⟨.slice p gs.length c1, ?_, ?_, ?_, ?_⟩
  ·rw [World.cell?_setCell_other _ _ _ _ (by intro e; injection e with _ e _; omega), d1, a1]; simp
  ·rw [World.cell?_setCell_other _ _ _ _ (by intro e; injection e with _ e _; omega), d2, a2]; simp
  ·rw [World.cell?_setCell_same _ _ _ d3]
  ·simp only [List.getElem_set_self]
   exact (((ownL_flat (fun j => j = g) hown).slb (fun g' hg' e => by subst e; exact hne hg')).keep hw.keeps).weak (fun _ _ h => h.elim)
 ·have hap := h.inner.apart k i h1 hih q
  have ho := ownL_grown a3 hgr (fun g' hg' e => hap g' e hg')
  have hne := own_apart ho hbx1 (by decide)
  have hgd := (((ownL_flat (fun j => j = g) ho).slb (fun g' hg' e => by subst e; exact hne hg')).keep hw.keeps).weak (T := fun _ => False) (fun _ _ h => h.elim)
  refine ⟨hs[i].val, ?_, ?_, ?_, ?_⟩
  ·rw [World.cell?_setCell_other _ _ _ _ (by intro e; injection e with _ e _; omega), d1, a1]; simp [List.getElem_set, q]
  ·rw [World.cell?_setCell_other _ _ _ _ (by intro e; injection e with _ e _; omega), d2, a2]; simp [List.getElem_set, q]
  ·rw [World.cell?_setCell_other _ _ _ _ (by intro e; injection e with _ e _; omega), d3]
  ·simpa [List.getElem_set, q] using hgd
end Go.Proofs.Ytfhmdpicoccnfaa
namespace Go.BT
open Go.RowKit
section
variable {P : Program} {fn : Func} {R : Ending → World → Prop} {a : Act} {w : World}
end
end Go.BT
namespace Go.Proofs.Ytfhmdpicoccnfaa
set_option linter.unusedSimpArgs false
set_option linter.unusedVariables false
open Go.RowKit Go.BT
end Go.Proofs.Ytfhmdpicoccnfaa
namespace Go.BT
end Go.BT
namespace Go.Proofs.Ytfhmdpicoccnfaa
set_option linter.unusedSimpArgs false
set_option linter.unusedVariables false
open Go.RowKit Go.BT
end Go.Proofs.Ytfhmdpicoccnfaa
namespace Go.BT
open Go
set_option linter.unusedVariables false
def deadI (worst : List Int) (lim : Int) : Option Nat := worst.findIdx? fun n => decide (lim < n)
structure PlanS where
 begin_ : List Int
 next : Int
 call : Int
def minutesAt (s : Site) (i : Nat) : Int := match s.stages[i]? with | some x => x.minutes | none => 0
def leftAt (s : Site) (st : PlanS) (i h : Nat) : Int := min (60 * (h : Int)) st.next - minutesAt s i
def planStep (s : Site) (limits worst : List Int) (out : Int) (i : Nat) (st : PlanS) : Option PlanS := match deadI worst (limits.getD i 0) with
 | none => some st
 | some h => if leftAt s st i h < 0 ∨ ((i : Int) = s.openS ∧ leftAt s st i h - out < 0) then none else some ⟨st.begin_.set i (leftAt s st i h), leftAt s st i h, if (i : Int) = s.openS then leftAt s st i h - out else st.call⟩
def planTo (s : Site) (limits worst : List Int) (out : Int) : Nat → Option PlanS
 | 0 => some ⟨List.replicate s.stages.length (-1), 2880, -1⟩
 | k + 1 => match planTo s limits worst out k with
  | none => none
  | some st => planStep s limits worst out (s.stages.length - 1 - k) st
def askedB (s : Site) (limits worst : List Int) (now out : Int) : Bool := limitedB s limits && windsB worst && withinB now 0 ((s.stages.length : Int) - 1) && withinB out 0 60
def planR (s : Site) (limits worst : List Int) (now out : Int) : Option PlanS := planTo s limits worst out (s.stages.length - now.toNat)
def planC (s : Site) (limits worst : List Int) (now out : Int) : Int := if siteB s = true then (if askedB s limits worst now out = true then (match planR s limits worst now out with | none => 11 | some _ => 0) else 2) else 1
def planB (s : Site) (limits worst : List Int) (now out : Int) : List Int := if planC s limits worst now out = 0 then (match planR s limits worst now out with | none => [] | some st => st.begin_) else []
def planCall (s : Site) (limits worst : List Int) (now out : Int) : Int := if planC s limits worst now out = 0 then (match planR s limits worst now out with | none => 0 | some st => st.call) else 0
def BeginOk (s : Site) (limits worst : List Int) (i : Nat) (b : Int) : Prop := match deadI worst (limits.getD i 0) with
 | none => b = -1
 | some h => 0 ≤ b ∧ b + minutesAt s i ≤ 60 * (h : Int)
theorem plan_begin {s : Site} {limits worst : List Int} {out : Int} : ∀ (k : Nat) (hk : k ≤ s.stages.length) (st : PlanS), planTo s limits worst out k = some st →
  st.begin_.length = s.stages.length ∧ (∀ i, i < s.stages.length - k → st.begin_.getD i 0 = -1) ∧ ∀ i, s.stages.length - k ≤ i → i < s.stages.length → BeginOk s limits worst i (st.begin_.getD i 0)
 | 0, hk, st, h => by
  unfold planTo at h
  obtain rfl := Option.some.inj h
  refine ⟨by simp, fun i hi => ?_, fun i h1 h2 => by omega⟩
  simp only [List.getD_eq_getElem?_getD, List.getElem?_replicate]
  rw [if_pos (by omega)]; rfl
 | k + 1, hk, st, h => by
  unfold planTo at h
  cases hp : planTo s limits worst out k with
  | none => rw [hp] at h; simp at h
  | some st0 =>
   rw [hp] at h
   obtain ⟨h1, h2, h3⟩ := plan_begin k (by omega) st0 hp
   simp only [planStep] at h
   cases hd : deadI worst (limits.getD (s.stages.length - 1 - k) 0) with
   | none =>
    rw [hd] at h
    obtain rfl := Option.some.inj h
    refine ⟨h1, fun i hi => h2 i (by omega), fun i h4 h5 => ?_⟩
    by_cases e : i = s.stages.length - 1 - k
    ·subst e
     unfold BeginOk
     rw [hd]
     exact h2 _ (by omega)
    ·exact h3 i (by omega) h5
   | some d =>
    rw [hd] at h
    simp only at h
    split at h
    ·simp at h
    ·rename_i hn
     obtain rfl := Option.some.inj h
     refine ⟨by simpa using h1, fun i hi => ?_, fun i h4 h5 => ?_⟩
     ·have := h2 i (by omega)
      simp only [List.getD_eq_getElem?_getD, List.getElem?_set] at this ⊢
      rw [if_neg (by omega)]; exact this
     ·by_cases e : i = s.stages.length - 1 - k
      ·subst e
       simp only [List.getD_eq_getElem?_getD, List.getElem?_set]
       rw [if_pos trivial, if_pos (by omega)]
       unfold BeginOk
       rw [hd]
       simp only [Option.getD_some]
       have : ¬ leftAt s st0 (s.stages.length - 1 - k) d < 0 := fun q => hn (.inl q)
       refine ⟨by omega, ?_⟩
       unfold leftAt; omega
      ·have := h3 i (by omega) h5
       simp only [List.getD_eq_getElem?_getD, List.getElem?_set] at this ⊢
       rw [if_neg (by omega)]; exact this
theorem dead_none {worst : List Int} {lim : Int} (h : deadI worst lim = none) {k : Nat} (hk : k < worst.length) : worst[k] ≤ lim := by
 unfold deadI at h
 rw [List.findIdx?_eq_none_iff] at h
 have := h _ (List.getElem_mem hk)
 simp only [decide_eq_false_iff_not] at this
 omega
theorem dead_some {worst : List Int} {lim : Int} {d : Nat} (h : deadI worst lim = some d) {k : Nat} (hk : k < worst.length) (hd : k < d) : worst[k] ≤ lim := by
 unfold deadI at h
 rw [List.findIdx?_eq_some_iff_getElem] at h
 obtain ⟨_, _, h2⟩ := h
 have := h2 k hd
 simp only [decide_eq_true_eq] at this
 omega
theorem begin_hour {s : Site} {limits worst : List Int} {i : Nat} {b : Int} (h : BeginOk s limits worst i b) {k : Nat} (hk : k < worst.length) (hb : ¬ (0 ≤ b ∧ b + minutesAt s i ≤ 60 * (k : Int))) : worst[k] ≤ limits.getD i 0 := by
 unfold BeginOk at h
 split at h
 ·rename_i hd
  exact dead_none hd hk
 ·rename_i d hd
  exact dead_some hd hk (by omega)
end Go.BT
namespace Go.Proofs.Ytfhmdpicoccnfaa
set_option linter.unusedSimpArgs false
set_option linter.unusedVariables false
open Go.RowKit Go.BT
theorem isNaN_any (a : Int) (w : World) : Calls Try.prog 121 #[.int .i64 a] w fun e w' => e = .returned (.bool false) ∧ w = w' := by
 have h : (a != a) = false := by simp
 go_enter Try.func121, Try.ntmps121
 go_wp2
 go_ret
 exact ⟨by simp, rfl⟩
theorem Less_any (a b : Int) (w : World) : Calls Try.prog 114 #[.int .i64 a, .int .i64 b] w fun e w' => e = .returned (.bool (decide (a < b))) ∧ w = w' := by
 go_enter Try.func114, Try.ntmps114
 go_wp2_with fail
 refine (isNaN_any _ _).mono ?_
 rintro e w' ⟨rfl, rfl⟩
 go_wp2
 go_ret
 exact ⟨by simp, rfl⟩
theorem IsSorted_ok (l : List Int) (v : Value) (w : World) (hv : SL (fun _ => False) w v l) (h0 : 1 ≤ l.length) (hs : ∀ j (hj : j + 1 < l.length), l[j] ≤ l[j + 1]) : Calls Try.prog 95 #[v] w fun e w' => e = .returned (.bool true) ∧ Step w w' := by
 have hm := hv.len
 obtain ⟨pv, cv, bv, ov, rfl, _, _, hp, hc, _⟩ := hv.ints
 obtain rfl := hp (by omega)
 have HC := zH hc
 have HS := zH hs
 have hw1 : IntKind.i64.wrap ((l.length : Int) - 1) = ((l.length - 1 : Nat) : Int) := by rw [IntKind.wrap_i64]; omega
 clear hv hp hc hs
 go_enter Try.func95, Try.ntmps95
 go_wp2
 go_loopw [3] (fun i wr => ∃ k : Nat, k < l.length ∧ i = .int .i64 k ∧ Step w wr) (fun i _ => (intOf i).toNat)
 case atStart => exact ⟨l.length - 1, by omega, by first | rfl | (rw [← hw1]), Step.refl _⟩
 case round =>
  obtain ⟨k, hk, rfl, hT⟩ := hrel
  have HT := zH hT
  clear hT hw1
  cases k with
  | zero =>
   have d0 : decide ((0 : Int) < ((0 : Nat) : Int)) = false := by decide
   go_wp2
   go_ret
   exact ⟨rfl, HT.out⟩
  | succ j =>
   have d0 : decide ((0 : Int) < ((j + 1 : Nat) : Int)) = true := decide_eq_true (by omega)
   have hjx : (0 : Int) ≤ (j : Int) ∧ (j : Int) < (l.length : Int) := by omega
   have hix : (0 : Int) ≤ ((j + 1 : Nat) : Int) ∧ ((j + 1 : Nat) : Int) < (l.length : Int) := by omega
   have hix2 : (0 : Int) ≤ (j : Int) + 1 ∧ (j : Int) + 1 < (l.length : Int) := by omega
   have htn : ((j : Int) + 1).toNat = j + 1 := by omega
   have hwj : IntKind.i64.wrap (j : Int) = (j : Int) := by rw [IntKind.wrap_i64]; omega
   have HLE := zH (HS.out j hk)
   have HE := zH (And.intro (HC.out (j + 1) hk) (HC.out j (by omega)))
   obtain ⟨a, ha⟩ : ∃ a, a = l[j + 1] := ⟨_, rfl⟩
   obtain ⟨b, hb⟩ : ∃ b, b = l[j]'(by omega) := ⟨_, rfl⟩
   rw [← ha, ← hb] at HE HLE
   have hd : decide (a < b) = false := decide_eq_false (by have := HLE.out; omega)
   clear ha hb
   go_upto_region 4 with (fail)
   obtain ⟨wo, hwo⟩ : ∃ W, W = wr := ⟨_, rfl⟩
   subst hwo
   have HTR := HT
   clear HT
   have HT := zH (Step.refl wo)
   refine wp_region_seq (kdOf [9] []) [0, 0, 3, 7, 0, 0, 32, 112, 240, 511] [0, 1, 2, 3, 4, 5, 6, 7, 8, 9] [] (by kernel_rfl) (by kernel_rfl) (fun i T z hi hk => by simp [kdOf] at hk <;> (try (split at hk <;> cases hk))) ?_
   intro Wx hWx
   have HTx := zH (HT.out.trans hWx)
   clear hWx HT
   have HT := HTx
   clear HTx
   have x0 := (HTR.out.trans HT.out).kc HE.out.1
   have x1 := (HTR.out.trans HT.out).kc HE.out.2
   repeat ((first | (refine run_off rfl rfl (by rfl) ?_) | (refine run_chain_off rfl rfl (by rfl) (K0_mono _) ?_) | ((refine run_want rfl rfl (by rfl) ⟨?_, fun W hW => ?_, ?_⟩; rotate_left; (· (have d0 := hW.kc x0; have d1 := hW.kc x1; go_simp; (try with_reducible rfl)))))); (try simp only [Act.put, zA, zB, zC]))
   clear x0 x1
   refine run_chain rfl rfl (by rfl) (fun Wi hWi K' hK => ?_)
   have HTi := zH (HT.out.trans hWi)
   clear hWi HT
   go_simp
   refine (Less_any _ _ _).mono ?_
   rintro e wn ⟨rfl, rfl⟩
   rw [hd]
   have HT := HTi
   clear HTi
   refine hK _ _ (StepX.refl _ _) ?_
   (try simp only [Act.put, zA, zB, zC])
   repeat ((first | (refine run_off rfl rfl (by rfl) ?_) | (refine run_chain_off rfl rfl (by rfl) (K0_mono _) ?_) | ((refine run_want rfl rfl (by rfl) ⟨?_, fun W hW => ?_, ?_⟩; rotate_left; (· (skip; go_simp; (try with_reducible rfl)))))); (try simp only [Act.put, zA, zB, zC]))
   refine run_end (L := []) rfl (fun W6 hW6 => ?_)
   have HT6 := zH (HT.out.trans hW6)
   clear hW6 HT
   have HT := HT6
   clear HT6
   go_wp2
   go_roundw
   case rel => exact ⟨j, by omega, by go_num, HTR.out.trans HT.out⟩
   case measure => simp [intOf]
theorem least_any (a b : Int) (v : Value) (w : World) (hv : SL (fun _ => False) w v [a, b]) : Calls Try.prog 69 #[v] w fun e w' => e = .returned (.int .i64 (min a b)) ∧ Step w w' := by
 obtain ⟨pv, cv, bv, ov, rfl, _, _, hp, hc, _⟩ := hv.ints
 obtain rfl := hp (by simp)
 have e0 := hc 0 (by simp)
 have e1 := hc 1 (by simp)
 simp only [List.getElem_cons_zero, List.getElem_cons_succ, Nat.add_zero] at e0 e1
 have hlen : ([a, b] : List Int).length = 2 := rfl
 rw [hlen]
 have hmin : Calls Try.prog 78 #[.slice (some ⟨bv, ov, none⟩) 2 cv] w fun e w' => e = .returned (.int .i64 (min a b)) ∧ Step w w' := by
  clear hp hc hv hlen
  go_enter Try.func78, Try.ntmps78
  go_wp2
  go_loopw [3, 4] (fun m i wr => ((i = .int .i64 1 ∧ m = .int .i64 a) ∨ (i = .int .i64 2 ∧ m = .int .i64 (min a b))) ∧ Step w wr) (fun _ i _ => 2 - (intOf i).toNat)
  case atStart => exact ⟨.inl ⟨rfl, rfl⟩, Step.refl _⟩
  case round =>
   obtain ⟨hr, hT⟩ := hrel
   have HT := zH hT
   have e1 := HT.out.kc e1
   clear hT
   rcases hr with ⟨rfl, rfl⟩ | ⟨rfl, rfl⟩
   ·have hq : (if b < a then b else a) = min a b := by omega
    go_wp2
    go_roundw
    case rel => exact ⟨.inr ⟨rfl, by first | rfl | (rw [hq]) | (rw [← hq])⟩, HT.out⟩
    case measure => simp [intOf]
   ·go_wp2
    go_ret
    exact ⟨rfl, HT.out⟩
 have HM := zH hmin
 clear hp hc hv hmin e0 e1
 go_enter Try.func69, Try.ntmps69
 go_wp2_with fail
 refine HM.out.mono ?_
 rintro e w' ⟨rfl, hS⟩
 go_wp2
 go_ret
 exact ⟨rfl, hS⟩
theorem lim1_any (n : Int) (w : World) : Calls Try.prog 94 #[.int .i64 n] w fun e w' => e = .returned (.bool (withinB n (-1) 1000)) ∧ Step w w' := by
 go_enter Try.func94, Try.ntmps94
 go_wp2_with fail
 refine (gale.within_any _ _ _ _).mono ?_
 rintro e w' ⟨rfl, rfl⟩
 go_wp2
 go_ret
 exact ⟨rfl, Step.refl _⟩
theorem plan1_any (n : Int) (w : World) : Calls Try.prog 66 #[.int .i64 n] w fun e w' => e = .returned (.bool (withinB n 0 1000)) ∧ Step w w' := by
 go_enter Try.func66, Try.ntmps66
 go_wp2_with fail
 refine (gale.within_any _ _ _ _).mono ?_
 rintro e w' ⟨rfl, rfl⟩
 go_wp2
 go_ret
 exact ⟨rfl, Step.refl _⟩
theorem all_lim1 (l : List Int) (v : Value) (w : World) (hv : SL (fun _ => False) w v l) : Calls Try.prog 65 #[v, .func (.func 94) #[] #[]] w fun e w' => e = .returned (.bool (l.all (fun n => withinB n (-1) 1000))) ∧ Step w w' :=
 (all_int (fun _ => False) l v w 94 #[] (Go.Proofs.enters_of Try.func94 (by kernel_rfl) rfl) (fun n => withinB n (-1) 1000) (fun _ W => Step w W) (fun _ => False) (fun _ h => h.elim)
  (fun _ W hW => hv.keep (.of_step hW)) (fun _ _ _ h1 h2 => h1.trans h2) (Step.refl _) (fun i hi W u hW _ hu => by
   subst hu
   refine (lim1_any _ W).mono ?_
   rintro e w' ⟨rfl, hs⟩
   exact ⟨rfl, hW.trans hs, hs⟩)).mono fun e w' ⟨h, k, _, _, hs⟩ => ⟨h, hs⟩
theorem all_plan1 (l : List Int) (v : Value) (w : World) (hv : SL (fun _ => False) w v l) : Calls Try.prog 65 #[v, .func (.func 66) #[] #[]] w fun e w' => e = .returned (.bool (l.all (fun n => withinB n 0 1000))) ∧ Step w w' :=
 (all_int (fun _ => False) l v w 66 #[] (Go.Proofs.enters_of Try.func66 (by kernel_rfl) rfl) (fun n => withinB n 0 1000) (fun _ W => Step w W) (fun _ => False) (fun _ h => h.elim)
  (fun _ W hW => hv.keep (.of_step hW)) (fun _ _ _ h1 h2 => h1.trans h2) (Step.refl _) (fun i hi W u hW _ hu => by
   subst hu
   refine (plan1_any _ W).mono ?_
   rintro e w' ⟨rfl, hs⟩
   exact ⟨rfl, hW.trans hs, hs⟩)).mono fun e w' ⟨h, k, _, _, hs⟩ => ⟨h, hs⟩
end Go.Proofs.Ytfhmdpicoccnfaa
namespace Go.BT
open Go.RowKit
def OwnQ {α : Type} [Flat α] (base : Nat) (e : TypeId) (w : World) (v : Value) (l : List α) : Prop :=
 (v = .slice none 0 0 ∧ l = []) ∨ ∃ g off cap cur, v = .slice (some ⟨g, off, none⟩) l.length cap ∧ base ≤ g ∧ w.heap[g]? = some (.cells cur e (0, 0)) ∧ l.length ≤ cap ∧ cap ≤ maxLen ∧ off + cap * Rep.k α ≤ cur.size ∧
  ∀ i (h : i < l.length), Rep.rep (fun _ => False) w ((cur.toList.drop (off + i * Rep.k α)).take (Rep.k α)) l[i]
section
variable {α : Type} [Flat α] {base : Nat} {e : TypeId} {w w' : World} {v : Value} {l : List α}
theorem OwnQ.nil (base : Nat) (e : TypeId) (w : World) : OwnQ base e w (.slice none 0 0) ([] : List α) := .inl ⟨rfl, rfl⟩
theorem OwnQ.form (h : OwnQ base e w v l) : ∃ p c, v = .slice p l.length c := by
 rcases h with ⟨rfl, rfl⟩ | ⟨g, off, cap, cur, rfl, _⟩
 ·exact ⟨none, 0, rfl⟩
 ·exact ⟨_, _, rfl⟩
theorem OwnQ.lt (h : OwnQ base e w v l) : ∀ g, v.ownBlock = some g → base ≤ g ∧ g < w.heap.size := by
 intro k hk
 rcases h with ⟨rfl, _⟩ | ⟨g, off, cap, cur, rfl, hb, hg, _⟩
 ·simp [Value.ownBlock] at hk
 ·simp [Value.ownBlock] at hk
  subst hk
  exact ⟨hb, (Array.getElem?_eq_some_iff.1 hg).1⟩
theorem OwnQ.kept (h : OwnQ base e w v l) (hrow : ∀ g, v.ownBlock = some g → w'.heap[g]? = w.heap[g]?) : OwnQ base e w' v l := by
 rcases h with h | ⟨g, off, cap, cur, rfl, hb, hg, h1, h2, h3, h4⟩
 ·exact .inl h
 ·exact .inr ⟨g, off, cap, cur, rfl, hb, by rw [hrow g (by simp [Value.ownBlock])]; exact hg, h1, h2, h3, fun i hi => Flat.flat (h4 i hi)⟩
theorem OwnQ.keep {S : Nat → Prop} (h : OwnQ base e w v l) (hk : Keeps S w w') (hs : ∀ g, v.ownBlock = some g → ¬ S g) : OwnQ base e w' v l :=
 h.kept fun g hg => hk.2 g (h.lt g hg).2 (hs g hg)
theorem OwnQ.step (h : OwnQ base e w v l) (hs : Step w w') : OwnQ base e w' v l := h.keep (.of_step hs) fun _ _ h => h
theorem OwnQ.sl {S : Nat → Prop} (h : OwnQ base e w v l) (hs : ∀ g, v.ownBlock = some g → ¬ S g) : SL S w v l := by
 rcases h with ⟨rfl, rfl⟩ | ⟨g, off, cap, cur, rfl, hb, hg, h1, h2, h3, h4⟩
 ·exact SL.nil S w
 ·have hlt : g < w.heap.size := (Array.getElem?_eq_some_iff.1 hg).1
  refine ⟨_, cap, g, off, rfl, h1, by simp only [maxLen] at h2; omega, fun _ => rfl, fun i hi => ⟨hlt, hs g (by simp [Value.ownBlock]), _, Flat.flat (h4 i hi), fun j u hj => ?_⟩⟩
  rw [List.getElem?_take] at hj
  split at hj
  ·rw [List.getElem?_drop] at hj
   simp only [World.cell?, hg]
   have : cur[off + i * Rep.k α + j]? = some u := by simpa using hj
   simp [this]
  ·cases hj
theorem OwnQ.tail {x : α} {p : Option Addr} {n c : Nat} (h : OwnQ base e w (.slice p n c) (x :: l)) : ∃ g off, p = some ⟨g, off, none⟩ ∧ n = l.length + 1 ∧ l.length + 1 ≤ c ∧ c ≤ maxLen ∧ Rep.rep (fun _ => False) w (((List.range (Rep.k α)).map fun j => (w.cell? ⟨g, off + j, none⟩).getD undef)) x ∧
  OwnQ base e w (.slice (some (if c = 1 then ⟨g, off, none⟩ else ⟨g, off + Rep.k α, none⟩)) l.length (c - 1)) l := by
 rcases h with ⟨h, _⟩ | ⟨g, off, cap, cur, h0, hb, hg, h1, h2, h3, h4⟩
 ·rename_i h'; cases h'
 ·injection h0 with e1 e2 e3
  subst e1 e2 e3
  have hk : 0 < Rep.k α := Rep.pos
  simp only [List.length_cons] at h1
  have hsz : off + (l.length + 1) * Rep.k α ≤ cur.size := Nat.le_trans (Nat.add_le_add_left (Nat.mul_le_mul_right _ h1) _) h3
  refine ⟨g, off, rfl, rfl, h1, h2, ?_, ?_⟩
  ·have h5 := h4 0 (by simp)
   simp only [Nat.zero_mul, Nat.add_zero, List.getElem_cons_zero] at h5
   have : (cur.toList.drop off).take (Rep.k α) = (List.range (Rep.k α)).map fun j => (w.cell? ⟨g, off + j, none⟩).getD undef := by
    rw [Nat.add_mul, Nat.one_mul] at hsz
    refine List.ext_getElem (by simp; omega) fun j ha hb => ?_
    have hj : j < Rep.k α := by simpa using hb
    have hoj : off + j < cur.size := by omega
    simp [World.cell?, hg, hoj]
   rw [← this]; exact h5
  ·by_cases c1 : c = 1
   ·subst c1
    have hl : l = [] := List.eq_nil_of_length_eq_zero (by omega)
    subst hl
    rw [if_pos rfl]
    exact .inr ⟨g, off, 0, cur, rfl, hb, hg, Nat.le_refl _, by simp [maxLen], by omega, fun i hi => absurd hi (by simp)⟩
   ·rw [if_neg c1]
    refine .inr ⟨g, off + Rep.k α, c - 1, cur, rfl, hb, hg, by omega, by omega, ?_, fun i hi => ?_⟩
    ·have : (c - 1) * Rep.k α + Rep.k α = c * Rep.k α := by
      rw [← Nat.succ_mul]; congr 1; omega
     omega
    ·have h5 := h4 (i + 1) (by simp; omega)
     simp only [List.getElem_cons_succ, Nat.add_mul, Nat.one_mul] at h5
     rwa [show off + (i * Rep.k α + Rep.k α) = off + Rep.k α + i * Rep.k α by omega] at h5
end
section
variable {α : Type} [Flat α] {base : Nat} {P : Program} {w : World} {v u : Value} {l : List α} {x : α} {t e : TypeId} {z : Value} {bytes : Nat}
theorem run_append_Q (ei : EI P t e z (Rep.k α) bytes) (ty : TypeId) (hown : OwnQ base e w v l) (a : Addr) (m : Nat) (cs : List Value) (hx : Rep.rep (fun _ => False) w cs x) (hc : ∀ j u, cs[j]? = some u → w.cell? (a.add j) = some u)
  (h63 : l.length + 1 ≤ maxLen) (hbytes : (l.length + 1) * bytes ≤ 140737488355328) (hbase : base ≤ w.heap.size) :
  ∃ p c w', (Builtin.append_ #[t, t] ty #[v, .slice (some a) 1 m]).run P w = .ok (.slice p (l.length + 1) c) w' ∧ OwnQ base e w' (.slice p (l.length + 1) c) (l ++ [x]) ∧ w.grownBy w' v.ownBlock ∧
   (∀ k, (Value.slice p (l.length + 1) c).ownBlock = some k → v.ownBlock = some k ∨ w.heap.size ≤ k) := by
 obtain ⟨ht, hzs, i, hi, hz, hsize, hby⟩ := ei
 have hcl := Rep.len hx
 have hone := Rep.one hx
 have hl1 : cs.length = 1 * i.size := by rw [Nat.one_mul, hsize]; exact hcl
 have hsm : l.length + 1 ≤ 9223372036854775807 := by simp only [maxLen] at h63; omega
 have hkp : 0 < Rep.k α := Rep.pos
 rcases hown with ⟨rfl, rfl⟩ | ⟨g, off, cap, cur, rfl, hb, hg, h1, h2, h3, h4⟩
 ·have hrun := run_append_nil (P := P) w t ty e i z ht hi hz a 1 m cs hl1 hc (by omega) (by omega) (by rw [hby]; simp at hbytes; omega)
  have hge := grownCap_ge w 1 0 e
  have hcm := grownCap_le_maxLen w 1 0 e (by simpa using h63)
  refine ⟨_, _, _, hrun, .inr ⟨w.heap.size, 0, _, _, rfl, hbase, heap_alloc_new w.drew _, hge, hcm, ?_, ?_⟩, ⟨rfl, rfl, rfl, by simp, fun k hk _ => Below.heap_alloc w.drew _ k hk⟩, fun k hk => .inr (by simp [Value.ownBlock] at hk; omega)⟩
  ·rw [Array.size_append, size_zeroCells, hzs]
   simp only [List.size_toArray, hcl]
   have : Rep.k α + (grownCap w 1 0 e - 1) * Rep.k α = grownCap w 1 0 e * Rep.k α := by rw [Nat.add_comm, ← Nat.succ_mul]; congr 1; omega
   omega
  ·intro j hj
   obtain rfl : j = 0 := by simpa using hj
   simp only [Array.toList_append, Nat.zero_mul, Nat.add_zero, List.drop_zero, List.nil_append, List.getElem_cons_zero]
   rw [List.take_append_of_le_length (by simp [hcl]), List.take_of_length_le (by simp [hcl])]
   exact Flat.flat hx
 ·by_cases hroom : l.length + 1 ≤ cap
  ·have hfit : off + l.length * Rep.k α + cs.length ≤ cur.size := by
    have := Nat.mul_le_mul_right (Rep.k α) hroom
    rw [Nat.add_mul, Nat.one_mul] at this
    rw [hcl]; omega
   have hf := run_firstCells_some (P := P) w i.size 1 a 1 m cs hl1 hc
   have hst := run_storeCells_at P g (off + l.length * i.size) e cs 0 cur w hg (by rw [hsize]; simpa using hfit) hone
   simp only [Nat.add_zero] at hst
   have hrun : (Builtin.append_ #[t, t] ty #[.slice (some ⟨g, off, none⟩) l.length cap, .slice (some a) 1 m]).run P w = .ok (.slice (some ⟨g, off, none⟩) (l.length + 1) cap) (w.setRow g (cur.toList.take (off + l.length * i.size) ++ cs ++ cur.toList.drop (off + l.length * i.size + cs.length)).toArray) := by
    simp [Builtin.append_, run_underlying ht, sizeOf, typeInfo, hi, Builtin.lenOf, hroom, hf, Addr.add_lit, hst]
   rw [hsize] at hrun
   refine ⟨_, _, _, hrun, .inr ⟨g, off, cap, _, by simp, hb, setRow_heap w g _ _ e (0, 0) hg, by simpa using hroom, h2, ?_, ?_⟩, ⟨rfl, rfl, rfl, by simp [World.setRow], fun k _ hk => setRow_other w g k _ (fun e => hk (by rw [e]; simp [Value.ownBlock]))⟩, fun k hk => .inl (by simpa [Value.ownBlock] using hk)⟩
   ·simp only [List.size_toArray, List.length_append, List.length_take, List.length_drop, Array.length_toList]
    omega
   ·intro j hj
    simp only [List.length_append, List.length_cons, List.length_nil] at hj
    have key : ∀ q : Nat, (cur.toList.take (off + l.length * Rep.k α) ++ cs ++ cur.toList.drop (off + l.length * Rep.k α + cs.length))[q]? = if q < off + l.length * Rep.k α then cur.toList[q]? else if q < off + l.length * Rep.k α + cs.length then cs[q - (off + l.length * Rep.k α)]? else cur.toList[q]? := by
     intro q
     have ht1 : (cur.toList.take (off + l.length * Rep.k α)).length = off + l.length * Rep.k α := by simp; omega
     by_cases a1 : q < off + l.length * Rep.k α
     ·rw [if_pos a1, List.append_assoc, List.getElem?_append_left (by omega), List.getElem?_take_of_lt a1]
     ·rw [if_neg a1]
      by_cases b1 : q < off + l.length * Rep.k α + cs.length
      ·rw [if_pos b1, List.getElem?_append_left (by simp; omega), List.getElem?_append_right (by omega), ht1]
      ·rw [if_neg b1, List.getElem?_append_right (by simp; omega), List.getElem?_drop]
       congr 1
       simp
       omega
    by_cases e1 : j < l.length
    ·rw [List.getElem_append_left e1]
     have h5 := h4 j e1
     have hm : j * Rep.k α + Rep.k α ≤ l.length * Rep.k α := by
      have := Nat.mul_le_mul_right (Rep.k α) (show j + 1 ≤ l.length by omega)
      rwa [Nat.add_mul, Nat.one_mul] at this
     have : ((cur.toList.take (off + l.length * Rep.k α) ++ cs ++ cur.toList.drop (off + l.length * Rep.k α + cs.length)).drop (off + j * Rep.k α)).take (Rep.k α) = (cur.toList.drop (off + j * Rep.k α)).take (Rep.k α) := by
      refine List.ext_getElem? fun q => ?_
      rw [List.getElem?_take, List.getElem?_take]
      split
      ·rw [List.getElem?_drop, key, if_pos (by omega), List.getElem?_drop]
      ·rfl
     rw [List.toList_toArray, this]
     exact Flat.flat h5
    ·have : j = l.length := by omega
     subst this
     rw [List.getElem_append_right (by omega)]
     simp only [Nat.sub_self, List.getElem_cons_zero]
     have : ((cur.toList.take (off + l.length * Rep.k α) ++ cs ++ cur.toList.drop (off + l.length * Rep.k α + cs.length)).drop (off + l.length * Rep.k α)).take (Rep.k α) = cs := by
      refine List.ext_getElem? fun q => ?_
      rw [List.getElem?_take]
      split
      ·rename_i hq
       rw [List.getElem?_drop, key, if_neg (by omega), if_pos (by omega)]
       congr 1; omega
      ·rename_i hq
       rw [List.getElem?_eq_none (by omega)]
     rw [this]
     exact Flat.flat hx
  ·have hcap : cap < l.length + 1 := by omega
   have hle : off + l.length * Rep.k α ≤ cur.size := Nat.le_trans (Nat.add_le_add_left (Nat.mul_le_mul_right _ h1) _) h3
   have holds : ∀ j u, ((cur.toList.drop off).take (l.length * Rep.k α))[j]? = some u → w.cell? ((⟨g, off, none⟩ : Addr).add j) = some u := by
    intro j u hj
    rw [List.getElem?_take] at hj
    split at hj
    ·rw [List.getElem?_drop] at hj
     rw [Addr.add_lit]
     simp only [World.cell?, hg]
     have : cur[off + j]? = some u := by simpa using hj
     simp [this]
    ·cases hj
   have hlo : ((cur.toList.drop off).take (l.length * Rep.k α)).length = l.length * i.size := by rw [hsize]; simp; omega
   have hrun := run_append_grow (P := P) w t ty e i z ht hi hz ⟨g, off, none⟩ l.length cap _ hlo holds a 1 m cs hl1 hc hcap (by omega) (growslice_fits hcap (by rw [hby]; exact hbytes))
   have hge := grownCap_ge w (l.length + 1) cap e
   have hcm := grownCap_le_maxLen w (l.length + 1) cap e h63
   have hln : ((cur.toList.drop off).take (l.length * Rep.k α) ++ cs).length = (l.length + 1) * Rep.k α := by rw [List.length_append, hlo, hsize, hcl, Nat.add_mul, Nat.one_mul]
   refine ⟨_, _, _, hrun, .inr ⟨w.heap.size, 0, _, _, by simp, hbase, heap_alloc_new w.drew _, by simpa using hge, hcm, ?_, ?_⟩, ⟨rfl, rfl, rfl, by simp, fun k hk _ => Below.heap_alloc w.drew _ k hk⟩, fun k hk => .inr (by simp [Value.ownBlock] at hk; omega)⟩
   ·rw [Array.size_append, Array.size_append, size_zeroCells, hzs]
    simp only [List.size_toArray, hlo, hsize, hcl]
    have : l.length * Rep.k α + Rep.k α + (grownCap w (l.length + 1) cap e - (l.length + 1)) * Rep.k α = grownCap w (l.length + 1) cap e * Rep.k α := by
     rw [← Nat.succ_mul, ← Nat.add_mul]; congr 1; omega
    omega
   ·intro j hj
    simp only [List.length_append, List.length_cons, List.length_nil] at hj
    have hm : j * Rep.k α + Rep.k α ≤ (l.length + 1) * Rep.k α := by
     have := Nat.mul_le_mul_right (Rep.k α) (show j + 1 ≤ l.length + 1 by omega)
     rwa [Nat.add_mul, Nat.one_mul] at this
    have e0 : (((cur.toList.drop off).take (l.length * Rep.k α)).toArray ++ cs.toArray ++ Builtin.zeroCells z.cells (grownCap w (l.length + 1) cap e - (l.length + 1))).toList = ((cur.toList.drop off).take (l.length * Rep.k α) ++ cs) ++ (Builtin.zeroCells z.cells (grownCap w (l.length + 1) cap e - (l.length + 1))).toList := by simp
    rw [e0, Nat.zero_add]
    have e1 : ((((cur.toList.drop off).take (l.length * Rep.k α) ++ cs) ++ (Builtin.zeroCells z.cells (grownCap w (l.length + 1) cap e - (l.length + 1))).toList).drop (j * Rep.k α)).take (Rep.k α) = (((cur.toList.drop off).take (l.length * Rep.k α) ++ cs).drop (j * Rep.k α)).take (Rep.k α) := by
     rw [List.drop_append_of_le_length (by omega), List.take_append_of_le_length (by rw [List.length_drop]; omega)]
    rw [e1]
    by_cases e2 : j < l.length
    ·rw [List.getElem_append_left e2]
     have h5 := h4 j e2
     have hm2 : j * Rep.k α + Rep.k α ≤ l.length * Rep.k α := by
      have := Nat.mul_le_mul_right (Rep.k α) (show j + 1 ≤ l.length by omega)
      rwa [Nat.add_mul, Nat.one_mul] at this
     have : (((cur.toList.drop off).take (l.length * Rep.k α) ++ cs).drop (j * Rep.k α)).take (Rep.k α) = (cur.toList.drop (off + j * Rep.k α)).take (Rep.k α) := by
      refine List.ext_getElem? fun q => ?_
      rw [List.getElem?_take, List.getElem?_take]
      split
      ·rw [List.getElem?_drop, List.getElem?_append_left (by rw [hlo, hsize]; omega), List.getElem?_take_of_lt (by omega), List.getElem?_drop, List.getElem?_drop]
       congr 1; omega
      ·rfl
     rw [this]; exact Flat.flat h5
    ·have : j = l.length := by omega
     subst this
     rw [List.getElem_append_right (by omega)]
     simp only [Nat.sub_self, List.getElem_cons_zero]
     rw [List.drop_left' (by rw [hlo, hsize]), show cs.take (Rep.k α) = cs from List.take_of_length_le (Nat.le_of_eq hcl)]
     exact Flat.flat hx
theorem wp_append_Q {o : Oper} {a : Act} {K : Act → World → Prop} {Q : Exit → Act → World → Prop} (ei : EI P t e z (Rep.k α) bytes) (s y : Operand)
  (ho : o.op = .call { callee := .builtin .append, args := #[s, y], argTypes := #[t, t] }) (hs : a.eval s = v) (ad : Addr) (m : Nat) (hy : a.eval y = .slice (some ad) 1 m) (hown : OwnQ base e w v l) (cs : List Value) (hx : Rep.rep (fun _ => False) w cs x)
  (hc : ∀ j u, cs[j]? = some u → w.cell? (ad.add j) = some u) (h63 : l.length + 1 ≤ maxLen) (hbytes : (l.length + 1) * bytes ≤ 140737488355328) (hbase : base ≤ w.heap.size)
  (h : ∀ p c w', OwnQ base e w' (.slice p (l.length + 1) c) (l ++ [x]) → w.grownBy w' v.ownBlock → (∀ k, (Value.slice p (l.length + 1) c).ownBlock = some k → v.ownBlock = some k ∨ w.heap.size ≤ k) → K (a.put o.dst (.slice p (l.length + 1) c)) w') : o.wp P a w K Q := by
 obtain ⟨p, c, w', hr, h2, h3, h4⟩ := run_append_Q (x := x) ei o.type hown ad m cs hx hc h63 hbytes hbase
 unfold Oper.wp execOp
 simp only [ho, resolve, invoke, builtin, Sem.run_bind, Sem.run_pure, Result.andThen_ok, List.map_toArray, List.map_cons, List.map_nil, hs, hy, hr]
 exact h p c w' h2 h3 h4
end
end Go.BT
namespace Go.Proofs.Ytfhmdpicoccnfaa
set_option linter.unusedSimpArgs false
set_option linter.unusedVariables false
open Go.RowKit Go.BT
theorem _root_.Go.BT.Wrote.trans {g : Nat} {a b c : World} (h : Wrote g a b) (k : Wrote g b c) : Wrote g a c := ⟨k.os.trans h.os, k.tape.trans h.tape, k.output.trans h.output, k.size.trans h.size, fun j hj => (k.block j hj).trans (h.block j hj)⟩
theorem _root_.Go.BT.Wrote.stepX {g : Nat} {X : Nat → Prop} {w w' : World} (h : Wrote g w w') (hx : X g) : StepX X w w' := ⟨h.os, h.tape, h.output, Nat.le_of_eq h.size.symm, fun k _ hk => h.block k fun e => hk (e ▸ hx)⟩
theorem MG.at_block {K V : Type} {kf : K → Value} {vf : V → Value} {w w' : World} {r : Nat} {f : K → Option V} (h : MG kf vf w r f) (hr : w'.heap[r]? = w.heap[r]?) : MG kf vf w' r f := by
 obtain ⟨es, cl, h1, h2⟩ := h
 exact ⟨es, cl, hr.trans h1, h2⟩
theorem MG.congr {K V : Type} {kf : K → Value} {vf : V → Value} {w : World} {r : Nat} {f g : K → Option V} (h : MG kf vf w r f) (he : f = g) : MG kf vf w r g := he ▸ h
theorem run_entry_mg {tm tk te : TypeId} (hm : Try.prog.underlying tm = some (.map tk te)) {K V : Type} [DecidableEq K] {kf : K → Value} {vf : V → Value} (ht : KeyG tk kf) {w : World} {r : Nat} {f : K → Option V} (x : K) (h : MG kf vf w r f) (z : V) (hz : ∀ w, (zeroValue te).run Try.prog w = .ok (vf z) w) :
  ∃ (st : Nat) (w1 : World), (Instr.mapEntry tm (.map (some r)) (kf x)).run Try.prog w = .ok (.tuple #[vf ((f x).getD z), .int .i64 st]) w1 ∧ MG kf vf w1 r (fun y => if y = x then some ((f x).getD z) else f y) ∧ Wrote r w w1 ∧
   ∀ (w2 : World) (v : V), w2.heap[r]? = w1.heap[r]? → ∃ w3, (Instr.entryStore tm (.map (some r)) (.int .i64 st) (vf v)).run Try.prog w2 = .ok () w3 ∧ MG kf vf w3 r (fun y => if y = x then some v else f y) ∧ Wrote r w2 w3 := by
 have hup := fun v => run_mapUpdate_mg hm ht x v h
 have h0 := h
 obtain ⟨es, clock, hh, h1, h2, h3, h4, h5⟩ := h
 have hck := fun em => ht.check x em w
 have hrlt : r < w.heap.size := (Array.getElem?_eq_some_iff.1 hh).1
 have hgo : (getObj r).run Try.prog w = .ok (.map es clock) w := by simp [getObj, Sem.run, hh]
 have hso : ∀ o, (setObj r o).run Try.prog w = .ok () (putO w r o) := fun o => by simp [setObj, Sem.run, hh, putO]
 have hst := ht.bits x w
 have fin : ∀ (es1 es2 : Array MapEntry) (c1 c2 : Nat) (v : V), (Instr.mapUpdate tm (.map (some r)) (kf x) (vf v)).run Try.prog w = .ok () (putO w r (.map es2 c2)) →
   ∀ w2 : World, w2.heap[r]? = some (.map es1 c1) → MG kf vf (putO w2 r (.map es2 c2)) r (fun y => if y = x then some v else f y) := by
  intro es1 es2 c1 c2 v hr w2 hw2
  obtain ⟨w', hr', hmg, _⟩ := hup v
  rw [hr] at hr'
  injection hr' with _ hr'
  subst hr'
  refine hmg.at_block ?_
  rw [putO_at (Array.getElem?_eq_some_iff.1 hw2).1, putO_at hrlt]
 rcases ht.find x w es.toList (fun e he => by obtain ⟨y, _, _, hk, _⟩ := h1 e he; exact ⟨y, hk⟩) with ⟨j, hj, hk, hf⟩ | ⟨hn, hf⟩
 ·have hjs : j < es.size := by simpa using hj
  obtain ⟨y, n, hy, hky, hv⟩ := h1 _ (List.getElem_mem hj)
  have hxy : x = y := ht.inj (by rw [← hky, hk])
  subst hxy
  have hjk' : es[j]?.map (·.key) = some (kf x) := by
   rw [Array.getElem?_eq_getElem hjs, Option.map_some]
   rw [Array.getElem_toList] at hk
   rw [hk]
  have hjb : es[j]?.map (·.born) = some es[j].born := by rw [Array.getElem?_eq_getElem hjs, Option.map_some]
  have hsame : es.modify j (fun e => { e with key := kf x }) = es := by
   apply Array.ext'
   rw [Array.toList_modify]
   refine List.ext_getElem (by simp) fun i hi hi' => ?_
   rw [List.getElem_modify]
   split
   ·rename_i hji
    subst hji
    have : (es.toList[j]).key = kf x := hk
    generalize es.toList[j] = e0 at this ⊢
    cases e0; simp only at this; subst this; rfl
   ·rfl
  have hkj : es[j].key = kf x := by rw [← Array.getElem_toList hjs]; exact hk
  have hvj : es[j].val = vf n := by rw [← Array.getElem_toList hjs]; exact hv
  refine ⟨es[j].born, putO w r (.map es clock), ?_, ?_, putO_wrote _ _ _, fun w2 v hw2 => ?_⟩
  ·simp [Instr.mapEntry, run_underlying hm, hgo, hck, hf, hjk', hjb, hst, hso, hsame, goInt, hy, hvj, hjs, hkj]
  ·refine (h0.at_block (w' := putO w r (.map es clock)) ?_).congr ?_
   ·rw [putO_at hrlt, hh]
   ·funext q
    by_cases e : q = x
    ·rw [if_pos e, e, hy]; rfl
    ·rw [if_neg e]
  ·rw [putO_at hrlt] at hw2
   have hgo2 : (getObj r).run Try.prog w2 = .ok (.map es clock) w2 := by simp [getObj, Sem.run, hw2]
   have hso2 : ∀ o, (setObj r o).run Try.prog w2 = .ok () (putO w2 r o) := fun o => by simp [setObj, Sem.run, hw2, putO]
   have hidx : es.findIdx? (fun e => ((e.born : Nat) : Int) == ((es[j].born : Nat) : Int)) = some j := by
    rw [WideElems.findIdx_arr]
    exact WideElems.findIdx_born h5 (by simp [hjs])
   have hmod : es.modify j (fun e => { e with val := vf v }) = es.modify j (fun e' => { e' with key := kf x, val := vf v }) := by
    apply Array.ext'
    rw [Array.toList_modify, Array.toList_modify]
    refine List.ext_getElem (by simp) fun i hi hi' => ?_
    rw [List.getElem_modify, List.getElem_modify]
    split
    ·rename_i hji
     subst hji
     have : (es.toList[j]).key = kf x := hk
     generalize es.toList[j] = e0 at this ⊢
     cases e0; simp only at this; subst this; rfl
    ·rfl
   refine ⟨putO w2 r (.map (es.modify j (fun e => { e with val := vf v })) clock), ?_, ?_, putO_wrote _ _ _⟩
   ·simp [Instr.entryStore, hgo2, asInt, asIntOf, hidx, hso2]
   ·refine fin es _ clock _ v ?_ w2 hw2
    rw [hmod]
    simp [Instr.mapUpdate, run_underlying hm, hgo, hck, hf, hjk', hst, hso]
 ·have hx : f x = none := by
   cases q : f x with
   | none => rfl
   | some n => obtain ⟨e, he, hk⟩ := h2 x n q; exact absurd hk (hn e he)
  have hup0 : (Instr.mapUpdate tm (.map (some r)) (kf x) (vf z)).run Try.prog w = .ok () (putO w r (.map (es.push { key := kf x, val := vf z, born := clock }) (clock + 1))) := by
   simp [Instr.mapUpdate, run_underlying hm, hgo, hck, hf, hso]
  refine ⟨clock, putO w r (.map (es.push { key := kf x, val := vf z, born := clock }) (clock + 1)), ?_, ?_, putO_wrote _ _ _, fun w2 v hw2 => ?_⟩
  ·simp [Instr.mapEntry, run_underlying hm, hgo, hck, hf, hso, hz, hx, goInt]
  ·rw [hx]
   exact fin es _ clock _ z hup0 w hh
  ·rw [putO_at hrlt] at hw2
   have hgo2 : (getObj r).run Try.prog w2 = .ok (.map (es.push { key := kf x, val := vf z, born := clock }) (clock + 1)) w2 := by simp [getObj, Sem.run, hw2]
   have hso2 : ∀ o, (setObj r o).run Try.prog w2 = .ok () (putO w2 r o) := fun o => by simp [setObj, Sem.run, hw2, putO]
   have hidx : (es.push ⟨kf x, vf z, clock⟩).findIdx? (fun e => ((e.born : Nat) : Int) == ((clock : Nat) : Int)) = some es.size := by
    rw [WideElems.findIdx_arr]
    have := WideElems.findIdx_born (l := (es.push ⟨kf x, vf z, clock⟩).toList) (j := es.size) (e0 := ⟨kf x, vf z, clock⟩) (by
     simp only [Array.toList_push, List.map_append, List.map_cons, List.map_nil]
     refine List.nodup_append.2 ⟨h5, by simp, fun a ha c hc e1 => ?_⟩
     simp only [List.mem_singleton] at hc
     obtain ⟨q, hq, rfl⟩ := List.mem_map.1 ha
     have := h4 q hq
     omega) (by simp)
    exact this
   have hmod : (es.push ⟨kf x, vf z, clock⟩).modify es.size (fun e => { e with val := vf v }) = es.push ⟨kf x, vf v, clock⟩ := by
    apply Array.ext'
    rw [Array.toList_modify, Array.toList_push, Array.toList_push, ← Array.length_toList, WideElems.modify_last]
   refine ⟨putO w2 r (.map (es.push ⟨kf x, vf v, clock⟩) (clock + 1)), ?_, ?_, putO_wrote _ _ _⟩
   ·simp [Instr.entryStore, hgo2, asInt, asIntOf, hidx, hmod, hso2]
   ·refine fin _ _ _ _ v ?_ w2 hw2
    simp [Instr.mapUpdate, run_underlying hm, hgo, hck, hf, hso]
end Go.Proofs.Ytfhmdpicoccnfaa
namespace Go.BT
theorem look_mem {ord : List (Pc × Sp)} {p : Pc} : (lookB ord p).isSome = decide (p ∈ keysL ord) := by
 by_cases h : p ∈ keysL ord
 ·rw [decide_eq_true h]
  obtain ⟨e, he, rfl⟩ := List.mem_map.1 h
  unfold lookB
  rw [Option.isSome_map]
  rw [List.find?_isSome]
  exact ⟨e, he, by simp⟩
 ·rw [decide_eq_false h, look_none h]; rfl
end Go.BT
namespace Go.Proofs.Ytfhmdpicoccnfaa
set_option linter.unusedSimpArgs false
set_option linter.unusedVariables false
open Go.RowKit Go.BT
theorem _root_.Go.BT.OwnQ.ne_bx {α : Type} [Flat α] {base : Nat} {e T : TypeId} {w : World} {v : Value} {l : List α} {b : Nat} {cs : List Value} (h : OwnQ base e w v l) (hb : Bx w b cs T) (ht : T ≠ e) : v.ownBlock ≠ some b := by
 rcases h with ⟨rfl, _⟩ | ⟨g, off, cap, cur, rfl, _, hg, _⟩
 ·simp [Value.ownBlock]
 ·intro he
  simp [Value.ownBlock] at he
  subst he
  unfold Bx at hb
  rw [hg] at hb
  injection hb with hb
  injection hb with _ hb
  exact ht hb.symm
theorem OwnQ_ne_mg {α : Type} [Flat α] {base : Nat} {e : TypeId} {w : World} {v : Value} {l : List α} {r : Nat} {K V : Type} {kf : K → Value} {vf : V → Value} {f : K → Option V} (h : OwnQ base e w v l) (hm : MG kf vf w r f) : v.ownBlock ≠ some r := by
 obtain ⟨es, cl, hm, _⟩ := hm
 rcases h with ⟨rfl, _⟩ | ⟨g, off, cap, cur, rfl, _, hg, _⟩
 ·simp [Value.ownBlock]
 ·intro he
  simp [Value.ownBlock] at he
  subst he
  rw [hg] at hm
  cases hm
theorem wpl_append_Q {α : Type} [Flat α] {base : Nat} {P : Program} {w : World} {v : Value} {l : List α} {x : α} {t e : TypeId} {z : Value} {bytes : Nat} {ops : Array Oper} {rest : List Oper} {o : Oper} {a : Act} {Q : Exit → Act → World → Prop} (ei : EI P t e z (Rep.k α) bytes) (hgd : o.guard = none) (s y : Operand)
  (ho : o.op = .call { callee := .builtin .append, args := #[s, y], argTypes := #[t, t] }) (hs : a.eval s = v) (ad : Addr) (m : Nat) (hy : a.eval y = .slice (some ad) 1 m) (hown : OwnQ base e w v l) (cs : List Value) (hx : Rep.rep (fun _ => False) w cs x)
  (hc : ∀ j u, cs[j]? = some u → w.cell? (ad.add j) = some u) (h63 : l.length + 1 ≤ maxLen) (hbytes : (l.length + 1) * bytes ≤ 140737488355328) (hbase : base ≤ w.heap.size)
  (h : ∀ p c w', OwnQ base e w' (.slice p (l.length + 1) c) (l ++ [x]) → w.grownBy w' v.ownBlock → (∀ k, (Value.slice p (l.length + 1) c).ownBlock = some k → v.ownBlock = some k ∨ w.heap.size ≤ k) → wpList P ops Q rest (a.put o.dst (.slice p (l.length + 1) c)) w') : wpList P ops Q (o :: rest) a w :=
 wpList_plain hgd fun _ hK => wp_append_Q ei s y ho hs ad m hy hown cs hx hc h63 hbytes hbase fun p c w' h2 h3 h4 => hK _ _ (h p c w' h2 h3 h4)
theorem _root_.Go.BT.Bx.grown {w w' : World} {row : Option Nat} {g : Nat} {cs : List Value} {T : TypeId} (h : Bx w g cs T) (hg : w.grownBy w' row) (hn : row ≠ some g) : Bx w' g cs T := by
 have hl := h.lt
 unfold Bx at *
 rw [hg.block g hl (fun e => hn e.symm)]; exact h
theorem eiPlace : EI Try.prog 173 144 (.agg #[.int .i64 0, .int .i64 0]) 2 16 := EI.mk' Try.underlying173 (by kernel_rfl) rfl
structure Srch (base : Nat) (w : World) (gs gq r : Nat) (v : Value) (ord : List (Pc × Sp)) (Q : List Pc) : Prop where
 sb : Bx w gs [.map (some r)] 141
 qb : Bx w gq [v] 173
 mg : MG kvP kvS w r (lookB ord)
 qu : OwnQ base 144 w v Q
 hr : base ≤ r
 hq : base ≤ gq
def addQ (ord : List (Pc × Sp)) (p : Pc) (Q : List Pc) : List Pc := if p ∈ keysL ord then Q else Q ++ [p]
section
variable {base : Nat} {w w' : World} {gs gq r : Nat} {v : Value} {ord : List (Pc × Sp)} {Q : List Pc}
theorem Srch.step (s : Srch base w gs gq r v ord Q) (h : Step w w') : Srch base w' gs gq r v ord Q := ⟨s.sb.step h, s.qb.step h, s.mg.keep (.of_step (S := fun _ => False) h) id, s.qu.step h, s.hr, s.hq⟩
end
def SrchX (gq r : Nat) (v : Value) (j : Nat) : Prop := j = gq ∨ j = r ∨ v.ownBlock = some j
theorem add_any {base : Nat} {gs gq r : Nat} {v : Value} {ord : List (Pc × Sp)} {Q : List Pc} (w : World) (S : Srch base w gs gq r v ord Q) (p : Pc) (s : Sp) (hQ : Q.length ≤ 100000) (hb : base ≤ w.heap.size) :
  Calls Try.prog 117 #[kvP p, kvS s, .pointer (some ⟨gs, 0, none⟩), .pointer (some ⟨gq, 0, none⟩)] w fun e w' => e = .returned (.tuple #[]) ∧ ∃ v', Srch base w' gs gq r v' (addB ord (p, s)) (addQ ord p Q) ∧ StepX (SrchX gq r v) w w' ∧ (∀ k, v'.ownBlock = some k → v.ownBlock = some k ∨ w.heap.size ≤ k) := by
 obtain ⟨⟨fs, fm⟩, way, back⟩ := s
 obtain ⟨ps, pm⟩ := p
 obtain ⟨W0, hW0⟩ : ∃ W, W = (w.alloc (.cells #[.int .i64 ps, .int .i64 pm] 144)).alloc (.cells #[.int .i64 fs, .int .i64 fm, .int .i64 way, .bool back] 167) := ⟨_, rfl⟩
 have hbp : Bx W0 w.heap.size [.int .i64 ps, .int .i64 pm] 144 := by subst hW0; exact (Bx.new w [_, _] _).alloc _
 have hbs : Bx W0 (w.heap.size + 1) [.int .i64 fs, .int .i64 fm, .int .i64 way, .bool back] 167 := by subst hW0; exact Bx.new' _ [_, _, _, _] _ _ (by simp)
 have hS : Step w W0 := by subst hW0; exact (Step.alloc _ _).trans (Step.alloc _ _)
 have s0 := S.step hS
 have p0 := hbp.cell 0
 have p1 := hbp.cell 1
 have c0 := hbs.cell 0
 have c1 := hbs.cell 1
 have c2 := hbs.cell 2
 have c3 := hbs.cell 3
 have m0 := s0.sb.cell 0
 simp only [zD, zE] at p0 p1 c0 c1 c2 c3 m0
 have hlk := is_seen s0.mg ⟨ps, pm⟩
 rw [look_mem] at hlk
 have hlt : w.heap.size + 1 < W0.heap.size := hbs.lt
 have hltm := s0.sb.lt
 have HS0 := zH s0
 have HW := zH hW0
 have HS := zH hS
 have HBP := zH hbp
 have HBS := zH hbs
 have HBA := zH hb
 clear S s0 hW0 hS hbp hbs hb
 unfold kvP kvS at hlk ⊢
 obtain ⟨z, hz⟩ : ∃ z, z = (lookB ord ⟨ps, pm⟩).getD zeroSp := ⟨_, rfl⟩
 rw [← hz] at hlk
 clear hz
 by_cases hm : (⟨ps, pm⟩ : Pc) ∈ keysL ord
 ·rw [decide_eq_true hm] at hlk
  have HA := zH (show addB ord (⟨ps, pm⟩, ⟨⟨fs, fm⟩, way, back⟩) = ord ∧ addQ ord ⟨ps, pm⟩ Q = Q from ⟨if_pos hm, if_pos hm⟩)
  clear hm
  go_enter Try.func117, Try.ntmps117
  go_upto_region 1 with (fail)
  rw [← HW.out]
  go_wp2
  go_end0
  rw [HA.out.1, HA.out.2]
  exact ⟨rfl, v, HS0.out.step (Step.alloc _ _), .of (HS.out.trans (Step.alloc _ _)), fun k hk => .inl hk⟩
 ·rw [decide_eq_false hm] at hlk
  have HA := zH (show addB ord (⟨ps, pm⟩, ⟨⟨fs, fm⟩, way, back⟩) = ord ++ [(⟨ps, pm⟩, ⟨⟨fs, fm⟩, way, back⟩)] ∧ addQ ord ⟨ps, pm⟩ Q = Q ++ [⟨ps, pm⟩] from ⟨if_neg hm, if_neg hm⟩)
  have HN := zH hm
  clear hm
  go_enter Try.func117, Try.ntmps117
  go_upto_region 1 with (fail)
  rw [← HW.out]
  go_upto_region 3 with (fail)
  obtain ⟨W1, hW1⟩ : ∃ z9, z9 = W0.alloc (.cells #[.int .i64 z.frm.spot, .int .i64 z.frm.minute, .int .i64 z.way, .bool z.back] 167) := ⟨_, rfl⟩
  have hS1 : Step W0 W1 := by subst hW1; exact Step.alloc _ _
  rw [← hW1]
  have s1 := HS0.out.step hS1
  obtain ⟨w2, hup, hmg2, hw2⟩ := put_seen s1.mg ⟨ps, pm⟩ ⟨⟨fs, fm⟩, way, back⟩
  unfold kvP kvS at hup
  have hbp1 := HBP.out.step hS1
  have nbp := s1.mg.nob hbp1
  have nbq := s1.mg.nob s1.qb
  have nbs := s1.mg.nob s1.sb
  have hbp2 := hbp1.keep hw2.keeps nbp
  have hqb2 := s1.qb.keep hw2.keeps nbq
  have hsb2 := s1.sb.keep hw2.keeps nbs
  have hqu2 : OwnQ base 144 w2 v Q := s1.qu.kept fun g hg => hw2.block g fun e => OwnQ_ne_mg s1.qu s1.mg (e ▸ hg)
  have hmg3 : MG kvP kvS w2 r (lookB (ord ++ [(⟨ps, pm⟩, ⟨⟨fs, fm⟩, way, back⟩)])) := hmg2.congr (funext fun y => (look_add (e := (⟨ps, pm⟩, ⟨⟨fs, fm⟩, way, back⟩)) HN.out y).symm)
  have hXw2 : StepX (SrchX gq r v) w w2 := (StepX.of (HS.out.trans hS1)).trans ((Wrote.stepX hw2 (X := SrchX gq r v) (.inr (.inl rfl))))
  have hz2 : W1.heap.size = w2.heap.size := hw2.size.symm
  have hz1 : w.heap.size ≤ w2.heap.size := hXw2.size
  have m0 := s1.sb.cell 0
  have p0 := hbp1.cell 0
  have p1 := hbp1.cell 1
  have c0 := hS1.kc c0
  have c1 := hS1.kc c1
  have c2 := hS1.kc c2
  have c3 := hS1.kc c3
  simp only [zD, zE] at m0 p0 p1
  have HBP2 := zH hbp2
  have HQB2 := zH hqb2
  have HSB2 := zH hsb2
  have HQU2 := zH hqu2
  have HMG3 := zH hmg3
  have HX2 := zH hXw2
  have HZ2 := zH hz1
  clear hS1 s1 hmg2 hw2 hbp1 nbp nbq nbs hbp2 hqb2 hsb2 hqu2 hmg3 hXw2 hW1 hlk hz2 hz1
  go_upto_region 4 with (fail)
  clear hup m0 p0 p1 c0 c1 c2 c3
  have q0 := HQB2.out.cell 0
  have q1 := HQB2.out.frozen 0
  have q2 := HQB2.out.lt
  have p0 := HBP2.out.cell 0
  have p1 := HBP2.out.cell 1
  simp only [zD, zE] at q0 p0 p1
  obtain ⟨pv, cv, rfl⟩ := HQU2.out.form
  have hsz : base ≤ w2.heap.size := Nat.le_trans HBA.out HZ2.out
  go_wp2_with (at_builtin; refine wpl_append_Q (α := Pc) (x := ⟨ps, pm⟩) (l := Q) (base := base) eiPlace rfl _ _ rfl rfl ⟨w2.heap.size, 0, none⟩ 1 rfl ((HQU2.out.step (Step.alloc _ _))) [.int .i64 ps, .int .i64 pm] rfl ?_ ?_ ?_ ?_ ?_)
  ·intro j u hj
   rw [Addr.add_lit, Nat.zero_add]
   have := (Bx.new w2 [.int .i64 ps, .int .i64 pm] 144).cell j
   rw [this]; exact hj
  ·simp only [maxLen]; omega
  ·omega
  ·simp; omega
  intro p' c' w4 hown hg hnew
  have hA := Step.alloc w2 (.cells #[.int .i64 ps, .int .i64 pm] 144)
  have hne1 : (Value.slice pv Q.length cv).ownBlock ≠ some gq := HQU2.out.ne_bx HQB2.out (by decide)
  have hne2 : (Value.slice pv Q.length cv).ownBlock ≠ some gs := HQU2.out.ne_bx HSB2.out (by decide)
  have hne3 : (Value.slice pv Q.length cv).ownBlock ≠ some r := OwnQ_ne_mg HQU2.out HMG3.out
  have hqb4 := (HQB2.out.step hA).grown hg hne1
  have hsb4 := (HSB2.out.step hA).grown hg hne2
  have hmg4 : MG kvP kvS w4 r (lookB (ord ++ [(⟨ps, pm⟩, ⟨⟨fs, fm⟩, way, back⟩)])) := by
   have h1 := HMG3.out.keep (.of_step (S := fun _ => False) hA) id
   exact h1.at_block (hg.block r h1.lt (fun e => hne3 e.symm))
  have hgs : gs ≠ gq := fun e => by
   have h1 := HSB2.out
   have h2 := HQB2.out
   rw [e] at h1
   unfold Bx at h1 h2
   rw [h1] at h2
   injection h2 with h2
   injection h2 with _ h2
   exact absurd h2 (by decide)
  have hgr : r ≠ gq := fun e => HMG3.out.nob HQB2.out e.symm
  have hX4 : StepX (SrchX gq r (.slice pv Q.length cv)) w w4 := (HX2.out.trans (.of hA)).trans (StepX.grown hg fun k hk _ => .inr (.inr hk))
  have q0 := hqb4.cell 0
  have q1 := hqb4.frozen 0
  have q2 := hqb4.lt
  simp only [List.getElem?_cons_zero] at q0
  have HQ4 := zH hqb4
  have HS4 := zH hsb4
  have HM4 := zH hmg4
  have HX4 := zH hX4
  have HOW := zH hown
  have HNE := zH (And.intro hgs hgr)
  have HNW := zH hnew
  clear hA hne1 hne2 hne3 hqb4 hsb4 hmg4 hgs hgr hX4 hown hg hnew
  go_wp2
  go_end0
  rw [HA.out.1, HA.out.2]
  have hno : ∀ k, (Value.slice p' (Q.length + 1) c').ownBlock = some k → k ≠ gq := fun k hk e => HOW.out.ne_bx HQ4.out (by decide) (e ▸ hk)
  refine ⟨rfl, .slice p' (Q.length + 1) c', ⟨HS4.out.setOther HNE.out.1, HQ4.out.setCell 0 _, HM4.out.at_block (Below.heap_setCell w4 ⟨gq, 0, none⟩ _ r HNE.out.2), HOW.out.kept fun k hk => Below.heap_setCell w4 ⟨gq, 0, none⟩ _ k (hno k hk), HS0.out.hr, HS0.out.hq⟩, HX4.out.setCell ⟨gq, 0, none⟩ _ (.inl rfl), fun k hk => (HNW.out k hk).imp id fun h => ?_⟩
  have := HZ2.out
  omega
end Go.Proofs.Ytfhmdpicoccnfaa
namespace Go.BT.Ob
open Go.RowKit
inductive Kd where
 | silent | chain | alloc (T : TypeId) (z : Value)
def madeV (z : Value) (g : Nat) : Value := match z with
 | .tuple xs => .slice (some ⟨g, 0, none⟩) xs.size xs.size
 | .map (some _) => .map (some g)
 | _ => .pointer (some ⟨g, 0, none⟩)
def madeC (z : Value) : Array Value := match z with
 | .tuple xs => xs
 | z => z.cells
def madeO (z : Value) (T : TypeId) : Obj := match z with
 | .map (some _) => .map #[] 0
 | z => .cells (madeC z) T
def isTup (z : Value) : Bool := match z with
 | .tuple _ => true
 | .map (some _) => true
 | _ => false
def Makes (P : Program) (ops : Array Oper) (i : Nat) (T : TypeId) (z : Value) : Prop := match z with
 | .tuple xs => ∃ o, ops[i]? = some o ∧ ∀ (a : Act) (w : World), (execOp a.eval o).run P w = .ok (.value (.slice (some ⟨w.heap.size, 0, none⟩) xs.size xs.size)) (w.alloc (.cells xs T))
 | .map (some _) => ∃ o, ops[i]? = some o ∧ ∀ (a : Act) (w : World), (execOp a.eval o).run P w = .ok (.value (.map (some w.heap.size))) (w.alloc (.map #[] 0))
 | z => (P.info? T).bind (·.zero) = some z
def QF : Exit → Act → World → Prop := fun _ _ _ => False
abbrev Cont := (Nat → Prop) → Act → World → Prop
def ContMono (X : Nat → Prop) (K : Cont) : Prop := ∀ (N N' : Nat → Prop) a w w', (∀ g, N' g → N g) → StepX X w w' → K N a w → K N' a w'
section
variable (P : Program) (ops : Array Oper) (X : Nat → Prop) (base : Nat) (kd : Nat → Kd)
def go (i : Nat) (K : Cont) : Cont := fun N a w =>
 match kd i with
 | .silent => ∃ o v, ops[i]? = some o ∧ YieldsIf P ops (StepX X w) o v a ∧ K N (a.put o.dst v) w
 | .chain => ∀ W, StepX X w W → wpOp P ops QF i (fun a' w' => StepX X W w' ∧ K (fun g => N g ∧ (g < W.heap.size ∨ w'.heap.size ≤ g)) a' w') a W
 | .alloc T z => ∀ W g, StepX X w W → W.heap[g]? = some (madeO z T) → base ≤ g → N g → K (fun x => N x ∧ x ≠ g) (a.put ((ops[i]?).bind (·.dst)) (madeV z g)) W
def run (l : List Nat) (K : Cont) : Cont := l.foldr (fun i K => go P ops X base kd i K) K
variable {P ops X base kd}
theorem YieldsIf.step {o : Oper} {v : Value} {a : Act} {w w' : World} (h : YieldsIf P ops (StepX X w) o v a) (hs : StepX X w w') : YieldsIf P ops (StepX X w') o v a :=
 h.imp (fun ⟨hw, hv⟩ => ⟨hw, fun W hW => hv W (hs.trans hW)⟩) id
theorem go_cong {i : Nat} {K K' : Cont} (h : ∀ N a w, K N a w → K' N a w) {N : Nat → Prop} {a : Act} {w : World} (hg : go P ops X base kd i K N a w) : go P ops X base kd i K' N a w := by
 unfold go at *
 split at hg
 ·obtain ⟨o, v, ho, hy, hk⟩ := hg; exact ⟨o, v, ho, hy, h _ _ _ hk⟩
 ·exact fun W hW => wpOp_mono (fun a' w' ⟨hs, hk⟩ => ⟨hs, h _ _ _ hk⟩) (hg W hW)
 ·exact fun W g h1 h2 h3 h4 => h _ _ _ (hg W g h1 h2 h3 h4)
theorem go_mono {i : Nat} {K : Cont} (hK : ContMono X K) : ContMono X (go P ops X base kd i K) := by
 intro N N' a w w' hN hs hg
 unfold go at *
 split at hg
 ·obtain ⟨o, v, ho, hy, hk⟩ := hg; exact ⟨o, v, ho, YieldsIf.step hy hs, hK _ _ _ _ _ hN hs hk⟩
 ·exact fun W hW => wpOp_mono (fun a' w' ⟨hs', hk⟩ => ⟨hs', hK _ _ _ _ _ (fun g ⟨h1, h2⟩ => ⟨hN g h1, h2⟩) (StepX.refl _ _) hk⟩) (hg W (hs.trans hW))
 ·exact fun W g h1 h2 h3 h4 => hK _ _ _ _ _ (fun x ⟨h5, h6⟩ => ⟨hN x h5, h6⟩) (StepX.refl _ _) (hg W g (hs.trans h1) h2 h3 (hN g h4))
theorem run_mono {K : Cont} (hK : ContMono X K) : ∀ l, ContMono X (run P ops X base kd l K)
 | [] => hK
 | _ :: l => go_mono (run_mono hK l)
theorem wpOp_under {j : Nat} {oj : Oper} {dst : Option Tmp} {v : Value} (hj : ops[j]? = some oj) (h1 : ∀ d, dst = some d → d ∉ oj.looksAt ops) (h2 : ∀ d, dst = some d → oj.dst ≠ some d)
  (hsj : ∀ cs b, oj.op ≠ .select cs b) {K : Act → World → Prop} {a : Act} {w : World} (h : wpOp P ops QF j K a w) :
  wpOp P ops QF j (fun a' w' => ∃ a0, a' = a0.put dst v ∧ K a0 w') (a.put dst v) w := by
 unfold wpOp at *
 simp only [hj] at *
 rw [wanted_put oj a dst v h1]
 split
 ·rename_i hw
  simp only [hw, if_true] at h
  rcases h with h | ⟨_, a0, w0, hF⟩
  case inr => exact hF.elim
  refine .inl ?_
  unfold Oper.wp at *
  rw [execOp_put oj hsj a dst v h1]
  generalize (execOp a.eval oj).run P w = r at *
  cases r with
  | ok n w' =>
   cases n <;> simp only [Oper.upon] at h ⊢
   case value u => exact ⟨_, (Act.put_comm a v u h2), h⟩
   case skip => exact ⟨_, (Act.put_comm a v undef h2), h⟩
   case defer d => exact ⟨_, (by rw [← Act.put_comm _ v undef h2]; cases dst <;> rfl), h⟩
   case enter f args =>
    refine Calls.mono h fun e w'' he => ?_
    cases e with
    | returned u => exact ⟨_, (Act.put_comm a v u h2), he⟩
    | panicked c => exact he.elim
    | outgrown => exact he
   case row row args => exact Rows.mono h fun u w'' he => ⟨_, (Act.put_comm a v u h2), he⟩
  | halt x w' =>
   cases x <;> simp only [Oper.upon] at h ⊢
   case panic u => exact h.elim
 ·rename_i hw
  simp only [hw] at h
  exact ⟨_, (Act.put_comm a v undef h2), h⟩
def swaps : Kd → Kd → Bool
 | .silent, _ => true
 | .chain, .alloc _ _ => true
 | .alloc _ _, .alloc _ _ => true
 | _, _ => false
theorem exch {i j : Nat} {oi oj : Oper} (hi : ops[i]? = some oi) (hj : ops[j]? = some oj) (hap : oi.apart ops oj = true)
  (hsi : ∀ cs b, oi.op ≠ .select cs b) (hsj : ∀ cs b, oj.op ≠ .select cs b) (hsw : swaps (kd i) (kd j) = true) (hX : ∀ j, X j → j < base) {K : Cont} (hK : ContMono X K) {N : Nat → Prop} {a : Act} {w : World}
  (h : go P ops X base kd i (go P ops X base kd j K) N a w) : go P ops X base kd j (go P ops X base kd i K) N a w := by
 obtain ⟨h1, h2, h3⟩ := Oper.apart_spec hap
 have keepI : ∀ {S : World → Prop} {v : Value} {a : Act} (u : Value), YieldsIf P ops S oi v a → YieldsIf P ops S oi v (a.put oj.dst u) := fun {S v a} u hy =>
  hy.of_same (execOp_put oi hsi a oj.dst u h3) (wanted_put oi a oj.dst u h3)
 have backJ : ∀ {S : World → Prop} {v u : Value} {a : Act}, YieldsIf P ops S oj v (a.put oi.dst u) → YieldsIf P ops S oj v a := fun {S v u a} hy =>
  hy.of_same (execOp_put oj hsj a oi.dst u h1).symm (wanted_put oj a oi.dst u h1).symm
 have hdi : (ops[i]?).bind (·.dst) = oi.dst := by rw [hi]; rfl
 have hdj : (ops[j]?).bind (·.dst) = oj.dst := by rw [hj]; rfl
 have hsome : ∀ {w w' : World} {g : Nat} {o : Obj}, StepX X w w' → base ≤ g → w.heap[g]? = some o → w'.heap[g]? = some o := fun {w w' g o} hs hb hg => by
  rw [hs.block g (Array.getElem?_eq_some_iff.1 hg).1 (fun hx => by have := hX g hx; omega)]; exact hg
 cases hki : kd i with
 | silent =>
  cases hkj : kd j with
  | silent =>
   simp only [go, hki, hkj] at h ⊢
   obtain ⟨o, v, ho, hy, o', v', ho', hy', hk⟩ := h
   obtain rfl : oi = o := by rw [hi] at ho; exact Option.some.inj ho
   obtain rfl : oj = o' := by rw [hj] at ho'; exact Option.some.inj ho'
   exact ⟨_, v', hj, backJ hy', _, v, hi, keepI _ hy, by rw [← Act.put_comm a v v' h2]; exact hk⟩
  | chain =>
   simp only [go, hki, hkj] at h ⊢
   obtain ⟨o, v, ho, hy, hk⟩ := h
   obtain rfl : oi = o := by rw [hi] at ho; exact Option.some.inj ho
   intro W hW
   refine wpOp_mono (fun a' w' hh => ?_) (wpOp_putIf (S := StepX X w) hj hap hsi hsj (fun _ _ _ hq => hq) hy (hk W hW))
   obtain ⟨hy', hs, hk'⟩ := hh
   exact ⟨hs, _, v, hi, YieldsIf.step hy' (hW.trans hs), hk'⟩
  | alloc T z =>
   simp only [go, hki, hkj] at h ⊢
   obtain ⟨o, v, ho, hy, hk⟩ := h
   obtain rfl : oi = o := by rw [hi] at ho; exact Option.some.inj ho
   refine fun W g hs hb hg hN => ⟨_, v, hi, ?_, ?_⟩
   ·rw [hdj]; exact keepI _ (YieldsIf.step hy hs)
   ·rw [hdj, ← Act.put_comm a v _ h2, ← hdj]
    exact hk W g hs hb hg hN
 | chain =>
  cases hkj : kd j with
  | silent => simp [hki, hkj, swaps] at hsw
  | chain => simp [hki, hkj, swaps] at hsw
  | alloc T z =>
   simp only [go, hki, hkj] at h ⊢
   intro W0 g hs0 hb hg hN W hW
   refine wpOp_mono (fun a' w' hh => ?_) (wpOp_under (dst := (ops[j]?).bind (·.dst)) (v := madeV z g) hi (by rw [hdj]; exact h3) (by rw [hdj]; exact fun d hd he => h2 d he hd) hsi (h W (hs0.trans hW)))
   obtain ⟨a0, rfl, hs, hk⟩ := hh
   have hlt : g < W.heap.size := Nat.lt_of_lt_of_le (Array.getElem?_eq_some_iff.1 hb).1 hW.size
   exact ⟨hs, hK _ _ _ _ _ (fun x ⟨⟨q1, q2⟩, q3⟩ => ⟨⟨q1, q3⟩, q2⟩) (StepX.refl _ _) (hk w' g (StepX.refl _ _) (hsome (hW.trans hs) hg hb) hg ⟨hN, .inl hlt⟩)⟩
 | alloc T z =>
  cases hkj : kd j with
  | silent => simp [hki, hkj, swaps] at hsw
  | chain => simp [hki, hkj, swaps] at hsw
  | alloc T' z' =>
   simp only [go, hki, hkj] at h ⊢
   intro W' g' hs' hb' hg' hN' W g hs hb hg ⟨hN, hne⟩
   rw [hdi, hdj] at *
   rw [← Act.put_comm a _ _ h2]
   exact hK _ _ _ _ _ (fun x ⟨⟨q1, q2⟩, q3⟩ => ⟨⟨q1, q3⟩, q2⟩) (StepX.refl _ _) (h W g (hs'.trans hs) hb hg hN W g' (StepX.refl _ _) (hsome hs hg' hb') hg' ⟨hN', fun e => hne e.symm⟩)
def bitsOf (tab : List Nat) (j : Nat) (l : List Edge) : Nat := l.foldl (fun acc e => if Region.binds .any e && decide (e.on < j) then acc ||| (2 ^ e.on ||| tab.getD e.on 0) else acc) 0
def okTab (tab : List Nat) (ops : Array Oper) : Bool := (List.range ops.size).all fun j => match ops[j]? with
 | none => true
 | some o => tab.getD j 0 == bitsOf tab j o.after.toList
def ancB (tab : List Nat) (i j : Nat) : Bool := (tab.getD j 0).testBit i
theorem bits_of {tab : List Nat} {j i : Nat} : ∀ {l : List Edge} {acc : Nat}, (l.foldl (fun acc e => if Region.binds .any e && decide (e.on < j) then acc ||| (2 ^ e.on ||| tab.getD e.on 0) else acc) acc).testBit i = true →
  acc.testBit i = true ∨ ∃ e ∈ l, Region.binds .any e = true ∧ e.on < j ∧ (e.on = i ∨ ancB tab i e.on = true) := by
 intro l
 induction l with
 | nil => intro acc h; exact .inl h
 | cons x l ih =>
  intro acc h
  rw [List.foldl_cons] at h
  rcases ih h with h1 | ⟨e, he, h2⟩
  ·split at h1
   ·rename_i hx
    simp only [Bool.and_eq_true, decide_eq_true_eq] at hx
    rw [Nat.testBit_or, Nat.testBit_or, Nat.testBit_two_pow, Bool.or_eq_true, Bool.or_eq_true, decide_eq_true_eq] at h1
    rcases h1 with h1 | h1
    ·exact .inl h1
    ·exact .inr ⟨x, List.mem_cons_self, hx.1, hx.2, h1⟩
   ·exact .inl h1
  ·exact .inr ⟨e, List.mem_cons_of_mem _ he, h2⟩
def okPair (tab : List Nat) (ops : Array Oper) (kd : Nat → Kd) (i j : Nat) : Bool :=
 ancB tab i j || match ops[i]?, ops[j]? with
  | some oi, some oj => oi.apart ops oj && swaps (kd i) (kd j)
  | _, _ => false
def okList (tab : List Nat) (ops : Array Oper) (kd : Nat → Kd) : List Nat → Bool
 | [] => true
 | i :: l => l.all (okPair tab ops kd i) && okList tab ops kd l
def okTail (tab : List Nat) (before : List Nat) : List Nat → Bool
 | [] => true
 | x :: t => before.all (fun y => ancB tab y x) && okTail tab (before ++ [x]) t
def isSil : Kd → Bool
 | .silent => true
 | _ => false
def isMove (ops : Array Oper) (i : Nat) : Bool := match ops[i]? with
 | some o => (match o.op with | .move _ => true | .extract _ _ => true | _ => false)
 | none => false
def okWait (strict : Bool) (tab : List Nat) (ops : Array Oper) (kd : Nat → Kd) (y x : Nat) : Bool :=
 ancB tab y x || (!strict && isSil (kd y) && isMove ops y && match ops[y]?, ops[x]? with
  | some oy, some ox => oy.apart ops ox
  | _, _ => false)
def okDeps (ops : Array Oper) (seen : List Nat) : List Nat → Bool
 | [] => true
 | x :: l => (match ops[x]? with
  | none => false
  | some o => o.after.all fun e => !Region.binds .any e || seen.contains e.on) && okDeps ops (seen ++ [x]) l
def okAlloc (ops : Array Oper) (kd : Nat → Kd) (l : List Nat) : Bool :=
 l.all fun i => match kd i, ops[i]? with
  | .alloc T z, some o => o.guard.isNone && (isTup z || match o.op with | .alloc T' => T == T' | _ => false)
  | .alloc _ _, none => false
  | _, _ => true
def okSeq (strict : Bool) (tab : List Nat) (ops : Array Oper) (kd : Nat → Kd) (l t : List Nat) : Bool :=
 okTab tab ops && okList tab ops kd l && (l.all fun y => t.all fun x => okWait strict tab ops kd y x) && okTail tab [] t && okDeps ops [] (l ++ t) && okAlloc ops kd l && Region.noSelect ops && (List.range ops.size).all (fun i => (l ++ t).contains i) && (l ++ t).all (fun i => decide (i < ops.size)) && decide (l ++ t).Nodup
def Closed (ops : Array Oper) (listed : Array Bool) : Prop :=
 ∀ x o, ops[x]? = some o → listed.getD x true = true → ∀ e ∈ o.after, Region.binds .any e = true → listed.getD e.on false = true
theorem getD_tf' {listed : Array Bool} {i : Nat} (h : i < listed.size) (hl : listed.getD i false = true) : listed.getD i true = true := by
 simp [h] at hl ⊢; exact hl
variable {tab : List Nat}
theorem anc_listed {listed : Array Bool} (hsz : listed.size = ops.size) (hc : Closed ops listed) (ht : okTab tab ops = true) : ∀ j i o, ops[j]? = some o → (∀ e ∈ o.after, Region.binds .any e = true → listed.getD e.on false = true) →
  ancB tab i j = true → listed.getD i false = true := by
 intro j
 induction j using Nat.strongRecOn with
 | _ j ih =>
  intro i o ho hd h
  have hj : j < ops.size := (Array.getElem?_eq_some_iff.1 ho).1
  have h1 := List.all_eq_true.1 ht j (List.mem_range.2 hj)
  simp only [ho, beq_iff_eq] at h1
  unfold ancB at h
  rw [h1] at h
  rcases bits_of h with h2 | ⟨e, he, hb, hlt, h2⟩
  ·simp at h2
  ·have hl := hd e (by simpa using he) hb
   rcases h2 with rfl | h2
   ·exact hl
   ·have hej : e.on < ops.size := by omega
    exact ih e.on hlt i ops[e.on] (Array.getElem?_eq_getElem hej) (hc e.on _ (Array.getElem?_eq_getElem hej) (getD_tf' (by omega) hl)) h2
theorem bring (hX : ∀ j, X j → j < base) {K : Cont} (hK : ContMono X K) (hsel : Region.noSelect ops = true) {j : Nat} {oj : Oper} (hj : ops[j]? = some oj) : ∀ (l1 l2 : List Nat) (N : Nat → Prop) (a : Act) (w : World),
  (∀ i ∈ l1, ∃ oi, ops[i]? = some oi ∧ oi.apart ops oj = true ∧ swaps (kd i) (kd j) = true) → run P ops X base kd (l1 ++ j :: l2) K N a w → go P ops X base kd j (run P ops X base kd (l1 ++ l2) K) N a w := by
 intro l1
 induction l1 with
 | nil => intro l2 N a w _ h; exact h
 | cons i l1 ih =>
  intro l2 N a w hall h
  obtain ⟨oi, hi, hap, hsw⟩ := hall i (by simp)
  have h' : go P ops X base kd i (go P ops X base kd j (run P ops X base kd (l1 ++ l2) K)) N a w :=
   go_cong (fun N a w hh => ih l2 N a w (fun k hk => hall k (by simp [hk])) hh) h
  exact exch hi hj hap (Region.noSelect_spec hsel i oi · · hi) (Region.noSelect_spec hsel j oj · · hj) hsw hX (run_mono hK _) h'
theorem okList_drop {l1 l2 : List Nat} {j : Nat} (h : okList tab ops kd (l1 ++ j :: l2) = true) : okList tab ops kd (l1 ++ l2) = true ∧ ∀ i ∈ l1, okPair tab ops kd i j = true := by
 induction l1 with
 | nil => simp only [List.nil_append, okList, Bool.and_eq_true] at h; exact ⟨h.2, by simp⟩
 | cons i l1 ih =>
  simp only [List.cons_append, okList, Bool.and_eq_true, List.all_eq_true] at h ⊢
  obtain ⟨h1, h2⟩ := ih h.2
  refine ⟨⟨fun x hx => h.1 x ?_, h1⟩, fun x hx => ?_⟩
  ·simp only [List.mem_append, List.mem_cons] at hx ⊢; rcases hx with hx | hx <;> simp [hx]
  ·rcases List.mem_cons.1 hx with rfl | hx
   ·exact h.1 j (by simp)
   ·exact h2 x hx
def TailOk (tab : List Nat) (l t : List Nat) : Prop := ∀ t1 x t2, t = t1 ++ x :: t2 → ∀ y ∈ l ++ t1, ancB tab y x = true
def DepsOk (ops : Array Oper) (listed : Array Bool) (L : List Nat) : Prop := ∀ L1 x L2, L = L1 ++ x :: L2 → ∃ o, ops[x]? = some o ∧ ∀ e ∈ o.after, Region.binds .any e = true → listed.getD e.on false = true ∨ e.on ∈ L1
theorem tailOk_of {t : List Nat} : ∀ {b : List Nat}, okTail tab b t = true → TailOk tab b t := by
 induction t with
 | nil => intro b _ t1 x t2 h; exact absurd h (by simp)
 | cons z t ih =>
  intro b h t1 x t2 he y hy
  simp only [okTail, Bool.and_eq_true, List.all_eq_true] at h
  cases t1 with
  | nil =>
   simp only [List.nil_append, List.cons.injEq] at he
   obtain ⟨rfl, rfl⟩ := he
   exact h.1 y (by simpa using hy)
  | cons z' t1 =>
   simp only [List.cons_append, List.cons.injEq] at he
   obtain ⟨rfl, rfl⟩ := he
   exact ih h.2 t1 x t2 rfl y (by simpa using hy)
theorem depsOk_of {listed : Array Bool} {L : List Nat} : ∀ {seen : List Nat}, okDeps ops seen L = true → ∀ L1 x L2, L = L1 ++ x :: L2 → ∃ o, ops[x]? = some o ∧ ∀ e ∈ o.after, Region.binds .any e = true → listed.getD e.on false = true ∨ e.on ∈ seen ++ L1 := by
 induction L with
 | nil => intro b _ t1 x t2 h; exact absurd h (by simp)
 | cons z t ih =>
  intro b h t1 x t2 he
  simp only [okDeps, Bool.and_eq_true] at h
  cases t1 with
  | nil =>
   simp only [List.nil_append, List.cons.injEq] at he
   obtain ⟨rfl, rfl⟩ := he
   cases ho : ops[z]? with
   | none => simp [ho] at h
   | some o =>
    simp only [ho, Array.all_eq_true_iff_forall_mem, Bool.or_eq_true, Bool.not_eq_true', List.contains_iff_mem] at h
    exact ⟨o, rfl, fun e he hb => .inr (by have := (h.1 e he).resolve_left (by simp [hb]); simpa using this)⟩
  | cons z' t1 =>
   simp only [List.cons_append, List.cons.injEq] at he
   obtain ⟨rfl, rfl⟩ := he
   obtain ⟨o, ho, hh⟩ := ih h.2 t1 x t2 rfl
   exact ⟨o, ho, fun e he hb => (hh e he hb).imp id (by simp)⟩
def K0 (P : Program) (ops : Array Oper) (X : Nat → Prop) (Q : Exit → Act → World → Prop) (t : List Nat) : Cont := fun _ a w => ∀ W, StepX X w W → wpOps P ops Q t a W
theorem K0_mono {Q : Exit → Act → World → Prop} (t : List Nat) : ContMono X (K0 P ops X Q t) := fun _ _ _ _ _ _ hs h W hW => h W (hs.trans hW)
theorem wpOp_any {Q : Exit → Act → World → Prop} {i : Nat} {K : Act → World → Prop} {a : Act} {w : World} (h : wpOp P ops QF i K a w) : wpOp P ops Q i K a w := by
 unfold wpOp at *
 cases ho : ops[i]? with
 | none => simp only [ho] at h; exact h
 | some o =>
  simp only [ho] at h ⊢
  split
  ·rename_i hw
   simp only [hw, if_true] at h
   rcases h with h | ⟨_, a0, w0, hF⟩
   case inr => exact hF.elim
   refine .inl ?_
   unfold Oper.wp at *
   generalize (execOp a.eval o).run P w = r at *
   cases r with
   | ok n w' =>
    cases n <;> simp only [Oper.upon] at h ⊢ <;> first
     | exact h
     | exact Calls.mono h (fun e w'' he => by cases e <;> first | exact he | exact he.elim | (obtain ⟨_, _, hF⟩ := he; exact hF.elim))
   | halt x w' => cases x <;> simp only [Oper.upon] at h ⊢ <;> exact h.elim
  ·rename_i hw
   simp only [hw] at h
   exact h
theorem wpOp_alloc {Q : Exit → Act → World → Prop} {i : Nat} {o : Oper} {T : TypeId} {z : Value} {K : Act → World → Prop} {a : Act} {w : World} (ho : ops[i]? = some o) (hop : (isTup z || match o.op with | .alloc T' => T == T' | _ => false) = true) (hg : o.guard = none)
  (hz : Makes P ops i T z) (h : K (a.put o.dst (madeV z w.heap.size)) (w.alloc (madeO z T))) : wpOp P ops Q i K a w := by
 unfold wpOp
 simp only [ho, Region.wanted, hg, if_true]
 refine .inl ?_
 unfold Oper.wp
 have hr : (execOp a.eval o).run P w = .ok (.value (madeV z w.heap.size)) (w.alloc (madeO z T)) := by
  by_cases ht : ∃ xs, z = .tuple xs
  ·obtain ⟨xs, rfl⟩ := ht
   obtain ⟨o', ho', hrun⟩ := hz
   obtain rfl : o = o' := by rw [ho] at ho'; exact Option.some.inj ho'
   exact hrun _ _
  ·by_cases hmp : ∃ r, z = .map (some r)
   ·obtain ⟨r, rfl⟩ := hmp
    obtain ⟨o', ho', hrun⟩ := hz
    obtain rfl : o = o' := by rw [ho] at ho'; exact Option.some.inj ho'
    exact hrun _ _
   have h1 : isTup z = false := by
    cases z <;> simp [isTup] at ht ⊢
    rename_i m
    cases m with
    | none => rfl
    | some r => exact (hmp ⟨r, rfl⟩).elim
   have h2 : madeV z w.heap.size = .pointer (some ⟨w.heap.size, 0, none⟩) := by
    cases z <;> simp [isTup] at h1 <;> first | rfl | (rename_i m; cases m <;> simp at h1; rfl)
   have h3 : madeO z T = .cells z.cells T := by
    cases z <;> simp [isTup] at h1 <;> first | rfl | (rename_i m; cases m <;> simp at h1; rfl)
   have h4 : (P.info? T).bind (·.zero) = some z := by
    cases z <;> simp [isTup] at h1 <;> first | exact hz | (rename_i m; cases m <;> simp at h1; exact hz)
   rw [h1, Bool.false_or] at hop
   have hop' : o.op = .alloc T := by
    cases hopp : o.op <;> simp [hopp] at hop
    rw [hop]
   obtain ⟨inf, hi, hzz⟩ := Option.bind_eq_some_iff.1 h4
   rw [h2, h3]
   simp [execOp, hop', Instr.alloc, zeroValue, typeInfo, hi, hzz, newVar, newRow, newObj, Result.andThen]
   rfl
 rw [hr]
 exact h
theorem getD_tf {listed : Array Bool} {i : Nat} (h : i < listed.size) : listed.getD i true = listed.getD i false := by simp [h]
theorem getD_set {listed : Array Bool} {i j : Nat} (hi : i < listed.size) : (listed.setIfInBounds i true).getD j true = (listed.getD j true || decide (i = j)) := by
 by_cases hij : i = j
 ·subst hij; simp [hi]
 ·rw [getD_set_ne true hij]; simp [hij]
theorem depsOk_drop {listed : Array Bool} {L1 L2 : List Nat} {j : Nat} (hj : j < listed.size) (h : DepsOk ops listed (L1 ++ j :: L2)) : DepsOk ops (listed.setIfInBounds j true) (L1 ++ L2) := by
 intro M1 x M2 he
 have keep : ∀ {k}, listed.getD k false = true → (listed.setIfInBounds j true).getD k false = true := fun {k} hk => getD_set_true hk
 rcases List.append_eq_append_iff.1 he with ⟨r, h1, h2⟩ | ⟨r, h1, h2⟩
 ·-- M1 = L1 ++ r, L2 = r ++ x :: M2
  subst h1 h2
  obtain ⟨o, ho, hh⟩ := h (L1 ++ j :: r) x M2 (by simp)
  refine ⟨o, ho, fun e hee hb => ?_⟩
  rcases hh e hee hb with hl | hm
  ·exact .inl (keep hl)
  ·simp only [List.mem_append, List.mem_cons] at hm ⊢
   rcases hm with hm | rfl | hm
   ·exact .inr (.inl hm)
   ·exact .inl (by simp [hj])
   ·exact .inr (.inr hm)
 ·-- L1 = M1 ++ r, x :: M2 = r ++ L2
  cases r with
  | nil =>
   simp only [List.append_nil, List.nil_append] at h1 h2
   subst h1
   obtain ⟨o, ho, hh⟩ := h (L1 ++ [j]) x M2 (by simp [h2])
   refine ⟨o, ho, fun e hee hb => ?_⟩
   rcases hh e hee hb with hl | hm
   ·exact .inl (keep hl)
   ·simp only [List.mem_append, List.mem_singleton] at hm
    rcases hm with hm | rfl
    ·exact .inr hm
    ·exact .inl (by simp [hj])
  | cons y r =>
   simp only [List.cons_append, List.cons.injEq] at h2
   obtain ⟨rfl, rfl⟩ := h2
   subst h1
   obtain ⟨o, ho, hh⟩ := h M1 x (r ++ j :: L2) (by simp)
   exact ⟨o, ho, fun e hee hb => (hh e hee hb).imp keep id⟩
theorem nodup_mid {L1 L2 : List Nat} {j : Nat} (h : (L1 ++ j :: L2).Nodup) : j ∉ L1 ++ L2 ∧ (L1 ++ L2).Nodup := by
 rw [List.nodup_append] at h
 obtain ⟨h1, h2, h3⟩ := h
 rw [List.nodup_cons] at h2
 refine ⟨?_, ?_⟩
 ·rw [List.mem_append]
  rintro (hj | hj)
  ·exact h3 j hj j (by simp) rfl
  ·exact h2.1 hj
 ·rw [List.nodup_append]
  exact ⟨h1, h2.2, fun a ha b hb => h3 a ha b (by simp [hb])⟩
theorem unlisted_drop {listed : Array Bool} {j : Nat} {L1 L2 : List Nat} (hsz : j < listed.size) (hun : ∀ i, i < ops.size → (listed.getD i true = false ↔ i ∈ L1 ++ j :: L2)) (hnd : (L1 ++ j :: L2).Nodup) :
  ∀ i, i < ops.size → ((listed.setIfInBounds j true).getD i true = false ↔ i ∈ L1 ++ L2) := by
 intro i hi
 rw [getD_set hsz, Bool.or_eq_false_iff, decide_eq_false_iff_not, hun i hi]
 obtain ⟨h1, _⟩ := nodup_mid hnd
 simp only [List.mem_append, List.mem_cons] at h1 ⊢
 constructor
 ·rintro ⟨h2 | h2 | h2, h3⟩
  ·exact .inl h2
  ·exact absurd h2.symm h3
  ·exact .inr h2
 ·intro h2
  refine ⟨h2.elim .inl (fun h => .inr (.inr h)), fun e => ?_⟩
  subst e; exact h1 h2
theorem closed_set {listed : Array Bool} {j : Nat} {oj : Oper} (hsz : j < listed.size) (hoj : ops[j]? = some oj) (hdj : ∀ e ∈ oj.after, Region.binds .any e = true → listed.getD e.on false = true) (hcl : Closed ops listed) :
  Closed ops (listed.setIfInBounds j true) := fun x o ho hx e he hb => by
 rw [getD_set hsz, Bool.or_eq_true, decide_eq_true_eq] at hx
 rcases hx with hx | rfl
 ·exact getD_set_true (hcl x o ho hx e he hb)
 ·rw [hoj] at ho; obtain rfl := Option.some.inj ho; exact getD_set_true (hdj e he hb)
theorem tail_sound {Q : Exit → Act → World → Prop} : ∀ (fuel : Nat) (t : List Nat) (listed : Array Bool) (a : Act) (w : World),
  t.length ≤ fuel → listed.size = ops.size → (∀ i, i < ops.size → (listed.getD i true = false ↔ i ∈ t)) → (∀ i ∈ t, i < ops.size) → t.Nodup → Closed ops listed →
  okTab tab ops = true → TailOk tab [] t → DepsOk ops listed t → wpOps P ops Q t a w → wpAny P .any ops Q fuel listed a w := by
 intro fuel
 induction fuel with
 | zero =>
  intro t listed a w hf hsz hun hin hnd hcl htab htail hdeps h
  have ht : t = [] := List.eq_nil_of_length_eq_zero (by omega)
  subst ht
  refine ⟨?_, by simpa [wpOps] using h⟩
  rw [List.eq_nil_iff_forall_not_mem]
  intro j hj
  obtain ⟨h0, o, ho, _⟩ := mem_ready.1 hj
  have := (hun j (Array.getElem?_eq_some_iff.1 ho).1).1 h0
  simp at this
 | succ fuel ih =>
  intro t listed a w hf hsz hun hin hnd hcl htab htail hdeps h
  refine ⟨fun hr => ?_, fun j hj => ?_⟩
  ·cases t with
   | nil => simpa [wpOps] using h
   | cons x L =>
    exfalso
    obtain ⟨o, ho, hh⟩ := hdeps [] x L rfl
    have hx : x ∈ Region.ready .any ops listed := mem_ready.2 ⟨(hun x (hin x (by simp))).2 (by simp), o, ho, fun e he hb => (hh e he hb).resolve_right (by simp)⟩
    rw [hr] at hx; cases hx
  ·obtain ⟨h0, oj, hoj, hdj⟩ := mem_ready.1 hj
   have hjlt := (Array.getElem?_eq_some_iff.1 hoj).1
   have hjsz : j < listed.size := by omega
   obtain ⟨t1, t2, rfl⟩ := List.append_of_mem ((hun j hjlt).1 h0)
   have ht1 : t1 = [] := by
    rw [List.eq_nil_iff_forall_not_mem]
    intro i hi
    have h1 := anc_listed hsz hcl htab j i oj hoj hdj (htail t1 j t2 rfl i (by simp [hi]))
    have h2 := (hun i (hin i (by simp [hi]))).2 (by simp [hi])
    rw [getD_tf (by rw [hsz]; exact hin i (by simp [hi])), h1] at h2
    cases h2
   subst ht1
   rw [List.nil_append, wpOps_cons] at h
   refine wpOp_mono (fun a' w' hk => ?_) h
   have hnd' := nodup_mid hnd
   refine ih t2 _ a' w' (by simp at hf; omega) (by simp [hsz]) (by have := unlisted_drop (L1 := []) (L2 := t2) hjsz hun hnd; simpa using this) (fun i hi => hin i (by simp [hi])) (by simpa using hnd'.2)
    (closed_set hjsz hoj hdj hcl) htab (fun u1 x u2 he y hy => htail (j :: u1) x u2 (by simp [he]) y (by simp at hy ⊢; exact .inr hy)) (by have := depsOk_drop (L1 := []) (L2 := t2) hjsz hdeps; simpa using this) hk
def runM (P : Program) (ops : Array Oper) : List Nat → (Act → Prop) → Act → Prop
 | [], K, a => K a
 | i :: l, K, a => ∃ o v, ops[i]? = some o ∧ YieldsIf P ops (fun _ => True) o v a ∧ runM P ops l K (a.put o.dst v)
theorem runM_mono {K K' : Act → Prop} (h : ∀ a, K a → K' a) : ∀ {l : List Nat} {a : Act}, runM P ops l K a → runM P ops l K' a
 | [], _, hr => h _ hr
 | _ :: _, _, ⟨o, v, ho, hy, hr⟩ => ⟨o, v, ho, hy, runM_mono h hr⟩
theorem move_yields {S : World → Prop} {o : Oper} {v : Value} {a : Act} {w : World} {i : Nat} (ho : ops[i]? = some o) (hm : isMove ops i = true) (hs : S w) (h : YieldsIf P ops S o v a) : YieldsIf P ops (fun _ => True) o v a := by
 rcases h with ⟨hw, hv⟩ | h
 ·refine .inl ⟨hw, fun W _ => ?_⟩
  have h1 := hv w hs
  unfold isMove at hm
  rw [ho] at hm
  simp only at hm
  cases hop : o.op <;> simp [hop] at hm
  ·simp [execOp, hop] at h1 ⊢
   exact h1
  ·rename_i x ix
   have h2 : ∀ (u : Value) (n : Nat), (∃ y, Instr.extract u n = pure y) ∨ ∃ t, Instr.extract u n = stuck t := fun u n => by
    unfold Instr.extract
    split
    ·split
     ·exact .inl ⟨_, rfl⟩
     ·exact .inr ⟨_, rfl⟩
    ·exact .inr ⟨_, rfl⟩
   rcases h2 (a.eval x) ix with ⟨y, h3⟩ | ⟨t, h3⟩
   ·simp [execOp, hop, h3] at h1 ⊢
    exact h1
   ·simp [execOp, hop, h3] at h1
 ·exact .inr h
theorem runM_of_run {Q : Exit → Act → World → Prop} {t : List Nat} {w : World} : ∀ {l : List Nat} {N : Nat → Prop} {a : Act}, (∀ y ∈ l, isSil (kd y) = true ∧ isMove ops y = true) → run P ops X base kd l (K0 P ops X Q t) N a w → runM P ops l (fun a => wpOps P ops Q t a w) a := by
 intro l
 induction l with
 | nil => intro N a _ h; exact h w (StepX.refl _ w)
 | cons i l ih =>
  intro N a hl h
  obtain ⟨h1, h2⟩ := hl i (by simp)
  have h' : go P ops X base kd i (run P ops X base kd l (K0 P ops X Q t)) N a w := h
  unfold go at h'
  cases hk : kd i <;> simp [hk, isSil] at h1
  rw [hk] at h'
  obtain ⟨o, v, ho, hy, hr⟩ := h'
  exact ⟨o, v, ho, move_yields ho h2 (StepX.refl _ w) hy, ih (fun y hy => hl y (by simp [hy])) hr⟩
theorem bringM (hsel : Region.noSelect ops = true) {K : Act → Prop} {j : Nat} {oj : Oper} (hj : ops[j]? = some oj) : ∀ {l1 l2 : List Nat} {a : Act}, (∀ i ∈ l1, ∃ oi, ops[i]? = some oi ∧ oi.apart ops oj = true) → runM P ops (l1 ++ j :: l2) K a →
  ∃ v, YieldsIf P ops (fun _ => True) oj v a ∧ runM P ops (l1 ++ l2) K (a.put oj.dst v) := by
 intro l1
 induction l1 with
 | nil =>
  intro l2 a _ h
  obtain ⟨o, v, ho, hy, hr⟩ := h
  obtain rfl : oj = o := by rw [hj] at ho; exact Option.some.inj ho
  exact ⟨v, hy, hr⟩
 | cons i l1 ih =>
  intro l2 a hall h
  obtain ⟨oi', hi', hap⟩ := hall i (by simp)
  obtain ⟨oi, vi, hi, hyi, hr⟩ := h
  obtain rfl : oi' = oi := by rw [hi] at hi'; exact (Option.some.inj hi').symm
  obtain ⟨v, hyj, hr2⟩ := ih (fun k hk => hall k (by simp [hk])) hr
  obtain ⟨h1, h2, h3⟩ := Oper.apart_spec hap
  have hsi := (Region.noSelect_spec hsel i oi' · · hi)
  have hsj := (Region.noSelect_spec hsel j oj · · hj)
  refine ⟨v, hyj.of_same (execOp_put oj hsj a oi'.dst vi h1).symm (wanted_put oj a oi'.dst vi h1).symm, oi', vi, hi, hyi.of_same (execOp_put oi' hsi a oj.dst v h3) (wanted_put oi' a oj.dst v h3), ?_⟩
  rw [← Act.put_comm a vi v h2]
  exact hr2
theorem tailM (hsel : Region.noSelect ops = true) {Q : Exit → Act → World → Prop} (hQ : ∀ c d v a w, Q (.panic c) (Act.put a d v) w → Q (.panic c) a w) {j : Nat} {oj : Oper} (hj : ops[j]? = some oj) {K : Act → World → Prop} {w : World} : ∀ {l : List Nat} {a : Act},
  (∀ i ∈ l, ∃ oi, ops[i]? = some oi ∧ oi.apart ops oj = true) → runM P ops l (fun a => wpOp P ops Q j K a w) a → wpOp P ops Q j (fun a' w' => runM P ops l (fun a => K a w') a') a w := by
 intro l
 induction l with
 | nil => intro a _ h; exact h
 | cons i l ih =>
  intro a hall h
  obtain ⟨oi', hi', hap⟩ := hall i (by simp)
  obtain ⟨oi, vi, hi, hyi, hr⟩ := h
  obtain rfl : oi' = oi := by rw [hi] at hi'; exact (Option.some.inj hi').symm
  have h1 := ih (fun k hk => hall k (by simp [hk])) hr
  refine wpOp_mono (fun a' w' hh => ?_) (wpOp_putIf (S := fun _ => True) hj hap (Region.noSelect_spec hsel i oi' · · hi) (Region.noSelect_spec hsel j oj · · hj) (fun c a w => hQ c _ _ a w) hyi h1)
  exact ⟨oi', vi, hi, hh.1, hh.2⟩
theorem mixed_sound {Q : Exit → Act → World → Prop} (hsel : Region.noSelect ops = true) (hQ : ∀ c d v a w, Q (.panic c) (Act.put a d v) w → Q (.panic c) a w) : ∀ (fuel : Nat) (l t : List Nat) (listed : Array Bool) (a : Act) (w : World),
  l.length + t.length ≤ fuel → listed.size = ops.size → (∀ i, i < ops.size → (listed.getD i true = false ↔ i ∈ l ++ t)) → (∀ i ∈ l ++ t, i < ops.size) → (l ++ t).Nodup → Closed ops listed →
  okTab tab ops = true → okList tab ops kd l = true → (∀ y ∈ l, ∀ x ∈ t, ancB tab y x = true ∨ ∃ oy ox, ops[y]? = some oy ∧ ops[x]? = some ox ∧ oy.apart ops ox = true) → TailOk tab [] t → DepsOk ops listed (l ++ t) →
  runM P ops l (fun a => wpOps P ops Q t a w) a → wpAny P .any ops Q fuel listed a w := by
 intro fuel
 induction fuel with
 | zero =>
  intro l t listed a w hf hsz hun hin hnd hcl htab _ _ htail hdeps h
  have hl : l = [] := List.eq_nil_of_length_eq_zero (by omega)
  subst hl
  exact tail_sound 0 t listed a w (by simpa using hf) hsz hun hin hnd hcl htab htail hdeps h
 | succ fuel ih =>
  intro l t listed a w hf hsz hun hin hnd hcl htab hlist hwait htail hdeps h
  by_cases hl : l = []
  ·subst hl
   exact tail_sound _ t listed a w (by simpa using hf) hsz hun hin hnd hcl htab htail hdeps h
  refine ⟨fun hr => ?_, fun j hj => ?_⟩
  ·exfalso
   cases l with
   | nil => exact hl rfl
   | cons x L =>
    obtain ⟨o, ho, hh⟩ := hdeps [] x (L ++ t) (by simp)
    have hx : x ∈ Region.ready .any ops listed := mem_ready.2 ⟨(hun x (hin x (by simp))).2 (by simp), o, ho, fun e he hb => (hh e he hb).resolve_right (by simp)⟩
    rw [hr] at hx; cases hx
  ·obtain ⟨h0, oj, hoj, hdj⟩ := mem_ready.1 hj
   have hjlt := (Array.getElem?_eq_some_iff.1 hoj).1
   have hjsz : j < listed.size := by omega
   have hjm := (hun j hjlt).1 h0
   have hcl' := closed_set hjsz hoj hdj hcl
   have notanc : ∀ i ∈ l ++ t, ancB tab i j = true → False := fun i hi ha => by
    have h1 := anc_listed hsz hcl htab j i oj hoj hdj ha
    have h2 := (hun i (hin i hi)).2 hi
    rw [getD_tf (by rw [hsz]; exact hin i hi), h1] at h2
    cases h2
   rcases List.mem_append.1 hjm with hjl | hjt
   ·obtain ⟨l1, l2, rfl⟩ := List.append_of_mem hjl
    obtain ⟨hlist', hpair⟩ := okList_drop hlist
    have hall : ∀ i ∈ l1, ∃ oi, ops[i]? = some oi ∧ oi.apart ops oj = true := fun i hi => by
     have hp := hpair i hi
     simp only [okPair, Bool.or_eq_true] at hp
     rcases hp with hp | hp
     ·exact (notanc i (by simp [hi]) hp).elim
     ·cases hoi : ops[i]? with
      | none => simp [hoi] at hp
      | some oi =>
       simp only [hoi, hoj, Bool.and_eq_true] at hp
       exact ⟨oi, rfl, hp.1⟩
    obtain ⟨v, hy, hr⟩ := bringM hsel hoj hall h
    have he : (l1 ++ j :: l2) ++ t = l1 ++ j :: (l2 ++ t) := by simp
    refine hy.wpOp hoj trivial (ih (l1 ++ l2) t _ _ w (by simp at hf ⊢; omega) (by simp [hsz]) (by have := unlisted_drop (L1 := l1) (L2 := l2 ++ t) hjsz (by rw [← he]; exact hun) (by rw [← he]; exact hnd); simpa using this)
     (fun i hi => hin i (by simp only [List.mem_append, List.mem_cons] at hi ⊢; rcases hi with (hi | hi) | hi <;> simp [hi]))
     (by have := (nodup_mid (by rw [← he]; exact hnd)).2; simpa using this) hcl' htab hlist' (fun y hy x hx => hwait y (by simp only [List.mem_append, List.mem_cons] at hy ⊢; rcases hy with hy | hy <;> simp [hy]) x hx) htail
     (by have := depsOk_drop (L1 := l1) (L2 := l2 ++ t) hjsz (by rw [← he]; exact hdeps); simpa using this) hr)
   ·obtain ⟨t1, t2, rfl⟩ := List.append_of_mem hjt
    have ht1 : t1 = [] := by
     rw [List.eq_nil_iff_forall_not_mem]
     intro i hi
     exact notanc i (by simp [hi]) (htail t1 j t2 rfl i (by simp [hi]))
    subst ht1
    have hall : ∀ i ∈ l, ∃ oi, ops[i]? = some oi ∧ oi.apart ops oj = true := fun i hi => by
     rcases hwait i hi j (by simp) with h1 | ⟨oy, ox, h1, h2, h3⟩
     ·exact (notanc i (by simp [hi]) h1).elim
     ·obtain rfl : oj = ox := by rw [hoj] at h2; exact Option.some.inj h2
      exact ⟨oy, h1, h3⟩
    have h' : runM P ops l (fun a => wpOp P ops Q j (wpOps P ops Q t2) a w) a := runM_mono (fun a hh => by rw [List.nil_append, wpOps_cons] at hh; exact hh) h
    have he : l ++ ([] ++ j :: t2) = l ++ j :: t2 := by simp
    refine wpOp_mono (fun a' w' hk => ?_) (tailM hsel hQ hoj hall h')
    exact ih l t2 _ a' w' (by simp at hf; omega) (by simp [hsz]) (by have := unlisted_drop (L1 := l) (L2 := t2) hjsz (by rw [← he]; exact hun) (by rw [← he]; exact hnd); simpa using this)
     (fun i hi => hin i (by simp only [List.mem_append, List.nil_append, List.mem_cons] at hi ⊢; rcases hi with hi | hi <;> simp [hi])) (by have := (nodup_mid (by rw [← he]; exact hnd)).2; simpa using this) hcl' htab hlist
     (fun y hy x hx => hwait y hy x (by simp [hx])) (fun u1 x u2 hu y hy => htail (j :: u1) x u2 (by simp [hu]) y (by simp at hy ⊢; exact .inr hy)) (by have := depsOk_drop (L1 := l) (L2 := t2) hjsz (by rw [← he]; exact hdeps); simpa using this) hk
theorem seq_sound (hX : ∀ j, X j → j < base) {Q : Exit → Act → World → Prop} (hsel : Region.noSelect ops = true) {strict : Bool} (hQ : strict = true ∨ ∀ c d v a w, Q (.panic c) (Act.put a d v) w → Q (.panic c) a w) : ∀ (fuel : Nat) (l t : List Nat) (listed : Array Bool) (N : Nat → Prop) (a : Act) (w : World),
  l.length + t.length ≤ fuel → listed.size = ops.size → (∀ i, i < ops.size → (listed.getD i true = false ↔ i ∈ l ++ t)) → (∀ i ∈ l ++ t, i < ops.size) → (l ++ t).Nodup → Closed ops listed →
  okTab tab ops = true → okList tab ops kd l = true → (∀ y ∈ l, ∀ x ∈ t, okWait strict tab ops kd y x = true) → TailOk tab [] t → DepsOk ops listed (l ++ t) → okAlloc ops kd l = true → (∀ i T z, i ∈ l → kd i = .alloc T z → Makes P ops i T z) →
  (∀ g, w.heap.size ≤ g → N g) → base ≤ w.heap.size → run P ops X base kd l (K0 P ops X Q t) N a w → wpAny P .any ops Q fuel listed a w := by
 intro fuel
 induction fuel with
 | zero =>
  intro l t listed N a w hf hsz hun hin hnd hcl htab _ _ htail hdeps _ _ _ _ h
  have hl : l = [] := List.eq_nil_of_length_eq_zero (by omega)
  subst hl
  exact tail_sound 0 t listed a w (by simpa using hf) hsz hun hin hnd hcl htab htail hdeps (h w (StepX.refl _ w))
 | succ fuel ih =>
  intro l t listed N a w hf hsz hun hin hnd hcl htab hlist hwait htail hdeps halloc hz hN hbase h
  by_cases hl : l = []
  ·subst hl
   exact tail_sound _ t listed a w (by simpa using hf) hsz hun hin hnd hcl htab htail hdeps (h w (StepX.refl _ w))
  refine ⟨fun hr => ?_, fun j hj => ?_⟩
  ·-- nothing may come up: but something is left
   exfalso
   cases l with
   | nil => exact hl rfl
   | cons x L =>
    obtain ⟨o, ho, hh⟩ := hdeps [] x (L ++ t) (by simp)
    have hx : x ∈ Region.ready .any ops listed := mem_ready.2 ⟨(hun x (hin x (by simp))).2 (by simp), o, ho, fun e he hb => (hh e he hb).resolve_right (by simp)⟩
    rw [hr] at hx; cases hx
  ·obtain ⟨h0, oj, hoj, hdj⟩ := mem_ready.1 hj
   have hjlt := (Array.getElem?_eq_some_iff.1 hoj).1
   have hjsz : j < listed.size := by omega
   have hjm := (hun j hjlt).1 h0
   have hcl' := closed_set hjsz hoj hdj hcl
   have notanc : ∀ i ∈ l ++ t, ancB tab i j = true → False := fun i hi ha => by
    have h1 := anc_listed hsz hcl htab j i oj hoj hdj ha
    have h2 := (hun i (hin i hi)).2 hi
    rw [getD_tf (by rw [hsz]; exact hin i hi), h1] at h2
    cases h2
   rcases List.mem_append.1 hjm with hjl | hjt
   ·-- one of the first part
    obtain ⟨l1, l2, rfl⟩ := List.append_of_mem hjl
    obtain ⟨hlist', hpair⟩ := okList_drop hlist
    have hall : ∀ i ∈ l1, ∃ oi, ops[i]? = some oi ∧ oi.apart ops oj = true ∧ swaps (kd i) (kd j) = true := fun i hi => by
     have hp := hpair i hi
     simp only [okPair, Bool.or_eq_true] at hp
     rcases hp with hp | hp
     ·exact (notanc i (by simp [hi]) hp).elim
     ·cases hoi : ops[i]? with
      | none => simp [hoi] at hp
      | some oi =>
       simp only [hoi, hoj, Bool.and_eq_true] at hp
       exact ⟨oi, rfl, hp.1, hp.2⟩
    have hb := bring hX (K0_mono t) hsel hoj l1 l2 N a w hall h
    have he : (l1 ++ j :: l2) ++ t = l1 ++ j :: (l2 ++ t) := by simp
    have next : ∀ (N' : Nat → Prop) (a' : Act) (w' : World), (∀ g, w'.heap.size ≤ g → N' g) → w.heap.size ≤ w'.heap.size → run P ops X base kd (l1 ++ l2) (K0 P ops X Q t) N' a' w' → wpAny P .any ops Q fuel (listed.setIfInBounds j true) a' w' :=
     fun N' a' w' hN' hsz' hr => ih (l1 ++ l2) t _ N' a' w' (by simp at hf ⊢; omega) (by simp [hsz]) (by have := unlisted_drop (L1 := l1) (L2 := l2 ++ t) hjsz (by rw [← he]; exact hun) (by rw [← he]; exact hnd); simpa using this)
      (fun i hi => hin i (by simp only [List.mem_append, List.mem_cons] at hi ⊢; rcases hi with (hi | hi) | hi <;> simp [hi]))
      (by have := (nodup_mid (by rw [← he]; exact hnd)).2; simpa using this) hcl' htab hlist' (fun y hy x hx => hwait y (by simp only [List.mem_append, List.mem_cons] at hy ⊢; rcases hy with hy | hy <;> simp [hy]) x hx) htail
      (by have := depsOk_drop (L1 := l1) (L2 := l2 ++ t) hjsz (by rw [← he]; exact hdeps); simpa using this)
      (by simp only [okAlloc, List.all_eq_true, List.mem_append, List.mem_cons] at halloc ⊢; exact fun x hx => halloc x (hx.elim .inl (fun h => .inr (.inr h))))
      (fun i T z hi => hz i T z (by simp only [List.mem_append, List.mem_cons] at hi ⊢; rcases hi with hi | hi <;> simp [hi])) hN' (by omega) hr
    cases hk : kd j with
    | silent =>
     simp only [go, hk] at hb
     obtain ⟨o, v, ho, hy, hr⟩ := hb
     exact hy.wpOp ho (StepX.refl _ w) (next N _ w hN (Nat.le_refl _) hr)
    | chain =>
     simp only [go, hk] at hb
     exact wpOp_any (wpOp_mono (fun a' w' ⟨hs, hr⟩ => next _ a' w' (fun g hg => ⟨hN g (Nat.le_trans hs.size hg), .inr hg⟩) hs.size hr) (hb w (StepX.refl _ w)))
    | alloc T z =>
     simp only [go, hk] at hb
     have hal := halloc
     simp only [okAlloc, List.all_eq_true] at hal
     have hal := hal j (by simp)
     simp only [hk, hoj, Bool.and_eq_true] at hal
     obtain ⟨hg, hop⟩ := hal
     refine wpOp_alloc hoj hop (by simpa using hg) (hz j T z (by simp) hk) ?_
     have hd : (ops[j]?).bind (·.dst) = oj.dst := by rw [hoj]; rfl
     rw [hd] at hb
     exact next _ _ _ (fun g hgg => ⟨hN g (by simp at hgg; omega), by simp at hgg; omega⟩) (by simp) (hb (w.alloc (madeO z T)) w.heap.size (.of (Step.alloc _ _)) (heap_alloc_new w _) hbase (hN _ (Nat.le_refl _)))
   ·-- the tail waits, but for moves
    have hw1 : ∀ y ∈ l, ancB tab y j = true ∨ (strict = false ∧ isSil (kd y) = true ∧ isMove ops y = true ∧ ∃ oy, ops[y]? = some oy ∧ oy.apart ops oj = true) := fun y hy => by
     have := hwait y hy j hjt
     simp only [okWait, Bool.or_eq_true, Bool.and_eq_true, Bool.not_eq_true'] at this
     rcases this with h1 | ⟨⟨⟨h1, h2⟩, h3⟩, h4⟩
     ·exact .inl h1
     ·cases hoy : ops[y]? with
      | none => simp [hoy] at h4
      | some oy => simp only [hoy, hoj] at h4; exact .inr ⟨h1, h2, h3, oy, rfl, h4⟩
    have hw2 : ∀ y ∈ l, strict = false ∧ isSil (kd y) = true ∧ isMove ops y = true := fun y hy => by
     rcases hw1 y hy with h1 | ⟨h1, h2, h3, _⟩
     ·exact (notanc y (by simp [hy]) h1).elim
     ·exact ⟨h1, h2, h3⟩
    have hst : strict = false := by
     cases l with
     | nil => exact (hl rfl).elim
     | cons x L => exact (hw2 x (by simp)).1
    have hQ' := hQ.resolve_left (by rw [hst]; decide)
    have hm := mixed_sound hsel hQ' (fuel + 1) l t listed a w hf hsz hun hin hnd hcl htab hlist (fun y hy x hx => by
     have := hwait y hy x hx
     simp only [okWait, Bool.or_eq_true, Bool.and_eq_true, Bool.not_eq_true'] at this
     rcases this with h1 | ⟨_, h4⟩
     ·exact .inl h1
     ·cases hoy : ops[y]? with
      | none => simp [hoy] at h4
      | some oy =>
       cases hox : ops[x]? with
       | none => simp [hoy, hox] at h4
       | some ox => simp only [hoy, hox] at h4; exact .inr ⟨oy, ox, rfl, rfl, h4⟩) htail hdeps (runM_of_run (fun y hy => (hw2 y hy).2) h)
    exact hm.2 j hj
theorem wp_region_seqG {id : Nat} {Q : Exit → Act → World → Prop} {a : Act} {w : World} (X : Nat → Prop) (hX : ∀ j, X j → j < w.heap.size) (kd : Nat → Kd) (strict : Bool) (hQ : strict = true ∨ ∀ c d v a w, Q (.panic c) (Act.put a d v) w → Q (.panic c) a w) (tab l t : List Nat) (hm : P.follows .mixedOrders = true) (hok : okSeq strict tab ops kd l t = true)
  (hz : ∀ i T z, i ∈ l → kd i = .alloc T z → Makes P ops i T z)
  (h : ∀ W, StepX X w W → run P ops X w.heap.size kd l (K0 P ops X Q t) (fun _ => True) a W) : (Code.region id ops true).wp P Q a w := by
 simp only [okSeq, Bool.and_eq_true, List.all_eq_true, decide_eq_true_eq, List.mem_range, List.contains_iff_mem] at hok
 obtain ⟨⟨⟨⟨⟨⟨⟨⟨⟨h0, h1⟩, h9⟩, h2⟩, h3⟩, h4⟩, h5⟩, h6⟩, h7⟩, h8⟩ := hok
 refine wp_region_any hm ?_
 refine seq_sound (base := w.heap.size) (kd := kd) hX h5 hQ ops.size l t _ (fun _ => True) a w.drew ?_ (by simp) ?_ h7 h8 ?_ h0 h1 h9 (tailOk_of h2) ?_ h4 hz (fun _ _ => trivial) (by simp) (h w.drew (.of (Step.drew w)))
 ·-- no more than the region has
  have hsub : (l ++ t).length ≤ (List.range ops.size).length := h8.length_le_of_subset (fun i hi => List.mem_range.2 (h7 i hi))
  simpa using hsub
 ·intro i hi
  simp only [Array.getD_eq_getD_getElem?, Array.getElem?_replicate, hi, if_true, Option.getD_some, true_iff]
  exact h6 i hi
 ·intro x o ho hx
  have hlt := (Array.getElem?_eq_some_iff.1 ho).1
  simp [hlt] at hx
 ·intro L1 x L2 he
  obtain ⟨o, ho, hh⟩ := depsOk_of (listed := Array.replicate ops.size false) h3 L1 x L2 he
  exact ⟨o, ho, by simpa using hh⟩
theorem wp_region_seqX {id : Nat} {Q : Exit → Act → World → Prop} {a : Act} {w : World} (X : Nat → Prop) (hX : ∀ j, X j → j < w.heap.size) (kd : Nat → Kd) (tab l t : List Nat) (hm : P.follows .mixedOrders = true) (hok : okSeq true tab ops kd l t = true)
  (hz : ∀ i T z, i ∈ l → kd i = .alloc T z → Makes P ops i T z)
  (h : ∀ W, StepX X w W → run P ops X w.heap.size kd l (K0 P ops X Q t) (fun _ => True) a W) : (Code.region id ops true).wp P Q a w :=
 wp_region_seqG X hX kd true (.inl rfl) tab l t hm hok hz h
theorem wp_region_seq {id : Nat} {Q : Exit → Act → World → Prop} {a : Act} {w : World} (kd : Nat → Kd) (tab l t : List Nat) (hm : P.follows .mixedOrders = true) (hok : okSeq true tab ops kd l t = true)
  (hz : ∀ i T z, i ∈ l → kd i = .alloc T z → Makes P ops i T z)
  (h : ∀ W, Step w W → run P ops (fun _ => False) w.heap.size kd l (K0 P ops (fun _ => False) Q t) (fun _ => True) a W) : (Code.region id ops true).wp P Q a w :=
 wp_region_seqX (fun _ => False) (fun _ h => h.elim) kd tab l t hm hok hz h
theorem wp_region_seqM {id : Nat} {Q : Exit → Act → World → Prop} {a : Act} {w : World} (hQ : ∀ c d v a w, Q (.panic c) (Act.put a d v) w → Q (.panic c) a w) (kd : Nat → Kd) (tab l t : List Nat) (hm : P.follows .mixedOrders = true) (hok : okSeq false tab ops kd l t = true)
  (hz : ∀ i T z, i ∈ l → kd i = .alloc T z → Makes P ops i T z)
  (h : ∀ W, Step w W → run P ops (fun _ => False) w.heap.size kd l (K0 P ops (fun _ => False) Q t) (fun _ => True) a W) : (Code.region id ops true).wp P Q a w :=
 wp_region_seqG (fun _ => False) (fun _ h => h.elim) kd false (.inr hQ) tab l t hm hok hz h
def kdOf (calls : List Nat) (allocs : List (Nat × TypeId × Value)) (i : Nat) : Kd :=
 if calls.contains i then .chain else match allocs.find? (fun x => x.1 == i) with
  | some (_, T, z) => .alloc T z
  | none => .silent
section
variable {K : Cont} {N : Nat → Prop} {a : Act} {w : World} {i : Nat} {l : List Nat} {o : Oper}
theorem run_silent {v : Value} (hk : kd i = .silent) (ho : ops.toList[i]? = some o) (hy : YieldsIf P ops (StepX X w) o v a) (h : run P ops X base kd l K N (a.put o.dst v) w) : run P ops X base kd (i :: l) K N a w := by
 show go P ops X base kd i _ N a w
 unfold go; rw [hk]; exact ⟨o, v, by simpa using ho, hy, h⟩
theorem run_want (hk : kd i = .silent) (ho : ops.toList[i]? = some o) (hw : Region.wanted o (yielded ops a.tmps) = true) (h : ∃ v, (∀ W, StepX X w W → (execOp a.eval o).run P W = .ok (.value v) W) ∧ run P ops X base kd l K N (a.put o.dst v) w) :
  run P ops X base kd (i :: l) K N a w := by
 obtain ⟨v, h1, h2⟩ := h
 exact run_silent hk ho (.inl ⟨hw, h1⟩) h2
theorem run_off (hk : kd i = .silent) (ho : ops.toList[i]? = some o) (hw : Region.wanted o (yielded ops a.tmps) = false) (h : run P ops X base kd l K N (a.put o.dst undef) w) : run P ops X base kd (i :: l) K N a w :=
 run_silent hk ho (.inr ⟨hw, rfl⟩) h
theorem run_chain (hk : kd i = .chain) (ho : ops.toList[i]? = some o) (hw : Region.wanted o (yielded ops a.tmps) = true)
  (h : ∀ W, StepX X w W → ∀ K' : Act → World → Prop, (∀ a' w', StepX X W w' → run P ops X base kd l K (fun g => N g ∧ (g < W.heap.size ∨ w'.heap.size ≤ g)) a' w' → K' a' w') → o.wp P a W K' QF) : run P ops X base kd (i :: l) K N a w := by
 show go P ops X base kd i _ N a w
 have ho : ops[i]? = some o := by simpa using ho
 unfold go; rw [hk]
 intro W hW
 unfold wpOp; simp only [ho, hw, if_true]
 exact .inl (h W hW _ (fun a' w' hs hr => ⟨hs, hr⟩))
theorem run_chain_off (hk : kd i = .chain) (ho : ops.toList[i]? = some o) (hw : Region.wanted o (yielded ops a.tmps) = false) (hK : ContMono X K)
  (h : run P ops X base kd l K N (a.put o.dst undef) w) : run P ops X base kd (i :: l) K N a w := by
 show go P ops X base kd i _ N a w
 have ho : ops[i]? = some o := by simpa using ho
 unfold go; rw [hk]
 intro W hW
 unfold wpOp; simp only [ho, hw]
 exact ⟨StepX.refl _ _, run_mono hK l _ _ _ _ _ (fun g hg => hg.1) hW h⟩
theorem run_mkmap {T : TypeId} {r : Nat} (hk : kd i = .alloc T (.map (some r))) (ho : ops.toList[i]? = some o)
  (h : ∀ W g, StepX X w W → W.heap[g]? = some (.map #[] 0) → base ≤ g → N g → run P ops X base kd l K (fun x => N x ∧ x ≠ g) (a.put o.dst (.map (some g))) W) : run P ops X base kd (i :: l) K N a w := by
 show go P ops X base kd i _ N a w
 have ho : ops[i]? = some o := by simpa using ho
 unfold go; rw [hk, ho]; exact h
theorem run_end {Q : Exit → Act → World → Prop} {t : List Nat} {L : List Oper} (ht : t.map (fun i => ops.toList[i]?) = L.map some) (h : ∀ W, StepX X w W → wpList P ops Q L a W) : run P ops X base kd [] (K0 P ops X Q t) N a w := by
 intro W hW
 have h' := h W hW
 clear h hW
 show wpOps P ops Q t a W
 induction t generalizing L a W with
 | nil =>
  cases L with
  | nil => exact h'
  | cons _ _ => simp at ht
 | cons x t ih =>
  cases L with
  | nil => simp at ht
  | cons o L =>
   simp only [List.map_cons, List.cons.injEq, Array.getElem?_toList] at ht
   rw [wpOps_cons]
   unfold wpOp
   unfold wpList at h'
   simp only [ht.1]
   split
   ·rename_i hw
    rw [if_pos hw] at h'
    exact h'.imp (Oper.wp_mono fun a' w' hh => ih (by simpa using ht.2) w' hh) id
   ·rename_i hw
    rw [if_neg hw] at h'
    exact ih (by simpa using ht.2) W h'
end
end
end Go.BT.Ob
namespace Go.Proofs.Ytfhmdpicoccnfaa
set_option linter.unusedSimpArgs false
set_option linter.unusedVariables false
open Go.RowKit Go.BT
theorem eiIntsH : EI Try.prog 26 3 (.int .i64 0) 1 8 := EI.mk' Try.underlying26 (by kernel_rfl) rfl
theorem eiRowsH : EI Try.prog 84 26 (.slice none 0 0) 1 24 := EI.mk' Try.underlying84 (by kernel_rfl) rfl
theorem clone_hints (S : Nat → Prop) (l : List Int) (v : Value) (w : World) (h : SL S w v l) (hl : l.length ≤ 1000000) :
  Calls Try.prog 77 #[v] w fun e w' => ∃ v', e = .returned v' ∧ OwnL (Old w) w.heap.size 3 w' v' l ∧ Step w w' := by
 have hq : ∀ (w : World) (a : Option Addr) (n c n' c' : Nat), (binOp .eql 26 (.slice a n c) (.slice none n' c')).run Try.prog w = .ok (.bool a.isNone) w := fun w a n c n' c' => Lib.run_eql_slice_nil w _ _ a n c n' c' Try.underlying26
 obtain ⟨p, c, rfl⟩ := h.form
 cases p with
 | none =>
  have h0 : l = [] := by
   obtain ⟨p', c', b, o, he, _, _, hp, _⟩ := h
   injection he with he _ _
   cases l with
   | nil => rfl
   | cons x l => rw [← he] at hp; have := hp (by simp); cases this
  subst h0
  have hc : (none : Option Addr).isNone = true := rfl
  go_enter Try.func77, Try.ntmps77
  go_wp2
  go_ret
  exact ⟨_, rfl, OwnL.nil _ _ _ _, Step.refl _⟩
 | some a =>
  have hc : (some a : Option Addr).isNone = false := rfl
  go_enter Try.func77, Try.ntmps77
  go_wp2_with (at_builtin; refine wpl_append (α := Int) (S := Old w) (base := w.heap.size) (v := .slice (some ⟨w.heap.size, 0, none⟩) 0 0) (l := []) (m := l) eiIntsH rfl _ _ rfl rfl rfl ⟨[], World.ownsRow_lit w #[] 0 (Nat.le_refl _) (by simp [maxLen]) (by simp), fun i h => absurd h (by simp)⟩ (SL.flat _ (h.keep (.alloc _ _))) l.length (by simp) l rfl ?_ ?_ ?_ ?_)
  ·simp only [maxLen]; omega
  ·omega
  ·simp
  intro p' c' w' hown hg
  go_wp2
  go_ret
  exact ⟨_, rfl, hown, .of (((Below.refl _ w).alloc (Nat.le_refl _) _).grown hg (by simp) (by simp [Value.ownBlock]))⟩
theorem own_nums {S : Nat → Prop} {base : Nat} {w : World} {v : Value} {l : List Int} (h : OwnL S base 3 w v l) (hl : 0 < l.length) :
  ∃ g c, v = .slice (some ⟨g, 0, none⟩) l.length c ∧ l.length ≤ c ∧ base ≤ g ∧ Nums w g 3 l.length (fun s => l.getD s 0) := by
 obtain ⟨xs, ⟨hxl, ho⟩, hr⟩ := h
 rcases ho with ⟨_, h0⟩ | ⟨g, cap, cur, rfl, hb, hg, hle, hcap, hsz, htk⟩
 ·omega
 ·refine ⟨g, cap, rfl, hle, hb, cur.toList, ?_, ?_, fun t ht => ?_⟩
  ·unfold Bx
   rw [hg]
  ·have : (Rep.k Int : Nat) = 1 := rfl
   rw [this] at hsz
   simp; omega
  ·have h1 : (xs.drop (t * 1)).take 1 = [.int .i64 l[t]] := hr t ht
   have h2 : xs[t]? = some (.int .i64 l[t]) := by
    have := congrArg (fun q => q[0]?) h1
    simpa using this
   rw [← htk] at h2
   rw [List.getElem?_take] at h2
   split at h2
   ·rw [h2]
    simp [List.getD_eq_getElem?_getD, ht]
   ·cases h2
theorem SL_new {α : Type} [Rep α] {w w' : World} {v : Value} {l : List α} (h : SL (fun _ => False) w v l) (hs : Step w w') : SL (fun j => w.heap.size ≤ j) w' v l :=
 (h.weak (T := fun j => w.heap.size ≤ j) fun j hj hs => by omega).keep (.of_step hs)
theorem rows_ne {w : World} {base n b : Nat} {e : TypeId} {v : Value} {xs : List Value} {o : Obj} (h : w.ownsRow base e 1 v n xs) (hb : w.heap[b]? = some o) (ho : ∀ cs fr, o ≠ .cells cs e fr) : v.ownBlock ≠ some b := by
 obtain ⟨_, ⟨rfl, _⟩ | ⟨g, cap, cur, rfl, _, hg, _⟩⟩ := h
 ·simp [Value.ownBlock]
 ·intro he
  simp [Value.ownBlock] at he
  subst he
  rw [hb] at hg
  injection hg with hg
  exact ho _ _ hg
theorem rows_ne_bx {w : World} {base n b : Nat} {e T : TypeId} {v : Value} {xs cs : List Value} (h : w.ownsRow base e 1 v n xs) (hb : Bx w b cs T) (ht : T ≠ e) : v.ownBlock ≠ some b :=
 rows_ne h hb fun cs' fr he => by injection he with _ he; exact ht he
theorem World.ownsRow.other {w w' : World} {base n : Nat} {e : TypeId} {v : Value} {xs : List Value} (h : w.ownsRow base e 1 v n xs) (hk : ∀ g, v.ownBlock = some g → w'.heap[g]? = w.heap[g]?) : w'.ownsRow base e 1 v n xs := by
 obtain ⟨h1, h2 | ⟨g, cap, cur, rfl, h3, h4, h5⟩⟩ := h
 ·exact ⟨h1, .inl h2⟩
 ·exact ⟨h1, .inr ⟨g, cap, cur, rfl, h3, by rw [hk g (by simp [Value.ownBlock])]; exact h4, h5⟩⟩
theorem World.ownsRow.step {w w' : World} {base n : Nat} {e : TypeId} {v : Value} {xs : List Value} (h : w.ownsRow base e 1 v n xs) (hs : Step w w') : w'.ownsRow base e 1 v n xs :=
 World.ownsRow.other h fun g hg => hs.block g (h.lt g hg).2 id
theorem wp_makeH {P : Program} {w : World} {o : Oper} {a : Act} {K : Act → World → Prop} {Q : Exit → Act → World → Prop} {t e : TypeId} {z : Value} {bytes : Nat} (ei : EI P t e z 1 bytes) (l c : Operand) (hop : o.op = Op.makeSlice t l c)
  (hz : z.cells = #[z]) (kl kc : IntKind) (n : Nat) (hl : a.eval l = .int kl n) (hc : a.eval c = .int kc n) (hn : n ≤ 9223372036854775807) (hb : bytes * n ≤ 281474976710656)
  (hK : K (a.put o.dst (.slice (some ⟨w.heap.size, 0, none⟩) n n)) (w.alloc (.cells (List.replicate n z).toArray e))) : o.wp P a w K Q := by
 obtain ⟨h1, _, i, hi, h2, h3, h4⟩ := ei
 subst h4
 have hb' : (i.bytes : Int) * (n : Int) ≤ 281474976710656 := by
  have h : ((i.bytes * n : Nat) : Int) ≤ 281474976710656 := by omega
  rwa [Int.natCast_mul] at h
 have hr := run_make (P := P) w t e i z h1 hi h2 kl kc n n (by omega) (Int.le_refl _) hb' (by omega)
 simp only [Int.toNat_natCast, h3, Nat.mul_one, madeCells_one z n hz] at hr
 unfold Oper.wp
 simp [execOp, hop, hl, hc, hr, Result.andThen]
 exact hK
theorem wpl_append_lies {P : Program} {w : World} {ops : Array Oper} {rest : List Oper} {o : Oper} {a : Act} {Q : Exit → Act → World → Prop} {t e : TypeId} {z v u : Value} {bytes n base : Nat} {xs : List Value} (ei : EI P t e z 1 bytes) (hgd : o.guard = none) (s x : Operand)
  (ho : o.op = .call { callee := .builtin .append, args := #[s, x], argTypes := #[t, t] }) (hs : a.eval s = v) (ad : Addr) (c : Nat) (hx : a.eval x = .slice (some ad) 1 c) (hown : w.ownsRow base e 1 v n xs) (hu : w.cell? ad = some u) (h1 : u.oneCell' = true)
  (h63 : n + 1 ≤ maxLen) (hbytes : (n + 1) * bytes ≤ 140737488355328) (hbase : base ≤ w.heap.size)
  (h : ∀ g cap w', w'.ownsRow base e 1 (.slice (some ⟨g, 0, none⟩) (n + 1) cap) (n + 1) (xs ++ [u]) → w.grownBy w' v.ownBlock → wpList P ops Q rest (a.put o.dst (.slice (some ⟨g, 0, none⟩) (n + 1) cap)) w') : wpList P ops Q (o :: rest) a w := by
 refine wpList_plain hgd fun K hK => ?_
 obtain ⟨ht, hzs, i, hi, hz, hsize, hby⟩ := ei
 obtain ⟨g, cap, w', hr, h2, h3, _, _⟩ := run_append_lies (P := P) w t o.type base e i z 1 bytes ht hi hz hsize hby hzs (by decide) v n xs hown ad 1 c [u] rfl (fun j y hj => by
  cases j with
  | zero =>
   simp at hj
   subst hj
   have : ad.add 0 = ad := by cases ad; simp [Addr.add]
   rw [this]; exact hu
  | succ j => simp at hj) (fun y hy => by simp at hy; rw [hy]; exact h1) (by decide) h63 hbytes hbase w.heap.size rfl
 unfold Oper.wp execOp
 simp only [ho, resolve, invoke, builtin, Sem.run_bind, Sem.run_pure, Result.andThen_ok, List.map_toArray, List.map_cons, List.map_nil, hs, hx, hr]
 exact hK _ _ (h g cap w' h2 h3)
theorem flee_any (h : Hall) (T : Nat) (v : Value) (w : World) (hv : AV (fun _ => False) w v h) (O : HallOk h) (hT : T ≤ 61) :
  Calls Try.prog 73 #[v, .int .i64 T] w fun e w' => ∃ B vp vw vl sc, e = .returned (.pointer (some ⟨B.fl, 0, none⟩)) ∧ FT w.heap.size w' B vp vw vl sc h T (fly0 (netOf h T)) ∧ Step w w' := by
 have hmm := @run_makeMap Try.prog
 obtain ⟨c0, c1, rfl, h0, h1⟩ := hv.hall
 obtain ⟨p0, k0, rfl⟩ := h0.form
 obtain ⟨p1, k1, rfl⟩ := h1.form
 obtain ⟨W0, hW0⟩ : ∃ W, W = w.alloc (.cells #[.slice p0 h.people.length k0, .slice p1 h.ways.length k1] 78) := ⟨_, rfl⟩
 have hb : Bx W0 w.heap.size [.slice p0 h.people.length k0, .slice p1 h.ways.length k1] 78 := by subst hW0; exact Bx.new w [_, _] _
 have hS : Step w W0 := by subst hW0; exact Step.alloc _ _
 have hp10 : h.people.length ≤ 10 := O.n10
 have hw20 : h.ways.length ≤ 20 := O.w20
 have H0 := zH h0
 have H1 := zH h1
 have HO := zH O
 have HS := zH hS
 have HW := zH hW0
 have HB := zH hb
 have hp0 := h0.keep (.of_step (S := fun _ => False) hS)
 have HP := zH hp0
 clear hv h0 h1 O hW0 hb hS hp0
 go_enter Try.func73, Try.ntmps73
 go_upto_region 1 with (fail)
 rw [← HW.out]
 refine Ob.wp_region_seq (Ob.kdOf [5, 7] [(2, 0, .map (some 0))]) [0, 0, 0, 0, 8, 24, 63, 127, 255] [0, 1, 3, 4, 5, 2, 6, 7, 8] [] (by kernel_rfl) (by kernel_rfl) (fun i T z hi hk => by simp only [List.mem_cons, List.not_mem_nil, or_false] at hi; rcases hi with rfl | rfl | rfl | rfl | rfl | rfl | rfl | rfl | rfl <;> simp [Ob.kdOf] at hk <;> (obtain ⟨rfl, rfl⟩ := hk; first | (show Option.bind _ _ = some _; kernel_rfl) | (refine ⟨_, rfl, fun _ _ => ?_⟩; go_simp))) ?_
 intro Wx hWx
 clear hmm
 have HT := zH hWx
 clear hWx
 have e0 := (HB.out.step HT.out).cell 0
 have e1 := (HB.out.step HT.out).cell 1
 simp only [zD, zE] at e0 e1
 repeat ((first | (refine Ob.run_off rfl rfl (by rfl) ?_) | (refine Ob.run_chain_off rfl rfl (by rfl) (Ob.K0_mono _) ?_) | ((refine Ob.run_want rfl rfl (by rfl) ⟨?_, fun W hW => ?_, ?_⟩; rotate_left; (· (have d0 := hW.kc e0; have d1 := hW.kc e1; go_simp; (try with_reducible rfl)))))); (try simp only [Act.put, zA, zB, zC]))
 clear e0 e1
 refine Ob.run_chain rfl rfl (by rfl) (fun Wi hWi K' hK => ?_)
 have HTi := zH (HT.out.trans hWi)
 clear hWi HT
 go_simp
 refine (clone_hints (fun _ => False) h.people _ _ (HP.out.keep (.of_step HTi.out)) (by omega)).mono ?_
 rintro e wn ⟨v', rfl, hown, hSn⟩
 obtain ⟨g, c, rfl, hgc, hgb, hnum⟩ := own_nums hown (by have := HO.out.n2; omega)
 have HNUM := zH hnum
 have HGC := zH (And.intro hgc (Nat.le_trans HTi.out.size hgb))
 have HT := zH (HTi.out.trans hSn)
 refine hK _ _ (StepX.of hSn) ?_
 clear hSn HTi hK hown hnum hgc hgb
 (try simp only [Act.put, zA, zB, zC])
 repeat ((first | (refine Ob.run_off rfl rfl (by rfl) ?_) | (refine Ob.run_chain_off rfl rfl (by rfl) (Ob.K0_mono _) ?_) | ((refine Ob.run_want rfl rfl (by rfl) ⟨?_, fun W hW => ?_, ?_⟩; rotate_left; (· (skip; go_simp; (try with_reducible rfl)))))); (try simp only [Act.put, zA, zB, zC]))
 refine Ob.run_mkmap rfl rfl (fun W5 mp hW5 hmp hmb hmN => ?_)
 have HNUM5 := zH (HNUM.out.row (hW5.block g HNUM.out.lt id))
 have HT5 := zH (HT.out.trans hW5)
 have HMP := zH hmp
 have HMB := zH hmb
 clear hW5 hmp hmb hmN HT HNUM
 (try simp only [Act.put, zA, zB, zC])
 repeat ((first | (refine Ob.run_off rfl rfl (by rfl) ?_) | (refine Ob.run_chain_off rfl rfl (by rfl) (Ob.K0_mono _) ?_) | ((refine Ob.run_want rfl rfl (by rfl) ⟨?_, fun W hW => ?_, ?_⟩; rotate_left; (· (skip; go_simp; (try with_reducible rfl)))))); (try simp only [Act.put, zA, zB, zC]))
 refine Ob.run_chain rfl rfl (by rfl) (fun Wi hWi K' hK => ?_)
 go_simp
 have HTi := zH (HT5.out.trans hWi)
 have hbf := Bx.new Wi [.slice p0 h.people.length k0, .slice p1 h.ways.length k1, .int .i64 T, .slice none 0 0, .map (some mp), .slice (some ⟨g, 0, none⟩) h.people.length c] 148
 have HBF := zH hbf
 have hA := Step.alloc Wi (.cells #[.slice p0 h.people.length k0, .slice p1 h.ways.length k1, .int .i64 T, .slice none 0 0, .map (some mp), .slice (some ⟨g, 0, none⟩) h.people.length c] 148)
 have HNUM6 := zH ((HNUM5.out.row (hWi.block g HNUM5.out.lt id)).row (hA.block g (Nat.lt_of_lt_of_le HNUM5.out.lt hWi.size) id))
 have HMP6 := zH (show (Wi.alloc (.cells #[.slice p0 h.people.length k0, .slice p1 h.ways.length k1, .int .i64 T, .slice none 0 0, .map (some mp), .slice (some ⟨g, 0, none⟩) h.people.length c] 148)).heap[mp]? = some (.map #[] 0) by
  have hl := (Array.getElem?_eq_some_iff.1 HMP.out).1
  rw [hA.block mp (Nat.lt_of_lt_of_le hl hWi.size) id, hWi.block mp hl id]; exact HMP.out)
 have hfl : W0.heap.size ≤ Wi.heap.size := HTi.out.size
 obtain ⟨fl, hfle⟩ : ∃ z, z = Wi.heap.size := ⟨_, rfl⟩
 obtain ⟨W6, hW6⟩ : ∃ z, z = Wi.alloc (.cells #[.slice p0 h.people.length k0, .slice p1 h.ways.length k1, .int .i64 T, .slice none 0 0, .map (some mp), .slice (some ⟨g, 0, none⟩) h.people.length c] 148) := ⟨_, rfl⟩
 have HT6 := zH (show Step W0 W6 by rw [hW6]; exact HTi.out.trans hA)
 rw [← hW6, ← hfle] at HBF
 rw [← hW6] at HNUM6 HMP6
 rw [← hfle] at hfl
 refine hK _ _ (.of hA) ?_
 rw [← hW6, ← hfle]
 have HFL := zH hfl
 clear hWi HT5 hbf hA hK hW6 hfle hfl HNUM5 HMP HTi
 (try simp only [Act.put, zA, zB, zC])
 repeat ((first | (refine Ob.run_off rfl rfl (by rfl) ?_) | (refine Ob.run_chain_off rfl rfl (by rfl) (Ob.K0_mono _) ?_) | ((refine Ob.run_want rfl rfl (by rfl) ⟨?_, fun W hW => ?_, ?_⟩; rotate_left; (· (skip; go_simp; (try with_reducible rfl)))))); (try simp only [Act.put, zA, zB, zC]))
 refine Ob.run_end (L := []) rfl (fun W7 hW7 => ?_)
 have HT7 := zH (HT6.out.trans hW7)
 have hbf := HBF.out.step hW7
 have hnum := HNUM6.out.row (hW7.block g HNUM6.out.lt id)
 have hmp : W7.heap[mp]? = some (.map #[] 0) := by
  rw [hW7.block mp (Array.getElem?_eq_some_iff.1 HMP6.out).1 id]; exact HMP6.out
 have b1 := (HB.out.step HT7.out).cell 1
 simp only [zD, zE] at b1
 have HBF7 := zH hbf
 have HNUM7 := zH hnum
 have HMP7 := zH hmp
 have hws : w.heap.size ≤ W0.heap.size := HS.out.size
 clear hW7 HT6 HBF HNUM6 HMP6 hbf hnum hmp
 go_wp2
 go_loopw [17] (fun i wr => ∃ k : Nat, k ≤ h.ways.length ∧ i = .int .i64 k ∧ ∃ (vl : Value) (xs : List Value) (rb : Nat → Nat), Bx wr fl [.slice p0 h.people.length k0, .slice p1 h.ways.length k1, .int .i64 T, vl, .map (some mp), .slice (some ⟨g, 0, none⟩) h.people.length c] 148 ∧ wr.ownsRow W0.heap.size 26 1 vl k xs ∧
  (∀ i, i < k → xs[i]? = some (.slice (some ⟨rb i, 0, none⟩) T T)) ∧ (∀ i, i < k → Nums wr (rb i) 3 T (fun _ => 0) ∧ W0.heap.size ≤ rb i ∧ rb i ≠ g) ∧ (∀ i j, i < k → j < k → rb i = rb j → i = j) ∧ wr.heap[mp]? = some (.map #[] 0) ∧ Nums wr g 3 h.people.length (fun s => h.people.getD s 0) ∧ Step W0 wr) (fun i _ => h.ways.length - (intOf i).toNat)
 case atStart => exact ⟨0, Nat.zero_le _, rfl, .slice none 0 0, [], fun _ => 0, HBF7.out, World.ownsRow_nil _ _ _ _, fun i hi => by omega, fun i hi => by omega, fun i j hi => by omega, HMP7.out, HNUM7.out, HT7.out⟩
 case round =>
  obtain ⟨k, hk, rfl, vl, xs, rb, hbf, hown, hxs, hrb, hinj, hmp, hnum, hT⟩ := hrel
  clear b1 HBF7 HNUM7 HMP7
  by_cases hlt : k < h.ways.length
  ·have HBF := zH hbf
   have HOWN := zH hown
   have HXS := zH (And.intro hxs (And.intro hrb hinj))
   have HMP := zH (And.intro hmp hnum)
   have HT := zH hT
   clear hbf hown hxs hrb hinj hmp hnum hT
   go_upto_region 4 with (fail)
   refine wp_region_seqM (fun c d v a w h => by cases d <;> exact h) (kdOf [6, 7] []) [0, 0, 2, 6, 14, 0, 32, 96, 254, 511, 1023, 2047] [0, 1, 2, 3, 4, 5, 6, 7] [8, 9, 10, 11] (by kernel_rfl) (by kernel_rfl) (fun i T z hi hk => by simp [kdOf] at hk <;> (try (split at hk <;> cases hk))) ?_
   intro Wx hWx
   have HTx := zH hWx
   clear hWx
   have e3 := (HBF.out.step HTx.out).cell 3
   simp only [zD, zE] at e3
   repeat ((first | (refine run_off rfl rfl (by rfl) ?_) | (refine run_chain_off rfl rfl (by rfl) (K0_mono _) ?_) | ((refine run_want rfl rfl (by rfl) ⟨?_, fun W hW => ?_, ?_⟩; rotate_left; (· (have d0 := hW.kc e3; go_simp; (try with_reducible rfl)))))); (try simp only [Act.put, zA, zB, zC]))
   clear e3
   refine run_chain rfl rfl (by rfl) (fun Wi hWi K' hK => ?_)
   have HTi := zH (HTx.out.trans hWi)
   clear hWi HTx
   refine wp_makeH eiIntsH _ _ rfl rfl .i64 .i64 T rfl rfl (by omega) (by omega) ?_
   have hA := Step.alloc Wi (.cells (List.replicate T (.int .i64 0)).toArray 3)
   have hrow := Bx.new Wi (List.replicate T (.int .i64 0)) 3
   obtain ⟨gr, hgr⟩ : ∃ z, z = Wi.heap.size := ⟨_, rfl⟩
   obtain ⟨W1, hW1⟩ : ∃ z, z = Wi.alloc (.cells (List.replicate T (.int .i64 0)).toArray 3) := ⟨_, rfl⟩
   rw [← hW1, ← hgr] at hrow
   rw [← hW1] at hA
   refine hK _ _ (.of (hW1 ▸ hA)) ?_
   rw [← hW1, ← hgr]
   have HROW := zH hrow
   have HT1 := zH (HTi.out.trans hA)
   have HGR := zH (show wr.heap.size ≤ gr by rw [hgr]; exact HTi.out.size)
   clear hA hrow hK hgr hW1 HTi
   (try simp only [Act.put, zA, zB, zC])
   repeat ((first | (refine run_off rfl rfl (by rfl) ?_) | (refine run_chain_off rfl rfl (by rfl) (K0_mono _) ?_) | ((refine run_want rfl rfl (by rfl) ⟨?_, fun W hW => ?_, ?_⟩; rotate_left; (· (skip; go_simp; (try with_reducible rfl)))))); (try simp only [Act.put, zA, zB, zC]))
   refine run_chain rfl rfl (by rfl) (fun Wi hWi K' hK => ?_)
   go_simp
   have hA := Step.alloc Wi (.cells #[.slice (some ⟨gr, 0, none⟩) T T] 26)
   have hlit := Bx.new Wi [.slice (some ⟨gr, 0, none⟩) T T] 26
   obtain ⟨ga, hga⟩ : ∃ z, z = Wi.heap.size := ⟨_, rfl⟩
   obtain ⟨W2, hW2⟩ : ∃ z, z = Wi.alloc (.cells #[.slice (some ⟨gr, 0, none⟩) T T] 26) := ⟨_, rfl⟩
   rw [← hW2, ← hga] at hlit
   rw [← hW2] at hA
   refine hK _ _ (.of (hW2 ▸ hA)) ?_
   rw [← hW2, ← hga]
   have HLIT := zH hlit
   have HT2 := zH ((HT1.out.trans hWi).trans hA)
   have HROW2 := zH (HROW.out.step (Step.trans hWi hA))
   clear hA hlit hK hga hW2 hWi HT1 HROW
   (try simp only [Act.put, zA, zB, zC])
   repeat ((first | (refine run_off rfl rfl (by rfl) ?_) | (refine run_chain_off rfl rfl (by rfl) (K0_mono _) ?_) | ((refine run_want rfl rfl (by rfl) ⟨?_, fun W hW => ?_, ?_⟩; rotate_left; (· (skip; go_simp; (try with_reducible rfl)))))); (try simp only [Act.put, zA, zB, zC]))
   refine run_end (L := [_, _, _, _]) rfl (fun W3 hW3 => ?_)
   have HT3 := zH (HT2.out.trans hW3)
   have hlit := (HLIT.out.step hW3).cell 0
   simp only [List.getElem?_cons_zero] at hlit
   have HROW3 := zH (HROW2.out.step hW3)
   have hown3 := World.ownsRow.step HOWN.out HT3.out
   clear hW3 HT2 HROW2 HLIT
   go_wp2_with (at_builtin; refine wpl_append_lies (u := .slice (some ⟨gr, 0, none⟩) T T) eiRowsH rfl _ _ rfl rfl ⟨ga, 0, none⟩ 1 rfl hown3 hlit rfl ?_ ?_ ?_ ?_)
   ·simp only [maxLen]; omega
   ·omega
   ·exact (HT.out.trans HT3.out).size
   intro pb cap wa hownA hgA
   have hbf3 := HBF.out.step HT3.out
   have hmp3 : W3.heap[mp]? = some (.map #[] 0) := by rw [HT3.out.block mp (Array.getElem?_eq_some_iff.1 HMP.out.1).1 id]; exact HMP.out.1
   have hnum3 := HMP.out.2.row (HT3.out.block g HMP.out.2.lt id)
   have hrow3 : Nums W3 gr 3 T (fun _ => 0) := ⟨_, HROW3.out, by simp, fun t ht => by simp [ht]⟩
   have hbfA := hbf3.grown hgA (rows_ne_bx hown3 hbf3 (by decide))
   have hmpA : wa.heap[mp]? = some (.map #[] 0) := by rw [hgA.block mp (Array.getElem?_eq_some_iff.1 hmp3).1 (fun e => rows_ne hown3 hmp3 (fun _ _ e => by cases e) e.symm)]; exact hmp3
   have numA : ∀ {b n : Nat} {φ : Nat → Int}, Nums W3 b 3 n φ → Nums wa b 3 n φ := fun {b n φ} hn => hn.row (hgA.block b hn.lt fun e => by obtain ⟨cs, hb, _⟩ := hn; exact rows_ne_bx hown3 hb (by decide) e.symm)
   have hnumA := numA hnum3
   have hrowA := numA hrow3
   have hrbA : ∀ i, i < k → Nums wa (rb i) 3 T (fun _ => 0) ∧ W0.heap.size ≤ rb i ∧ rb i ≠ g := fun i hi => by
    obtain ⟨n1, n2, n3⟩ := HXS.out.2.1 i hi
    exact ⟨numA (n1.row (HT3.out.block _ n1.lt id)), n2, n3⟩
   have hTA : Step W0 wa := StepX.fresh (X := fun j => vl.ownBlock = some j) (HT.out.trans HT3.out) (StepX.grown hgA fun j hj _ => hj) fun j hj => (hown3.lt j hj).1
   have z3 := hbfA.frozen 3
   have c3 := hbfA.cell 3
   have fl2 := hbfA.lt
   simp only [zD, zE] at c3
   have HA1 := zH (And.intro hbfA (And.intro hownA (And.intro hmpA hnumA)))
   have HA2 := zH (And.intro hrowA (And.intro hrbA hTA))
   have hgg : W0.heap.size ≤ gr ∧ gr ≠ g ∧ ∀ i, i < k → rb i ≠ gr := ⟨Nat.le_trans HT.out.size HGR.out, fun e => by have := HMP.out.2.lt; have := HGR.out; omega, fun i hi e => by have := (HXS.out.2.1 i hi).1.lt; have := HGR.out; omega⟩
   have HGG := zH hgg
   clear hownA hgA hbf3 hmp3 hnum3 hrow3 hbfA hmpA numA hnumA hrowA hrbA hTA hown3 hlit hgg
   go_wp2
   go_roundw
   case rel =>
    have hne : ∀ b n (φ : Nat → Int), Nums wa b 3 n φ → b ≠ fl := fun b n φ hn e => by obtain ⟨cs, hb, _⟩ := hn; exact bx_ne HA1.out.1 hb (by decide) e.symm
    have numS : ∀ {b n : Nat} {φ : Nat → Int}, Nums wa b 3 n φ → Nums (wa.setCell ⟨fl, 3, none⟩ (.slice (some ⟨pb, 0, none⟩) (k + 1) cap)) b 3 n φ := fun {b n φ} hn => hn.row (Below.heap_setCell wa ⟨fl, 3, none⟩ _ b (hne b n φ hn))
    have hxl : xs.length = k := by have := HOWN.out.1; omega
    refine ⟨k + 1, by omega, by go_num, _, xs ++ [.slice (some ⟨gr, 0, none⟩) T T], fun i => if i = k then gr else rb i, HA1.out.1.setCell 3 _, ?_, fun i hi => ?_, fun i hi => ?_, fun i j hi hj e => ?_, ?_, numS HA1.out.2.2.2, StepX.fresh (X := fun j => j = fl) HA2.out.2.2 ((StepX.refl _ _).set1 3 _) fun j hj => by subst hj; exact HFL.out⟩
    ·exact World.ownsRow.other HA1.out.2.1 fun q hq => Below.heap_setCell wa ⟨fl, 3, none⟩ _ q fun e => by
      have e' : q = fl := e
      subst e'
      exact rows_ne_bx HA1.out.2.1 HA1.out.1 (by decide) hq
    ·dsimp only
     by_cases e : i = k
     ·subst e
      rw [List.getElem?_append_right (by omega), hxl]; simp
     ·rw [List.getElem?_append_left (by omega), if_neg e]
      exact HXS.out.1 i (by omega)
    ·dsimp only
     by_cases e : i = k
     ·rw [if_pos e]; exact ⟨numS HA2.out.1, HGG.out.1, HGG.out.2.1⟩
     ·rw [if_neg e]
      obtain ⟨n1, n2, n3⟩ := HA2.out.2.1 i (by omega)
      exact ⟨numS n1, n2, n3⟩
    ·dsimp only at e
     by_cases e1 : i = k <;> by_cases e2 : j = k
     ·omega
     ·rw [if_pos e1, if_neg e2] at e
      exact (HGG.out.2.2 j (by omega) e.symm).elim
     ·rw [if_neg e1, if_pos e2] at e
      exact (HGG.out.2.2 i (by omega) e).elim
     ·rw [if_neg e1, if_neg e2] at e
      exact HXS.out.2.2 i j (by omega) (by omega) e
    ·rw [Below.heap_setCell wa ⟨fl, 3, none⟩ _ mp (fun e => by
      have e' : mp = fl := e
      have h1 := HA1.out.1
      unfold Bx at h1
      rw [← e', HA1.out.2.2.1] at h1
      cases h1)]
     exact HA1.out.2.2.1
   case measure => simp [intOf]; omega
  ·have hkz : k = h.ways.length := by omega
   subst hkz
   go_wp2
   go_ret
   have hpl : ∃ pb, (∃ p c, vl = .slice p h.ways.length c ∧ h.ways.length ≤ c ∧ (0 < h.ways.length → p = some ⟨pb, 0, none⟩)) ∧ (0 < h.ways.length → W0.heap.size ≤ pb ∧ ∃ cs, Bx wr pb cs 26 ∧ ∀ i, i < h.ways.length → cs[i]? = some (.slice (some ⟨rb i, 0, none⟩) T T)) := by
    obtain ⟨h1, ⟨rfl, h0⟩ | ⟨pb, cap, cur, rfl, h3, h4, h5, h6, h7, h8⟩⟩ := hown
    ·exact ⟨0, ⟨none, 0, by rw [h0], by omega, fun h => by omega⟩, fun h => by omega⟩
    ·refine ⟨pb, ⟨_, cap, rfl, h5, fun _ => rfl⟩, fun _ => ⟨h3, cur.toList, ?_, fun i hi => ?_⟩⟩
     ·unfold Bx; rw [h4]
     ·have := hxs i hi
      rw [← h8, List.getElem?_take_of_lt (by omega)] at this
      exact this
   obtain ⟨pb, hvf, hpl⟩ := hpl
   have hsl0 := H0.out.keep (.of_step (S := fun _ => False) (HS.out.trans hT))
   have hsl1 := H1.out.keep (.of_step (S := fun _ => False) (HS.out.trans hT))
   refine ⟨⟨fl, pb, g, mp, rb⟩, _, _, vl, c, rfl, ⟨hbf, ?_, ?_, hvf, fun h0 => (hpl h0).2, fun i hi => (hrb i hi).1, ⟨fun _ => none, MG.new kvP kvI wr mp 0 hmp, fun p => rfl⟩, hnum, HGC.out.1, ?_, hinj, fun i hi => (hrb i hi).2.2⟩, HS.out.trans hT⟩
   ·exact SL_new H0.out (HS.out.trans hT)
   ·exact SL_new H1.out (HS.out.trans hT)
   ·rintro j (rfl | ⟨h0, rfl⟩ | rfl | rfl | ⟨i, hi, rfl⟩)
    ·exact Nat.le_trans hws HFL.out
    ·exact Nat.le_trans hws (hpl h0).1
    ·exact Nat.le_trans hws HGC.out.2
    ·exact Nat.le_trans hws HMB.out
    ·exact Nat.le_trans hws (hrb i hi).2.1
end Go.Proofs.Ytfhmdpicoccnfaa
