/- Walks and plain laws, part f. -/
import Derived.Test.YtgpiieogiafdoaaGreatMa
import Derived.Test.YtgpiieogiafdoaaGreatMb
import Derived.Test.YtgpiieogiafdoaaGreatMc
import Derived.Test.YtgpiieogiafdoaaGreatMd
import Derived.Test.YtgpiieogiafdoaaGreatMe
import Derived.Test.YtgpiieogiafdoaaGreatRows
import Derived.BigQuiet
import Derived.Deep.AppendLies
import Derived.Deep.DeepCutAuto
import Derived.Deep.QuietTactic
import Derived.Deep.RegionHeld3
import Derived.Defers
import Derived.Laws.MakeOwn
import Derived.Laws.OwnMore
import Derived.Laws.Pointers
import Derived.Laws.StructEq
import Derived.Lib.Hide
import Derived.LoopIn
import Derived.LoopNIn
import Derived.OwnWalkIn
import Derived.RangeFuncBound
import Derived.RangeFuncCalls
import Derived.RangeFuncLeaves
import Derived.RangeFuncNested
import Derived.Recover
import Derived.Shelf.Abstract
import Derived.Shelf.RegionOpen
import Derived.TacticsInMore
import Derived.WalkKit
import Derived.WalkLawsBesides
import Derived.WalkSmall
import Derived.WalkSpells
import Derived.WideKeyRuns
namespace Go.Proofs.YtgpiieogiafdoaaGreat
set_option linter.unusedSimpArgs false
set_option linter.unusedVariables false
open Go.RowKit Go.BT
def alikeB (a b : Book) : Bool := decide (a = b)
theorem alike_ne {a b : Book} (h : a.agency ≠ b.agency ∨ a.seats ≠ b.seats ∨ a.off ≠ b.off ∨ a.sent ≠ b.sent ∨ a.took ≠ b.took ∨ a.cash ≠ b.cash) : alikeB a b = false := by
 simp only [alikeB, decide_eq_false_iff_not]
 rintro rfl
 simp at h
theorem ne_len {α : Type} {a b : List α} (h : a.length ≠ b.length) : a ≠ b := fun e => h (by rw [e])
theorem ne_at {α : Type} {a b : List α} {k : Nat} (ha : k < a.length) (hb : k < b.length) (h : a[k] ≠ b[k]) : a ≠ b := fun e => h (by subst e; rfl)
theorem take_hit {α : Type} {a b : List α} {k : Nat} (ha : k < a.length) (hb : k < b.length) (ht : a.take k = b.take k) (h : a[k] = b[k]) : a.take (k + 1) = b.take (k + 1) := by
 rw [List.take_succ_eq_append_getElem ha, List.take_succ_eq_append_getElem hb, ht, h]
theorem take_end {α : Type} {a b : List α} {k : Nat} (hl : a.length = b.length) (hk : ¬ k < a.length) (ht : a.take k = b.take k) : a = b := by
 rwa [List.take_of_length_le (by omega), List.take_of_length_le (by omega)] at ht
set_option maxHeartbeats 4000000 in
theorem alike_core (S : Nat → Prop) (a1 a2 : Int) (s1 s2 : List (List Int)) (o1 o2 : List Bool) (n1 n2 : Int) (t1 t2 : List Key) (c1 c2 : Int) (x1 x2 x4 y1 y2 y4 : Value) (w : World) (hx1 : SL S w x1 s1) (hx2 : SL S w x2 o1) (hx4 : SL S w x4 t1) (hy1 : SL S w y1 s2) (hy2 : SL S w y2 o2) (hy4 : SL S w y4 t2) :
  Calls Tryz.prog 95 #[.agg #[.int .i64 a1, x1, x2, .int .i64 n1, x4, .int .i64 c1], .agg #[.int .i64 a2, y1, y2, .int .i64 n2, y4, .int .i64 c2]] w fun e w' => e = .returned (.bool (alikeB ⟨a1, s1, o1, n1, t1, c1⟩ ⟨a2, s2, o2, n2, t2, c2⟩)) ∧ Step w w' := by
 obtain ⟨px1, kx1, bx1, ox1, rfl, _, mx1, hpx1, hcx1, _⟩ := hx1.rows
 obtain ⟨px2, kx2, bx2, ox2, rfl, _, mx2, hpx2, hcx2, _⟩ := hx2.bools
 obtain ⟨px4, kx4, bx4, ox4, rfl, _, mx4, hpx4, hcx4, _⟩ := hx4.keys
 obtain ⟨py1, ky1, by1, oy1, rfl, _, my1, hpy1, hcy1, _⟩ := hy1.rows
 obtain ⟨py2, ky2, by2, oy2, rfl, _, my2, hpy2, hcy2, _⟩ := hy2.bools
 obtain ⟨py4, ky4, by4, oy4, rfl, _, my4, hpy4, hcy4, _⟩ := hy4.keys
 obtain ⟨W0, hW0⟩ : ∃ W0, W0 = (w.alloc (.cells #[.int .i64 a1, .slice px1 s1.length kx1, .slice px2 o1.length kx2, .int .i64 n1, .slice px4 t1.length kx4, .int .i64 c1] 77)).alloc (.cells #[.int .i64 a2, .slice py1 s2.length ky1, .slice py2 o2.length ky2, .int .i64 n2, .slice py4 t2.length ky4, .int .i64 c2] 77) := ⟨_, rfl⟩
 have hb1 : Bx W0 w.heap.size [.int .i64 a1, .slice px1 s1.length kx1, .slice px2 o1.length kx2, .int .i64 n1, .slice px4 t1.length kx4, .int .i64 c1] 77 := by subst hW0; exact (Bx.new _ _ _).alloc _
 have hb2 : Bx W0 (w.heap.size + 1) [.int .i64 a2, .slice py1 s2.length ky1, .slice py2 o2.length ky2, .int .i64 n2, .slice py4 t2.length ky4, .int .i64 c2] 77 := by subst hW0; exact Bx.new' _ _ _ _ (by simp)
 have hS : Step w W0 := by subst hW0; exact (by repeat (first | (with_reducible assumption) | (with_reducible exact Step.refl _) | (with_reducible apply Step.s_alloc) | (with_reducible apply Step.s_drew) | (with_reducible apply Step.s_drewN) | (with_reducible refine Step.trans ?_ (by with_reducible assumption))))
 have HB1 := Lib.hid hb1
 have HB2 := Lib.hid hb2
 have HS := Lib.hid hS
 have HX1 := Lib.hid (And.intro hpx1 hcx1)
 have HX2 := Lib.hid (And.intro hpx2 hcx2)
 have HX4 := Lib.hid (And.intro hpx4 hcx4)
 have HY1 := Lib.hid (And.intro hpy1 hcy1)
 have HY2 := Lib.hid (And.intro hpy2 hcy2)
 have HY4 := Lib.hid (And.intro hpy4 hcy4)
 have HW := Lib.hid hW0
 clear hx1 hx2 hx4 hy1 hy2 hy4 hpx1 hpx2 hpx4 hpy1 hpy2 hpy4 hcx1 hcx2 hcx4 hcy1 hcy2 hcy4 hb1 hb2 hS hW0
 by_cases qa : a1 = a2
 rotate_left
 ·have HF := Lib.hid (alike_ne (a := ⟨a1, s1, o1, n1, t1, c1⟩) (b := ⟨a2, s2, o2, n2, t2, c2⟩) (.inl qa))
  clear HB1 HB2 HX1 HX2 HX4 HY1 HY2 HY4
  go_enter Tryz.func95, Tryz.ntmps95
  go_wp2
  go_ret
  exact ⟨by rw [HF.out]; rfl, by rw [HW.out] at HS; exact HS.out⟩
 subst qa
 by_cases qs : s1.length = s2.length
 rotate_left
 ·have qsd : ((s1.length : Int) != (s2.length : Int)) = true := by simp; omega
  have qs := Lib.hid qs
  have HF := Lib.hid (alike_ne (a := ⟨a1, s1, o1, n1, t1, c1⟩) (b := ⟨a1, s2, o2, n2, t2, c2⟩) (.inr (.inl (ne_len qs.out))))
  clear HB1 HB2 HX1 HX2 HX4 HY1 HY2 HY4
  go_enter Tryz.func95, Tryz.ntmps95
  go_wp2
  go_ret
  exact ⟨by rw [HF.out]; rfl, by rw [HW.out] at HS; exact HS.out⟩
 have qsd : ((s1.length : Int) != (s2.length : Int)) = false := by simp; omega
 have Hqs := Lib.hid qs
 clear qs
 by_cases qo : o1.length = o2.length
 rotate_left
 ·have qod : ((o1.length : Int) != (o2.length : Int)) = true := by simp; omega
  have qo := Lib.hid qo
  have HF := Lib.hid (alike_ne (a := ⟨a1, s1, o1, n1, t1, c1⟩) (b := ⟨a1, s2, o2, n2, t2, c2⟩) (.inr (.inr (.inl (ne_len qo.out)))))
  clear HB1 HB2 HX1 HX2 HX4 HY1 HY2 HY4
  go_enter Tryz.func95, Tryz.ntmps95
  go_wp2
  go_ret
  exact ⟨by rw [HF.out]; rfl, by rw [HW.out] at HS; exact HS.out⟩
 have qod : ((o1.length : Int) != (o2.length : Int)) = false := by simp; omega
 have Hqo := Lib.hid qo
 clear qo
 by_cases qn : n1 = n2
 rotate_left
 ·have HF := Lib.hid (alike_ne (a := ⟨a1, s1, o1, n1, t1, c1⟩) (b := ⟨a1, s2, o2, n2, t2, c2⟩) (.inr (.inr (.inr (.inl qn)))))
  clear HB1 HB2 HX1 HX2 HX4 HY1 HY2 HY4
  go_enter Tryz.func95, Tryz.ntmps95
  go_wp2
  go_ret
  exact ⟨by rw [HF.out]; rfl, by rw [HW.out] at HS; exact HS.out⟩
 subst qn
 by_cases qt : t1.length = t2.length
 rotate_left
 ·have qtd : ((t1.length : Int) != (t2.length : Int)) = true := by simp; omega
  have qt := Lib.hid qt
  have HF := Lib.hid (alike_ne (a := ⟨a1, s1, o1, n1, t1, c1⟩) (b := ⟨a1, s2, o2, n1, t2, c2⟩) (.inr (.inr (.inr (.inr (.inl (ne_len qt.out)))))))
  clear HB1 HB2 HX1 HX2 HX4 HY1 HY2 HY4
  go_enter Tryz.func95, Tryz.ntmps95
  go_wp2
  go_ret
  exact ⟨by rw [HF.out]; rfl, by rw [HW.out] at HS; exact HS.out⟩
 have qtd : ((t1.length : Int) != (t2.length : Int)) = false := by simp; omega
 have Hqt := Lib.hid qt
 clear qt
 by_cases qc : c1 = c2
 rotate_left
 ·have HF := Lib.hid (alike_ne (a := ⟨a1, s1, o1, n1, t1, c1⟩) (b := ⟨a1, s2, o2, n1, t2, c2⟩) (.inr (.inr (.inr (.inr (.inr qc))))))
  clear HB1 HB2 HX1 HX2 HX4 HY1 HY2 HY4
  go_enter Tryz.func95, Tryz.ntmps95
  go_wp2
  go_ret
  exact ⟨by rw [HF.out]; rfl, by rw [HW.out] at HS; exact HS.out⟩
 subst qc
 go_enter Tryz.func95, Tryz.ntmps95
 go_wp2
 go_loopw [5] (fun i wr => ∃ k : Nat, k ≤ s1.length ∧ i = .int .i64 k ∧ s1.take k = s2.take k ∧ Step W0 wr) (fun i _ => s1.length - (intOf i).toNat)
 case atStart => exact ⟨0, Nat.zero_le _, rfl, rfl, by rw [HW.out]; exact Step.refl _⟩
 case round =>
  obtain ⟨k, hk, rfl, ht, hT⟩ := hrel
  have HA := Lib.hid ht
  have HT := Lib.hid hT
  clear ht hT qsd qod qtd
  obtain ⟨e0, e1, e2, e3, e4, e5⟩ := cells6 (HB1.out.step HT.out)
  obtain ⟨f0, f1, f2, f3, f4, f5⟩ := cells6 (HB2.out.step HT.out)
  by_cases hlt : k < s1.length
  ·have hlt2 : k < s2.length := by have := Hqs.out; omega
   obtain rfl := HX1.out.1 (by omega)
   obtain rfl := HY1.out.1 (by omega)
   obtain ⟨u1, g1, hu1⟩ := HX1.out.2 k hlt
   obtain ⟨u2, g2, hu2⟩ := HY1.out.2 k hlt2
   have g1 := (HS.out.trans HT.out).kc g1
   have g2 := (HS.out.trans HT.out).kc g2
   have HU := Lib.hid (And.intro hu1 hu2)
   clear hu1 hu2
   have hix1 : (0 : Int) ≤ (k : Int) ∧ (k : Int) < (s1.length : Int) := by omega
   have hix2 : (0 : Int) ≤ (k : Int) ∧ (k : Int) < (s2.length : Int) := by omega
   go_upto_region 6 with fail
   refine wp_region_seq (kdOf [10] []) [0, 1, 0, 7, 15, 0, 32, 0, 224, 480, 1023, 2047] [0, 1, 2, 3, 4, 5, 6, 7, 8, 9, 10, 11] [] (by kernel_rfl) (by kernel_rfl) (fun i T z hi hk => by simp [kdOf] at hk <;> (try (split at hk <;> cases hk))) ?_
   intro Wx hWx
   have HTx := Lib.hid (HT.out.trans hWx)
   have g1 := hWx.kc g1
   have g2 := hWx.kc g2
   clear hWx e0 e1 e2 e3 e4 e5 f0 f1 f2 f3 f4 f5
   obtain ⟨e0, e1, e2, e3, e4, e5⟩ := cells6 (HB1.out.step HTx.out)
   obtain ⟨f0, f1, f2, f3, f4, f5⟩ := cells6 (HB2.out.step HTx.out)
   clear HT
   have HT := HTx
   clear HTx
   repeat (first | (refine run_off rfl rfl (by rfl) ?_; (try simp only [Act.put, zA, zB, zC])) | (refine run_chain_off rfl rfl (by rfl) (K0_mono _) ?_; (try simp only [Act.put, zA, zB, zC])) | ((refine run_want rfl rfl (by rfl) ⟨?_, fun W hW => ?_, ?_⟩; rotate_left; (· (have d0 := hW.kc e1; have d1 := hW.kc f1; have d2 := hW.kc g1; have d3 := hW.kc g2; go_simp; (try with_reducible rfl)))); (try simp only [Act.put, zA, zB, zC])))
   refine run_chain rfl rfl (by rfl) (fun Wi hWi K' hK => ?_)
   have HTi := Lib.hid (HT.out.trans hWi)
   have HZW := Lib.hid HTi.out.size
   clear hWi HT
   go_simp
   refine (ints_any S s1[k] s2[k] _ _ _ (HU.out.1.keep (.of_step (HS.out.trans HTi.out))) (HU.out.2.keep (.of_step (HS.out.trans HTi.out)))).mono ?_
   rintro e wn ⟨rfl, hSn⟩
   have HT := Lib.hid (HTi.out.trans (StepX.of hSn))
   clear HTi
   cases q : intsB s1[k] s2[k] with
   | false =>
    have HF := Lib.hid (alike_ne (a := ⟨a1, s1, o1, n1, t1, c1⟩) (b := ⟨a1, s2, o2, n1, t2, c1⟩) (.inr (.inl (ne_at hlt hlt2 (by simpa [intsB] using q)))))
    clear q
    refine hK _ _ (StepX.of hSn) ?_
    clear hSn
    (try simp only [Act.put, zA, zB, zC])
    repeat (first | (refine run_off rfl rfl (by rfl) ?_; (try simp only [Act.put, zA, zB, zC])) | (refine run_chain_off rfl rfl (by rfl) (K0_mono _) ?_; (try simp only [Act.put, zA, zB, zC])) | ((refine run_want rfl rfl (by rfl) ⟨?_, fun W hW => ?_, ?_⟩; rotate_left; (· (obtain ⟨hc'', hf''⟩ := hW.cells; go_simp; (try with_reducible rfl)))); (try simp only [Act.put, zA, zB, zC])))
    refine run_end (L := []) rfl (fun W6 hW6 => ?_)
    have HT6 := Lib.hid (HT.out.trans hW6)
    clear hW6 HT
    have HT := HT6
    clear HT6
    go_wp2
    go_ret
    exact ⟨by rw [HF.out]; rfl, HS.out.trans HT.out⟩
   | true =>
    have HQ := Lib.hid (show s1[k] = s2[k] by simpa [intsB] using q)
    clear q
    refine hK _ _ (StepX.of hSn) ?_
    clear hSn
    (try simp only [Act.put, zA, zB, zC])
    repeat (first | (refine run_off rfl rfl (by rfl) ?_; (try simp only [Act.put, zA, zB, zC])) | (refine run_chain_off rfl rfl (by rfl) (K0_mono _) ?_; (try simp only [Act.put, zA, zB, zC])) | ((refine run_want rfl rfl (by rfl) ⟨?_, fun W hW => ?_, ?_⟩; rotate_left; (· (obtain ⟨hc'', hf''⟩ := hW.cells; go_simp; (try with_reducible rfl)))); (try simp only [Act.put, zA, zB, zC])))
    refine run_end (L := []) rfl (fun W6 hW6 => ?_)
    have HT6 := Lib.hid (HT.out.trans hW6)
    clear hW6 HT
    have HT := HT6
    clear HT6
    go_wp2
    go_roundw
    case rel => exact ⟨k + 1, by omega, by go_num, take_hit hlt hlt2 HA.out HQ.out, HT.out⟩
    case measure => simp [intOf]; omega
  ·have HE1 := Lib.hid (take_end Hqs.out hlt HA.out)
   clear HA
   go_wp2
   obtain ⟨wo, hwo⟩ : ∃ W, W = wr := ⟨_, rfl⟩
   subst hwo
   clear e0 e1 e2 e3 e4 e5 f0 f1 f2 f3 f4 f5
   go_loopw [6] (fun i wr => ∃ k : Nat, k ≤ o1.length ∧ i = .int .i64 k ∧ o1.take k = o2.take k ∧ Step W0 wr) (fun i _ => o1.length - (intOf i).toNat)
   case atStart => exact ⟨0, Nat.zero_le _, rfl, rfl, HT.out⟩
   case round =>
    obtain ⟨k, hk, rfl, ht, hT⟩ := hrel
    have HA := Lib.hid ht
    have HT := Lib.hid hT
    clear ht hT
    obtain ⟨e0, e1, e2, e3, e4, e5⟩ := cells6 (HB1.out.step HT.out)
    obtain ⟨f0, f1, f2, f3, f4, f5⟩ := cells6 (HB2.out.step HT.out)
    by_cases hlt : k < o1.length
    ·have hlt2 : k < o2.length := by have := Hqo.out; omega
     obtain rfl := HX2.out.1 (by omega)
     obtain rfl := HY2.out.1 (by omega)
     have g1 := (HS.out.trans HT.out).kc (HX2.out.2 k hlt)
     have g2 := (HS.out.trans HT.out).kc (HY2.out.2 k hlt2)
     have hix1 : (0 : Int) ≤ (k : Int) ∧ (k : Int) < (o1.length : Int) := by omega
     have hix2 : (0 : Int) ≤ (k : Int) ∧ (k : Int) < (o2.length : Int) := by omega
     have HQ := Lib.hid (show ∃ x y, o1[k] = x ∧ o2[k] = y from ⟨_, _, rfl, rfl⟩)
     obtain ⟨x, y, hx, hy⟩ := HQ.out
     rw [hx] at g1
     rw [hy] at g2
     have HX := Lib.hid hx
     have HY := Lib.hid hy
     clear HQ hx hy
     by_cases q : x = y
     ·have HQ := Lib.hid (HX.out.trans (q.trans HY.out.symm))
      subst q
      go_wp2
      go_quiet (fail)
      go_wp2
      go_roundw
      case rel => exact ⟨k + 1, by omega, by go_num, take_hit hlt hlt2 HA.out HQ.out, HT.out.trans (Step.drewN _ _)⟩
      case measure => simp [intOf]; omega
     ·have HF := Lib.hid (alike_ne (a := ⟨a1, s1, o1, n1, t1, c1⟩) (b := ⟨a1, s2, o2, n1, t2, c1⟩) (.inr (.inr (.inl (ne_at hlt hlt2 (by rw [HX.out, HY.out]; exact q))))))
      obtain rfl : x = !y := by cases x <;> cases y <;> simp at q ⊢
      clear q
      cases y
      all_goals
       go_wp2
       go_quiet (fail)
       go_wp2
       go_ret
       exact ⟨by rw [HF.out]; rfl, HS.out.trans (HT.out.trans (Step.drewN _ _))⟩
    ·have HE2 := Lib.hid (take_end Hqo.out hlt HA.out)
     clear HA
     go_wp2
     obtain ⟨wo, hwo⟩ : ∃ W, W = wr := ⟨_, rfl⟩
     subst hwo
     clear e0 e1 e2 e3 e4 e5 f0 f1 f2 f3 f4 f5
     go_loopw [7] (fun i wr => ∃ k : Nat, k ≤ t1.length ∧ i = .int .i64 k ∧ t1.take k = t2.take k ∧ Step W0 wr) (fun i _ => t1.length - (intOf i).toNat)
     case atStart => exact ⟨0, Nat.zero_le _, rfl, rfl, HT.out⟩
     case round =>
      obtain ⟨k, hk, rfl, ht, hT⟩ := hrel
      have HA := Lib.hid ht
      have HT := Lib.hid hT
      clear ht hT
      obtain ⟨e0, e1, e2, e3, e4, e5⟩ := cells6 (HB1.out.step HT.out)
      obtain ⟨f0, f1, f2, f3, f4, f5⟩ := cells6 (HB2.out.step HT.out)
      by_cases hlt : k < t1.length
      ·have hlt2 : k < t2.length := by have := Hqt.out; omega
       obtain rfl := HX4.out.1 (by omega)
       obtain rfl := HY4.out.1 (by omega)
       obtain ⟨g1, g3⟩ := HX4.out.2 k hlt
       obtain ⟨g2, g4⟩ := HY4.out.2 k hlt2
       have g1 := (HS.out.trans HT.out).kc g1
       have g2 := (HS.out.trans HT.out).kc g2
       have g3 := (HS.out.trans HT.out).kc g3
       have g4 := (HS.out.trans HT.out).kc g4
       have hix1 : (0 : Int) ≤ (k : Int) ∧ (k : Int) < (t1.length : Int) := by omega
       have hix2 : (0 : Int) ≤ (k : Int) ∧ (k : Int) < (t2.length : Int) := by omega
       obtain ⟨x, y, hx, hy⟩ := (show ∃ x y, t1[k] = x ∧ t2[k] = y from ⟨_, _, rfl, rfl⟩)
       rw [hx] at g1 g3
       rw [hy] at g2 g4
       have HX := Lib.hid hx
       have HY := Lib.hid hy
       clear hx hy
       obtain ⟨xf, xn⟩ := x
       obtain ⟨yf, yn⟩ := y
       dsimp only at g1 g2 g3 g4
       by_cases q1 : xf = yf
       ·subst q1
        by_cases q2 : xn = yn
        ·have HQ := Lib.hid (HX.out.trans ((show (⟨xf, xn⟩ : Key) = ⟨xf, yn⟩ by rw [q2]).trans HY.out.symm))
         subst q2
         go_wp2
         go_quiet (fail)
         go_wp2
         go_roundw
         case rel => exact ⟨k + 1, by omega, by go_num, take_hit hlt hlt2 HA.out HQ.out, HT.out.trans (Step.drewN _ _)⟩
         case measure => simp [intOf]; omega
        ·have HF := Lib.hid (alike_ne (a := ⟨a1, s1, o1, n1, t1, c1⟩) (b := ⟨a1, s2, o2, n1, t2, c1⟩) (.inr (.inr (.inr (.inr (.inl (ne_at hlt hlt2 (by rw [HX.out, HY.out]; simpa using q2))))))))
         go_wp2
         go_quiet (fail)
         go_wp2
         go_ret
         exact ⟨by rw [HF.out]; rfl, HS.out.trans (HT.out.trans (Step.drewN _ _))⟩
       ·have HF := Lib.hid (alike_ne (a := ⟨a1, s1, o1, n1, t1, c1⟩) (b := ⟨a1, s2, o2, n1, t2, c1⟩) (.inr (.inr (.inr (.inr (.inl (ne_at hlt hlt2 (by rw [HX.out, HY.out]; simp [q1]))))))))
        go_wp2
        go_quiet (fail)
        go_wp2
        go_ret
        exact ⟨by rw [HF.out]; rfl, HS.out.trans (HT.out.trans (Step.drewN _ _))⟩
      ·have HE3 := Lib.hid (take_end Hqt.out hlt HA.out)
       go_wp2
       go_ret
       exact ⟨by rw [HE1.out, HE2.out, HE3.out]; simp [alikeB], HS.out.trans HT.out⟩
theorem alike_any (S : Nat → Prop) (a b : Book) (va vb : Value) (w : World) (ha : AV S w va a) (hb : AV S w vb b) :
  Calls Tryz.prog 95 #[va, vb] w fun e w' => e = .returned (.bool (alikeB a b)) ∧ Step w w' := by
 obtain ⟨x1, x2, x4, rfl, h1, h2, h4⟩ := ha.book
 obtain ⟨y1, y2, y4, rfl, k1, k2, k4⟩ := hb.book
 exact alike_core S _ _ _ _ _ _ _ _ _ _ _ _ _ _ _ _ _ _ _ h1 h2 h4 k1 k2 k4
theorem same_any (S : Nat → Prop) (a b : Book) (va vb : Value) (w : World) (ha : AV S w va a) (hb : AV S w vb b) (hf : thinP b) :
  Calls Tryz.prog 49 #[va, vb] w fun e w' => e = .returned (.bool (alikeB a b)) ∧ Step w w' := by
 obtain ⟨cs, rfl, hr⟩ := ha
 have hr0 := hr
 obtain ⟨x1, x2, x4, rfl, h1, h2, h4⟩ := hr
 obtain ⟨p1, k1, rfl⟩ := h1.form
 obtain ⟨p2, k2, rfl⟩ := h2.form
 obtain ⟨p4, k4, rfl⟩ := h4.form
 obtain ⟨cs, rfl, hq⟩ := hb
 have hq0 := hq
 obtain ⟨y1, y2, y4, rfl, s1, s2, s4⟩ := hq
 obtain ⟨q1, m1, rfl⟩ := s1.form
 obtain ⟨q2, m2, rfl⟩ := s2.form
 obtain ⟨q4, m4, rfl⟩ := s4.form
 obtain ⟨W0, hW0⟩ : ∃ W0, W0 = (w.alloc (.cells #[.int .i64 a.agency, .slice p1 a.seats.length k1, .slice p2 a.off.length k2, .int .i64 a.sent, .slice p4 a.took.length k4, .int .i64 a.cash] 77)).alloc (.cells #[.int .i64 b.agency, .slice q1 b.seats.length m1, .slice q2 b.off.length m2, .int .i64 b.sent, .slice q4 b.took.length m4, .int .i64 b.cash] 56) := ⟨_, rfl⟩
 have hb1 : Bx W0 w.heap.size [.int .i64 a.agency, .slice p1 a.seats.length k1, .slice p2 a.off.length k2, .int .i64 a.sent, .slice p4 a.took.length k4, .int .i64 a.cash] 77 := by subst hW0; exact (Bx.new _ _ _).alloc _
 have hb2 : Bx W0 (w.heap.size + 1) [.int .i64 b.agency, .slice q1 b.seats.length m1, .slice q2 b.off.length m2, .int .i64 b.sent, .slice q4 b.took.length m4, .int .i64 b.cash] 56 := by subst hW0; exact Bx.new' _ _ _ _ (by simp)
 have hS : Step w W0 := by subst hW0; exact (by repeat (first | (with_reducible assumption) | (with_reducible exact Step.refl _) | (with_reducible apply Step.s_alloc) | (with_reducible apply Step.s_drew) | (with_reducible apply Step.s_drewN) | (with_reducible refine Step.trans ?_ (by with_reducible assumption))))
 have HB1 := Lib.hid hb1
 have HB2 := Lib.hid hb2
 have HR := Lib.hid (Rep.keep (.of_step hS) hr0)
 have HQ := Lib.hid (Rep.keep (.of_step hS) hq0)
 have HS := Lib.hid hS
 have HT := Lib.hid (Step.refl W0)
 have HW := Lib.hid hW0
 clear hb1 hb2 hS h1 h2 h4 s1 s2 s4 hr0 hq0 hW0
 go_enter Tryz.func49, Tryz.ntmps49
 go_upto_region 1 with fail
 rw [← HW.out]
 clear HW
 refine wp_region_seq (kdOf [2, 3] []) [0, 0, 2, 7, 15] [0, 1, 2, 3, 4] [] (by kernel_rfl) (by kernel_rfl) (fun i T z hi hk => by simp [kdOf] at hk <;> (try (split at hk <;> cases hk))) ?_
 intro Wx hWx
 have HT := Lib.hid hWx
 clear hWx
 obtain ⟨e0, e1, e2, e3, e4, e5⟩ := cells6 (HB1.out.step HT.out)
 obtain ⟨f0, f1, f2, f3, f4, f5⟩ := cells6 (HB2.out.step HT.out)
 have z1 := (HB1.out.step HT.out).lt
 have z2 := (HB2.out.step HT.out).lt
 repeat (first | (refine run_off rfl rfl (by rfl) ?_; (try simp only [Act.put, zA, zB, zC])) | (refine run_chain_off rfl rfl (by rfl) (K0_mono _) ?_; (try simp only [Act.put, zA, zB, zC])) | ((refine run_want rfl rfl (by rfl) ⟨?_, fun W hW => ?_, ?_⟩; rotate_left; (· (obtain ⟨hc'', hf''⟩ := hW.cells; go_simp; (try with_reducible rfl)))); (try simp only [Act.put, zA, zB, zC])))
 refine run_chain rfl rfl (by rfl) (fun Wi hWi K' hK => ?_)
 have HTi := Lib.hid (HT.out.trans hWi)
 have HZW := Lib.hid HTi.out.size
 clear hWi HT
 go_simp
 refine (Book_any S b _ _ ⟨_, rfl, Rep.keep (.of_step HTi.out) HQ.out⟩ hf).mono ?_
 rintro e wn ⟨v', rfl, hv', hSn⟩
 have HT := Lib.hid (HTi.out.trans (StepX.of hSn))
 clear HTi
 have HV := Lib.hid (And.intro hSn hv')
 refine hK _ _ (StepX.of hSn) ?_
 clear hSn
 (try simp only [Act.put, zA, zB, zC])
 repeat (first | (refine run_off rfl rfl (by rfl) ?_; (try simp only [Act.put, zA, zB, zC])) | (refine run_chain_off rfl rfl (by rfl) (K0_mono _) ?_; (try simp only [Act.put, zA, zB, zC])) | ((refine run_want rfl rfl (by rfl) ⟨?_, fun W hW => ?_, ?_⟩; rotate_left; (· (obtain ⟨hc'', hf''⟩ := hW.cells; go_simp; (try with_reducible rfl)))); (try simp only [Act.put, zA, zB, zC])))
 refine run_chain rfl rfl (by rfl) (fun Wj hWj K' hK => ?_)
 have hA : AV (fun _ => False) Wj v' b := (AV.keep (.of_step hWj) HV.out.2).weak fun _ _ h => h.elim
 have HTi := Lib.hid (HT.out.trans hWj)
 clear hWj HT
 go_simp
 refine (alike_any (fun _ => False) a b _ _ _ ⟨_, rfl, Rep.weak (fun _ _ h => h.elim) (Rep.keep (.of_step HTi.out) HR.out)⟩ hA).mono ?_
 rintro e wn ⟨rfl, hSn⟩
 have HT := Lib.hid (HTi.out.trans hSn)
 clear HTi
 refine hK _ _ (StepX.of hSn) ?_
 clear hSn
 (try simp only [Act.put, zA, zB, zC])
 repeat (first | (refine run_off rfl rfl (by rfl) ?_; (try simp only [Act.put, zA, zB, zC])) | (refine run_chain_off rfl rfl (by rfl) (K0_mono _) ?_; (try simp only [Act.put, zA, zB, zC])) | ((refine run_want rfl rfl (by rfl) ⟨?_, fun W hW => ?_, ?_⟩; rotate_left; (· (obtain ⟨hc'', hf''⟩ := hW.cells; go_simp; (try with_reducible rfl)))); (try simp only [Act.put, zA, zB, zC])))
 refine run_end (L := []) rfl (fun W6 hW6 => ?_)
 have HT6 := Lib.hid (HT.out.trans hW6)
 clear hW6 HT
 have HT := HT6
 clear HT6
 go_wp2
 go_ret
 exact ⟨rfl, HS.out.trans HT.out⟩
set_option maxHeartbeats 2000000 in
theorem ROpen_any (S : Nat → Prop) (h : House) (n : Int) (v : Value) (w : World) (hv : AV S w v h) (hok : valid h = true) :
  Calls Tryz.prog 96 #[v, .int .i64 n] w fun e w' => ∃ v', e = .returned v' ∧ AV (Old w) w' v' (openP h n) ∧ Step w w' := by
 have hbv := bounds_valid hok
 have hd : h.dates.length ≤ 1000 := by omega
 have hh : h.holds.length ≤ 1000 := by omega
 have hr : ∀ i (hi : i < h.holds.length), h.holds[i].length ≤ 1000000 := fun i hi => by have := hbv.2.2.2.2.2.2.2.2.1 i hi; omega
 have HEQ := Lib.hid hbv.2.2.2.1
 clear hbv
 obtain ⟨c0, c1, c2, c3, c4, rfl, h0, h1, h2, h3, h4⟩ := hv.house
 obtain ⟨p0, k0, rfl⟩ := h0.form
 obtain ⟨p1, k1, rfl⟩ := h1.form
 obtain ⟨p2, k2, rfl⟩ := h2.form
 obtain ⟨p3, k3, rfl⟩ := h3.form
 obtain ⟨p4, k4, rfl⟩ := h4.form
 obtain ⟨p', c', b, o, he, _, hm, hp, hc, hb⟩ := h4.rows
 injection he with he1 he2 he3
 subst he1 he3
 have HC := Lib.hid hc
 have HP := Lib.hid hp
 have HB := Lib.hid hb
 have HRR := Lib.hid hr
 clear hv h0 h1 h2 h3 h4 hc hp hb he2 hr
 have hx2 : (0 : Int) ≤ (h.dates.length : Int) := by omega
 go_enter Tryz.func96, Tryz.ntmps96
 go_wp2_with (at_make; refine wpl_make (z := .bool false) eiBools rfl _ _ rfl rfl .i64 .i64 h.dates.length rfl rfl (by omega) (by omega) ?_)
 go_loopw [6] (fun i wr => ∃ (k : Nat) (q : Value), k ≤ h.dates.length ∧ i = .int .i64 k ∧ Bx wr w.heap.size [.slice p0 h.sectors.length k0, .slice p1 h.prices.length k1, .slice p2 h.dates.length k2, .slice p3 h.frm.length k3, .slice p4 h.holds.length k4] 26 ∧ Bx wr (w.heap.size + 1 + 1 + 1) [.int .i64 n, q, .slice (some ⟨w.heap.size + 1 + 1, 0, none⟩) h.dates.length h.dates.length, .int .i64 0, .slice none 0 0, .int .i64 0] 56 ∧
   Bx wr (w.heap.size + 1 + 1) (List.replicate h.dates.length (.bool false)) 4 ∧ Bx wr (w.heap.size + 1) [.int .i64 0, .slice none 0 0, .slice none 0 0, .int .i64 0, .slice none 0 0, .int .i64 0] 56 ∧
   OwnL (fun j => j < w.heap.size + 4) (w.heap.size + 4) 23 wr q ((openP h n).seats.take k) ∧ Below w.heap.size w wr ∧ w.heap.size + 4 ≤ wr.heap.size) (fun i _ => h.dates.length - (intOf i).toNat)
 case atStart =>
  have hS : Step w ((((w.alloc (.cells #[.slice p0 h.sectors.length k0, .slice p1 h.prices.length k1, .slice p2 h.dates.length k2, .slice p3 h.frm.length k3, .slice p4 h.holds.length k4] 26)).alloc (.cells #[.int .i64 0, .slice none 0 0, .slice none 0 0, .int .i64 0, .slice none 0 0, .int .i64 0] 56)).alloc (.cells (Array.replicate h.dates.length (.bool false)) 4)).alloc (.cells #[.int .i64 n, .slice none 0 0, .slice (some ⟨w.heap.size + 1 + 1, 0, none⟩) h.dates.length h.dates.length, .int .i64 0, .slice none 0 0, .int .i64 0] 56)) := (by repeat (first | (with_reducible assumption) | (with_reducible exact Step.refl _) | (with_reducible apply Step.s_alloc) | (with_reducible apply Step.s_drew) | (with_reducible apply Step.s_drewN) | (with_reducible refine Step.trans ?_ (by with_reducible assumption))))
  refine ⟨0, _, Nat.zero_le _, rfl, Bx.alloc (Bx.alloc (Bx.alloc (Bx.new _ _ _) _) _) _, Bx.new' _ _ _ _ (by simp), Bx.alloc (by rw [← List.toArray_replicate]; exact Bx.new' _ _ _ _ (by simp)) _, Bx.alloc (Bx.alloc (Bx.new' _ _ _ _ (by simp)) _) _, OwnL.nil _ _ _ _, hS.below, by simp⟩
 case round =>
  obtain ⟨k, q, hk, rfl, hb0, hb, hbb, hbr, hown, hB, hsz⟩ := hrel
  obtain ⟨wo, hwo⟩ : ∃ W, W = wr := ⟨_, rfl⟩
  subst hwo
  by_cases hltd : k < h.dates.length
  ·have hlt : k < h.holds.length := by have := HEQ.out; omega
   obtain ⟨_, _, e0x2, _, e0x4⟩ := cells5 hb0
   have HB0 := Lib.hid hb0
   clear hb0
   obtain rfl := HP.out (by omega)
   obtain ⟨u, e1, hu⟩ := HC.out k hlt
   have hbl := (HB.out (by omega)).1
   have hrk := HRR.out k hlt
   have e1 := (hB.cell (p := ⟨b, o + k, none⟩) hbl).trans e1
   have hx : (0 : Int) ≤ (k : Int) ∧ (k : Int) < (h.holds.length : Int) := by omega
   obtain ⟨pu, cu, bu, ou, rfl, _, _, hpu, hcu, hbu⟩ := hu.ints
   have HCU := Lib.hid hcu
   have HPU := Lib.hid hpu
   have HBU := Lib.hid hbu
   clear hu hcu hpu hbu
   have hx3 : (0 : Int) ≤ (h.holds[k].length : Int) := by omega
   go_wp2_with (at_make; refine wpl_make (z := .int .i64 0) eiInts rfl _ _ rfl rfl .i64 .i64 h.holds[k].length rfl rfl (by omega) (by omega) ?_)
   clear e0x2 e0x4
   have HE1 := Lib.hid e1
   clear e1
   go_loopw [8] (fun i wi => ∃ k2 : Nat, k2 ≤ h.holds[k].length ∧ i = .int .i64 k2 ∧ Bx wi wo.heap.size ((mix h.holds[k] (heldV n) k2).map (Value.int .i64)) 3 ∧ Step wo wi) (fun i _ => h.holds[k].length - (intOf i).toNat)
   case atStart => exact ⟨0, Nat.zero_le _, rfl, by rw [mix_zero, List.map_replicate, ← List.toArray_replicate]; exact Bx.new' _ _ _ _ rfl, Step.alloc _ _⟩
   case round =>
    obtain ⟨k2, hk2, rfl, hbx, hS⟩ := hrel
    obtain ⟨_, _, e0x2, _, e0x4⟩ := cells5 (HB0.out.step hS)
    have e1 := hS.kc HE1.out
    by_cases hlt2 : k2 < h.holds[k].length
    ·obtain rfl := HPU.out (by omega)
     have hbl2 := (HBU.out (by omega)).1
     have a1 := hS.kc ((hB.cell (p := ⟨bu, ou + k2, none⟩) hbl2).trans (HCU.out k2 hlt2))
     have hx4 : (0 : Int) ≤ (k2 : Int) ∧ (k2 : Int) < (h.holds[k].length : Int) := by omega
     by_cases hne : h.holds[k][k2] = n
     ·have hne' : (h.holds[k][k2] != n) = false := by simp [hne]
      have hv0 : heldV n h.holds[k][k2] = 0 := by simp [heldV, hne]
      have HBX := Lib.hid hbx
      clear hne hbx
      go_wp2
      go_roundw
      case rel => exact ⟨k2 + 1, by omega, by go_num, by rw [← mix_keep _ _ hlt2 hv0]; exact HBX.out, hS⟩
      case measure => simp [intOf]; omega
     ·have hne' : (h.holds[k][k2] != n) = true := by simp [hne]
      have hv0 : heldV n h.holds[k][k2] = -1 := by simp [heldV, hne]
      have f1 := hbx.frozen k2
      have a2 := hbx.cell k2
      rw [List.getElem?_eq_getElem (by simp [mix_len]; exact hlt2), List.getElem_map] at a2
      have HBX := Lib.hid hbx
      clear hne hbx
      go_wp2
      go_roundw
      case rel => exact ⟨k2 + 1, by omega, by go_num, by rw [← mix_set _ _ hlt2, hv0, List.map_set]; exact HBX.out.setCell _ _, hS.setNew _ _ (Nat.le_refl _)⟩
      case measure => simp [intOf]; omega
    ·have hfull : mix h.holds[k] (heldV n) k2 = h.holds[k].map (heldV n) := mix_full _ _ (by omega)
     rw [hfull] at hbx
     have HB0x := Lib.hid (HB0.out.step hS)
     have hb2 := hb.step hS
     have hbb2 := hbb.step hS
     have hbr2 := hbr.step hS
     have hown2 := (hown.step hS).alloc (.cells #[.slice (some ⟨wo.heap.size, 0, none⟩) h.holds[k].length h.holds[k].length] 23)
     have hgt : wo.heap.size < wr.heap.size := hbx.lt
     have x1 : ¬ avoid (fun j => j < w.heap.size + 4) q wo.heap.size := fun e => by
      rcases e with e | e
      ·omega
      ·have := (hown.lt _ e).2; omega
     have hrow : SL (avoid (fun j => j < w.heap.size + 4) q) wr (.slice (some ⟨wo.heap.size, 0, none⟩) (h.holds[k].map (heldV n)).length h.holds[k].length) (h.holds[k].map (heldV n)) := SL.bx_ints hbx x1 _ (by simp) (by simp; omega)
     rw [List.length_map] at hrow
     have hu := SLe.one (S := avoid (fun j => j < w.heap.size + 4) q) (w := wr) (cs := [.slice (some ⟨wo.heap.size, 0, none⟩) h.holds[k].length h.holds[k].length]) (x := h.holds[k].map (heldV n)) 23 ⟨_, rfl, hrow⟩
     have hkl : k < (openP h n).seats.length := by simpa [openP] using hlt
     have hn1 : ((openP h n).seats.take k).length + [h.holds[k].map (heldV n)].length = k + 1 := by simp; omega
     have hn2 : k + 1 ≤ maxLen := by simp only [maxLen]; omega
     have hn3 : w.heap.size + 4 ≤ (wr.alloc (.cells #[.slice (some ⟨wo.heap.size, 0, none⟩) h.holds[k].length h.holds[k].length] 23)).heap.size := by simp; omega
     have hn4 : (openP h n).seats.take k ++ [h.holds[k].map (heldV n)] = (openP h n).seats.take (k + 1) := by
      rw [List.take_succ_eq_append_getElem hkl]; simp [openP]
     obtain ⟨e0, e1, e2, e3, e4, e5⟩ := cells6 hb2
     have HH := Lib.hid (And.intro hbb2 (And.intro hbr2 (And.intro hB (And.intro hS (And.intro hb2 hbx)))))
     have HX := Lib.hid hrow
     clear hrow hb hbb hbr hown hbb2 hbr2 hB hS hb2 hbx hfull
     go_wp2_with (at_builtin; refine wpl_append (S := fun j => j < w.heap.size + 4) (base := w.heap.size + 4) (v := q) (l := (openP h n).seats.take k) (m := [h.holds[k].map (heldV n)]) eiRows rfl _ _ rfl rfl rfl hown2 hu (k + 1) hn1 ((openP h n).seats.take (k + 1)) hn4 hn2 (by omega) hn3 ?_)
     intro p' c' w2 hown3 hg
     obtain ⟨hbb, hbr, hB, hS, hb, hbx⟩ := HH.out
     have hq : ∀ j, q.ownBlock = some j → w.heap.size + 4 ≤ j := fun j hj => (hown2.lt j hj).1
     have hS1 := (hS.trans (Step.alloc wr (.cells #[.slice (some ⟨wo.heap.size, 0, none⟩) h.holds[k].length h.holds[k].length] 23)))
     have hB2 : Below (w.heap.size + 4) wo w2 := by
      refine Below.grown (hS1.below.mono hsz) hg hn3 hq
     have kp : ∀ j, j < w.heap.size + 4 → w2.heap[j]? = wo.heap[j]? := fun j hj => hB2.block j hj
     have kp2 : Keeps (fun j => ¬ j < w.heap.size + 4) wr w2 := ⟨by have := hg.size; simp at this; omega, fun j hj hs => by
      rw [kp j (by omega), hS.below.block j (by omega)]⟩
     have hb02 := HB0x.out.keep kp2 (by omega)
     have HB02 := Lib.hid hb02
     have hb2 := hb.keep kp2 (by omega)
     have hbb2 := hbb.keep kp2 (by omega)
     have hbr2 := hbr.keep kp2 (by omega)
     have f1 := hb2.frozen 1
     have a1 := hb2.cell 1
     simp only [zD, zE] at a1
     have HZ := Lib.hid (And.intro hb2 (And.intro hbb2 (And.intro hbr2 (And.intro hB hB2))))
     have HO := Lib.hid hown3
     clear hb2 hbb2 hbr2 hB hB2 hown3 hg hS hS1 hb hbb hbr hbx kp kp2 hq hb02
     go_wp2
     go_roundw
     case rel =>
      obtain ⟨hb2, hbb2, hbr2, hB, hB2⟩ := HZ.out
      have hsz2 := hB2.size
      refine ⟨k + 1, _, by omega, by go_num, HB02.out.setOther (by omega), hb2.setCell 1 _, hbb2.setOther (by omega), hbr2.setOther (by omega), HO.out.wrote (.setCell _ _ _ _) (by omega) (fun e => by have := (HO.out.lt _ e).1; omega), Below.setCell (p := ⟨w.heap.size + 1 + 1 + 1, 1, none⟩) (hB.trans (hB2.mono (by omega))) (by simp; omega) _, by simp; omega⟩
     case measure => simp [intOf]; omega
  ·have hltn : ¬ k < h.holds.length := by have := HEQ.out; omega
   obtain ⟨_, _, e0x2, _, _⟩ := cells5 hb0
   clear hb0
   have hkl : (openP h n).seats.take k = (openP h n).seats := List.take_of_length_le (by simp [openP]; omega)
   rw [hkl] at hown
   obtain ⟨e0, e1, e2, e3, e4, e5⟩ := cells6 hb
   obtain ⟨y0, y1, y2, y3, y4, y5⟩ := cells6 hbr
   have hfr := fun j => hbr.frozen j
   obtain ⟨q1, q2, rfl, _⟩ := hown.form
   have HH := Lib.hid (And.intro hb (And.intro hbb (And.intro hbr (And.intro hown hB))))
   clear hb hbb hbr hown hB hkl
   go_wp2
   obtain ⟨hb, hbb, hbr, hown, hB⟩ := HH.out
   have b6 := (((((hbr.setCell 0 (.int .i64 n)).setCell 1 (.slice q1 (openP h n).seats.length q2)).setCell 2 (.slice (some ⟨w.heap.size + 1 + 1, 0, none⟩) h.dates.length h.dates.length)).setCell 3 (.int .i64 0)).setCell 4 (.slice none 0 0)).setCell 5 (.int .i64 0)
   have hK6 := ((((((Keeps.refl (fun j => j = w.heap.size + 1) wo).s_wrote (.setCell _ (w.heap.size + 1) 0 (.int .i64 n)) rfl).s_wrote (.setCell _ (w.heap.size + 1) 1 (.slice q1 (openP h n).seats.length q2)) rfl).s_wrote (.setCell _ (w.heap.size + 1) 2 (.slice (some ⟨w.heap.size + 1 + 1, 0, none⟩) h.dates.length h.dates.length)) rfl).s_wrote (.setCell _ (w.heap.size + 1) 3 (.int .i64 0)) rfl).s_wrote (.setCell _ (w.heap.size + 1) 4 (.slice none 0 0)) rfl).s_wrote (.setCell _ (w.heap.size + 1) 5 (.int .i64 0)) rfl
   have hB6 := (((((hB.setCell (p := ⟨w.heap.size + 1, 0, none⟩) (by simp) (.int .i64 n)).setCell (p := ⟨w.heap.size + 1, 1, none⟩) (by simp) (.slice q1 (openP h n).seats.length q2)).setCell (p := ⟨w.heap.size + 1, 2, none⟩) (by simp) (.slice (some ⟨w.heap.size + 1 + 1, 0, none⟩) h.dates.length h.dates.length)).setCell (p := ⟨w.heap.size + 1, 3, none⟩) (by simp) (.int .i64 0)).setCell (p := ⟨w.heap.size + 1, 4, none⟩) (by simp) (.slice none 0 0)).setCell (p := ⟨w.heap.size + 1, 5, none⟩) (by simp) (.int .i64 0)
   have hoff : SL (fun j => j < w.heap.size + 2) wo (.slice (some ⟨w.heap.size + 1 + 1, 0, none⟩) (openP h n).off.length h.dates.length) (openP h n).off := SL.bx_bools (by simpa [openP] using hbb) (by omega) _ (by simp [openP]) (by simp [openP]; omega)
   have hol : (openP h n).off.length = h.dates.length := by simp [openP]
   rw [hol] at hoff
   refine ret_struct (k := 6) rfl siRefBook rfl b6 rfl rfl ⟨_, rfl, ⟨_, rfl, ⟨_, _, _, rfl, ?_, ?_, ?_⟩⟩, .of hB6⟩
   all_goals refine SL.keep (S := fun j => j < w.heap.size + 2) (hK6.mono fun j _ hj => by omega) ?_ |>.weak fun j _ hj => by unfold Old at hj; omega
   ·exact hown.sl (fun g' h1 h2 h3 => by omega) |>.weak fun j _ hj => by omega
   ·exact hoff
   ·exact SL.nil _ _
theorem siRefWorld : SI Tryz.prog 49 2 := ⟨⟨_, Tryz.underlying49⟩, by kernel_rfl⟩
theorem infoRefBook : (Tryz.prog.info? 56).map (fun i => (i.zero, i.size, i.bytes)) = some (some (.agg #[.int .i64 0, .slice none 0 0, .slice none 0 0, .int .i64 0, .slice none 0 0, .int .i64 0]), 6, 96) := by kernel_rfl
theorem eiRefBooks : EI Tryz.prog 46 56 (.agg #[.int .i64 0, .slice none 0 0, .slice none 0 0, .int .i64 0, .slice none 0 0, .int .i64 0]) 6 96 := .mk' Tryz.underlying46 infoRefBook rfl
theorem set2r {w : World} {g : Nat} {a0 a1 : Value} {T : TypeId} (h : Bx w g [a0, a1] T) (c0 c1 : Value) : Bx ((w.setCell ⟨g, 0, none⟩ c0).setCell ⟨g, 1, none⟩ c1) g [c0, c1] T ∧ StepX (fun j => j = g) w ((w.setCell ⟨g, 0, none⟩ c0).setCell ⟨g, 1, none⟩ c1) :=
 ⟨(h.setCell 0 c0).setCell 1 c1, ((StepX.refl _ w).set1 0 c0).set1 1 c1⟩
theorem openTo_all {h : House} : openTo h (agN h) = (startD h).books := rfl
set_option maxRecDepth 100000 in
set_option maxHeartbeats 4000000 in
theorem RStart_any (S : Nat → Prop) (h : House) (v : Value) (w : World) (hv : AV S w v h) (hok : valid h = true) :
  Calls Tryz.prog 50 #[v] w fun e w' => ∃ v', e = .returned v' ∧ AV (Old w) w' v' (startD h) ∧ Step w w' := by
 obtain ⟨c0, c1, c2, c3, c4, rfl, h0, h1, h2, h3, h4⟩ := hv.house
 obtain ⟨p0, k0, rfl⟩ := h0.form
 obtain ⟨p1, k1, rfl⟩ := h1.form
 obtain ⟨p2, k2, rfl⟩ := h2.form
 obtain ⟨p3, k3, rfl⟩ := h3.form
 obtain ⟨p4, k4, rfl⟩ := h4.form
 obtain ⟨W0, hW0⟩ : ∃ W0, W0 = ((w.alloc (.cells #[.slice p0 h.sectors.length k0, .slice p1 h.prices.length k1, .slice p2 h.dates.length k2, .slice p3 h.frm.length k3, .slice p4 h.holds.length k4] 26)).alloc (.cells #[.slice none 0 0, .slice none 0 0] 49)).alloc (.cells #[.slice none 0 0, .slice none 0 0] 49) := ⟨_, rfl⟩
 have hS : Step w W0 := by subst hW0; exact (by repeat (first | (with_reducible assumption) | (with_reducible exact Step.refl _) | (with_reducible apply Step.s_alloc) | (with_reducible apply Step.s_drew) | (with_reducible apply Step.s_drewN) | (with_reducible refine Step.trans ?_ (by with_reducible assumption))))
 have hb0 : Bx W0 w.heap.size [.slice p0 h.sectors.length k0, .slice p1 h.prices.length k1, .slice p2 h.dates.length k2, .slice p3 h.frm.length k3, .slice p4 h.holds.length k4] 26 := by subst hW0; exact ((Bx.new _ [_, _, _, _, _] _).alloc _).alloc _
 have hb1 : Bx W0 (w.heap.size + 1) [.slice none 0 0, .slice none 0 0] 49 := by subst hW0; exact (Bx.new' _ [_, _] _ _ (by simp)).alloc _
 have hb2 : Bx W0 (w.heap.size + 2) [.slice none 0 0, .slice none 0 0] 49 := by subst hW0; exact Bx.new' _ [_, _] _ _ (by simp)
 have hz0 : W0.heap.size = w.heap.size + 3 := by subst hW0; simp
 have HH := Lib.hid hv
 have HS := Lib.hid hS
 have HB0 := Lib.hid hb0
 have HB1 := Lib.hid hb1
 have HB2 := Lib.hid hb2
 have HZ := Lib.hid hz0
 have HW := Lib.hid hW0
 have BD := Lib.hid (bounds_valid hok)
 have HOK := Lib.hid hok
 clear hv hS hb0 hb1 hb2 hz0 hW0 hok h0 h1 h2 h3 h4
 go_enter Tryz.func50, Tryz.ntmps50
 go_upto_region 2 with (fail)
 rw [← HW.out]
 clear HW
 go_upto_region 3 with (fail)
 go_loopw [4] (fun i wr => ∃ (k : Nat) (vb : Value), k ≤ agN h ∧ i = .int .i64 k ∧ Bx wr (w.heap.size + 2) [vb, .slice none 0 0] 49 ∧ OwnL (fun j => j < w.heap.size + 3) (w.heap.size + 3) 56 wr vb (openTo h k) ∧ Keeps (fun j => j = w.heap.size + 2) W0 wr ∧ Step w wr) (fun i _ => agN h - (intOf i).toNat)
 case atStart => exact ⟨0, _, Nat.zero_le _, rfl, HB2.out, OwnL.nil _ _ _ _, Keeps.refl _ _, HS.out⟩
 case round =>
  obtain ⟨k, vb, hk, rfl, hbx, hown, hkp, hT⟩ := hrel
  have HBX := Lib.hid hbx
  have HOW := Lib.hid hown
  have HKP := Lib.hid hkp
  have HT := Lib.hid hT
  have HBH := Lib.hid (HB0.out.keep hkp (by omega))
  have HHr := Lib.hid ((HH.out.weak (T := fun _ => False) fun _ _ h => h.elim).keep (.of_step hT))
  clear hbx hown hkp hT
  have hrh : AV (fun _ => False) wr (.agg #[.slice p0 h.sectors.length k0, .slice p1 h.prices.length k1, .slice p2 h.dates.length k2, .slice p3 h.frm.length k3, .slice p4 h.holds.length k4]) h := HHr.out
  obtain ⟨e0, e1, e2, e3, e4⟩ := cells5 HBH.out
  go_wp2_with fail
  refine (Agencies_any (fun _ => False) h _ _ hrh (by have := BD.out; omega)).mono ?_
  rintro e wn ⟨rfl, hSn⟩
  clear e0 e1 e2 e3 e4 hrh
  have HBXn := Lib.hid (HBX.out.step hSn)
  have HOWn := Lib.hid (HOW.out.step hSn)
  have HKPn := Lib.hid (HKP.out.trans (.of_step hSn))
  have HTn := Lib.hid (HT.out.trans hSn)
  have HBHn := Lib.hid (HBH.out.step hSn)
  have HHn := Lib.hid (HHr.out.keep (.of_step hSn))
  clear hSn HBX HOW HKP HT HBH HHr
  by_cases hlt : k < agN h
  ·obtain ⟨pb, kb, rfl⟩ : ∃ p c, vb = .slice p (openTo h k).length c := by obtain ⟨p, c, e, _, _⟩ := HOWn.out.form; exact ⟨p, c, e⟩
   go_upto_region 5 with (fail)
   refine wp_region_seqM (fun c d v a w h => by cases d <;> exact h) (kdOf [4, 5] []) [0, 1, 0, 0, 12, 28, 63, 127, 255] [0, 1, 2, 3, 4, 5] [6, 7, 8] (by kernel_rfl) (by kernel_rfl) (fun i T z hi hk => by simp [kdOf] at hk <;> (try (split at hk <;> cases hk))) ?_
   intro Wx hWx
   obtain ⟨e0, e1, e2, e3, e4⟩ := cells5 (HBHn.out.step hWx)
   have g0 := (HBXn.out.step hWx).cell 0
   simp only [List.getElem?_cons_zero] at g0
   repeat (first | (refine run_off rfl rfl (by rfl) ?_; (try simp only [Act.put, zA, zB, zC])) | (refine run_chain_off rfl rfl (by rfl) (K0_mono _) ?_; (try simp only [Act.put, zA, zB, zC])) | ((refine run_want rfl rfl (by rfl) ⟨?_, fun W hW => ?_, ?_⟩; rotate_left; (· (have d0 := hW.kc e0; have d1 := hW.kc e1; have d2 := hW.kc e2; have d3 := hW.kc e3; have d4 := hW.kc e4; have d5 := hW.kc g0; go_simp; (try with_reducible rfl)))); (try simp only [Act.put, zA, zB, zC])))
   clear e0 e1 e2 e3 e4 g0
   refine run_chain rfl rfl (by rfl) (fun Wi hWi K' hK => ?_)
   have HXI := Lib.hid (hWx.trans hWi)
   clear hWx hWi
   go_simp
   refine (ROpen_any (fun _ => False) h (k : Int) _ Wi (HHn.out.keep (.of_step HXI.out)) HOK.out).mono ?_
   rintro e wq ⟨v', rfl, hv', hSn⟩
   obtain ⟨b1, b2, b4, rfl, s1, s2, s4⟩ := hv'.book
   obtain ⟨y1, x1, rfl⟩ := s1.form
   obtain ⟨y2, x2, rfl⟩ := s2.form
   obtain ⟨y4, x4, rfl⟩ := s4.form
   have HVB := Lib.hid hv'
   have HXN := Lib.hid (HXI.out.trans hSn)
   have HZI := Lib.hid HXI.out.size
   have HZS := Lib.hid hSn.size
   refine hK _ _ (StepX.of hSn) ?_
   clear hSn hv' s1 s2 s4 hK HXI
   (try simp only [Act.put, zA, zB, zC])
   repeat (first | (refine run_off rfl rfl (by rfl) ?_; (try simp only [Act.put, zA, zB, zC])) | (refine run_chain_off rfl rfl (by rfl) (K0_mono _) ?_; (try simp only [Act.put, zA, zB, zC])) | ((refine run_want rfl rfl (by rfl) ⟨?_, fun W hW => ?_, ?_⟩; rotate_left; (· (skip; go_simp; (try with_reducible rfl)))); (try simp only [Act.put, zA, zB, zC])))
   refine run_chain rfl rfl (by rfl) (fun W3 hW3 K' hK' => ?_)
   go_simp
   refine hK' _ _ (.of (Step.alloc _ _)) ?_
   (try simp only [Act.put, zA, zB, zC])
   refine run_end (L := [_, _, _]) rfl (fun W4 hW4 => ?_)
   have hst4 := ((HXN.out.trans hW3).trans (Step.alloc _ _)).trans hW4
   have hold : Rep.rep (avoid (fun j => j < w.heap.size + 3) (.slice pb (openTo h k).length kb)) wq [.int .i64 (openP h (k : Int)).agency, .slice y1 (openP h (k : Int)).seats.length x1, .slice y2 (openP h (k : Int)).off.length x2, .int .i64 (openP h (k : Int)).sent, .slice y4 (openP h (k : Int)).took.length x4, .int .i64 (openP h (k : Int)).cash] (openP h (k : Int)) := by
    obtain ⟨cs9, he9, hr9⟩ := HVB.out
    injection he9 with he9
    have hf9 : cs9 = [.int .i64 (openP h (k : Int)).agency, .slice y1 (openP h (k : Int)).seats.length x1, .slice y2 (openP h (k : Int)).off.length x2, .int .i64 (openP h (k : Int)).sent, .slice y4 (openP h (k : Int)).took.length x4, .int .i64 (openP h (k : Int)).cash] := by
     have := congrArg Array.toList he9
     simpa using this.symm
    rw [hf9] at hr9
    refine Rep.weak (fun j hj hs => ?_) hr9
    unfold Old
    rcases hs with hs | hs
    ·have := HTn.out.size; have := HKPn.out.1; have := HZ.out; have := HZI.out; omega
    ·have := (HOWn.out.lt j hs).2; have := HZI.out; omega
   have hu := (SLe.one 56 (Rep.keep (.of_step hW3) hold)).step hW4
   have hn1 : (openTo h k).length + [openP h (k : Int)].length = k + 1 := by rw [openTo_len]; rfl
   have hn2 : k + 1 ≤ maxLen := by have := BD.out; simp only [maxLen]; omega
   have hn3 : (k + 1) * 96 ≤ 140737488355328 := by have := BD.out; omega
   have hown4 := HOWn.out.step hst4
   have hbx4 := HBXn.out.step hst4
   have hbase : w.heap.size + 3 ≤ W4.heap.size := by have := HKPn.out.1; have := HZ.out; have := hst4.size; omega
   have HST4 := Lib.hid hst4
   clear hW3 hW4 hold hst4
   go_wp2_with (at_builtin; refine wpl_append (S := fun j => j < w.heap.size + 3) (base := w.heap.size + 3) (v := .slice pb (openTo h k).length kb) (l := openTo h k) (m := [openP h (k : Int)]) eiRefBooks rfl _ _ rfl rfl rfl hown4 hu (k + 1) hn1 (openTo h (k + 1)) (openTo_succ h k).symm hn2 hn3 hbase ?_)
   intro p' c' w5 hown5 hg5
   have hnx : ¬ (Value.slice pb (openTo h k).length kb).ownBlock = some (w.heap.size + 2) := fun e => by have := (hown4.lt _ e).1; omega
   have b5 := hbx4.keep (S := fun j => (Value.slice pb (openTo h k).length kb).ownBlock = some j) (.grown hg5 fun j hj _ => hj) hnx
   have f5 := b5.frozen 0
   have c5 := b5.cell 0
   simp only [List.getElem?_cons_zero] at c5
   have x5 : (Value.slice p' (k + 1) c').ownBlock ≠ some (w.heap.size + 2) := fun e => by have := (hown5.lt _ e).1; omega
   have hkp5 : Keeps (fun j => j = w.heap.size + 2) W0 w5 := by
    have hz := HZ.out
    have hk := HKPn.out.trans (.of_step HST4.out)
    exact ⟨by have := hk.1; have := hg5.size; omega, fun j hj hs => (hg5.block j (by have := hk.1; omega) (fun e => by have := (hown4.lt j e.symm).1; omega)).trans (hk.2 j hj hs)⟩
   have hT5 : Step w w5 := StepX.fresh (HTn.out.trans HST4.out) (StepX.grown (X := fun j => (Value.slice pb (openTo h k).length kb).ownBlock = some j) hg5 fun j hj _ => hj) (fun j hj => by have := (hown4.lt j hj).1; omega)
   have HK5 := Lib.hid hkp5
   have HT5 := Lib.hid hT5
   have HO5 := Lib.hid hown5
   have HX5 := Lib.hid x5
   have HB5 := Lib.hid b5
   have hag := BD.out.2.2.2.2.2.1
   have hkw : IntKind.i64.wrap ((k : Int) + 1) = (k : Int) + 1 := by rw [IntKind.wrap_i64]; omega
   clear hown4 hu hbx4 hbase hg5 hnx hkp5 hT5 hown5 x5 b5 hn1 hn2 hn3
   go_wp2
   go_roundw
   case rel => exact ⟨k + 1, _, by omega, by go_num, HB5.out.setCell 0 _, HO5.out.wrote (.setCell _ _ _ _) (by show _ < _; omega) HX5.out, HK5.out.s_wrote (.setCell _ _ _ _) rfl, Step.setNew HT5.out ⟨w.heap.size + 2, 0, none⟩ _ (by show w.heap.size ≤ w.heap.size + 2; omega)⟩
   case measure => simp [intOf]; omega
  ·have hke : k = agN h := by omega
   subst hke
   obtain ⟨pb, kb, rfl⟩ : ∃ p c, vb = .slice p (openTo h (agN h)).length c := by obtain ⟨p, c, e, _, _⟩ := HOWn.out.form; exact ⟨p, c, e⟩
   have g0 := HBXn.out.cell 0
   have g1 := HBXn.out.cell 1
   simp only [zD, zE] at g0 g1
   have hb1 := HB1.out.keep HKPn.out (by omega)
   have t0 := hb1.cell 0
   have t1 := hb1.cell 1
   have tf0 := hb1.frozen 0
   have tf1 := hb1.frozen 1
   simp only [zD, zE] at t0 t1
   have HB1n := Lib.hid hb1
   clear hb1
   go_wp2
   have b2 := set2r HB1n.out (.slice pb (openTo h (agN h)).length kb) (.slice none 0 0)
   have hk2 : Keeps (fun j => j < w.heap.size + 3) wn ((wn.setCell ⟨w.heap.size + 1, 0, none⟩ (.slice pb (openTo h (agN h)).length kb)).setCell ⟨w.heap.size + 1, 1, none⟩ (.slice none 0 0)) := b2.2.keeps.mono fun j _ e => by omega
   have ho := HOWn.out.kept hk2 (fun g hg => b2.2.block g (HOWn.out.lt g hg).2 (by have := (HOWn.out.lt g hg).1; omega))
   refine ret_struct (k := 2) rfl siRefWorld rfl b2.1 rfl rfl ?_
   refine ⟨_, rfl, ⟨_, rfl, _, _, rfl, ?_, ?_⟩, ?_⟩
   ·rw [← openTo_all]
    exact (ho.sl (fun g hg _ hs => by omega)).weak (fun j _ hj => by unfold Old at hj; omega)
   ·exact SL.nil _ _
   ·exact StepX.fresh HTn.out b2.2 (fun j hj => by omega)
set_option maxRecDepth 100000 in
set_option maxHeartbeats 8000000 in
theorem RRefund_any (S : Nat → Prop) (h : House) (b : Book) (v u : Value) (s n : Int) (w : World) (hv : AV S w v h) (hu : AV S w u b) (hok : valid h = true) (hbk : bookB h b = true) :
  Calls Tryz.prog 98 #[v, u, .int .i64 s, .int .i64 n] w (fun e w' => RActEnds (refundD h b s n) e w w') := by
 obtain ⟨hO, hcash, hc0, hthin⟩ := okDesk_book hok hbk
 obtain ⟨cs, rfl, hr0⟩ := hv
 have hr := hr0
 obtain ⟨c0, c1, c2, c3, c4, rfl, h0, h1, h2, h3, h4⟩ := hr
 obtain ⟨p0, k0, rfl⟩ := h0.form
 obtain ⟨p1, k1, rfl⟩ := h1.form
 obtain ⟨p2, k2, rfl⟩ := h2.form
 obtain ⟨p3, k3, rfl⟩ := h3.form
 obtain ⟨p4, k4, rfl⟩ := h4.form
 obtain ⟨cs, rfl, hq0⟩ := hu
 have hq := hq0
 obtain ⟨d1, d2, d4, rfl, s1, s2, s4⟩ := hq
 obtain ⟨q1, m1, bs, os, rfl, _, _, hp1, hc1, _⟩ := s1.rows
 obtain ⟨q2, m2, rfl⟩ := s2.form
 obtain ⟨q4, m4, rfl⟩ := s4.form
 have hbv := bounds_valid hok
 obtain ⟨z, hz⟩ : ∃ z : Nat, sizeL h.sectors = z := ⟨(sizeL h.sectors).toNat, by omega⟩
 have hz100 : z ≤ 100 := by omega
 have hz0 : 0 < z := by have := size_pos hok; omega
 obtain ⟨W3, hW3⟩ : ∃ W3, W3 = ((w.alloc (.cells #[.slice p0 h.sectors.length k0, .slice p1 h.prices.length k1, .slice p2 h.dates.length k2, .slice p3 h.frm.length k3, .slice p4 h.holds.length k4] 26)).alloc (.cells #[.int .i64 b.agency, .slice q1 b.seats.length m1, .slice q2 b.off.length m2, .int .i64 b.sent, .slice q4 b.took.length m4, .int .i64 b.cash] 56)).alloc (.cells #[.int .i64 0, .slice none 0 0, .slice none 0 0, .int .i64 0, .slice none 0 0, .int .i64 0] 56) := ⟨_, rfl⟩
 have hbx : Bx W3 w.heap.size [.slice p0 h.sectors.length k0, .slice p1 h.prices.length k1, .slice p2 h.dates.length k2, .slice p3 h.frm.length k3, .slice p4 h.holds.length k4] 26 := by subst hW3; exact ((Bx.new _ _ _).alloc _).alloc _
 have hb2 : Bx W3 (w.heap.size + 1) [.int .i64 b.agency, .slice q1 b.seats.length m1, .slice q2 b.off.length m2, .int .i64 b.sent, .slice q4 b.took.length m4, .int .i64 b.cash] 56 := by subst hW3; exact (Bx.new' _ _ _ _ (by simp)).alloc _
 have hb3 : Bx W3 (w.heap.size + 2) [.int .i64 0, .slice none 0 0, .slice none 0 0, .int .i64 0, .slice none 0 0, .int .i64 0] 56 := by subst hW3; exact Bx.new' _ _ _ _ (by simp)
 have hS : Step w W3 := by subst hW3; exact (by repeat (first | (with_reducible assumption) | (with_reducible exact Step.refl _) | (with_reducible apply Step.s_alloc) | (with_reducible apply Step.s_drew) | (with_reducible apply Step.s_drewN) | (with_reducible refine Step.trans ?_ (by with_reducible assumption))))
 have hz3 : W3.heap.size = w.heap.size + 3 := by subst hW3; simp
 have HO := Lib.hid hO
 have HC0 := Lib.hid (And.intro hc0 hcash)
 have HTH := Lib.hid hthin
 have HB1 := Lib.hid hbx
 have HB2 := Lib.hid hb2
 have HB3 := Lib.hid hb3
 have HR := Lib.hid (Rep.keep (.of_step hS) hr0)
 have HQ := Lib.hid (Rep.keep (.of_step hS) hq0)
 have HSHOW := Lib.hid (And.intro h2 (And.intro h3 s2))
 have HS := Lib.hid hS
 have HZ3 := Lib.hid hz3
 have HZ := Lib.hid hz
 have HP1 := Lib.hid (And.intro hp1 hc1)
 have HOK := Lib.hid hok
 have HBK := Lib.hid hbk
 have HBV := Lib.hid hbv
 have hn1 : 1 ≤ h.dates.length ∧ h.dates.length ≤ 6 := by omega
 have HT := Lib.hid (Step.refl W3)
 have HW := Lib.hid hW3
 clear hr0 hq0 h0 h1 h2 h3 h4 s1 s2 s4 hbx hb2 hb3 hS hz3 hz hp1 hc1 hok hbk hbv hW3 hO hcash hc0 hthin
 go_enter Tryz.func98, Tryz.ntmps98
 go_wp2_with fail
 rw [show w.heap.size + 1 + 1 = w.heap.size + 2 from rfl, ← HW.out]
 refine (rseat_any S h _ s n _ ⟨_, rfl, HR.out⟩ HOK.out).mono ?_
 rintro e wn ⟨rfl, hSn⟩
 have HTi := Lib.hid (HT.out.trans hSn)
 clear hSn HT
 have HT := HTi
 clear HTi
 cases q1 : seatB h s n with
 | false =>
  have HF := Lib.hid (seatB_no (b := b) q1).2
  clear q1
  (try clear e0 e1 e2 e3 e4 f0 f1 f2 f3 f4 f5)
  obtain ⟨e0, e1, e2, e3, e4⟩ := cells5 (HB1.out.step HT.out)
  obtain ⟨f0, f1, f2, f3, f4, f5⟩ := cells6 (HB2.out.step HT.out)
  obtain ⟨g0, g1, g2, g3, g4, g5⟩ := cells6 (HB3.out.step HT.out)
  have t0 := (HB3.out.step HT.out).frozen 0
  have t1 := (HB3.out.step HT.out).frozen 1
  have t2 := (HB3.out.step HT.out).frozen 2
  have t3 := (HB3.out.step HT.out).frozen 3
  have t4 := (HB3.out.step HT.out).frozen 4
  have t5 := (HB3.out.step HT.out).frozen 5
  go_wp2
  have b6 := set6 (HB3.out.step HT.out) (.int .i64 0) (.slice none 0 0) (.slice none 0 0) (.int .i64 0) (.slice none 0 0) (.int .i64 0)
  exact ret_struct2 (k := 6) rfl siRefBook rfl b6.1 rfl rfl (.no (refundD_no HF.out (by simp)) rfl (StepX.fresh (HS.out.trans HT.out) b6.2 (fun j hj => by omega)))
 | true =>
 have Q1 := Lib.hid (seatB_yes q1)
 clear q1
 obtain ⟨i, rfl, hi0, hi1⟩ := within_nat Q1.out.1 (by omega)
 obtain ⟨j, rfl, hj0, hj1⟩ := within_nat Q1.out.2 (by omega)
 have hi : i < h.dates.length := by omega
 have his : i < b.seats.length := by have := HO.out.2.2.1; omega
 have hjz : j < z := by have := HZ.out; omega
 have hrl : ∀ b', OkDesk h b' → ∀ s (hs : s < b'.seats.length), b'.seats[s].length = z := fun b' hb s hs => by have := hb.2.2.2.1 s hs; have := HZ.out; omega
 have HRL := Lib.hid hrl
 obtain rfl := HP1.out.1 (by omega)
 obtain ⟨ur, hr1, hr2⟩ := HP1.out.2 i his
 obtain ⟨pr, cr, br, orr, rfl, _, _, hpr, hcr, _⟩ := hr2.ints
 obtain rfl := hpr (by rw [hrl _ HO.out]; exact hz0)
 have hcr2 : w.cell? ⟨br, orr + j, none⟩ = some (.int .i64 (seatAt b i j)) := by
  rw [hcr j (by rw [hrl _ HO.out]; exact hjz)]
  simp [seatAt, List.getD_eq_getElem?_getD, his, show j < b.seats[i].length by rw [hrl _ HO.out]; exact hjz]
 rw [hrl _ HO.out] at hr1
 have HROW := Lib.hid (And.intro hr1 hcr2)
 have hlow : -1 ≤ seatAt b i j := by
  have h1 := seat_low HBK.out his (show j < b.seats[i].length by rw [hrl _ HO.out]; exact hjz)
  simpa [seatAt, List.getD_eq_getElem?_getD, his, show j < b.seats[i].length by rw [hrl _ HO.out]; exact hjz] using h1
 have hx2 : (0 : Int) ≤ (i : Int) ∧ (i : Int) < (b.seats.length : Int) := by omega
 have hx3 : (0 : Int) ≤ (j : Int) ∧ (j : Int) < (z : Int) := by omega
 obtain ⟨y0, hy0⟩ : ∃ y, y = seatAt b i j := ⟨_, rfl⟩
 rw [← hy0] at hlow
 have HY0 := Lib.hid hy0
 clear hi0 hi1 hj0 hj1 hr1 hr2 hpr hcr hcr2 hrl hy0
 by_cases hy : 0 < y0
 rotate_left
 ·have HF := Lib.hid (show refundE h b i j = 7 by unfold refundE; rw [Q1.out.1, Q1.out.2, ← HY0.out, if_neg (by simp), if_neg (by simp), if_neg hy])
  have hyd : decide (y0 ≤ 0) = true := by simp; omega
  have a1 := (HS.out.trans HT.out).kc HROW.out.1
  have a2 := (HS.out.trans HT.out).kc HROW.out.2
  rw [← HY0.out] at a2
  (try clear e0 e1 e2 e3 e4 f0 f1 f2 f3 f4 f5)
  obtain ⟨e0, e1, e2, e3, e4⟩ := cells5 (HB1.out.step HT.out)
  obtain ⟨f0, f1, f2, f3, f4, f5⟩ := cells6 (HB2.out.step HT.out)
  obtain ⟨g0, g1, g2, g3, g4, g5⟩ := cells6 (HB3.out.step HT.out)
  have t0 := (HB3.out.step HT.out).frozen 0
  have t1 := (HB3.out.step HT.out).frozen 1
  have t2 := (HB3.out.step HT.out).frozen 2
  have t3 := (HB3.out.step HT.out).frozen 3
  have t4 := (HB3.out.step HT.out).frozen 4
  have t5 := (HB3.out.step HT.out).frozen 5
  go_wp2
  have b6 := set6 (HB3.out.step HT.out) (.int .i64 0) (.slice none 0 0) (.slice none 0 0) (.int .i64 0) (.slice none 0 0) (.int .i64 0)
  exact ret_struct2 (k := 6) rfl siRefBook rfl b6.1 rfl rfl (.no (refundD_no HF.out (by simp)) rfl (StepX.fresh (HS.out.trans HT.out) b6.2 (fun j hj => by omega)))
 have HF := Lib.hid (show refundE h b i j = 0 by unfold refundE; rw [Q1.out.1, Q1.out.2, ← HY0.out, if_neg (by simp), if_neg (by simp), if_pos hy])
 have hyd : decide (y0 ≤ 0) = false := by simp; omega
 have a1 := (HS.out.trans HT.out).kc HROW.out.1
 have a2 := (HS.out.trans HT.out).kc HROW.out.2
 rw [← HY0.out] at a2
 (try clear e0 e1 e2 e3 e4 f0 f1 f2 f3 f4 f5)
 obtain ⟨e0, e1, e2, e3, e4⟩ := cells5 (HB1.out.step HT.out)
 obtain ⟨f0, f1, f2, f3, f4, f5⟩ := cells6 (HB2.out.step HT.out)
 go_wp2_with fail
 refine (Copy_any S b _ _ ⟨_, rfl, Rep.keep (.of_step HT.out) HQ.out⟩ HTH.out).mono ?_
 rintro e wd ⟨vs, vo, vt, xs, rfl, hD0, hSd⟩
 obtain ⟨⟨pvs, cvs, rfl⟩, ⟨pvo, cvo, rfl⟩, ⟨pvt, cvt, rfl⟩⟩ := hD0.form
 have hTd := HT.out.trans hSd
 have hbase : w.heap.size + 3 ≤ wd.heap.size := by have := hTd.size; have := HZ3.out; omega
 have hbase2 : w.heap.size + 3 ≤ wn.heap.size := by have := HT.out.size; have := HZ3.out; omega
 (try clear e0 e1 e2 e3 e4 f0 f1 f2 f3 f4 f5)
 have hbD := Bx.new wd [.int .i64 b.agency, .slice pvs b.seats.length cvs, .slice pvo b.off.length cvo, .int .i64 b.sent, .slice pvt b.took.length cvt, .int .i64 b.cash] 56
 have hsA := Step.alloc wd (.cells #[.int .i64 b.agency, .slice pvs b.seats.length cvs, .slice pvo b.off.length cvo, .int .i64 b.sent, .slice pvt b.took.length cvt, .int .i64 b.cash] 56)
 have hD1 := (hD0.step hsA).desk (b2 := w.heap.size + 3) hbase2 hbase hbD
 have hT1 := hTd.trans hsA
 obtain ⟨⟨gs, cs, hvs⟩, hforms⟩ := hD1.forms HO.out HZ.out hz0
 injection hvs with hvs1 hvs2 hvs3
 subst hvs1 hvs3
 clear hvs2
 have HFIN := Lib.hid (show refundD h b i j = .ok (withCash (putSeat b i j 0) (cashL h (putSeat b i j 0).seats)) by
  rw [refundD_yes HF.out, refundP_cash HO.out HC0.out.2 his (by rw [HRL.out _ HO.out]; exact hjz) (by rw [← HY0.out]; exact hy)])
 clear HF hyd a1 a2
 obtain ⟨hxi, gi, ci, hxv⟩ := hforms i hi
 obtain ⟨mA, mj, zj, _, hgil⟩ := hD1.seat_c his hxi hxv (j := j) (by rw [HRL.out _ HO.out]; exact hjz)
 obtain ⟨_, mB, _, _, _, _⟩ := cells6 hD1.bx
 go_upto_region 7 with (fail)
 have hset := hD1.setSeat (j := j) his hxi (by rw [HRL.out _ HO.out]; exact hxv) (0)
 have hT2 : Step W3 ((wd.alloc (.cells #[.int .i64 b.agency, .slice (some ⟨gs, 0, none⟩) b.seats.length cvs, .slice pvo b.off.length cvo, .int .i64 b.sent, .slice pvt b.took.length cvt, .int .i64 b.cash] 56)).setCell ⟨gi, j, none⟩ (.int .i64 (0))) := hT1.setNew ⟨gi, j, none⟩ _ (by have := hset.2; have := HZ3.out; show W3.heap.size ≤ gi; omega)
 have hD2 := hset.1
 clear hset hD1 hT1 hsA hbD hTd hD0 hSd mA mj zj mB hgil hbase hbase2 HT
 generalize (wd.alloc (.cells #[.int .i64 b.agency, .slice (some ⟨gs, 0, none⟩) b.seats.length cvs, .slice pvo b.off.length cvo, .int .i64 b.sent, .slice pvt b.took.length cvt, .int .i64 b.cash] 56)).setCell ⟨gi, j, none⟩ (.int .i64 (0)) = w2 at *
 generalize wd.heap.size = gb at *
 have HT := Lib.hid hT2
 have HD2 := Lib.hid hD2
 have HOQ := Lib.hid ((like_put b i j (0)).ok HO.out (by have := HO.out.2.2.2.2.2.2.1; omega))
 clear hT2 hD2
 (try clear e0 e1 e2 e3 e4 f0 f1 f2 f3 f4 f5)
 obtain ⟨e0, e1, e2, e3, e4⟩ := cells5 (HB1.out.step HT.out)
 obtain ⟨f0, f1, f2, f3, f4, f5⟩ := cells6 (HB2.out.step HT.out)
 obtain ⟨g0, g1, g2, g3, g4, g5⟩ := cells6 HD2.out.bx
 go_wp2_with fail
 refine (Cash_any (fun _ => False) h (putSeat b i j (0)) _ _ _ ⟨_, rfl, Rep.weak (fun _ _ h => h.elim) (Rep.keep (.of_step HT.out) HR.out)⟩ ⟨_, rfl, HD2.out.book (fun _ _ h => h)⟩ HOK.out (by have := HOQ.out.2.2.1; omega) HOQ.out.2.2.2.1).mono ?_
 rintro e wz ⟨rfl, hSz⟩
 obtain ⟨cc, hcc⟩ : ∃ c, c = cashL h (putSeat b i j (0)).seats := ⟨_, rfl⟩
 rw [← hcc]
 have HCCX := Lib.hid hcc
 clear hcc e0 e1 e2 e3 e4 f0 f1 f2 f3 f4 f5 g0 g1 g2 g3 g4 g5
 have hDz := HD2.out.step hSz
 obtain ⟨_, _, _, _, _, g5⟩ := cells6 hDz.bx
 have z5 := hDz.bx.frozen 5
 have hD8 := hDz.setCash cc
 have hT8 : Step W3 (wz.setCell ⟨gb, 5, none⟩ (.int .i64 cc)) := (HT.out.trans hSz).setNew ⟨gb, 5, none⟩ _ (by have := hDz.gb; have := HZ3.out; show W3.heap.size ≤ gb; omega)
 have H8 := Lib.hid (And.intro hD8 hT8)
 go_upto_region 8 with (fail)
 clear hDz g5 z5 hD8 hT8 hSz
 generalize wz.setCell ⟨gb, 5, none⟩ (.int .i64 cc) = w8 at *
 obtain ⟨y0', y1', y2', y3', y4', y5'⟩ := cells6 H8.out.1.bx
 have HT := Lib.hid H8.out.2
 obtain ⟨g0, g1, g2, g3, g4, g5⟩ := cells6 (HB3.out.step HT.out)
 have t0 := (HB3.out.step HT.out).frozen 0
 have t1 := (HB3.out.step HT.out).frozen 1
 have t2 := (HB3.out.step HT.out).frozen 2
 have t3 := (HB3.out.step HT.out).frozen 3
 have t4 := (HB3.out.step HT.out).frozen 4
 have t5 := (HB3.out.step HT.out).frozen 5
 go_wp2
 have b6 := set6 (HB3.out.step HT.out) (.int .i64 b.agency) (.slice (some ⟨gs, 0, none⟩) b.seats.length cvs) (.slice pvo b.off.length cvo) (.int .i64 b.sent) (.slice pvt b.took.length cvt) (.int .i64 cc)
 refine ret_struct2 (k := 6) rfl siRefBook rfl b6.1 rfl rfl ?_
 unfold RActEnds
 rw [HFIN.out, ← HCCX.out]
 exact ⟨_, rfl, ⟨_, rfl, Rep.weak (S := fun j => j < w.heap.size + 3) (fun j _ hj => by unfold Old at hj; omega) (Rep.keep (b6.2.keeps.mono fun j _ hj => by omega) (H8.out.1.book (fun j h1 h2 => by omega)))⟩, StepX.fresh (HS.out.trans HT.out) b6.2 (fun j hj => by omega)⟩
set_option maxRecDepth 100000 in
set_option maxHeartbeats 8000000 in
theorem RSell_any (S : Nat → Prop) (h : House) (b : Book) (v u : Value) (s n y d : Int) (w : World) (hv : AV S w v h) (hu : AV S w u b) (hok : valid h = true) (hbk : bookB h b = true) :
  Calls Tryz.prog 97 #[v, u, .int .i64 s, .int .i64 n, .int .i64 y, .int .i64 d] w (fun e w' => RActEnds (sellD h b s n y d) e w w') := by
 obtain ⟨hO, hcash, hc0, hthin⟩ := okDesk_book hok hbk
 obtain ⟨cs, rfl, hr0⟩ := hv
 have hr := hr0
 obtain ⟨c0, c1, c2, c3, c4, rfl, h0, h1, h2, h3, h4⟩ := hr
 obtain ⟨p0, k0, rfl⟩ := h0.form
 obtain ⟨p1, k1, rfl⟩ := h1.form
 obtain ⟨p2, k2, rfl⟩ := h2.form
 obtain ⟨p3, k3, rfl⟩ := h3.form
 obtain ⟨p4, k4, rfl⟩ := h4.form
 obtain ⟨cs, rfl, hq0⟩ := hu
 have hq := hq0
 obtain ⟨d1, d2, d4, rfl, s1, s2, s4⟩ := hq
 obtain ⟨q1, m1, bs, os, rfl, _, _, hp1, hc1, _⟩ := s1.rows
 obtain ⟨q2, m2, rfl⟩ := s2.form
 obtain ⟨q4, m4, rfl⟩ := s4.form
 have hbv := bounds_valid hok
 obtain ⟨z, hz⟩ : ∃ z : Nat, sizeL h.sectors = z := ⟨(sizeL h.sectors).toNat, by omega⟩
 have hz100 : z ≤ 100 := by omega
 have hz0 : 0 < z := by have := size_pos hok; omega
 obtain ⟨W3, hW3⟩ : ∃ W3, W3 = ((w.alloc (.cells #[.slice p0 h.sectors.length k0, .slice p1 h.prices.length k1, .slice p2 h.dates.length k2, .slice p3 h.frm.length k3, .slice p4 h.holds.length k4] 26)).alloc (.cells #[.int .i64 b.agency, .slice q1 b.seats.length m1, .slice q2 b.off.length m2, .int .i64 b.sent, .slice q4 b.took.length m4, .int .i64 b.cash] 56)).alloc (.cells #[.int .i64 0, .slice none 0 0, .slice none 0 0, .int .i64 0, .slice none 0 0, .int .i64 0] 56) := ⟨_, rfl⟩
 have hbx : Bx W3 w.heap.size [.slice p0 h.sectors.length k0, .slice p1 h.prices.length k1, .slice p2 h.dates.length k2, .slice p3 h.frm.length k3, .slice p4 h.holds.length k4] 26 := by subst hW3; exact ((Bx.new _ _ _).alloc _).alloc _
 have hb2 : Bx W3 (w.heap.size + 1) [.int .i64 b.agency, .slice q1 b.seats.length m1, .slice q2 b.off.length m2, .int .i64 b.sent, .slice q4 b.took.length m4, .int .i64 b.cash] 56 := by subst hW3; exact (Bx.new' _ _ _ _ (by simp)).alloc _
 have hb3 : Bx W3 (w.heap.size + 2) [.int .i64 0, .slice none 0 0, .slice none 0 0, .int .i64 0, .slice none 0 0, .int .i64 0] 56 := by subst hW3; exact Bx.new' _ _ _ _ (by simp)
 have hS : Step w W3 := by subst hW3; exact (by repeat (first | (with_reducible assumption) | (with_reducible exact Step.refl _) | (with_reducible apply Step.s_alloc) | (with_reducible apply Step.s_drew) | (with_reducible apply Step.s_drewN) | (with_reducible refine Step.trans ?_ (by with_reducible assumption))))
 have hz3 : W3.heap.size = w.heap.size + 3 := by subst hW3; simp
 have HO := Lib.hid hO
 have HC0 := Lib.hid (And.intro hc0 hcash)
 have HTH := Lib.hid hthin
 have HB1 := Lib.hid hbx
 have HB2 := Lib.hid hb2
 have HB3 := Lib.hid hb3
 have HR := Lib.hid (Rep.keep (.of_step hS) hr0)
 have HQ := Lib.hid (Rep.keep (.of_step hS) hq0)
 have HSHOW := Lib.hid (And.intro h2 (And.intro h3 s2))
 have HS := Lib.hid hS
 have HZ3 := Lib.hid hz3
 have HZ := Lib.hid hz
 have HP1 := Lib.hid (And.intro hp1 hc1)
 have HOK := Lib.hid hok
 have HBK := Lib.hid hbk
 have HBV := Lib.hid hbv
 have hn1 : 1 ≤ h.dates.length ∧ h.dates.length ≤ 6 := by omega
 have HT := Lib.hid (Step.refl W3)
 have HW := Lib.hid hW3
 clear hr0 hq0 h0 h1 h2 h3 h4 s1 s2 s4 hbx hb2 hb3 hS hz3 hz hp1 hc1 hok hbk hbv hW3 hO hcash hc0 hthin
 go_enter Tryz.func97, Tryz.ntmps97
 go_wp2_with fail
 rw [show w.heap.size + 1 + 1 = w.heap.size + 2 from rfl, ← HW.out]
 refine (rseat_any S h _ s n _ ⟨_, rfl, HR.out⟩ HOK.out).mono ?_
 rintro e wn ⟨rfl, hSn⟩
 have HTi := Lib.hid (HT.out.trans hSn)
 clear hSn HT
 have HT := HTi
 clear HTi
 cases q1 : seatB h s n with
 | false =>
  have HF := Lib.hid ((seatB_no (b := b) q1).1 y d)
  clear q1
  (try clear e0 e1 e2 e3 e4 f0 f1 f2 f3 f4 f5)
  obtain ⟨e0, e1, e2, e3, e4⟩ := cells5 (HB1.out.step HT.out)
  obtain ⟨f0, f1, f2, f3, f4, f5⟩ := cells6 (HB2.out.step HT.out)
  obtain ⟨g0, g1, g2, g3, g4, g5⟩ := cells6 (HB3.out.step HT.out)
  have t0 := (HB3.out.step HT.out).frozen 0
  have t1 := (HB3.out.step HT.out).frozen 1
  have t2 := (HB3.out.step HT.out).frozen 2
  have t3 := (HB3.out.step HT.out).frozen 3
  have t4 := (HB3.out.step HT.out).frozen 4
  have t5 := (HB3.out.step HT.out).frozen 5
  go_wp2
  have b6 := set6 (HB3.out.step HT.out) (.int .i64 0) (.slice none 0 0) (.slice none 0 0) (.int .i64 0) (.slice none 0 0) (.int .i64 0)
  exact ret_struct2 (k := 6) rfl siRefBook rfl b6.1 rfl rfl (.no (sellD_no HF.out (by simp)) rfl (StepX.fresh (HS.out.trans HT.out) b6.2 (fun j hj => by omega)))
 | true =>
 have Q1 := Lib.hid (seatB_yes q1)
 clear q1
 go_wp2_with fail
 refine (bigtopref08.In_any _ _ _ _).mono ?_
 rintro e w' ⟨rfl, rfl⟩
 cases q3 : withinB y 1 1000000 with
 | false =>
  have HF := Lib.hid (show sellE h b s n y d = 2 by simp [sellE, Q1.out.1, Q1.out.2, q3])
  clear q3
  (try clear e0 e1 e2 e3 e4 f0 f1 f2 f3 f4 f5)
  obtain ⟨e0, e1, e2, e3, e4⟩ := cells5 (HB1.out.step HT.out)
  obtain ⟨f0, f1, f2, f3, f4, f5⟩ := cells6 (HB2.out.step HT.out)
  obtain ⟨g0, g1, g2, g3, g4, g5⟩ := cells6 (HB3.out.step HT.out)
  have t0 := (HB3.out.step HT.out).frozen 0
  have t1 := (HB3.out.step HT.out).frozen 1
  have t2 := (HB3.out.step HT.out).frozen 2
  have t3 := (HB3.out.step HT.out).frozen 3
  have t4 := (HB3.out.step HT.out).frozen 4
  have t5 := (HB3.out.step HT.out).frozen 5
  go_wp2
  have b6 := set6 (HB3.out.step HT.out) (.int .i64 0) (.slice none 0 0) (.slice none 0 0) (.int .i64 0) (.slice none 0 0) (.int .i64 0)
  exact ret_struct2 (k := 6) rfl siRefBook rfl b6.1 rfl rfl (.no (sellD_no HF.out (by simp)) rfl (StepX.fresh (HS.out.trans HT.out) b6.2 (fun j hj => by omega)))
 | true =>
 have Q3 := Lib.hid q3
 have hy1 : 0 < y := by simp [withinB] at q3; omega
 clear q3
 obtain ⟨i, rfl, hi0, hi1⟩ := within_nat Q1.out.1 (by omega)
 obtain ⟨j, rfl, hj0, hj1⟩ := within_nat Q1.out.2 (by omega)
 have hi : i < h.dates.length := by omega
 have his : i < b.seats.length := by have := HO.out.2.2.1; omega
 have hjz : j < z := by have := HZ.out; omega
 have hrl : ∀ b', OkDesk h b' → ∀ s (hs : s < b'.seats.length), b'.seats[s].length = z := fun b' hb s hs => by have := hb.2.2.2.1 s hs; have := HZ.out; omega
 have HRL := Lib.hid hrl
 obtain rfl := HP1.out.1 (by omega)
 obtain ⟨ur, hr1, hr2⟩ := HP1.out.2 i his
 obtain ⟨pr, cr, br, orr, rfl, _, _, hpr, hcr, _⟩ := hr2.ints
 obtain rfl := hpr (by rw [hrl _ HO.out]; exact hz0)
 have hcr2 : w.cell? ⟨br, orr + j, none⟩ = some (.int .i64 (seatAt b i j)) := by
  rw [hcr j (by rw [hrl _ HO.out]; exact hjz)]
  simp [seatAt, List.getD_eq_getElem?_getD, his, show j < b.seats[i].length by rw [hrl _ HO.out]; exact hjz]
 rw [hrl _ HO.out] at hr1
 have HROW := Lib.hid (And.intro hr1 hcr2)
 have hlow : -1 ≤ seatAt b i j := by
  have h1 := seat_low HBK.out his (show j < b.seats[i].length by rw [hrl _ HO.out]; exact hjz)
  simpa [seatAt, List.getD_eq_getElem?_getD, his, show j < b.seats[i].length by rw [hrl _ HO.out]; exact hjz] using h1
 have hx2 : (0 : Int) ≤ (i : Int) ∧ (i : Int) < (b.seats.length : Int) := by omega
 have hx3 : (0 : Int) ≤ (j : Int) ∧ (j : Int) < (z : Int) := by omega
 obtain ⟨y0, hy0⟩ : ∃ y, y = seatAt b i j := ⟨_, rfl⟩
 rw [← hy0] at hlow
 have HY0 := Lib.hid hy0
 clear hi0 hi1 hj0 hj1 hr1 hr2 hpr hcr hcr2 hrl hy0
 obtain ⟨bo, oo, ko, bf, of, kf, bg, og, kg, bd, od, kd, ag, ee1, ee2, ee3, hag, m0, m1', m2', m3, hio, hif, hagl⟩ := show_av HSHOW.out.1 HSHOW.out.2.1 HSHOW.out.2.2 HO.out hi
 injection ee1 with ee1a ee1b ee1c
 injection ee2 with ee2a ee2b ee2c
 injection ee3 with ee3a ee3b ee3c
 subst ee1a ee1c ee2a ee2c ee3a ee3c
 have HM := Lib.hid (And.intro m0 (And.intro m1' (And.intro m2' m3)))
 have HAG := Lib.hid hag
 have hx1 : (0 : Int) ≤ (i : Int) ∧ (i : Int) < (b.off.length : Int) := by omega
 have hx4 : (0 : Int) ≤ (i : Int) ∧ (i : Int) < (h.frm.length : Int) := by omega
 have hx5 : (0 : Int) ≤ (ag : Int) ∧ (ag : Int) < (agN h : Int) := by omega
 have hx6 : (0 : Int) ≤ (i : Int) ∧ (i : Int) < (h.dates.length : Int) := by omega
 clear ee1b ee2b ee3b m0 m1' m2' m3 hag
 have hwq := HT.out
 (try clear e0 e1 e2 e3 e4 f0 f1 f2 f3 f4 f5)
 obtain ⟨e0, e1, e2, e3, e4⟩ := cells5 (HB1.out.step HT.out)
 obtain ⟨f0, f1, f2, f3, f4, f5⟩ := cells6 (HB2.out.step HT.out)
 go_upto_region 3 with (fail)
 refine wp_region_seq (kdOf [] []) [0, 1, 0, 7, 15, 31, 63, 63, 191, 63, 959, 1983, 63, 4159, 16319, 32703, 65535, 131071, 262143] [0, 1, 2, 3, 4, 5, 6, 7, 8, 9, 10, 11, 12, 13, 14, 15, 16, 17, 18] [] (by kernel_rfl) (by kernel_rfl) (fun i T z hi hk => by simp [kdOf] at hk <;> (try (split at hk <;> cases hk))) ?_
 intro Wx hWx
 have HTx := Lib.hid (hwq.trans hWx)
 clear hWx hwq HT
 have HT := HTx
 clear HTx
 (try clear e0 e1 e2 e3 e4 f0 f1 f2 f3 f4 f5)
 obtain ⟨e0, e1, e2, e3, e4⟩ := cells5 (HB1.out.step HT.out)
 obtain ⟨f0, f1, f2, f3, f4, f5⟩ := cells6 (HB2.out.step HT.out)
 rw [HAG.out] at f0
 have m0 := (HS.out.trans HT.out).kc HM.out.1
 have m1' := (HS.out.trans HT.out).kc HM.out.2.1
 have m2' := (HS.out.trans HT.out).kc HM.out.2.2.1
 cases q4 : offAt b i with
 | true =>
  rw [q4] at m0
  have HF := Lib.hid (show sellE h b i j y d = 8 by simp [sellE, Q1.out.1, Q1.out.2, Q3.out, q4])
  clear q4
  repeat (first | (refine run_off rfl rfl (by rfl) ?_; (try simp only [Act.put, zA, zB, zC])) | (refine run_chain_off rfl rfl (by rfl) (K0_mono _) ?_; (try simp only [Act.put, zA, zB, zC])) | ((refine run_want rfl rfl (by rfl) ⟨?_, fun W hW => ?_, ?_⟩; rotate_left; (· (have d0 := hW.kc f2; have d1 := hW.kc m0; go_simp; (try with_reducible rfl)))); (try simp only [Act.put, zA, zB, zC])))
  refine run_end (L := []) rfl (fun W6 hW6 => ?_)
  have HT6 := Lib.hid (HT.out.trans hW6)
  clear hW6 HT
  have HT := HT6
  clear HT6
  (try clear e0 e1 e2 e3 e4 f0 f1 f2 f3 f4 f5)
  obtain ⟨e0, e1, e2, e3, e4⟩ := cells5 (HB1.out.step HT.out)
  obtain ⟨f0, f1, f2, f3, f4, f5⟩ := cells6 (HB2.out.step HT.out)
  obtain ⟨g0, g1, g2, g3, g4, g5⟩ := cells6 (HB3.out.step HT.out)
  have t0 := (HB3.out.step HT.out).frozen 0
  have t1 := (HB3.out.step HT.out).frozen 1
  have t2 := (HB3.out.step HT.out).frozen 2
  have t3 := (HB3.out.step HT.out).frozen 3
  have t4 := (HB3.out.step HT.out).frozen 4
  have t5 := (HB3.out.step HT.out).frozen 5
  go_wp2
  have b6 := set6 (HB3.out.step HT.out) (.int .i64 0) (.slice none 0 0) (.slice none 0 0) (.int .i64 0) (.slice none 0 0) (.int .i64 0)
  exact ret_struct2 (k := 6) rfl siRefBook rfl b6.1 rfl rfl (.no (sellD_no HF.out (by simp)) rfl (StepX.fresh (HS.out.trans HT.out) b6.2 (fun j hj => by omega)))
 | false =>
 rw [q4] at m0
 obtain ⟨fr, hfr⟩ : ∃ x, x = fromAt h i b.agency := ⟨_, rfl⟩
 rw [← hfr] at m2'
 by_cases q5 : d < fr
 ·have HF := Lib.hid (show sellE h b i j y d = 8 by rw [sellE_1 Q1.out.1 Q1.out.2 Q3.out q4, ← hfr, if_pos q5])
  have hd : decide (d < fr) = true := by simpa using q5
  clear hfr q4
  repeat (first | (refine run_off rfl rfl (by rfl) ?_; (try simp only [Act.put, zA, zB, zC])) | (refine run_chain_off rfl rfl (by rfl) (K0_mono _) ?_; (try simp only [Act.put, zA, zB, zC])) | ((refine run_want rfl rfl (by rfl) ⟨?_, fun W hW => ?_, ?_⟩; rotate_left; (· (have d0 := hW.kc f2; have d1 := hW.kc m0; have d2 := hW.kc e3; have d3 := hW.kc m1'; have d4 := hW.kc f0; have d5 := hW.kc m2'; go_simp; (try with_reducible rfl)))); (try simp only [Act.put, zA, zB, zC])))
  refine run_end (L := []) rfl (fun W6 hW6 => ?_)
  have HT6 := Lib.hid (HT.out.trans hW6)
  clear hW6 HT
  have HT := HT6
  clear HT6
  (try clear e0 e1 e2 e3 e4 f0 f1 f2 f3 f4 f5)
  obtain ⟨e0, e1, e2, e3, e4⟩ := cells5 (HB1.out.step HT.out)
  obtain ⟨f0, f1, f2, f3, f4, f5⟩ := cells6 (HB2.out.step HT.out)
  obtain ⟨g0, g1, g2, g3, g4, g5⟩ := cells6 (HB3.out.step HT.out)
  have t0 := (HB3.out.step HT.out).frozen 0
  have t1 := (HB3.out.step HT.out).frozen 1
  have t2 := (HB3.out.step HT.out).frozen 2
  have t3 := (HB3.out.step HT.out).frozen 3
  have t4 := (HB3.out.step HT.out).frozen 4
  have t5 := (HB3.out.step HT.out).frozen 5
  go_wp2
  have b6 := set6 (HB3.out.step HT.out) (.int .i64 0) (.slice none 0 0) (.slice none 0 0) (.int .i64 0) (.slice none 0 0) (.int .i64 0)
  exact ret_struct2 (k := 6) rfl siRefBook rfl b6.1 rfl rfl (.no (sellD_no HF.out (by simp)) rfl (StepX.fresh (HS.out.trans HT.out) b6.2 (fun j hj => by omega)))
 have HE := Lib.hid (show sellE h b i j y d = if dateAt h i < d then 11 else if seatAt b i j = -1 then 7 else if 0 < seatAt b i j then 6 else 0 by rw [sellE_1 Q1.out.1 Q1.out.2 Q3.out q4, ← hfr, if_neg q5])
 have hd : decide (d < fr) = false := by simpa using q5
 clear hfr q4
 repeat (first | (refine run_off rfl rfl (by rfl) ?_; (try simp only [Act.put, zA, zB, zC])) | (refine run_chain_off rfl rfl (by rfl) (K0_mono _) ?_; (try simp only [Act.put, zA, zB, zC])) | ((refine run_want rfl rfl (by rfl) ⟨?_, fun W hW => ?_, ?_⟩; rotate_left; (· (have d0 := hW.kc f2; have d1 := hW.kc m0; have d2 := hW.kc e3; have d3 := hW.kc m1'; have d4 := hW.kc f0; have d5 := hW.kc m2'; go_simp; (try with_reducible rfl)))); (try simp only [Act.put, zA, zB, zC])))
 refine run_end (L := []) rfl (fun W6 hW6 => ?_)
 have HT6 := Lib.hid (HT.out.trans hW6)
 clear hW6 HT
 have HT := HT6
 clear HT6
 clear hd q5 m0 m1' m2' e0 e1 e2 e3 e4 f0 f1 f2 f3 f4 f5
 have m3 := (HS.out.trans HT.out).kc HM.out.2.2.2
 obtain ⟨dt, hdt⟩ : ∃ x, x = dateAt h i := ⟨_, rfl⟩
 rw [← hdt] at m3
 by_cases q6 : dt < d
 ·have HF := Lib.hid (show sellE h b i j y d = 11 by rw [HE.out, ← hdt, if_pos q6])
  clear hdt
  (try clear e0 e1 e2 e3 e4 f0 f1 f2 f3 f4 f5)
  obtain ⟨e0, e1, e2, e3, e4⟩ := cells5 (HB1.out.step HT.out)
  obtain ⟨f0, f1, f2, f3, f4, f5⟩ := cells6 (HB2.out.step HT.out)
  obtain ⟨g0, g1, g2, g3, g4, g5⟩ := cells6 (HB3.out.step HT.out)
  have t0 := (HB3.out.step HT.out).frozen 0
  have t1 := (HB3.out.step HT.out).frozen 1
  have t2 := (HB3.out.step HT.out).frozen 2
  have t3 := (HB3.out.step HT.out).frozen 3
  have t4 := (HB3.out.step HT.out).frozen 4
  have t5 := (HB3.out.step HT.out).frozen 5
  go_wp2
  have b6 := set6 (HB3.out.step HT.out) (.int .i64 0) (.slice none 0 0) (.slice none 0 0) (.int .i64 0) (.slice none 0 0) (.int .i64 0)
  exact ret_struct2 (k := 6) rfl siRefBook rfl b6.1 rfl rfl (.no (sellD_no HF.out (by simp)) rfl (StepX.fresh (HS.out.trans HT.out) b6.2 (fun j hj => by omega)))
 have HE2 := Lib.hid (show sellE h b i j y d = if seatAt b i j = -1 then 7 else if 0 < seatAt b i j then 6 else 0 by rw [HE.out, ← hdt, if_neg q6])
 clear hdt
 have a1 := (HS.out.trans HT.out).kc HROW.out.1
 have a2 := (HS.out.trans HT.out).kc HROW.out.2
 rw [← HY0.out] at a2
 by_cases q7 : y0 < 0
 ·have HF := Lib.hid (show sellE h b i j y d = 7 by rw [HE2.out, ← HY0.out, if_pos (by omega)])
  (try clear e0 e1 e2 e3 e4 f0 f1 f2 f3 f4 f5)
  obtain ⟨e0, e1, e2, e3, e4⟩ := cells5 (HB1.out.step HT.out)
  obtain ⟨f0, f1, f2, f3, f4, f5⟩ := cells6 (HB2.out.step HT.out)
  obtain ⟨g0, g1, g2, g3, g4, g5⟩ := cells6 (HB3.out.step HT.out)
  have t0 := (HB3.out.step HT.out).frozen 0
  have t1 := (HB3.out.step HT.out).frozen 1
  have t2 := (HB3.out.step HT.out).frozen 2
  have t3 := (HB3.out.step HT.out).frozen 3
  have t4 := (HB3.out.step HT.out).frozen 4
  have t5 := (HB3.out.step HT.out).frozen 5
  go_wp2
  have b6 := set6 (HB3.out.step HT.out) (.int .i64 0) (.slice none 0 0) (.slice none 0 0) (.int .i64 0) (.slice none 0 0) (.int .i64 0)
  exact ret_struct2 (k := 6) rfl siRefBook rfl b6.1 rfl rfl (.no (sellD_no HF.out (by simp)) rfl (StepX.fresh (HS.out.trans HT.out) b6.2 (fun j hj => by omega)))
 by_cases q8 : 0 < y0
 ·have HF := Lib.hid (show sellE h b i j y d = 6 by rw [HE2.out, ← HY0.out, if_neg (by omega), if_pos q8])
  (try clear e0 e1 e2 e3 e4 f0 f1 f2 f3 f4 f5)
  obtain ⟨e0, e1, e2, e3, e4⟩ := cells5 (HB1.out.step HT.out)
  obtain ⟨f0, f1, f2, f3, f4, f5⟩ := cells6 (HB2.out.step HT.out)
  obtain ⟨g0, g1, g2, g3, g4, g5⟩ := cells6 (HB3.out.step HT.out)
  have t0 := (HB3.out.step HT.out).frozen 0
  have t1 := (HB3.out.step HT.out).frozen 1
  have t2 := (HB3.out.step HT.out).frozen 2
  have t3 := (HB3.out.step HT.out).frozen 3
  have t4 := (HB3.out.step HT.out).frozen 4
  have t5 := (HB3.out.step HT.out).frozen 5
  go_wp2
  have b6 := set6 (HB3.out.step HT.out) (.int .i64 0) (.slice none 0 0) (.slice none 0 0) (.int .i64 0) (.slice none 0 0) (.int .i64 0)
  exact ret_struct2 (k := 6) rfl siRefBook rfl b6.1 rfl rfl (.no (sellD_no HF.out (by simp)) rfl (StepX.fresh (HS.out.trans HT.out) b6.2 (fun j hj => by omega)))
 have HF := Lib.hid (show sellE h b i j y d = 0 by rw [HE2.out, ← HY0.out, if_neg (by omega), if_neg q8])
 obtain ⟨wn2, hwn2⟩ : ∃ W, W = W6 := ⟨_, rfl⟩
 subst hwn2
 (try clear e0 e1 e2 e3 e4 f0 f1 f2 f3 f4 f5)
 obtain ⟨e0, e1, e2, e3, e4⟩ := cells5 (HB1.out.step HT.out)
 obtain ⟨f0, f1, f2, f3, f4, f5⟩ := cells6 (HB2.out.step HT.out)
 go_wp2_with fail
 refine (Copy_any S b _ _ ⟨_, rfl, Rep.keep (.of_step HT.out) HQ.out⟩ HTH.out).mono ?_
 rintro e wd ⟨vs, vo, vt, xs, rfl, hD0, hSd⟩
 obtain ⟨⟨pvs, cvs, rfl⟩, ⟨pvo, cvo, rfl⟩, ⟨pvt, cvt, rfl⟩⟩ := hD0.form
 have hTd := HT.out.trans hSd
 have hbase : w.heap.size + 3 ≤ wd.heap.size := by have := hTd.size; have := HZ3.out; omega
 have hbase2 : w.heap.size + 3 ≤ wn2.heap.size := by have := HT.out.size; have := HZ3.out; omega
 (try clear e0 e1 e2 e3 e4 f0 f1 f2 f3 f4 f5)
 have hbD := Bx.new wd [.int .i64 b.agency, .slice pvs b.seats.length cvs, .slice pvo b.off.length cvo, .int .i64 b.sent, .slice pvt b.took.length cvt, .int .i64 b.cash] 56
 have hsA := Step.alloc wd (.cells #[.int .i64 b.agency, .slice pvs b.seats.length cvs, .slice pvo b.off.length cvo, .int .i64 b.sent, .slice pvt b.took.length cvt, .int .i64 b.cash] 56)
 have hD1 := (hD0.step hsA).desk (b2 := w.heap.size + 3) hbase2 hbase hbD
 have hT1 := hTd.trans hsA
 obtain ⟨⟨gs, cs, hvs⟩, hforms⟩ := hD1.forms HO.out HZ.out hz0
 injection hvs with hvs1 hvs2 hvs3
 subst hvs1 hvs3
 clear hvs2
 have HFIN := Lib.hid (show sellD h b i j y d = .ok (withCash (putSeat b i j y) (cashL h (putSeat b i j y).seats)) by
  rw [sellD_yes HF.out, sellP_cash HO.out HC0.out.2 his (by rw [HRL.out _ HO.out]; exact hjz) hy1 (by rw [← HY0.out]; omega)])
 clear HF HE HE2 a1 a2 m3
 obtain ⟨hxi, gi, ci, hxv⟩ := hforms i hi
 obtain ⟨mA, mj, zj, _, hgil⟩ := hD1.seat_c his hxi hxv (j := j) (by rw [HRL.out _ HO.out]; exact hjz)
 obtain ⟨_, mB, _, _, _, _⟩ := cells6 hD1.bx
 go_upto_region 13 with (fail)
 have hset := hD1.setSeat (j := j) his hxi (by rw [HRL.out _ HO.out]; exact hxv) (y)
 have hT2 : Step W3 ((wd.alloc (.cells #[.int .i64 b.agency, .slice (some ⟨gs, 0, none⟩) b.seats.length cvs, .slice pvo b.off.length cvo, .int .i64 b.sent, .slice pvt b.took.length cvt, .int .i64 b.cash] 56)).setCell ⟨gi, j, none⟩ (.int .i64 (y))) := hT1.setNew ⟨gi, j, none⟩ _ (by have := hset.2; have := HZ3.out; show W3.heap.size ≤ gi; omega)
 have hD2 := hset.1
 clear hset hD1 hT1 hsA hbD hTd hD0 hSd mA mj zj mB hgil hbase hbase2 HT
 generalize (wd.alloc (.cells #[.int .i64 b.agency, .slice (some ⟨gs, 0, none⟩) b.seats.length cvs, .slice pvo b.off.length cvo, .int .i64 b.sent, .slice pvt b.took.length cvt, .int .i64 b.cash] 56)).setCell ⟨gi, j, none⟩ (.int .i64 (y)) = w2 at *
 generalize wd.heap.size = gb at *
 have HT := Lib.hid hT2
 have HD2 := Lib.hid hD2
 have HOQ := Lib.hid ((like_put b i j (y)).ok HO.out (by have := HO.out.2.2.2.2.2.2.1; omega))
 clear hT2 hD2
 (try clear e0 e1 e2 e3 e4 f0 f1 f2 f3 f4 f5)
 obtain ⟨e0, e1, e2, e3, e4⟩ := cells5 (HB1.out.step HT.out)
 obtain ⟨f0, f1, f2, f3, f4, f5⟩ := cells6 (HB2.out.step HT.out)
 obtain ⟨g0, g1, g2, g3, g4, g5⟩ := cells6 HD2.out.bx
 go_wp2_with fail
 refine (Cash_any (fun _ => False) h (putSeat b i j (y)) _ _ _ ⟨_, rfl, Rep.weak (fun _ _ h => h.elim) (Rep.keep (.of_step HT.out) HR.out)⟩ ⟨_, rfl, HD2.out.book (fun _ _ h => h)⟩ HOK.out (by have := HOQ.out.2.2.1; omega) HOQ.out.2.2.2.1).mono ?_
 rintro e wz ⟨rfl, hSz⟩
 obtain ⟨cc, hcc⟩ : ∃ c, c = cashL h (putSeat b i j (y)).seats := ⟨_, rfl⟩
 rw [← hcc]
 have HCCX := Lib.hid hcc
 clear hcc e0 e1 e2 e3 e4 f0 f1 f2 f3 f4 f5 g0 g1 g2 g3 g4 g5
 have hDz := HD2.out.step hSz
 obtain ⟨_, _, _, _, _, g5⟩ := cells6 hDz.bx
 have z5 := hDz.bx.frozen 5
 have hD8 := hDz.setCash cc
 have hT8 : Step W3 (wz.setCell ⟨gb, 5, none⟩ (.int .i64 cc)) := (HT.out.trans hSz).setNew ⟨gb, 5, none⟩ _ (by have := hDz.gb; have := HZ3.out; show W3.heap.size ≤ gb; omega)
 have H8 := Lib.hid (And.intro hD8 hT8)
 go_upto_region 14 with (fail)
 clear hDz g5 z5 hD8 hT8 hSz
 generalize wz.setCell ⟨gb, 5, none⟩ (.int .i64 cc) = w8 at *
 obtain ⟨y0', y1', y2', y3', y4', y5'⟩ := cells6 H8.out.1.bx
 have HT := Lib.hid H8.out.2
 obtain ⟨g0, g1, g2, g3, g4, g5⟩ := cells6 (HB3.out.step HT.out)
 have t0 := (HB3.out.step HT.out).frozen 0
 have t1 := (HB3.out.step HT.out).frozen 1
 have t2 := (HB3.out.step HT.out).frozen 2
 have t3 := (HB3.out.step HT.out).frozen 3
 have t4 := (HB3.out.step HT.out).frozen 4
 have t5 := (HB3.out.step HT.out).frozen 5
 go_wp2
 have b6 := set6 (HB3.out.step HT.out) (.int .i64 b.agency) (.slice (some ⟨gs, 0, none⟩) b.seats.length cvs) (.slice pvo b.off.length cvo) (.int .i64 b.sent) (.slice pvt b.took.length cvt) (.int .i64 cc)
 refine ret_struct2 (k := 6) rfl siRefBook rfl b6.1 rfl rfl ?_
 unfold RActEnds
 rw [HFIN.out, ← HCCX.out]
 exact ⟨_, rfl, ⟨_, rfl, Rep.weak (S := fun j => j < w.heap.size + 3) (fun j _ hj => by unfold Old at hj; omega) (Rep.keep (b6.2.keeps.mono fun j _ hj => by omega) (H8.out.1.book (fun j h1 h2 => by omega)))⟩, StepX.fresh (HS.out.trans HT.out) b6.2 (fun j hj => by omega)⟩
def messB (a b : BT.Message) : Bool := decide (a = b)
theorem mess_ne {f1 f2 d1 d2 n1 n2 s1 s2 : Int} {l1 l2 : List Int} (h : f1 ≠ f2 ∨ d1 ≠ d2 ∨ n1 ≠ n2 ∨ s1 ≠ s2) : messB ⟨f1, d1, n1, s1, l1⟩ ⟨f2, d2, n2, s2, l2⟩ = false := by
 simp only [messB, decide_eq_false_iff_not, BT.Message.mk.injEq]
 rintro ⟨rfl, rfl, rfl, rfl, _⟩
 simp at h
theorem mess_eq {f1 d1 n1 s1 : Int} {l1 l2 : List Int} : messB ⟨f1, d1, n1, s1, l1⟩ ⟨f1, d1, n1, s1, l2⟩ = intsB l1 l2 := by
 simp [messB, intsB]
set_option maxHeartbeats 2000000 in
theorem message_core (S : Nat → Prop) (f1 f2 d1 d2 n1 n2 s1 s2 : Int) (l1 l2 : List Int) (v1 v2 : Value) (w : World) (hv : SL S w v1 l1) (hu : SL S w v2 l2) :
  Calls Tryz.prog 42 #[.agg #[.int .i64 f1, .int .i64 d1, .int .i64 n1, .int .i64 s1, v1], .agg #[.int .i64 f2, .int .i64 d2, .int .i64 n2, .int .i64 s2, v2]] w fun e w' => e = .returned (.bool (messB ⟨f1, d1, n1, s1, l1⟩ ⟨f2, d2, n2, s2, l2⟩)) ∧ Step w w' := by
 obtain ⟨p1, k1, rfl⟩ := hv.form
 obtain ⟨p2, k2, rfl⟩ := hu.form
 obtain ⟨W0, hW0⟩ : ∃ W0, W0 = (w.alloc (.cells #[.int .i64 f1, .int .i64 d1, .int .i64 n1, .int .i64 s1, .slice p1 l1.length k1] 86)).alloc (.cells #[.int .i64 f2, .int .i64 d2, .int .i64 n2, .int .i64 s2, .slice p2 l2.length k2] 58) := ⟨_, rfl⟩
 have hS : Step w W0 := by subst hW0; exact (by repeat (first | (with_reducible assumption) | (with_reducible exact Step.refl _) | (with_reducible apply Step.s_alloc) | (with_reducible apply Step.s_drew) | (with_reducible apply Step.s_drewN) | (with_reducible refine Step.trans ?_ (by with_reducible assumption))))
 have hcall := Lib.hid (ints_any S l1 l2 _ _ W0 (hv.keep (.of_step hS)) (hu.keep (.of_step hS)))
 have HS := Lib.hid hS
 clear hS hv hu
 by_cases q0 : f1 = f2
 rotate_left
 ·have HF := Lib.hid (mess_ne (f1 := f1) (f2 := f2) (d1 := d1) (d2 := d2) (n1 := n1) (n2 := n2) (s1 := s1) (s2 := s2) (l1 := l1) (l2 := l2) (.inl q0))
  clear hcall
  have HW := Lib.hid hW0
  clear hW0
  go_enter Tryz.func42, Tryz.ntmps42
  go_wp2
  go_ret
  exact ⟨by rw [HF.out]; rfl, by rw [HW.out] at HS; exact HS.out⟩
 subst q0
 by_cases q1 : d1 = d2
 rotate_left
 ·have HF := Lib.hid (mess_ne (f1 := f1) (f2 := f1) (d1 := d1) (d2 := d2) (n1 := n1) (n2 := n2) (s1 := s1) (s2 := s2) (l1 := l1) (l2 := l2) (.inr (.inl q1)))
  clear hcall
  have HW := Lib.hid hW0
  clear hW0
  go_enter Tryz.func42, Tryz.ntmps42
  go_wp2
  go_ret
  exact ⟨by rw [HF.out]; rfl, by rw [HW.out] at HS; exact HS.out⟩
 subst q1
 by_cases q2 : n1 = n2
 rotate_left
 ·have HF := Lib.hid (mess_ne (f1 := f1) (f2 := f1) (d1 := d1) (d2 := d1) (n1 := n1) (n2 := n2) (s1 := s1) (s2 := s2) (l1 := l1) (l2 := l2) (.inr (.inr (.inl q2))))
  clear hcall
  have HW := Lib.hid hW0
  clear hW0
  go_enter Tryz.func42, Tryz.ntmps42
  go_wp2
  go_ret
  exact ⟨by rw [HF.out]; rfl, by rw [HW.out] at HS; exact HS.out⟩
 subst q2
 by_cases q3 : s1 = s2
 rotate_left
 ·have HF := Lib.hid (mess_ne (f1 := f1) (f2 := f1) (d1 := d1) (d2 := d1) (n1 := n1) (n2 := n1) (s1 := s1) (s2 := s2) (l1 := l1) (l2 := l2) (.inr (.inr (.inr q3))))
  clear hcall
  have HW := Lib.hid hW0
  clear hW0
  go_enter Tryz.func42, Tryz.ntmps42
  go_wp2
  go_ret
  exact ⟨by rw [HF.out]; rfl, by rw [HW.out] at HS; exact HS.out⟩
 subst q3
 have HF := Lib.hid (mess_eq (f1 := f1) (d1 := d1) (n1 := n1) (s1 := s1) (l1 := l1) (l2 := l2))
 subst hW0
 go_enter Tryz.func42, Tryz.ntmps42
 go_wp2_with fail
 refine hcall.out.mono ?_
 rintro e wn ⟨rfl, hSn⟩
 go_wp2
 go_ret
 exact ⟨by rw [HF.out]; rfl, HS.out.trans hSn⟩
theorem message_any (S : Nat → Prop) (a b : BT.Message) (va vb : Value) (w : World) (ha : AV S w va a) (hb : AV S w vb b) :
  Calls Tryz.prog 42 #[va, vb] w fun e w' => e = .returned (.bool (messB a b)) ∧ Step w w' := by
 obtain ⟨c, rfl, h1⟩ := ha.message
 obtain ⟨d, rfl, h2⟩ := hb.message
 exact message_core S _ _ _ _ _ _ _ _ _ _ _ _ _ h1 h2
set_option maxRecDepth 100000 in
set_option maxHeartbeats 4000000 in
theorem worlds_same (S1 S2 : Nat → Prop) (W : Wd) (va vb : Value) (w : World) (ha : AV S1 w va W) (hb : AV S2 w vb W) (hth : ∀ i (hi : i < W.books.length), thinP W.books[i]) :
  Calls Tryz.prog 15 #[va, vb] w fun e w' => e = .returned (.bool true) ∧ Step w w' := by
 obtain ⟨a0, a1, rfl, sa0, sa1⟩ := (ha.weak (T := fun _ => False) fun _ _ h => h.elim).wd
 obtain ⟨b0, b1, rfl, sb0, sb1⟩ := (hb.weak (T := fun _ => False) fun _ _ h => h.elim).wd
 obtain ⟨p0, k0, ba, oa, rfl, _, _, hp0, hc0, _⟩ := sa0.books
 obtain ⟨p1, k1, bm, om, rfl, _, _, hp1, hc1, _⟩ := sa1.mess
 obtain ⟨q0, l0, bb, ob, rfl, _, _, hq0, hd0, _⟩ := sb0.books
 obtain ⟨q1, l1, bn, on, rfl, _, _, hq1, hd1, _⟩ := sb1.mess
 obtain ⟨W0, hW0⟩ : ∃ z9, z9 = (w.alloc (.cells #[.slice p0 W.books.length k0, .slice p1 W.msgs.length k1] 34)).alloc (.cells #[.slice q0 W.books.length l0, .slice q1 W.msgs.length l1] 49) := ⟨_, rfl⟩
 have hS : Step w W0 := by subst hW0; exact (by repeat (first | (with_reducible assumption) | (with_reducible exact Step.refl _) | (with_reducible apply Step.s_alloc) | (with_reducible apply Step.s_drew) | (with_reducible apply Step.s_drewN) | (with_reducible refine Step.trans ?_ (by with_reducible assumption))))
 have hba : Bx W0 w.heap.size [.slice p0 W.books.length k0, .slice p1 W.msgs.length k1] 34 := by subst hW0; exact (Bx.new _ [_, _] _).alloc _
 have hbb : Bx W0 (w.heap.size + 1) [.slice q0 W.books.length l0, .slice q1 W.msgs.length l1] 49 := by subst hW0; exact Bx.new' _ [_, _] _ _ (by simp)
 have HA := Lib.hid hba
 have HB := Lib.hid hbb
 have HS := Lib.hid hS
 have H0 := Lib.hid (And.intro (And.intro hp0 hc0) (And.intro hq0 hd0))
 have H1 := Lib.hid (And.intro (And.intro hp1 hc1) (And.intro hq1 hd1))
 have HTH := Lib.hid hth
 have HEQ := Lib.hid hW0
 have HT0 := Lib.hid (Step.refl W0)
 clear ha hb sa0 sa1 sb0 sb1 hp0 hc0 hp1 hc1 hq0 hd0 hq1 hd1 hba hbb hS hth hW0
 have d1 : ((W.books.length : Int) != (W.books.length : Int)) = false := by simp
 have d2 : ((W.msgs.length : Int) != (W.msgs.length : Int)) = false := by simp
 go_enter Tryz.func15, Tryz.ntmps15
 go_upto_region 1 with (fail)
 rw [← HEQ.out]
 clear HEQ
 have u0 := HA.out.cell 0
 have u1 := HA.out.cell 1
 have v0 := HB.out.cell 0
 have v1 := HB.out.cell 1
 simp only [zD, zE] at u0 u1 v0 v1
 go_upto_region 4 with (fail)
 clear u0 u1 v0 v1 d1 d2
 go_loopw [5] (fun i wr => ∃ k : Nat, k ≤ W.books.length ∧ i = .int .i64 k ∧ Step W0 wr) (fun i _ => W.books.length - (intOf i).toNat)
 case atStart => exact ⟨0, Nat.zero_le _, rfl, HT0.out⟩
 case round =>
  obtain ⟨k, hk, rfl, hT⟩ := hrel
  have HT := Lib.hid hT
  clear hT
  have u0 := (HA.out.step HT.out).cell 0
  have v0 := (HB.out.step HT.out).cell 0
  have u1 := (HA.out.step HT.out).cell 1
  simp only [zD, zE] at u0 v0 u1
  by_cases hlt : k < W.books.length
  ·obtain rfl := H0.out.1.1 (by omega)
   obtain rfl := H0.out.2.1 (by omega)
   obtain ⟨x1, x2, x4, ⟨f0, f1, f2, f3, f4, f5⟩, s1, s2, s4⟩ := H0.out.1.2 k hlt
   obtain ⟨y1, y2, y4, ⟨g0, g1, g2, g3, g4, g5⟩, t1, t2, t4⟩ := H0.out.2.2 k hlt
   have hth := HTH.out k hlt
   obtain ⟨b, hb⟩ : ∃ b, b = W.books[k] := ⟨_, rfl⟩
   rw [← hb] at f0 f3 f5 g0 g3 g5 s1 s2 s4 t1 t2 t4 hth
   obtain ⟨r1, n1, e1⟩ := s1.form
   obtain ⟨r2, n2, e2⟩ := s2.form
   obtain ⟨r4, n4, e4⟩ := s4.form
   subst e1 e2 e4
   obtain ⟨z1, m1, e1⟩ := t1.form
   obtain ⟨z2, m2, e2⟩ := t2.form
   obtain ⟨z4, m4, e4⟩ := t4.form
   subst e1 e2 e4
   have HX := Lib.hid (show AV (fun _ => False) w (.agg #[.int .i64 b.agency, .slice r1 b.seats.length n1, .slice r2 b.off.length n2, .int .i64 b.sent, .slice r4 b.took.length n4, .int .i64 b.cash]) b from ⟨_, rfl, _, _, _, rfl, s1, s2, s4⟩)
   have HY := Lib.hid (show AV (fun _ => False) w (.agg #[.int .i64 b.agency, .slice z1 b.seats.length m1, .slice z2 b.off.length m2, .int .i64 b.sent, .slice z4 b.took.length m4, .int .i64 b.cash]) b from ⟨_, rfl, _, _, _, rfl, t1, t2, t4⟩)
   have HTB := Lib.hid hth
   have f0 := (HS.out.trans HT.out).kc f0; have f1 := (HS.out.trans HT.out).kc f1; have f2 := (HS.out.trans HT.out).kc f2; have f3 := (HS.out.trans HT.out).kc f3; have f4 := (HS.out.trans HT.out).kc f4; have f5 := (HS.out.trans HT.out).kc f5; have g0 := (HS.out.trans HT.out).kc g0; have g1 := (HS.out.trans HT.out).kc g1; have g2 := (HS.out.trans HT.out).kc g2; have g3 := (HS.out.trans HT.out).kc g3; have g4 := (HS.out.trans HT.out).kc g4; have g5 := (HS.out.trans HT.out).kc g5
   clear s1 s2 s4 t1 t2 t4 hb hth
   have hix : (0 : Int) ≤ (k : Int) ∧ (k : Int) < (W.books.length : Int) := by omega
   go_upto_region 6 with (fail)
   refine wp_region_seq (kdOf [10] []) [0, 1, 0, 7, 15, 0, 32, 0, 224, 480, 1023, 2047] [0, 1, 2, 3, 4, 5, 6, 7, 8, 9, 10, 11] [] (by kernel_rfl) (by kernel_rfl) (fun i T z hi hk => by simp [kdOf] at hk <;> (try (split at hk <;> cases hk))) ?_
   intro Wx hWx
   have u0 := (hWx).kc u0; have v0 := (hWx).kc v0; have f0 := (hWx).kc f0; have f1 := (hWx).kc f1; have f2 := (hWx).kc f2; have f3 := (hWx).kc f3; have f4 := (hWx).kc f4; have f5 := (hWx).kc f5; have g0 := (hWx).kc g0; have g1 := (hWx).kc g1; have g2 := (hWx).kc g2; have g3 := (hWx).kc g3; have g4 := (hWx).kc g4; have g5 := (hWx).kc g5
   repeat (first | (refine run_off rfl rfl (by rfl) ?_; (try simp only [Act.put, zA, zB, zC])) | (refine run_chain_off rfl rfl (by rfl) (K0_mono _) ?_; (try simp only [Act.put, zA, zB, zC])) | ((refine run_want rfl rfl (by rfl) ⟨?_, fun W hW => ?_, ?_⟩; rotate_left; (· (have d0 := hW.kc u0; have d1 := hW.kc v0; have d2 := hW.kc f0; have d3 := hW.kc f1; have d4 := hW.kc f2; have d5 := hW.kc f3; have d6 := hW.kc f4; have d7 := hW.kc f5; have d8 := hW.kc g0; have d9 := hW.kc g1; have d10 := hW.kc g2; have d11 := hW.kc g3; have d12 := hW.kc g4; have d13 := hW.kc g5; go_simp; (try with_reducible rfl)))); (try simp only [Act.put, zA, zB, zC])))
   clear u0 v0 f0 f1 f2 f3 f4 f5 g0 g1 g2 g3 g4 g5
   refine run_chain rfl rfl (by rfl) (fun Wi hWi K' hK => ?_)
   have HTi := Lib.hid (HT.out.trans (hWx.trans hWi))
   clear hWx hWi
   go_simp
   refine (same_any (fun _ => False) b b _ _ _ (HX.out.keep (.of_step (HS.out.trans HTi.out))) (HY.out.keep (.of_step (HS.out.trans HTi.out))) HTB.out).mono ?_
   rintro e wn ⟨rfl, hSn⟩
   rw [show alikeB b b = true by simp [alikeB]]
   refine hK _ _ (StepX.of hSn) ?_
   have HT2 := Lib.hid (HTi.out.trans hSn)
   clear hSn hK HTi
   (try simp only [Act.put, zA, zB, zC])
   repeat (first | (refine run_off rfl rfl (by rfl) ?_; (try simp only [Act.put, zA, zB, zC])) | (refine run_chain_off rfl rfl (by rfl) (K0_mono _) ?_; (try simp only [Act.put, zA, zB, zC])) | ((refine run_want rfl rfl (by rfl) ⟨?_, fun W hW => ?_, ?_⟩; rotate_left; (· (skip; go_simp; (try with_reducible rfl)))); (try simp only [Act.put, zA, zB, zC])))
   refine run_end (L := []) rfl (fun W7 hW7 => ?_)
   have HT3 := Lib.hid (HT2.out.trans hW7)
   go_wp2
   go_roundw
   case rel => exact ⟨k + 1, by omega, by go_num, HT3.out⟩
   case measure => simp [intOf]; omega
  ·clear u0 v0
   obtain ⟨wo, hwo⟩ : ∃ z9, z9 = wr := ⟨_, rfl⟩
   subst hwo
   have u0 := (HA.out.step HT.out).cell 0
   simp only [List.getElem?_cons_zero] at u0
   go_upto_region 9 with (fail)
   clear u0 u1
   go_loopw [6] (fun i wr => ∃ k : Nat, k ≤ W.msgs.length ∧ i = .int .i64 k ∧ Step W0 wr) (fun i _ => W.msgs.length - (intOf i).toNat)
   case atStart => exact ⟨0, Nat.zero_le _, rfl, HT.out⟩
   case round =>
    obtain ⟨k, hk, rfl, hT⟩ := hrel
    have HT := Lib.hid hT
    clear hT
    have u1 := (HA.out.step HT.out).cell 1
    have v1 := (HB.out.step HT.out).cell 1
    simp only [zD, zE] at u1 v1
    by_cases hlt : k < W.msgs.length
    ·obtain rfl := H1.out.1.1 (by omega)
     obtain rfl := H1.out.2.1 (by omega)
     obtain ⟨x4, ⟨f0, f1, f2, f3, f4⟩, s4⟩ := H1.out.1.2 k hlt
     obtain ⟨y4, ⟨g0, g1, g2, g3, g4⟩, t4⟩ := H1.out.2.2 k hlt
     obtain ⟨m, hm⟩ : ∃ b, b = W.msgs[k] := ⟨_, rfl⟩
     rw [← hm] at f0 f1 f2 f3 g0 g1 g2 g3 s4 t4
     obtain ⟨r4, n4, e4⟩ := s4.form
     subst e4
     obtain ⟨z4, m4, e4⟩ := t4.form
     subst e4
     have HX := Lib.hid (show AV (fun _ => False) w (.agg #[.int .i64 m.frm, .int .i64 m.dst, .int .i64 m.number, .int .i64 m.shw, .slice r4 m.seats.length n4]) m from ⟨_, rfl, _, rfl, s4⟩)
     have HY := Lib.hid (show AV (fun _ => False) w (.agg #[.int .i64 m.frm, .int .i64 m.dst, .int .i64 m.number, .int .i64 m.shw, .slice z4 m.seats.length m4]) m from ⟨_, rfl, _, rfl, t4⟩)
     have f0 := (HS.out.trans HT.out).kc f0; have f1 := (HS.out.trans HT.out).kc f1; have f2 := (HS.out.trans HT.out).kc f2; have f3 := (HS.out.trans HT.out).kc f3; have f4 := (HS.out.trans HT.out).kc f4; have g0 := (HS.out.trans HT.out).kc g0; have g1 := (HS.out.trans HT.out).kc g1; have g2 := (HS.out.trans HT.out).kc g2; have g3 := (HS.out.trans HT.out).kc g3; have g4 := (HS.out.trans HT.out).kc g4
     clear s4 t4 hm
     have hix : (0 : Int) ≤ (k : Int) ∧ (k : Int) < (W.msgs.length : Int) := by omega
     go_upto_region 11 with (fail)
     refine wp_region_seq (kdOf [10] []) [0, 1, 0, 7, 15, 0, 32, 0, 224, 480, 1023, 2047] [0, 1, 2, 3, 4, 5, 6, 7, 8, 9, 10, 11] [] (by kernel_rfl) (by kernel_rfl) (fun i T z hi hk => by simp [kdOf] at hk <;> (try (split at hk <;> cases hk))) ?_
     intro Wx hWx
     have u1 := (hWx).kc u1; have v1 := (hWx).kc v1; have f0 := (hWx).kc f0; have f1 := (hWx).kc f1; have f2 := (hWx).kc f2; have f3 := (hWx).kc f3; have f4 := (hWx).kc f4; have g0 := (hWx).kc g0; have g1 := (hWx).kc g1; have g2 := (hWx).kc g2; have g3 := (hWx).kc g3; have g4 := (hWx).kc g4
     repeat (first | (refine run_off rfl rfl (by rfl) ?_; (try simp only [Act.put, zA, zB, zC])) | (refine run_chain_off rfl rfl (by rfl) (K0_mono _) ?_; (try simp only [Act.put, zA, zB, zC])) | ((refine run_want rfl rfl (by rfl) ⟨?_, fun W hW => ?_, ?_⟩; rotate_left; (· (have d0 := hW.kc u1; have d1 := hW.kc v1; have d2 := hW.kc f0; have d3 := hW.kc f1; have d4 := hW.kc f2; have d5 := hW.kc f3; have d6 := hW.kc f4; have d7 := hW.kc g0; have d8 := hW.kc g1; have d9 := hW.kc g2; have d10 := hW.kc g3; have d11 := hW.kc g4; go_simp; (try with_reducible rfl)))); (try simp only [Act.put, zA, zB, zC])))
     clear u1 v1 f0 f1 f2 f3 f4 g0 g1 g2 g3 g4
     refine run_chain rfl rfl (by rfl) (fun Wi hWi K' hK => ?_)
     have HTi := Lib.hid (HT.out.trans (hWx.trans hWi))
     clear hWx hWi
     go_simp
     refine (message_any (fun _ => False) m m _ _ _ (HX.out.keep (.of_step (HS.out.trans HTi.out))) (HY.out.keep (.of_step (HS.out.trans HTi.out)))).mono ?_
     rintro e wn ⟨rfl, hSn⟩
     rw [show messB m m = true by simp [messB]]
     refine hK _ _ (StepX.of hSn) ?_
     have HT2 := Lib.hid (HTi.out.trans hSn)
     clear hSn hK HTi
     (try simp only [Act.put, zA, zB, zC])
     repeat (first | (refine run_off rfl rfl (by rfl) ?_; (try simp only [Act.put, zA, zB, zC])) | (refine run_chain_off rfl rfl (by rfl) (K0_mono _) ?_; (try simp only [Act.put, zA, zB, zC])) | ((refine run_want rfl rfl (by rfl) ⟨?_, fun W hW => ?_, ?_⟩; rotate_left; (· (skip; go_simp; (try with_reducible rfl)))); (try simp only [Act.put, zA, zB, zC])))
     refine run_end (L := []) rfl (fun W7 hW7 => ?_)
     have HT3 := Lib.hid (HT2.out.trans hW7)
     go_wp2
     go_roundw
     case rel => exact ⟨k + 1, by omega, by go_num, HT3.out⟩
     case measure => simp [intOf]; omega
    ·go_wp2
     go_ret
     exact ⟨rfl, HS.out.trans HT.out⟩
def tentH : House := ⟨[⟨0, 2⟩, ⟨1, 3⟩], [50, 20], [10, 20], [[0, 5], [0, 5]], [[0, 0, 0, 0, 0], [0, 1, 0, 1, 1]]⟩
set_option maxHeartbeats 2000000 in
theorem Tent_any (w : World) : Calls Tryz.prog 31 #[] w fun e w' => ∃ v', e = .returned v' ∧ AV (Old w) w' v' tentH ∧ Step w w' := by
 go_enter Tryz.func31, Tryz.ntmps31
 go_wp2
 refine ret_struct (k := 5) (g := w.heap.size) (T' := 41) (cs := [.slice (some ⟨w.heap.size + 1, 0, none⟩) 2 2, .slice (some ⟨w.heap.size + 2, 0, none⟩) 2 2, .slice (some ⟨w.heap.size + 3, 0, none⟩) 2 2, .slice (some ⟨w.heap.size + 6, 0, none⟩) 2 2, .slice (some ⟨w.heap.size + 9, 0, none⟩) 2 2]) rfl siHouse rfl ?_ rfl rfl ⟨_, rfl, ⟨_, rfl, ⟨_, _, _, _, _, rfl, ?_, ?_, ?_, ?_, ?_⟩⟩, ?_⟩
 ·repeat (first | exact Bx.new _ _ _ | apply Bx.alloc)
 ·refine SL.bx (g := w.heap.size + 1) (T := 117) (cs := [.int .i64 0, .int .i64 2, .int .i64 1, .int .i64 3]) (l := tentH.sectors) ?_ (by unfold Old; omega) 2 (by decide) (by decide) (fun i hi => ?_)
  ·repeat (first | (with_reducible refine Bx.new' _ _ _ _ ?_; simp; done) | (with_reducible apply Bx.alloc))
  ·have hi2 : i = 0 ∨ i = 1 := by simp [tentH] at hi; omega
   rcases hi2 with rfl | rfl <;> rfl
 ·refine SL.bx_ints (g := w.heap.size + 2) (T := 3) (l := tentH.prices) ?_ (by unfold Old; omega) 2 (by decide) (by decide)
  show Bx _ _ [.int .i64 50, .int .i64 20] _
  repeat (first | (with_reducible refine Bx.new' _ _ _ _ ?_; simp; done) | (with_reducible apply Bx.alloc))
 ·refine SL.bx_ints (g := w.heap.size + 3) (T := 3) (l := tentH.dates) ?_ (by unfold Old; omega) 2 (by decide) (by decide)
  show Bx _ _ [.int .i64 10, .int .i64 20] _
  repeat (first | (with_reducible refine Bx.new' _ _ _ _ ?_; simp; done) | (with_reducible apply Bx.alloc))
 ·refine SL.bx (g := w.heap.size + 6) (T := 23) (cs := [.slice (some ⟨w.heap.size + 4, 0, none⟩) 2 2, .slice (some ⟨w.heap.size + 5, 0, none⟩) 2 2]) (l := tentH.frm) ?_ (by unfold Old; omega) 2 (by decide) (by decide) (fun i hi => ?_)
  ·repeat (first | (with_reducible refine Bx.new' _ _ _ _ ?_; simp; done) | (with_reducible apply Bx.alloc))
  ·have hi2 : i = 0 ∨ i = 1 := by simp [tentH] at hi; omega
   rcases hi2 with rfl | rfl
   ·refine ⟨_, rfl, SL.bx_ints (g := w.heap.size + 4) (T := 3) (l := [0, 5]) ?_ (by unfold Old; omega) 2 (by decide) (by decide)⟩
    show Bx _ _ [.int .i64 0, .int .i64 5] _
    repeat (first | (with_reducible refine Bx.new' _ _ _ _ ?_; simp; done) | (with_reducible apply Bx.alloc))
   ·refine ⟨_, rfl, SL.bx_ints (g := w.heap.size + 5) (T := 3) (l := [0, 5]) ?_ (by unfold Old; omega) 2 (by decide) (by decide)⟩
    show Bx _ _ [.int .i64 0, .int .i64 5] _
    repeat (first | (with_reducible refine Bx.new' _ _ _ _ ?_; simp; done) | (with_reducible apply Bx.alloc))
 ·refine SL.bx (g := w.heap.size + 9) (T := 23) (cs := [.slice (some ⟨w.heap.size + 7, 0, none⟩) 5 5, .slice (some ⟨w.heap.size + 8, 0, none⟩) 5 5]) (l := tentH.holds) ?_ (by unfold Old; omega) 2 (by decide) (by decide) (fun i hi => ?_)
  ·repeat (first | (with_reducible refine Bx.new' _ _ _ _ ?_; simp; done) | (with_reducible apply Bx.alloc))
  ·have hi2 : i = 0 ∨ i = 1 := by simp [tentH] at hi; omega
   rcases hi2 with rfl | rfl
   ·refine ⟨_, rfl, SL.bx_ints (g := w.heap.size + 7) (T := 3) (l := [0, 0, 0, 0, 0]) ?_ (by unfold Old; omega) 5 (by decide) (by decide)⟩
    show Bx _ _ [.int .i64 0, .int .i64 0, .int .i64 0, .int .i64 0, .int .i64 0] _
    repeat (first | (with_reducible refine Bx.new' _ _ _ _ ?_; simp; done) | (with_reducible apply Bx.alloc))
   ·refine ⟨_, rfl, SL.bx_ints (g := w.heap.size + 8) (T := 3) (l := [0, 1, 0, 1, 1]) ?_ (by unfold Old; omega) 5 (by decide) (by decide)⟩
    show Bx _ _ [.int .i64 0, .int .i64 1, .int .i64 0, .int .i64 1, .int .i64 1] _
    repeat (first | (with_reducible refine Bx.new' _ _ _ _ ?_; simp; done) | (with_reducible apply Bx.alloc))
 ·exact (by repeat (first | (with_reducible assumption) | (with_reducible exact Step.refl _) | (with_reducible apply Step.s_alloc) | (with_reducible apply Step.s_drew) | (with_reducible apply Step.s_drewN) | (with_reducible refine Step.trans ?_ (by with_reducible assumption))))
def tentB : Book := ⟨0, [[0, 0, 0, 0, 0], [0, -1, 0, -1, -1]], [false, false], 0, [], 0⟩
def tentC : Book := ⟨0, [[0, 0, 7, 0, 0], [0, -1, 0, -1, -1]], [false, false], 0, [], 20⟩
def tentD : Book := ⟨0, [[0, 0, 0, 0, 0], [0, -1, 7, -1, -1]], [true, false], 0, [], 20⟩
def tentE : Book := ⟨0, [[0, 0, 0, -1, -1], [0, -1, 0, -1, -1]], [false, false], 1, [], 0⟩
theorem tent_class : classR tentH 2 = (1, 0) := by kernel_rfl
theorem tent_open : openR tentH 0 = (tentB, 0) := by kernel_rfl
theorem tent_sell : actR (doneR tentH tentB (sellD tentH tentB 0 2 7 3)) = (tentC, 0) := by kernel_rfl
theorem tent_lose : gate tentH tentC (loseD tentH tentC 0 4) = .ok (tentD, [⟨2, 1, 2⟩]) := by kernel_rfl
theorem tent_give : gate tentH tentB (giveD tentH tentB 1 0 [3, 4]) = .ok (tentE, ⟨0, 1, 1, 0, [3, 4]⟩) := by kernel_rfl
theorem tentB_av {S : Nat → Prop} {w : World} {v : Value} (h : AV S w v tentB) : ∃ p1 c1 bb oo v1 p2 c2 p4 c4, v = .agg #[.int .i64 0, .slice (some ⟨bb, oo, none⟩) 2 c1, .slice p2 2 c2, .int .i64 0, .slice p4 0 c4, .int .i64 0] ∧ w.cell? ⟨bb, oo + 1, none⟩ = some (.slice p1 5 v1) ∧ SL S w (.slice p1 5 v1) [0, -1, 0, -1, -1] ∧ AV S w v tentB := by
 obtain ⟨d1, d2, d4, hv, s1, s2, s4⟩ := h.book
 obtain ⟨p1, k1, bb, oo, rfl, _, _, hp, hc, _⟩ := s1.rows
 obtain ⟨p2, k2, rfl⟩ := s2.form
 obtain ⟨p4, k4, rfl⟩ := s4.form
 obtain rfl := hp (by decide)
 obtain ⟨u, hu, hu2⟩ := hc 1 (by decide)
 obtain ⟨pu, cu, rfl⟩ := hu2.form
 exact ⟨pu, k1, bb, oo, cu, p2, k2, p4, k4, hv, hu, hu2, h⟩
theorem _root_.Go.BT.SL.moves {S : Nat → Prop} {w : World} {v : Value} {l : List BT.Move} (h : SL S w v l) :
  ∃ p c b o, v = .slice p l.length c ∧ l.length ≤ c ∧ l.length ≤ 9223372036854775807 ∧ (0 < l.length → p = some ⟨b, o, none⟩) ∧
   (∀ i (h : i < l.length), w.cell? ⟨b, o + i * 3, none⟩ = some (.int .i64 l[i].seat) ∧ w.cell? ⟨b, o + i * 3 + 1, none⟩ = some (.int .i64 l[i].shw) ∧ w.cell? ⟨b, o + i * 3 + 2, none⟩ = some (.int .i64 l[i].at_)) ∧ (0 < l.length → b < w.heap.size ∧ ¬ S b) := by
 obtain ⟨p, c, b, o, hv, hc, hm, hp, ha⟩ := h
 refine ⟨p, c, b, o, hv, hc, hm, hp, fun i hi => ?_, fun h0 => ⟨(ha 0 h0).1, (ha 0 h0).2.1⟩⟩
 obtain ⟨_, _, cs, hr, hcs⟩ := ha i hi
 have hr' : cs = [.int .i64 l[i].seat, .int .i64 l[i].shw, .int .i64 l[i].at_] := hr
 subst hr'
 exact ⟨hcs 0 _ rfl, hcs 1 _ rfl, hcs 2 _ rfl⟩
theorem AV.triv {α : Type} [Rep α] {S : Nat → Prop} {w : World} {v : Value} {x : α} (h : AV S w v x) : AV (fun _ => False) w v x := h.weak fun _ _ h => h.elim
theorem AV.later {α : Type} [Rep α] {S : Nat → Prop} {W w1 w' : World} {v : Value} {x : α} (h : AV (Old W) w1 v x) (hs : ∀ j, j < w1.heap.size → S j → j < W.heap.size) (hk : Keeps S w1 w') : AV S w' v x :=
 (h.weak hs).keep hk
set_option maxRecDepth 100000 in
set_option maxHeartbeats 4000000 in
theorem awake_any (w : World) : Calls Tryz.prog 10 #[] w fun e w' => e = .returned (.bool true) ∧ Step w w' := by
 go_enter Tryz.func10, Tryz.ntmps10
 have HT := Lib.hid (Step.refl w)
 go_wp2_with fail
 refine (Tent_any _).mono ?_
 rintro e wn ⟨v1, rfl, hv1, hSn⟩
 have HTi := Lib.hid (HT.out.trans hSn)
 clear hSn HT
 have HT := HTi
 clear HTi
 go_wp2_with fail
 refine (Class_any _ tentH 2 _ _ hv1).mono ?_
 rintro e wn ⟨rfl, hSn⟩
 have HTi := Lib.hid (HT.out.trans hSn)
 clear hSn HT
 have HT := HTi
 clear HTi
 rw [tent_class]
 clear hv1
 go_wp2_with fail
 refine (Tent_any _).mono ?_
 rintro e wn ⟨v1, rfl, hv1, hSn⟩
 have HTi := Lib.hid (HT.out.trans hSn)
 clear hSn HT
 have HT := HTi
 clear HTi
 go_wp2_with fail
 refine (Open_any _ tentH 0 _ _ hv1).mono ?_
 rintro e wn ⟨v2, rfl, hv2, hSn⟩
 have HTi := Lib.hid (HT.out.trans hSn)
 clear hSn HT
 have HT := HTi
 clear HTi
 rw [tent_open] at hv2 ⊢
 dsimp only at hv2
 clear hv1
 obtain ⟨p1, c1, bb, oo, k1, p2, c2, p4, c4, rfl, g1, g2, hb⟩ := tentB_av hv2
 have HG := Lib.hid (And.intro g1 (And.intro g2 hb))
 clear g1 g2 hb hv2
 go_upto_region 3 with (fail)
 have hbB := Bx.new wn [.int .i64 0, .slice (some ⟨bb, oo, none⟩) 2 c1, .slice p2 2 c2, .int .i64 0, .slice p4 0 c4, .int .i64 0] 77
 have hST := HT.out.trans (Step.alloc wn (.cells #[.int .i64 0, .slice (some ⟨bb, oo, none⟩) 2 c1, .slice p2 2 c2, .int .i64 0, .slice p4 0 c4, .int .i64 0] 77))
 have hav := AV.triv (HG.out.2.2.keep (.of_step (Step.alloc wn (.cells #[.int .i64 0, .slice (some ⟨bb, oo, none⟩) 2 c1, .slice p2 2 c2, .int .i64 0, .slice p4 0 c4, .int .i64 0] 77))))
 have hsl := SL.weak (T := fun _ => False) (fun _ _ h => h.elim) (HG.out.2.1.keep (.of_step (Step.alloc wn (.cells #[.int .i64 0, .slice (some ⟨bb, oo, none⟩) 2 c1, .slice p2 2 c2, .int .i64 0, .slice p4 0 c4, .int .i64 0] 77))))
 have g1 := (Step.alloc wn (.cells #[.int .i64 0, .slice (some ⟨bb, oo, none⟩) 2 c1, .slice p2 2 c2, .int .i64 0, .slice p4 0 c4, .int .i64 0] 77)).kc HG.out.1
 clear HG HT
 generalize wn.alloc (.cells #[.int .i64 0, .slice (some ⟨bb, oo, none⟩) 2 c1, .slice p2 2 c2, .int .i64 0, .slice p4 0 c4, .int .i64 0] 77) = W0 at *
 generalize wn.heap.size = gB at *
 have HT := Lib.hid hST
 have HB := Lib.hid hbB
 have HAB := Lib.hid hav
 have HSL := Lib.hid hsl
 obtain ⟨f0, f1, f2, f3, f4, f5⟩ := cells6 HB.out
 have hix : (0 : Int) ≤ 1 ∧ (1 : Int) < 2 := by omega
 clear hST hbB hav hsl
 go_wp2_with fail
 refine (ints_any _ [0, -1, 0, -1, -1] [0, -1, 0, -1, -1] _ _ _ (HSL.out.keep (.alloc _ _)) (SL.bx_ints (l := [0, -1, 0, -1, -1]) (Bx.new _ _ _) (fun h => h) 5 (by decide) (by decide))).mono ?_
 rintro e wm ⟨rfl, hSm⟩
 rw [show intsB [0, -1, 0, -1, -1] [0, -1, 0, -1, -1] = true from by decide]
 have HTi := Lib.hid ((HT.out.trans (Step.alloc _ _)).trans hSm)
 have HTB := Lib.hid ((Step.alloc _ _).trans hSm)
 clear hSm
 have HZM := Lib.hid (show w.heap.size ≤ wm.heap.size ∧ W0.heap.size ≤ wm.heap.size from ⟨HTi.out.size, HTB.out.size⟩)
 clear HT f0 f1 f2 f3 f4 f5 g1 HSL
 have HT := HTi
 clear HTi
 go_upto_region 5 with (fail)
 clear hix
 refine wp_region_seqM (fun c d v a w h => by cases d <;> exact h) (kdOf [0, 2] [(6, 77, .agg #[.int .i64 0, .slice none 0 0, .slice none 0 0, .int .i64 0, .slice none 0 0, .int .i64 0])]) [0, 0, 3, 7, 15, 15, 0, 95, 255] [1, 0, 2, 3, 4, 5, 6] [7, 8] (by kernel_rfl) (by kernel_rfl) (fun i T z hi hk => by simp only [List.mem_cons, List.not_mem_nil, or_false] at hi; rcases hi with rfl | rfl | rfl | rfl | rfl | rfl | rfl <;> simp [kdOf] at hk <;> (obtain ⟨rfl, rfl⟩ := hk; first | (show Option.bind _ _ = some _; kernel_rfl) | (refine ⟨_, rfl, fun _ _ => ?_⟩; go_simp))) ?_
 intro Wx hWx
 have HTx := Lib.hid (HT.out.trans hWx)
 have HTBx := Lib.hid (HTB.out.trans hWx)
 clear hWx HT HTB
 have HT := HTx
 have HTB := HTBx
 clear HTx HTBx
 obtain ⟨f0, f1, f2, f3, f4, f5⟩ := cells6 (HB.out.step HTB.out)
 repeat (first | (refine run_off rfl rfl (by rfl) ?_; (try simp only [Act.put, zA, zB, zC])) | (refine run_chain_off rfl rfl (by rfl) (K0_mono _) ?_; (try simp only [Act.put, zA, zB, zC])) | ((refine run_want rfl rfl (by rfl) ⟨?_, fun W hW => ?_, ?_⟩; rotate_left; (· (have d0 := hW.kc f0; have d1 := hW.kc f1; have d2 := hW.kc f2; have d3 := hW.kc f3; have d4 := hW.kc f4; have d5 := hW.kc f5; go_simp; (try with_reducible rfl)))); (try simp only [Act.put, zA, zB, zC])))
 clear f0 f1 f2 f3 f4 f5
 refine run_chain rfl rfl (by rfl) (fun Wi hWi K' hK => ?_)
 have HTi := Lib.hid (HT.out.trans hWi)
 have HTBi := Lib.hid (HTB.out.trans hWi)
 clear hWi HT HTB
 go_simp
 refine (Tent_any _).mono ?_
 rintro e w5 ⟨v5, rfl, hv5, hS5⟩
 have HV5 := Lib.hid (AV.triv hv5)
 have HT := Lib.hid (HTi.out.trans hS5)
 have HTB := Lib.hid (HTBi.out.trans hS5)
 clear hv5 HTi HTBi
 refine hK _ _ hS5 ?_
 clear hS5 hK
 (try simp only [Act.put, zA, zB, zC])
 repeat (first | (refine run_off rfl rfl (by rfl) ?_; (try simp only [Act.put, zA, zB, zC])) | (refine run_chain_off rfl rfl (by rfl) (K0_mono _) ?_; (try simp only [Act.put, zA, zB, zC])) | ((refine run_want rfl rfl (by rfl) ⟨?_, fun W hW => ?_, ?_⟩; rotate_left; (· (skip; go_simp; (try with_reducible rfl)))); (try simp only [Act.put, zA, zB, zC])))
 refine run_chain rfl rfl (by rfl) (fun Wi hWi K' hK => ?_)
 have HTi := Lib.hid (HT.out.trans hWi)
 have HTBi := Lib.hid (HTB.out.trans hWi)
 have HV6 := Lib.hid (HV5.out.keep (.of_step hWi))
 clear hWi HT HTB HV5
 go_simp
 refine (Sell_any _ tentH tentB _ _ 0 2 7 3 _ HV6.out (HAB.out.keep (.of_step HTBi.out))).mono ?_
 rintro e w6 ⟨v6, rfl, hv6, hS6⟩
 rw [tent_sell] at hv6 ⊢
 dsimp only at hv6
 obtain ⟨x1, x2, x4, rfl, s1, s2, s4⟩ := hv6.book
 obtain ⟨q1, m1, rfl⟩ := s1.form
 obtain ⟨q2, m2, rfl⟩ := s2.form
 obtain ⟨q4, m4, rfl⟩ := s4.form
 have HV6 := Lib.hid hv6
 have HT := Lib.hid (HTi.out.trans hS6)
 have HTB := Lib.hid (HTBi.out.trans hS6)
 clear s1 s2 s4 hv6 HTi HTBi
 refine hK _ _ hS6 ?_
 clear hS6 hK
 (try simp only [Act.put, zA, zB, zC])
 repeat (first | (refine run_off rfl rfl (by rfl) ?_; (try simp only [Act.put, zA, zB, zC])) | (refine run_chain_off rfl rfl (by rfl) (K0_mono _) ?_; (try simp only [Act.put, zA, zB, zC])) | ((refine run_want rfl rfl (by rfl) ⟨?_, fun W hW => ?_, ?_⟩; rotate_left; (· (skip; go_simp; (try with_reducible rfl)))); (try simp only [Act.put, zA, zB, zC])))
 refine run_alloc rfl rfl (fun W5 g hW5 hg hgb hgN => ?_)
 (try simp only [Act.put, zA, zB, zC])
 refine run_end (L := [_, _]) rfl (fun W6 hW6 => ?_)
 have hb6 := Bx.step (w := W5) (cs := [_, _, _, _, _, _]) hg hW6
 refine wpl_store (v := .agg #[.int .i64 tentC.agency, .slice q1 tentC.seats.length m1, .slice q2 tentC.off.length m2, .int .i64 tentC.sent, .slice q4 tentC.took.length m4, .int .i64 tentC.cash]) rfl _ _ _ rfl rfl rfl hb6 (by kernel_rfl) (by simp [Value.cells]) (by simp [Value.cells, Value.oneCell']) [.int .i64 tentC.agency, .slice q1 tentC.seats.length m1, .slice q2 tentC.off.length m2, .int .i64 tentC.sent, .slice q4 tentC.took.length m4, .int .i64 tentC.cash] rfl (fun w7 hb7 hw7 => ?_)
 have hg0 := HZM.out
 have HVC := Lib.hid (AV.triv (AV.later (S := fun j => j = g) (w' := w7) HV6.out (fun j hj hs => by omega) ((Keeps.of_step (hW5.trans hW6)).trans (.wrote hw7 rfl))))
 have HTx := Lib.hid (Step.wrote ((HT.out.trans hW5).trans hW6) hw7 (by omega))
 have HTBx := Lib.hid (Step.wrote ((HTB.out.trans hW5).trans hW6) hw7 (by omega))
 have HC := Lib.hid hb7
 have HZM7 := Lib.hid (show w.heap.size ≤ w7.heap.size ∧ W0.heap.size ≤ w7.heap.size by have := hb7.lt; omega)
 clear hW5 hg hgb hgN hW6 hb6 hb7 hw7 HV6 HT HTB hg0 HZM
 have HT := HTx
 have HTB := HTBx
 clear HTx HTBx
 go_upto_region 6 with (fail)
 refine wp_region_seqM (fun c d v a w h => by cases d <;> exact h) (kdOf [0, 2] [(7, 77, .agg #[.int .i64 0, .slice none 0 0, .slice none 0 0, .int .i64 0, .slice none 0 0, .int .i64 0])]) [0, 0, 3, 7, 15, 15, 15, 0, 159, 447, 1023] [1, 0, 2, 3, 4, 5, 6, 7] [8, 9, 10] (by kernel_rfl) (by kernel_rfl) (fun i T z hi hk => by simp only [List.mem_cons, List.not_mem_nil, or_false] at hi; rcases hi with rfl | rfl | rfl | rfl | rfl | rfl | rfl | rfl <;> simp [kdOf] at hk <;> (obtain ⟨rfl, rfl⟩ := hk; first | (show Option.bind _ _ = some _; kernel_rfl) | (refine ⟨_, rfl, fun _ _ => ?_⟩; go_simp))) ?_
 intro Wx hWx
 have HTx := Lib.hid (HT.out.trans hWx)
 have HTBx := Lib.hid (HTB.out.trans hWx)
 have HWX := Lib.hid hWx
 clear hWx HT HTB
 have HT := HTx
 have HTB := HTBx
 clear HTx HTBx
 obtain ⟨f0, f1, f2, f3, f4, f5⟩ := cells6 (HC.out.step HWX.out)
 repeat (first | (refine run_off rfl rfl (by rfl) ?_; (try simp only [Act.put, zA, zB, zC])) | (refine run_chain_off rfl rfl (by rfl) (K0_mono _) ?_; (try simp only [Act.put, zA, zB, zC])) | ((refine run_want rfl rfl (by rfl) ⟨?_, fun W hW => ?_, ?_⟩; rotate_left; (· (have d0 := hW.kc f0; have d1 := hW.kc f1; have d2 := hW.kc f2; have d3 := hW.kc f3; have d4 := hW.kc f4; have d5 := hW.kc f5; go_simp; (try with_reducible rfl)))); (try simp only [Act.put, zA, zB, zC])))
 clear f0 f1 f2 f3 f4 f5
 have HVC6 := Lib.hid (HVC.out.keep (.of_step HWX.out))
 have HTC := Lib.hid (Step.refl Wx)
 refine run_chain rfl rfl (by rfl) (fun Wi hWi K' hK => ?_)
 have HTi := Lib.hid (HT.out.trans hWi)
 have HTCi := Lib.hid (HTC.out.trans hWi)
 have HTBi := Lib.hid (HTB.out.trans hWi)
 clear hWi HT HTB HTC
 go_simp
 refine (Tent_any _).mono ?_
 rintro e w8 ⟨v8, rfl, hv5, hS5⟩
 have HV5 := Lib.hid (AV.triv hv5)
 have HT := Lib.hid (HTi.out.trans hS5)
 have HTB := Lib.hid (HTBi.out.trans hS5)
 have HTC := Lib.hid (HTCi.out.trans hS5)
 clear hv5 HTi HTBi HTCi
 refine hK _ _ hS5 ?_
 clear hS5 hK
 (try simp only [Act.put, zA, zB, zC])
 repeat (first | (refine run_off rfl rfl (by rfl) ?_; (try simp only [Act.put, zA, zB, zC])) | (refine run_chain_off rfl rfl (by rfl) (K0_mono _) ?_; (try simp only [Act.put, zA, zB, zC])) | ((refine run_want rfl rfl (by rfl) ⟨?_, fun W hW => ?_, ?_⟩; rotate_left; (· (skip; go_simp; (try with_reducible rfl)))); (try simp only [Act.put, zA, zB, zC])))
 refine run_chain rfl rfl (by rfl) (fun Wi hWi K' hK => ?_)
 have HTi := Lib.hid (HT.out.trans hWi)
 have HTBi := Lib.hid (HTB.out.trans hWi)
 have HTCi := Lib.hid (HTC.out.trans hWi)
 have HV6 := Lib.hid (HV5.out.keep (.of_step hWi))
 clear hWi HT HTB HV5 HTC
 go_simp
 refine (Lose_any _ tentH tentC _ _ 0 4 _ HV6.out (HVC6.out.keep (.of_step HTCi.out))).mono ?_
 rintro e w9 ⟨v9, l9, rfl, hv6, hl9, hS6⟩
 rw [tent_lose] at hv6 hl9 ⊢
 dsimp only [bookOf, actR, restOf] at hv6 hl9
 simp only [bookOf, actR]
 obtain ⟨x1, x2, x4, rfl, s1, s2, s4⟩ := hv6.book
 obtain ⟨q1', m1', rfl⟩ := s1.form
 obtain ⟨q2', m2', rfl⟩ := s2.form
 obtain ⟨q4', m4', rfl⟩ := s4.form
 obtain ⟨pl, cl, bl, ol, rfl, _, _, hpl, hcl, hbl⟩ := hl9.moves
 obtain rfl := hpl (by decide)
 have hcl := hcl 0 (by decide)
 have hbl := hbl (by decide)
 have HCL := Lib.hid (And.intro hcl hbl)
 have HT := Lib.hid (HTi.out.trans hS6)
 have HTB := Lib.hid (HTBi.out.trans hS6)
 have HTC := Lib.hid (HTCi.out.trans hS6)
 clear s1 s2 s4 hv6 HTi HTBi HTCi hcl hbl hpl hl9
 refine hK _ _ hS6 ?_
 clear hS6 hK
 (try simp only [Act.put, zA, zB, zC])
 repeat (first | (refine run_off rfl rfl (by rfl) ?_; (try simp only [Act.put, zA, zB, zC])) | (refine run_chain_off rfl rfl (by rfl) (K0_mono _) ?_; (try simp only [Act.put, zA, zB, zC])) | ((refine run_want rfl rfl (by rfl) ⟨?_, fun W hW => ?_, ?_⟩; rotate_left; (· (skip; go_simp; (try with_reducible rfl)))); (try simp only [Act.put, zA, zB, zC])))
 refine run_alloc rfl rfl (fun W5 g2 hW5 hg hgb hgN => ?_)
 (try simp only [Act.put, zA, zB, zC])
 refine run_end (L := [_, _, _]) rfl (fun W6 hW6 => ?_)
 have hb6 := Bx.step (w := W5) (cs := [_, _, _, _, _, _]) hg hW6
 refine wpl_store (v := .agg #[.int .i64 tentD.agency, .slice q1' tentD.seats.length m1', .slice q2' tentD.off.length m2', .int .i64 tentD.sent, .slice q4' tentD.took.length m4', .int .i64 tentD.cash]) rfl _ _ _ rfl rfl rfl hb6 (by kernel_rfl) (by simp [Value.cells]) (by simp [Value.cells, Value.oneCell']) [.int .i64 tentD.agency, .slice q1' tentD.seats.length m1', .slice q2' tentD.off.length m2', .int .i64 tentD.sent, .slice q4' tentD.took.length m4', .int .i64 tentD.cash] rfl (fun w10 hb10 hw10 => ?_)
 have hg0 := HZM7.out
 have hcl := HCL.out.1
 have hbl := HCL.out.2
 have hk10 : Keeps (fun j => j = g2) w9 w10 := (Keeps.of_step (hW5.trans hW6)).trans (.wrote hw10 rfl)
 have hne : ¬ bl = g2 := by
  have h1 := hbl.1
  have h2 := hbl.2
  unfold Old at h2
  intro e
  rw [e] at h1 h2
  omega
 have HM := Lib.hid (And.intro (hk10.cell hne hcl.1) (And.intro (hk10.cell hne hcl.2.1) (hk10.cell hne hcl.2.2)))
 have hgC : g ≠ g2 := by have := HC.out.lt; omega
 have HTx := Lib.hid (Step.wrote ((HT.out.trans hW5).trans hW6) hw10 (by omega))
 have HTBx := Lib.hid (Step.wrote ((HTB.out.trans hW5).trans hW6) hw10 (by omega))
 have HTCx := Lib.hid (HC.out.keep ((Keeps.of_step ((HWX.out.trans HTC.out).trans (hW5.trans hW6))).trans (.wrote hw10 (S := fun j => j = g2) rfl)) hgC)
 have HD := Lib.hid hb10
 have HZM10 := Lib.hid (show w.heap.size ≤ w10.heap.size ∧ W0.heap.size ≤ w10.heap.size by have := hb10.lt; omega)
 clear hW5 hg hgb hgN hW6 hb6 hb10 hw10 HV6 HT HTB hg0 hcl hbl hk10 hne hgC HCL HC HTC HWX HVC HVC6
 have HT := HTx
 have HTB := HTBx
 have HC := HTCx
 clear HTx HTBx HTCx
 go_upto_region 7 with (fail)
 refine wp_region_seqM (fun c d v a w h => by cases d <;> exact h) (kdOf [0, 3] [(2, 3, .tuple #[.int IntKind.i64 3, .int IntKind.i64 4]), (8, 77, .agg #[.int .i64 0, .slice none 0 0, .slice none 0 0, .int .i64 0, .slice none 0 0, .int .i64 0]), (9, 86, .agg #[.int .i64 0, .int .i64 0, .int .i64 0, .int .i64 0, .slice none 0 0])]) [0, 0, 0, 7, 15, 31, 31, 31, 0, 0, 831, 1919, 4095] [1, 0, 2, 3, 4, 5, 6, 7, 8, 9] [10, 11, 12] (by kernel_rfl) (by kernel_rfl) (fun i T z hi hk => by simp only [List.mem_cons, List.not_mem_nil, or_false] at hi; rcases hi with rfl | rfl | rfl | rfl | rfl | rfl | rfl | rfl | rfl | rfl <;> simp [kdOf] at hk <;> (obtain ⟨rfl, rfl⟩ := hk; first | (show Option.bind _ _ = some _; kernel_rfl) | (refine ⟨_, rfl, fun _ _ => ?_⟩; go_simp))) ?_
 intro Wx hWx
 have HTx := Lib.hid (HT.out.trans hWx)
 have HTBx := Lib.hid (HTB.out.trans hWx)
 have HTX := Lib.hid hWx
 clear hWx HT HTB
 have HT := HTx
 have HTB := HTBx
 clear HTx HTBx
 obtain ⟨f0, f1, f2, f3, f4, f5⟩ := cells6 (HB.out.step HTB.out)
 repeat (first | (refine run_off rfl rfl (by rfl) ?_; (try simp only [Act.put, zA, zB, zC])) | (refine run_chain_off rfl rfl (by rfl) (K0_mono _) ?_; (try simp only [Act.put, zA, zB, zC])) | ((refine run_want rfl rfl (by rfl) ⟨?_, fun W hW => ?_, ?_⟩; rotate_left; (· (have d0 := hW.kc f0; have d1 := hW.kc f1; have d2 := hW.kc f2; have d3 := hW.kc f3; have d4 := hW.kc f4; have d5 := hW.kc f5; go_simp; (try with_reducible rfl)))); (try simp only [Act.put, zA, zB, zC])))
 clear f0 f1 f2 f3 f4 f5
 refine run_chain rfl rfl (by rfl) (fun Wi hWi K' hK => ?_)
 have HTi := Lib.hid (HT.out.trans hWi)
 have HTBi := Lib.hid (HTB.out.trans hWi)
 have HTXi := Lib.hid (HTX.out.trans hWi)
 clear hWi HT HTB HTX
 go_simp
 refine (Tent_any _).mono ?_
 rintro e w11 ⟨v11, rfl, hv5, hS5⟩
 have HV5 := Lib.hid (AV.triv hv5)
 have HT := Lib.hid (HTi.out.trans hS5)
 have HTB := Lib.hid (HTBi.out.trans hS5)
 have HTX := Lib.hid (HTXi.out.trans hS5)
 clear hv5 HTi HTBi HTXi
 refine hK _ _ hS5 ?_
 clear hS5 hK
 (try simp only [Act.put, zA, zB, zC])
 repeat (first | (refine run_off rfl rfl (by rfl) ?_; (try simp only [Act.put, zA, zB, zC])) | (refine run_chain_off rfl rfl (by rfl) (K0_mono _) ?_; (try simp only [Act.put, zA, zB, zC])) | ((refine run_want rfl rfl (by rfl) ⟨?_, fun W hW => ?_, ?_⟩; rotate_left; (· (skip; go_simp; (try with_reducible rfl)))); (try simp only [Act.put, zA, zB, zC])))
 refine run_consts rfl rfl (fun Wk gS hWk hgS hgSb hgSN => ?_)
 have HSL := Lib.hid (SL.bx_ints (S := fun _ => False) (l := [3, 4]) (show Bx Wk gS [.int .i64 3, .int .i64 4] 3 from hgS) (fun h => h) 2 (by decide) (by decide))
 have HTi := Lib.hid (HT.out.trans hWk)
 have HTBi := Lib.hid (HTB.out.trans hWk)
 have HTXi := Lib.hid (HTX.out.trans hWk)
 have HV6 := Lib.hid (HV5.out.keep (.of_step hWk))
 clear hWk hgS hgSb hgSN HT HTB HTX HV5
 (try simp only [Act.put, zA, zB, zC])
 repeat (first | (refine run_off rfl rfl (by rfl) ?_; (try simp only [Act.put, zA, zB, zC])) | (refine run_chain_off rfl rfl (by rfl) (K0_mono _) ?_; (try simp only [Act.put, zA, zB, zC])) | ((refine run_want rfl rfl (by rfl) ⟨?_, fun W hW => ?_, ?_⟩; rotate_left; (· (skip; go_simp; (try with_reducible rfl)))); (try simp only [Act.put, zA, zB, zC])))
 refine run_chain rfl rfl (by rfl) (fun Wi hWi K' hK => ?_)
 have HT := Lib.hid (HTi.out.trans hWi)
 have HTB := Lib.hid (HTBi.out.trans hWi)
 have HTX := Lib.hid (HTXi.out.trans hWi)
 have HV7 := Lib.hid (HV6.out.keep (.of_step hWi))
 have HSL2 := Lib.hid (HSL.out.keep (.of_step hWi))
 clear hWi HTi HTBi HTXi HV6 HSL
 go_simp
 refine (Give_any _ _ tentH tentB _ _ _ 1 0 [3, 4] _ HV7.out (HAB.out.keep (.of_step HTB.out)) HSL2.out (by decide)).mono ?_
 rintro e w12 ⟨v12, m12, rfl, hv6, hm6, hS6⟩
 rw [tent_give] at hv6 hm6 ⊢
 dsimp only [bookOf, actR, restOf] at hv6 hm6
 simp only [bookOf, actR]
 obtain ⟨x1, x2, x4, rfl, s1, s2, s4⟩ := hv6.book
 obtain ⟨q1x, m1x, rfl⟩ := s1.form
 obtain ⟨q2x, m2x, rfl⟩ := s2.form
 obtain ⟨q4x, m4x, rfl⟩ := s4.form
 obtain ⟨y4, rfl, t4⟩ := hm6.message
 obtain ⟨qm, km, rfl⟩ := t4.form
 have HMM := Lib.hid hm6
 have HTi := Lib.hid (HT.out.trans hS6)
 have HTBi := Lib.hid (HTB.out.trans hS6)
 have HTXi := Lib.hid (HTX.out.trans hS6)
 clear s1 s2 s4 t4 hv6 hm6 HT HTB HTX
 refine hK _ _ hS6 ?_
 clear hS6 hK
 (try simp only [Act.put, zA, zB, zC])
 repeat (first | (refine run_off rfl rfl (by rfl) ?_; (try simp only [Act.put, zA, zB, zC])) | (refine run_chain_off rfl rfl (by rfl) (K0_mono _) ?_; (try simp only [Act.put, zA, zB, zC])) | ((refine run_want rfl rfl (by rfl) ⟨?_, fun W hW => ?_, ?_⟩; rotate_left; (· (skip; go_simp; (try with_reducible rfl)))); (try simp only [Act.put, zA, zB, zC])))
 refine run_alloc rfl rfl (fun W5 g3 hW5 hg hgb hgN => ?_)
 (try simp only [Act.put, zA, zB, zC])
 refine run_alloc rfl rfl (fun W6 g4 hW6 hg' hgb' hgN' => ?_)
 (try simp only [Act.put, zA, zB, zC])
 refine run_end (L := [_, _, _]) rfl (fun W7 hW7 => ?_)
 have hb3 : Bx W7 g3 [_, _, _, _, _, _] 77 := Bx.step (w := W5) (cs := [_, _, _, _, _, _]) hg (hW6.trans hW7)
 have hb4 : Bx W7 g4 [_, _, _, _, _] 86 := Bx.step (w := W6) (cs := [_, _, _, _, _]) hg' hW7
 refine wpl_store (v := .agg #[.int .i64 tentE.agency, .slice q1x tentE.seats.length m1x, .slice q2x tentE.off.length m2x, .int .i64 tentE.sent, .slice q4x tentE.took.length m4x, .int .i64 tentE.cash]) rfl _ _ _ rfl rfl rfl hb3 (by kernel_rfl) (by simp [Value.cells]) (by simp [Value.cells, Value.oneCell']) [.int .i64 tentE.agency, .slice q1x tentE.seats.length m1x, .slice q2x tentE.off.length m2x, .int .i64 tentE.sent, .slice q4x tentE.took.length m4x, .int .i64 tentE.cash] rfl (fun w13 hb13 hw13 => ?_)
 have hne : g4 ≠ g3 := hgN'.2
 have hb4' := hb4.keep hw13.keeps hne
 refine wpl_store (v := .agg #[.int .i64 0, .int .i64 1, .int .i64 1, .int .i64 0, .slice qm 2 km]) rfl _ _ _ rfl rfl rfl hb4' (by kernel_rfl) (by simp [Value.cells]) (by simp [Value.cells, Value.oneCell']) [.int .i64 0, .int .i64 1, .int .i64 1, .int .i64 0, .slice qm 2 km] rfl (fun w14 hb14 hw14 => ?_)
 have hk14 : Keeps (fun j => j = g3 ∨ j = g4) w12 w14 := ((Keeps.of_step ((hW5.trans hW6).trans hW7)).trans (.wrote hw13 (.inl rfl))).trans (.wrote hw14 (.inr rfl))
 have hm14 := Lib.hid (AV.triv (AV.later (S := fun j => j = g3 ∨ j = g4) (w' := w14) HMM.out (fun j hj hs => by omega) hk14))
 have hg0 := HZM10.out
 have HTx := Lib.hid (Step.wrote (Step.wrote (((HTi.out.trans hW5).trans hW6).trans hW7) hw13 (by omega)) hw14 (by omega))
 have hX10 : Keeps (fun j => j = g3 ∨ j = g4) w10 w14 := (Keeps.of_step HTXi.out).trans hk14
 have hc5 := (HC.out.keep hX10 (by have := HC.out.lt; omega)).cell 5
 have hd5 := (HD.out.keep hX10 (by have := HD.out.lt; omega)).cell 5
 have hbl : bl < w10.heap.size := World.block_lt_of_cell? w10 ⟨bl, _, none⟩ HM.out.1
 have m0 := hX10.cell (by show ¬ (bl = g3 ∨ bl = g4); omega) HM.out.1
 have m1 := hX10.cell (by show ¬ (bl = g3 ∨ bl = g4); omega) HM.out.2.1
 have m2 := hX10.cell (by show ¬ (bl = g3 ∨ bl = g4); omega) HM.out.2.2
 obtain ⟨e0, e1, e2, e3, e4⟩ := cells5 hb14
 change w14.cell? ⟨g, 5, none⟩ = some (.int .i64 20) at hc5
 change w14.cell? ⟨g2, 5, none⟩ = some (.int .i64 20) at hd5
 change w14.cell? ⟨bl, ol, none⟩ = some (.int .i64 2) at m0
 change w14.cell? ⟨bl, ol + 1, none⟩ = some (.int .i64 1) at m1
 change w14.cell? ⟨bl, ol + 2, none⟩ = some (.int .i64 2) at m2
 have hmv : ∀ w, (binOp .eql 97 (.agg #[.int .i64 2, .int .i64 1, .int .i64 2]) (.agg #[.int .i64 2, .int .i64 1, .int .i64 2])).run Tryz.prog w = .ok (.bool true) w := fun _ => by kernel_rfl
 have hix0 : (0 : Int) ≤ 0 ∧ (0 : Int) < 1 := by omega
 clear hW5 hg hgb hgN hW6 hg' hgb' hgN' hW7 hb3 hb4 hb13 hw13 hne hb4' hb14 hw14 hk14 hX10 hbl hg0 HTi HTBi HTXi HMM HD HC HM HV7 HSL2 HZM10 HZM7 HB HAB
 have HT := HTx
 clear HTx
 go_wp2_with fail
 refine (message_any (fun _ => False) ⟨0, 1, 1, 0, [3, 4]⟩ ⟨0, 1, 1, 0, [3, 4]⟩ _ _ _ (hm14.out.keep (.alloc _ _)) ⟨_, rfl, _, rfl, SL.bx_ints (l := [3, 4]) (Bx.new _ _ _) (fun h => h) 2 (by decide) (by decide)⟩).mono ?_
 rintro e w15 ⟨rfl, hSm⟩
 rw [show messB ⟨0, 1, 1, 0, [3, 4]⟩ ⟨0, 1, 1, 0, [3, 4]⟩ = true from by decide]
 go_wp2
 go_ret
 exact ⟨rfl, (HT.out.trans (Step.alloc _ _)).trans hSm⟩
theorem fewB_of {h : House} (hf : few h = true) : fewB h := by
 simp only [few, fewA, Bool.and_eq_true, decide_eq_true_eq] at hf
 obtain ⟨⟨⟨h1, h2⟩, h3⟩, ⟨⟨⟨h4, h5⟩, h6⟩, h7⟩, h8⟩ := hf
 refine ⟨by omega, by omega, by omega, by omega, by omega, fun i hi => ?_, fun i hi => ?_⟩
 ·have := all_at h3 hi; simp at this; omega
 ·have := all_at h2 hi; simp at this; omega
end Go.Proofs.YtgpiieogiafdoaaGreat
