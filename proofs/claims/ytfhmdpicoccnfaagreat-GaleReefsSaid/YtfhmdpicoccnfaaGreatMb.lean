/- Walks and plain laws, part b. -/
import Derived.Test.YtfhmdpicoccnfaaGreatMa
import Derived.Test.YtfhmdpicoccnfaaGreatRows
import Derived.ArgAppend
import Derived.BigQuiet
import Derived.BigRegionIn
import Derived.Carry
import Derived.Deep.AppendLies
import Derived.Deep.DeepCutAuto
import Derived.Deep.QuietTactic
import Derived.Deep.RegionHeld3
import Derived.Defers
import Derived.Laws.MakeOwn
import Derived.Laws.OwnMore
import Derived.Laws.Pointers
import Derived.Laws.Strings
import Derived.Laws.StructEq
import Derived.Lib.ConvBytes
import Derived.Lib.Hide
import Derived.LoopIn
import Derived.LoopNIn
import Derived.MapKept
import Derived.OwnWalkIn
import Derived.RangeFuncBound
import Derived.RangeFuncCalls
import Derived.RangeFuncLeaves
import Derived.RangeFuncNested
import Derived.Recover
import Derived.Scope
import Derived.Shelf.Abstract
import Derived.Shelf.RegionOpen
import Derived.TacticsInMore
import Derived.WalkKit
import Derived.WalkLawsBesides
import Derived.WalkMore
import Derived.WalkSmall
import Derived.WalkSpells
import Derived.WideKeyRuns
set_option maxHeartbeats 16000000
set_option maxRecDepth 100000
namespace Go.Proofs.YtfhmdpicoccnfaaGreat
set_option linter.unusedSimpArgs false
set_option linter.unusedVariables false
open Go.RowKit Go.BT
theorem headZ (n : Nat) : decide (n ≤ 8) = decide ((n : Int) ≤ 8) := by simp; omega
theorem tvalid_any (x : Tst) (w : World) : Calls Tryz.prog 77 #[.agg #[.int .i64 x.soil, .int .i64 x.depth, .int .i64 x.force, .bool x.held]] w fun e w' => e = .returned (.bool (tstB x)) ∧ Step w w' := by
 go_enter Tryz.func77, Tryz.ntmps77
 go_wp2_with fail
 refine (canvas.within_any _ _ _ _).mono ?_
 rintro e w' ⟨rfl, rfl⟩
 cases q0 : withinB x.soil 0 9 with
 | false =>
  go_wp2
  go_ret
  exact ⟨by simp [tstB, q0], (by with_reducible repeat (first | assumption | exact Step.refl _ | apply Step.s_alloc | apply Step.s_drew | apply Step.s_drewN | refine Step.trans ?_ (by assumption)))⟩
 | true =>
  go_wp2_with fail
  refine (canvas.within_any _ _ _ _).mono ?_
  rintro e w' ⟨rfl, rfl⟩
  cases q1 : withinB x.depth 1 3000 with
  | false =>
   go_wp2
   go_ret
   exact ⟨by simp [tstB, q0, q1], (by with_reducible repeat (first | assumption | exact Step.refl _ | apply Step.s_alloc | apply Step.s_drew | apply Step.s_drewN | refine Step.trans ?_ (by assumption)))⟩
  | true =>
   go_wp2_with fail
   refine (canvas.within_any _ _ _ _).mono ?_
   rintro e w' ⟨rfl, rfl⟩
   cases q2 : withinB x.force 1 5000 with
   | false =>
    go_wp2
    go_ret
    exact ⟨by simp [tstB, q0, q1, q2], (by with_reducible repeat (first | assumption | exact Step.refl _ | apply Step.s_alloc | apply Step.s_drew | apply Step.s_drewN | refine Step.trans ?_ (by assumption)))⟩
   | true =>
    go_wp2
    go_ret
    exact ⟨by simp [tstB, q0, q1, q2], (by with_reducible repeat (first | assumption | exact Step.refl _ | apply Step.s_alloc | apply Step.s_drew | apply Step.s_drewN | refine Step.trans ?_ (by assumption)))⟩
theorem CheckTests_any (S : Nat → Prop) (l : List Tst) (v : Value) (w : World) (hv : SL S w v l) : Calls Tryz.prog 40 #[v] w fun e w' => e = .returned (.int .i64 (testsC l)) ∧ Step w w' := by
 have hm := hv.len
 have hc := all_tst S l v w 77 #[] (Go.Proofs.enters_of Tryz.func77 (by kernel_rfl) rfl) tstB (fun _ W => Step w W) (fun _ => False) (fun _ h => h.elim)
  (fun _ W hW => hv.keep (.of_step hW)) (fun _ _ _ h1 h2 => h1.trans h2) (Step.refl _) (fun i hi W u hW _ hu => by
   subst hu
   refine (tvalid_any l[i] W).mono ?_
   rintro e w' ⟨rfl, hs⟩
   exact ⟨rfl, hW.trans hs, hs⟩)
 have HC := zH hc
 obtain ⟨pv, cv, rfl⟩ := hv.form
 clear hc hv
 by_cases hl : 40 < l.length
 ·have hd : decide ((40 : Int) < (l.length : Int)) = true := by simp; omega
  go_enter Tryz.func40, Tryz.ntmps40
  go_wp2
  go_ret
  exact ⟨by simp [testsC, hl], Step.refl _⟩
 have hd : decide ((40 : Int) < (l.length : Int)) = false := by simp; omega
 have HL := zH hl
 clear hl
 go_enter Tryz.func40, Tryz.ntmps40
 go_wp2_with fail
 refine HC.out.mono ?_
 rintro e w' ⟨rfl, hk⟩
 obtain ⟨k, _, _, hS⟩ := hk
 cases q : l.all tstB with
 | true =>
  go_wp2
  go_ret
  exact ⟨by unfold testsC; rw [if_neg HL.out, if_pos q]; rfl, hS⟩
 | false =>
  go_wp2
  go_ret
  exact ⟨by unfold testsC; rw [if_neg HL.out, if_neg (by rw [q]; decide)]; rfl, hS⟩
theorem gvalid_any (x : Guy) (w : World) : Calls Tryz.prog 121 #[.agg #[.int .i64 x.x, .int .i64 x.y, .int .i64 x.down, .int .i64 x.soil, .int .i64 x.depth]] w fun e w' => e = .returned (.bool (guyB x)) ∧ Step w w' := by
 obtain ⟨xx, xy, dn, sl, dp⟩ := x
 dsimp only
 by_cases hx : xx = 0
 ·subst hx
  by_cases hy : xy = 0
  ·subst hy
   go_enter Tryz.func121, Tryz.ntmps121
   go_wp2_with fail
   refine (canvas.within_any _ _ _ _).mono ?_
   rintro e w' ⟨rfl, rfl⟩
   cases q0 : withinB 0 (-5000) 5000 with
   | false =>
    go_wp2
    go_ret
    exact ⟨by simp [guyB, guyB, q0], (by with_reducible repeat (first | assumption | exact Step.refl _ | apply Step.s_alloc | apply Step.s_drew | apply Step.s_drewN | refine Step.trans ?_ (by assumption)))⟩
   | true =>
    go_wp2_with fail
    refine (canvas.within_any _ _ _ _).mono ?_
    rintro e w' ⟨rfl, rfl⟩
    cases q1 : withinB 0 (-5000) 5000 with
    | false =>
     go_wp2
     go_ret
     exact ⟨by simp [guyB, guyB, q0, q1], (by with_reducible repeat (first | assumption | exact Step.refl _ | apply Step.s_alloc | apply Step.s_drew | apply Step.s_drewN | refine Step.trans ?_ (by assumption)))⟩
    | true =>
     go_wp2
     go_ret
     exact ⟨by simp [guyB, guyB, q0, q1], (by with_reducible repeat (first | assumption | exact Step.refl _ | apply Step.s_alloc | apply Step.s_drew | apply Step.s_drewN | refine Step.trans ?_ (by assumption)))⟩
  ·go_enter Tryz.func121, Tryz.ntmps121
   go_wp2_with fail
   refine (canvas.within_any _ _ _ _).mono ?_
   rintro e w' ⟨rfl, rfl⟩
   cases q0 : withinB 0 (-5000) 5000 with
   | false =>
    go_wp2
    go_ret
    exact ⟨by simp [guyB, hy, q0], (by with_reducible repeat (first | assumption | exact Step.refl _ | apply Step.s_alloc | apply Step.s_drew | apply Step.s_drewN | refine Step.trans ?_ (by assumption)))⟩
   | true =>
    go_wp2_with fail
    refine (canvas.within_any _ _ _ _).mono ?_
    rintro e w' ⟨rfl, rfl⟩
    cases q1 : withinB xy (-5000) 5000 with
    | false =>
     go_wp2
     go_ret
     exact ⟨by simp [guyB, hy, q0, q1], (by with_reducible repeat (first | assumption | exact Step.refl _ | apply Step.s_alloc | apply Step.s_drew | apply Step.s_drewN | refine Step.trans ?_ (by assumption)))⟩
    | true =>
     go_wp2_with fail
     refine (canvas.within_any _ _ _ _).mono ?_
     rintro e w' ⟨rfl, rfl⟩
     cases q2 : withinB dn 0 5000 with
     | false =>
      go_wp2
      go_ret
      exact ⟨by simp [guyB, hy, q0, q1, q2], (by with_reducible repeat (first | assumption | exact Step.refl _ | apply Step.s_alloc | apply Step.s_drew | apply Step.s_drewN | refine Step.trans ?_ (by assumption)))⟩
     | true =>
      go_wp2_with fail
      refine (canvas.within_any _ _ _ _).mono ?_
      rintro e w' ⟨rfl, rfl⟩
      cases q3 : withinB sl 0 9 with
      | false =>
       go_wp2
       go_ret
       exact ⟨by simp [guyB, hy, q0, q1, q2, q3], (by with_reducible repeat (first | assumption | exact Step.refl _ | apply Step.s_alloc | apply Step.s_drew | apply Step.s_drewN | refine Step.trans ?_ (by assumption)))⟩
      | true =>
       go_wp2_with fail
       refine (canvas.within_any _ _ _ _).mono ?_
       rintro e w' ⟨rfl, rfl⟩
       cases q4 : withinB dp 1 3000 with
       | false =>
        go_wp2
        go_ret
        exact ⟨by simp [guyB, hy, q0, q1, q2, q3, q4], (by with_reducible repeat (first | assumption | exact Step.refl _ | apply Step.s_alloc | apply Step.s_drew | apply Step.s_drewN | refine Step.trans ?_ (by assumption)))⟩
       | true =>
        go_wp2
        go_ret
        exact ⟨by simp [guyB, hy, q0, q1, q2, q3, q4], (by with_reducible repeat (first | assumption | exact Step.refl _ | apply Step.s_alloc | apply Step.s_drew | apply Step.s_drewN | refine Step.trans ?_ (by assumption)))⟩
 ·go_enter Tryz.func121, Tryz.ntmps121
  go_wp2_with fail
  refine (canvas.within_any _ _ _ _).mono ?_
  rintro e w' ⟨rfl, rfl⟩
  cases q0 : withinB xx (-5000) 5000 with
  | false =>
   go_wp2
   go_ret
   exact ⟨by simp [guyB, hx, q0], (by with_reducible repeat (first | assumption | exact Step.refl _ | apply Step.s_alloc | apply Step.s_drew | apply Step.s_drewN | refine Step.trans ?_ (by assumption)))⟩
  | true =>
   go_wp2_with fail
   refine (canvas.within_any _ _ _ _).mono ?_
   rintro e w' ⟨rfl, rfl⟩
   cases q1 : withinB xy (-5000) 5000 with
   | false =>
    go_wp2
    go_ret
    exact ⟨by simp [guyB, hx, q0, q1], (by with_reducible repeat (first | assumption | exact Step.refl _ | apply Step.s_alloc | apply Step.s_drew | apply Step.s_drewN | refine Step.trans ?_ (by assumption)))⟩
   | true =>
    go_wp2_with fail
    refine (canvas.within_any _ _ _ _).mono ?_
    rintro e w' ⟨rfl, rfl⟩
    cases q2 : withinB dn 0 5000 with
    | false =>
     go_wp2
     go_ret
     exact ⟨by simp [guyB, hx, q0, q1, q2], (by with_reducible repeat (first | assumption | exact Step.refl _ | apply Step.s_alloc | apply Step.s_drew | apply Step.s_drewN | refine Step.trans ?_ (by assumption)))⟩
    | true =>
     go_wp2_with fail
     refine (canvas.within_any _ _ _ _).mono ?_
     rintro e w' ⟨rfl, rfl⟩
     cases q3 : withinB sl 0 9 with
     | false =>
      go_wp2
      go_ret
      exact ⟨by simp [guyB, hx, q0, q1, q2, q3], (by with_reducible repeat (first | assumption | exact Step.refl _ | apply Step.s_alloc | apply Step.s_drew | apply Step.s_drewN | refine Step.trans ?_ (by assumption)))⟩
     | true =>
      go_wp2_with fail
      refine (canvas.within_any _ _ _ _).mono ?_
      rintro e w' ⟨rfl, rfl⟩
      cases q4 : withinB dp 1 3000 with
      | false =>
       go_wp2
       go_ret
       exact ⟨by simp [guyB, hx, q0, q1, q2, q3, q4], (by with_reducible repeat (first | assumption | exact Step.refl _ | apply Step.s_alloc | apply Step.s_drew | apply Step.s_drewN | refine Step.trans ?_ (by assumption)))⟩
      | true =>
       go_wp2
       go_ret
       exact ⟨by simp [guyB, hx, q0, q1, q2, q3, q4], (by with_reducible repeat (first | assumption | exact Step.refl _ | apply Step.s_alloc | apply Step.s_drew | apply Step.s_drewN | refine Step.trans ?_ (by assumption)))⟩
theorem guys_all (S : Nat → Prop) (l : List Guy) (v : Value) (w : World) (hv : SL S w v l) : Calls Tryz.prog 120 #[v, .func (.func 121) #[] #[]] w fun e w' => e = .returned (.bool (l.all guyB)) ∧ Step w w' := by
 refine (all_guy S l v w 121 #[] (Go.Proofs.enters_of Tryz.func121 (by kernel_rfl) rfl) guyB (fun _ W => Step w W) (fun _ => False) (fun _ h => h.elim)
  (fun _ W hW => hv.keep (.of_step hW)) (fun _ _ _ h1 h2 => h1.trans h2) (Step.refl _) (fun i hi W u hW _ hu => by
   subst hu
   refine (gvalid_any l[i] W).mono ?_
   rintro e w' ⟨rfl, hs⟩
   exact ⟨rfl, hW.trans hs, hs⟩)).mono ?_
 rintro e w' ⟨rfl, k, _, _, hS⟩
 exact ⟨rfl, hS⟩
theorem hvalid_any (S : Nat → Prop) (x : Head) (v : Value) (w : World) (hv : AV S w v x) : Calls Tryz.prog 80 #[v] w fun e w' => e = .returned (.bool (headB x)) ∧ Step w w' := by
 obtain ⟨c2, rfl, h2⟩ := hv.head
 obtain ⟨p2, k2, rfl⟩ := h2.form
 have hm := h2.len
 have hcall := zH (guys_all S x.guys (.slice p2 x.guys.length k2) (w.alloc (.cells #[.int .i64 x.area, .int .i64 x.bears, .slice p2 x.guys.length k2] 88)) (h2.keep (.alloc _ _)))
 clear h2
 go_enter Tryz.func80, Tryz.ntmps80
 go_wp2_with fail
 refine (canvas.within_any _ _ _ _).mono ?_
 rintro e w' ⟨rfl, rfl⟩
 cases q0 : withinB x.area 0 1000 with
 | false =>
  go_wp2
  go_ret
  exact ⟨by simp [headB, headZ, q0], (by with_reducible repeat (first | assumption | exact Step.refl _ | apply Step.s_alloc | apply Step.s_drew | apply Step.s_drewN | refine Step.trans ?_ (by assumption)))⟩
 | true =>
  go_wp2_with fail
  refine (canvas.within_any _ _ _ _).mono ?_
  rintro e w' ⟨rfl, rfl⟩
  cases q1 : withinB x.bears 0 10000000 with
  | false =>
   go_wp2
   go_ret
   exact ⟨by simp [headB, headZ, q0, q1], (by with_reducible repeat (first | assumption | exact Step.refl _ | apply Step.s_alloc | apply Step.s_drew | apply Step.s_drewN | refine Step.trans ?_ (by assumption)))⟩
  | true =>
   cases q2 : decide ((x.guys.length : Int) ≤ 8) with
   | false =>
    go_wp2
    go_ret
    exact ⟨by simp [headB, headZ, q0, q1, q2], (by with_reducible repeat (first | assumption | exact Step.refl _ | apply Step.s_alloc | apply Step.s_drew | apply Step.s_drewN | refine Step.trans ?_ (by assumption)))⟩
   | true =>
    go_wp2_with fail
    refine hcall.out.mono ?_
    rintro e w' ⟨rfl, hS⟩
    go_wp2
    go_ret
    exact ⟨by simp [headB, headZ, q0, q1, q2], (Step.alloc _ _).trans hS⟩
theorem heads_all (S : Nat → Prop) (l : List Head) (v : Value) (w : World) (hv : SL S w v l) : Calls Tryz.prog 79 #[v, .func (.func 80) #[] #[]] w fun e w' => e = .returned (.bool (l.all headB)) ∧ Step w w' := by
 refine (all_head S l v w 80 #[] (Go.Proofs.enters_of Tryz.func80 (by kernel_rfl) rfl) headB (fun _ W => Step w W) (fun _ => False) (fun _ h => h.elim)
  (fun _ W hW => hv.keep (.of_step hW)) (fun _ _ _ h1 h2 => h1.trans h2) (Step.refl _) (fun i hi W u hW _ hu => by
   refine (hvalid_any _ l[i] u W hu).mono ?_
   rintro e w' ⟨rfl, hs⟩
   exact ⟨rfl, hW.trans hs, hs⟩)).mono ?_
 rintro e w' ⟨rfl, k, _, _, hS⟩
 exact ⟨rfl, hS⟩
theorem CheckTent_any (S : Nat → Prop) (t : List Head) (v : Value) (w : World) (hv : SL S w v t) : Calls Tryz.prog 41 #[v] w fun e w' => e = .returned (.int .i64 (tentC t)) ∧ Step w w' := by
 have hm := hv.len
 have hcall := zH (heads_all S t v w hv)
 obtain ⟨pv, cv, rfl⟩ := hv.form
 clear hv
 go_enter Tryz.func41, Tryz.ntmps41
 go_wp2_with fail
 refine (canvas.within_any _ _ _ _).mono ?_
 rintro e w' ⟨rfl, rfl⟩
 cases q0 : withinB (t.length : Int) 1 12 with
 | false =>
  go_wp2
  go_ret
  exact ⟨by simp [tentC, tentB, q0], Step.refl _⟩
 | true =>
  go_wp2_with fail
  refine hcall.out.mono ?_
  rintro e w' ⟨rfl, hS⟩
  cases q1 : t.all headB with
  | false =>
   go_wp2
   go_ret
   exact ⟨by unfold tentC tentB; rw [q0, q1]; rfl, hS⟩
  | true =>
   go_wp2
   go_ret
   exact ⟨by unfold tentC tentB; rw [q0, q1]; rfl, hS⟩
theorem in_any (v : Vec) (n : Int) (w : World) (hn : 0 ≤ n ∧ n ≤ 1000000000) : Calls Tryz.prog 128 #[.agg #[.int .i64 v.x, .int .i64 v.y], .int .i64 n] w fun e w' => e = .returned (.bool (withinB v.x (-n) n && withinB v.y (-n) n)) ∧ Step w w' := by
 have hw : IntKind.i64.wrap (-n) = -n := by rw [IntKind.wrap_i64]; omega
 go_enter Tryz.func128, Tryz.ntmps128
 go_wp2_with fail
 refine (canvas.within_any _ _ _ _).mono ?_
 rintro e w' ⟨rfl, rfl⟩
 cases q0 : withinB v.x (-n) n with
 | false =>
  go_wp2
  go_ret
  exact ⟨by simp [Bool.and_true, q0], (by with_reducible repeat (first | assumption | exact Step.refl _ | apply Step.s_alloc | apply Step.s_drew | apply Step.s_drewN | refine Step.trans ?_ (by assumption)))⟩
 | true =>
  go_wp2_with fail
  refine (canvas.within_any _ _ _ _).mono ?_
  rintro e w' ⟨rfl, rfl⟩
  cases q1 : withinB v.y (-n) n with
  | false =>
   go_wp2
   go_ret
   exact ⟨by simp [Bool.and_true, q0, q1], (by with_reducible repeat (first | assumption | exact Step.refl _ | apply Step.s_alloc | apply Step.s_drew | apply Step.s_drewN | refine Step.trans ?_ (by assumption)))⟩
  | true =>
   go_wp2
   go_ret
   exact ⟨by simp [Bool.and_true, q0, q1], (by with_reducible repeat (first | assumption | exact Step.refl _ | apply Step.s_alloc | apply Step.s_drew | apply Step.s_drewN | refine Step.trans ?_ (by assumption)))⟩
theorem windy1_any (v : Vec) (w : World) : Calls Tryz.prog 127 #[.agg #[.int .i64 v.x, .int .i64 v.y]] w fun e w' => e = .returned (.bool (cornerB v)) ∧ Step w w' := by
 have hcall := zH (in_any v 10000 (w.alloc (.cells #[.int .i64 v.x, .int .i64 v.y] 52)) (by omega))
 go_enter Tryz.func127, Tryz.ntmps127
 go_wp2_with fail
 refine hcall.out.mono ?_
 rintro e w' ⟨rfl, hS⟩
 go_wp2
 go_ret
 exact ⟨rfl, (Step.alloc _ _).trans hS⟩
theorem windy_any (S : Nat → Prop) (l : List Vec) (v : Value) (w : World) (hv : SL S w v l) : Calls Tryz.prog 87 #[v] w fun e w' => e = .returned (.bool (windB l)) ∧ Step w w' := by
 have hm := hv.len
 have hc := all_vec S l v w 127 #[] (Go.Proofs.enters_of Tryz.func127 (by kernel_rfl) rfl) cornerB (fun _ W => Step w W) (fun _ => False) (fun _ h => h.elim)
  (fun _ W hW => hv.keep (.of_step hW)) (fun _ _ _ h1 h2 => h1.trans h2) (Step.refl _) (fun i hi W u hW _ hu => by
   subst hu
   refine (windy1_any l[i] W).mono ?_
   rintro e w' ⟨rfl, hs⟩
   exact ⟨rfl, hW.trans hs, hs⟩)
 have HC := zH hc
 obtain ⟨pv, cv, rfl⟩ := hv.form
 clear hc hv
 go_enter Tryz.func87, Tryz.ntmps87
 go_wp2_with fail
 refine (canvas.within_any _ _ _ _).mono ?_
 rintro e w' ⟨rfl, rfl⟩
 cases q0 : withinB (l.length : Int) 1 12 with
 | false =>
  go_wp2
  go_ret
  exact ⟨by simp [windB, q0], Step.refl _⟩
 | true =>
  go_wp2_with fail
  refine HC.out.mono ?_
  rintro e w' ⟨rfl, k, _, _, hS⟩
  go_wp2
  go_ret
  exact ⟨by simp [windB, q0], hS⟩
theorem tst_wrap {x y : Tst} (hx : tstB x = true) (hy : tstB y = true) : IntKind.i64.wrap (x.force * y.depth) = x.force * y.depth := by
 have := force_bound hx (tst_parts hy).2.1
 rw [IntKind.wrap_i64]; omega
theorem against_any (x y : Tst) (w : World) (hx : tstB x = true) (hy : tstB y = true) :
  Calls Tryz.prog 125 #[.agg #[.int .i64 x.soil, .int .i64 x.depth, .int .i64 x.force, .bool x.held], .agg #[.int .i64 y.soil, .int .i64 y.depth, .int .i64 y.force, .bool y.held]] w fun e w' => e = .returned (.bool (againstB x y)) ∧ Step w w' := by
 have h1 := tst_wrap hx hy
 have h2 := tst_wrap hy hx
 clear hx hy
 obtain ⟨xs, xd, xf, xh⟩ := x
 obtain ⟨ys, yd, yf, yh⟩ := y
 dsimp only at h1 h2 ⊢
 cases xh with
 | false =>
  go_enter Tryz.func125, Tryz.ntmps125
  go_wp2
  go_ret
  exact ⟨by simp [againstB], (by with_reducible repeat (first | assumption | exact Step.refl _ | apply Step.s_alloc | apply Step.s_drew | apply Step.s_drewN | refine Step.trans ?_ (by assumption)))⟩
 | true =>
  cases yh with
  | true =>
   go_enter Tryz.func125, Tryz.ntmps125
   go_wp2
   go_ret
   exact ⟨by simp [againstB], (by with_reducible repeat (first | assumption | exact Step.refl _ | apply Step.s_alloc | apply Step.s_drew | apply Step.s_drewN | refine Step.trans ?_ (by assumption)))⟩
  | false =>
   by_cases hs : xs = ys
   ·have hd : (xs == ys) = true := by simpa using hs
    have HS := zH hs
    clear hs
    go_enter Tryz.func125, Tryz.ntmps125
    go_wp2
    go_ret
    exact ⟨by simp [againstB, HS.out], (by with_reducible repeat (first | assumption | exact Step.refl _ | apply Step.s_alloc | apply Step.s_drew | apply Step.s_drewN | refine Step.trans ?_ (by assumption)))⟩
   ·have hd : (xs == ys) = false := by simpa using hs
    have HS := zH hs
    clear hs
    go_enter Tryz.func125, Tryz.ntmps125
    go_wp2
    go_ret
    exact ⟨by simp [againstB, HS.out], (by with_reducible repeat (first | assumption | exact Step.refl _ | apply Step.s_alloc | apply Step.s_drew | apply Step.s_drewN | refine Step.trans ?_ (by assumption)))⟩
theorem indexAgainst_any (S : Nat → Prop) (x : Tst) (l : List Tst) (v : Value) (w : World) (hv : SL S w v l) (hx : tstB x = true) (hl : l.all tstB = true) :
  Calls Tryz.prog 124 #[v, .func (.func 125) #[.agg #[.int .i64 x.soil, .int .i64 x.depth, .int .i64 x.force, .bool x.held]] #[]] w fun e w' => e = .returned (.int .i64 (idxOf (againstB x) l)) ∧ Step w w' := by
 have hm := hv.len
 obtain ⟨pv, cv, b, o, rfl, _, _, hp, hc, _⟩ := hv.tsts
 have HP := zH (And.intro hp hc)
 have HL := zH (And.intro hx hl)
 have HT0 := zH (Step.refl w)
 clear hp hc hx hl hv
 go_enter Tryz.func124, Tryz.ntmps124
 go_wp2
 go_loopw [8] (fun i wr => ∃ k : Nat, k ≤ l.length ∧ i = .int .i64 k ∧ (∀ j (hj : j < k) (hl : j < l.length), againstB x l[j] = false) ∧ Step w wr) (fun i _ => l.length - (intOf i).toNat)
 case atStart => exact ⟨0, Nat.zero_le _, rfl, fun j hj => absurd hj (by omega), HT0.out⟩
 case round =>
  obtain ⟨k, hk, rfl, hno, hT⟩ := hrel
  have HN := zH hno
  have HT := zH hT
  clear hno hT
  by_cases hlt : k < l.length
  ·obtain rfl := HP.out.1 (by omega)
   obtain ⟨e1, e2, e3, e4⟩ := HP.out.2 k hlt
   have e1 := HT.out.kc e1
   have e2 := HT.out.kc e2
   have e3 := HT.out.kc e3
   have e4 := HT.out.kc e4
   have hix : (0 : Int) ≤ (k : Int) ∧ (k : Int) < (l.length : Int) := by omega
   have hcall := zH (against_any x l[k] wr HL.out.1 (all_get HL.out.2 hlt))
   go_wp2_with fail
   refine hcall.out.mono ?_
   rintro e w' ⟨rfl, hS⟩
   clear hcall e1 e2 e3 e4
   cases hq : againstB x l[k] with
   | true =>
    have HQ := zH hq
    have HS := zH hS
    clear hq hS
    go_wp2
    go_ret
    exact ⟨by rw [idxOf_at hlt (fun j hj => HN.out j hj (by omega)) HQ.out]; rfl, HT.out.trans HS.out⟩
   | false =>
    have HQ := zH hq
    have HS := zH hS
    clear hq hS
    go_wp2
    go_roundw
    case rel => exact ⟨k + 1, by omega, by go_num, fun j hj hl => if h : j = k then by subst h; exact HQ.out else HN.out j (by omega) hl, HT.out.trans HS.out⟩
    case measure => simp [intOf]; omega
  ·go_wp2
   go_ret
   exact ⟨by rw [idxOf_none (fun j hj => HN.out j (by omega) hj)]; rfl, HT.out⟩
theorem clash_any (S : Nat → Prop) (l : List Tst) (v : Value) (w : World) (hv : SL S w v l) (hl : l.all tstB = true) :
  Calls Tryz.prog 83 #[v] w fun e w' => ∃ i j : Int, e = .returned (.tuple #[.int .i64 i, .int .i64 j]) ∧ (decide (0 ≤ i) = clashB l) ∧ Step w w' := by
 have hm := hv.len
 have hv0 := hv
 obtain ⟨pv, cv, b, o, rfl, _, _, hp, hc, _⟩ := hv.tsts
 have HP := zH (And.intro hp hc)
 have HL := zH hl
 have HV := zH hv0
 have HT0 := zH (Step.refl w)
 clear hp hc hl hv hv0
 go_enter Tryz.func83, Tryz.ntmps83
 go_wp2
 go_loopw [9] (fun i wr => ∃ k : Nat, k ≤ l.length ∧ i = .int .i64 k ∧ (∀ j (hj : j < k) (hl : j < l.length), l.any (againstB l[j]) = false) ∧ Step w wr) (fun i _ => l.length - (intOf i).toNat)
 case atStart => exact ⟨0, Nat.zero_le _, rfl, fun j hj => absurd hj (by omega), HT0.out⟩
 case round =>
  obtain ⟨k, hk, rfl, hno, hT⟩ := hrel
  have HN := zH hno
  have HT := zH hT
  clear hno hT
  by_cases hlt : k < l.length
  ·obtain rfl := HP.out.1 (by omega)
   obtain ⟨e1, e2, e3, e4⟩ := HP.out.2 k hlt
   have e1 := HT.out.kc e1
   have e2 := HT.out.kc e2
   have e3 := HT.out.kc e3
   have e4 := HT.out.kc e4
   have hix : (0 : Int) ≤ (k : Int) ∧ (k : Int) < (l.length : Int) := by omega
   have hcall := zH (indexAgainst_any S l[k] l _ (wr.alloc (.cells #[.int .i64 l[k].soil, .int .i64 l[k].depth, .int .i64 l[k].force, .bool l[k].held] 83)) (HV.out.keep (.of_step (HT.out.trans (Step.alloc _ _)))) (all_get HL.out hlt) HL.out)
   go_wp2_with fail
   refine hcall.out.mono ?_
   rintro e w' ⟨rfl, hS⟩
   have hge := idxOf_ge (againstB l[k]) l
   have HS := zH ((Step.alloc _ _).trans hS)
   clear hcall e1 e2 e3 e4 hS
   cases hq : l.any (againstB l[k]) with
   | true =>
    rw [hq] at hge
    have HQ := zH (And.intro hge (show clashB l = true from List.any_eq_true.2 ⟨_, List.getElem_mem hlt, hq⟩))
    clear hq
    go_wp2
    go_ret2
    exact ⟨_, _, rfl, by rw [HQ.out.2]; simp, HT.out.trans HS.out⟩
   | false =>
    rw [hq] at hge
    have HQ := zH hq
    clear hq
    go_wp2
    go_roundw
    case rel => exact ⟨k + 1, by omega, by go_num, fun j hj hl => if h : j = k then by subst h; exact HQ.out else HN.out j (by omega) hl, HT.out.trans HS.out⟩
    case measure => simp [intOf]; omega
  ·have HQ := zH (show clashB l = false by
    unfold clashB
    rw [List.any_eq_false]
    intro y hy
    obtain ⟨j, hj, rfl⟩ := List.getElem_of_mem hy
    rw [HN.out j (by omega) hj]; decide)
   go_wp2
   go_ret2
   exact ⟨_, _, rfl, by rw [HQ.out]; decide, HT.out⟩
theorem sound_any (S : Nat → Prop) (l : List Tst) (v : Value) (w : World) (hv : SL S w v l) (hl : l.all tstB = true) :
  Calls Tryz.prog 88 #[v] w fun e w' => e = .returned (.int .i64 (soundC l)) ∧ Step w w' := by
 have hcall := zH (clash_any S l v w hv hl)
 obtain ⟨pv, cv, rfl⟩ := hv.form
 clear hv hl
 go_enter Tryz.func88, Tryz.ntmps88
 go_wp2_with fail
 refine hcall.out.mono ?_
 rintro e w' ⟨i, j, rfl, hq, hS⟩
 clear hcall
 cases q : clashB l with
 | true =>
  rw [q] at hq
  have HQ := zH q
  clear q
  go_wp2
  go_ret
  exact ⟨by simp [soundC, HQ.out], hS⟩
 | false =>
  rw [q] at hq
  have HQ := zH q
  clear q
  go_wp2
  go_ret
  exact ⟨by simp [soundC, HQ.out], hS⟩
theorem siRange : SI Tryz.prog 212 2 := ⟨⟨_, Tryz.underlying212⟩, by kernel_rfl⟩
theorem quo_wrap {x : Tst} {d : Int} (h : tstB x = true) (hd : 1 ≤ d ∧ d ≤ 3000) : IntKind.i64.wrap (x.force * d) = x.force * d ∧ IntKind.i64.wrap ((x.force * d).tdiv x.depth) = x.force * d / x.depth ∧ ¬ x.depth = 0 := by
 have h1 := force_bound h hd
 have h2 := quo_bound h hd
 obtain ⟨_, h3, _⟩ := tst_parts h
 rw [Int.tdiv_eq_ediv_of_nonneg (by omega), IntKind.wrap_i64, IntKind.wrap_i64]
 omega
theorem top_wrap {x : Tst} {d : Int} (h : tstB x = true) (hd : 1 ≤ d ∧ d ≤ 3000) : IntKind.i64.wrap (x.force * d + x.depth) = x.force * d + x.depth ∧ IntKind.i64.wrap (x.force * d + x.depth - 1) = x.force * d + x.depth - 1 ∧ IntKind.i64.wrap ((x.force * d + x.depth - 1).tdiv x.depth) = (x.force * d + x.depth - 1) / x.depth ∧ IntKind.i64.wrap ((x.force * d + x.depth - 1) / x.depth - 1) = (x.force * d + x.depth - 1) / x.depth - 1 := by
 have h1 := force_bound h hd
 have h2 := top_bound h hd
 obtain ⟨_, h3, _⟩ := tst_parts h
 rw [Int.tdiv_eq_ediv_of_nonneg (by omega), IntKind.wrap_i64, IntKind.wrap_i64, IntKind.wrap_i64, IntKind.wrap_i64]
 omega
theorem step_no {s d : Int} {r : Rng} {x : Tst} (h : ¬ x.soil = s) : stepH s d r x = r := by unfold stepH; rw [if_neg h]
theorem step_held {s d : Int} {r : Rng} {x : Tst} (h : x.soil = s) (hh : x.held = true) : stepH s d r x = ⟨if r.lo < x.force * d / x.depth then x.force * d / x.depth else r.lo, r.hi⟩ := by
 unfold stepH; rw [if_pos h, if_pos hh]; congr 1; omega
theorem step_broke {s d : Int} {r : Rng} {x : Tst} (h : x.soil = s) (hh : x.held = false) : stepH s d r x = ⟨r.lo, if (x.force * d + x.depth - 1) / x.depth - 1 < r.hi then (x.force * d + x.depth - 1) / x.depth - 1 else r.hi⟩ := by
 unfold stepH; rw [if_pos h, if_neg (by rw [hh]; decide)]; congr 1; omega
theorem holds_any (S : Nat → Prop) (l : List Tst) (s d : Int) (v : Value) (w : World) (hv : SL S w v l) (hl : l.all tstB = true) (hd : 1 ≤ d ∧ d ≤ 3000) :
  Calls Tryz.prog 152 #[v, .int .i64 s, .int .i64 d] w fun e w' => e = .returned (.agg #[.int .i64 (holdsL l s d).lo, .int .i64 (holdsL l s d).hi]) ∧ Step w w' := by
 have hm := hv.len
 obtain ⟨pv, cv, b, o, rfl, _, _, hp, hc, _⟩ := hv.tsts
 have HP := zH (And.intro hp hc)
 have HL := zH hl
 have HD := zH hd
 obtain ⟨W0, hW0⟩ : ∃ W, W = (w.alloc (.cells #[.int .i64 0, .int .i64 0] 212)).alloc (.cells #[.int .i64 0, .int .i64 10000000] 212) := ⟨_, rfl⟩
 have hb1 : Bx W0 w.heap.size [.int .i64 0, .int .i64 0] 212 := by subst hW0; exact (Bx.new w [_, _] _).alloc _
 have hb2 : Bx W0 (w.heap.size + 1) [.int .i64 0, .int .i64 10000000] 212 := by subst hW0; exact Bx.new' _ [_, _] _ _ (by simp)
 have hS : Step w W0 := by subst hW0; exact (by with_reducible repeat (first | assumption | exact Step.refl _ | apply Step.s_alloc | apply Step.s_drew | apply Step.s_drewN | refine Step.trans ?_ (by assumption)))
 have HB1 := zH hb1
 have HB2 := zH hb2
 have HS := zH hS
 have HW := zH hW0
 clear hp hc hl hd hv hb1 hb2 hS hW0
 go_enter Tryz.func152, Tryz.ntmps152
 go_wp2
 rw [← HW.out]
 go_loopw [13] (fun i wr => ∃ k : Nat, k ≤ l.length ∧ i = .int .i64 k ∧ Bx wr w.heap.size [.int .i64 0, .int .i64 0] 212 ∧ Bx wr (w.heap.size + 1) [.int .i64 (holdsL (l.take k) s d).lo, .int .i64 (holdsL (l.take k) s d).hi] 212 ∧ Step w wr) (fun i _ => l.length - (intOf i).toNat)
 case atStart => exact ⟨0, Nat.zero_le _, rfl, HB1.out, HB2.out, HS.out⟩
 case round =>
  obtain ⟨k, hk, rfl, hb1, hb2, hT⟩ := hrel
  have HT := zH hT
  have HB1 := zH hb1
  have HB2 := zH hb2
  clear hT hb1 hb2
  obtain ⟨r, hr⟩ : ∃ r, r = holdsL (l.take k) s d := ⟨_, rfl⟩
  rw [← hr] at HB2
  have HR := zH hr
  clear hr
  have r0 := HB2.out.cell 0
  have r1 := HB2.out.cell 1
  have z0 := HB2.out.frozen 0
  have z1 := HB2.out.frozen 1
  have rl := HB2.out.lt
  simp only [zD, zE] at r0 r1
  by_cases hlt : k < l.length
  ·obtain rfl := HP.out.1 (by omega)
   obtain ⟨e1, e2, e3, e4⟩ := HP.out.2 k hlt
   have e1 := HT.out.kc e1
   have e2 := HT.out.kc e2
   have e3 := HT.out.kc e3
   have e4 := HT.out.kc e4
   have hix : (0 : Int) ≤ (k : Int) ∧ (k : Int) < (l.length : Int) := by omega
   obtain ⟨x, hx⟩ : ∃ x, x = l[k] := ⟨_, rfl⟩
   have htx := all_get HL.out hlt
   rw [← hx] at e1 e2 e3 e4 htx
   have HTK := zH (show holdsL (l.take (k + 1)) s d = stepH s d r x by rw [holds_take hlt, ← HR.out, ← hx])
   clear hx
   obtain ⟨hw1, hw2, hw3⟩ := quo_wrap htx HD.out
   obtain ⟨hw4, hw5, hw6, hw7⟩ := top_wrap htx HD.out
   clear htx
   by_cases hs : x.soil = s
   ·have hd : (x.soil != s) = false := by simpa using hs
    have HSO := zH hs
    clear hs
    cases hh : x.held with
    | true =>
     rw [hh] at e4
     have HN := zH (HTK.out.trans (step_held HSO.out hh))
     clear hh
     go_wp2
     go_region
     go_wp2
     go_roundw
     case rel => exact ⟨k + 1, by omega, by go_num, ((HB1.out.setOther (Nat.ne_of_lt (Nat.lt_succ_self _))).alloc _).step (.drew _), by rw [HN.out]; exact ((HB2.out.setCell 0 _).alloc _).step (.drew _), ((HT.out.setNew ⟨w.heap.size + 1, 0, none⟩ _ (by show w.heap.size ≤ w.heap.size + 1; omega)).trans (Step.alloc _ _)).trans (.drew _)⟩
     case measure => simp [intOf]; omega
    | false =>
     rw [hh] at e4
     have HN := zH (HTK.out.trans (step_broke HSO.out hh))
     clear hh
     go_wp2
     go_region
     go_wp2
     go_roundw
     case rel => exact ⟨k + 1, by omega, by go_num, ((HB1.out.setOther (Nat.ne_of_lt (Nat.lt_succ_self _))).alloc _).step (.drew _), by rw [HN.out]; exact ((HB2.out.setCell 1 _).alloc _).step (.drew _), ((HT.out.setNew ⟨w.heap.size + 1, 1, none⟩ _ (by show w.heap.size ≤ w.heap.size + 1; omega)).trans (Step.alloc _ _)).trans (.drew _)⟩
     case measure => simp [intOf]; omega
   ·have hd : (x.soil != s) = true := by simpa using hs
    have HN := zH (HTK.out.trans (step_no hs))
    clear hs
    go_wp2
    go_roundw
    case rel => exact ⟨k + 1, by omega, by go_num, HB1.out.alloc _, by rw [HN.out]; exact HB2.out.alloc _, HT.out.trans (Step.alloc _ _)⟩
    case measure => simp [intOf]; omega
  ·have HN := zH (show r = holdsL l s d by rw [HR.out, List.take_of_length_le (by omega)])
   have a0 := HB1.out.cell 0
   have a1 := HB1.out.cell 1
   have y0 := HB1.out.frozen 0
   have y1 := HB1.out.frozen 1
   have yl := HB1.out.lt
   simp only [zD, zE] at a0 a1
   go_wp2
   have b2 := set2 HB1.out (.int .i64 r.lo) (.int .i64 r.hi)
   exact ret_struct (k := 2) rfl siRange rfl b2.1 rfl rfl ⟨by rw [HN.out], StepX.fresh HT.out b2.2 (fun j hj => by omega)⟩
theorem siRRange : SI Tryz.prog 215 2 := ⟨⟨_, Tryz.underlying215⟩, by kernel_rfl⟩
theorem back_wrap {x : Tst} {d : Int} (h : tstB x = true) (hd : 1 ≤ d ∧ d ≤ 3000) : IntKind.i64.wrap (x.force * d / x.depth * x.depth) = x.force * d / x.depth * x.depth ∧ IntKind.i64.wrap (x.force * d / x.depth + 1) = x.force * d / x.depth + 1 ∧ IntKind.i64.wrap (x.force * d / x.depth - 1) = x.force * d / x.depth - 1 ∧ IntKind.i64.wrap (x.force * d / x.depth) = x.force * d / x.depth := by
 have h1 := force_bound h hd
 have h2 := quo_bound h hd
 obtain ⟨_, h3, _⟩ := tst_parts h
 have h4 := Int.ediv_mul_le (x.force * d) (show x.depth ≠ 0 by omega)
 have h5 := Int.mul_nonneg h2.1 (show 0 ≤ x.depth by omega)
 rw [IntKind.wrap_i64, IntKind.wrap_i64, IntKind.wrap_i64, IntKind.wrap_i64]
 omega
theorem top_up {x : Tst} {d : Int} (h : tstB x = true) (hd : 1 ≤ d ∧ d ≤ 3000) (hq : x.force * d / x.depth * x.depth < x.force * d) : (x.force * d + x.depth - 1) / x.depth = x.force * d / x.depth + 1 := by
 rw [up_quo (force_bound h hd).1 (tst_parts h).2.1.1, if_pos hq]
theorem top_same {x : Tst} {d : Int} (h : tstB x = true) (hd : 1 ≤ d ∧ d ≤ 3000) (hq : ¬ x.force * d / x.depth * x.depth < x.force * d) : (x.force * d + x.depth - 1) / x.depth = x.force * d / x.depth := by
 rw [up_quo (force_bound h hd).1 (tst_parts h).2.1.1, if_neg hq]
theorem RHolds_any (S : Nat → Prop) (l : List Tst) (s d : Int) (v : Value) (w : World) (hv : SL S w v l) (hl : l.all tstB = true) (hd : 1 ≤ d ∧ d ≤ 3000) :
  Calls Tryz.prog 154 #[v, .int .i64 s, .int .i64 d] w fun e w' => e = .returned (.agg #[.int .i64 (holdsL l s d).lo, .int .i64 (holdsL l s d).hi]) ∧ Step w w' := by
 have hm := hv.len
 obtain ⟨pv, cv, b, o, rfl, _, _, hp, hc, _⟩ := hv.tsts
 have HP := zH (And.intro hp hc)
 have HL := zH hl
 have HD := zH hd
 obtain ⟨W0, hW0⟩ : ∃ W, W = (w.alloc (.cells #[.int .i64 0, .int .i64 0] 215)).alloc (.cells #[.int .i64 0, .int .i64 10000000] 215) := ⟨_, rfl⟩
 have hb1 : Bx W0 w.heap.size [.int .i64 0, .int .i64 0] 215 := by subst hW0; exact (Bx.new w [_, _] _).alloc _
 have hb2 : Bx W0 (w.heap.size + 1) [.int .i64 0, .int .i64 10000000] 215 := by subst hW0; exact Bx.new' _ [_, _] _ _ (by simp)
 have hS : Step w W0 := by subst hW0; exact (by with_reducible repeat (first | assumption | exact Step.refl _ | apply Step.s_alloc | apply Step.s_drew | apply Step.s_drewN | refine Step.trans ?_ (by assumption)))
 have HB1 := zH hb1
 have HB2 := zH hb2
 have HS := zH hS
 have HW := zH hW0
 clear hp hc hl hd hv hb1 hb2 hS hW0
 go_enter Tryz.func154, Tryz.ntmps154
 go_wp2
 rw [← HW.out]
 go_loopw [8] (fun i wr => ∃ k : Nat, k ≤ l.length ∧ i = .int .i64 k ∧ Bx wr w.heap.size [.int .i64 0, .int .i64 0] 215 ∧ Bx wr (w.heap.size + 1) [.int .i64 (holdsL (l.take k) s d).lo, .int .i64 (holdsL (l.take k) s d).hi] 215 ∧ Step w wr) (fun i _ => l.length - (intOf i).toNat)
 case atStart => exact ⟨0, Nat.zero_le _, rfl, HB1.out, HB2.out, HS.out⟩
 case round =>
  obtain ⟨k, hk, rfl, hb1, hb2, hT⟩ := hrel
  have HT := zH hT
  have HB1 := zH hb1
  have HB2 := zH hb2
  clear hT hb1 hb2
  obtain ⟨r, hr⟩ : ∃ r, r = holdsL (l.take k) s d := ⟨_, rfl⟩
  rw [← hr] at HB2
  have HR := zH hr
  clear hr
  have r0 := HB2.out.cell 0
  have r1 := HB2.out.cell 1
  have z0 := HB2.out.frozen 0
  have z1 := HB2.out.frozen 1
  have rl := HB2.out.lt
  simp only [zD, zE] at r0 r1
  by_cases hlt : k < l.length
  ·obtain rfl := HP.out.1 (by omega)
   obtain ⟨e1, e2, e3, e4⟩ := HP.out.2 k hlt
   have e1 := HT.out.kc e1
   have e2 := HT.out.kc e2
   have e3 := HT.out.kc e3
   have e4 := HT.out.kc e4
   have hix : (0 : Int) ≤ (k : Int) ∧ (k : Int) < (l.length : Int) := by omega
   obtain ⟨x, hx⟩ : ∃ x, x = l[k] := ⟨_, rfl⟩
   have htx := all_get HL.out hlt
   rw [← hx] at e1 e2 e3 e4 htx
   have HTK := zH (show holdsL (l.take (k + 1)) s d = stepH s d r x by rw [holds_take hlt, ← HR.out, ← hx])
   clear hx
   obtain ⟨hw1, hw2, hw3⟩ := quo_wrap htx HD.out
   obtain ⟨hw4, hw5, hw6, hw7⟩ := back_wrap htx HD.out
   have HX := zH htx
   clear htx
   by_cases hs : x.soil = s
   ·have hd : (x.soil != s) = false := by simpa using hs
    have HSO := zH hs
    clear hs
    cases hh : x.held with
    | true =>
     rw [hh] at e4
     have HN := zH (HTK.out.trans (step_held HSO.out hh))
     clear hh
     go_wp2
     go_roundw
     case rel => exact ⟨k + 1, by omega, by go_num, (HB1.out.setOther (Nat.ne_of_lt (Nat.lt_succ_self _))).alloc _, by rw [HN.out]; exact (HB2.out.setCell 0 _).alloc _, (HT.out.setNew ⟨w.heap.size + 1, 0, none⟩ _ (by show w.heap.size ≤ w.heap.size + 1; omega)).trans (Step.alloc _ _)⟩
     case measure => simp [intOf]; omega
    | false =>
     rw [hh] at e4
     have HN := zH (HTK.out.trans (step_broke HSO.out hh))
     clear hh
     by_cases hq : x.force * d / x.depth * x.depth < x.force * d
     ·have hd2 : decide (x.force * d / x.depth * x.depth < x.force * d) = true := by simpa using hq
      have HN := zH (by have h := HN.out; rw [top_up HX.out HD.out hq, Int.add_sub_cancel] at h; exact h)
      clear hq
      go_wp2
      go_roundw
      case rel => exact ⟨k + 1, by omega, by go_num, (HB1.out.setOther (Nat.ne_of_lt (Nat.lt_succ_self _))).alloc _, by rw [HN.out]; exact (HB2.out.setCell 1 _).alloc _, (HT.out.setNew ⟨w.heap.size + 1, 1, none⟩ _ (by show w.heap.size ≤ w.heap.size + 1; omega)).trans (Step.alloc _ _)⟩
      case measure => simp [intOf]; omega
     ·have hd2 : decide (x.force * d / x.depth * x.depth < x.force * d) = false := by simpa using hq
      have HN := zH (by have h := HN.out; rw [top_same HX.out HD.out hq] at h; exact h)
      clear hq
      go_wp2
      go_roundw
      case rel => exact ⟨k + 1, by omega, by go_num, (HB1.out.setOther (Nat.ne_of_lt (Nat.lt_succ_self _))).alloc _, by rw [HN.out]; exact (HB2.out.setCell 1 _).alloc _, (HT.out.setNew ⟨w.heap.size + 1, 1, none⟩ _ (by show w.heap.size ≤ w.heap.size + 1; omega)).trans (Step.alloc _ _)⟩
      case measure => simp [intOf]; omega
   ·have hd : (x.soil != s) = true := by simpa using hs
    have HN := zH (HTK.out.trans (step_no hs))
    clear hs
    go_wp2
    go_roundw
    case rel => exact ⟨k + 1, by omega, by go_num, HB1.out.alloc _, by rw [HN.out]; exact HB2.out.alloc _, HT.out.trans (Step.alloc _ _)⟩
    case measure => simp [intOf]; omega
  ·have HN := zH (show r = holdsL l s d by rw [HR.out, List.take_of_length_le (by omega)])
   have a0 := HB1.out.cell 0
   have a1 := HB1.out.cell 1
   have y0 := HB1.out.frozen 0
   have y1 := HB1.out.frozen 1
   have yl := HB1.out.lt
   simp only [zD, zE] at a0 a1
   go_wp2
   have b2 := set2 HB1.out (.int .i64 r.lo) (.int .i64 r.hi)
   exact ret_struct (k := 2) rfl siRRange rfl b2.1 rfl rfl ⟨by rw [HN.out], StepX.fresh HT.out b2.2 (fun j hj => by omega)⟩
theorem sq_mono {a b : Int} (h0 : 0 ≤ a) (h : a ≤ b) : a * a ≤ b * b := Int.mul_le_mul h h h0 (by omega)
theorem guy_wrap {g : Guy} (h : guyB g = true) : IntKind.i64.wrap (g.x * g.x) = g.x * g.x ∧ IntKind.i64.wrap (g.y * g.y) = g.y * g.y ∧ IntKind.i64.wrap (g.x * g.x + g.y * g.y) = g.x * g.x + g.y * g.y := by
 obtain ⟨hx, hy, _⟩ := guy_parts h
 have a := sq_bound hx
 have b := sq_bound hy
 rw [IntKind.wrap_i64, IntKind.wrap_i64, IntKind.wrap_i64]
 omega
theorem Length_any (g : Guy) (w : World) (hg : guyB g = true) :
  Calls Tryz.prog 155 #[.agg #[.int .i64 g.x, .int .i64 g.y, .int .i64 g.down, .int .i64 g.soil, .int .i64 g.depth]] w fun e w' => e = .returned (.int .i64 (lenL (g.x * g.x + g.y * g.y))) ∧ Step w w' := by
 obtain ⟨hw1, hw2, hw3⟩ := guy_wrap hg
 have hq := guy_sq hg
 obtain ⟨n, hn⟩ : ∃ n, n = lenL (g.x * g.x + g.y * g.y) := ⟨_, rfl⟩
 have hlen := len_sq hq.1 (by omega)
 rw [← hn] at hlen ⊢
 have HLEN := zH hlen
 obtain ⟨W0, hW0⟩ : ∃ W, W = w.alloc (.cells #[.int .i64 g.x, .int .i64 g.y, .int .i64 g.down, .int .i64 g.soil, .int .i64 g.depth] 123) := ⟨_, rfl⟩
 have hb : Bx W0 w.heap.size [.int .i64 g.x, .int .i64 g.y, .int .i64 g.down, .int .i64 g.soil, .int .i64 g.depth] 123 := by subst hW0; exact Bx.new w [_, _, _, _, _] _
 have hS : Step w W0 := by subst hW0; exact Step.alloc _ _
 have HB := zH hb
 have HS := zH hS
 have HW := zH hW0
 clear hb hS hW0 hn hlen hq hg
 go_enter Tryz.func155, Tryz.ntmps155
 go_wp2
 rw [← HW.out]
 go_loopw [3] (fun i wr => ∃ k : Int, 0 ≤ k ∧ k ≤ n ∧ i = .int .i64 k ∧ Step W0 wr) (fun i _ => (n - intOf i).toNat)
 case atStart => exact ⟨0, by omega, by have := HLEN.out; omega, rfl, Step.refl _⟩
 case round =>
  obtain ⟨k, hk0, hkn, rfl, hT⟩ := hrel
  have HT := zH hT
  clear hT
  have e0 := (HB.out.step HT.out).cell 0
  have e1 := (HB.out.step HT.out).cell 1
  simp only [zD, zE] at e0 e1
  have hk2 := sq_mono hk0 (show k ≤ 10000 by have := HLEN.out; omega)
  have hw4 : IntKind.i64.wrap (k * k) = k * k := by rw [IntKind.wrap_i64]; have := Zono.sq_nonneg k; omega
  have hw5 : IntKind.i64.wrap (k + 1) = k + 1 := by rw [IntKind.wrap_i64]; have := HLEN.out; omega
  by_cases hlt : k * k < g.x * g.x + g.y * g.y
  ·have hd : decide (k * k < g.x * g.x + g.y * g.y) = true := by simpa using hlt
   have hkn2 : k < n := by
    refine Int.not_le.1 fun h => ?_
    have := sq_mono (show 0 ≤ n by have := HLEN.out; omega) h
    have := HLEN.out
    omega
   clear hlt hk2
   go_wp2
   go_roundw
   case rel => exact ⟨k + 1, by omega, by omega, rfl, HT.out⟩
   case measure => simp [intOf]; omega
  ·have hd : decide (k * k < g.x * g.x + g.y * g.y) = false := by simpa using hlt
   have hkn2 : k = n := by
    refine Int.le_antisymm hkn (Int.not_lt.1 fun h => ?_)
    have := sq_mono hk0 (show k ≤ n - 1 by omega)
    have := HLEN.out
    omega
   have HK := zH hkn2
   clear hlt hk2 hkn2
   go_wp2
   go_ret
   exact ⟨by rw [← HK.out]; rfl, HS.out.trans HT.out⟩
theorem length_any (g : Guy) (w : World) (hg : guyB g = true) :
  Calls Tryz.prog 153 #[.agg #[.int .i64 g.x, .int .i64 g.y, .int .i64 g.down, .int .i64 g.soil, .int .i64 g.depth]] w fun e w' => e = .returned (.int .i64 (lenL (g.x * g.x + g.y * g.y))) ∧ Step w w' := by
 obtain ⟨hw1, hw2, hw3⟩ := guy_wrap hg
 have hq := guy_sq hg
 obtain ⟨n, hn⟩ : ∃ n, n = lenL (g.x * g.x + g.y * g.y) := ⟨_, rfl⟩
 have hlen := len_sq hq.1 (by omega)
 rw [← hn] at hlen ⊢
 have HLEN := zH hlen
 have HS := zH (Step.alloc w (.cells #[.int .i64 g.x, .int .i64 g.y, .int .i64 g.down, .int .i64 g.soil, .int .i64 g.depth] 85))
 clear hn hlen hq hg
 go_enter Tryz.func153, Tryz.ntmps153
 go_wp2
 obtain ⟨q, hq⟩ : ∃ q, q = g.x * g.x + g.y * g.y := ⟨_, rfl⟩
 rw [← hq] at HLEN ⊢
 generalize w.alloc (.cells #[.int .i64 g.x, .int .i64 g.y, .int .i64 g.down, .int .i64 g.soil, .int .i64 g.depth] 85) = W0 at *
 clear hq hw3
 go_loopw [4, 5] (fun i j wr => ∃ a b : Int, 0 ≤ a ∧ a ≤ n ∧ n ≤ b ∧ b ≤ 10000 ∧ i = .int .i64 a ∧ j = .int .i64 b ∧ Step W0 wr) (fun i j _ => (intOf j - intOf i).toNat)
 case atStart => exact ⟨0, 10000, by omega, by have := HLEN.out; omega, by have := HLEN.out; omega, by omega, rfl, rfl, Step.refl _⟩
 case round =>
  obtain ⟨a, b, h0, h1, h2, h3, rfl, rfl, hT⟩ := hrel
  have HT := zH hT
  clear hT
  by_cases hlt : a < b
  ·have hd : decide (a < b) = true := by simpa using hlt
   obtain ⟨m, hm⟩ : ∃ m, m = (a + b) / 2 := ⟨_, rfl⟩
   have hmb : a ≤ m ∧ m < b := by omega
   have hw4 : IntKind.i64.wrap (a + b) = a + b := by rw [IntKind.wrap_i64]; omega
   have hw5 : IntKind.i64.wrap ((a + b).tdiv 2) = m := by rw [Int.tdiv_eq_ediv_of_nonneg (by omega), IntKind.wrap_i64]; omega
   have hk2 := sq_mono (show 0 ≤ m by omega) (show m ≤ 10000 by omega)
   have hw6 : IntKind.i64.wrap (m * m) = m * m := by rw [IntKind.wrap_i64]; have := Zono.sq_nonneg m; omega
   have hw7 : IntKind.i64.wrap (m + 1) = m + 1 := by rw [IntKind.wrap_i64]; omega
   by_cases hge : q ≤ m * m
   ·have hd2 : decide (q ≤ m * m) = true := by simpa using hge
    have hmn : n ≤ m := by
     refine Int.not_lt.1 fun h => ?_
     have := sq_mono (show 0 ≤ m by omega) (show m ≤ n - 1 by omega)
     have := HLEN.out
     omega
    clear hk2 hge hm
    go_wp2
    go_roundw
    case rel => exact ⟨a, m, h0, h1, hmn, by omega, rfl, rfl, HT.out⟩
    case measure => simp [intOf]; omega
   ·have hd2 : decide (q ≤ m * m) = false := by simpa using hge
    have hmn : m < n := by
     refine Int.not_le.1 fun h => ?_
     have := sq_mono (show 0 ≤ n by have := HLEN.out; omega) h
     have := HLEN.out
     omega
    clear hk2 hge hm
    go_wp2
    go_roundw
    case rel => exact ⟨m + 1, b, by omega, by omega, h2, h3, rfl, rfl, HT.out⟩
    case measure => simp [intOf]; omega
  ·have hd : decide (a < b) = false := by simpa using hlt
   have hab : a = n := by omega
   have HK := zH hab
   clear hab hlt
   go_wp2
   go_ret
   exact ⟨by rw [← HK.out]; rfl, HS.out.trans HT.out⟩
theorem field_range (a b : Value) (w : World) : (Instr.field 212 (.agg #[a, b]) 0).run Tryz.prog w = .ok a w := by kernel_rfl
theorem field_rrange (a b : Value) (w : World) : (Instr.field 215 (.agg #[a, b]) 0).run Tryz.prog w = .ok a w := by kernel_rfl
attribute [local go_sem] field_range field_rrange
theorem cells5 {w : World} {g : Nat} {c0 c1 c2 c3 c4 : Value} {T : TypeId} (h : Bx w g [c0, c1, c2, c3, c4] T) :
  w.cell? ⟨g, 0, none⟩ = some c0 ∧ w.cell? ⟨g, 1, none⟩ = some c1 ∧ w.cell? ⟨g, 2, none⟩ = some c2 ∧ w.cell? ⟨g, 3, none⟩ = some c3 ∧ w.cell? ⟨g, 4, none⟩ = some c4 :=
 ⟨h.cell 0, h.cell 1, h.cell 2, h.cell 3, h.cell 4⟩
theorem part_wrap {l : List Tst} {g : Guy} (hl : l.all tstB = true) (hg : guyB g = true) : IntKind.i64.wrap (100 * (holdsL l g.soil g.depth).lo) = 100 * (holdsL l g.soil g.depth).lo ∧ IntKind.i64.wrap ((100 * (holdsL l g.soil g.depth).lo).tdiv (lenL (g.x * g.x + g.y * g.y))) = 100 * (holdsL l g.soil g.depth).lo / lenL (g.x * g.x + g.y * g.y) ∧ ¬ lenL (g.x * g.x + g.y * g.y) = 0 := by
 have hb := holds_bound (s := g.soil) hl (guy_parts hg).2.2.2.2.2
 have hs := guy_sq hg
 have hn := len_sq hs.1 (by omega)
 have h1 := Int.ediv_nonneg (show 0 ≤ 100 * (holdsL l g.soil g.depth).lo by omega) (show 0 ≤ lenL (g.x * g.x + g.y * g.y) by omega)
 have h2 := Int.ediv_le_self (lenL (g.x * g.x + g.y * g.y)) (show 0 ≤ 100 * (holdsL l g.soil g.depth).lo by omega)
 rw [Int.tdiv_eq_ediv_of_nonneg (by omega), IntKind.wrap_i64, IntKind.wrap_i64]
 omega
theorem part_if {l : List Tst} {g : Guy} : partL l g = if 100 * (holdsL l g.soil g.depth).lo / lenL (g.x * g.x + g.y * g.y) < 100 then 100 * (holdsL l g.soil g.depth).lo / lenL (g.x * g.x + g.y * g.y) else 100 := by unfold partL; omega
theorem part_any (S : Nat → Prop) (l : List Tst) (g : Guy) (v : Value) (w : World) (hv : SL S w v l) (hl : l.all tstB = true) (hg : guyB g = true) :
  Calls Tryz.prog 129 #[.agg #[.int .i64 g.x, .int .i64 g.y, .int .i64 g.down, .int .i64 g.soil, .int .i64 g.depth], v] w fun e w' => e = .returned (.int .i64 (partL l g)) ∧ Step w w' := by
 obtain ⟨hw1, hw2, hw3⟩ := part_wrap hl hg
 have hdp := (guy_parts hg).2.2.2.2.2
 obtain ⟨W0, hW0⟩ : ∃ W, W = w.alloc (.cells #[.int .i64 g.x, .int .i64 g.y, .int .i64 g.down, .int .i64 g.soil, .int .i64 g.depth] 85) := ⟨_, rfl⟩
 have hb : Bx W0 w.heap.size [.int .i64 g.x, .int .i64 g.y, .int .i64 g.down, .int .i64 g.soil, .int .i64 g.depth] 85 := by subst hW0; exact Bx.new w [_, _, _, _, _] _
 have hS : Step w W0 := by subst hW0; exact Step.alloc _ _
 have HV := zH (hv.keep (.of_step hS))
 obtain ⟨pv, cv, rfl⟩ := hv.form
 have HB := zH hb
 have HS := zH hS
 have HW := zH hW0
 have HL := zH (And.intro hl (And.intro hg hdp))
 have HT := zH (Step.refl W0)
 clear hb hS hW0 hl hg hdp hv
 go_enter Tryz.func129, Tryz.ntmps129
 go_upto_region 1 with (fail)
 rw [← HW.out]
 refine wp_region_seq (kdOf [5, 9] []) [0, 0, 2, 0, 8, 31, 63, 127, 0, 319, 1023, 2047, 4095] [0, 1, 2, 3, 4, 8, 5, 6, 7, 9, 10, 11, 12] [] (by kernel_rfl) (by kernel_rfl) (fun i T z hi hk => by simp [kdOf] at hk <;> (try (split at hk <;> cases hk))) ?_
 intro Wx hWx
 have HTx := zH (HT.out.trans hWx)
 clear hWx HT
 have HT := HTx
 clear HTx
 obtain ⟨e0, e1, e2, e3, e4⟩ := cells5 (HB.out.step HT.out)
 repeat ((first | (refine run_off rfl rfl (by rfl) ?_) | (refine run_chain_off rfl rfl (by rfl) (K0_mono _) ?_) | ((refine run_want rfl rfl (by rfl) ⟨?_, fun W hW => ?_, ?_⟩; rotate_left; (· (have d0 := hW.kc e0; have d1 := hW.kc e1; have d2 := hW.kc e2; have d3 := hW.kc e3; have d4 := hW.kc e4; go_simp; (try with_reducible rfl)))))); (try simp only [Act.put, zA, zB, zC]))
 refine run_chain rfl rfl (by rfl) (fun Wi hWi K' hK => ?_)
 have HTi := zH (HT.out.trans hWi)
 have HZW := zH HTi.out.size
 clear hWi HT
 go_simp
 refine (holds_any S l g.soil g.depth _ _ (HV.out.keep (.of_step HTi.out)) HL.out.1 HL.out.2.2).mono ?_
 rintro e wn ⟨rfl, hSn⟩
 have HT := zH (HTi.out.trans (StepX.of hSn))
 clear HTi
 refine hK _ _ (StepX.of hSn) ?_
 clear hSn
 (try simp only [Act.put, zA, zB, zC])
 clear e0 e1 e2 e3 e4
 obtain ⟨e0, e1, e2, e3, e4⟩ := cells5 (HB.out.step HT.out)
 repeat ((first | (refine run_off rfl rfl (by rfl) ?_) | (refine run_chain_off rfl rfl (by rfl) (K0_mono _) ?_) | ((refine run_want rfl rfl (by rfl) ⟨?_, fun W hW => ?_, ?_⟩; rotate_left; (· (have d0 := hW.kc e0; have d1 := hW.kc e1; have d2 := hW.kc e2; have d3 := hW.kc e3; have d4 := hW.kc e4; go_simp; (try with_reducible rfl)))))); (try simp only [Act.put, zA, zB, zC]))
 refine run_chain rfl rfl (by rfl) (fun Wi hWi K' hK => ?_)
 have HTi := zH (HT.out.trans hWi)
 have HZW := zH HTi.out.size
 clear hWi HT
 go_simp
 refine (length_any g _ HL.out.2.1).mono ?_
 rintro e wn ⟨rfl, hSn⟩
 have HT := zH (HTi.out.trans (StepX.of hSn))
 clear HTi
 refine hK _ _ (StepX.of hSn) ?_
 clear hSn
 (try simp only [Act.put, zA, zB, zC])
 repeat ((first | (refine run_off rfl rfl (by rfl) ?_) | (refine run_chain_off rfl rfl (by rfl) (K0_mono _) ?_) | ((refine run_want rfl rfl (by rfl) ⟨?_, fun W hW => ?_, ?_⟩; rotate_left; (· (skip; go_simp; (try with_reducible rfl)))))); (try simp only [Act.put, zA, zB, zC]))
 refine run_end (L := []) rfl (fun W6 hW6 => ?_)
 have HT6 := zH (HT.out.trans hW6)
 clear hW6 HT
 have HT := HT6
 clear HT6
 clear hw1 hw2 hw3 e0 e1 e2 e3 e4
 rw [← part_if (l := l) (g := g)]
 go_wp2
 go_ret
 exact ⟨rfl, HS.out.trans HT.out⟩
theorem Part_any (S : Nat → Prop) (l : List Tst) (g : Guy) (v : Value) (w : World) (hv : SL S w v l) (hl : l.all tstB = true) (hg : guyB g = true) :
  Calls Tryz.prog 133 #[v, .agg #[.int .i64 g.x, .int .i64 g.y, .int .i64 g.down, .int .i64 g.soil, .int .i64 g.depth]] w fun e w' => e = .returned (.int .i64 (partL l g)) ∧ Step w w' := by
 obtain ⟨hw1, hw2, hw3⟩ := part_wrap hl hg
 have hdp := (guy_parts hg).2.2.2.2.2
 obtain ⟨W0, hW0⟩ : ∃ W, W = w.alloc (.cells #[.int .i64 g.x, .int .i64 g.y, .int .i64 g.down, .int .i64 g.soil, .int .i64 g.depth] 123) := ⟨_, rfl⟩
 have hb : Bx W0 w.heap.size [.int .i64 g.x, .int .i64 g.y, .int .i64 g.down, .int .i64 g.soil, .int .i64 g.depth] 123 := by subst hW0; exact Bx.new w [_, _, _, _, _] _
 have hS : Step w W0 := by subst hW0; exact Step.alloc _ _
 have HV := zH (hv.keep (.of_step hS))
 obtain ⟨pv, cv, rfl⟩ := hv.form
 have HB := zH hb
 have HS := zH hS
 have HW := zH hW0
 have HL := zH (And.intro hl (And.intro hg hdp))
 have HT := zH (Step.refl W0)
 clear hb hS hW0 hl hg hdp hv
 go_enter Tryz.func133, Tryz.ntmps133
 go_upto_region 1 with (fail)
 rw [← HW.out]
 refine wp_region_seq (kdOf [5, 9] []) [0, 0, 2, 0, 8, 31, 63, 127, 0, 319, 1023, 2047, 4095] [0, 1, 2, 3, 4, 8, 5, 6, 7, 9, 10, 11, 12] [] (by kernel_rfl) (by kernel_rfl) (fun i T z hi hk => by simp [kdOf] at hk <;> (try (split at hk <;> cases hk))) ?_
 intro Wx hWx
 have HTx := zH (HT.out.trans hWx)
 clear hWx HT
 have HT := HTx
 clear HTx
 obtain ⟨e0, e1, e2, e3, e4⟩ := cells5 (HB.out.step HT.out)
 repeat ((first | (refine run_off rfl rfl (by rfl) ?_) | (refine run_chain_off rfl rfl (by rfl) (K0_mono _) ?_) | ((refine run_want rfl rfl (by rfl) ⟨?_, fun W hW => ?_, ?_⟩; rotate_left; (· (have d0 := hW.kc e0; have d1 := hW.kc e1; have d2 := hW.kc e2; have d3 := hW.kc e3; have d4 := hW.kc e4; go_simp; (try with_reducible rfl)))))); (try simp only [Act.put, zA, zB, zC]))
 refine run_chain rfl rfl (by rfl) (fun Wi hWi K' hK => ?_)
 have HTi := zH (HT.out.trans hWi)
 have HZW := zH HTi.out.size
 clear hWi HT
 go_simp
 refine (RHolds_any S l g.soil g.depth _ _ (HV.out.keep (.of_step HTi.out)) HL.out.1 HL.out.2.2).mono ?_
 rintro e wn ⟨rfl, hSn⟩
 have HT := zH (HTi.out.trans (StepX.of hSn))
 clear HTi
 refine hK _ _ (StepX.of hSn) ?_
 clear hSn
 (try simp only [Act.put, zA, zB, zC])
 clear e0 e1 e2 e3 e4
 obtain ⟨e0, e1, e2, e3, e4⟩ := cells5 (HB.out.step HT.out)
 repeat ((first | (refine run_off rfl rfl (by rfl) ?_) | (refine run_chain_off rfl rfl (by rfl) (K0_mono _) ?_) | ((refine run_want rfl rfl (by rfl) ⟨?_, fun W hW => ?_, ?_⟩; rotate_left; (· (have d0 := hW.kc e0; have d1 := hW.kc e1; have d2 := hW.kc e2; have d3 := hW.kc e3; have d4 := hW.kc e4; go_simp; (try with_reducible rfl)))))); (try simp only [Act.put, zA, zB, zC]))
 refine run_chain rfl rfl (by rfl) (fun Wi hWi K' hK => ?_)
 have HTi := zH (HT.out.trans hWi)
 have HZW := zH HTi.out.size
 clear hWi HT
 go_simp
 refine (Length_any g _ HL.out.2.1).mono ?_
 rintro e wn ⟨rfl, hSn⟩
 have HT := zH (HTi.out.trans (StepX.of hSn))
 clear HTi
 refine hK _ _ (StepX.of hSn) ?_
 clear hSn
 (try simp only [Act.put, zA, zB, zC])
 repeat ((first | (refine run_off rfl rfl (by rfl) ?_) | (refine run_chain_off rfl rfl (by rfl) (K0_mono _) ?_) | ((refine run_want rfl rfl (by rfl) ⟨?_, fun W hW => ?_, ?_⟩; rotate_left; (· (skip; go_simp; (try with_reducible rfl)))))); (try simp only [Act.put, zA, zB, zC]))
 refine run_end (L := []) rfl (fun W6 hW6 => ?_)
 have HT6 := zH (HT.out.trans hW6)
 clear hW6 HT
 have HT := HT6
 clear HT6
 clear hw1 hw2 hw3 e0 e1 e2 e3 e4
 rw [← part_if (l := l) (g := g)]
 go_wp2
 go_ret
 exact ⟨rfl, HS.out.trans HT.out⟩
end Go.Proofs.YtfhmdpicoccnfaaGreat
namespace Go.Proofs.YtfhmdpicoccnfaaGreat
set_option linter.unusedSimpArgs false
set_option linter.unusedVariables false
open Go.RowKit Go.BT
theorem gale.within_any (n lo hi : Int) (w : World) : Calls Tryz.prog 46 #[.int .i64 n, .int .i64 lo, .int .i64 hi] w fun e w' => e = .returned (.bool (withinB n lo hi)) ∧ w = w' := by
 by_cases h1 : lo ≤ n
 ·go_enter Tryz.func46, Tryz.ntmps46
  go_wp2
  go_ret
  exact ⟨by simp [withinB, h1], rfl⟩
 ·have hd : decide (lo ≤ n) = false := by simpa using h1
  go_enter Tryz.func46, Tryz.ntmps46
  go_wp2
  go_ret
  exact ⟨by simp [withinB]; omega, rfl⟩
theorem strong_any (r : Rng) (w : World) : Calls Tryz.prog 73 #[.agg #[.int .i64 r.lo, .int .i64 r.hi]] w fun e w' => e = .returned (.bool (rangeB r)) ∧ Step w w' := by
 obtain ⟨lo, hi⟩ := r
 dsimp only
 by_cases h1 : 0 ≤ lo
 ·have d1 : decide (0 ≤ lo) = true := by simpa using h1
  by_cases h2 : lo ≤ hi
  ·have d2 : decide (lo ≤ hi) = true := by simpa using h2
   go_enter Tryz.func73, Tryz.ntmps73
   go_wp2
   go_ret
   exact ⟨by simp [rangeB, h1, h2], (by with_reducible repeat (first | assumption | exact Step.refl _ | apply Step.s_alloc | apply Step.s_drew | apply Step.s_drewN | refine Step.trans ?_ (by assumption)))⟩
  ·have d2 : decide (lo ≤ hi) = false := by simpa using h2
   go_enter Tryz.func73, Tryz.ntmps73
   go_wp2
   go_ret
   exact ⟨by simp [rangeB]; omega, (by with_reducible repeat (first | assumption | exact Step.refl _ | apply Step.s_alloc | apply Step.s_drew | apply Step.s_drewN | refine Step.trans ?_ (by assumption)))⟩
 ·have d1 : decide (0 ≤ lo) = false := by simpa using h1
  go_enter Tryz.func73, Tryz.ntmps73
  go_wp2
  go_ret
  exact ⟨by simp [rangeB]; omega, (by with_reducible repeat (first | assumption | exact Step.refl _ | apply Step.s_alloc | apply Step.s_drew | apply Step.s_drewN | refine Step.trans ?_ (by assumption)))⟩
theorem corner_gale (v : Vec) (w : World) : Calls Tryz.prog 82 #[.agg #[.int .i64 v.x, .int .i64 v.y]] w fun e w' => e = .returned (.bool (baseB v)) ∧ Step w w' := by
 obtain ⟨x, y⟩ := v
 dsimp only
 go_enter Tryz.func82, Tryz.ntmps82
 go_wp2_with fail
 refine (gale.within_any _ _ _ _).mono ?_
 rintro e w' ⟨rfl, rfl⟩
 cases q0 : withinB x (-100) 100 with
 | false =>
  go_wp2
  go_ret
  exact ⟨by simp [baseB, q0], (by with_reducible repeat (first | assumption | exact Step.refl _ | apply Step.s_alloc | apply Step.s_drew | apply Step.s_drewN | refine Step.trans ?_ (by assumption)))⟩
 | true =>
  go_wp2_with fail
  refine (gale.within_any _ _ _ _).mono ?_
  rintro e w' ⟨rfl, rfl⟩
  cases q1 : withinB y (-100) 100 with
  | false =>
   go_wp2
   go_ret
   exact ⟨by simp [baseB, q0, q1], (by with_reducible repeat (first | assumption | exact Step.refl _ | apply Step.s_alloc | apply Step.s_drew | apply Step.s_drewN | refine Step.trans ?_ (by assumption)))⟩
  | true =>
   go_wp2
   go_ret
   exact ⟨by simp [baseB, q0, q1], (by with_reducible repeat (first | assumption | exact Step.refl _ | apply Step.s_alloc | apply Step.s_drew | apply Step.s_drewN | refine Step.trans ?_ (by assumption)))⟩
theorem byte_int (c : UInt8) : IntKind.i64.wrap (c.toNat : Int) = (c.toNat : Int) := by
 have := c.toNat_lt
 rw [IntKind.wrap_i64]; omega
theorem named1_any (c : UInt8) (w : World) : Calls Tryz.prog 115 #[.int .u8 (c.toNat : Int)] w fun e w' => e = .returned (.bool (letterB c || digitB c)) ∧ Step w w' := by
 have hb := byte_int c
 go_enter Tryz.func115, Tryz.ntmps115
 go_wp2_with fail
 refine (gale.within_any _ _ _ _).mono ?_
 rintro e w' ⟨rfl, rfl⟩
 have hl : withinB (c.toNat : Int) 97 122 = letterB c := by simp only [withinB, letterB]; congr 1 <;> (apply decide_eq_decide.2; omega)
 have hd : withinB (c.toNat : Int) 48 57 = digitB c := by simp only [withinB, digitB]; congr 1 <;> (apply decide_eq_decide.2; omega)
 rw [hl]
 cases q0 : letterB c with
 | true =>
  go_wp2
  go_ret
  exact ⟨by rw [q0]; rfl, (by with_reducible repeat (first | assumption | exact Step.refl _ | apply Step.s_alloc | apply Step.s_drew | apply Step.s_drewN | refine Step.trans ?_ (by assumption)))⟩
 | false =>
  go_wp2_with fail
  refine (gale.within_any _ _ _ _).mono ?_
  rintro e w' ⟨rfl, rfl⟩
  rw [hd]
  cases q1 : digitB c with
  | true =>
   go_wp2
   go_ret
   exact ⟨by rw [q0, q1]; rfl, (by with_reducible repeat (first | assumption | exact Step.refl _ | apply Step.s_alloc | apply Step.s_drew | apply Step.s_drewN | refine Step.trans ?_ (by assumption)))⟩
  | false =>
   go_wp2
   go_ret
   exact ⟨by rw [q0, q1]; rfl, (by with_reducible repeat (first | assumption | exact Step.refl _ | apply Step.s_alloc | apply Step.s_drew | apply Step.s_drewN | refine Step.trans ?_ (by assumption)))⟩
theorem getD_at {s : ByteArray} {k : Nat} (hk : k < s.data.size) : s.data.getD k 0 = s.data[k] := by
 rw [Array.getD_eq_getD_getElem?, Array.getElem?_eq_getElem hk]; rfl
theorem bytes_at (s : ByteArray) (k : Nat) (hk : k < s.size) : s[k] = s.data.getD k 0 := by
 have hk' : k < s.data.size := hk
 rw [getD_at hk']; rfl
theorem conv_bytes (s : ByteArray) (w : World) : (convert 9 190 (.string s)).run Tryz.prog w = .ok (.slice (some ⟨w.heap.size, 0, none⟩) s.size (grownCap w s.size 0 5)) (Lib.bytesWorld w 5 s) :=
 Lib.run_convert_string_bytes w _ _ _ s (u := .string) (by kernel_rfl) (by kernel_rfl) (by kernel_rfl)
theorem step_bytes (w : World) (e : TypeId) (s : ByteArray) : Step w (Lib.bytesWorld w e s) := by
 have h := (Step.drew w).trans (Step.alloc w.drew (.cells (Lib.bytesCells w e s) e))
 exact ⟨h.os, h.tape, h.output, by rw [Lib.bytesWorld_size]; omega, fun j hj _ => Lib.bytesWorld_at_old w e s j hj⟩
theorem sl_bytes (w : World) (e : TypeId) (s : ByteArray) (hs : s.size ≤ 9223372036854775807) : SL (fun _ => False) (Lib.bytesWorld w e s) (.slice (some ⟨w.heap.size, 0, none⟩) s.size (grownCap w s.size 0 e)) s.data.toList := by
 have hl : s.data.toList.length = s.size := by rw [Array.length_toList]; rfl
 refine ⟨some ⟨w.heap.size, 0, none⟩, grownCap w s.size 0 e, w.heap.size, 0, by rw [hl], by rw [hl]; exact grownCap_ge _ _ _ _, by rw [hl]; exact hs, fun _ => rfl, fun i hi => ?_⟩
 refine ⟨by rw [Lib.bytesWorld_size]; omega, id, [.int .u8 (s.data.toList[i].toNat : Int)], rfl, fun j v hv => ?_⟩
 match j, hv with
 | 0, hv =>
  obtain rfl := Option.some.inj hv
  have := Lib.bytesWorld_cell w e s i (by omega)
  simp only [Rep.k, Nat.zero_add, Nat.mul_one, Nat.add_zero]
  rw [this, List.getD_eq_getElem?_getD, List.getElem?_eq_getElem hi]; rfl
attribute [local go_sem] conv_bytes
theorem named_any (s : ByteArray) (w : World) (hs : s.size ≤ 9223372036854775807) : Calls Tryz.prog 75 #[.string s] w fun e w' => e = .returned (.bool (nameB s)) ∧ Step w w' := by
 go_enter Tryz.func75, Tryz.ntmps75
 go_wp2_with fail
 refine (gale.within_any _ _ _ _).mono ?_
 rintro e w' ⟨rfl, rfl⟩
 by_cases h1 : 1 ≤ s.size ∧ s.size ≤ 16
 rotate_left
 ·have hd : withinB (s.size : Int) 1 16 = false := by simp [withinB]; omega
  have HN := zH (show nameB s = false by unfold nameB; simp; omega)
  rw [hd]
  clear hd h1
  go_wp2
  go_ret
  exact ⟨by rw [HN.out]; rfl, (by with_reducible repeat (first | assumption | exact Step.refl _ | apply Step.s_alloc | apply Step.s_drew | apply Step.s_drewN | refine Step.trans ?_ (by assumption)))⟩
 have hd : withinB (s.size : Int) 1 16 = true := by simp [withinB]; omega
 rw [hd]
 clear hd
 have h0 : 0 < s.size := by omega
 have hix : (0 : Int) < (s.size : Int) := by omega
 have hat := bytes_at s 0 h0
 obtain ⟨c, hc⟩ : ∃ c, c = s.data.getD 0 0 := ⟨_, rfl⟩
 rw [← hc] at hat
 have hb := byte_int c
 have HNB := zH (show nameB s = (letterB c && s.data.toList.all fun c => letterB c || digitB c) by unfold nameB; rw [← hc, decide_eq_true h1.1, decide_eq_true h1.2]; simp only [Bool.true_and])
 clear h1 hc
 go_wp2_with fail
 refine (gale.within_any _ _ _ _).mono ?_
 rintro e w' ⟨rfl, rfl⟩
 have hl : withinB (c.toNat : Int) 97 122 = letterB c := by simp only [withinB, letterB]; congr 1 <;> (apply decide_eq_decide.2; omega)
 rw [hl]
 clear hl
 cases q : letterB c with
 | false =>
  have HN := zH (show nameB s = false by rw [HNB.out, q]; rfl)
  clear q
  go_wp2
  go_ret
  exact ⟨by rw [HN.out]; rfl, (by with_reducible repeat (first | assumption | exact Step.refl _ | apply Step.s_alloc | apply Step.s_drew | apply Step.s_drewN | refine Step.trans ?_ (by assumption)))⟩
 | true =>
  have HN := zH (show nameB s = (s.data.toList.all fun c => letterB c || digitB c) by rw [HNB.out, q]; rfl)
  clear q
  have hall := zH (all_byte (fun _ => False) s.data.toList _ (Lib.bytesWorld w 5 s) 115 #[] (Go.Proofs.enters_of Tryz.func115 (by kernel_rfl) rfl) (fun c => letterB c || digitB c) (fun _ W => Step (Lib.bytesWorld w 5 s) W) (fun _ => False) (fun _ h => h.elim)
   (fun _ W hW => (sl_bytes w 5 s hs).keep (.of_step hW)) (fun _ _ _ h1 h2 => h1.trans h2) (Step.refl _) (fun i hi W u hW _ hu => by
    subst hu
    refine (named1_any _ W).mono ?_
    rintro e w' ⟨rfl, hs⟩
    exact ⟨rfl, hW.trans hs, hs⟩))
  go_wp2_with fail
  refine hall.out.mono ?_
  rintro e w1 ⟨rfl, k, _, _, hS⟩
  rw [← HN.out]
  clear hall
  go_wp2
  go_ret
  exact ⟨by rfl, (step_bytes _ _ _).trans hS⟩
end Go.Proofs.YtfhmdpicoccnfaaGreat
namespace Go.Proofs.YtfhmdpicoccnfaaGreat
set_option linter.unusedSimpArgs false
set_option linter.unusedVariables false
open Go.RowKit Go.BT
instance : LawfulBEq ByteArray where
 eq_of_beq h := (MapKept.bytes_beq _ _).1 h
 rfl := (MapKept.bytes_beq _ _).2 rfl
def addN (ks : List ByteArray) (n : ByteArray) : List ByteArray := if n ∈ ks then ks else ks ++ [n]
theorem add_len : ∀ (l ks : List ByteArray), (l.foldl addN ks).length ≤ ks.length + l.length ∧ ((l.foldl addN ks).length = ks.length + l.length ↔ l.Nodup ∧ ∀ x ∈ l, x ∉ ks)
 | [], ks => by simp
 | x :: l, ks => by
  rw [List.foldl_cons]
  by_cases h : x ∈ ks
  ·have h1 := add_len l ks
   rw [show addN ks x = ks by unfold addN; rw [if_pos h]]
   simp only [List.length_cons, List.nodup_cons, List.mem_cons]
   refine ⟨by omega, ⟨fun e => by omega, fun e => absurd h (e.2 x (.inl rfl))⟩⟩
  ·have h1 := add_len l (ks ++ [x])
   rw [show addN ks x = ks ++ [x] by unfold addN; rw [if_neg h]]
   simp only [List.length_cons, List.nodup_cons, List.mem_cons, List.length_append, List.length_nil, List.mem_append, List.not_mem_nil, or_false] at h1 ⊢
   refine ⟨by omega, ?_⟩
   rw [show ((l.foldl addN (ks ++ [x])).length = ks.length + (l.length + 1)) ↔ ((l.foldl addN (ks ++ [x])).length = ks.length + (0 + 1) + l.length) by omega, h1.2]
   constructor
   ·rintro ⟨a, b⟩
    refine ⟨⟨fun hx => b x hx (.inr rfl), a⟩, ?_⟩
    rintro y (rfl | hy)
    ·exact h
    ·exact fun hk => b y hy (.inl hk)
   ·rintro ⟨⟨a, b⟩, c⟩
    refine ⟨b, fun y hy hk => ?_⟩
    rcases hk with hk | rfl
    ·exact c y (.inr hy) hk
    ·exact a hy
def SM (w : World) (r : Nat) (ks : List ByteArray) : Prop := ∃ es clock, w.heap[r]? = some (.map es clock) ∧ es.toList.map (·.key) = ks.map Value.string
theorem SM.keep {S : Nat → Prop} {w w' : World} {r : Nat} {ks : List ByteArray} (h : SM w r ks) (hs : StepX S w w') (hr : ¬ S r) : SM w' r ks := by
 obtain ⟨es, cl, h1, h2⟩ := h
 exact ⟨es, cl, (hs.block r (Array.getElem?_eq_some_iff.1 h1).1 hr).trans h1, h2⟩
theorem find_str (n : ByteArray) : ∀ (es : List MapEntry) (ks : List ByteArray) (i : Nat), es.map (·.key) = ks.map Value.string →
  (n ∈ ks → ∃ j v, Instr.findNow .string (.string n) es i = some (some (i + j, v)) ∧ ∃ h : j < es.length, es[j].key = .string n) ∧ (n ∉ ks → Instr.findNow .string (.string n) es i = some none)
 | [], ks, i, h => by
  have : ks = [] := by simpa using h.symm
  subst this
  exact ⟨fun h => by simp at h, fun _ => rfl⟩
 | e :: es, ks, i, h => by
  cases ks with
  | nil => simp at h
  | cons k ks =>
   simp only [List.map_cons, List.cons.injEq] at h
   obtain ⟨hk, hr⟩ := h
   obtain ⟨r1, r2⟩ := find_str n es ks (i + 1) hr
   by_cases q : n = k
   ·subst q
    refine ⟨fun _ => ⟨0, e.val, ?_, by simp, by simpa using hk⟩, fun hn => absurd List.mem_cons_self hn⟩
    simp [Instr.findNow, hk, Instr.sameNow]
   ·have hb : (n == k) = false := by rw [beq_eq_false_iff_ne]; exact q
    have hst : Instr.findNow .string (.string n) (e :: es) i = Instr.findNow .string (.string n) es (i + 1) := by
     simp [Instr.findNow, hk, Instr.sameNow, hb]
    rw [hst]
    refine ⟨fun hm => ?_, fun hm => r2 fun h => hm (List.mem_cons_of_mem _ h)⟩
    obtain ⟨j, v, h1, h2, h3⟩ := r1 ((List.mem_cons.1 hm).resolve_left q)
    exact ⟨j + 1, v, by rw [h1]; congr 2; simp; omega, by simp; omega, by simpa using h3⟩
theorem mapUnderS : Tryz.prog.underlying 153 = some (.map 9 4) := by kernel_rfl
theorem strUnder : Tryz.prog.underlying 9 = some .string := by kernel_rfl
def putS (w : World) (r : Nat) (o : Obj) : World := { w with heap := w.heap.setIfInBounds r o }
theorem putS_at {w : World} {r : Nat} {o : Obj} (h : r < w.heap.size) : (putS w r o).heap[r]? = some o := by simp [putS, h]
theorem putS_wrote (w : World) (r : Nat) (o : Obj) : Wrote r w (putS w r o) := ⟨rfl, rfl, rfl, by simp [putS], fun k hk => by simp [putS, Array.getElem?_setIfInBounds_ne (Ne.symm hk)]⟩
theorem check_str (d : Nat) (n : ByteArray) (em : Bool) (w : World) : (Instr.checkKey em (d + 1) 9 (.string n)).run Tryz.prog w = .ok () w := by
 simp [Instr.checkKey, run_underlying strUnder]
theorem run_mapUpdate_str {w : World} {r : Nat} {ks : List ByteArray} (n : ByteArray) (h : SM w r ks) : ∃ w', (Instr.mapUpdate 153 (.map (some r)) (.string n) (.bool true)).run Tryz.prog w = .ok () w' ∧ SM w' r (addN ks n) ∧ Wrote r w w' := by
 obtain ⟨es, clock, hh, h1⟩ := h
 obtain ⟨r1, r2⟩ := find_str n es.toList ks 0 h1
 have hck : ∀ em, (Instr.checkKey em 10000 9 (.string n)).run Tryz.prog w = .ok () w := fun em => check_str 9999 n em w
 have hgo : (getObj r).run Tryz.prog w = .ok (.map es clock) w := by simp [getObj, Sem.run, hh]
 have hso : ∀ o, (setObj r o).run Tryz.prog w = .ok () (putS w r o) := fun o => by simp [setObj, Sem.run, hh, putS]
 by_cases hx : n ∈ ks
 ·obtain ⟨j, v, hj, hjl, hjk⟩ := r1 hx
  have hfk := MapKept.run_findKey (P := Tryz.prog) (w := w) strUnder hj
  have hjs : j < es.size := by simpa using hjl
  have hjk' : es[j]?.map (·.key) = some (.string n) := by
   rw [Array.getElem?_eq_getElem hjs, Option.map_some]
   rw [Array.getElem_toList] at hjk
   rw [hjk]
  have hst : (Instr.keyThatStays (.string n) (.string n)).run Tryz.prog w = .ok (.string n) w := by
   simp [Instr.keyThatStays, Instr.sameBits]
  refine ⟨putS w r (.map (es.modify j fun e => { e with key := .string n, val := .bool true }) clock), ?_, ⟨_, _, putS_at (Array.getElem?_eq_some_iff.1 hh).1, ?_⟩, putS_wrote _ _ _⟩
  ·simp [Instr.mapUpdate, run_underlying mapUnderS, hgo, hck, hfk, hjk', hst, hso]
  ·rw [show addN ks n = ks by unfold addN; rw [if_pos hx], ← h1, Array.toList_modify]
   refine List.ext_getElem (by simp) fun i h3 h4 => ?_
   simp only [List.getElem_map, List.getElem_modify]
   split
   ·rename_i hij
    subst hij
    exact hjk.symm
   ·rfl
 ·have hfk := MapKept.run_findKey (P := Tryz.prog) (w := w) strUnder (r2 hx)
  refine ⟨putS w r (.map (es.push { key := .string n, val := .bool true, born := clock }) (clock + 1)), ?_, ⟨_, _, putS_at (Array.getElem?_eq_some_iff.1 hh).1, ?_⟩, putS_wrote _ _ _⟩
  ·simp [Instr.mapUpdate, run_underlying mapUnderS, hgo, hck, hfk, hso]
  ·rw [show addN ks n = ks ++ [n] by unfold addN; rw [if_neg hx], Array.toList_push, List.map_append, List.map_append, h1]
   rfl
theorem run_len_str {w : World} {r : Nat} {ks : List ByteArray} (ty : TypeId) (h : SM w r ks) : (Builtin.len_ #[153] ty #[.map (some r)]).run Tryz.prog w = .ok (goInt ks.length) w := by
 obtain ⟨es, clock, hh, h1⟩ := h
 have he : es.size = ks.length := by
  have := congrArg List.length h1
  simpa using this
 rw [← he]
 exact run_len_map (P := Tryz.prog) (w := w) _ ty r es clock mapUnderS hh
theorem all_strong (l : List Rng) (v : Value) (w : World) (hv : SL (fun _ => False) w v l) : Calls Tryz.prog 72 #[v, .func (.func 73) #[] #[]] w fun e w' => e = .returned (.bool (l.all rangeB)) ∧ Step w w' :=
 (all_rng (fun _ => False) l v w 73 #[] (Go.Proofs.enters_of Tryz.func73 (by kernel_rfl) rfl) rangeB (fun _ W => Step w W) (fun _ => False) (fun _ h => h.elim)
  (fun _ W hW => hv.keep (.of_step hW)) (fun _ _ _ h1 h2 => h1.trans h2) (Step.refl _) (fun i hi W u hW _ hu => by
   subst hu
   refine (strong_any _ W).mono ?_
   rintro e w' ⟨rfl, hs⟩
   exact ⟨rfl, hW.trans hs, hs⟩)).mono fun e w' ⟨h, k, _, _, hs⟩ => ⟨h, hs⟩
theorem cf1_any (f : Fc) (u : Value) (w : World) (hu : AV (fun _ => False) w u f) : Calls Tryz.prog 70 #[u] w fun e w' => e = .returned (.bool (decide (f.hours.length ≤ 48))) ∧ Step w w' := by
 obtain ⟨c1, rfl, h1, _⟩ := hu.fc
 obtain ⟨p, c, rfl⟩ := h1.form
 have hd : decide ((f.hours.length : Int) ≤ 48) = decide (f.hours.length ≤ 48) := decide_eq_decide.2 (by omega)
 clear hu h1
 go_enter Tryz.func70, Tryz.ntmps70
 go_wp2
 go_ret
 exact ⟨by rw [← hd]; rfl, (by with_reducible repeat (first | assumption | exact Step.refl _ | apply Step.s_alloc | apply Step.s_drew | apply Step.s_drewN | refine Step.trans ?_ (by assumption)))⟩
theorem cf3_any (f : Fc) (u : Value) (w : World) (hu : AV (fun _ => False) w u f) : Calls Tryz.prog 74 #[u] w fun e w' => e = .returned (.bool (nameB f.name)) ∧ Step w w' := by
 obtain ⟨c1, rfl, h1, h2⟩ := hu.fc
 obtain ⟨p, c, rfl⟩ := h1.form
 have H2 := zH h2
 clear hu h1 h2
 go_enter Tryz.func74, Tryz.ntmps74
 go_wp2_with fail
 refine (named_any _ _ H2.out).mono ?_
 rintro e w' ⟨rfl, hS⟩
 go_wp2
 go_ret
 exact ⟨rfl, (Step.alloc _ _).trans hS⟩
theorem cells2 {w : World} {g : Nat} {c0 c1 : Value} {T : TypeId} (h : Bx w g [c0, c1] T) : w.cell? ⟨g, 0, none⟩ = some c0 ∧ w.cell? ⟨g, 1, none⟩ = some c1 := ⟨h.cell 0, h.cell 1⟩
theorem cf2_any (l : List Fc) (vl : Value) (f : Fc) (u : Value) (b : Nat) (w : World) (hl : SL (fun _ => False) w vl l) (h0 : 0 < l.length) (hb : w.cell? ⟨b, 0, none⟩ = some vl) (hu : AV (fun _ => False) w u f) :
  Calls Tryz.prog 71 #[u, .pointer (some ⟨b, 0, none⟩)] w fun e w' => e = .returned (.bool (evenFB l f)) ∧ Step w w' := by
 obtain ⟨c1, rfl, h1, _⟩ := hu.fc
 obtain ⟨p, c, rfl⟩ := h1.form
 obtain ⟨pl, cl, bl, ol, rfl, _, hml, hpl, hcl, _⟩ := hl.fcs
 obtain rfl := hpl h0
 obtain ⟨cx, x1, x2, x3, x4⟩ := hcl 0 h0
 obtain ⟨px, kx, rfl⟩ := x3.form
 have hn : hoursN l = l[0].hours.length := by
  cases l with
  | nil => simp at h0
  | cons a l => rfl
 obtain ⟨W0, hW0⟩ : ∃ W, W = w.alloc (.cells #[.string f.name, .slice p f.hours.length c] 107) := ⟨_, rfl⟩
 have hbx : Bx W0 w.heap.size [.string f.name, .slice p f.hours.length c] 107 := by subst hW0; exact Bx.new w [_, _] _
 have hS : Step w W0 := by subst hW0; exact Step.alloc _ _
 have HB := zH hbx
 have HS := zH hS
 have HW := zH hW0
 have HH := zH h1
 have HC := zH (And.intro (hS.kc hb) (hS.kc x2))
 have HT := zH (Step.refl W0)
 have hix : (0 : Int) < (l.length : Int) := by omega
 clear hbx hS hW0 h1 hb x1 x2 x3 x4 hcl hpl hu hl
 obtain ⟨n0, hn0⟩ : ∃ n, n = l[0].hours.length := ⟨_, rfl⟩
 rw [← hn0] at hn HC
 rw [Nat.zero_mul, Nat.add_zero] at HC
 have HE := zH (show evenFB l f = (decide (0 < f.hours.length) && decide (f.hours.length = n0) && f.hours.all rangeB) by unfold evenFB; rw [hn])
 clear hn0 hn
 by_cases a1 : 0 < f.hours.length
 rotate_left
 ·have d1 : decide (0 < (f.hours.length : Int)) = false := decide_eq_false (by omega)
  have d0 : decide (0 < f.hours.length) = false := decide_eq_false a1
  have HN := zH (show evenFB l f = false by rw [HE.out]; simp [a1])
  clear a1
  go_enter Tryz.func71, Tryz.ntmps71
  go_upto_region 1 with (fail)
  rw [← HW.out]
  refine wp_region_seq (kdOf [18] []) [0, 1, 3, 7, 15, 31, 63, 127, 31, 287, 799, 1823, 3871, 8191, 16383, 32767, 65535, 131071, 262143, 524287, 1048575] [0, 1, 2, 3, 4, 5, 6, 7, 8, 9, 10, 11, 12, 13, 14, 15, 16, 17, 18, 19, 20] [] (by kernel_rfl) (by kernel_rfl) (fun i T z hi hk => by simp [kdOf] at hk <;> (try (split at hk <;> cases hk))) ?_
  intro Wx hWx
  have HTx := zH (HT.out.trans hWx)
  clear hWx HT
  have HT := HTx
  clear HTx
  (try clear y0 y1 z0 z1)
  obtain ⟨y0, y1⟩ := cells2 (HB.out.step HT.out)
  have z0 := HT.out.kc HC.out.1
  have z1 := HT.out.kc HC.out.2
  repeat ((first | (refine run_off rfl rfl (by rfl) ?_) | (refine run_chain_off rfl rfl (by rfl) (K0_mono _) ?_) | ((refine run_want rfl rfl (by rfl) ⟨?_, fun W hW => ?_, ?_⟩; rotate_left; (· (have d0 := hW.kc y0; have d1 := hW.kc y1; have d2 := hW.kc z0; have d3 := hW.kc z1; go_simp; (try with_reducible rfl)))))); (try simp only [Act.put, zA, zB, zC]))
  clear y0 y1 z0 z1
  refine run_end (L := []) rfl (fun W6 hW6 => ?_)
  have HT6 := zH (HT.out.trans hW6)
  clear hW6 HT
  have HT := HT6
  clear HT6
  go_wp2
  go_ret
  exact ⟨by rw [HN.out]; rfl, HS.out.trans HT.out⟩
 have d1 : decide (0 < (f.hours.length : Int)) = true := decide_eq_true (by omega)
 have d0 : decide (0 < f.hours.length) = true := decide_eq_true a1
 by_cases a2 : f.hours.length = n0
 rotate_left
 ·have d2 : ((f.hours.length : Int) == (n0 : Int)) = false := by simp; omega
  have HN := zH (show evenFB l f = false by rw [HE.out]; simp [a2])
  clear a1 a2
  go_enter Tryz.func71, Tryz.ntmps71
  go_upto_region 1 with (fail)
  rw [← HW.out]
  refine wp_region_seq (kdOf [18] []) [0, 1, 3, 7, 15, 31, 63, 127, 31, 287, 799, 1823, 3871, 8191, 16383, 32767, 65535, 131071, 262143, 524287, 1048575] [0, 1, 2, 3, 4, 5, 6, 7, 8, 9, 10, 11, 12, 13, 14, 15, 16, 17, 18, 19, 20] [] (by kernel_rfl) (by kernel_rfl) (fun i T z hi hk => by simp [kdOf] at hk <;> (try (split at hk <;> cases hk))) ?_
  intro Wx hWx
  have HTx := zH (HT.out.trans hWx)
  clear hWx HT
  have HT := HTx
  clear HTx
  (try clear y0 y1 z0 z1)
  obtain ⟨y0, y1⟩ := cells2 (HB.out.step HT.out)
  have z0 := HT.out.kc HC.out.1
  have z1 := HT.out.kc HC.out.2
  repeat ((first | (refine run_off rfl rfl (by rfl) ?_) | (refine run_chain_off rfl rfl (by rfl) (K0_mono _) ?_) | ((refine run_want rfl rfl (by rfl) ⟨?_, fun W hW => ?_, ?_⟩; rotate_left; (· (have d0 := hW.kc y0; have d1 := hW.kc y1; have d2 := hW.kc z0; have d3 := hW.kc z1; go_simp; (try with_reducible rfl)))))); (try simp only [Act.put, zA, zB, zC]))
  clear y0 y1 z0 z1
  refine run_end (L := []) rfl (fun W6 hW6 => ?_)
  have HT6 := zH (HT.out.trans hW6)
  clear hW6 HT
  have HT := HT6
  clear HT6
  go_wp2
  go_ret
  exact ⟨by rw [HN.out]; rfl, HS.out.trans HT.out⟩
 have d2 : ((f.hours.length : Int) == (n0 : Int)) = true := by simp; omega
 have HN := zH (show evenFB l f = f.hours.all rangeB by rw [HE.out]; simp [a1, a2]; omega)
 clear a1 a2
 go_enter Tryz.func71, Tryz.ntmps71
 go_upto_region 1 with (fail)
 rw [← HW.out]
 refine wp_region_seq (kdOf [18] []) [0, 1, 3, 7, 15, 31, 63, 127, 31, 287, 799, 1823, 3871, 8191, 16383, 32767, 65535, 131071, 262143, 524287, 1048575] [0, 1, 2, 3, 4, 5, 6, 7, 8, 9, 10, 11, 12, 13, 14, 15, 16, 17, 18, 19, 20] [] (by kernel_rfl) (by kernel_rfl) (fun i T z hi hk => by simp [kdOf] at hk <;> (try (split at hk <;> cases hk))) ?_
 intro Wx hWx
 have HTx := zH (HT.out.trans hWx)
 clear hWx HT
 have HT := HTx
 clear HTx
 (try clear y0 y1 z0 z1)
 obtain ⟨y0, y1⟩ := cells2 (HB.out.step HT.out)
 have z0 := HT.out.kc HC.out.1
 have z1 := HT.out.kc HC.out.2
 repeat ((first | (refine run_off rfl rfl (by rfl) ?_) | (refine run_chain_off rfl rfl (by rfl) (K0_mono _) ?_) | ((refine run_want rfl rfl (by rfl) ⟨?_, fun W hW => ?_, ?_⟩; rotate_left; (· (have d0 := hW.kc y0; have d1 := hW.kc y1; have d2 := hW.kc z0; have d3 := hW.kc z1; go_simp; (try with_reducible rfl)))))); (try simp only [Act.put, zA, zB, zC]))
 clear y0 y1 z0 z1
 refine run_chain rfl rfl (by rfl) (fun Wi hWi K' hK => ?_)
 have HTi := zH (HT.out.trans hWi)
 have HZW := zH HTi.out.size
 clear hWi HT
 go_simp
 refine (all_strong f.hours _ _ (HH.out.keep (.of_step (HS.out.trans HTi.out)))).mono ?_
 rintro e wn ⟨rfl, hSn⟩
 have HT := zH (HTi.out.trans (StepX.of hSn))
 clear HTi
 rw [← HN.out]
 refine hK _ _ (StepX.of hSn) ?_
 clear hSn
 (try simp only [Act.put, zA, zB, zC])
 (try clear y0 y1 z0 z1)
 obtain ⟨y0, y1⟩ := cells2 (HB.out.step HT.out)
 have z0 := HT.out.kc HC.out.1
 have z1 := HT.out.kc HC.out.2
 repeat ((first | (refine run_off rfl rfl (by rfl) ?_) | (refine run_chain_off rfl rfl (by rfl) (K0_mono _) ?_) | ((refine run_want rfl rfl (by rfl) ⟨?_, fun W hW => ?_, ?_⟩; rotate_left; (· (have d0 := hW.kc y0; have d1 := hW.kc y1; have d2 := hW.kc z0; have d3 := hW.kc z1; go_simp; (try with_reducible rfl)))))); (try simp only [Act.put, zA, zB, zC]))
 clear y0 y1 z0 z1
 refine run_end (L := []) rfl (fun W6 hW6 => ?_)
 have HT6 := zH (HT.out.trans hW6)
 clear hW6 HT
 have HT := HT6
 clear HT6
 go_wp2
 go_ret
 exact ⟨rfl, HS.out.trans HT.out⟩
theorem wpl_append1 {P : Program} {ops : Array Oper} {rest : List Oper} {o : Oper} {a : Act} {Q : Exit → Act → World → Prop} {α : Type} [Rep α] {S : Nat → Prop} {base : Nat} {t e : TypeId} {z : Value} {bytes : Nat} {W0 w : World} {v u : Value} {l : List α} {k : Nat} (ei : EI P t e z (Rep.k α) bytes) (hgd : o.guard = none) (s x : Operand)
  (ho : o.op = .call { callee := .builtin .append, args := #[s, x], argTypes := #[t, t] }) (hs : a.eval s = v) (hx : a.eval x = u) (hown : OwnL S base e w v (l.take k)) (hk : k < l.length) (hl : l.length ≤ 1000000) (hby : bytes ≤ 1000000) (hu : SLe (avoid S v) w u [l[k]]) (hB : Below base W0 w) (hbase : base ≤ W0.heap.size)
  (h : ∀ p c w', OwnL S base e w' (.slice p (k + 1) c) (l.take (k + 1)) → Below base W0 w' → w.grownBy w' v.ownBlock → wpList P ops Q rest (a.put o.dst (.slice p (k + 1) c)) w') : wpList P ops Q (o :: rest) a w := by
 have hn : (l.take k).length + [l[k]].length = k + 1 := by simp; omega
 have hb2 : (k + 1) * bytes ≤ 140737488355328 := Nat.le_trans (Nat.mul_le_mul (show k + 1 ≤ 1000000 by omega) hby) (by decide)
 refine wpl_append ei hgd s x ho hs hx hown hu (k + 1) hn (l.take (k + 1)) (List.take_succ_eq_append_getElem hk).symm (by simp only [maxLen]; omega) hb2 (Nat.le_trans hbase hB.size) fun p c w' h1 h2 => h p c w' h1 ?_ h2
 exact hB.grown h2 (Nat.le_trans hbase hB.size) (fun j hj => (hown.lt j hj).1)
theorem infoTest : (Tryz.prog.info? 83).map (fun i => (i.zero, i.size, i.bytes)) = some (some (.agg #[.int .i64 0, .int .i64 0, .int .i64 0, .bool false]), 4, 32) := by kernel_rfl
theorem eiTests : EI Tryz.prog 38 83 (.agg #[.int .i64 0, .int .i64 0, .int .i64 0, .bool false]) 4 32 := .mk' Tryz.underlying38 infoTest rfl
theorem infoVec : (Tryz.prog.info? 52).map (fun i => (i.zero, i.size, i.bytes)) = some (some (.agg #[.int .i64 0, .int .i64 0]), 2, 16) := by kernel_rfl
theorem eiVecs : EI Tryz.prog 43 52 (.agg #[.int .i64 0, .int .i64 0]) 2 16 := .mk' Tryz.underlying43 infoVec rfl
theorem infoRVec : (Tryz.prog.info? 113).map (fun i => (i.zero, i.size, i.bytes)) = some (some (.agg #[.int .i64 0, .int .i64 0]), 2, 16) := by kernel_rfl
theorem eiRVecs : EI Tryz.prog 25 113 (.agg #[.int .i64 0, .int .i64 0]) 2 16 := .mk' Tryz.underlying25 infoRVec rfl
theorem Tests_any (S : Nat → Prop) (l : List Tst) (v : Value) (w : World) (hv : SL S w v l) (hl : l.length ≤ 1000) :
  Calls Tryz.prog 12 #[v] w fun e w' => ∃ v', e = .returned v' ∧ SL (Old w) w' v' l ∧ Step w w' := by
 obtain ⟨pv, cv, b, o, rfl, _, hm, hp, hc, _⟩ := hv.tsts
 have HP := zH (And.intro hp hc)
 clear hp hc hv
 go_enter Tryz.func12, Tryz.ntmps12
 go_wp2
 go_loopw [3, 4] (fun out i wr => ∃ k : Nat, k ≤ l.length ∧ i = .int .i64 k ∧ OwnL (Old w) w.heap.size 83 wr out (l.take k) ∧ Below w.heap.size w wr) (fun _ i _ => l.length - (intOf i).toNat)
 case atStart => exact ⟨0, Nat.zero_le _, rfl, OwnL.nil _ _ _ _, Below.refl _ _⟩
 case round =>
  obtain ⟨k, hk, rfl, hown, hB⟩ := hrel
  have HT := zH (Step.of hB)
  have HO := zH hown
  have HB := zH hB
  obtain ⟨LL, hLL⟩ : ∃ L, L = l.take k := ⟨_, rfl⟩
  rw [← hLL] at hown
  obtain ⟨pu, cu, rfl, _⟩ := hown.form
  have HLL := zH hLL
  clear hown hB hLL
  by_cases hlt : k < l.length
  ·obtain rfl := HP.out.1 (by omega)
   obtain ⟨e1, e2, e3, e4⟩ := HP.out.2 k hlt
   have e1 := HT.out.kc e1
   have e2 := HT.out.kc e2
   have e3 := HT.out.kc e3
   have e4 := HT.out.kc e4
   have hix : (0 : Int) ≤ (k : Int) ∧ (k : Int) < (l.length : Int) := by omega
   go_upto_region 5 with (fail)
   refine wp_region_seq (kdOf [22] []) (0 :: 0 :: 0 :: 6 :: 14 :: 30 :: 0 :: 0 :: 192 :: 448 :: 960 :: 0 :: 0 :: 6144 :: 14336 :: 30720 :: 0 :: 0 :: 196608 :: 458752 :: 983040 :: 2097150 :: 4194302 :: 8388607 :: 16777215 :: []) [0, 1, 2, 3, 4, 5, 6, 7, 8, 9, 10, 11, 12, 13, 14, 15, 16, 17, 18, 19, 20, 21, 22] [23, 24] (by kernel_rfl) (by kernel_rfl) (fun i T z hi hk => by simp [kdOf] at hk <;> (try (split at hk <;> cases hk))) ?_
   intro W0 hW0
   have e1 := hW0.kc e1
   have e2 := hW0.kc e2
   have e3 := hW0.kc e3
   have e4 := hW0.kc e4
   repeat ((first | (refine run_off rfl rfl (by rfl) ?_) | (refine run_chain_off rfl rfl (by rfl) (K0_mono _) ?_) | ((refine run_want rfl rfl (by rfl) ⟨?_, fun W hW => ?_, ?_⟩; rotate_left; (· (have d0 := hW.kc e1; have d1 := hW.kc e2; have d2 := hW.kc e3; have d3 := hW.kc e4; go_simp; (try with_reducible rfl)))))); (try simp only [Act.put, zA, zB, zC]))
   refine run_chain rfl rfl (by rfl) (fun W1 hW1 K' hK' => ?_)
   go_simp
   refine hK' _ _ (.of (Step.alloc _ _)) ?_
   (try simp only [Act.put, zA, zB, zC])
   refine run_end (L := [_, _]) rfl (fun W2 hW2 => ?_)
   have hown2 := ((HO.out.step (hW0.trans hW1)).alloc (.cells #[.int .i64 l[k].soil, .int .i64 l[k].depth, .int .i64 l[k].force, .bool l[k].held] 83)).step hW2
   have hu := (SLe.one (S := avoid (Old w) (.slice pu LL.length cu)) (w := W1) (cs := [.int .i64 l[k].soil, .int .i64 l[k].depth, .int .i64 l[k].force, .bool l[k].held]) (x := l[k]) 83 rfl).step hW2
   have hB2 := ((HB.out.step (Nat.le_refl _) (hW0.trans hW1)).step (Nat.le_refl _) (Step.alloc _ (.cells #[.int .i64 l[k].soil, .int .i64 l[k].depth, .int .i64 l[k].force, .bool l[k].held] 83))).step (Nat.le_refl _) hW2
   clear hW0 hW1 hW2 hK'
   go_wp2_with (at_builtin; refine wpl_append1 (l := l) (k := k) eiTests rfl _ _ rfl rfl rfl hown2 hlt (by omega) (by decide) hu hB2 (Nat.le_refl _) ?_)
   intro p' c' w2 hown3 hB3 _
   have H3 := zH (And.intro hown3 hB3)
   clear hown2 hu hB2 hown3 hB3
   go_wp2
   go_roundw
   case rel => exact ⟨k + 1, by omega, by go_num, H3.out.1, H3.out.2⟩
   case measure => simp [intOf]; omega
  ·have HN := zH (show LL = l by rw [HLL.out, List.take_of_length_le (by omega)])
   go_wp2
   go_ret
   refine ⟨_, rfl, ?_, HT.out⟩
   have h := HO.out.fresh
   rw [← HLL.out, HN.out] at h
   rw [HN.out]; exact h
theorem Wind_any (S : Nat → Prop) (l : List Vec) (v : Value) (w : World) (hv : SL S w v l) (hl : l.length ≤ 1000) :
  Calls Tryz.prog 17 #[v] w fun e w' => ∃ v', e = .returned v' ∧ SL (Old w) w' v' l ∧ Step w w' := by
 obtain ⟨pv, cv, b, o, rfl, _, hm, hp, hc, _⟩ := hv.vecs
 have HP := zH (And.intro hp hc)
 clear hp hc hv
 go_enter Tryz.func17, Tryz.ntmps17
 go_wp2
 go_loopw [3, 4] (fun out i wr => ∃ k : Nat, k ≤ l.length ∧ i = .int .i64 k ∧ OwnL (Old w) w.heap.size 52 wr out (l.take k) ∧ Below w.heap.size w wr) (fun _ i _ => l.length - (intOf i).toNat)
 case atStart => exact ⟨0, Nat.zero_le _, rfl, OwnL.nil _ _ _ _, Below.refl _ _⟩
 case round =>
  obtain ⟨k, hk, rfl, hown, hB⟩ := hrel
  have HT := zH (Step.of hB)
  have HO := zH hown
  have HB := zH hB
  obtain ⟨LL, hLL⟩ : ∃ L, L = l.take k := ⟨_, rfl⟩
  rw [← hLL] at hown
  obtain ⟨pu, cu, rfl, _⟩ := hown.form
  have HLL := zH hLL
  clear hown hB hLL
  by_cases hlt : k < l.length
  ·obtain rfl := HP.out.1 (by omega)
   obtain ⟨e1, e2⟩ := HP.out.2 k hlt
   have e1 := HT.out.kc e1
   have e2 := HT.out.kc e2
   have hix : (0 : Int) ≤ (k : Int) ∧ (k : Int) < (l.length : Int) := by omega
   have hcall := zH (Vector_any l[k] wr)
   go_wp2_with fail
   refine hcall.out.mono ?_
   rintro e w1 ⟨rfl, hS⟩
   have hown2 := (HO.out.step hS).alloc (.cells #[.int .i64 l[k].x, .int .i64 l[k].y] 52)
   have hu := SLe.one (S := avoid (Old w) (.slice pu LL.length cu)) (w := w1) (cs := [.int .i64 l[k].x, .int .i64 l[k].y]) (x := l[k]) 52 rfl
   have hB2 := (HB.out.step (Nat.le_refl _) hS).step (Nat.le_refl _) (Step.alloc _ (.cells #[.int .i64 l[k].x, .int .i64 l[k].y] 52))
   clear hS hcall e1 e2
   go_wp2_with (at_builtin; refine wpl_append1 (l := l) (k := k) eiVecs rfl _ _ rfl rfl rfl hown2 hlt (by omega) (by decide) hu hB2 (Nat.le_refl _) ?_)
   intro p' c' w2 hown3 hB3 _
   have H3 := zH (And.intro hown3 hB3)
   clear hown2 hu hB2 hown3 hB3
   go_wp2
   go_roundw
   case rel => exact ⟨k + 1, by omega, by go_num, H3.out.1, H3.out.2⟩
   case measure => simp [intOf]; omega
  ·have HN := zH (show LL = l by rw [HLL.out, List.take_of_length_le (by omega)])
   go_wp2
   go_ret
   refine ⟨_, rfl, ?_, HT.out⟩
   have h := HO.out.fresh
   rw [← HLL.out, HN.out] at h
   rw [HN.out]; exact h
def fewH (h : Head) : Bool := decide (h.guys.length ≤ 10)
def few (l : List Tst) (t : List Head) : Bool := t.all fewH && decide (l.length ≤ 45) && decide (t.length ≤ 15)
theorem all_miss {α : Type} {l : List α} {p : α → Bool} {k : Nat} (h : k < l.length) (hp : p l[k] = false) : l.all p = false := by
 rw [List.all_eq_false]
 exact ⟨_, List.getElem_mem h, by simp [hp]⟩
theorem all_of {α : Type} {l : List α} {p : α → Bool} (h : ∀ j (hj : j < l.length), p l[j] = true) : l.all p = true := by
 rw [List.all_eq_true]
 intro x hx
 obtain ⟨j, hj, rfl⟩ := List.getElem_of_mem hx
 exact h j hj
theorem Few_any (S : Nat → Prop) (l : List Tst) (t : List Head) (v u : Value) (w : World) (hv : SL S w v l) (hu : SL S w u t) :
  Calls Tryz.prog 6 #[v, u] w fun e w' => e = .returned (.bool (few l t)) ∧ Step w w' := by
 have hm := hv.len
 obtain ⟨pv, cv, rfl⟩ := hv.form
 obtain ⟨pt, ct, b, o, rfl, _, hm2, hp, hc, _⟩ := hu.heads
 have HP := zH (And.intro hp hc)
 have HT0 := zH (Step.refl w)
 clear hp hc hv hu
 go_enter Tryz.func6, Tryz.ntmps6
 go_wp2
 go_loopw [5] (fun i wr => ∃ k : Nat, k ≤ t.length ∧ i = .int .i64 k ∧ (∀ j (hj : j < k) (hl : j < t.length), fewH t[j] = true) ∧ Step w wr) (fun i _ => t.length - (intOf i).toNat)
 case atStart => exact ⟨0, Nat.zero_le _, rfl, fun j hj => absurd hj (by omega), HT0.out⟩
 case round =>
  obtain ⟨k, hk, rfl, hno, hT⟩ := hrel
  have HN := zH hno
  have HT := zH hT
  clear hno hT
  by_cases hlt : k < t.length
  ·obtain rfl := HP.out.1 (by omega)
   obtain ⟨c2, e1, e2, e3, e4⟩ := HP.out.2 k hlt
   have hgl := e4.len
   obtain ⟨pg, cg, rfl⟩ := e4.form
   have e3 := HT.out.kc e3
   have hix : (0 : Int) ≤ (k : Int) ∧ (k : Int) < (t.length : Int) := by omega
   clear e1 e2 e4
   by_cases hg : t[k].guys.length ≤ 10
   ·have hd : decide ((10 : Int) < (t[k].guys.length : Int)) = false := by simp; omega
    have HG := zH (show fewH t[k] = true by simp [fewH, hg])
    clear hg
    go_wp2
    go_roundw
    case rel => exact ⟨k + 1, by omega, by go_num, fun j hj hl => if h : j = k then by subst h; exact HG.out else HN.out j (by omega) hl, HT.out⟩
    case measure => simp [intOf]; omega
   ·have hd : decide ((10 : Int) < (t[k].guys.length : Int)) = true := by simp; omega
    have HG := zH (show few l t = false by unfold few; rw [all_miss hlt (by simp [fewH, hg])]; rfl)
    clear hg
    go_wp2
    go_ret
    exact ⟨by rw [HG.out]; rfl, HT.out⟩
  ·have HA := zH (show t.all fewH = true from all_of fun j hj => HN.out j (by omega) hj)
   by_cases h1 : l.length ≤ 45
   ·have hd1 : decide ((l.length : Int) ≤ 45) = true := by simp; omega
    have H1 := zH h1
    clear h1
    by_cases h2 : t.length ≤ 15
    ·have hd2 : decide ((t.length : Int) ≤ 15) = true := by simp; omega
     have H2 := zH h2
     clear h2
     go_wp2
     go_ret
     exact ⟨by unfold few; rw [HA.out]; simp [H1.out, H2.out], HT.out⟩
    ·have hd2 : decide ((t.length : Int) ≤ 15) = false := by simp; omega
     have H2 := zH h2
     clear h2
     go_wp2
     go_ret
     exact ⟨by unfold few; rw [HA.out]; simp [H1.out, H2.out], HT.out⟩
   ·have hd1 : decide ((l.length : Int) ≤ 45) = false := by simp; omega
    have H1 := zH h1
    clear h1
    go_wp2
    go_ret
    exact ⟨by unfold few; rw [HA.out]; simp [H1.out], HT.out⟩
theorem cells3 {w : World} {g : Nat} {c0 c1 c2 : Value} {T : TypeId} (h : Bx w g [c0, c1, c2] T) : w.cell? ⟨g, 0, none⟩ = some c0 ∧ w.cell? ⟨g, 1, none⟩ = some c1 ∧ w.cell? ⟨g, 2, none⟩ = some c2 := ⟨h.cell 0, h.cell 1, h.cell 2⟩
theorem forces_len (l : List Tst) (gs : List Guy) : (forcesL l gs).length = gs.length := by simp [forcesL]
theorem forces_get {l : List Tst} {gs : List Guy} {k : Nat} (hk : k < (forcesL l gs).length) : (forcesL l gs)[k] = timesV ⟨(gs[k]'(by rw [forces_len] at hk; exact hk)).x, (gs[k]'(by rw [forces_len] at hk; exact hk)).y⟩ (partL l (gs[k]'(by rw [forces_len] at hk; exact hk))) := by simp [forcesL, forceL]
theorem force_wrap {l : List Tst} {g : Guy} (hl : l.all tstB = true) (hg : guyB g = true) : fits (partL l g * g.x) ∧ fits (partL l g * g.y) := by
 have hp := part_bound hl hg
 obtain ⟨hx, hy, _⟩ := guy_parts hg
 have a := part_mul hp hx
 have b := part_mul hp hy
 unfold fits
 omega
theorem Forces_any (S : Nat → Prop) (l : List Tst) (h : Head) (v u : Value) (w : World) (hv : SL S w v l) (hu : AV S w u h) (hl : l.all tstB = true) (hg : h.guys.all guyB = true) (hn : h.guys.length ≤ 1000) :
  Calls Tryz.prog 92 #[v, u] w fun e w' => ∃ v', e = .returned v' ∧ SL (Old w) w' v' (forcesL l h.guys) ∧ Step w w' := by
 obtain ⟨c2, rfl, h2⟩ := hu.head
 obtain ⟨W0, hW0⟩ : ∃ W, W = w.alloc (.cells #[.int .i64 h.area, .int .i64 h.bears, c2] 112) := ⟨_, rfl⟩
 obtain ⟨pg, cg, bg, og, rfl, _, hm, hp, hc, _⟩ := h2.guys
 have hb : Bx W0 w.heap.size [.int .i64 h.area, .int .i64 h.bears, .slice pg h.guys.length cg] 112 := by subst hW0; exact Bx.new w [_, _, _] _
 have hS : Step w W0 := by subst hW0; exact Step.alloc _ _
 have HV := zH (hv.keep (.of_step hS))
 obtain ⟨pv, cv, rfl⟩ := hv.form
 have HBX := zH hb
 have HS := zH hS
 have HW := zH hW0
 have HL := zH (And.intro hl hg)
 have HP := zH (And.intro hp hc)
 have HKL := zH (forces_len l h.guys)
 clear hb hS hW0 hl hg hv h2 hp hc
 go_enter Tryz.func92, Tryz.ntmps92
 go_wp2
 rw [← HW.out]
 go_loopw [5, 6] (fun out i wr => ∃ k : Nat, k ≤ h.guys.length ∧ i = .int .i64 k ∧ OwnL (Old W0) W0.heap.size 113 wr out ((forcesL l h.guys).take k) ∧ Below W0.heap.size W0 wr) (fun _ i _ => h.guys.length - (intOf i).toNat)
 case atStart => exact ⟨0, Nat.zero_le _, rfl, OwnL.nil _ _ _ _, Below.refl _ _⟩
 case round =>
  obtain ⟨k, hk, rfl, hown, hB⟩ := hrel
  have HT := zH (Step.of hB)
  have HO := zH hown
  have HB := zH hB
  obtain ⟨LL, hLL⟩ : ∃ L, L = (forcesL l h.guys).take k := ⟨_, rfl⟩
  rw [← hLL] at hown
  obtain ⟨pu, cu, rfl, _⟩ := hown.form
  have HLL := zH hLL
  clear hown hB hLL
  obtain ⟨f0, f1, f2⟩ := cells3 (HBX.out.step HT.out)
  by_cases hlt : k < h.guys.length
  ·obtain rfl := HP.out.1 (by omega)
   obtain ⟨e1, e2, e3, e4, e5⟩ := HP.out.2 k hlt
   have e1 := (HS.out.trans HT.out).kc e1
   have e2 := (HS.out.trans HT.out).kc e2
   have e3 := (HS.out.trans HT.out).kc e3
   have e4 := (HS.out.trans HT.out).kc e4
   have e5 := (HS.out.trans HT.out).kc e5
   have hix : (0 : Int) ≤ (k : Int) ∧ (k : Int) < (h.guys.length : Int) := by omega
   obtain ⟨g, hgk⟩ : ∃ g, g = h.guys[k] := ⟨_, rfl⟩
   have hgv := all_get HL.out.2 hlt
   rw [← hgk] at e1 e2 e3 e4 e5 hgv
   have hlk : k < (forcesL l h.guys).length := by have := HKL.out; omega
   have HFK := zH (show (forcesL l h.guys)[k] = timesV ⟨g.x, g.y⟩ (partL l g) by rw [forces_get hlk, hgk])
   have HGV := zH hgv
   clear hgk hgv
   go_wp2_with fail
   refine (Part_any S l g _ _ (HV.out.keep (.of_step HT.out)) HL.out.1 HGV.out).mono ?_
   rintro e w1 ⟨rfl, hS1⟩
   obtain ⟨p, hp⟩ : ∃ p, p = partL l g := ⟨_, rfl⟩
   have hw := force_wrap HL.out.1 HGV.out
   rw [← hp] at hw HFK ⊢
   have hw1 := hw.1.wrap
   have hw2 := hw.2.wrap
   have HS1 := zH hS1
   have e1 := hS1.kc e1
   have e2 := hS1.kc e2
   have f2 := hS1.kc f2
   clear hS1 hw hp e3 e4 e5 f0 f1
   go_upto_region 6 with (fail)
   refine wp_region_seq (kdOf [18] []) [0, 0, 0, 4, 0, 28, 60, 124, 254, 0, 0, 1024, 0, 7168, 15360, 31744, 65024, 131070, 262142, 524287, 1048575] [0, 1, 2, 3, 4, 5, 6, 7, 8, 9, 10, 11, 12, 13, 14, 15, 16, 17, 18] [19, 20] (by kernel_rfl) (by kernel_rfl) (fun i T z hi hk => by simp [kdOf] at hk <;> (try (split at hk <;> cases hk))) ?_
   intro Wx hWx
   have hW0 := HS1.out.trans hWx
   have e1 := hWx.kc e1
   have e2 := hWx.kc e2
   have f2 := hWx.kc f2
   clear hWx HS1
   repeat ((first | (refine run_off rfl rfl (by rfl) ?_) | (refine run_chain_off rfl rfl (by rfl) (K0_mono _) ?_) | ((refine run_want rfl rfl (by rfl) ⟨?_, fun W hW => ?_, ?_⟩; rotate_left; (· (have d0 := hW.kc e1; have d1 := hW.kc e2; have d2 := hW.kc f2; go_simp; (try with_reducible rfl)))))); (try simp only [Act.put, zA, zB, zC]))
   clear e1 e2 f2
   refine run_chain rfl rfl (by rfl) (fun W1 hW1 K' hK' => ?_)
   go_simp
   refine hK' _ _ (.of (Step.alloc _ _)) ?_
   (try simp only [Act.put, zA, zB, zC])
   refine run_end (L := [_, _]) rfl (fun W2 hW2 => ?_)
   have hown2 := ((HO.out.step (hW0.trans hW1)).alloc (.cells #[.int .i64 (p * g.x), .int .i64 (p * g.y)] 113)).step hW2
   have hu := (SLe.one (S := avoid (Old W0) (.slice pu LL.length cu)) (w := W1) (cs := [.int .i64 (p * g.x), .int .i64 (p * g.y)]) (x := (forcesL l h.guys)[k]) 113 (by rw [HFK.out]; rfl)).step hW2
   have hB2 := ((HB.out.step (Nat.le_refl _) (hW0.trans hW1)).step (Nat.le_refl _) (Step.alloc _ (.cells #[.int .i64 (p * g.x), .int .i64 (p * g.y)] 113))).step (Nat.le_refl _) hW2
   clear hW0 hW1 hW2 hK'
   go_wp2_with (at_builtin; refine wpl_append1 (l := (forcesL l h.guys)) (k := k) eiRVecs rfl _ _ rfl rfl rfl hown2 hlk (by have := HKL.out; omega) (by decide) hu hB2 (Nat.le_refl _) ?_)
   intro p' c' w2 hown3 hB3 _
   have H3 := zH (And.intro hown3 hB3)
   clear hown2 hu hB2 hown3 hB3
   go_wp2
   go_roundw
   case rel => exact ⟨k + 1, by omega, by go_num, H3.out.1, H3.out.2⟩
   case measure => simp [intOf]; omega
  ·have HN := zH (show LL = forcesL l h.guys by rw [HLL.out, List.take_of_length_le (by have := HKL.out; omega)])
   go_wp2
   go_ret
   refine ⟨_, rfl, ?_, HS.out.trans HT.out⟩
   have h := HO.out.fresh
   rw [← HLL.out, HN.out] at h
   rw [HN.out]; exact h.weak fun j _ hj => by have := HS.out.size; unfold Old at *; omega
theorem _root_.Go.BT.OwnL.slb {α : Type} [Rep α] {S : Nat → Prop} {base : Nat} {e : TypeId} {w : World} {v : Value} {l : List α} (h : OwnL S base e w v l) (hs : ∀ g, v.ownBlock = some g → ¬ S g) : SL S w v l := by
 have hm : l.length ≤ 9223372036854775807 := by obtain ⟨_, _, _, hm, _⟩ := h.form; simp only [maxLen] at hm; omega
 have hlt := h.lt
 obtain ⟨xs, h', hr⟩ := h
 have h := h'.2
 rcases h with ⟨rfl, h0⟩ | ⟨g, cap, cur, rfl, hb, hg, hle, hcap, hsz, htk⟩
 ·have : l = [] := List.eq_nil_of_length_eq_zero h0
  subst this; exact SL.nil S w
 ·refine ⟨_, cap, g, 0, rfl, hle, hm, fun _ => rfl, fun i hi => ⟨(hlt g rfl).2, hs g rfl, _, Rep.weak (fun j _ hj => .inl hj) (hr i hi), fun j u hj => ?_⟩⟩
  have hj' : (xs.drop (i * Rep.k α))[j]? = some u := by
   rw [List.getElem?_take] at hj; split at hj
   ·exact hj
   ·cases hj
  rw [List.getElem?_drop] at hj'
  have := h'.cells (g := g) (by simp [Value.ownBlock]) (i * Rep.k α + j) u hj'
  rw [Addr.add_lit] at this
  simpa using this
theorem _root_.Go.BT.StepX.over {C X : Nat → Prop} {w0 w w' : World} (h : StepX C w0 w) (k : StepX X w w') (hX : ∀ j, X j → w0.heap.size ≤ j ∨ C j) : StepX C w0 w' :=
 ⟨k.os.trans h.os, k.tape.trans h.tape, k.output.trans h.output, Nat.le_trans h.size k.size, fun j hj hn => (k.block j (Nat.lt_of_lt_of_le hj h.size) (fun hx => (hX j hx).elim (fun h => by omega) hn)).trans (h.block j hj hn)⟩
def MVS (S : Nat → Prop) (w : World) (v : Value) (area : Int) (F : List Vec) : Prop := ∃ (b : Int) (p2 : Option Addr) (n2 k2 : Nat) (p3 : Option Addr) (k3 : Nat), v = .agg #[.int .i64 area, .int .i64 b, .slice p2 n2 k2, .slice p3 F.length k3] ∧ SL S w (.slice p3 F.length k3) F
abbrev MV (w : World) (v : Value) (area : Int) (F : List Vec) : Prop := MVS (fun _ => False) w v area F
theorem MVS.triv {S : Nat → Prop} {w : World} {v : Value} {area : Int} {F : List Vec} (h : MVS S w v area F) : MV w v area F := by
 obtain ⟨b, p2, n2, k2, p3, k3, e, h⟩ := h
 exact ⟨b, p2, n2, k2, p3, k3, e, h.weak fun _ _ h => h.elim⟩
theorem MVS.step {w w' : World} {v : Value} {area : Int} {F : List Vec} (h : MV w v area F) (hs : Step w w') : MV w' v area F := by
 obtain ⟨b, p2, n2, k2, p3, k3, e, h⟩ := h
 exact ⟨b, p2, n2, k2, p3, k3, e, h.keep (.of_step hs)⟩
theorem siMeas : SI Tryz.prog 171 4 := ⟨⟨_, Tryz.underlying171⟩, by kernel_rfl⟩
theorem cells4 {w : World} {g : Nat} {c0 c1 c2 c3 : Value} {T : TypeId} (h : Bx w g [c0, c1, c2, c3] T) : w.cell? ⟨g, 0, none⟩ = some c0 ∧ w.cell? ⟨g, 1, none⟩ = some c1 ∧ w.cell? ⟨g, 2, none⟩ = some c2 ∧ w.cell? ⟨g, 3, none⟩ = some c3 := ⟨h.cell 0, h.cell 1, h.cell 2, h.cell 3⟩
theorem measure_any (S : Nat → Prop) (l : List Tst) (h : Head) (v u : Value) (w : World) (hv : SL S w v l) (hu : AV S w u h) (hl : l.all tstB = true) (hg : h.guys.all guyB = true) (hn : h.guys.length ≤ 1000) :
  Calls Tryz.prog 89 #[u, v] w fun e w' => ∃ v', e = .returned v' ∧ MVS (Old w) w' v' h.area (forcesL l h.guys) ∧ Step w w' := by
 obtain ⟨c2, rfl, h2⟩ := hu.head
 obtain ⟨pg, cg, bg, og, rfl, _, hm, hp, hc, hbg⟩ := h2.guys
 obtain ⟨W0, hW0⟩ : ∃ W, W = ((w.alloc (.cells #[.int .i64 h.area, .int .i64 h.bears, .slice pg h.guys.length cg] 88)).alloc (.cells #[.int .i64 0, .int .i64 0, .slice none 0 0, .slice none 0 0] 171)).alloc (.cells #[.int .i64 h.area, .int .i64 h.bears, .slice pg h.guys.length cg, .slice none 0 0] 171) := ⟨_, rfl⟩
 have hb1 : Bx W0 w.heap.size [.int .i64 h.area, .int .i64 h.bears, .slice pg h.guys.length cg] 88 := by subst hW0; exact ((Bx.new w [_, _, _] _).alloc _).alloc _
 have hb2 : Bx W0 (w.heap.size + 1) [.int .i64 0, .int .i64 0, .slice none 0 0, .slice none 0 0] 171 := by subst hW0; exact (Bx.new' _ [_, _, _, _] _ _ (by simp)).alloc _
 have hb3 : Bx W0 (w.heap.size + 2) [.int .i64 h.area, .int .i64 h.bears, .slice pg h.guys.length cg, .slice none 0 0] 171 := by subst hW0; exact Bx.new' _ [_, _, _, _] _ _ (by simp)
 have hS : Step w W0 := by subst hW0; exact (by with_reducible repeat (first | assumption | exact Step.refl _ | apply Step.s_alloc | apply Step.s_drew | apply Step.s_drewN | refine Step.trans ?_ (by assumption)))
 have hz : W0.heap.size = w.heap.size + 3 := by subst hW0; simp
 have hv0 := hv.weak (T := fun j => w.heap.size ≤ j) (fun j h1 h2 => by omega)
 have hbl : 0 < h.guys.length → bg < w.heap.size := fun h0 => (hbg h0).1
 have HV := zH (hv0.keep (.of_step hS))
 obtain ⟨pv, cv, rfl⟩ := hv.form
 have HB1 := zH hb1
 have HB2 := zH hb2
 have HB3 := zH hb3
 have HS := zH hS
 have HZ := zH hz
 have HW := zH hW0
 have HL := zH (And.intro hl hg)
 have HP := zH (And.intro hp (And.intro hc hbl))
 have HKL := zH (forces_len l h.guys)
 clear hb1 hb2 hb3 hS hz hW0 hl hg hv h2 hp hc hv0 hbl hbg
 go_enter Tryz.func89, Tryz.ntmps89
 go_wp2
 rw [← HW.out]
 go_loopw [13] (fun i wr => ∃ (k : Nat) (q : Value), k ≤ h.guys.length ∧ i = .int .i64 k ∧ Bx wr (w.heap.size + 2) [.int .i64 h.area, .int .i64 h.bears, .slice pg h.guys.length cg, q] 171 ∧ OwnL (Old W0) W0.heap.size 52 wr q ((forcesL l h.guys).take k) ∧ StepX (fun j => j = w.heap.size + 2) W0 wr) (fun i _ => h.guys.length - (intOf i).toNat)
 case atStart => exact ⟨0, _, Nat.zero_le _, rfl, HB3.out, OwnL.nil _ _ _ _, StepX.refl _ _⟩
 case round =>
  obtain ⟨k, q, hk, rfl, hb3, hown, hX⟩ := hrel
  clear HB3
  have HB3 := zH hb3
  have HX := zH hX
  have HO := zH hown
  obtain ⟨LL, hLL⟩ : ∃ L, L = (forcesL l h.guys).take k := ⟨_, rfl⟩
  rw [← hLL] at hown
  obtain ⟨pu, cu, rfl, _⟩ := hown.form
  have HLL := zH hLL
  have hne : (Value.slice pu LL.length cu).ownBlock ≠ some (w.heap.size + 2) := fun e => by have := (hown.lt _ e).1; have := HZ.out; omega
  have HNE := zH hne
  clear hown hLL hb3 hX hne
  obtain ⟨m0, m1, m2, m3⟩ := cells4 HB3.out
  have z3 := HB3.out.frozen 3
  have yl := HB3.out.lt
  by_cases hlt : k < h.guys.length
  ·have hbl := HP.out.2.2 (by omega)
   obtain rfl := HP.out.1 (by omega)
   obtain ⟨e1, e2, e3, e4, e5⟩ := HP.out.2.1 k hlt
   have hcell : ∀ o u, w.cell? ⟨bg, o, none⟩ = some u → wr.cell? ⟨bg, o, none⟩ = some u := fun o u hu => HX.out.keeps.cell (a := ⟨bg, o, none⟩) (by show ¬ bg = w.heap.size + 2; omega) (HS.out.kc hu)
   have e1 := hcell _ _ e1
   have e2 := hcell _ _ e2
   have e3 := hcell _ _ e3
   have e4 := hcell _ _ e4
   have e5 := hcell _ _ e5
   have hix : (0 : Int) ≤ (k : Int) ∧ (k : Int) < (h.guys.length : Int) := by omega
   obtain ⟨g, hgk⟩ : ∃ g, g = h.guys[k] := ⟨_, rfl⟩
   have hgv := all_get HL.out.2 hlt
   rw [← hgk] at e1 e2 e3 e4 e5 hgv
   have hlk : k < (forcesL l h.guys).length := by have := HKL.out; omega
   have HFK := zH (show (forcesL l h.guys)[k] = timesV ⟨g.x, g.y⟩ (partL l g) by rw [forces_get hlk, hgk])
   have HGV := zH hgv
   have HVr := zH (HV.out.keep (HX.out.keeps.mono fun j hj hx => by show w.heap.size ≤ j; omega))
   clear hgk hgv hcell hbl
   go_upto_region 5 with (fail)
   obtain ⟨wa, hwa⟩ : ∃ W, W = wr.alloc (.cells #[.int .i64 g.x, .int .i64 g.y, .int .i64 g.down, .int .i64 g.soil, .int .i64 g.depth] 85) := ⟨_, rfl⟩
   rw [← hwa]
   have hga : Bx wa wr.heap.size [.int .i64 g.x, .int .i64 g.y, .int .i64 g.down, .int .i64 g.soil, .int .i64 g.depth] 85 := by rw [hwa]; exact Bx.new wr [_, _, _, _, _] _
   have hsa : Step wr wa := by rw [hwa]; exact Step.alloc _ _
   have HGA := zH hga
   have HSA := zH hsa
   clear hwa hga hsa e1 e2 e3 e4 e5 m0 m1 m2 m3 z3 yl
   refine wp_region_seq (kdOf [9, 10, 11] []) [0, 1, 0, 4, 0, 16, 60, 0, 0, 384, 1020, 2044, 4095, 8191, 16383] [0, 1, 2, 3, 4, 5, 6, 7, 8, 9, 10, 11] [12, 13, 14] (by kernel_rfl) (by kernel_rfl) (fun i T z hi hk => by simp [kdOf] at hk <;> (try (split at hk <;> cases hk))) ?_
   intro Wx hWx
   have HT := zH hWx
   clear hWx
   obtain ⟨g0, g1, g2, g3, g4⟩ := cells5 (HGA.out.step HT.out)
   obtain ⟨m0, m1, m2, m3⟩ := cells4 (HB3.out.step (HSA.out.trans HT.out))
   repeat ((first | (refine run_off rfl rfl (by rfl) ?_) | (refine run_chain_off rfl rfl (by rfl) (K0_mono _) ?_) | ((refine run_want rfl rfl (by rfl) ⟨?_, fun W hW => ?_, ?_⟩; rotate_left; (· (have d0 := hW.kc g0; have d1 := hW.kc g1; have d2 := hW.kc g2; have d3 := hW.kc g3; have d4 := hW.kc g4; have d5 := hW.kc m3; go_simp; (try with_reducible rfl)))))); (try simp only [Act.put, zA, zB, zC]))
   refine run_chain rfl rfl (by rfl) (fun Wi hWi K' hK => ?_)
   have HTi := zH (HT.out.trans hWi)
   have HZW := zH HTi.out.size
   clear hWi HT
   go_simp
   refine (part_any _ l g _ _ (HVr.out.keep (.of_step (HSA.out.trans HTi.out))) HL.out.1 HGV.out).mono ?_
   rintro e wn ⟨rfl, hSn⟩
   have HT := zH (HTi.out.trans (StepX.of hSn))
   clear HTi
   refine hK _ _ (StepX.of hSn) ?_
   clear hSn
   (try simp only [Act.put, zA, zB, zC])
   clear g0 g1 g2 g3 g4 m0 m1 m2 m3
   obtain ⟨p, hp⟩ : ∃ p, p = partL l g := ⟨_, rfl⟩
   have hw := force_wrap HL.out.1 HGV.out
   rw [← hp] at hw HFK ⊢
   clear hp
   obtain ⟨g0, g1, g2, g3, g4⟩ := cells5 (HGA.out.step HT.out)
   obtain ⟨m0, m1, m2, m3⟩ := cells4 (HB3.out.step (HSA.out.trans HT.out))
   repeat ((first | (refine run_off rfl rfl (by rfl) ?_) | (refine run_chain_off rfl rfl (by rfl) (K0_mono _) ?_) | ((refine run_want rfl rfl (by rfl) ⟨?_, fun W hW => ?_, ?_⟩; rotate_left; (· (have d0 := hW.kc g0; have d1 := hW.kc g1; have d2 := hW.kc g2; have d3 := hW.kc g3; have d4 := hW.kc g4; have d5 := hW.kc m3; go_simp; (try with_reducible rfl)))))); (try simp only [Act.put, zA, zB, zC]))
   refine run_chain rfl rfl (by rfl) (fun Wi hWi K' hK => ?_)
   have HTi := zH (HT.out.trans hWi)
   have HZW := zH HTi.out.size
   clear hWi HT
   go_simp
   refine (times_any ⟨g.x, g.y⟩ p _ hw.1 hw.2).mono ?_
   rintro e wn ⟨rfl, hSn⟩
   have HT := zH (HTi.out.trans (StepX.of hSn))
   clear HTi
   refine hK _ _ (StepX.of hSn) ?_
   clear hSn
   (try simp only [Act.put, zA, zB, zC])
   clear g0 g1 g2 g3 g4 m0 m1 m2 m3
   repeat ((first | (refine run_off rfl rfl (by rfl) ?_) | (refine run_chain_off rfl rfl (by rfl) (K0_mono _) ?_) | ((refine run_want rfl rfl (by rfl) ⟨?_, fun W hW => ?_, ?_⟩; rotate_left; (· (skip; go_simp; (try with_reducible rfl)))))); (try simp only [Act.put, zA, zB, zC]))
   refine run_chain rfl rfl (by rfl) (fun W1 hW1 K' hK' => ?_)
   go_simp
   refine hK' _ _ (.of (Step.alloc _ _)) ?_
   (try simp only [Act.put, zA, zB, zC])
   refine run_end (L := [_, _, _]) rfl (fun W2 hW2 => ?_)
   have hs1 := (HSA.out.trans HT.out).trans hW1
   have hst : Step wr W2 := (hs1.trans (Step.alloc _ (.cells #[.int .i64 (timesV ⟨g.x, g.y⟩ p).x, .int .i64 (timesV ⟨g.x, g.y⟩ p).y] 52))).trans hW2
   have hown2 := HO.out.step hst
   have hu := (SLe.one (S := avoid (Old W0) (.slice pu LL.length cu)) (w := W1) (cs := [.int .i64 (timesV ⟨g.x, g.y⟩ p).x, .int .i64 (timesV ⟨g.x, g.y⟩ p).y]) (x := (forcesL l h.guys)[k]) 52 (by rw [HFK.out]; rfl)).step hW2
   have hsz : W0.heap.size ≤ W2.heap.size := Nat.le_trans HX.out.size hst.size
   have b3 := HB3.out.step hst
   have HX2 := zH (HX.out.trans (StepX.of hst))
   clear hW1 hW2 hK' hs1 hst hw
   go_wp2_with (at_builtin; refine wpl_append1 (W0 := W2) (l := (forcesL l h.guys)) (k := k) eiVecs rfl _ _ rfl rfl rfl hown2 hlk (by have := HKL.out; omega) (by decide) hu (Below.refl _ _) hsz ?_)
   intro p' c' w3 hown3 _ hg
   have b4 := b3.keep (S := fun j => (Value.slice pu LL.length cu).ownBlock = some j) (.grown hg fun j hj _ => hj) HNE.out
   obtain ⟨m0, m1, m2, m3⟩ := cells4 b4
   have z3 := b4.frozen 3
   have yl := b4.lt
   have hX3 : StepX (fun j => j = w.heap.size + 2) W0 w3 := HX2.out.over (X := fun j => (Value.slice pu LL.length cu).ownBlock = some j) (.grown hg fun j hj _ => hj) fun j hj => .inl (HO.out.lt j hj).1
   have hn3 : (Value.slice p' (k + 1) c').ownBlock ≠ some (w.heap.size + 2) := fun e => by have := (hown3.lt _ e).1; have := HZ.out; omega
   have H3 := zH (And.intro hown3 (And.intro b4 (And.intro hX3 hn3)))
   clear hown2 hu hown3 hg b3 b4 hX3 hn3 hsz
   go_wp2
   go_roundw
   case rel => exact ⟨k + 1, _, by omega, by go_num, H3.out.2.1.setCell 3 _, H3.out.1.wrote (.setCell _ _ _ _) (show w.heap.size + 2 < W0.heap.size by have := HZ.out; omega) H3.out.2.2.2, H3.out.2.2.1.setCell ⟨w.heap.size + 2, 3, none⟩ _ rfl⟩
   case measure => simp [intOf]; omega
  ·have HN := zH (show LL = forcesL l h.guys by rw [HLL.out, List.take_of_length_le (by have := HKL.out; omega)])
   obtain ⟨a0, a1, a2, a3⟩ := cells4 (HB2.out.keep HX.out.keeps (show ¬ w.heap.size + 1 = w.heap.size + 2 by omega))
   have y0 := (HB2.out.keep HX.out.keeps (show ¬ w.heap.size + 1 = w.heap.size + 2 by omega)).frozen 0
   have y1 := (HB2.out.keep HX.out.keeps (show ¬ w.heap.size + 1 = w.heap.size + 2 by omega)).frozen 1
   have y2 := (HB2.out.keep HX.out.keeps (show ¬ w.heap.size + 1 = w.heap.size + 2 by omega)).frozen 2
   have y3 := (HB2.out.keep HX.out.keeps (show ¬ w.heap.size + 1 = w.heap.size + 2 by omega)).frozen 3
   go_wp2
   have b2 := HB2.out.keep HX.out.keeps (show ¬ w.heap.size + 1 = w.heap.size + 2 by omega)
   have b5 := set4 b2 (.int .i64 h.area) (.int .i64 h.bears) (.slice pg h.guys.length cg) (.slice pu LL.length cu)
   have hx5 : Step w ((((wr.setCell ⟨w.heap.size + 1, 0, none⟩ (.int .i64 h.area)).setCell ⟨w.heap.size + 1, 1, none⟩ (.int .i64 h.bears)).setCell ⟨w.heap.size + 1, 2, none⟩ (.slice pg h.guys.length cg)).setCell ⟨w.heap.size + 1, 3, none⟩ (.slice pu LL.length cu)) :=
    StepX.fresh (StepX.fresh HS.out HX.out (fun j hj => by omega)) b5.2 (fun j hj => by omega)
   have hsl := HO.out.slb fun j hj hs => by have := (HO.out.lt j hj).1; unfold Old at hs; omega
   have hl4 := HLL.out
   rw [HN.out] at hl4
   rw [← HLL.out, HN.out] at hsl
   refine ret_struct (k := 4) rfl siMeas rfl b5.1 rfl rfl ⟨_, rfl, ⟨h.bears, pg, h.guys.length, cg, pu, cu, by rw [HN.out], ?_⟩, hx5⟩
   have hk5 := (hsl.weak (T := fun j => Old w j ∨ j = w.heap.size + 1) (fun j _ hj => by have := HZ.out; unfold Old at *; omega)).keep (b5.2.keeps.mono fun j _ hj => .inr hj)
   exact hk5.weak fun _ _ h => .inl h
theorem _root_.Go.BT.OwnL.flat {α : Type} [Flat α] {S : Nat → Prop} (T : Nat → Prop) {base : Nat} {e : TypeId} {w : World} {v : Value} {l : List α} (h : OwnL S base e w v l) : OwnL T base e w v l := by
 obtain ⟨xs, ho, hr⟩ := h; exact ⟨xs, ho, fun i hi => Flat.flat (hr i hi)⟩
def cellsV (l : List Vec) : List Value := l.flatMap fun v => [.int .i64 v.x, .int .i64 v.y]
theorem cellsV_cons (v : Vec) (l : List Vec) : cellsV (v :: l) = .int .i64 v.x :: .int .i64 v.y :: cellsV l := rfl
theorem cellsV_len : ∀ l : List Vec, (cellsV l).length = l.length * 2
 | [] => rfl
 | c :: l => by rw [cellsV_cons, List.length_cons, List.length_cons, cellsV_len l, List.length_cons]; omega
theorem cellsV_drop : ∀ (l : List Vec) (i : Nat) (hi : i < l.length), (cellsV l).drop (i * 2) = .int .i64 l[i].x :: .int .i64 l[i].y :: cellsV (l.drop (i + 1))
 | [], i, hi => by simp at hi
 | c :: l, 0, _ => by simp [cellsV_cons]
 | c :: l, i + 1, hi => by
  rw [cellsV_cons, show (i + 1) * 2 = i * 2 + 1 + 1 by omega, List.drop_succ_cons, List.drop_succ_cons, cellsV_drop l i (by simpa using hi)]
  simp
def OutW (S : Nat → Prop) (base : Nat) (w : World) (v : Value) (l : List Vec) : Prop :=
 OwnL S base 52 w v l ∨ ∃ b, base ≤ b ∧ b < w.heap.size ∧ v = .slice (some ⟨b, 0, none⟩) l.length l.length ∧ 0 < l.length ∧ ∀ j u, (cellsV l)[j]? = some u → w.cell? ⟨b, j, none⟩ = some u
theorem OutW.step {S : Nat → Prop} {base : Nat} {w w' : World} {v : Value} {l : List Vec} (h : OutW S base w v l) (hs : Step w w') : OutW S base w' v l := by
 rcases h with h | ⟨b, h1, h2, h3, h4, h5⟩
 ·exact .inl (h.step hs)
 ·exact .inr ⟨b, h1, Nat.lt_of_lt_of_le h2 hs.size, h3, h4, fun j u hj => hs.kc (h5 j u hj)⟩
theorem OutW.form {S : Nat → Prop} {base : Nat} {w : World} {v : Value} {l : List Vec} (h : OutW S base w v l) : ∃ p c, v = .slice p l.length c := by
 rcases h with h | ⟨b, _, _, h3, _⟩
 ·obtain ⟨p, c, e, _⟩ := h.form; exact ⟨p, c, e⟩
 ·exact ⟨_, _, h3⟩
theorem OutW.lt {S : Nat → Prop} {base : Nat} {w : World} {v : Value} {l : List Vec} (h : OutW S base w v l) : ∀ g, v.ownBlock = some g → base ≤ g ∧ g < w.heap.size := by
 rcases h with h | ⟨b, h1, h2, rfl, _⟩
 ·exact h.lt
 ·intro g hg; simp [Value.ownBlock] at hg; subst hg; exact ⟨h1, h2⟩
theorem OutW.sl {S : Nat → Prop} {base : Nat} {w : World} {v : Value} {l : List Vec} (h : OutW S base w v l) (hl : l.length ≤ 1000) (T : Nat → Prop) (hT : ∀ j, T j → j < base) : SL T w v l := by
 rcases h with h | ⟨b, h1, h2, rfl, h4, h5⟩
 ·exact (h.flat T).slb fun g hg ht => by have := (h.lt g hg).1; have := hT g ht; omega
 ·refine ⟨_, _, b, 0, rfl, Nat.le_refl _, by omega, fun _ => rfl, fun i hi => ⟨h2, fun ht => by have := hT b ht; omega, [.int .i64 l[i].x, .int .i64 l[i].y], rfl, fun j u hj => ?_⟩⟩
  have hd := cellsV_drop l i hi
  show w.cell? ⟨b, 0 + i * 2 + j, none⟩ = some u
  rw [Nat.zero_add]
  refine h5 _ _ ?_
  rw [← List.getElem?_drop, hd]
  match j, hj with
  | 0, hj => exact hj
  | 1, hj => exact hj
  | j + 2, hj => simp at hj
theorem OwnL.of_cellsV {S : Nat → Prop} {base : Nat} {w : World} {v : Value} {l : List Vec} (h : w.ownsRow base 52 2 v l.length (cellsV l)) : OwnL S base 52 w v l :=
 ⟨cellsV l, h, fun i hi => by
  show ((cellsV l).drop (i * 2)).take 2 = _
  rw [cellsV_drop l i hi]; rfl⟩
theorem slV {S : Nat → Prop} {w : World} {u : Value} {m : List Vec} (h : SLe S w u m) (hm : 0 < m.length) : ∃ a c, u = .slice (some a) m.length c ∧ ∀ j x, (cellsV m)[j]? = some x → w.cell? (a.add j) = some x := by
 obtain ⟨p, c, b, o, rfl, hc, hm2, hp, ha⟩ := h
 obtain rfl := hp hm
 refine ⟨⟨b, o, none⟩, c, rfl, fun j x hj => ?_⟩
 have hjl : j < m.length * 2 := by rw [← cellsV_len]; exact (List.getElem?_eq_some_iff.1 hj).1
 obtain ⟨cs, hr, hcs⟩ := ha (j / 2) (by omega)
 have hr' : cs = [.int .i64 (m[j / 2]'(by omega)).x, .int .i64 (m[j / 2]'(by omega)).y] := hr
 subst hr'
 have hd := cellsV_drop m (j / 2) (by omega)
 have hj2 : ((cellsV m).drop (j / 2 * 2))[j % 2]? = some x := by rw [List.getElem?_drop, show j / 2 * 2 + j % 2 = j by omega]; exact hj
 rw [hd] at hj2
 rw [Addr.add_lit, show o + j = o + j / 2 * 2 + j % 2 by omega]
 have h2 : j % 2 = 0 ∨ j % 2 = 1 := by omega
 rcases h2 with h2 | h2 <;> rw [h2] at hj2 ⊢
 ·exact hcs 0 x hj2
 ·exact hcs 1 x hj2
theorem cellsV_append (l m : List Vec) : cellsV (l ++ m) = cellsV l ++ cellsV m := by simp [cellsV]
theorem cellsV_one {l : List Vec} : ∀ u ∈ cellsV l, u.oneCell' = true := by
 intro u hu
 obtain ⟨v, _, hv⟩ := List.mem_flatMap.1 hu
 simp at hv
 rcases hv with rfl | rfl <;> simp [Value.oneCell']
theorem wpl_append_ways {ops : Array Oper} {rest : List Oper} {o : Oper} {a : Act} {Q : Exit → Act → World → Prop} {S : Nat → Prop} {base : Nat} {w : World} {v u : Value} {l m : List Vec} (hgd : o.guard = none) (s x : Operand)
  (ho : o.op = .call { callee := .builtin .append, args := #[s, x], argTypes := #[43, 43] }) (hs : a.eval s = v) (hx : a.eval x = u) (hv : OutW S base w v l) (hu : SLe (avoid S v) w u m) (hm : 0 < m.length) (hl : l.length + m.length ≤ 1000) (hbase : base ≤ w.heap.size)
  (h : ∀ p c w', OwnL S base 52 w' (.slice p (l.length + m.length) c) (l ++ m) → w.grownBy w' v.ownBlock → wpList Tryz.prog ops Q rest (a.put o.dst (.slice p (l.length + m.length) c)) w') : wpList Tryz.prog ops Q (o :: rest) a w := by
 rcases hv with hv | ⟨b, h1, h2, rfl, h4, h5⟩
 ·exact wpl_append eiVecs hgd s x ho hs hx hv hu _ rfl _ rfl (by simp only [maxLen]; omega) (by omega) hbase h
 ·obtain ⟨ad, c, rfl, hc⟩ := slV hu hm
  obtain ⟨ht, hzs, i, hi, hz, hsize, hby⟩ := eiVecs
  refine wpList_append_grows w hgd s x _ ho 52 i _ 2 16 ht hi hz hsize hby rfl (by omega) (some ⟨b, 0, none⟩) l.length l.length (cellsV l) hs (by simp) (cellsV_len l) (fun b' hb' j u hj => by
    obtain rfl := Option.some.inj hb'
    rw [Addr.add_lit, Nat.zero_add]; exact h5 j u hj) ad m.length c (cellsV m) hx (cellsV_len m) hc cellsV_one (by omega) (by simp only [maxLen]; omega) (by omega) fun v' w' hr hg => ?_
  rw [← cellsV_append] at hr
  have hr2 : w'.ownsRow base 52 2 v' (l ++ m).length (cellsV (l ++ m)) := by
   rw [List.length_append]
   refine ⟨hr.1, hr.2.imp id fun ⟨g, cap, cur, e, hb, r⟩ => ⟨g, cap, cur, e, Nat.le_trans hbase hb, r⟩⟩
  have hown := OwnL.of_cellsV (S := S) hr2
  obtain ⟨p, c', rfl, _⟩ := hown.form
  rw [List.length_append] at hown ⊢
  exact h p c' w' hown ⟨hg.os, hg.tape, hg.output, hg.size, fun k hk _ => hg.block k hk (by simp)⟩
theorem sle_vecs (S : Nat → Prop) (w : World) (m : List Vec) (hm : m.length ≤ 1000) : SLe S (w.alloc (.cells (cellsV m).toArray 52)) (.slice (some ⟨w.heap.size, 0, none⟩) m.length m.length) m := by
 refine ⟨_, m.length, w.heap.size, 0, rfl, Nat.le_refl _, by omega, fun _ => rfl, fun i hi => ⟨[.int .i64 m[i].x, .int .i64 m[i].y], rfl, fun j u hj => ?_⟩⟩
 show (w.alloc _).cell? ⟨w.heap.size, 0 + i * 2 + j, none⟩ = some u
 rw [World.cell?_alloc_new, Nat.zero_add]
 have hd := cellsV_drop m i hi
 have : (cellsV m)[i * 2 + j]? = some u := by
  rw [← List.getElem?_drop, hd]
  match j, hj with
  | 0, hj => exact hj
  | 1, hj => exact hj
  | j + 2, hj => simp at hj
 simpa using this
def axesV : List Vec := [⟨1, 0⟩, ⟨0, 1⟩, ⟨-1, 0⟩, ⟨0, -1⟩]
def wayF (f : Vec) : List Vec := if f = ⟨0, 0⟩ then [] else [f, timesV f (-1), ⟨-f.y, f.x⟩, ⟨f.y, -f.x⟩]
def waysK (F : List Vec) (k : Nat) : List Vec := axesV ++ (F.take k).flatMap wayF
theorem waysK_all (F : List Vec) : waysK F F.length = waysP F := by unfold waysK waysP; rw [List.take_length]; rfl
theorem waysK_step {F : List Vec} {k : Nat} (hk : k < F.length) : waysK F (k + 1) = waysK F k ++ wayF F[k] := by
 unfold waysK
 rw [List.take_succ_eq_append_getElem hk, List.flatMap_append, List.append_assoc]
 simp
theorem wayF_len (f : Vec) : (wayF f).length ≤ 4 := by unfold wayF; split <;> simp
theorem waysK_len {F : List Vec} : ∀ {k : Nat}, k ≤ F.length → (waysK F k).length ≤ 4 + k * 4
 | 0, _ => by simp [waysK, axesV]
 | k + 1, hk => by
  rw [waysK_step (by omega), List.length_append]
  have := waysK_len (F := F) (k := k) (by omega)
  have := wayF_len (F[k]'(by omega))
  omega
theorem ways_any (F : List Vec) (area : Int) (v : Value) (w : World) (hv : MV w v area F) (hF : smallV F) (hn : F.length ≤ 8) :
  Calls Tryz.prog 130 #[v] w fun e w' => ∃ v', e = .returned v' ∧ SL (Old w) w' v' (waysP F) ∧ Step w w' := by
 obtain ⟨b, p2, n2, k2, p3, k3, rfl, hsl⟩ := hv
 obtain ⟨W0, hW0⟩ : ∃ W, W = (w.alloc (.cells #[.int .i64 area, .int .i64 b, .slice p2 n2 k2, .slice p3 F.length k3] 171)).alloc (.cells #[.int .i64 1, .int .i64 0, .int .i64 0, .int .i64 1, .int .i64 (-1), .int .i64 0, .int .i64 0, .int .i64 (-1)] 214) := ⟨_, rfl⟩
 have hb1 : Bx W0 w.heap.size [.int .i64 area, .int .i64 b, .slice p2 n2 k2, .slice p3 F.length k3] 171 := by subst hW0; exact (Bx.new w [_, _, _, _] _).alloc _
 have hb2 : Bx W0 (w.heap.size + 1) [.int .i64 1, .int .i64 0, .int .i64 0, .int .i64 1, .int .i64 (-1), .int .i64 0, .int .i64 0, .int .i64 (-1)] 214 := by subst hW0; exact Bx.new' _ [_, _, _, _, _, _, _, _] _ _ (by simp)
 have hS : Step w W0 := by subst hW0; exact (by with_reducible repeat (first | assumption | exact Step.refl _ | apply Step.s_alloc | apply Step.s_drew | apply Step.s_drewN | refine Step.trans ?_ (by assumption)))
 have hz : W0.heap.size = w.heap.size + 2 := by subst hW0; simp
 obtain ⟨q3, c3, b3, o3, he3, _, _, hp, hc, hbl⟩ := hsl.vecs
 injection he3 with he31 _ he33
 subst he31 he33
 have HB1 := zH hb1
 have HB2 := zH hb2
 have HS := zH hS
 have HZ := zH hz
 have HW := zH hW0
 have HF := zH hF
 have HP := zH (And.intro hp (And.intro hc hbl))
 have HL8 := zH hn
 clear hb1 hb2 hS hz hW0 hF hp hc hbl hsl
 go_enter Tryz.func130, Tryz.ntmps130
 go_wp2
 rw [← HW.out]
 go_loopw [4, 16] (fun out i wr => ∃ k : Nat, k ≤ F.length ∧ i = .int .i64 k ∧ OutW (fun _ => False) (w.heap.size + 1) wr out (waysK F k) ∧ StepX (fun j => w.heap.size + 1 ≤ j) W0 wr) (fun _ i _ => F.length - (intOf i).toNat)
 case atStart =>
  refine ⟨0, Nat.zero_le _, rfl, .inr ⟨w.heap.size + 1, Nat.le_refl _, by have := HZ.out; omega, rfl, by simp [waysK, axesV], fun j u hj => ?_⟩, StepX.refl _ _⟩
  have h8 : cellsV (waysK F 0) = [.int .i64 1, .int .i64 0, .int .i64 0, .int .i64 1, .int .i64 (-1), .int .i64 0, .int .i64 0, .int .i64 (-1)] := by simp [waysK, axesV, cellsV]
  rw [h8] at hj
  exact (HB2.out.cell j).trans hj
 case round =>
  obtain ⟨k, hk, rfl, hout, hX⟩ := hrel
  have HX := zH hX
  have HO := zH hout
  obtain ⟨LL, hLL⟩ : ∃ L, L = waysK F k := ⟨_, rfl⟩
  rw [← hLL] at hout
  obtain ⟨pu, cu, rfl⟩ := hout.form
  have HLL := zH hLL
  clear hout hX hLL
  by_cases hlt : k < F.length
  ·have hbl := HP.out.2.2 (by omega)
   obtain rfl := HP.out.1 (by omega)
   obtain ⟨e1, e2⟩ := HP.out.2.1 k hlt
   have hcell : ∀ o u, w.cell? ⟨b3, o, none⟩ = some u → wr.cell? ⟨b3, o, none⟩ = some u := fun o u hu => HX.out.keeps.cell (a := ⟨b3, o, none⟩) (by show ¬ w.heap.size + 1 ≤ b3; omega) (HS.out.kc hu)
   have e1 := hcell _ _ e1
   have e2 := hcell _ _ e2
   have hix : (0 : Int) ≤ (k : Int) ∧ (k : Int) < (F.length : Int) := by omega
   have hb : (-500000 ≤ F[k].x ∧ F[k].x ≤ 500000) ∧ -500000 ≤ F[k].y ∧ F[k].y ≤ 500000 := by have := HF.out _ (List.getElem_mem hlt); omega
   obtain ⟨g, hg⟩ : ∃ g, g = F[k] := ⟨_, rfl⟩
   rw [← hg] at e1 e2 hb
   have HG := zH hg
   clear hg hcell hbl
   obtain ⟨gx, gy⟩ := g
   dsimp only at e1 e2 hb
   by_cases hx : gx = 0
   ·subst hx
    by_cases hy : gy = 0
    ·subst hy
     have HN := zH (show waysK F (k + 1) = waysK F k by rw [waysK_step hlt, ← HG.out]; simp [wayF])
     go_wp2
     go_roundw
     case rel => exact ⟨k + 1, by omega, by go_num, by rw [HN.out]; exact HO.out.step (Step.alloc _ _), HX.out.trans (.of (Step.alloc _ _))⟩
     case measure => simp [intOf]; omega
    ·skip
     have hwk := zH (show waysK F (k + 1) = waysK F k ++ [⟨0, gy⟩, timesV ⟨0, gy⟩ (-1), ⟨-gy, 0⟩, ⟨gy, -0⟩] by rw [waysK_step hlt, ← HG.out]; unfold wayF; rw [if_neg (by (simp; exact hy))])
     have hg1 := hb.1
     have hg2 := hb.2
     have hwy : IntKind.i64.wrap (-gy) = -gy := by rw [IntKind.wrap_i64]; omega
     have hwx : IntKind.i64.wrap (-0) = -0 := by rw [IntKind.wrap_i64]; omega
     have hf1 : fits (-1 * 0) := by unfold fits; omega
     have hf2 : fits (-1 * gy) := by unfold fits; omega
     have hl64 := waysK_len hk
     go_upto_region 7 with (fail)
     obtain ⟨wa, hwa⟩ : ∃ W, W = wr.alloc (.cells #[.int .i64 (0), .int .i64 (gy)] 52) := ⟨_, rfl⟩
     rw [← hwa]
     have hga : Bx wa wr.heap.size [.int .i64 (0), .int .i64 (gy)] 52 := by rw [hwa]; exact Bx.new wr [_, _] _
     have hsa : Step wr wa := by rw [hwa]; exact Step.alloc _ _
     have HGA := zH hga
     have HSA := zH hsa
     clear hwa hga hsa e1 e2 hb
     refine wp_region_seq (kdOf [3, 16] []) [0, 0, 0, 4, 0, 16, 48, 0, 128, 496, 0, 1024, 0, 4096, 12288, 31744, 65534, 131071, 262143] [0, 1, 2, 4, 5, 6, 7, 8, 9, 10, 11, 12, 13, 14, 15, 3, 16] [17, 18] (by kernel_rfl) (by kernel_rfl) (fun i T z hi hk => by simp [kdOf] at hk <;> (try (split at hk <;> cases hk))) ?_
     intro Wx hWx
     have HT := zH hWx
     clear hWx
     have g0 := (HGA.out.step HT.out).cell 0
     have g1 := (HGA.out.step HT.out).cell 1
     simp only [zD, zE] at g0 g1
     repeat ((first | (refine run_off rfl rfl (by rfl) ?_) | (refine run_chain_off rfl rfl (by rfl) (K0_mono _) ?_) | ((refine run_want rfl rfl (by rfl) ⟨?_, fun W hW => ?_, ?_⟩; rotate_left; (· (have d0 := hW.kc g0; have d1 := hW.kc g1; go_simp; (try with_reducible rfl)))))); (try simp only [Act.put, zA, zB, zC]))
     refine run_chain rfl rfl (by rfl) (fun Wi hWi K' hK => ?_)
     have HTi := zH (HT.out.trans hWi)
     have HZW := zH HTi.out.size
     clear hWi HT
     go_simp
     refine (times_any ⟨0, gy⟩ (-1) _ hf1 hf2).mono ?_
     rintro e wn ⟨rfl, hSn⟩
     have HT := zH (HTi.out.trans (StepX.of hSn))
     clear HTi
     refine hK _ _ (StepX.of hSn) ?_
     clear hSn
     (try simp only [Act.put, zA, zB, zC])
     clear g0 g1
     have g0 := (HGA.out.step HT.out).cell 0
     have g1 := (HGA.out.step HT.out).cell 1
     simp only [zD, zE] at g0 g1
     repeat ((first | (refine run_off rfl rfl (by rfl) ?_) | (refine run_chain_off rfl rfl (by rfl) (K0_mono _) ?_) | ((refine run_want rfl rfl (by rfl) ⟨?_, fun W hW => ?_, ?_⟩; rotate_left; (· (have d0 := hW.kc g0; have d1 := hW.kc g1; go_simp; (try with_reducible rfl)))))); (try simp only [Act.put, zA, zB, zC]))
     refine run_chain rfl rfl (by rfl) (fun W1 hW1 K' hK' => ?_)
     go_simp
     refine hK' _ _ (.of (Step.alloc _ _)) ?_
     (try simp only [Act.put, zA, zB, zC])
     refine run_end (L := [_, _]) rfl (fun W2 hW2 => ?_)
     obtain ⟨mm, hmm⟩ : ∃ m : List Vec, m = [⟨0, gy⟩, timesV ⟨0, gy⟩ (-1), ⟨-gy, 0⟩, ⟨gy, -0⟩] := ⟨_, rfl⟩
     have hml : mm.length = 4 := by rw [hmm]; rfl
     have hs1 := (HSA.out.trans HT.out).trans hW1
     have hW3 : Step (W1.alloc (.cells (cellsV mm).toArray 52)) W2 := by rw [hmm]; exact hW2
     have hu := (sle_vecs (avoid (fun _ => False) (.slice pu LL.length cu)) W1 mm (by omega)).step hW3
     have hst : Step wr W2 := (hs1.trans (Step.alloc _ (.cells (cellsV mm).toArray 52))).trans hW3
     have hov := HO.out.step hst
     rw [hml] at hu
     have hbz : w.heap.size + 1 ≤ W2.heap.size := by have := (HO.out.lt); have := HX.out.size; have := hst.size; have := HZ.out; omega
     have HML := zH hml
     have HX2 := zH (HX.out.trans (StepX.of hst))
     have hl16 := HL8.out
     have HMM := zH hmm
     clear hW1 hW2 hW3 hK' hs1 hst hml hmm
     go_wp2_with (at_builtin; refine wpl_append_ways (m := mm) rfl _ _ rfl rfl rfl hov hu (by have := HML.out; omega) (by have := HML.out; omega) hbz ?_)
     intro p' c' w3 hown hg
     have hX3 : StepX (fun j => w.heap.size + 1 ≤ j) W0 w3 := HX2.out.trans (.grown hg fun j hj _ => (HO.out.lt j hj).1)
     have hr : OutW (fun _ => False) (w.heap.size + 1) w3 (.slice p' ((waysK F k).length + mm.length) c') (waysK F (k + 1)) := by rw [hwk.out, ← HMM.out]; exact .inl hown
     have H3 := zH (And.intro hr hX3)
     clear hu hov hown hg hX3 hr hwk hbz
     go_wp2
     go_roundw
     case rel => exact ⟨k + 1, by omega, by go_num, H3.out.1, H3.out.2⟩
     case measure => simp [intOf]; omega
   ·skip
    have hwk := zH (show waysK F (k + 1) = waysK F k ++ [⟨gx, gy⟩, timesV ⟨gx, gy⟩ (-1), ⟨-gy, gx⟩, ⟨gy, -gx⟩] by rw [waysK_step hlt, ← HG.out]; unfold wayF; rw [if_neg (by (simp; intro h; exact absurd h hx))])
    have hg1 := hb.1
    have hg2 := hb.2
    have hwy : IntKind.i64.wrap (-gy) = -gy := by rw [IntKind.wrap_i64]; omega
    have hwx : IntKind.i64.wrap (-gx) = -gx := by rw [IntKind.wrap_i64]; omega
    have hf1 : fits (-1 * gx) := by unfold fits; omega
    have hf2 : fits (-1 * gy) := by unfold fits; omega
    have hl64 := waysK_len hk
    go_upto_region 7 with (fail)
    obtain ⟨wa, hwa⟩ : ∃ W, W = wr.alloc (.cells #[.int .i64 (gx), .int .i64 (gy)] 52) := ⟨_, rfl⟩
    rw [← hwa]
    have hga : Bx wa wr.heap.size [.int .i64 (gx), .int .i64 (gy)] 52 := by rw [hwa]; exact Bx.new wr [_, _] _
    have hsa : Step wr wa := by rw [hwa]; exact Step.alloc _ _
    have HGA := zH hga
    have HSA := zH hsa
    clear hwa hga hsa e1 e2 hb
    refine wp_region_seq (kdOf [3, 16] []) [0, 0, 0, 4, 0, 16, 48, 0, 128, 496, 0, 1024, 0, 4096, 12288, 31744, 65534, 131071, 262143] [0, 1, 2, 4, 5, 6, 7, 8, 9, 10, 11, 12, 13, 14, 15, 3, 16] [17, 18] (by kernel_rfl) (by kernel_rfl) (fun i T z hi hk => by simp [kdOf] at hk <;> (try (split at hk <;> cases hk))) ?_
    intro Wx hWx
    have HT := zH hWx
    clear hWx
    have g0 := (HGA.out.step HT.out).cell 0
    have g1 := (HGA.out.step HT.out).cell 1
    simp only [zD, zE] at g0 g1
    repeat ((first | (refine run_off rfl rfl (by rfl) ?_) | (refine run_chain_off rfl rfl (by rfl) (K0_mono _) ?_) | ((refine run_want rfl rfl (by rfl) ⟨?_, fun W hW => ?_, ?_⟩; rotate_left; (· (have d0 := hW.kc g0; have d1 := hW.kc g1; go_simp; (try with_reducible rfl)))))); (try simp only [Act.put, zA, zB, zC]))
    refine run_chain rfl rfl (by rfl) (fun Wi hWi K' hK => ?_)
    have HTi := zH (HT.out.trans hWi)
    have HZW := zH HTi.out.size
    clear hWi HT
    go_simp
    refine (times_any ⟨gx, gy⟩ (-1) _ hf1 hf2).mono ?_
    rintro e wn ⟨rfl, hSn⟩
    have HT := zH (HTi.out.trans (StepX.of hSn))
    clear HTi
    refine hK _ _ (StepX.of hSn) ?_
    clear hSn
    (try simp only [Act.put, zA, zB, zC])
    clear g0 g1
    have g0 := (HGA.out.step HT.out).cell 0
    have g1 := (HGA.out.step HT.out).cell 1
    simp only [zD, zE] at g0 g1
    repeat ((first | (refine run_off rfl rfl (by rfl) ?_) | (refine run_chain_off rfl rfl (by rfl) (K0_mono _) ?_) | ((refine run_want rfl rfl (by rfl) ⟨?_, fun W hW => ?_, ?_⟩; rotate_left; (· (have d0 := hW.kc g0; have d1 := hW.kc g1; go_simp; (try with_reducible rfl)))))); (try simp only [Act.put, zA, zB, zC]))
    refine run_chain rfl rfl (by rfl) (fun W1 hW1 K' hK' => ?_)
    go_simp
    refine hK' _ _ (.of (Step.alloc _ _)) ?_
    (try simp only [Act.put, zA, zB, zC])
    refine run_end (L := [_, _]) rfl (fun W2 hW2 => ?_)
    obtain ⟨mm, hmm⟩ : ∃ m : List Vec, m = [⟨gx, gy⟩, timesV ⟨gx, gy⟩ (-1), ⟨-gy, gx⟩, ⟨gy, -gx⟩] := ⟨_, rfl⟩
    have hml : mm.length = 4 := by rw [hmm]; rfl
    have hs1 := (HSA.out.trans HT.out).trans hW1
    have hW3 : Step (W1.alloc (.cells (cellsV mm).toArray 52)) W2 := by rw [hmm]; exact hW2
    have hu := (sle_vecs (avoid (fun _ => False) (.slice pu LL.length cu)) W1 mm (by omega)).step hW3
    have hst : Step wr W2 := (hs1.trans (Step.alloc _ (.cells (cellsV mm).toArray 52))).trans hW3
    have hov := HO.out.step hst
    rw [hml] at hu
    have hbz : w.heap.size + 1 ≤ W2.heap.size := by have := (HO.out.lt); have := HX.out.size; have := hst.size; have := HZ.out; omega
    have HML := zH hml
    have HX2 := zH (HX.out.trans (StepX.of hst))
    have hl16 := HL8.out
    have HMM := zH hmm
    clear hW1 hW2 hW3 hK' hs1 hst hml hmm
    go_wp2_with (at_builtin; refine wpl_append_ways (m := mm) rfl _ _ rfl rfl rfl hov hu (by have := HML.out; omega) (by have := HML.out; omega) hbz ?_)
    intro p' c' w3 hown hg
    have hX3 : StepX (fun j => w.heap.size + 1 ≤ j) W0 w3 := HX2.out.trans (.grown hg fun j hj _ => (HO.out.lt j hj).1)
    have hr : OutW (fun _ => False) (w.heap.size + 1) w3 (.slice p' ((waysK F k).length + mm.length) c') (waysK F (k + 1)) := by rw [hwk.out, ← HMM.out]; exact .inl hown
    have H3 := zH (And.intro hr hX3)
    clear hu hov hown hg hX3 hr hwk hbz
    go_wp2
    go_roundw
    case rel => exact ⟨k + 1, by omega, by go_num, H3.out.1, H3.out.2⟩
    case measure => simp [intOf]; omega
  ·have HN := zH (show LL = waysP F by rw [HLL.out, ← waysK_all]; congr 1; omega)
   go_wp2
   go_ret
   refine ⟨_, rfl, ?_, StepX.fresh HS.out HX.out (fun j hj => by omega)⟩
   have hk8 := waysK_len hk
   have h := HO.out.sl (by have := HL8.out; omega) (Old w) (fun j hj => by unfold Old at hj; omega)
   rw [← HLL.out, HN.out] at h
   rw [HN.out]; exact h
theorem mul_in {a b A B : Int} (ha : -A ≤ a ∧ a ≤ A) (hb : -B ≤ b ∧ b ≤ B) : -(A * B) ≤ a * b ∧ a * b ≤ A * B := by
 have h1 := Int.mul_nonneg (show 0 ≤ A - a by omega) (show 0 ≤ B - b by omega)
 have h2 := Int.mul_nonneg (show 0 ≤ A + a by omega) (show 0 ≤ B + b by omega)
 have h3 := Int.mul_nonneg (show 0 ≤ A - a by omega) (show 0 ≤ B + b by omega)
 have h4 := Int.mul_nonneg (show 0 ≤ A + a by omega) (show 0 ≤ B - b by omega)
 constructor <;> grind
def inV (n : Int) (v : Vec) : Prop := (-n ≤ v.x ∧ v.x ≤ n) ∧ -n ≤ v.y ∧ v.y ≤ n
theorem inV.mono {m n : Int} {v : Vec} (h : inV m v) (hmn : m ≤ n) : inV n v := by unfold inV at *; omega
theorem small_get {F : List Vec} (h : smallV F) {k : Nat} (hk : k < F.length) : inV 500000 F[k] := by
 have := h _ (List.getElem_mem hk); unfold inV; omega
theorem dot_in {v o : Vec} {A B : Int} (hv : inV A v) (ho : inV B o) : (-(A * B) ≤ v.x * o.x ∧ v.x * o.x ≤ A * B) ∧ (-(A * B) ≤ v.y * o.y ∧ v.y * o.y ≤ A * B) := ⟨mul_in hv.1 ho.1, mul_in hv.2 ho.2⟩
theorem dot_fits {v o : Vec} {A B : Int} (hv : inV A v) (ho : inV B o) (hAB : A * B ≤ 4000000000000000000) : fits (v.x * o.x) ∧ fits (v.y * o.y) ∧ fits (v.x * o.x + v.y * o.y) ∧ -(2 * (A * B)) ≤ dotV v o ∧ dotV v o ≤ 2 * (A * B) := by
 have h := dot_in hv ho
 unfold fits dotV
 omega
theorem help_take {F : List Vec} {w : Vec} {k : Nat} (hk : k < F.length) : helpL (F.take (k + 1)) w = helpL (F.take k) w + max 0 (-(dotV w F[k])) := by
 unfold helpL
 rw [List.take_succ_eq_append_getElem hk, List.map_append, List.sum_append]
 simp
theorem help_bound {F : List Vec} {w : Vec} (hF : smallV F) (hw : inV 1000000 w) : ∀ k, k ≤ F.length → 0 ≤ helpL (F.take k) w ∧ helpL (F.take k) w ≤ k * 1000000000000
 | 0, _ => by simp [helpL]
 | k + 1, hk => by
  have ih := help_bound hF hw k (by omega)
  rw [help_take (by omega)]
  have hd := (dot_fits (v := w) (o := F[k]'(by omega)) hw (small_get hF (by omega)) (by decide)).2.2.2
  omega
theorem help_any (F : List Vec) (area : Int) (way : Vec) (v : Value) (w : World) (hv : MV w v area F) (hF : smallV F) (hn : F.length ≤ 8) (hw : inV 1000000 way) :
  Calls Tryz.prog 132 #[v, .agg #[.int .i64 way.x, .int .i64 way.y]] w fun e w' => e = .returned (.int .i64 (helpL F way)) ∧ Step w w' := by
 obtain ⟨b, p2, n2, k2, p3, k3, rfl, hsl⟩ := hv
 obtain ⟨W0, hW0⟩ : ∃ W, W = (w.alloc (.cells #[.int .i64 area, .int .i64 b, .slice p2 n2 k2, .slice p3 F.length k3] 171)).alloc (.cells #[.int .i64 way.x, .int .i64 way.y] 52) := ⟨_, rfl⟩
 have hS : Step w W0 := by subst hW0; exact (by with_reducible repeat (first | assumption | exact Step.refl _ | apply Step.s_alloc | apply Step.s_drew | apply Step.s_drewN | refine Step.trans ?_ (by assumption)))
 obtain ⟨q3, c3, b3, o3, he3, _, _, hp, hc, _⟩ := hsl.vecs
 injection he3 with he31 _ he33
 subst he31 he33
 have HS := zH hS
 have HW := zH hW0
 have HF := zH hF
 have HP := zH (And.intro hp hc)
 have HWY := zH hw
 clear hS hW0 hF hp hc hsl hw
 go_enter Tryz.func132, Tryz.ntmps132
 go_wp2
 rw [← HW.out]
 go_loopw [5, 14] (fun s i wr => ∃ k : Nat, k ≤ F.length ∧ i = .int .i64 k ∧ s = .int .i64 (helpL (F.take k) way) ∧ Step W0 wr) (fun _ i _ => F.length - (intOf i).toNat)
 case atStart => exact ⟨0, Nat.zero_le _, rfl, rfl, Step.refl _⟩
 case round =>
  obtain ⟨k, hk, rfl, rfl, hT⟩ := hrel
  have HT := zH hT
  clear hT
  by_cases hlt : k < F.length
  ·obtain rfl := HP.out.1 (by omega)
   obtain ⟨e1, e2⟩ := HP.out.2 k hlt
   have e1 := (HS.out.trans HT.out).kc e1
   have e2 := (HS.out.trans HT.out).kc e2
   have hix : (0 : Int) ≤ (k : Int) ∧ (k : Int) < (F.length : Int) := by omega
   have hw := HWY.out
   have hdf := dot_fits (v := way) (o := F[k]) hw (small_get HF.out hlt) (by decide)
   have hbd := help_bound HF.out hw k hk
   have HTK := zH (help_take (w := way) hlt)
   obtain ⟨h, hh⟩ : ∃ h, h = helpL (F.take k) way := ⟨_, rfl⟩
   rw [← hh] at hbd HTK
   obtain ⟨d, hd⟩ : ∃ d, d = dotV way F[k] := ⟨_, rfl⟩
   rw [← hd] at hdf HTK
   have HH := zH (And.intro hh hd)
   have hcall := zH (dot_any way F[k] (wr.alloc (.cells #[.int .i64 F[k].x, .int .i64 F[k].y] 52)) hdf.1 hdf.2.1 hdf.2.2.1)
   have hwn : IntKind.i64.wrap (-d) = -d := by rw [IntKind.wrap_i64]; omega
   have hwa : IntKind.i64.wrap (h + -d) = h + -d := by rw [IntKind.wrap_i64]; omega
   have hwb : IntKind.i64.wrap h = h := by rw [IntKind.wrap_i64]; omega
   rw [← hh]
   clear hw hdf hbd hh
   go_wp2_with fail
   refine hcall.out.mono ?_
   rintro e w1 ⟨rfl, hS1⟩
   rw [← hd]
   have HS1 := zH (HT.out.trans ((Step.alloc _ _).trans hS1))
   clear hd hcall hS1 e1 e2
   by_cases h0 : 0 < -d
   ·have HN := zH (show helpL (F.take (k + 1)) way = h + -d by rw [HTK.out]; omega)
    go_wp2
    go_roundw
    case rel => exact ⟨k + 1, by omega, by go_num, by rw [HN.out], HS1.out⟩
    case measure => simp [intOf]; omega
   ·have HN := zH (show helpL (F.take (k + 1)) way = h by rw [HTK.out]; omega)
    go_wp2
    go_roundw
    case rel => exact ⟨k + 1, by omega, by go_num, by rw [HN.out], HS1.out⟩
    case measure => simp [intOf]; omega
  ·have HN := zH (show helpL (F.take k) way = helpL F way by rw [List.take_of_length_le (by omega)])
   go_wp2
   go_ret
   exact ⟨by rw [← HN.out]; rfl, HS.out.trans HT.out⟩
theorem Help_any (S : Nat → Prop) (F : List Vec) (way : Vec) (v : Value) (w : World) (hv : SL S w v F) (hF : smallV F) (hn : F.length ≤ 8) (hw : inV 1000000 way) :
  Calls Tryz.prog 135 #[v, .agg #[.int .i64 way.x, .int .i64 way.y]] w fun e w' => e = .returned (.int .i64 (helpL F way)) ∧ Step w w' := by
 obtain ⟨p3, k3, b3, o3, rfl, _, hm, hp, hc, _⟩ := hv.vecs
 obtain ⟨W0, hW0⟩ : ∃ W, W = w.alloc (.cells #[.int .i64 way.x, .int .i64 way.y] 113) := ⟨_, rfl⟩
 have hb : Bx W0 w.heap.size [.int .i64 way.x, .int .i64 way.y] 113 := by subst hW0; exact Bx.new w [_, _] _
 have hS : Step w W0 := by subst hW0; exact (by with_reducible repeat (first | assumption | exact Step.refl _ | apply Step.s_alloc | apply Step.s_drew | apply Step.s_drewN | refine Step.trans ?_ (by assumption)))
 have HBX := zH hb
 have HS := zH hS
 have HW := zH hW0
 have HF := zH hF
 have HP := zH (And.intro hp hc)
 have HWY := zH hw
 clear hS hb hW0 hF hp hc hw hv
 go_enter Tryz.func135, Tryz.ntmps135
 go_wp2
 rw [← HW.out]
 go_loopw [5, 6] (fun s i wr => ∃ k : Nat, k ≤ F.length ∧ i = .int .i64 k ∧ s = .int .i64 (helpL (F.take k) way) ∧ Step W0 wr) (fun _ i _ => F.length - (intOf i).toNat)
 case atStart => exact ⟨0, Nat.zero_le _, rfl, rfl, Step.refl _⟩
 case round =>
  obtain ⟨k, hk, rfl, rfl, hT⟩ := hrel
  have HT := zH hT
  clear hT
  by_cases hlt : k < F.length
  ·obtain rfl := HP.out.1 (by omega)
   have HE := zH (HP.out.2 k hlt)
   have hix : (0 : Int) ≤ (k : Int) ∧ (k : Int) < (F.length : Int) := by omega
   have hw := HWY.out
   have hdf := dot_fits (v := way) (o := F[k]) hw (small_get HF.out hlt) (by decide)
   have hbd := help_bound HF.out hw k hk
   have HTK := zH (help_take (w := way) hlt)
   obtain ⟨h, hh⟩ : ∃ h, h = helpL (F.take k) way := ⟨_, rfl⟩
   rw [← hh] at hbd HTK
   obtain ⟨d, hd⟩ : ∃ d, d = dotV way F[k] := ⟨_, rfl⟩
   rw [← hd] at hdf HTK
   have HH := zH (And.intro hh hd)
   have HDF := zH hdf
   have hwn : IntKind.i64.wrap (-d) = -d := by rw [IntKind.wrap_i64]; omega
   have hwa : IntKind.i64.wrap (h + -d) = h + -d := by rw [IntKind.wrap_i64]; omega
   have hwb : IntKind.i64.wrap h = h := by rw [IntKind.wrap_i64]; omega
   rw [← hh]
   clear hw hdf hbd hh hd
   by_cases h0 : 0 < -d
   ·have HN := zH (show helpL (F.take (k + 1)) way = h + -d by rw [HTK.out]; omega)
    go_upto_region 5 with (fail)
    refine wp_region_seq (kdOf [6] []) [0, 0, 0, 0, 12, 28, 62, 126, 254, 511, 1023] [0, 1, 2, 3, 4, 5, 6, 7, 8, 9, 10] [] (by kernel_rfl) (by kernel_rfl) (fun i T z hi hk => by simp [kdOf] at hk <;> (try (split at hk <;> cases hk))) ?_
    intro Wx hWx
    have HTx := zH (HT.out.trans hWx)
    clear hWx HT
    have HT := HTx
    clear HTx
    have g0 := (HBX.out.step HT.out).cell 0
    have g1 := (HBX.out.step HT.out).cell 1
    simp only [zD, zE] at g0 g1
    have e1 := (HS.out.trans HT.out).kc HE.out.1
    have e2 := (HS.out.trans HT.out).kc HE.out.2
    repeat ((first | (refine run_off rfl rfl (by rfl) ?_) | (refine run_chain_off rfl rfl (by rfl) (K0_mono _) ?_) | ((refine run_want rfl rfl (by rfl) ⟨?_, fun W hW => ?_, ?_⟩; rotate_left; (· (have d0 := hW.kc g0; have d1 := hW.kc g1; have d2 := hW.kc e1; have d3 := hW.kc e2; go_simp; (try with_reducible rfl)))))); (try simp only [Act.put, zA, zB, zC]))
    refine run_chain rfl rfl (by rfl) (fun Wi hWi K' hK => ?_)
    have HTi := zH (HT.out.trans hWi)
    have HZW := zH HTi.out.size
    clear hWi HT
    go_simp
    refine (Dot_any way F[k] _ HDF.out.1 HDF.out.2.1 HDF.out.2.2.1).mono ?_
    rintro e wn ⟨rfl, hSn⟩
    have HT := zH (HTi.out.trans (StepX.of hSn))
    clear HTi
    rw [← HH.out.2]
    refine hK _ _ (StepX.of hSn) ?_
    clear hSn
    (try simp only [Act.put, zA, zB, zC])
    clear g0 g1 e1 e2
    repeat ((first | (refine run_off rfl rfl (by rfl) ?_) | (refine run_chain_off rfl rfl (by rfl) (K0_mono _) ?_) | ((refine run_want rfl rfl (by rfl) ⟨?_, fun W hW => ?_, ?_⟩; rotate_left; (· (skip; go_simp; (try with_reducible rfl)))))); (try simp only [Act.put, zA, zB, zC]))
    refine run_end (L := []) rfl (fun W6 hW6 => ?_)
    have HT6 := zH (HT.out.trans hW6)
    clear hW6 HT
    have HT := HT6
    clear HT6
    go_wp2
    go_roundw
    case rel => exact ⟨k + 1, by omega, by go_num, by rw [HN.out, if_pos (show d < 0 by omega), hwa], HT.out⟩
    case measure => simp [intOf]; omega
   ·have HN := zH (show helpL (F.take (k + 1)) way = h by rw [HTK.out]; omega)
    go_upto_region 5 with (fail)
    refine wp_region_seq (kdOf [6] []) [0, 0, 0, 0, 12, 28, 62, 126, 254, 511, 1023] [0, 1, 2, 3, 4, 5, 6, 7, 8, 9, 10] [] (by kernel_rfl) (by kernel_rfl) (fun i T z hi hk => by simp [kdOf] at hk <;> (try (split at hk <;> cases hk))) ?_
    intro Wx hWx
    have HTx := zH (HT.out.trans hWx)
    clear hWx HT
    have HT := HTx
    clear HTx
    have g0 := (HBX.out.step HT.out).cell 0
    have g1 := (HBX.out.step HT.out).cell 1
    simp only [zD, zE] at g0 g1
    have e1 := (HS.out.trans HT.out).kc HE.out.1
    have e2 := (HS.out.trans HT.out).kc HE.out.2
    repeat ((first | (refine run_off rfl rfl (by rfl) ?_) | (refine run_chain_off rfl rfl (by rfl) (K0_mono _) ?_) | ((refine run_want rfl rfl (by rfl) ⟨?_, fun W hW => ?_, ?_⟩; rotate_left; (· (have d0 := hW.kc g0; have d1 := hW.kc g1; have d2 := hW.kc e1; have d3 := hW.kc e2; go_simp; (try with_reducible rfl)))))); (try simp only [Act.put, zA, zB, zC]))
    refine run_chain rfl rfl (by rfl) (fun Wi hWi K' hK => ?_)
    have HTi := zH (HT.out.trans hWi)
    have HZW := zH HTi.out.size
    clear hWi HT
    go_simp
    refine (Dot_any way F[k] _ HDF.out.1 HDF.out.2.1 HDF.out.2.2.1).mono ?_
    rintro e wn ⟨rfl, hSn⟩
    have HT := zH (HTi.out.trans (StepX.of hSn))
    clear HTi
    rw [← HH.out.2]
    refine hK _ _ (StepX.of hSn) ?_
    clear hSn
    (try simp only [Act.put, zA, zB, zC])
    clear g0 g1 e1 e2
    repeat ((first | (refine run_off rfl rfl (by rfl) ?_) | (refine run_chain_off rfl rfl (by rfl) (K0_mono _) ?_) | ((refine run_want rfl rfl (by rfl) ⟨?_, fun W hW => ?_, ?_⟩; rotate_left; (· (skip; go_simp; (try with_reducible rfl)))))); (try simp only [Act.put, zA, zB, zC]))
    refine run_end (L := []) rfl (fun W6 hW6 => ?_)
    have HT6 := zH (HT.out.trans hW6)
    clear hW6 HT
    have HT := HT6
    clear HT6
    go_wp2
    go_roundw
    case rel => exact ⟨k + 1, by omega, by go_num, by rw [HN.out, if_neg (show ¬ d < 0 by omega), Int.add_zero, hwb], HT.out⟩
    case measure => simp [intOf]; omega
  ·have HN := zH (show helpL (F.take k) way = helpL F way by rw [List.take_of_length_le (by omega)])
   go_wp2
   go_ret
   exact ⟨by rw [← HN.out]; rfl, HS.out.trans HT.out⟩
theorem ways_in {F : List Vec} (hF : smallV F) : ∀ w ∈ waysP F, inV 500000 w := fun w hw => by
 rcases List.mem_append.1 hw with hw | hw
 ·simp at hw
  rcases hw with rfl | rfl | rfl | rfl <;> simp [inV]
 ·obtain ⟨f, hf, hw⟩ := List.mem_flatMap.1 hw
  have hs := hF f hf
  split at hw
  ·simp at hw
  ·simp [timesV] at hw
   rcases hw with rfl | rfl | rfl | rfl <;> simp only [inV] <;> omega
theorem waysP_len {F : List Vec} : (waysP F).length ≤ 4 + F.length * 4 := by rw [← waysK_all]; exact waysK_len (Nat.le_refl _)
theorem weak_any (F : List Vec) (area : Int) (p : Vec) (v : Value) (w : World) (hv : MV w v area F) (hF : smallV F) (hn : F.length ≤ 8) (hp : inV 100000000000 p) :
  Calls Tryz.prog 90 #[v, .agg #[.int .i64 p.x, .int .i64 p.y]] w fun e w' => ∃ x y : Int, e = .returned (.tuple #[.agg #[.int .i64 x, .int .i64 y], .bool (!balL F p)]) ∧ (balL F p = true → x = 0 ∧ y = 0) ∧ (balL F p = false → helpL F ⟨x, y⟩ < dotV ⟨x, y⟩ p ∧ inV 500000 ⟨x, y⟩) ∧ Step w w' := by
 have hv0 := hv
 obtain ⟨b, p2, n2, k2, p3, k3, rfl, hsl⟩ := hv
 obtain ⟨W0, hW0⟩ : ∃ W, W = ((w.alloc (.cells #[.int .i64 area, .int .i64 b, .slice p2 n2 k2, .slice p3 F.length k3] 171)).alloc (.cells #[.int .i64 p.x, .int .i64 p.y] 52)).alloc (.cells #[.int .i64 0, .int .i64 0] 52) := ⟨_, rfl⟩
 have hb1 : Bx W0 w.heap.size [.int .i64 area, .int .i64 b, .slice p2 n2 k2, .slice p3 F.length k3] 171 := by subst hW0; exact ((Bx.new w [_, _, _, _] _).alloc _).alloc _
 have hb2 : Bx W0 (w.heap.size + 1) [.int .i64 p.x, .int .i64 p.y] 52 := by subst hW0; exact (Bx.new' _ [_, _] _ _ (by simp)).alloc _
 have hb3 : Bx W0 (w.heap.size + 2) [.int .i64 0, .int .i64 0] 52 := by subst hW0; exact Bx.new' _ [_, _] _ _ (by simp)
 have hS : Step w W0 := by subst hW0; exact (by with_reducible repeat (first | assumption | exact Step.refl _ | apply Step.s_alloc | apply Step.s_drew | apply Step.s_drewN | refine Step.trans ?_ (by assumption)))
 have HB1 := zH hb1
 have HB2 := zH hb2
 have HB3 := zH hb3
 have HV := zH (hv0.step hS)
 have HS := zH hS
 have HW := zH hW0
 have HF := zH hF
 have HPP := zH hp
 clear hS hb1 hb2 hb3 hW0 hF hp hv0 hsl
 go_enter Tryz.func90, Tryz.ntmps90
 go_wp2_with fail
 rw [show w.heap.size + 1 + 1 = w.heap.size + 2 from rfl, ← HW.out]
 refine (ways_any F area _ _ HV.out HF.out hn).mono ?_
 rintro e w1 ⟨vw, rfl, hvw, hS1⟩
 have hwl := waysP_len (F := F)
 obtain ⟨WY, hWY⟩ : ∃ L, L = waysP F := ⟨_, rfl⟩
 rw [← hWY] at hvw hwl
 have HWY := zH hWY
 obtain ⟨pw, kw, bw, ow, rfl, _, hmw, hpw, hcw, _⟩ := hvw.vecs
 have HPW := zH (And.intro hpw hcw)
 have HS1 := zH hS1
 have HT0 := zH (Step.refl w1)
 clear hWY hvw hpw hcw hS1
 go_wp2
 go_loopw [11] (fun i wr => ∃ k : Nat, k ≤ WY.length ∧ i = .int .i64 k ∧ (∀ j (hj : j < k) (hl : j < WY.length), strongB F p WY[j] = false) ∧ Step w1 wr) (fun i _ => WY.length - (intOf i).toNat)
 case atStart => exact ⟨0, Nat.zero_le _, rfl, fun j hj => absurd hj (by omega), HT0.out⟩
 case round =>
  obtain ⟨k, hk, rfl, hno, hT⟩ := hrel
  have HN := zH hno
  have HT := zH hT
  clear hno hT
  by_cases hlt : k < WY.length
  ·obtain rfl := HPW.out.1 (by omega)
   obtain ⟨e1, e2⟩ := HPW.out.2 k hlt
   have e1 := HT.out.kc e1
   have e2 := HT.out.kc e2
   have hix : (0 : Int) ≤ (k : Int) ∧ (k : Int) < (WY.length : Int) := by omega
   have hin : inV 500000 WY[k] := ways_in HF.out _ (by rw [← HWY.out]; exact List.getElem_mem hlt)
   obtain ⟨g, hg⟩ : ∃ g, g = WY[k] := ⟨_, rfl⟩
   rw [← hg] at e1 e2 hin
   have HG := zH hg
   have hdf := dot_fits hin HPP.out (by decide)
   have HDF := zH (And.intro hin hdf)
   clear hg hin hdf
   go_upto_region 4 with (fail)
   obtain ⟨wa, hwa⟩ : ∃ W, W = wr.alloc (.cells #[.int .i64 g.x, .int .i64 g.y] 52) := ⟨_, rfl⟩
   rw [← hwa]
   have hga : Bx wa wr.heap.size [.int .i64 g.x, .int .i64 g.y] 52 := by rw [hwa]; exact Bx.new wr [_, _] _
   have hsa : Step W0 wa := by rw [hwa]; exact (HS1.out.trans HT.out).trans (Step.alloc _ _)
   have hsb : Step w1 wa := by rw [hwa]; exact HT.out.trans (Step.alloc _ _)
   have HGA := zH hga
   have HSA := zH (And.intro hsa hsb)
   clear hwa hga hsa hsb e1 e2 HT
   refine wp_region_seq (kdOf [2, 5] []) [0, 0, 3, 0, 0, 31, 63] [0, 1, 3, 4, 2, 5, 6] [] (by kernel_rfl) (by kernel_rfl) (fun i T z hi hk => by simp [kdOf] at hk <;> (try (split at hk <;> cases hk))) ?_
   intro Wx hWx
   have HT := zH hWx
   clear hWx
   have g0 := (HGA.out.step HT.out).cell 0
   have g1 := (HGA.out.step HT.out).cell 1
   have q0 := (HB2.out.step (HSA.out.1.trans HT.out)).cell 0
   have q1 := (HB2.out.step (HSA.out.1.trans HT.out)).cell 1
   obtain ⟨m0, m1, m2, m3⟩ := cells4 (HB1.out.step (HSA.out.1.trans HT.out))
   simp only [zD, zE] at g0 g1 q0 q1
   repeat ((first | (refine run_off rfl rfl (by rfl) ?_) | (refine run_chain_off rfl rfl (by rfl) (K0_mono _) ?_) | ((refine run_want rfl rfl (by rfl) ⟨?_, fun W hW => ?_, ?_⟩; rotate_left; (· (have d0 := hW.kc g0; have d1 := hW.kc g1; have d2 := hW.kc q0; have d3 := hW.kc q1; have d4 := hW.kc m0; have d5 := hW.kc m1; have d6 := hW.kc m2; have d7 := hW.kc m3; go_simp; (try with_reducible rfl)))))); (try simp only [Act.put, zA, zB, zC]))
   refine run_chain rfl rfl (by rfl) (fun Wi hWi K' hK => ?_)
   have HTi := zH (HT.out.trans hWi)
   have HZW := zH HTi.out.size
   clear hWi HT
   go_simp
   refine (dot_any g p _ HDF.out.2.1 HDF.out.2.2.1 HDF.out.2.2.2.1).mono ?_
   rintro e wn ⟨rfl, hSn⟩
   have HT := zH (HTi.out.trans (StepX.of hSn))
   clear HTi
   refine hK _ _ (StepX.of hSn) ?_
   clear hSn
   (try simp only [Act.put, zA, zB, zC])
   clear g0 g1 q0 q1 m0 m1 m2 m3
   have g0 := (HGA.out.step HT.out).cell 0
   have g1 := (HGA.out.step HT.out).cell 1
   obtain ⟨m0, m1, m2, m3⟩ := cells4 (HB1.out.step (HSA.out.1.trans HT.out))
   simp only [zD, zE] at g0 g1
   repeat ((first | (refine run_off rfl rfl (by rfl) ?_) | (refine run_chain_off rfl rfl (by rfl) (K0_mono _) ?_) | ((refine run_want rfl rfl (by rfl) ⟨?_, fun W hW => ?_, ?_⟩; rotate_left; (· (have d0 := hW.kc g0; have d1 := hW.kc g1; have d2 := hW.kc m0; have d3 := hW.kc m1; have d4 := hW.kc m2; have d5 := hW.kc m3; go_simp; (try with_reducible rfl)))))); (try simp only [Act.put, zA, zB, zC]))
   refine run_chain rfl rfl (by rfl) (fun Wi hWi K' hK => ?_)
   have HTi := zH (HT.out.trans hWi)
   have HZW := zH HTi.out.size
   clear hWi HT
   go_simp
   refine (help_any F area g _ _ (HV.out.step (HSA.out.1.trans HTi.out)) HF.out hn (HDF.out.1.mono (by decide))).mono ?_
   rintro e wn ⟨rfl, hSn⟩
   have HT := zH (HTi.out.trans (StepX.of hSn))
   clear HTi
   refine hK _ _ (StepX.of hSn) ?_
   clear hSn
   (try simp only [Act.put, zA, zB, zC])
   clear g0 g1 m0 m1 m2 m3
   repeat ((first | (refine run_off rfl rfl (by rfl) ?_) | (refine run_chain_off rfl rfl (by rfl) (K0_mono _) ?_) | ((refine run_want rfl rfl (by rfl) ⟨?_, fun W hW => ?_, ?_⟩; rotate_left; (· (skip; go_simp; (try with_reducible rfl)))))); (try simp only [Act.put, zA, zB, zC]))
   refine run_end (L := []) rfl (fun W6 hW6 => ?_)
   have HT6 := zH (HT.out.trans hW6)
   clear hW6 HT
   have HT := HT6
   clear HT6
   have HT2 := zH (HSA.out.2.trans HT.out)
   have g0 := (HGA.out.step HT.out).cell 0
   have g1 := (HGA.out.step HT.out).cell 1
   simp only [zD, zE] at g0 g1
   obtain ⟨cc, hcc⟩ : ∃ c, c = decide (helpL F g < dotV g p) := ⟨_, rfl⟩
   rw [← hcc]
   cases cc with
   | true =>
    have hst : helpL F g < dotV g p := by simpa using hcc.symm
    have hd : decide (helpL F g < dotV g p) = true := hcc.symm
    have HB := zH (show balL F p = false by
     rw [balL_ways, Bool.not_eq_false', ← HWY.out]
     exact List.any_eq_true.2 ⟨_, List.getElem_mem hlt, by rw [← HG.out]; exact hd⟩)
    have HST := zH hst
    obtain ⟨z0, z1⟩ : W6.frozen? ⟨w.heap.size + 2, 0, none⟩ = false ∧ W6.frozen? ⟨w.heap.size + 2, 1, none⟩ = false := ⟨(HB3.out.step (HSA.out.1.trans HT.out)).frozen 0, (HB3.out.step (HSA.out.1.trans HT.out)).frozen 1⟩
    have y0 := (HB3.out.step (HSA.out.1.trans HT.out)).cell 0
    have y1 := (HB3.out.step (HSA.out.1.trans HT.out)).cell 1
    simp only [zD, zE] at y0 y1
    clear hst hd hcc
    go_wp2
    have b2 := set2 (HB3.out.step (HSA.out.1.trans HT.out)) (.int .i64 g.x) (.int .i64 g.y)
    exact ret_struct2 (k := 2) rfl siVec rfl b2.1 rfl rfl ⟨g.x, g.y, by rw [HB.out]; rfl, by rw [HB.out]; simp, fun _ => ⟨HST.out, HDF.out.1⟩, StepX.fresh (HS.out.trans (HSA.out.1.trans HT.out)) b2.2 (fun j hj => by omega)⟩
   | false =>
    have hd : decide (helpL F g < dotV g p) = false := hcc.symm
    have HQ := zH (show strongB F p WY[k] = false by rw [← HG.out]; exact hd)
    clear hd hcc
    go_wp2
    go_roundw
    case rel => exact ⟨k + 1, by omega, by go_num, fun j hj hl => if h : j = k then by subst h; exact HQ.out else HN.out j (by omega) hl, HT2.out⟩
    case measure => simp [intOf]; omega
  ·have HB := zH (show balL F p = true by
    rw [balL_ways, Bool.not_eq_true', ← HWY.out, List.any_eq_false]
    intro y hy
    obtain ⟨j, hj, rfl⟩ := List.getElem_of_mem hy
    rw [HN.out j (by omega) hj]; decide)
   have hb3 := HB3.out.step (HS1.out.trans HT.out)
   have z0 := hb3.frozen 0
   have z1 := hb3.frozen 1
   have y0 := hb3.cell 0
   have y1 := hb3.cell 1
   simp only [zD, zE] at y0 y1
   have HB4 := zH hb3
   clear hb3
   go_wp2
   have b2 := set2 HB4.out (.int .i64 0) (.int .i64 0)
   exact ret_struct2 (k := 2) rfl siVec rfl b2.1 rfl rfl ⟨0, 0, by rw [HB.out]; rfl, fun _ => ⟨rfl, rfl⟩, by rw [HB.out]; simp, StepX.fresh (HS.out.trans (HS1.out.trans HT.out)) b2.2 (fun j hj => by omega)⟩
theorem own_vecs (S : Nat → Prop) (w : World) (e : TypeId) (m : List Vec) (hm : m.length ≤ 1000) : OwnL S w.heap.size e (w.alloc (.cells (cellsV m).toArray e)) (.slice (some ⟨w.heap.size, 0, none⟩) m.length m.length) m :=
 ⟨cellsV m, ⟨cellsV_len m, .inr ⟨w.heap.size, m.length, (cellsV m).toArray, rfl, Nat.le_refl _, Bx.new w (cellsV m) e, Nat.le_refl _, by simp only [maxLen]; omega, by simp [cellsV_len]; rfl, by
  show ((cellsV m).toArray).toList.take (m.length * 2) = cellsV m
  rw [List.take_of_length_le (by simp [cellsV_len])]⟩⟩, fun i hi => by
  show ((cellsV m).drop (i * 2)).take 2 = _
  rw [cellsV_drop m i hi]; rfl⟩
theorem sle_rvecs (S : Nat → Prop) (w : World) (m : List Vec) (hm : m.length ≤ 1000) : SLe S (w.alloc (.cells (cellsV m).toArray 113)) (.slice (some ⟨w.heap.size, 0, none⟩) m.length m.length) m := by
 refine ⟨_, m.length, w.heap.size, 0, rfl, Nat.le_refl _, by omega, fun _ => rfl, fun i hi => ⟨[.int .i64 m[i].x, .int .i64 m[i].y], rfl, fun j u hj => ?_⟩⟩
 show (w.alloc _).cell? ⟨w.heap.size, 0 + i * 2 + j, none⟩ = some u
 rw [World.cell?_alloc_new, Nat.zero_add]
 have hd := cellsV_drop m i hi
 have : (cellsV m)[i * 2 + j]? = some u := by
  rw [← List.getElem?_drop, hd]
  match j, hj with
  | 0, hj => exact hj
  | 1, hj => exact hj
  | j + 2, hj => simp at hj
 simpa using this
def wayA (f : Vec) : List Vec := [f, timesV f (-1), ⟨-f.y, f.x⟩, ⟨f.y, -f.x⟩]
def waysA (F : List Vec) (k : Nat) : List Vec := axesV ++ (F.take k).flatMap wayA
theorem waysA_all (F : List Vec) : waysA F F.length = waysL F := by unfold waysA waysL; rw [List.take_length]; rfl
theorem waysA_step {F : List Vec} {k : Nat} (hk : k < F.length) : waysA F (k + 1) = waysA F k ++ wayA F[k] := by
 unfold waysA
 rw [List.take_succ_eq_append_getElem hk, List.flatMap_append, List.append_assoc]
 simp
theorem waysA_len {F : List Vec} : ∀ {k : Nat}, k ≤ F.length → (waysA F k).length = 4 + k * 4
 | 0, _ => by simp [waysA, axesV]
 | k + 1, hk => by
  rw [waysA_step (by omega), List.length_append, waysA_len (F := F) (k := k) (by omega)]
  simp [wayA]; omega
theorem waysL_in {F : List Vec} (hF : smallV F) : ∀ w ∈ waysL F, inV 500000 w := fun w hw => by
 rcases List.mem_append.1 hw with hw | hw
 ·simp at hw
  rcases hw with rfl | rfl | rfl | rfl <;> simp [inV]
 ·obtain ⟨f, hf, hw⟩ := List.mem_flatMap.1 hw
  have hs := hF f hf
  simp [timesV] at hw
  rcases hw with rfl | rfl | rfl | rfl <;> simp only [inV] <;> omega
theorem Balances_any (S : Nat → Prop) (F : List Vec) (p : Vec) (v : Value) (w : World) (hv : SL S w v F) (hF : smallV F) (hn : F.length ≤ 8) (hp : inV 100000000000 p) :
  Calls Tryz.prog 93 #[v, .agg #[.int .i64 p.x, .int .i64 p.y]] w fun e w' => e = .returned (.bool (balL F p)) ∧ Step w w' := by
 obtain ⟨p3, k3, b3, o3, rfl, _, hm, hpp, hc, _⟩ := hv.vecs
 obtain ⟨W0, hW0⟩ : ∃ W, W = w.alloc (.cells #[.int .i64 p.x, .int .i64 p.y] 113) := ⟨_, rfl⟩
 have hb : Bx W0 w.heap.size [.int .i64 p.x, .int .i64 p.y] 113 := by subst hW0; exact Bx.new w [_, _] _
 have hS : Step w W0 := by subst hW0; exact (by with_reducible repeat (first | assumption | exact Step.refl _ | apply Step.s_alloc | apply Step.s_drew | apply Step.s_drewN | refine Step.trans ?_ (by assumption)))
 have hz : W0.heap.size = w.heap.size + 1 := by subst hW0; simp
 have HBX := zH hb
 have HS := zH hS
 have HZ := zH hz
 have HW := zH hW0
 have HF := zH hF
 have HP := zH (And.intro hpp hc)
 have HV := zH hv
 have HPP := zH hp
 have HKL := zH hn
 clear hS hb hz hW0 hF hpp hc hp hv
 go_enter Tryz.func93, Tryz.ntmps93
 go_wp2
 rw [← HW.out]
 go_loopw [5, 6] (fun out i wr => ∃ k : Nat, k ≤ F.length ∧ i = .int .i64 k ∧ OwnL (fun _ => False) W0.heap.size 113 wr out (waysA F k) ∧ Below W0.heap.size W0 wr) (fun _ i _ => F.length - (intOf i).toNat)
 case atStart =>
  refine ⟨0, Nat.zero_le _, rfl, ?_, (Step.alloc _ _).below⟩
  rw [show waysA F 0 = axesV by simp [waysA], ← HZ.out]
  exact own_vecs _ W0 _ axesV (by decide)
 case round =>
  obtain ⟨k, hk, rfl, hown, hB⟩ := hrel
  have HT := zH (Step.of hB)
  have HB := zH hB
  have HO := zH hown
  obtain ⟨LL, hLL⟩ : ∃ L, L = waysA F k := ⟨_, rfl⟩
  rw [← hLL] at hown
  obtain ⟨pu, cu, rfl, _⟩ := hown.form
  have HLL := zH hLL
  clear hown hLL hB
  by_cases hlt : k < F.length
  ·obtain rfl := HP.out.1 (by omega)
   obtain ⟨e1, e2⟩ := HP.out.2 k hlt
   have e1 := (HS.out.trans HT.out).kc e1
   have e2 := (HS.out.trans HT.out).kc e2
   have hix : (0 : Int) ≤ (k : Int) ∧ (k : Int) < (F.length : Int) := by omega
   have hb := small_get HF.out hlt
   obtain ⟨g, hg⟩ : ∃ g, g = F[k] := ⟨_, rfl⟩
   rw [← hg] at e1 e2 hb
   have hwk := zH (show waysA F (k + 1) = waysA F k ++ [g, timesV g (-1), ⟨-g.y, g.x⟩, ⟨g.y, -g.x⟩] by rw [waysA_step hlt, ← hg]; rfl)
   obtain ⟨gx, gy⟩ := g
   have hb : (-500000 ≤ gx ∧ gx ≤ 500000) ∧ -500000 ≤ gy ∧ gy ≤ 500000 := hb
   dsimp only at e1 e2 hwk
   have hwy : IntKind.i64.wrap (-gy) = -gy := by rw [IntKind.wrap_i64]; omega
   have hwx : IntKind.i64.wrap (-gx) = -gx := by rw [IntKind.wrap_i64]; omega
   have hf1 : fits (-1 * gx) := by unfold fits; omega
   have hf2 : fits (-1 * gy) := by unfold fits; omega
   clear hg hb
   go_upto_region 6 with (fail)
   obtain ⟨wa, hwa⟩ : ∃ W, W = wr.alloc (.cells #[.int .i64 gx, .int .i64 gy] 113) := ⟨_, rfl⟩
   rw [← hwa]
   have hga : Bx wa wr.heap.size [.int .i64 gx, .int .i64 gy] 113 := by rw [hwa]; exact Bx.new wr [_, _] _
   have hsa : Step wr wa := by rw [hwa]; exact Step.alloc _ _
   have HGA := zH hga
   have HSA := zH hsa
   clear hwa hga hsa e1 e2 HT
   refine wp_region_seq (kdOf [3, 16] []) [0, 0, 0, 4, 0, 16, 48, 0, 128, 496, 0, 1024, 0, 4096, 12288, 31744, 65534, 131071, 262143] [0, 1, 2, 4, 5, 6, 7, 8, 9, 10, 11, 12, 13, 14, 15, 3, 16] [17, 18] (by kernel_rfl) (by kernel_rfl) (fun i T z hi hk => by simp [kdOf] at hk <;> (try (split at hk <;> cases hk))) ?_
   intro Wx hWx
   have HT := zH hWx
   clear hWx
   have g0 := (HGA.out.step HT.out).cell 0
   have g1 := (HGA.out.step HT.out).cell 1
   simp only [zD, zE] at g0 g1
   repeat ((first | (refine run_off rfl rfl (by rfl) ?_) | (refine run_chain_off rfl rfl (by rfl) (K0_mono _) ?_) | ((refine run_want rfl rfl (by rfl) ⟨?_, fun W hW => ?_, ?_⟩; rotate_left; (· (have d0 := hW.kc g0; have d1 := hW.kc g1; go_simp; (try with_reducible rfl)))))); (try simp only [Act.put, zA, zB, zC]))
   refine run_chain rfl rfl (by rfl) (fun Wi hWi K' hK => ?_)
   have HTi := zH (HT.out.trans hWi)
   have HZW := zH HTi.out.size
   clear hWi HT
   go_simp
   refine (Times_any ⟨gx, gy⟩ (-1) _ hf1 hf2).mono ?_
   rintro e wn ⟨rfl, hSn⟩
   have HT := zH (HTi.out.trans (StepX.of hSn))
   clear HTi
   refine hK _ _ (StepX.of hSn) ?_
   clear hSn
   (try simp only [Act.put, zA, zB, zC])
   clear g0 g1
   have g0 := (HGA.out.step HT.out).cell 0
   have g1 := (HGA.out.step HT.out).cell 1
   simp only [zD, zE] at g0 g1
   repeat ((first | (refine run_off rfl rfl (by rfl) ?_) | (refine run_chain_off rfl rfl (by rfl) (K0_mono _) ?_) | ((refine run_want rfl rfl (by rfl) ⟨?_, fun W hW => ?_, ?_⟩; rotate_left; (· (have d0 := hW.kc g0; have d1 := hW.kc g1; go_simp; (try with_reducible rfl)))))); (try simp only [Act.put, zA, zB, zC]))
   refine run_chain rfl rfl (by rfl) (fun W1 hW1 K' hK' => ?_)
   go_simp
   refine hK' _ _ (.of (Step.alloc _ _)) ?_
   (try simp only [Act.put, zA, zB, zC])
   refine run_end (L := [_, _]) rfl (fun W2 hW2 => ?_)
   obtain ⟨mm, hmm⟩ : ∃ m : List Vec, m = [⟨gx, gy⟩, timesV ⟨gx, gy⟩ (-1), ⟨-gy, gx⟩, ⟨gy, -gx⟩] := ⟨_, rfl⟩
   have hml : mm.length = 4 := by rw [hmm]; rfl
   have hs1 := (HSA.out.trans HT.out).trans hW1
   have hW3 : Step (W1.alloc (.cells (cellsV mm).toArray 113)) W2 := by rw [hmm]; exact hW2
   have hu := (sle_rvecs (avoid (fun _ => False) (.slice pu LL.length cu)) W1 mm (by omega)).step hW3
   have hst : Step wr W2 := (hs1.trans (Step.alloc _ (.cells (cellsV mm).toArray 113))).trans hW3
   have hov := HO.out.step hst
   rw [hml] at hu
   have hB2 := HB.out.step (Nat.le_refl _) hst
   have HML := zH hml
   have HMM := zH hmm
   have HST := zH hst
   clear hW1 hW2 hW3 hK' hs1 hst hml hmm
   go_wp2_with (at_builtin; refine wpl_append (α := Vec) (S := fun _ => False) (base := W0.heap.size) (v := .slice pu LL.length cu) (l := waysA F k) (m := mm) eiRVecs rfl _ _ rfl rfl rfl hov hu _ rfl _ rfl (by have := HML.out; have := waysA_len hk; have := HKL.out; simp only [maxLen]; omega) (by have := HML.out; have := waysA_len hk; have := HKL.out; omega) (by have := hB2.size; omega) ?_)
   intro p' c' w3 hown hg
   have hB3 := hB2.grown hg hB2.size (fun j hj => (HO.out.lt j hj).1)
   have hr : OwnL (fun _ => False) W0.heap.size 113 w3 (.slice p' ((waysA F k).length + mm.length) c') (waysA F (k + 1)) := by rw [hwk.out, ← HMM.out]; exact hown
   have H3 := zH (And.intro hr hB3)
   clear hu hov hown hg hB3 hr hwk hB2
   go_wp2
   go_roundw
   case rel => exact ⟨k + 1, by omega, by go_num, H3.out.1, H3.out.2⟩
   case measure => simp [intOf]; omega
  ·have HN := zH (show LL = waysL F by rw [HLL.out, ← waysA_all]; congr 1; omega)
   have hwl : LL.length ≤ 36 := by rw [HLL.out, waysA_len hk]; have := HKL.out; omega
   have hsl := HO.out.slb (fun _ _ h => h.elim)
   rw [← HLL.out] at hsl
   obtain ⟨pw, kw, bw, ow, hew, _, hmw, hpw, hcw, _⟩ := hsl.vecs
   injection hew with he1 _ he3
   subst he1 he3
   have HPW := zH (And.intro hpw hcw)
   have HT1 := zH (HS.out.trans HT.out)
   have HT0 := zH (Step.refl wr)
   have HBW := zH (HBX.out.step HT.out)
   have HVW := zH (HV.out.keep (.of_step (HS.out.trans HT.out)))
   clear hsl hpw hcw HO HT HB
   go_wp2
   obtain ⟨wo, hwo⟩ : ∃ W, W = wr := ⟨_, rfl⟩
   subst hwo
   go_loopw [8] (fun i wr => ∃ k : Nat, k ≤ LL.length ∧ i = .int .i64 k ∧ (∀ j (hj : j < k) (hl : j < LL.length), dotV LL[j] p ≤ helpL F LL[j]) ∧ Step wo wr) (fun i _ => LL.length - (intOf i).toNat)
   case atStart => exact ⟨0, Nat.zero_le _, rfl, fun j hj => absurd hj (by omega), HT0.out⟩
   case round =>
    obtain ⟨k, hk, rfl, hno, hT⟩ := hrel
    have HNO := zH hno
    have HT := zH hT
    clear hno hT
    by_cases hlt : k < LL.length
    ·obtain rfl := HPW.out.1 (by omega)
     obtain ⟨e1, e2⟩ := HPW.out.2 k hlt
     have hix : (0 : Int) ≤ (k : Int) ∧ (k : Int) < (LL.length : Int) := by omega
     have hin : inV 500000 LL[k] := waysL_in HF.out _ (by rw [← HN.out]; exact List.getElem_mem hlt)
     obtain ⟨g, hg⟩ : ∃ g, g = LL[k] := ⟨_, rfl⟩
     rw [← hg] at e1 e2 hin
     have HG := zH hg
     have hdf := dot_fits hin HPP.out (by decide)
     have HDF := zH (And.intro hin hdf)
     have HE := zH (And.intro e1 e2)
     clear hg hin hdf e1 e2
     go_upto_region 10 with (fail)
     refine wp_region_seq (kdOf [5, 11] []) [0, 0, 3, 7, 0, 31, 0, 0, 0, 384, 896, 2047, 4095] [0, 1, 2, 3, 4, 6, 7, 8, 9, 10, 5, 11, 12] [] (by kernel_rfl) (by kernel_rfl) (fun i T z hi hk => by simp [kdOf] at hk <;> (try (split at hk <;> cases hk))) ?_
     intro Wx hWx
     have HTx := zH (HT.out.trans hWx)
     clear hWx HT
     have HT := HTx
     clear HTx
     have g0 := HT.out.kc HE.out.1
     have g1 := HT.out.kc HE.out.2
     have q0 := (HBW.out.step HT.out).cell 0
     have q1 := (HBW.out.step HT.out).cell 1
     simp only [zD, zE] at q0 q1
     repeat ((first | (refine run_off rfl rfl (by rfl) ?_) | (refine run_chain_off rfl rfl (by rfl) (K0_mono _) ?_) | ((refine run_want rfl rfl (by rfl) ⟨?_, fun W hW => ?_, ?_⟩; rotate_left; (· (have d0 := hW.kc g0; have d1 := hW.kc g1; have d2 := hW.kc q0; have d3 := hW.kc q1; go_simp; (try with_reducible rfl)))))); (try simp only [Act.put, zA, zB, zC]))
     refine run_chain rfl rfl (by rfl) (fun Wi hWi K' hK => ?_)
     have HTi := zH (HT.out.trans hWi)
     have HZW := zH HTi.out.size
     clear hWi HT
     go_simp
     refine (Dot_any g p _ HDF.out.2.1 HDF.out.2.2.1 HDF.out.2.2.2.1).mono ?_
     rintro e wn ⟨rfl, hSn⟩
     have HT := zH (HTi.out.trans (StepX.of hSn))
     clear HTi
     refine hK _ _ (StepX.of hSn) ?_
     clear hSn
     (try simp only [Act.put, zA, zB, zC])
     clear g0 g1 q0 q1
     have g0 := HT.out.kc HE.out.1
     have g1 := HT.out.kc HE.out.2
     repeat ((first | (refine run_off rfl rfl (by rfl) ?_) | (refine run_chain_off rfl rfl (by rfl) (K0_mono _) ?_) | ((refine run_want rfl rfl (by rfl) ⟨?_, fun W hW => ?_, ?_⟩; rotate_left; (· (have d0 := hW.kc g0; have d1 := hW.kc g1; go_simp; (try with_reducible rfl)))))); (try simp only [Act.put, zA, zB, zC]))
     refine run_chain rfl rfl (by rfl) (fun Wi hWi K' hK => ?_)
     have HTi := zH (HT.out.trans hWi)
     have HZW := zH HTi.out.size
     clear hWi HT
     go_simp
     refine (Help_any S F g _ _ (HVW.out.keep (.of_step HTi.out)) HF.out HKL.out (HDF.out.1.mono (by decide))).mono ?_
     rintro e wn ⟨rfl, hSn⟩
     have HT := zH (HTi.out.trans (StepX.of hSn))
     clear HTi
     refine hK _ _ (StepX.of hSn) ?_
     clear hSn
     (try simp only [Act.put, zA, zB, zC])
     clear g0 g1
     repeat ((first | (refine run_off rfl rfl (by rfl) ?_) | (refine run_chain_off rfl rfl (by rfl) (K0_mono _) ?_) | ((refine run_want rfl rfl (by rfl) ⟨?_, fun W hW => ?_, ?_⟩; rotate_left; (· (skip; go_simp; (try with_reducible rfl)))))); (try simp only [Act.put, zA, zB, zC]))
     refine run_end (L := []) rfl (fun W6 hW6 => ?_)
     have HT6 := zH (HT.out.trans hW6)
     clear hW6 HT
     have HT := HT6
     clear HT6
     obtain ⟨cc, hcc⟩ : ∃ c, c = decide (helpL F g < dotV g p) := ⟨_, rfl⟩
     rw [← hcc]
     cases cc with
     | true =>
      have hst : helpL F g < dotV g p := by simpa using hcc.symm
      have HBA := zH (show balL F p = false by
       unfold balL
       rw [List.all_eq_false]
       refine ⟨g, by rw [← HN.out, HG.out]; exact List.getElem_mem hlt, ?_⟩
       rw [decide_eq_true_eq]; omega)
      clear hst hcc
      go_wp2
      go_ret
      exact ⟨by rw [HBA.out]; rfl, HT1.out.trans HT.out⟩
     | false =>
      have hst : ¬ helpL F g < dotV g p := by simpa using hcc.symm
      have HQ := zH (show dotV LL[k] p ≤ helpL F LL[k] by rw [← HG.out]; omega)
      clear hst hcc
      go_wp2
      go_roundw
      case rel => exact ⟨k + 1, by omega, by go_num, fun j hj hl => if h : j = k then by subst h; exact HQ.out else HNO.out j (by omega) hl, HT.out⟩
      case measure => simp [intOf]; omega
    ·have HBA := zH (show balL F p = true by
      unfold balL
      rw [List.all_eq_true, ← HN.out]
      intro y hy
      obtain ⟨j, hj, rfl⟩ := List.getElem_of_mem hy
      exact decide_eq_true (HNO.out j (by omega) hj))
     go_wp2
     go_ret
     exact ⟨by rw [HBA.out]; rfl, HT1.out.trans HT.out⟩
theorem RightGuy_any (x : Guy) (w : World) : Calls Tryz.prog 51 #[.agg #[.int .i64 x.x, .int .i64 x.y, .int .i64 x.down, .int .i64 x.soil, .int .i64 x.depth]] w fun e w' => e = .returned (.bool (guyB x)) ∧ Step w w' := by
 obtain ⟨xx, xy, dn, sl, dp⟩ := x
 dsimp only
 by_cases hx : xx = 0
 ·subst hx
  by_cases hy : xy = 0
  ·subst hy
   go_enter Tryz.func51, Tryz.ntmps51
   go_wp2_with fail
   refine (bigtopref01.In_any _ _ _ _).mono ?_
   rintro e w' ⟨rfl, rfl⟩
   cases q0 : withinB 0 (-5000) 5000 with
   | false =>
    go_wp2
    go_ret
    exact ⟨by simp [guyB, guyB, q0], (by with_reducible repeat (first | assumption | exact Step.refl _ | apply Step.s_alloc | apply Step.s_drew | apply Step.s_drewN | refine Step.trans ?_ (by assumption)))⟩
   | true =>
    go_wp2_with fail
    refine (bigtopref01.In_any _ _ _ _).mono ?_
    rintro e w' ⟨rfl, rfl⟩
    cases q1 : withinB 0 (-5000) 5000 with
    | false =>
     go_wp2
     go_ret
     exact ⟨by simp [guyB, guyB, q0, q1], (by with_reducible repeat (first | assumption | exact Step.refl _ | apply Step.s_alloc | apply Step.s_drew | apply Step.s_drewN | refine Step.trans ?_ (by assumption)))⟩
    | true =>
     go_wp2
     go_ret
     exact ⟨by simp [guyB, guyB, q0, q1], (by with_reducible repeat (first | assumption | exact Step.refl _ | apply Step.s_alloc | apply Step.s_drew | apply Step.s_drewN | refine Step.trans ?_ (by assumption)))⟩
  ·have hd : (xy != 0) = true := by simpa using hy
   go_enter Tryz.func51, Tryz.ntmps51
   go_wp2_with fail
   refine (bigtopref01.In_any _ _ _ _).mono ?_
   rintro e w' ⟨rfl, rfl⟩
   cases q0 : withinB 0 (-5000) 5000 with
   | false =>
    go_wp2
    go_ret
    exact ⟨by simp [guyB, hy, q0], (by with_reducible repeat (first | assumption | exact Step.refl _ | apply Step.s_alloc | apply Step.s_drew | apply Step.s_drewN | refine Step.trans ?_ (by assumption)))⟩
   | true =>
    go_wp2_with fail
    refine (bigtopref01.In_any _ _ _ _).mono ?_
    rintro e w' ⟨rfl, rfl⟩
    cases q1 : withinB xy (-5000) 5000 with
    | false =>
     go_wp2
     go_ret
     exact ⟨by simp [guyB, hy, q0, q1], (by with_reducible repeat (first | assumption | exact Step.refl _ | apply Step.s_alloc | apply Step.s_drew | apply Step.s_drewN | refine Step.trans ?_ (by assumption)))⟩
    | true =>
     go_wp2_with fail
     refine (bigtopref01.In_any _ _ _ _).mono ?_
     rintro e w' ⟨rfl, rfl⟩
     cases q2 : withinB dn 0 5000 with
     | false =>
      go_wp2
      go_ret
      exact ⟨by simp [guyB, hy, q0, q1, q2], (by with_reducible repeat (first | assumption | exact Step.refl _ | apply Step.s_alloc | apply Step.s_drew | apply Step.s_drewN | refine Step.trans ?_ (by assumption)))⟩
     | true =>
      go_wp2_with fail
      refine (bigtopref01.In_any _ _ _ _).mono ?_
      rintro e w' ⟨rfl, rfl⟩
      cases q3 : withinB sl 0 9 with
      | false =>
       go_wp2
       go_ret
       exact ⟨by simp [guyB, hy, q0, q1, q2, q3], (by with_reducible repeat (first | assumption | exact Step.refl _ | apply Step.s_alloc | apply Step.s_drew | apply Step.s_drewN | refine Step.trans ?_ (by assumption)))⟩
      | true =>
       go_wp2_with fail
       refine (bigtopref01.In_any _ _ _ _).mono ?_
       rintro e w' ⟨rfl, rfl⟩
       cases q4 : withinB dp 1 3000 with
       | false =>
        go_wp2
        go_ret
        exact ⟨by simp [guyB, hy, q0, q1, q2, q3, q4], (by with_reducible repeat (first | assumption | exact Step.refl _ | apply Step.s_alloc | apply Step.s_drew | apply Step.s_drewN | refine Step.trans ?_ (by assumption)))⟩
       | true =>
        go_wp2
        go_ret
        exact ⟨by simp [guyB, hy, q0, q1, q2, q3, q4], (by with_reducible repeat (first | assumption | exact Step.refl _ | apply Step.s_alloc | apply Step.s_drew | apply Step.s_drewN | refine Step.trans ?_ (by assumption)))⟩
 ·have hd : (xx != 0) = true := by simpa using hx
  go_enter Tryz.func51, Tryz.ntmps51
  go_wp2_with fail
  refine (bigtopref01.In_any _ _ _ _).mono ?_
  rintro e w' ⟨rfl, rfl⟩
  cases q0 : withinB xx (-5000) 5000 with
  | false =>
   go_wp2
   go_ret
   exact ⟨by simp [guyB, hx, q0], (by with_reducible repeat (first | assumption | exact Step.refl _ | apply Step.s_alloc | apply Step.s_drew | apply Step.s_drewN | refine Step.trans ?_ (by assumption)))⟩
  | true =>
   go_wp2_with fail
   refine (bigtopref01.In_any _ _ _ _).mono ?_
   rintro e w' ⟨rfl, rfl⟩
   cases q1 : withinB xy (-5000) 5000 with
   | false =>
    go_wp2
    go_ret
    exact ⟨by simp [guyB, hx, q0, q1], (by with_reducible repeat (first | assumption | exact Step.refl _ | apply Step.s_alloc | apply Step.s_drew | apply Step.s_drewN | refine Step.trans ?_ (by assumption)))⟩
   | true =>
    go_wp2_with fail
    refine (bigtopref01.In_any _ _ _ _).mono ?_
    rintro e w' ⟨rfl, rfl⟩
    cases q2 : withinB dn 0 5000 with
    | false =>
     go_wp2
     go_ret
     exact ⟨by simp [guyB, hx, q0, q1, q2], (by with_reducible repeat (first | assumption | exact Step.refl _ | apply Step.s_alloc | apply Step.s_drew | apply Step.s_drewN | refine Step.trans ?_ (by assumption)))⟩
    | true =>
     go_wp2_with fail
     refine (bigtopref01.In_any _ _ _ _).mono ?_
     rintro e w' ⟨rfl, rfl⟩
     cases q3 : withinB sl 0 9 with
     | false =>
      go_wp2
      go_ret
      exact ⟨by simp [guyB, hx, q0, q1, q2, q3], (by with_reducible repeat (first | assumption | exact Step.refl _ | apply Step.s_alloc | apply Step.s_drew | apply Step.s_drewN | refine Step.trans ?_ (by assumption)))⟩
     | true =>
      go_wp2_with fail
      refine (bigtopref01.In_any _ _ _ _).mono ?_
      rintro e w' ⟨rfl, rfl⟩
      cases q4 : withinB dp 1 3000 with
      | false =>
       go_wp2
       go_ret
       exact ⟨by simp [guyB, hx, q0, q1, q2, q3, q4], (by with_reducible repeat (first | assumption | exact Step.refl _ | apply Step.s_alloc | apply Step.s_drew | apply Step.s_drewN | refine Step.trans ?_ (by assumption)))⟩
      | true =>
       go_wp2
       go_ret
       exact ⟨by simp [guyB, hx, q0, q1, q2, q3, q4], (by with_reducible repeat (first | assumption | exact Step.refl _ | apply Step.s_alloc | apply Step.s_drew | apply Step.s_drewN | refine Step.trans ?_ (by assumption)))⟩
theorem TestsFault_any (S : Nat → Prop) (l : List Tst) (v : Value) (w : World) (hv : SL S w v l) : Calls Tryz.prog 39 #[v] w fun e w' => e = .returned (.int .i64 (testsC l)) ∧ Step w w' := by
 have hm := hv.len
 obtain ⟨pv, cv, b, o, rfl, _, _, hp, hc, _⟩ := hv.tsts
 have HP := zH (And.intro hp hc)
 have HT0 := zH (Step.refl w)
 clear hp hc hv
 by_cases hl : 40 < l.length
 ·have hd : decide ((40 : Int) < (l.length : Int)) = true := by simp; omega
  go_enter Tryz.func39, Tryz.ntmps39
  go_wp2
  go_ret
  exact ⟨by simp [testsC, hl], Step.refl _⟩
 have hd : decide ((40 : Int) < (l.length : Int)) = false := by simp; omega
 have HL := zH hl
 clear hl
 go_enter Tryz.func39, Tryz.ntmps39
 go_wp2
 go_loopw [3] (fun i wr => ∃ k : Nat, k ≤ l.length ∧ i = .int .i64 k ∧ (∀ j (hj : j < k) (hl : j < l.length), tstB l[j] = true) ∧ Step w wr) (fun i _ => l.length - (intOf i).toNat)
 case atStart => exact ⟨0, Nat.zero_le _, rfl, fun j hj => absurd hj (by omega), HT0.out⟩
 case round =>
  obtain ⟨k, hk, rfl, hno, hT⟩ := hrel
  have HN := zH hno
  have HT := zH hT
  clear hno hT
  by_cases hlt : k < l.length
  ·obtain rfl := HP.out.1 (by omega)
   obtain ⟨e1, e2, e3, e4⟩ := HP.out.2 k hlt
   have e1 := HT.out.kc e1
   have e2 := HT.out.kc e2
   have e3 := HT.out.kc e3
   have hix : (0 : Int) ≤ (k : Int) ∧ (k : Int) < (l.length : Int) := by omega
   have HB := zH (fun (h : tstB l[k] = false) => (show testsC l = 1 by unfold testsC; rw [if_neg HL.out, if_neg (by rw [all_miss hlt h]; decide)]))
   obtain ⟨x, hx⟩ : ∃ x, x = l[k] := ⟨_, rfl⟩
   rw [← hx] at e1 e2 e3 HB
   have HX := zH hx
   clear hx e4
   go_wp2_with fail
   refine (bigtopref01.In_any _ _ _ _).mono ?_
   rintro e w' ⟨rfl, rfl⟩
   cases q0 : withinB x.soil 0 9 with
   | false =>
    have HF := zH (HB.out (by simp [tstB, q0]))
    go_wp2
    go_ret
    exact ⟨by rw [HF.out]; rfl, HT.out⟩
   | true =>
    go_wp2_with fail
    refine (bigtopref01.In_any _ _ _ _).mono ?_
    rintro e w' ⟨rfl, rfl⟩
    cases q1 : withinB x.depth 1 3000 with
    | false =>
     have HF := zH (HB.out (by simp [tstB, q0, q1]))
     go_wp2
     go_ret
     exact ⟨by rw [HF.out]; rfl, HT.out⟩
    | true =>
     go_wp2_with fail
     refine (bigtopref01.In_any _ _ _ _).mono ?_
     rintro e w' ⟨rfl, rfl⟩
     cases q2 : withinB x.force 1 5000 with
     | false =>
      have HF := zH (HB.out (by simp [tstB, q0, q1, q2]))
      go_wp2
      go_ret
      exact ⟨by rw [HF.out]; rfl, HT.out⟩
     | true =>
      have HQ := zH (show tstB l[k] = true by rw [← HX.out]; simp [tstB, q0, q1, q2])
      go_wp2
      go_roundw
      case rel => exact ⟨k + 1, by omega, by go_num, fun j hj hl => if h : j = k then by subst h; exact HQ.out else HN.out j (by omega) hl, HT.out⟩
      case measure => simp [intOf]; omega
  ·have HA := zH (show testsC l = 0 by unfold testsC; rw [if_neg HL.out, if_pos (all_of fun j hj => HN.out j (by omega) hj)])
   go_wp2
   go_ret
   exact ⟨by rw [HA.out]; rfl, HT.out⟩
theorem Right_any (S : Nat → Prop) (t : List Head) (v : Value) (w : World) (hv : SL S w v t) : Calls Tryz.prog 20 #[v] w fun e w' => e = .returned (.bool (tentB t)) ∧ Step w w' := by
 have hm := hv.len
 obtain ⟨pv, cv, b, o, rfl, _, _, hp, hc, _⟩ := hv.heads
 have HP := zH (And.intro hp hc)
 have HT0 := zH (Step.refl w)
 clear hp hc hv
 go_enter Tryz.func20, Tryz.ntmps20
 go_wp2
 go_loopw [3] (fun i wr => ∃ k : Nat, k ≤ t.length ∧ i = .int .i64 k ∧ (∀ j (hj : j < k) (hl : j < t.length), headB t[j] = true) ∧ Step w wr) (fun i _ => t.length - (intOf i).toNat)
 case atStart => exact ⟨0, Nat.zero_le _, rfl, fun j hj => absurd hj (by omega), HT0.out⟩
 case round =>
  obtain ⟨k, hk, rfl, hno, hT⟩ := hrel
  have HN := zH hno
  have HT := zH hT
  clear hno hT
  by_cases hlt : k < t.length
  ·obtain rfl := HP.out.1 (by omega)
   obtain ⟨c2, e1, e2, e3, e4⟩ := HP.out.2 k hlt
   obtain ⟨pg, cg, bg, og, rfl, _, hgl, hpg, hcg, _⟩ := e4.guys
   have HG := zH (And.intro hpg hcg)
   have HE := zH e3
   have e1 := HT.out.kc e1
   have e2 := HT.out.kc e2
   have e3 := HT.out.kc e3
   have hix : (0 : Int) ≤ (k : Int) ∧ (k : Int) < (t.length : Int) := by omega
   have HB := zH (fun (h : headB t[k] = false) => (show tentB t = false by unfold tentB; rw [all_miss hlt h, Bool.and_false]))
   obtain ⟨x, hx⟩ : ∃ x, x = t[k] := ⟨_, rfl⟩
   rw [← hx] at e1 e2 e3 HB HE HG hgl
   have HX := zH hx
   clear hx e4 hpg hcg
   go_wp2_with fail
   refine (bigtopref01.In_any _ _ _ _).mono ?_
   rintro e w' ⟨rfl, rfl⟩
   cases q0 : withinB x.area 0 1000 with
   | false =>
    have HF := zH (HB.out (by simp [headB, q0]))
    go_wp2
    go_ret
    exact ⟨by rw [HF.out]; rfl, HT.out⟩
   | true =>
    go_wp2_with fail
    refine (bigtopref01.In_any _ _ _ _).mono ?_
    rintro e w' ⟨rfl, rfl⟩
    cases q1 : withinB x.bears 0 10000000 with
    | false =>
     have HF := zH (HB.out (by simp [headB, q0, q1]))
     go_wp2
     go_ret
     exact ⟨by rw [HF.out]; rfl, HT.out⟩
    | true =>
     by_cases h8 : x.guys.length ≤ 8
     rotate_left
     ·have hd : decide ((8 : Int) < (x.guys.length : Int)) = true := by simp; omega
      have HF := zH (HB.out (by simp [headB, h8]))
      clear h8
      go_wp2
      go_ret
      exact ⟨by rw [HF.out]; rfl, HT.out⟩
     have hd : decide ((8 : Int) < (x.guys.length : Int)) = false := by simp; omega
     have H8 := zH h8
     clear h8
     obtain ⟨wo, hwo⟩ : ∃ W, W = wr := ⟨_, rfl⟩
     subst hwo
     have HQ0 := zH (And.intro q0 q1)
     go_wp2
     clear e1 e2 e3
     go_loopw [4] (fun i wi => ∃ j : Nat, j ≤ x.guys.length ∧ i = .int .i64 j ∧ (∀ m (hm : m < j) (hl : m < x.guys.length), guyB x.guys[m] = true) ∧ Step w wi) (fun i _ => x.guys.length - (intOf i).toNat)
     case atStart => exact ⟨0, Nat.zero_le _, rfl, fun j hj => absurd hj (by omega), HT.out⟩
     case round =>
      obtain ⟨j, hj, rfl, hno, hT⟩ := hrel
      have HNG := zH hno
      have HTJ := zH hT
      clear hno hT
      have e3 := HTJ.out.kc HE.out
      by_cases hltj : j < x.guys.length
      ·obtain rfl := HG.out.1 (by omega)
       obtain ⟨g1, g2, g3, g4, g5⟩ := HG.out.2 j hltj
       have g1 := HTJ.out.kc g1
       have g2 := HTJ.out.kc g2
       have g3 := HTJ.out.kc g3
       have g4 := HTJ.out.kc g4
       have g5 := HTJ.out.kc g5
       have hjx : (0 : Int) ≤ (j : Int) ∧ (j : Int) < (x.guys.length : Int) := by omega
       go_wp2_with fail
       refine (RightGuy_any x.guys[j] _).mono ?_
       rintro e w1 ⟨rfl, hS⟩
       have HS1 := zH (HTJ.out.trans hS)
       clear hS g1 g2 g3 g4 g5 e3
       cases qg : guyB x.guys[j] with
       | false =>
        have HF := zH (HB.out (by unfold headB; rw [all_miss hltj qg, Bool.and_false]))
        clear qg
        go_wp2
        go_ret
        exact ⟨by rw [HF.out]; rfl, HS1.out⟩
       | true =>
        have HQ := zH qg
        clear qg
        go_wp2
        go_roundw
        case rel => exact ⟨j + 1, by omega, by go_num, fun m hm hl => if h : m = j then by subst h; exact HQ.out else HNG.out m (by omega) hl, HS1.out⟩
        case measure => simp [intOf]; omega
      ·have HQ := zH (show headB t[k] = true by
        rw [← HX.out]
        unfold headB
        rw [HQ0.out.1, HQ0.out.2, all_of fun m hm => HNG.out m (by omega) hm, decide_eq_true H8.out]; rfl)
       go_wp2
       go_roundw
       case rel => exact ⟨k + 1, by omega, by go_num, fun m hm hl => if h : m = k then by subst h; exact HQ.out else HN.out m (by omega) hl, HTJ.out⟩
       case measure => simp [intOf]; omega
  ·have HA := zH (show tentB t = withinB t.length 1 12 by unfold tentB; rw [all_of fun j hj => HN.out j (by omega) hj, Bool.and_true])
   by_cases h1 : 1 ≤ t.length
   ·have hd1 : decide ((1 : Int) ≤ (t.length : Int)) = true := by simp; omega
    by_cases h2 : t.length ≤ 12
    ·have hd2 : decide ((t.length : Int) ≤ 12) = true := by simp; omega
     have H1 := zH (show tentB t = true by rw [HA.out]; unfold withinB; rw [hd1, hd2]; rfl)
     clear h1 h2
     go_wp2
     go_ret
     exact ⟨by rw [H1.out]; rfl, HT.out⟩
    ·have hd2 : decide ((t.length : Int) ≤ 12) = false := by simp; omega
     have H1 := zH (show tentB t = false by rw [HA.out]; unfold withinB; rw [hd1, hd2]; rfl)
     clear h1 h2
     go_wp2
     go_ret
     exact ⟨by rw [H1.out]; rfl, HT.out⟩
   ·have hd1 : decide ((1 : Int) ≤ (t.length : Int)) = false := by simp; omega
    have H1 := zH (show tentB t = false by rw [HA.out]; unfold withinB; rw [hd1]; rfl)
    clear h1
    go_wp2
    go_ret
    exact ⟨by rw [H1.out]; rfl, HT.out⟩
theorem Clash_any (S : Nat → Prop) (l : List Tst) (v : Value) (w : World) (hv : SL S w v l) (hl : l.all tstB = true) :
  Calls Tryz.prog 24 #[v] w fun e w' => ∃ i j : Int, e = .returned (.tuple #[.int .i64 i, .int .i64 j]) ∧ (decide (0 ≤ i) = clashB l) ∧ Step w w' := by
 have hm := hv.len
 obtain ⟨pv, cv, b, o, rfl, _, _, hp, hc, _⟩ := hv.tsts
 have HP := zH (And.intro hp hc)
 have HL := zH hl
 have HT0 := zH (Step.refl w)
 clear hp hc hv hl
 go_enter Tryz.func24, Tryz.ntmps24
 go_wp2
 go_loopw [4] (fun i wr => ∃ k : Nat, k ≤ l.length ∧ i = .int .i64 k ∧ (∀ j (hj : j < k) (hl : j < l.length), l.any (againstB l[j]) = false) ∧ Step w wr) (fun i _ => l.length - (intOf i).toNat)
 case atStart => exact ⟨0, Nat.zero_le _, rfl, fun j hj => absurd hj (by omega), HT0.out⟩
 case round =>
  obtain ⟨k, hk, rfl, hno, hT⟩ := hrel
  have HN := zH hno
  have HT := zH hT
  clear hno hT
  by_cases hlt : k < l.length
  ·obtain rfl := HP.out.1 (by omega)
   have HE := zH (HP.out.2 k hlt)
   have hix : (0 : Int) ≤ (k : Int) ∧ (k : Int) < (l.length : Int) := by omega
   have htx := all_get HL.out hlt
   have HLK := zH (show l[k] ∈ l from List.getElem_mem hlt)
   obtain ⟨x, hx⟩ : ∃ x, x = l[k] := ⟨_, rfl⟩
   rw [← hx] at HE htx HLK
   have HX := zH hx
   have HTX := zH htx
   clear hx htx
   obtain ⟨wo, hwo⟩ : ∃ W, W = wr := ⟨_, rfl⟩
   subst hwo
   obtain ⟨xs, xd, xf, xh⟩ := x
   cases xh with
   | false =>
    have HQ := zH (show l.any (againstB l[k]) = false by rw [← HX.out, List.any_eq_false]; intro y _; simp [againstB])
    obtain ⟨e1, e2, e3, e4⟩ := HE.out
    have e4 := HT.out.kc e4
    (try dsimp only at e4)
    clear e1 e2 e3
    go_wp2
    go_loopw [5] (fun i wi => i = .int .i64 0 ∧ Step w wi) (fun i _ => 0)
    case atStart => exact ⟨rfl, HT.out⟩
    case round =>
     obtain ⟨rfl, hT⟩ := hrel
     have HTJ := zH hT
     have e5 := HT.out.keeps
     clear hT
     obtain ⟨_, _, _, e4'⟩ := HE.out
     have e4 := HTJ.out.kc e4'
     (try dsimp only at e4)
     have hl0 : (0 : Int) < (l.length : Int) := by omega
     clear e4'
     go_wp2
     go_roundw
     case rel => exact ⟨k + 1, by omega, by go_num, fun m hm hl => if h : m = k then by subst h; exact HQ.out else HN.out m (by omega) hl, HTJ.out⟩
     case measure => simp [intOf]; omega
   | true =>
    go_wp2
    go_loopw [5] (fun i wi => ∃ j : Nat, j ≤ l.length ∧ i = .int .i64 j ∧ (∀ m (hm : m < j) (hl : m < l.length), againstB ⟨xs, xd, xf, true⟩ l[m] = false) ∧ Step w wi) (fun i _ => l.length - (intOf i).toNat)
    case atStart => exact ⟨0, Nat.zero_le _, rfl, fun j hj => absurd hj (by omega), HT.out⟩
    case round =>
     obtain ⟨j, hj, rfl, hno, hT⟩ := hrel
     have HNJ := zH hno
     have HTJ := zH hT
     clear hno hT
     obtain ⟨e1, e2, e3, e4⟩ := HE.out
     have e1 := HTJ.out.kc e1
     have e2 := HTJ.out.kc e2
     have e3 := HTJ.out.kc e3
     have e4 := HTJ.out.kc e4
     (try dsimp only at e1 e2 e3 e4)
     by_cases hltj : j < l.length
     ·obtain ⟨f1, f2, f3, f4⟩ := HP.out.2 j hltj
      have f1 := HTJ.out.kc f1
      have f2 := HTJ.out.kc f2
      have f3 := HTJ.out.kc f3
      have f4 := HTJ.out.kc f4
      have hjx : (0 : Int) ≤ (j : Int) ∧ (j : Int) < (l.length : Int) := by omega
      have hty := all_get HL.out hltj
      have HLJ := zH (show l[j] ∈ l from List.getElem_mem hltj)
      obtain ⟨y, hy⟩ : ∃ y, y = l[j] := ⟨_, rfl⟩
      rw [← hy] at f1 f2 f3 f4 hty HLJ
      have HY := zH hy
      have hw1 := tst_wrap HTX.out hty
      have hw2 := tst_wrap hty HTX.out
      clear hy hty
      obtain ⟨ys, yd, yf, yh⟩ := y
      (try dsimp only at f1 f2 f3 f4 hw1 hw2)
      cases yh with
      | true =>
       have HQ := zH (show againstB ⟨xs, xd, xf, true⟩ l[j] = false by rw [← HY.out]; simp [againstB])
       go_upto_region 7 with (fail)
       go_quiet (fail)
       go_wp2
       go_roundw
       case rel => exact ⟨j + 1, by omega, by go_num, fun m hm hl => if h : m = j then by subst h; exact HQ.out else HNJ.out m (by omega) hl, HTJ.out.trans (Step.drewN _ _)⟩
       case measure => simp [intOf]; omega
      | false =>
       by_cases hs : ys = xs
       rotate_left
       ·have hd : (ys == xs) = false := by simpa using hs
        have HQ := zH (show againstB ⟨xs, xd, xf, true⟩ l[j] = false by rw [← HY.out]; simp [againstB]; intro h; exact absurd h.symm hs)
        clear hs
        go_upto_region 7 with (fail)
        go_quiet (fail)
        go_wp2
        go_roundw
        case rel => exact ⟨j + 1, by omega, by go_num, fun m hm hl => if h : m = j then by subst h; exact HQ.out else HNJ.out m (by omega) hl, HTJ.out.trans (Step.drewN _ _)⟩
        case measure => simp [intOf]; omega
       subst hs
       by_cases hg : yf * xd ≤ xf * yd
       ·have hd : decide (yf * xd ≤ xf * yd) = true := by simpa using hg
        have HQ := zH (show clashB l = true from List.any_eq_true.2 ⟨_, HLK.out, List.any_eq_true.2 ⟨_, HLJ.out, by simp [againstB, hg]⟩⟩)
        clear hg
        go_upto_region 7 with (fail)
        go_quiet (fail)
        go_wp2
        go_ret2
        exact ⟨_, _, rfl, by rw [HQ.out]; simp, HTJ.out.trans (Step.drewN _ _)⟩
       ·have hd : decide (yf * xd ≤ xf * yd) = false := by simpa using hg
        have HQ := zH (show againstB ⟨ys, xd, xf, true⟩ l[j] = false by rw [← HY.out]; simp [againstB]; omega)
        clear hg
        go_upto_region 7 with (fail)
        go_quiet (fail)
        go_wp2
        go_roundw
        case rel => exact ⟨j + 1, by omega, by go_num, fun m hm hl => if h : m = j then by subst h; exact HQ.out else HNJ.out m (by omega) hl, HTJ.out.trans (Step.drewN _ _)⟩
        case measure => simp [intOf]; omega
     ·have HQ := zH (show l.any (againstB l[k]) = false by
       rw [← HX.out, List.any_eq_false]
       intro y hy
       obtain ⟨m, hm, rfl⟩ := List.getElem_of_mem hy
       rw [HNJ.out m (by omega) hm]; decide)
      go_wp2
      go_roundw
      case rel => exact ⟨k + 1, by omega, by go_num, fun m hm hl => if h : m = k then by subst h; exact HQ.out else HN.out m (by omega) hl, HTJ.out⟩
      case measure => simp [intOf]; omega
  ·have HQ := zH (show clashB l = false by
    unfold clashB
    rw [List.any_eq_false]
    intro y hy
    obtain ⟨j, hj, rfl⟩ := List.getElem_of_mem hy
    rw [HN.out j (by omega) hj]; decide)
   go_wp2
   go_ret2
   exact ⟨_, _, rfl, by rw [HQ.out]; decide, HT.out⟩
theorem tests_ok {l : List Tst} (h : testsC l = 0) : l.all tstB = true := by
 unfold testsC at h
 split at h
 ·simp at h
 ·split at h
  ·assumption
  ·simp at h
theorem tent_ok {t : List Head} (h : tentC t = 0) : tentB t = true := by
 unfold tentC at h
 split at h
 ·assumption
 ·simp at h
theorem ready_ok {l : List Tst} {t : List Head} (h : readyC l t = 0) : l.all tstB = true ∧ tentB t = true := by
 unfold readyC at h
 split at h
 ·rename_i h1; exact ⟨tests_ok h1, tent_ok h⟩
 ·rename_i h1; exact absurd h h1
theorem tent_parts {t : List Head} (h : tentB t = true) : (1 ≤ t.length ∧ t.length ≤ 12) ∧ t.all headB = true := by
 simp only [tentB, withinB, Bool.and_eq_true, decide_eq_true_eq] at h
 exact ⟨by omega, h.2⟩
theorem Fault_any (S : Nat → Prop) (l : List Tst) (t : List Head) (v u : Value) (w : World) (hv : SL S w v l) (hu : SL S w u t) :
  Calls Tryz.prog 9 #[v, u] w fun e w' => e = .returned (.int .i64 (readyC l t)) ∧ Step w w' := by
 have HU := zH hu
 have hcall := zH (TestsFault_any S l v w hv)
 obtain ⟨pv, cv, rfl⟩ := hv.form
 obtain ⟨pu, cu, rfl⟩ := hu.form
 clear hv hu
 go_enter Tryz.func9, Tryz.ntmps9
 go_wp2_with fail
 refine hcall.out.mono ?_
 rintro e w1 ⟨rfl, hS⟩
 have HS := zH hS
 obtain ⟨c, hc⟩ : ∃ c, c = testsC l := ⟨_, rfl⟩
 rw [← hc]
 have HC := zH hc
 clear hcall hc hS
 by_cases h0 : c = 0
 ·subst h0
  go_wp2_with fail
  refine (Right_any S t _ _ (HU.out.keep (.of_step HS.out))).mono ?_
  rintro e w2 ⟨rfl, hS2⟩
  cases q : tentB t with
  | true =>
   have HQ := zH (show readyC l t = 0 by unfold readyC tentC; rw [← HC.out, if_pos rfl, if_pos q])
   clear q
   go_wp2
   go_ret
   exact ⟨by rw [HQ.out]; rfl, HS.out.trans hS2⟩
  | false =>
   have HQ := zH (show readyC l t = 1 by unfold readyC tentC; rw [← HC.out, if_pos rfl, if_neg (by rw [q]; decide)])
   clear q
   go_wp2
   go_ret
   exact ⟨by rw [HQ.out]; rfl, HS.out.trans hS2⟩
 ·have hd : (c != 0) = true := by simpa using h0
  have HQ := zH (show readyC l t = c by unfold readyC; rw [← HC.out, if_neg h0])
  clear h0
  go_wp2
  go_ret
  exact ⟨by rw [HQ.out]; rfl, HS.out⟩
theorem ready_any (S : Nat → Prop) (l : List Tst) (t : List Head) (v u : Value) (w : World) (hv : SL S w v l) (hu : SL S w u t) :
  Calls Tryz.prog 86 #[v, u] w fun e w' => e = .returned (.int .i64 (readyC l t)) ∧ Step w w' := by
 have HU := zH hu
 have hcall := zH (CheckTests_any S l v w hv)
 obtain ⟨pv, cv, rfl⟩ := hv.form
 obtain ⟨pu, cu, rfl⟩ := hu.form
 clear hv hu
 go_enter Tryz.func86, Tryz.ntmps86
 go_wp2_with fail
 refine hcall.out.mono ?_
 rintro e w1 ⟨rfl, hS⟩
 have HS := zH hS
 obtain ⟨c, hc⟩ : ∃ c, c = testsC l := ⟨_, rfl⟩
 rw [← hc]
 have HC := zH hc
 clear hcall hc hS
 by_cases h0 : c = 0
 ·subst h0
  go_wp2_with fail
  refine (CheckTent_any S t _ _ (HU.out.keep (.of_step HS.out))).mono ?_
  rintro e w2 ⟨rfl, hS2⟩
  have HQ := zH (show readyC l t = tentC t by unfold readyC; rw [← HC.out, if_pos rfl])
  go_wp2
  go_ret
  exact ⟨by rw [HQ.out]; rfl, HS.out.trans hS2⟩
 ·have hd : (c != 0) = true := by simpa using h0
  have HQ := zH (show readyC l t = c by unfold readyC; rw [← HC.out, if_neg h0])
  clear h0
  go_wp2
  go_ret
  exact ⟨by rw [HQ.out]; rfl, HS.out⟩
theorem corner_in {v : Vec} (h : cornerB v = true) : inV 10000 v := by
 simp only [cornerB, withinB, Bool.and_eq_true, decide_eq_true_eq] at h
 exact h
theorem times_in {v : Vec} {n A N : Int} (hv : inV A v) (hn : 0 ≤ n ∧ n ≤ N) : inV (N * A) (timesV v n) := ⟨mul_in ⟨by omega, hn.2⟩ hv.1, mul_in ⟨by omega, hn.2⟩ hv.2⟩
theorem in_fits {v : Vec} {A : Int} (hv : inV A v) (hA : A ≤ 4000000000000000000) : fits v.x ∧ fits v.y := by unfold inV at hv; unfold fits; omega
def Ends (F : List Vec) (q : Vec) (k m : Int) : Prop := 10000 < k + m ∨ balL F (timesV q (k + m)) = false
theorem Ends.more {F : List Vec} {q : Vec} {k m d : Int} (h : Ends F q k m) (hk : 0 ≤ k + m) (hd : 0 ≤ d) : Ends F q (k + d) m := by
 rcases h with h | h
 ·exact .inl (by omega)
 ·refine .inr ?_
  cases hb : balL F (timesV q (k + d + m)) with
  | false => rfl
  | true => rw [bal_mono hb hk (by omega)] at h; exact absurd h (by decide)
theorem within_iff {n lo hi : Int} : withinB n lo hi = true ↔ lo ≤ n ∧ n ≤ hi := by simp [withinB]
end Go.Proofs.YtfhmdpicoccnfaaGreat
namespace Go.BT
open Go.RowKit
def FW (ro : Option Nat) : Fence := { Fence.wide with round := ro }
@[simp] theorem FW_round (ro : Option Nat) : (FW ro).round = ro := rfl
@[simp] theorem FW_depth (ro : Option Nat) : (FW ro).depth = none := rfl
@[simp] theorem FW_fn (ro : Option Nat) (f : FuncId) : (FW ro).fn f = True := rfl
@[simp] theorem FW_inRound (ro : Option Nat) (l : Nat) : (FW ro).inRound l = FW (some l) := rfl
@[simp] theorem semAt_FW (ρ : Operand → Value) (o : Oper) : Oper.semAt none ρ o = execOp ρ o := rfl
theorem callsIn_FW {ro : Option Nat} {n : Nat} {P : Program} {f : FuncId} {args : Array Value} {w : World} {R : Ending → World → Prop} (h : Calls P f args w R) : CallsIn (FW ro) n P f args w R := by
 have h' : CallsIn Fence.wide n P f args w R := callsIn_wide.2 h
 cases ro with
 | none => exact h'
 | some l => exact CallsIn.inRound l h'
theorem rowsIn_FW {ro : Option Nat} {n : Nat} {P : Program} {row : String} {args : Array Value} {w : World} {R : Value → World → Prop} (h : Rows P row args w R) : RowsIn (FW ro) n P row args w R := fun c cs _ => by
 obtain ⟨v, w', r, s⟩ := h c cs
 exact ⟨v, w', r, (StepsIn.of_steps s).mono fun m _ => fenced_wide P m⟩
section
variable {P : Program} {ops : Array Oper} {X : Nat → Prop} {base : Nat} {kd : Nat → Kd} {ro : Option Nat} {n : Nat}
def noDefer (ops : Array Oper) : Bool := ops.all fun o => match o.op with
 | .defer _ => false
 | _ => true
theorem wpOpIn_of (hnd : noDefer ops = true) {Q : Exit → Act → World → Prop} {j : Nat} {K : Act → World → Prop} {a : Act} {w : World} (h : wpOp P ops QF j K a w) : wpOpIn (FW ro) n P ops Q j K a w := by
 unfold wpOp at h
 unfold wpOpIn
 cases ho : ops[j]? with
 | none => simp only [ho] at h; exact h
 | some o =>
  simp only [ho] at h ⊢
  have hd : ∀ c, o.op ≠ .defer c := fun c hc => by
   have := Array.all_eq_true'.1 hnd o (Array.mem_of_getElem? ho)
   simp [hc] at this
  have hsem : o.semAt (FW ro).round a.eval = execOp a.eval o := by
   unfold Oper.semAt
   cases ro with
   | none => rfl
   | some l =>
    show (match some l, o.op with | some l, .defer c => _ | _, _ => _) = _
    split
    ·rename_i c _ hc; exact (hd _ hc).elim
    ·rfl
  split
  ·rename_i hw
   simp only [hw, if_true] at h
   rcases h with h | ⟨_, a0, w0, hF⟩
   case inr => exact hF.elim
   unfold Oper.wp at h
   refine ⟨fun f _ => trivial, ?_⟩
   rw [hsem]
   generalize (execOp a.eval o).run P w = r at *
   cases r with
   | ok x w' =>
    cases x <;> simp only [Oper.upon, Oper.uponIn] at h ⊢ <;> first
     | exact h
     | exact ⟨fun hs => absurd hs (by simp [FW, Fence.wide]), callsIn_FW (Calls.mono h fun e w'' he => by cases e <;> first | exact he | exact he.elim | (obtain ⟨_, _, hF⟩ := he; exact hF.elim))⟩
     | exact ⟨fun hs => absurd hs (by simp [FW, Fence.wide]), rowsIn_FW h⟩
   | halt x w' => cases x <;> simp only [Oper.upon] at h <;> exact h.elim
  ·rename_i hw
   simp only [hw] at h
   exact ⟨fun f _ => trivial, h⟩
def K0I (P : Program) (ops : Array Oper) (X : Nat → Prop) (ro : Option Nat) (n : Nat) (Q : Exit → Act → World → Prop) (t : List Nat) : Cont := fun _ a w => ∀ W, StepX X w W → wpOpsIn (FW ro) n P ops Q t a W
theorem K0I_mono {Q : Exit → Act → World → Prop} (t : List Nat) : ContMono X (K0I P ops X ro n Q t) := fun _ _ _ _ _ _ hs h W hW => h W (hs.trans hW)
variable {tab : List Nat}
theorem tail_soundI {Q : Exit → Act → World → Prop} : ∀ (fuel : Nat) (t : List Nat) (listed : Array Bool) (a : Act) (w : World),
  t.length ≤ fuel → listed.size = ops.size → (∀ i, i < ops.size → (listed.getD i true = false ↔ i ∈ t)) → (∀ i ∈ t, i < ops.size) → t.Nodup → Closed ops listed →
  okTab tab ops = true → TailOk tab [] t → DepsOk ops listed t → wpOpsIn (FW ro) n P ops Q t a w → wpAnyIn (FW ro) n P .any ops Q fuel listed a w := by
 intro fuel
 induction fuel with
 | zero =>
  intro t listed a w hf hsz hun hin hnd hcl htab htail hdeps h
  have ht : t = [] := List.eq_nil_of_length_eq_zero (by omega)
  subst ht
  refine ⟨?_, by simpa [wpOpsIn] using h⟩
  rw [List.eq_nil_iff_forall_not_mem]
  intro j hj
  obtain ⟨h0, o, ho, _⟩ := mem_ready.1 hj
  have := (hun j (Array.getElem?_eq_some_iff.1 ho).1).1 h0
  simp at this
 | succ fuel ih =>
  intro t listed a w hf hsz hun hin hnd hcl htab htail hdeps h
  refine ⟨fun hr => ?_, fun j hj => ?_⟩
  ·cases t with
   | nil => simpa [wpOpsIn] using h
   | cons x L =>
    exfalso
    obtain ⟨o, ho, hh⟩ := hdeps [] x L rfl
    have hx : x ∈ Region.ready .any ops listed := mem_ready.2 ⟨(hun x (hin x (by simp))).2 (by simp), o, ho, fun e he hb => (hh e he hb).resolve_right (by simp)⟩
    rw [hr] at hx; cases hx
  ·obtain ⟨h0, oj, hoj, hdj⟩ := mem_ready.1 hj
   have hjlt := (Array.getElem?_eq_some_iff.1 hoj).1
   have hjsz : j < listed.size := by omega
   obtain ⟨t1, t2, rfl⟩ := List.append_of_mem ((hun j hjlt).1 h0)
   have ht1 : t1 = [] := by
    rw [List.eq_nil_iff_forall_not_mem]
    intro i hi
    have h1 := anc_listed hsz hcl htab j i oj hoj hdj (htail t1 j t2 rfl i (by simp [hi]))
    have h2 := (hun i (hin i (by simp [hi]))).2 (by simp [hi])
    rw [getD_tf (by rw [hsz]; exact hin i (by simp [hi])), h1] at h2
    cases h2
   subst ht1
   rw [List.nil_append, wpOpsIn_cons] at h
   refine wpOpIn_mono (fun a' w' hk => ?_) h
   have hnd' := nodup_mid hnd
   refine ih t2 _ a' w' (by simp at hf; omega) (by simp [hsz]) (by have := unlisted_drop (L1 := []) (L2 := t2) hjsz hun hnd; simpa using this) (fun i hi => hin i (by simp [hi])) (by simpa using hnd'.2)
    (closed_set hjsz hoj hdj hcl) htab (fun u1 x u2 he y hy => htail (j :: u1) x u2 (by simp [he]) y (by simp at hy ⊢; exact .inr hy)) (by have := depsOk_drop (L1 := []) (L2 := t2) hjsz hdeps; simpa using this) hk
theorem seq_soundI (hX : ∀ j, X j → j < base) {Q : Exit → Act → World → Prop} (hdf : noDefer ops = true) (hsel : Region.noSelect ops = true) : ∀ (fuel : Nat) (l t : List Nat) (listed : Array Bool) (N : Nat → Prop) (a : Act) (w : World),
  l.length + t.length ≤ fuel → listed.size = ops.size → (∀ i, i < ops.size → (listed.getD i true = false ↔ i ∈ l ++ t)) → (∀ i ∈ l ++ t, i < ops.size) → (l ++ t).Nodup → Closed ops listed →
  okTab tab ops = true → okList tab ops kd l = true → (∀ y ∈ l, ∀ x ∈ t, ancB tab y x = true) → TailOk tab [] t → DepsOk ops listed (l ++ t) → okAlloc ops kd l = true → (∀ i T z, i ∈ l → kd i = .alloc T z → Makes P ops i T z) →
  (∀ g, w.heap.size ≤ g → N g) → base ≤ w.heap.size → run P ops X base kd l (K0I P ops X ro n Q t) N a w → wpAnyIn (FW ro) n P .any ops Q fuel listed a w := by
 intro fuel
 induction fuel with
 | zero =>
  intro l t listed N a w hf hsz hun hin hnd hcl htab _ _ htail hdeps _ _ _ _ h
  have hl : l = [] := List.eq_nil_of_length_eq_zero (by omega)
  subst hl
  exact tail_soundI 0 t listed a w (by simpa using hf) hsz hun hin hnd hcl htab htail hdeps (h w (StepX.refl _ w))
 | succ fuel ih =>
  intro l t listed N a w hf hsz hun hin hnd hcl htab hlist hwait htail hdeps halloc hz hN hbase h
  by_cases hl : l = []
  ·subst hl
   exact tail_soundI _ t listed a w (by simpa using hf) hsz hun hin hnd hcl htab htail hdeps (h w (StepX.refl _ w))
  refine ⟨fun hr => ?_, fun j hj => ?_⟩
  ·-- nothing may come up: but something is left
   exfalso
   cases l with
   | nil => exact hl rfl
   | cons x L =>
    obtain ⟨o, ho, hh⟩ := hdeps [] x (L ++ t) (by simp)
    have hx : x ∈ Region.ready .any ops listed := mem_ready.2 ⟨(hun x (hin x (by simp))).2 (by simp), o, ho, fun e he hb => (hh e he hb).resolve_right (by simp)⟩
    rw [hr] at hx; cases hx
  ·obtain ⟨h0, oj, hoj, hdj⟩ := mem_ready.1 hj
   have hjlt := (Array.getElem?_eq_some_iff.1 hoj).1
   have hjsz : j < listed.size := by omega
   have hjm := (hun j hjlt).1 h0
   have hcl' := closed_set hjsz hoj hdj hcl
   have notanc : ∀ i ∈ l ++ t, ancB tab i j = true → False := fun i hi ha => by
    have h1 := anc_listed hsz hcl htab j i oj hoj hdj ha
    have h2 := (hun i (hin i hi)).2 hi
    rw [getD_tf (by rw [hsz]; exact hin i hi), h1] at h2
    cases h2
   rcases List.mem_append.1 hjm with hjl | hjt
   ·-- one of the first part
    obtain ⟨l1, l2, rfl⟩ := List.append_of_mem hjl
    obtain ⟨hlist', hpair⟩ := okList_drop hlist
    have hall : ∀ i ∈ l1, ∃ oi, ops[i]? = some oi ∧ oi.apart ops oj = true ∧ swaps (kd i) (kd j) = true := fun i hi => by
     have hp := hpair i hi
     simp only [okPair, Bool.or_eq_true] at hp
     rcases hp with hp | hp
     ·exact (notanc i (by simp [hi]) hp).elim
     ·cases hoi : ops[i]? with
      | none => simp [hoi] at hp
      | some oi =>
       simp only [hoi, hoj, Bool.and_eq_true] at hp
       exact ⟨oi, rfl, hp.1, hp.2⟩
    have hb := bring hX (K0I_mono t) hsel hoj l1 l2 N a w hall h
    have he : (l1 ++ j :: l2) ++ t = l1 ++ j :: (l2 ++ t) := by simp
    have next : ∀ (N' : Nat → Prop) (a' : Act) (w' : World), (∀ g, w'.heap.size ≤ g → N' g) → w.heap.size ≤ w'.heap.size → run P ops X base kd (l1 ++ l2) (K0I P ops X ro n Q t) N' a' w' → wpAnyIn (FW ro) n P .any ops Q fuel (listed.setIfInBounds j true) a' w' :=
     fun N' a' w' hN' hsz' hr => ih (l1 ++ l2) t _ N' a' w' (by simp at hf ⊢; omega) (by simp [hsz]) (by have := unlisted_drop (L1 := l1) (L2 := l2 ++ t) hjsz (by rw [← he]; exact hun) (by rw [← he]; exact hnd); simpa using this)
      (fun i hi => hin i (by simp only [List.mem_append, List.mem_cons] at hi ⊢; rcases hi with (hi | hi) | hi <;> simp [hi]))
      (by have := (nodup_mid (by rw [← he]; exact hnd)).2; simpa using this) hcl' htab hlist' (fun y hy x hx => hwait y (by simp only [List.mem_append, List.mem_cons] at hy ⊢; rcases hy with hy | hy <;> simp [hy]) x hx) htail
      (by have := depsOk_drop (L1 := l1) (L2 := l2 ++ t) hjsz (by rw [← he]; exact hdeps); simpa using this)
      (by simp only [okAlloc, List.all_eq_true, List.mem_append, List.mem_cons] at halloc ⊢; exact fun x hx => halloc x (hx.elim .inl (fun h => .inr (.inr h))))
      (fun i T z hi => hz i T z (by simp only [List.mem_append, List.mem_cons] at hi ⊢; rcases hi with hi | hi <;> simp [hi])) hN' (by omega) hr
    cases hk : kd j with
    | silent =>
     simp only [go, hk] at hb
     obtain ⟨o, v, ho, hy, hr⟩ := hb
     exact wpOpIn_of hdf (hy.wpOp (Q := QF) ho (StepX.refl _ w) (next N _ w hN (Nat.le_refl _) hr))
    | chain =>
     simp only [go, hk] at hb
     exact wpOpIn_of hdf (wpOp_mono (fun a' w' ⟨hs, hr⟩ => next _ a' w' (fun g hg => ⟨hN g (Nat.le_trans hs.size hg), .inr hg⟩) hs.size hr) (hb w (StepX.refl _ w)))
    | alloc T z =>
     simp only [go, hk] at hb
     have hal := halloc
     simp only [okAlloc, List.all_eq_true] at hal
     have hal := hal j (by simp)
     simp only [hk, hoj, Bool.and_eq_true] at hal
     obtain ⟨hg, hop⟩ := hal
     refine wpOpIn_of hdf (wpOp_alloc (Q := QF) hoj hop (by simpa using hg) (hz j T z (by simp) hk) ?_)
     have hd : (ops[j]?).bind (·.dst) = oj.dst := by rw [hoj]; rfl
     rw [hd] at hb
     exact next _ _ _ (fun g hgg => ⟨hN g (by simp at hgg; omega), by simp at hgg; omega⟩) (by simp) (hb (w.alloc (.cells (madeC z) T)) w.heap.size (.of (Step.alloc _ _)) (heap_alloc_new w _) hbase (hN _ (Nat.le_refl _)))
   ·exfalso
    obtain ⟨t1, t2, rfl⟩ := List.append_of_mem hjt
    cases l with
    | nil => exact hl rfl
    | cons x L => exact notanc x (by simp) (hwait x (by simp) j (by simp))
theorem wpIn_region_seq {id : Nat} {Q : Exit → Act → World → Prop} {a : Act} {w : World} (X : Nat → Prop) (hX : ∀ j, X j → j < w.heap.size) (kd : Nat → Kd) (tab l t : List Nat) (hm : P.follows .mixedOrders = true) (hdf : noDefer ops = true) (hok : okSeq true tab ops kd l t = true)
  (hz : ∀ i T z, i ∈ l → kd i = .alloc T z → Makes P ops i T z)
  (h : ∀ W, StepX X w W → run P ops X w.heap.size kd l (K0I P ops X ro n Q t) (fun _ => True) a W) : (Code.region id ops true).wpIn (FW ro) n P Q a w := by
 simp only [okSeq, Bool.and_eq_true, List.all_eq_true, decide_eq_true_eq, List.mem_range, List.contains_iff_mem] at hok
 obtain ⟨⟨⟨⟨⟨⟨⟨⟨⟨h0, h1⟩, h9⟩, h2⟩, h3⟩, h4⟩, h5⟩, h6⟩, h7⟩, h8⟩ := hok
 refine wpIn_region_any hm ?_
 refine seq_soundI (base := w.heap.size) (kd := kd) hX hdf h5 ops.size l t _ (fun _ => True) a w.drew ?_ (by simp) ?_ h7 h8 ?_ h0 h1 (fun y hy x hx => by have := h9 y hy x hx; simpa [okWait] using this) (tailOk_of h2) ?_ h4 hz (fun _ _ => trivial) (by simp) (h w.drew (.of (Step.drew w)))
 ·-- no more than the region has
  have hsub : (l ++ t).length ≤ (List.range ops.size).length := h8.length_le_of_subset (fun i hi => List.mem_range.2 (h7 i hi))
  simpa using hsub
 ·intro i hi
  simp only [Array.getD_eq_getD_getElem?, Array.getElem?_replicate, hi, if_true, Option.getD_some, true_iff]
  exact h6 i hi
 ·intro x o ho hx
  have hlt := (Array.getElem?_eq_some_iff.1 ho).1
  simp [hlt] at hx
 ·intro L1 x L2 he
  obtain ⟨o, ho, hh⟩ := depsOk_of (listed := Array.replicate ops.size false) h3 L1 x L2 he
  exact ⟨o, ho, by simpa using hh⟩
theorem runI_end {N : Nat → Prop} {a : Act} {w : World} {Q : Exit → Act → World → Prop} {t : List Nat} {L : List Oper} (ht : t.map (fun i => ops.toList[i]?) = L.map some) (h : ∀ W, StepX X w W → wpListIn (FW ro) n P ops Q L a W) : run P ops X base kd [] (K0I P ops X ro n Q t) N a w := by
 intro W hW
 have h' := h W hW
 clear h hW
 show wpOpsIn (FW ro) n P ops Q t a W
 induction t generalizing L a W with
 | nil =>
  cases L with
  | nil => exact h'
  | cons _ _ => simp at ht
 | cons x t ih =>
  cases L with
  | nil => simp at ht
  | cons o L =>
   simp only [List.map_cons, List.cons.injEq, Array.getElem?_toList] at ht
   rw [wpOpsIn_cons]
   unfold wpOpIn
   unfold wpListIn at h'
   simp only [ht.1]
   split
   ·rename_i hw
    rw [if_pos hw] at h'
    exact Oper.wpIn_mono (fun a' w' hh => ih (by simpa using ht.2) w' hh) h'
   ·rename_i hw
    rw [if_neg hw] at h'
    exact ⟨h'.1, ih (by simpa using ht.2) W h'.2⟩
end
section
variable {α : Type} [Rep α] {S : Nat → Prop} {base : Nat} {P : Program} {w : World} {v u : Value} {l m : List α} {t e : TypeId} {z : Value} {bytes : Nat} {ro : Option Nat} {nn : Nat}
end
end Go.BT
namespace Go.Proofs.YtfhmdpicoccnfaaGreat
set_option linter.unusedSimpArgs false
set_option linter.unusedVariables false
open Go.RowKit Go.BT
attribute [local go_sem] Oper.semAt_some
end Go.Proofs.YtfhmdpicoccnfaaGreat
namespace Go.Proofs.YtfhmdpicoccnfaaGreat
set_option linter.unusedSimpArgs false
set_option linter.unusedVariables false
open Go.RowKit Go.BT
def _root_.Go.BT.SLT (S : Nat → Prop) (w : World) (v : Value) (l : List Int) : Prop := SL S w v l ∧ ∀ (b o n c : Nat), v = .slice (some ⟨b, o, none⟩) n c → ∀ i, i < n → w.frozen? ⟨b, o + i, none⟩ = false
theorem _root_.Go.BT.SLT.keep {S : Nat → Prop} {w w' : World} {v : Value} {l : List Int} (h : SLT S w v l) (hk : Keeps S w w') : SLT S w' v l := by
 refine ⟨h.1.keep hk, fun b o n c e i hi => ?_⟩
 have h2 := h.2 b o n c e i hi
 obtain ⟨p, c', b', o', hv, _, _, hp, ha⟩ := h.1
 rw [e] at hv
 injection hv with e1 e2 e3
 have hlt : i < l.length := by omega
 have := hp (by omega)
 rw [← e1] at this
 injection this with this
 injection this with eb eo
 subst eb
 have h3 := ha i hlt
 exact (World.frozen?_of_block (w := w) (hk.2 b h3.1 h3.2.1)).trans h2
theorem _root_.Go.BT.SLT.weak {S T : Nat → Prop} {w : World} {v : Value} {l : List Int} (h : SLT S w v l) (hk : ∀ j, j < w.heap.size → T j → S j) : SLT T w v l := ⟨h.1.weak hk, h.2⟩
theorem _root_.Go.BT.SLT.form {S : Nat → Prop} {w : World} {v : Value} {l : List Int} (h : SLT S w v l) : ∃ p c, v = .slice p l.length c := h.1.form
theorem _root_.Go.BT.SLT.nil (S : Nat → Prop) (w : World) : SLT S w (.slice none 0 0) [] := ⟨SL.nil _ _, fun b o n c e => by cases e⟩
theorem _root_.Go.BT.SLT.bx_ints {S : Nat → Prop} {w : World} {g : Nat} {T : TypeId} {l : List Int} (h : Bx w g (l.map (Value.int .i64)) T) (hs : ¬ S g) (c : Nat) (hc : l.length ≤ c) (hm : l.length ≤ 9223372036854775807) : SLT S w (.slice (some ⟨g, 0, none⟩) l.length c) l :=
 ⟨SL.bx_ints h hs c hc hm, fun b o n c e i _ => by injection e with e _ _; injection e with e; injection e with e1 _; subst e1; exact h.frozen _⟩
def _root_.Go.BT.AVO (S : Nat → Prop) (w : World) (v : Value) (x : Bal) : Prop := ∃ cs, v = .agg cs.toArray ∧ ∃ c1, cs = [.int .i64 x.whole, c1] ∧ SLT S w c1 x.parts
theorem _root_.Go.BT.AVO.av {S : Nat → Prop} {w : World} {v : Value} {x : Bal} (h : AVO S w v x) : AV S w v x := by
 obtain ⟨cs, e, c1, e1, r⟩ := h; exact ⟨cs, e, c1, e1, r.1⟩
theorem _root_.Go.BT.AVO.keep {S : Nat → Prop} {w w' : World} {v : Value} {x : Bal} (h : AVO S w v x) (hk : Keeps S w w') : AVO S w' v x := by
 obtain ⟨cs, e, c1, e1, r⟩ := h; exact ⟨cs, e, c1, e1, r.keep hk⟩
theorem _root_.Go.BT.AVO.weak {S T : Nat → Prop} {w : World} {v : Value} {x : Bal} (h : AVO S w v x) (hk : ∀ j, j < w.heap.size → T j → S j) : AVO T w v x := by
 obtain ⟨cs, e, c1, e1, r⟩ := h; exact ⟨cs, e, c1, e1, r.weak hk⟩
theorem ints_set (l : List Int) (k : Nat) (x : Int) : (l.map (Value.int .i64)).set k (.int .i64 x) = (l.set k x).map (Value.int .i64) := by rw [List.map_set]
theorem ints_cell {w : World} {g : Nat} {l : List Int} {T : TypeId} (h : Bx w g (l.map (Value.int .i64)) T) {k : Nat} (hk : k < l.length) : w.cell? ⟨g, k, none⟩ = some (.int .i64 l[k]) := by
 rw [h.cell k]; simp [hk]
attribute [local go_sem] Oper.semAt_some
end Go.Proofs.YtfhmdpicoccnfaaGreat
namespace Go.Proofs.YtfhmdpicoccnfaaGreat
set_option linter.unusedSimpArgs false
set_option linter.unusedVariables false
open Go.RowKit Go.BT
structure HeadV where
 area : Int
 bears : Int
 p : Option Addr
 n : Nat
 c : Nat
abbrev HeadV.val (h : HeadV) : Value := .slice h.p h.n h.c
instance : Rep HeadV where
 k := 3
 rep S w cs x := cs = [.int .i64 x.area, .int .i64 x.bears, .slice x.p x.n x.c] ∧ ∀ g, x.val.ownBlock = some g → g < w.heap.size ∧ ¬ S g
 len h := by rw [h.1]; rfl
 keep hk h := ⟨h.1, fun g hg => ⟨Nat.lt_of_lt_of_le (h.2 g hg).1 hk.1, (h.2 g hg).2⟩⟩
 weak hk h := ⟨h.1, fun g hg => ⟨(h.2 g hg).1, fun ht => (h.2 g hg).2 (hk g (h.2 g hg).1 ht)⟩⟩
 one h := by obtain ⟨rfl, _⟩ := h; simp [Value.oneCell']
 pos := by decide
theorem ownL_flat {α : Type} [Flat α] {S : Nat → Prop} (T : Nat → Prop) {base : Nat} {e : TypeId} {w : World} {v : Value} {l : List α} (h : OwnL S base e w v l) : OwnL T base e w v l := by
 obtain ⟨xs, h1, h2⟩ := h
 exact ⟨xs, h1, fun i hi => Flat.flat (h2 i hi)⟩
theorem ownL_base {α : Type} [Rep α] {S : Nat → Prop} {base base' : Nat} {e : TypeId} {w : World} {v : Value} {l : List α} (h : OwnL S base e w v l) (hb : base' ≤ base) : OwnL S base' e w v l := by
 obtain ⟨xs, ⟨h0, h1⟩, h2⟩ := h
 refine ⟨xs, ⟨h0, ?_⟩, h2⟩
 rcases h1 with h1 | ⟨g, cap, cur, e, hg, r⟩
 ·exact .inl h1
 ·exact .inr ⟨g, cap, cur, e, Nat.le_trans hb hg, r⟩
theorem ownL_grown {α : Type} [Flat α] {S : Nat → Prop} {base : Nat} {e : TypeId} {w w' : World} {v : Value} {l : List α} {row : Option Nat} (h : OwnL S base e w v l) (hg : w.grownBy w' row) (hne : ∀ g, v.ownBlock = some g → row ≠ some g) : OwnL S base e w' v l := by
 obtain ⟨xs, h1, h2⟩ := h
 refine ⟨xs, h1.kept hg ?_, fun i hi => Flat.flat (h2 i hi)⟩
 cases q : v.ownBlock with
 | none => exact .inl rfl
 | some g => exact .inr fun e => hne g q e.symm
structure Inner (base : Nat) (w : World) (hs : List HeadV) (t : List Head) : Prop where
 len : hs.length = t.length
 at_ : ∀ i (h1 : i < hs.length) (h2 : i < t.length), hs[i].area = t[i].area ∧ hs[i].bears = t[i].bears ∧ OwnL (fun _ => False) base 85 w hs[i].val t[i].guys
 apart : ∀ i j (h1 : i < hs.length) (h2 : j < hs.length), i ≠ j → ∀ g, hs[i].val.ownBlock = some g → hs[j].val.ownBlock ≠ some g
theorem Inner.nil (base : Nat) (w : World) : Inner base w [] [] := ⟨rfl, fun i h => absurd h (by simp), fun i j h => absurd h (by simp)⟩
theorem Inner.grown {base : Nat} {w w' : World} {hs : List HeadV} {t : List Head} {row : Option Nat} (h : Inner base w hs t) (hg : w.grownBy w' row) (hne : ∀ i (h1 : i < hs.length) g, hs[i].val.ownBlock = some g → row ≠ some g) : Inner base w' hs t :=
 ⟨h.len, fun i h1 h2 => ⟨(h.at_ i h1 h2).1, (h.at_ i h1 h2).2.1, ownL_grown (h.at_ i h1 h2).2.2 hg (hne i h1)⟩, h.apart⟩
theorem Inner.step {base : Nat} {w w' : World} {hs : List HeadV} {t : List Head} (h : Inner base w hs t) (k : Step w w') : Inner base w' hs t :=
 ⟨h.len, fun i h1 h2 => ⟨(h.at_ i h1 h2).1, (h.at_ i h1 h2).2.1, (h.at_ i h1 h2).2.2.step k⟩, h.apart⟩
theorem Inner.lt {base : Nat} {w : World} {hs : List HeadV} {t : List Head} (h : Inner base w hs t) {i : Nat} (h1 : i < hs.length) {g : Nat} (hg : hs[i].val.ownBlock = some g) : base ≤ g ∧ g < w.heap.size :=
 (h.at_ i h1 (by have := h.len; omega)).2.2.lt g hg
theorem Inner.snoc {base : Nat} {w : World} {hs : List HeadV} {t : List Head} (h : Inner base w hs t) {x : HeadV} {y : Head} (hxy : x.area = y.area ∧ x.bears = y.bears ∧ OwnL (fun _ => False) base 85 w x.val y.guys) (hn : ∀ i (h1 : i < hs.length) g, hs[i].val.ownBlock = some g → x.val.ownBlock ≠ some g) : Inner base w (hs ++ [x]) (t ++ [y]) := by
 have hl := h.len
 refine ⟨by simp [hl], fun i h1 h2 => ?_, fun i j h1 h2 hij g hg => ?_⟩
 ·by_cases q : i < hs.length
  ·rw [List.getElem_append_left q, List.getElem_append_left (by omega)]; exact h.at_ i q (by omega)
  ·have : i = hs.length := by simp at h1; omega
   subst this
   rw [show (hs ++ [x])[hs.length]'h1 = x by simp, show (t ++ [y])[hs.length]'h2 = y by rw [List.getElem_append_right (by omega)]; simp [hl]]
   exact hxy
 ·by_cases q : i < hs.length
  ·rw [List.getElem_append_left q] at hg
   by_cases r : j < hs.length
   ·rw [List.getElem_append_left r]; exact h.apart i j q r hij g hg
   ·have : j = hs.length := by simp at h2; omega
    subst this
    simpa using hn i q g hg
  ·have : i = hs.length := by simp at h1; omega
   subst this
   by_cases r : j < hs.length
   ·rw [List.getElem_append_left r]
    have hg' : x.val.ownBlock = some g := by simpa using hg
    exact fun e => hn j r g e hg'
   ·exact absurd (show hs.length = j by simp at h2; omega) hij
def TentO (base : Nat) (w : World) (v : Value) (t : List Head) : Prop := ∃ hs : List HeadV, OwnL (fun _ => False) base 88 w v hs ∧ Inner base w hs t
theorem rep_of_own {α : Type} [Rep α] {S : Nat → Prop} {base : Nat} {e : TypeId} {w : World} {v : Value} {l : List α} (h : OwnL S base e w v l) {i : Nat} (hi : i < l.length) : ∃ cs, Rep.rep (avoid S v) w cs l[i] := by
 obtain ⟨xs, _, h2⟩ := h; exact ⟨_, h2 i hi⟩
theorem sl_map {α β : Type} [Rep α] [Rep β] (hk : Rep.k α = Rep.k β) {S T : Nat → Prop} {w : World} {v : Value} {l : List α} {m : List β} (h : SL S w v l) (hl : m.length = l.length) (hT : ∀ j, j < w.heap.size → T j → S j)
  (hr : ∀ i (h1 : i < l.length) (h2 : i < m.length) cs, Rep.rep S w cs l[i] → Rep.rep T w cs m[i]) : SL T w v m := by
 obtain ⟨p, c, b, o, hv, hc, hm, hp, ha⟩ := h
 refine ⟨p, c, b, o, by rw [hl]; exact hv, by omega, by omega, fun h0 => hp (by omega), fun i hi => ?_⟩
 obtain ⟨h1, h2, cs, h3, h4⟩ := ha i (by omega)
 exact ⟨h1, fun ht => h2 (hT b h1 ht), cs, hr i (by omega) hi cs h3, by rw [← hk]; exact h4⟩
theorem TentO.own {base : Nat} {w : World} {v : Value} {t : List Head} (h : TentO base w v t) {S : Nat → Prop} (hS : ∀ j, base ≤ j → j < w.heap.size → ¬ S j) : ∃ hs, OwnL S base 88 w v hs ∧ Inner base w hs t := by
 obtain ⟨hs, ⟨xs, h1, h2⟩, hi⟩ := h
 refine ⟨hs, ⟨xs, h1, fun i hx => ⟨(h2 i hx).1, fun g hg => ⟨((h2 i hx).2 g hg).1, fun ha => ?_⟩⟩⟩, hi⟩
 rcases ha with ha | ha
 ·have := hi.lt hx hg
  exact hS g this.1 this.2 ha
 ·exact ((h2 i hx).2 g hg).2 (.inr ha)
theorem TentO.sl {base : Nat} {w : World} {v : Value} {t : List Head} (h : TentO base w v t) {S : Nat → Prop} (hS : ∀ j, base ≤ j → j < w.heap.size → ¬ S j) : SL S w v t := by
 obtain ⟨hs, ho, hi⟩ := h.own hS
 refine sl_map (l := hs) (m := t) (show Rep.k HeadV = Rep.k Head from rfl) (ho.sl hS) hi.len.symm (fun _ _ h => h) fun i h1 h2 cs hr => ?_
 obtain ⟨a1, a2, a3⟩ := hi.at_ i h1 h2
 exact ⟨_, by rw [hr.1, a1, a2], (ownL_flat S a3).slb fun g hg => (hr.2 g hg).2⟩
theorem TentO.step {base : Nat} {w w' : World} {v : Value} {t : List Head} (h : TentO base w v t) (k : Step w w') : TentO base w' v t := by
 obtain ⟨hs, ho, hi⟩ := h
 exact ⟨hs, ho.step k, hi.step k⟩
theorem infoHead : (Tryz.prog.info? 88).map (fun i => (i.zero, i.size, i.bytes)) = some (some (.agg #[.int .i64 0, .int .i64 0, .slice none 0 0]), 3, 40) := by kernel_rfl
theorem eiHeads : EI Tryz.prog 41 88 (.agg #[.int .i64 0, .int .i64 0, .slice none 0 0]) 3 40 := .mk' Tryz.underlying41 infoHead rfl
theorem infoGuy : (Tryz.prog.info? 85).map (fun i => (i.zero, i.size, i.bytes)) = some (some (.agg #[.int .i64 0, .int .i64 0, .int .i64 0, .int .i64 0, .int .i64 0]), 5, 40) := by kernel_rfl
theorem eiGuys : EI Tryz.prog 86 85 (.agg #[.int .i64 0, .int .i64 0, .int .i64 0, .int .i64 0, .int .i64 0]) 5 40 := .mk' Tryz.underlying86 infoGuy rfl
def fewT (t : List Head) : Prop := t.length ≤ 15 ∧ ∀ i (h : i < t.length), t[i].guys.length ≤ 10
theorem TentO_any (S : Nat → Prop) (t : List Head) (v : Value) (w : World) (hv : SL S w v t) (hn : fewT t) :
  Calls Tryz.prog 13 #[v] w fun e w' => ∃ v', e = .returned v' ∧ TentO w.heap.size w' v' t ∧ Step w w' := by
 obtain ⟨pt, ct, b, o, rfl, _, hm, hp, hc, hb⟩ := hv.heads
 have HP := zH (And.intro hp hc)
 have HN := zH hn
 clear hp hc hb hv hn
 go_enter Tryz.func13, Tryz.ntmps13
 go_wp2
 go_loopw [3, 4] (fun out i wr => ∃ (k : Nat) (hs : List HeadV), k ≤ t.length ∧ i = .int .i64 k ∧ OwnL (fun _ => False) w.heap.size 88 wr out hs ∧ Inner w.heap.size wr hs (t.take k) ∧ Below w.heap.size w wr) (fun _ i _ => t.length - (intOf i).toNat)
 case atStart => exact ⟨0, [], Nat.zero_le _, rfl, OwnL.nil _ _ _ _, Inner.nil _ _, Below.refl _ _⟩
 case round =>
  obtain ⟨k, hs, hk, rfl, hown, hin, hB⟩ := hrel
  have hlen : hs.length = k := by rw [hin.len, List.length_take]; omega
  obtain ⟨po, co, rfl, _⟩ := hown.form
  have HO := zH hown
  have HI := zH hin
  have HB := zH hB
  have HT := zH (Step.of hB)
  have HL := zH hlen
  clear hown hin hB hlen
  by_cases hlt : k < t.length
  ·obtain rfl := HP.out.1 (by omega)
   obtain ⟨c2, e1, e2, e3, e4⟩ := HP.out.2 k hlt
   have e1 := HT.out.kc e1
   have e2 := HT.out.kc e2
   have hix : (0 : Int) ≤ (k : Int) ∧ (k : Int) < (t.length : Int) := by omega
   have hg10 := HN.out.2 k hlt
   obtain ⟨h, hh⟩ : ∃ h, h = t[k] := ⟨_, rfl⟩
   rw [← hh] at e1 e2 e4 hg10
   have HH := zH hh
   obtain ⟨pg, cg, bg, og, rfl, _, _, hpg, hcg, _⟩ := e4.guys
   have HG := zH (And.intro hpg hcg)
   have HE3 := zH (HT.out.kc e3)
   clear hh e4 hpg hcg e3
   obtain ⟨wo, hwo⟩ : ∃ W, W = wr := ⟨_, rfl⟩
   subst hwo
   go_upto_region 5 with (fail)
   have HSZ0 := zH (HT.out.size)
   refine wp_region_seq (kdOf [] [(11, 88, .agg #[.int .i64 0, .int .i64 0, .slice none 0 0])]) [0, 0, 3, 7, 15, 0, 0, 96, 224, 480, 1023, 0, 4095] [0, 1, 2, 3, 4, 5, 6, 7, 8, 9, 10, 11] [12] (by kernel_rfl) (by kernel_rfl) (fun i T z hi hk => by simp only [List.mem_cons, List.not_mem_nil, or_false] at hi; rcases hi with rfl | rfl | rfl | rfl | rfl | rfl | rfl | rfl | rfl | rfl | rfl | rfl <;> simp [kdOf] at hk <;> (obtain ⟨rfl, rfl⟩ := hk; first | (show Option.bind _ _ = some _; kernel_rfl) | (refine ⟨_, rfl, fun _ _ => ?_⟩; go_simp))) ?_
   intro Wx hWx
   have HWx := zH hWx
   have e1 := hWx.kc e1
   have e2 := hWx.kc e2
   clear hWx
   repeat ((first | (refine run_off rfl rfl (by rfl) ?_) | (refine run_chain_off rfl rfl (by rfl) (K0_mono _) ?_) | ((refine run_want rfl rfl (by rfl) ⟨?_, fun W hW => ?_, ?_⟩; rotate_left; (· (have d0 := hW.kc e1; have d1 := hW.kc e2; go_simp; (try with_reducible rfl)))))); (try simp only [Act.put, zA, zB, zC]))
   refine run_alloc rfl rfl (fun W5 g hW5 hg hgb hgN => ?_)
   (try simp only [Act.put, zA, zB, zC])
   refine run_end (L := [_]) rfl (fun W6 hW6 => ?_)
   have hb6 := Bx.step (w := W5) (cs := [_, _, _]) hg hW6
   refine wpl_store (v := .agg #[.int .i64 h.area, .int .i64 h.bears, .slice none 0 0]) rfl _ _ _ rfl rfl rfl hb6 (by kernel_rfl) (by simp [Value.cells]) (by simp [Value.cells, Value.oneCell']) [.int .i64 h.area, .int .i64 h.bears, .slice none 0 0] rfl (fun w7 hb7 hw7 => ?_)
   have hs7 := Step.wrote ((HWx.out.trans hW5).trans hW6) hw7 hgb
   have HS7 := zH hs7
   have HB7 := zH hb7
   have HGB := zH hgb
   clear hW5 hg hgb hgN hW6 hb6 hb7 hw7 hs7 HWx e1 e2 HSZ0
   go_wp2
   go_loopw [6] (fun i wr => ∃ (j : Nat) (q : Value), j ≤ h.guys.length ∧ i = .int .i64 j ∧ Bx wr g [.int .i64 h.area, .int .i64 h.bears, q] 88 ∧ OwnL (fun _ => False) w7.heap.size 85 wr q (h.guys.take j) ∧ StepX (fun x => x = g) w7 wr) (fun i _ => h.guys.length - (intOf i).toNat)
   case atStart => exact ⟨0, _, Nat.zero_le _, rfl, HB7.out, OwnL.nil _ _ _ _, StepX.refl _ _⟩
   case round =>
    obtain ⟨j, q, hj, rfl, hbj, hoj, hX⟩ := hrel
    have HBJ := zH hbj
    have HOJ := zH hoj
    have HX := zH hX
    obtain ⟨LL, hLL⟩ : ∃ L, L = h.guys.take j := ⟨_, rfl⟩
    rw [← hLL] at hoj
    obtain ⟨pq, cq, rfl, _⟩ := hoj.form
    have HGL := zH HB7.out.lt
    have HNE := zH (show (Value.slice pq LL.length cq).ownBlock ≠ some g from fun e => by have := (hoj.lt _ e).1; have := HGL.out; omega)
    have HLL := zH hLL
    clear hbj hoj hX hLL
    have hcell : ∀ b o u, wo.cell? ⟨b, o, none⟩ = some u → wr.cell? ⟨b, o, none⟩ = some u := fun b o u hu => HX.out.keeps.cell (a := ⟨b, o, none⟩) (by have := World.block_lt_of_cell? wo _ hu; have := HGB.out; show ¬ b = g; dsimp only at *; omega) (HS7.out.kc hu)
    have e3 := hcell _ _ _ HE3.out
    have yl := HBJ.out.lt
    have m0 := HBJ.out.cell 0
    have m1 := HBJ.out.cell 1
    have m2 := HBJ.out.cell 2
    simp only [zD, zE] at m0 m1 m2
    by_cases hltj : j < h.guys.length
    ·obtain rfl := HG.out.1 (by omega)
     obtain ⟨g1, g2, g3, g4, g5⟩ := HG.out.2 j hltj
     have g1 := hcell _ _ _ (HT.out.kc g1)
     have g2 := hcell _ _ _ (HT.out.kc g2)
     have g3 := hcell _ _ _ (HT.out.kc g3)
     have g4 := hcell _ _ _ (HT.out.kc g4)
     have g5 := hcell _ _ _ (HT.out.kc g5)
     have hjx : (0 : Int) ≤ (j : Int) ∧ (j : Int) < (h.guys.length : Int) := by omega
     obtain ⟨y, hy⟩ : ∃ y, y = h.guys[j] := ⟨_, rfl⟩
     rw [← hy] at g1 g2 g3 g4 g5
     have HY := zH hy
     clear hcell hy
     have hown2 := (HOJ.out.alloc (.cells #[.int .i64 y.x, .int .i64 y.y, .int .i64 y.down, .int .i64 y.soil, .int .i64 y.depth] 123)).alloc (.cells #[.int .i64 y.x, .int .i64 y.y, .int .i64 y.down, .int .i64 y.soil, .int .i64 y.depth] 85)
     have hu := SLe.one (S := avoid (fun _ => False) (.slice pq LL.length cq)) (w := wr.alloc (.cells #[.int .i64 y.x, .int .i64 y.y, .int .i64 y.down, .int .i64 y.soil, .int .i64 y.depth] 123)) (cs := [.int .i64 y.x, .int .i64 y.y, .int .i64 y.down, .int .i64 y.soil, .int .i64 y.depth]) (x := y) 85 rfl
     rw [World.size_alloc, show [y] = [h.guys[j]] by rw [HY.out]] at hu
     have b3 := (HBJ.out.alloc (.cells #[.int .i64 y.x, .int .i64 y.y, .int .i64 y.down, .int .i64 y.soil, .int .i64 y.depth] 123)).alloc (.cells #[.int .i64 y.x, .int .i64 y.y, .int .i64 y.down, .int .i64 y.soil, .int .i64 y.depth] 85)
     have hX2 := (HX.out.alloc' (.cells #[.int .i64 y.x, .int .i64 y.y, .int .i64 y.down, .int .i64 y.soil, .int .i64 y.depth] 123)).alloc' (.cells #[.int .i64 y.x, .int .i64 y.y, .int .i64 y.down, .int .i64 y.soil, .int .i64 y.depth] 85)
     go_wp2_with (at_builtin; refine wpl_append1 (W0 := ((wr.alloc (.cells #[.int .i64 y.x, .int .i64 y.y, .int .i64 y.down, .int .i64 y.soil, .int .i64 y.depth] 123)).alloc (.cells #[.int .i64 y.x, .int .i64 y.y, .int .i64 y.down, .int .i64 y.soil, .int .i64 y.depth] 85))) (l := h.guys) (k := j) eiGuys rfl _ _ rfl rfl rfl hown2 hltj (by omega) (by decide) hu (Below.refl _ _) hX2.size ?_)
     intro p' c' w3 hown3 _ hg
     have b4 := b3.keep (S := fun j => (Value.slice pq LL.length cq).ownBlock = some j) (.grown hg fun j hj _ => hj) HNE.out
     have m0 := b4.cell 0
     have m1 := b4.cell 1
     have m2 := b4.cell 2
     simp only [zD, zE] at m0 m1 m2
     have z2 := b4.frozen 2
     have yl := b4.lt
     have hX3 : StepX (fun x => x = g) w7 w3 := hX2.over (X := fun j => (Value.slice pq LL.length cq).ownBlock = some j) (.grown hg fun j hj _ => hj) fun j hj => .inl (HOJ.out.lt j hj).1
     have hn3 : (Value.slice p' (j + 1) c').ownBlock ≠ some g := fun e => by have := (hown3.lt _ e).1; have := HGL.out; omega
     have H3 := zH (And.intro hown3 (And.intro b4 (And.intro hX3 hn3)))
     clear hown2 hu b3 hX2 hown3 hg b4 hX3 hn3 g1 g2 g3 g4 g5 e3
     go_wp2
     go_roundw
     case rel => exact ⟨j + 1, _, by omega, by go_num, H3.out.2.1.setCell 2 _, ownL_flat _ ((ownL_flat (fun j => j = g) H3.out.1).wrote (.setCell _ _ _ _) rfl H3.out.2.2.2), H3.out.2.2.1.setCell ⟨g, 2, none⟩ _ rfl⟩
     case measure => simp [intOf]; omega
    ·have HN2 := zH (show LL = h.guys by rw [HLL.out, List.take_of_length_le (by omega)])
     have hst := StepX.fresh HS7.out HX.out (fun j hj => by have := HGB.out; omega)
     have hs0 := hst
     have ho2 := HO.out.step hst
     have hi2 := HI.out.step hst
     have hB2 := HB.out.step (Nat.le_refl _) hst
     have hog := HOJ.out
     rw [← HLL.out, HN2.out] at hog
     rw [HN2.out] at m2
     have hrep : Rep.rep (avoid (fun _ => False) (.slice po hs.length co)) wr [.int .i64 h.area, .int .i64 h.bears, .slice pq h.guys.length cq] (⟨h.area, h.bears, pq, h.guys.length, cq⟩ : HeadV) := ⟨rfl, fun g' hg' => ⟨(hog.lt g' hg').2, fun ha => by
      rcases ha with ha | ha
      ·exact ha
      ·have h1 := (HO.out.lt g' ha).2
       have h2 := (hog.lt g' hg').1
       have h3 := HS7.out.size
       omega⟩⟩
     have hu := SLe.one (S := avoid (fun _ => False) (.slice po hs.length co)) (w := wr) 88 hrep
     have ho3 := ho2.alloc (.cells #[.int .i64 h.area, .int .i64 h.bears, .slice pq h.guys.length cq] 88)
     have hs1 := hs0.trans (Step.alloc wr (.cells #[.int .i64 h.area, .int .i64 h.bears, .slice pq h.guys.length cq] 88))
     have hi3 := (hi2.step (Step.alloc wr (.cells #[.int .i64 h.area, .int .i64 h.bears, .slice pq h.guys.length cq] 88))).snoc (x := ⟨h.area, h.bears, pq, h.guys.length, cq⟩) (y := h) ⟨rfl, rfl, (ownL_base hog (Nat.le_trans HB.out.size HS7.out.size)).alloc _⟩ (fun i h1 g' hg' e => by
      have h2 := (HI.out.lt h1 hg').2
      have h3 := (hog.lt g' e).1
      have h4 := HS7.out.size
      omega)
     have hbz : w.heap.size ≤ (wr.alloc (.cells #[.int .i64 h.area, .int .i64 h.bears, .slice pq h.guys.length cq] 88)).heap.size := by have := hB2.size; simp; omega
     have hl15 := HN.out.1
     have hap : ∀ i (h1 : i < (hs ++ [(⟨h.area, h.bears, pq, h.guys.length, cq⟩ : HeadV)]).length) g', (hs ++ [(⟨h.area, h.bears, pq, h.guys.length, cq⟩ : HeadV)])[i].val.ownBlock = some g' → (Value.slice po hs.length co).ownBlock ≠ some g' := fun i h1 g' hg' e => by
      by_cases q : i < hs.length
      ·rw [List.getElem_append_left q] at hg'
       obtain ⟨cs, hr⟩ := rep_of_own ho3 q
       exact (hr.2 g' hg').2 (.inr e)
      ·have : i = hs.length := by simp at h1; omega
       subst this
       exact (hrep.2 g' (by simpa using hg')).2 (.inr e)
     have HA := zH (And.intro hi3 hap)
     have HB3 := zH (hB2.step (Nat.le_refl _) (Step.alloc wr (.cells #[.int .i64 h.area, .int .i64 h.bears, .slice pq h.guys.length cq] 88)))
     clear hst hs0 ho2 hi2 hB2 hog hi3 hap hs1 hcell hrep
     go_wp2_with (at_builtin; refine wpl_append (S := fun _ => False) (base := w.heap.size) (v := .slice po hs.length co) (l := hs) (m := [⟨h.area, h.bears, pq, h.guys.length, cq⟩]) eiHeads rfl _ _ rfl rfl rfl ho3 hu (hs.length + 1) (by simp) _ rfl (by have := HL.out; simp only [maxLen]; omega) (by have := HL.out; omega) hbz ?_)
     intro p' c' w5 hown3 hg
     have HF := zH (And.intro hown3 (And.intro (HA.out.1.grown hg HA.out.2) (HB3.out.grown hg hbz (fun j hj => (ho3.lt j hj).1))))
     clear ho3 hu hbz hown3 hg m0 m1 m2 yl e3
     go_wp2
     go_roundw
     case rel =>
      refine ⟨k + 1, hs ++ [⟨h.area, h.bears, pq, h.guys.length, cq⟩], by omega, by go_num, ?_, ?_, HF.out.2.2⟩
      ·have h1 := HF.out.1
       simpa using h1
      ·have h1 := HF.out.2.1
       rw [List.take_succ_eq_append_getElem hlt, ← HH.out]
       exact h1
     case measure => simp [intOf]; omega
  ·have HN2 := zH (show t.take k = t by rw [List.take_of_length_le (by omega)])
   have hi := HI.out
   rw [HN2.out] at hi
   have HI2 := zH hi
   clear hi
   go_wp2
   go_ret
   exact ⟨_, rfl, ⟨hs, HO.out, HI2.out⟩, HT.out⟩
theorem Tent_any (S : Nat → Prop) (t : List Head) (v : Value) (w : World) (hv : SL S w v t) (hn : fewT t) :
  Calls Tryz.prog 13 #[v] w fun e w' => ∃ v', e = .returned v' ∧ SL (Old w) w' v' t ∧ Step w w' :=
 (TentO_any S t v w hv hn).mono fun _ _ ⟨v', h1, h2, h3⟩ => ⟨v', h1, h2.sl fun j h4 _ h5 => by unfold Old at h5; omega, h3⟩
theorem few_of {l : List Tst} {t : List Head} (h : few l t = true) : l.length ≤ 45 ∧ fewT t := by
 simp only [few, Bool.and_eq_true, decide_eq_true_eq, List.all_eq_true] at h
 exact ⟨h.1.2, h.2, fun i hi => by have := h.1.1 _ (List.getElem_mem hi); simpa [fewH] using this⟩
theorem SL.go {α : Type} [Rep α] {S : Nat → Prop} {w w' : World} {v : Value} {l : List α} (h : SL S w v l) (k : Step w w') : SL (fun _ => False) w' v l := (h.weak fun _ _ h => h.elim).keep (.of_step k)
theorem AV.go {α : Type} [Rep α] {S : Nat → Prop} {w w' : World} {v : Value} {l : α} (h : AV S w v l) (k : Step w w') : AV (fun _ => False) w' v l := (h.weak fun _ _ h => h.elim).keep (.of_step k)
theorem all_cf1 (l : List Fc) (v : Value) (w : World) (hv : SL (fun _ => False) w v l) : Calls Tryz.prog 69 #[v, .func (.func 70) #[] #[]] w fun e w' => e = .returned (.bool (l.all fun f => decide (f.hours.length ≤ 48))) ∧ Step w w' :=
 (all_fc (fun _ => False) l v w 70 #[] (Go.Proofs.enters_of Tryz.func70 (by kernel_rfl) rfl) (fun f => decide (f.hours.length ≤ 48)) (fun _ W => Step w W) (fun _ => False) (fun _ h => h.elim)
  (fun _ W hW => hv.keep (.of_step hW)) (fun _ _ _ h1 h2 => h1.trans h2) (Step.refl _) (fun i hi W u hW _ hu => by
   refine (cf1_any _ _ W hu).mono ?_
   rintro e w' ⟨rfl, hs⟩
   exact ⟨rfl, hW.trans hs, hs⟩)).mono fun e w' ⟨h, k, _, _, hs⟩ => ⟨h, hs⟩
theorem all_cf3 (l : List Fc) (v : Value) (w : World) (hv : SL (fun _ => False) w v l) : Calls Tryz.prog 69 #[v, .func (.func 74) #[] #[]] w fun e w' => e = .returned (.bool (l.all fun f => nameB f.name)) ∧ Step w w' :=
 (all_fc (fun _ => False) l v w 74 #[] (Go.Proofs.enters_of Tryz.func74 (by kernel_rfl) rfl) (fun f => nameB f.name) (fun _ W => Step w W) (fun _ => False) (fun _ h => h.elim)
  (fun _ W hW => hv.keep (.of_step hW)) (fun _ _ _ h1 h2 => h1.trans h2) (Step.refl _) (fun i hi W u hW _ hu => by
   refine (cf3_any _ _ W hu).mono ?_
   rintro e w' ⟨rfl, hs⟩
   exact ⟨rfl, hW.trans hs, hs⟩)).mono fun e w' ⟨h, k, _, _, hs⟩ => ⟨h, hs⟩
theorem all_cf2 (l : List Fc) (v : Value) (b : Nat) (w : World) (hv : SL (fun _ => False) w v l) (hb : w.cell? ⟨b, 0, none⟩ = some v) : Calls Tryz.prog 69 #[v, .func (.func 71) #[] #[.pointer (some ⟨b, 0, none⟩)]] w fun e w' => e = .returned (.bool (l.all (evenFB l))) ∧ Step w w' :=
 (all_fc (fun _ => False) l v w 71 #[.pointer (some ⟨b, 0, none⟩)] (Go.Proofs.enters_of Tryz.func71 (by kernel_rfl) rfl) (evenFB l) (fun _ W => Step w W) (fun _ => False) (fun _ h => h.elim)
  (fun _ W hW => hv.keep (.of_step hW)) (fun _ _ _ h1 h2 => h1.trans h2) (Step.refl _) (fun i hi W u hW _ hu => by
   refine (cf2_any l v _ _ b W (hv.keep (.of_step hW)) (by omega) (hW.kc hb) hu).mono ?_
   rintro e w' ⟨rfl, hs⟩
   exact ⟨rfl, hW.trans hs, hs⟩)).mono fun e w' ⟨h, k, _, _, hs⟩ => ⟨h, hs⟩
theorem names_take {l : List Fc} {k : Nat} (hk : k < l.length) : ((namesOf l).take (k + 1)).foldl addN [] = addN (((namesOf l).take k).foldl addN []) l[k].name := by
 have h : k < (namesOf l).length := by simpa [namesOf] using hk
 rw [List.take_succ_eq_append_getElem h, List.foldl_append]
 simp [namesOf]
attribute [local go_sem] run_len_str
theorem CheckForecasts_any (S : Nat → Prop) (l : List Fc) (v : Value) (w : World) (hv : SL S w v l) : Calls Tryz.prog 37 #[v] w fun e w' => e = .returned (.int .i64 (forecastsC l)) ∧ Step w w' := by
 have hm := hv.len
 have hv0 := SL.go hv (Step.refl _)
 obtain ⟨pv, cv, bv, ov, rfl, _, _, hpv, hcv, _⟩ := hv0.fcs
 obtain ⟨W0, hW0⟩ : ∃ W, W = (w.alloc (.cells #[.slice pv l.length cv] 74)).alloc (.map #[] 0) := ⟨_, rfl⟩
 have hS : Step w W0 := by subst hW0; exact (by with_reducible repeat (first | assumption | exact Step.refl _ | apply Step.s_alloc | apply Step.s_drew | apply Step.s_drewN | refine Step.trans ?_ (by assumption)))
 have hz : W0.heap.size = w.heap.size + 2 := by subst hW0; simp
 have hbx : Bx W0 w.heap.size [.slice pv l.length cv] 74 := by subst hW0; exact (Bx.new w [_] _).step (Step.alloc _ _)
 have hsm : SM W0 (w.heap.size + 1) [] := by
  subst hW0
  refine ⟨#[], 0, ?_, rfl⟩
  have := heap_alloc_new (w.alloc (.cells #[.slice pv l.length cv] 74)) (.map #[] 0)
  rw [World.size_alloc] at this
  exact this
 have HW := zH hW0
 have HS := zH (And.intro hS hz)
 have HBX := zH hbx
 have HSM := zH hsm
 have HV := zH ((hv0.weak (T := fun j => j = w.heap.size + 1) fun j hj e => by omega).keep (.of_step hS))
 have HC := zH (And.intro hpv hcv)
 clear hv hv0 hpv hcv hW0 hS hz hbx hsm
 have hmm := @run_makeMap Tryz.prog
 go_enter Tryz.func37, Tryz.ntmps37
 go_upto_region 3 with (fail)
 rw [← HW.out]
 go_loopw [9] (fun i wr => ∃ k : Nat, k ≤ l.length ∧ i = .int .i64 k ∧ SM wr (w.heap.size + 1) (((namesOf l).take k).foldl addN []) ∧ StepX (fun j => j = w.heap.size + 1) W0 wr) (fun i _ => l.length - (intOf i).toNat)
 case atStart => exact ⟨0, Nat.zero_le _, rfl, HSM.out, StepX.refl _ _⟩
 case round =>
  obtain ⟨k, hk, rfl, hsm, hX⟩ := hrel
  have HX := zH hX
  have HM := zH hsm
  by_cases hlt : k < l.length
  ·obtain ⟨p', c', b', o', he, _, _, hpp, hc, _⟩ := (HV.out.keep hX.keeps).fcs
   injection he with he1 he2 he3
   subst he1 he3
   obtain rfl := hpp (by omega)
   obtain ⟨c1, e1, e2, e3, _⟩ := hc k hlt
   obtain ⟨p2, k2, rfl⟩ := e3.form
   have hix : (0 : Int) ≤ (k : Int) ∧ (k : Int) < (l.length : Int) := by omega
   have hsm3 : SM (wr.alloc (.cells #[.string l[k].name, .slice p2 l[k].hours.length k2] 107)) (w.heap.size + 1) (((namesOf l).take k).foldl addN []) := hsm.keep (Step.alloc _ _) id
   obtain ⟨w4, hmu, hsm4, hw4⟩ := run_mapUpdate_str l[k].name hsm3
   have HM4 := zH (And.intro hsm4 hw4)
   clear hsm hX hsm3 hsm4 hw4 hc hpp he2 e3 HM
   go_wp2
   go_roundw
   case rel => exact ⟨k + 1, by omega, by go_num, by rw [names_take hlt]; exact HM4.out.1, (HX.out.trans (.of (Step.alloc _ _))).trans (StepX.grown HM4.out.2.grown fun j e _ => by injection e with e; exact e.symm)⟩
   case measure => simp [intOf]; omega
  ·have hke : k = (namesOf l).length := by simp [namesOf]; omega
   rw [hke, List.take_length] at hsm
   obtain ⟨wb, hwb⟩ : ∃ W, W = wr := ⟨_, rfl⟩
   subst hwb
   obtain ⟨ks, hks⟩ : ∃ ks, ks = (namesOf l).foldl addN [] := ⟨_, rfl⟩
   rw [← hks] at hsm
   have hlen := add_len (namesOf l) []
   rw [← hks] at hlen
   have hnl : (namesOf l).length = l.length := by simp [namesOf]
   rw [hnl] at hlen
   simp only [List.length_nil, Nat.zero_add, List.not_mem_nil, not_false_eq_true, implies_true, and_true] at hlen
   have HLEN := zH hlen
   have HSMB := zH hsm
   have HVB := zH (SL.go (HV.out.keep hX.keeps) (Step.refl _))
   have HB0 := zH (hX.keeps.cell (show ¬ w.heap.size = w.heap.size + 1 by omega) (HBX.out.cell 0))
   have HSB := zH (StepX.fresh HS.out.1 hX (fun j hj => by omega))
   have HT := zH (Step.refl wb)
   clear hsm hX HX HM hke hks hlen hnl HV HBX HS HSM hmm
   have HF := zH (show fewFB l = (withinB (l.length : Int) 1 10 && l.all fun f => decide (f.hours.length ≤ 48)) by
    unfold fewFB withinB
    congr 1
    congr 1 <;> (apply decide_eq_decide.2; omega))
   have y0 := HT.out.kc HB0.out
   go_wp2_with fail
   refine (gale.within_any _ _ _ _).mono ?_
   rintro e w' ⟨rfl, rfl⟩
   clear hlt hk
   cases q : withinB (l.length : Int) 1 10 with
   | false =>
    have HR := zH (show forecastsC l = 3 by unfold forecastsC; rw [HF.out, q]; rfl)
    clear q
    go_wp2
    go_ret
    exact ⟨by rw [HR.out]; rfl, HSB.out.trans HT.out⟩
   | true =>
   have HF1 := zH (show fewFB l = l.all fun f => decide (f.hours.length ≤ 48) by rw [HF.out, q]; rfl)
   clear q HF
   have hcall := zH (all_cf1 l _ _ (SL.go HVB.out HT.out))
   go_wp2_with fail
   refine hcall.out.mono ?_
   clear hcall
   rintro e wn ⟨rfl, hSn⟩
   have HTi := zH (HT.out.trans hSn)
   clear hSn HT
   have HT := HTi
   clear HTi
   clear y0
   cases q : l.all fun f => decide (f.hours.length ≤ 48) with
   | false =>
    have HR := zH (show forecastsC l = 3 by unfold forecastsC; rw [HF1.out, q]; rfl)
    clear q
    go_wp2
    go_ret
    exact ⟨by rw [HR.out]; rfl, HSB.out.trans HT.out⟩
   | true =>
   have HF2 := zH (show fewFB l = true by rw [HF1.out, q])
   clear q HF1
   have y0 := HT.out.kc HB0.out
   have hcall := zH (all_cf2 l _ _ _ (SL.go HVB.out HT.out) (HT.out.kc HB0.out))
   go_wp2_with fail
   refine hcall.out.mono ?_
   clear hcall
   rintro e wn ⟨rfl, hSn⟩
   have HTi := zH (HT.out.trans hSn)
   clear hSn HT
   have HT := HTi
   clear HTi
   clear y0
   cases q : l.all (evenFB l) with
   | false =>
    have HR := zH (show forecastsC l = 1 by unfold forecastsC; rw [if_pos HF2.out, q]; rfl)
    clear q
    go_wp2
    go_ret
    exact ⟨by rw [HR.out]; rfl, HSB.out.trans HT.out⟩
   | true =>
   have HF3 := zH q
   clear q
   have y0 := HT.out.kc HB0.out
   have hcall := zH (all_cf3 l _ _ (SL.go HVB.out HT.out))
   go_wp2_with fail
   refine hcall.out.mono ?_
   clear hcall
   rintro e wn ⟨rfl, hSn⟩
   have HTi := zH (HT.out.trans hSn)
   clear hSn HT
   have HT := HTi
   clear HTi
   clear y0
   cases q : l.all (fun f => nameB f.name) with
   | false =>
    have HR := zH (show forecastsC l = 5 by unfold forecastsC; rw [if_pos HF2.out, if_pos HF3.out, q]; rfl)
    clear q
    go_wp2
    go_ret
    exact ⟨by rw [HR.out]; rfl, HSB.out.trans HT.out⟩
   | true =>
   have HF4 := zH q
   clear q
   have y0 := HT.out.kc HB0.out
   have hsm := HSMB.out.keep HT.out id
   have hll := run_len_str 3 hsm
   obtain ⟨kn, hkn⟩ : ∃ n, n = ks.length := ⟨_, rfl⟩
   rw [← hkn] at hll
   have HKN := zH hkn
   clear hkn hsm
   by_cases q : kn < l.length
   ·have hd : decide (kn < l.length) = true := decide_eq_true q
    have HR := zH (show forecastsC l = 6 by
     unfold forecastsC; rw [if_pos HF2.out, if_pos HF3.out, if_pos HF4.out, if_neg]
     intro hn
     have := HLEN.out.2.2 hn
     rw [← HKN.out] at this; omega)
    clear q
    go_wp2
    go_ret
    exact ⟨by rw [HR.out]; rfl, HSB.out.trans HT.out⟩
   ·have hd : decide (kn < l.length) = false := decide_eq_false q
    have HR := zH (show forecastsC l = 0 by
     unfold forecastsC; rw [if_pos HF2.out, if_pos HF3.out, if_pos HF4.out, if_pos]
     refine HLEN.out.2.1 ?_
     have := HLEN.out.1
     rw [← HKN.out] at this ⊢; omega)
    clear q
    go_wp2
    go_ret
    exact ⟨by rw [HR.out]; rfl, HSB.out.trans HT.out⟩
end Go.Proofs.YtfhmdpicoccnfaaGreat
