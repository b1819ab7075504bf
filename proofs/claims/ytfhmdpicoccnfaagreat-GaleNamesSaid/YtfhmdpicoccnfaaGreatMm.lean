/- Walks and plain laws, part m. -/
import Derived.Test.YtfhmdpicoccnfaaGreatMa
import Derived.Test.YtfhmdpicoccnfaaGreatMd
import Derived.Test.YtfhmdpicoccnfaaGreatMf
import Derived.Test.YtfhmdpicoccnfaaGreatRows
set_option maxHeartbeats 16000000
set_option maxRecDepth 100000
set_option linter.unusedVariables false
set_option linter.unusedSimpArgs false
namespace Go.BT
def testsT : List Tst := [⟨0, 1000, 800, true⟩, ⟨0, 500, 600, false⟩]
def tentT : List Head := [⟨100, 2000, [⟨1000, 0, 600, 0, 700⟩, ⟨0, 1000, 600, 0, 700⟩, ⟨-1000, 0, 600, 0, 700⟩, ⟨0, -1000, 600, 0, 700⟩]⟩]
theorem names_limits : limitsL testsT tentT fieldS = [30, 90, 1000] := by decide +kernel
theorem names_ok : testsC testsT = 0 ∧ tentB tentT = true ∧ soundC testsT = 0 := by decide
theorem names_reef : reefL 50 tentT = [⟨50, 2000, [⟨1000, 0, 600, 0, 700⟩, ⟨0, 1000, 600, 0, 700⟩, ⟨-1000, 0, 600, 0, 700⟩, ⟨0, -1000, 600, 0, 700⟩]⟩] := by decide
end Go.BT
namespace Go.BT
open Go.RowKit
structure RawF where
 a : Value
 b : Value
instance : Rep RawF where
 k := 2
 rep _ _ cs x := cs = [x.a, x.b] ∧ x.a.oneCell' = true ∧ x.b.oneCell' = true
 len h := by rw [h.1]; rfl
 keep _ h := h
 weak _ h := h
 one h := by obtain ⟨rfl, h1, h2⟩ := h; simpa using ⟨h1, h2⟩
 pos := by decide
instance : Flat RawF where
 flat h := h
def rawsOf (w : World) (b o n : Nat) : List RawF := (List.range n).map fun i => ⟨(w.cell? ⟨b, o + i * 2, none⟩).getD undef, (w.cell? ⟨b, o + i * 2 + 1, none⟩).getD undef⟩
theorem raws_get {w : World} {b o n i : Nat} (h : i < (rawsOf w b o n).length) : (rawsOf w b o n)[i] = ⟨(w.cell? ⟨b, o + i * 2, none⟩).getD undef, (w.cell? ⟨b, o + i * 2 + 1, none⟩).getD undef⟩ := by
 simp [rawsOf]
theorem raw_of {S : Nat → Prop} {w : World} {v : Value} {l : List Fc} (h : SL S w v l) :
  ∃ m : List RawF, m.length = l.length ∧ SL S w v m ∧ ∀ i (h1 : i < m.length) (h2 : i < l.length), m[i].a = .string l[i].name ∧ SL S w m[i].b l[i].hours ∧ l[i].name.size ≤ 9223372036854775807 := by
 obtain ⟨p, c, b, o, hv, hc, hm, hp, ha⟩ := h
 have hl : (rawsOf w b o l.length).length = l.length := by simp [rawsOf]
 have key : ∀ i (h2 : i < l.length), ∃ c1, w.cell? ⟨b, o + i * 2, none⟩ = some (.string l[i].name) ∧ w.cell? ⟨b, o + i * 2 + 1, none⟩ = some c1 ∧ SL S w c1 l[i].hours ∧ l[i].name.size ≤ 9223372036854775807 := fun i h2 => by
  obtain ⟨_, _, cs, ⟨c1, rfl, h3, h4⟩, hcs⟩ := ha i h2
  exact ⟨c1, hcs 0 _ rfl, hcs 1 _ rfl, h3, h4⟩
 refine ⟨rawsOf w b o l.length, hl, ⟨p, c, b, o, by rw [hl]; exact hv, by omega, by omega, fun h0 => hp (by omega), fun i hi => ?_⟩, fun i h1 h2 => ?_⟩
 ·obtain ⟨c1, k1, k2, k3, _⟩ := key i (by omega)
  refine ⟨(ha i (by omega)).1, (ha i (by omega)).2.1, [.string l[i].name, c1], ?_, fun j v hj => ?_⟩
  ·rw [raws_get]
   obtain ⟨_, _, rfl⟩ := k3.form
   refine ⟨by rw [k1, k2]; rfl, by rw [k1]; rfl, by rw [k2]; rfl⟩
  ·match j, hj with
   | 0, hj => injection hj with hj; subst hj; exact k1
   | 1, hj => injection hj with hj; subst hj; exact k2
 ·obtain ⟨c1, k1, k2, k3, k4⟩ := key i h2
  rw [raws_get]
  dsimp only
  rw [k1, k2]
  exact ⟨rfl, k3, k4⟩
theorem fc_of {S : Nat → Prop} {w : World} {v : Value} {m : List RawF} {l : List Fc} (hl : m.length = l.length) (h : SL S w v m)
  (hr : ∀ i (h1 : i < m.length) (h2 : i < l.length), m[i].a = .string l[i].name ∧ SL S w m[i].b l[i].hours ∧ l[i].name.size ≤ 9223372036854775807) : SL S w v l := by
 obtain ⟨p, c, b, o, hv, hc, hm, hp, ha⟩ := h
 refine ⟨p, c, b, o, by rw [← hl]; exact hv, by omega, by omega, fun h0 => hp (by omega), fun i hi => ?_⟩
 obtain ⟨q1, q2, cs, ⟨rfl, _, _⟩, hcs⟩ := ha i (by omega)
 obtain ⟨r1, r2, r3⟩ := hr i (by omega) hi
 exact ⟨q1, q2, _, ⟨m[i].b, by rw [r1], r2, r3⟩, hcs⟩
theorem names_lim2 : limitedB fieldS [30, 60, 1000] = true ∧ windsB [20, 70] = true := by decide
theorem stuck_late {e : Int} {cut : List Int} (S : StuckS ringH 61 e cut) : e = 2 := (S.range ring_ok (by omega)).1
theorem names_bad : siteB ⟨[], [], [], 0⟩ = false ∧ hallB ⟨[], []⟩ = false := by decide
end Go.BT
namespace Go.Proofs.YtfhmdpicoccnfaaGreat
set_option linter.unusedSimpArgs false
set_option linter.unusedVariables false
open Go.RowKit Go.BT
theorem told_strikes : leftI toldF [⟨0, 20, 24⟩] toldF.length = [0] ∧ strikesTo toldF [⟨0, 20, 24⟩] toldF.length = [⟨1, 0⟩] := by decide
theorem names_cuts : pstuckB ringH 6 [7, 0, 0] = true ∧ pstuckB ringH 7 [8, 0, 0] = false := by decide
theorem names_outs : poutB ringH 7 [[10, 10, 10, 10, 10, 10, 10], [5, 5, 5, 4, 0, 0, 0]] = false ∧ poutB ringH 7 [[10, 10, 10, 10, 10, 10, 10], [5, 5, 5, 5, 0, 0, 0]] = true := by decide
theorem told_full (w : World) : Calls Tryz.prog 27 #[] w fun e w' => ∃ b, e = .returned (.slice (some ⟨b, 0, none⟩) 2 2) ∧ SL (Old w) w' (.slice (some ⟨b, 0, none⟩) 2 2) toldF ∧ Step w w' := by
 go_enter Tryz.func27, Tryz.ntmps27
 go_wp2
 go_ret
 refine ⟨_, rfl, ?_, ((Step.alloc _ _).trans (Step.alloc _ _)).trans (Step.alloc _ _)⟩
 have h1 : SL (Old w) (((w.alloc (.cells #[.int .i64 10, .int .i64 30, .int .i64 20, .int .i64 40] 77)).alloc (.cells #[.int .i64 25, .int .i64 60, .int .i64 50, .int .i64 90] 77)).alloc (.cells #[.string calmN, .slice (some ⟨w.heap.size, 0, none⟩) 2 2, .string stormN, .slice (some ⟨w.heap.size + 1, 0, none⟩) 2 2] 107)) (.slice (some ⟨w.heap.size, 0, none⟩) 2 2) ([⟨10, 30⟩, ⟨20, 40⟩] : List Rng) := by
  refine SL.bx (S := Old w) (l := ([⟨10, 30⟩, ⟨20, 40⟩] : List Rng)) (((Bx.new w [.int .i64 10, .int .i64 30, .int .i64 20, .int .i64 40] 77).alloc _).alloc _) (by unfold Old; omega) 2 (by decide) (by decide) fun i hi => ?_
  match i, hi with
  | 0, _ => rfl
  | 1, _ => rfl
 have h2 : SL (Old w) (((w.alloc (.cells #[.int .i64 10, .int .i64 30, .int .i64 20, .int .i64 40] 77)).alloc (.cells #[.int .i64 25, .int .i64 60, .int .i64 50, .int .i64 90] 77)).alloc (.cells #[.string calmN, .slice (some ⟨w.heap.size, 0, none⟩) 2 2, .string stormN, .slice (some ⟨w.heap.size + 1, 0, none⟩) 2 2] 107)) (.slice (some ⟨w.heap.size + 1, 0, none⟩) 2 2) ([⟨25, 60⟩, ⟨50, 90⟩] : List Rng) := by
  refine SL.bx (S := Old w) (l := ([⟨25, 60⟩, ⟨50, 90⟩] : List Rng)) ((Bx.new' _ [.int .i64 25, .int .i64 60, .int .i64 50, .int .i64 90] 77 _ (by simp)).alloc _) (by unfold Old; omega) 2 (by decide) (by decide) fun i hi => ?_
  match i, hi with
  | 0, _ => rfl
  | 1, _ => rfl
 refine SL.bx (S := Old w) (l := toldF) (Bx.new' _ [.string calmN, .slice (some ⟨w.heap.size, 0, none⟩) 2 2, .string stormN, .slice (some ⟨w.heap.size + 1, 0, none⟩) 2 2] 107 _ (by simp)) (by unfold Old; omega) 2 (by decide) (by decide) fun i hi => ?_
 match i, hi with
 | 0, _ => exact ⟨_, rfl, h1, told_sz.1⟩
 | 1, _ => exact ⟨_, rfl, h2, told_sz.2⟩
theorem names_p1 : planR fieldS [30, 60, 1000] [20, 70] ((0 : Nat) : Int) 5 = some ⟨[10, 40, -1], 10, 5⟩ ∧ (PlanS.mk [10, 40, -1] 10 5).begin_ = [10, 40, -1] ∧ (PlanS.mk [10, 40, -1] 10 5).call = 5 := ⟨by rfl, rfl, rfl⟩
theorem names_p2 : planR fieldS [30, 60, 1000] [20, 70] ((0 : Nat) : Int) 12 = none := by rfl
theorem names_p3 : planR fieldS [30, 60, 1000] [20, 70] ((1 : Nat) : Int) 12 = some ⟨[-1, 40, -1], 40, -1⟩ ∧ (PlanS.mk [-1, 40, -1] 40 (-1)).begin_ = [-1, 40, -1] ∧ (PlanS.mk [-1, 40, -1] 40 (-1)).call = -1 := ⟨by rfl, rfl, rfl⟩
theorem sl0n {α : Type} [Rep α] {S : Nat → Prop} {w : World} {v : Value} {l : List α} (h : SL S w v l) : SL (fun _ => False) w v l := h.weak fun _ _ h => h.elim
theorem av0n {α : Type} [Rep α] {S : Nat → Prop} {w : World} {v : Value} {x : α} (h : AV S w v x) : AV (fun _ => False) w v x := by
 obtain ⟨cs, e, hr⟩ := h
 exact ⟨cs, e, Rep.weak (fun _ _ h => h.elim) hr⟩
theorem GaleNames_any (w : World) : Calls Tryz.prog 5 #[] w fun e w' => e = .returned (.bool true) ∧ Step w w' := by
 have HT := zH (Step.refl w)
 go_enter Tryz.func5, Tryz.ntmps5
 go_wp2_with fail
 refine (told_any _).mono ?_
 rintro e wn ⟨v1, rfl, hv1, hSn⟩
 have X0 := zH (sl0n hv1)
 obtain ⟨p1, c1, rfl⟩ := hv1.form
 clear hv1
 have HSN := zH hSn
 have HTn := zH (HT.out.trans hSn)
 clear HT hSn
 have HT := HTn
 clear HTn
 try (have X1 := zH (H1.out.keep (.of_step HSN.out)); clear H1; have H1 := X1; clear X1)
 try (have X1 := zH (H2.out.keep (.of_step HSN.out)); clear H2; have H2 := X1; clear X1)
 try (have X1 := zH (H3.out.keep (.of_step HSN.out)); clear H3; have H3 := X1; clear X1)
 try (have X1 := zH (H4.out.keep (.of_step HSN.out)); clear H4; have H4 := X1; clear X1)
 try (have X1 := zH (H5.out.keep (.of_step HSN.out)); clear H5; have H5 := X1; clear X1)
 try (have X1 := zH (H6.out.keep (.of_step HSN.out)); clear H6; have H6 := X1; clear X1)
 try (have X1 := zH (H7.out.keep (.of_step HSN.out)); clear H7; have H7 := X1; clear X1)
 try (have X1 := zH (H8.out.keep (.of_step HSN.out)); clear H8; have H8 := X1; clear X1)
 try (have X1 := zH (H9.out.keep (.of_step HSN.out)); clear H9; have H9 := X1; clear X1)
 clear HSN
 have H1 := X0
 clear X0
 go_wp2_with fail
 refine (Strikes_any (fun _ => False) toldF [⟨0, 20, 24⟩] _ _ _ (H1.out.keep (.of_step (Step.alloc _ _))) (SL.bx (S := fun _ => False) (l := ([⟨0, 20, 24⟩] : List Rdg)) (Bx.new wn [.int .i64 0, .int .i64 20, .int .i64 24] 79) id 1 (by decide) (by decide) fun i hi => by match i, hi with | 0, _ => rfl)).mono ?_
 rintro e wm ⟨v2, v3, rfl, hok, -, hSn0⟩
 obtain ⟨ha, hb⟩ := hok told_left.1
 rw [told_strikes.1] at ha
 rw [told_strikes.2] at hb
 rw [told_left.1]
 obtain ⟨p2, c2, rfl⟩ := ha.form
 obtain ⟨p3, c3, rfl⟩ := hb.form
 have X2 := zH (sl0n ha)
 have X3 := zH (sl0n hb)
 have hSn := (Step.alloc wn (.cells #[.int .i64 0, .int .i64 20, .int .i64 24] 79)).trans hSn0
 clear ha hb hok hSn0
 have HSN := zH hSn
 have HTn := zH (HT.out.trans hSn)
 clear HT hSn
 have HT := HTn
 clear HTn
 try (have X1 := zH (H1.out.keep (.of_step HSN.out)); clear H1; have H1 := X1; clear X1)
 try (have X1 := zH (H2.out.keep (.of_step HSN.out)); clear H2; have H2 := X1; clear X1)
 try (have X1 := zH (H3.out.keep (.of_step HSN.out)); clear H3; have H3 := X1; clear X1)
 try (have X1 := zH (H4.out.keep (.of_step HSN.out)); clear H4; have H4 := X1; clear X1)
 try (have X1 := zH (H5.out.keep (.of_step HSN.out)); clear H5; have H5 := X1; clear X1)
 try (have X1 := zH (H6.out.keep (.of_step HSN.out)); clear H6; have H6 := X1; clear X1)
 try (have X1 := zH (H7.out.keep (.of_step HSN.out)); clear H7; have H7 := X1; clear X1)
 try (have X1 := zH (H8.out.keep (.of_step HSN.out)); clear H8; have H8 := X1; clear X1)
 try (have X1 := zH (H9.out.keep (.of_step HSN.out)); clear H9; have H9 := X1; clear X1)
 clear HSN
 have H2 := X2
 have H3 := X3
 clear X2 X3 H1
 go_wp2_with fail
 refine (told_any _).mono ?_
 rintro e wn ⟨v1, rfl, hv1, hSn⟩
 have X0 := zH (sl0n hv1)
 obtain ⟨p1, c1, rfl⟩ := hv1.form
 clear hv1
 have HSN := zH hSn
 have HTn := zH (HT.out.trans hSn)
 clear HT hSn
 have HT := HTn
 clear HTn
 try (have X1 := zH (H1.out.keep (.of_step HSN.out)); clear H1; have H1 := X1; clear X1)
 try (have X1 := zH (H2.out.keep (.of_step HSN.out)); clear H2; have H2 := X1; clear X1)
 try (have X1 := zH (H3.out.keep (.of_step HSN.out)); clear H3; have H3 := X1; clear X1)
 try (have X1 := zH (H4.out.keep (.of_step HSN.out)); clear H4; have H4 := X1; clear X1)
 try (have X1 := zH (H5.out.keep (.of_step HSN.out)); clear H5; have H5 := X1; clear X1)
 try (have X1 := zH (H6.out.keep (.of_step HSN.out)); clear H6; have H6 := X1; clear X1)
 try (have X1 := zH (H7.out.keep (.of_step HSN.out)); clear H7; have H7 := X1; clear X1)
 try (have X1 := zH (H8.out.keep (.of_step HSN.out)); clear H8; have H8 := X1; clear X1)
 try (have X1 := zH (H9.out.keep (.of_step HSN.out)); clear H9; have H9 := X1; clear X1)
 clear HSN
 have H1 := X0
 clear X0
 go_wp2_with fail
 refine (Worst_any (fun _ => False) toldF [] _ _ _ H1.out (SL.nil _ _)).mono ?_
 rintro e wm ⟨v4, rfl, hv, hSn⟩
 rw [told_all.1]
 rw [told_all.2] at hv
 obtain ⟨p4, c4, rfl⟩ := hv.form
 have X4 := zH (sl0n hv)
 clear hv
 have HSN := zH hSn
 have HTn := zH (HT.out.trans hSn)
 clear HT hSn
 have HT := HTn
 clear HTn
 try (have X1 := zH (H1.out.keep (.of_step HSN.out)); clear H1; have H1 := X1; clear X1)
 try (have X1 := zH (H2.out.keep (.of_step HSN.out)); clear H2; have H2 := X1; clear X1)
 try (have X1 := zH (H3.out.keep (.of_step HSN.out)); clear H3; have H3 := X1; clear X1)
 try (have X1 := zH (H4.out.keep (.of_step HSN.out)); clear H4; have H4 := X1; clear X1)
 try (have X1 := zH (H5.out.keep (.of_step HSN.out)); clear H5; have H5 := X1; clear X1)
 try (have X1 := zH (H6.out.keep (.of_step HSN.out)); clear H6; have H6 := X1; clear X1)
 try (have X1 := zH (H7.out.keep (.of_step HSN.out)); clear H7; have H7 := X1; clear X1)
 try (have X1 := zH (H8.out.keep (.of_step HSN.out)); clear H8; have H8 := X1; clear X1)
 try (have X1 := zH (H9.out.keep (.of_step HSN.out)); clear H9; have H9 := X1; clear X1)
 clear HSN
 have H4 := X4
 clear X4 H1
 go_upto_region 4 with (fail)
 obtain ⟨wa, hwa⟩ : ∃ W, W = wm.alloc (.cells #[.int .i64 0, .int .i64 1000, .int .i64 800, .bool true, .int .i64 0, .int .i64 500, .int .i64 600, .bool false] 83) := ⟨_, rfl⟩
 rw [← hwa]
 have hSn : Step wm wa := by subst hwa; exact Step.alloc _ _
 have X5 := zH (show SL (fun _ => False) wa (.slice (some ⟨wm.heap.size, 0, none⟩) 2 2) testsT by
  subst hwa
  exact SL.bx (S := fun _ => False) (l := testsT) (Bx.new wm [.int .i64 0, .int .i64 1000, .int .i64 800, .bool true, .int .i64 0, .int .i64 500, .int .i64 600, .bool false] 83) id 2 (by decide) (by decide) fun i hi => by match i, hi with | 0, _ => rfl | 1, _ => rfl)
 clear hwa
 have HSN := zH hSn
 have HTn := zH (HT.out.trans hSn)
 clear HT hSn
 have HT := HTn
 clear HTn
 try (have X1 := zH (H1.out.keep (.of_step HSN.out)); clear H1; have H1 := X1; clear X1)
 try (have X1 := zH (H2.out.keep (.of_step HSN.out)); clear H2; have H2 := X1; clear X1)
 try (have X1 := zH (H3.out.keep (.of_step HSN.out)); clear H3; have H3 := X1; clear X1)
 try (have X1 := zH (H4.out.keep (.of_step HSN.out)); clear H4; have H4 := X1; clear X1)
 try (have X1 := zH (H5.out.keep (.of_step HSN.out)); clear H5; have H5 := X1; clear X1)
 try (have X1 := zH (H6.out.keep (.of_step HSN.out)); clear H6; have H6 := X1; clear X1)
 try (have X1 := zH (H7.out.keep (.of_step HSN.out)); clear H7; have H7 := X1; clear X1)
 try (have X1 := zH (H8.out.keep (.of_step HSN.out)); clear H8; have H8 := X1; clear X1)
 try (have X1 := zH (H9.out.keep (.of_step HSN.out)); clear H9; have H9 := X1; clear X1)
 clear HSN
 have H5 := X5
 clear X5
 go_upto_region 5 with (fail)
 obtain ⟨wb, hwb⟩ : ∃ W, W = (wa.alloc (.cells #[.int .i64 1000, .int .i64 0, .int .i64 600, .int .i64 0, .int .i64 700, .int .i64 0, .int .i64 1000, .int .i64 600, .int .i64 0, .int .i64 700, .int .i64 (-1000), .int .i64 0, .int .i64 600, .int .i64 0, .int .i64 700, .int .i64 0, .int .i64 (-1000), .int .i64 600, .int .i64 0, .int .i64 700] 85)).alloc (.cells #[.int .i64 100, .int .i64 2000, .slice (some ⟨wa.heap.size, 0, none⟩) 4 4] 88) := ⟨_, rfl⟩
 rw [← hwb]
 have hSn : Step wa wb := by subst hwb; exact (Step.alloc _ _).trans (Step.alloc _ _)
 have X6 := zH (show SL (fun _ => False) wb (.slice (some ⟨wa.heap.size + 1, 0, none⟩) 1 1) tentT by
  have hb1 : Bx wb wa.heap.size [.int .i64 1000, .int .i64 0, .int .i64 600, .int .i64 0, .int .i64 700, .int .i64 0, .int .i64 1000, .int .i64 600, .int .i64 0, .int .i64 700, .int .i64 (-1000), .int .i64 0, .int .i64 600, .int .i64 0, .int .i64 700, .int .i64 0, .int .i64 (-1000), .int .i64 600, .int .i64 0, .int .i64 700] 85 := by
   subst hwb; exact (Bx.new wa [_, _, _, _, _, _, _, _, _, _, _, _, _, _, _, _, _, _, _, _] _).alloc _
  have hb2 : Bx wb (wa.heap.size + 1) [.int .i64 100, .int .i64 2000, .slice (some ⟨wa.heap.size, 0, none⟩) 4 4] 88 := by
   subst hwb; exact Bx.new' _ [_, _, _] _ _ (by simp)
  have hg : SL (fun _ => False) wb (.slice (some ⟨wa.heap.size, 0, none⟩) 4 4) ([⟨1000, 0, 600, 0, 700⟩, ⟨0, 1000, 600, 0, 700⟩, ⟨-1000, 0, 600, 0, 700⟩, ⟨0, -1000, 600, 0, 700⟩] : List Guy) :=
   SL.bx (S := fun _ => False) (l := ([⟨1000, 0, 600, 0, 700⟩, ⟨0, 1000, 600, 0, 700⟩, ⟨-1000, 0, 600, 0, 700⟩, ⟨0, -1000, 600, 0, 700⟩] : List Guy)) hb1 id 4 (by decide) (by decide) fun i hi => by match i, hi with | 0, _ => rfl | 1, _ => rfl | 2, _ => rfl | 3, _ => rfl
  exact SL.bx (S := fun _ => False) (l := tentT) hb2 id 1 (by decide) (by decide) fun i hi => by match i, hi with | 0, _ => exact ⟨_, rfl, hg⟩)
 clear hwb
 have HSN := zH hSn
 have HTn := zH (HT.out.trans hSn)
 clear HT hSn
 have HT := HTn
 clear HTn
 try (have X1 := zH (H1.out.keep (.of_step HSN.out)); clear H1; have H1 := X1; clear X1)
 try (have X1 := zH (H2.out.keep (.of_step HSN.out)); clear H2; have H2 := X1; clear X1)
 try (have X1 := zH (H3.out.keep (.of_step HSN.out)); clear H3; have H3 := X1; clear X1)
 try (have X1 := zH (H4.out.keep (.of_step HSN.out)); clear H4; have H4 := X1; clear X1)
 try (have X1 := zH (H5.out.keep (.of_step HSN.out)); clear H5; have H5 := X1; clear X1)
 try (have X1 := zH (H6.out.keep (.of_step HSN.out)); clear H6; have H6 := X1; clear X1)
 try (have X1 := zH (H7.out.keep (.of_step HSN.out)); clear H7; have H7 := X1; clear X1)
 try (have X1 := zH (H8.out.keep (.of_step HSN.out)); clear H8; have H8 := X1; clear X1)
 try (have X1 := zH (H9.out.keep (.of_step HSN.out)); clear H9; have H9 := X1; clear X1)
 clear HSN
 have H6 := X6
 clear X6
 go_wp2_with fail
 refine (field_any _).mono ?_
 rintro e wc ⟨vf, rfl, hvf, hSn⟩
 have HFA := zH (av0n hvf)
 clear hvf
 have HSN := zH hSn
 have HTn := zH (HT.out.trans hSn)
 clear HT hSn
 have HT := HTn
 clear HTn
 try (have X1 := zH (H1.out.keep (.of_step HSN.out)); clear H1; have H1 := X1; clear X1)
 try (have X1 := zH (H2.out.keep (.of_step HSN.out)); clear H2; have H2 := X1; clear X1)
 try (have X1 := zH (H3.out.keep (.of_step HSN.out)); clear H3; have H3 := X1; clear X1)
 try (have X1 := zH (H4.out.keep (.of_step HSN.out)); clear H4; have H4 := X1; clear X1)
 try (have X1 := zH (H5.out.keep (.of_step HSN.out)); clear H5; have H5 := X1; clear X1)
 try (have X1 := zH (H6.out.keep (.of_step HSN.out)); clear H6; have H6 := X1; clear X1)
 try (have X1 := zH (H7.out.keep (.of_step HSN.out)); clear H7; have H7 := X1; clear X1)
 try (have X1 := zH (H8.out.keep (.of_step HSN.out)); clear H8; have H8 := X1; clear X1)
 try (have X1 := zH (H9.out.keep (.of_step HSN.out)); clear H9; have H9 := X1; clear X1)
 clear HSN
 go_wp2_with fail
 refine (Limits_any fieldS testsT tentT _ _ _ _ H5.out H6.out HFA.out field_ok names_ok.1 names_ok.2.1).mono ?_
 rintro e wm ⟨v7, rfl, hok, hSn⟩
 have hv := hok names_ok.2.2
 rw [names_limits] at hv
 rw [names_ok.2.2]
 obtain ⟨p7, c7, rfl⟩ := hv.form
 have X7 := zH (sl0n hv)
 clear hv hok HFA
 have HSN := zH hSn
 have HTn := zH (HT.out.trans hSn)
 clear HT hSn
 have HT := HTn
 clear HTn
 try (have X1 := zH (H1.out.keep (.of_step HSN.out)); clear H1; have H1 := X1; clear X1)
 try (have X1 := zH (H2.out.keep (.of_step HSN.out)); clear H2; have H2 := X1; clear X1)
 try (have X1 := zH (H3.out.keep (.of_step HSN.out)); clear H3; have H3 := X1; clear X1)
 try (have X1 := zH (H4.out.keep (.of_step HSN.out)); clear H4; have H4 := X1; clear X1)
 try (have X1 := zH (H5.out.keep (.of_step HSN.out)); clear H5; have H5 := X1; clear X1)
 try (have X1 := zH (H6.out.keep (.of_step HSN.out)); clear H6; have H6 := X1; clear X1)
 try (have X1 := zH (H7.out.keep (.of_step HSN.out)); clear H7; have H7 := X1; clear X1)
 try (have X1 := zH (H8.out.keep (.of_step HSN.out)); clear H8; have H8 := X1; clear X1)
 try (have X1 := zH (H9.out.keep (.of_step HSN.out)); clear H9; have H9 := X1; clear X1)
 clear HSN
 have H7 := X7
 clear X7 H5
 go_wp2_with fail
 refine (field_any _).mono ?_
 rintro e wc ⟨vf, rfl, hvf, hSn⟩
 have HFA := zH (av0n hvf)
 clear hvf
 have HSN := zH hSn
 have HTn := zH (HT.out.trans hSn)
 clear HT hSn
 have HT := HTn
 clear HTn
 try (have X1 := zH (H1.out.keep (.of_step HSN.out)); clear H1; have H1 := X1; clear X1)
 try (have X1 := zH (H2.out.keep (.of_step HSN.out)); clear H2; have H2 := X1; clear X1)
 try (have X1 := zH (H3.out.keep (.of_step HSN.out)); clear H3; have H3 := X1; clear X1)
 try (have X1 := zH (H4.out.keep (.of_step HSN.out)); clear H4; have H4 := X1; clear X1)
 try (have X1 := zH (H5.out.keep (.of_step HSN.out)); clear H5; have H5 := X1; clear X1)
 try (have X1 := zH (H6.out.keep (.of_step HSN.out)); clear H6; have H6 := X1; clear X1)
 try (have X1 := zH (H7.out.keep (.of_step HSN.out)); clear H7; have H7 := X1; clear X1)
 try (have X1 := zH (H8.out.keep (.of_step HSN.out)); clear H8; have H8 := X1; clear X1)
 try (have X1 := zH (H9.out.keep (.of_step HSN.out)); clear H9; have H9 := X1; clear X1)
 clear HSN
 go_wp2_with fail
 refine (Reefed_any fieldS tentT 1 _ _ _ H6.out HFA.out field_ok names_ok.2.1 (by decide)).mono ?_
 rintro e wm ⟨v8, rfl, hv, hSn⟩
 rw [show fieldS.stages[1].cover = 50 from rfl, names_reef] at hv
 obtain ⟨p8, c8, rfl⟩ := hv.form
 have X8 := zH (sl0n hv)
 clear hv HFA
 have HSN := zH hSn
 have HTn := zH (HT.out.trans hSn)
 clear HT hSn
 have HT := HTn
 clear HTn
 try (have X1 := zH (H1.out.keep (.of_step HSN.out)); clear H1; have H1 := X1; clear X1)
 try (have X1 := zH (H2.out.keep (.of_step HSN.out)); clear H2; have H2 := X1; clear X1)
 try (have X1 := zH (H3.out.keep (.of_step HSN.out)); clear H3; have H3 := X1; clear X1)
 try (have X1 := zH (H4.out.keep (.of_step HSN.out)); clear H4; have H4 := X1; clear X1)
 try (have X1 := zH (H5.out.keep (.of_step HSN.out)); clear H5; have H5 := X1; clear X1)
 try (have X1 := zH (H6.out.keep (.of_step HSN.out)); clear H6; have H6 := X1; clear X1)
 try (have X1 := zH (H7.out.keep (.of_step HSN.out)); clear H7; have H7 := X1; clear X1)
 try (have X1 := zH (H8.out.keep (.of_step HSN.out)); clear H8; have H8 := X1; clear X1)
 try (have X1 := zH (H9.out.keep (.of_step HSN.out)); clear H9; have H9 := X1; clear X1)
 clear HSN
 have H8 := X8
 clear X8 H6
 go_wp2_with fail
 have hi1 := gints_any (fun _ => False) [0] [0] (.slice p2 ([0] : List Int).length c2) (.slice (some ⟨wm.heap.size, 0, none⟩) 1 1) (wm.alloc (.cells #[.int .i64 0] 3)) (H2.out.keep (.of_step (Step.alloc _ _))) (SLT.bx_ints (S := fun _ => False) (l := [0]) (Bx.new wm (([0] : List Int).map (Value.int .i64)) 3) id 1 (by decide) (by simp)).1
 rw [show intsB [0] [0] = true by decide] at hi1
 refine hi1.mono ?_
 clear hi1
 rintro e wn ⟨rfl, hSn0⟩
 have hSn := (Step.alloc wm (.cells #[.int .i64 0] 3)).trans hSn0
 clear hSn0
 have HSN := zH hSn
 have HTn := zH (HT.out.trans hSn)
 clear HT hSn
 have HT := HTn
 clear HTn
 try (have X1 := zH (H1.out.keep (.of_step HSN.out)); clear H1; have H1 := X1; clear X1)
 try (have X1 := zH (H2.out.keep (.of_step HSN.out)); clear H2; have H2 := X1; clear X1)
 try (have X1 := zH (H3.out.keep (.of_step HSN.out)); clear H3; have H3 := X1; clear X1)
 try (have X1 := zH (H4.out.keep (.of_step HSN.out)); clear H4; have H4 := X1; clear X1)
 try (have X1 := zH (H5.out.keep (.of_step HSN.out)); clear H5; have H5 := X1; clear X1)
 try (have X1 := zH (H6.out.keep (.of_step HSN.out)); clear H6; have H6 := X1; clear X1)
 try (have X1 := zH (H7.out.keep (.of_step HSN.out)); clear H7; have H7 := X1; clear X1)
 try (have X1 := zH (H8.out.keep (.of_step HSN.out)); clear H8; have H8 := X1; clear X1)
 try (have X1 := zH (H9.out.keep (.of_step HSN.out)); clear H9; have H9 := X1; clear X1)
 clear HSN
 obtain ⟨wm, hwm⟩ : ∃ W, W = wn := ⟨_, rfl⟩
 subst hwm
 obtain ⟨q3, d3, b3, o3, he, _, _, hp3, hc3, _⟩ := H3.out.vecs
 injection he with he1 _ he3
 subst he1 he3
 obtain rfl := hp3 (by decide)
 obtain ⟨e3, f3⟩ := hc3 0 (by decide)
 simp only [List.getElem_cons_zero, Nat.zero_mul, Nat.add_zero] at e3 f3
 clear hp3 hc3
 go_wp2_with fail
 have hi1 := gints_any (fun _ => False) [60, 90] [60, 90] (.slice p4 ([60, 90] : List Int).length c4) (.slice (some ⟨wm.heap.size, 0, none⟩) 2 2) (wm.alloc (.cells #[.int .i64 60, .int .i64 90] 3)) (H4.out.keep (.of_step (Step.alloc _ _))) (SLT.bx_ints (S := fun _ => False) (l := [60, 90]) (Bx.new wm (([60, 90] : List Int).map (Value.int .i64)) 3) id 2 (by decide) (by simp)).1
 rw [show intsB [60, 90] [60, 90] = true by decide] at hi1
 refine hi1.mono ?_
 clear hi1
 rintro e wn ⟨rfl, hSn0⟩
 have hSn := (Step.alloc wm (.cells #[.int .i64 60, .int .i64 90] 3)).trans hSn0
 clear hSn0
 have HSN := zH hSn
 have HTn := zH (HT.out.trans hSn)
 clear HT hSn
 have HT := HTn
 clear HTn
 try (have X1 := zH (H1.out.keep (.of_step HSN.out)); clear H1; have H1 := X1; clear X1)
 try (have X1 := zH (H2.out.keep (.of_step HSN.out)); clear H2; have H2 := X1; clear X1)
 try (have X1 := zH (H3.out.keep (.of_step HSN.out)); clear H3; have H3 := X1; clear X1)
 try (have X1 := zH (H4.out.keep (.of_step HSN.out)); clear H4; have H4 := X1; clear X1)
 try (have X1 := zH (H5.out.keep (.of_step HSN.out)); clear H5; have H5 := X1; clear X1)
 try (have X1 := zH (H6.out.keep (.of_step HSN.out)); clear H6; have H6 := X1; clear X1)
 try (have X1 := zH (H7.out.keep (.of_step HSN.out)); clear H7; have H7 := X1; clear X1)
 try (have X1 := zH (H8.out.keep (.of_step HSN.out)); clear H8; have H8 := X1; clear X1)
 try (have X1 := zH (H9.out.keep (.of_step HSN.out)); clear H9; have H9 := X1; clear X1)
 clear HSN
 obtain ⟨wm, hwm⟩ : ∃ W, W = wn := ⟨_, rfl⟩
 subst hwm
 clear e3 f3
 go_wp2_with fail
 have hi1 := gints_any (fun _ => False) [30, 90, 1000] [30, 90, 1000] (.slice p7 ([30, 90, 1000] : List Int).length c7) (.slice (some ⟨wm.heap.size, 0, none⟩) 3 3) (wm.alloc (.cells #[.int .i64 30, .int .i64 90, .int .i64 1000] 3)) (H7.out.keep (.of_step (Step.alloc _ _))) (SLT.bx_ints (S := fun _ => False) (l := [30, 90, 1000]) (Bx.new wm (([30, 90, 1000] : List Int).map (Value.int .i64)) 3) id 3 (by decide) (by simp)).1
 rw [show intsB [30, 90, 1000] [30, 90, 1000] = true by decide] at hi1
 refine hi1.mono ?_
 clear hi1
 rintro e wn ⟨rfl, hSn0⟩
 have hSn := (Step.alloc wm (.cells #[.int .i64 30, .int .i64 90, .int .i64 1000] 3)).trans hSn0
 clear hSn0
 have HSN := zH hSn
 have HTn := zH (HT.out.trans hSn)
 clear HT hSn
 have HT := HTn
 clear HTn
 try (have X1 := zH (H1.out.keep (.of_step HSN.out)); clear H1; have H1 := X1; clear X1)
 try (have X1 := zH (H2.out.keep (.of_step HSN.out)); clear H2; have H2 := X1; clear X1)
 try (have X1 := zH (H3.out.keep (.of_step HSN.out)); clear H3; have H3 := X1; clear X1)
 try (have X1 := zH (H4.out.keep (.of_step HSN.out)); clear H4; have H4 := X1; clear X1)
 try (have X1 := zH (H5.out.keep (.of_step HSN.out)); clear H5; have H5 := X1; clear X1)
 try (have X1 := zH (H6.out.keep (.of_step HSN.out)); clear H6; have H6 := X1; clear X1)
 try (have X1 := zH (H7.out.keep (.of_step HSN.out)); clear H7; have H7 := X1; clear X1)
 try (have X1 := zH (H8.out.keep (.of_step HSN.out)); clear H8; have H8 := X1; clear X1)
 try (have X1 := zH (H9.out.keep (.of_step HSN.out)); clear H9; have H9 := X1; clear X1)
 clear HSN
 obtain ⟨wm, hwm⟩ : ∃ W, W = wn := ⟨_, rfl⟩
 subst hwm
 obtain ⟨q8, d8, b8, o8, he, _, _, hp8, hc8, _⟩ := H8.out.heads
 injection he with he1 _ he3
 subst he1 he3
 obtain rfl := hp8 (by decide)
 obtain ⟨_, e8, _⟩ := hc8 0 (by decide)
 simp only [List.getElem_cons_zero, Nat.zero_mul, Nat.add_zero] at e8
 clear hp8 hc8
 go_upto_region 9 with (fail)
 clear e8 H2 H3 H4 H7 H8
 go_wp2_with fail
 refine (field_any _).mono ?_
 rintro e wc ⟨vf, rfl, hvf, hSn⟩
 have HFA := zH (av0n hvf)
 clear hvf
 have HSN := zH hSn
 have HTn := zH (HT.out.trans hSn)
 clear HT hSn
 have HT := HTn
 clear HTn
 try (have X1 := zH (H1.out.keep (.of_step HSN.out)); clear H1; have H1 := X1; clear X1)
 try (have X1 := zH (H2.out.keep (.of_step HSN.out)); clear H2; have H2 := X1; clear X1)
 try (have X1 := zH (H3.out.keep (.of_step HSN.out)); clear H3; have H3 := X1; clear X1)
 try (have X1 := zH (H4.out.keep (.of_step HSN.out)); clear H4; have H4 := X1; clear X1)
 try (have X1 := zH (H5.out.keep (.of_step HSN.out)); clear H5; have H5 := X1; clear X1)
 try (have X1 := zH (H6.out.keep (.of_step HSN.out)); clear H6; have H6 := X1; clear X1)
 try (have X1 := zH (H7.out.keep (.of_step HSN.out)); clear H7; have H7 := X1; clear X1)
 try (have X1 := zH (H8.out.keep (.of_step HSN.out)); clear H8; have H8 := X1; clear X1)
 try (have X1 := zH (H9.out.keep (.of_step HSN.out)); clear H9; have H9 := X1; clear X1)
 clear HSN
 go_wp2_with fail
 obtain ⟨wd, hwd⟩ : ∃ W, W = (wc.alloc (.cells #[.int .i64 30, .int .i64 60, .int .i64 1000] 3)).alloc (.cells #[.int .i64 20, .int .i64 70] 3) := ⟨_, rfl⟩
 have hSn : Step wc wd := by subst hwd; exact (Step.alloc _ _).trans (Step.alloc _ _)
 have hl1 : SL (fun _ => False) wd (.slice (some ⟨wc.heap.size, 0, none⟩) 3 3) ([30, 60, 1000] : List Int) := by
  subst hwd; exact (SLT.bx_ints (S := fun _ => False) (l := [30, 60, 1000]) ((Bx.new wc (([30, 60, 1000] : List Int).map (Value.int .i64)) 3).alloc _) id 3 (by decide) (by simp)).1
 have hl2 : SL (fun _ => False) wd (.slice (some ⟨wc.heap.size + 1, 0, none⟩) 2 2) ([20, 70] : List Int) := by
  subst hwd; exact (SLT.bx_ints (S := fun _ => False) (l := [20, 70]) (Bx.new' (wc.alloc (.cells #[.int .i64 30, .int .i64 60, .int .i64 1000] 3)) (([20, 70] : List Int).map (Value.int .i64)) 3 (wc.heap.size + 1) (by simp)) id 2 (by decide) (by simp)).1
 have hcall := zH (Plan_ok fieldS [30, 60, 1000] [20, 70] 0 5 _ _ _ _ (AV.go HFA.out hSn) hl1 hl2 field_ok names_lim2.1 names_lim2.2 (by decide) (by decide))
 have HSN := zH hSn
 have HTn := zH (HT.out.trans hSn)
 clear HT hSn
 have HT := HTn
 clear HTn
 try (have X1 := zH (H1.out.keep (.of_step HSN.out)); clear H1; have H1 := X1; clear X1)
 try (have X1 := zH (H2.out.keep (.of_step HSN.out)); clear H2; have H2 := X1; clear X1)
 try (have X1 := zH (H3.out.keep (.of_step HSN.out)); clear H3; have H3 := X1; clear X1)
 try (have X1 := zH (H4.out.keep (.of_step HSN.out)); clear H4; have H4 := X1; clear X1)
 try (have X1 := zH (H5.out.keep (.of_step HSN.out)); clear H5; have H5 := X1; clear X1)
 try (have X1 := zH (H6.out.keep (.of_step HSN.out)); clear H6; have H6 := X1; clear X1)
 try (have X1 := zH (H7.out.keep (.of_step HSN.out)); clear H7; have H7 := X1; clear X1)
 try (have X1 := zH (H8.out.keep (.of_step HSN.out)); clear H8; have H8 := X1; clear X1)
 try (have X1 := zH (H9.out.keep (.of_step HSN.out)); clear H9; have H9 := X1; clear X1)
 clear HSN
 clear hl1 hl2 HFA
 rw [← hwd]
 clear hwd
 refine hcall.out.mono ?_
 clear hcall
 rintro e wm ⟨hpl, hSn⟩
 rcases hpl with ⟨h1, rfl⟩ | ⟨st, v5, h1, rfl, hv5⟩
 ·exact absurd ((names_p1).1.symm.trans h1) (by simp)
 obtain rfl := Option.some.inj ((names_p1).1.symm.trans h1)
 rw [(names_p1).2.2]
 rw [(names_p1).2.1] at hv5
 obtain ⟨pH1, cH1, rfl⟩ := hv5.form
 have X5 := zH (sl0n hv5)
 clear hv5 h1
 have HSN := zH hSn
 have HTn := zH (HT.out.trans hSn)
 clear HT hSn
 have HT := HTn
 clear HTn
 try (have X1 := zH (H1.out.keep (.of_step HSN.out)); clear H1; have H1 := X1; clear X1)
 try (have X1 := zH (H2.out.keep (.of_step HSN.out)); clear H2; have H2 := X1; clear X1)
 try (have X1 := zH (H3.out.keep (.of_step HSN.out)); clear H3; have H3 := X1; clear X1)
 try (have X1 := zH (H4.out.keep (.of_step HSN.out)); clear H4; have H4 := X1; clear X1)
 try (have X1 := zH (H5.out.keep (.of_step HSN.out)); clear H5; have H5 := X1; clear X1)
 try (have X1 := zH (H6.out.keep (.of_step HSN.out)); clear H6; have H6 := X1; clear X1)
 try (have X1 := zH (H7.out.keep (.of_step HSN.out)); clear H7; have H7 := X1; clear X1)
 try (have X1 := zH (H8.out.keep (.of_step HSN.out)); clear H8; have H8 := X1; clear X1)
 try (have X1 := zH (H9.out.keep (.of_step HSN.out)); clear H9; have H9 := X1; clear X1)
 clear HSN
 have H1 := X5
 clear X5
 go_wp2_with fail
 refine (field_any _).mono ?_
 rintro e wc ⟨vf, rfl, hvf, hSn⟩
 have HFA := zH (av0n hvf)
 clear hvf
 have HSN := zH hSn
 have HTn := zH (HT.out.trans hSn)
 clear HT hSn
 have HT := HTn
 clear HTn
 try (have X1 := zH (H1.out.keep (.of_step HSN.out)); clear H1; have H1 := X1; clear X1)
 try (have X1 := zH (H2.out.keep (.of_step HSN.out)); clear H2; have H2 := X1; clear X1)
 try (have X1 := zH (H3.out.keep (.of_step HSN.out)); clear H3; have H3 := X1; clear X1)
 try (have X1 := zH (H4.out.keep (.of_step HSN.out)); clear H4; have H4 := X1; clear X1)
 try (have X1 := zH (H5.out.keep (.of_step HSN.out)); clear H5; have H5 := X1; clear X1)
 try (have X1 := zH (H6.out.keep (.of_step HSN.out)); clear H6; have H6 := X1; clear X1)
 try (have X1 := zH (H7.out.keep (.of_step HSN.out)); clear H7; have H7 := X1; clear X1)
 try (have X1 := zH (H8.out.keep (.of_step HSN.out)); clear H8; have H8 := X1; clear X1)
 try (have X1 := zH (H9.out.keep (.of_step HSN.out)); clear H9; have H9 := X1; clear X1)
 clear HSN
 go_wp2_with fail
 obtain ⟨wd, hwd⟩ : ∃ W, W = (wc.alloc (.cells #[.int .i64 30, .int .i64 60, .int .i64 1000] 3)).alloc (.cells #[.int .i64 20, .int .i64 70] 3) := ⟨_, rfl⟩
 have hSn : Step wc wd := by subst hwd; exact (Step.alloc _ _).trans (Step.alloc _ _)
 have hl1 : SL (fun _ => False) wd (.slice (some ⟨wc.heap.size, 0, none⟩) 3 3) ([30, 60, 1000] : List Int) := by
  subst hwd; exact (SLT.bx_ints (S := fun _ => False) (l := [30, 60, 1000]) ((Bx.new wc (([30, 60, 1000] : List Int).map (Value.int .i64)) 3).alloc _) id 3 (by decide) (by simp)).1
 have hl2 : SL (fun _ => False) wd (.slice (some ⟨wc.heap.size + 1, 0, none⟩) 2 2) ([20, 70] : List Int) := by
  subst hwd; exact (SLT.bx_ints (S := fun _ => False) (l := [20, 70]) (Bx.new' (wc.alloc (.cells #[.int .i64 30, .int .i64 60, .int .i64 1000] 3)) (([20, 70] : List Int).map (Value.int .i64)) 3 (wc.heap.size + 1) (by simp)) id 2 (by decide) (by simp)).1
 have hcall := zH (Plan_ok fieldS [30, 60, 1000] [20, 70] 0 12 _ _ _ _ (AV.go HFA.out hSn) hl1 hl2 field_ok names_lim2.1 names_lim2.2 (by decide) (by decide))
 have HSN := zH hSn
 have HTn := zH (HT.out.trans hSn)
 clear HT hSn
 have HT := HTn
 clear HTn
 try (have X1 := zH (H1.out.keep (.of_step HSN.out)); clear H1; have H1 := X1; clear X1)
 try (have X1 := zH (H2.out.keep (.of_step HSN.out)); clear H2; have H2 := X1; clear X1)
 try (have X1 := zH (H3.out.keep (.of_step HSN.out)); clear H3; have H3 := X1; clear X1)
 try (have X1 := zH (H4.out.keep (.of_step HSN.out)); clear H4; have H4 := X1; clear X1)
 try (have X1 := zH (H5.out.keep (.of_step HSN.out)); clear H5; have H5 := X1; clear X1)
 try (have X1 := zH (H6.out.keep (.of_step HSN.out)); clear H6; have H6 := X1; clear X1)
 try (have X1 := zH (H7.out.keep (.of_step HSN.out)); clear H7; have H7 := X1; clear X1)
 try (have X1 := zH (H8.out.keep (.of_step HSN.out)); clear H8; have H8 := X1; clear X1)
 try (have X1 := zH (H9.out.keep (.of_step HSN.out)); clear H9; have H9 := X1; clear X1)
 clear HSN
 clear hl1 hl2 HFA
 rw [← hwd]
 clear hwd
 refine hcall.out.mono ?_
 clear hcall
 rintro e wm ⟨hpl, hSn⟩
 rcases hpl with ⟨h1, rfl⟩ | ⟨st, v5, h1, rfl, hv5⟩
 rotate_left
 ·exact absurd (names_p2.symm.trans h1) (by simp)
 clear h1
 have HSN := zH hSn
 have HTn := zH (HT.out.trans hSn)
 clear HT hSn
 have HT := HTn
 clear HTn
 try (have X1 := zH (H1.out.keep (.of_step HSN.out)); clear H1; have H1 := X1; clear X1)
 try (have X1 := zH (H2.out.keep (.of_step HSN.out)); clear H2; have H2 := X1; clear X1)
 try (have X1 := zH (H3.out.keep (.of_step HSN.out)); clear H3; have H3 := X1; clear X1)
 try (have X1 := zH (H4.out.keep (.of_step HSN.out)); clear H4; have H4 := X1; clear X1)
 try (have X1 := zH (H5.out.keep (.of_step HSN.out)); clear H5; have H5 := X1; clear X1)
 try (have X1 := zH (H6.out.keep (.of_step HSN.out)); clear H6; have H6 := X1; clear X1)
 try (have X1 := zH (H7.out.keep (.of_step HSN.out)); clear H7; have H7 := X1; clear X1)
 try (have X1 := zH (H8.out.keep (.of_step HSN.out)); clear H8; have H8 := X1; clear X1)
 try (have X1 := zH (H9.out.keep (.of_step HSN.out)); clear H9; have H9 := X1; clear X1)
 clear HSN
 go_wp2_with fail
 refine (field_any _).mono ?_
 rintro e wc ⟨vf, rfl, hvf, hSn⟩
 have HFA := zH (av0n hvf)
 clear hvf
 have HSN := zH hSn
 have HTn := zH (HT.out.trans hSn)
 clear HT hSn
 have HT := HTn
 clear HTn
 try (have X1 := zH (H1.out.keep (.of_step HSN.out)); clear H1; have H1 := X1; clear X1)
 try (have X1 := zH (H2.out.keep (.of_step HSN.out)); clear H2; have H2 := X1; clear X1)
 try (have X1 := zH (H3.out.keep (.of_step HSN.out)); clear H3; have H3 := X1; clear X1)
 try (have X1 := zH (H4.out.keep (.of_step HSN.out)); clear H4; have H4 := X1; clear X1)
 try (have X1 := zH (H5.out.keep (.of_step HSN.out)); clear H5; have H5 := X1; clear X1)
 try (have X1 := zH (H6.out.keep (.of_step HSN.out)); clear H6; have H6 := X1; clear X1)
 try (have X1 := zH (H7.out.keep (.of_step HSN.out)); clear H7; have H7 := X1; clear X1)
 try (have X1 := zH (H8.out.keep (.of_step HSN.out)); clear H8; have H8 := X1; clear X1)
 try (have X1 := zH (H9.out.keep (.of_step HSN.out)); clear H9; have H9 := X1; clear X1)
 clear HSN
 go_wp2_with fail
 obtain ⟨wd, hwd⟩ : ∃ W, W = (wc.alloc (.cells #[.int .i64 30, .int .i64 60, .int .i64 1000] 3)).alloc (.cells #[.int .i64 20, .int .i64 70] 3) := ⟨_, rfl⟩
 have hSn : Step wc wd := by subst hwd; exact (Step.alloc _ _).trans (Step.alloc _ _)
 have hl1 : SL (fun _ => False) wd (.slice (some ⟨wc.heap.size, 0, none⟩) 3 3) ([30, 60, 1000] : List Int) := by
  subst hwd; exact (SLT.bx_ints (S := fun _ => False) (l := [30, 60, 1000]) ((Bx.new wc (([30, 60, 1000] : List Int).map (Value.int .i64)) 3).alloc _) id 3 (by decide) (by simp)).1
 have hl2 : SL (fun _ => False) wd (.slice (some ⟨wc.heap.size + 1, 0, none⟩) 2 2) ([20, 70] : List Int) := by
  subst hwd; exact (SLT.bx_ints (S := fun _ => False) (l := [20, 70]) (Bx.new' (wc.alloc (.cells #[.int .i64 30, .int .i64 60, .int .i64 1000] 3)) (([20, 70] : List Int).map (Value.int .i64)) 3 (wc.heap.size + 1) (by simp)) id 2 (by decide) (by simp)).1
 have hcall := zH (Plan_ok fieldS [30, 60, 1000] [20, 70] 1 12 _ _ _ _ (AV.go HFA.out hSn) hl1 hl2 field_ok names_lim2.1 names_lim2.2 (by decide) (by decide))
 have HSN := zH hSn
 have HTn := zH (HT.out.trans hSn)
 clear HT hSn
 have HT := HTn
 clear HTn
 try (have X1 := zH (H1.out.keep (.of_step HSN.out)); clear H1; have H1 := X1; clear X1)
 try (have X1 := zH (H2.out.keep (.of_step HSN.out)); clear H2; have H2 := X1; clear X1)
 try (have X1 := zH (H3.out.keep (.of_step HSN.out)); clear H3; have H3 := X1; clear X1)
 try (have X1 := zH (H4.out.keep (.of_step HSN.out)); clear H4; have H4 := X1; clear X1)
 try (have X1 := zH (H5.out.keep (.of_step HSN.out)); clear H5; have H5 := X1; clear X1)
 try (have X1 := zH (H6.out.keep (.of_step HSN.out)); clear H6; have H6 := X1; clear X1)
 try (have X1 := zH (H7.out.keep (.of_step HSN.out)); clear H7; have H7 := X1; clear X1)
 try (have X1 := zH (H8.out.keep (.of_step HSN.out)); clear H8; have H8 := X1; clear X1)
 try (have X1 := zH (H9.out.keep (.of_step HSN.out)); clear H9; have H9 := X1; clear X1)
 clear HSN
 clear hl1 hl2 HFA
 rw [← hwd]
 clear hwd
 refine hcall.out.mono ?_
 clear hcall
 rintro e wm ⟨hpl, hSn⟩
 rcases hpl with ⟨h1, rfl⟩ | ⟨st, v5, h1, rfl, hv5⟩
 ·exact absurd ((names_p3).1.symm.trans h1) (by simp)
 obtain rfl := Option.some.inj ((names_p3).1.symm.trans h1)
 rw [(names_p3).2.2]
 rw [(names_p3).2.1] at hv5
 obtain ⟨pH2, cH2, rfl⟩ := hv5.form
 have X5 := zH (sl0n hv5)
 clear hv5 h1
 have HSN := zH hSn
 have HTn := zH (HT.out.trans hSn)
 clear HT hSn
 have HT := HTn
 clear HTn
 try (have X1 := zH (H1.out.keep (.of_step HSN.out)); clear H1; have H1 := X1; clear X1)
 try (have X1 := zH (H2.out.keep (.of_step HSN.out)); clear H2; have H2 := X1; clear X1)
 try (have X1 := zH (H3.out.keep (.of_step HSN.out)); clear H3; have H3 := X1; clear X1)
 try (have X1 := zH (H4.out.keep (.of_step HSN.out)); clear H4; have H4 := X1; clear X1)
 try (have X1 := zH (H5.out.keep (.of_step HSN.out)); clear H5; have H5 := X1; clear X1)
 try (have X1 := zH (H6.out.keep (.of_step HSN.out)); clear H6; have H6 := X1; clear X1)
 try (have X1 := zH (H7.out.keep (.of_step HSN.out)); clear H7; have H7 := X1; clear X1)
 try (have X1 := zH (H8.out.keep (.of_step HSN.out)); clear H8; have H8 := X1; clear X1)
 try (have X1 := zH (H9.out.keep (.of_step HSN.out)); clear H9; have H9 := X1; clear X1)
 clear HSN
 have H2 := X5
 clear X5
 go_wp2_with fail
 have hi1 := gints_any (fun _ => False) [10, 40, -1] [10, 40, -1] _ (.slice (some ⟨wm.heap.size, 0, none⟩) 3 3) (wm.alloc (.cells #[.int .i64 10, .int .i64 40, .int .i64 (-1)] 3)) (H1.out.keep (.of_step (Step.alloc _ _))) (SLT.bx_ints (S := fun _ => False) (l := [10, 40, -1]) (Bx.new wm (([10, 40, -1] : List Int).map (Value.int .i64)) 3) id 3 (by decide) (by simp)).1
 rw [show intsB [10, 40, -1] [10, 40, -1] = true by decide] at hi1
 refine hi1.mono ?_
 clear hi1
 rintro e wn ⟨rfl, hSn0⟩
 have hSn := (Step.alloc wm (.cells #[.int .i64 10, .int .i64 40, .int .i64 (-1)] 3)).trans hSn0
 clear hSn0
 have HSN := zH hSn
 have HTn := zH (HT.out.trans hSn)
 clear HT hSn
 have HT := HTn
 clear HTn
 try (have X1 := zH (H1.out.keep (.of_step HSN.out)); clear H1; have H1 := X1; clear X1)
 try (have X1 := zH (H2.out.keep (.of_step HSN.out)); clear H2; have H2 := X1; clear X1)
 try (have X1 := zH (H3.out.keep (.of_step HSN.out)); clear H3; have H3 := X1; clear X1)
 try (have X1 := zH (H4.out.keep (.of_step HSN.out)); clear H4; have H4 := X1; clear X1)
 try (have X1 := zH (H5.out.keep (.of_step HSN.out)); clear H5; have H5 := X1; clear X1)
 try (have X1 := zH (H6.out.keep (.of_step HSN.out)); clear H6; have H6 := X1; clear X1)
 try (have X1 := zH (H7.out.keep (.of_step HSN.out)); clear H7; have H7 := X1; clear X1)
 try (have X1 := zH (H8.out.keep (.of_step HSN.out)); clear H8; have H8 := X1; clear X1)
 try (have X1 := zH (H9.out.keep (.of_step HSN.out)); clear H9; have H9 := X1; clear X1)
 clear HSN
 obtain ⟨wm, hwm⟩ : ∃ W, W = wn := ⟨_, rfl⟩
 subst hwm
 go_wp2_with fail
 have hi1 := gints_any (fun _ => False) [-1, 40, -1] [-1, 40, -1] _ (.slice (some ⟨wm.heap.size, 0, none⟩) 3 3) (wm.alloc (.cells #[.int .i64 (-1), .int .i64 40, .int .i64 (-1)] 3)) (H2.out.keep (.of_step (Step.alloc _ _))) (SLT.bx_ints (S := fun _ => False) (l := [-1, 40, -1]) (Bx.new wm (([-1, 40, -1] : List Int).map (Value.int .i64)) 3) id 3 (by decide) (by simp)).1
 rw [show intsB [-1, 40, -1] [-1, 40, -1] = true by decide] at hi1
 refine hi1.mono ?_
 clear hi1
 rintro e wn ⟨rfl, hSn0⟩
 have hSn := (Step.alloc wm (.cells #[.int .i64 (-1), .int .i64 40, .int .i64 (-1)] 3)).trans hSn0
 clear hSn0
 have HSN := zH hSn
 have HTn := zH (HT.out.trans hSn)
 clear HT hSn
 have HT := HTn
 clear HTn
 try (have X1 := zH (H1.out.keep (.of_step HSN.out)); clear H1; have H1 := X1; clear X1)
 try (have X1 := zH (H2.out.keep (.of_step HSN.out)); clear H2; have H2 := X1; clear X1)
 try (have X1 := zH (H3.out.keep (.of_step HSN.out)); clear H3; have H3 := X1; clear X1)
 try (have X1 := zH (H4.out.keep (.of_step HSN.out)); clear H4; have H4 := X1; clear X1)
 try (have X1 := zH (H5.out.keep (.of_step HSN.out)); clear H5; have H5 := X1; clear X1)
 try (have X1 := zH (H6.out.keep (.of_step HSN.out)); clear H6; have H6 := X1; clear X1)
 try (have X1 := zH (H7.out.keep (.of_step HSN.out)); clear H7; have H7 := X1; clear X1)
 try (have X1 := zH (H8.out.keep (.of_step HSN.out)); clear H8; have H8 := X1; clear X1)
 try (have X1 := zH (H9.out.keep (.of_step HSN.out)); clear H9; have H9 := X1; clear X1)
 clear HSN
 obtain ⟨wm, hwm⟩ : ∃ W, W = wn := ⟨_, rfl⟩
 subst hwm
 go_upto_region 14 with (fail)
 clear H1 H2
 go_wp2_with fail
 refine (ring_any _).mono ?_
 rintro e wc ⟨vf, rfl, hvf, hSn⟩
 have HFA := zH (av0n hvf)
 clear hvf
 have HSN := zH hSn
 have HTn := zH (HT.out.trans hSn)
 clear HT hSn
 have HT := HTn
 clear HTn
 try (have X1 := zH (H1.out.keep (.of_step HSN.out)); clear H1; have H1 := X1; clear X1)
 try (have X1 := zH (H2.out.keep (.of_step HSN.out)); clear H2; have H2 := X1; clear X1)
 try (have X1 := zH (H3.out.keep (.of_step HSN.out)); clear H3; have H3 := X1; clear X1)
 try (have X1 := zH (H4.out.keep (.of_step HSN.out)); clear H4; have H4 := X1; clear X1)
 try (have X1 := zH (H5.out.keep (.of_step HSN.out)); clear H5; have H5 := X1; clear X1)
 try (have X1 := zH (H6.out.keep (.of_step HSN.out)); clear H6; have H6 := X1; clear X1)
 try (have X1 := zH (H7.out.keep (.of_step HSN.out)); clear H7; have H7 := X1; clear X1)
 try (have X1 := zH (H8.out.keep (.of_step HSN.out)); clear H8; have H8 := X1; clear X1)
 try (have X1 := zH (H9.out.keep (.of_step HSN.out)); clear H9; have H9 := X1; clear X1)
 clear HSN
 go_wp2_with fail
 have hi1 := ProveStuck_any (fun _ => False) ringH 6 [7, 0, 0] vf (.slice (some ⟨wc.heap.size, 0, none⟩) 3 3) (wc.alloc (.cells #[.int .i64 7, .int .i64 0, .int .i64 0] 3)) (AV.go HFA.out (Step.alloc _ _)) (SLT.bx_ints (S := fun _ => False) (l := [7, 0, 0]) (Bx.new wc (([7, 0, 0] : List Int).map (Value.int .i64)) 3) id 3 (by decide) (by simp)).1
 rw [names_cuts.1] at hi1
 refine hi1.mono ?_
 clear hi1
 rintro e wm ⟨rfl, hSn0⟩
 have hSn := (Step.alloc wc (.cells #[.int .i64 7, .int .i64 0, .int .i64 0] 3)).trans hSn0
 clear hSn0 HFA
 have HSN := zH hSn
 have HTn := zH (HT.out.trans hSn)
 clear HT hSn
 have HT := HTn
 clear HTn
 try (have X1 := zH (H1.out.keep (.of_step HSN.out)); clear H1; have H1 := X1; clear X1)
 try (have X1 := zH (H2.out.keep (.of_step HSN.out)); clear H2; have H2 := X1; clear X1)
 try (have X1 := zH (H3.out.keep (.of_step HSN.out)); clear H3; have H3 := X1; clear X1)
 try (have X1 := zH (H4.out.keep (.of_step HSN.out)); clear H4; have H4 := X1; clear X1)
 try (have X1 := zH (H5.out.keep (.of_step HSN.out)); clear H5; have H5 := X1; clear X1)
 try (have X1 := zH (H6.out.keep (.of_step HSN.out)); clear H6; have H6 := X1; clear X1)
 try (have X1 := zH (H7.out.keep (.of_step HSN.out)); clear H7; have H7 := X1; clear X1)
 try (have X1 := zH (H8.out.keep (.of_step HSN.out)); clear H8; have H8 := X1; clear X1)
 try (have X1 := zH (H9.out.keep (.of_step HSN.out)); clear H9; have H9 := X1; clear X1)
 clear HSN
 go_wp2_with fail
 refine (ring_any _).mono ?_
 rintro e wc ⟨vf, rfl, hvf, hSn⟩
 have HFA := zH (av0n hvf)
 clear hvf
 have HSN := zH hSn
 have HTn := zH (HT.out.trans hSn)
 clear HT hSn
 have HT := HTn
 clear HTn
 try (have X1 := zH (H1.out.keep (.of_step HSN.out)); clear H1; have H1 := X1; clear X1)
 try (have X1 := zH (H2.out.keep (.of_step HSN.out)); clear H2; have H2 := X1; clear X1)
 try (have X1 := zH (H3.out.keep (.of_step HSN.out)); clear H3; have H3 := X1; clear X1)
 try (have X1 := zH (H4.out.keep (.of_step HSN.out)); clear H4; have H4 := X1; clear X1)
 try (have X1 := zH (H5.out.keep (.of_step HSN.out)); clear H5; have H5 := X1; clear X1)
 try (have X1 := zH (H6.out.keep (.of_step HSN.out)); clear H6; have H6 := X1; clear X1)
 try (have X1 := zH (H7.out.keep (.of_step HSN.out)); clear H7; have H7 := X1; clear X1)
 try (have X1 := zH (H8.out.keep (.of_step HSN.out)); clear H8; have H8 := X1; clear X1)
 try (have X1 := zH (H9.out.keep (.of_step HSN.out)); clear H9; have H9 := X1; clear X1)
 clear HSN
 go_wp2_with fail
 have hi1 := ProveStuck_any (fun _ => False) ringH 7 [8, 0, 0] vf (.slice (some ⟨wc.heap.size, 0, none⟩) 3 3) (wc.alloc (.cells #[.int .i64 8, .int .i64 0, .int .i64 0] 3)) (AV.go HFA.out (Step.alloc _ _)) (SLT.bx_ints (S := fun _ => False) (l := [8, 0, 0]) (Bx.new wc (([8, 0, 0] : List Int).map (Value.int .i64)) 3) id 3 (by decide) (by simp)).1
 rw [names_cuts.2] at hi1
 refine hi1.mono ?_
 clear hi1
 rintro e wm ⟨rfl, hSn0⟩
 have hSn := (Step.alloc wc (.cells #[.int .i64 8, .int .i64 0, .int .i64 0] 3)).trans hSn0
 clear hSn0 HFA
 have HSN := zH hSn
 have HTn := zH (HT.out.trans hSn)
 clear HT hSn
 have HT := HTn
 clear HTn
 try (have X1 := zH (H1.out.keep (.of_step HSN.out)); clear H1; have H1 := X1; clear X1)
 try (have X1 := zH (H2.out.keep (.of_step HSN.out)); clear H2; have H2 := X1; clear X1)
 try (have X1 := zH (H3.out.keep (.of_step HSN.out)); clear H3; have H3 := X1; clear X1)
 try (have X1 := zH (H4.out.keep (.of_step HSN.out)); clear H4; have H4 := X1; clear X1)
 try (have X1 := zH (H5.out.keep (.of_step HSN.out)); clear H5; have H5 := X1; clear X1)
 try (have X1 := zH (H6.out.keep (.of_step HSN.out)); clear H6; have H6 := X1; clear X1)
 try (have X1 := zH (H7.out.keep (.of_step HSN.out)); clear H7; have H7 := X1; clear X1)
 try (have X1 := zH (H8.out.keep (.of_step HSN.out)); clear H8; have H8 := X1; clear X1)
 try (have X1 := zH (H9.out.keep (.of_step HSN.out)); clear H9; have H9 := X1; clear X1)
 clear HSN
 go_wp2_with fail
 refine (ring_any _).mono ?_
 rintro e wc ⟨vf, rfl, hvf, hSn⟩
 have HFA := zH (av0n hvf)
 clear hvf
 have HSN := zH hSn
 have HTn := zH (HT.out.trans hSn)
 clear HT hSn
 have HT := HTn
 clear HTn
 try (have X1 := zH (H1.out.keep (.of_step HSN.out)); clear H1; have H1 := X1; clear X1)
 try (have X1 := zH (H2.out.keep (.of_step HSN.out)); clear H2; have H2 := X1; clear X1)
 try (have X1 := zH (H3.out.keep (.of_step HSN.out)); clear H3; have H3 := X1; clear X1)
 try (have X1 := zH (H4.out.keep (.of_step HSN.out)); clear H4; have H4 := X1; clear X1)
 try (have X1 := zH (H5.out.keep (.of_step HSN.out)); clear H5; have H5 := X1; clear X1)
 try (have X1 := zH (H6.out.keep (.of_step HSN.out)); clear H6; have H6 := X1; clear X1)
 try (have X1 := zH (H7.out.keep (.of_step HSN.out)); clear H7; have H7 := X1; clear X1)
 try (have X1 := zH (H8.out.keep (.of_step HSN.out)); clear H8; have H8 := X1; clear X1)
 try (have X1 := zH (H9.out.keep (.of_step HSN.out)); clear H9; have H9 := X1; clear X1)
 clear HSN
 go_wp2_with fail
 obtain ⟨wd, hwd⟩ : ∃ W, W = ((wc.alloc (.cells #[.int .i64 10, .int .i64 10, .int .i64 10, .int .i64 10, .int .i64 10, .int .i64 10, .int .i64 10] 3)).alloc (.cells #[.int .i64 5, .int .i64 5, .int .i64 5, .int .i64 4, .int .i64 0, .int .i64 0, .int .i64 0] 3)).alloc (.cells #[.slice (some ⟨wc.heap.size, 0, none⟩) 7 7, .slice (some ⟨wc.heap.size + 1, 0, none⟩) 7 7] 35) := ⟨_, rfl⟩
 have hSn : Step wc wd := by subst hwd; exact ((Step.alloc _ _).trans (Step.alloc _ _)).trans (Step.alloc _ _)
 have hl1 : SL (fun _ => False) wd (.slice (some ⟨wc.heap.size, 0, none⟩) 7 7) ([10, 10, 10, 10, 10, 10, 10] : List Int) := by
  subst hwd; exact (SLT.bx_ints (S := fun _ => False) (l := [10, 10, 10, 10, 10, 10, 10]) (((Bx.new wc (([10, 10, 10, 10, 10, 10, 10] : List Int).map (Value.int .i64)) 3).alloc _).alloc _) id 7 (by decide) (by simp)).1
 have hl2 : SL (fun _ => False) wd (.slice (some ⟨wc.heap.size + 1, 0, none⟩) 7 7) ([5, 5, 5, 4, 0, 0, 0] : List Int) := by
  subst hwd; exact (SLT.bx_ints (S := fun _ => False) (l := [5, 5, 5, 4, 0, 0, 0]) ((Bx.new' (wc.alloc (.cells #[.int .i64 10, .int .i64 10, .int .i64 10, .int .i64 10, .int .i64 10, .int .i64 10, .int .i64 10] 3)) (([5, 5, 5, 4, 0, 0, 0] : List Int).map (Value.int .i64)) 3 (wc.heap.size + 1) (by simp)).alloc _) id 7 (by decide) (by simp)).1
 have hl3 : SL (fun _ => False) wd (.slice (some ⟨wc.heap.size + 1 + 1, 0, none⟩) 2 2) ([[10, 10, 10, 10, 10, 10, 10], [5, 5, 5, 4, 0, 0, 0]] : List (List Int)) := by
  have hb : Bx wd (wc.heap.size + 1 + 1) [.slice (some ⟨wc.heap.size, 0, none⟩) 7 7, .slice (some ⟨wc.heap.size + 1, 0, none⟩) 7 7] 35 := by
   subst hwd; exact Bx.new' _ [_, _] _ _ (by simp)
  exact SL.bx (S := fun _ => False) (l := ([[10, 10, 10, 10, 10, 10, 10], [5, 5, 5, 4, 0, 0, 0]] : List (List Int))) hb id 2 (by decide) (by decide) fun i hi => by match i, hi with | 0, _ => exact ⟨_, rfl, hl1⟩ | 1, _ => exact ⟨_, rfl, hl2⟩
 have hcall := zH (ProveOut_any (fun _ => False) ringH 7 [[10, 10, 10, 10, 10, 10, 10], [5, 5, 5, 4, 0, 0, 0]] vf _ _ (AV.go HFA.out hSn) hl3)
 rw [names_outs.1] at hcall
 have HSN := zH hSn
 have HTn := zH (HT.out.trans hSn)
 clear HT hSn
 have HT := HTn
 clear HTn
 try (have X1 := zH (H1.out.keep (.of_step HSN.out)); clear H1; have H1 := X1; clear X1)
 try (have X1 := zH (H2.out.keep (.of_step HSN.out)); clear H2; have H2 := X1; clear X1)
 try (have X1 := zH (H3.out.keep (.of_step HSN.out)); clear H3; have H3 := X1; clear X1)
 try (have X1 := zH (H4.out.keep (.of_step HSN.out)); clear H4; have H4 := X1; clear X1)
 try (have X1 := zH (H5.out.keep (.of_step HSN.out)); clear H5; have H5 := X1; clear X1)
 try (have X1 := zH (H6.out.keep (.of_step HSN.out)); clear H6; have H6 := X1; clear X1)
 try (have X1 := zH (H7.out.keep (.of_step HSN.out)); clear H7; have H7 := X1; clear X1)
 try (have X1 := zH (H8.out.keep (.of_step HSN.out)); clear H8; have H8 := X1; clear X1)
 try (have X1 := zH (H9.out.keep (.of_step HSN.out)); clear H9; have H9 := X1; clear X1)
 clear HSN
 clear hl1 hl2 hl3 HFA
 rw [← hwd]
 clear hwd
 refine hcall.out.mono ?_
 clear hcall
 rintro e wm ⟨rfl, hSn⟩
 have HSN := zH hSn
 have HTn := zH (HT.out.trans hSn)
 clear HT hSn
 have HT := HTn
 clear HTn
 try (have X1 := zH (H1.out.keep (.of_step HSN.out)); clear H1; have H1 := X1; clear X1)
 try (have X1 := zH (H2.out.keep (.of_step HSN.out)); clear H2; have H2 := X1; clear X1)
 try (have X1 := zH (H3.out.keep (.of_step HSN.out)); clear H3; have H3 := X1; clear X1)
 try (have X1 := zH (H4.out.keep (.of_step HSN.out)); clear H4; have H4 := X1; clear X1)
 try (have X1 := zH (H5.out.keep (.of_step HSN.out)); clear H5; have H5 := X1; clear X1)
 try (have X1 := zH (H6.out.keep (.of_step HSN.out)); clear H6; have H6 := X1; clear X1)
 try (have X1 := zH (H7.out.keep (.of_step HSN.out)); clear H7; have H7 := X1; clear X1)
 try (have X1 := zH (H8.out.keep (.of_step HSN.out)); clear H8; have H8 := X1; clear X1)
 try (have X1 := zH (H9.out.keep (.of_step HSN.out)); clear H9; have H9 := X1; clear X1)
 clear HSN
 go_wp2_with fail
 refine (ring_any _).mono ?_
 rintro e wc ⟨vf, rfl, hvf, hSn⟩
 have HFA := zH (av0n hvf)
 clear hvf
 have HSN := zH hSn
 have HTn := zH (HT.out.trans hSn)
 clear HT hSn
 have HT := HTn
 clear HTn
 try (have X1 := zH (H1.out.keep (.of_step HSN.out)); clear H1; have H1 := X1; clear X1)
 try (have X1 := zH (H2.out.keep (.of_step HSN.out)); clear H2; have H2 := X1; clear X1)
 try (have X1 := zH (H3.out.keep (.of_step HSN.out)); clear H3; have H3 := X1; clear X1)
 try (have X1 := zH (H4.out.keep (.of_step HSN.out)); clear H4; have H4 := X1; clear X1)
 try (have X1 := zH (H5.out.keep (.of_step HSN.out)); clear H5; have H5 := X1; clear X1)
 try (have X1 := zH (H6.out.keep (.of_step HSN.out)); clear H6; have H6 := X1; clear X1)
 try (have X1 := zH (H7.out.keep (.of_step HSN.out)); clear H7; have H7 := X1; clear X1)
 try (have X1 := zH (H8.out.keep (.of_step HSN.out)); clear H8; have H8 := X1; clear X1)
 try (have X1 := zH (H9.out.keep (.of_step HSN.out)); clear H9; have H9 := X1; clear X1)
 clear HSN
 go_wp2_with fail
 obtain ⟨wd, hwd⟩ : ∃ W, W = ((wc.alloc (.cells #[.int .i64 10, .int .i64 10, .int .i64 10, .int .i64 10, .int .i64 10, .int .i64 10, .int .i64 10] 3)).alloc (.cells #[.int .i64 5, .int .i64 5, .int .i64 5, .int .i64 5, .int .i64 0, .int .i64 0, .int .i64 0] 3)).alloc (.cells #[.slice (some ⟨wc.heap.size, 0, none⟩) 7 7, .slice (some ⟨wc.heap.size + 1, 0, none⟩) 7 7] 35) := ⟨_, rfl⟩
 have hSn : Step wc wd := by subst hwd; exact ((Step.alloc _ _).trans (Step.alloc _ _)).trans (Step.alloc _ _)
 have hl1 : SL (fun _ => False) wd (.slice (some ⟨wc.heap.size, 0, none⟩) 7 7) ([10, 10, 10, 10, 10, 10, 10] : List Int) := by
  subst hwd; exact (SLT.bx_ints (S := fun _ => False) (l := [10, 10, 10, 10, 10, 10, 10]) (((Bx.new wc (([10, 10, 10, 10, 10, 10, 10] : List Int).map (Value.int .i64)) 3).alloc _).alloc _) id 7 (by decide) (by simp)).1
 have hl2 : SL (fun _ => False) wd (.slice (some ⟨wc.heap.size + 1, 0, none⟩) 7 7) ([5, 5, 5, 5, 0, 0, 0] : List Int) := by
  subst hwd; exact (SLT.bx_ints (S := fun _ => False) (l := [5, 5, 5, 5, 0, 0, 0]) ((Bx.new' (wc.alloc (.cells #[.int .i64 10, .int .i64 10, .int .i64 10, .int .i64 10, .int .i64 10, .int .i64 10, .int .i64 10] 3)) (([5, 5, 5, 5, 0, 0, 0] : List Int).map (Value.int .i64)) 3 (wc.heap.size + 1) (by simp)).alloc _) id 7 (by decide) (by simp)).1
 have hl3 : SL (fun _ => False) wd (.slice (some ⟨wc.heap.size + 1 + 1, 0, none⟩) 2 2) ([[10, 10, 10, 10, 10, 10, 10], [5, 5, 5, 5, 0, 0, 0]] : List (List Int)) := by
  have hb : Bx wd (wc.heap.size + 1 + 1) [.slice (some ⟨wc.heap.size, 0, none⟩) 7 7, .slice (some ⟨wc.heap.size + 1, 0, none⟩) 7 7] 35 := by
   subst hwd; exact Bx.new' _ [_, _] _ _ (by simp)
  exact SL.bx (S := fun _ => False) (l := ([[10, 10, 10, 10, 10, 10, 10], [5, 5, 5, 5, 0, 0, 0]] : List (List Int))) hb id 2 (by decide) (by decide) fun i hi => by match i, hi with | 0, _ => exact ⟨_, rfl, hl1⟩ | 1, _ => exact ⟨_, rfl, hl2⟩
 have hcall := zH (ProveOut_any (fun _ => False) ringH 7 [[10, 10, 10, 10, 10, 10, 10], [5, 5, 5, 5, 0, 0, 0]] vf _ _ (AV.go HFA.out hSn) hl3)
 rw [names_outs.2] at hcall
 have HSN := zH hSn
 have HTn := zH (HT.out.trans hSn)
 clear HT hSn
 have HT := HTn
 clear HTn
 try (have X1 := zH (H1.out.keep (.of_step HSN.out)); clear H1; have H1 := X1; clear X1)
 try (have X1 := zH (H2.out.keep (.of_step HSN.out)); clear H2; have H2 := X1; clear X1)
 try (have X1 := zH (H3.out.keep (.of_step HSN.out)); clear H3; have H3 := X1; clear X1)
 try (have X1 := zH (H4.out.keep (.of_step HSN.out)); clear H4; have H4 := X1; clear X1)
 try (have X1 := zH (H5.out.keep (.of_step HSN.out)); clear H5; have H5 := X1; clear X1)
 try (have X1 := zH (H6.out.keep (.of_step HSN.out)); clear H6; have H6 := X1; clear X1)
 try (have X1 := zH (H7.out.keep (.of_step HSN.out)); clear H7; have H7 := X1; clear X1)
 try (have X1 := zH (H8.out.keep (.of_step HSN.out)); clear H8; have H8 := X1; clear X1)
 try (have X1 := zH (H9.out.keep (.of_step HSN.out)); clear H9; have H9 := X1; clear X1)
 clear HSN
 clear hl1 hl2 hl3 HFA
 rw [← hwd]
 clear hwd
 refine hcall.out.mono ?_
 clear hcall
 rintro e wm ⟨rfl, hSn⟩
 have HSN := zH hSn
 have HTn := zH (HT.out.trans hSn)
 clear HT hSn
 have HT := HTn
 clear HTn
 try (have X1 := zH (H1.out.keep (.of_step HSN.out)); clear H1; have H1 := X1; clear X1)
 try (have X1 := zH (H2.out.keep (.of_step HSN.out)); clear H2; have H2 := X1; clear X1)
 try (have X1 := zH (H3.out.keep (.of_step HSN.out)); clear H3; have H3 := X1; clear X1)
 try (have X1 := zH (H4.out.keep (.of_step HSN.out)); clear H4; have H4 := X1; clear X1)
 try (have X1 := zH (H5.out.keep (.of_step HSN.out)); clear H5; have H5 := X1; clear X1)
 try (have X1 := zH (H6.out.keep (.of_step HSN.out)); clear H6; have H6 := X1; clear X1)
 try (have X1 := zH (H7.out.keep (.of_step HSN.out)); clear H7; have H7 := X1; clear X1)
 try (have X1 := zH (H8.out.keep (.of_step HSN.out)); clear H8; have H8 := X1; clear X1)
 try (have X1 := zH (H9.out.keep (.of_step HSN.out)); clear H9; have H9 := X1; clear X1)
 clear HSN
 go_wp2_with fail
 refine (told_any _).mono ?_
 rintro e wn ⟨v1, rfl, hv1, hSn⟩
 have X0 := zH (sl0n hv1)
 obtain ⟨p1, c1, rfl⟩ := hv1.form
 clear hv1
 have HSN := zH hSn
 have HTn := zH (HT.out.trans hSn)
 clear HT hSn
 have HT := HTn
 clear HTn
 try (have X1 := zH (H1.out.keep (.of_step HSN.out)); clear H1; have H1 := X1; clear X1)
 try (have X1 := zH (H2.out.keep (.of_step HSN.out)); clear H2; have H2 := X1; clear X1)
 try (have X1 := zH (H3.out.keep (.of_step HSN.out)); clear H3; have H3 := X1; clear X1)
 try (have X1 := zH (H4.out.keep (.of_step HSN.out)); clear H4; have H4 := X1; clear X1)
 try (have X1 := zH (H5.out.keep (.of_step HSN.out)); clear H5; have H5 := X1; clear X1)
 try (have X1 := zH (H6.out.keep (.of_step HSN.out)); clear H6; have H6 := X1; clear X1)
 try (have X1 := zH (H7.out.keep (.of_step HSN.out)); clear H7; have H7 := X1; clear X1)
 try (have X1 := zH (H8.out.keep (.of_step HSN.out)); clear H8; have H8 := X1; clear X1)
 try (have X1 := zH (H9.out.keep (.of_step HSN.out)); clear H9; have H9 := X1; clear X1)
 clear HSN
 have H1 := X0
 clear X0
 go_wp2_with fail
 refine (Worst_any (fun _ => False) toldF [⟨0, 500, 600⟩] _ _ _ (H1.out.keep (.of_step (Step.alloc _ _))) (SL.bx (S := fun _ => False) (l := ([⟨0, 500, 600⟩] : List Rdg)) (Bx.new wn [.int .i64 0, .int .i64 500, .int .i64 600] 79) id 1 (by decide) (by decide) fun i hi => by match i, hi with | 0, _ => rfl)).mono ?_
 rintro e wm ⟨v4, rfl, hv, hSn0⟩
 rw [told_none]
 have hSn := (Step.alloc wn (.cells #[.int .i64 0, .int .i64 500, .int .i64 600] 79)).trans hSn0
 clear hv hSn0
 have HSN := zH hSn
 have HTn := zH (HT.out.trans hSn)
 clear HT hSn
 have HT := HTn
 clear HTn
 try (have X1 := zH (H1.out.keep (.of_step HSN.out)); clear H1; have H1 := X1; clear X1)
 try (have X1 := zH (H2.out.keep (.of_step HSN.out)); clear H2; have H2 := X1; clear X1)
 try (have X1 := zH (H3.out.keep (.of_step HSN.out)); clear H3; have H3 := X1; clear X1)
 try (have X1 := zH (H4.out.keep (.of_step HSN.out)); clear H4; have H4 := X1; clear X1)
 try (have X1 := zH (H5.out.keep (.of_step HSN.out)); clear H5; have H5 := X1; clear X1)
 try (have X1 := zH (H6.out.keep (.of_step HSN.out)); clear H6; have H6 := X1; clear X1)
 try (have X1 := zH (H7.out.keep (.of_step HSN.out)); clear H7; have H7 := X1; clear X1)
 try (have X1 := zH (H8.out.keep (.of_step HSN.out)); clear H8; have H8 := X1; clear X1)
 try (have X1 := zH (H9.out.keep (.of_step HSN.out)); clear H9; have H9 := X1; clear X1)
 clear HSN
 clear H1
 go_wp2_with fail
 refine (told_any _).mono ?_
 rintro e wn ⟨v1, rfl, hv1, hSn⟩
 have X0 := zH (sl0n hv1)
 obtain ⟨p1, c1, rfl⟩ := hv1.form
 clear hv1
 have HSN := zH hSn
 have HTn := zH (HT.out.trans hSn)
 clear HT hSn
 have HT := HTn
 clear HTn
 try (have X1 := zH (H1.out.keep (.of_step HSN.out)); clear H1; have H1 := X1; clear X1)
 try (have X1 := zH (H2.out.keep (.of_step HSN.out)); clear H2; have H2 := X1; clear X1)
 try (have X1 := zH (H3.out.keep (.of_step HSN.out)); clear H3; have H3 := X1; clear X1)
 try (have X1 := zH (H4.out.keep (.of_step HSN.out)); clear H4; have H4 := X1; clear X1)
 try (have X1 := zH (H5.out.keep (.of_step HSN.out)); clear H5; have H5 := X1; clear X1)
 try (have X1 := zH (H6.out.keep (.of_step HSN.out)); clear H6; have H6 := X1; clear X1)
 try (have X1 := zH (H7.out.keep (.of_step HSN.out)); clear H7; have H7 := X1; clear X1)
 try (have X1 := zH (H8.out.keep (.of_step HSN.out)); clear H8; have H8 := X1; clear X1)
 try (have X1 := zH (H9.out.keep (.of_step HSN.out)); clear H9; have H9 := X1; clear X1)
 clear HSN
 have H1 := X0
 clear X0
 go_wp2_with fail
 refine (Strikes_any (fun _ => False) toldF [⟨2, 0, 0⟩] _ _ _ (H1.out.keep (.of_step (Step.alloc _ _))) (SL.bx (S := fun _ => False) (l := ([⟨2, 0, 0⟩] : List Rdg)) (Bx.new wn [.int .i64 2, .int .i64 0, .int .i64 0] 79) id 1 (by decide) (by decide) fun i hi => by match i, hi with | 0, _ => rfl)).mono ?_
 rintro e wm ⟨v2, v3, rfl, -, -, hSn0⟩
 rw [told_late]
 have hSn := (Step.alloc wn (.cells #[.int .i64 2, .int .i64 0, .int .i64 0] 79)).trans hSn0
 clear hSn0
 have HSN := zH hSn
 have HTn := zH (HT.out.trans hSn)
 clear HT hSn
 have HT := HTn
 clear HTn
 try (have X1 := zH (H1.out.keep (.of_step HSN.out)); clear H1; have H1 := X1; clear X1)
 try (have X1 := zH (H2.out.keep (.of_step HSN.out)); clear H2; have H2 := X1; clear X1)
 try (have X1 := zH (H3.out.keep (.of_step HSN.out)); clear H3; have H3 := X1; clear X1)
 try (have X1 := zH (H4.out.keep (.of_step HSN.out)); clear H4; have H4 := X1; clear X1)
 try (have X1 := zH (H5.out.keep (.of_step HSN.out)); clear H5; have H5 := X1; clear X1)
 try (have X1 := zH (H6.out.keep (.of_step HSN.out)); clear H6; have H6 := X1; clear X1)
 try (have X1 := zH (H7.out.keep (.of_step HSN.out)); clear H7; have H7 := X1; clear X1)
 try (have X1 := zH (H8.out.keep (.of_step HSN.out)); clear H8; have H8 := X1; clear X1)
 try (have X1 := zH (H9.out.keep (.of_step HSN.out)); clear H9; have H9 := X1; clear X1)
 clear HSN
 clear H1
 go_wp2_with fail
 refine (Leave_any (fun _ => False) aloneH _ _ ⟨_, rfl, _, _, rfl, (SLT.bx_ints (S := fun _ => False) (l := [0, 1]) (Bx.new wm (([0, 1] : List Int).map (Value.int .i64)) 3) id 2 (by decide) (by simp)).1, SL.nil _ _⟩).mono ?_
 rintro e wn ⟨c6, n6, pl, v6, rfl, hL, hv6, hSn0⟩
 obtain rfl := leave_alone hL
 have hSn := (Step.alloc wm (.cells #[.int .i64 0, .int .i64 1] 3)).trans hSn0
 clear hL hv6 hSn0
 have HSN := zH hSn
 have HTn := zH (HT.out.trans hSn)
 clear HT hSn
 have HT := HTn
 clear HTn
 try (have X1 := zH (H1.out.keep (.of_step HSN.out)); clear H1; have H1 := X1; clear X1)
 try (have X1 := zH (H2.out.keep (.of_step HSN.out)); clear H2; have H2 := X1; clear X1)
 try (have X1 := zH (H3.out.keep (.of_step HSN.out)); clear H3; have H3 := X1; clear X1)
 try (have X1 := zH (H4.out.keep (.of_step HSN.out)); clear H4; have H4 := X1; clear X1)
 try (have X1 := zH (H5.out.keep (.of_step HSN.out)); clear H5; have H5 := X1; clear X1)
 try (have X1 := zH (H6.out.keep (.of_step HSN.out)); clear H6; have H6 := X1; clear X1)
 try (have X1 := zH (H7.out.keep (.of_step HSN.out)); clear H7; have H7 := X1; clear X1)
 try (have X1 := zH (H8.out.keep (.of_step HSN.out)); clear H8; have H8 := X1; clear X1)
 try (have X1 := zH (H9.out.keep (.of_step HSN.out)); clear H9; have H9 := X1; clear X1)
 clear HSN
 go_wp2_with fail
 refine (ring_any _).mono ?_
 rintro e wc ⟨vf, rfl, hvf, hSn⟩
 have HFA := zH (av0n hvf)
 clear hvf
 have HSN := zH hSn
 have HTn := zH (HT.out.trans hSn)
 clear HT hSn
 have HT := HTn
 clear HTn
 try (have X1 := zH (H1.out.keep (.of_step HSN.out)); clear H1; have H1 := X1; clear X1)
 try (have X1 := zH (H2.out.keep (.of_step HSN.out)); clear H2; have H2 := X1; clear X1)
 try (have X1 := zH (H3.out.keep (.of_step HSN.out)); clear H3; have H3 := X1; clear X1)
 try (have X1 := zH (H4.out.keep (.of_step HSN.out)); clear H4; have H4 := X1; clear X1)
 try (have X1 := zH (H5.out.keep (.of_step HSN.out)); clear H5; have H5 := X1; clear X1)
 try (have X1 := zH (H6.out.keep (.of_step HSN.out)); clear H6; have H6 := X1; clear X1)
 try (have X1 := zH (H7.out.keep (.of_step HSN.out)); clear H7; have H7 := X1; clear X1)
 try (have X1 := zH (H8.out.keep (.of_step HSN.out)); clear H8; have H8 := X1; clear X1)
 try (have X1 := zH (H9.out.keep (.of_step HSN.out)); clear H9; have H9 := X1; clear X1)
 clear HSN
 go_wp2_with fail
 refine (Stuck_any (fun _ => False) ringH 61 _ _ HFA.out).mono ?_
 rintro e wm ⟨c8, cut, v8, rfl, hL, hv8, hSn⟩
 obtain rfl := stuck_late hL
 clear hL hv8 HFA
 have HSN := zH hSn
 have HTn := zH (HT.out.trans hSn)
 clear HT hSn
 have HT := HTn
 clear HTn
 try (have X1 := zH (H1.out.keep (.of_step HSN.out)); clear H1; have H1 := X1; clear X1)
 try (have X1 := zH (H2.out.keep (.of_step HSN.out)); clear H2; have H2 := X1; clear X1)
 try (have X1 := zH (H3.out.keep (.of_step HSN.out)); clear H3; have H3 := X1; clear X1)
 try (have X1 := zH (H4.out.keep (.of_step HSN.out)); clear H4; have H4 := X1; clear X1)
 try (have X1 := zH (H5.out.keep (.of_step HSN.out)); clear H5; have H5 := X1; clear X1)
 try (have X1 := zH (H6.out.keep (.of_step HSN.out)); clear H6; have H6 := X1; clear X1)
 try (have X1 := zH (H7.out.keep (.of_step HSN.out)); clear H7; have H7 := X1; clear X1)
 try (have X1 := zH (H8.out.keep (.of_step HSN.out)); clear H8; have H8 := X1; clear X1)
 try (have X1 := zH (H9.out.keep (.of_step HSN.out)); clear H9; have H9 := X1; clear X1)
 clear HSN
 go_wp2_with fail
 refine (told_full _).mono ?_
 rintro e wc ⟨g1, rfl, hv1, hSn⟩
 have X1 := zH (sl0n hv1)
 clear hv1
 have HSN := zH hSn
 have HTn := zH (HT.out.trans hSn)
 clear HT hSn
 have HT := HTn
 clear HTn
 try (have X1 := zH (H1.out.keep (.of_step HSN.out)); clear H1; have H1 := X1; clear X1)
 try (have X1 := zH (H2.out.keep (.of_step HSN.out)); clear H2; have H2 := X1; clear X1)
 try (have X1 := zH (H3.out.keep (.of_step HSN.out)); clear H3; have H3 := X1; clear X1)
 try (have X1 := zH (H4.out.keep (.of_step HSN.out)); clear H4; have H4 := X1; clear X1)
 try (have X1 := zH (H5.out.keep (.of_step HSN.out)); clear H5; have H5 := X1; clear X1)
 try (have X1 := zH (H6.out.keep (.of_step HSN.out)); clear H6; have H6 := X1; clear X1)
 try (have X1 := zH (H7.out.keep (.of_step HSN.out)); clear H7; have H7 := X1; clear X1)
 try (have X1 := zH (H8.out.keep (.of_step HSN.out)); clear H8; have H8 := X1; clear X1)
 try (have X1 := zH (H9.out.keep (.of_step HSN.out)); clear H9; have H9 := X1; clear X1)
 clear HSN
 have H1 := X1
 clear X1
 go_wp2_with fail
 refine (told_full _).mono ?_
 rintro e wd ⟨g2, rfl, hv1, hSn⟩
 have X2 := zH (sl0n hv1)
 clear hv1
 have HSN := zH hSn
 have HTn := zH (HT.out.trans hSn)
 clear HT hSn
 have HT := HTn
 clear HTn
 try (have X1 := zH (H1.out.keep (.of_step HSN.out)); clear H1; have H1 := X1; clear X1)
 try (have X1 := zH (H2.out.keep (.of_step HSN.out)); clear H2; have H2 := X1; clear X1)
 try (have X1 := zH (H3.out.keep (.of_step HSN.out)); clear H3; have H3 := X1; clear X1)
 try (have X1 := zH (H4.out.keep (.of_step HSN.out)); clear H4; have H4 := X1; clear X1)
 try (have X1 := zH (H5.out.keep (.of_step HSN.out)); clear H5; have H5 := X1; clear X1)
 try (have X1 := zH (H6.out.keep (.of_step HSN.out)); clear H6; have H6 := X1; clear X1)
 try (have X1 := zH (H7.out.keep (.of_step HSN.out)); clear H7; have H7 := X1; clear X1)
 try (have X1 := zH (H8.out.keep (.of_step HSN.out)); clear H8; have H8 := X1; clear X1)
 try (have X1 := zH (H9.out.keep (.of_step HSN.out)); clear H9; have H9 := X1; clear X1)
 clear HSN
 have H2 := X2
 clear X2
 obtain ⟨m1, hm1, hsm1, hr1⟩ := raw_of H1.out
 obtain ⟨m2, hm2, hsm2, hr2⟩ := raw_of H2.out
 obtain ⟨hs0, hs1, hs2⟩ := hr2 0 (by rw [hm2]; decide) (by decide)
 obtain ⟨x3, hx3⟩ : ∃ x, x = m2[0]'(by rw [hm2]; decide) := ⟨_, rfl⟩
 obtain ⟨e0, e1, hoc⟩ : wd.cell? ⟨g2, 0, none⟩ = some x3.a ∧ wd.cell? ⟨g2, 1, none⟩ = some x3.b ∧ (x3.a.oneCell' = true ∧ x3.b.oneCell' = true) := by
  obtain ⟨_, _, bq, oq, he, _, _, hq, hat⟩ := hsm2
  injection he with he1 _ _
  rw [hq (by rw [hm2]; decide)] at he1
  injection he1 with he1
  injection he1 with he1 he2 _
  obtain ⟨_, _, cs, ⟨hcs, k1, k2⟩, hcell⟩ := hat 0 (by rw [hm2]; decide)
  rw [← hx3] at hcs k1 k2
  subst hcs he1 he2
  exact ⟨by have := hcell 0 _ rfl; simpa using this, by have := hcell 1 _ rfl; simpa using this, k1, k2⟩
 rw [← hx3] at hs0 hs1
 have HF1 := zH (And.intro hm1 (And.intro hsm1 hr1))
 have HF3 := zH (And.intro hs0 (And.intro hs1 hs2))
 have HOC := zH hoc
 rw [hs0, show toldF[0].name = calmN from rfl] at e0
 clear hm1 hsm1 hr1 hsm2 hr2 hs0 hs1 hs2 hx3 hm2 hoc
 obtain ⟨xa, xb⟩ := x3
 dsimp only at e0 e1
 go_wp2_with (at_builtin; refine wpl_append_full (α := RawF) (S := fun _ => False) (T := fun _ => False) (base := 0) (v := .slice (some ⟨g1, 0, none⟩) 2 2) (l := m1) (m := [⟨.string calmN, xb⟩]) eiFcs rfl _ _ rfl rfl rfl (by rw [HF1.out.1]; rfl) (SL.e (HF1.out.2.1.keep (.of_step (Step.alloc _ _)))) (SL.e (S := fun _ => False) (SL.bx (S := fun _ => False) (l := ([⟨.string calmN, xb⟩] : List RawF)) (Bx.new wd [.string calmN, xb] 107) id 1 (by simp) (by simp) fun i hi => by match i, hi with | 0, _ => exact ⟨rfl, rfl, HOC.out.2⟩)) (by simp) 3 (by rw [HF1.out.1]; rfl) _ rfl (by decide) (by decide) (Nat.zero_le _) ?_)
 intro c9 w9 hown hSn0
 have hSn := (Step.alloc wd (.cells #[.string calmN, xb] 107)).trans hSn0
 have hsb := hSn.keeps
 have X9 := zH (show SL (fun _ => False) w9 (.slice (some ⟨wd.heap.size + 1, 0, none⟩) 3 c9) (toldF ++ toldF.take 1) by
  have hsl := hown.sl (S := fun _ => False) fun _ _ _ h => h
  refine fc_of (by rw [List.length_append, HF1.out.1]; rfl) hsl fun i h1 h2 => ?_
  have h3 : i < 3 := h2
  by_cases h4 : i < 2
  ·obtain ⟨k1, k2, k3⟩ := HF1.out.2.2 i (by rw [HF1.out.1]; exact h4) h4
   rw [List.getElem_append_left (by rw [HF1.out.1]; exact h4), List.getElem_append_left (show i < toldF.length from h4)]
   exact ⟨k1, k2.keep (.of_step hSn), k3⟩
  ·obtain rfl : i = 2 := by omega
   rw [List.getElem_append_right (by rw [HF1.out.1]; decide)]
   simp only [HF1.out.1]
   exact ⟨rfl, HF3.out.2.1.keep (.of_step hSn), HF3.out.2.2⟩)
 clear hown hSn0
 have HSN := zH hSn
 have HTn := zH (HT.out.trans hSn)
 clear HT hSn
 have HT := HTn
 clear HTn
 try (have X1 := zH (H1.out.keep (.of_step HSN.out)); clear H1; have H1 := X1; clear X1)
 try (have X1 := zH (H2.out.keep (.of_step HSN.out)); clear H2; have H2 := X1; clear X1)
 try (have X1 := zH (H3.out.keep (.of_step HSN.out)); clear H3; have H3 := X1; clear X1)
 try (have X1 := zH (H4.out.keep (.of_step HSN.out)); clear H4; have H4 := X1; clear X1)
 try (have X1 := zH (H5.out.keep (.of_step HSN.out)); clear H5; have H5 := X1; clear X1)
 try (have X1 := zH (H6.out.keep (.of_step HSN.out)); clear H6; have H6 := X1; clear X1)
 try (have X1 := zH (H7.out.keep (.of_step HSN.out)); clear H7; have H7 := X1; clear X1)
 try (have X1 := zH (H8.out.keep (.of_step HSN.out)); clear H8; have H8 := X1; clear X1)
 try (have X1 := zH (H9.out.keep (.of_step HSN.out)); clear H9; have H9 := X1; clear X1)
 clear HSN
 have H9 := X9
 clear X9 H1 H2 HF1 HF3 HOC e0 e1
 go_wp2_with fail
 refine (CheckForecasts_any (fun _ => False) (toldF ++ toldF.take 1) _ _ H9.out).mono ?_
 rintro e wn ⟨rfl, hSn⟩
 rw [told_twins.1]
 have HSN := zH hSn
 have HTn := zH (HT.out.trans hSn)
 clear HT hSn
 have HT := HTn
 clear HTn
 try (have X1 := zH (H1.out.keep (.of_step HSN.out)); clear H1; have H1 := X1; clear X1)
 try (have X1 := zH (H2.out.keep (.of_step HSN.out)); clear H2; have H2 := X1; clear X1)
 try (have X1 := zH (H3.out.keep (.of_step HSN.out)); clear H3; have H3 := X1; clear X1)
 try (have X1 := zH (H4.out.keep (.of_step HSN.out)); clear H4; have H4 := X1; clear X1)
 try (have X1 := zH (H5.out.keep (.of_step HSN.out)); clear H5; have H5 := X1; clear X1)
 try (have X1 := zH (H6.out.keep (.of_step HSN.out)); clear H6; have H6 := X1; clear X1)
 try (have X1 := zH (H7.out.keep (.of_step HSN.out)); clear H7; have H7 := X1; clear X1)
 try (have X1 := zH (H8.out.keep (.of_step HSN.out)); clear H8; have H8 := X1; clear X1)
 try (have X1 := zH (H9.out.keep (.of_step HSN.out)); clear H9; have H9 := X1; clear X1)
 clear HSN
 clear H9
 go_wp2_with fail
 refine (CheckForecasts_any (fun _ => False) [] _ _ (SL.nil _ _)).mono ?_
 rintro e wm ⟨rfl, hSn⟩
 rw [told_twins.2]
 have HSN := zH hSn
 have HTn := zH (HT.out.trans hSn)
 clear HT hSn
 have HT := HTn
 clear HTn
 try (have X1 := zH (H1.out.keep (.of_step HSN.out)); clear H1; have H1 := X1; clear X1)
 try (have X1 := zH (H2.out.keep (.of_step HSN.out)); clear H2; have H2 := X1; clear X1)
 try (have X1 := zH (H3.out.keep (.of_step HSN.out)); clear H3; have H3 := X1; clear X1)
 try (have X1 := zH (H4.out.keep (.of_step HSN.out)); clear H4; have H4 := X1; clear X1)
 try (have X1 := zH (H5.out.keep (.of_step HSN.out)); clear H5; have H5 := X1; clear X1)
 try (have X1 := zH (H6.out.keep (.of_step HSN.out)); clear H6; have H6 := X1; clear X1)
 try (have X1 := zH (H7.out.keep (.of_step HSN.out)); clear H7; have H7 := X1; clear X1)
 try (have X1 := zH (H8.out.keep (.of_step HSN.out)); clear H8; have H8 := X1; clear X1)
 try (have X1 := zH (H9.out.keep (.of_step HSN.out)); clear H9; have H9 := X1; clear X1)
 clear HSN
 go_wp2_with fail
 refine (CheckSite_any ⟨[], [], [], 0⟩ _ _ ⟨_, rfl, _, _, _, rfl, SL.nil _ _, SL.nil _ _, SL.nil _ _⟩).mono ?_
 rintro e wn ⟨rfl, hSn⟩
 rw [show siteC ⟨[], [], [], 0⟩ = 1 by unfold siteC; rw [names_bad.1]; rfl]
 have HSN := zH hSn
 have HTn := zH (HT.out.trans hSn)
 clear HT hSn
 have HT := HTn
 clear HTn
 try (have X1 := zH (H1.out.keep (.of_step HSN.out)); clear H1; have H1 := X1; clear X1)
 try (have X1 := zH (H2.out.keep (.of_step HSN.out)); clear H2; have H2 := X1; clear X1)
 try (have X1 := zH (H3.out.keep (.of_step HSN.out)); clear H3; have H3 := X1; clear X1)
 try (have X1 := zH (H4.out.keep (.of_step HSN.out)); clear H4; have H4 := X1; clear X1)
 try (have X1 := zH (H5.out.keep (.of_step HSN.out)); clear H5; have H5 := X1; clear X1)
 try (have X1 := zH (H6.out.keep (.of_step HSN.out)); clear H6; have H6 := X1; clear X1)
 try (have X1 := zH (H7.out.keep (.of_step HSN.out)); clear H7; have H7 := X1; clear X1)
 try (have X1 := zH (H8.out.keep (.of_step HSN.out)); clear H8; have H8 := X1; clear X1)
 try (have X1 := zH (H9.out.keep (.of_step HSN.out)); clear H9; have H9 := X1; clear X1)
 clear HSN
 go_wp2_with fail
 refine (CheckHall_any (fun _ => False) ⟨[], []⟩ _ _ ⟨_, rfl, _, _, rfl, SL.nil _ _, SL.nil _ _⟩).mono ?_
 rintro e wm ⟨rfl, hSn⟩
 rw [show argE (hallB ⟨[], []⟩) = 1 by rw [names_bad.2]; rfl]
 have HSN := zH hSn
 have HTn := zH (HT.out.trans hSn)
 clear HT hSn
 have HT := HTn
 clear HTn
 try (have X1 := zH (H1.out.keep (.of_step HSN.out)); clear H1; have H1 := X1; clear X1)
 try (have X1 := zH (H2.out.keep (.of_step HSN.out)); clear H2; have H2 := X1; clear X1)
 try (have X1 := zH (H3.out.keep (.of_step HSN.out)); clear H3; have H3 := X1; clear X1)
 try (have X1 := zH (H4.out.keep (.of_step HSN.out)); clear H4; have H4 := X1; clear X1)
 try (have X1 := zH (H5.out.keep (.of_step HSN.out)); clear H5; have H5 := X1; clear X1)
 try (have X1 := zH (H6.out.keep (.of_step HSN.out)); clear H6; have H6 := X1; clear X1)
 try (have X1 := zH (H7.out.keep (.of_step HSN.out)); clear H7; have H7 := X1; clear X1)
 try (have X1 := zH (H8.out.keep (.of_step HSN.out)); clear H8; have H8 := X1; clear X1)
 try (have X1 := zH (H9.out.keep (.of_step HSN.out)); clear H9; have H9 := X1; clear X1)
 clear HSN
 go_wp2_with fail
 refine (gwakes_any _).mono ?_
 rintro e wn ⟨rfl, hSn⟩
 have HSN := zH hSn
 have HTn := zH (HT.out.trans hSn)
 clear HT hSn
 have HT := HTn
 clear HTn
 try (have X1 := zH (H1.out.keep (.of_step HSN.out)); clear H1; have H1 := X1; clear X1)
 try (have X1 := zH (H2.out.keep (.of_step HSN.out)); clear H2; have H2 := X1; clear X1)
 try (have X1 := zH (H3.out.keep (.of_step HSN.out)); clear H3; have H3 := X1; clear X1)
 try (have X1 := zH (H4.out.keep (.of_step HSN.out)); clear H4; have H4 := X1; clear X1)
 try (have X1 := zH (H5.out.keep (.of_step HSN.out)); clear H5; have H5 := X1; clear X1)
 try (have X1 := zH (H6.out.keep (.of_step HSN.out)); clear H6; have H6 := X1; clear X1)
 try (have X1 := zH (H7.out.keep (.of_step HSN.out)); clear H7; have H7 := X1; clear X1)
 try (have X1 := zH (H8.out.keep (.of_step HSN.out)); clear H8; have H8 := X1; clear X1)
 try (have X1 := zH (H9.out.keep (.of_step HSN.out)); clear H9; have H9 := X1; clear X1)
 clear HSN
 go_wp2
 go_ret
 exact ⟨rfl, HT.out⟩
end Go.Proofs.YtfhmdpicoccnfaaGreat
namespace Go.Proofs.YtfhmdpicoccnfaaGreat.names
open Go.ChangeShapes Go.WideShapes Go.ChangeAt Go.RowKit Go.BT
set_option linter.unusedVariables false
set_option linter.unusedSimpArgs false
theorem lifted (os : Os) (started : os.Started) (H : Type) (enc : TypeId × Value → H) :
  ReturnsInHanded {} Tryz.checked os 5 .any (Rows.galeNamesSpec.pre6 enc Tryz.prog Tryz.f5 Rows.galeNamesRow.domain false) (Rows.galeNamesSpec.post enc Tryz.prog Tryz.f5 false true false false) := by
 refine returnsInHanded_of_change (C := Tryz.checked) own started (by kernel_rfl) Tryz.func5
  (ChangeSpec.witness6 (enc := enc) (C := Tryz.checked) false ⟨#[], #[], []⟩ 8 (by kernel_rfl) (by kernel_rfl) (by kernel_rfl) (by kernel_rfl)) ?_
 intro W base args ds gs before hval0 hW hcnd _
 have hval : ∀ (j : Nat) t v, Tryz.f5.params[j]? = some t → args[j]? = some v → Value.okWide Tryz.prog W .any base t v := hval0
 have hW' := hW
 obtain ⟨p, q, hA0, hV, rfl, hfz, hnd⟩ := hW
 have hA : DataW.TrodAll enc Tryz.prog W 0 (fun _ => true) true Tryz.f5.params.toList args.toList ds p := hA0
 have hAk := hA
 rw [Tryz.params5] at hA hval
 obtain ⟨hargs, rfl, rfl⟩ := trodAll_nil hA
 obtain rfl : args = #[] := by cases args; simp_all
 obtain ⟨rfl, rfl⟩ := trodVars_none hV
 clear hA0 hval0
 refine (GaleNames_any   W ).mono fun e W' ⟨he, hg⟩ => ?_
 subst he
 have hlt := hW'.lt
 refine ⟨_, rfl, post_of_below (pv := []) hW' (fun _ _ _ => (trodAll_cons_mk (shut_bool Tryz.underlying4 _) trodAll_mk0)) (fun sp hs => all_stays laid hg.below (fun t ht => ?_) hAk (fun x hx => hlt x (by simp at hx)) (fun x hx => hs x (by simp at hx))) (fun _ _ => rfl) rfl hg.below (ok_one (by kernel_rfl) rfl (okWide_bool_mk Tryz.underlying4 _))⟩
 rw [Tryz.params5] at ht
 simp at ht
theorem over : Rows.galeNamesRow.holds Tryz.pinned (OpenSpec.ofChange Rows.galeNamesSpec) :=
 OpenClaim.holds_of_wide 5 Tryz.f5 rfl rfl rfl rfl rfl rfl rfl ⟨rfl, rfl, rfl, rfl, rfl⟩ rfl rfl rfl rfl rfl (by kernel_rfl) Tryz.func5 (by kernel_rfl)
  (of_decide_eq_true (by kernel_rfl)) (by unfold Func.isWrapper; first | (rw [if_pos (by decide +kernel)]; kernel_rfl) | (rw [if_neg (by decide +kernel)]; exact ⟨rfl, rfl⟩))
  (fun os started H enc _ => lifted os started H enc)
theorem proved : Rows.GaleNamesSaid := over
end Go.Proofs.YtfhmdpicoccnfaaGreat.names
