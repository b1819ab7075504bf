/- Walks and plain laws, part c. -/
import Derived.Test.YtfhmdpicoccnfaaGreatMa
import Derived.Test.YtfhmdpicoccnfaaGreatMb
import Derived.Test.YtfhmdpicoccnfaaGreatRows
import Derived.Deep.Upon
import Derived.Lib.SlicesS
set_option maxHeartbeats 16000000
set_option maxRecDepth 100000
set_option linter.unusedVariables false
set_option linter.unusedSimpArgs false
namespace Go.Proofs.YtfhmdpicoccnfaaGreat
set_option linter.unusedSimpArgs false
set_option linter.unusedVariables false
open Go.RowKit Go.BT
theorem rd2_any (x : Rdg) (w : World) : Calls Tryz.prog 96 #[.agg #[.int .i64 x.hour, .int .i64 x.lo, .int .i64 x.hi]] w fun e w' => e = .returned (.bool (rangeB ⟨x.lo, x.hi⟩)) ∧ Step w w' := by
 obtain ⟨a, b, c⟩ := x
 dsimp only
 go_enter Tryz.func96, Tryz.ntmps96
 go_wp2_with fail
 refine (strong_any ⟨b, c⟩ _).mono ?_
 rintro e w' ⟨rfl, hS⟩
 go_wp2
 go_ret
 exact ⟨rfl, (Step.alloc _ _).trans hS⟩
theorem rd1_any (l : List Fc) (vl : Value) (x : Rdg) (b : Nat) (w : World) (hl : SL (fun _ => False) w vl l) (h0 : 0 < l.length) (hn : hoursN l ≤ 48) (hb : w.cell? ⟨b, 0, none⟩ = some vl) :
  Calls Tryz.prog 95 #[.agg #[.int .i64 x.hour, .int .i64 x.lo, .int .i64 x.hi], .pointer (some ⟨b, 0, none⟩)] w fun e w' => e = .returned (.bool (withinB x.hour 0 ((hoursN l : Int) - 1))) ∧ Step w w' := by
 obtain ⟨xa, xb, xc⟩ := x
 dsimp only
 obtain ⟨pl, cl, bl, ol, rfl, _, hml, hpl, hcl, _⟩ := hl.fcs
 obtain rfl := hpl h0
 obtain ⟨cx, x1, x2, x3, x4⟩ := hcl 0 h0
 obtain ⟨px, kx, rfl⟩ := x3.form
 have hh : hoursN l = l[0].hours.length := by
  cases l with
  | nil => simp at h0
  | cons a l => rfl
 rw [hh] at hn ⊢
 obtain ⟨W0, hW0⟩ : ∃ W, W = w.alloc (.cells #[.int .i64 xa, .int .i64 xb, .int .i64 xc] 79) := ⟨_, rfl⟩
 have hbx : Bx W0 w.heap.size [.int .i64 xa, .int .i64 xb, .int .i64 xc] 79 := by subst hW0; exact Bx.new w [_, _, _] _
 have hS : Step w W0 := by subst hW0; exact Step.alloc _ _
 have HB := zH hbx
 have HS := zH hS
 have HW := zH hW0
 have HC := zH (And.intro (hS.kc hb) (hS.kc x2))
 have HT := zH (Step.refl W0)
 have hix : (0 : Int) < (l.length : Int) := by omega
 clear hbx hS hW0 hb x1 x2 x3 x4 hcl hpl hl
 obtain ⟨n0, hn0⟩ : ∃ n, n = l[0].hours.length := ⟨_, rfl⟩
 rw [← hn0] at HC hn ⊢
 rw [Nat.zero_mul, Nat.add_zero] at HC
 have hw1 : IntKind.i64.wrap ((n0 : Int) - 1) = (n0 : Int) - 1 := by rw [IntKind.wrap_i64]; omega
 clear hn0 hh hn
 go_enter Tryz.func95, Tryz.ntmps95
 go_upto_region 1 with (fail)
 rw [← HW.out]
 refine wp_region_seq (kdOf [8] []) [0, 1, 0, 4, 12, 28, 60, 124, 255, 511] [0, 1, 2, 3, 4, 5, 6, 7, 8, 9] [] (by kernel_rfl) (by kernel_rfl) (fun i T z hi hk => by simp [kdOf] at hk <;> (try (split at hk <;> cases hk))) ?_
 intro Wx hWx
 have HTx := zH (HT.out.trans hWx)
 clear hWx HT
 have HT := HTx
 clear HTx
 have y0 := (HB.out.step HT.out).cell 0
 have z0 := HT.out.kc HC.out.1
 have z1 := HT.out.kc HC.out.2
 repeat ((first | (refine run_off rfl rfl (by rfl) ?_) | (refine run_chain_off rfl rfl (by rfl) (K0_mono _) ?_) | ((refine run_want rfl rfl (by rfl) ⟨?_, fun W hW => ?_, ?_⟩; rotate_left; (· (have d0 := hW.kc y0; have d1 := hW.kc z0; have d2 := hW.kc z1; go_simp; (try with_reducible rfl)))))); (try simp only [Act.put, zA, zB, zC]))
 clear y0 z0 z1
 refine run_chain rfl rfl (by rfl) (fun Wi hWi K' hK => ?_)
 have HTi := zH (HT.out.trans hWi)
 clear hWi HT
 go_simp
 refine (gale.within_any _ _ _ _).mono ?_
 rintro e wn ⟨rfl, rfl⟩
 have HT := HTi
 clear HTi
 refine hK _ _ (StepX.refl _ _) ?_
 (try simp only [Act.put, zA, zB, zC])
 repeat ((first | (refine run_off rfl rfl (by rfl) ?_) | (refine run_chain_off rfl rfl (by rfl) (K0_mono _) ?_) | ((refine run_want rfl rfl (by rfl) ⟨?_, fun W hW => ?_, ?_⟩; rotate_left; (· (skip; go_simp; (try with_reducible rfl)))))); (try simp only [Act.put, zA, zB, zC]))
 refine run_end (L := []) rfl (fun W6 hW6 => ?_)
 have HT6 := zH (HT.out.trans hW6)
 clear hW6 HT
 have HT := HT6
 clear HT6
 go_wp2
 go_ret
 exact ⟨rfl, HS.out.trans HT.out⟩
theorem all_rd2 (l : List Rdg) (v : Value) (w : World) (hv : SL (fun _ => False) w v l) : Calls Tryz.prog 94 #[v, .func (.func 96) #[] #[]] w fun e w' => e = .returned (.bool (l.all fun x => rangeB ⟨x.lo, x.hi⟩)) ∧ Step w w' :=
 (all_rdg (fun _ => False) l v w 96 #[] (Go.Proofs.enters_of Tryz.func96 (by kernel_rfl) rfl) (fun x => rangeB ⟨x.lo, x.hi⟩) (fun _ W => Step w W) (fun _ => False) (fun _ h => h.elim)
  (fun _ W hW => hv.keep (.of_step hW)) (fun _ _ _ h1 h2 => h1.trans h2) (Step.refl _) (fun i hi W u hW _ hu => by
   subst hu
   refine (rd2_any _ W).mono ?_
   rintro e w' ⟨rfl, hs⟩
   exact ⟨rfl, hW.trans hs, hs⟩)).mono fun e w' ⟨h, k, _, _, hs⟩ => ⟨h, hs⟩
theorem all_rd1 (l : List Fc) (vl : Value) (rs : List Rdg) (v : Value) (b : Nat) (w : World) (hl : SL (fun _ => False) w vl l) (h0 : 0 < l.length) (hn : hoursN l ≤ 48) (hb : w.cell? ⟨b, 0, none⟩ = some vl) (hv : SL (fun _ => False) w v rs) :
  Calls Tryz.prog 94 #[v, .func (.func 95) #[] #[.pointer (some ⟨b, 0, none⟩)]] w fun e w' => e = .returned (.bool (rs.all fun x => withinB x.hour 0 ((hoursN l : Int) - 1))) ∧ Step w w' :=
 (all_rdg (fun _ => False) rs v w 95 #[.pointer (some ⟨b, 0, none⟩)] (Go.Proofs.enters_of Tryz.func95 (by kernel_rfl) rfl) (fun x => withinB x.hour 0 ((hoursN l : Int) - 1)) (fun _ W => Step w W) (fun _ => False) (fun _ h => h.elim)
  (fun _ W hW => hv.keep (.of_step hW)) (fun _ _ _ h1 h2 => h1.trans h2) (Step.refl _) (fun i hi W u hW _ hu => by
   subst hu
   refine (rd1_any l vl _ b W (hl.keep (.of_step hW)) h0 hn (hW.kc hb)).mono ?_
   rintro e w' ⟨rfl, hs⟩
   exact ⟨rfl, hW.trans hs, hs⟩)).mono fun e w' ⟨h, k, _, _, hs⟩ => ⟨h, hs⟩
theorem read_any (S : Nat → Prop) (l : List Fc) (rs : List Rdg) (v u : Value) (w : World) (hv : SL S w v l) (hu : SL S w u rs) : Calls Tryz.prog 53 #[v, u] w fun e w' => e = .returned (.int .i64 (readC l rs)) ∧ Step w w' := by
 have hm := hu.len
 obtain ⟨W0, hW0⟩ : ∃ W, W = w.alloc (.cells #[v] 74) := ⟨_, rfl⟩
 have hS : Step w W0 := by subst hW0; exact Step.alloc _ _
 have hbx : Bx W0 w.heap.size [v] 74 := by subst hW0; exact Bx.new w [_] _
 have HW := zH hW0
 have HS := zH hS
 have HB := zH hbx
 have HV := zH (SL.go hv hS)
 have HU := zH (SL.go hu hS)
 have HT := zH (Step.refl W0)
 obtain ⟨pv, cv, rfl⟩ := hv.form
 obtain ⟨pu, cu, rfl⟩ := hu.form
 clear hW0 hS hbx hv hu
 have y0 := (HB.out.step HT.out).cell 0
 simp only [List.getElem?_cons_zero] at y0
 go_enter Tryz.func53, Tryz.ntmps53
 go_upto_region 1 with (fail)
 rw [← HW.out]
 have hcall := zH (CheckForecasts_any (fun _ => False) l _ _ (SL.go HV.out HT.out))
 go_wp2_with fail
 refine hcall.out.mono ?_
 clear hcall
 rintro e wn ⟨rfl, hSn⟩
 have HTi := zH (HT.out.trans hSn)
 clear hSn HT
 have HT := HTi
 clear HTi
 clear y0
 obtain ⟨c, hc⟩ : ∃ c, c = forecastsC l := ⟨_, rfl⟩
 rw [← hc]
 by_cases h0 : c = 0
 rotate_left
 ·have hd : (c != 0) = true := by simpa using h0
  have HR := zH (show readC l rs = c by unfold readC; rw [← hc, if_neg h0])
  clear h0 hc
  go_wp2
  go_ret
  exact ⟨by rw [HR.out]; rfl, HS.out.trans HT.out⟩
 subst h0
 have HF := zH hc.symm
 have HN := zH (hoursN_le hc.symm)
 have HL := zH (few_parts (forecasts_ok hc.symm).1)
 have HR0 := zH (show readC l rs = readingsC l rs by unfold readC; rw [← hc, if_pos rfl])
 clear hc
 by_cases a1 : rs.length ≤ 60
 rotate_left
 ·have hd : decide (60 < (rs.length : Int)) = true := decide_eq_true (by omega)
  have HR := zH (show readC l rs = 3 by rw [HR0.out]; unfold readingsC; rw [if_neg a1])
  clear a1
  go_wp2
  go_ret
  exact ⟨by rw [HR.out]; rfl, HS.out.trans HT.out⟩
 have hd : decide (60 < (rs.length : Int)) = false := decide_eq_false (by omega)
 have HA := zH a1
 clear a1
 have hcall := zH (all_rd1 l _ rs _ _ _ (SL.go HV.out HT.out) HL.out.1 HN.out.2 ((HB.out.step HT.out).cell 0) (SL.go HU.out HT.out))
 go_wp2_with fail
 refine hcall.out.mono ?_
 clear hcall
 rintro e wn ⟨rfl, hSn⟩
 have HTi := zH (HT.out.trans hSn)
 clear hSn HT
 have HT := HTi
 clear HTi
 clear hd
 cases q : rs.all fun x => withinB x.hour 0 ((hoursN l : Int) - 1) with
 | false =>
  have HR := zH (show readC l rs = 2 by rw [HR0.out]; unfold readingsC; rw [if_pos HA.out, q]; rfl)
  clear q
  go_wp2
  go_ret
  exact ⟨by rw [HR.out]; rfl, HS.out.trans HT.out⟩
 | true =>
 have HQ := zH q
 clear q
 have hcall := zH (all_rd2 rs _ _ (SL.go HU.out HT.out))
 go_wp2_with fail
 refine hcall.out.mono ?_
 clear hcall
 rintro e wn ⟨rfl, hSn⟩
 have HTi := zH (HT.out.trans hSn)
 clear hSn HT
 have HT := HTi
 clear HTi
 cases q : rs.all fun x => rangeB ⟨x.lo, x.hi⟩ with
 | false =>
  have HR := zH (show readC l rs = 1 by rw [HR0.out]; unfold readingsC; rw [if_pos HA.out, if_pos HQ.out, q]; rfl)
  clear q
  go_wp2
  go_ret
  exact ⟨by rw [HR.out]; rfl, HS.out.trans HT.out⟩
 | true =>
  have HR := zH (show readC l rs = 0 by rw [HR0.out]; unfold readingsC; rw [if_pos HA.out, if_pos HQ.out, q]; rfl)
  clear q
  go_wp2
  go_ret
  exact ⟨by rw [HR.out]; rfl, HS.out.trans HT.out⟩
theorem hit_any (f : Fc) (x : Rdg) (b : Nat) (p : Option Addr) (c : Nat) (w : World) (hb : Bx w b [.string f.name, .slice p f.hours.length c] 107) (hs : SL (fun _ => False) w (.slice p f.hours.length c) f.hours) (hh : 0 ≤ x.hour ∧ x.hour < f.hours.length) :
  Calls Tryz.prog 98 #[.agg #[.int .i64 x.hour, .int .i64 x.lo, .int .i64 x.hi], .pointer (some ⟨b, 0, none⟩)] w fun e w' => e = .returned (.bool (hitsB f x)) ∧ Step w w' := by
 obtain ⟨xa, xb, xc⟩ := x
 dsimp only at hh ⊢
 obtain ⟨k, rfl⟩ : ∃ k : Nat, xa = k := ⟨xa.toNat, by omega⟩
 have hk : k < f.hours.length := by omega
 obtain ⟨p', c', b', o', he, _, _, hpp, hc, hbl⟩ := hs.rngs
 have zl := (hbl (by omega)).1
 have yl := hb.lt
 injection he with he1 he2 he3
 subst he1 he3
 obtain rfl := hpp (by omega)
 obtain ⟨e1, e2⟩ := hc k hk
 have HR := zH (show hitsB f ⟨(k : Int), xb, xc⟩ = (decide (xc < f.hours[k].lo) || decide (f.hours[k].hi < xb)) by
  unfold hitsB hourAt
  rw [Int.toNat_natCast, List.getD_eq_getElem?_getD, List.getElem?_eq_getElem hk]; rfl)
 obtain ⟨r, hr⟩ : ∃ r, r = f.hours[k] := ⟨_, rfl⟩
 rw [← hr] at e1 e2 HR
 obtain ⟨ra, rb⟩ := r
 dsimp only at e1 e2 HR
 have g1 := hb.cell 1
 simp only [zD, zE] at g1
 clear hr hc hpp he2 hs hb hbl
 by_cases a1 : xc < ra
 ·have d1 : decide (xc < ra) = true := decide_eq_true a1
  have HN := zH (show hitsB f ⟨(k : Int), xb, xc⟩ = true by rw [HR.out, d1]; rfl)
  clear a1
  go_enter Tryz.func98, Tryz.ntmps98
  go_wp2
  go_ret
  exact ⟨by rw [HN.out]; rfl, (by with_reducible repeat (first | assumption | exact Step.refl _ | apply Step.s_alloc | apply Step.s_drew | apply Step.s_drewN | refine Step.trans ?_ (by assumption)))⟩
 ·have d1 : decide (xc < ra) = false := decide_eq_false a1
  by_cases a2 : rb < xb
  ·have d2 : decide (rb < xb) = true := decide_eq_true a2
   have HN := zH (show hitsB f ⟨(k : Int), xb, xc⟩ = true by rw [HR.out, d1, d2]; rfl)
   clear a1 a2
   go_enter Tryz.func98, Tryz.ntmps98
   go_wp2
   go_ret
   exact ⟨by rw [HN.out]; rfl, (by with_reducible repeat (first | assumption | exact Step.refl _ | apply Step.s_alloc | apply Step.s_drew | apply Step.s_drewN | refine Step.trans ?_ (by assumption)))⟩
  ·have d2 : decide (rb < xb) = false := decide_eq_false a2
   have HN := zH (show hitsB f ⟨(k : Int), xb, xc⟩ = false by rw [HR.out, d1, d2]; rfl)
   clear a1 a2
   go_enter Tryz.func98, Tryz.ntmps98
   go_wp2
   go_ret
   exact ⟨by rw [HN.out]; rfl, (by with_reducible repeat (first | assumption | exact Step.refl _ | apply Step.s_alloc | apply Step.s_drew | apply Step.s_drewN | refine Step.trans ?_ (by assumption)))⟩
theorem struck_any (f : Fc) (rs : List Rdg) (u v : Value) (w : World) (hu : AV (fun _ => False) w u f) (hv : SL (fun _ => False) w v rs) (hh : ∀ x ∈ rs, 0 ≤ x.hour ∧ x.hour < f.hours.length) :
  Calls Tryz.prog 54 #[u, v] w fun e w' => e = .returned (.int .i64 (idxOf (hitsB f) rs)) ∧ Step w w' := by
 obtain ⟨c1, rfl, h1, _⟩ := hu.fc
 obtain ⟨p, c, rfl⟩ := h1.form
 obtain ⟨W0, hW0⟩ : ∃ W, W = w.alloc (.cells #[.string f.name, .slice p f.hours.length c] 107) := ⟨_, rfl⟩
 have hS : Step w W0 := by subst hW0; exact Step.alloc _ _
 have hbx : Bx W0 w.heap.size [.string f.name, .slice p f.hours.length c] 107 := by subst hW0; exact Bx.new w [_, _] _
 have hcall := zH (indexFunc_rdg (fun _ => False) rs v W0 98 #[.pointer (some ⟨w.heap.size, 0, none⟩)] (Go.Proofs.enters_of Tryz.func98 (by kernel_rfl) rfl) (hitsB f) (fun _ W => Step W0 W)
  (fun _ W hW => SL.go hv (hS.trans hW)) (Step.refl _) (fun i hi W u hW _ hu => by
   subst hu
   refine (hit_any f rs[i] _ p c W (hbx.step hW) (SL.go h1 (hS.trans hW)) (hh _ (List.getElem_mem hi))).mono ?_
   rintro e w' ⟨rfl, hs⟩
   exact ⟨rfl, hW.trans hs⟩))
 have HW := zH hW0
 have HS := zH hS
 obtain ⟨pv, cv, rfl⟩ := hv.form
 clear hW0 hS hbx hu hv h1 hh
 go_enter Tryz.func54, Tryz.ntmps54
 go_wp2_with fail
 rw [← HW.out]
 refine hcall.out.mono ?_
 rintro e w1 ⟨rfl, k, _, _, hS1⟩
 clear hcall
 go_wp2
 go_ret
 exact ⟨rfl, HS.out.trans hS1⟩
def strikesTo (l : List Fc) (rs : List Rdg) (k : Nat) : List Vec := (List.range k).filterMap fun (i : Nat) => match l[i]? with
 | some f => if rs.any (hitsB f) then some ⟨(i : Int), idxOf (hitsB f) rs⟩ else none
 | none => none
theorem left_next {l : List Fc} {rs : List Rdg} {k : Nat} (hk : k < l.length) : leftI l rs (k + 1) = leftI l rs k ++ (if rs.any (hitsB l[k]) = true then [] else [(k : Int)]) := by
 unfold leftI leftN
 rw [List.range_succ, List.filter_append, List.map_append]
 congr 1
 cases q : rs.any (hitsB l[k]) <;> simp only [List.filter_cons, List.filter_nil, List.getElem?_eq_getElem hk, q, Bool.not_true, Bool.not_false, if_true, if_false, List.map_cons, List.map_nil, Bool.false_eq_true]
theorem strikes_next {l : List Fc} {rs : List Rdg} {k : Nat} (hk : k < l.length) : strikesTo l rs (k + 1) = strikesTo l rs k ++ (if rs.any (hitsB l[k]) = true then [(⟨(k : Int), idxOf (hitsB l[k]) rs⟩ : Vec)] else []) := by
 unfold strikesTo
 rw [List.range_succ, List.filterMap_append]
 congr 1
 cases q : rs.any (hitsB l[k]) <;> simp only [List.filterMap_cons, List.filterMap_nil, List.getElem?_eq_getElem hk, q, if_true, if_false, Bool.false_eq_true]
theorem left_len (l : List Fc) (rs : List Rdg) (k : Nat) : (leftI l rs k).length ≤ k := by
 unfold leftI leftN
 rw [List.length_map]
 exact Nat.le_trans (List.length_filter_le _ _) (Nat.le_of_eq List.length_range)
theorem strikes_len (l : List Fc) (rs : List Rdg) (k : Nat) : (strikesTo l rs k).length ≤ k := by
 unfold strikesTo
 exact Nat.le_trans (List.length_filterMap_le _ _) (Nat.le_of_eq List.length_range)
theorem infoStrike : (Tryz.prog.info? 92).map (fun i => (i.zero, i.size, i.bytes)) = some (some (.agg #[.int .i64 0, .int .i64 0]), 2, 16) := by kernel_rfl
theorem eiStrikes : EI Tryz.prog 71 92 (.agg #[.int .i64 0, .int .i64 0]) 2 16 := .mk' Tryz.underlying71 infoStrike rfl
theorem own_own {α β : Type} [Rep α] [Rep β] {S S' : Nat → Prop} {base base' : Nat} {e e' : TypeId} {w : World} {v u : Value} {l : List α} {m : List β} (h : OwnL S base e w v l) (h' : OwnL S' base' e' w u m) (hne : e ≠ e') : ∀ g, v.ownBlock = some g → u.ownBlock ≠ some g := by
 obtain ⟨xs, ⟨_, ho⟩, _⟩ := h
 obtain ⟨ys, ⟨_, ho'⟩, _⟩ := h'
 intro g hg hg'
 rcases ho with ⟨rfl, _⟩ | ⟨g1, cap, cur, rfl, _, hb, _⟩
 ·simp [Value.ownBlock] at hg
 rcases ho' with ⟨rfl, _⟩ | ⟨g2, cap', cur', rfl, _, hb', _⟩
 ·simp [Value.ownBlock] at hg'
 simp [Value.ownBlock] at hg hg'
 subst hg hg'
 rw [hb] at hb'
 injection hb' with hb'
 injection hb' with _ h2 _
 exact hne h2
theorem read_hours {l : List Fc} {rs : List Rdg} (h : readC l rs = 0) : forecastsC l = 0 ∧ rs.length ≤ 60 ∧ ∀ k (hk : k < l.length), ∀ x ∈ rs, 0 ≤ x.hour ∧ x.hour < l[k].hours.length := by
 unfold readC at h
 split at h
 ·rename_i h0
  unfold readingsC at h
  split at h
  ·rename_i h1
   split at h
   ·rename_i h2
    refine ⟨h0, h1, fun k hk x hx => ?_⟩
    have := List.all_eq_true.1 h2 x hx
    have he := (even_parts (forecasts_ok h0).2.1 _ (List.getElem_mem hk)).2.1
    simp only [withinB, Bool.and_eq_true, decide_eq_true_eq] at this
    omega
   ·simp at h
  ·simp at h
 ·rename_i h0; exact absurd h h0
theorem Strikes_any (S : Nat → Prop) (l : List Fc) (rs : List Rdg) (v u : Value) (w : World) (hv : SL S w v l) (hu : SL S w u rs) :
  Calls Tryz.prog 26 #[v, u] w fun e w' => ∃ v1 v2, e = .returned (.tuple #[v1, v2, .int .i64 (readC l rs)]) ∧ (readC l rs = 0 → SL (Old w) w' v1 (leftI l rs l.length) ∧ SL (Old w) w' v2 (strikesTo l rs l.length)) ∧ (readC l rs ≠ 0 → v1 = .slice none 0 0 ∧ v2 = .slice none 0 0) ∧ Step w w' := by
 have HV := zH (SL.go hv (Step.refl _))
 have HU := zH (SL.go hu (Step.refl _))
 have HT := zH (Step.refl w)
 have hm := hv.len
 obtain ⟨pv, cv, rfl⟩ := hv.form
 obtain ⟨pu, cu, rfl⟩ := hu.form
 clear hv hu
 go_enter Tryz.func26, Tryz.ntmps26
 have hcall := zH (read_any (fun _ => False) l rs _ _ _ HV.out HU.out)
 go_wp2_with fail
 refine hcall.out.mono ?_
 clear hcall
 rintro e wn ⟨rfl, hSn⟩
 have HTi := zH (HT.out.trans hSn)
 clear hSn HT
 have HT := HTi
 clear HTi
 obtain ⟨c, hc⟩ : ∃ c, c = readC l rs := ⟨_, rfl⟩
 rw [← hc]
 by_cases h0 : c = 0
 rotate_left
 ·have hd : (c != 0) = true := by simpa using h0
  have H0 := zH (And.intro h0 hc)
  clear h0 hc
  go_wp2
  go_ret3
  exact ⟨_, _, by rw [← H0.out.2]; rfl, fun h => absurd (H0.out.2.trans h) H0.out.1, fun _ => ⟨rfl, rfl⟩, HT.out⟩
 subst h0
 have HC0 := zH hc.symm
 have HR := zH (read_hours hc.symm)
 have HL := zH (few_parts (forecasts_ok (read_hours hc.symm).1).1)
 clear hc
 have HB0 := zH ((Below.refl w.heap.size w).step (Nat.le_refl _) HT.out)
 clear HT
 go_wp2
 go_loopw [4, 5, 19] (fun a b i wr => ∃ k : Nat, k ≤ l.length ∧ i = .int .i64 k ∧ OwnL (fun _ => False) w.heap.size 3 wr a (leftI l rs k) ∧ OwnL (fun _ => False) w.heap.size 92 wr b (strikesTo l rs k) ∧ Below w.heap.size w wr) (fun _ _ i _ => l.length - (intOf i).toNat)
 case atStart => exact ⟨0, Nat.zero_le _, rfl, OwnL.nil _ _ _ _, OwnL.nil _ _ _ _, HB0.out⟩
 case round =>
  obtain ⟨k, hk, rfl, hoa, hob, hB⟩ := hrel
  have HT := zH (Step.of hB)
  have HB := zH hB
  have HOA := zH hoa
  have HOB := zH hob
  have HLA := zH (Nat.le_trans (left_len l rs k) (Nat.le_trans hk HL.out.2.1))
  have HLB := zH (Nat.le_trans (strikes_len l rs k) (Nat.le_trans hk HL.out.2.1))
  by_cases hlt : k < l.length
  ·obtain ⟨la, hla⟩ : ∃ L, L = leftI l rs k := ⟨_, rfl⟩
   obtain ⟨lb, hlb⟩ : ∃ L, L = strikesTo l rs k := ⟨_, rfl⟩
   rw [← hla] at hoa HOA HLA
   rw [← hlb] at hob HOB HLB
   obtain ⟨pa, ca, rfl, _⟩ := hoa.form
   obtain ⟨pb, cb, rfl, _⟩ := hob.form
   have HLL := zH (And.intro hla hlb)
   obtain ⟨p', c', b', o', he, _, _, hpp, hcc, hbl⟩ := (SL.go HV.out HT.out).fcs
   injection he with he1 he2 he3
   subst he1 he3
   obtain rfl := hpp (by omega)
   obtain ⟨c1, e1, e2, e3, e4⟩ := hcc k hlt
   obtain ⟨p2, k2, rfl⟩ := e3.form
   have hix : (0 : Int) ≤ (k : Int) ∧ (k : Int) < (l.length : Int) := by omega
   have HHR := zH (HR.out.2.2 k hlt)
   have HNX := zH (And.intro (left_next (rs := rs) hlt) (strikes_next (rs := rs) hlt))
   obtain ⟨f, hf⟩ : ∃ f, f = l[k] := ⟨_, rfl⟩
   rw [← hf] at e1 e2 e3 e4 HHR HNX
   have HAV := zH (show AV (fun _ => False) wr (.agg #[.string f.name, .slice p2 f.hours.length k2]) f from ⟨_, rfl, _, rfl, e3, e4⟩)
   clear hoa hob hB hla hlb hpp hcc hbl he2 e3 e4 hf
   go_wp2_with fail
   refine (struck_any f rs _ _ _ (HAV.out.keep (.of_step (Step.alloc _ _))) (SL.go HU.out (HT.out.trans (Step.alloc _ _))) HHR.out).mono ?_
   rintro e wn ⟨rfl, hSn⟩
   have HS4 := zH ((Step.alloc wr (.cells #[.string f.name, .slice p2 f.hours.length k2] 107)).trans hSn)
   have hge := idxOf_ge (hitsB f) rs
   obtain ⟨r, hr⟩ : ∃ r, r = idxOf (hitsB f) rs := ⟨_, rfl⟩
   rw [← hr] at hge HNX ⊢
   clear hSn e1 e2 hr
   cases q : rs.any (hitsB f) with
   | true =>
    rw [q] at hge HNX
    rw [if_pos rfl, if_pos rfl, ← HLL.out.1, ← HLL.out.2, List.append_nil] at HNX
    clear q
    have hA4 := (HOA.out.step HS4.out).alloc (.cells #[.int .i64 (k : Int), .int .i64 r] 92)
    have hB4 := (HOB.out.step HS4.out).alloc (.cells #[.int .i64 (k : Int), .int .i64 r] 92)
    have hBl := (HB.out.step (Nat.le_refl _) HS4.out).step (Nat.le_refl _) (Step.alloc wn (.cells #[.int .i64 (k : Int), .int .i64 r] 92))
    have hbz := hBl.size
    have hl1 := HLB.out
    have HBl := zH hBl
    have HAB := zH (And.intro hA4 hB4)
    clear hBl
    have hu := SLe.one (S := avoid (fun _ => False) (.slice pb lb.length cb)) (w := wn) (cs := [.int .i64 (k : Int), .int .i64 r]) (x := (⟨(k : Int), r⟩ : Vec)) 92 rfl
    clear hA4
    go_wp2_with (at_builtin; refine wpl_append (α := Vec) (S := fun _ => False) (base := w.heap.size) (v := .slice pb lb.length cb) (l := lb) (m := [⟨(k : Int), r⟩]) eiStrikes rfl _ _ rfl rfl rfl hB4 hu (lb.length + 1) (by simp) _ rfl (by simp only [maxLen]; omega) (by omega) hbz ?_)
    intro p5 c5 w5 hown5 hg
    have HF := zH (And.intro hown5 (And.intro (ownL_grown HAB.out.1 hg (fun g hg' => own_own HAB.out.1 HAB.out.2 (by decide) g hg')) (HBl.out.grown hg hbz (fun j hj => (hB4.lt j hj).1))))
    clear hB4 hu hown5 hg hbz hl1 HAB
    go_wp2
    go_roundw
    case rel => exact ⟨k + 1, by omega, by go_num, by rw [HNX.out.1]; exact HF.out.2.1, by rw [HNX.out.2]; exact HF.out.1, HF.out.2.2⟩
    case measure => simp [intOf]; omega
   | false =>
    rw [q] at hge HNX
    rw [if_neg (by decide), if_neg (by decide), ← HLL.out.1, ← HLL.out.2, List.append_nil] at HNX
    clear q
    have hA4 := (HOA.out.step HS4.out).alloc (.cells #[.int .i64 (k : Int)] 3)
    have hB4 := (HOB.out.step HS4.out).alloc (.cells #[.int .i64 (k : Int)] 3)
    have hBl := (HB.out.step (Nat.le_refl _) HS4.out).step (Nat.le_refl _) (Step.alloc wn (.cells #[.int .i64 (k : Int)] 3))
    have hbz := hBl.size
    have hl1 := HLA.out
    have HBl := zH hBl
    have HAB := zH (And.intro hA4 hB4)
    clear hBl
    have hu := SLe.one (S := avoid (fun _ => False) (.slice pa la.length ca)) (w := wn) (cs := [.int .i64 (k : Int)]) (x := ((k : Int) : Int)) 3 rfl
    clear hB4
    go_wp2_with (at_builtin; refine wpl_append (α := Int) (S := fun _ => False) (base := w.heap.size) (v := .slice pa la.length ca) (l := la) (m := [(k : Int)]) eiInts rfl _ _ rfl rfl rfl hA4 hu (la.length + 1) (by simp) _ rfl (by simp only [maxLen]; omega) (by omega) hbz ?_)
    intro p5 c5 w5 hown5 hg
    have HF := zH (And.intro hown5 (And.intro (ownL_grown HAB.out.2 hg (fun g hg' => own_own HAB.out.2 HAB.out.1 (by decide) g hg')) (HBl.out.grown hg hbz (fun j hj => (hA4.lt j hj).1))))
    clear hA4 hu hown5 hg hbz hl1 HAB
    go_wp2
    go_roundw
    case rel => exact ⟨k + 1, by omega, by go_num, by rw [HNX.out.1]; exact HF.out.1, by rw [HNX.out.2]; exact HF.out.2.1, HF.out.2.2⟩
    case measure => simp [intOf]; omega
  ·have hke : k = l.length := by omega
   subst hke
   have HF := zH (And.intro (hoa.sl (S := Old w) fun g h1 _ h2 => by unfold Old at h2; omega) (hob.sl (S := Old w) fun g h1 _ h2 => by unfold Old at h2; omega))
   clear hoa hob hB
   go_wp2
   go_ret3
   exact ⟨_, _, by rw [HC0.out]; rfl, fun _ => HF.out, fun h => absurd HC0.out h, HT.out⟩
end Go.Proofs.YtfhmdpicoccnfaaGreat
namespace Go.BT
def mixW (l : List Fc) (ids : List Nat) (j k : Nat) : List Int := (List.range (hoursN l)).map fun h => if h < k then worstF l (ids.take (j + 1)) h else worstF l (ids.take j) h
theorem worstm_len (l : List Fc) (ids : List Nat) (j k : Nat) : (mixW l ids j k).length = hoursN l := by simp [mixW]
theorem worstm_start (l : List Fc) (ids : List Nat) : mixW l ids 0 0 = List.replicate (hoursN l) 0 := by
 refine List.ext_getElem (by simp [mixW]) fun i h1 h2 => ?_
 simp [mixW, worstF]
theorem worstm_next (l : List Fc) (ids : List Nat) (j : Nat) : mixW l ids j (hoursN l) = mixW l ids (j + 1) 0 := by
 refine List.ext_getElem (by simp [mixW]) fun i h1 h2 => ?_
 have : i < hoursN l := by simpa [mixW] using h1
 simp only [mixW, List.getElem_map, List.getElem_range]
 rw [if_pos this, if_neg (by omega)]
theorem worstm_end (l : List Fc) (ids : List Nat) : mixW l ids ids.length 0 = worstL l ids := by
 refine List.ext_getElem (by simp [mixW, worstL]) fun i h1 h2 => ?_
 simp only [mixW, worstL, List.getElem_map, List.getElem_range]
 rw [if_neg (by omega), List.take_length]
theorem worstm_at (l : List Fc) (ids : List Nat) (j k : Nat) (hk : k < hoursN l) : (mixW l ids j k)[k]'(by rw [worstm_len]; exact hk) = worstF l (ids.take j) k := by
 simp only [mixW, List.getElem_map, List.getElem_range]
 rw [if_neg (by omega)]
theorem worstm_set (l : List Fc) (ids : List Nat) (j k : Nat) (_ : k < hoursN l) : (mixW l ids j k).set k (worstF l (ids.take (j + 1)) k) = mixW l ids j (k + 1) := by
 refine List.ext_getElem (by simp [mixW]) fun i h1 h2 => ?_
 rw [List.getElem_set]
 simp only [mixW, List.getElem_map, List.getElem_range]
 by_cases e : k = i
 ·subst e; rw [if_pos rfl, if_pos (by omega)]
 ·rw [if_neg e]
  by_cases q : i < k
  ·rw [if_pos q, if_pos (by omega)]
  ·rw [if_neg q, if_neg (by omega)]
theorem worst_take {l : List Fc} {ids : List Nat} {j : Nat} (hj : j < ids.length) (hi : ids[j] < l.length) (k : Nat) : worstF l (ids.take (j + 1)) k = max (worstF l (ids.take j) k) (hourAt l[ids[j]] k).hi := by
 unfold worstF
 rw [List.take_succ_eq_append_getElem hj, List.foldl_append, List.foldl_cons, List.foldl_nil, List.getElem?_eq_getElem hi]
theorem left_lt {l : List Fc} {rs : List Rdg} {j : Nat} (hj : j < (leftN l rs l.length).length) : (leftN l rs l.length)[j] < l.length := by
 have := List.getElem_mem hj
 unfold leftN at this
 rw [List.mem_filter, List.mem_range] at this
 exact this.1
end Go.BT
namespace Go.Proofs.YtfhmdpicoccnfaaGreat
set_option linter.unusedSimpArgs false
set_option linter.unusedVariables false
open Go.RowKit Go.BT
theorem Worst_any (S : Nat → Prop) (l : List Fc) (rs : List Rdg) (v u : Value) (w : World) (hv : SL S w v l) (hu : SL S w u rs) :
  Calls Tryz.prog 28 #[v, u] w fun e w' => ∃ v', e = .returned (.tuple #[v', .int .i64 (worstC l rs)]) ∧ SL (Old w) w' v' (worstR l rs) ∧ Step w w' := by
 have HV := zH (SL.go hv (Step.refl _))
 have HU := zH (SL.go hu (Step.refl _))
 have HT := zH (Step.refl w)
 obtain ⟨pv, cv, rfl⟩ := hv.form
 obtain ⟨pu, cu, rfl⟩ := hu.form
 clear hv hu
 go_enter Tryz.func28, Tryz.ntmps28
 go_wp2_with fail
 refine (Strikes_any (fun _ => False) l rs _ _ _ HV.out HU.out).mono ?_
 rintro e wn ⟨v1, v2, rfl, hok, hno, hSn⟩
 obtain ⟨c, hc⟩ : ∃ c, c = readC l rs := ⟨_, rfl⟩
 rw [← hc] at hok hno ⊢
 have HTi := zH (HT.out.trans hSn)
 clear HT hSn
 have HT := HTi
 clear HTi
 by_cases h0 : c = 0
 rotate_left
 ·have hd : (c != 0) = true := by simpa using h0
  have HW1 := zH (show worstC l rs = c by unfold worstC; rw [← hc, if_neg h0])
  have HW2 := zH (show worstR l rs = [] by unfold worstR; rw [HW1.out, if_neg h0])
  obtain ⟨rfl, rfl⟩ := hno h0
  clear h0 hc hok hno
  go_wp2
  go_ret2
  exact ⟨_, by rw [HW1.out]; rfl, by rw [HW2.out]; exact SL.nil _ _, HT.out⟩
 subst h0
 obtain ⟨hl1, _⟩ := hok rfl
 have HR := zH (read_hours hc.symm)
 have HN := zH (hoursN_le (read_hours hc.symm).1)
 have HL := zH (few_parts (forecasts_ok (read_hours hc.symm).1).1)
 have HEV := zH (even_parts (forecasts_ok (read_hours hc.symm).1).2.1)
 have HLT := zH (fun j => left_lt (l := l) (rs := rs) (j := j))
 have HLN := zH (show (leftN l rs l.length).length ≤ 10 by
  have h1 := left_len l rs l.length
  have h2 := (few_parts (forecasts_ok (read_hours hc.symm).1).1).2.1
  unfold leftI at h1
  rw [List.length_map] at h1; omega)
 obtain ⟨ids, hids⟩ : ∃ L, L = leftN l rs l.length := ⟨_, rfl⟩
 have hli : leftI l rs l.length = ids.map fun (i : Nat) => (i : Int) := by unfold leftI; rw [← hids]
 rw [hli] at hl1
 rw [← hids] at HLN
 have HID := zH (And.intro hids hc.symm)
 obtain ⟨p1, c1, rfl⟩ := hl1.form
 rw [List.length_map] at *
 have HS1 := zH hl1
 clear hok hno hli hl1
 by_cases h0 : ids.length = 0
 ·have hd : ((ids.length : Int) == 0) = true := by rw [h0]; rfl
  have he : ids = [] := List.eq_nil_of_length_eq_zero h0
  have HW1 := zH (show worstC l rs = 7 by unfold worstC; rw [← hc, if_pos rfl, ← hids, he, if_pos rfl])
  have HW2 := zH (show worstR l rs = [] by unfold worstR; rw [HW1.out, if_neg (by decide)])
  clear h0 he hc hids
  go_wp2
  go_ret2
  exact ⟨_, by rw [HW1.out]; rfl, by rw [HW2.out]; exact SL.nil _ _, HT.out⟩
 have hd : ((ids.length : Int) == 0) = false := beq_eq_false_iff_ne.2 (by omega)
 have HW1 := zH (show worstC l rs = 0 by unfold worstC; rw [← hc, if_pos rfl, ← hids, if_neg (fun e => h0 (by rw [e]; rfl))])
 have HW2 := zH (show worstR l rs = worstL l ids by unfold worstR; rw [HW1.out, if_pos rfl, ← hids])
 clear h0 hc hids
 obtain ⟨pl, cl, bl, ol, he, _, _, hpl, hcl, hbl⟩ := (SL.go HV.out HT.out).fcs
 injection he with he1 he2 he3
 subst he1 he3
 have h0 : 0 < l.length := HL.out.1
 obtain rfl := hpl h0
 obtain ⟨cx, x1, x2, x3, x4⟩ := hcl 0 h0
 obtain ⟨px, kx, rfl⟩ := x3.form
 have hn0 : l[0].hours.length = hoursN l := (HEV.out _ (List.getElem_mem h0)).2.1
 rw [hn0] at x2
 obtain ⟨n, hn⟩ : ∃ n, n = hoursN l := ⟨_, rfl⟩
 rw [← hn] at x2 HN
 have HNN := zH hn
 rw [Nat.zero_mul, Nat.add_zero] at x2
 have hnn := HN.out
 have hix : (0 : Int) < (l.length : Int) := by omega
 obtain ⟨W0, hW0⟩ : ∃ W, W = wn.alloc (.cells (Array.replicate n (.int .i64 0)) 3) := ⟨_, rfl⟩
 have hbx : Bx W0 wn.heap.size ((mixW l ids 0 0).map (Value.int .i64)) 3 := by
  rw [worstm_start, List.map_replicate, ← hn]
  rw [show Array.replicate n (Value.int .i64 0) = (List.replicate n (Value.int .i64 0)).toArray by simp] at hW0
  subst hW0
  exact Bx.new _ _ _
 have HB := zH hbx
 have HWS := zH hW0
 have HS := zH (show Step w W0 by subst hW0; exact HT.out.trans (Step.alloc _ _))
 have HSN := zH (show Step wn W0 by subst hW0; exact Step.alloc _ _)
 have HZ := zH HT.out.size
 clear hbx hW0 hn x1 x3 x4 hpl hcl hbl he2 hn0
 go_wp2_with (at_make; refine wpl_make (z := .int .i64 0) eiInts rfl _ _ rfl rfl .i64 .i64 n rfl rfl (by omega) (by omega) ?_)
 go_wp2
 rw [← HWS.out]
 go_loopw [35] (fun i wr => ∃ j : Nat, j ≤ ids.length ∧ i = .int .i64 j ∧ Bx wr wn.heap.size ((mixW l ids j 0).map (Value.int .i64)) 3 ∧ StepX (fun b => b = wn.heap.size) W0 wr) (fun i _ => ids.length - (intOf i).toNat)
 case atStart => exact ⟨0, Nat.zero_le _, rfl, HB.out, StepX.refl _ _⟩
 case round =>
  obtain ⟨j, hj, rfl, hb, hX⟩ := hrel
  have HX := zH hX
  have HBJ := zH hb
  by_cases hlj : j < ids.length
  ·have hv1 := ((HS1.out.weak (T := fun b => b = wn.heap.size) fun b hb e => by omega).keep (.of_step HSN.out)).keep hX.keeps
   obtain ⟨q1, d1, b1, o1, he, _, _, hp1, hc1, hbl1⟩ := hv1.ints
   rw [List.length_map] at he hp1
   injection he with he1 _ he3
   subst he1 he3
   obtain rfl := hp1 (by omega)
   have e0 := hc1 j (by simpa using hlj)
   simp only [List.getElem_map] at e0
   have hij := HLT.out j (by rw [← HID.out.1]; exact hlj)
   simp only [← HID.out.1] at hij
   have HWT := zH (worst_take hlj hij)
   obtain ⟨q2, d2, b2, o2, he, _, _, hp2, hc2, hbl2⟩ := (((HV.out.weak (T := fun b => b = wn.heap.size) fun b hb e => by have := HZ.out; omega).keep (.of_step HS.out)).keep hX.keeps).fcs
   injection he with he1 _ he3
   subst he3
   rw [hp2 h0] at he1
   injection he1 with he1
   injection he1 with he4 he5 _
   subst he4 he5
   obtain ⟨cf, f1, f2, f3, f4⟩ := hc2 ids[j] hij
   obtain ⟨pf, kf, rfl⟩ := f3.form
   have hnf : l[ids[j]].hours.length = n := by rw [HNN.out]; exact (HEV.out _ (List.getElem_mem hij)).2.1
   rw [hnf] at f2 f3
   have hix2 : (0 : Int) ≤ (ids[j] : Int) ∧ (ids[j] : Int) < (l.length : Int) := by omega
   have hix1 : (0 : Int) ≤ (j : Int) ∧ (j : Int) < (ids.length : Int) := by omega
   have hlj2 := hlj
   obtain ⟨f, hf⟩ : ∃ f, f = l[ids[j]] := ⟨_, rfl⟩
   rw [← hf] at f3 hnf HWT
   obtain ⟨i, hi⟩ : ∃ i, i = ids[j] := ⟨_, rfl⟩
   rw [← hi] at e0 f2 hix2
   have HF := zH (And.intro f3 hnf)
   obtain ⟨wo, hwo⟩ : ∃ W, W = wr := ⟨_, rfl⟩
   subst hwo
   clear hb hX hv1 hp1 hc1 hbl1 f1 f4 hij hp2 hc2 hbl2 f3 hnf hf hi hlj x2
   go_upto_region 11 with (fail)
   clear e0 f2 hix1 hix2 hd hix
   go_loopw [45] (fun h wr => ∃ k : Nat, k ≤ n ∧ h = .int .i64 k ∧ Bx wr wn.heap.size ((mixW l ids j k).map (Value.int .i64)) 3 ∧ StepX (fun b => b = wn.heap.size) wo wr) (fun h _ => n - (intOf h).toNat)
   case atStart => exact ⟨0, Nat.zero_le _, rfl, HBJ.out, StepX.refl _ _⟩
   case round =>
    obtain ⟨k, hk, rfl, hb, hX⟩ := hrel
    have HXI := zH hX
    have HBI := zH hb
    by_cases hlt : k < n
    ·obtain ⟨q3, d3, b3, o3, he, _, _, hp3, hc3, hbl3⟩ := (HF.out.1.keep hX.keeps).rngs
     rw [HF.out.2] at he hp3
     injection he with he1 _ he3
     subst he1 he3
     obtain rfl := hp3 (by omega)
     obtain ⟨r1, r2⟩ := hc3 k (by rw [HF.out.2]; exact hlt)
     have hkn : k < hoursN l := by rw [← HNN.out]; exact hlt
     have hm := worstm_at l ids j k hkn
     have c0 := ints_cell hb (k := k) (by rw [worstm_len]; exact hkn)
     rw [hm] at c0
     have z0 := hb.frozen k
     have yl := hb.lt
     have HSET := zH (worstm_set l ids j k hkn)
     have hwt := HWT.out k
     have hha : hourAt f k = f.hours[k]'(by rw [HF.out.2]; exact hlt) := by
      unfold hourAt
      rw [Int.toNat_natCast, List.getD_eq_getElem?_getD, List.getElem?_eq_getElem (by rw [HF.out.2]; exact hlt)]; rfl
     rw [hha] at hwt
     obtain ⟨r, hr⟩ : ∃ r, r = f.hours[k]'(by rw [HF.out.2]; exact hlt) := ⟨_, rfl⟩
     rw [← hr] at r1 r2 hwt
     have hwt := hwt
     obtain ⟨m0, hm0⟩ : ∃ m, m = worstF l (ids.take j) k := ⟨_, rfl⟩
     rw [← hm0] at c0 hwt
     have HWK := zH hwt
     have hix3 : (0 : Int) ≤ (k : Int) ∧ (k : Int) < (n : Int) := by omega
     obtain ⟨W3, hW3⟩ : ∃ W, W = wr.alloc (.cells #[.int .i64 r.lo, .int .i64 r.hi] 77) := ⟨_, rfl⟩
     have HB3 := zH (show Bx W3 wr.heap.size [.int .i64 r.lo, .int .i64 r.hi] 77 by subst hW3; exact Bx.new wr [_, _] _)
     have HS3 := zH (show Step wr W3 by subst hW3; exact Step.alloc _ _)
     have HW3 := zH hW3
     have HC0 := zH (And.intro c0 z0)
     clear hb hX hp3 hc3 hbl3 hm hha hr hm0 hwt hW3 c0 z0
     go_upto_region 13 with (fail)
     rw [← HW3.out]
     have HT := zH (Step.refl W3)
     have HCW := zH (And.intro (HS3.out.kc HC0.out.1) ((HS3.out.cells.2 _ k yl).trans HC0.out.2))
     have HYL := zH (Nat.lt_of_lt_of_le yl HS3.out.size)
     clear yl r1 r2
     refine wp_region_seq (kdOf [] []) [0, 0, 0, 0, 12, 28, 0, 64, 252, 511, 1023] [0, 1, 2, 3, 4, 5, 6, 7, 8, 9] [10] (by kernel_rfl) (by kernel_rfl) (fun i T z hi hk => by simp [kdOf] at hk <;> (try (split at hk <;> cases hk))) ?_
     intro Wx hWx
     have HTx := zH (HT.out.trans hWx)
     clear hWx HT
     have HT := HTx
     clear HTx
     have s0 := (HB3.out.step HT.out).cell 0
     have s1 := (HB3.out.step HT.out).cell 1
     simp only [zD, zE] at s0 s1
     have c0 := HT.out.kc HCW.out.1
     repeat ((first | (refine run_off rfl rfl (by rfl) ?_) | (refine run_chain_off rfl rfl (by rfl) (K0_mono _) ?_) | ((refine run_want rfl rfl (by rfl) ⟨?_, fun W hW => ?_, ?_⟩; rotate_left; (· (have d0 := hW.kc s0; have d1 := hW.kc s1; have d2 := hW.kc c0; go_simp; (try with_reducible rfl)))))); (try simp only [Act.put, zA, zB, zC]))
     clear s0 s1 c0
     refine run_end (L := [_]) rfl (fun W6 hW6 => ?_)
     have HT6 := zH (HT.out.trans hW6)
     clear hW6 HT
     have HT := HT6
     clear HT6
     have c0 := HT.out.kc HCW.out.1
     have z0 := (HT.out.cells.2 _ k HYL.out).trans HCW.out.2
     have yl := Nat.lt_of_lt_of_le HYL.out HT.out.size
     have hM : (if m0 < r.hi then r.hi else m0) = worstF l (ids.take (j + 1)) k := by rw [HWK.out]; omega
     rw [hM]
     obtain ⟨M, hMM⟩ : ∃ M, M = worstF l (ids.take (j + 1)) k := ⟨_, rfl⟩
     rw [← hMM]
     have HM := zH hMM
     clear hM hMM
     go_wp2
     go_roundw
     case rel => exact ⟨k + 1, by omega, by go_num, by rw [← HSET.out, ← HM.out, ← ints_set]; exact (HBI.out.step (HS3.out.trans HT.out)).setCell _ _, (HXI.out.trans (.of (HS3.out.trans HT.out))).setCell ⟨wn.heap.size, k, none⟩ _ rfl⟩
     case measure => simp [intOf]; omega
    ·have hke : k = hoursN l := by have := HNN.out; omega
     subst hke
     rw [worstm_next] at hb
     have HN2 := zH (And.intro hb (HX.out.trans hX))
     have hwj : wrap64 ((j : Int) + 1) = (j : Int) + 1 := by have := HLN.out; unfold wrap64; omega
     clear hb hX
     go_wp2
     go_roundw
     case rel => exact ⟨j + 1, by clear hwj; omega, by go_num, HN2.out.1, HN2.out.2⟩
     case measure => (try rw [hwj]); clear hwj; simp [intOf]; omega
  ·have hje : j = ids.length := by omega
   subst hje
   rw [worstm_end] at hb
   have HF := zH (SL.bx_ints hb (S := Old w) (by unfold Old; have := HZ.out; omega) n (by simp [worstL]; have := HNN.out; omega) (by simp [worstL]; have := HNN.out; omega))
   clear hb hX
   go_wp2
   go_ret2
   refine ⟨_, by rw [HW1.out]; rfl, ?_, StepX.fresh HS.out HX.out (fun b hb => by have := HZ.out; omega)⟩
   rw [HW2.out]
   have hlw : (worstL l ids).length = n := by rw [HNN.out]; simp [worstL]
   have hfin := HF.out
   rw [hlw] at hfin
   exact hfin
end Go.Proofs.YtfhmdpicoccnfaaGreat
namespace Go.BT
theorem level_at {s : Site} {k : Nat} (h : k < s.levels.length) : levelB s.levels k = (withinB s.levels[k].upto 0 1000 && withinB s.levels[k].push 0 100 && (match (generalizing := false) k with | 0 => true | j + 1 => match s.levels[j]? with | some y => decide (y.upto < s.levels[k].upto) && decide (y.push ≤ s.levels[k].push) | none => true)) := by
 unfold levelB; rw [List.getElem?_eq_getElem h]; cases k <;> rfl
theorem stage_at {s : Site} {k : Nat} (h : k < s.stages.length) : stageB s.stages k = (withinB s.stages[k].cover 1 100 && withinB s.stages[k].minutes 1 240 && (match (generalizing := false) k with | 0 => true | j + 1 => match s.stages[j]? with | some y => decide (s.stages[k].cover < y.cover) | none => true)) := by
 unfold stageB; rw [List.getElem?_eq_getElem h]; cases k <;> rfl
theorem site_level {s : Site} {k : Nat} (h : k < s.levels.length) (hb : levelB s.levels k = false) : siteB s = false := by
 have : (List.range s.levels.length).all (levelB s.levels) = false := by rw [List.all_eq_false]; exact ⟨k, List.mem_range.2 h, by rw [hb]; decide⟩
 unfold siteB; rw [this]; simp
theorem site_stage {s : Site} {k : Nat} (h : k < s.stages.length - 1) (hb : stageB s.stages k = false) : siteB s = false := by
 have : (List.range (s.stages.length - 1)).all (stageB s.stages) = false := by rw [List.all_eq_false]; exact ⟨k, List.mem_range.2 h, by rw [hb]; decide⟩
 unfold siteB; rw [this]; simp
end Go.BT
namespace Go.Proofs.YtfhmdpicoccnfaaGreat
set_option linter.unusedSimpArgs false
set_option linter.unusedVariables false
open Go.RowKit Go.BT
theorem equal_stage (a b c d : Int) (w : World) : (Op.equal 120 (.agg #[.int .i64 a, .int .i64 b]) (.agg #[.int .i64 c, .int .i64 d])).run Tryz.prog w = .ok (a == c && b == d) w := by
 unfold Op.equal Op.maxDepth
 rw [run_equalIn_agg (w := w) 9999 120 _ _ (by kernel_rfl) (by kernel_rfl)]
 have hf : (Tryz.prog.fieldsOf 120).toList.map (fun f => (f.name, f.type, f.offset)) = [("Cover", 3, 0), ("Minutes", 3, 1)] := by kernel_rfl
 obtain ⟨f, g, hfg⟩ : ∃ f g, (Tryz.prog.fieldsOf 120).toList = [f, g] := by
  cases hl : (Tryz.prog.fieldsOf 120).toList with
  | nil => simp [hl] at hf
  | cons f l =>
   cases l with
   | nil => simp [hl] at hf
   | cons g l =>
    cases l with
    | nil => exact ⟨f, g, rfl⟩
    | cons _ _ => simp [hl] at hf
 rw [hfg] at hf ⊢
 simp only [List.map_cons, List.map_nil, List.cons.injEq, Prod.mk.injEq, and_true] at hf
 obtain ⟨⟨n1, t1, o1⟩, n2, t2, o2⟩ := hf
 have hi : Tryz.prog.underlying 3 = some (.int .i64) := by kernel_rfl
 simp [Op.eqFields, n1, n2, t1, t2, o1, o2, hi, part, run_underlying hi]
 have hq : ∀ (a b : Int) (w : World), (Op.equalIn 9999 3 (.int .i64 a) (.int .i64 b)).run Tryz.prog w = .ok (a == b) w := fun a b w => run_equalIn_int (w := w) 9998 _ _ .i64 _ _ hi
 simp only [hq, Result.andThen_ok]
 cases a == c <;> cases b == d <;> simp [Result.andThen]
theorem eql_stage (a b c d : Int) (w : World) : (binOp .eql 120 (.agg #[.int .i64 a, .int .i64 b]) (.agg #[.int .i64 c, .int .i64 d])).run Tryz.prog w = .ok (.bool (veq a b c d)) w := by
 have h := equal_stage a b c d w
 unfold Op.equal Op.maxDepth at h
 rw [run_eql_struct, h]
 rfl
attribute [local go_sem] eql_stage
theorem all_corner (l : List Vec) (v : Value) (w : World) (hv : SL (fun _ => False) w v l) : Calls Tryz.prog 81 #[v, .func (.func 82) #[] #[]] w fun e w' => e = .returned (.bool (l.all baseB)) ∧ Step w w' :=
 (all_gvec (fun _ => False) l v w 82 #[] (Go.Proofs.enters_of Tryz.func82 (by kernel_rfl) rfl) baseB (fun _ W => Step w W) (fun _ => False) (fun _ h => h.elim)
  (fun _ W hW => hv.keep (.of_step hW)) (fun _ _ _ h1 h2 => h1.trans h2) (Step.refl _) (fun i hi W u hW _ hu => by
   subst hu
   refine (corner_gale _ W).mono ?_
   rintro e w' ⟨rfl, hs⟩
   exact ⟨rfl, hW.trans hs, hs⟩)).mono fun e w' ⟨h, k, _, _, hs⟩ => ⟨h, hs⟩
theorem siteValid_any (s : Site) (u : Value) (w : World) (hu : AV (fun _ => False) w u s) : Calls Tryz.prog 42 #[u] w fun e w' => e = .returned (.bool (siteB s)) ∧ Step w w' := by
 obtain ⟨c0, c1, c2, rfl, h0, h1, h2⟩ := hu.site
 have hm0 := h0.len
 have hm1 := h1.len
 have hm2 := h2.len
 obtain ⟨p0, k0, rfl⟩ := h0.form
 obtain ⟨p1, k1, rfl⟩ := h1.form
 obtain ⟨p2, k2, rfl⟩ := h2.form
 obtain ⟨W0, hW0⟩ : ∃ W, W = w.alloc (.cells #[.slice p0 s.base.length k0, .slice p1 s.levels.length k1, .slice p2 s.stages.length k2, .int .i64 s.openS] 47) := ⟨_, rfl⟩
 have hbx : Bx W0 w.heap.size [.slice p0 s.base.length k0, .slice p1 s.levels.length k1, .slice p2 s.stages.length k2, .int .i64 s.openS] 47 := by subst hW0; exact Bx.new w [_, _, _, _] _
 have hS : Step w W0 := by subst hW0; exact Step.alloc _ _
 have HB := zH hbx
 have HS := zH hS
 have HW := zH hW0
 have HV0 := zH (SL.go h0 hS)
 have HV1 := zH (SL.go h1 hS)
 have HV2 := zH (SL.go h2 hS)
 have HT := zH (Step.refl W0)
 have b0 := hbx.cell 0
 have b1 := hbx.cell 1
 have b2 := hbx.cell 2
 simp only [zD, zE] at b0 b1 b2
 clear hbx hS hW0 h0 h1 h2 hu
 go_enter Tryz.func42, Tryz.ntmps42
 go_wp2_with fail
 rw [← HW.out]
 refine (gale.within_any _ _ _ _).mono ?_
 rintro e wn ⟨rfl, rfl⟩
 cases q1 : withinB (s.base.length : Int) 1 12 with
 | false =>
  have HR := zH (show siteB s = false by unfold siteB; rw [q1]; simp)
  clear q1
  go_wp2
  go_ret
  exact ⟨by rw [HR.out]; rfl, HS.out.trans HT.out⟩
 | true =>
 go_wp2_with fail
 refine (all_corner s.base _ _ (SL.go HV0.out HT.out)).mono ?_
 rintro e wn ⟨rfl, hSn⟩
 have HTi := zH (HT.out.trans hSn)
 clear HT hSn b0 b1 b2
 have HT := HTi
 clear HTi
 have b1 := (HB.out.step HT.out).cell 1
 have b2 := (HB.out.step HT.out).cell 2
 simp only [zD, zE] at b1 b2
 cases q2 : s.base.all baseB with
 | false =>
  have HR := zH (show siteB s = false by unfold siteB; rw [q2]; simp)
  clear q1 q2
  go_wp2
  go_ret
  exact ⟨by rw [HR.out]; rfl, HS.out.trans HT.out⟩
 | true =>
 go_wp2_with fail
 refine (gale.within_any _ _ _ _).mono ?_
 rintro e wx ⟨rfl, rfl⟩
 cases q3 : withinB (s.levels.length : Int) 1 10 with
 | false =>
  have HR := zH (show siteB s = false by unfold siteB; rw [q3]; simp)
  clear q1 q2 q3
  go_wp2
  go_ret
  exact ⟨by rw [HR.out]; rfl, HS.out.trans HT.out⟩
 | true =>
 go_wp2_with fail
 refine (gale.within_any _ _ _ _).mono ?_
 rintro e wx ⟨rfl, rfl⟩
 cases q4 : withinB (s.stages.length : Int) 2 8 with
 | false =>
  have HR := zH (show siteB s = false by unfold siteB; rw [q4]; simp)
  clear q1 q2 q3 q4
  go_wp2
  go_ret
  exact ⟨by rw [HR.out]; rfl, HS.out.trans HT.out⟩
 | true =>
 have HLN := zH (show (s.levels.length ≤ 10 ∧ 2 ≤ s.stages.length ∧ s.stages.length ≤ 8) by
  simp only [withinB, Bool.and_eq_true, decide_eq_true_eq] at q3 q4; omega)
 have HQ := zH (And.intro q1 (And.intro q2 (And.intro q3 q4)))
 clear q1 q2 q3 q4
 go_wp2
 clear b1 b2
 go_loopw [36] (fun i wr => ∃ k : Nat, k ≤ s.levels.length ∧ i = .int .i64 k ∧ (∀ j (hj : j < k) (hl : j < s.levels.length), levelB s.levels j = true) ∧ Step W0 wr) (fun i _ => s.levels.length - (intOf i).toNat)
 case atStart => exact ⟨0, Nat.zero_le _, rfl, fun j hj => absurd hj (by omega), HT.out⟩
 case round =>
  obtain ⟨k, hk, rfl, hall, hT⟩ := hrel
  have HA := zH hall
  have HTR := zH hT
  clear hT HT hall
  by_cases hlt : k < s.levels.length
  ·obtain ⟨q1, d1, bb, oo, he, _, _, hp, hc, hbl⟩ := (SL.go HV1.out HTR.out).lvls
   injection he with he1 _ he3
   subst he1 he3
   obtain rfl := hp (by omega)
   obtain ⟨e1, e2⟩ := hc k hlt
   have hix : (0 : Int) ≤ (k : Int) ∧ (k : Int) < (s.levels.length : Int) := by omega
   have HPRE := zH (fun (j : Nat) (hj : j + 1 = k) => hc j (by omega))
   have HNO := zH (fun (h : levelB s.levels k = false) => site_level hlt h)
   have HLB := zH (level_at hlt)
   obtain ⟨x, hx⟩ : ∃ x, x = s.levels[k] := ⟨_, rfl⟩
   rw [← hx] at e1 e2 HLB
   obtain ⟨xu, xp⟩ := x
   dsimp only at e1 e2 HLB
   obtain ⟨W3, hW3⟩ : ∃ W, W = wr.alloc (.cells #[.int .i64 xu, .int .i64 xp] 124) := ⟨_, rfl⟩
   have HB3 := zH (show Bx W3 wr.heap.size [.int .i64 xu, .int .i64 xp] 124 by subst hW3; exact Bx.new wr [_, _] _)
   have HS3 := zH (show Step wr W3 by subst hW3; exact Step.alloc _ _)
   have HW3 := zH hW3
   have HT := zH (Step.refl W3)
   have HBC := zH ((HB.out.step (HTR.out.trans HS3.out)).cell 1)
   simp only [zD, zE] at HBC
   clear hp hc hbl hx hW3
   go_upto_region 6 with (fail)
   rw [← HW3.out]
   clear e1 e2
   refine wp_region_seq (kdOf [2, 7] []) (0 :: 1 :: 3 :: 7 :: 15 :: 31 :: 63 :: 127 :: 255 :: 511 :: 1023 :: 2047 :: 4095 :: 8191 :: 16383 :: 32767 :: 16383 :: 81919 :: 16383 :: 278527 :: 999423 :: 2047999 :: 4145151 :: 8388607 :: 16777215 :: 33554431 :: 67108863 :: 33554431 :: 167772159 :: 33554431 :: 570425343 :: 2046820351 :: 4194303999 :: 8489271295 :: 17179869183 :: 34359738367 :: 68719476735 :: 137438953471 :: []) (0 :: 1 :: 2 :: 3 :: 4 :: 5 :: 6 :: 7 :: 8 :: 9 :: 10 :: 11 :: 12 :: 13 :: 14 :: 15 :: 16 :: 17 :: 18 :: 19 :: 20 :: 21 :: 22 :: 23 :: 24 :: 25 :: 26 :: 27 :: 28 :: 29 :: 30 :: 31 :: 32 :: 33 :: 34 :: 35 :: 36 :: 37 :: []) [] (by kernel_rfl) (by kernel_rfl) (fun i T z hi hk => by simp [kdOf] at hk <;> (try (split at hk <;> cases hk))) ?_
   intro Wx hWx
   have HTx := zH (HT.out.trans hWx)
   clear hWx HT
   have HT := HTx
   clear HTx
   have x0 := (HB3.out.step HT.out).cell 0
   have x1 := (HB3.out.step HT.out).cell 1
   have b1 := HT.out.kc HBC.out
   simp only [zD, zE] at x0 x1
   repeat ((first | (refine run_off rfl rfl (by rfl) ?_) | (refine run_chain_off rfl rfl (by rfl) (K0_mono _) ?_) | ((refine run_want rfl rfl (by rfl) ⟨?_, fun W hW => ?_, ?_⟩; rotate_left; (· (have d0 := hW.kc x0; have d1 := hW.kc x1; have d2 := hW.kc b1; go_simp; (try with_reducible rfl)))))); (try simp only [Act.put, zA, zB, zC]))
   clear x0 x1 b1
   refine run_chain rfl rfl (by rfl) (fun Wi hWi K' hK => ?_)
   have HTi := zH (HT.out.trans hWi)
   clear hWi HT
   go_simp
   refine (gale.within_any _ _ _ _).mono ?_
   rintro e wn ⟨rfl, rfl⟩
   have HT := HTi
   clear HTi
   cases w1 : withinB xu 0 1000 with
   | false =>
    have HR := zH (HNO.out (by rw [HLB.out, w1]; rfl))
    clear w1
    refine hK _ _ (StepX.refl _ _) ?_
    (try simp only [Act.put, zA, zB, zC])
    have x0 := (HB3.out.step HT.out).cell 0
    have x1 := (HB3.out.step HT.out).cell 1
    have b1 := HT.out.kc HBC.out
    simp only [zD, zE] at x0 x1
    repeat ((first | (refine run_off rfl rfl (by rfl) ?_) | (refine run_chain_off rfl rfl (by rfl) (K0_mono _) ?_) | ((refine run_want rfl rfl (by rfl) ⟨?_, fun W hW => ?_, ?_⟩; rotate_left; (· (have d0 := hW.kc x0; have d1 := hW.kc x1; have d2 := hW.kc b1; go_simp; (try with_reducible rfl)))))); (try simp only [Act.put, zA, zB, zC]))
    clear x0 x1 b1
    refine run_end (L := []) rfl (fun W6 hW6 => ?_)
    have HT6 := zH (HT.out.trans hW6)
    clear hW6 HT
    have HT := HT6
    clear HT6
    go_wp2
    go_ret
    exact ⟨by rw [HR.out]; rfl, HS.out.trans (HTR.out.trans (HS3.out.trans HT.out))⟩
   | true =>
   refine hK _ _ (StepX.refl _ _) ?_
   (try simp only [Act.put, zA, zB, zC])
   have x0 := (HB3.out.step HT.out).cell 0
   have x1 := (HB3.out.step HT.out).cell 1
   have b1 := HT.out.kc HBC.out
   simp only [zD, zE] at x0 x1
   repeat ((first | (refine run_off rfl rfl (by rfl) ?_) | (refine run_chain_off rfl rfl (by rfl) (K0_mono _) ?_) | ((refine run_want rfl rfl (by rfl) ⟨?_, fun W hW => ?_, ?_⟩; rotate_left; (· (have d0 := hW.kc x0; have d1 := hW.kc x1; have d2 := hW.kc b1; go_simp; (try with_reducible rfl)))))); (try simp only [Act.put, zA, zB, zC]))
   clear x0 x1 b1
   refine run_chain rfl rfl (by rfl) (fun Wi hWi K' hK => ?_)
   have HTi := zH (HT.out.trans hWi)
   clear hWi HT
   go_simp
   refine (gale.within_any _ _ _ _).mono ?_
   rintro e wn ⟨rfl, rfl⟩
   have HT := HTi
   clear HTi
   cases w2 : withinB xp 0 100 with
   | false =>
    have HR := zH (HNO.out (by rw [HLB.out, w1, w2]; rfl))
    clear w1 w2
    refine hK _ _ (StepX.refl _ _) ?_
    (try simp only [Act.put, zA, zB, zC])
    have x0 := (HB3.out.step HT.out).cell 0
    have x1 := (HB3.out.step HT.out).cell 1
    have b1 := HT.out.kc HBC.out
    simp only [zD, zE] at x0 x1
    repeat ((first | (refine run_off rfl rfl (by rfl) ?_) | (refine run_chain_off rfl rfl (by rfl) (K0_mono _) ?_) | ((refine run_want rfl rfl (by rfl) ⟨?_, fun W hW => ?_, ?_⟩; rotate_left; (· (have d0 := hW.kc x0; have d1 := hW.kc x1; have d2 := hW.kc b1; go_simp; (try with_reducible rfl)))))); (try simp only [Act.put, zA, zB, zC]))
    clear x0 x1 b1
    refine run_end (L := []) rfl (fun W6 hW6 => ?_)
    have HT6 := zH (HT.out.trans hW6)
    clear hW6 HT
    have HT := HT6
    clear HT6
    go_wp2
    go_ret
    exact ⟨by rw [HR.out]; rfl, HS.out.trans (HTR.out.trans (HS3.out.trans HT.out))⟩
   | true =>
   refine hK _ _ (StepX.refl _ _) ?_
   (try simp only [Act.put, zA, zB, zC])
   cases k with
   | zero =>
    have d0 : decide (0 < ((0 : Nat) : Int)) = false := by decide
    have HLV := zH (show levelB s.levels (1 - 1) = true by rw [HLB.out, w1, w2]; rfl)
    clear w1 w2
    have x0 := (HB3.out.step HT.out).cell 0
    have x1 := (HB3.out.step HT.out).cell 1
    have b1 := HT.out.kc HBC.out
    simp only [zD, zE] at x0 x1
    repeat ((first | (refine run_off rfl rfl (by rfl) ?_) | (refine run_chain_off rfl rfl (by rfl) (K0_mono _) ?_) | ((refine run_want rfl rfl (by rfl) ⟨?_, fun W hW => ?_, ?_⟩; rotate_left; (· (have d0 := hW.kc x0; have d1 := hW.kc x1; have d2 := hW.kc b1; go_simp; (try with_reducible rfl)))))); (try simp only [Act.put, zA, zB, zC]))
    clear x0 x1 b1
    refine run_end (L := []) rfl (fun W6 hW6 => ?_)
    have HT6 := zH (HT.out.trans hW6)
    clear hW6 HT
    have HT := HT6
    clear HT6
    go_wp2
    go_roundw
    case rel => exact ⟨1, by omega, by go_num, fun i hi hl => if e : i + 1 = 1 then by (obtain rfl : i = 1 - 1 := by omega); exact HLV.out else HA.out i (by omega) hl, HTR.out.trans (HS3.out.trans HT.out)⟩
    case measure => simp [intOf]; omega
   | succ j =>
    have hpre := HPRE.out j rfl
    obtain ⟨g1, g2⟩ := hpre
    have hjx : (0 : Int) ≤ (j : Int) ∧ (j : Int) < (s.levels.length : Int) := by omega
    have hwj : IntKind.i64.wrap (j : Int) = (j : Int) := by rw [IntKind.wrap_i64]; omega
    have hd0 : decide ((0 : Int) < ((j + 1 : Nat) : Int)) = true := decide_eq_true (by omega)
    have HLC := zH (show levelB s.levels (j + 1) = (decide (s.levels[j].upto < xu) && decide (s.levels[j].push ≤ xp)) by
     rw [HLB.out, w1, w2]
     simp only [List.getElem?_eq_getElem (show j < s.levels.length by omega), Bool.true_and])
    obtain ⟨y, hy⟩ : ∃ y, y = s.levels[j] := ⟨_, rfl⟩
    rw [← hy] at g1 g2 HLC
    obtain ⟨yu, yp⟩ := y
    dsimp only at g1 g2 HLC
    have g1 := HT.out.kc (HS3.out.kc g1)
    have g2 := HT.out.kc (HS3.out.kc g2)
    clear hy w1 w2
    by_cases c1 : xu ≤ yu
    ·have d1 : decide (xu ≤ yu) = true := decide_eq_true c1
     have HR := zH (HNO.out (by rw [HLC.out, decide_eq_false (by omega)]; rfl))
     clear c1
     have x0 := (HB3.out.step HT.out).cell 0
     have x1 := (HB3.out.step HT.out).cell 1
     have b1 := HT.out.kc HBC.out
     simp only [zD, zE] at x0 x1
     repeat ((first | (refine run_off rfl rfl (by rfl) ?_) | (refine run_chain_off rfl rfl (by rfl) (K0_mono _) ?_) | ((refine run_want rfl rfl (by rfl) ⟨?_, fun W hW => ?_, ?_⟩; rotate_left; (· (have d0 := hW.kc x0; have d1 := hW.kc x1; have d2 := hW.kc b1; have d3 := hW.kc g1; have d4 := hW.kc g2; go_simp; (try with_reducible rfl)))))); (try simp only [Act.put, zA, zB, zC]))
     clear x0 x1 b1
     refine run_end (L := []) rfl (fun W6 hW6 => ?_)
     have HT6 := zH (HT.out.trans hW6)
     clear hW6 HT
     have HT := HT6
     clear HT6
     go_wp2
     go_ret
     exact ⟨by rw [HR.out]; rfl, HS.out.trans (HTR.out.trans (HS3.out.trans HT.out))⟩
    have d1 : decide (xu ≤ yu) = false := decide_eq_false c1
    by_cases c2 : xp < yp
    ·have d2 : decide (xp < yp) = true := decide_eq_true c2
     have HR := zH (HNO.out (by rw [HLC.out, decide_eq_true (show yu < xu by omega), decide_eq_false (by omega)]; rfl))
     clear c1 c2
     have x0 := (HB3.out.step HT.out).cell 0
     have x1 := (HB3.out.step HT.out).cell 1
     have b1 := HT.out.kc HBC.out
     simp only [zD, zE] at x0 x1
     repeat ((first | (refine run_off rfl rfl (by rfl) ?_) | (refine run_chain_off rfl rfl (by rfl) (K0_mono _) ?_) | ((refine run_want rfl rfl (by rfl) ⟨?_, fun W hW => ?_, ?_⟩; rotate_left; (· (have d0 := hW.kc x0; have d1 := hW.kc x1; have d2 := hW.kc b1; have d3 := hW.kc g1; have d4 := hW.kc g2; go_simp; (try with_reducible rfl)))))); (try simp only [Act.put, zA, zB, zC]))
     clear x0 x1 b1
     refine run_end (L := []) rfl (fun W6 hW6 => ?_)
     have HT6 := zH (HT.out.trans hW6)
     clear hW6 HT
     have HT := HT6
     clear HT6
     go_wp2
     go_ret
     exact ⟨by rw [HR.out]; rfl, HS.out.trans (HTR.out.trans (HS3.out.trans HT.out))⟩
    have d2 : decide (xp < yp) = false := decide_eq_false c2
    have HLV := zH (show levelB s.levels (j + 1 + 1 - 1) = true by rw [Nat.add_sub_cancel, HLC.out, decide_eq_true (show yu < xu by omega), decide_eq_true (show yp ≤ xp by omega)]; rfl)
    clear c1 c2
    have x0 := (HB3.out.step HT.out).cell 0
    have x1 := (HB3.out.step HT.out).cell 1
    have b1 := HT.out.kc HBC.out
    simp only [zD, zE] at x0 x1
    repeat ((first | (refine run_off rfl rfl (by rfl) ?_) | (refine run_chain_off rfl rfl (by rfl) (K0_mono _) ?_) | ((refine run_want rfl rfl (by rfl) ⟨?_, fun W hW => ?_, ?_⟩; rotate_left; (· (have d0 := hW.kc x0; have d1 := hW.kc x1; have d2 := hW.kc b1; have d3 := hW.kc g1; have d4 := hW.kc g2; go_simp; (try with_reducible rfl)))))); (try simp only [Act.put, zA, zB, zC]))
    clear x0 x1 b1
    refine run_end (L := []) rfl (fun W6 hW6 => ?_)
    have HT6 := zH (HT.out.trans hW6)
    clear hW6 HT
    have HT := HT6
    clear HT6
    go_wp2
    go_roundw
    case rel => exact ⟨j + 1 + 1, by omega, by go_num, fun i hi hl => if e : i + 1 = j + 1 + 1 then by (obtain rfl : i = j + 1 + 1 - 1 := by omega); exact HLV.out else HA.out i (by omega) hl, HTR.out.trans (HS3.out.trans HT.out)⟩
    case measure => simp [intOf]; omega
  ·have HT := HTR
   clear HTR
   have HLV0 := zH (show (List.range s.levels.length).all (levelB s.levels) = true by
    rw [List.all_eq_true]
    intro i hi
    rw [List.mem_range] at hi
    exact HA.out i (by omega) hi)
   clear HA
   obtain ⟨m, hm⟩ : ∃ m, s.stages.length = m + 1 := ⟨s.stages.length - 1, by have := HLN.out; omega⟩
   have hmb : 1 ≤ m ∧ m ≤ 7 := by have := HLN.out; omega
   have b2 := (HB.out.step HT.out).cell 2
   simp only [zD, zE] at b2
   rw [hm] at b2
   obtain ⟨q1, d1, bb, oo, he, hcap, _, hp, hc, hbl⟩ := (SL.go HV2.out HT.out).stgs
   injection he with he1 _ he3
   subst he1 he3
   obtain rfl := hp (by omega)
   rw [hm] at hcap
   have hwm : IntKind.i64.wrap (m : Int) = (m : Int) := by rw [IntKind.wrap_i64]; omega
   have hwm2 : IntKind.i64.wrap (((m + 1 : Nat) : Int) - 1) = (m : Int) := by rw [IntKind.wrap_i64]; omega
   have HM := zH (And.intro hm hmb)
   have HCAP := zH hcap
   have hcm : m ≤ k2 := by omega
   clear hp hc hbl hcap
   go_upto_region 11 with (fail)
   clear hlt hk
   go_loopw [89] (fun i wr' => ∃ k : Nat, k ≤ m ∧ i = .int .i64 k ∧ (∀ j (hj : j < k) (hl : j < s.stages.length), stageB s.stages j = true) ∧ Step W0 wr') (fun i _ => m - (intOf i).toNat)
   case atStart => exact ⟨0, Nat.zero_le _, rfl, fun j hj => absurd hj (by omega), HT.out⟩
   case round =>
    obtain ⟨k, hk, rfl, hall, hT⟩ := hrel
    have HA := zH hall
    have HTR := zH hT
    clear hT HT b2 hall
    by_cases hlt : k < m
    ·obtain ⟨q1, d1, bb', oo', he, _, _, hp, hc, hbl⟩ := (SL.go HV2.out HTR.out).stgs
     injection he with he1 _ he3
     subst he3
     have hpp := hp (by have := HM.out; omega)
     rw [hpp] at he1
     injection he1 with he1
     injection he1 with he4 he5 _
     subst he4 he5
     have hL := HM.out.1
     have hks : k < s.stages.length := by omega
     obtain ⟨e1, e2⟩ := hc k hks
     have hix : (0 : Int) ≤ (k : Int) ∧ (k : Int) < (m : Int) := by omega
     have HPRE := zH (fun (j : Nat) (hj : j + 1 = k) => hc j (by omega))
     have HNO := zH (fun (h : stageB s.stages k = false) => site_stage (s := s) (by omega) h)
     have HLB := zH (stage_at hks)
     obtain ⟨x, hx⟩ : ∃ x, x = s.stages[k] := ⟨_, rfl⟩
     rw [← hx] at e1 e2 HLB
     obtain ⟨xu, xp⟩ := x
     dsimp only at e1 e2 HLB
     obtain ⟨W3, hW3⟩ : ∃ W, W = wr.alloc (.cells #[.int .i64 xu, .int .i64 xp] 120) := ⟨_, rfl⟩
     have HB3 := zH (show Bx W3 wr.heap.size [.int .i64 xu, .int .i64 xp] 120 by subst hW3; exact Bx.new wr [_, _] _)
     have HS3 := zH (show Step wr W3 by subst hW3; exact Step.alloc _ _)
     have HW3 := zH hW3
     have HT := zH (Step.refl W3)
     have HBC := zH ((HB.out.step (HTR.out.trans HS3.out)).cell 2)
     simp only [zD, zE] at HBC
     rw [hL] at HBC
     clear hp hpp hc hbl hx hW3 hL
     go_upto_region 13 with (fail)
     rw [← HW3.out]
     clear e1 e2
     refine wp_region_seq (kdOf [2, 7] []) (0 :: 1 :: 3 :: 7 :: 15 :: 31 :: 63 :: 127 :: 255 :: 511 :: 1023 :: 2047 :: 4095 :: 8191 :: 16383 :: 32767 :: 16383 :: 81919 :: 16383 :: 278527 :: 999423 :: 2047999 :: 4145151 :: 8388607 :: 16777215 :: 33554431 :: []) (0 :: 1 :: 2 :: 3 :: 4 :: 5 :: 6 :: 7 :: 8 :: 9 :: 10 :: 11 :: 12 :: 13 :: 14 :: 15 :: 16 :: 17 :: 18 :: 19 :: 20 :: 21 :: 22 :: 23 :: 24 :: 25 :: []) [] (by kernel_rfl) (by kernel_rfl) (fun i T z hi hk => by simp [kdOf] at hk <;> (try (split at hk <;> cases hk))) ?_
     intro Wx hWx
     have HTx := zH (HT.out.trans hWx)
     clear hWx HT
     have HT := HTx
     clear HTx
     have x0 := (HB3.out.step HT.out).cell 0
     have x1 := (HB3.out.step HT.out).cell 1
     have b1 := HT.out.kc HBC.out
     simp only [zD, zE] at x0 x1
     repeat ((first | (refine run_off rfl rfl (by rfl) ?_) | (refine run_chain_off rfl rfl (by rfl) (K0_mono _) ?_) | ((refine run_want rfl rfl (by rfl) ⟨?_, fun W hW => ?_, ?_⟩; rotate_left; (· (have d0 := hW.kc x0; have d1 := hW.kc x1; have d2 := hW.kc b1; go_simp; (try with_reducible rfl)))))); (try simp only [Act.put, zA, zB, zC]))
     clear x0 x1 b1
     refine run_chain rfl rfl (by rfl) (fun Wi hWi K' hK => ?_)
     have HTi := zH (HT.out.trans hWi)
     clear hWi HT
     go_simp
     refine (gale.within_any _ _ _ _).mono ?_
     rintro e wn ⟨rfl, rfl⟩
     have HT := HTi
     clear HTi
     cases w1 : withinB xu 1 100 with
     | false =>
      have HR := zH (HNO.out (by rw [HLB.out, w1]; rfl))
      clear w1
      refine hK _ _ (StepX.refl _ _) ?_
      (try simp only [Act.put, zA, zB, zC])
      have x0 := (HB3.out.step HT.out).cell 0
      have x1 := (HB3.out.step HT.out).cell 1
      have b1 := HT.out.kc HBC.out
      simp only [zD, zE] at x0 x1
      repeat ((first | (refine run_off rfl rfl (by rfl) ?_) | (refine run_chain_off rfl rfl (by rfl) (K0_mono _) ?_) | ((refine run_want rfl rfl (by rfl) ⟨?_, fun W hW => ?_, ?_⟩; rotate_left; (· (have d0 := hW.kc x0; have d1 := hW.kc x1; have d2 := hW.kc b1; go_simp; (try with_reducible rfl)))))); (try simp only [Act.put, zA, zB, zC]))
      clear x0 x1 b1
      refine run_end (L := []) rfl (fun W6 hW6 => ?_)
      have HT6 := zH (HT.out.trans hW6)
      clear hW6 HT
      have HT := HT6
      clear HT6
      go_wp2
      go_ret
      exact ⟨by rw [HR.out]; rfl, HS.out.trans (HTR.out.trans (HS3.out.trans HT.out))⟩
     | true =>
     refine hK _ _ (StepX.refl _ _) ?_
     (try simp only [Act.put, zA, zB, zC])
     have x0 := (HB3.out.step HT.out).cell 0
     have x1 := (HB3.out.step HT.out).cell 1
     have b1 := HT.out.kc HBC.out
     simp only [zD, zE] at x0 x1
     repeat ((first | (refine run_off rfl rfl (by rfl) ?_) | (refine run_chain_off rfl rfl (by rfl) (K0_mono _) ?_) | ((refine run_want rfl rfl (by rfl) ⟨?_, fun W hW => ?_, ?_⟩; rotate_left; (· (have d0 := hW.kc x0; have d1 := hW.kc x1; have d2 := hW.kc b1; go_simp; (try with_reducible rfl)))))); (try simp only [Act.put, zA, zB, zC]))
     clear x0 x1 b1
     refine run_chain rfl rfl (by rfl) (fun Wi hWi K' hK => ?_)
     have HTi := zH (HT.out.trans hWi)
     clear hWi HT
     go_simp
     refine (gale.within_any _ _ _ _).mono ?_
     rintro e wn ⟨rfl, rfl⟩
     have HT := HTi
     clear HTi
     cases w2 : withinB xp 1 240 with
     | false =>
      have HR := zH (HNO.out (by rw [HLB.out, w1, w2]; rfl))
      clear w1 w2
      refine hK _ _ (StepX.refl _ _) ?_
      (try simp only [Act.put, zA, zB, zC])
      have x0 := (HB3.out.step HT.out).cell 0
      have x1 := (HB3.out.step HT.out).cell 1
      have b1 := HT.out.kc HBC.out
      simp only [zD, zE] at x0 x1
      repeat ((first | (refine run_off rfl rfl (by rfl) ?_) | (refine run_chain_off rfl rfl (by rfl) (K0_mono _) ?_) | ((refine run_want rfl rfl (by rfl) ⟨?_, fun W hW => ?_, ?_⟩; rotate_left; (· (have d0 := hW.kc x0; have d1 := hW.kc x1; have d2 := hW.kc b1; go_simp; (try with_reducible rfl)))))); (try simp only [Act.put, zA, zB, zC]))
      clear x0 x1 b1
      refine run_end (L := []) rfl (fun W6 hW6 => ?_)
      have HT6 := zH (HT.out.trans hW6)
      clear hW6 HT
      have HT := HT6
      clear HT6
      go_wp2
      go_ret
      exact ⟨by rw [HR.out]; rfl, HS.out.trans (HTR.out.trans (HS3.out.trans HT.out))⟩
     | true =>
     refine hK _ _ (StepX.refl _ _) ?_
     (try simp only [Act.put, zA, zB, zC])
     cases k with
     | zero =>
      have d0 : decide (0 < ((0 : Nat) : Int)) = false := by decide
      have HLV := zH (show stageB s.stages (1 - 1) = true by (show stageB s.stages 0 = true); rw [HLB.out, w1, w2]; rfl)
      clear w1 w2
      have x0 := (HB3.out.step HT.out).cell 0
      have x1 := (HB3.out.step HT.out).cell 1
      have b1 := HT.out.kc HBC.out
      simp only [zD, zE] at x0 x1
      repeat ((first | (refine run_off rfl rfl (by rfl) ?_) | (refine run_chain_off rfl rfl (by rfl) (K0_mono _) ?_) | ((refine run_want rfl rfl (by rfl) ⟨?_, fun W hW => ?_, ?_⟩; rotate_left; (· (have d0 := hW.kc x0; have d1 := hW.kc x1; have d2 := hW.kc b1; go_simp; (try with_reducible rfl)))))); (try simp only [Act.put, zA, zB, zC]))
      clear x0 x1 b1
      refine run_end (L := []) rfl (fun W6 hW6 => ?_)
      have HT6 := zH (HT.out.trans hW6)
      clear hW6 HT
      have HT := HT6
      clear HT6
      go_wp2
      go_roundw
      case rel => exact ⟨1, by omega, by go_num, fun i hi hl => if e : i + 1 = 1 then by (obtain rfl : i = 1 - 1 := by omega); exact HLV.out else HA.out i (by omega) hl, HTR.out.trans (HS3.out.trans HT.out)⟩
      case measure => simp [intOf]; omega
     | succ j =>
      have hpre := HPRE.out j rfl
      obtain ⟨g1, g2⟩ := hpre
      have hjx : (0 : Int) ≤ (j : Int) ∧ (j : Int) < ((m + 1 : Nat) : Int) := by omega
      have hjx2 : (j : Int) < (m : Int) + 1 := by omega
      have hwj : IntKind.i64.wrap (j : Int) = (j : Int) := by rw [IntKind.wrap_i64]; omega
      have hd0 : decide ((0 : Int) < ((j + 1 : Nat) : Int)) = true := decide_eq_true (by omega)
      have HLC := zH (show stageB s.stages (j + 1) = decide (xu < s.stages[j].cover) by
       rw [HLB.out, w1, w2]
       simp only [List.getElem?_eq_getElem (show j < s.stages.length by omega), Bool.true_and])
      obtain ⟨y, hy⟩ : ∃ y, y = s.stages[j]'(by have := HM.out.1; omega) := ⟨_, rfl⟩
      rw [← hy] at g1 g2 HLC
      obtain ⟨yu, yp⟩ := y
      dsimp only at g1 g2 HLC
      have g1 := HT.out.kc (HS3.out.kc g1)
      have g2 := HT.out.kc (HS3.out.kc g2)
      clear hy w1 w2
      by_cases c1 : yu ≤ xu
      ·have d1 : decide (yu ≤ xu) = true := decide_eq_true c1
       have HR := zH (HNO.out (by rw [HLC.out, decide_eq_false (by omega)]))
       clear c1
       have x0 := (HB3.out.step HT.out).cell 0
       have x1 := (HB3.out.step HT.out).cell 1
       have b1 := HT.out.kc HBC.out
       simp only [zD, zE] at x0 x1
       repeat ((first | (refine run_off rfl rfl (by rfl) ?_) | (refine run_chain_off rfl rfl (by rfl) (K0_mono _) ?_) | ((refine run_want rfl rfl (by rfl) ⟨?_, fun W hW => ?_, ?_⟩; rotate_left; (· (have d0 := hW.kc x0; have d1 := hW.kc x1; have d2 := hW.kc b1; have d3 := hW.kc g1; have d4 := hW.kc g2; go_simp; (try with_reducible rfl)))))); (try simp only [Act.put, zA, zB, zC]))
       clear x0 x1 b1
       refine run_end (L := []) rfl (fun W6 hW6 => ?_)
       have HT6 := zH (HT.out.trans hW6)
       clear hW6 HT
       have HT := HT6
       clear HT6
       go_wp2
       go_ret
       exact ⟨by rw [HR.out]; rfl, HS.out.trans (HTR.out.trans (HS3.out.trans HT.out))⟩
      have d1 : decide (yu ≤ xu) = false := decide_eq_false c1
      have HLV := zH (show stageB s.stages (j + 1 + 1 - 1) = true by (show stageB s.stages (j + 1) = true); rw [HLC.out, decide_eq_true (show xu < yu by omega)])
      clear c1
      have x0 := (HB3.out.step HT.out).cell 0
      have x1 := (HB3.out.step HT.out).cell 1
      have b1 := HT.out.kc HBC.out
      simp only [zD, zE] at x0 x1
      repeat ((first | (refine run_off rfl rfl (by rfl) ?_) | (refine run_chain_off rfl rfl (by rfl) (K0_mono _) ?_) | ((refine run_want rfl rfl (by rfl) ⟨?_, fun W hW => ?_, ?_⟩; rotate_left; (· (have d0 := hW.kc x0; have d1 := hW.kc x1; have d2 := hW.kc b1; have d3 := hW.kc g1; have d4 := hW.kc g2; go_simp; (try with_reducible rfl)))))); (try simp only [Act.put, zA, zB, zC]))
      clear x0 x1 b1
      refine run_end (L := []) rfl (fun W6 hW6 => ?_)
      have HT6 := zH (HT.out.trans hW6)
      clear hW6 HT
      have HT := HT6
      clear HT6
      go_wp2
      go_roundw
      case rel => exact ⟨j + 1 + 1, by omega, by go_num, fun i hi hl => if e : i + 1 = j + 1 + 1 then by (obtain rfl : i = j + 1 + 1 - 1 := by omega); exact HLV.out else HA.out i (by omega) hl, HTR.out.trans (HS3.out.trans HT.out)⟩
      case measure => simp [intOf]; omega
    ·have HT := HTR
     clear HTR
     have HST0 := zH (show (List.range (s.stages.length - 1)).all (stageB s.stages) = true by
      rw [List.all_eq_true]
      intro i hi
      rw [List.mem_range] at hi
      exact HA.out i (by have := HM.out.1; omega) (by omega))
     clear HA
     obtain ⟨q1, d1, bb', oo', he, _, _, hp, hc, hbl⟩ := (SL.go HV2.out HT.out).stgs
     injection he with he1 _ he3
     subst he3
     have hpp := hp (by have := HM.out; omega)
     rw [hpp] at he1
     injection he1 with he1
     injection he1 with he4 he5 _
     subst he4 he5
     have hL := HM.out.1
     obtain ⟨e1, e2⟩ := hc m (by omega)
     have HLA := zH (show siteB s = (decide (s.stages[m]'(by omega) = ⟨0, 0⟩) && withinB s.openS 0 ((m : Int) - 1)) by
      unfold siteB
      rw [HQ.out.1, HQ.out.2.1, HQ.out.2.2.1, HQ.out.2.2.2, HLV0.out, HST0.out, show s.stages.length - 1 = m by omega, List.getElem?_eq_getElem (by omega), show (s.stages.length : Int) - 2 = (m : Int) - 1 by omega]
      simp)
     obtain ⟨z, hz⟩ : ∃ z, z = s.stages[m]'(by omega) := ⟨_, rfl⟩
     rw [← hz] at e1 e2 HLA
     obtain ⟨za, zb⟩ := z
     dsimp only at e1 e2
     have b2 := (HB.out.step HT.out).cell 2
     have b3 := (HB.out.step HT.out).cell 3
     simp only [zD, zE] at b2 b3
     rw [hL] at b2
     have hwo : IntKind.i64.wrap ((m : Int) - 1) = (m : Int) - 1 := by rw [IntKind.wrap_i64]; omega
     clear hp hpp hc hbl hz hL
     by_cases ha : za = 0
     rotate_left
     ·have dz : (za == 0) = false := by simpa using ha
      have dv : veq za zb 0 0 = false := by unfold veq; rw [dz]; rfl
      have HR := zH (show siteB s = false by
       rw [HLA.out, decide_eq_false (fun h => ha (by injection h))]; rfl)
      clear ha
      go_wp2
      go_ret
      exact ⟨by rw [HR.out]; rfl, HS.out.trans HT.out⟩
     by_cases hb : zb = 0
     rotate_left
     ·subst ha
      have dz : (zb == 0) = false := by simpa using hb
      have dv : veq 0 zb 0 0 = false := by unfold veq; rw [dz]; rfl
      have HR := zH (show siteB s = false by
       rw [HLA.out, decide_eq_false (fun h => hb (by injection h))]; rfl)
      clear hb
      go_wp2
      go_ret
      exact ⟨by rw [HR.out]; rfl, HS.out.trans HT.out⟩
     subst ha hb
     have HR := zH (show siteB s = withinB s.openS 0 ((m : Int) - 1) by rw [HLA.out]; rfl)
     go_wp2_with fail
     refine (gale.within_any _ _ _ _).mono ?_
     rintro e wx ⟨rfl, rfl⟩
     go_wp2
     go_ret
     exact ⟨by rw [HR.out]; rfl, HS.out.trans HT.out⟩
theorem valid_ok (s : Site) (u : Value) (w : World) (hu : AV (fun _ => False) w u s) (hs : siteB s = true) : Calls Tryz.prog 42 #[u] w fun e w' => e = .returned (.bool true) ∧ Step w w' := by
 have h := siteValid_any s u w hu
 rw [hs] at h
 exact h
end Go.Proofs.YtfhmdpicoccnfaaGreat
namespace Go.Proofs.YtfhmdpicoccnfaaGreat
set_option linter.unusedSimpArgs false
set_option linter.unusedVariables false
open Go.RowKit Go.BT
section
variable {α : Type} [Rep α] {S : Nat → Prop} {base : Nat} {P : Program} {w : World} {u : Value} {m : List α} {t e : TypeId} {z : Value} {bytes : Nat}
theorem own_apart {v : Value} {l : List α} {g : Nat} {cs : List Value} {T : TypeId} (h : OwnL S base e w v l) (hb : Bx w g cs T) (hne : e ≠ T) : v.ownBlock ≠ some g := by
 obtain ⟨xs, ⟨_, ho⟩, _⟩ := h
 rcases ho with ⟨rfl, _⟩ | ⟨g', cap, cur, rfl, _, hg, _⟩
 ·simp [Value.ownBlock]
 ·intro q
  simp [Value.ownBlock] at q
  subst q
  unfold Bx at hb
  rw [hg] at hb
  injection hb with hb
  injection hb with _ h2 _
  exact hne h2
end
end Go.Proofs.YtfhmdpicoccnfaaGreat
namespace Go.Proofs.YtfhmdpicoccnfaaGreat
set_option linter.unusedSimpArgs false
set_option linter.unusedVariables false
open Go.RowKit Go.BT
structure TentK (base : Nat) (w : World) (g c : Nat) (hs : List HeadV) (t : List Head) : Prop where
 cap : t.length ≤ c
 max : t.length ≤ 9223372036854775807
 ge : base ≤ g
 bx : ∃ cs, Bx w g cs 88
 inner : Inner base w hs t
 cells : ∀ i (h1 : i < hs.length), w.cell? ⟨g, i * 3, none⟩ = some (.int .i64 hs[i].area) ∧ w.cell? ⟨g, i * 3 + 1, none⟩ = some (.int .i64 hs[i].bears) ∧ w.cell? ⟨g, i * 3 + 2, none⟩ = some hs[i].val
theorem TentO.k {base : Nat} {w : World} {v : Value} {t : List Head} (h : TentO base w v t) (ht : 0 < t.length) : ∃ g c hs, v = .slice (some ⟨g, 0, none⟩) t.length c ∧ TentK base w g c hs t := by
 obtain ⟨hs, ho, hi⟩ := h
 have hsl := ho.sl (fun _ _ _ h => h)
 obtain ⟨xs, ⟨hx, ho⟩, hr⟩ := ho
 have hl := hi.len
 rcases ho with ⟨_, h0⟩ | ⟨g, cap, cur, rfl, hb, hg, hle, hcap, hsz, hcur⟩
 ·omega
 obtain ⟨p, c', b, o, hv, h1, h2, hp, hc⟩ := hsl
 have hbo := hp (by omega)
 injection hv with e1 e2 e3
 rw [← e1] at hbo
 injection hbo with hbo
 injection hbo with hbo1 hbo2
 subst hbo1 hbo2
 refine ⟨g, cap, hs, by rw [hl], by omega, by omega, hb, ⟨cur.toList, by unfold Bx; simpa using hg⟩, hi, fun i h1 => ?_⟩
 obtain ⟨_, _, cs, ⟨hr1, _⟩, hcs⟩ := hc i h1
 subst hr1
 have k3 : Rep.k HeadV = 3 := rfl
 rw [k3] at hcs
 exact ⟨by have := hcs 0 _ rfl; simpa using this, by have := hcs 1 _ rfl; simpa using this, by have := hcs 2 _ rfl; simpa using this⟩
theorem TentK.lt {base : Nat} {w : World} {g c : Nat} {hs : List HeadV} {t : List Head} (h : TentK base w g c hs t) : g < w.heap.size := by obtain ⟨cs, hb⟩ := h.bx; exact hb.lt
theorem TentK.ne {base : Nat} {w : World} {g c : Nat} {hs : List HeadV} {t : List Head} (h : TentK base w g c hs t) {i : Nat} (h1 : i < hs.length) : hs[i].val.ownBlock ≠ some g := by
 obtain ⟨cs, hb⟩ := h.bx
 exact own_apart (h.inner.at_ i h1 (by have := h.inner.len; omega)).2.2 hb (by decide)
theorem TentK.step {base : Nat} {w w' : World} {g c : Nat} {hs : List HeadV} {t : List Head} (h : TentK base w g c hs t) (k : Step w w') : TentK base w' g c hs t :=
 ⟨h.cap, h.max, h.ge, by obtain ⟨cs, hb⟩ := h.bx; exact ⟨cs, hb.step k⟩, h.inner.step k, fun i h1 => ⟨k.kc (h.cells i h1).1, k.kc (h.cells i h1).2.1, k.kc (h.cells i h1).2.2⟩⟩
theorem tent_sl {w : World} {g c : Nat} {t : List Head} (hg : g < w.heap.size) (hc : t.length ≤ c) (hm : t.length ≤ 9223372036854775807) (h : ∀ i (hi : i < t.length), ∃ q, w.cell? ⟨g, i * 3, none⟩ = some (.int .i64 t[i].area) ∧ w.cell? ⟨g, i * 3 + 1, none⟩ = some (.int .i64 t[i].bears) ∧ w.cell? ⟨g, i * 3 + 2, none⟩ = some q ∧ SL (fun _ => False) w q t[i].guys) : SL (fun _ => False) w (.slice (some ⟨g, 0, none⟩) t.length c) t := by
 refine ⟨_, c, g, 0, rfl, hc, hm, fun _ => rfl, fun i hi => ?_⟩
 obtain ⟨q, h1, h2, h3, h4⟩ := h i hi
 have k3 : Rep.k Head = 3 := rfl
 refine ⟨hg, id, [.int .i64 t[i].area, .int .i64 t[i].bears, q], ⟨q, rfl, h4⟩, fun j v hj => ?_⟩
 rw [k3]
 match j, hj with
 | 0, hj => injection hj with e; subst e; simpa using h1
 | 1, hj => injection hj with e; subst e; simpa using h2
 | 2, hj => injection hj with e; subst e; simpa using h3
 | (n + 3), hj => simp at hj
theorem TentK.guys {base : Nat} {w w' : World} {g c : Nat} {hs : List HeadV} {t : List Head} (h : TentK base w g c hs t) {i : Nat} (h1 : i < hs.length) (h2 : i < t.length) {b : Nat} (hb : hs[i].val.ownBlock ≠ some b) (hk : Keeps (fun j => j = b) w w') : SL (fun _ => False) w' hs[i].val t[i].guys :=
 (((ownL_flat (fun j => j = b) (h.inner.at_ i h1 h2).2.2).slb (fun g' hg' e => by subst e; exact hb hg')).keep hk).weak (fun _ _ h => h.elim)
theorem TentK.area {base : Nat} {w : World} {g c : Nat} {hs : List HeadV} {t : List Head} (h : TentK base w g c hs t) {k : Nat} (hk : k < t.length) (x : Int) : SL (fun _ => False) (w.setCell ⟨g, k * 3, none⟩ (.int .i64 x)) (.slice (some ⟨g, 0, none⟩) t.length c) (t.set k ⟨x, t[k].bears, t[k].guys⟩) := by
 have hl := h.inner.len
 have hw := Wrote.setCell w g (k * 3) (.int .i64 x)
 rw [show t.length = (t.set k ⟨x, t[k].bears, t[k].guys⟩).length by simp]
 refine tent_sl (by rw [hw.size]; exact h.lt) (by simpa using h.cap) (by simpa using h.max) fun i hi => ?_
 have hi' : i < t.length := by simpa using hi
 have h1 : i < hs.length := by omega
 obtain ⟨c1, c2, c3⟩ := h.cells i h1
 obtain ⟨a1, a2, _⟩ := h.inner.at_ i h1 hi'
 have hg := h.guys h1 hi' (h.ne h1) hw.keeps
 refine ⟨hs[i].val, ?_, ?_, ?_, ?_⟩
 ·by_cases q : k = i
  ·subst q
   rw [World.cell?_setCell_same _ _ _ c1]; simp
  ·rw [World.cell?_setCell_other _ _ _ _ (by intro e; injection e with _ e _; omega), c1, a1]
   simp [List.getElem_set, q]
 ·rw [World.cell?_setCell_other _ _ _ _ (by intro e; injection e with _ e _; omega), c2, a2]
  by_cases q : k = i
  ·subst q; simp
  ·simp [List.getElem_set, q]
 ·rw [World.cell?_setCell_other _ _ _ _ (by intro e; injection e with _ e _; omega), c3]
 ·by_cases q : k = i
  ·subst q; simpa using hg
  ·simpa [List.getElem_set, q] using hg
theorem TentK.row {base : Nat} {w : World} {g c : Nat} {hs : List HeadV} {t : List Head} (h : TentK base w g c hs t) {k : Nat} (h1 : k < hs.length) (h2 : k < t.length) (h0 : 0 < t[k].guys.length) :
  ∃ b cb, hs[k].val = .slice (some ⟨b, 0, none⟩) t[k].guys.length cb ∧ t[k].guys.length ≤ cb ∧ b ≠ g ∧ base ≤ b ∧ b < w.heap.size ∧ (∀ o, w.frozen? ⟨b, o, none⟩ = false) ∧
   ∀ i (hi : i < t[k].guys.length), w.cell? ⟨b, i * 5, none⟩ = some (.int .i64 t[k].guys[i].x) ∧ w.cell? ⟨b, i * 5 + 1, none⟩ = some (.int .i64 t[k].guys[i].y) ∧ w.cell? ⟨b, i * 5 + 2, none⟩ = some (.int .i64 t[k].guys[i].down) ∧ w.cell? ⟨b, i * 5 + 3, none⟩ = some (.int .i64 t[k].guys[i].soil) ∧ w.cell? ⟨b, i * 5 + 4, none⟩ = some (.int .i64 t[k].guys[i].depth) := by
 have ho := (h.inner.at_ k h1 h2).2.2
 have hne := h.ne h1
 have hsl := ho.slb (S := fun _ => False) (fun _ _ h => h)
 obtain ⟨xs, ⟨hx, ho⟩, hr⟩ := ho
 rcases ho with ⟨_, e⟩ | ⟨b, cap, cur, hv, hb, hg, hle, hcap, hsz, hcur⟩
 ·omega
 obtain ⟨p, c', b', o, hv', _, _, hp, hc, _⟩ := hsl.guys
 obtain rfl := hp h0
 rw [hv] at hv' hne
 injection hv' with e1 e2 e3
 injection e1 with e1
 injection e1 with e1 e4
 subst e1 e4
 refine ⟨b, cap, hv, hle, fun e => hne (by rw [e]; rfl), hb, (Array.getElem?_eq_some_iff.1 hg).1, fun o => by simp [World.frozen?, hg], fun i hi => ?_⟩
 have := hc i hi
 simpa using this
theorem TentK.depth {base : Nat} {w : World} {g c : Nat} {hs : List HeadV} {t : List Head} (h : TentK base w g c hs t) {k : Nat} (h1 : k < hs.length) (h2 : k < t.length) {b cb : Nat} (hv : hs[k].val = .slice (some ⟨b, 0, none⟩) t[k].guys.length cb) (hcb : t[k].guys.length ≤ cb) (hne : b ≠ g) (hlt : b < w.heap.size)
  (hc : ∀ i (hi : i < t[k].guys.length), w.cell? ⟨b, i * 5, none⟩ = some (.int .i64 t[k].guys[i].x) ∧ w.cell? ⟨b, i * 5 + 1, none⟩ = some (.int .i64 t[k].guys[i].y) ∧ w.cell? ⟨b, i * 5 + 2, none⟩ = some (.int .i64 t[k].guys[i].down) ∧ w.cell? ⟨b, i * 5 + 3, none⟩ = some (.int .i64 t[k].guys[i].soil) ∧ w.cell? ⟨b, i * 5 + 4, none⟩ = some (.int .i64 t[k].guys[i].depth))
  {j : Nat} (hj : j < t[k].guys.length) (d : Int) : SL (fun _ => False) (w.setCell ⟨b, j * 5 + 4, none⟩ (.int .i64 d)) (.slice (some ⟨g, 0, none⟩) t.length c) (t.set k ⟨t[k].area, t[k].bears, t[k].guys.set j ⟨t[k].guys[j].x, t[k].guys[j].y, t[k].guys[j].down, t[k].guys[j].soil, d⟩⟩) := by
 have hl := h.inner.len
 have hw := Wrote.setCell w b (j * 5 + 4) (.int .i64 d)
 obtain ⟨cs, hbx⟩ := h.bx
 have hgl : t[k].guys.length ≤ 9223372036854775807 := by
  obtain ⟨_, _, _, _, _, _, hm, _⟩ := ((h.inner.at_ k h1 h2).2.2.slb (S := fun _ => False) (fun _ _ h => h)).guys
  exact hm
 rw [show t.length = (t.set k ⟨t[k].area, t[k].bears, t[k].guys.set j ⟨t[k].guys[j].x, t[k].guys[j].y, t[k].guys[j].down, t[k].guys[j].soil, d⟩⟩).length by simp]
 refine tent_sl (by rw [hw.size]; exact h.lt) (by simpa using h.cap) (by simpa using h.max) fun i hi => ?_
 have hi' : i < t.length := by simpa using hi
 have hih : i < hs.length := by omega
 obtain ⟨c1, c2, c3⟩ := h.cells i hih
 obtain ⟨a1, a2, _⟩ := h.inner.at_ i hih hi'
 have far : ∀ o, (w.setCell ⟨b, j * 5 + 4, none⟩ (.int .i64 d)).cell? ⟨g, o, none⟩ = w.cell? ⟨g, o, none⟩ := fun o => World.cell?_setCell_other _ _ _ _ (by intro e; injection e with e _ _; exact hne e)
 refine ⟨hs[i].val, ?_, ?_, ?_, ?_⟩
 ·rw [far, c1, a1]
  by_cases q : k = i
  ·subst q; simp
  ·simp [List.getElem_set, q]
 ·rw [far, c2, a2]
  by_cases q : k = i
  ·subst q; simp
  ·simp [List.getElem_set, q]
 ·rw [far, c3]
 ·by_cases q : k = i
  ·subst q
   rw [hv]
   simp only [List.getElem_set_self]
   refine ⟨_, cb, b, 0, by rw [List.length_set], by simpa using hcb, by simpa using hgl, fun _ => rfl, fun m hm => ?_⟩
   have hm' : m < t[k].guys.length := by simpa using hm
   obtain ⟨d1, d2, d3, d4, d5⟩ := hc m hm'
   have k5 : Rep.k Guy = 5 := rfl
   rw [k5]
   by_cases r : j = m
   ·subst r
    simp only [List.getElem_set_self]
    refine ⟨by rw [hw.size]; exact hlt, id, _, rfl, fun u v hu => ?_⟩
    match u, hu with
    | 0, hu => injection hu with e; subst e; rw [World.cell?_setCell_other _ _ _ _ (by intro e; injection e with _ e _; omega)]; simpa using d1
    | 1, hu => injection hu with e; subst e; rw [World.cell?_setCell_other _ _ _ _ (by intro e; injection e with _ e _; omega)]; simpa using d2
    | 2, hu => injection hu with e; subst e; rw [World.cell?_setCell_other _ _ _ _ (by intro e; injection e with _ e _; omega)]; simpa using d3
    | 3, hu => injection hu with e; subst e; rw [World.cell?_setCell_other _ _ _ _ (by intro e; injection e with _ e _; omega)]; simpa using d4
    | 4, hu => injection hu with e; subst e; simpa using World.cell?_setCell_same _ _ _ d5
    | (n + 5), hu => simp at hu
   ·rw [List.getElem_set_ne r]
    refine ⟨by rw [hw.size]; exact hlt, id, _, rfl, fun u v hu => ?_⟩
    have hul : u < 5 := by have := (List.getElem?_eq_some_iff.1 hu).1; simpa using this
    rw [World.cell?_setCell_other _ _ _ _ (by intro e; injection e with _ e _; omega)]
    match u, hu with
    | 0, hu => injection hu with e; subst e; simpa using d1
    | 1, hu => injection hu with e; subst e; simpa using d2
    | 2, hu => injection hu with e; subst e; simpa using d3
    | 3, hu => injection hu with e; subst e; simpa using d4
    | 4, hu => injection hu with e; subst e; simpa using d5
    | (n + 5), hu => simp at hu
  ·have hg := h.guys hih hi' (b := b) (h.inner.apart k i h1 hih q b (by rw [hv]; rfl)) hw.keeps
   simpa [List.getElem_set, q] using hg
theorem TentK.more {base base' : Nat} {w w1 : World} {g c : Nat} {hs : List HeadV} {t : List Head} (h : TentK base w g c hs t) {k : Nat} (h1 : k < hs.length) (h2 : k < t.length) {p : Option Addr} {c1 : Nat} {gs : List Guy} (hown : OwnL (fun _ => False) base' 85 w1 (.slice p gs.length c1) gs) (hgr : w.grownBy w1 hs[k].val.ownBlock) :
  SL (fun _ => False) (w1.setCell ⟨g, k * 3 + 2, none⟩ (.slice p gs.length c1)) (.slice (some ⟨g, 0, none⟩) t.length c) (t.set k ⟨t[k].area, t[k].bears, gs⟩) := by
 have hl := h.inner.len
 obtain ⟨cs, hbx⟩ := h.bx
 have hlt := h.lt
 have hgs : w.heap.size ≤ w1.heap.size := hgr.size
 have hbk : w1.heap[g]? = w.heap[g]? := hgr.block g hlt (fun e => h.ne h1 e.symm)
 have hbx1 : Bx w1 g cs 88 := by unfold Bx at *; rw [hbk]; exact hbx
 have hc1 : ∀ o, w1.cell? ⟨g, o, none⟩ = w.cell? ⟨g, o, none⟩ := fun o => by rw [hbx1.cell, hbx.cell]
 have hw := Wrote.setCell w1 g (k * 3 + 2) (.slice p gs.length c1)
 rw [show t.length = (t.set k ⟨t[k].area, t[k].bears, gs⟩).length by simp]
 refine tent_sl (by rw [hw.size]; omega) (by simpa using h.cap) (by simpa using h.max) fun i hi => ?_
 have hi' : i < t.length := by simpa using hi
 have hih : i < hs.length := by omega
 obtain ⟨d1, d2, d3⟩ := h.cells i hih
 rw [← hc1] at d1 d2 d3
 obtain ⟨a1, a2, a3⟩ := h.inner.at_ i hih hi'
 by_cases q : k = i
 ·subst q
  have hne := own_apart hown hbx1 (by decide)
  refine ⟨.slice p gs.length c1, ?_, ?_, ?_, ?_⟩
  ·rw [World.cell?_setCell_other _ _ _ _ (by intro e; injection e with _ e _; omega), d1, a1]; simp
  ·rw [World.cell?_setCell_other _ _ _ _ (by intro e; injection e with _ e _; omega), d2, a2]; simp
  ·rw [World.cell?_setCell_same _ _ _ d3]
  ·simp only [List.getElem_set_self]
   exact (((ownL_flat (fun j => j = g) hown).slb (fun g' hg' e => by subst e; exact hne hg')).keep hw.keeps).weak (fun _ _ h => h.elim)
 ·have hap := h.inner.apart k i h1 hih q
  have ho := ownL_grown a3 hgr (fun g' hg' e => hap g' e hg')
  have hne := own_apart ho hbx1 (by decide)
  have hgd := (((ownL_flat (fun j => j = g) ho).slb (fun g' hg' e => by subst e; exact hne hg')).keep hw.keeps).weak (T := fun _ => False) (fun _ _ h => h.elim)
  refine ⟨hs[i].val, ?_, ?_, ?_, ?_⟩
  ·rw [World.cell?_setCell_other _ _ _ _ (by intro e; injection e with _ e _; omega), d1, a1]; simp [List.getElem_set, q]
  ·rw [World.cell?_setCell_other _ _ _ _ (by intro e; injection e with _ e _; omega), d2, a2]; simp [List.getElem_set, q]
  ·rw [World.cell?_setCell_other _ _ _ _ (by intro e; injection e with _ e _; omega), d3]
  ·simpa [List.getElem_set, q] using hgd
theorem SL_avoid {α : Type} [Rep α] {S : Nat → Prop} {w : World} {v : Value} {l : List α} (h : SL S w v l) (g : Nat) (hg : w.heap.size ≤ g) (p : Option Addr) (n c : Nat) (hp : (Value.slice p n c).ownBlock = some g) : SL (avoid S (.slice p n c)) w v l :=
 h.weak fun j hj ht => ht.elim id fun e => by rw [hp] at e; injection e with e; omega
theorem clone_guys (S : Nat → Prop) (l : List Guy) (v : Value) (w : World) (h : SL S w v l) (hl : l.length ≤ 1000000) :
  Calls Tryz.prog 85 #[v] w fun e w' => ∃ v', e = .returned v' ∧ OwnL (Old w) w.heap.size 85 w' v' l ∧ Step w w' := by
 have hq : ∀ (w : World) (a : Option Addr) (n c n' c' : Nat), (binOp .eql 86 (.slice a n c) (.slice none n' c')).run Tryz.prog w = .ok (.bool a.isNone) w := fun w a n c n' c' => Lib.run_eql_slice_nil w _ _ a n c n' c' Tryz.underlying86
 obtain ⟨p, c, rfl⟩ := h.form
 cases p with
 | none =>
  have h0 : l = [] := by
   obtain ⟨p', c', b, o, he, _, _, hp, _⟩ := h
   injection he with he _ _
   cases l with
   | nil => rfl
   | cons x l => rw [← he] at hp; have := hp (by simp); cases this
  subst h0
  have hc : (none : Option Addr).isNone = true := rfl
  go_enter Tryz.func85, Tryz.ntmps85
  go_wp2
  go_ret
  exact ⟨_, rfl, OwnL.nil _ _ _ _, Step.refl _⟩
 | some a =>
  have hc : (some a : Option Addr).isNone = false := rfl
  go_enter Tryz.func85, Tryz.ntmps85
  go_wp2_with (at_builtin; refine wpl_append (α := Guy) (S := Old w) (base := w.heap.size) (v := .slice (some ⟨w.heap.size, 0, none⟩) 0 0) (l := []) (m := l) eiGuys rfl _ _ rfl rfl rfl ⟨[], World.ownsRow_lit w #[] 0 (Nat.le_refl _) (by simp [maxLen]) (by simp), fun i h => absurd h (by simp)⟩ (SL.flat _ (h.keep (.alloc _ _))) l.length (by simp) l rfl ?_ ?_ ?_ ?_)
  ·simp only [maxLen]; omega
  ·omega
  ·simp
  intro p' c' w' hown hg
  go_wp2
  go_ret
  exact ⟨_, rfl, hown, .of (((Below.refl _ w).alloc (Nat.le_refl _) _).grown hg (by simp) (by simp [Value.ownBlock]))⟩
end Go.Proofs.YtfhmdpicoccnfaaGreat
namespace Go.BT
open Go.RowKit
section
variable {P : Program} {fn : Func} {R : Ending → World → Prop} {a : Act} {w : World}
theorem ret_ttc {t u x : Tmp} {T T' : TypeId} {k g : Nat} {cs : List Value} (hr : fn.results = #[.tmp u, .tmp x, .cell t T]) (hi : SI P T k)
  (ht : a.tmps.getD t undef = .pointer (some ⟨g, 0, none⟩)) (hb : Bx w g cs T') (hk : cs.length = k) (hd : a.defers = []) (hR : R (.returned (.tuple #[a.tmps.getD u undef, a.tmps.getD x undef, .agg cs.toArray])) w) : bodyPost P fn R .ret a w := by
 refine bodyPost_ret (v := .tuple #[a.tmps.getD u undef, a.tmps.getD x undef, .agg cs.toArray]) ?_ hd hR
 have ht' : a.tmps[t]?.getD undef = .pointer (some ⟨g, 0, none⟩) := by simpa using ht
 simp [results, hr, ht', asAddr, run_loadVar_bx hi hb hk]
theorem ret_ttct {t u x y : Tmp} {T T' : TypeId} {k g : Nat} {cs : List Value} (hr : fn.results = #[.tmp u, .tmp x, .cell t T, .tmp y]) (hi : SI P T k)
  (ht : a.tmps.getD t undef = .pointer (some ⟨g, 0, none⟩)) (hb : Bx w g cs T') (hk : cs.length = k) (hd : a.defers = []) (hR : R (.returned (.tuple #[a.tmps.getD u undef, a.tmps.getD x undef, .agg cs.toArray, a.tmps.getD y undef])) w) : bodyPost P fn R .ret a w := by
 refine bodyPost_ret (v := .tuple #[a.tmps.getD u undef, a.tmps.getD x undef, .agg cs.toArray, a.tmps.getD y undef]) ?_ hd hR
 have ht' : a.tmps[t]?.getD undef = .pointer (some ⟨g, 0, none⟩) := by simpa using ht
 simp [results, hr, ht', asAddr, run_loadVar_bx hi hb hk]
end
theorem weakK_some {F : List Vec} {area : Int} {wind : List Vec} {j : Nat} (hj : j < wind.length) (h1 : ∀ i (hi : i < j) (hl : i < wind.length), balL F (timesV wind[i] area) = true) (h2 : balL F (timesV wind[j] area) = false) : weakK F area wind = some j := by
 unfold weakK
 rw [List.findIdx?_eq_some_iff_getElem]
 exact ⟨hj, by simp [h2], fun i hi => by simp [h1 i hi (by omega)]⟩
theorem weakK_no {F : List Vec} {area : Int} {wind : List Vec} (h1 : ∀ i (hl : i < wind.length), balL F (timesV wind[i] area) = true) : weakK F area wind = none := by
 rw [weakK_none, List.all_eq_true]
 intro c hc
 obtain ⟨i, hi, rfl⟩ := List.getElem_of_mem hc
 exact h1 i hi
def TooWeak (l : List Tst) (t : List Head) (wind : List Vec) (i k x y : Int) : Prop := ∀ (a b : Nat) (ha : a < t.length) (hb : b < wind.length), i = a → k = b → helpL (forcesL l t[a].guys) ⟨x, y⟩ < dotV ⟨x, y⟩ (timesV wind[b] t[a].area) ∧ (-500000 ≤ x ∧ x ≤ 500000) ∧ -500000 ≤ y ∧ y ≤ 500000
end Go.BT
namespace Go.Proofs.YtfhmdpicoccnfaaGreat
set_option linter.unusedSimpArgs false
set_option linter.unusedVariables false
open Go.RowKit Go.BT
theorem weakest_any (S : Nat → Prop) (l : List Tst) (t : List Head) (wind : List Vec) (v u x : Value) (w : World) (hv : SL S w v l) (hu : SL S w u t) (hx : SL S w x wind) (hl : l.all tstB = true) (ht : t.all headB = true) (hw : wind.all cornerB = true) :
  Calls Tryz.prog 48 #[u, v, x] w fun e w' => ∃ a b : Int, e = .returned (.tuple #[.int .i64 (weakP l t wind).1, .int .i64 (weakP l t wind).2, .agg #[.int .i64 a, .int .i64 b]]) ∧ (standB l t wind = true → a = 0 ∧ b = 0) ∧ TooWeak l t wind (weakP l t wind).1 (weakP l t wind).2 a b ∧ Step w w' := by
 have hmt := hu.len
 have hmw := hx.len
 obtain ⟨W0, hW0⟩ : ∃ W, W = w.alloc (.cells #[.int .i64 0, .int .i64 0] 52) := ⟨_, rfl⟩
 have hb : Bx W0 w.heap.size [.int .i64 0, .int .i64 0] 52 := by subst hW0; exact Bx.new w [_, _] _
 have hS : Step w W0 := by subst hW0; exact Step.alloc _ _
 have HV := zH (SL.go hv hS)
 obtain ⟨pu, cu, bu, ou, rfl, _, _, hpu, hcu, _⟩ := (SL.go hu hS).heads
 obtain ⟨px, cx, bx, ox, rfl, _, _, hpx, hcx, _⟩ := (SL.go hx hS).vecs
 have HB := zH hb
 have HS := zH hS
 have HW := zH hW0
 have HPU := zH (And.intro hpu hcu)
 have HPX := zH (And.intro hpx hcx)
 have HL := zH (And.intro hl (And.intro ht hw))
 obtain ⟨pv, cv, rfl⟩ := hv.form
 clear hb hS hW0 hv hu hx hpu hcu hpx hcx hl ht hw
 go_enter Tryz.func48, Tryz.ntmps48
 go_wp2
 rw [← HW.out]
 go_loopw [18] (fun i wr => ∃ k : Nat, k ≤ t.length ∧ i = .int .i64 k ∧ weakFrom l wind (t.drop k) k = weakP l t wind ∧ Step W0 wr) (fun i _ => t.length - (intOf i).toNat)
 case atStart => exact ⟨0, Nat.zero_le _, rfl, rfl, Step.refl _⟩
 case round =>
  obtain ⟨k, hk, rfl, hwk, hT⟩ := hrel
  have HWK := zH hwk
  have HT := zH hT
  clear hwk hT
  by_cases hlt : k < t.length
  ·obtain rfl := HPU.out.1 (by omega)
   obtain ⟨c2, e1, e2, e3, e4⟩ := HPU.out.2 k hlt
   have e1 := HT.out.kc e1
   have e2 := HT.out.kc e2
   have e3 := HT.out.kc e3
   have hix : (0 : Int) ≤ (k : Int) ∧ (k : Int) < (t.length : Int) := by omega
   have hhd := head_parts (all_get HL.out.2.1 hlt)
   have HST := zH (weakFrom_step (l := l) (wind := wind) hlt)
   obtain ⟨h, hh⟩ : ∃ h, h = t[k] := ⟨_, rfl⟩
   rw [← hh] at e1 e2 e4 hhd HST
   have HH := zH hh
   obtain ⟨pg, cg, rfl⟩ := e4.form
   have HHV := zH (show AV (fun _ => False) wr (.agg #[.int .i64 h.area, .int .i64 h.bears, .slice pg h.guys.length cg]) h from ⟨_, rfl, _, rfl, SL.go e4 HT.out⟩)
   have HHD := zH hhd
   have HSM := zH (forces_small HL.out.1 hhd.2.2.2)
   have HFL := zH (show (forcesL l h.guys).length ≤ 8 by rw [forces_len]; exact hhd.2.2.1)
   have hsa := Step.alloc wr (.cells #[.int .i64 h.area, .int .i64 h.bears, .slice pg h.guys.length cg] 88)
   have hcall := zH (measure_any (fun _ => False) l h (.slice pv l.length cv) (.agg #[.int .i64 h.area, .int .i64 h.bears, .slice pg h.guys.length cg]) _ (SL.go HV.out (HT.out.trans hsa)) (AV.go HHV.out hsa) HL.out.1 hhd.2.2.2 (by omega))
   clear hh e4 hhd hsa
   go_wp2_with fail
   refine hcall.out.mono ?_
   rintro e wm ⟨vm, rfl, hmv, hSm⟩
   obtain ⟨F, hF⟩ : ∃ F, F = forcesL l h.guys := ⟨_, rfl⟩
   rw [← hF] at hmv HSM HFL HST
   have HFE := zH hF
   have hmv := hmv.triv
   have hmv0 := hmv
   obtain ⟨b, p2, n2, q2, p3, q3, rfl, hsl⟩ := hmv
   obtain ⟨wl, hwl⟩ : ∃ W, W = wm.alloc (.cells #[.int .i64 h.area, .int .i64 b, .slice p2 n2 q2, .slice p3 F.length q3] 171) := ⟨_, rfl⟩
   have hbm : Bx wl wm.heap.size [.int .i64 h.area, .int .i64 b, .slice p2 n2 q2, .slice p3 F.length q3] 171 := by rw [hwl]; exact Bx.new wm [_, _, _, _] _
   have hsl2 : Step wm wl := by rw [hwl]; exact Step.alloc _ _
   have HBM := zH hbm
   have HMV := zH (hmv0.step hsl2)
   have HTl := zH (HT.out.trans ((Step.alloc _ _).trans (hSm.trans hsl2)))
   have HWL := zH hwl
   clear hcall hF hmv0 hsl hwl hbm hsl2 hSm e1 e2 e3 HT HHV
   go_wp2
   rw [← HWL.out]
   go_loopw [28] (fun i wr => ∃ j : Nat, j ≤ wind.length ∧ i = .int .i64 j ∧ (∀ i' (hi : i' < j) (hl : i' < wind.length), balL F (timesV wind[i'] h.area) = true) ∧ Step wl wr) (fun i _ => wind.length - (intOf i).toNat)
   case atStart => exact ⟨0, Nat.zero_le _, rfl, fun i hi => absurd hi (by omega), Step.refl _⟩
   case round =>
    obtain ⟨j, hj, rfl, hall, hT⟩ := hrel
    have HALL := zH hall
    have HT := zH hT
    clear hall hT
    by_cases hltj : j < wind.length
    ·obtain rfl := HPX.out.1 (by omega)
     obtain ⟨x1, x2⟩ := HPX.out.2 j hltj
     have x1 := (HTl.out.trans HT.out).kc x1
     have x2 := (HTl.out.trans HT.out).kc x2
     have hjx : (0 : Int) ≤ (j : Int) ∧ (j : Int) < (wind.length : Int) := by omega
     have hcn := corner_in (all_get HL.out.2.2 hltj)
     have HNX := zH (weakK_some (F := F) (area := h.area) hltj HALL.out)
     have HSO := zH (show ∀ i' (hi : i' < j + 1) (hl : i' < wind.length), balL F (timesV wind[j] h.area) = true → balL F (timesV wind[i'] h.area) = true from fun i' hi hl q => if e : i' = j then by subst e; exact q else HALL.out i' (by omega) hl)
     obtain ⟨cn, hcj⟩ : ∃ c, c = wind[j] := ⟨_, rfl⟩
     rw [← hcj] at x1 x2 hcn HNX
     simp only [← hcj] at HSO
     have HCJ := zH hcj
     obtain ⟨q, hq⟩ : ∃ q, q = timesV cn h.area := ⟨_, rfl⟩
     have hqi : inV 10000000 q := by rw [hq]; exact times_in (N := 1000) hcn HHD.out.1
     have hqf := in_fits hqi (by decide)
     have HQF := zH (show fits (h.area * cn.x) ∧ fits (h.area * cn.y) by rw [hq] at hqf; exact hqf)
     have HQ := zH (And.intro hq hqi)
     rw [← hq] at HNX
     simp only [← hq] at HSO
     clear hcj hq hqi hqf hcn
     go_upto_region 8 with (fail)
     obtain ⟨wa, hwa⟩ : ∃ W, W = wr.alloc (.cells #[.int .i64 cn.x, .int .i64 cn.y] 52) := ⟨_, rfl⟩
     rw [← hwa]
     have HGA := zH (show Bx wa wr.heap.size [.int .i64 cn.x, .int .i64 cn.y] 52 by rw [hwa]; exact Bx.new wr [_, _] _)
     have hsa : Step wl wa := by rw [hwa]; exact HT.out.trans (Step.alloc _ _)
     have HSA := zH hsa
     clear hwa hsa x1 x2 HT
     have HT := zH (Step.refl wa)
     have HSZ0 := zH HT.out.size
     refine wp_region_seqM (fun c d v a w h => by cases d <;> exact h) (kdOf [5, 6] [(10, 52, .agg #[.int .i64 0, .int .i64 0])]) [0, 0, 0, 4, 12, 30, 63, 127, 255, 255, 0, 1535, 4095] [0, 1, 2, 3, 4, 5, 6, 7, 8, 9, 10] [11, 12] (by kernel_rfl) (by kernel_rfl) (fun i T z hi hk => by simp only [List.mem_cons, List.not_mem_nil, or_false] at hi; rcases hi with rfl | rfl | rfl | rfl | rfl | rfl | rfl | rfl | rfl | rfl | rfl <;> simp [kdOf] at hk <;> (obtain ⟨rfl, rfl⟩ := hk; first | (show Option.bind _ _ = some _; kernel_rfl) | (refine ⟨_, rfl, fun _ _ => ?_⟩; go_simp))) ?_
     intro Wx hWx
     have HTx := zH (HT.out.trans hWx)
     clear hWx HT
     have HT := HTx
     clear HTx
     (try clear m0 m1 m2 m3 n0 n1)
     obtain ⟨m0, m1, m2, m3⟩ := cells4 (HBM.out.step (HSA.out.trans HT.out))
     have n0 := (HGA.out.step HT.out).cell 0
     have n1 := (HGA.out.step HT.out).cell 1
     simp only [zD, zE] at n0 n1
     repeat ((first | (refine run_off rfl rfl (by rfl) ?_) | (refine run_chain_off rfl rfl (by rfl) (K0_mono _) ?_) | ((refine run_want rfl rfl (by rfl) ⟨?_, fun W hW => ?_, ?_⟩; rotate_left; (· (have d0 := hW.kc m0; have d1 := hW.kc m1; have d2 := hW.kc m2; have d3 := hW.kc m3; have d4 := hW.kc n0; have d5 := hW.kc n1; go_simp; (try with_reducible rfl)))))); (try simp only [Act.put, zA, zB, zC]))
     clear m0 m1 m2 m3 n0 n1
     refine run_chain rfl rfl (by rfl) (fun Wi hWi K' hK => ?_)
     have HTi := zH (HT.out.trans hWi)
     have HZW := zH HTi.out.size
     clear hWi HT
     go_simp
     refine (times_any cn h.area _ HQF.out.1 HQF.out.2).mono ?_
     rintro e wn ⟨rfl, hSn⟩
     have HT := zH (HTi.out.trans (StepX.of hSn))
     clear HTi
     rw [← HQ.out.1]
     refine hK _ _ (StepX.of hSn) ?_
     clear hSn
     (try simp only [Act.put, zA, zB, zC])
     (try clear m0 m1 m2 m3 n0 n1)
     obtain ⟨m0, m1, m2, m3⟩ := cells4 (HBM.out.step (HSA.out.trans HT.out))
     have n0 := (HGA.out.step HT.out).cell 0
     have n1 := (HGA.out.step HT.out).cell 1
     simp only [zD, zE] at n0 n1
     repeat ((first | (refine run_off rfl rfl (by rfl) ?_) | (refine run_chain_off rfl rfl (by rfl) (K0_mono _) ?_) | ((refine run_want rfl rfl (by rfl) ⟨?_, fun W hW => ?_, ?_⟩; rotate_left; (· (have d0 := hW.kc m0; have d1 := hW.kc m1; have d2 := hW.kc m2; have d3 := hW.kc m3; have d4 := hW.kc n0; have d5 := hW.kc n1; go_simp; (try with_reducible rfl)))))); (try simp only [Act.put, zA, zB, zC]))
     clear m0 m1 m2 m3 n0 n1
     refine run_chain rfl rfl (by rfl) (fun Wi hWi K' hK => ?_)
     have HTi := zH (HT.out.trans hWi)
     clear hWi HT
     go_simp
     refine (weak_any F h.area q _ _ (HMV.out.step (HSA.out.trans HTi.out)) HSM.out HFL.out (HQ.out.2.mono (by decide))).mono ?_
     rintro e wn ⟨zx, zy, rfl, _, hzw, hSn⟩
     have HZW := zH hzw
     have HT := zH (HTi.out.trans hSn)
     refine hK _ _ (StepX.of hSn) ?_
     clear HTi hSn hK hzw
     (try simp only [Act.put, zA, zB, zC])
     repeat ((first | (refine run_off rfl rfl (by rfl) ?_) | (refine run_chain_off rfl rfl (by rfl) (K0_mono _) ?_) | ((refine run_want rfl rfl (by rfl) ⟨?_, fun W hW => ?_, ?_⟩; rotate_left; (· (skip; go_simp; (try with_reducible rfl)))))); (try simp only [Act.put, zA, zB, zC]))
     refine run_alloc rfl rfl (fun W5 g hW5 hg hgb hgN => ?_)
     (try simp only [Act.put, zA, zB, zC])
     refine run_end (L := [_, _]) rfl (fun W6 hW6 => ?_)
     have hb6 := Bx.step (w := W5) (cs := [_, _]) hg hW6
     refine wpl_store (v := .agg #[.int .i64 zx, .int .i64 zy]) rfl _ _ _ rfl rfl rfl hb6 (by kernel_rfl) (by simp [Value.cells]) (by simp [Value.cells, Value.oneCell']) [.int .i64 zx, .int .i64 zy] rfl (fun w7 hb7 hw7 => ?_)
     have hg0 := HSZ0.out
     have HTx := zH (HSA.out.trans (Step.wrote ((HT.out.trans hW5).trans hW6) hw7 (by omega)))
     have HBG := zH hb7
     clear hW5 hg hgb hgN hW6 hb6 hb7 hw7 HT hg0 HSZ0
     cases hbl : balL F q with
     | true =>
      have HB2 := zH hbl
      clear hbl
      go_wp2
      go_roundw
      case rel => exact ⟨j + 1, by omega, by go_num, fun i' hi hl => HSO.out i' hi hl HB2.out, HTx.out⟩
      case measure => simp [intOf]; omega
     | false =>
      have hwp : weakP l t wind = ((k : Int), (j : Int)) := by rw [← HWK.out, HST.out, HNX.out hbl]
      have hzz := HZW.out hbl
      have HST2 := zH (show standB l t wind = true → False from fun hs => by have := weakP_iff.1.2 hs; rw [hwp] at this; simp at this; omega)
      have HTW := zH (show TooWeak l t wind k j zx zy from fun a b ha hb e1 e2 => by
       obtain rfl : k = a := by omega
       obtain rfl : j = b := by omega
       rw [← HH.out, ← HFE.out, ← HCJ.out, ← HQ.out.1]
       exact hzz)
      have HWP := zH hwp
      clear hwp hzz hbl
      have hbr := HB.out.step (HTl.out.trans HTx.out)
      have z0 := hbr.frozen 0
      have z1 := hbr.frozen 1
      have y0 := hbr.cell 0
      have y1 := hbr.cell 1
      have g0 := HBG.out.cell 0
      have g1 := HBG.out.cell 1
      simp only [zD, zE] at y0 y1 g0 g1
      have HBR := zH hbr
      have hlt1 := hbr.lt
      have hlt2 := HBG.out.lt
      clear hbr
      go_upto_region 10 with (fail)
      refine wp_region_seqM (fun c d v a w h => by cases d <;> exact h) (kdOf [] []) [0, 0, 0, 1, 11, 31] [0, 1, 2, 3, 4] [5] (by kernel_rfl) (by kernel_rfl) (fun i T z hi hk => by simp [kdOf] at hk <;> (try (split at hk <;> cases hk))) ?_
      intro Wx hWx
      have HX := zH hWx
      have g0 := hWx.kc g0
      have g1 := hWx.kc g1
      clear hWx y0 y1 z0 z1
      repeat ((first | (refine run_off rfl rfl (by rfl) ?_) | (refine run_chain_off rfl rfl (by rfl) (K0_mono _) ?_) | ((refine run_want rfl rfl (by rfl) ⟨?_, fun W hW => ?_, ?_⟩; rotate_left; (· (have d0 := hW.kc g0; have d1 := hW.kc g1; go_simp; (try with_reducible rfl)))))); (try simp only [Act.put, zA, zB, zC]))
      refine run_end (L := [_]) rfl (fun W8 hW8 => ?_)
      have hb8 := (HBR.out.step HX.out).step hW8
      refine wpl_store (v := .agg #[.int .i64 zx, .int .i64 zy]) rfl _ _ _ rfl rfl rfl hb8 (by kernel_rfl) (by simp [Value.cells]) (by simp [Value.cells, Value.oneCell']) [.int .i64 zx, .int .i64 zy] rfl (fun w9 hb9 hw9 => ?_)
      have HB9 := zH hb9
      have HS9 := zH (Step.wrote ((HS.out.trans (HTl.out.trans HTx.out)).trans (HX.out.trans hW8)) hw9 (Nat.le_refl _))
      clear g0 g1 hb8 hb9 hw9 hW8 hlt1 hlt2
      go_wp2
      exact ret_ttc (k := 2) rfl siVec rfl HB9.out rfl rfl ⟨zx, zy, by rw [HWP.out]; rfl, fun hs => (HST2.out hs).elim, by rw [HWP.out]; exact HTW.out, HS9.out⟩
    ·have HNN := zH (show weakFrom l wind (t.drop (k + 1)) (k + 1) = weakP l t wind by rw [← HWK.out, HST.out, weakK_no (fun i' hl => HALL.out i' (by omega) hl)])
     go_wp2
     go_roundw
     case rel => exact ⟨k + 1, by omega, by go_num, HNN.out, HTl.out.trans HT.out⟩
     case measure => simp [intOf]; omega
  ·have hwp : weakP l t wind = (-1, -1) := by rw [← HWK.out, List.drop_of_length_le (by omega)]; rfl
   have HTW := zH (show TooWeak l t wind (-1) (-1) 0 0 from fun a b ha hb e1 e2 => by omega)
   have HWP := zH hwp
   have hbr := HB.out.step HT.out
   have z0 := hbr.frozen 0
   have z1 := hbr.frozen 1
   have y0 := hbr.cell 0
   have y1 := hbr.cell 1
   simp only [zD, zE] at y0 y1
   have HBR := zH hbr
   clear hbr hwp
   go_wp2
   have b2 := set2 HBR.out (.int .i64 0) (.int .i64 0)
   exact ret_ttc (k := 2) rfl siVec rfl b2.1 rfl rfl ⟨0, 0, by rw [HWP.out]; rfl, fun _ => ⟨rfl, rfl⟩, by rw [HWP.out]; exact HTW.out, StepX.fresh (HS.out.trans HT.out) b2.2 (fun j hj => by omega)⟩
def blownC (l : List Tst) (t : List Head) (wind : List Vec) : Int := if readyC l t = 0 then (if windB wind = true then soundC l else 1) else readyC l t
theorem blown_ok {l : List Tst} {t : List Head} {wind : List Vec} (h : blownC l t wind = 0) : l.all tstB = true ∧ tentB t = true ∧ windB wind = true ∧ readyC l t = 0 := by
 unfold blownC at h
 split at h
 ·rename_i h1
  obtain ⟨a, b⟩ := ready_ok h1
  split at h
  ·rename_i h2; exact ⟨a, b, h2, h1⟩
  ·simp at h
 ·rename_i h1; exact absurd h h1
theorem wind_all {wind : List Vec} (h : windB wind = true) : wind.all cornerB = true ∧ 1 ≤ wind.length ∧ wind.length ≤ 12 := by
 unfold windB at h
 rw [Bool.and_eq_true] at h
 have := within_iff.1 h.1
 exact ⟨h.2, by omega, by omega⟩
theorem blown_any (S : Nat → Prop) (l : List Tst) (t : List Head) (wind : List Vec) (v u x : Value) (w : World) (hv : SL S w v l) (hu : SL S w u t) (hx : SL S w x wind) :
  Calls Tryz.prog 47 #[v, u, x] w fun e w' => e = .returned (.int .i64 (blownC l t wind)) ∧ Step w w' := by
 have HV := zH hv
 have HX := zH hx
 have hcall := zH (ready_any S l t v u w hv hu)
 obtain ⟨pv, cv, rfl⟩ := hv.form
 obtain ⟨pu, cu, rfl⟩ := hu.form
 obtain ⟨px, cx, rfl⟩ := hx.form
 clear hv hu hx
 go_enter Tryz.func47, Tryz.ntmps47
 go_wp2_with fail
 refine hcall.out.mono ?_
 rintro e w1 ⟨rfl, hS⟩
 have HS := zH hS
 obtain ⟨c, hc⟩ : ∃ c, c = readyC l t := ⟨_, rfl⟩
 rw [← hc]
 have HC := zH hc
 clear hcall hc hS
 by_cases h0 : c = 0
 ·subst h0
  go_wp2_with fail
  refine (windy_any S wind _ _ (HX.out.keep (.of_step HS.out))).mono ?_
  rintro e w2 ⟨rfl, hS2⟩
  have HS2 := zH (HS.out.trans hS2)
  clear hS2
  cases q : windB wind with
  | false =>
   have HQ := zH (show blownC l t wind = 1 by unfold blownC; rw [if_pos HC.out.symm, q, if_neg (by decide)])
   clear q
   go_wp2
   go_ret
   exact ⟨by rw [HQ.out]; rfl, HS2.out⟩
  | true =>
   have HQ := zH (show blownC l t wind = soundC l by unfold blownC; rw [if_pos HC.out.symm, q, if_pos rfl])
   clear q
   go_wp2_with fail
   refine (sound_any S l _ _ (HV.out.keep (.of_step HS2.out)) (ready_ok HC.out.symm).1).mono ?_
   rintro e w3 ⟨rfl, hS3⟩
   go_wp2
   go_ret
   exact ⟨by rw [HQ.out]; rfl, HS2.out.trans hS3⟩
 ·have hd : (c != 0) = true := by simpa using h0
  have HQ := zH (show blownC l t wind = c by unfold blownC; rw [← HC.out, if_neg h0])
  clear h0
  go_wp2
  go_ret
  exact ⟨by rw [HQ.out]; rfl, HS.out⟩
def weakR (l : List Tst) (t : List Head) (wind : List Vec) : Int × Int := if blownC l t wind = 0 then weakP l t wind else (0, 0)
theorem Weakest_any (S : Nat → Prop) (l : List Tst) (t : List Head) (wind : List Vec) (v u x : Value) (w : World) (hv : SL S w v l) (hu : SL S w u t) (hx : SL S w x wind) :
  Calls Tryz.prog 16 #[v, u, x] w fun e w' => ∃ a b : Int, e = .returned (.tuple #[.int .i64 (weakR l t wind).1, .int .i64 (weakR l t wind).2, .agg #[.int .i64 a, .int .i64 b], .int .i64 (blownC l t wind)]) ∧ (blownC l t wind ≠ 0 → a = 0 ∧ b = 0) ∧ (blownC l t wind = 0 → (standB l t wind = true → a = 0 ∧ b = 0) ∧ TooWeak l t wind (weakP l t wind).1 (weakP l t wind).2 a b) ∧ Step w w' := by
 obtain ⟨W0, hW0⟩ : ∃ W, W = w.alloc (.cells #[.int .i64 0, .int .i64 0] 52) := ⟨_, rfl⟩
 have hb : Bx W0 w.heap.size [.int .i64 0, .int .i64 0] 52 := by subst hW0; exact Bx.new w [_, _] _
 have hS : Step w W0 := by subst hW0; exact Step.alloc _ _
 have HV := zH (SL.go hv hS)
 have HU := zH (SL.go hu hS)
 have HX := zH (SL.go hx hS)
 have HB := zH hb
 have HS := zH hS
 have HW := zH hW0
 obtain ⟨pv, cv, rfl⟩ := hv.form
 obtain ⟨pu, cu, rfl⟩ := hu.form
 obtain ⟨px, cx, rfl⟩ := hx.form
 clear hb hS hW0 hv hu hx
 go_enter Tryz.func16, Tryz.ntmps16
 go_wp2_with fail
 rw [← HW.out]
 refine (blown_any (fun _ => False) l t wind _ _ _ _ HV.out HU.out HX.out).mono ?_
 rintro e w1 ⟨rfl, hS1⟩
 have HT := zH hS1
 obtain ⟨c, hc⟩ : ∃ c, c = blownC l t wind := ⟨_, rfl⟩
 rw [← hc]
 have HC := zH hc
 clear hS1
 by_cases h0 : c = 0
 rotate_left
 ·have hd : (c != 0) = true := by simpa using h0
  have HR := zH (show weakR l t wind = (0, 0) by unfold weakR; rw [← hc, if_neg h0])
  have H0 := zH h0
  have hbr := HB.out.step HT.out
  have z0 := hbr.frozen 0
  have z1 := hbr.frozen 1
  have y0 := hbr.cell 0
  have y1 := hbr.cell 1
  simp only [zD, zE] at y0 y1
  have HBR := zH hbr
  clear hbr h0 hc
  go_wp2
  have b2 := set2 HBR.out (.int .i64 0) (.int .i64 0)
  exact ret_ttct (k := 2) rfl siVec rfl b2.1 rfl rfl ⟨0, 0, by rw [HR.out, ← HC.out]; rfl, fun _ => ⟨rfl, rfl⟩, fun h => (H0.out (HC.out.trans h)).elim, StepX.fresh (HS.out.trans HT.out) b2.2 (fun j hj => by omega)⟩
 subst h0
 obtain ⟨k1, k2, k3, k4⟩ := blown_ok hc.symm
 have HK := zH (And.intro k1 (And.intro (tent_parts k2).2 (wind_all k3).1))
 have HR := zH (show weakR l t wind = weakP l t wind by unfold weakR; rw [← hc, if_pos rfl])
 clear k1 k2 k3 k4 hc
 go_wp2_with fail
 refine (weakest_any (fun _ => False) l t wind _ _ _ _ (SL.go HV.out HT.out) (SL.go HU.out HT.out) (SL.go HX.out HT.out) HK.out.1 HK.out.2.1 HK.out.2.2).mono ?_
 rintro e w2 ⟨a, b, rfl, hst, htw, hS2⟩
 have HTW := zH (And.intro hst htw)
 have HT2 := zH (HT.out.trans hS2)
 clear hst htw hS2 HT
 have hbr := HB.out.step HT2.out
 have z0 := hbr.frozen 0
 have z1 := hbr.frozen 1
 have y0 := hbr.cell 0
 have y1 := hbr.cell 1
 have yl := hbr.lt
 simp only [zD, zE] at y0 y1
 have HBR := zH hbr
 clear hbr
 go_upto_region 5 with (fail)
 have b2 := set2 HBR.out (.int .i64 a) (.int .i64 b)
 have hS5 := StepX.fresh (HS.out.trans HT2.out) b2.2 (fun j hj => by omega)
 obtain ⟨W5, hW5⟩ : ∃ W, W = (w2.setCell ⟨w.heap.size, 0, none⟩ (.int .i64 a)).setCell ⟨w.heap.size, 1, none⟩ (.int .i64 b) := ⟨_, rfl⟩
 rw [← hW5] at b2 hS5 ⊢
 have HB5 := zH b2.1
 have HS5 := zH hS5
 clear b2 hS5 hW5 z0 z1 y0 y1 yl
 refine wp_region_seqM (fun c d v a w h => by cases d <;> exact h) (kdOf [] []) [0, 0, 0, 1, 11, 31, 63] [0, 1, 2, 3, 4] [5, 6] (by kernel_rfl) (by kernel_rfl) (fun i T z hi hk => by simp [kdOf] at hk <;> (try (split at hk <;> cases hk))) ?_
 intro Wx hWx
 have HXx := zH hWx
 have g0 := (HB5.out.step hWx).cell 0
 have g1 := (HB5.out.step hWx).cell 1
 simp only [zD, zE] at g0 g1
 clear hWx
 repeat ((first | (refine run_off rfl rfl (by rfl) ?_) | (refine run_chain_off rfl rfl (by rfl) (K0_mono _) ?_) | ((refine run_want rfl rfl (by rfl) ⟨?_, fun W hW => ?_, ?_⟩; rotate_left; (· (have d0 := hW.kc g0; have d1 := hW.kc g1; go_simp; (try with_reducible rfl)))))); (try simp only [Act.put, zA, zB, zC]))
 refine run_end (L := [_, _]) rfl (fun W8 hW8 => ?_)
 have hb8 := (HB5.out.step HXx.out).step hW8
 refine wpl_store (v := .agg #[.int .i64 a, .int .i64 b]) rfl _ _ _ rfl rfl rfl hb8 (by kernel_rfl) (by simp [Value.cells]) (by simp [Value.cells, Value.oneCell']) [.int .i64 a, .int .i64 b] rfl (fun w9 hb9 hw9 => ?_)
 have HB9 := zH hb9
 have HS9 := zH (Step.wrote (HS5.out.trans (HXx.out.trans hW8)) hw9 (Nat.le_refl _))
 clear g0 g1 hb8 hb9 hw9 hW8
 go_wp2
 exact ret_ttct (k := 2) rfl siVec rfl HB9.out rfl rfl ⟨a, b, by rw [HR.out, ← HC.out]; rfl, fun h => (h HC.out.symm).elim, fun _ => HTW.out, HS9.out⟩
theorem RWeakest_any (S : Nat → Prop) (l : List Tst) (t : List Head) (wind : List Vec) (v u x : Value) (w : World) (hv : SL S w v l) (hu : SL S w u t) (hx : SL S w x wind) (hl : l.all tstB = true) (ht : t.all headB = true) (hw : wind.all cornerB = true) :
  Calls Tryz.prog 52 #[v, u, x] w fun e w' => e = .returned (.tuple #[.int .i64 (weakP l t wind).1, .int .i64 (weakP l t wind).2]) ∧ Step w w' := by
 have hmt := hu.len
 have hmw := hx.len
 have HV := zH (SL.go hv (Step.refl _))
 obtain ⟨pu, cu, bu, ou, rfl, _, _, hpu, hcu, _⟩ := hu.heads
 obtain ⟨px, cx, bx, ox, rfl, _, _, hpx, hcx, _⟩ := hx.vecs
 have HPU := zH (And.intro hpu hcu)
 have HPX := zH (And.intro hpx hcx)
 have HL := zH (And.intro hl (And.intro ht hw))
 obtain ⟨pv, cv, rfl⟩ := hv.form
 clear hv hu hx hpu hcu hpx hcx hl ht hw
 go_enter Tryz.func52, Tryz.ntmps52
 go_wp2
 go_loopw [8] (fun i wr => ∃ k : Nat, k ≤ t.length ∧ i = .int .i64 k ∧ weakFrom l wind (t.drop k) k = weakP l t wind ∧ Step w wr) (fun i _ => t.length - (intOf i).toNat)
 case atStart => exact ⟨0, Nat.zero_le _, rfl, rfl, Step.refl _⟩
 case round =>
  obtain ⟨k, hk, rfl, hwk, hT⟩ := hrel
  have HWK := zH hwk
  have HT := zH hT
  clear hwk hT
  by_cases hlt : k < t.length
  ·obtain rfl := HPU.out.1 (by omega)
   obtain ⟨c2, e1, e2, e3, e4⟩ := HPU.out.2 k hlt
   have HE := zH (And.intro e1 (And.intro e2 e3))
   have e1 := HT.out.kc e1
   have e2 := HT.out.kc e2
   have e3 := HT.out.kc e3
   have hix : (0 : Int) ≤ (k : Int) ∧ (k : Int) < (t.length : Int) := by omega
   have hhd := head_parts (all_get HL.out.2.1 hlt)
   have HST := zH (weakFrom_step (l := l) (wind := wind) hlt)
   obtain ⟨h, hh⟩ : ∃ h, h = t[k] := ⟨_, rfl⟩
   rw [← hh] at HE e1 e2 e4 hhd HST
   obtain ⟨pg, cg, rfl⟩ := e4.form
   have HHD := zH hhd
   have HSM := zH (forces_small HL.out.1 hhd.2.2.2)
   have HFL := zH (show (forcesL l h.guys).length ≤ 8 by rw [forces_len]; exact hhd.2.2.1)
   have hcall := zH (Forces_any (fun _ => False) l h (.slice pv l.length cv) (.agg #[.int .i64 h.area, .int .i64 h.bears, .slice pg h.guys.length cg]) wr (SL.go HV.out HT.out) ⟨_, rfl, _, rfl, SL.go e4 HT.out⟩ HL.out.1 hhd.2.2.2 (by omega))
   clear hh e4 hhd
   go_wp2_with fail
   refine hcall.out.mono ?_
   rintro e wm ⟨vF, rfl, hvF, hSm⟩
   obtain ⟨F, hF⟩ : ∃ F, F = forcesL l h.guys := ⟨_, rfl⟩
   rw [← hF] at hvF HSM HFL HST
   have HTl := zH (HT.out.trans hSm)
   have HVF := zH (SL.go hvF (Step.refl _))
   clear hcall hF hSm e1 e2 e3 HT hvF
   go_wp2
   go_loopw [10] (fun i wr => ∃ j : Nat, j ≤ wind.length ∧ i = .int .i64 j ∧ (∀ i' (hi : i' < j) (hl : i' < wind.length), balL F (timesV wind[i'] h.area) = true) ∧ Step wm wr) (fun i _ => wind.length - (intOf i).toNat)
   case atStart => exact ⟨0, Nat.zero_le _, rfl, fun i hi => absurd hi (by omega), Step.refl _⟩
   case round =>
    obtain ⟨j, hj, rfl, hall, hT⟩ := hrel
    have HALL := zH hall
    have HT := zH hT
    clear hall hT
    by_cases hltj : j < wind.length
    ·obtain rfl := HPX.out.1 (by omega)
     obtain ⟨x1, x2⟩ := HPX.out.2 j hltj
     have HX12 := zH (And.intro x1 x2)
     have hjx : (0 : Int) ≤ (j : Int) ∧ (j : Int) < (wind.length : Int) := by omega
     have hcn := corner_in (all_get HL.out.2.2 hltj)
     have HNX := zH (weakK_some (F := F) (area := h.area) hltj HALL.out)
     have HSO := zH (show ∀ i' (hi : i' < j + 1) (hl : i' < wind.length), balL F (timesV wind[j] h.area) = true → balL F (timesV wind[i'] h.area) = true from fun i' hi hl q => if e : i' = j then by subst e; exact q else HALL.out i' (by omega) hl)
     obtain ⟨cn, hcj⟩ : ∃ c, c = wind[j] := ⟨_, rfl⟩
     rw [← hcj] at HX12 hcn HNX
     simp only [← hcj] at HSO
     obtain ⟨q, hq⟩ : ∃ q, q = timesV cn h.area := ⟨_, rfl⟩
     have hqi : inV 10000000 q := by rw [hq]; exact times_in (N := 1000) hcn HHD.out.1
     have hqf := in_fits hqi (by decide)
     have HQF := zH (show fits (h.area * cn.x) ∧ fits (h.area * cn.y) by rw [hq] at hqf; exact hqf)
     have HQ := zH (And.intro hq hqi)
     rw [← hq] at HNX
     simp only [← hq] at HSO
     clear hcj hq hqi hqf hcn x1 x2
     go_upto_region 8 with (fail)
     refine wp_region_seq (kdOf [10, 11] []) [0, 0, 0, 6, 14, 0, 0, 96, 224, 480, 1022, 2047, 4095] [0, 1, 2, 3, 4, 5, 6, 7, 8, 9, 10, 11, 12] [] (by kernel_rfl) (by kernel_rfl) (fun i T z hi hk => by simp [kdOf] at hk <;> (try (split at hk <;> cases hk))) ?_
     intro Wx hWx
     have HTx := zH (HT.out.trans hWx)
     clear hWx HT
     have HT := HTx
     clear HTx
     have hst := HTl.out.trans HT.out
     have x1 := hst.kc HX12.out.1
     have x2 := hst.kc HX12.out.2
     have e1 := hst.kc HE.out.1
     have e2 := hst.kc HE.out.2.1
     have e3 := hst.kc HE.out.2.2
     clear hst
     repeat ((first | (refine run_off rfl rfl (by rfl) ?_) | (refine run_chain_off rfl rfl (by rfl) (K0_mono _) ?_) | ((refine run_want rfl rfl (by rfl) ⟨?_, fun W hW => ?_, ?_⟩; rotate_left; (· (have d0 := hW.kc x1; have d1 := hW.kc x2; have d2 := hW.kc e1; have d3 := hW.kc e2; have d4 := hW.kc e3; go_simp; (try with_reducible rfl)))))); (try simp only [Act.put, zA, zB, zC]))
     clear x1 x2 e1 e2 e3
     refine run_chain rfl rfl (by rfl) (fun Wi hWi K' hK => ?_)
     have HTi := zH (HT.out.trans hWi)
     have HZW := zH HTi.out.size
     clear hWi HT
     go_simp
     refine (Times_any cn h.area _ HQF.out.1 HQF.out.2).mono ?_
     rintro e wn ⟨rfl, hSn⟩
     have HT := zH (HTi.out.trans (StepX.of hSn))
     clear HTi
     rw [← HQ.out.1]
     refine hK _ _ (StepX.of hSn) ?_
     clear hSn
     (try simp only [Act.put, zA, zB, zC])
     repeat ((first | (refine run_off rfl rfl (by rfl) ?_) | (refine run_chain_off rfl rfl (by rfl) (K0_mono _) ?_) | ((refine run_want rfl rfl (by rfl) ⟨?_, fun W hW => ?_, ?_⟩; rotate_left; (· (skip; go_simp; (try with_reducible rfl)))))); (try simp only [Act.put, zA, zB, zC]))
     refine run_chain rfl rfl (by rfl) (fun Wi hWi K' hK => ?_)
     have HTi := zH (HT.out.trans hWi)
     have HZW := zH HTi.out.size
     clear hWi HT
     go_simp
     refine (Balances_any (fun _ => False) F q _ _ (SL.go HVF.out HTi.out) HSM.out HFL.out (HQ.out.2.mono (by decide))).mono ?_
     rintro e wn ⟨rfl, hSn⟩
     have HT := zH (HTi.out.trans (StepX.of hSn))
     clear HTi
     refine hK _ _ (StepX.of hSn) ?_
     clear hSn
     (try simp only [Act.put, zA, zB, zC])
     repeat ((first | (refine run_off rfl rfl (by rfl) ?_) | (refine run_chain_off rfl rfl (by rfl) (K0_mono _) ?_) | ((refine run_want rfl rfl (by rfl) ⟨?_, fun W hW => ?_, ?_⟩; rotate_left; (· (skip; go_simp; (try with_reducible rfl)))))); (try simp only [Act.put, zA, zB, zC]))
     refine run_end (L := []) rfl (fun W6 hW6 => ?_)
     have HT6 := zH (HT.out.trans hW6)
     clear hW6 HT
     have HT := HT6
     clear HT6
     cases hbl : balL F q with
     | true =>
      have HB2 := zH hbl
      clear hbl
      go_wp2
      go_roundw
      case rel => exact ⟨j + 1, by omega, by go_num, fun i' hi hl => HSO.out i' hi hl HB2.out, HT.out⟩
      case measure => simp [intOf]; omega
     | false =>
      have HWP := zH (show weakP l t wind = ((k : Int), (j : Int)) by rw [← HWK.out, HST.out, HNX.out hbl])
      clear hbl
      go_wp2
      go_ret2
      exact ⟨by rw [HWP.out]; rfl, HTl.out.trans HT.out⟩
    ·have HNN := zH (show weakFrom l wind (t.drop (k + 1)) (k + 1) = weakP l t wind by rw [← HWK.out, HST.out, weakK_no (fun i' hl => HALL.out i' (by omega) hl)])
     go_wp2
     go_roundw
     case rel => exact ⟨k + 1, by omega, by go_num, HNN.out, HTl.out.trans HT.out⟩
     case measure => simp [intOf]; omega
  ·have HWP := zH (show weakP l t wind = (-1, -1) by rw [← HWK.out, List.drop_of_length_le (by omega)]; rfl)
   go_wp2
   go_ret2
   exact ⟨by rw [HWP.out]; rfl, HT.out⟩
theorem reef_take {t : List Head} {c : Int} {k : Nat} (hk : k < t.length) : reefL c (t.take (k + 1)) = reefL c (t.take k) ++ [reefH c t[k]] := by
 unfold reefL
 rw [List.take_succ_eq_append_getElem hk, List.map_append]; rfl
theorem reefed_any (x : Stg) (t : List Head) (v : Value) (w : World) (hv : SL (fun _ => False) w v t) (hc : 0 ≤ x.cover ∧ x.cover ≤ 100) (ht : tentB t = true) :
  Calls Tryz.prog 45 #[.agg #[.int .i64 x.cover, .int .i64 x.minutes], v] w fun e w' => ∃ v', e = .returned v' ∧ SL (Old w) w' v' (reefL x.cover t) ∧ Step w w' := by
 obtain ⟨xc, xm⟩ := x
 dsimp only at hc ⊢
 obtain ⟨W0, hW0⟩ : ∃ W, W = w.alloc (.cells #[.int .i64 xc, .int .i64 xm] 120) := ⟨_, rfl⟩
 have hbx : Bx W0 w.heap.size [.int .i64 xc, .int .i64 xm] 120 := by subst hW0; exact Bx.new w [_, _] _
 have hS : Step w W0 := by subst hW0; exact Step.alloc _ _
 obtain ⟨pv, cv, bv, ov, rfl, _, hm, hp, hcl, _⟩ := (SL.go hv hS).heads
 have hlen : t.length ≤ 12 ∧ t.all headB = true := by
  unfold tentB at ht; simp only [Bool.and_eq_true, withinB, decide_eq_true_eq] at ht; exact ⟨by omega, ht.2⟩
 have HW := zH hW0
 have HB := zH hbx
 have HS := zH hS
 have HC := zH (And.intro hc hlen)
 have HP := zH (And.intro hp hcl)
 clear hW0 hbx hS hv ht hp hcl hc hlen
 go_enter Tryz.func45, Tryz.ntmps45
 go_wp2
 rw [← HW.out]
 go_loopw [4, 9] (fun out i wr => ∃ k : Nat, k ≤ t.length ∧ i = .int .i64 k ∧ OwnL (Old W0) W0.heap.size 88 wr out (reefL xc (t.take k)) ∧ Below W0.heap.size W0 wr) (fun _ i _ => t.length - (intOf i).toNat)
 case atStart => exact ⟨0, Nat.zero_le _, rfl, OwnL.nil _ _ _ _, Below.refl _ _⟩
 case round =>
  obtain ⟨k, hk, rfl, hown, hBe⟩ := hrel
  have HO := zH hown
  have HBe := zH hBe
  have HT := zH (Step.of hBe)
  obtain ⟨LL, hLL⟩ : ∃ L, L = reefL xc (t.take k) := ⟨_, rfl⟩
  rw [← hLL] at hown HO
  have HLK := zH (show LL.length = k by rw [hLL]; simp [reefL]; omega)
  obtain ⟨po, co, rfl, _⟩ := hown.form
  by_cases hlt : k < t.length
  ·obtain rfl := HP.out.1 (by omega)
   obtain ⟨c2, e0, e1, e2, e3⟩ := HP.out.2 k hlt
   obtain ⟨pg, cg, rfl⟩ := e3.form
   have e0 := HT.out.kc e0
   have e1 := HT.out.kc e1
   have e2 := HT.out.kc e2
   have HSL := zH (SL.go e3 HT.out)
   have hix : (0 : Int) ≤ (k : Int) ∧ (k : Int) < (t.length : Int) := by omega
   have HR := zH (show reefL xc (t.take (k + 1)) = LL ++ [reefH xc t[k]] by rw [reef_take hlt, hLL])
   have hhb := head_parts (all_get HC.out.2.2 hlt)
   obtain ⟨h, hh⟩ : ∃ h, h = t[k] := ⟨_, rfl⟩
   rw [← hh] at e0 e1 e2 HSL HR hhb
   have hmul := Int.mul_nonneg hhb.1.1 HC.out.1.1
   have hmul2 := Int.mul_le_mul hhb.1.2 HC.out.1.2 HC.out.1.1 (by decide)
   have hw1 : IntKind.i64.wrap (h.area * xc) = h.area * xc := by rw [IntKind.wrap_i64]; omega
   have hw2 : IntKind.i64.wrap (h.area * xc + 99) = h.area * xc + 99 := by rw [IntKind.wrap_i64]; omega
   have hw3 : IntKind.i64.wrap ((h.area * xc + 99).tdiv 100) = reefA h.area xc := by
    rw [Int.tdiv_eq_ediv_of_nonneg (by omega), IntKind.wrap_i64]; unfold reefA; omega
   have hg := hhb.2.2.1
   have f0 := (HB.out.step HT.out).cell 0
   have f1 := (HB.out.step HT.out).cell 1
   have fl := (HB.out.step HT.out).lt
   simp only [zD, zE] at f0 f1
   clear hown hBe hLL hh hhb hmul hmul2 e3
   go_upto_region 5 with (fail)
   obtain ⟨W2, hW2⟩ : ∃ W, W = wr.alloc (.cells #[.int .i64 (reefA h.area xc), .int .i64 h.bears, .slice pg h.guys.length cg] 88) := ⟨_, rfl⟩
   rw [← hW2]
   have hb2 : Bx W2 wr.heap.size [.int .i64 (reefA h.area xc), .int .i64 h.bears, .slice pg h.guys.length cg] 88 := by
    rw [hW2]
    exact Bx.new wr [_, _, _] _
   have hs2 : Step wr W2 := by rw [hW2]; exact Step.alloc _ _
   have HB2 := zH hb2
   have HS2 := zH hs2
   clear hW2 hb2 hs2 hw1 hw2 hw3 e0 e1 e2 f0 f1 fl
   have y0 := HB2.out.cell 0
   have y1 := HB2.out.cell 1
   have y2 := HB2.out.cell 2
   have yl := HB2.out.lt
   simp only [zD, zE] at y0 y1 y2
   have HG := zH hg
   clear hg
   go_wp2_with fail
   refine (clone_guys (fun _ => False) h.guys _ _ (SL.go HSL.out HS2.out) (by have := HG.out; omega)).mono ?_
   rintro e w3 ⟨v3, rfl, hown3, hS3⟩
   have hb3 := HB2.out.step hS3
   have HO3 := zH hown3
   have HS3 := zH (HS2.out.trans hS3)
   have HB3 := zH hb3
   clear y0 y1 y2 yl
   have y0 := hb3.cell 0
   have y1 := hb3.cell 1
   have y2 := hb3.cell 2
   have z2 := hb3.frozen 2
   have yl := hb3.lt
   simp only [zD, zE] at y0 y1 y2
   obtain ⟨p3, c3, rfl, _⟩ := hown3.form
   clear hb3 hown3 hS3
   go_upto_region 6 with (fail)
   clear y0 y1 y2 z2
   obtain ⟨W4, hW4⟩ : ∃ W, W = w3.setCell ⟨wr.heap.size, 2, none⟩ (.slice p3 h.guys.length c3) := ⟨_, rfl⟩
   rw [← hW4]
   have hwr4 : Wrote wr.heap.size w3 W4 := by rw [hW4]; exact .setCell _ _ _ _
   have hb4 : Bx W4 wr.heap.size [.int .i64 (reefA h.area xc), .int .i64 h.bears, .slice p3 h.guys.length c3] 88 := by rw [hW4]; exact HB3.out.setCell 2 _
   have hs4 : Step wr W4 := Step.wrote HS3.out hwr4 (Nat.le_refl _)
   have hg4 := (ownL_flat (fun j => j = wr.heap.size ∨ avoid (Old W0) (.slice po LL.length co) j) HO3.out).wrote hwr4 (.inl rfl) (fun e => by have := (HO3.out.lt _ e).1; have := HB2.out.lt; omega)
   have hgs := hg4.slb (fun g e h => by
    have h1 := (HO3.out.lt _ e).1
    have h2 := HB2.out.lt
    rcases h with h | h | h
    ·omega
    ·have := HT.out.size; unfold Old at h; omega
    ·have := (HO.out.lt _ h).2; omega)
   have HGS := zH (hgs.weak (T := avoid (Old W0) (.slice po LL.length co)) fun j _ h => .inr h)
   have y0 := hb4.cell 0
   have y1 := hb4.cell 1
   have y2 := hb4.cell 2
   have yl4 := hb4.lt
   simp only [zD, zE] at y0 y1 y2
   have hown4 := (HO.out.step hs4).alloc (.cells #[.int .i64 (reefA h.area xc), .int .i64 h.bears, .slice p3 h.guys.length c3] 88)
   have hBl := (HBe.out.step (Nat.le_refl _) hs4).step (Nat.le_refl _) (Step.alloc W4 (.cells #[.int .i64 (reefA h.area xc), .int .i64 h.bears, .slice p3 h.guys.length c3] 88))
   have hbz := hBl.size
   have HBl := zH hBl
   have HLL := zH (show LL.length ≤ 12 by have := HC.out.2.1; have := HLK.out; omega)
   have hl1 := HLL.out
   have hu := SLe.one (S := avoid (Old W0) (.slice po LL.length co)) (w := W4) (cs := [.int .i64 (reefA h.area xc), .int .i64 h.bears, .slice p3 h.guys.length c3]) (x := reefH xc h) 88 ⟨_, rfl, HGS.out⟩
   clear hW4 hwr4 hb4 hs4 hg4 hgs hBl yl
   go_wp2_with (at_builtin; refine wpl_append (α := Head) (S := Old W0) (base := W0.heap.size) (v := .slice po LL.length co) (l := LL) (m := [reefH xc h]) eiHeads rfl _ _ rfl rfl rfl hown4 hu (LL.length + 1) (by simp) _ rfl (by simp only [maxLen]; omega) (by omega) hbz ?_)
   intro p5 c5 w5 hown5 hg5
   have HF := zH (And.intro hown5 (HBl.out.grown hg5 hbz (fun j hj => (hown4.lt j hj).1)))
   clear hown4 hu hown5 hg5 hbz hl1 y0 y1 y2 yl4
   go_wp2
   go_roundw
   case rel => exact ⟨k + 1, by omega, by go_num, by rw [HR.out]; exact HF.out.1, HF.out.2⟩
   case measure => simp [intOf]; omega
  ·have hke : k = t.length := by omega
   subst hke
   rw [List.take_length] at hLL
   have HF := zH (show SL (Old w) wr (.slice po LL.length co) (reefL xc t) by
    rw [← hLL]
    exact (HO.out.sl (S := Old W0) fun g h1 _ h2 => by unfold Old at h2; omega).weak fun j _ h => by have := HS.out.size; unfold Old at h ⊢; omega)
   clear hown hBe hLL
   go_wp2
   go_ret
   exact ⟨_, rfl, HF.out, HS.out.trans HT.out⟩
attribute [local go_sem] field_range
def clashI (l : List Tst) : Int := idxOf (fun x => l.any (againstB x)) l
def clashJ (l : List Tst) : Int := if clashI l < 0 then -1 else match l[(clashI l).toNat]? with
 | some x => idxOf (againstB x) l
 | none => -1
theorem clash_at {l : List Tst} {k : Nat} (hk : k < l.length) (h : ∀ j (hj : j < k) (hl : j < l.length), l.any (againstB l[j]) = false) (hp : l.any (againstB l[k]) = true) : clashI l = k ∧ clashJ l = idxOf (againstB l[k]) l := by
 have h1 : clashI l = k := idxOf_at (p := fun x => l.any (againstB x)) hk (fun j hj => h j hj (by omega)) hp
 refine ⟨h1, ?_⟩
 unfold clashJ
 rw [h1, if_neg (by omega), Int.toNat_natCast, List.getElem?_eq_getElem hk]
theorem clash_no {l : List Tst} (h : ∀ j (hl : j < l.length), l.any (againstB l[j]) = false) : clashI l = -1 ∧ clashJ l = -1 := by
 have h1 : clashI l = -1 := idxOf_none (p := fun x => l.any (againstB x)) fun j hj => h j hj
 refine ⟨h1, ?_⟩
 unfold clashJ
 rw [h1, if_pos (by decide)]
theorem clash_pair (S : Nat → Prop) (l : List Tst) (v : Value) (w : World) (hv : SL S w v l) (hl : l.all tstB = true) :
  Calls Tryz.prog 83 #[v] w fun e w' => e = .returned (.tuple #[.int .i64 (clashI l), .int .i64 (clashJ l)]) ∧ Step w w' := by
 have hm := hv.len
 have hv0 := hv
 obtain ⟨pv, cv, b, o, rfl, _, _, hp, hc, _⟩ := hv.tsts
 have HP := zH (And.intro hp hc)
 have HL := zH hl
 have HV := zH hv0
 have HT0 := zH (Step.refl w)
 clear hp hc hl hv hv0
 go_enter Tryz.func83, Tryz.ntmps83
 go_wp2
 go_loopw [9] (fun i wr => ∃ k : Nat, k ≤ l.length ∧ i = .int .i64 k ∧ (∀ j (hj : j < k) (hl : j < l.length), l.any (againstB l[j]) = false) ∧ Step w wr) (fun i _ => l.length - (intOf i).toNat)
 case atStart => exact ⟨0, Nat.zero_le _, rfl, fun j hj => absurd hj (by omega), HT0.out⟩
 case round =>
  obtain ⟨k, hk, rfl, hno, hT⟩ := hrel
  have HN := zH hno
  have HT := zH hT
  clear hno hT
  by_cases hlt : k < l.length
  ·obtain rfl := HP.out.1 (by omega)
   obtain ⟨e1, e2, e3, e4⟩ := HP.out.2 k hlt
   have e1 := HT.out.kc e1
   have e2 := HT.out.kc e2
   have e3 := HT.out.kc e3
   have e4 := HT.out.kc e4
   have hix : (0 : Int) ≤ (k : Int) ∧ (k : Int) < (l.length : Int) := by omega
   have hcall := zH (indexAgainst_any S l[k] l _ (wr.alloc (.cells #[.int .i64 l[k].soil, .int .i64 l[k].depth, .int .i64 l[k].force, .bool l[k].held] 83)) (HV.out.keep (.of_step (HT.out.trans (Step.alloc _ _)))) (all_get HL.out hlt) HL.out)
   go_wp2_with fail
   refine hcall.out.mono ?_
   rintro e w' ⟨rfl, hS⟩
   have hge := idxOf_ge (againstB l[k]) l
   have HS := zH ((Step.alloc _ _).trans hS)
   clear hcall e1 e2 e3 e4 hS
   cases hq : l.any (againstB l[k]) with
   | true =>
    rw [hq] at hge
    have HQ := zH (clash_at hlt HN.out hq)
    clear hq
    go_wp2
    go_ret2
    exact ⟨by rw [HQ.out.1, HQ.out.2]; rfl, HT.out.trans HS.out⟩
   | false =>
    rw [hq] at hge
    have HQ := zH hq
    clear hq
    go_wp2
    go_roundw
    case rel => exact ⟨k + 1, by omega, by go_num, fun j hj hl => if h : j = k then by subst h; exact HQ.out else HN.out j (by omega) hl, HT.out.trans HS.out⟩
    case measure => simp [intOf]; omega
  ·have HQ := zH (clash_no (l := l) fun j hj => HN.out j (by omega) hj)
   go_wp2
   go_ret2
   exact ⟨by rw [HQ.out.1, HQ.out.2]; rfl, HT.out⟩
def clashC (l : List Tst) : Int := if testsC l = 0 then (if clashI l < 0 then 7 else 0) else testsC l
def clashA (l : List Tst) : Int × Int := if clashC l = 0 then (clashI l, clashJ l) else (0, 0)
theorem ClashP_any (S : Nat → Prop) (l : List Tst) (v : Value) (w : World) (hv : SL S w v l) :
  Calls Tryz.prog 43 #[v] w fun e w' => e = .returned (.tuple #[.int .i64 (clashA l).1, .int .i64 (clashA l).2, .int .i64 (clashC l)]) ∧ Step w w' := by
 have HV := zH hv
 have hcall := zH (CheckTests_any S l v w hv)
 obtain ⟨pv, cv, rfl⟩ := hv.form
 clear hv
 go_enter Tryz.func43, Tryz.ntmps43
 go_wp2_with fail
 refine hcall.out.mono ?_
 rintro e w1 ⟨rfl, hS⟩
 have HS := zH hS
 obtain ⟨c, hc⟩ : ∃ c, c = testsC l := ⟨_, rfl⟩
 rw [← hc]
 have HC := zH hc
 clear hcall hc hS
 by_cases h0 : c = 0
 rotate_left
 ·have hd : (c != 0) = true := by simpa using h0
  have HR := zH (show clashC l = c by unfold clashC; rw [← HC.out, if_neg h0])
  have HR2 := zH (show clashA l = (0, 0) by unfold clashA; rw [HR.out, if_neg h0])
  clear h0
  go_wp2
  go_ret3
  exact ⟨by rw [HR.out, HR2.out]; rfl, HS.out⟩
 subst h0
 go_wp2_with fail
 refine (clash_pair S l _ _ (HV.out.keep (.of_step HS.out)) (tests_ok HC.out.symm)).mono ?_
 rintro e w2 ⟨rfl, hS2⟩
 have HS2 := zH (HS.out.trans hS2)
 obtain ⟨i, hi⟩ : ∃ c, c = clashI l := ⟨_, rfl⟩
 obtain ⟨j, hj⟩ : ∃ c, c = clashJ l := ⟨_, rfl⟩
 rw [← hi, ← hj]
 have HI := zH (And.intro hi hj)
 clear hS2 hi hj
 by_cases h0 : i < 0
 ·have HR := zH (show clashC l = 7 by unfold clashC; rw [← HC.out, if_pos rfl, ← HI.out.1, if_pos h0])
  have HR2 := zH (show clashA l = (0, 0) by unfold clashA; rw [HR.out, if_neg (by decide)])
  have hd : decide (i < 0) = true := by simpa using h0
  clear h0
  go_wp2
  go_ret3
  exact ⟨by rw [HR.out, HR2.out]; rfl, HS2.out⟩
 ·have HR := zH (show clashC l = 0 by unfold clashC; rw [← HC.out, if_pos rfl, ← HI.out.1, if_neg h0])
  have HR2 := zH (show clashA l = (i, j) by unfold clashA; rw [HR.out, if_pos rfl, ← HI.out.1, ← HI.out.2])
  have hd : decide (i < 0) = false := by simpa using h0
  clear h0
  go_wp2
  go_ret3
  exact ⟨by rw [HR.out, HR2.out]; rfl, HS2.out⟩
end Go.Proofs.YtfhmdpicoccnfaaGreat
namespace Go.BT
theorem standN_is {l : List Tst} {t : List Head} {base : List Vec} : ∀ (lv : List Lvl) (k : Nat), k ≤ lv.length → (∀ j (_ : j < k) (hl : j < lv.length), standB l t (blowL base lv[j].push) = true) → (∀ (hl : k < lv.length), standB l t (blowL base lv[k].push) = false) → standN l t base lv = k
 | [], k, hk, _, _ => by simp at hk; subst hk; rfl
 | x :: r, 0, hk, _, h2 => by
  have := h2 (by simp)
  unfold standN
  rw [if_neg]
  simp only [List.getElem_cons_zero] at this
  rw [this]; decide
 | x :: r, k + 1, hk, h1, h2 => by
  have h0 := h1 0 (by omega) (by simp)
  simp only [List.getElem_cons_zero] at h0
  unfold standN
  rw [if_pos h0, standN_is r k (by simpa using hk) (fun j hj hl => h1 (j + 1) (by omega) (by simpa using hl)) (fun hl => h2 (by simpa using hl))]
theorem blow_wind {s : Site} (hs : SiteOk s) {k : Nat} (hk : k < s.levels.length) : windB (blowL s.base s.levels[k].push) = true := by
 have h1 := hs.base
 have h2 := (hs.lev k hk).2
 unfold windB blowL
 rw [Bool.and_eq_true, List.length_map]
 refine ⟨by simp only [withinB, Bool.and_eq_true, decide_eq_true_eq]; omega, ?_⟩
 rw [List.all_map, List.all_eq_true]
 intro v hv
 have h3 := List.all_eq_true.1 hs.corners v hv
 simp only [baseB, withinB, Bool.and_eq_true, decide_eq_true_eq] at h3
 have a1 : -10000 ≤ s.levels[k].push * v.x ∧ s.levels[k].push * v.x ≤ 10000 := by
  have b1 := Int.mul_le_mul_of_nonneg_left h3.1.2 h2.1
  have b2 := Int.mul_le_mul_of_nonneg_left h3.1.1 h2.1
  omega
 have a2 : -10000 ≤ s.levels[k].push * v.y ∧ s.levels[k].push * v.y ≤ 10000 := by
  have b1 := Int.mul_le_mul_of_nonneg_left h3.2.2 h2.1
  have b2 := Int.mul_le_mul_of_nonneg_left h3.2.1 h2.1
  omega
 simp only [Function.comp_apply, cornerB, withinB, Bool.and_eq_true, decide_eq_true_eq, timesV]
 omega
theorem reef_tent {t : List Head} {c : Int} (h0 : 0 ≤ c ∧ c ≤ 100) (ht : tentB t = true) : tentB (reefL c t) = true := by
 unfold tentB at ht ⊢
 simp only [Bool.and_eq_true] at ht ⊢
 refine ⟨by simpa [reefL] using ht.1, ?_⟩
 unfold reefL
 rw [List.all_map, List.all_eq_true]
 intro h hh
 have h1 := List.all_eq_true.1 ht.2 h hh
 show headB (reefH c h) = true
 unfold headB at h1 ⊢
 simp only [Bool.and_eq_true] at h1 ⊢
 have ha := h1.1.1.1
 simp only [withinB, Bool.and_eq_true, decide_eq_true_eq] at ha
 have b1 := Int.mul_nonneg ha.1 h0.1
 have b2 := Int.mul_le_mul ha.2 h0.2 h0.1 (by decide)
 refine ⟨⟨⟨?_, h1.1.1.2⟩, h1.1.2⟩, h1.2⟩
 have hr : 0 ≤ reefA h.area c ∧ reefA h.area c ≤ 1000 := by unfold reefA; omega
 simp [withinB, reefH, hr.1, hr.2]
end Go.BT
namespace Go.Proofs.YtfhmdpicoccnfaaGreat
set_option linter.unusedSimpArgs false
set_option linter.unusedVariables false
open Go.RowKit Go.BT
theorem blow_take {base : List Vec} {p : Int} {k : Nat} (hk : k < base.length) : blowL (base.take (k + 1)) p = blowL (base.take k) p ++ [timesV base[k] p] := by
 unfold blowL
 rw [List.take_succ_eq_append_getElem hk, List.map_append]; rfl
theorem wind_any (s : Site) (x : Lvl) (u : Value) (w : World) (hu : AV (fun _ => False) w u s) (hb : s.base.all baseB = true) (hx : 0 ≤ x.push ∧ x.push ≤ 100) (hn : s.base.length ≤ 12) :
  Calls Tryz.prog 84 #[u, .agg #[.int .i64 x.upto, .int .i64 x.push]] w fun e w' => ∃ v', e = .returned v' ∧ SL (Old w) w' v' (blowL s.base x.push) ∧ Step w w' := by
 obtain ⟨xa, xp⟩ := x
 dsimp only at hx ⊢
 obtain ⟨c0, c1, c2, rfl, h0, h1, h2⟩ := hu.site
 obtain ⟨p1, k1, rfl⟩ := h1.form
 obtain ⟨p2, k2, rfl⟩ := h2.form
 obtain ⟨p0, k0, rfl⟩ := h0.form
 obtain ⟨W0, hW0⟩ : ∃ W, W = (w.alloc (.cells #[.slice p0 s.base.length k0, .slice p1 s.levels.length k1, .slice p2 s.stages.length k2, .int .i64 s.openS] 47)).alloc (.cells #[.int .i64 xa, .int .i64 xp] 124) := ⟨_, rfl⟩
 have hbx : Bx W0 w.heap.size [.slice p0 s.base.length k0, .slice p1 s.levels.length k1, .slice p2 s.stages.length k2, .int .i64 s.openS] 47 := by subst hW0; exact (Bx.new w [_, _, _, _] _).step (Step.alloc _ _)
 have hbl : Bx W0 (w.heap.size + 1) [.int .i64 xa, .int .i64 xp] 124 := by subst hW0; exact Bx.new' _ [_, _] _ _ (by simp)
 have hS : Step w W0 := by subst hW0; exact (by with_reducible repeat (first | assumption | exact Step.refl _ | apply Step.s_alloc | apply Step.s_drew | apply Step.s_drewN | refine Step.trans ?_ (by assumption)))
 obtain ⟨q, d, bv, ov, he, _, hm, hp, hcl, _⟩ := (SL.go h0 hS).vecs
 injection he with he1 _ he3
 subst he1 he3
 have HW := zH hW0
 have HB := zH hbx
 have HBL := zH hbl
 have HS := zH hS
 have HC := zH (And.intro hb (And.intro hx hn))
 have HP := zH (And.intro hp hcl)
 have b0 := hbx.cell 0
 simp only [List.getElem?_cons_zero] at b0
 clear hW0 hbx hbl hS hu h0 h1 h2 hb hx hp hcl
 go_enter Tryz.func84, Tryz.ntmps84
 go_upto_region 2 with (fail)
 rw [← HW.out]
 clear b0 hn
 go_loopw [4, 10] (fun out i wr => ∃ k : Nat, k ≤ s.base.length ∧ i = .int .i64 k ∧ OwnL (Old W0) W0.heap.size 52 wr out (blowL (s.base.take k) xp) ∧ Below W0.heap.size W0 wr) (fun _ i _ => s.base.length - (intOf i).toNat)
 case atStart => exact ⟨0, Nat.zero_le _, rfl, OwnL.nil _ _ _ _, Below.refl _ _⟩
 case round =>
  obtain ⟨k, hk, rfl, hown, hBe⟩ := hrel
  have HO := zH hown
  have HBe := zH hBe
  obtain ⟨LL, hLL⟩ : ∃ L, L = blowL (s.base.take k) xp := ⟨_, rfl⟩
  rw [← hLL] at hown HO
  have HLK := zH (show LL.length = k by rw [hLL]; simp [blowL]; omega)
  obtain ⟨po, co, rfl, _⟩ := hown.form
  have HT := zH (Step.of hBe)
  by_cases hlt : k < s.base.length
  ·obtain rfl := HP.out.1 (by omega)
   obtain ⟨e0, e1⟩ := HP.out.2 k hlt
   have e0 := HT.out.kc e0
   have e1 := HT.out.kc e1
   have hix : (0 : Int) ≤ (k : Int) ∧ (k : Int) < (s.base.length : Int) := by omega
   have HR := zH (show blowL (s.base.take (k + 1)) xp = LL ++ [timesV s.base[k] xp] by rw [blow_take hlt, hLL])
   have hc := all_get HC.out.1 hlt
   simp only [baseB, withinB, Bool.and_eq_true, decide_eq_true_eq] at hc
   obtain ⟨v, hv⟩ : ∃ v, v = s.base[k] := ⟨_, rfl⟩
   rw [← hv] at e0 e1 HR hc
   obtain ⟨va, vb⟩ := v
   dsimp only at e0 e1 hc
   have hxp := HC.out.2.1
   have m1 := Int.mul_le_mul_of_nonneg_left hc.1.2 hxp.1
   have m2 := Int.mul_le_mul_of_nonneg_left hc.1.1 hxp.1
   have m3 := Int.mul_le_mul_of_nonneg_left hc.2.2 hxp.1
   have m4 := Int.mul_le_mul_of_nonneg_left hc.2.1 hxp.1
   have c1 : va * xp = xp * va := Int.mul_comm _ _
   have c2 : vb * xp = xp * vb := Int.mul_comm _ _
   have hw1 : IntKind.i64.wrap (va * xp) = xp * va := by rw [c1, IntKind.wrap_i64]; omega
   have hw2 : IntKind.i64.wrap (vb * xp) = xp * vb := by rw [c2, IntKind.wrap_i64]; omega
   have l0 := (HBL.out.step HT.out).cell 0
   have l1 := (HBL.out.step HT.out).cell 1
   have ll := (HBL.out.step HT.out).lt
   simp only [zD, zE] at l0 l1
   have hBl0 := (HBe.out.step (Nat.le_refl _) (Step.alloc wr (.cells #[.int .i64 va, .int .i64 vb] 52))).step (Nat.le_refl _) (Step.alloc _ (.cells #[.int .i64 (xp * va), .int .i64 (xp * vb)] 52))
   have hown4 := (HO.out.alloc (.cells #[.int .i64 va, .int .i64 vb] 52)).alloc (.cells #[.int .i64 (xp * va), .int .i64 (xp * vb)] 52)
   have hu := SLe.one (S := avoid (Old W0) (.slice po LL.length co)) (w := wr.alloc (.cells #[.int .i64 va, .int .i64 vb] 52)) (cs := [.int .i64 (xp * va), .int .i64 (xp * vb)]) (x := timesV ⟨va, vb⟩ xp) 52 rfl
   rw [World.size_alloc] at hu
   have hbz := hBl0.size
   have HBl := zH hBl0
   have hl1 : LL.length ≤ 12 := by have := HC.out.2.2; have := HLK.out; omega
   clear hown hBe hLL hc hv m1 m2 m3 m4 c1 c2 hBl0 hxp
   go_wp2_with (at_builtin; refine wpl_append (α := Vec) (S := Old W0) (base := W0.heap.size) (v := .slice po LL.length co) (l := LL) (m := [timesV ⟨va, vb⟩ xp]) eiVecs rfl _ _ rfl rfl rfl hown4 hu (LL.length + 1) (by simp) _ rfl (by simp only [maxLen]; omega) (by omega) hbz ?_)
   intro p5 c5 w5 hown5 hg5
   have HF := zH (And.intro hown5 (HBl.out.grown hg5 hbz (fun j hj => (hown4.lt j hj).1)))
   clear hown4 hu hown5 hg5 hbz hl1 e0 e1 l0 l1 ll hw1 hw2
   go_wp2
   go_roundw
   case rel => exact ⟨k + 1, by omega, by go_num, by rw [HR.out]; exact HF.out.1, HF.out.2⟩
   case measure => simp [intOf]; omega
  ·have hke : k = s.base.length := by omega
   subst hke
   rw [List.take_length] at hLL
   have HF := zH (show SL (Old w) wr (.slice po LL.length co) (blowL s.base xp) by
    rw [← hLL]
    exact (HO.out.sl (S := Old W0) fun g h1 _ h2 => by unfold Old at h2; omega).weak fun j _ h => by have := HS.out.size; unfold Old at h ⊢; omega)
   clear hown hBe hLL
   go_wp2
   go_ret
   exact ⟨_, rfl, HF.out, HS.out.trans HT.out⟩
theorem weakR_ok {l : List Tst} {t : List Head} {wind : List Vec} (h : blownC l t wind = 0) : decide (0 ≤ (weakR l t wind).1) = !standB l t wind := by
 unfold weakR
 rw [if_pos h]
 have := (weakP_iff (l := l) (t := t) (wind := wind)).1
 cases q : standB l t wind with
 | true => simp; exact this.2 q
 | false =>
  simp only [Bool.not_false, decide_eq_true_eq]
  have : ¬ (weakP l t wind).1 < 0 := fun h => by rw [q] at this; exact absurd (this.1 h) (by decide)
  omega
theorem blown_zero {l : List Tst} {t : List Head} {wind : List Vec} (h1 : testsC l = 0) (h2 : soundC l = 0) (h3 : tentB t = true) (h4 : windB wind = true) : blownC l t wind = 0 := by
 have ht : tentC t = 0 := by unfold tentC; rw [if_pos h3]
 unfold blownC readyC
 rw [if_pos h1, ht, if_pos rfl, if_pos h4, h2]
theorem limit_any (s : Site) (l : List Tst) (t : List Head) (u v x : Value) (w : World) (hu : AV (fun _ => False) w u s) (hv : SL (fun _ => False) w v l) (hx : SL (fun _ => False) w x t) (hs : siteB s = true) (h1 : testsC l = 0) (h2 : soundC l = 0) (h3 : tentB t = true) :
  Calls Tryz.prog 44 #[u, v, x] w fun e w' => e = .returned (.int .i64 (uptoN s.levels (standN l t s.base s.levels))) ∧ Step w w' := by
 obtain ⟨c0, c1, c2, rfl, q0, q1, q2⟩ := hu.site
 have hm1 := q1.len
 obtain ⟨p1, k1, rfl⟩ := q1.form
 obtain ⟨p2, k2, rfl⟩ := q2.form
 obtain ⟨p0, k0, rfl⟩ := q0.form
 have hok := site_ok hs
 obtain ⟨W0, hW0⟩ : ∃ W, W = w.alloc (.cells #[.slice p0 s.base.length k0, .slice p1 s.levels.length k1, .slice p2 s.stages.length k2, .int .i64 s.openS] 47) := ⟨_, rfl⟩
 have hbx : Bx W0 w.heap.size [.slice p0 s.base.length k0, .slice p1 s.levels.length k1, .slice p2 s.stages.length k2, .int .i64 s.openS] 47 := by subst hW0; exact Bx.new w [_, _, _, _] _
 have hS : Step w W0 := by subst hW0; exact Step.alloc _ _
 obtain ⟨pv, cv, rfl⟩ := hv.form
 obtain ⟨px, cx, rfl⟩ := hx.form
 have HW := zH hW0
 have HB := zH hbx
 have HS := zH hS
 have HV := zH (SL.go hv hS)
 have HX := zH (SL.go hx hS)
 have HAV := zH (AV.go hu hS)
 have HV1 := zH (SL.go q1 hS)
 have HOK := zH hok
 have HZ := zH (And.intro h1 (And.intro h2 h3))
 have b1 := hbx.cell 1
 simp only [zD, zE] at b1
 clear hW0 hbx hS hu hv hx q0 q1 q2 hok h1 h2 h3 hs
 go_enter Tryz.func44, Tryz.ntmps44
 go_upto_region 3 with (fail)
 rw [← HW.out]
 clear b1
 go_loopw [7, 17] (fun best i wr => ∃ k : Nat, k ≤ s.levels.length ∧ i = .int .i64 k ∧ best = .int .i64 (uptoN s.levels k) ∧ (∀ j (hj : j < k) (hl : j < s.levels.length), standB l t (blowL s.base s.levels[j].push) = true) ∧ Step W0 wr) (fun _ i _ => s.levels.length - (intOf i).toNat)
 case atStart => exact ⟨0, Nat.zero_le _, rfl, rfl, fun j hj => absurd hj (by omega), Step.refl _⟩
 case round =>
  obtain ⟨k, hk, rfl, rfl, hall, hT⟩ := hrel
  have HA := zH hall
  have HTR := zH hT
  clear hall hT
  by_cases hlt : k < s.levels.length
  ·obtain ⟨qq, dd, bb, oo, he, _, _, hp, hc, _⟩ := (SL.go HV1.out HTR.out).lvls
   injection he with he1 _ he3
   subst he1 he3
   obtain rfl := hp (by omega)
   obtain ⟨e1, e2⟩ := hc k hlt
   have hix : (0 : Int) ≤ (k : Int) ∧ (k : Int) < (s.levels.length : Int) := by omega
   have hlv := HOK.out.lev k hlt
   have HWB := zH (blow_wind HOK.out hlt)
   have HUP := zH (show uptoN s.levels (k + 1) = s.levels[k].upto by simp only [uptoN, List.getElem?_eq_getElem hlt])
   obtain ⟨y, hy⟩ : ∃ y, y = s.levels[k] := ⟨_, rfl⟩
   rw [← hy] at e1 e2 hlv HWB HUP
   have HY := zH hy
   have HLV := zH hlv
   obtain ⟨W3, hW3⟩ : ∃ W, W = wr.alloc (.cells #[.int .i64 y.upto, .int .i64 y.push] 124) := ⟨_, rfl⟩
   have HB3 := zH (show Bx W3 wr.heap.size [.int .i64 y.upto, .int .i64 y.push] 124 by subst hW3; exact Bx.new wr [_, _] _)
   have HS3 := zH (show Step wr W3 by subst hW3; exact Step.alloc _ _)
   have HW3 := zH hW3
   have HT := zH (HTR.out.trans HS3.out)
   clear hp hc hy hlv hW3
   go_upto_region 5 with (fail)
   rw [← HW3.out]
   clear e1 e2
   have x0 := HB3.out.cell 0
   have x1 := HB3.out.cell 1
   have xl := HB3.out.lt
   have g0 := (HB.out.step HT.out).cell 0
   have g1 := (HB.out.step HT.out).cell 1
   have g2 := (HB.out.step HT.out).cell 2
   have g3 := (HB.out.step HT.out).cell 3
   simp only [zD, zE] at x0 x1 g0 g1 g2 g3
   go_wp2_with fail
   refine (wind_any s y _ _ (AV.go HAV.out HT.out) HOK.out.corners HLV.out.2 HOK.out.base.2).mono ?_
   rintro e w4 ⟨v4, rfl, hv4, hS4⟩
   clear g0 g1 g2 g3 x0 x1 xl
   have HV4 := zH (SL.go hv4 (Step.refl _))
   have HT4 := zH (HT.out.trans hS4)
   have HS4 := zH hS4
   clear hS4 hv4
   go_wp2_with fail
   refine (Weakest_any (fun _ => False) l t (blowL s.base y.push) _ _ _ _ (SL.go HV.out HT4.out) (SL.go HX.out HT4.out) HV4.out).mono ?_
   rintro e w5 ⟨a, b, rfl, _, _, hS5⟩
   have hbz := blown_zero HZ.out.1 HZ.out.2.1 HZ.out.2.2 HWB.out
   have hwk := weakR_ok hbz
   obtain ⟨r1, hr1⟩ : ∃ r, r = (weakR l t (blowL s.base y.push)).1 := ⟨_, rfl⟩
   rw [← hr1] at hwk ⊢
   have HT5 := zH (HT4.out.trans hS5)
   have HB5 := zH ((HB3.out.step HS4.out).step hS5)
   clear hbz hr1 hS5 HV4
   cases q : standB l t (blowL s.base y.push) with
   | true =>
    rw [q] at hwk
    simp only [Bool.not_true] at hwk
    have HQ := zH q
    clear q
    have x0 := HB5.out.cell 0
    have xl := HB5.out.lt
    simp only [List.getElem?_cons_zero] at x0
    go_wp2
    go_roundw
    case rel => exact ⟨k + 1, by omega, by go_num, by rw [HUP.out], fun j hj hl => if e : j = k then by subst e; rw [← HY.out]; exact HQ.out else HA.out j (by omega) hl, HT5.out.trans (Step.alloc _ _)⟩
    case measure => simp [intOf]; omega
   | false =>
    rw [q] at hwk
    simp only [Bool.not_false] at hwk
    have HQ := zH (standN_is s.levels k hk HA.out fun _ => by rw [← HY.out]; exact q)
    clear q
    go_wp2
    go_ret
    exact ⟨by rw [HQ.out]; rfl, HS.out.trans (HT5.out.trans (Step.alloc _ _))⟩
  ·have HQ := zH (standN_is s.levels k hk HA.out fun h => absurd h hlt)
   go_wp2
   go_ret
   exact ⟨by rw [HQ.out]; rfl, HS.out.trans HTR.out⟩
theorem clash_code {l : List Tst} (h : testsC l = 0) : (clashC l == 0) = clashB l := by
 have hg := idxOf_ge (fun x => l.any (againstB x)) l
 have hb : clashB l = decide (0 ≤ clashI l) := by unfold clashI; rw [hg]; rfl
 rw [hb]
 unfold clashC
 rw [if_pos h]
 by_cases q : clashI l < 0
 ·rw [if_pos q, decide_eq_false (by omega)]; rfl
 ·rw [if_neg q, decide_eq_true (by omega)]; rfl
theorem limits_take {l : List Tst} {t : List Head} {s : Site} {k : Nat} (hk : k < s.stages.length) : (limitsL l t s).take (k + 1) = (limitsL l t s).take k ++ [limitL l t s s.stages[k].cover] := by
 have h : k < (limitsL l t s).length := by simpa [limitsL] using hk
 rw [List.take_succ_eq_append_getElem h]
 simp [limitsL]
theorem Limits_any (s : Site) (l : List Tst) (t : List Head) (v x u : Value) (w : World) (hv : SL (fun _ => False) w v l) (hx : SL (fun _ => False) w x t) (hu : AV (fun _ => False) w u s) (hs : siteB s = true) (h1 : testsC l = 0) (h3 : tentB t = true) :
  Calls Tryz.prog 11 #[v, x, u] w fun e w' => ∃ v', e = .returned (.tuple #[v', .int .i64 (soundC l)]) ∧ (soundC l = 0 → SL (fun _ => False) w' v' (limitsL l t s)) ∧ Step w w' := by
 obtain ⟨c0, c1, c2, rfl, q0, q1, q2⟩ := hu.site
 obtain ⟨p1, k1, rfl⟩ := q1.form
 obtain ⟨p2, k2, rfl⟩ := q2.form
 obtain ⟨p0, k0, rfl⟩ := q0.form
 have hok := site_ok hs
 obtain ⟨W0, hW0⟩ : ∃ W, W = w.alloc (.cells #[.slice p0 s.base.length k0, .slice p1 s.levels.length k1, .slice p2 s.stages.length k2, .int .i64 s.openS] 47) := ⟨_, rfl⟩
 have hbx : Bx W0 w.heap.size [.slice p0 s.base.length k0, .slice p1 s.levels.length k1, .slice p2 s.stages.length k2, .int .i64 s.openS] 47 := by subst hW0; exact Bx.new w [_, _, _, _] _
 have hS : Step w W0 := by subst hW0; exact Step.alloc _ _
 obtain ⟨pv, cv, rfl⟩ := hv.form
 obtain ⟨px, cx, rfl⟩ := hx.form
 have HW := zH hW0
 have HB := zH hbx
 have HS := zH hS
 have HV := zH (SL.go hv hS)
 have HX := zH (SL.go hx hS)
 have HAV := zH (AV.go hu hS)
 have HV2 := zH (SL.go q2 hS)
 have HOK := zH hok
 have HZ := zH (And.intro h1 (And.intro h3 hs))
 have HT := zH (Step.refl W0)
 have htc : tentC t = 0 := by unfold tentC; rw [if_pos h3]
 have HTC := zH htc
 clear hW0 hbx hS hu hv hx q0 q1 q2 hok h1 h3 hs htc
 go_enter Tryz.func11, Tryz.ntmps11
 go_upto_region 1 with (fail)
 rw [← HW.out]
 have hcall := zH (CheckTests_any (fun _ => False) l _ _ (SL.go HV.out HT.out))
 go_wp2_with fail
 refine hcall.out.mono ?_
 clear hcall
 rintro e wn ⟨rfl, hSn⟩
 have HTi := zH (HT.out.trans hSn)
 clear hSn HT
 have HT := HTi
 clear HTi
 rw [HZ.out.1]
 have hcall := zH (CheckTent_any (fun _ => False) t _ _ (SL.go HX.out HT.out))
 go_wp2_with fail
 refine hcall.out.mono ?_
 clear hcall
 rintro e wn ⟨rfl, hSn⟩
 have HTi := zH (HT.out.trans hSn)
 clear hSn HT
 have HT := HTi
 clear HTi
 rw [HTC.out]
 have g0 := (HB.out.step HT.out).cell 0
 have g1 := (HB.out.step HT.out).cell 1
 have g2 := (HB.out.step HT.out).cell 2
 have g3 := (HB.out.step HT.out).cell 3
 simp only [zD, zE] at g0 g1 g2 g3
 have hcall := zH (valid_ok s _ _ (AV.go HAV.out HT.out) HZ.out.2.2)
 go_wp2_with fail
 refine hcall.out.mono ?_
 clear hcall
 rintro e wn ⟨rfl, hSn⟩
 have HTi := zH (HT.out.trans hSn)
 clear hSn HT
 have HT := HTi
 clear HTi
 clear g0 g1 g2 g3
 have hcall := zH (ClashP_any (fun _ => False) l _ _ (SL.go HV.out HT.out))
 go_wp2_with fail
 refine hcall.out.mono ?_
 clear hcall
 rintro e wn ⟨rfl, hSn⟩
 have HTi := zH (HT.out.trans hSn)
 clear hSn HT
 have HT := HTi
 clear HTi
 have hcc := clash_code HZ.out.1
 obtain ⟨cc, hc0⟩ : ∃ c, c = clashC l := ⟨_, rfl⟩
 rw [← hc0] at hcc ⊢
 clear hc0
 cases q : clashB l with
 | true =>
  rw [q] at hcc
  have HSD := zH (show soundC l = 9 by unfold soundC; rw [q]; rfl)
  clear q
  go_wp2
  go_ret2
  exact ⟨_, by rw [HSD.out]; rfl, fun h => by rw [HSD.out] at h; exact absurd h (by decide), HS.out.trans HT.out⟩
 | false =>
 rw [q] at hcc
 have HSD := zH (show soundC l = 0 by unfold soundC; rw [q]; rfl)
 clear q
 have g0 := (HB.out.step HT.out).cell 0
 have g1 := (HB.out.step HT.out).cell 1
 have g2 := (HB.out.step HT.out).cell 2
 have g3 := (HB.out.step HT.out).cell 3
 simp only [zD, zE] at g0 g1 g2 g3
 go_upto_region 15 with (fail)
 clear g0 g1 g2 g3 hcc
 obtain ⟨wb, hwb⟩ : ∃ W, W = wn := ⟨_, rfl⟩
 subst hwb
 go_loopw [13, 43] (fun out i wr => ∃ k : Nat, k ≤ s.stages.length ∧ i = .int .i64 k ∧ OwnL (fun _ => False) wb.heap.size 3 wr out ((limitsL l t s).take k) ∧ Below wb.heap.size wb wr) (fun _ i _ => s.stages.length - (intOf i).toNat)
 case atStart => exact ⟨0, Nat.zero_le _, rfl, OwnL.nil _ _ _ _, Below.refl _ _⟩
 case round =>
  obtain ⟨k, hk, rfl, hown, hBe⟩ := hrel
  have HO := zH hown
  have HBe := zH hBe
  have HTR := zH (HT.out.trans (Step.of hBe))
  obtain ⟨LL, hLL⟩ : ∃ L, L = (limitsL l t s).take k := ⟨_, rfl⟩
  rw [← hLL] at hown HO
  have HLK := zH (show LL.length = k by rw [hLL]; simp [limitsL]; omega)
  obtain ⟨po, co, rfl, _⟩ := hown.form
  by_cases hlt : k < s.stages.length
  ·obtain ⟨qq, dd, bb, oo, he, _, _, hp, hc, _⟩ := (SL.go HV2.out HTR.out).stgs
   injection he with he1 _ he3
   subst he1 he3
   obtain rfl := hp (by omega)
   obtain ⟨e1, e2⟩ := hc k hlt
   have hix : (0 : Int) ≤ (k : Int) ∧ (k : Int) < (s.stages.length : Int) := by omega
   have HR := zH (show (limitsL l t s).take (k + 1) = LL ++ [limitL l t s s.stages[k].cover] by rw [limits_take hlt, hLL])
   have HCV := zH (show 0 ≤ s.stages[k].cover ∧ s.stages[k].cover ≤ 100 by
    by_cases e : k + 1 < s.stages.length
    ·have := HOK.out.st k e; omega
    ·have h := HOK.out.last
     rw [show s.stages.length - 1 = k by omega, List.getElem?_eq_getElem hlt] at h
     rw [Option.some.inj h]; decide)
   obtain ⟨y, hy⟩ : ∃ y, y = s.stages[k] := ⟨_, rfl⟩
   rw [← hy] at e1 e2 HR HCV
   obtain ⟨yc, ym⟩ := y
   dsimp only at e1 e2 HR HCV
   have HLL := zH (show LL.length ≤ 8 by have := HLK.out; have := HOK.out.nst; omega)
   obtain ⟨W3, hW3⟩ : ∃ W, W = wr.alloc (.cells #[.int .i64 yc, .int .i64 ym] 120) := ⟨_, rfl⟩
   have HB3 := zH (show Bx W3 wr.heap.size [.int .i64 yc, .int .i64 ym] 120 by subst hW3; exact Bx.new wr [_, _] _)
   have HS3 := zH (show Step wr W3 by subst hW3; exact Step.alloc _ _)
   have HW3 := zH hW3
   clear hp hc hy hW3 hown hBe hLL
   go_upto_region 17 with (fail)
   rw [← HW3.out]
   clear e1 e2
   have x0 := HB3.out.cell 0
   have x1 := HB3.out.cell 1
   have xl := HB3.out.lt
   simp only [zD, zE] at x0 x1
   by_cases hz : yc = 0
   ·subst hz
    have HLZ := zH (show limitL l t s 0 = 1000 by unfold limitL; rw [if_pos rfl])
    have hown4 := (HO.out.step HS3.out).alloc (.cells #[.int .i64 1000] 3)
    have hBl := (HBe.out.step (Nat.le_refl _) HS3.out).step (Nat.le_refl _) (Step.alloc W3 (.cells #[.int .i64 1000] 3))
    have hu := SLe.one (S := avoid (fun _ => False) (.slice po LL.length co)) (w := W3) (cs := [.int .i64 1000]) (x := (1000 : Int)) 3 rfl
    have hbz := hBl.size
    have HBl := zH hBl
    have hl1 := HLL.out
    clear hBl
    go_wp2_with (at_builtin; refine wpl_append (α := Int) (S := fun _ => False) (base := wb.heap.size) (v := .slice po LL.length co) (l := LL) (m := [1000]) eiInts rfl _ _ rfl rfl rfl hown4 hu (LL.length + 1) (by simp) _ rfl (by simp only [maxLen]; omega) (by omega) hbz ?_)
    intro p5 c5 w5 hown5 hg5
    have HF := zH (And.intro hown5 (HBl.out.grown hg5 hbz (fun j hj => (hown4.lt j hj).1)))
    clear hown4 hu hown5 hg5 hbz hl1 x0 x1 xl
    go_wp2
    go_roundw
    case rel => exact ⟨k + 1, by omega, by go_num, by rw [HR.out, HLZ.out]; exact HF.out.1, HF.out.2⟩
    case measure => simp [intOf]; omega
   ·have hd : (yc == 0) = false := beq_eq_false_iff_ne.2 hz
    have HLZ := zH (show limitL l t s yc = uptoN s.levels (standN l (reefL yc t) s.base s.levels) by unfold limitL; rw [if_neg hz])
    have HT3 := zH (HTR.out.trans HS3.out)
    clear hz
    go_wp2_with fail
    refine (reefed_any ⟨yc, ym⟩ t _ _ (SL.go HX.out HT3.out) HCV.out HZ.out.2.1).mono ?_
    rintro e w4 ⟨v4, rfl, hv4, hS4⟩
    have HV4 := zH (SL.go hv4 (Step.refl _))
    have HS4 := zH (HS3.out.trans hS4)
    have HT4 := zH (HT3.out.trans hS4)
    clear x0 x1 xl hv4 hS4
    go_wp2_with fail
    refine (limit_any s l (reefL yc t) _ _ _ _ (AV.go HAV.out HT4.out) (SL.go HV.out HT4.out) HV4.out HZ.out.2.2 HZ.out.1 HSD.out (reef_tent HCV.out HZ.out.2.1)).mono ?_
    rintro e w5 ⟨rfl, hS5⟩
    rw [← HLZ.out]
    obtain ⟨lm, hlm⟩ : ∃ x, x = limitL l t s yc := ⟨_, rfl⟩
    rw [← hlm] at HR ⊢
    have HS5 := zH (HS4.out.trans hS5)
    clear hS5 hlm HV4 HLZ
    have hown4 := (HO.out.step HS5.out).alloc (.cells #[.int .i64 lm] 3)
    have hBl := (HBe.out.step (Nat.le_refl _) HS5.out).step (Nat.le_refl _) (Step.alloc w5 (.cells #[.int .i64 lm] 3))
    have hu := SLe.one (S := avoid (fun _ => False) (.slice po LL.length co)) (w := w5) (cs := [.int .i64 lm]) (x := lm) 3 rfl
    have hbz := hBl.size
    have HBl := zH hBl
    have hl1 := HLL.out
    clear hBl
    go_wp2_with (at_builtin; refine wpl_append (α := Int) (S := fun _ => False) (base := wb.heap.size) (v := .slice po LL.length co) (l := LL) (m := [lm]) eiInts rfl _ _ rfl rfl rfl hown4 hu (LL.length + 1) (by simp) _ rfl (by simp only [maxLen]; omega) (by omega) hbz ?_)
    intro p5 c5 w6 hown5 hg5
    have HF := zH (And.intro hown5 (HBl.out.grown hg5 hbz (fun j hj => (hown4.lt j hj).1)))
    clear hown4 hu hown5 hg5 hbz hl1
    go_wp2
    go_roundw
    case rel => exact ⟨k + 1, by omega, by go_num, by rw [HR.out]; exact HF.out.1, HF.out.2⟩
    case measure => simp [intOf]; omega
  ·have hke : k = s.stages.length := by omega
   subst hke
   rw [show (limitsL l t s).take s.stages.length = limitsL l t s by rw [List.take_of_length_le (by simp [limitsL])]] at hLL
   have HF := zH (show SL (fun _ => False) wr (.slice po LL.length co) (limitsL l t s) by rw [← hLL]; exact HO.out.sl (fun _ _ _ h => h))
   clear hown hBe hLL
   go_wp2
   go_ret2
   exact ⟨_, by rw [HSD.out]; rfl, fun _ => HF.out, HS.out.trans HTR.out⟩
theorem Reefed_any (s : Site) (t : List Head) (i : Nat) (x u : Value) (w : World) (hx : SL (fun _ => False) w x t) (hu : AV (fun _ => False) w u s) (hs : siteB s = true) (h3 : tentB t = true) (hi : i < s.stages.length) :
  Calls Tryz.prog 15 #[x, u, .int .i64 i] w fun e w' => ∃ v', e = .returned (.tuple #[v', .int .i64 0]) ∧ SL (fun _ => False) w' v' (reefL s.stages[i].cover t) ∧ Step w w' := by
 obtain ⟨c0, c1, c2, rfl, q0, q1, q2⟩ := hu.site
 obtain ⟨p1, k1, rfl⟩ := q1.form
 obtain ⟨p2, k2, rfl⟩ := q2.form
 obtain ⟨p0, k0, rfl⟩ := q0.form
 have hok := site_ok hs
 obtain ⟨W0, hW0⟩ : ∃ W, W = w.alloc (.cells #[.slice p0 s.base.length k0, .slice p1 s.levels.length k1, .slice p2 s.stages.length k2, .int .i64 s.openS] 47) := ⟨_, rfl⟩
 have hbx : Bx W0 w.heap.size [.slice p0 s.base.length k0, .slice p1 s.levels.length k1, .slice p2 s.stages.length k2, .int .i64 s.openS] 47 := by subst hW0; exact Bx.new w [_, _, _, _] _
 have hS : Step w W0 := by subst hW0; exact Step.alloc _ _
 obtain ⟨px, cx, rfl⟩ := hx.form
 have htc : tentC t = 0 := by unfold tentC; rw [if_pos h3]
 have HW := zH hW0
 have HB := zH hbx
 have HS := zH hS
 have HX := zH (SL.go hx hS)
 have HAV := zH (AV.go hu hS)
 have HV2 := zH (SL.go q2 hS)
 have HZ := zH (And.intro htc (And.intro h3 hs))
 have HT := zH (Step.refl W0)
 have hnst := hok.nst
 have HCV := zH (show 0 ≤ s.stages[i].cover ∧ s.stages[i].cover ≤ 100 by
  by_cases e : i + 1 < s.stages.length
  ·have := hok.st i e; omega
  ·have h := hok.last
   rw [show s.stages.length - 1 = i by omega, List.getElem?_eq_getElem hi] at h
   rw [Option.some.inj h]; decide)
 have hwl : IntKind.i64.wrap ((s.stages.length : Int) - 1) = (s.stages.length : Int) - 1 := by rw [IntKind.wrap_i64]; omega
 have HWI := zH (show withinB (i : Int) 0 ((s.stages.length : Int) - 1) = true by simp [withinB]; omega)
 have hix : (0 : Int) ≤ (i : Int) ∧ (i : Int) < (s.stages.length : Int) := by omega
 clear hW0 hbx hS hu hx q0 q1 q2 hok h3 hs htc hnst
 go_enter Tryz.func15, Tryz.ntmps15
 go_upto_region 1 with (fail)
 rw [← HW.out]
 have hcall := zH (CheckTent_any (fun _ => False) t _ _ (SL.go HX.out HT.out))
 go_wp2_with fail
 refine hcall.out.mono ?_
 clear hcall
 rintro e wn ⟨rfl, hSn⟩
 have HTi := zH (HT.out.trans hSn)
 clear hSn HT
 have HT := HTi
 clear HTi
 rw [HZ.out.1]
 have g0 := (HB.out.step HT.out).cell 0
 have g1 := (HB.out.step HT.out).cell 1
 have g2 := (HB.out.step HT.out).cell 2
 have g3 := (HB.out.step HT.out).cell 3
 simp only [zD, zE] at g0 g1 g2 g3
 have hcall := zH (valid_ok s _ _ (AV.go HAV.out HT.out) HZ.out.2.2)
 go_wp2_with fail
 refine hcall.out.mono ?_
 clear hcall
 rintro e wn ⟨rfl, hSn⟩
 have HTi := zH (HT.out.trans hSn)
 clear hSn HT
 have HT := HTi
 clear HTi
 clear g0 g1 g2 g3
 have g2 := (HB.out.step HT.out).cell 2
 simp only [zD, zE] at g2
 obtain ⟨qq, dd, bb, oo, he, _, _, hp, hc, _⟩ := (SL.go HV2.out HT.out).stgs
 injection he with he1 _ he3
 subst he1 he3
 obtain rfl := hp (by omega)
 obtain ⟨e1, e2⟩ := hc i hi
 obtain ⟨y, hy⟩ : ∃ y, y = s.stages[i] := ⟨_, rfl⟩
 rw [← hy] at e1 e2 HCV
 have HY := zH hy
 clear hp hc hy
 go_wp2_with fail
 refine (gale.within_any _ _ _ _).mono ?_
 rintro e wx ⟨rfl, rfl⟩
 rw [HWI.out]
 go_wp2_with fail
 refine (reefed_any y t _ _ (SL.go HX.out HT.out) HCV.out HZ.out.2.1).mono ?_
 rintro e w4 ⟨v4, rfl, hv4, hS4⟩
 have HV4 := zH (SL.go hv4 (Step.refl _))
 have HT4 := zH (HT.out.trans hS4)
 clear hv4 hS4 e1 e2 g2
 go_wp2
 go_ret2
 exact ⟨_, rfl, by rw [← HY.out]; exact HV4.out, HS.out.trans HT4.out⟩
end Go.Proofs.YtfhmdpicoccnfaaGreat
namespace Go.BT
open Go
set_option linter.unusedVariables false
def deadI (worst : List Int) (lim : Int) : Option Nat := worst.findIdx? fun n => decide (lim < n)
structure PlanS where
 begin_ : List Int
 next : Int
 call : Int
def minutesAt (s : Site) (i : Nat) : Int := match s.stages[i]? with | some x => x.minutes | none => 0
def leftAt (s : Site) (st : PlanS) (i h : Nat) : Int := min (60 * (h : Int)) st.next - minutesAt s i
def planStep (s : Site) (limits worst : List Int) (out : Int) (i : Nat) (st : PlanS) : Option PlanS := match deadI worst (limits.getD i 0) with
 | none => some st
 | some h => if leftAt s st i h < 0 ∨ ((i : Int) = s.openS ∧ leftAt s st i h - out < 0) then none else some ⟨st.begin_.set i (leftAt s st i h), leftAt s st i h, if (i : Int) = s.openS then leftAt s st i h - out else st.call⟩
def planTo (s : Site) (limits worst : List Int) (out : Int) : Nat → Option PlanS
 | 0 => some ⟨List.replicate s.stages.length (-1), 2880, -1⟩
 | k + 1 => match planTo s limits worst out k with
  | none => none
  | some st => planStep s limits worst out (s.stages.length - 1 - k) st
def planR (s : Site) (limits worst : List Int) (now out : Int) : Option PlanS := planTo s limits worst out (s.stages.length - now.toNat)
theorem upto_lt {s : Site} (hs : SiteOk s) : ∀ {m n : Nat} (hn : n < s.levels.length) (hm : m ≤ n), s.levels[m].upto ≤ s.levels[n].upto
 | m, 0, hn, hm => by
  obtain rfl : m = 0 := by omega
  exact Int.le_refl _
 | m, n + 1, hn, hm => by
  by_cases e : m = n + 1
  ·subst e; exact Int.le_refl _
  ·have := upto_lt hs (m := m) (show n < s.levels.length by omega) (by omega)
   have := hs.rise n hn
   omega
end Go.BT
namespace Go.Proofs.YtfhmdpicoccnfaaGreat
set_option linter.unusedSimpArgs false
set_option linter.unusedVariables false
open Go.RowKit Go.BT
theorem isNaN_any (a : Int) (w : World) : Calls Tryz.prog 156 #[.int .i64 a] w fun e w' => e = .returned (.bool false) ∧ w = w' := by
 have h : (a != a) = false := by simp
 go_enter Tryz.func156, Tryz.ntmps156
 go_wp2
 go_ret
 exact ⟨by simp, rfl⟩
theorem Less_any (a b : Int) (w : World) : Calls Tryz.prog 138 #[.int .i64 a, .int .i64 b] w fun e w' => e = .returned (.bool (decide (a < b))) ∧ w = w' := by
 go_enter Tryz.func138, Tryz.ntmps138
 go_wp2_with fail
 refine (isNaN_any _ _).mono ?_
 rintro e w' ⟨rfl, rfl⟩
 go_wp2
 go_ret
 exact ⟨by simp, rfl⟩
theorem IsSorted_ok (l : List Int) (v : Value) (w : World) (hv : SL (fun _ => False) w v l) (h0 : 1 ≤ l.length) (hs : ∀ j (hj : j + 1 < l.length), l[j] ≤ l[j + 1]) : Calls Tryz.prog 100 #[v] w fun e w' => e = .returned (.bool true) ∧ Step w w' := by
 have hm := hv.len
 obtain ⟨pv, cv, bv, ov, rfl, _, _, hp, hc, _⟩ := hv.ints
 obtain rfl := hp (by omega)
 have HC := zH hc
 have HS := zH hs
 have hw1 : IntKind.i64.wrap ((l.length : Int) - 1) = ((l.length - 1 : Nat) : Int) := by rw [IntKind.wrap_i64]; omega
 clear hv hp hc hs
 go_enter Tryz.func100, Tryz.ntmps100
 go_wp2
 go_loopw [3] (fun i wr => ∃ k : Nat, k < l.length ∧ i = .int .i64 k ∧ Step w wr) (fun i _ => (intOf i).toNat)
 case atStart => exact ⟨l.length - 1, by omega, by first | rfl | (rw [← hw1]), Step.refl _⟩
 case round =>
  obtain ⟨k, hk, rfl, hT⟩ := hrel
  have HT := zH hT
  clear hT hw1
  cases k with
  | zero =>
   have d0 : decide ((0 : Int) < ((0 : Nat) : Int)) = false := by decide
   go_wp2
   go_ret
   exact ⟨rfl, HT.out⟩
  | succ j =>
   have d0 : decide ((0 : Int) < ((j + 1 : Nat) : Int)) = true := decide_eq_true (by omega)
   have hjx : (0 : Int) ≤ (j : Int) ∧ (j : Int) < (l.length : Int) := by omega
   have hix : (0 : Int) ≤ ((j + 1 : Nat) : Int) ∧ ((j + 1 : Nat) : Int) < (l.length : Int) := by omega
   have hix2 : (0 : Int) ≤ (j : Int) + 1 ∧ (j : Int) + 1 < (l.length : Int) := by omega
   have htn : ((j : Int) + 1).toNat = j + 1 := by omega
   have hwj : IntKind.i64.wrap (j : Int) = (j : Int) := by rw [IntKind.wrap_i64]; omega
   have HLE := zH (HS.out j hk)
   have HE := zH (And.intro (HC.out (j + 1) hk) (HC.out j (by omega)))
   obtain ⟨a, ha⟩ : ∃ a, a = l[j + 1] := ⟨_, rfl⟩
   obtain ⟨b, hb⟩ : ∃ b, b = l[j]'(by omega) := ⟨_, rfl⟩
   rw [← ha, ← hb] at HE HLE
   have hd : decide (a < b) = false := decide_eq_false (by have := HLE.out; omega)
   clear ha hb
   go_upto_region 4 with (fail)
   obtain ⟨wo, hwo⟩ : ∃ W, W = wr := ⟨_, rfl⟩
   subst hwo
   have HTR := HT
   clear HT
   have HT := zH (Step.refl wo)
   refine wp_region_seq (kdOf [9] []) [0, 0, 3, 7, 0, 0, 32, 112, 240, 511] [0, 1, 2, 3, 4, 5, 6, 7, 8, 9] [] (by kernel_rfl) (by kernel_rfl) (fun i T z hi hk => by simp [kdOf] at hk <;> (try (split at hk <;> cases hk))) ?_
   intro Wx hWx
   have HTx := zH (HT.out.trans hWx)
   clear hWx HT
   have HT := HTx
   clear HTx
   have x0 := (HTR.out.trans HT.out).kc HE.out.1
   have x1 := (HTR.out.trans HT.out).kc HE.out.2
   repeat ((first | (refine run_off rfl rfl (by rfl) ?_) | (refine run_chain_off rfl rfl (by rfl) (K0_mono _) ?_) | ((refine run_want rfl rfl (by rfl) ⟨?_, fun W hW => ?_, ?_⟩; rotate_left; (· (have d0 := hW.kc x0; have d1 := hW.kc x1; go_simp; (try with_reducible rfl)))))); (try simp only [Act.put, zA, zB, zC]))
   clear x0 x1
   refine run_chain rfl rfl (by rfl) (fun Wi hWi K' hK => ?_)
   have HTi := zH (HT.out.trans hWi)
   clear hWi HT
   go_simp
   refine (Less_any _ _ _).mono ?_
   rintro e wn ⟨rfl, rfl⟩
   rw [hd]
   have HT := HTi
   clear HTi
   refine hK _ _ (StepX.refl _ _) ?_
   (try simp only [Act.put, zA, zB, zC])
   repeat ((first | (refine run_off rfl rfl (by rfl) ?_) | (refine run_chain_off rfl rfl (by rfl) (K0_mono _) ?_) | ((refine run_want rfl rfl (by rfl) ⟨?_, fun W hW => ?_, ?_⟩; rotate_left; (· (skip; go_simp; (try with_reducible rfl)))))); (try simp only [Act.put, zA, zB, zC]))
   refine run_end (L := []) rfl (fun W6 hW6 => ?_)
   have HT6 := zH (HT.out.trans hW6)
   clear hW6 HT
   have HT := HT6
   clear HT6
   go_wp2
   go_roundw
   case rel => exact ⟨j, by omega, by go_num, HTR.out.trans HT.out⟩
   case measure => simp [intOf]
theorem least_any (a b : Int) (v : Value) (w : World) (hv : SL (fun _ => False) w v [a, b]) : Calls Tryz.prog 60 #[v] w fun e w' => e = .returned (.int .i64 (min a b)) ∧ Step w w' := by
 obtain ⟨pv, cv, bv, ov, rfl, _, _, hp, hc, _⟩ := hv.ints
 obtain rfl := hp (by simp)
 have e0 := hc 0 (by simp)
 have e1 := hc 1 (by simp)
 simp only [List.getElem_cons_zero, List.getElem_cons_succ, Nat.add_zero] at e0 e1
 have hlen : ([a, b] : List Int).length = 2 := rfl
 rw [hlen]
 have hmin : Calls Tryz.prog 65 #[.slice (some ⟨bv, ov, none⟩) 2 cv] w fun e w' => e = .returned (.int .i64 (min a b)) ∧ Step w w' := by
  clear hp hc hv hlen
  go_enter Tryz.func65, Tryz.ntmps65
  go_wp2
  go_loopw [3, 4] (fun m i wr => ((i = .int .i64 1 ∧ m = .int .i64 a) ∨ (i = .int .i64 2 ∧ m = .int .i64 (min a b))) ∧ Step w wr) (fun _ i _ => 2 - (intOf i).toNat)
  case atStart => exact ⟨.inl ⟨rfl, rfl⟩, Step.refl _⟩
  case round =>
   obtain ⟨hr, hT⟩ := hrel
   have HT := zH hT
   have e1 := HT.out.kc e1
   clear hT
   rcases hr with ⟨rfl, rfl⟩ | ⟨rfl, rfl⟩
   ·have hq : (if b < a then b else a) = min a b := by omega
    go_wp2
    go_roundw
    case rel => exact ⟨.inr ⟨rfl, by first | rfl | (rw [hq]) | (rw [← hq])⟩, HT.out⟩
    case measure => simp [intOf]
   ·go_wp2
    go_ret
    exact ⟨rfl, HT.out⟩
 have HM := zH hmin
 clear hp hc hv hmin e0 e1
 go_enter Tryz.func60, Tryz.ntmps60
 go_wp2_with fail
 refine HM.out.mono ?_
 rintro e w' ⟨rfl, hS⟩
 go_wp2
 go_ret
 exact ⟨rfl, hS⟩
theorem lim1_any (n : Int) (w : World) : Calls Tryz.prog 99 #[.int .i64 n] w fun e w' => e = .returned (.bool (withinB n (-1) 1000)) ∧ Step w w' := by
 go_enter Tryz.func99, Tryz.ntmps99
 go_wp2_with fail
 refine (gale.within_any _ _ _ _).mono ?_
 rintro e w' ⟨rfl, rfl⟩
 go_wp2
 go_ret
 exact ⟨rfl, Step.refl _⟩
theorem plan1_any (n : Int) (w : World) : Calls Tryz.prog 57 #[.int .i64 n] w fun e w' => e = .returned (.bool (withinB n 0 1000)) ∧ Step w w' := by
 go_enter Tryz.func57, Tryz.ntmps57
 go_wp2_with fail
 refine (gale.within_any _ _ _ _).mono ?_
 rintro e w' ⟨rfl, rfl⟩
 go_wp2
 go_ret
 exact ⟨rfl, Step.refl _⟩
theorem all_lim1 (l : List Int) (v : Value) (w : World) (hv : SL (fun _ => False) w v l) : Calls Tryz.prog 56 #[v, .func (.func 99) #[] #[]] w fun e w' => e = .returned (.bool (l.all (fun n => withinB n (-1) 1000))) ∧ Step w w' :=
 (all_int (fun _ => False) l v w 99 #[] (Go.Proofs.enters_of Tryz.func99 (by kernel_rfl) rfl) (fun n => withinB n (-1) 1000) (fun _ W => Step w W) (fun _ => False) (fun _ h => h.elim)
  (fun _ W hW => hv.keep (.of_step hW)) (fun _ _ _ h1 h2 => h1.trans h2) (Step.refl _) (fun i hi W u hW _ hu => by
   subst hu
   refine (lim1_any _ W).mono ?_
   rintro e w' ⟨rfl, hs⟩
   exact ⟨rfl, hW.trans hs, hs⟩)).mono fun e w' ⟨h, k, _, _, hs⟩ => ⟨h, hs⟩
theorem all_plan1 (l : List Int) (v : Value) (w : World) (hv : SL (fun _ => False) w v l) : Calls Tryz.prog 56 #[v, .func (.func 57) #[] #[]] w fun e w' => e = .returned (.bool (l.all (fun n => withinB n 0 1000))) ∧ Step w w' :=
 (all_int (fun _ => False) l v w 57 #[] (Go.Proofs.enters_of Tryz.func57 (by kernel_rfl) rfl) (fun n => withinB n 0 1000) (fun _ W => Step w W) (fun _ => False) (fun _ h => h.elim)
  (fun _ W hW => hv.keep (.of_step hW)) (fun _ _ _ h1 h2 => h1.trans h2) (Step.refl _) (fun i hi W u hW _ hu => by
   subst hu
   refine (plan1_any _ W).mono ?_
   rintro e w' ⟨rfl, hs⟩
   exact ⟨rfl, hW.trans hs, hs⟩)).mono fun e w' ⟨h, k, _, _, hs⟩ => ⟨h, hs⟩
end Go.Proofs.YtfhmdpicoccnfaaGreat
namespace Go.BT
theorem limited_parts {s : Site} {l : List Int} (h : limitedB s l = true) : l.length = s.stages.length ∧ (l.all fun n => withinB n (-1) 1000) = true ∧ (∀ j (hj : j + 1 < l.length), l[j] ≤ l[j + 1]) ∧ l.getD (l.length - 1) 0 = 1000 := by
 simp only [limitedB, Bool.and_eq_true, decide_eq_true_eq] at h
 refine ⟨h.1.1.1, h.1.1.2, fun j hj => ?_, h.2⟩
 have := List.all_eq_true.1 h.1.2 j (List.mem_range.2 (by omega))
 simp only [decide_eq_true_eq, List.getD_eq_getElem?_getD, List.getElem?_eq_getElem (show j < l.length by omega), List.getElem?_eq_getElem hj, Option.getD_some] at this
 exact this
theorem minutes_ok {s : Site} (hs : SiteOk s) {i : Nat} (hi : i < s.stages.length) : minutesAt s i = s.stages[i].minutes ∧ 0 ≤ s.stages[i].minutes ∧ s.stages[i].minutes ≤ 240 := by
 refine ⟨by unfold minutesAt; rw [List.getElem?_eq_getElem hi], ?_⟩
 by_cases e : i + 1 < s.stages.length
 ·have := hs.st i e; omega
 ·have h := hs.last
  rw [show s.stages.length - 1 = i by omega, List.getElem?_eq_getElem hi] at h
  rw [Option.some.inj h]; decide
theorem plan_next {s : Site} {limits worst : List Int} {out : Int} (hs : SiteOk s) : ∀ (k : Nat) (_ : k ≤ s.stages.length) (st : PlanS), planTo s limits worst out k = some st → (0 ≤ st.next ∧ st.next ≤ 2880) ∧ st.begin_.length = s.stages.length
 | 0, _, st, h => by
  unfold planTo at h
  obtain rfl := Option.some.inj h
  simp
 | k + 1, hk, st, h => by
  unfold planTo at h
  cases hp : planTo s limits worst out k with
  | none => rw [hp] at h; simp at h
  | some st0 =>
   rw [hp] at h
   have ih := plan_next hs k (by omega) st0 hp
   simp only [planStep] at h
   cases hd : deadI worst (limits.getD (s.stages.length - 1 - k) 0) with
   | none => rw [hd] at h; obtain rfl := Option.some.inj h; exact ih
   | some d =>
    rw [hd] at h
    simp only at h
    split at h
    ·simp at h
    ·rename_i hn
     obtain rfl := Option.some.inj h
     have h1 : ¬ leftAt s st0 (s.stages.length - 1 - k) d < 0 := fun q => hn (.inl q)
     have h2 := minutes_ok hs (show s.stages.length - 1 - k < s.stages.length by omega)
     refine ⟨?_, by simpa using ih.2⟩
     simp only [leftAt] at h1 ⊢
     omega
end Go.BT
namespace Go.Proofs.YtfhmdpicoccnfaaGreat
set_option linter.unusedSimpArgs false
set_option linter.unusedVariables false
open Go.RowKit Go.BT
theorem dead_idx (worst : List Int) (lim : Int) : idxOf (fun n => decide (lim < n)) worst = match deadI worst lim with | some h => (h : Int) | none => -1 := rfl
theorem limited_ok (s : Site) (l : List Int) (u v : Value) (w : World) (hu : AV (fun _ => False) w u s) (hv : SL (fun _ => False) w v l) (h : limitedB s l = true) (hn : 1 ≤ s.stages.length) : Calls Tryz.prog 55 #[u, v] w fun e w' => e = .returned (.bool true) ∧ Step w w' := by
 obtain ⟨a1, a2, a3, a4⟩ := limited_parts h
 have hm := hv.len
 obtain ⟨c0, c1, c2, rfl, q0, q1, q2⟩ := hu.site
 obtain ⟨p1, k1, rfl⟩ := q1.form
 obtain ⟨p2, k2, rfl⟩ := q2.form
 obtain ⟨p0, k0, rfl⟩ := q0.form
 obtain ⟨W0, hW0⟩ : ∃ W, W = w.alloc (.cells #[.slice p0 s.base.length k0, .slice p1 s.levels.length k1, .slice p2 s.stages.length k2, .int .i64 s.openS] 47) := ⟨_, rfl⟩
 have hbx : Bx W0 w.heap.size [.slice p0 s.base.length k0, .slice p1 s.levels.length k1, .slice p2 s.stages.length k2, .int .i64 s.openS] 47 := by subst hW0; exact Bx.new w [_, _, _, _] _
 have hS : Step w W0 := by subst hW0; exact Step.alloc _ _
 have hv0 := SL.go hv hS
 obtain ⟨pv, cv, bv, ov, rfl, _, _, hp, hc, _⟩ := hv0.ints
 obtain rfl := hp (by omega)
 have HW := zH hW0
 have HS := zH hS
 have HV := zH hv0
 have HA := zH (And.intro a2 a3)
 have HT := zH (Step.refl W0)
 have HLN := zH (show 1 ≤ l.length by omega)
 have hlast : l[l.length - 1]'(by omega) = 1000 := by
  rw [List.getD_eq_getElem?_getD, List.getElem?_eq_getElem (by omega)] at a4
  exact a4
 have HE := zH (show W0.cell? ⟨bv, ov + (l.length - 1), none⟩ = some (.int .i64 1000) by rw [hc (l.length - 1) (by omega), hlast])
 have hq : ((l.length : Int) == (s.stages.length : Int)) = true := by rw [a1]; simp
 have g2 := hbx.cell 2
 simp only [zD, zE] at g2
 have hw1 : IntKind.i64.wrap ((l.length : Int) - 1) = (l.length : Int) - 1 := by rw [IntKind.wrap_i64]; omega
 have hx2 : (0 : Int) ≤ (l.length : Int) - 1 ∧ (l.length : Int) - 1 < (l.length : Int) := by omega
 have htn : ((l.length : Int) - 1).toNat = l.length - 1 := by omega
 have h1s : (1 : Int) ≤ (l.length : Int) := by omega
 have h1n : 1 ≤ l.length := by omega
 clear hW0 hbx hS hu hv q0 q1 q2 hv0 hp hc hlast a1 a2 a3 a4 h hn
 go_enter Tryz.func55, Tryz.ntmps55
 go_wp2_with fail
 rw [← HW.out]
 refine (all_lim1 l _ _ (SL.go HV.out HT.out)).mono ?_
 rintro e wn ⟨rfl, hSn⟩
 rw [HA.out.1]
 have HTi := zH (HT.out.trans hSn)
 clear HT hSn g2
 have HT := HTi
 clear HTi
 go_wp2_with fail
 refine (IsSorted_ok l _ _ (SL.go HV.out HT.out) HLN.out HA.out.2).mono ?_
 rintro e wm ⟨rfl, hSn⟩
 have HTi := zH (HT.out.trans hSn)
 clear HT hSn
 have HT := HTi
 clear HTi
 have e0 := HT.out.kc HE.out
 go_wp2
 go_ret
 exact ⟨rfl, HS.out.trans HT.out⟩
theorem plan2_any (n lim : Int) (limits : List Int) (b c : Nat) (vl : Value) (i : Nat) (w : World) (hl : SL (fun _ => False) w vl limits) (hb : w.cell? ⟨b, 0, none⟩ = some vl) (hc : w.cell? ⟨c, 0, none⟩ = some (.int .i64 (i : Int))) (hi : i < limits.length) (hlim : lim = limits.getD i 0) :
  Calls Tryz.prog 59 #[.int .i64 n, .pointer (some ⟨b, 0, none⟩), .pointer (some ⟨c, 0, none⟩)] w fun e w' => e = .returned (.bool (decide (lim < n))) ∧ Step w w' := by
 obtain ⟨pv, cv, bv, ov, rfl, _, _, hp, hcc, _⟩ := hl.ints
 obtain rfl := hp (by omega)
 have e0 := hcc i hi
 have hL : limits[i] = lim := by rw [hlim, List.getD_eq_getElem?_getD, List.getElem?_eq_getElem hi]; rfl
 rw [hL] at e0
 have hix : (0 : Int) ≤ (i : Int) ∧ (i : Int) < (limits.length : Int) := by omega
 clear hp hcc hl hL hlim
 go_enter Tryz.func59, Tryz.ntmps59
 go_wp2
 go_ret
 exact ⟨rfl, (by with_reducible repeat (first | assumption | exact Step.refl _ | apply Step.s_alloc | apply Step.s_drew | apply Step.s_drewN | refine Step.trans ?_ (by assumption)))⟩
def layB (n k : Nat) : List Int := (List.range n).map fun i => if i < k then -1 else 0
theorem lay_len (n k : Nat) : (layB n k).length = n := by simp [layB]
theorem lay_start (n : Nat) : layB n 0 = List.replicate n 0 := by
 refine List.ext_getElem (by simp [layB]) fun i h1 h2 => ?_
 simp [layB]
theorem lay_end (n : Nat) : layB n n = List.replicate n (-1) := by
 refine List.ext_getElem (by simp [layB]) fun i h1 h2 => ?_
 have : i < n := by simpa [layB] using h1
 simp [layB, this]
theorem lay_set (n k : Nat) : (layB n k).set k (-1) = layB n (k + 1) := by
 refine List.ext_getElem (by simp [layB]) fun i h1 h2 => ?_
 rw [List.getElem_set]
 simp only [layB, List.getElem_map, List.getElem_range]
 by_cases e : k = i
 ·subst e; rw [if_pos rfl, if_pos (by omega)]
 ·rw [if_neg e]
  by_cases q : i < k
  ·rw [if_pos q, if_pos (by omega)]
  ·rw [if_neg q, if_neg (by omega)]
theorem plan_none {s : Site} {limits worst : List Int} {out : Int} {k : Nat} (h : planTo s limits worst out k = none) : ∀ m, k ≤ m → planTo s limits worst out m = none
 | 0, hm => by
  have : k = 0 := by omega
  subst this; exact h
 | m + 1, hm => by
  by_cases e : k = m + 1
  ·subst e; exact h
  ·rw [planTo, plan_none h m (by omega)]
theorem dead_lt {worst : List Int} {lim : Int} {d : Nat} (h : deadI worst lim = some d) : d < worst.length := by
 unfold deadI at h
 rw [List.findIdx?_eq_some_iff_getElem] at h
 exact h.1
def cellI (ip : Value) (w : World) : Int := match ip with
 | .pointer (some a) => intOf ((w.cell? a).getD undef)
 | _ => 0
theorem cellI_bx {c : Nat} {w : World} {n : Int} {T : TypeId} (h : Bx w c [.int .i64 n] T) : cellI (.pointer (some ⟨c, 0, none⟩)) w = n := by
 have := h.cell 0
 simp only [List.getElem?_cons_zero] at this
 simp [cellI, this, intOf]
theorem Plan_ok (s : Site) (limits worst : List Int) (now : Nat) (out : Int) (u v x : Value) (w : World) (hu : AV (fun _ => False) w u s) (hv : SL (fun _ => False) w v limits) (hx : SL (fun _ => False) w x worst) (hs : siteB s = true) (h1 : limitedB s limits = true) (h2 : windsB worst = true) (h3 : now < s.stages.length) (h4 : 0 ≤ out ∧ out ≤ 60) :
  Calls Tryz.prog 31 #[u, v, x, .int .i64 now, .int .i64 out] w fun e w' => ((planR s limits worst now out = none ∧ e = .returned (.tuple #[.slice none 0 0, .int .i64 0, .int .i64 11])) ∨ ∃ st v', planR s limits worst now out = some st ∧ e = .returned (.tuple #[v', .int .i64 st.call, .int .i64 0]) ∧ SL (fun _ => False) w' v' st.begin_) ∧ Step w w' := by
 obtain ⟨c0, c1, c2, rfl, q0, q1, q2⟩ := hu.site
 obtain ⟨p1, k1, rfl⟩ := q1.form
 obtain ⟨p2, k2, rfl⟩ := q2.form
 obtain ⟨p0, k0, rfl⟩ := q0.form
 have hok := site_ok hs
 obtain ⟨pv, cv, rfl⟩ := hv.form
 obtain ⟨px, cx, rfl⟩ := hx.form
 obtain ⟨W0, hW0⟩ : ∃ W, W = (w.alloc (.cells #[.slice p0 s.base.length k0, .slice p1 s.levels.length k1, .slice p2 s.stages.length k2, .int .i64 s.openS] 47)).alloc (.cells #[.slice pv limits.length cv] 35) := ⟨_, rfl⟩
 have hbx : Bx W0 w.heap.size [.slice p0 s.base.length k0, .slice p1 s.levels.length k1, .slice p2 s.stages.length k2, .int .i64 s.openS] 47 := by subst hW0; exact (Bx.new w [_, _, _, _] _).step (Step.alloc _ _)
 have hbl : Bx W0 (w.heap.size + 1) [.slice pv limits.length cv] 35 := by subst hW0; exact Bx.new' _ [_] _ _ (by simp)
 have hS : Step w W0 := by subst hW0; exact (by with_reducible repeat (first | assumption | exact Step.refl _ | apply Step.s_alloc | apply Step.s_drew | apply Step.s_drewN | refine Step.trans ?_ (by assumption)))
 have HW := zH hW0
 have HB := zH hbx
 have HBL := zH hbl
 have HS := zH hS
 have HV := zH (SL.go hv hS)
 have HX := zH (SL.go hx hS)
 have HAV := zH (AV.go hu hS)
 have HV2 := zH (SL.go q2 hS)
 have HOK := zH hok
 have HZ := zH (And.intro hs (And.intro h1 (And.intro h2 (And.intro h3 h4))))
 have HT := zH (Step.refl W0)
 have hwd : withinB (worst.length : Int) 1 48 = true ∧ (worst.all fun n => withinB n 0 1000) = true := by
  simp only [windsB, Bool.and_eq_true, decide_eq_true_eq] at h2
  exact ⟨by simp [withinB]; omega, h2.2⟩
 have HWD := zH hwd
 have HNW := zH (show withinB (now : Int) 0 ((s.stages.length : Int) - 1) = true by simp [withinB]; omega)
 have HOU := zH (show withinB out 0 60 = true by simp [withinB]; omega)
 have hnst := hok.nst
 have hwl : IntKind.i64.wrap ((s.stages.length : Int) - 1) = (s.stages.length : Int) - 1 := by rw [IntKind.wrap_i64]; omega
 clear hW0 hbx hbl hS hu hv hx q0 q1 q2 hok hs h1 h2 h3 h4 hwd
 go_enter Tryz.func31, Tryz.ntmps31
 go_upto_region 1 with (fail)
 rw [← HW.out]
 have g0 := (HB.out.step HT.out).cell 0
 have g1 := (HB.out.step HT.out).cell 1
 have g2 := (HB.out.step HT.out).cell 2
 have g3 := (HB.out.step HT.out).cell 3
 simp only [zD, zE] at g0 g1 g2 g3
 have hcall := zH (valid_ok s _ _ (AV.go HAV.out HT.out) HZ.out.1)
 go_wp2_with fail
 refine hcall.out.mono ?_
 clear hcall
 rintro e wn ⟨rfl, hSn⟩
 have HTi := zH (HT.out.trans hSn)
 clear hSn HT
 have HT := HTi
 clear HTi
 clear g0 g1 g2 g3
 have g0 := (HB.out.step HT.out).cell 0
 have g1 := (HB.out.step HT.out).cell 1
 have g2 := (HB.out.step HT.out).cell 2
 have g3 := (HB.out.step HT.out).cell 3
 have l0 := (HBL.out.step HT.out).cell 0
 simp only [zD, zE] at g0 g1 g2 g3 l0
 have hcall := zH (limited_ok s limits _ _ _ (AV.go HAV.out HT.out) (SL.go HV.out HT.out) HZ.out.2.1 (by have := HOK.out.nst; omega))
 go_wp2_with fail
 refine hcall.out.mono ?_
 clear hcall
 rintro e wn ⟨rfl, hSn⟩
 have HTi := zH (HT.out.trans hSn)
 clear hSn HT
 have HT := HTi
 clear HTi
 clear g0 g1 g2 g3 l0
 go_wp2_with fail
 refine (gale.within_any _ _ _ _).mono ?_
 rintro e wx ⟨rfl, rfl⟩
 rw [HWD.out.1]
 have hcall := zH (all_plan1 worst _ _ (SL.go HX.out HT.out))
 go_wp2_with fail
 refine hcall.out.mono ?_
 clear hcall
 rintro e wn ⟨rfl, hSn⟩
 have HTi := zH (HT.out.trans hSn)
 clear hSn HT
 have HT := HTi
 clear HTi
 rw [HWD.out.2]
 have g2 := (HB.out.step HT.out).cell 2
 simp only [zD, zE] at g2
 go_wp2_with fail
 refine (gale.within_any _ _ _ _).mono ?_
 rintro e wx ⟨rfl, rfl⟩
 rw [HNW.out]
 go_wp2_with fail
 refine (gale.within_any _ _ _ _).mono ?_
 rintro e wx ⟨rfl, rfl⟩
 rw [HOU.out]
 obtain ⟨wb, hwb⟩ : ∃ W, W = wn := ⟨_, rfl⟩
 subst hwb
 go_wp2_with (at_make; refine wpl_make (z := .int .i64 0) eiInts rfl _ _ rfl rfl .i64 .i64 s.stages.length rfl rfl (by omega) (by omega) ?_)
 obtain ⟨W1, hW1⟩ : ∃ W, W = wb.alloc (.cells (Array.replicate s.stages.length (.int .i64 0)) 3) := ⟨_, rfl⟩
 have HB1 := zH (show Bx W1 wb.heap.size ((layB s.stages.length 0).map (Value.int .i64)) 3 by
  rw [lay_start, List.map_replicate]
  rw [show Array.replicate s.stages.length (Value.int .i64 0) = (List.replicate s.stages.length (Value.int .i64 0)).toArray by simp] at hW1
  subst hW1
  exact Bx.new _ _ _)
 have HS1 := zH (show Step wb W1 by subst hW1; exact Step.alloc _ _)
 have HW1 := zH hW1
 clear hW1 g2
 go_wp2
 rw [← HW1.out]
 go_loopw [55] (fun i wr => ∃ k : Nat, k ≤ s.stages.length ∧ i = .int .i64 k ∧ Bx wr wb.heap.size ((layB s.stages.length k).map (Value.int .i64)) 3 ∧ StepX (fun j => j = wb.heap.size) W1 wr) (fun i _ => s.stages.length - (intOf i).toNat)
 case atStart => exact ⟨0, Nat.zero_le _, rfl, HB1.out, StepX.refl _ _⟩
 case round =>
  obtain ⟨k, hk, rfl, hb, hX⟩ := hrel
  have HX1 := zH hX
  have HBK := zH hb
  by_cases hlt : k < s.stages.length
  ·have c0 := ints_cell hb (k := k) (by rw [lay_len]; exact hlt)
   have z0 := hb.frozen k
   have yl := hb.lt
   have hix : (0 : Int) ≤ (k : Int) ∧ (k : Int) < (s.stages.length : Int) := by omega
   clear hb hX
   go_wp2
   go_roundw
   case rel => exact ⟨k + 1, by omega, by go_num, by rw [← lay_set, ← ints_set]; exact HBK.out.setCell _ _, HX1.out.setCell ⟨wb.heap.size, k, none⟩ _ rfl⟩
   case measure => simp [intOf]; omega
  have hke : k = s.stages.length := by omega
  subst hke
  rw [lay_end] at hb
  obtain ⟨wc, hwc⟩ : ∃ W, W = wr := ⟨_, rfl⟩
  subst hwc
  have HTC := zH (show Step wb wc from StepX.fresh HS1.out hX (fun j hj => by omega))
  have HBG := zH hb
  have HLG := zH hb.lt
  clear hb hX HX1 HBK hk
  have HT2 := zH (HT.out.trans HTC.out)
  obtain ⟨pq, kq, bq, oq, heq, _, _, hpq, hcq, _⟩ := (SL.go HV2.out HT2.out).stgs
  injection heq with heq1 _ heq3
  subst heq1 heq3
  obtain rfl := hpq (by omega)
  have HST := zH hcq
  clear hpq hcq
  have g2 := (HB.out.step HT2.out).cell 2
  simp only [zD, zE] at g2
  go_upto_region 13 with (fail)
  clear g2 hwl hlt
  go_loopw [10, 11, 14, 15] (fun bg call next ip wr => bg = .slice (some ⟨wb.heap.size, 0, none⟩) s.stages.length s.stages.length ∧ ∃ (k : Nat) (st : PlanS) (c : Nat) (iv : Int), k ≤ s.stages.length - now ∧ iv = (s.stages.length : Int) - 1 - k ∧ planTo s limits worst out k = some st ∧ call = .int .i64 st.call ∧ next = .int .i64 st.next ∧ ip = .pointer (some ⟨c, 0, none⟩) ∧ wb.heap.size < c ∧ Bx wr c [.int .i64 iv] 3 ∧ Bx wr wb.heap.size (st.begin_.map (Value.int .i64)) 3 ∧ Step wb wr) (fun _ _ _ ip wr => (cellI ip wr + 1 - now).toNat)
  case atStart => exact ⟨rfl, 0, _, wc.heap.size, _, Nat.zero_le _, rfl, rfl, rfl, rfl, rfl, HLG.out, by simpa using Bx.new wc [.int .i64 ((s.stages.length : Int) - 1)] 3, HBG.out.alloc _, HTC.out.trans (Step.alloc _ _)⟩
  case round =>
   obtain ⟨rfl, k, st, c, iv, hk, hiv, hpl, rfl, rfl, rfl, hgc, hbc, hbg, hT⟩ := hrel
   have HTR := zH (HT.out.trans hT)
   have HTB := zH hT
   have HBC := zH hbc
   have HBG2 := zH hbg
   have HPL := zH hpl
   have HGC := zH hgc
   have HNX := zH (plan_next HOK.out k (by omega) st hpl)
   have c0 := hbc.cell 0
   have cl := hbc.lt
   simp only [List.getElem?_cons_zero] at c0
   clear hT hbc hbg hpl hgc
   by_cases hlk : k < s.stages.length - now
   ·obtain ⟨ii, hii⟩ : ∃ ii : Nat, ii = s.stages.length - 1 - k := ⟨_, rfl⟩
    have hie : iv = (ii : Int) := by omega
    subst hie
    have hin : ii < s.stages.length := by omega
    have d1 : decide ((now : Int) ≤ (ii : Int)) = true := decide_eq_true (by omega)
    have d1n : decide (now ≤ ii) = true := decide_eq_true (by omega)
    have HII := zH (And.intro hii (And.intro hin hlk))
    have HL := zH (limited_parts HZ.out.2.1).1
    clear hk hiv hlk hii
    have hdi := dead_idx worst (limits.getD ii 0)
    have hcall := zH (indexFunc_int (fun _ => False) worst _ wr 59 #[.pointer (some ⟨w.heap.size + 1, 0, none⟩), .pointer (some ⟨c, 0, none⟩)] (Go.Proofs.enters_of Tryz.func59 (by kernel_rfl) rfl) (fun n => decide (limits.getD ii 0 < n)) (fun _ W => Step wr W)
     (fun _ W hW => SL.go HX.out (HTR.out.trans hW)) (Step.refl _) (fun i hi W u hW _ hu => by
      subst hu
      refine (plan2_any _ (limits.getD ii 0) limits _ c _ ii W (SL.go HV.out (HTR.out.trans hW)) (by have := (HBL.out.step (HTR.out.trans hW)).cell 0; simpa using this) (by have := (HBC.out.step hW).cell 0; simpa using this) (by have := HL.out; have := HII.out.2.1; omega) rfl).mono ?_
      rintro e w' ⟨rfl, hs⟩
      exact ⟨rfl, hW.trans hs⟩))
    have HLS := zH (show (HPL.out).symm = (HPL.out).symm from rfl)
    have HSTEP := zH (show planTo s limits worst out (k + 1) = planStep s limits worst out ii st by rw [planTo, HPL.out, HII.out.1])
    clear HLS
    go_wp2_with fail
    refine hcall.out.mono ?_
    rintro e wn ⟨rfl, _, _, _, hSn⟩
    clear hcall
    have HTR2 := zH (HTR.out.trans hSn)
    have HTB2 := zH (HTB.out.trans hSn)
    have HBC2 := zH (HBC.out.step hSn)
    have HBG3 := zH (HBG2.out.step hSn)
    clear hSn HTR HTB HBG2 c0 cl
    have hwi : IntKind.i64.wrap ((ii : Int) - 1) = (ii : Int) - 1 := by rw [IntKind.wrap_i64]; omega
    cases hd : deadI worst (limits.getD ii 0) with
    | none =>
     rw [hd] at hdi
     rw [hdi]
     dsimp only
     have HS2 := zH (show planStep s limits worst out ii st = some st by unfold planStep; rw [hd])
     clear hd hdi
     have c0 := HBC2.out.cell 0
     have cl := HBC2.out.lt
     simp only [List.getElem?_cons_zero] at c0
     go_wp2
     go_roundw
     case rel => exact ⟨rfl, k + 1, st, (wn).heap.size, (ii : Int) - 1, by have := HII.out; omega, by have := HII.out; omega, by rw [HSTEP.out, HS2.out], rfl, rfl, rfl, by have := HGC.out; have := HBC.out.lt; have := cl; omega, by simpa using Bx.new (wn) [.int .i64 ((ii : Int) - 1)] 3, (HBG3.out).alloc _, (HTB2.out).trans (Step.alloc _ _)⟩
     case measure =>
      rw [cellI_bx HBC.out, cellI_bx (show Bx ((wn).alloc (.cells #[.int .i64 ((ii : Int) - 1)] 3)) (wn).heap.size [.int .i64 ((ii : Int) - 1)] 3 by simpa using Bx.new (wn) [.int .i64 ((ii : Int) - 1)] 3)]
      have := HII.out
      clear hwi
      (try clear hwo)
      omega
    | some d =>
     rw [hd] at hdi
     rw [hdi]
     dsimp only
     have hdl := dead_lt hd
     have HDB := zH (show d ≤ 47 by
      have h2 := HZ.out.2.2.1
      simp only [windsB, Bool.and_eq_true, decide_eq_true_eq] at h2
      omega)
     have HPS := zH (show planStep s limits worst out ii st = if leftAt s st ii d < 0 ∨ ((ii : Int) = s.openS ∧ leftAt s st ii d - out < 0) then none else some ⟨st.begin_.set ii (leftAt s st ii d), leftAt s st ii d, if (ii : Int) = s.openS then leftAt s st ii d - out else st.call⟩ by unfold planStep; rw [hd])
     obtain ⟨q', d', b', o', he', _, _, hp', hc', _⟩ := (SL.go HV2.out HTR2.out).stgs
     injection he' with he1 _ he3
     rw [hp' (by omega)] at he1
     injection he1 with he1
     injection he1 with he4 he5 _
     subst he3 he4 he5
     have hmo := minutes_ok HOK.out hin
     obtain ⟨_, m1⟩ := hc' ii hin
     rw [← hmo.1] at m1
     have hmb : 0 ≤ minutesAt s ii ∧ minutesAt s ii ≤ 240 := by rw [hmo.1]; exact hmo.2
     obtain ⟨mn, hmn⟩ : ∃ x, x = minutesAt s ii := ⟨_, rfl⟩
     rw [← hmn] at m1 hmb
     have hnx := HNX.out.1
     have HLF := zH (show leftAt s st ii d = min (60 * (d : Int)) st.next - mn by unfold leftAt; rw [hmn])
     have hd0 : decide ((d : Int) < 0) = false := decide_eq_false (by omega)
     have hdd := HDB.out
     have hw60 : IntKind.i64.wrap (60 * (d : Int)) = 60 * (d : Int) := by rw [IntKind.wrap_i64]; omega
     have hwmn : IntKind.i64.wrap (min (60 * (d : Int)) st.next - mn) = min (60 * (d : Int)) st.next - mn := by rw [IntKind.wrap_i64]; omega
     have HM1 := zH m1
     have HRNG := zH (show -300 ≤ min (60 * (d : Int)) st.next - mn ∧ min (60 * (d : Int)) st.next - mn ≤ 3000 by omega)
     have HHW := zH (And.intro hw60 hwmn)
     clear hdi hd hdl hp' hc' hmo hmn hmb hnx hdd hw60 hwmn m1
     go_upto_region 17 with (fail)
     have HTX := zH (Step.refl wn)
     have hw60 := HHW.out.1
     have hwmn := HHW.out.2
     have hsx : (0 : Int) ≤ (ii : Int) ∧ (ii : Int) < (s.stages.length : Int) := by omega
     refine wp_region_seq (kdOf [3, 4] []) [0, 1, 0, 7, 15, 0, 32, 0, 224, 480, 992, 2047, 4095] [0, 1, 2, 5, 6, 7, 8, 9, 10, 3, 4, 11, 12] [] (by kernel_rfl) (by kernel_rfl) (fun i T z hi hk => by simp [kdOf] at hk <;> (try (split at hk <;> cases hk))) ?_
     intro Wx hWx
     have HTy := zH (HTX.out.trans hWx)
     clear hWx HTX
     have c0 := (HBC2.out.step HTy.out).cell 0
     have cl := (HBC2.out.step HTy.out).lt
     have g2 := (HB.out.step (HTR2.out.trans HTy.out)).cell 2
     have m1 := HTy.out.kc HM1.out
     simp only [zD, zE] at c0 g2
     repeat ((first | (refine run_off rfl rfl (by rfl) ?_) | (refine run_chain_off rfl rfl (by rfl) (K0_mono _) ?_) | ((refine run_want rfl rfl (by rfl) ⟨?_, fun W hW => ?_, ?_⟩; rotate_left; (· (have d0 := hW.kc c0; have d1 := hW.kc g2; have d2 := hW.kc m1; go_simp; (try with_reducible rfl)))))); (try simp only [Act.put, zA, zB, zC]))
     clear c0 cl g2 m1
     refine run_chain rfl rfl (by rfl) (fun Wb hWb Kb hKb => ?_)
     go_simp
     obtain ⟨Wq, hWq⟩ : ∃ W, W = Wb.alloc (.cells #[.int .i64 (60 * (d : Int)), .int .i64 st.next] 3) := ⟨_, rfl⟩
     have hSq : Step Wb Wq := by rw [hWq]; exact Step.alloc _ _
     have HL3 := zH (show SL (fun _ => False) Wq (.slice (some ⟨Wb.heap.size, 0, none⟩) ([(60 * (d : Int)), st.next] : List Int).length ([(60 * (d : Int)), st.next] : List Int).length) ([(60 * (d : Int)), st.next] : List Int) by
      rw [hWq]; exact (SLT.bx_ints (S := fun _ => False) (l := [(60 * (d : Int)), st.next]) (Bx.new Wb (([(60 * (d : Int)), st.next] : List Int).map (Value.int .i64)) 3) id ([(60 * (d : Int)), st.next] : List Int).length (Nat.le_refl _) (by simp)).1)
     have HTz := zH (HTy.out.trans (hWb.trans hSq))
     rw [← hWq]
     refine hKb _ _ (.of hSq) ?_
     clear hWq hSq hWb hKb HTy
     (try simp only [Act.put, zA, zB, zC])
     have c0 := (HBC2.out.step HTz.out).cell 0
     have cl := (HBC2.out.step HTz.out).lt
     have g2 := (HB.out.step (HTR2.out.trans HTz.out)).cell 2
     have m1 := HTz.out.kc HM1.out
     simp only [zD, zE] at c0 g2
     repeat ((first | (refine run_off rfl rfl (by rfl) ?_) | (refine run_chain_off rfl rfl (by rfl) (K0_mono _) ?_) | ((refine run_want rfl rfl (by rfl) ⟨?_, fun W hW => ?_, ?_⟩; rotate_left; (· (have d0 := hW.kc c0; have d1 := hW.kc g2; have d2 := hW.kc m1; go_simp; (try with_reducible rfl)))))); (try simp only [Act.put, zA, zB, zC]))
     clear c0 cl g2 m1
     refine run_chain rfl rfl (by rfl) (fun Wi hWi K' hK => ?_)
     have HTi := zH (HTz.out.trans hWi)
     have hl3 := SL.go HL3.out hWi
     clear hWi HTz HL3
     go_simp
     refine (least_any (60 * (d : Int)) st.next _ _ hl3).mono ?_
     rintro e w9 ⟨rfl, hS9⟩
     have HT9 := zH (HTi.out.trans hS9)
     clear HTi hl3
     refine hK _ _ (StepX.of hS9) ?_
     clear hS9
     (try simp only [Act.put, zA, zB, zC])
     have c0 := (HBC2.out.step HT9.out).cell 0
     have cl := (HBC2.out.step HT9.out).lt
     have g2 := (HB.out.step (HTR2.out.trans HT9.out)).cell 2
     have m1 := HT9.out.kc HM1.out
     simp only [zD, zE] at c0 g2
     repeat ((first | (refine run_off rfl rfl (by rfl) ?_) | (refine run_chain_off rfl rfl (by rfl) (K0_mono _) ?_) | ((refine run_want rfl rfl (by rfl) ⟨?_, fun W hW => ?_, ?_⟩; rotate_left; (· (have d0 := hW.kc c0; have d1 := hW.kc g2; have d2 := hW.kc m1; go_simp; (try with_reducible rfl)))))); (try simp only [Act.put, zA, zB, zC]))
     clear c0 cl g2 m1
     refine run_end (L := []) rfl (fun W6 hW6 => ?_)
     have HT6 := zH (HT9.out.trans hW6)
     clear hW6 HT9 hK hw60 hwmn
     obtain ⟨nx, hnx⟩ : ∃ x, x = min (60 * (d : Int)) st.next - mn := ⟨_, rfl⟩
     rw [← hnx] at HLF HRNG ⊢
     have HNXX := zH hnx
     rw [HLF.out] at HPS
     clear hnx
     have hbl18 := HBG3.out.step HT6.out
     have z1 := ints_cell hbl18 (k := ii) (by have := HNX.out.2; omega)
     have z0 := hbl18.frozen ii
     have zl := hbl18.lt
     have c0 := (HBC2.out.step HT6.out).cell 0
     have cl := (HBC2.out.step HT6.out).lt
     simp only [List.getElem?_cons_zero] at c0
     go_upto_region 19 with (fail)
     obtain ⟨W7, hW7⟩ : ∃ W, W = W6.setCell ⟨wb.heap.size, ii, none⟩ (.int .i64 nx) := ⟨_, rfl⟩
     rw [← hW7]
     have hwr7 : Wrote wb.heap.size W6 W7 := by rw [hW7]; exact .setCell _ _ _ _
     have HB7 := zH (show Bx W7 wb.heap.size ((st.begin_.set ii nx).map (Value.int .i64)) 3 by rw [hW7, ← ints_set]; exact hbl18.setCell _ _)
     have HTB7 := zH (show Step wb W7 from Step.wrote (HTB2.out.trans HT6.out) hwr7 (Nat.le_refl _))
     have hgc := HGC.out
     have HBC7 := zH ((HBC2.out.step HT6.out).keep hwr7.keeps (show ¬ c = wb.heap.size by omega))
     have HT7 := zH (show Step W0 W7 from HT.out.trans HTB7.out)
     clear z1 z0 zl c0 cl hW7 hwr7 hbl18 hgc
     have c0 := HBC7.out.cell 0
     have cl := HBC7.out.lt
     have g3 := (HB.out.step HT7.out).cell 3
     simp only [zD, zE] at c0 g3
     have HO4 := zH HZ.out.2.2.2.2
     have hwo : IntKind.i64.wrap (nx - out) = nx - out := by have := HO4.out; have := HRNG.out; rw [IntKind.wrap_i64]; omega
     obtain ⟨op, hop⟩ : ∃ x, x = s.openS := ⟨_, rfl⟩
     rw [← hop] at g3 HPS
     clear hop
     by_cases ho : (ii : Int) = op
     ·have dq : ((ii : Int) == op) = true := by simpa using ho
      by_cases hn : nx < 0
      ·have dn : decide (nx < 0) = true := decide_eq_true hn
       have HS2 := zH (show planStep s limits worst out ii st = none by rw [HPS.out, if_pos (.inl hn)])
       clear hn ho
       have HNO := zH (show planR s limits worst now out = none by
        unfold planR
        rw [Int.toNat_natCast]
        exact plan_none (by rw [HSTEP.out]; exact HS2.out) _ (by have := HII.out; omega))
       go_wp2
       go_ret3
       exact ⟨.inl ⟨HNO.out, rfl⟩, HS.out.trans HT7.out⟩
      ·have dn : decide (nx < 0) = false := decide_eq_false hn
       by_cases hc : nx - out < 0
       ·have dc : decide (nx - out < 0) = true := decide_eq_true hc
        have HS2 := zH (show planStep s limits worst out ii st = none by rw [HPS.out, if_pos (.inr ⟨ho, hc⟩)])
        clear hn hc ho
        have HNO := zH (show planR s limits worst now out = none by
         unfold planR
         rw [Int.toNat_natCast]
         exact plan_none (by rw [HSTEP.out]; exact HS2.out) _ (by have := HII.out; omega))
        go_wp2
        go_ret3
        exact ⟨.inl ⟨HNO.out, rfl⟩, HS.out.trans HT7.out⟩
       ·have dc : decide (nx - out < 0) = false := decide_eq_false hc
        have HS2 := zH (show planStep s limits worst out ii st = some ⟨st.begin_.set ii nx, nx, nx - out⟩ by
         rw [HPS.out, if_neg (fun h => h.elim hn (fun h => hc h.2)), if_pos ho])
        clear hn hc ho
        go_wp2
        go_roundw
        case rel => exact ⟨rfl, k + 1, ⟨st.begin_.set ii nx, nx, nx - out⟩, (W7).heap.size, (ii : Int) - 1, by have := HII.out; omega, by have := HII.out; omega, by rw [HSTEP.out, HS2.out], rfl, rfl, rfl, by have := HGC.out; have := HBC.out.lt; have := cl; omega, by simpa using Bx.new (W7) [.int .i64 ((ii : Int) - 1)] 3, (HB7.out).alloc _, (HTB7.out).trans (Step.alloc _ _)⟩
        case measure =>
         rw [cellI_bx HBC.out, cellI_bx (show Bx ((W7).alloc (.cells #[.int .i64 ((ii : Int) - 1)] 3)) (W7).heap.size [.int .i64 ((ii : Int) - 1)] 3 by simpa using Bx.new (W7) [.int .i64 ((ii : Int) - 1)] 3)]
         have := HII.out
         clear hwi
         (try clear hwo)
         omega
     ·have dq : ((ii : Int) == op) = false := by simpa using ho
      by_cases hn : nx < 0
      ·have dn : decide (nx < 0) = true := decide_eq_true hn
       have HS2 := zH (show planStep s limits worst out ii st = none by rw [HPS.out, if_pos (.inl hn)])
       clear hn ho
       have HNO := zH (show planR s limits worst now out = none by
        unfold planR
        rw [Int.toNat_natCast]
        exact plan_none (by rw [HSTEP.out]; exact HS2.out) _ (by have := HII.out; omega))
       go_wp2
       go_ret3
       exact ⟨.inl ⟨HNO.out, rfl⟩, HS.out.trans HT7.out⟩
      ·have dn : decide (nx < 0) = false := decide_eq_false hn
       have HS2 := zH (show planStep s limits worst out ii st = some ⟨st.begin_.set ii nx, nx, st.call⟩ by
        rw [HPS.out, if_neg (fun h => h.elim hn (fun h => ho h.1)), if_neg ho])
       clear hn ho
       go_wp2
       go_roundw
       case rel => exact ⟨rfl, k + 1, ⟨st.begin_.set ii nx, nx, st.call⟩, (W7).heap.size, (ii : Int) - 1, by have := HII.out; omega, by have := HII.out; omega, by rw [HSTEP.out, HS2.out], rfl, rfl, rfl, by have := HGC.out; have := HBC.out.lt; have := cl; omega, by simpa using Bx.new (W7) [.int .i64 ((ii : Int) - 1)] 3, (HB7.out).alloc _, (HTB7.out).trans (Step.alloc _ _)⟩
       case measure =>
        rw [cellI_bx HBC.out, cellI_bx (show Bx ((W7).alloc (.cells #[.int .i64 ((ii : Int) - 1)] 3)) (W7).heap.size [.int .i64 ((ii : Int) - 1)] 3 by simpa using Bx.new (W7) [.int .i64 ((ii : Int) - 1)] 3)]
        have := HII.out
        clear hwi
        (try clear hwo)
        omega
   ·have hke : k = s.stages.length - now := by omega
    have HPR := zH (show planR s limits worst now out = some st by unfold planR; rw [Int.toNat_natCast, ← hke]; exact HPL.out)
    have d1 : decide ((now : Int) ≤ iv) = false := decide_eq_false (by omega)
    have HSL := zH (SL.bx_ints HBG2.out (S := fun _ => False) id s.stages.length (by rw [HNX.out.2]; exact Nat.le_refl _) (by have := HNX.out.2; omega))
    clear hk hiv hlk hke
    go_wp2
    go_ret3
    refine ⟨.inr ⟨st, _, HPR.out, rfl, ?_⟩, HS.out.trans HTR.out⟩
    have hfin := HSL.out
    rw [HNX.out.2] at hfin
    exact hfin
end Go.Proofs.YtfhmdpicoccnfaaGreat
namespace Go.BT
end Go.BT
namespace Go.Proofs.YtfhmdpicoccnfaaGreat
set_option linter.unusedSimpArgs false
set_option linter.unusedVariables false
open Go.RowKit Go.BT
end Go.Proofs.YtfhmdpicoccnfaaGreat
