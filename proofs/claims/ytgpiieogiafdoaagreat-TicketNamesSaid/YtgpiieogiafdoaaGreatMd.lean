/- Walks and plain laws, part d. -/
import Derived.Test.YtgpiieogiafdoaaGreatMa
import Derived.Test.YtgpiieogiafdoaaGreatMb
import Derived.Test.YtgpiieogiafdoaaGreatMc
import Derived.Test.YtgpiieogiafdoaaGreatRows
import Derived.BigQuiet
import Derived.Deep.AppendLies
import Derived.Deep.DeepCutAuto
import Derived.Deep.QuietTactic
import Derived.Deep.RegionHeld3
import Derived.Defers
import Derived.Laws.MakeOwn
import Derived.Laws.OwnMore
import Derived.Laws.Pointers
import Derived.Laws.StructEq
import Derived.Lib.Hide
import Derived.Recover
import Derived.Shelf.Abstract
import Derived.WalkKit
import Derived.WalkLawsBesides
import Derived.WalkSmall
import Derived.WalkSpells
import Derived.WideKeyRuns
namespace Go.Proofs.YtgpiieogiafdoaaGreat
set_option linter.unusedSimpArgs false
set_option linter.unusedVariables false
open Go.RowKit Go.BT
theorem not_take {α : Type} {x : α} {l : List α} {k : Nat} (hl : k < l.length) (ht : x ∉ l.take k) (h : x ≠ l[k]) : x ∉ l.take (k + 1) := by
 intro hm
 rw [List.take_succ_eq_append_getElem hl] at hm
 rcases List.mem_append.1 hm with h1 | h1
 ·exact ht h1
 ·exact h (List.mem_singleton.1 h1)
set_option maxHeartbeats 2000000 in
theorem index_key (S : Nat → Prop) (l : List Key) (kf kn : Int) (v : Value) (w : World) (hv : SL S w v l) :
  Calls Tryz.prog 145 #[v, .agg #[.int .i64 kf, .int .i64 kn]] w fun e w' => ∃ n : Int, e = .returned (.int .i64 n) ∧ (0 ≤ n ↔ (⟨kf, kn⟩ : Key) ∈ l) ∧ Step w w' := by
 obtain ⟨px, kx, bx, ox, rfl, _, mx, hpx, hcx, _⟩ := hv.keys
 obtain ⟨W0, hW0⟩ : ∃ W0, W0 = w.alloc (.cells #[.int .i64 kf, .int .i64 kn] 172) := ⟨_, rfl⟩
 have hb : Bx W0 w.heap.size [.int .i64 kf, .int .i64 kn] 172 := by subst hW0; exact Bx.new _ _ _
 have hS : Step w W0 := by subst hW0; exact (by repeat (first | (with_reducible assumption) | (with_reducible exact Step.refl _) | (with_reducible apply Step.s_alloc) | (with_reducible apply Step.s_drew) | (with_reducible apply Step.s_drewN) | (with_reducible refine Step.trans ?_ (by with_reducible assumption))))
 have HB := Lib.hid hb
 have HS := Lib.hid hS
 have HX := Lib.hid (And.intro hpx hcx)
 have HW := Lib.hid hW0
 clear hv hpx hcx hb hS hW0
 go_enter Tryz.func145, Tryz.ntmps145
 go_wp2
 go_loopw [8] (fun i wr => ∃ k : Nat, k ≤ l.length ∧ i = .int .i64 k ∧ (⟨kf, kn⟩ : Key) ∉ l.take k ∧ Step W0 wr) (fun i _ => l.length - (intOf i).toNat)
 case atStart => exact ⟨0, Nat.zero_le _, rfl, by simp, by rw [HW.out]; exact Step.refl _⟩
 case round =>
  obtain ⟨k, hk, rfl, ht, hT⟩ := hrel
  have HA := Lib.hid ht
  have HT := Lib.hid hT
  clear ht hT
  have e0 := (HB.out.step HT.out).cell 0
  have e1 := (HB.out.step HT.out).cell 1
  simp only [zD, zE] at e0 e1
  by_cases hlt : k < l.length
  ·obtain rfl := HX.out.1 (by omega)
   obtain ⟨g1, g3⟩ := HX.out.2 k hlt
   have g1 := (HS.out.trans HT.out).kc g1
   have g3 := (HS.out.trans HT.out).kc g3
   have hix1 : (0 : Int) ≤ (k : Int) ∧ (k : Int) < (l.length : Int) := by omega
   obtain ⟨x, hx⟩ := (show ∃ x, l[k] = x from ⟨_, rfl⟩)
   rw [hx] at g1 g3
   have HK := Lib.hid hx
   clear hx
   obtain ⟨xf, xn⟩ := x
   dsimp only at g1 g3
   by_cases q1 : kf = xf
   ·subst q1
    by_cases q2 : kn = xn
    ·subst q2
     have HQ := Lib.hid (show (⟨kf, kn⟩ : Key) ∈ l by rw [← HK.out]; exact List.getElem_mem hlt)
     go_wp2
     go_quiet (fail)
     go_wp2
     go_ret
     exact ⟨k, rfl, by simpa using HQ.out, HS.out.trans (HT.out.trans (Step.drewN _ _))⟩
    ·have HF := Lib.hid (not_take hlt HA.out (show (⟨kf, kn⟩ : Key) ≠ l[k] by rw [HK.out]; simpa using q2))
     go_wp2
     go_quiet (fail)
     go_wp2
     go_roundw
     case rel => exact ⟨k + 1, by omega, by go_num, HF.out, HT.out.trans (Step.drewN _ _)⟩
     case measure => simp [intOf]; omega
   ·have HF := Lib.hid (not_take hlt HA.out (show (⟨kf, kn⟩ : Key) ≠ l[k] by rw [HK.out]; simp [q1]))
    go_wp2
    go_quiet (fail)
    go_wp2
    go_roundw
    case rel => exact ⟨k + 1, by omega, by go_num, HF.out, HT.out.trans (Step.drewN _ _)⟩
    case measure => simp [intOf]; omega
  ·have HE := Lib.hid (show (⟨kf, kn⟩ : Key) ∉ l by have := HA.out; rwa [List.take_of_length_le (by omega)] at this)
   clear HA
   go_wp2
   go_ret
   exact ⟨-1, rfl, by simp [HE.out], HS.out.trans HT.out⟩
def hasK (l : List Key) (k : Key) : Bool := decide (k ∈ l)
set_option maxHeartbeats 1000000 in
theorem contains_key (S : Nat → Prop) (l : List Key) (kf kn : Int) (v : Value) (w : World) (hv : SL S w v l) :
    Calls Tryz.prog 122 #[v, .agg #[.int .i64 kf, .int .i64 kn]] w fun e w' => e = .returned (.bool (hasK l ⟨kf, kn⟩)) ∧ Step w w' := by
  have hS : Step w (w.alloc (.cells #[.int .i64 kf, .int .i64 kn] 172)) := (by repeat (first | (with_reducible assumption) | (with_reducible exact Step.refl _) | (with_reducible apply Step.s_alloc) | (with_reducible apply Step.s_drew) | (with_reducible apply Step.s_drewN) | (with_reducible refine Step.trans ?_ (by with_reducible assumption))))
  have HS := Lib.hid hS
  have HC := Lib.hid (index_key S l kf kn v _ (hv.keep (.of_step hS)))
  obtain ⟨p, c, rfl⟩ := hv.form
  clear hS hv
  go_enter Tryz.func122, Tryz.ntmps122
  go_wp2_with fail
  refine HC.out.mono ?_
  rintro e wn ⟨n, rfl, hn, hSn⟩
  have HF := Lib.hid (show hasK l ⟨kf, kn⟩ = decide (0 ≤ n) by unfold hasK; by_cases q : 0 ≤ n; · rw [decide_eq_true q, decide_eq_true (hn.1 q)]
                                                               · rw [decide_eq_false q, decide_eq_false (fun h => q (hn.2 h))])
  have HT := Lib.hid hSn
  clear hSn hn HC
  go_wp2
  go_ret
  exact ⟨by rw [HF.out]; rfl, HS.out.trans HT.out⟩
section
variable {base : Nat} {w : World} {g : Nat} {h : House} {b : Book} {c0 c1 c2 c3 c4 vs vo vt : Value} {xs : List Value}
set_option maxHeartbeats 1000000 in
theorem take1_any (D : Desk base w g h b c0 c1 c2 c3 c4 vs vo vt xs) (i j : Nat) (hi : i < b.seats.length) (hj : j < b.seats[i].length) (a1 a2 : Nat) (h1 : w.cell? ⟨a1, 0, none⟩ = some (.pointer (some ⟨g, 0, none⟩))) (h2 : w.cell? ⟨a2, 3, none⟩ = some (.int .i64 i)) :
  Calls Tryz.prog 123 #[.int .i64 j, .pointer (some ⟨a1, 0, none⟩), .pointer (some ⟨a2, 0, none⟩)] w fun e w' => e = .returned (.bool (decide (seatAt b i j = -1))) ∧ Step w w' := by
 obtain ⟨_, _, f6, _⟩ := cells11 D.bx
 obtain ⟨go, co, gi, ci, rfl, _, hc, hcj, _, _, _⟩ := D.seat_at hi (by omega)
 have hse : seatAt b i j = b.seats[i][j] := by simp [seatAt, List.getD_eq_getElem?_getD, hi, hj]
 rw [hse]
 have hcj := hcj j hj
 have HC := Lib.hid (And.intro f6 (And.intro hc (And.intro hcj (And.intro h1 h2))))
 have hx : (0 : Int) ≤ (i : Int) ∧ (i : Int) < (b.seats.length : Int) := by omega
 have hy : (0 : Int) ≤ (j : Int) ∧ (j : Int) < (b.seats[i].length : Int) := by omega
 clear D f6 hc hcj h1 h2 hse
 go_enter Tryz.func123, Tryz.ntmps123
 go_upto_region 1 with (fail)
 refine wp_region_seq (kdOf [] []) [0, 1, 3, 7, 15, 0, 32, 127, 255, 0, 1023, 2047, 4095, 8191] [0, 1, 2, 3, 4, 5, 6, 7, 8, 9, 10, 11, 12, 13] [] (by kernel_rfl) (by kernel_rfl) (fun i T z hi hk => by simp [kdOf] at hk <;> (try (split at hk <;> cases hk))) ?_
 intro Wx hWx
 have HT := Lib.hid hWx
 clear hWx
 have y0 := HT.out.kc HC.out.1
 have y1 := HT.out.kc HC.out.2.1
 have y2 := HT.out.kc HC.out.2.2.1
 have y3 := HT.out.kc HC.out.2.2.2.1
 have y4 := HT.out.kc HC.out.2.2.2.2
 obtain ⟨r, hr⟩ : ∃ r, r = b.seats[i][j] := ⟨_, rfl⟩
 rw [← hr] at y2
 have HR := Lib.hid hr
 have hrb : (r == -1) = decide (r = -1) := by simp [Bool.beq_eq_decide_eq]
 have HRB := Lib.hid hrb
 clear hr hrb
 repeat (first | (refine run_off rfl rfl (by rfl) ?_; (try simp only [Act.put, zA, zB, zC])) | (refine run_chain_off rfl rfl (by rfl) (K0_mono _) ?_; (try simp only [Act.put, zA, zB, zC])) | ((refine run_want rfl rfl (by rfl) ⟨?_, fun W hW => ?_, ?_⟩; rotate_left; (· (have d0 := hW.kc y0; have d1 := hW.kc y1; have d2 := hW.kc y2; have d3 := hW.kc y3; have d4 := hW.kc y4; go_simp; (try with_reducible rfl)))); (try simp only [Act.put, zA, zB, zC])))
 refine run_end (L := []) rfl (fun W6 hW6 => ?_)
 have HT6 := Lib.hid (HT.out.trans hW6)
 clear hW6 HT
 have HT := HT6
 clear HT6
 go_wp2
 go_ret
 exact ⟨by rw [← HR.out, ← HRB.out]; rfl, HT.out⟩
end
end Go.Proofs.YtgpiieogiafdoaaGreat
namespace Go.BT.Late
open Go.RowKit Go.BT
section
variable (P : Program) (ops : Array Oper) (Y : Nat → Prop) (base : Nat) (kd : Nat → Kd)
def go (i : Nat) (K : Cont) : Cont := fun N a w =>
 match kd i with
 | .silent => ∃ o v, ops[i]? = some o ∧ YieldsIf P ops (StepX Y w) o v a ∧ K N (a.put o.dst v) w
 | .chain => ∀ W, Step w W → wpOp P ops QF i (fun a' w' => Step W w' ∧ K (fun g => N g ∧ (g < W.heap.size ∨ w'.heap.size ≤ g)) a' w') a W
 | .alloc T z => ∀ W g, Step w W → W.heap[g]? = some (.cells (madeC z) T (0, 0)) → base ≤ g → N g → K (fun x => N x ∧ x ≠ g) (a.put ((ops[i]?).bind (·.dst)) (madeV z g)) W
def run (l : List Nat) (K : Cont) : Cont := l.foldr (fun i K => go P ops Y base kd i K) K
variable {P ops Y base kd}
theorem go_cong {i : Nat} {K K' : Cont} (h : ∀ N a w, K N a w → K' N a w) {N : Nat → Prop} {a : Act} {w : World} (hg : go P ops Y base kd i K N a w) : go P ops Y base kd i K' N a w := by
 unfold go at *
 split at hg
 ·obtain ⟨o, v, ho, hy, hk⟩ := hg; exact ⟨o, v, ho, hy, h _ _ _ hk⟩
 ·exact fun W hW => wpOp_mono (fun a' w' ⟨hs, hk⟩ => ⟨hs, h _ _ _ hk⟩) (hg W hW)
 ·exact fun W g h1 h2 h3 h4 => h _ _ _ (hg W g h1 h2 h3 h4)
theorem go_mono {i : Nat} {K : Cont} (hK : ContMono (fun _ => False) K) : ContMono (fun _ => False) (go P ops Y base kd i K) := by
 intro N N' a w w' hN hs hg
 unfold go at *
 split at hg
 ·obtain ⟨o, v, ho, hy, hk⟩ := hg; exact ⟨o, v, ho, YieldsIf.step hy (StepX.of hs), hK _ _ _ _ _ hN hs hk⟩
 ·exact fun W hW => wpOp_mono (fun a' w' ⟨hs', hk⟩ => ⟨hs', hK _ _ _ _ _ (fun g ⟨h1, h2⟩ => ⟨hN g h1, h2⟩) (StepX.refl _ _) hk⟩) (hg W (hs.trans hW))
 ·exact fun W g h1 h2 h3 h4 => hK _ _ _ _ _ (fun x ⟨h5, h6⟩ => ⟨hN x h5, h6⟩) (StepX.refl _ _) (hg W g (hs.trans h1) h2 h3 (hN g h4))
theorem run_mono {K : Cont} (hK : ContMono (fun _ => False) K) : ∀ l, ContMono (fun _ => False) (run P ops Y base kd l K)
 | [] => hK
 | _ :: l => go_mono (run_mono hK l)
theorem exch {i j : Nat} {oi oj : Oper} (hi : ops[i]? = some oi) (hj : ops[j]? = some oj) (hap : oi.apart ops oj = true)
  (hsi : ∀ cs b, oi.op ≠ .select cs b) (hsj : ∀ cs b, oj.op ≠ .select cs b) (hsw : swaps (kd i) (kd j) = true) {K : Cont} (hK : ContMono (fun _ => False) K) {N : Nat → Prop} {a : Act} {w : World}
  (h : go P ops Y base kd i (go P ops Y base kd j K) N a w) : go P ops Y base kd j (go P ops Y base kd i K) N a w := by
 obtain ⟨h1, h2, h3⟩ := Oper.apart_spec hap
 have keepI : ∀ {S : World → Prop} {v : Value} {a : Act} (u : Value), YieldsIf P ops S oi v a → YieldsIf P ops S oi v (a.put oj.dst u) := fun {S v a} u hy =>
  hy.of_same (execOp_put oi hsi a oj.dst u h3) (wanted_put oi a oj.dst u h3)
 have backJ : ∀ {S : World → Prop} {v u : Value} {a : Act}, YieldsIf P ops S oj v (a.put oi.dst u) → YieldsIf P ops S oj v a := fun {S v u a} hy =>
  hy.of_same (execOp_put oj hsj a oi.dst u h1).symm (wanted_put oj a oi.dst u h1).symm
 have hdi : (ops[i]?).bind (·.dst) = oi.dst := by rw [hi]; rfl
 have hdj : (ops[j]?).bind (·.dst) = oj.dst := by rw [hj]; rfl
 have hsome : ∀ {w w' : World} {g : Nat} {o : Obj}, StepX (fun _ => False) w w' → base ≤ g → w.heap[g]? = some o → w'.heap[g]? = some o := fun {w w' g o} hs hb hg => by
  rw [hs.block g (Array.getElem?_eq_some_iff.1 hg).1 id]; exact hg
 cases hki : kd i with
 | silent =>
  cases hkj : kd j with
  | silent =>
   simp only [go, hki, hkj] at h ⊢
   obtain ⟨o, v, ho, hy, o', v', ho', hy', hk⟩ := h
   obtain rfl : oi = o := by rw [hi] at ho; exact Option.some.inj ho
   obtain rfl : oj = o' := by rw [hj] at ho'; exact Option.some.inj ho'
   exact ⟨_, v', hj, backJ hy', _, v, hi, keepI _ hy, by rw [← Act.put_comm a v v' h2]; exact hk⟩
  | chain =>
   simp only [go, hki, hkj] at h ⊢
   obtain ⟨o, v, ho, hy, hk⟩ := h
   obtain rfl : oi = o := by rw [hi] at ho; exact Option.some.inj ho
   intro W hW
   refine wpOp_mono (fun a' w' hh => ?_) (wpOp_putIf (S := StepX Y w) hj hap hsi hsj (fun _ _ _ hq => hq) hy (hk W hW))
   obtain ⟨hy', hs, hk'⟩ := hh
   exact ⟨hs, _, v, hi, YieldsIf.step hy' (StepX.of (hW.trans hs)), hk'⟩
  | alloc T z =>
   simp only [go, hki, hkj] at h ⊢
   obtain ⟨o, v, ho, hy, hk⟩ := h
   obtain rfl : oi = o := by rw [hi] at ho; exact Option.some.inj ho
   refine fun W g hs hb hg hN => ⟨_, v, hi, ?_, ?_⟩
   ·rw [hdj]; exact keepI _ (YieldsIf.step hy (StepX.of hs))
   ·rw [hdj, ← Act.put_comm a v _ h2, ← hdj]
    exact hk W g hs hb hg hN
 | chain =>
  cases hkj : kd j with
  | silent => simp [hki, hkj, swaps] at hsw
  | chain => simp [hki, hkj, swaps] at hsw
  | alloc T z =>
   simp only [go, hki, hkj] at h ⊢
   intro W0 g hs0 hb hg hN W hW
   refine wpOp_mono (fun a' w' hh => ?_) (wpOp_under (dst := (ops[j]?).bind (·.dst)) (v := madeV z g) hi (by rw [hdj]; exact h3) (by rw [hdj]; exact fun d hd he => h2 d he hd) hsi (h W (hs0.trans hW)))
   obtain ⟨a0, rfl, hs, hk⟩ := hh
   have hlt : g < W.heap.size := Nat.lt_of_lt_of_le (Array.getElem?_eq_some_iff.1 hb).1 hW.size
   exact ⟨hs, hK _ _ _ _ _ (fun x ⟨⟨q1, q2⟩, q3⟩ => ⟨⟨q1, q3⟩, q2⟩) (StepX.refl _ _) (hk w' g (StepX.refl _ _) (hsome (hW.trans hs) hg hb) hg ⟨hN, .inl hlt⟩)⟩
 | alloc T z =>
  cases hkj : kd j with
  | silent => simp [hki, hkj, swaps] at hsw
  | chain => simp [hki, hkj, swaps] at hsw
  | alloc T' z' =>
   simp only [go, hki, hkj] at h ⊢
   intro W' g' hs' hb' hg' hN' W g hs hb hg ⟨hN, hne⟩
   rw [hdi, hdj] at *
   rw [← Act.put_comm a _ _ h2]
   exact hK _ _ _ _ _ (fun x ⟨⟨q1, q2⟩, q3⟩ => ⟨⟨q1, q3⟩, q2⟩) (StepX.refl _ _) (h W g (hs'.trans hs) hb hg hN W g' (StepX.refl _ _) (hsome hs hg' hb') hg' ⟨hN', fun e => hne e.symm⟩)
theorem bring {K : Cont} (hK : ContMono (fun _ => False) K) (hsel : Region.noSelect ops = true) {j : Nat} {oj : Oper} (hj : ops[j]? = some oj) : ∀ (l1 l2 : List Nat) (N : Nat → Prop) (a : Act) (w : World),
  (∀ i ∈ l1, ∃ oi, ops[i]? = some oi ∧ oi.apart ops oj = true ∧ swaps (kd i) (kd j) = true) → run P ops Y base kd (l1 ++ j :: l2) K N a w → go P ops Y base kd j (run P ops Y base kd (l1 ++ l2) K) N a w := by
 intro l1
 induction l1 with
 | nil => intro l2 N a w _ h; exact h
 | cons i l1 ih =>
  intro l2 N a w hall h
  obtain ⟨oi, hi, hap, hsw⟩ := hall i (by simp)
  have h' : go P ops Y base kd i (go P ops Y base kd j (run P ops Y base kd (l1 ++ l2) K)) N a w :=
   go_cong (fun N a w hh => ih l2 N a w (fun k hk => hall k (by simp [hk])) hh) h
  exact exch hi hj hap (Region.noSelect_spec hsel i oi · · hi) (Region.noSelect_spec hsel j oj · · hj) hsw (run_mono hK _) h'
variable {tab : List Nat}
def K1 (P : Program) (ops : Array Oper) (Y : Nat → Prop) (Q : Exit → Act → World → Prop) (x : Nat) (t : List Nat) : Cont := fun _ a w => ∀ W, Step w W → wpOp P ops Q x (fun a' w' => StepX Y W w' ∧ wpOps P ops Q t a' w') a W
theorem K1_mono {Q : Exit → Act → World → Prop} (x : Nat) (t : List Nat) : ContMono (fun _ => False) (K1 P ops Y Q x t) := fun _ _ _ _ _ _ hs h W hW => h W (hs.trans hW)
def okWait (tab : List Nat) (ops : Array Oper) (kd : Nat → Kd) (y x : Nat) : Bool :=
 ancB tab y x || (isSil (kd y) && match ops[y]?, ops[x]? with
  | some oy, some ox => oy.apart ops ox
  | _, _ => false)
def okSeq (tab : List Nat) (ops : Array Oper) (kd : Nat → Kd) (l : List Nat) (x : Nat) (t : List Nat) : Bool :=
 okTab tab ops && okList tab ops kd l && (l.all fun y => okWait tab ops kd y x) && (l.all fun y => t.all fun z => ancB tab y z) && okTail tab [] (x :: t) && okDeps ops [] (l ++ x :: t) && okAlloc ops kd l && Region.noSelect ops && (List.range ops.size).all (fun i => (l ++ x :: t).contains i) && (l ++ x :: t).all (fun i => decide (i < ops.size)) && decide (l ++ x :: t).Nodup
def runS (P : Program) (ops : Array Oper) (S : World → Prop) : List Nat → (Act → Prop) → Act → Prop
 | [], K, a => K a
 | i :: l, K, a => ∃ o v, ops[i]? = some o ∧ YieldsIf P ops S o v a ∧ runS P ops S l K (a.put o.dst v)
theorem runS_and {S : World → Prop} {C : Prop} {K : Act → Prop} : ∀ {l : List Nat} {a : Act}, runS P ops S l (fun a => C ∧ K a) a → C ∧ runS P ops S l K a
 | [], _, hr => hr
 | _ :: _, _, ⟨o, v, ho, hy, hr⟩ => ⟨(runS_and hr).1, o, v, ho, hy, (runS_and hr).2⟩
theorem runS_of_run {Q : Exit → Act → World → Prop} {x : Nat} {t : List Nat} {w : World} : ∀ {l : List Nat} {N : Nat → Prop} {a : Act}, (∀ y ∈ l, isSil (kd y) = true) → run P ops Y base kd l (K1 P ops Y Q x t) N a w → runS P ops (StepX Y w) l (fun a => wpOp P ops Q x (fun a' w' => StepX Y w w' ∧ wpOps P ops Q t a' w') a w) a := by
 intro l
 induction l with
 | nil => intro N a _ h; exact h w (StepX.refl _ w)
 | cons i l ih =>
  intro N a hl h
  have h1 := hl i (by simp)
  have h' : go P ops Y base kd i (run P ops Y base kd l (K1 P ops Y Q x t)) N a w := h
  unfold go at h'
  cases hk : kd i <;> simp [hk, isSil] at h1
  rw [hk] at h'
  obtain ⟨o, v, ho, hy, hr⟩ := h'
  exact ⟨o, v, ho, hy, ih (fun y hy => hl y (by simp [hy])) hr⟩
theorem bringS (hsel : Region.noSelect ops = true) {S : World → Prop} {K : Act → Prop} {j : Nat} {oj : Oper} (hj : ops[j]? = some oj) : ∀ {l1 l2 : List Nat} {a : Act}, (∀ i ∈ l1, ∃ oi, ops[i]? = some oi ∧ oi.apart ops oj = true) → runS P ops S (l1 ++ j :: l2) K a →
  ∃ v, YieldsIf P ops S oj v a ∧ runS P ops S (l1 ++ l2) K (a.put oj.dst v) := by
 intro l1
 induction l1 with
 | nil =>
  intro l2 a _ h
  obtain ⟨o, v, ho, hy, hr⟩ := h
  obtain rfl : oj = o := by rw [hj] at ho; exact Option.some.inj ho
  exact ⟨v, hy, hr⟩
 | cons i l1 ih =>
  intro l2 a hall h
  obtain ⟨oi', hi', hap⟩ := hall i (by simp)
  obtain ⟨oi, vi, hi, hyi, hr⟩ := h
  obtain rfl : oi' = oi := by rw [hi] at hi'; exact (Option.some.inj hi').symm
  obtain ⟨v, hyj, hr2⟩ := ih (fun k hk => hall k (by simp [hk])) hr
  obtain ⟨h1, h2, h3⟩ := Oper.apart_spec hap
  have hsi := (Region.noSelect_spec hsel i oi' · · hi)
  have hsj := (Region.noSelect_spec hsel j oj · · hj)
  refine ⟨v, hyj.of_same (execOp_put oj hsj a oi'.dst vi h1).symm (wanted_put oj a oi'.dst vi h1).symm, oi', vi, hi, hyi.of_same (execOp_put oi' hsi a oj.dst v h3) (wanted_put oi' a oj.dst v h3), ?_⟩
  rw [← Act.put_comm a vi v h2]
  exact hr2
theorem tailS (hsel : Region.noSelect ops = true) {Q : Exit → Act → World → Prop} (hQ : ∀ c d v a w, Q (.panic c) (Act.put a d v) w → Q (.panic c) a w) {j : Nat} {oj : Oper} (hj : ops[j]? = some oj) {S : World → Prop} {K : Act → World → Prop} {w : World} : ∀ {l : List Nat} {a : Act},
  (∀ i ∈ l, ∃ oi, ops[i]? = some oi ∧ oi.apart ops oj = true) → runS P ops S l (fun a => wpOp P ops Q j K a w) a → wpOp P ops Q j (fun a' w' => runS P ops S l (fun a => K a w') a') a w := by
 intro l
 induction l with
 | nil => intro a _ h; exact h
 | cons i l ih =>
  intro a hall h
  obtain ⟨oi', hi', hap⟩ := hall i (by simp)
  obtain ⟨oi, vi, hi, hyi, hr⟩ := h
  obtain rfl : oi' = oi := by rw [hi] at hi'; exact (Option.some.inj hi').symm
  have h1 := ih (fun k hk => hall k (by simp [hk])) hr
  refine wpOp_mono (fun a' w' hh => ?_) (wpOp_putIf (S := S) hj hap (Region.noSelect_spec hsel i oi' · · hi) (Region.noSelect_spec hsel j oj · · hj) (fun c a w => hQ c _ _ a w) hyi h1)
  exact ⟨oi', vi, hi, hh.1, hh.2⟩
theorem mixed_sound {S : World → Prop} {Q : Exit → Act → World → Prop} (hsel : Region.noSelect ops = true) : ∀ (fuel : Nat) (l t : List Nat) (listed : Array Bool) (a : Act) (w : World),
  l.length + t.length ≤ fuel → listed.size = ops.size → (∀ i, i < ops.size → (listed.getD i true = false ↔ i ∈ l ++ t)) → (∀ i ∈ l ++ t, i < ops.size) → (l ++ t).Nodup → Closed ops listed →
  okTab tab ops = true → okList tab ops kd l = true → (∀ y ∈ l, ∀ x ∈ t, ancB tab y x = true) → TailOk tab [] t → DepsOk ops listed (l ++ t) → S w →
  runS P ops S l (fun a => wpOps P ops Q t a w) a → wpAny P .any ops Q fuel listed a w := by
 intro fuel
 induction fuel with
 | zero =>
  intro l t listed a w hf hsz hun hin hnd hcl htab _ _ htail hdeps _ h
  have hl : l = [] := List.eq_nil_of_length_eq_zero (by omega)
  subst hl
  exact tail_sound 0 t listed a w (by simpa using hf) hsz hun hin hnd hcl htab htail hdeps h
 | succ fuel ih =>
  intro l t listed a w hf hsz hun hin hnd hcl htab hlist hwait htail hdeps hS h
  by_cases hl : l = []
  ·subst hl
   exact tail_sound _ t listed a w (by simpa using hf) hsz hun hin hnd hcl htab htail hdeps h
  refine ⟨fun hr => ?_, fun j hj => ?_⟩
  ·exfalso
   cases l with
   | nil => exact hl rfl
   | cons x L =>
    obtain ⟨o, ho, hh⟩ := hdeps [] x (L ++ t) (by simp)
    have hx : x ∈ Region.ready .any ops listed := mem_ready.2 ⟨(hun x (hin x (by simp))).2 (by simp), o, ho, fun e he hb => (hh e he hb).resolve_right (by simp)⟩
    rw [hr] at hx; cases hx
  ·obtain ⟨h0, oj, hoj, hdj⟩ := mem_ready.1 hj
   have hjlt := (Array.getElem?_eq_some_iff.1 hoj).1
   have hjsz : j < listed.size := by omega
   have hjm := (hun j hjlt).1 h0
   have hcl' := closed_set hjsz hoj hdj hcl
   have notanc : ∀ i ∈ l ++ t, ancB tab i j = true → False := fun i hi ha => by
    have h1 := anc_listed hsz hcl htab j i oj hoj hdj ha
    have h2 := (hun i (hin i hi)).2 hi
    rw [getD_tf (by rw [hsz]; exact hin i hi), h1] at h2
    cases h2
   rcases List.mem_append.1 hjm with hjl | hjt
   ·obtain ⟨l1, l2, rfl⟩ := List.append_of_mem hjl
    obtain ⟨hlist', hpair⟩ := okList_drop hlist
    have hall : ∀ i ∈ l1, ∃ oi, ops[i]? = some oi ∧ oi.apart ops oj = true := fun i hi => by
     have hp := hpair i hi
     simp only [okPair, Bool.or_eq_true] at hp
     rcases hp with hp | hp
     ·exact (notanc i (by simp [hi]) hp).elim
     ·cases hoi : ops[i]? with
      | none => simp [hoi] at hp
      | some oi =>
       simp only [hoi, hoj, Bool.and_eq_true] at hp
       exact ⟨oi, rfl, hp.1⟩
    obtain ⟨v, hy, hr⟩ := bringS hsel hoj hall h
    have he : (l1 ++ j :: l2) ++ t = l1 ++ j :: (l2 ++ t) := by simp
    refine hy.wpOp hoj hS (ih (l1 ++ l2) t _ _ w (by simp at hf ⊢; omega) (by simp [hsz]) (by have := unlisted_drop (L1 := l1) (L2 := l2 ++ t) hjsz (by rw [← he]; exact hun) (by rw [← he]; exact hnd); simpa using this)
     (fun i hi => hin i (by simp only [List.mem_append, List.mem_cons] at hi ⊢; rcases hi with (hi | hi) | hi <;> simp [hi]))
     (by have := (nodup_mid (by rw [← he]; exact hnd)).2; simpa using this) hcl' htab hlist' (fun y hy x hx => hwait y (by simp only [List.mem_append, List.mem_cons] at hy ⊢; rcases hy with hy | hy <;> simp [hy]) x hx) htail
     (by have := depsOk_drop (L1 := l1) (L2 := l2 ++ t) hjsz (by rw [← he]; exact hdeps); simpa using this) hS hr)
   ·obtain ⟨y, hy⟩ := List.exists_mem_of_ne_nil l hl
    exact (notanc y (by simp [hy]) (hwait y hy j hjt)).elim
theorem seq_sound {Q : Exit → Act → World → Prop} (hsel : Region.noSelect ops = true) (hQ : ∀ c d v a w, Q (.panic c) (Act.put a d v) w → Q (.panic c) a w) {x0 : Nat} {t0 t : List Nat} (ht : t = x0 :: t0) : ∀ (fuel : Nat) (l : List Nat) (listed : Array Bool) (N : Nat → Prop) (a : Act) (w : World),
  l.length + t.length ≤ fuel → listed.size = ops.size → (∀ i, i < ops.size → (listed.getD i true = false ↔ i ∈ l ++ t)) → (∀ i ∈ l ++ t, i < ops.size) → (l ++ t).Nodup → Closed ops listed →
  okTab tab ops = true → okList tab ops kd l = true → (∀ y ∈ l, okWait tab ops kd y x0 = true) → (∀ y ∈ l, ∀ z ∈ t0, ancB tab y z = true) → TailOk tab [] t → DepsOk ops listed (l ++ t) → okAlloc ops kd l = true → (∀ i T z, i ∈ l → kd i = .alloc T z → Makes P ops i T z) →
  (∀ g, w.heap.size ≤ g → N g) → base ≤ w.heap.size → run P ops Y base kd l (K1 P ops Y Q x0 t0) N a w → wpAny P .any ops Q fuel listed a w := by
 intro fuel
 induction fuel with
 | zero =>
  intro l listed N a w hf hsz hun hin hnd hcl htab _ _ _ htail hdeps _ _ _ _ h
  have hl : l = [] := List.eq_nil_of_length_eq_zero (by omega)
  subst hl
  exact tail_sound 0 t listed a w (by simpa using hf) hsz hun hin hnd hcl htab htail hdeps (by rw [ht, wpOps_cons]; exact wpOp_mono (fun _ _ h => h.2) (h w (StepX.refl _ w)))
 | succ fuel ih =>
  intro l listed N a w hf hsz hun hin hnd hcl htab hlist hwait hanc htail hdeps halloc hz hN hbase h
  by_cases hl : l = []
  ·subst hl
   exact tail_sound _ t listed a w (by simpa using hf) hsz hun hin hnd hcl htab htail hdeps (by rw [ht, wpOps_cons]; exact wpOp_mono (fun _ _ h => h.2) (h w (StepX.refl _ w)))
  refine ⟨fun hr => ?_, fun j hj => ?_⟩
  ·-- nothing may come up: but something is left
   exfalso
   cases l with
   | nil => exact hl rfl
   | cons x L =>
    obtain ⟨o, ho, hh⟩ := hdeps [] x (L ++ t) (by simp)
    have hx : x ∈ Region.ready .any ops listed := mem_ready.2 ⟨(hun x (hin x (by simp))).2 (by simp), o, ho, fun e he hb => (hh e he hb).resolve_right (by simp)⟩
    rw [hr] at hx; cases hx
  ·obtain ⟨h0, oj, hoj, hdj⟩ := mem_ready.1 hj
   have hjlt := (Array.getElem?_eq_some_iff.1 hoj).1
   have hjsz : j < listed.size := by omega
   have hjm := (hun j hjlt).1 h0
   have hcl' := closed_set hjsz hoj hdj hcl
   have notanc : ∀ i ∈ l ++ t, ancB tab i j = true → False := fun i hi ha => by
    have h1 := anc_listed hsz hcl htab j i oj hoj hdj ha
    have h2 := (hun i (hin i hi)).2 hi
    rw [getD_tf (by rw [hsz]; exact hin i hi), h1] at h2
    cases h2
   rcases List.mem_append.1 hjm with hjl | hjt
   ·-- one of the first part
    obtain ⟨l1, l2, rfl⟩ := List.append_of_mem hjl
    obtain ⟨hlist', hpair⟩ := okList_drop hlist
    have hall : ∀ i ∈ l1, ∃ oi, ops[i]? = some oi ∧ oi.apart ops oj = true ∧ swaps (kd i) (kd j) = true := fun i hi => by
     have hp := hpair i hi
     simp only [okPair, Bool.or_eq_true] at hp
     rcases hp with hp | hp
     ·exact (notanc i (by simp [hi]) hp).elim
     ·cases hoi : ops[i]? with
      | none => simp [hoi] at hp
      | some oi =>
       simp only [hoi, hoj, Bool.and_eq_true] at hp
       exact ⟨oi, rfl, hp.1, hp.2⟩
    have hb := bring (K1_mono x0 t0) hsel hoj l1 l2 N a w hall h
    have he : (l1 ++ j :: l2) ++ t = l1 ++ j :: (l2 ++ t) := by simp
    have next : ∀ (N' : Nat → Prop) (a' : Act) (w' : World), (∀ g, w'.heap.size ≤ g → N' g) → w.heap.size ≤ w'.heap.size → run P ops Y base kd (l1 ++ l2) (K1 P ops Y Q x0 t0) N' a' w' → wpAny P .any ops Q fuel (listed.setIfInBounds j true) a' w' :=
     fun N' a' w' hN' hsz' hr => ih (l1 ++ l2) _ N' a' w' (by simp at hf ⊢; omega) (by simp [hsz]) (by have := unlisted_drop (L1 := l1) (L2 := l2 ++ t) hjsz (by rw [← he]; exact hun) (by rw [← he]; exact hnd); simpa using this)
      (fun i hi => hin i (by simp only [List.mem_append, List.mem_cons] at hi ⊢; rcases hi with (hi | hi) | hi <;> simp [hi]))
      (by have := (nodup_mid (by rw [← he]; exact hnd)).2; simpa using this) hcl' htab hlist' (fun y hy => hwait y (by simp only [List.mem_append, List.mem_cons] at hy ⊢; rcases hy with hy | hy <;> simp [hy])) (fun y hy => hanc y (by simp only [List.mem_append, List.mem_cons] at hy ⊢; rcases hy with hy | hy <;> simp [hy])) htail
      (by have := depsOk_drop (L1 := l1) (L2 := l2 ++ t) hjsz (by rw [← he]; exact hdeps); simpa using this)
      (by simp only [okAlloc, List.all_eq_true, List.mem_append, List.mem_cons] at halloc ⊢; exact fun x hx => halloc x (hx.elim .inl (fun h => .inr (.inr h))))
      (fun i T z hi => hz i T z (by simp only [List.mem_append, List.mem_cons] at hi ⊢; rcases hi with hi | hi <;> simp [hi])) hN' (by omega) hr
    cases hk : kd j with
    | silent =>
     simp only [go, hk] at hb
     obtain ⟨o, v, ho, hy, hr⟩ := hb
     exact hy.wpOp ho (StepX.refl _ w) (next N _ w hN (Nat.le_refl _) hr)
    | chain =>
     simp only [go, hk] at hb
     exact wpOp_any (wpOp_mono (fun a' w' ⟨hs, hr⟩ => next _ a' w' (fun g hg => ⟨hN g (Nat.le_trans hs.size hg), .inr hg⟩) hs.size hr) (hb w (StepX.refl _ w)))
    | alloc T z =>
     simp only [go, hk] at hb
     have hal := halloc
     simp only [okAlloc, List.all_eq_true] at hal
     have hal := hal j (by simp)
     simp only [hk, hoj, Bool.and_eq_true] at hal
     obtain ⟨hg, hop⟩ := hal
     refine wpOp_alloc hoj hop (by simpa using hg) (hz j T z (by simp) hk) ?_
     have hd : (ops[j]?).bind (·.dst) = oj.dst := by rw [hoj]; rfl
     rw [hd] at hb
     exact next _ _ _ (fun g hgg => ⟨hN g (by simp at hgg; omega), by simp at hgg; omega⟩) (by simp) (hb (w.alloc (.cells (madeC z) T)) w.heap.size (Step.alloc _ _) (heap_alloc_new w _) hbase (hN _ (Nat.le_refl _)))
   ·-- the tail's first may come, while what is left waits
    obtain ⟨y0, hy0⟩ := List.exists_mem_of_ne_nil l hl
    have hj0 : j = x0 := by
     rw [ht] at hjt
     rcases List.mem_cons.1 hjt with h1 | h1
     ·exact h1
     ·exact (notanc y0 (by simp [hy0]) (hanc y0 hy0 j h1)).elim
    subst hj0
    have hw1 : ∀ y ∈ l, isSil (kd y) = true ∧ ∃ oy, ops[y]? = some oy ∧ oy.apart ops oj = true := fun y hy => by
     have := hwait y hy
     simp only [okWait, Bool.or_eq_true, Bool.and_eq_true] at this
     rcases this with h1 | ⟨h2, h4⟩
     ·exact (notanc y (by simp [hy]) h1).elim
     ·cases hoy : ops[y]? with
      | none => simp [hoy] at h4
      | some oy => simp only [hoy, hoj] at h4; exact ⟨h2, oy, rfl, h4⟩
    have h5 := tailS hsel hQ hoj (fun i hi => (hw1 i hi).2) (runS_of_run (fun y hy => (hw1 y hy).1) h)
    have he : l ++ t = l ++ j :: t0 := by rw [ht]
    refine wpOp_mono (fun a' w' hk => ?_) h5
    obtain ⟨hS, hk⟩ := runS_and hk
    exact mixed_sound hsel fuel l t0 _ a' w' (by rw [ht] at hf; simp at hf; omega) (by simp [hsz]) (unlisted_drop (L1 := l) (L2 := t0) hjsz (by rw [← he]; exact hun) (by rw [← he]; exact hnd))
     (fun i hi => hin i (by rw [he]; simp only [List.mem_append, List.mem_cons] at hi ⊢; rcases hi with hi | hi <;> simp [hi])) (nodup_mid (by rw [← he]; exact hnd)).2 hcl' htab hlist hanc
     (fun u1 x u2 hu y hy => htail (j :: u1) x u2 (by rw [ht, hu]; simp) y (by simp at hy ⊢; exact .inr hy)) (depsOk_drop (L1 := l) (L2 := t0) hjsz (by rw [← he]; exact hdeps)) hS hk
theorem wp_region_late {id : Nat} {Q : Exit → Act → World → Prop} {a : Act} {w : World} (Y : Nat → Prop) (hQ : ∀ c d v a w, Q (.panic c) (Act.put a d v) w → Q (.panic c) a w) (kd : Nat → Kd) (tab l : List Nat) (x : Nat) (t : List Nat) (hm : P.follows .mixedOrders = true) (hok : okSeq tab ops kd l x t = true)
  (hz : ∀ i T z, i ∈ l → kd i = .alloc T z → Makes P ops i T z)
  (h : ∀ W, Step w W → run P ops Y w.heap.size kd l (K1 P ops Y Q x t) (fun _ => True) a W) : (Code.region id ops true).wp P Q a w := by
 simp only [okSeq, Bool.and_eq_true, List.all_eq_true, decide_eq_true_eq, List.mem_range, List.contains_iff_mem] at hok
 obtain ⟨⟨⟨⟨⟨⟨⟨⟨⟨⟨h0, h1⟩, h9⟩, h10⟩, h2⟩, h3⟩, h4⟩, h5⟩, h6⟩, h7⟩, h8⟩ := hok
 refine wp_region_any hm ?_
 refine seq_sound (base := w.heap.size) (kd := kd) h5 hQ rfl ops.size l _ (fun _ => True) a w.drew ?_ (by simp) ?_ h7 h8 ?_ h0 h1 h9 h10 (tailOk_of h2) ?_ h4 hz (fun _ _ => trivial) (by simp) (h w.drew (Step.drew w))
 ·have hsub : (l ++ x :: t).length ≤ (List.range ops.size).length := h8.length_le_of_subset (fun i hi => List.mem_range.2 (h7 i hi))
  simpa using hsub
 ·intro i hi
  simp only [Array.getD_eq_getD_getElem?, Array.getElem?_replicate, hi, if_true, Option.getD_some, true_iff]
  exact h6 i hi
 ·intro x' o ho hx
  have hlt := (Array.getElem?_eq_some_iff.1 ho).1
  simp [hlt] at hx
 ·intro L1 x' L2 he
  obtain ⟨o, ho, hh⟩ := depsOk_of (listed := Array.replicate ops.size false) h3 L1 x' L2 he
  exact ⟨o, ho, by simpa using hh⟩
section
variable {K : Cont} {N : Nat → Prop} {a : Act} {w : World} {i : Nat} {l : List Nat} {o : Oper}
theorem run_silent {v : Value} (hk : kd i = .silent) (ho : ops.toList[i]? = some o) (hy : YieldsIf P ops (StepX Y w) o v a) (h : run P ops Y base kd l K N (a.put o.dst v) w) : run P ops Y base kd (i :: l) K N a w := by
 show go P ops Y base kd i _ N a w
 unfold go; rw [hk]; exact ⟨o, v, by simpa using ho, hy, h⟩
theorem run_want (hk : kd i = .silent) (ho : ops.toList[i]? = some o) (hw : Region.wanted o (yielded ops a.tmps) = true) (h : ∃ v, (∀ W, StepX Y w W → (execOp a.eval o).run P W = .ok (.value v) W) ∧ run P ops Y base kd l K N (a.put o.dst v) w) :
  run P ops Y base kd (i :: l) K N a w := by
 obtain ⟨v, h1, h2⟩ := h
 exact run_silent hk ho (.inl ⟨hw, h1⟩) h2
theorem run_off (hk : kd i = .silent) (ho : ops.toList[i]? = some o) (hw : Region.wanted o (yielded ops a.tmps) = false) (h : run P ops Y base kd l K N (a.put o.dst undef) w) : run P ops Y base kd (i :: l) K N a w :=
 run_silent hk ho (.inr ⟨hw, rfl⟩) h
theorem run_chain (hk : kd i = .chain) (ho : ops.toList[i]? = some o) (hw : Region.wanted o (yielded ops a.tmps) = true)
  (h : ∀ W, StepX (fun _ => False) w W → ∀ K' : Act → World → Prop, (∀ a' w', StepX (fun _ => False) W w' → run P ops Y base kd l K (fun g => N g ∧ (g < W.heap.size ∨ w'.heap.size ≤ g)) a' w' → K' a' w') → o.wp P a W K' QF) : run P ops Y base kd (i :: l) K N a w := by
 show go P ops Y base kd i _ N a w
 have ho : ops[i]? = some o := by simpa using ho
 unfold go; rw [hk]
 intro W hW
 unfold wpOp; simp only [ho, hw, if_true]
 exact .inl (h W hW _ (fun a' w' hs hr => ⟨hs, hr⟩))
theorem run_chain_off (hk : kd i = .chain) (ho : ops.toList[i]? = some o) (hw : Region.wanted o (yielded ops a.tmps) = false) (hK : ContMono (fun _ => False) K)
  (h : run P ops Y base kd l K N (a.put o.dst undef) w) : run P ops Y base kd (i :: l) K N a w := by
 show go P ops Y base kd i _ N a w
 have ho : ops[i]? = some o := by simpa using ho
 unfold go; rw [hk]
 intro W hW
 unfold wpOp; simp only [ho, hw]
 exact ⟨StepX.refl _ _, run_mono hK l _ _ _ _ _ (fun g hg => hg.1) hW h⟩
theorem run_alloc {T : TypeId} {z : Value} (hk : kd i = .alloc T z) (ho : ops.toList[i]? = some o)
  (h : ∀ W g, StepX (fun _ => False) w W → W.heap[g]? = some (.cells z.cells T (0, 0)) → base ≤ g → N g → run P ops Y base kd l K (fun x => N x ∧ x ≠ g) (a.put o.dst (.pointer (some ⟨g, 0, none⟩))) W)
  (hv : ∀ g, madeV z g = .pointer (some ⟨g, 0, none⟩) := by exact fun _ => rfl) (hc : madeC z = z.cells := by exact rfl) : run P ops Y base kd (i :: l) K N a w := by
 show go P ops Y base kd i _ N a w
 have ho : ops[i]? = some o := by simpa using ho
 unfold go; rw [hk, ho]
 intro W g h1 h2 h3 h4
 rw [hc] at h2
 rw [hv]
 exact h W g h1 h2 h3 h4
theorem run_consts {T : TypeId} {xs : Array Value} (hk : kd i = .alloc T (.tuple xs)) (ho : ops.toList[i]? = some o)
  (h : ∀ W g, StepX (fun _ => False) w W → W.heap[g]? = some (.cells xs T (0, 0)) → base ≤ g → N g → run P ops Y base kd l K (fun x => N x ∧ x ≠ g) (a.put o.dst (.slice (some ⟨g, 0, none⟩) xs.size xs.size)) W) : run P ops Y base kd (i :: l) K N a w := by
 show go P ops Y base kd i _ N a w
 have ho : ops[i]? = some o := by simpa using ho
 unfold go; rw [hk, ho]; exact h
theorem run_end {Q : Exit → Act → World → Prop} {x : Nat} {ox : Oper} {t : List Nat} {L : List Oper} (hx : ops.toList[x]? = some ox) (hg : ox.guard = none) (ht : t.map (fun i => ops.toList[i]?) = L.map some)
  (h : ∀ W, Step w W → ∀ K' : Act → World → Prop, (∀ a' w', StepX Y W w' → wpList P ops Q L a' w' → K' a' w') → ox.wp P a W K' Q) : run P ops Y base kd [] (K1 P ops Y Q x t) N a w := by
 intro W hW
 have hx' : ops[x]? = some ox := by simpa using hx
 unfold wpOp
 simp only [hx', Region.wanted, hg, if_true]
 refine .inl (h W hW _ fun a' w' h1 h2 => ⟨h1, ?_⟩)
 clear h hW h1
 induction t generalizing L a' w' with
 | nil =>
  cases L with
  | nil => exact h2
  | cons _ _ => simp at ht
 | cons x t ih =>
  cases L with
  | nil => simp at ht
  | cons o L =>
   simp only [List.map_cons, List.cons.injEq, Array.getElem?_toList] at ht
   rw [wpOps_cons]
   unfold wpOp
   unfold wpList at h2
   simp only [ht.1]
   split
   ·rename_i hw
    rw [if_pos hw] at h2
    exact h2.imp (Oper.wp_mono fun a' w' hh => ih (by simpa using ht.2) a' w' hh) id
   ·rename_i hw
    rw [if_neg hw] at h2
    exact ih (by simpa using ht.2) _ _ h2
end
end
end Go.BT.Late
namespace Go.Proofs.YtgpiieogiafdoaaGreat
set_option linter.unusedSimpArgs false
set_option linter.unusedVariables false
open Go.RowKit Go.BT
def takeE (h : House) (b : Book) (m : BT.Message) : Int := if messV h m = false then 1 else if m.dst ≠ b.agency then 2 else if hasK b.took (keyOf m) = true then 6 else
 if (m.seats.all fun j => decide (seatAt b m.shw j = -1)) = false then 8 else if 1000 ≤ b.took.length then 3 else 0
def takeTo (b : Book) (i : Nat) (l : List Int) : Book := l.foldl (fun b j => putSeat b i j.toNat 0) b
def takeP (b : Book) (m : BT.Message) : Book := { takeTo b m.shw.toNat m.seats with took := b.took ++ [keyOf m] }
def takeD (h : House) (b : Book) (m : BT.Message) : Except Int Book := if takeE h b m = 0 then .ok (takeP b m) else .error (takeE h b m)
theorem takeD_no {h : House} {b : Book} {m : BT.Message} {c : Int} (hc : takeE h b m = c) (h0 : c ≠ 0) : takeD h b m = .error c := by simp [takeD, hc, h0]
theorem takeD_yes {h : House} {b : Book} {m : BT.Message} (hc : takeE h b m = 0) : takeD h b m = .ok (takeP b m) := by simp [takeD, hc]
theorem like_take (b : Book) (i : Nat) : ∀ l : List Int, Like b (takeTo b i l) 0 := by
 intro l
 unfold takeTo
 induction l generalizing b with
 | nil => exact Like.refl b
 | cons j l ih => exact ((like_put b i j.toNat 0).trans (ih _)).mono (by omega)
theorem takeTo_snoc (b : Book) (i : Nat) (l : List Int) (j : Int) : takeTo b i (l ++ [j]) = putSeat (takeTo b i l) i j.toNat 0 := by simp [takeTo]
theorem takeTo_took (b : Book) (i : Nat) : ∀ l : List Int, (takeTo b i l).took = b.took := by
 intro l
 unfold takeTo
 induction l generalizing b with
 | nil => rfl
 | cons j l ih => rw [List.foldl_cons, ih]; rfl
theorem mess_parts {h : House} {m : BT.Message} (hm : messV h m = true) : withinB m.shw 0 (h.dates.length - 1) = true ∧ seatsB h m.seats = true := by
 simp only [messV, Bool.and_eq_true] at hm
 exact ⟨hm.1.2, hm.2⟩
theorem takeE_6 {h : House} {b : Book} {m : BT.Message} (h1 : messV h m = true) (h2 : m.dst = b.agency) (h3 : hasK b.took (keyOf m) = true) : takeE h b m = 6 := by
 unfold takeE; rw [h1, if_neg (by simp), if_neg (fun h => h h2), if_pos h3]
theorem takeE_at {h : House} {b : Book} {m : BT.Message} (h1 : messV h m = true) (h2 : m.dst = b.agency) (h3 : hasK b.took (keyOf m) = false) :
  takeE h b m = if (m.seats.all fun j => decide (seatAt b m.shw j = -1)) = false then 8 else if 1000 ≤ b.took.length then 3 else 0 := by
 unfold takeE; rw [h1, if_neg (by simp), if_neg (fun h => h h2), h3, if_neg (by simp)]
section
variable {base : Nat} {w w' : World} {g : Nat} {h : House} {b : Book} {c0 c1 c2 c3 c4 vs vo vt : Value} {xs : List Value}
theorem Desk.bx_took (D : Desk base w g h b c0 c1 c2 c3 c4 vs vo vt xs) (hg : w.grownBy w' vt.ownBlock) : Bx w' g [c0, c1, c2, c3, c4, .int .i64 b.agency, vs, vo, .int .i64 b.sent, vt, .int .i64 b.cash] 186 := by
 obtain ⟨ts, ht, _⟩ := D.took
 exact D.bx.keep (S := fun j => vt.ownBlock = some j) (.grown hg fun j hj _ => hj) (apart_bx D.bx ht (by decide))
theorem Desk.setTook {vt' : Value} {l' : List Key} (D : Desk base w g h b c0 c1 c2 c3 c4 vs vo vt xs) (hg : w.grownBy w' vt.ownBlock) (ho : OwnL (fun _ => False) base 172 w' vt' l') :
  Desk base (w'.setCell ⟨g, 9, none⟩ vt') g h { b with took := l' } c0 c1 c2 c3 c4 vs vo vt' xs := by
 obtain ⟨ts, ht, _⟩ := D.took
 have hne : ∀ {b3 s3 : Nat} {e3 : TypeId} {v3 : Value} {n3 : Nat} {x3 : List Value}, w.ownsRow b3 e3 s3 v3 n3 x3 → e3 ≠ 172 → v3.ownBlock = none ∨ v3.ownBlock ≠ vt.ownBlock := fun {b3 s3 e3 v3 n3 x3} h3 h4 => by
  cases hq : v3.ownBlock with
  | none => exact .inl rfl
  | some q => exact .inr fun he => apart_rows h3 ht h4 q hq he.symm
 have hk : Keeps (fun j => base ≤ j) w w' := .grown hg fun k hk _ => (D.took.lt k hk).1
 have hb7 := D.bx.keep (S := fun j => vt.ownBlock = some j) (.grown hg fun j hj _ => hj) (apart_bx D.bx ht (by decide))
 have hh7 := Rep.keep hk D.house
 have ho7 := D.outer.kept hg (hne D.outer (by decide))
 have hr7 : ∀ i (hi : i < b.seats.length) (hx : i < xs.length), OwnI base 3 w' xs[i] b.seats[i] := fun i hi hx => (D.row i hi hx).kept hg (hne (D.row i hi hx) (by decide))
 have hf7 := D.off.kept hg (hne D.off (by decide))
 have hw : Wrote g w' (w'.setCell ⟨g, 9, none⟩ vt') := Wrote.setCell w' g 9 _
 obtain ⟨us, hu, _⟩ := ho
 refine Desk.of ?_ D.gb (Rep.keep (keeps_of_wrote hw D.gb) hh7) (ho7.kept hw.grown (.inr (apart_bx hb7 ho7 (by decide)))) (fun i hi hx => (hr7 i hi hx).kept hw.grown (.inr (apart_bx hb7 (hr7 i hi hx) (by decide)))) (hf7.kept hw.grown (.inr (apart_bx hb7 hf7 (by decide)))) ?_ ?_
 ·have := hb7.setCell 9 vt'
  simpa using this
 ·exact OwnL.keptF (S := fun _ => False) ⟨us, hu, by assumption⟩ fun k hk' => hw.block k (fun e => apart_bx hb7 hu (by decide) (e ▸ hk'))
 ·have := D.apart
  unfold Apart at *
  simp only [List.pairwise_cons] at this
  exact this.2.2.2.2
def TakeRel (base : Nat) (w : World) (g : Nat) (h : House) (bk : Book) (mcs : List Value) (c0 c1 c2 c3 c4 vs vo vt : Value) (xs : List Value) (wr : World) : Prop :=
 Desk base wr g h bk c0 c1 c2 c3 c4 vs vo vt xs ∧ Bx wr w.heap.size [.pointer (some ⟨g, 0, none⟩)] 138 ∧ Bx wr (w.heap.size + 1) mcs 86 ∧ StepX (fun j => base ≤ j) w wr
set_option maxRecDepth 100000 in
set_option maxHeartbeats 8000000 in
theorem take_any (D : Desk base w g h b c0 c1 c2 c3 c4 vs vo vt xs) (hO : OkDesk h b) (mf md mn ms : Int) (l : List Int) (u : Value) (hu : AV (fun j => base ≤ j) w u (⟨mf, md, mn, ms, l⟩ : BT.Message)) :
  Calls Tryz.prog 72 #[.pointer (some ⟨g, 0, none⟩), u] w (fun e w' => DeskEnds base g h (takeD h b ⟨mf, md, mn, ms, l⟩) e w w') := by
 obtain ⟨mc, rfl, hms⟩ := hu.message
 dsimp only at hms ⊢
 obtain ⟨pu, cu, bu, ou, rfl, _, hlm, hpu, hcu, hbu⟩ := hms.ints
 have hmf : ∀ (fn : Fn) (first cap : Array Value) (w : World), (Instr.makeFunc fn first cap).run Tryz.prog w = .ok (.func fn first cap) w := fun _ _ _ _ => rfl
 obtain ⟨W3, hW3⟩ : ∃ W3, W3 = (w.alloc (.cells #[.pointer (some ⟨g, 0, none⟩)] 138)).alloc (.cells #[.int .i64 mf, .int .i64 md, .int .i64 mn, .int .i64 ms, .slice pu l.length cu] 86) := ⟨_, rfl⟩
 have hS : Step w W3 := by subst hW3; exact (by repeat (first | (with_reducible assumption) | (with_reducible exact Step.refl _) | (with_reducible apply Step.s_alloc) | (with_reducible apply Step.s_drew) | (with_reducible apply Step.s_drewN) | (with_reducible refine Step.trans ?_ (by with_reducible assumption))))
 have hb0 : Bx W3 w.heap.size [.pointer (some ⟨g, 0, none⟩)] 138 := by subst hW3; exact (Bx.new _ [_] _).alloc _
 have hb1 : Bx W3 (w.heap.size + 1) [.int .i64 mf, .int .i64 md, .int .i64 mn, .int .i64 ms, .slice pu l.length cu] 86 := by subst hW3; exact Bx.new' _ [_, _, _, _, _] _ _ (by simp)
 have hz3 : W3.heap.size = w.heap.size + 2 := by subst hW3; simp
 have HS := Lib.hid hS
 have HB0 := Lib.hid hb0
 have HB1 := Lib.hid hb1
 have HZ3 := Lib.hid hz3
 have HD := Lib.hid (D.step hS)
 have HD0 := Lib.hid D
 have HO := Lib.hid hO
 have HU := Lib.hid (And.intro hms (And.intro hpu (And.intro hcu hbu)))
 have HU0 := Lib.hid hu
 have HAV := Lib.hid (AV.keep (.of_step hS) hu)
 have HW := Lib.hid hW3
 have HT := Lib.hid (Step.refl W3)
 clear hS hb0 hb1 hz3 D hO hu hms hpu hcu hbu hW3
 obtain ⟨p0, k0, rfl⟩ := (rep5 HD.out.house).1.form
 obtain ⟨p1, k1, rfl⟩ := (rep5 HD.out.house).2.1.form
 obtain ⟨p2, k2, rfl⟩ := (rep5 HD.out.house).2.2.1.form
 obtain ⟨p3, k3, rfl⟩ := (rep5 HD.out.house).2.2.2.1.form
 obtain ⟨p4, k4, rfl⟩ := (rep5 HD.out.house).2.2.2.2.form
 obtain ⟨pt, ct, rfl⟩ : ∃ p c, vt = .slice p b.took.length c := by obtain ⟨p, c, e, _⟩ := HD.out.took.form; exact ⟨p, c, e⟩
 go_enter Tryz.func72, Tryz.ntmps72
 go_upto_region 1 with (fail)
 rw [← HW.out]
 clear HW
 refine wp_region_seq (kdOf [5] []) [0, 1, 3, 7, 0, 31, 63] [0, 1, 2, 3, 4, 5] [6] (by kernel_rfl) (by kernel_rfl) (fun i T z hi hk => by simp [kdOf] at hk <;> (try (split at hk <;> cases hk))) ?_
 intro Wx hWx
 have HTx := Lib.hid (HT.out.trans hWx)
 clear hWx HT
 have HT := HTx
 clear HTx
 (try clear y0 x0 x1 x2 x3 x4)
 have y0 := (HB0.out.step HT.out).cell 0
 obtain ⟨x0, x1, x2, x3, x4⟩ := cells5 (HB1.out.step HT.out)
 simp only [List.getElem?_cons_zero] at y0
 (try clear f0 f1 f2 f3 f4 f5 f6 f7 f8 f9)
 obtain ⟨⟨f0, f1, f2, f3, f4⟩, f5, f6, f7, f8, f9, _⟩ := cells11 (HD.out.step HT.out).bx
 repeat (first | (refine run_off rfl rfl (by rfl) ?_; (try simp only [Act.put, zA, zB, zC])) | (refine run_chain_off rfl rfl (by rfl) (K0_mono _) ?_; (try simp only [Act.put, zA, zB, zC])) | ((refine run_want rfl rfl (by rfl) ⟨?_, fun W hW => ?_, ?_⟩; rotate_left; (· (have d0 := hW.kc y0; have d1 := hW.kc f0; have d2 := hW.kc f1; have d3 := hW.kc f2; have d4 := hW.kc f3; have d5 := hW.kc f4; have d6 := hW.kc x0; have d7 := hW.kc x1; have d8 := hW.kc x2; have d9 := hW.kc x3; have d10 := hW.kc x4; go_simp; (try with_reducible rfl)))); (try simp only [Act.put, zA, zB, zC])))
 refine run_chain rfl rfl (by rfl) (fun Wi hWi K' hK => ?_)
 have HTi := Lib.hid (HT.out.trans hWi)
 have HZW := Lib.hid HTi.out.size
 clear hWi HT
 go_simp
 refine (vmess_any (fun j => base ≤ j) (fun j => base ≤ j) h ⟨mf, md, mn, ms, l⟩ _ _ Wi ⟨_, rfl, (HD.out.step HTi.out).house⟩ (AV.keep (.of_step HTi.out) HAV.out) HO.out.1).mono ?_
 rintro e wn ⟨rfl, hSn⟩
 have HT := Lib.hid (HTi.out.trans (StepX.of hSn))
 clear HTi
 refine hK _ _ (StepX.of hSn) ?_
 clear hSn
 (try simp only [Act.put, zA, zB, zC])
 clear y0 x0 x1 x2 x3 x4 f0 f1 f2 f3 f4 f5 f6 f7 f8 f9
 repeat (first | (refine run_off rfl rfl (by rfl) ?_; (try simp only [Act.put, zA, zB, zC])) | (refine run_chain_off rfl rfl (by rfl) (K0_mono _) ?_; (try simp only [Act.put, zA, zB, zC])) | ((refine run_want rfl rfl (by rfl) ⟨?_, fun W hW => ?_, ?_⟩; rotate_left; (· (obtain ⟨hc'', hf''⟩ := hW.cells; go_simp; (try with_reducible rfl)))); (try simp only [Act.put, zA, zB, zC])))
 refine run_end (L := [_]) rfl (fun W6 hW6 => ?_)
 have HT6 := Lib.hid (HT.out.trans hW6)
 clear hW6 HT
 have HT := HT6
 clear HT6
 cases q1 : messV h ⟨mf, md, mn, ms, l⟩ with
 | false =>
  have HF := Lib.hid (show takeE h b ⟨mf, md, mn, ms, l⟩ = 1 by simp [takeE, q1])
  clear q1
  go_wp2_with fail
  refine (ask_no _ _).mono ?_
  rintro e wn ⟨rfl, hSn⟩
  have HTi := Lib.hid (HT.out.trans hSn)
  clear hSn HT
  have HT := HTi
  clear HTi
  exact ⟨rfl, .no (takeD_no HF.out (by simp)) (HS.out.trans HT.out)⟩
 | true =>
 have Q1 := Lib.hid q1
 clear q1
 go_wp2_with fail
 refine (ask_yes _ _).mono ?_
 rintro e wn ⟨rfl, hSn⟩
 have HTi := Lib.hid (HT.out.trans hSn)
 clear hSn HT
 have HT := HTi
 clear HTi
 obtain ⟨q3, q4⟩ := mess_parts Q1.out
 dsimp only at q3 q4
 obtain ⟨i, rfl, hi0, hi1⟩ := within_nat q3 (by omega)
 have Q4 := Lib.hid q4
 have hi : i < h.dates.length := by omega
 clear q3 q4 hi0 hi1
 go_upto_region 2 with (fail)
 refine wp_region_seq (kdOf [] []) [0, 1, 0, 4, 12, 28, 60, 127, 255] [0, 1, 2, 3, 4, 5, 6, 7] [8] (by kernel_rfl) (by kernel_rfl) (fun i T z hi hk => by simp [kdOf] at hk <;> (try (split at hk <;> cases hk))) ?_
 intro Wx hWx
 have HTx := Lib.hid (HT.out.trans hWx)
 clear hWx HT
 have HT := HTx
 clear HTx
 (try clear y0 x0 x1 x2 x3 x4)
 have y0 := (HB0.out.step HT.out).cell 0
 obtain ⟨x0, x1, x2, x3, x4⟩ := cells5 (HB1.out.step HT.out)
 simp only [List.getElem?_cons_zero] at y0
 (try clear f0 f1 f2 f3 f4 f5 f6 f7 f8 f9)
 obtain ⟨⟨f0, f1, f2, f3, f4⟩, f5, f6, f7, f8, f9, _⟩ := cells11 (HD.out.step HT.out).bx
 have hdx : (md == b.agency) = decide (md = b.agency) := by simp [Bool.beq_eq_decide_eq]
 have HDX := Lib.hid hdx
 clear hdx
 repeat (first | (refine run_off rfl rfl (by rfl) ?_; (try simp only [Act.put, zA, zB, zC])) | (refine run_chain_off rfl rfl (by rfl) (K0_mono _) ?_; (try simp only [Act.put, zA, zB, zC])) | ((refine run_want rfl rfl (by rfl) ⟨?_, fun W hW => ?_, ?_⟩; rotate_left; (· (have d0 := hW.kc x1; have d1 := hW.kc y0; have d2 := hW.kc f5; go_simp; (try with_reducible rfl)))); (try simp only [Act.put, zA, zB, zC])))
 clear y0 x0 x1 x2 x3 x4 f0 f1 f2 f3 f4 f5 f6 f7 f8 f9
 repeat (first | (refine run_off rfl rfl (by rfl) ?_; (try simp only [Act.put, zA, zB, zC])) | (refine run_chain_off rfl rfl (by rfl) (K0_mono _) ?_; (try simp only [Act.put, zA, zB, zC])) | ((refine run_want rfl rfl (by rfl) ⟨?_, fun W hW => ?_, ?_⟩; rotate_left; (· (obtain ⟨hc'', hf''⟩ := hW.cells; go_simp; (try with_reducible rfl)))); (try simp only [Act.put, zA, zB, zC])))
 refine run_end (L := [_]) rfl (fun W6 hW6 => ?_)
 have HT6 := Lib.hid (HT.out.trans hW6)
 clear hW6 HT
 have HT := HT6
 clear HT6
 by_cases q2 : md = b.agency
 rotate_left
 ·have hd : (md == b.agency) = false := by rw [HDX.out]; simpa using q2
  have HF := Lib.hid (show takeE h b ⟨mf, md, mn, i, l⟩ = 2 by simp only [takeE, Q1.out]; simp [q2])
  clear q2
  go_wp2_with fail
  refine (ask_no _ _).mono ?_
  rintro e wn ⟨rfl, hSn⟩
  have HTi := Lib.hid (HT.out.trans hSn)
  clear hSn HT
  have HT := HTi
  clear HTi
  exact ⟨rfl, .no (takeD_no HF.out (by simp)) (HS.out.trans HT.out)⟩
 have hd : (md == b.agency) = true := by rw [HDX.out]; simpa using q2
 have Q2 := Lib.hid q2
 clear q2
 go_wp2_with fail
 refine (ask_yes _ _).mono ?_
 rintro e wn ⟨rfl, hSn⟩
 have HTi := Lib.hid (HT.out.trans hSn)
 clear hSn HT
 have HT := HTi
 clear HTi
 clear hd
 go_upto_region 3 with (fail)
 refine wp_region_seq (kdOf [6, 7] []) [0, 1, 3, 7, 15, 0, 32, 127, 255, 511] [0, 1, 2, 3, 4, 5, 6, 7, 8] [9] (by kernel_rfl) (by kernel_rfl) (fun i T z hi hk => by simp [kdOf] at hk <;> (try (split at hk <;> cases hk))) ?_
 intro Wx hWx
 have HTx := Lib.hid (HT.out.trans hWx)
 clear hWx HT
 have HT := HTx
 clear HTx
 (try clear y0 x0 x1 x2 x3 x4)
 have y0 := (HB0.out.step HT.out).cell 0
 obtain ⟨x0, x1, x2, x3, x4⟩ := cells5 (HB1.out.step HT.out)
 simp only [List.getElem?_cons_zero] at y0
 (try clear f0 f1 f2 f3 f4 f5 f6 f7 f8 f9)
 obtain ⟨⟨f0, f1, f2, f3, f4⟩, f5, f6, f7, f8, f9, _⟩ := cells11 (HD.out.step HT.out).bx
 repeat (first | (refine run_off rfl rfl (by rfl) ?_; (try simp only [Act.put, zA, zB, zC])) | (refine run_chain_off rfl rfl (by rfl) (K0_mono _) ?_; (try simp only [Act.put, zA, zB, zC])) | ((refine run_want rfl rfl (by rfl) ⟨?_, fun W hW => ?_, ?_⟩; rotate_left; (· (have d0 := hW.kc y0; have d1 := hW.kc f9; have d2 := hW.kc x0; have d3 := hW.kc x1; have d4 := hW.kc x2; have d5 := hW.kc x3; have d6 := hW.kc x4; go_simp; (try with_reducible rfl)))); (try simp only [Act.put, zA, zB, zC])))
 refine run_chain rfl rfl (by rfl) (fun Wi hWi K' hK => ?_)
 have HTi := Lib.hid (HT.out.trans hWi)
 have HZW := Lib.hid HTi.out.size
 clear hWi HT
 go_simp
 refine (key_any (fun j => base ≤ j) ⟨mf, md, mn, i, l⟩ _ Wi (AV.keep (.of_step HTi.out) HAV.out)).mono ?_
 rintro e wn ⟨rfl, hSn⟩
 have HT := Lib.hid (HTi.out.trans (StepX.of hSn))
 clear HTi
 refine hK _ _ (StepX.of hSn) ?_
 clear hSn
 (try simp only [Act.put, zA, zB, zC])
 clear y0 x0 x1 x2 x3 x4 f0 f1 f2 f3 f4 f5 f6 f7 f8 f9
 repeat (first | (refine run_off rfl rfl (by rfl) ?_; (try simp only [Act.put, zA, zB, zC])) | (refine run_chain_off rfl rfl (by rfl) (K0_mono _) ?_; (try simp only [Act.put, zA, zB, zC])) | ((refine run_want rfl rfl (by rfl) ⟨?_, fun W hW => ?_, ?_⟩; rotate_left; (· (obtain ⟨hc'', hf''⟩ := hW.cells; go_simp; (try with_reducible rfl)))); (try simp only [Act.put, zA, zB, zC])))
 refine run_chain rfl rfl (by rfl) (fun Wi hWi K' hK => ?_)
 have HTi := Lib.hid (HT.out.trans hWi)
 have HZW := Lib.hid HTi.out.size
 clear hWi HT
 go_simp
 refine (contains_key (fun _ => False) b.took mf mn _ Wi (OwnL.sl (S := fun _ => False) ((HD.out.step HTi.out).took) (fun _ _ _ h => h))).mono ?_
 rintro e wn ⟨rfl, hSn⟩
 have HT := Lib.hid (HTi.out.trans (StepX.of hSn))
 clear HTi
 refine hK _ _ (StepX.of hSn) ?_
 clear hSn
 (try simp only [Act.put, zA, zB, zC])
 repeat (first | (refine run_off rfl rfl (by rfl) ?_; (try simp only [Act.put, zA, zB, zC])) | (refine run_chain_off rfl rfl (by rfl) (K0_mono _) ?_; (try simp only [Act.put, zA, zB, zC])) | ((refine run_want rfl rfl (by rfl) ⟨?_, fun W hW => ?_, ?_⟩; rotate_left; (· (obtain ⟨hc'', hf''⟩ := hW.cells; go_simp; (try with_reducible rfl)))); (try simp only [Act.put, zA, zB, zC])))
 refine run_end (L := [_]) rfl (fun W6 hW6 => ?_)
 have HT6 := Lib.hid (HT.out.trans hW6)
 clear hW6 HT
 have HT := HT6
 clear HT6
 cases q3 : hasK b.took ⟨mf, mn⟩ with
 | true =>
  have HF := Lib.hid (show takeE h b ⟨mf, md, mn, i, l⟩ = 6 from takeE_6 Q1.out Q2.out q3)
  clear q3
  go_wp2_with fail
  refine (ask_no _ _).mono ?_
  rintro e wn ⟨rfl, hSn⟩
  have HTi := Lib.hid (HT.out.trans hSn)
  clear hSn HT
  have HT := HTi
  clear HTi
  exact ⟨rfl, .no (takeD_no HF.out (by simp)) (HS.out.trans HT.out)⟩
 | false =>
 have Q3 := Lib.hid q3
 clear q3
 go_wp2_with fail
 refine (ask_yes _ _).mono ?_
 rintro e wn ⟨rfl, hSn⟩
 have HTi := Lib.hid (HT.out.trans hSn)
 clear hSn HT
 have HT := HTi
 clear HTi
 obtain ⟨z, hz⟩ : ∃ z : Nat, sizeL h.sectors = z := ⟨(sizeL h.sectors).toNat, by have := size_pos HO.out.1; omega⟩
 have hz0 : 0 < z := by have := size_pos HO.out.1; omega
 have his : i < b.seats.length := by have := HO.out.2.2.1; omega
 have hrl : ∀ b', OkDesk h b' → ∀ s (hs : s < b'.seats.length), b'.seats[s].length = z := fun b' hb s hs => by have := hb.2.2.2.1 s hs; omega
 have HRL := Lib.hid hrl
 have HZ := Lib.hid hz
 obtain ⟨⟨gs, cs, rfl⟩, hforms⟩ := HD0.out.forms HO.out hz hz0
 obtain ⟨hxi, gi, ci, hxv⟩ := hforms i hi
 have HXV := Lib.hid hxv
 have hx2 : (0 : Int) ≤ (i : Int) ∧ (i : Int) < (h.dates.length : Int) := by omega
 clear hrl hz hforms hxv
 have hall := Lib.hid (all_int (fun j => base ≤ j) l (.slice pu l.length cu) wn 123 #[.pointer (some ⟨w.heap.size, 0, none⟩), .pointer (some ⟨w.heap.size + 1, 0, none⟩)]
  (Go.Proofs.enters_of Tryz.func123 (by kernel_rfl) rfl) (fun j => decide (seatAt b i j = -1)) (fun _ W => Step wn W) (fun _ => False) (fun _ h => h.elim)
  (fun _ W hW => HU.out.1.keep (.of_step ((HS.out.trans HT.out).trans hW))) (fun _ _ _ h1 h2 => h1.trans h2) (Step.refl _) (fun q hq W uu hW _ hu => by
   subst hu
   obtain ⟨j, hj, hjz⟩ := seats_nat Q4.out hq
   rw [hj]
   have hD := (HD.out.step HT.out).step hW
   refine (take1_any hD i j his (by have := HRL.out _ HO.out i his; have := HZ.out; omega) w.heap.size (w.heap.size + 1) ((HB0.out.step (HT.out.trans hW)).cell 0) ((HB1.out.step (HT.out.trans hW)).cell 3)).mono ?_
   rintro e w' ⟨rfl, hS⟩
   exact ⟨rfl, hW.trans hS, hS⟩))
 (try clear y0 x0 x1 x2 x3 x4)
 have y0 := (HB0.out.step HT.out).cell 0
 obtain ⟨x0, x1, x2, x3, x4⟩ := cells5 (HB1.out.step HT.out)
 simp only [List.getElem?_cons_zero] at y0
 go_wp2_with fail
 clear y0 x0 x1 x2 x3 x4
 refine hall.out.mono ?_
 rintro e wm ⟨rfl, km, _, _, hSm⟩
 have HTm := Lib.hid (HT.out.trans hSm)
 clear hall hSm HT
 have HT := HTm
 clear HTm
 cases q5 : (l.all fun j => decide (seatAt b i j = -1)) with
 | false =>
  have HF := Lib.hid (show takeE h b ⟨mf, md, mn, i, l⟩ = 8 by rw [takeE_at Q1.out Q2.out Q3.out, if_pos q5])
  clear q5
  go_wp2_with fail
  refine (ask_no _ _).mono ?_
  rintro e wn ⟨rfl, hSn⟩
  have HTi := Lib.hid (HT.out.trans hSn)
  clear hSn HT
  have HT := HTi
  clear HTi
  exact ⟨rfl, .no (takeD_no HF.out (by simp)) (HS.out.trans HT.out)⟩
 | true =>
 have Q5 := Lib.hid q5
 clear q5
 go_wp2_with fail
 refine (ask_yes _ _).mono ?_
 rintro e wn ⟨rfl, hSn⟩
 have HTi := Lib.hid (HT.out.trans hSn)
 clear hSn HT
 have HT := HTi
 clear HTi
 (try clear y0 x0 x1 x2 x3 x4)
 have y0 := (HB0.out.step HT.out).cell 0
 obtain ⟨x0, x1, x2, x3, x4⟩ := cells5 (HB1.out.step HT.out)
 simp only [List.getElem?_cons_zero] at y0
 obtain ⟨_, f5, f6, f7, f8, f9, _⟩ := cells11 (HD.out.step HT.out).bx
 by_cases q6 : b.took.length < 1000
 rotate_left
 ·have HF := Lib.hid (show takeE h b ⟨mf, md, mn, i, l⟩ = 3 by rw [takeE_at Q1.out Q2.out Q3.out, if_neg (by rw [Q5.out]; simp), if_pos (by omega)])
  have hd : decide ((b.took.length : Int) < 1000) = false := by simp; omega
  clear q6
  go_wp2_with fail
  refine (ask_no _ _).mono ?_
  rintro e wn ⟨rfl, hSn⟩
  have HTi := Lib.hid (HT.out.trans hSn)
  clear hSn HT
  have HT := HTi
  clear HTi
  exact ⟨rfl, .no (takeD_no HF.out (by simp)) (HS.out.trans HT.out)⟩
 have HF := Lib.hid (show takeE h b ⟨mf, md, mn, i, l⟩ = 0 by rw [takeE_at Q1.out Q2.out Q3.out, if_neg (by rw [Q5.out]; simp), if_neg (by omega)])
 have hd : decide ((b.took.length : Int) < 1000) = true := by simp; omega
 have Q6 := Lib.hid q6
 clear q6
 go_wp2_with fail
 refine (ask_yes _ _).mono ?_
 rintro e wn ⟨rfl, hSn⟩
 have HTi := Lib.hid (HT.out.trans hSn)
 clear hSn HT
 have HT := HTi
 clear HTi
 clear hd y0 f5 f6 f7 f8 f9 x0 x1 x2 x3 x4
 (try clear y0 x0 x1 x2 x3 x4)
 have y0 := (HB0.out.step HT.out).cell 0
 obtain ⟨x0, x1, x2, x3, x4⟩ := cells5 (HB1.out.step HT.out)
 simp only [List.getElem?_cons_zero] at y0
 go_wp2_with fail
 clear y0 x0 x1 x2 x3 x4
 obtain ⟨_, _, _, _, hgiw⟩ := HD0.out.seat_c his hxi HXV.out (j := 0) (by rw [HRL.out _ HO.out]; exact hz0)
 have hstart : TakeRel base w g h (takeTo b i (l.take 0)) [.int .i64 mf, .int .i64 md, .int .i64 mn, .int .i64 i, .slice pu l.length cu] (.slice p0 h.sectors.length k0) (.slice p1 h.prices.length k1) (.slice p2 h.dates.length k2) (.slice p3 h.frm.length k3) (.slice p4 h.holds.length k4) (.slice (some ⟨gs, 0, none⟩) h.dates.length cs) vo (.slice pt b.took.length ct) xs wn :=
  ⟨HD.out.step HT.out, HB0.out.step HT.out, HB1.out.step HT.out, .of (HS.out.trans HT.out)⟩
 go_loopw [48] (fun idx wr => ∃ k : Nat, k ≤ l.length ∧ idx = .int .i64 k ∧ TakeRel base w g h (takeTo b i (l.take k)) [.int .i64 mf, .int .i64 md, .int .i64 mn, .int .i64 i, .slice pu l.length cu] (.slice p0 h.sectors.length k0) (.slice p1 h.prices.length k1) (.slice p2 h.dates.length k2) (.slice p3 h.frm.length k3) (.slice p4 h.holds.length k4) (.slice (some ⟨gs, 0, none⟩) h.dates.length cs) vo (.slice pt b.took.length ct) xs wr) (fun idx _ => l.length - (intOf idx).toNat)
 case atStart => exact ⟨0, Nat.zero_le _, rfl, hstart⟩
 case round =>
  clear hstart
  obtain ⟨k, hk, rfl, hDk, hb0, hb1, hX⟩ := hrel
  have hOk := (like_take b i (l.take k)).ok HO.out (by have := HO.out.2.2.2.2.2.2.1; omega)
  have HDK := Lib.hid hDk
  have HB := Lib.hid (And.intro hb0 hb1)
  have HX := Lib.hid hX
  have HOK := Lib.hid hOk
  clear hDk hb0 hb1 hX hOk
  by_cases hlt : k < l.length
  ·obtain ⟨j, hj, hjz⟩ := seats_nat Q4.out hlt
   obtain rfl := HU.out.2.1 (by omega)
   have hl0 := HX.out.keeps.cell (a := ⟨bu, ou + k, none⟩) (HU.out.2.2.2 (by omega)).2 (HU.out.2.2.1 k hlt)
   rw [hj] at hl0
   have HJ := Lib.hid hj
   have hisk : i < (takeTo b i (l.take k)).seats.length := by have := HOK.out.2.2.1; omega
   have hjk : j < (takeTo b i (l.take k)).seats[i].length := by rw [HRL.out _ HOK.out]; have := HZ.out; omega
   have hjz2 : j < z := by have := HZ.out; omega
   obtain ⟨m0, m1, z1, _, _⟩ := HDK.out.seat_c hisk hxi HXV.out hjk
   obtain ⟨_, _, f6, _⟩ := cells11 HDK.out.bx
   have y0 := HB.out.1.cell 0
   have x3 := HB.out.2.cell 3
   simp only [zD, zE] at y0 x3
   have HM := Lib.hid (And.intro m0 (And.intro z1 (And.intro f6 (And.intro y0 x3))))
   have hx3 : (0 : Int) ≤ (k : Int) ∧ (k : Int) < (l.length : Int) := by omega
   have hx4 : (0 : Int) ≤ (j : Int) ∧ (j : Int) < (z : Int) := by omega
   have hgir : gi < wr.heap.size := by have := HX.out.size; omega
   clear hj m0 m1 z1 f6 y0 x3
   go_upto_region 9 with (fail)
   refine wp_region_seq (kdOf [] []) [0, 1, 3, 7, 15, 0, 32, 127, 255, 0, 1023, 2047] [0, 1, 2, 3, 4, 5, 6, 7, 8, 9, 10] [11] (by kernel_rfl) (by kernel_rfl) (fun i T z hi hk => by simp [kdOf] at hk <;> (try (split at hk <;> cases hk))) ?_
   intro Wx hWx
   have HT := Lib.hid hWx
   clear hWx
   have m0 := HT.out.kc HM.out.1
   have f6 := HT.out.kc HM.out.2.2.1
   have y0 := HT.out.kc HM.out.2.2.2.1
   have x3 := HT.out.kc HM.out.2.2.2.2
   repeat (first | (refine run_off rfl rfl (by rfl) ?_; (try simp only [Act.put, zA, zB, zC])) | (refine run_chain_off rfl rfl (by rfl) (K0_mono _) ?_; (try simp only [Act.put, zA, zB, zC])) | ((refine run_want rfl rfl (by rfl) ⟨?_, fun W hW => ?_, ?_⟩; rotate_left; (· (have d0 := hW.kc y0; have d1 := hW.kc f6; have d2 := hW.kc x3; have d3 := hW.kc m0; go_simp; (try with_reducible rfl)))); (try simp only [Act.put, zA, zB, zC])))
   refine run_end (L := [_]) rfl (fun W6 hW6 => ?_)
   have HT6 := Lib.hid (HT.out.trans hW6)
   clear hW6 HT
   have HT := HT6
   clear HT6
   have hD6 := HDK.out.step HT.out
   have z1 := (HT.out.cells.2 gi j hgir).trans HM.out.2.1
   obtain ⟨_, m1, _, _, _⟩ := hD6.seat_c hisk hxi HXV.out hjk
   have hset := hD6.setSeat (j := j) hisk hxi (by rw [HRL.out _ HOK.out]; exact HXV.out) 0
   have hb0 := (HB.out.1.step HT.out).setOther (b := gi) (o := j) (v := .int .i64 0) (by omega)
   have hb1 := (HB.out.2.step HT.out).setOther (b := gi) (o := j) (v := .int .i64 0) (by omega)
   have hX7 := (HX.out.trans (.of HT.out)).setCell ⟨gi, j, none⟩ (.int .i64 0) hset.2
   have H7 := Lib.hid (And.intro hset.1 (And.intro hb0 (And.intro hb1 hX7)))
   have HN := Lib.hid (show takeTo b i (l.take (k + 1)) = putSeat (takeTo b i (l.take k)) i j 0 by rw [List.take_succ_eq_append_getElem hlt, takeTo_snoc, HJ.out, Int.toNat_natCast])
   clear m0 f6 y0 x3 hl0 hD6 hset hb0 hb1 hX7
   go_wp2
   go_roundw
   case rel => exact ⟨k + 1, by omega, by go_num, by rw [HN.out]; exact H7.out⟩
   case measure => simp [intOf]; omega
  ·have htk : takeTo b i (l.take k) = takeTo b i l := by rw [List.take_of_length_le (by omega)]
   rw [htk] at HDK HOK
   have HFIN := Lib.hid (show takeD h b ⟨mf, md, mn, i, l⟩ = .ok { takeTo b i l with took := b.took ++ [⟨mf, mn⟩] } by rw [takeD_yes HF.out]; simp [takeP, keyOf])
   clear htk HF
   have hq6 := Q6.out
   go_upto_region 11 with (fail)
   have HT := Lib.hid (Step.refl wr)
   obtain ⟨hny0, hny1, hnyg⟩ : (¬ (Value.slice pt b.took.length ct).ownBlock = some w.heap.size) ∧ (¬ (Value.slice pt b.took.length ct).ownBlock = some (w.heap.size + 1)) ∧ ¬ (Value.slice pt b.took.length ct).ownBlock = some g := by
    obtain ⟨ts, ht, _⟩ := HDK.out.took
    exact ⟨apart_bx HB.out.1 ht (by decide), apart_bx HB.out.2 ht (by decide), apart_bx HDK.out.bx ht (by decide)⟩
   refine Late.wp_region_late (fun j => (Value.slice pt b.took.length ct).ownBlock = some j) (fun c d v a w h => by cases d <;> exact h) (kdOf [7, 8] []) [0, 0, 2, 6, 14, 30, 0, 64, 192, 510, 1023, 2047, 4095, 8191] [0, 1, 2, 3, 4, 5, 6, 7, 8] 9 [10, 11, 12, 13] (by kernel_rfl) (by kernel_rfl) (fun i T z hi hk => by simp [kdOf] at hk <;> (try (split at hk <;> cases hk))) ?_
   intro Wx hWx
   have HT := Lib.hid hWx
   clear hWx
   have y0 := (HB.out.1.step HT.out).cell 0
   obtain ⟨x0, x1, x2, x3, x4⟩ := cells5 (HB.out.2.step HT.out)
   obtain ⟨_, _, _, _, _, f9, _⟩ := cells11 (HDK.out.step HT.out).bx
   simp only [List.getElem?_cons_zero] at y0
   repeat (first | (refine Late.run_off rfl rfl (by rfl) ?_; (try simp only [Act.put, zA, zB, zC])) | ((refine Late.run_want rfl rfl (by rfl) ⟨?_, fun W hW => ?_, ?_⟩; rotate_left; (· (have d0 := hW.keeps.cell hny0 y0; have d1 := hW.keeps.cell hnyg f9; have d2 := hW.keeps.cell hny1 x0; have d3 := hW.keeps.cell hny1 x1; have d4 := hW.keeps.cell hny1 x2; have d5 := hW.keeps.cell hny1 x3; have d6 := hW.keeps.cell hny1 x4; go_simp; (try with_reducible rfl)))); (try simp only [Act.put, zA, zB, zC])))
   refine Late.run_chain rfl rfl (by rfl) (fun Wi hWi K' hK => ?_)
   have HTi := Lib.hid (HT.out.trans hWi)
   clear hWi HT
   go_simp
   refine (key_any (fun j => base ≤ j) ⟨mf, md, mn, i, l⟩ _ Wi (AV.keep (HX.out.keeps.trans (.of_step HTi.out)) HU0.out)).mono ?_
   rintro e wn ⟨rfl, hSn⟩
   have HT := Lib.hid (HTi.out.trans (StepX.of hSn))
   clear HTi
   clear y0 x0 x1 x2 x3 x4 f9
   refine hK _ _ (StepX.of hSn) ?_
   clear hSn
   (try simp only [Act.put, zA, zB, zC])
   refine Late.run_chain rfl rfl (by rfl) (fun Wj hWj K'' hK'' => ?_)
   go_simp
   refine hK'' _ _ (.of (Step.alloc _ _)) ?_
   (try simp only [Act.put, zA, zB, zC])
   refine Late.run_end rfl rfl (L := [_, _, _, _]) rfl (fun W6 hW6 K6 hK6 => ?_)
   have hu := (SLe.one (S := avoid (fun _ => False) (.slice pt b.took.length ct)) (w := Wj) (cs := [.int .i64 mf, .int .i64 mn]) (x := (⟨mf, mn⟩ : Key)) 172 rfl).step hW6
   have HT6 := Lib.hid (HT.out.trans ((hWj.trans (Step.alloc _ _)).trans hW6))
   have hD6 := HDK.out.step HT6.out
   have hown : OwnL (fun _ => False) base 172 W6 (.slice pt b.took.length ct) b.took := by have := hD6.took; rw [takeTo_took] at this; exact this
   have hn1 : b.took.length + [(⟨mf, mn⟩ : Key)].length = b.took.length + 1 := rfl
   have hn2 : b.took.length + 1 ≤ maxLen := by simp only [maxLen]; omega
   have hn3 : base ≤ W6.heap.size := by have := hD6.gb; have := hD6.lt; omega
   have HD6 := Lib.hid hD6
   clear hWj hW6 HT hD6
   refine wp_append_L (α := Key) (S := fun _ => False) (base := base) (v := .slice pt b.took.length ct) (l := b.took) (m := [⟨mf, mn⟩]) eiKeys _ _ rfl rfl rfl hown hu (b.took.length + 1) hn1 (b.took ++ [⟨mf, mn⟩]) rfl hn2 (by omega) hn3 ?_
   intro p2 c2 w2 hown4 hg4
   have hD9 := HD6.out.setTook hg4 hown4
   have hX9 := ((HX.out.trans (.of HT6.out)).trans (StepX.grown hg4 (X := fun j => base ≤ j) fun j hj _ => (hown.lt j hj).1)).setCell ⟨g, 9, none⟩ (.slice p2 (b.took.length + 1) c2) HD6.out.gb
   obtain ⟨_, _, _, _, _, f9, _⟩ := cells11 (HD6.out.bx_took hg4)
   have z9 := (HD6.out.bx_took hg4).frozen 9
   have HN := Lib.hid (And.intro hD9 hX9)
   refine hK6 _ _ (StepX.grown hg4 fun j hj _ => hj) ?_
   clear hown hu hown4 hg4 hn1 hn2 hn3 hD9 hX9 hny0 hny1 hnyg
   (try simp only [Act.put, zA, zB, zC])
   go_wp2
   go_end0
   exact .yes HFIN.out HN.out.2 ⟨_, _, _, _, _, _, _, _, _, HN.out.1⟩
end
end Go.Proofs.YtgpiieogiafdoaaGreat
namespace Go.Proofs.YtgpiieogiafdoaaGreat
set_option linter.unusedSimpArgs false
set_option linter.unusedVariables false
open Go.RowKit Go.BT
section
variable {base : Nat} {w w' : World} {g : Nat} {b : Book} {vs vo vt : Value} {xs : List Value}
end
end Go.Proofs.YtgpiieogiafdoaaGreat
namespace Go.Proofs.YtgpiieogiafdoaaGreat
set_option linter.unusedSimpArgs false
set_option linter.unusedVariables false
open Go.RowKit Go.BT
def RGiveEnds (r : Except Int (Book × BT.Message)) (e : Ending) (w w' : World) : Prop := ∃ v' m', e = .returned (.tuple #[v', m', .int .i64 (actR (bookOf r)).2]) ∧ AV (Old w) w' v' (actR (bookOf r)).1 ∧ AV (Old w) w' m' (restOf noMsg r) ∧ Step w w'
theorem noMsg_rep (S : Nat → Prop) (w : World) : Rep.rep S w [.int .i64 0, .int .i64 0, .int .i64 0, .int .i64 0, .slice none 0 0] noMsg := ⟨_, rfl, SL.nil _ _⟩
theorem RGiveEnds.no {r : Except Int (Book × BT.Message)} {c : Int} {w w' : World} {v : Value} (hr : r = .error c) (hv : v = .tuple #[.agg #[.int .i64 0, .slice none 0 0, .slice none 0 0, .int .i64 0, .slice none 0 0, .int .i64 0], .agg #[.int .i64 0, .int .i64 0, .int .i64 0, .int .i64 0, .slice none 0 0], .int .i64 c]) (hS : Step w w') : RGiveEnds r (.returned v) w w' := by
 unfold RGiveEnds
 rw [hr, hv]
 exact ⟨_, _, rfl, ⟨_, rfl, noBook_rep _ _⟩, ⟨_, rfl, noMsg_rep _ _⟩, hS⟩
end Go.Proofs.YtgpiieogiafdoaaGreat
namespace Go.BT
structure Wd where
 books : List Book
 msgs : List BT.Message
structure ActT where
 kind : Int
 agency : Int
 shw : Int
 seat : Int
 buyer : Int
 day : Int
 dst : Int
 msg : Int
 seats : List Int
end Go.BT
namespace Go.Proofs.YtgpiieogiafdoaaGreat
set_option linter.unusedSimpArgs false
set_option linter.unusedVariables false
open Go.RowKit Go.BT
def withNone (r : Except Int Book) : Except Int (Book × List BT.Message) := match r with
 | .ok b => .ok (b, [])
 | .error c => .error c
def withOne (r : Except Int (Book × BT.Message)) : Except Int (Book × List BT.Message) := match r with
 | .ok (b, m) => .ok (b, [m])
 | .error c => .error c
def deskD (h : House) (w : Wd) (b : Book) (x : ActT) : Except Int (Book × List BT.Message) :=
 if x.kind = 1 then withNone (sellD h b x.shw x.seat x.buyer x.day) else
 if x.kind = 2 then withNone (refundD h b x.shw x.seat) else
 if x.kind = 3 then withOne (giveD h b x.dst x.shw x.seats) else
 if x.kind = 4 then withNone (takeD h b (w.msgs.getD x.msg.toNat noMsg)) else
 withNone (bookOf (loseD h b x.shw x.day))
def actE (w : Wd) (x : ActT) : Int := if x.kind < 1 ∨ 5 < x.kind then 1 else if withinB x.agency 0 (w.books.length - 1) = false then 2 else if x.kind = 4 ∧ withinB x.msg 0 (w.msgs.length - 1) = false then 2 else 0
def putBook (w : Wd) (i : Nat) (r : Except Int (Book × List BT.Message)) : Wd × Int := match r with
 | .ok (b, ms) => (⟨w.books.set i b, w.msgs ++ ms⟩, 0)
 | .error c => (w, c)
def actD (h : House) (w : Wd) (x : ActT) : Wd × Int :=
 if actE w x = 0 then putBook w x.agency.toNat (gate h (w.books.getD x.agency.toNat noBook) (deskD h w (w.books.getD x.agency.toNat noBook) x)) else (w, actE w x)
def startD (h : House) : Wd := ⟨(List.range (agN h)).map fun (a : Nat) => openP h (a : Int), []⟩
def noAct : ActT := ⟨0, 0, 0, 0, 0, 0, 0, 0, []⟩
def worldAt (h : House) (l : List ActT) : Nat → Wd
 | 0 => startD h
 | k + 1 => (actD h (worldAt h l k) (l.getD k noAct)).1
def errAt (h : House) (l : List ActT) (k : Nat) : Int := (actD h (worldAt h l k) (l.getD k noAct)).2
def errsTo (h : House) (l : List ActT) (k : Nat) : List Int := (List.range k).map (errAt h l)
theorem errsTo_succ (h : House) (l : List ActT) (k : Nat) : errsTo h l (k + 1) = errsTo h l k ++ [errAt h l k] := by simp [errsTo, List.range_succ]
theorem errsTo_len (h : House) (l : List ActT) (k : Nat) : (errsTo h l k).length = k := by simp [errsTo]
/-! Books that stay valid. -/
def rowsB (h : House) (b : Book) : Bool := b.seats.all (rowB (sizeL h.sectors))
theorem book_iff {h : House} {b : Book} : bookB h b = true ↔ bookA h b = true ∧ rowsB h b = true ∧ b.cash = cashL h b.seats ∧ tookB h b = true := by
 unfold bookB rowsB
 simp [and_assoc]
theorem book_of {h : House} {b b' : Book} (hb : bookB h b = true) (e1 : b'.agency = b.agency) (e2 : b'.off.length = b.off.length) (e3 : b'.seats.length = b.seats.length) (e4 : withinB b'.sent 0 1000 = true) (e5 : b'.took = b.took) (hr : rowsB h b' = true) (hc : b'.cash = cashL h b'.seats) : bookB h b' = true := by
 rw [book_iff] at hb ⊢
 obtain ⟨a, r, c, t⟩ := hb
 refine ⟨?_, hr, hc, ?_⟩
 ·unfold bookA at a ⊢
  simp only [Bool.and_eq_true] at a ⊢
  rw [e1, e2, e3, e4, e5]
  exact ⟨⟨⟨⟨a.1.1.1.1, a.1.1.1.2⟩, a.1.1.2⟩, rfl⟩, a.2⟩
 ·unfold tookB ikeyB at t ⊢
  rw [e5, e1]
  exact t
theorem book_sent {h : House} {b : Book} (hb : bookB h b = true) : withinB b.sent 0 1000 = true := by
 rw [book_iff] at hb
 have a := hb.1
 unfold bookA at a
 simp only [Bool.and_eq_true] at a
 exact a.1.2
theorem rows_put {h : House} {b : Book} (hr : rowsB h b = true) (i j : Nat) {x : Int} (hx : withinB x (-1) 1000000 = true) : rowsB h (putSeat b i j x) = true := by
 unfold rowsB putSeat at *
 rw [List.all_eq_true] at hr ⊢
 intro r hm
 rcases Nat.lt_or_ge i b.seats.length with hi | hi
 ·rcases List.mem_or_eq_of_mem_set hm with h1 | h1
  ·exact hr r h1
  ·subst h1
   have hg : b.seats.getD i [] = b.seats[i] := by simp [List.getD_eq_getElem?_getD, hi]
   rw [hg]
   have h0 := hr _ (List.getElem_mem hi)
   unfold rowB at h0 ⊢
   simp only [Bool.and_eq_true, List.length_set] at h0 ⊢
   refine ⟨h0.1, ?_⟩
   rw [List.all_eq_true] at h0 ⊢
   intro y hy
   rcases List.mem_or_eq_of_mem_set hy with h2 | h2
   ·exact h0.2 y h2
   ·subst h2; exact hx
 ·rw [List.set_eq_of_length_le hi] at hm
  exact hr r hm
theorem seat_in {h : House} {b : Book} (hr : rowsB h b = true) {i j : Int} (h0 : seatAt b i j ≠ 0) : withinB (seatAt b i j) (-1) 1000000 = true := by
 unfold seatAt at *
 unfold rowsB at hr
 rw [List.all_eq_true] at hr
 rcases Nat.lt_or_ge i.toNat b.seats.length with hi | hi
 ·have hg : b.seats.getD i.toNat [] = b.seats[i.toNat] := by simp [List.getD_eq_getElem?_getD, hi]
  rw [hg] at h0 ⊢
  have h1 := hr _ (List.getElem_mem hi)
  unfold rowB at h1
  simp only [Bool.and_eq_true] at h1
  rcases Nat.lt_or_ge j.toNat b.seats[i.toNat].length with hj | hj
  ·have hg2 : b.seats[i.toNat].getD j.toNat 0 = b.seats[i.toNat][j.toNat] := by simp [List.getD_eq_getElem?_getD, hj]
   rw [hg2]
   exact List.all_eq_true.1 h1.2 _ (List.getElem_mem hj)
  ·exact absurd (by simp [List.getD_eq_getElem?_getD, List.getElem?_eq_none hj]) h0
 ·exact absurd (by simp [List.getD_eq_getElem?_getD, List.getElem?_eq_none hi]) h0
theorem nat_of {n hi : Int} (h : withinB n 0 hi = true) : ∃ k : Nat, n = k ∧ (k : Int) ≤ hi := by
 simp [withinB] at h
 exact ⟨n.toNat, by omega, by omega⟩
theorem sellE_ok {h : House} {b : Book} {s n y d : Int} (he : sellE h b s n y d = 0) : withinB s 0 (h.dates.length - 1) = true ∧ withinB n 0 (sizeL h.sectors - 1) = true ∧ withinB y 1 1000000 = true ∧ offAt b s = false ∧ fromAt h s b.agency ≤ d ∧ d ≤ dateAt h s ∧ seatAt b s n ≠ -1 ∧ ¬ 0 < seatAt b s n := by
 unfold sellE at he
 repeat' split at he
 all_goals first | omega | skip
 rename_i h1 h2 h3 h4 h5 h6 h7 h8
 exact ⟨by simpa using h1, by simpa using h2, by simpa using h3, by simpa using h4, by omega, by omega, h7, h8⟩
theorem refundE_ok {h : House} {b : Book} {s n : Int} (he : refundE h b s n = 0) : withinB s 0 (h.dates.length - 1) = true ∧ withinB n 0 (sizeL h.sectors - 1) = true ∧ 0 < seatAt b s n := by
 unfold refundE at he
 repeat' split at he
 all_goals first | omega | skip
 rename_i h1 h2 h3
 exact ⟨by simpa using h1, by simpa using h2, by omega⟩
theorem giveE_ok {h : House} {b : Book} {t s : Int} {l : List Int} (he : giveE h b t s l = 0) : withinB t 0 (agN h - 1) = true ∧ t ≠ b.agency ∧ withinB s 0 (h.dates.length - 1) = true ∧ seatsB h l = true ∧ offAt b s = false ∧ (∀ j ∈ l, seatAt b s j ≠ -1) ∧ (∀ j ∈ l, ¬ 0 < seatAt b s j) ∧ b.sent < 1000 := by
 unfold giveE at he
 repeat' split at he
 all_goals first | omega | skip
 rename_i h1 h2 h3 h4 h5 h6 h7 h8
 refine ⟨by simpa using h1, h2, by simpa using h3, by simpa using h4, by simpa using h5, ?_, ?_, by omega⟩
 ·simpa using h6
 ·simpa using h7
theorem takeE_ok {h : House} {b : Book} {m : BT.Message} (he : takeE h b m = 0) : messV h m = true ∧ m.dst = b.agency ∧ hasK b.took (keyOf m) = false ∧ (∀ j ∈ m.seats, seatAt b m.shw j = -1) ∧ b.took.length < 1000 := by
 unfold takeE at he
 repeat' split at he
 all_goals first | omega | skip
 rename_i h1 h2 h3 h4 h5
 refine ⟨by simpa using h1, by simpa using h2, by simpa using h3, by simpa using h4, by omega⟩
theorem row_at {h : House} {b : Book} (hv : valid h = true) (hb : bookB h b = true) {i j : Nat} (hi : (i : Int) ≤ h.dates.length - 1) (hj : (j : Int) ≤ sizeL h.sectors - 1) : ∃ hi : i < b.seats.length, j < b.seats[i].length := by
 have hO := (okDesk_book hv hb).1
 have h1 := hO.2.2.1
 refine ⟨by omega, ?_⟩
 have := hO.2.2.2.1 i (by omega)
 omega
theorem sell_valid {h : House} {b b' : Book} {s n y d : Int} (hv : valid h = true) (hb : bookB h b = true) (hr : sellD h b s n y d = .ok b') : bookB h b' = true ∧ b'.agency = b.agency := by
 unfold sellD at hr
 split at hr
 rotate_left
 ·cases hr
 rename_i he
 injection hr with hr
 obtain ⟨h1, h2, h3, _, _, _, _, h8⟩ := sellE_ok he
 obtain ⟨i, rfl, hi⟩ := nat_of h1
 obtain ⟨j, rfl, hj⟩ := nat_of h2
 obtain ⟨hi', hj'⟩ := row_at hv hb hi hj
 simp [withinB] at h3
 obtain ⟨hO, hc, _, _⟩ := okDesk_book hv hb
 have hq := sellP_cash hO hc hi' hj' (y := y) (by omega) h8
 have hp := book_iff.1 hb
 rw [hq] at hr
 subst hr
 exact ⟨book_of hb rfl rfl (by simp [withCash, putSeat]) (show withinB b.sent 0 1000 = true from book_sent hb) rfl (rows_put hp.2.1 i j (by simp [withinB]; omega)) rfl, rfl⟩
theorem refund_valid {h : House} {b b' : Book} {s n : Int} (hv : valid h = true) (hb : bookB h b = true) (hr : refundD h b s n = .ok b') : bookB h b' = true ∧ b'.agency = b.agency := by
 unfold refundD at hr
 split at hr
 rotate_left
 ·cases hr
 rename_i he
 injection hr with hr
 obtain ⟨h1, h2, h8⟩ := refundE_ok he
 obtain ⟨i, rfl, hi⟩ := nat_of h1
 obtain ⟨j, rfl, hj⟩ := nat_of h2
 obtain ⟨hi', hj'⟩ := row_at hv hb hi hj
 obtain ⟨hO, hc, _, _⟩ := okDesk_book hv hb
 have hq := refundP_cash hO hc hi' hj' h8
 have hp := book_iff.1 hb
 rw [hq] at hr
 subst hr
 exact ⟨book_of hb rfl rfl (by simp [withCash, putSeat]) (show withinB b.sent 0 1000 = true from book_sent hb) rfl (rows_put hp.2.1 i j (by simp [withinB])) rfl, rfl⟩
def putAll (b : Book) (i : Nat) (x : Int) (l : List Int) : Book := l.foldl (fun b j => putSeat b i j.toNat x) b
theorem giveTo_all (b : Book) (i : Nat) (l : List Int) : giveTo b i l = putAll b i (-1) l := rfl
theorem takeTo_all (b : Book) (i : Nat) (l : List Int) : takeTo b i l = putAll b i 0 l := rfl
theorem putAll_keep (i : Nat) (x : Int) : ∀ (l : List Int) (b : Book), (putAll b i x l).agency = b.agency ∧ (putAll b i x l).off = b.off ∧ (putAll b i x l).seats.length = b.seats.length ∧ (putAll b i x l).sent = b.sent ∧ (putAll b i x l).took = b.took ∧ (putAll b i x l).cash = b.cash
 | [], b => ⟨rfl, rfl, rfl, rfl, rfl, rfl⟩
 | j :: l, b => by
  have := putAll_keep i x l (putSeat b i j.toNat x)
  simp only [putAll, List.foldl_cons] at this ⊢
  simpa [putSeat] using this
theorem putAll_rows {h : House} (i : Nat) {x : Int} (hx : withinB x (-1) 1000000 = true) : ∀ (l : List Int) (b : Book), rowsB h b = true → rowsB h (putAll b i x l) = true
 | [], b, hr => hr
 | j :: l, b, hr => by
  simp only [putAll, List.foldl_cons]
  exact putAll_rows i hx l _ (rows_put hr i j.toNat hx)
theorem seatAt_putI {b : Book} {i j : Nat} {x : Int} (hi : i < b.seats.length) (hj : j < b.seats[i].length) : seatAt (putSeat b i j x) i j = x := by
 have hg : b.seats.getD i [] = b.seats[i] := by simp [List.getD_eq_getElem?_getD, hi]
 unfold seatAt putSeat
 rw [hg]
 simp [List.getD_eq_getElem?_getD, hi, hj]
theorem putSeat_len {b : Book} {i j : Nat} {x : Int} {k : Nat} (hk : k < b.seats.length) (hk' : k < (putSeat b i j x).seats.length) : (putSeat b i j x).seats[k].length = b.seats[k].length := by
 have hl := (like_put b i j x).row k hk hk'
 exact hl
theorem putAll_cash {h : House} (i : Nat) {x : Int} (hx : ¬ 0 < x) : ∀ (l : List Int) (b : Book), (hi : i < b.seats.length) → (∀ j ∈ l, 0 ≤ j ∧ j < b.seats[i].length ∧ ¬ 0 < seatAt b i j) → cashL h (putAll b i x l).seats = cashL h b.seats
 | [], b, _, _ => rfl
 | j :: l, b, hi, hl => by
  simp only [putAll, List.foldl_cons]
  obtain ⟨h0, h1, h2⟩ := hl j List.mem_cons_self
  obtain ⟨k, rfl⟩ : ∃ k : Nat, j = k := ⟨j.toNat, by omega⟩
  have hk : k < b.seats[i].length := by omega
  have hi' : i < (putSeat b i k x).seats.length := by simpa [putSeat] using hi
  have := putAll_cash (h := h) i hx l (putSeat b i k x) hi' (fun j hj => by
   obtain ⟨g0, g1, g2⟩ := hl j (List.mem_cons_of_mem _ hj)
   obtain ⟨n, rfl⟩ : ∃ n : Nat, j = n := ⟨j.toNat, by omega⟩
   refine ⟨g0, by rw [putSeat_len hi hi']; exact g1, ?_⟩
   by_cases hn : k = n
   ·subst hn; rw [seatAt_putI hi hk]; exact hx
   ·rw [seatAt_put_ne (.inr hn)]; exact g2)
  simp only [Int.toNat_natCast] at this ⊢
  refine this.trans ?_
  rw [cash_put hi hk]
  unfold wt
  rw [if_neg hx, if_neg h2]
  omega
theorem seats_ok {h : House} {l : List Int} (hs : seatsB h l = true) : ∀ j ∈ l, 0 ≤ j ∧ j < sizeL h.sectors := by
 intro j hj
 obtain ⟨k, hk, rfl⟩ := List.getElem_of_mem hj
 obtain ⟨n, e, hn⟩ := seats_nat hs hk
 omega
theorem rows_len {h : House} {b : Book} (hv : valid h = true) (hb : bookB h b = true) {i : Nat} (hi : i < b.seats.length) : (b.seats[i].length : Int) = sizeL h.sectors := (okDesk_book hv hb).1.2.2.2.1 i hi
theorem give_valid {h : House} {b b' : Book} {t s : Int} {l : List Int} {m : BT.Message} (hv : valid h = true) (hb : bookB h b = true) (hr : giveD h b t s l = .ok (b', m)) : bookB h b' = true ∧ b'.agency = b.agency ∧ messV h m = true ∧ m.seats = l := by
 unfold giveD at hr
 split at hr
 rotate_left
 ·cases hr
 rename_i he
 injection hr with hr
 obtain ⟨h1, h2, h3, h4, h5, h6, h7, h8⟩ := giveE_ok he
 obtain ⟨i, rfl, hi⟩ := nat_of h3
 have hO := (okDesk_book hv hb).1
 have hil : i < b.seats.length := by have := hO.2.2.1; omega
 have hlen := rows_len hv hb hil
 have hp := book_iff.1 hb
 have hk := putAll_keep i (-1) l b
 have hs0 := book_sent hb
 simp [withinB] at hs0
 unfold giveP at hr
 rw [giveTo_all] at hr
 injection hr with hr1 hr2
 subst hr1 hr2
 refine ⟨book_of hb hk.1 (by simp [hk.2.1]) (by simpa using hk.2.2.1) (by simp [withinB]; omega) hk.2.2.2.2.1 (by simpa [rowsB] using putAll_rows i (x := -1) (by decide) l b hp.2.1) ?_, hk.1, ?_, rfl⟩
 ·have hc := putAll_cash (h := h) i (x := -1) (by decide) l b hil (fun j hj => ⟨(seats_ok h4 j hj).1, by have := (seats_ok h4 j hj).2; omega, h7 j hj⟩)
  simp only [Int.toNat_natCast]
  rw [hk.2.2.2.2.2, hc]
  exact hp.2.2.1
 ·have ha : withinB b.agency 0 (agN h - 1) = true := by
   have a := hp.1
   unfold bookA at a
   simp only [Bool.and_eq_true] at a
   exact a.1.1.1.1
  unfold messV
  simp only [Bool.and_eq_true, decide_eq_true_eq]
  exact ⟨⟨⟨⟨⟨ha, h1⟩, fun e => h2 e.symm⟩, by simp [withinB]; omega⟩, h3⟩, h4⟩
theorem take_valid {h : House} {b b' : Book} {m : BT.Message} (hv : valid h = true) (hb : bookB h b = true) (hr : takeD h b m = .ok b') : bookB h b' = true ∧ b'.agency = b.agency := by
 unfold takeD at hr
 split at hr
 rotate_left
 ·cases hr
 rename_i he
 injection hr with hr
 obtain ⟨h1, h2, h3, h4, h5⟩ := takeE_ok he
 have hm := h1
 unfold messV at hm
 simp only [Bool.and_eq_true, decide_eq_true_eq] at hm
 obtain ⟨⟨⟨⟨⟨m1, m2⟩, m3⟩, m4⟩, m5⟩, m6⟩ := hm
 obtain ⟨i, hs, hi⟩ := nat_of m5
 have hO := (okDesk_book hv hb).1
 have hil : i < b.seats.length := by have := hO.2.2.1; omega
 have hlen := rows_len hv hb hil
 have hp := book_iff.1 hb
 have hk := putAll_keep i 0 m.seats b
 unfold takeP at hr
 rw [takeTo_all, hs, Int.toNat_natCast] at hr
 subst hr
 refine ⟨?_, hk.1⟩
 rw [book_iff]
 refine ⟨?_, by simpa [rowsB] using putAll_rows i (x := 0) (by decide) m.seats b hp.2.1, ?_, ?_⟩
 ·have a := hp.1
  unfold bookA at a ⊢
  simp only [Bool.and_eq_true, decide_eq_true_eq] at a ⊢
  refine ⟨⟨⟨⟨by simpa [hk.1] using a.1.1.1.1, by simpa [hk.2.1] using a.1.1.1.2⟩, by simpa [hk.2.2.1] using a.1.1.2⟩, by simpa [hk.2.2.2.1] using a.1.2⟩, by simp; omega⟩
 ·have hc := putAll_cash (h := h) i (x := 0) (by decide) m.seats b hil (fun j hj => ⟨(seats_ok m6 j hj).1, by have := (seats_ok m6 j hj).2; omega, by have := h4 j hj; rw [hs] at this; omega⟩)
  show (putAll b i 0 m.seats).cash = cashL h (putAll b i 0 m.seats).seats
  rw [hk.2.2.2.2.2, hc]
  exact hp.2.2.1
 ·have t := hp.2.2.2
  unfold tookB at t ⊢
  rw [List.all_eq_true] at t ⊢
  intro x hx
  obtain ⟨n, hn, rfl⟩ := List.getElem_of_mem hx
  have hn' : n < (b.took ++ [keyOf m]).length := by simpa [idxKeys_len] using hn
  rw [ikey_at hn hn']
  show (!decide ((b.took ++ [keyOf m])[n] ∈ (b.took ++ [keyOf m]).take n) && keyB h (putAll b i 0 m.seats).agency (b.took ++ [keyOf m])[n]) = true
  rw [hk.1]
  rcases Nat.lt_or_ge n b.took.length with hnl | hnl
  ·rw [List.getElem_append_left hnl, List.take_append_of_le_length (by omega)]
   have := t _ (List.getElem_mem (show n < (idxKeys b.took).length by simpa [idxKeys_len] using hnl))
   rw [ikey_at _ hnl] at this
   exact this
  ·have hnn : n = b.took.length := by simp at hn'; omega
   subst hnn
   simp only [List.getElem_append_right (Nat.le_refl _), Nat.sub_self, List.getElem_cons_zero, List.take_left']
   have hnot : keyOf m ∉ b.took := by simpa [hasK] using h3
   simp only [hnot, decide_false, Bool.not_false, Bool.true_and]
   unfold keyB keyOf
   simp only [Bool.and_eq_true, decide_eq_true_eq]
   exact ⟨⟨m1, fun e => m3 (by rw [e, h2])⟩, m4⟩
theorem lose_keep {h : House} (i : Nat) (d : Int) (b : Book) (hr : rowsB h b = true) : ∀ k, (loseTo h b i d k).1.off = b.off ∧ (loseTo h b i d k).1.took = b.took ∧ rowsB h (loseTo h b i d k).1 = true
 | 0 => ⟨rfl, rfl, hr⟩
 | k + 1 => by
  obtain ⟨a1, a2, a3⟩ := lose_keep i d b hr k
  unfold loseTo
  split
  rotate_left
  ·exact ⟨a1, a2, a3⟩
  ·rename_i hy
   have hw := seat_in a3 (i := i) (j := k) (by omega)
   unfold loseOne
   split
   ·exact ⟨a1, a2, rows_put (rows_put a3 _ _ hw) _ _ (by decide)⟩
   ·exact ⟨a1, a2, rows_put a3 _ _ (by decide)⟩
theorem off_valid {h : House} {b : Book} (hb : bookB h b = true) (i : Nat) : bookB h (offBook b i) = true :=
 book_of hb rfl (by simp [offBook]) rfl (show withinB b.sent 0 1000 = true from book_sent hb) rfl (book_iff.1 hb).2.1 (book_iff.1 hb).2.2.1
theorem lose_valid {h : House} {b b' : Book} {s d : Int} (hv : valid h = true) (hb : bookB h b = true) (hr : bookOf (loseD h b s d) = .ok b') : bookB h b' = true ∧ b'.agency = b.agency := by
 unfold loseD at hr
 split at hr
 rotate_left
 ·cases hr
 rename_i he
 have hs : withinB s 0 (h.dates.length - 1) = true := by
  unfold loseE at he
  split at he
  ·omega
  ·rename_i q; simpa using q
 obtain ⟨i, rfl, hi⟩ := nat_of hs
 have hO := (okDesk_book hv hb).1
 have hil : i < b.seats.length := by have := hO.2.2.1; omega
 have hlen := rows_len hv hb hil
 have hbo := off_valid hb i
 have hp := book_iff.1 hbo
 obtain ⟨hO2, hc2, hc0, _⟩ := okDesk_book hv hbo
 have hk : (((offBook b i).seats.getD i []).length : Int) ≤ sizeL h.sectors := by
  simp [offBook, List.getD_eq_getElem?_getD, hil, hlen]
 have hL := like_to hO2 hc0 i d _ hk
 have hK := lose_keep i d _ hp.2.1 ((offBook b i).seats.getD i []).length
 have hC := cash_to hO2 hc0 hc2 (i := i) (by omega) d _ hk
 rw [Int.toNat_natCast] at hr
 have hr2 : (loseTo h (offBook b i) i d ((offBook b i).seats.getD i []).length).1 = b' := by
  have : bookOf (.ok (loseTo h (offBook b i) i d (b.seats.getD i []).length)) = Except.ok (loseTo h (offBook b i) i d (b.seats.getD i []).length).1 := rfl
  rw [this] at hr
  injection hr
 subst hr2
 exact ⟨book_of hbo hL.agency hL.off hL.seats (by rw [hL.sent]; exact book_sent hbo) hK.2.1 hK.2.2 hC, hL.agency⟩
/-! A world that is valid. -/
structure WdOk (h : House) (w : Wd) : Prop where
 len : w.books.length = agN h
 book : ∀ i (hi : i < w.books.length), bookB h w.books[i] = true ∧ w.books[i].agency = i
 msg : ∀ m ∈ w.msgs, messV h m = true
theorem gate_ok {α : Type} {h : House} {b : Book} {r : Except Int α} (hv : valid h = true) (hb : bookB h b = true) : gate h b r = r := by
 unfold gate checkR
 simp [hv, hb]
theorem desk_valid {h : House} {w : Wd} {b b' : Book} {x : ActT} {ms : List BT.Message} (hv : valid h = true) (hb : bookB h b = true) (hr : deskD h w b x = .ok (b', ms)) : bookB h b' = true ∧ b'.agency = b.agency ∧ (∀ m ∈ ms, messV h m = true ∧ m.seats = x.seats) ∧ ms.length ≤ 1 := by
 have hw : ∀ r : Except Int Book, withNone r = .ok (b', ms) → r = .ok b' ∧ ms = [] := by
  intro r hr
  cases r with
  | ok c => injection hr with hr; injection hr with h1 h2; subst h1 h2; exact ⟨rfl, rfl⟩
  | error c => cases hr
 unfold deskD at hr
 split at hr
 ·obtain ⟨h1, rfl⟩ := hw _ hr
  have := sell_valid hv hb h1
  exact ⟨this.1, this.2, by simp, by simp⟩
 split at hr
 ·obtain ⟨h1, rfl⟩ := hw _ hr
  have := refund_valid hv hb h1
  exact ⟨this.1, this.2, by simp, by simp⟩
 split at hr
 ·generalize hg : giveD h b x.dst x.shw x.seats = r at hr
  cases r with
  | error c => cases hr
  | ok p =>
   obtain ⟨c, m⟩ := p
   injection hr with hr
   injection hr with h1 h2
   subst h1 h2
   have := give_valid hv hb hg
   exact ⟨this.1, this.2.1, by simpa using ⟨this.2.2.1, this.2.2.2⟩, by simp⟩
 split at hr
 ·obtain ⟨h1, rfl⟩ := hw _ hr
  have := take_valid hv hb h1
  exact ⟨this.1, this.2, by simp, by simp⟩
 ·obtain ⟨h1, rfl⟩ := hw _ hr
  have := lose_valid hv hb h1
  exact ⟨this.1, this.2, by simp, by simp⟩
theorem actE_ok {w : Wd} {x : ActT} (he : actE w x = 0) : 1 ≤ x.kind ∧ x.kind ≤ 5 ∧ withinB x.agency 0 (w.books.length - 1) = true ∧ (x.kind = 4 → withinB x.msg 0 (w.msgs.length - 1) = true) := by
 unfold actE at he
 repeat' split at he
 all_goals first | omega | skip
 rename_i h1 h2 h3
 refine ⟨by omega, by omega, by simpa using h2, fun h4 => ?_⟩
 cases q : withinB x.msg 0 (w.msgs.length - 1) with
 | true => rfl
 | false => exact absurd ⟨h4, q⟩ h3
theorem act_ok {h : House} {w : Wd} (hv : valid h = true) (hw : WdOk h w) (x : ActT) : WdOk h (actD h w x).1 ∧ (∃ ms, (actD h w x).1.msgs = w.msgs ++ ms ∧ ms.length ≤ 1 ∧ ∀ m ∈ ms, m.seats = x.seats) := by
 unfold actD
 split
 rotate_left
 ·exact ⟨hw, [], by simp, by simp, by simp⟩
 rename_i he
 obtain ⟨_, _, h3, _⟩ := actE_ok he
 obtain ⟨i, hia, hi⟩ := nat_of h3
 rw [hia, Int.toNat_natCast]
 have hi' : i < w.books.length := by omega
 have hg : w.books.getD i noBook = w.books[i] := by simp [List.getD_eq_getElem?_getD, hi']
 rw [hg, gate_ok hv (hw.book i hi').1]
 generalize hr : deskD h w w.books[i] x = r
 cases r with
 | error c => exact ⟨hw, [], by simp [putBook], by simp, by simp⟩
 | ok p =>
  obtain ⟨b', ms⟩ := p
  obtain ⟨h1, h2, h4, h5⟩ := desk_valid hv (hw.book i hi').1 hr
  refine ⟨⟨by simpa [putBook] using hw.len, fun k hk => ?_, fun m hm => ?_⟩, ms, rfl, h5, fun m hm => (h4 m hm).2⟩
  ·simp only [putBook] at hk ⊢
   rw [List.getElem_set]
   split
   ·rename_i e; subst e; exact ⟨h1, h2.trans (hw.book i hi').2⟩
   ·exact hw.book k (by simpa using hk)
  ·simp only [putBook, List.mem_append] at hm
   rcases hm with hm | hm
   ·exact hw.msg m hm
   ·exact (h4 m hm).1
theorem cash_none {h : House} {rows : List (List Int)} (hr : ∀ r ∈ rows, ∀ y ∈ r, ¬ 0 < y) : cashL h rows = 0 := by
 have h1 : ∀ (r : List Int), (∀ y ∈ r, ¬ 0 < y) → ∀ k, rowCash h r k = 0 := by
  intro r hy k
  induction k with
  | zero => rfl
  | succ k ih =>
   rw [rowCash_succ, ih, if_neg]
   ·rfl
   ·rcases Nat.lt_or_ge k r.length with hk | hk
    ·have : r.getD k 0 = r[k] := by simp [List.getD_eq_getElem?_getD, hk]
     rw [this]; exact hy _ (List.getElem_mem hk)
    ·simp [List.getD_eq_getElem?_getD, List.getElem?_eq_none hk]
 have h2 : ∀ k, cashTo h rows k = 0 := by
  intro k
  induction k with
  | zero => rfl
  | succ k ih =>
   show cashTo h rows k + rowCash h (rows.getD k []) (rows.getD k []).length = 0
   rw [ih, h1]
   ·rfl
   ·rcases Nat.lt_or_ge k rows.length with hk | hk
    ·have : rows.getD k [] = rows[k] := by simp [List.getD_eq_getElem?_getD, hk]
     rw [this]; exact hr _ (List.getElem_mem hk)
    ·simp [List.getD_eq_getElem?_getD, List.getElem?_eq_none hk]
 exact h2 _
theorem open_valid {h : House} (hv : valid h = true) {a : Nat} (ha : a < agN h) : bookB h (openP h a) = true := by
 have hb := bounds_valid hv
 rw [book_iff]
 refine ⟨?_, ?_, ?_, rfl⟩
 ·unfold bookA openP
  simp [withinB]
  omega
 ·unfold rowsB openP
  rw [List.all_eq_true]
  intro r hr
  simp only [List.mem_map] at hr
  obtain ⟨q, hq, rfl⟩ := hr
  obtain ⟨k, hk, rfl⟩ := List.getElem_of_mem hq
  have h1 := hb.2.2.2.2.2.2.2.2.1 k hk
  unfold rowB
  simp only [Bool.and_eq_true, decide_eq_true_eq, List.length_map]
  refine ⟨h1, ?_⟩
  rw [List.all_eq_true]
  intro y hy
  simp only [List.mem_map] at hy
  obtain ⟨z, _, rfl⟩ := hy
  unfold heldV
  split <;> simp [withinB]
 ·symm
  refine cash_none fun r hr y hy => ?_
  simp only [openP, List.mem_map] at hr
  obtain ⟨q, _, rfl⟩ := hr
  simp only [List.mem_map] at hy
  obtain ⟨z, _, rfl⟩ := hy
  unfold heldV
  split <;> omega
theorem start_ok {h : House} (hv : valid h = true) : WdOk h (startD h) := by
 refine ⟨by simp [startD], fun i hi => ?_, fun m hm => by simp [startD] at hm⟩
 have hi' : i < agN h := by simpa [startD] using hi
 simp only [startD, List.getElem_map, List.getElem_range]
 exact ⟨open_valid hv hi', rfl⟩
theorem world_ok {h : House} (hv : valid h = true) (l : List ActT) : ∀ k, WdOk h (worldAt h l k)
 | 0 => start_ok hv
 | k + 1 => (act_ok hv (world_ok hv l k) _).1
end Go.Proofs.YtgpiieogiafdoaaGreat
namespace Go.BT
open Go.RowKit
instance : Rep ActT where
 k := 9
 rep S w cs x := ∃ c8, cs = [.int .u8 x.kind, .int .i64 x.agency, .int .i64 x.shw, .int .i64 x.seat, .int .i64 x.buyer, .int .i64 x.day, .int .i64 x.dst, .int .i64 x.msg, c8] ∧ SL S w c8 x.seats ∧ 0 ≤ x.kind ∧ x.kind ≤ 255
 len h := by obtain ⟨_, rfl, _⟩ := h; rfl
 keep hk h := by obtain ⟨c, e, h1, h2⟩ := h; exact ⟨c, e, h1.keep hk, h2⟩
 weak hk h := by obtain ⟨c, e, h1, h2⟩ := h; exact ⟨c, e, h1.weak hk, h2⟩
 one h := by
  obtain ⟨c, rfl, h1, _⟩ := h
  obtain ⟨_, _, rfl⟩ := h1.form
  simp [Value.oneCell']
 pos := by decide
instance : Rep Wd where
 k := 2
 rep S w cs x := ∃ c0 c1, cs = [c0, c1] ∧ SL S w c0 x.books ∧ SL S w c1 x.msgs
 len h := by obtain ⟨_, _, rfl, _⟩ := h; rfl
 keep hk h := by obtain ⟨c0, c1, e, h1, h2⟩ := h; exact ⟨c0, c1, e, h1.keep hk, h2.keep hk⟩
 weak hk h := by obtain ⟨c0, c1, e, h1, h2⟩ := h; exact ⟨c0, c1, e, h1.weak hk, h2.weak hk⟩
 one h := by
  obtain ⟨c0, c1, rfl, h1, h2⟩ := h
  obtain ⟨_, _, rfl⟩ := h1.form
  obtain ⟨_, _, rfl⟩ := h2.form
  simp [Value.oneCell']
 pos := by decide
theorem AV.wd {S : Nat → Prop} {w : World} {v : Value} {x : Wd} (hv : AV S w v x) : ∃ c0 c1, v = .agg #[c0, c1] ∧ SL S w c0 x.books ∧ SL S w c1 x.msgs := by
 obtain ⟨cs, rfl, c0, c1, rfl, r⟩ := hv; exact ⟨c0, c1, rfl, r⟩
theorem AV.act {S : Nat → Prop} {w : World} {v : Value} {x : ActT} (hv : AV S w v x) : ∃ c8, v = .agg #[.int .u8 x.kind, .int .i64 x.agency, .int .i64 x.shw, .int .i64 x.seat, .int .i64 x.buyer, .int .i64 x.day, .int .i64 x.dst, .int .i64 x.msg, c8] ∧ SL S w c8 x.seats ∧ 0 ≤ x.kind ∧ x.kind ≤ 255 := by
 obtain ⟨cs, rfl, c8, rfl, r⟩ := hv; exact ⟨c8, rfl, r⟩
theorem SL.acts {S : Nat → Prop} {w : World} {v : Value} {l : List ActT} (h : SL S w v l) :
  ∃ p c b o, v = .slice p l.length c ∧ l.length ≤ c ∧ l.length ≤ 9223372036854775807 ∧ (0 < l.length → p = some ⟨b, o, none⟩) ∧
   (∀ i (h : i < l.length), ∃ c8, (w.cell? ⟨b, o + i * 9, none⟩ = some (.int .u8 l[i].kind) ∧ w.cell? ⟨b, o + i * 9 + 1, none⟩ = some (.int .i64 l[i].agency) ∧ w.cell? ⟨b, o + i * 9 + 2, none⟩ = some (.int .i64 l[i].shw) ∧ w.cell? ⟨b, o + i * 9 + 3, none⟩ = some (.int .i64 l[i].seat) ∧ w.cell? ⟨b, o + i * 9 + 4, none⟩ = some (.int .i64 l[i].buyer) ∧ w.cell? ⟨b, o + i * 9 + 5, none⟩ = some (.int .i64 l[i].day) ∧ w.cell? ⟨b, o + i * 9 + 6, none⟩ = some (.int .i64 l[i].dst) ∧ w.cell? ⟨b, o + i * 9 + 7, none⟩ = some (.int .i64 l[i].msg) ∧ w.cell? ⟨b, o + i * 9 + 8, none⟩ = some c8) ∧ SL S w c8 l[i].seats ∧ 0 ≤ l[i].kind ∧ l[i].kind ≤ 255) ∧ (0 < l.length → b < w.heap.size ∧ ¬ S b) := by
 obtain ⟨p, c, b, o, hv, hc, hm, hp, ha⟩ := h
 refine ⟨p, c, b, o, hv, hc, hm, hp, fun i hi => ?_, fun h0 => ⟨(ha 0 h0).1, (ha 0 h0).2.1⟩⟩
 obtain ⟨_, _, cs, hr, hcs⟩ := ha i hi
 obtain ⟨c8, rfl, r⟩ := hr
 exact ⟨c8, ⟨hcs 0 _ rfl, hcs 1 _ rfl, hcs 2 _ rfl, hcs 3 _ rfl, hcs 4 _ rfl, hcs 5 _ rfl, hcs 6 _ rfl, hcs 7 _ rfl, hcs 8 _ rfl⟩, r⟩
theorem SL.books {S : Nat → Prop} {w : World} {v : Value} {l : List Book} (h : SL S w v l) :
  ∃ p c b o, v = .slice p l.length c ∧ l.length ≤ c ∧ l.length ≤ 9223372036854775807 ∧ (0 < l.length → p = some ⟨b, o, none⟩) ∧
   (∀ i (h : i < l.length), ∃ c1 c2 c4, (w.cell? ⟨b, o + i * 6, none⟩ = some (.int .i64 l[i].agency) ∧ w.cell? ⟨b, o + i * 6 + 1, none⟩ = some c1 ∧ w.cell? ⟨b, o + i * 6 + 2, none⟩ = some c2 ∧ w.cell? ⟨b, o + i * 6 + 3, none⟩ = some (.int .i64 l[i].sent) ∧ w.cell? ⟨b, o + i * 6 + 4, none⟩ = some c4 ∧ w.cell? ⟨b, o + i * 6 + 5, none⟩ = some (.int .i64 l[i].cash)) ∧ SL S w c1 l[i].seats ∧ SL S w c2 l[i].off ∧ SL S w c4 l[i].took) ∧ (0 < l.length → b < w.heap.size ∧ ¬ S b) := by
 obtain ⟨p, c, b, o, hv, hc, hm, hp, ha⟩ := h
 refine ⟨p, c, b, o, hv, hc, hm, hp, fun i hi => ?_, fun h0 => ⟨(ha 0 h0).1, (ha 0 h0).2.1⟩⟩
 obtain ⟨_, _, cs, hr, hcs⟩ := ha i hi
 obtain ⟨c1, c2, c4, rfl, r⟩ := hr
 exact ⟨c1, c2, c4, ⟨hcs 0 _ rfl, hcs 1 _ rfl, hcs 2 _ rfl, hcs 3 _ rfl, hcs 4 _ rfl, hcs 5 _ rfl⟩, r⟩
theorem SL.mess {S : Nat → Prop} {w : World} {v : Value} {l : List BT.Message} (h : SL S w v l) :
  ∃ p c b o, v = .slice p l.length c ∧ l.length ≤ c ∧ l.length ≤ 9223372036854775807 ∧ (0 < l.length → p = some ⟨b, o, none⟩) ∧
   (∀ i (h : i < l.length), ∃ c4, (w.cell? ⟨b, o + i * 5, none⟩ = some (.int .i64 l[i].frm) ∧ w.cell? ⟨b, o + i * 5 + 1, none⟩ = some (.int .i64 l[i].dst) ∧ w.cell? ⟨b, o + i * 5 + 2, none⟩ = some (.int .i64 l[i].number) ∧ w.cell? ⟨b, o + i * 5 + 3, none⟩ = some (.int .i64 l[i].shw) ∧ w.cell? ⟨b, o + i * 5 + 4, none⟩ = some c4) ∧ SL S w c4 l[i].seats) ∧ (0 < l.length → b < w.heap.size ∧ ¬ S b) := by
 obtain ⟨p, c, b, o, hv, hc, hm, hp, ha⟩ := h
 refine ⟨p, c, b, o, hv, hc, hm, hp, fun i hi => ?_, fun h0 => ⟨(ha 0 h0).1, (ha 0 h0).2.1⟩⟩
 obtain ⟨_, _, cs, hr, hcs⟩ := ha i hi
 obtain ⟨c4, rfl, r⟩ := hr
 exact ⟨c4, ⟨hcs 0 _ rfl, hcs 1 _ rfl, hcs 2 _ rfl, hcs 3 _ rfl, hcs 4 _ rfl⟩, r⟩
end Go.BT
namespace Go.Proofs.YtgpiieogiafdoaaGreat
set_option linter.unusedSimpArgs false
set_option linter.unusedVariables false
open Go.ChangeShapes Go.WideShapes Go.ChangeAt Go.RowKit Go.BT
end Go.Proofs.YtgpiieogiafdoaaGreat
namespace Go.BT
open Go.RowKit
theorem splice_get (cs ds : List Value) (p k q : Nat) (hp : p + k ≤ cs.length) (hd : ds.length = k) : (cs.take p ++ ds ++ cs.drop (p + k))[q]? = if q < p then cs[q]? else if q < p + k then ds[q - p]? else cs[q]? := by
 have h1 : (cs.take p).length = p := by simp; omega
 by_cases a : q < p
 ·rw [if_pos a, List.append_assoc, List.getElem?_append_left (by omega), List.getElem?_take_of_lt a]
 ·rw [if_neg a]
  by_cases b : q < p + k
  ·rw [if_pos b, List.getElem?_append_left (by simp; omega), List.getElem?_append_right (by omega), h1]
  ·rw [if_neg b, List.getElem?_append_right (by simp; omega), List.getElem?_drop]
   congr 1
   simp
   omega
theorem piece_get (L : List Value) (n k j q : Nat) (hj : j < n) : (((L.take (n * k)).drop (j * k)).take k)[q]? = if q < k then L[j * k + q]? else none := by
 have hm : j * k + k ≤ n * k := by
  have := Nat.mul_le_mul_right k (show j + 1 ≤ n by omega)
  rw [Nat.add_mul, Nat.one_mul] at this
  exact this
 by_cases a : q < k
 ·rw [if_pos a, List.getElem?_take_of_lt a, List.getElem?_drop, List.getElem?_take_of_lt (by omega)]
 ·rw [if_neg a, List.getElem?_take, if_neg a]
theorem OwnL.row_put {α : Type} [Rep α] {S : Nat → Prop} {base : Nat} {e : TypeId} {w : World} {v : Value} {l : List α} (h : OwnL S base e w v l) {i : Nat} (hi : i < l.length) :
  ∃ g cap cs, v = .slice (some ⟨g, 0, none⟩) l.length cap ∧ base ≤ g ∧ Bx w g cs e ∧ i * Rep.k α + Rep.k α ≤ cs.length ∧ Rep.rep (avoid S v) w ((cs.drop (i * Rep.k α)).take (Rep.k α)) l[i] ∧
   ∀ w' ds (y : α), Rep.rep (avoid S v) w ds y → Wrote g w w' → Bx w' g (cs.take (i * Rep.k α) ++ ds ++ cs.drop (i * Rep.k α + Rep.k α)) e → OwnL S base e w' v (l.set i y) := by
 obtain ⟨xs, ⟨hl, ho⟩, hr⟩ := h
 rcases ho with ⟨_, h0⟩ | ⟨g, cap, cur, rfl, hb, hg, hle, hcap, hsz, htk⟩
 ·omega
 have hm : i * Rep.k α + Rep.k α ≤ l.length * Rep.k α := by
  have := Nat.mul_le_mul_right (Rep.k α) (show i + 1 ≤ l.length by omega)
  rw [Nat.add_mul, Nat.one_mul] at this
  exact this
 have hm2 : l.length * Rep.k α ≤ cap * Rep.k α := Nat.mul_le_mul_right _ hle
 have hcl : cur.toList.length = cap * Rep.k α := by simpa using hsz
 have hpi : ((xs.drop (i * Rep.k α)).take (Rep.k α)) = ((cur.toList.drop (i * Rep.k α)).take (Rep.k α)) := by
  subst htk
  refine List.ext_getElem? fun q => ?_
  rw [piece_get _ _ _ _ _ hi]
  by_cases a : q < Rep.k α
  ·rw [if_pos a, List.getElem?_take_of_lt a, List.getElem?_drop]
  ·rw [if_neg a, List.getElem?_take, if_neg a]
 refine ⟨g, cap, cur.toList, rfl, hb, by unfold Bx; rw [hg], by omega, hpi ▸ hr i hi, fun w' ds y hy hw hbx => ?_⟩
 have hd : ds.length = Rep.k α := Rep.len hy
 have hk : Keeps (avoid S (.slice (some ⟨g, 0, none⟩) l.length cap)) w w' := hw.keeps.mono fun j _ hj => .inr (by rw [hj]; rfl)
 refine ⟨(cur.toList.take (i * Rep.k α) ++ ds ++ cur.toList.drop (i * Rep.k α + Rep.k α)).take (l.length * Rep.k α), ⟨?_, .inr ⟨g, cap, _, by simp, hb, hbx, by simpa using hle, hcap, ?_, by simp⟩⟩, fun j hj => ?_⟩
 ·simp; omega
 ·simp; omega
 ·have hj' : j < l.length := by simpa using hj
  have hlen : (l.set i y).length = l.length := by simp
  rw [List.getElem_set]
  by_cases e : i = j
  ·subst e
   rw [if_pos rfl]
   have : (((cur.toList.take (i * Rep.k α) ++ ds ++ cur.toList.drop (i * Rep.k α + Rep.k α)).take (l.length * Rep.k α)).drop (i * Rep.k α)).take (Rep.k α) = ds := by
    refine List.ext_getElem? fun q => ?_
    rw [piece_get _ _ _ _ _ hi]
    by_cases a : q < Rep.k α
    ·rw [if_pos a, splice_get _ _ _ _ _ (by omega) hd, if_neg (by omega), if_pos (by omega), Nat.add_sub_cancel_left]
    ·rw [if_neg a, List.getElem?_eq_none (by omega)]
   rw [this]
   exact Rep.keep hk (Rep.weak (fun _ _ h => h) hy)
  ·rw [if_neg e]
   have h0 := hr j hj'
   have : (((cur.toList.take (i * Rep.k α) ++ ds ++ cur.toList.drop (i * Rep.k α + Rep.k α)).take (l.length * Rep.k α)).drop (j * Rep.k α)).take (Rep.k α) = ((xs.drop (j * Rep.k α)).take (Rep.k α)) := by
    subst htk
    refine List.ext_getElem? fun q => ?_
    rw [piece_get _ _ _ _ _ hj', piece_get _ _ _ _ _ hj']
    by_cases a : q < Rep.k α
    ·rw [if_pos a, if_pos a, splice_get _ _ _ _ _ (by omega) hd]
     rcases Nat.lt_or_gt_of_ne e with h1 | h1
     ·have := Nat.mul_le_mul_right (Rep.k α) (show i + 1 ≤ j by omega)
      rw [Nat.add_mul, Nat.one_mul] at this
      rw [if_neg (by omega), if_neg (by omega)]
     ·have := Nat.mul_le_mul_right (Rep.k α) (show j + 1 ≤ i by omega)
      rw [Nat.add_mul, Nat.one_mul] at this
      rw [if_pos (by omega)]
    ·rw [if_neg a, if_neg a]
   rw [this]
   exact Rep.keep hk h0
section
variable {α : Type} [Rep α] {S : Nat → Prop} {base : Nat} {P : Program} {w : World} {v u : Value} {l m : List α} {t e : TypeId} {z : Value} {bytes : Nat}
theorem run_append_F (ei : EI P t e z (Rep.k α) bytes) (ty : TypeId) (hown : OwnL S base e w v l) (hu : SLe (avoid S v) w u m)
  (n : Nat) (hn : l.length + m.length = n) (lm : List α) (hlm : l ++ m = lm) (h63 : n ≤ maxLen) (hbytes : n * bytes ≤ 140737488355328) (hbase : base ≤ w.heap.size) :
  ∃ p c w', (Builtin.append_ #[t, t] ty #[v, u]).run P w = .ok (.slice p n c) w' ∧ OwnL S base e w' (.slice p n c) lm ∧ w.grownBy w' v.ownBlock ∧ ∀ k, (Value.slice p n c).ownBlock = some k → v.ownBlock = some k ∨ w.heap.size ≤ k := by
 subst hn hlm
 obtain ⟨ht, hzs, i, hi, hz, hsize, hby⟩ := ei
 obtain ⟨xs, ho, hr⟩ := hown
 obtain ⟨pu, cu, b, o, rfl, hcu, _, hp, hat⟩ := hu
 obtain ⟨news, hl, hnw, h1, hrs⟩ := cells_of_at m o hat
 by_cases hm : m = []
 ·subst hm
  have hform := OwnL.form (S := S) ⟨xs, ho, hr⟩
  obtain ⟨p, c, rfl, hle, _⟩ := hform
  have h0 : news = [] := List.eq_nil_of_length_eq_zero (by simpa using hl)
  subst h0
  cases pu with
  | none =>
   refine ⟨p, c, w, ?_, by rw [List.append_nil]; exact (⟨xs, ho, hr⟩ : OwnL S base e w _ l), World.grownBy.refl _ _, fun k hk => .inl (by cases p <;> simp_all [Value.ownBlock])⟩
   have hc : l.length ≤ c := by
    rcases ho.2 with ⟨h, h0⟩ | ⟨g, cap, cur, hv, _, _, hle, _⟩
    ·rw [h0]; exact Nat.zero_le _
    ·injection hv
   simp [Builtin.append_, run_underlying ht, sizeOf, typeInfo, hi, Builtin.lenOf, Builtin.firstCells, hc]
   cases p <;> simp [storeCells]
  | some a =>
   have hc : l.length ≤ c := by
    rcases ho.2 with ⟨h, h0⟩ | ⟨g, cap, cur, hv, _, _, hle, _⟩
    ·rw [h0]; exact Nat.zero_le _
    ·injection hv
   refine ⟨p, c, w, ?_, by rw [List.append_nil]; exact (⟨xs, ho, hr⟩ : OwnL S base e w _ l), World.grownBy.refl _ _, fun k hk => .inl (by cases p <;> simp_all [Value.ownBlock])⟩
   simp [Builtin.append_, run_underlying ht, sizeOf, typeInfo, hi, Builtin.lenOf, Builtin.firstCells, hc, loadCells, loadCellsFrom]
   cases p <;> simp [storeCells]
 ·have hpos : 0 < m.length := List.length_pos_iff.2 hm
  obtain rfl := hp hpos
  obtain ⟨g, cap, w', hrun, h2, h3, h4, _⟩ := run_append_lies (P := P) w t ty base e i z (Rep.k α) bytes ht hi hz hsize hby hzs Rep.pos v l.length xs ho ⟨b, o, none⟩ m.length cu news hl
   (fun j x hj => by rw [Addr.add_lit]; exact hnw j x hj) h1 hpos h63 hbytes hbase w.heap.size rfl
  have hloc : ∀ k, (Value.slice (some ⟨g, 0, none⟩) (l.length + m.length) cap).ownBlock = some k → v.ownBlock = some k ∨ w.heap.size ≤ k := fun k hk => by
   have hk' : g = k := by simpa [Value.ownBlock] using hk
   subst hk'
   rcases h4 with h4 | h4
   ·exact .inl h4
   ·exact .inr (Nat.le_of_eq h4.symm)
  refine ⟨_, _, w', hrun, ⟨xs ++ news, by simpa using h2, fun k hk => ?_⟩, h3, hloc⟩
  -- what the elements lead to: kept, and not in the new row
  have hkp : Keeps (avoid S v) w w' := Keeps.grown h3 fun j hj _ => .inr hj
  have fresh : ∀ {cs : List Value} {x : α}, Rep.rep (avoid S v) w cs x → Rep.rep (avoid S (.slice (some ⟨g, 0, none⟩) (l.length + m.length) cap)) w' cs x := fun {cs x} hx => by
   have hT : Rep.rep (fun j => avoid S v j ∨ g = j) w cs x := Rep.weak (fun j hj hs => by
    rcases hs with hs | rfl
    ·exact hs
    ·rcases h4 with h4 | h4
     ·exact .inr h4
     ·omega) hx
   exact Rep.weak (fun j _ hs => by
    rcases hs with hs | hs
    ·exact .inl (.inl hs)
    ·simp [Value.ownBlock] at hs; exact .inr hs) (Rep.keep (hkp.mono fun j _ hs => .inl hs) hT)
  have hxl : xs.length = l.length * Rep.k α := ho.1
  by_cases hkl : k < l.length
  ·have e1 : ((xs ++ news).drop (k * Rep.k α)).take (Rep.k α) = (xs.drop (k * Rep.k α)).take (Rep.k α) := by
    have : k * Rep.k α + Rep.k α ≤ xs.length := by
     rw [hxl, ← Nat.succ_mul]; exact Nat.mul_le_mul_right _ hkl
    rw [List.drop_append_of_le_length (by omega), List.take_append_of_le_length (by rw [List.length_drop]; omega)]
   rw [e1, List.getElem_append_left hkl]
   exact fresh (hr k hkl)
  ·have hk' : k - l.length < m.length := by simp at hk; omega
   have e1 : (xs ++ news).drop (k * Rep.k α) = news.drop ((k - l.length) * Rep.k α) := by
    rw [List.drop_append, List.drop_of_length_le (by rw [hxl]; exact Nat.mul_le_mul_right _ (by omega)), List.nil_append, hxl, ← Nat.sub_mul]
   rw [e1, List.getElem_append_right (by omega)]
   exact fresh (hrs _ hk')
theorem wp_append_F {o : Oper} {a : Act} {K : Act → World → Prop} {Q : Exit → Act → World → Prop} (ei : EI P t e z (Rep.k α) bytes) (s x : Operand)
  (ho : o.op = .call { callee := .builtin .append, args := #[s, x], argTypes := #[t, t] }) (hs : a.eval s = v) (hx : a.eval x = u) (hown : OwnL S base e w v l) (hu : SLe (avoid S v) w u m)
  (n : Nat) (hn : l.length + m.length = n) (lm : List α) (hlm : l ++ m = lm) (h63 : n ≤ maxLen) (hbytes : n * bytes ≤ 140737488355328) (hbase : base ≤ w.heap.size)
  (h : ∀ p c w', OwnL S base e w' (.slice p n c) lm → w.grownBy w' v.ownBlock → (∀ k, (Value.slice p n c).ownBlock = some k → v.ownBlock = some k ∨ w.heap.size ≤ k) → K (a.put o.dst (.slice p n c)) w') : o.wp P a w K Q := by
 obtain ⟨p, c, w', hr, h2, h3, h4⟩ := run_append_F ei o.type hown hu n hn lm hlm h63 hbytes hbase
 unfold Oper.wp execOp
 simp only [ho, resolve, invoke, builtin, Sem.run_bind, Sem.run_pure, Result.andThen_ok, List.map_toArray, List.map_cons, List.map_nil, hs, hx, hr]
 exact h p c w' h2 h3 h4
theorem wpl_append_F {ops : Array Oper} {rest : List Oper} {o : Oper} {a : Act} {Q : Exit → Act → World → Prop} (ei : EI P t e z (Rep.k α) bytes) (hgd : o.guard = none) (s x : Operand)
  (ho : o.op = .call { callee := .builtin .append, args := #[s, x], argTypes := #[t, t] }) (hs : a.eval s = v) (hx : a.eval x = u) (hown : OwnL S base e w v l) (hu : SLe (avoid S v) w u m)
  (n : Nat) (hn : l.length + m.length = n) (lm : List α) (hlm : l ++ m = lm) (h63 : n ≤ maxLen) (hbytes : n * bytes ≤ 140737488355328) (hbase : base ≤ w.heap.size)
  (h : ∀ p c w', OwnL S base e w' (.slice p n c) lm → w.grownBy w' v.ownBlock → (∀ k, (Value.slice p n c).ownBlock = some k → v.ownBlock = some k ∨ w.heap.size ≤ k) → wpList P ops Q rest (a.put o.dst (.slice p n c)) w') : wpList P ops Q (o :: rest) a w :=
 wpList_plain hgd fun _ hK => wp_append_F ei s x ho hs hx hown hu n hn lm hlm h63 hbytes hbase fun p c w' h2 h3 h4 => hK _ _ (h p c w' h2 h3 h4)
end
end Go.BT
namespace Go.Proofs.YtgpiieogiafdoaaGreat
set_option linter.unusedSimpArgs false
set_option linter.unusedVariables false
open Go.RowKit Go.BT
set_option maxHeartbeats 1000000 in
theorem take1c_any {base : Nat} {W : World} {g : Nat} {h : House} {b : Book} (hD : DeskE base W g h b) (hO : OkDesk h b) (mf md mn ms : Int) (l : List Int) (u : Value) (a1 : Nat) (h1 : Bx W a1 [.int .i64 mf, .int .i64 md, .int .i64 mn, .int .i64 ms, u] 86) (hu : SL (fun j => base ≤ j) W u l) :
  Calls Tryz.prog 71 #[.pointer (some ⟨g, 0, none⟩), .pointer (some ⟨a1, 0, none⟩)] W (fun e W' => DeskEnds base g h (takeD h b ⟨mf, md, mn, ms, l⟩) e W W') := by
 obtain ⟨c0, c1, c2, c3, c4, vs, vo, vt, xs, D⟩ := hD
 have hcall := Lib.hid (take_any D hO mf md mn ms l (.agg #[.int .i64 mf, .int .i64 md, .int .i64 mn, .int .i64 ms, u]) ⟨_, rfl, _, rfl, hu⟩)
 obtain ⟨p, c, rfl⟩ := hu.form
 obtain ⟨x0, x1, x2, x3, x4⟩ := cells5 h1
 clear D hO h1 hu
 go_enter Tryz.func71, Tryz.ntmps71
 go_wp2_with fail
 refine hcall.out.mono ?_
 clear hcall
 rintro e w' he
 cases hr : takeD h b ⟨mf, md, mn, ms, l⟩ with
 | ok b' =>
  rw [hr] at he
  obtain ⟨hX, rfl, hD⟩ := he
  have HH := Lib.hid (And.intro hX hD)
  clear hX hD x0 x1 x2 x3 x4
  go_wp2
  go_end0
  exact .yes hr HH.out.1 HH.out.2
 | error c =>
  rw [hr] at he
  obtain ⟨hX, rfl⟩ := he
  exact ⟨rfl, .noX hr hX⟩
set_option maxHeartbeats 1000000 in
theorem Take_any (S S2 : Nat → Prop) (h : House) (b : Book) (v u x : Value) (m : BT.Message) (w : World) (hv : AV S w v h) (hu : AV S w u b) (hx : AV S2 w x m) :
  Calls Tryz.prog 34 #[v, u, x] w fun e w' => ∃ v', e = .returned (.tuple #[v', .int .i64 (actR (doneR h b (takeD h b m))).2]) ∧ AV (Old w) w' v' (actR (doneR h b (takeD h b m))).1 ∧ Step w w' := by
 obtain ⟨cs, rfl, hr⟩ := hv
 have hr0 := hr
 obtain ⟨c0, c1, c2, c3, c4, rfl, h0, h1, h2, h3, h4⟩ := hr
 obtain ⟨cs, rfl, hq⟩ := hu
 have hq0 := hq
 obtain ⟨d1, d2, d4, rfl, s1, s2, s4⟩ := hq
 obtain ⟨mf, md, mn, ms, l⟩ := m
 obtain ⟨mc, rfl, hms⟩ := hx.message
 dsimp only at hms ⊢
 obtain ⟨px, cx, rfl⟩ := hms.form
 obtain ⟨W7, hW7⟩ : ∃ W7, W7 = (((w.alloc (.cells #[c0, c1, c2, c3, c4] 41)).alloc (.cells #[.int .i64 b.agency, d1, d2, .int .i64 b.sent, d4, .int .i64 b.cash] 77)).alloc (.cells #[.int .i64 mf, .int .i64 md, .int .i64 mn, .int .i64 ms, .slice px l.length cx] 86)).alloc (.cells #[.int .i64 0, .slice none 0 0, .slice none 0 0, .int .i64 0, .slice none 0 0, .int .i64 0] 77) := ⟨_, rfl⟩
 have hS : Step w W7 := by subst hW7; exact (by repeat (first | (with_reducible assumption) | (with_reducible exact Step.refl _) | (with_reducible apply Step.s_alloc) | (with_reducible apply Step.s_drew) | (with_reducible apply Step.s_drewN) | (with_reducible refine Step.trans ?_ (by with_reducible assumption))))
 have hb2 : Bx W7 (w.heap.size + 2) [.int .i64 mf, .int .i64 md, .int .i64 mn, .int .i64 ms, .slice px l.length cx] 86 := by subst hW7; exact (Bx.new' _ [_, _, _, _, _] _ _ (by simp)).alloc _
 have hb6 : Bx W7 (w.heap.size + 3) [.int .i64 0, .slice none 0 0, .slice none 0 0, .int .i64 0, .slice none 0 0, .int .i64 0] 77 := by subst hW7; exact Bx.new' _ _ _ _ (by simp)
 have hz7 : W7.heap.size = w.heap.size + 4 := by subst hW7; simp
 have hmf : ∀ (fn : Fn) (first cap : Array Value) (w : World), (Instr.makeFunc fn first cap).run Tryz.prog w = .ok (.func fn first cap) w := fun _ _ _ _ => rfl
 have hx8 : SL (fun j => w.heap.size ≤ j) W7 (.slice px l.length cx) l := (hms.weak fun j h1 h2 => by omega).keep (.of_step hS)
 have hcall := Lib.hid ((done_any S h b _ _ W7 71 #[.pointer (some ⟨w.heap.size + 2, 0, none⟩)] (Go.Proofs.enters_of Tryz.func71 (by kernel_rfl) rfl)
  (fun _ => False) (takeD h b ⟨mf, md, mn, ms, l⟩) (fun _ => True) ⟨_, rfl, Rep.keep (.of_step hS) hr0⟩ ⟨_, rfl, Rep.keep (.of_step hS) hq0⟩ (fun _ h => h.elim) (fun _ _ _ _ => trivial)
  (fun hck W base g hSW h1 h2 hD => (take1c_any hD (okDesk_of hck).1 mf md mn ms l _ _ (hb2.step hSW) ((hx8.keep (.of_step hSW)).weak fun j _ hj => by omega)).mono fun e w' he => he.do _)).mono fun e w' he => he.act (fun _ h => h))
 have HW := Lib.hid hW7
 have HS := Lib.hid hS
 have HB6 := Lib.hid hb6
 have HZ7 := Lib.hid hz7
 obtain ⟨p0, k0, rfl⟩ := h0.form
 obtain ⟨p1, k1, rfl⟩ := h1.form
 obtain ⟨p2, k2, rfl⟩ := h2.form
 obtain ⟨p3, k3, rfl⟩ := h3.form
 obtain ⟨p4, k4, rfl⟩ := h4.form
 obtain ⟨q1, m1, rfl⟩ := s1.form
 obtain ⟨q2, m2, rfl⟩ := s2.form
 obtain ⟨q4, m4, rfl⟩ := s4.form
 clear hW7 hS hb2 hb6 hz7 h0 h1 h2 h3 h4 s1 s2 s4 hr0 hq0 hms hx hx8
 go_enter Tryz.func34, Tryz.ntmps34
 go_wp2_with fail
 rw [← HW.out]
 clear HW
 refine hcall.out.mono ?_
 clear hcall
 rintro e w1 ⟨v', rfl, hv', hS1⟩
 obtain ⟨b1, b2, b4, rfl, t1, t2, t4⟩ := hv'.book
 obtain ⟨q1, m1, rfl⟩ := t1.form
 obtain ⟨q2, m2, rfl⟩ := t2.form
 obtain ⟨q4, m4, rfl⟩ := t4.form
 have HV := Lib.hid hv'
 have HS1 := Lib.hid hS1
 obtain ⟨f0, f1, f2, f3, f4, f5⟩ := cells6 (HB6.out.step HS1.out)
 have zf := (HB6.out.step HS1.out).frozen
 clear hv' hS1 t1 t2 t4
 go_wp2
 clear f0 f1 f2 f3 f4 f5 zf
 have hz7 := HZ7.out
 have b6 := set6 (HB6.out.step HS1.out) (.int .i64 (actR (doneR h b (takeD h b ⟨mf, md, mn, ms, l⟩))).1.agency) (.slice q1 (actR (doneR h b (takeD h b ⟨mf, md, mn, ms, l⟩))).1.seats.length m1) (.slice q2 (actR (doneR h b (takeD h b ⟨mf, md, mn, ms, l⟩))).1.off.length m2) (.int .i64 (actR (doneR h b (takeD h b ⟨mf, md, mn, ms, l⟩))).1.sent) (.slice q4 (actR (doneR h b (takeD h b ⟨mf, md, mn, ms, l⟩))).1.took.length m4) (.int .i64 (actR (doneR h b (takeD h b ⟨mf, md, mn, ms, l⟩))).1.cash)
 refine ret_struct2 (k := 6) rfl siBook rfl b6.1 rfl rfl ⟨_, rfl, (AV.keep (b6.2.keeps.mono fun j _ hj => ?_) HV.out).weak fun j _ hj => ?_, StepX.fresh (HS.out.trans HS1.out) b6.2 (fun j hj => by omega)⟩
 ·unfold Old; omega
 ·unfold Old at *; omega
structure Play (X : Nat → Prop) (n0 : Nat) (w : World) (gp : Nat) (h : House) (W : Wd) (c0 c1 c2 c3 c4 vb vm : Value) : Prop where
 bx : Bx w gp [c0, c1, c2, c3, c4, vb, vm] 111
 low : n0 ≤ gp
 house : Rep.rep (fun j => n0 ≤ j) w [c0, c1, c2, c3, c4] h
 books : OwnL (fun j => (X j ∨ j < n0) ∨ j = gp ∨ vm.ownBlock = some j) n0 77 w vb W.books
 msgs : OwnL (fun j => (X j ∨ j < n0) ∨ j = gp ∨ vb.ownBlock = some j) n0 86 w vm W.msgs
 xlow : ∀ j, X j → n0 ≤ j
 gx : ¬ X gp
 bxx : ∀ k, vb.ownBlock = some k → ¬ X k ∧ k ≠ gp
 mxx : ∀ k, vm.ownBlock = some k → ¬ X k ∧ k ≠ gp
section
variable {X Y : Nat → Prop} {n0 : Nat} {w w' : World} {gp : Nat} {h : House} {W : Wd} {c0 c1 c2 c3 c4 vb vm : Value}
theorem Play.keep (P : Play X n0 w gp h W c0 c1 c2 c3 c4 vb vm) (hk : Keeps X w w') : Play X n0 w' gp h W c0 c1 c2 c3 c4 vb vm :=
  { bx := P.bx.keep hk P.gx, low := P.low, house := Rep.keep (hk.mono fun j _ hj => P.xlow j hj) P.house,
    books := P.books.kept (hk.mono fun j _ hj => .inl (.inl hj)) fun g hg => hk.2 g (P.books.lt g hg).2 (P.bxx g hg).1,
    msgs := P.msgs.kept (hk.mono fun j _ hj => .inl (.inl hj)) fun g hg => hk.2 g (P.msgs.lt g hg).2 (P.mxx g hg).1,
    xlow := P.xlow, gx := P.gx, bxx := P.bxx, mxx := P.mxx }
theorem Play.step (P : Play X n0 w gp h W c0 c1 c2 c3 c4 vb vm) (hs : Step w w') : Play X n0 w' gp h W c0 c1 c2 c3 c4 vb vm := P.keep (.of_step hs)
theorem Play.more (P : Play X n0 w gp h W c0 c1 c2 c3 c4 vb vm) (hy : ∀ j, j < w.heap.size → Y j → X j) (hl : ∀ j, Y j → n0 ≤ j) : Play Y n0 w gp h W c0 c1 c2 c3 c4 vb vm :=
  { bx := P.bx, low := P.low, house := P.house,
    books := P.books.weak fun j hj hs => hs.elim (fun a => .inl (a.elim (fun a => .inl (hy j hj a)) .inr)) .inr,
    msgs := P.msgs.weak fun j hj hs => hs.elim (fun a => .inl (a.elim (fun a => .inl (hy j hj a)) .inr)) .inr,
    xlow := hl, gx := fun a => P.gx (hy _ P.bx.lt a), bxx := fun k hk => ⟨fun a => (P.bxx k hk).1 (hy _ (P.books.lt k hk).2 a), (P.bxx k hk).2⟩,
    mxx := fun k hk => ⟨fun a => (P.mxx k hk).1 (hy _ (P.msgs.lt k hk).2 a), (P.mxx k hk).2⟩ }
theorem Play.apart (P : Play X n0 w gp h W c0 c1 c2 c3 c4 vb vm) : ∀ k, vb.ownBlock = some k → vm.ownBlock ≠ some k := by
 obtain ⟨_, h1, _⟩ := P.books
 obtain ⟨_, h2, _⟩ := P.msgs
 exact apart_rows h1 h2 (by decide)
theorem DeskQ.of {base : Nat} {g : Nat} {b : Book} (hD : DeskE base w g h b) (hb : base ≤ w.heap.size) (hs : StepX (fun j => j < base) w w') : DeskQ base w' g h b := by
 obtain ⟨W0, hW0⟩ : ∃ W0 : World, W0 = { w' with heap := w.heap.extract 0 base ++ w'.heap.extract base w'.heap.size } := ⟨_, rfl⟩
 have hsz := hs.size
 have e1 : W0.heap.size = w'.heap.size := by subst hW0; simp; omega
 have e2 : ∀ j, base ≤ j → W0.heap[j]? = w'.heap[j]? := by
  intro j hj
  subst hW0
  simp only [Array.getElem?_append, Array.size_extract]
  have hm : min base w.heap.size - 0 = base := by omega
  rw [hm, if_neg (by omega)]
  by_cases hlt : j < w'.heap.size
  ·rw [Array.getElem?_extract_of_lt (by omega), Array.getElem?_eq_getElem hlt]
   simp only [Nat.add_sub_cancel' hj]
  ·rw [Array.getElem?_eq_none (by simp; omega), Array.getElem?_eq_none (by omega)]
 have e3 : ∀ j, j < base → W0.heap[j]? = w.heap[j]? := by
  intro j hj
  subst hW0
  simp only [Array.getElem?_append, Array.size_extract]
  have hm : min base w.heap.size - 0 = base := by omega
  rw [hm, if_pos (by omega), Array.getElem?_extract_of_lt (by omega), Array.getElem?_eq_getElem (show j < w.heap.size by omega)]
  simp only [Nat.zero_add]
 refine ⟨W0, ?_, by omega, fun j hj => (e2 j hj).symm⟩
 have hS : Step w W0 := ⟨by subst hW0; exact hs.os, by subst hW0; exact hs.tape, by subst hW0; exact hs.output, by omega, fun j hj _ => by
  rcases Nat.lt_or_ge j base with a | a
  ·exact e3 j a
  ·rw [e2 j a]; exact hs.block j hj (by omega)⟩
 obtain ⟨d0, d1, d2, d3, d4, vs, vo, vt, xs, D⟩ := hD
 exact ⟨_, _, _, _, _, _, _, _, _, D.step hS⟩
end
end Go.Proofs.YtgpiieogiafdoaaGreat
namespace Go.Proofs.YtgpiieogiafdoaaGreat
set_option linter.unusedSimpArgs false
set_option linter.unusedVariables false
open Go.RowKit Go.BT
set_option maxHeartbeats 1000000 in
theorem psell_any {base : Nat} {W : World} {g : Nat} {h : House} {b : Book} (hD : DeskE base W g h b) (hO : OkDesk h b) (hbW : base ≤ W.heap.size) (S : Nat → Prop) (x : ActT) (u p : Value) (hx : AV S W u x) :
  Calls Tryz.prog 89 #[p, .pointer (some ⟨g, 0, none⟩), u] W (fun e W' => DeskEnds base g h (sellD h b x.shw x.seat x.buyer x.day) e W W') := by
 obtain ⟨c8, rfl, h8, hk0, hk1⟩ := hx.act
 obtain ⟨p8, k8, rfl⟩ := h8.form
 obtain ⟨W1, hW1⟩ : ∃ W1, W1 = W.alloc (.cells #[.int .u8 x.kind, .int .i64 x.agency, .int .i64 x.shw, .int .i64 x.seat, .int .i64 x.buyer, .int .i64 x.day, .int .i64 x.dst, .int .i64 x.msg, .slice p8 x.seats.length k8] 100) := ⟨_, rfl⟩
 have hS : Step W W1 := by subst hW1; exact Step.alloc _ _
 have hb : Bx W1 W.heap.size [.int .u8 x.kind, .int .i64 x.agency, .int .i64 x.shw, .int .i64 x.seat, .int .i64 x.buyer, .int .i64 x.day, .int .i64 x.dst, .int .i64 x.msg, .slice p8 x.seats.length k8] 100 := by subst hW1; exact Bx.new W [_, _, _, _, _, _, _, _, _] _
 obtain ⟨c0, c1, c2, c3, c4, vs, vo, vt, xs, D⟩ := hD
 have D1 := D.step hS
 have n2 := hb.cell 2
 have n3 := hb.cell 3
 have n4 := hb.cell 4
 have n5 := hb.cell 5
 simp only [zD, zE] at n2 n3 n4 n5
 have hcall := Lib.hid (sell_any D1 hO x.shw x.seat x.buyer x.day)
 have HW := Lib.hid hW1
 have HS := Lib.hid hS
 clear D D1 hO hW1 hS hb h8 hk0 hk1 hx
 go_enter Tryz.func89, Tryz.ntmps89
 go_wp2_with fail
 rw [← HW.out]
 clear HW
 go_wp2_with fail
 refine hcall.out.mono ?_
 clear hcall
 rintro e w' he
 cases hr : sellD h b x.shw x.seat x.buyer x.day with
 | ok b' =>
  rw [hr] at he
  obtain ⟨hX, rfl, hD⟩ := he
  have HH := Lib.hid (And.intro hX hD)
  clear hX hD n2 n3 n4 n5
  go_wp2
  go_end0
  exact .yes hr ((StepX.of HS.out).trans HH.out.1) HH.out.2
 | error c =>
  rw [hr] at he
  obtain ⟨hX, rfl⟩ := he
  exact ⟨rfl, .noX hr ((StepX.of HS.out).trans hX)⟩
set_option maxHeartbeats 1000000 in
theorem prefund_any {base : Nat} {W : World} {g : Nat} {h : House} {b : Book} (hD : DeskE base W g h b) (hO : OkDesk h b) (hbW : base ≤ W.heap.size) (S : Nat → Prop) (x : ActT) (u p : Value) (hx : AV S W u x) :
  Calls Tryz.prog 90 #[p, .pointer (some ⟨g, 0, none⟩), u] W (fun e W' => DeskEnds base g h (refundD h b x.shw x.seat) e W W') := by
 obtain ⟨c8, rfl, h8, hk0, hk1⟩ := hx.act
 obtain ⟨p8, k8, rfl⟩ := h8.form
 obtain ⟨W1, hW1⟩ : ∃ W1, W1 = W.alloc (.cells #[.int .u8 x.kind, .int .i64 x.agency, .int .i64 x.shw, .int .i64 x.seat, .int .i64 x.buyer, .int .i64 x.day, .int .i64 x.dst, .int .i64 x.msg, .slice p8 x.seats.length k8] 100) := ⟨_, rfl⟩
 have hS : Step W W1 := by subst hW1; exact Step.alloc _ _
 have hb : Bx W1 W.heap.size [.int .u8 x.kind, .int .i64 x.agency, .int .i64 x.shw, .int .i64 x.seat, .int .i64 x.buyer, .int .i64 x.day, .int .i64 x.dst, .int .i64 x.msg, .slice p8 x.seats.length k8] 100 := by subst hW1; exact Bx.new W [_, _, _, _, _, _, _, _, _] _
 obtain ⟨c0, c1, c2, c3, c4, vs, vo, vt, xs, D⟩ := hD
 have D1 := D.step hS
 have n2 := hb.cell 2
 have n3 := hb.cell 3
 have n4 := hb.cell 4
 have n5 := hb.cell 5
 simp only [zD, zE] at n2 n3 n4 n5
 have hcall := Lib.hid (refund_any D1 hO x.shw x.seat)
 have HW := Lib.hid hW1
 have HS := Lib.hid hS
 clear D D1 hO hW1 hS hb h8 hk0 hk1 hx
 go_enter Tryz.func90, Tryz.ntmps90
 go_wp2_with fail
 rw [← HW.out]
 clear HW
 go_wp2_with fail
 refine hcall.out.mono ?_
 clear hcall
 rintro e w' he
 cases hr : refundD h b x.shw x.seat with
 | ok b' =>
  rw [hr] at he
  obtain ⟨hX, rfl, hD⟩ := he
  have HH := Lib.hid (And.intro hX hD)
  clear hX hD n2 n3 n4 n5
  go_wp2
  go_end0
  exact .yes hr ((StepX.of HS.out).trans HH.out.1) HH.out.2
 | error c =>
  rw [hr] at he
  obtain ⟨hX, rfl⟩ := he
  exact ⟨rfl, .noX hr ((StepX.of HS.out).trans hX)⟩
set_option maxHeartbeats 1000000 in
theorem plose_any {base : Nat} {W : World} {g : Nat} {h : House} {b : Book} (hD : DeskE base W g h b) (hO : OkDesk h b) (hc0 : 0 ≤ b.cash) (hbW : base ≤ W.heap.size) (S : Nat → Prop) (x : ActT) (u p : Value) (hx : AV S W u x) :
  Calls Tryz.prog 93 #[p, .pointer (some ⟨g, 0, none⟩), u] W (fun e W' => DeskEnds base g h (bookOf (loseD h b x.shw x.day)) e W W') := by
 obtain ⟨c8, rfl, h8, hk0, hk1⟩ := hx.act
 obtain ⟨p8, k8, rfl⟩ := h8.form
 obtain ⟨W1, hW1⟩ : ∃ W1, W1 = W.alloc (.cells #[.int .u8 x.kind, .int .i64 x.agency, .int .i64 x.shw, .int .i64 x.seat, .int .i64 x.buyer, .int .i64 x.day, .int .i64 x.dst, .int .i64 x.msg, .slice p8 x.seats.length k8] 100) := ⟨_, rfl⟩
 have hS : Step W W1 := by subst hW1; exact Step.alloc _ _
 have hb : Bx W1 W.heap.size [.int .u8 x.kind, .int .i64 x.agency, .int .i64 x.shw, .int .i64 x.seat, .int .i64 x.buyer, .int .i64 x.day, .int .i64 x.dst, .int .i64 x.msg, .slice p8 x.seats.length k8] 100 := by subst hW1; exact Bx.new W [_, _, _, _, _, _, _, _, _] _
 obtain ⟨c0, c1, c2, c3, c4, vs, vo, vt, xs, D⟩ := hD
 have D1 := D.step hS
 have n2 := hb.cell 2
 have n3 := hb.cell 3
 have n4 := hb.cell 4
 have n5 := hb.cell 5
 simp only [zD, zE] at n2 n3 n4 n5
 have hcall := Lib.hid (lose_any D1 hO hc0 x.shw x.day)
 have HW := Lib.hid hW1
 have HS := Lib.hid hS
 clear D D1 hO hc0 hW1 hS hb h8 hk0 hk1 hx
 go_enter Tryz.func93, Tryz.ntmps93
 go_wp2_with fail
 rw [← HW.out]
 clear HW
 go_wp2_with fail
 refine hcall.out.mono ?_
 clear hcall
 rintro e w' he
 cases hr : loseD h b x.shw x.day with
 | ok q =>
  obtain ⟨b', l⟩ := q
  rw [hr] at he
  obtain ⟨v', rfl, hD, _, hX⟩ := he
  have HH := Lib.hid (And.intro hX hD)
  clear hX hD n2 n3 n4 n5
  go_wp2
  go_end0
  exact .yes (by rw [hr]; rfl) ((StepX.of HS.out).trans HH.out.1) HH.out.2
 | error c =>
  rw [hr] at he
  obtain ⟨rfl, hX⟩ := he
  exact ⟨rfl, .noX (by rw [hr]; rfl) ((StepX.of HS.out).trans hX)⟩
set_option maxHeartbeats 1000000 in
theorem ptake_any {base : Nat} {W : World} {g gp n0 : Nat} {h : House} {b : Book} {X : Nat → Prop} {Wd : Wd} {c0 c1 c2 c3 c4 vb vm : Value} (hD : DeskE base W g h b) (hO : OkDesk h b) (hbW : base ≤ W.heap.size) (S : Nat → Prop) (x : ActT) (u : Value) (hx : AV S W u x)
  (P : Play X n0 W gp h Wd c0 c1 c2 c3 c4 vb vm) (hX : ∀ j, base ≤ j → X j) (hi : withinB x.msg 0 (Wd.msgs.length - 1) = true) :
  Calls Tryz.prog 92 #[.pointer (some ⟨gp, 0, none⟩), .pointer (some ⟨g, 0, none⟩), u] W (fun e W' => DeskEnds base g h (takeD h b (Wd.msgs.getD x.msg.toNat noMsg)) e W W') := by
 obtain ⟨i, hxi, hil⟩ := nat_of hi
 obtain ⟨c8, rfl, h8, hk0, hk1⟩ := hx.act
 obtain ⟨p8, k8, rfl⟩ := h8.form
 obtain ⟨W1, hW1⟩ : ∃ W1, W1 = W.alloc (.cells #[.int .u8 x.kind, .int .i64 x.agency, .int .i64 x.shw, .int .i64 x.seat, .int .i64 x.buyer, .int .i64 x.day, .int .i64 x.dst, .int .i64 x.msg, .slice p8 x.seats.length k8] 100) := ⟨_, rfl⟩
 have hS : Step W W1 := by subst hW1; exact Step.alloc _ _
 have hb : Bx W1 W.heap.size [.int .u8 x.kind, .int .i64 x.agency, .int .i64 x.shw, .int .i64 x.seat, .int .i64 x.buyer, .int .i64 x.day, .int .i64 x.dst, .int .i64 x.msg, .slice p8 x.seats.length k8] 100 := by subst hW1; exact Bx.new W [_, _, _, _, _, _, _, _, _] _
 obtain ⟨d0, d1, d2, d3, d4, vs, vo, vt, xs, D⟩ := hD
 have D1 := D.step hS
 have n7 := hb.cell 7
 have p6 := (P.bx.step hS).cell 6
 have hM : SL X W vm Wd.msgs := (P.msgs.weak fun j _ hj => .inl (.inl hj)).slb fun k hk => (P.mxx k hk).1
 have hM2 := (hM.weak fun j _ hj => hX j hj).keep (.of_step hS)
 obtain ⟨pm, km, mb, mo, rfl, _, hml, hpm, hcm, _⟩ := hM2.mess
 have hil' : i < Wd.msgs.length := by omega
 obtain rfl := hpm (by omega)
 obtain ⟨y4, ⟨m0, m1, m2, m3, m4⟩, hy⟩ := hcm i hil'
 have hgm : Wd.msgs.getD x.msg.toNat noMsg = Wd.msgs[i] := by rw [hxi, Int.toNat_natCast]; simp [List.getD_eq_getElem?_getD, hil']
 rw [hgm]
 obtain ⟨m, hm⟩ : ∃ m, m = Wd.msgs[i] := ⟨_, rfl⟩
 rw [← hm] at m0 m1 m2 m3 hy ⊢
 obtain ⟨mf, md, mn, ms, ml⟩ := m
 simp only [zD, zE] at n7 p6
 rw [hxi] at n7 hW1 ⊢
 clear hxi
 obtain ⟨py, ky, rfl⟩ := hy.form
 have hrg : (0 : Int) ≤ (i : Int) ∧ (i : Int) < (Wd.msgs.length : Int) := by omega
 have HD := Lib.hid D1
 have HO := Lib.hid hO
 have HY := Lib.hid hy
 have HW := Lib.hid hW1
 have HS := Lib.hid hS
 clear D D1 hO hW1 hS hb h8 hk0 hk1 hx P hM hM2 hcm hy hm hgm hpm hi hil hml
 go_enter Tryz.func92, Tryz.ntmps92
 go_upto_region 1 with (fail)
 rw [← HW.out]
 clear HW
 refine wp_region_seq (kdOf [] []) [0, 0, 2, 6, 14, 30, 0, 64, 254, 510, 1023] [0, 1, 2, 3, 4, 5, 6, 7, 8, 9] [10] (by kernel_rfl) (by kernel_rfl) (fun i T z hi hk => by simp [kdOf] at hk <;> (try (split at hk <;> cases hk))) ?_
 intro Wx hWx
 have n7 := hWx.kc n7
 have p6 := hWx.kc p6
 have m0 := hWx.kc m0
 have m1 := hWx.kc m1
 have m2 := hWx.kc m2
 have m3 := hWx.kc m3
 have m4 := hWx.kc m4
 repeat (first | (refine run_off rfl rfl (by rfl) ?_; (try simp only [Act.put, zA, zB, zC])) | (refine run_chain_off rfl rfl (by rfl) (K0_mono _) ?_; (try simp only [Act.put, zA, zB, zC])) | ((refine run_want rfl rfl (by rfl) ⟨?_, fun W hW => ?_, ?_⟩; rotate_left; (· (have d0 := hW.kc n7; have d1 := hW.kc p6; have d2 := hW.kc m0; have d3 := hW.kc m1; have d4 := hW.kc m2; have d5 := hW.kc m3; have d6 := hW.kc m4; go_simp; (try with_reducible rfl)))); (try simp only [Act.put, zA, zB, zC])))
 refine run_end (L := [_]) rfl (fun W6 hW6 => ?_)
 have hcall := Lib.hid (take_any ((HD.out.step hWx).step hW6) HO.out mf md mn ms ml (.agg #[.int .i64 mf, .int .i64 md, .int .i64 mn, .int .i64 ms, .slice py ml.length ky]) ⟨_, rfl, _, rfl, (HY.out.keep (.of_step hWx)).keep (.of_step hW6)⟩)
 have HSS := Lib.hid ((HS.out.trans hWx).trans hW6)
 clear hWx hW6 n7 p6 m0 m1 m2 m3 m4 hrg
 go_wp2_with fail
 refine hcall.out.mono ?_
 clear hcall
 rintro e w' he
 cases hr : takeD h b ⟨mf, md, mn, ms, ml⟩ with
 | ok b' =>
  rw [hr] at he
  obtain ⟨hX, rfl, hD⟩ := he
  have HH := Lib.hid (And.intro hX hD)
  clear hX hD
  go_wp2
  go_end0
  exact .yes hr ((StepX.of HSS.out).trans HH.out.1) HH.out.2
 | error c =>
  rw [hr] at he
  obtain ⟨hX, rfl⟩ := he
  exact ⟨rfl, .noX hr ((StepX.of HSS.out).trans hX)⟩
theorem infoMess : (Tryz.prog.info? 86).map (fun i => (i.zero, i.size, i.bytes)) = some (some (.agg #[.int .i64 0, .int .i64 0, .int .i64 0, .int .i64 0, .slice none 0 0]), 5, 56) := by kernel_rfl
theorem eiMess : EI Tryz.prog 32 86 (.agg #[.int .i64 0, .int .i64 0, .int .i64 0, .int .i64 0, .slice none 0 0]) 5 56 := .mk' Tryz.underlying32 infoMess rfl
theorem Play.told {X : Nat → Prop} {n0 : Nat} {w w2 : World} {gp : Nat} {h : House} {W : Wd} {c0 c1 c2 c3 c4 vb vm : Value} {p : Option Addr} {n c : Nat} {l : List BT.Message} (P : Play X n0 w gp h W c0 c1 c2 c3 c4 vb vm)
  (hown : OwnL (fun j => (X j ∨ j < n0) ∨ j = gp ∨ vb.ownBlock = some j) n0 86 w2 (.slice p n c) l) (hg : w.grownBy w2 vm.ownBlock) (hf : ∀ k, (Value.slice p n c).ownBlock = some k → vm.ownBlock = some k ∨ w.heap.size ≤ k) (hX : ∀ j, X j → j < w.heap.size) :
  Play X n0 (w2.setCell ⟨gp, 6, none⟩ (.slice p n c)) gp h ⟨W.books, l⟩ c0 c1 c2 c3 c4 vb (.slice p n c) := by
 have hw := Wrote.setCell w2 gp 6 (.slice p n c)
 have hgp : vm.ownBlock ≠ some gp := fun e => (P.mxx gp e).2 rfl
 have hvm : Keeps (fun j => vm.ownBlock = some j) w w2 := .grown hg fun j hj _ => hj
 have b1 : Bx w2 gp [c0, c1, c2, c3, c4, vb, vm] 111 := P.bx.keep hvm hgp
 have hb2 : OwnL (fun j => (X j ∨ j < n0) ∨ j = gp ∨ (Value.slice p n c).ownBlock = some j) n0 77 w2 vb W.books := by
  have h1 : OwnL (fun j => (X j ∨ j < n0) ∨ j = gp ∨ vm.ownBlock = some j ∨ (Value.slice p n c).ownBlock = some j) n0 77 w vb W.books := P.books.weak fun j hj hs => by
   rcases hs with a | a | a | a
   ·exact .inl a
   ·exact .inr (.inl a)
   ·exact .inr (.inr a)
   ·rcases hf j a with a | a
    ·exact .inr (.inr a)
    ·omega
  have h2 := h1.kept (w' := w2) (hvm.mono fun j _ hj => .inr (.inr (.inl hj))) fun g hg' => hg.block g (P.books.lt g hg').2 fun e => P.apart g hg' e.symm
  exact h2.weak fun j _ hs => by
   rcases hs with a | a | a
   ·exact .inl a
   ·exact .inr (.inl a)
   ·exact .inr (.inr (.inr a))
 have x4 : (Value.slice p n c).ownBlock ≠ some gp := fun e => by
  rcases hf gp e with a | a
  ·exact hgp a
  ·have := P.bx.lt; omega
 refine { bx := b1.setCell 6 _, low := P.low, house := Rep.keep (.wrote hw P.low) (Rep.keep (hvm.mono fun j hj hs => (P.msgs.lt j hs).1) P.house), books := hb2.wrote hw (.inr (.inl rfl)) fun e => (P.bxx gp e).2 rfl, msgs := hown.wrote hw (.inr (.inl rfl)) x4, xlow := P.xlow, gx := P.gx, bxx := P.bxx, mxx := fun k hk => ⟨fun hx => ?_, fun e => x4 (e ▸ hk)⟩ }
 rcases hf k hk with a | a
 ·exact (P.mxx k a).1 hx
 ·have := hX k hx; omega
set_option maxHeartbeats 1000000 in
theorem pgive_any {base : Nat} {W : World} {g gp n0 : Nat} {h : House} {b : Book} {X XI : Nat → Prop} {Wd : Wd} {c0 c1 c2 c3 c4 vb vm : Value} (hD : DeskE base W g h b) (hO : OkDesk h b) (hbW : base ≤ W.heap.size) (S : Nat → Prop) (x : ActT) (u : Value) (hx : AV S W u x)
  (P : Play X n0 W gp h Wd c0 c1 c2 c3 c4 vb vm) (hX : ∀ j, base ≤ j → X j) (hI : ∀ j, XI j → X j ∧ j < base) (hS : ∀ j, base ≤ j → S j) (hsl : x.seats.length ≤ 1000000) (hml : Wd.msgs.length ≤ 1000) :
  Calls Tryz.prog 91 #[.pointer (some ⟨gp, 0, none⟩), .pointer (some ⟨g, 0, none⟩), u] W (fun e W' => DoEnds base (fun j => j = gp ∨ vm.ownBlock = some j) g h (bookOf (withOne (giveD h b x.dst x.shw x.seats))) (fun Z => ∃ vm', Play XI n0 Z gp h ⟨Wd.books, Wd.msgs ++ restOf [] (withOne (giveD h b x.dst x.shw x.seats))⟩ c0 c1 c2 c3 c4 vb vm') e W W') := by
 have hnb : n0 ≤ base := by
  rcases Nat.lt_or_ge base n0 with a | a
  ·exact absurd (P.xlow base (hX base (Nat.le_refl _))) (by omega)
  ·exact a
 have hlow : gp < base := by
  rcases Nat.lt_or_ge gp base with a | a
  ·exact a
  ·exact absurd (hX gp a) P.gx
 have hmb : ∀ k, vm.ownBlock = some k → k < base := fun k hk => by
  rcases Nat.lt_or_ge k base with a | a
  ·exact a
  ·exact absurd (hX k a) (P.mxx k hk).1
 have hbb : ∀ k, vb.ownBlock = some k → k < base := fun k hk => by
  rcases Nat.lt_or_ge k base with a | a
  ·exact a
  ·exact absurd (hX k a) (P.bxx k hk).1
 obtain ⟨c8, rfl, h8, hk0, hk1⟩ := hx.act
 obtain ⟨p8, k8, rfl⟩ := h8.form
 obtain ⟨pm, km, rfl, _, _⟩ := P.msgs.form
 obtain ⟨W1, hW1⟩ : ∃ W1, W1 = W.alloc (.cells #[.int .u8 x.kind, .int .i64 x.agency, .int .i64 x.shw, .int .i64 x.seat, .int .i64 x.buyer, .int .i64 x.day, .int .i64 x.dst, .int .i64 x.msg, .slice p8 x.seats.length k8] 100) := ⟨_, rfl⟩
 have hS1 : Step W W1 := by subst hW1; exact Step.alloc _ _
 have hz1 : W1.heap.size = W.heap.size + 1 := by subst hW1; simp
 have hb : Bx W1 W.heap.size [.int .u8 x.kind, .int .i64 x.agency, .int .i64 x.shw, .int .i64 x.seat, .int .i64 x.buyer, .int .i64 x.day, .int .i64 x.dst, .int .i64 x.msg, .slice p8 x.seats.length k8] 100 := by subst hW1; exact Bx.new W [_, _, _, _, _, _, _, _, _] _
 obtain ⟨d0, d1, d2, d3, d4, vs, vo, vt, xs, D⟩ := hD
 have D1 := D.step hS1
 have n6 := hb.cell 6
 have n2 := hb.cell 2
 have n8 := hb.cell 8
 simp only [zD, zE] at n2 n6 n8
 have hcall := Lib.hid (give_any D1 hO x.dst x.shw x.seats _ ((h8.weak fun j _ hj => hS j hj).keep (.of_step hS1)) hsl)
 have HP := Lib.hid (P.step hS1)
 have HW := Lib.hid hW1
 have HS := Lib.hid hS1
 have HB := Lib.hid (And.intro hbW (And.intro hnb (And.intro hlow (And.intro hmb (And.intro hbb hml)))))
 have HX := Lib.hid (And.intro hX hI)
 have HZ := Lib.hid hz1
 clear D D1 hO hW1 hS1 hb h8 hk0 hk1 hx P hX hI hS hsl hml hbW hnb hlow hmb hbb hz1
 go_enter Tryz.func91, Tryz.ntmps91
 go_wp2_with fail
 rw [← HW.out]
 clear HW
 go_wp2_with fail
 refine hcall.out.mono ?_
 clear hcall
 rintro e w' he
 cases hr : giveD h b x.dst x.shw x.seats with
 | error c =>
  rw [hr] at he
  obtain ⟨rfl, hX⟩ := he
  exact ⟨rfl, by rw [hr]; exact ⟨rfl, (StepX.of HS.out).trans hX⟩⟩
 | ok q =>
  obtain ⟨b', m⟩ := q
  rw [hr] at he
  obtain ⟨v', rfl, hD, hm, hX⟩ := he
  obtain ⟨mc, rfl, hms⟩ := hm.message
  obtain ⟨py, ky, rfl⟩ := hms.form
  have HP2 := Lib.hid (HP.out.keep (hX.keeps.mono fun j _ hj => HX.out.1 j hj))
  have HH := Lib.hid (And.intro ((StepX.of HS.out).trans hX) (And.intro hD hms))
  have HRR := Lib.hid hr
  have HZ2 := Lib.hid (show W.heap.size + 1 ≤ w'.heap.size by have := hX.size; have := HZ.out; omega)
  clear hX hD hm hms hr n2 n6 n8 HP
  go_upto_region 2 with (fail)
  obtain ⟨W2, hW2⟩ : ∃ W2, W2 = w'.alloc (.cells #[.int .i64 m.frm, .int .i64 m.dst, .int .i64 m.number, .int .i64 m.shw, .slice py m.seats.length ky] 86) := ⟨_, rfl⟩
  have hb2 : Bx W2 w'.heap.size [.int .i64 m.frm, .int .i64 m.dst, .int .i64 m.number, .int .i64 m.shw, .slice py m.seats.length ky] 86 := by subst hW2; exact Bx.new w' [_, _, _, _, _] _
  have hS2 : Step w' W2 := by subst hW2; exact Step.alloc _ _
  rw [← hW2]
  clear hW2
  have HP3 := Lib.hid ((HP2.out.more (Y := XI) (fun j _ hj => (HX.out.2 j hj).1) (fun j hj => HP2.out.xlow j (HX.out.2 j hj).1)).step hS2)
  have HB2 := Lib.hid hb2
  have HS2 := Lib.hid hS2
  clear HP2 hb2 hS2
  refine wp_region_seqM (fun c d v a w h => by cases d <;> exact h) (kdOf [7] []) [0, 0, 2, 6, 14, 30, 0, 64, 254, 511, 1023, 2047, 4095] [0, 1, 2, 3, 4, 5, 6, 7] [8, 9, 10, 11, 12] (by kernel_rfl) (by kernel_rfl) (fun i T z hi hk => by simp [kdOf] at hk <;> (try (split at hk <;> cases hk))) ?_
  intro Wx hWx
  have p6 := (HP3.out.bx.step hWx).cell 6
  obtain ⟨q0, q1, q2, q3, q4⟩ := cells5 (HB2.out.step hWx)
  simp only [zD, zE] at p6
  repeat (first | (refine run_off rfl rfl (by rfl) ?_; (try simp only [Act.put, zA, zB, zC])) | (refine run_chain_off rfl rfl (by rfl) (K0_mono _) ?_; (try simp only [Act.put, zA, zB, zC])) | ((refine run_want rfl rfl (by rfl) ⟨?_, fun W hW => ?_, ?_⟩; rotate_left; (· (have d0 := hW.kc p6; have d1 := hW.kc q0; have d2 := hW.kc q1; have d3 := hW.kc q2; have d4 := hW.kc q3; have d5 := hW.kc q4; go_simp; (try with_reducible rfl)))); (try simp only [Act.put, zA, zB, zC])))
  clear p6 q0 q1 q2 q3 q4
  refine run_chain rfl rfl (by rfl) (fun W3 hW3 K' hK' => ?_)
  go_simp
  refine hK' _ _ (.of (Step.alloc _ _)) ?_
  (try simp only [Act.put, zA, zB, zC])
  refine run_end (L := [_, _, _, _, _]) rfl (fun W4 hW4 => ?_)
  have HP4 := Lib.hid ((((HP3.out.step hWx).step hW3).step (Step.alloc _ _)).step hW4)
  have HS4 := Lib.hid ((((HS2.out.trans hWx).trans hW3).trans (Step.alloc _ _)).trans hW4)
  obtain ⟨hbW, hnb, hlow, hmb, hbb, hml⟩ := HB.out
  have hms3 : SL (avoid (fun j => (XI j ∨ j < n0) ∨ j = gp ∨ vb.ownBlock = some j) (.slice pm Wd.msgs.length km)) W3 (.slice py m.seats.length ky) m.seats := (HH.out.2.2.keep (.of_step ((HS2.out.trans hWx).trans hW3))).weak fun j _ hj => by
   have hz := HZ.out
   rcases hj with (hj | hj | hj) | hj
   ·rcases hj with hj | hj
    ·have := (HX.out.2 j hj).2; omega
    ·omega
   ·omega
   ·have := hbb j hj; omega
   ·have := hmb j hj; omega
  have hrep : Rep.rep (avoid (fun j => (XI j ∨ j < n0) ∨ j = gp ∨ vb.ownBlock = some j) (.slice pm Wd.msgs.length km)) W3 [.int .i64 m.frm, .int .i64 m.dst, .int .i64 m.number, .int .i64 m.shw, .slice py m.seats.length ky] m := ⟨_, rfl, hms3⟩
  have hu := (SLe.one 86 hrep).step hW4
  have hn1 : Wd.msgs.length + [m].length = Wd.msgs.length + 1 := rfl
  have hn2 : Wd.msgs.length + 1 ≤ maxLen := by simp only [maxLen]; omega
  have hn3 : (Wd.msgs.length + 1) * 56 ≤ 140737488355328 := by omega
  have hn4 : n0 ≤ W4.heap.size := by have := HS4.out.size; have := HZ2.out; omega
  have HU := Lib.hid hu
  have HN := Lib.hid (And.intro hn1 (And.intro hn2 (And.intro hn3 hn4)))
  clear hWx hW3 hW4 hms3 hrep hu hn1 hn2 hn3 hn4 hbW hnb hlow hmb hbb hml HP3 HB2 HS2
  go_wp2_with (at_builtin; refine wpl_append_F (S := fun j => (XI j ∨ j < n0) ∨ j = gp ∨ vb.ownBlock = some j) (base := n0) (v := .slice pm Wd.msgs.length km) (l := Wd.msgs) (m := [m]) eiMess rfl _ _ rfl rfl rfl HP4.out.msgs HU.out (Wd.msgs.length + 1) HN.out.1 (Wd.msgs ++ [m]) rfl HN.out.2.1 HN.out.2.2.1 HN.out.2.2.2 ?_)
  intro p' c' w5 hown hg hf
  have hgp : ¬ (Value.slice pm Wd.msgs.length km).ownBlock = some gp := fun e => (HP4.out.mxx gp e).2 rfl
  have b5 := HP4.out.bx.keep (S := fun j => (Value.slice pm Wd.msgs.length km).ownBlock = some j) (.grown hg fun j hj _ => hj) hgp
  have f5 := b5.frozen 6
  have c5 := b5.cell 6
  simp only [zD, zE] at c5
  have HP5 := Lib.hid (HP4.out.told hown hg hf (fun j hj => by have := (HX.out.2 j hj).2; have := HB.out.1; have := HS4.out.size; have := HZ2.out; omega))
  have HG := Lib.hid hg
  have HO5 := Lib.hid b5
  clear hown hf hgp b5 hg
  go_wp2
  go_end0
  have hz4 := HS4.out.size
  have hz2 := HZ2.out
  have hw := Wrote.setCell w5 gp 6 (.slice p' (Wd.msgs.length + 1) c')
  obtain ⟨hbW, hnb, hlow, hmb, hbb, hml⟩ := HB.out
  rw [HRR.out]
  have hX5 : StepX (fun j => j = gp ∨ (Value.slice pm Wd.msgs.length km).ownBlock = some j) w' (w5.setCell ⟨gp, 6, none⟩ (.slice p' (Wd.msgs.length + 1) c')) :=
   (((StepX.of HS4.out).trans (StepX.grown HG.out fun k hk _ => .inr hk)).setCell ⟨gp, 6, none⟩ _ (.inl rfl))
  refine ⟨rfl, DeskQ.of HH.out.2.1 (by omega) (hX5.mono fun j _ hj => ?_), ⟨_, HP5.out⟩, (HH.out.1.mono fun j _ hj => .inl hj).trans (hX5.mono fun j _ hj => .inr hj)⟩
  rcases hj with hj | hj
  ·omega
  ·exact hmb j hj
def kinds : List Value := [.nilFunc, .func (.func 89) #[] #[], .func (.func 90) #[] #[], .func (.func 91) #[] #[], .func (.func 92) #[] #[], .func (.func 93) #[] #[]]
theorem withNone_book (r : Except Int Book) : bookOf (withNone r) = r := by cases r <;> rfl
theorem withNone_rest (r : Except Int Book) : restOf [] (withNone r) = [] := by cases r <;> rfl
theorem DeskEnds.play {base g gp n0 : Nat} {h : House} {r : Except Int Book} {e : Ending} {W W' : World} {X XI C : Nat → Prop} {Wd : Wd} {c0 c1 c2 c3 c4 vb vm : Value} (hh : DeskEnds base g h r e W W') (P : Play X n0 W gp h Wd c0 c1 c2 c3 c4 vb vm) (hX : ∀ j, base ≤ j → X j) (hI : ∀ j, XI j → X j ∧ j < base) :
  DoEnds base C g h (bookOf (withNone r)) (fun Z => ∃ vm', Play XI n0 Z gp h ⟨Wd.books, Wd.msgs ++ restOf [] (withNone r)⟩ c0 c1 c2 c3 c4 vb vm') e W W' := by
 obtain ⟨h1, h2⟩ := hh
 rw [withNone_book, withNone_rest, List.append_nil]
 cases r with
 | ok b' => exact ⟨h2.1, DeskE.q h2.2, ⟨vm, ((P.keep (h1.keeps.mono fun j _ hj => hX j hj)).more (fun j _ hj => (hI j hj).1) fun j hj => P.xlow j (hI j hj).1)⟩, h1.mono fun j _ hj => .inl hj⟩
 | error c => exact ⟨h2, h1⟩
theorem DoEnds.before {base : Nat} {C : Nat → Prop} {g : Nat} {h : House} {r : Except Int Book} {Z : World → Prop} {e : Ending} {W W1 W' : World} (hS : Step W W1) (hh : DoEnds base C g h r Z e W1 W') : DoEnds base C g h r Z e W W' := by
 cases r with
 | ok b' => exact ⟨hh.1, hh.2.1, hh.2.2.1, (StepX.of hS).trans hh.2.2.2⟩
 | error c => exact ⟨hh.1, (StepX.of hS).trans hh.2⟩
theorem DeskE.step {base : Nat} {w w' : World} {g : Nat} {h : House} {b : Book} (hD : DeskE base w g h b) (hs : Step w w') : DeskE base w' g h b := by
 obtain ⟨c0, c1, c2, c3, c4, vs, vo, vt, xs, D⟩ := hD
 exact ⟨_, _, _, _, _, _, _, _, _, D.step hs⟩
theorem enters_sell : ∀ args w, (callFunc 89 args).run Tryz.prog w = .ok (.enter 89 args) w := (Go.Proofs.enters_of Tryz.func89 (by kernel_rfl) rfl)
theorem enters_refund : ∀ args w, (callFunc 90 args).run Tryz.prog w = .ok (.enter 90 args) w := (Go.Proofs.enters_of Tryz.func90 (by kernel_rfl) rfl)
theorem enters_give : ∀ args w, (callFunc 91 args).run Tryz.prog w = .ok (.enter 91 args) w := (Go.Proofs.enters_of Tryz.func91 (by kernel_rfl) rfl)
theorem enters_take : ∀ args w, (callFunc 92 args).run Tryz.prog w = .ok (.enter 92 args) w := (Go.Proofs.enters_of Tryz.func92 (by kernel_rfl) rfl)
theorem enters_lose : ∀ args w, (callFunc 93 args).run Tryz.prog w = .ok (.enter 93 args) w := (Go.Proofs.enters_of Tryz.func93 (by kernel_rfl) rfl)
set_option maxHeartbeats 4000000 in
theorem act1_any {base : Nat} {W : World} {g gp n0 ak ax ab : Nat} {h : House} {b : Book} {X XI : Nat → Prop} {Wd : Wd} {c0 c1 c2 c3 c4 vb vm c8 : Value} (hD : DeskE base W g h b) (hO : OkDesk h b) (hc0 : 0 ≤ b.cash) (hbW : base ≤ W.heap.size) (x : ActT)
    (h8 : SL (fun j => base ≤ j) W c8 x.seats) (P : Play X n0 W gp h Wd c0 c1 c2 c3 c4 vb vm) (hX : ∀ j, base ≤ j → X j) (hI : ∀ j, XI j → X j ∧ j < base) (hsl : x.seats.length ≤ 1000000) (hml : Wd.msgs.length ≤ 1000)
    (hk : Bx W ak kinds 156) (hx : Bx W ax [.int .u8 x.kind, .int .i64 x.agency, .int .i64 x.shw, .int .i64 x.seat, .int .i64 x.buyer, .int .i64 x.day, .int .i64 x.dst, .int .i64 x.msg, c8] 100) (hp : W.cell? ⟨ab, 0, none⟩ = some (.pointer (some ⟨gp, 0, none⟩)))
    (hk1 : 1 ≤ x.kind) (hk5 : x.kind ≤ 5) (hi : x.kind = 4 → withinB x.msg 0 (Wd.msgs.length - 1) = true) :
    Calls Tryz.prog 94 #[.pointer (some ⟨g, 0, none⟩), .pointer (some ⟨ak, 0, none⟩), .pointer (some ⟨ax, 0, none⟩), .pointer (some ⟨ab, 0, none⟩)] W (fun e W' => DoEnds base (fun j => j = gp ∨ vm.ownBlock = some j) g h (bookOf (deskD h Wd b x)) (fun Z => ∃ vm', Play XI n0 Z gp h ⟨Wd.books, Wd.msgs ++ restOf [] (deskD h Wd b x)⟩ c0 c1 c2 c3 c4 vb vm') e W W') := by
  obtain ⟨p8, k8, rfl⟩ := h8.form
  have q0 := hx.cell 0
  have q1 := hx.cell 1
  have q2 := hx.cell 2
  have q3 := hx.cell 3
  have q4 := hx.cell 4
  have q5 := hx.cell 5
  have q6 := hx.cell 6
  have q7 := hx.cell 7
  have q8 := hx.cell 8
  simp only [zD, zE] at q0 q1 q2 q3 q4 q5 q6 q7 q8
  have hav : ∀ W2, Step W W2 → AV (fun j => base ≤ j) W2 (.agg #[.int .u8 x.kind, .int .i64 x.agency, .int .i64 x.shw, .int .i64 x.seat, .int .i64 x.buyer, .int .i64 x.day, .int .i64 x.dst, .int .i64 x.msg, .slice p8 x.seats.length k8]) x := fun W2 hs => ⟨_, rfl, _, rfl, h8.keep (.of_step hs), by omega, by omega⟩
  have HK := Lib.hid hk
  have HAV := Lib.hid hav
  have HD := Lib.hid hD
  have HO := Lib.hid hO
  have HP := Lib.hid P
  have HX := Lib.hid (And.intro hX hI)
  have HB := Lib.hid (And.intro hc0 (And.intro hbW (And.intro hsl hml)))
  have HI := Lib.hid hi
  have HX0 := Lib.hid hx
  obtain ⟨kn, hkn⟩ : ∃ kn, kn = x.kind := ⟨_, rfl⟩
  clear hk hav hD hO P hX hI hc0 hbW hsl hml hi h8 hx
  rw [← hkn] at q0 hk1 hk5
  have HKN := Lib.hid hkn
  rw [← hkn] at HAV
  clear hkn
  rcases (by omega : kn = 1 ∨ kn = 2 ∨ kn = 3 ∨ kn = 4 ∨ kn = 5) with rfl | rfl | rfl | rfl | rfl
  · have hk := HKN.out
    have hdd : deskD h Wd b x = withNone (sellD h b x.shw x.seat x.buyer x.day) := by unfold deskD; rw [← hk]; rfl
    have kq : W.cell? ⟨ak, 1, none⟩ = some (.func (.func 89) #[] #[]) := by have := HK.out.cell 1; simpa [kinds] using this
    rw [hdd]
    clear hk hdd
    go_enter Tryz.func94, Tryz.ntmps94
    go_upto_region 0 with (fail)
    refine wp_region_seq (kdOf [] []) [0, 1, 3, 7, 0, 0, 0, 127] [0, 1, 2, 3, 4, 5, 6] [7] (by kernel_rfl) (by kernel_rfl) (fun i T z hi hk => by simp [kdOf] at hk <;> (try (split at hk <;> cases hk))) ?_
    intro Wx hWx
    have kq := hWx.kc kq
    have hp := hWx.kc hp
    have q0 := hWx.kc q0
    have q1 := hWx.kc q1
    have q2 := hWx.kc q2
    have q3 := hWx.kc q3
    have q4 := hWx.kc q4
    have q5 := hWx.kc q5
    have q6 := hWx.kc q6
    have q7 := hWx.kc q7
    have q8 := hWx.kc q8
    repeat (first | (refine run_off rfl rfl (by rfl) ?_; (try simp only [Act.put, zA, zB, zC])) | (refine run_chain_off rfl rfl (by rfl) (K0_mono _) ?_; (try simp only [Act.put, zA, zB, zC])) | ((refine run_want rfl rfl (by rfl) ⟨?_, fun W hW => ?_, ?_⟩; rotate_left; (· (have d0 := hW.kc kq; have d1 := hW.kc hp; have d2 := hW.kc q0; have d3 := hW.kc q1; have d4 := hW.kc q2; have d5 := hW.kc q3; have d6 := hW.kc q4; have d7 := hW.kc q5; have d8 := hW.kc q6; have d9 := hW.kc q7; have d10 := hW.kc q8; go_simp; (try with_reducible rfl)))); (try simp only [Act.put, zA, zB, zC])))
    refine run_end (L := [_]) rfl (fun W6 hW6 => ?_)
    have hS := hWx.trans hW6
    have hb6 : base ≤ W6.heap.size := Nat.le_trans HB.out.2.1 hS.size
    have hcall := Lib.hid (psell_any (HD.out.step hS) HO.out hb6 _ x _ (.pointer (some ⟨gp, 0, none⟩)) (HAV.out W6 hS))
    have HS := Lib.hid hS
    have eg := enters_sell
    clear hWx hW6 hS hb6 kq hp q0 q1 q2 q3 q4 q5 q6 q7 q8
    go_wp2_with fail
    refine hcall.out.mono ?_
    clear hcall eg
    rintro e w' he
    have he := DoEnds.before HS.out (he.play (X := X) (XI := XI) (C := fun j => j = gp ∨ vm.ownBlock = some j) (HP.out.step HS.out) HX.out.1 HX.out.2)
    cases hR : bookOf (withNone (sellD h b x.shw x.seat x.buyer x.day)) with
    | ok b' =>
      rw [hR] at he
      obtain ⟨rfl, e1, e2, e3⟩ := he
      have HE := Lib.hid (And.intro e1 (And.intro e2 e3))
      clear e1 e2 e3
      go_wp2
      go_end0
      rw [hR]
      exact ⟨rfl, HE.out⟩
    | error c =>
      rw [hR] at he
      obtain ⟨rfl, e1⟩ := he
      first
        | exact ⟨rfl, ⟨rfl, e1⟩⟩
        | (refine ⟨rfl, ?_⟩
           rw [hR]
           exact ⟨rfl, e1⟩)
  · have hk := HKN.out
    have hdd : deskD h Wd b x = withNone (refundD h b x.shw x.seat) := by unfold deskD; rw [← hk]; rfl
    have kq : W.cell? ⟨ak, 2, none⟩ = some (.func (.func 90) #[] #[]) := by have := HK.out.cell 2; simpa [kinds] using this
    rw [hdd]
    clear hk hdd
    go_enter Tryz.func94, Tryz.ntmps94
    go_upto_region 0 with (fail)
    refine wp_region_seq (kdOf [] []) [0, 1, 3, 7, 0, 0, 0, 127] [0, 1, 2, 3, 4, 5, 6] [7] (by kernel_rfl) (by kernel_rfl) (fun i T z hi hk => by simp [kdOf] at hk <;> (try (split at hk <;> cases hk))) ?_
    intro Wx hWx
    have kq := hWx.kc kq
    have hp := hWx.kc hp
    have q0 := hWx.kc q0
    have q1 := hWx.kc q1
    have q2 := hWx.kc q2
    have q3 := hWx.kc q3
    have q4 := hWx.kc q4
    have q5 := hWx.kc q5
    have q6 := hWx.kc q6
    have q7 := hWx.kc q7
    have q8 := hWx.kc q8
    repeat (first | (refine run_off rfl rfl (by rfl) ?_; (try simp only [Act.put, zA, zB, zC])) | (refine run_chain_off rfl rfl (by rfl) (K0_mono _) ?_; (try simp only [Act.put, zA, zB, zC])) | ((refine run_want rfl rfl (by rfl) ⟨?_, fun W hW => ?_, ?_⟩; rotate_left; (· (have d0 := hW.kc kq; have d1 := hW.kc hp; have d2 := hW.kc q0; have d3 := hW.kc q1; have d4 := hW.kc q2; have d5 := hW.kc q3; have d6 := hW.kc q4; have d7 := hW.kc q5; have d8 := hW.kc q6; have d9 := hW.kc q7; have d10 := hW.kc q8; go_simp; (try with_reducible rfl)))); (try simp only [Act.put, zA, zB, zC])))
    refine run_end (L := [_]) rfl (fun W6 hW6 => ?_)
    have hS := hWx.trans hW6
    have hb6 : base ≤ W6.heap.size := Nat.le_trans HB.out.2.1 hS.size
    have hcall := Lib.hid (prefund_any (HD.out.step hS) HO.out hb6 _ x _ (.pointer (some ⟨gp, 0, none⟩)) (HAV.out W6 hS))
    have HS := Lib.hid hS
    have eg := enters_refund
    clear hWx hW6 hS hb6 kq hp q0 q1 q2 q3 q4 q5 q6 q7 q8
    go_wp2_with fail
    refine hcall.out.mono ?_
    clear hcall eg
    rintro e w' he
    have he := DoEnds.before HS.out (he.play (X := X) (XI := XI) (C := fun j => j = gp ∨ vm.ownBlock = some j) (HP.out.step HS.out) HX.out.1 HX.out.2)
    cases hR : bookOf (withNone (refundD h b x.shw x.seat)) with
    | ok b' =>
      rw [hR] at he
      obtain ⟨rfl, e1, e2, e3⟩ := he
      have HE := Lib.hid (And.intro e1 (And.intro e2 e3))
      clear e1 e2 e3
      go_wp2
      go_end0
      rw [hR]
      exact ⟨rfl, HE.out⟩
    | error c =>
      rw [hR] at he
      obtain ⟨rfl, e1⟩ := he
      first
        | exact ⟨rfl, ⟨rfl, e1⟩⟩
        | (refine ⟨rfl, ?_⟩
           rw [hR]
           exact ⟨rfl, e1⟩)
  · have hk := HKN.out
    have hdd : deskD h Wd b x = withOne (giveD h b x.dst x.shw x.seats) := by unfold deskD; rw [← hk]; rfl
    have kq : W.cell? ⟨ak, 3, none⟩ = some (.func (.func 91) #[] #[]) := by have := HK.out.cell 3; simpa [kinds] using this
    rw [hdd]
    clear hk hdd
    go_enter Tryz.func94, Tryz.ntmps94
    go_upto_region 0 with (fail)
    refine wp_region_seq (kdOf [] []) [0, 1, 3, 7, 0, 0, 0, 127] [0, 1, 2, 3, 4, 5, 6] [7] (by kernel_rfl) (by kernel_rfl) (fun i T z hi hk => by simp [kdOf] at hk <;> (try (split at hk <;> cases hk))) ?_
    intro Wx hWx
    have kq := hWx.kc kq
    have hp := hWx.kc hp
    have q0 := hWx.kc q0
    have q1 := hWx.kc q1
    have q2 := hWx.kc q2
    have q3 := hWx.kc q3
    have q4 := hWx.kc q4
    have q5 := hWx.kc q5
    have q6 := hWx.kc q6
    have q7 := hWx.kc q7
    have q8 := hWx.kc q8
    repeat (first | (refine run_off rfl rfl (by rfl) ?_; (try simp only [Act.put, zA, zB, zC])) | (refine run_chain_off rfl rfl (by rfl) (K0_mono _) ?_; (try simp only [Act.put, zA, zB, zC])) | ((refine run_want rfl rfl (by rfl) ⟨?_, fun W hW => ?_, ?_⟩; rotate_left; (· (have d0 := hW.kc kq; have d1 := hW.kc hp; have d2 := hW.kc q0; have d3 := hW.kc q1; have d4 := hW.kc q2; have d5 := hW.kc q3; have d6 := hW.kc q4; have d7 := hW.kc q5; have d8 := hW.kc q6; have d9 := hW.kc q7; have d10 := hW.kc q8; go_simp; (try with_reducible rfl)))); (try simp only [Act.put, zA, zB, zC])))
    refine run_end (L := [_]) rfl (fun W6 hW6 => ?_)
    have hS := hWx.trans hW6
    have hb6 : base ≤ W6.heap.size := Nat.le_trans HB.out.2.1 hS.size
    have hcall := Lib.hid (pgive_any (HD.out.step hS) HO.out hb6 _ x _ (HAV.out W6 hS) (HP.out.step hS) HX.out.1 HX.out.2 (fun j hj => hj) HB.out.2.2.1 HB.out.2.2.2)
    have HS := Lib.hid hS
    have eg := enters_give
    clear hWx hW6 hS hb6 kq hp q0 q1 q2 q3 q4 q5 q6 q7 q8
    go_wp2_with fail
    refine hcall.out.mono ?_
    clear hcall eg
    rintro e w' he
    have he := DoEnds.before HS.out (he)
    cases hR : bookOf (withOne (giveD h b x.dst x.shw x.seats)) with
    | ok b' =>
      rw [hR] at he
      obtain ⟨rfl, e1, e2, e3⟩ := he
      have HE := Lib.hid (And.intro e1 (And.intro e2 e3))
      clear e1 e2 e3
      go_wp2
      go_end0
      rw [hR]
      exact ⟨rfl, HE.out⟩
    | error c =>
      rw [hR] at he
      obtain ⟨rfl, e1⟩ := he
      first
        | exact ⟨rfl, ⟨rfl, e1⟩⟩
        | (refine ⟨rfl, ?_⟩
           rw [hR]
           exact ⟨rfl, e1⟩)
  · obtain ⟨mm, hmm⟩ : ∃ m, m = Wd.msgs.getD x.msg.toNat noMsg := ⟨_, rfl⟩
    have hk := HKN.out
    have hdd : deskD h Wd b x = withNone (takeD h b mm) := by rw [hmm]; unfold deskD; rw [← hk]; rfl
    have kq : W.cell? ⟨ak, 4, none⟩ = some (.func (.func 92) #[] #[]) := by have := HK.out.cell 4; simpa [kinds] using this
    rw [hdd]
    have HMM := Lib.hid hmm
    clear hk hdd hmm
    go_enter Tryz.func94, Tryz.ntmps94
    go_upto_region 0 with (fail)
    refine wp_region_seq (kdOf [] []) [0, 1, 3, 7, 0, 0, 0, 127] [0, 1, 2, 3, 4, 5, 6] [7] (by kernel_rfl) (by kernel_rfl) (fun i T z hi hk => by simp [kdOf] at hk <;> (try (split at hk <;> cases hk))) ?_
    intro Wx hWx
    have kq := hWx.kc kq
    have hp := hWx.kc hp
    have q0 := hWx.kc q0
    have q1 := hWx.kc q1
    have q2 := hWx.kc q2
    have q3 := hWx.kc q3
    have q4 := hWx.kc q4
    have q5 := hWx.kc q5
    have q6 := hWx.kc q6
    have q7 := hWx.kc q7
    have q8 := hWx.kc q8
    repeat (first | (refine run_off rfl rfl (by rfl) ?_; (try simp only [Act.put, zA, zB, zC])) | (refine run_chain_off rfl rfl (by rfl) (K0_mono _) ?_; (try simp only [Act.put, zA, zB, zC])) | ((refine run_want rfl rfl (by rfl) ⟨?_, fun W hW => ?_, ?_⟩; rotate_left; (· (have d0 := hW.kc kq; have d1 := hW.kc hp; have d2 := hW.kc q0; have d3 := hW.kc q1; have d4 := hW.kc q2; have d5 := hW.kc q3; have d6 := hW.kc q4; have d7 := hW.kc q5; have d8 := hW.kc q6; have d9 := hW.kc q7; have d10 := hW.kc q8; go_simp; (try with_reducible rfl)))); (try simp only [Act.put, zA, zB, zC])))
    refine run_end (L := [_]) rfl (fun W6 hW6 => ?_)
    have hS := hWx.trans hW6
    have hb6 : base ≤ W6.heap.size := Nat.le_trans HB.out.2.1 hS.size
    have hcall := Lib.hid (ptake_any (HD.out.step hS) HO.out hb6 _ x _ (HAV.out W6 hS) (HP.out.step hS) HX.out.1 (HI.out HKN.out.symm))
    have HS := Lib.hid hS
    have eg := enters_take
    clear hWx hW6 hS hb6 kq hp q0 q1 q2 q3 q4 q5 q6 q7 q8
    go_wp2_with fail
    refine hcall.out.mono ?_
    clear hcall eg
    rintro e w' he
    rw [← HMM.out] at he
    have he := DoEnds.before HS.out (he.play (X := X) (XI := XI) (C := fun j => j = gp ∨ vm.ownBlock = some j) (HP.out.step HS.out) HX.out.1 HX.out.2)
    cases hR : bookOf (withNone (takeD h b mm)) with
    | ok b' =>
      rw [hR] at he
      obtain ⟨rfl, e1, e2, e3⟩ := he
      have HE := Lib.hid (And.intro e1 (And.intro e2 e3))
      clear e1 e2 e3
      go_wp2
      go_end0
      rw [hR]
      exact ⟨rfl, HE.out⟩
    | error c =>
      rw [hR] at he
      obtain ⟨rfl, e1⟩ := he
      first
        | exact ⟨rfl, ⟨rfl, e1⟩⟩
        | (refine ⟨rfl, ?_⟩
           rw [hR]
           exact ⟨rfl, e1⟩)
  · have hk := HKN.out
    have hdd : deskD h Wd b x = withNone (bookOf (loseD h b x.shw x.day)) := by unfold deskD; rw [← hk]; rfl
    have kq : W.cell? ⟨ak, 5, none⟩ = some (.func (.func 93) #[] #[]) := by have := HK.out.cell 5; simpa [kinds] using this
    rw [hdd]
    clear hk hdd
    go_enter Tryz.func94, Tryz.ntmps94
    go_upto_region 0 with (fail)
    refine wp_region_seq (kdOf [] []) [0, 1, 3, 7, 0, 0, 0, 127] [0, 1, 2, 3, 4, 5, 6] [7] (by kernel_rfl) (by kernel_rfl) (fun i T z hi hk => by simp [kdOf] at hk <;> (try (split at hk <;> cases hk))) ?_
    intro Wx hWx
    have kq := hWx.kc kq
    have hp := hWx.kc hp
    have q0 := hWx.kc q0
    have q1 := hWx.kc q1
    have q2 := hWx.kc q2
    have q3 := hWx.kc q3
    have q4 := hWx.kc q4
    have q5 := hWx.kc q5
    have q6 := hWx.kc q6
    have q7 := hWx.kc q7
    have q8 := hWx.kc q8
    repeat (first | (refine run_off rfl rfl (by rfl) ?_; (try simp only [Act.put, zA, zB, zC])) | (refine run_chain_off rfl rfl (by rfl) (K0_mono _) ?_; (try simp only [Act.put, zA, zB, zC])) | ((refine run_want rfl rfl (by rfl) ⟨?_, fun W hW => ?_, ?_⟩; rotate_left; (· (have d0 := hW.kc kq; have d1 := hW.kc hp; have d2 := hW.kc q0; have d3 := hW.kc q1; have d4 := hW.kc q2; have d5 := hW.kc q3; have d6 := hW.kc q4; have d7 := hW.kc q5; have d8 := hW.kc q6; have d9 := hW.kc q7; have d10 := hW.kc q8; go_simp; (try with_reducible rfl)))); (try simp only [Act.put, zA, zB, zC])))
    refine run_end (L := [_]) rfl (fun W6 hW6 => ?_)
    have hS := hWx.trans hW6
    have hb6 : base ≤ W6.heap.size := Nat.le_trans HB.out.2.1 hS.size
    have hcall := Lib.hid (plose_any (HD.out.step hS) HO.out HB.out.1 hb6 _ x _ (.pointer (some ⟨gp, 0, none⟩)) (HAV.out W6 hS))
    have HS := Lib.hid hS
    have eg := enters_lose
    clear hWx hW6 hS hb6 kq hp q0 q1 q2 q3 q4 q5 q6 q7 q8
    go_wp2_with fail
    refine hcall.out.mono ?_
    clear hcall eg
    rintro e w' he
    have he := DoEnds.before HS.out (he.play (X := X) (XI := XI) (C := fun j => j = gp ∨ vm.ownBlock = some j) (HP.out.step HS.out) HX.out.1 HX.out.2)
    cases hR : bookOf (withNone (bookOf (loseD h b x.shw x.day))) with
    | ok b' =>
      rw [hR] at he
      obtain ⟨rfl, e1, e2, e3⟩ := he
      have HE := Lib.hid (And.intro e1 (And.intro e2 e3))
      clear e1 e2 e3
      go_wp2
      go_end0
      rw [hR]
      exact ⟨rfl, HE.out⟩
    | error c =>
      rw [hR] at he
      obtain ⟨rfl, e1⟩ := he
      first
        | exact ⟨rfl, ⟨rfl, e1⟩⟩
        | (refine ⟨rfl, ?_⟩
           rw [hR]
           exact ⟨rfl, e1⟩)
def TyB (w : World) (T : TypeId) (j : Nat) : Prop := ∃ cur f, w.heap[j]? = some (.cells cur T f)
theorem own_ty {w : World} {base s : Nat} {e T : TypeId} {v : Value} {n : Nat} {xs : List Value} (h : w.ownsRow base e s v n xs) (hne : e ≠ T) : ∀ k, v.ownBlock = some k → base ≤ k ∧ ¬ TyB w T k := by
 intro k hk
 rcases h.2 with ⟨rfl, _⟩ | ⟨g, cap, cur, rfl, hb, hg, _⟩
 ·simp [Value.ownBlock] at hk
 ·obtain rfl : g = k := by simpa [Value.ownBlock] using hk
  refine ⟨hb, fun ⟨c, f, hc⟩ => ?_⟩
  rw [hg] at hc
  injection hc with hc
  injection hc with _ hc _
  exact hne hc
theorem _root_.Go.Proofs.YtgpiieogiafdoaaGreat.Desk.bookT {base : Nat} {w : World} {g : Nat} {h : House} {b : Book} {c0 c1 c2 c3 c4 vs vo vt : Value} {xs : List Value} (D : Desk base w g h b c0 c1 c2 c3 c4 vs vo vt xs) : Rep.rep (fun j => j < base ∨ TyB w 86 j) w [.int .i64 b.agency, vs, vo, .int .i64 b.sent, vt, .int .i64 b.cash] b := by
 have key : ∀ {s n : Nat} {e : TypeId} {v : Value} {xs : List Value}, w.ownsRow base e s v n xs → e ≠ 86 → ∀ k, v.ownBlock = some k → ¬ (k < base ∨ TyB w 86 k) := fun h hne k hk hh => by
  have := own_ty h hne k hk
  rcases hh with hh | hh
  ·omega
  ·exact this.2 hh
 have ho2 : w.ownsRow base 172 2 vt b.took.length _ := D.took.choose_spec.1
 refine ⟨vs, vo, vt, rfl, ?_, OwnL.slb (D.off.own (S := fun j => j < base ∨ TyB w 86 j)) (key D.off (by decide)), OwnL.slb (D.took.flat _) (key ho2 (by decide))⟩
 have hl := D.len
 have : OwnL (fun j => j < base ∨ TyB w 86 j) base 23 w vs b.seats := by
  refine ⟨xs, D.outer, fun i hi => ⟨xs[i]'(by omega), ?_, OwnL.slb (S := avoid (fun j => j < base ∨ TyB w 86 j) vs) (D.row i hi (by omega)).own fun k hq ha => ?_⟩⟩
  ·show (xs.drop (i * 1)).take 1 = _
   rw [Nat.mul_one, List.drop_eq_getElem_cons (by omega), List.take_succ_cons, List.take_zero]
  ·rcases ha with ha | ha
   ·exact key (D.row i hi (by omega)) (by decide) k hq ha
   ·exact D.apart.at (i := 1) (j := i + 4) (by simp) (by simp; omega) (by omega) (by simpa using ha) (by simpa using hq)
 exact OwnL.slb this (key D.outer (by decide))
def DoneEndsT (C : Nat → Prop) (r : Except Int Book) (Z : World → Prop) (w : World) (e : Ending) (w' : World) : Prop := match r with
 | .ok b' => ∃ v', e = .returned (.tuple #[v', .int .i64 0]) ∧ AV (fun j => Old w j ∨ TyB w' 86 j) w' v' b' ∧ Z w' ∧ StepX C w w'
 | .error c => ∃ v', e = .returned (.tuple #[v', .int .i64 c]) ∧ AV (Old w) w' v' noBook ∧ Step w w'
set_option maxHeartbeats 2000000 in
theorem done_anyT (S : Nat → Prop) (h : House) (b : Book) (v u : Value) (w : World) (f : FuncId) (cap : Array Value) (eg : ∀ args w, (callFunc f args).run Tryz.prog w = .ok (.enter f args) w) (C : Nat → Prop) (r : Except Int Book) (Z : World → Prop)
  (hv : AV S w v h) (hu : AV S w u b) (hC : ∀ j, C j → S j ∧ j < w.heap.size) (hZ : ∀ W W', Z W → StepX (fun j => w.heap.size ≤ j ∧ j < w.heap.size + 4) W W' → Z W')
  (hdo : checkR h b = 0 → ∀ W base g, Step w W → w.heap.size + 4 ≤ base → base ≤ W.heap.size → DeskE base W g h b → Calls Tryz.prog f (#[.pointer (some ⟨g, 0, none⟩)] ++ cap) W (fun e W' => DoEnds base C g h r Z e W W')) :
  Calls Tryz.prog 66 #[v, u, .func (.func f) #[] cap] w (fun e w' => DoneEndsT C (doneR h b r) Z w e w') := by
 obtain ⟨cs, rfl, hr⟩ := hv
 have hr0 := hr
 obtain ⟨c0, c1, c2, c3, c4, rfl, h0, h1, h2, h3, h4⟩ := hr
 obtain ⟨p0, k0, rfl⟩ := h0.form
 obtain ⟨p1, k1, rfl⟩ := h1.form
 obtain ⟨p2, k2, rfl⟩ := h2.form
 obtain ⟨p3, k3, rfl⟩ := h3.form
 obtain ⟨p4, k4, rfl⟩ := h4.form
 obtain ⟨cs, rfl, hq⟩ := hu
 have hq0 := hq
 obtain ⟨d1, d2, d4, rfl, s1, s2, s4⟩ := hq
 obtain ⟨q1, m1, rfl⟩ := s1.form
 obtain ⟨q2, m2, rfl⟩ := s2.form
 obtain ⟨q4, m4, rfl⟩ := s4.form
 have hmf : ∀ (fn : Fn) (first cap : Array Value) (w : World), (Instr.makeFunc fn first cap).run Tryz.prog w = .ok (.func fn first cap) w := fun _ _ _ _ => rfl
 obtain ⟨W4, hW4⟩ : ∃ W4, W4 = (((w.alloc (.cells #[.slice p0 h.sectors.length k0, .slice p1 h.prices.length k1, .slice p2 h.dates.length k2, .slice p3 h.frm.length k3, .slice p4 h.holds.length k4] 41)).alloc (.cells #[.int .i64 b.agency, .slice q1 b.seats.length m1, .slice q2 b.off.length m2, .int .i64 b.sent, .slice q4 b.took.length m4, .int .i64 b.cash] 77)).alloc (.cells #[.int .i64 0, .slice none 0 0, .slice none 0 0, .int .i64 0, .slice none 0 0, .int .i64 0] 77)).alloc (.cells #[.int .i64 0] 36) := ⟨_, rfl⟩
 have hb0 : Bx W4 w.heap.size [.slice p0 h.sectors.length k0, .slice p1 h.prices.length k1, .slice p2 h.dates.length k2, .slice p3 h.frm.length k3, .slice p4 h.holds.length k4] 41 := by subst hW4; exact (((Bx.new _ _ _).alloc _).alloc _).alloc _
 have hb1 : Bx W4 (w.heap.size + 1) [.int .i64 b.agency, .slice q1 b.seats.length m1, .slice q2 b.off.length m2, .int .i64 b.sent, .slice q4 b.took.length m4, .int .i64 b.cash] 77 := by subst hW4; exact ((Bx.new' _ _ _ _ (by simp)).alloc _).alloc _
 have hb2 : Bx W4 (w.heap.size + 2) [.int .i64 0, .slice none 0 0, .slice none 0 0, .int .i64 0, .slice none 0 0, .int .i64 0] 77 := by subst hW4; exact (Bx.new' _ _ _ _ (by simp)).alloc _
 have hb3 : Bx W4 (w.heap.size + 3) [.int .i64 0] 36 := by subst hW4; exact Bx.new' _ _ _ _ (by simp)
 have hS : Step w W4 := by subst hW4; exact (by repeat (first | (with_reducible assumption) | (with_reducible exact Step.refl _) | (with_reducible apply Step.s_alloc) | (with_reducible apply Step.s_drew) | (with_reducible apply Step.s_drewN) | (with_reducible refine Step.trans ?_ (by with_reducible assumption))))
 have hz4 : W4.heap.size = w.heap.size + 4 := by subst hW4; simp
 have HB0 := Lib.hid hb0
 have HB1 := Lib.hid hb1
 have HB2 := Lib.hid hb2
 have HB3 := Lib.hid hb3
 have HS := Lib.hid hS
 have HZ4 := Lib.hid hz4
 have HR := Lib.hid (Rep.keep (.of_step hS) hr0)
 have HQ := Lib.hid (Rep.keep (.of_step hS) hq0)
 have HW := Lib.hid hW4
 have HC := Lib.hid hC
 have HZ := Lib.hid hZ
 have HDO := Lib.hid hdo
 clear hC hZ hdo h0 h1 h2 h3 h4 s1 s2 s4 hb0 hb1 hb2 hb3 hS hz4 hr0 hq0 hW4
 go_enter_defers Tryz.func66, Tryz.ntmps66
 go_wp2_with fail
 rw [← HW.out]
 clear HW
 refine (check_any S h b _ _ W4 ⟨_, rfl, HR.out⟩ ⟨_, rfl, HQ.out⟩).mono ?_
 rintro e w1 ⟨rfl, hS1⟩
 have HT := Lib.hid hS1
 clear hS1
 by_cases hck : checkR h b = 0
 rotate_left
 ·have hck1 : checkR h b = 1 := by unfold checkR at hck ⊢; split <;> simp_all
  have hres : doneR h b r = .error 1 := by simp [doneR, hck1]
  have HRES := Lib.hid hres
  rw [hck1]
  clear hck hck1 hres
  obtain ⟨f0, f1, f2, f3, f4, f5⟩ := cells6 (HB2.out.step HT.out)
  have zf := (HB2.out.step HT.out).frozen
  have z0 := (HB3.out.step HT.out).cell 0
  have z1 := (HB3.out.step HT.out).frozen
  go_wp2
  clear f0 f1 f2 f3 f4 f5 zf z0 z1
  have b2 := set6 (HB2.out.step HT.out) (.int .i64 0) (.slice none 0 0) (.slice none 0 0) (.int .i64 0) (.slice none 0 0) (.int .i64 0)
  have b2' := b2.1.setOther (b := w.heap.size + 3) (o := 0) (v := .int .i64 1) (by omega)
  have b3 := ((HB3.out.step HT.out).keep b2.2.keeps (by omega)).setCell 0 (.int .i64 1)
  refine leaves_two (k := 6) rfl siBook rfl rfl b2' rfl (load_errno _ _ _ (b3.cell 0)) ?_
  rw [HRES.out]
  refine ⟨_, rfl, noBook_av, ?_⟩
  refine Step.setNew (StepX.fresh (HS.out.trans HT.out) b2.2 (fun j hj => by omega)) ⟨w.heap.size + 3, 0, none⟩ _ (by show w.heap.size ≤ w.heap.size + 3; omega)
 have hres : doneR h b r = r := by simp [doneR, hck]
 have HDO := Lib.hid (HDO.out hck)
 have HRES := Lib.hid hres
 rw [hck]
 have HCK := Lib.hid hck
 clear hck hres
 obtain ⟨hO, hcash, hrl, hol, htl⟩ := okDesk_of HCK.out
 have hsl : b.seats.length ≤ 1000 := by have := hO.2.2.1; have := (bounds_valid hO.1).2.1; omega
 have hcall := Lib.hid (at_any S h b _ _ w1 ⟨_, rfl, Rep.keep (.of_step HT.out) HR.out⟩ ⟨_, rfl, Rep.keep (.of_step HT.out) HQ.out⟩ hsl (fun i hi => by have := hrl i hi; omega) (by omega) (by omega))
 clear hO hcash hrl hol htl hsl
 obtain ⟨e0, e1, e2, e3, e4⟩ := cells5 (HB0.out.step HT.out)
 obtain ⟨f0, f1, f2, f3, f4, f5⟩ := cells6 (HB1.out.step HT.out)
 go_wp2_with fail
 refine hcall.out.mono ?_
 rintro e w2 ⟨g, rfl, hD, hS2⟩
 have hz1 := HT.out.size
 have hz4 := HZ4.out
 have hz2 := hS2.size
 have hdo := HDO.out w2 w1.heap.size g ((HS.out.trans HT.out).trans hS2) (by omega) hz2 hD
 have HDC := Lib.hid hdo
 have HT2 := Lib.hid hS2
 clear hcall HDO hD hS2 e0 e1 e2 e3 e4 f0 f1 f2 f3 f4 f5 hdo hz1 hz4 hz2
 go_wp2_with fail
 refine HDC.out.mono ?_
 rintro e w3 he
 clear HDC
 cases hr : r with
 | error c =>
  rw [hr] at he
  obtain ⟨rfl, hS3⟩ := he
  have HS3 := Lib.hid hS3
  clear hS3
  have hz1 := HT.out.size
  have hz4 := HZ4.out
  have hb2 := ((HB2.out.step HT.out).step HT2.out).keep HS3.out.keeps (by omega)
  have hb3 := ((HB3.out.step HT.out).step HT2.out).keep HS3.out.keeps (by omega)
  refine leaves_cons (f := 112) (args := #[.pointer (some ⟨w.heap.size + 2, 0, none⟩), .pointer (some ⟨w.heap.size + 3, 0, none⟩)]) (by simp) (by simp [go_sem]) ?_
  refine (done1_caught (w.heap.size + 2) (w.heap.size + 3) c _ _ _ _ _ _ _ w3 hb2 hb3).mono ?_
  rintro e u' w4 ⟨⟨rfl, hb4, hb5, hS4⟩, rfl⟩
  show Leaves _ _ _ _ [] .returning w4
  refine leaves_two (k := 6) rfl siBook rfl rfl hb4 rfl (load_errno _ _ _ (hb5.cell 0)) ?_
  rw [HRES.out, hr]
  have hS0 : Step w w3 := StepX.fresh ((HS.out.trans HT.out).trans HT2.out) HS3.out (fun j hj => by omega)
  exact ⟨_, rfl, noBook_av, StepX.fresh hS0 hS4 (fun j hj => by rcases hj with rfl | rfl <;> omega)⟩
 | ok b' =>
  rw [hr] at he
  obtain ⟨rfl, hD, hZ3, hS3⟩ := he
  obtain ⟨W0, ⟨x0, x1, x2, x3, x4, vs, vo, vt, xs, hD⟩, hq1, hq2⟩ := hD
  have HD := Lib.hid hD
  have HQ12 := Lib.hid (And.intro hq1 hq2)
  have hbx3 : Bx w3 g [x0, x1, x2, x3, x4, .int .i64 b'.agency, vs, vo, .int .i64 b'.sent, vt, .int .i64 b'.cash] 186 := by unfold Bx; rw [hq2 g hD.gb]; exact hD.bx
  clear hq1 hq2
  have HZ3 := Lib.hid hZ3
  have HS3 := Lib.hid hS3
  have HRR := Lib.hid hr
  have hC := HC.out
  have hz1 := HT.out.size
  have hz4 := HZ4.out
  have hn2 : ¬ (w1.heap.size ≤ w.heap.size + 2 ∨ C (w.heap.size + 2)) := fun h => h.elim (fun h => by omega) (fun h => by have := (hC _ h).2; omega)
  have hn3 : ¬ (w1.heap.size ≤ w.heap.size + 3 ∨ C (w.heap.size + 3)) := fun h => h.elim (fun h => by omega) (fun h => by have := (hC _ h).2; omega)
  have HB2' := Lib.hid (((HB2.out.step HT.out).step HT2.out).keep HS3.out.keeps hn2)
  have HB3' := Lib.hid (((HB3.out.step HT.out).step HT2.out).keep HS3.out.keeps hn3)
  have HZZ := Lib.hid (And.intro hz1 hz4)
  obtain ⟨_, e5, e6, e7, e8, e9, e10⟩ := cells11 hbx3
  clear hbx3
  obtain ⟨f0, f1, f2, f3, f4, f5⟩ := cells6 HB2'.out
  have zf := HB2'.out.frozen
  have z0 := HB3'.out.cell 0
  have z1 := HB3'.out.frozen
  obtain ⟨px, cx, rfl, _, _⟩ := owns_form hD.outer
  obtain ⟨py, cy, rfl, _, _⟩ := owns_form hD.off
  obtain ⟨pz, cz, rfl, _, _⟩ := hD.took.form
  clear hD hZ3 hS3 hr hC hz1 hz4 hn2 hn3
  go_wp2
  clear e5 e6 e7 e8 e9 e10 f0 f1 f2 f3 f4 f5 zf z0 z1
  have hz1 := HZZ.out.1
  have hz4 := HZZ.out.2
  have b2 := set6 HB2'.out (.int .i64 b'.agency) (.slice px b'.seats.length cx) (.slice py b'.off.length cy) (.int .i64 b'.sent) (.slice pz b'.took.length cz) (.int .i64 b'.cash)
  have b2' := b2.1.setOther (b := w.heap.size + 3) (o := 0) (v := .int .i64 0) (by omega)
  have b3 := (HB3'.out.keep b2.2.keeps (by omega)).setCell 0 (.int .i64 0)
  have s2 : StepX (fun j => j = w.heap.size + 2 ∨ j = w.heap.size + 3) w3 _ := (b2.2.mono (fun _ _ h => .inl h)).setCell ⟨w.heap.size + 3, 0, none⟩ (.int .i64 0) (.inr rfl)
  refine leaves_cons (f := 112) (args := #[.pointer (some ⟨w.heap.size + 2, 0, none⟩), .pointer (some ⟨w.heap.size + 3, 0, none⟩)]) (by simp) (by simp [go_sem]) ?_
  refine (done1_idle _ _ _).mono ?_
  rintro e u' w4 ⟨⟨rfl, hS4⟩, rfl⟩
  have s4 := s2.trans (.of hS4)
  show Leaves _ _ _ _ [] .returning w4
  refine leaves_two (k := 6) rfl siBook rfl rfl (b2'.step hS4) rfl (load_errno _ _ _ ((b3.step hS4).cell 0)) ?_
  rw [HRES.out, HRR.out]
  refine ⟨_, rfl, ⟨_, rfl, ?_⟩, HZ.out w3 w4 HZ3.out (s4.mono fun j _ hj => by omega), ?_⟩
  ·have h3 := Rep.keep (w' := w3) ⟨HQ12.out.1, fun j _ hs => HQ12.out.2 j (by rcases Nat.lt_or_ge j w1.heap.size with a | a; exact absurd (.inl a) hs; exact a)⟩ HD.out.bookT
   have h4 := Rep.weak (T := fun j => j < w1.heap.size ∨ TyB w3 86 j ∨ w3.heap.size ≤ j) (fun j hj hs => by
    rcases hs with hs | ⟨cur, f, hs⟩ | hs
    ·exact .inl hs
    ·rcases Nat.lt_or_ge j w1.heap.size with a | a
     ·exact .inl a
     ·exact .inr ⟨cur, f, by rw [← HQ12.out.2 j a]; exact hs⟩
    ·omega) h3
   refine Rep.weak (fun j _ hj => ?_) (Rep.keep (s4.keeps.mono fun j _ hj => .inl (by omega)) h4)
   rcases hj with hj | ⟨cur, f, hj⟩
   ·exact .inl (by unfold Old at hj; omega)
   ·rcases Nat.lt_or_ge j w1.heap.size with a | a
    ·exact .inl a
    ·rcases Nat.lt_or_ge j w3.heap.size with c | c
     ·exact .inr (.inl ⟨cur, f, by rw [← s4.block j c (by omega)]; exact hj⟩)
     ·exact .inr (.inr c)
  ·have a1 : StepX C w w2 := .of ((HS.out.trans HT.out).trans HT2.out)
   exact (a1.over HS3.out (fun j hj => hj.imp (fun h => by omega) id)).over s4 (fun j hj => .inl (by omega))
end Go.Proofs.YtgpiieogiafdoaaGreat
