/- Walks and plain laws, part d. -/
import Derived.Test.YtgpiieogiafdoaaGreatMu
import Derived.Test.YtgpiieogiafdoaaGreatMv
import Derived.Test.YtgpiieogiafdoaaGreatMw
import Derived.Test.YtgpiieogiafdoaaGreatRows
import Derived.BigQuiet
import Derived.Deep.AppendLies
import Derived.Deep.DeepCutAuto
import Derived.Deep.QuietTactic
import Derived.Deep.RegionHeld3
import Derived.Defers
import Derived.Laws.MakeOwn
import Derived.Laws.OwnMore
import Derived.Laws.Pointers
import Derived.Laws.StructEq
import Derived.Lib.Hide
import Derived.Recover
import Derived.Shelf.Abstract
import Derived.WalkKit
import Derived.WalkLawsBesides
import Derived.WalkSmall
import Derived.WalkSpells
import Derived.WideKeyRuns
set_option maxHeartbeats 16000000
set_option maxRecDepth 100000
namespace Go.Proofs.YtgpiieogiafdoaaGreat
set_option linter.unusedSimpArgs false
set_option linter.unusedVariables false
open Go.RowKit Go.BT
theorem not_take {α : Type} {x : α} {l : List α} {k : Nat} (hl : k < l.length) (ht : x ∉ l.take k) (h : x ≠ l[k]) : x ∉ l.take (k + 1) := by
 intro hm
 rw [List.take_succ_eq_append_getElem hl] at hm
 rcases List.mem_append.1 hm with h1 | h1
 ·exact ht h1
 ·exact h (List.mem_singleton.1 h1)
theorem index_key (S : Nat → Prop) (l : List Key) (kf kn : Int) (v : Value) (w : World) (hv : SL S w v l) :
  Calls Tryz.prog 145 #[v, .agg #[.int .i64 kf, .int .i64 kn]] w fun e w' => ∃ n : Int, e = .returned (.int .i64 n) ∧ (0 ≤ n ↔ (⟨kf, kn⟩ : Key) ∈ l) ∧ Step w w' := by
 obtain ⟨px, kx, bx, ox, rfl, _, mx, hpx, hcx, _⟩ := hv.keys
 obtain ⟨W0, hW0⟩ : ∃ W0, W0 = w.alloc (.cells #[.int .i64 kf, .int .i64 kn] 172) := ⟨_, rfl⟩
 have hb : Bx W0 w.heap.size [.int .i64 kf, .int .i64 kn] 172 := by subst hW0; exact Bx.new _ _ _
 have hS : Step w W0 := by subst hW0; exact (by with_reducible repeat (first | assumption | exact Step.refl _ | apply Step.s_alloc | apply Step.s_drew | apply Step.s_drewN | refine Step.trans ?_ (by assumption)))
 have HB := zH hb
 have HS := zH hS
 have HX := zH (And.intro hpx hcx)
 have HW := zH hW0
 clear hv hpx hcx hb hS hW0
 go_enter Tryz.func145, Tryz.ntmps145
 go_wp2
 go_loopw [8] (fun i wr => ∃ k : Nat, k ≤ l.length ∧ i = .int .i64 k ∧ (⟨kf, kn⟩ : Key) ∉ l.take k ∧ Step W0 wr) (fun i _ => l.length - (intOf i).toNat)
 case atStart => exact ⟨0, Nat.zero_le _, rfl, by simp, by rw [HW.out]; exact Step.refl _⟩
 case round =>
  obtain ⟨k, hk, rfl, ht, hT⟩ := hrel
  have HA := zH ht
  have HT := zH hT
  clear ht hT
  have e0 := (HB.out.step HT.out).cell 0
  have e1 := (HB.out.step HT.out).cell 1
  simp only [zD, zE] at e0 e1
  by_cases hlt : k < l.length
  ·obtain rfl := HX.out.1 (by omega)
   obtain ⟨g1, g3⟩ := HX.out.2 k hlt
   have g1 := (HS.out.trans HT.out).kc g1
   have g3 := (HS.out.trans HT.out).kc g3
   have hix1 : (0 : Int) ≤ (k : Int) ∧ (k : Int) < (l.length : Int) := by omega
   obtain ⟨x, hx⟩ := (show ∃ x, l[k] = x from ⟨_, rfl⟩)
   rw [hx] at g1 g3
   have HK := zH hx
   clear hx
   obtain ⟨xf, xn⟩ := x
   dsimp only at g1 g3
   by_cases q1 : kf = xf
   ·subst q1
    by_cases q2 : kn = xn
    ·subst q2
     have HQ := zH (show (⟨kf, kn⟩ : Key) ∈ l by rw [← HK.out]; exact List.getElem_mem hlt)
     go_wp2
     go_quiet (fail)
     go_wp2
     go_ret
     exact ⟨k, rfl, by simpa using HQ.out, HS.out.trans (HT.out.trans (Step.drewN _ _))⟩
    ·have HF := zH (not_take hlt HA.out (show (⟨kf, kn⟩ : Key) ≠ l[k] by rw [HK.out]; simpa using q2))
     go_wp2
     go_quiet (fail)
     go_wp2
     go_roundw
     case rel => exact ⟨k + 1, by omega, by go_num, HF.out, HT.out.trans (Step.drewN _ _)⟩
     case measure => simp [intOf]; omega
   ·have HF := zH (not_take hlt HA.out (show (⟨kf, kn⟩ : Key) ≠ l[k] by rw [HK.out]; simp [q1]))
    go_wp2
    go_quiet (fail)
    go_wp2
    go_roundw
    case rel => exact ⟨k + 1, by omega, by go_num, HF.out, HT.out.trans (Step.drewN _ _)⟩
    case measure => simp [intOf]; omega
  ·have HE := zH (show (⟨kf, kn⟩ : Key) ∉ l by have := HA.out; rwa [List.take_of_length_le (by omega)] at this)
   clear HA
   go_wp2
   go_ret
   exact ⟨-1, rfl, by simp [HE.out], HS.out.trans HT.out⟩
def hasK (l : List Key) (k : Key) : Bool := decide (k ∈ l)
theorem contains_key (S : Nat → Prop) (l : List Key) (kf kn : Int) (v : Value) (w : World) (hv : SL S w v l) :
  Calls Tryz.prog 122 #[v, .agg #[.int .i64 kf, .int .i64 kn]] w fun e w' => e = .returned (.bool (hasK l ⟨kf, kn⟩)) ∧ Step w w' := by
 have hS : Step w (w.alloc (.cells #[.int .i64 kf, .int .i64 kn] 172)) := (by with_reducible repeat (first | assumption | exact Step.refl _ | apply Step.s_alloc | apply Step.s_drew | apply Step.s_drewN | refine Step.trans ?_ (by assumption)))
 have HS := zH hS
 have HC := zH (index_key S l kf kn v _ (hv.keep (.of_step hS)))
 obtain ⟨p, c, rfl⟩ := hv.form
 clear hS hv
 go_enter Tryz.func122, Tryz.ntmps122
 go_wp2_with fail
 refine HC.out.mono ?_
 rintro e wn ⟨n, rfl, hn, hSn⟩
 have HF := zH (show hasK l ⟨kf, kn⟩ = decide (0 ≤ n) by unfold hasK; exact if q : 0 ≤ n then by rw [decide_eq_true q, decide_eq_true (hn.1 q)] else by rw [decide_eq_false q, decide_eq_false (fun h => q (hn.2 h))])
 have HT := zH hSn
 clear hSn hn HC
 go_wp2
 go_ret
 exact ⟨by rw [HF.out]; rfl, HS.out.trans HT.out⟩
section
variable {base : Nat} {w : World} {g : Nat} {h : House} {b : Book} {c0 c1 c2 c3 c4 vs vo vt : Value} {xs : List Value}
end
end Go.Proofs.YtgpiieogiafdoaaGreat
namespace Go.BT.Late
open Go.RowKit Go.BT
section
variable (P : Program) (ops : Array Oper) (Y : Nat → Prop) (base : Nat) (kd : Nat → Kd)
def go (i : Nat) (K : Cont) : Cont := fun N a w =>
 match kd i with
 | .silent => ∃ o v, ops[i]? = some o ∧ YieldsIf P ops (StepX Y w) o v a ∧ K N (a.put o.dst v) w
 | .chain => ∀ W, Step w W → wpOp P ops QF i (fun a' w' => Step W w' ∧ K (fun g => N g ∧ (g < W.heap.size ∨ w'.heap.size ≤ g)) a' w') a W
 | .alloc T z => ∀ W g, Step w W → W.heap[g]? = some (.cells (madeC z) T (0, 0)) → base ≤ g → N g → K (fun x => N x ∧ x ≠ g) (a.put ((ops[i]?).bind (·.dst)) (madeV z g)) W
def run (l : List Nat) (K : Cont) : Cont := l.foldr (fun i K => go P ops Y base kd i K) K
variable {P ops Y base kd}
theorem go_cong {i : Nat} {K K' : Cont} (h : ∀ N a w, K N a w → K' N a w) {N : Nat → Prop} {a : Act} {w : World} (hg : go P ops Y base kd i K N a w) : go P ops Y base kd i K' N a w := by
 unfold go at *
 split at hg
 ·obtain ⟨o, v, ho, hy, hk⟩ := hg; exact ⟨o, v, ho, hy, h _ _ _ hk⟩
 ·exact fun W hW => wpOp_mono (fun a' w' ⟨hs, hk⟩ => ⟨hs, h _ _ _ hk⟩) (hg W hW)
 ·exact fun W g h1 h2 h3 h4 => h _ _ _ (hg W g h1 h2 h3 h4)
theorem go_mono {i : Nat} {K : Cont} (hK : ContMono (fun _ => False) K) : ContMono (fun _ => False) (go P ops Y base kd i K) := by
 intro N N' a w w' hN hs hg
 unfold go at *
 split at hg
 ·obtain ⟨o, v, ho, hy, hk⟩ := hg; exact ⟨o, v, ho, YieldsIf.step hy (StepX.of hs), hK _ _ _ _ _ hN hs hk⟩
 ·exact fun W hW => wpOp_mono (fun a' w' ⟨hs', hk⟩ => ⟨hs', hK _ _ _ _ _ (fun g ⟨h1, h2⟩ => ⟨hN g h1, h2⟩) (StepX.refl _ _) hk⟩) (hg W (hs.trans hW))
 ·exact fun W g h1 h2 h3 h4 => hK _ _ _ _ _ (fun x ⟨h5, h6⟩ => ⟨hN x h5, h6⟩) (StepX.refl _ _) (hg W g (hs.trans h1) h2 h3 (hN g h4))
theorem run_mono {K : Cont} (hK : ContMono (fun _ => False) K) : ∀ l, ContMono (fun _ => False) (run P ops Y base kd l K)
 | [] => hK
 | _ :: l => go_mono (run_mono hK l)
theorem exch {i j : Nat} {oi oj : Oper} (hi : ops[i]? = some oi) (hj : ops[j]? = some oj) (hap : oi.apart ops oj = true)
  (hsi : ∀ cs b, oi.op ≠ .select cs b) (hsj : ∀ cs b, oj.op ≠ .select cs b) (hsw : swaps (kd i) (kd j) = true) {K : Cont} (hK : ContMono (fun _ => False) K) {N : Nat → Prop} {a : Act} {w : World}
  (h : go P ops Y base kd i (go P ops Y base kd j K) N a w) : go P ops Y base kd j (go P ops Y base kd i K) N a w := by
 obtain ⟨h1, h2, h3⟩ := Oper.apart_spec hap
 have keepI : ∀ {S : World → Prop} {v : Value} {a : Act} (u : Value), YieldsIf P ops S oi v a → YieldsIf P ops S oi v (a.put oj.dst u) := fun {S v a} u hy =>
  hy.of_same (execOp_put oi hsi a oj.dst u h3) (wanted_put oi a oj.dst u h3)
 have backJ : ∀ {S : World → Prop} {v u : Value} {a : Act}, YieldsIf P ops S oj v (a.put oi.dst u) → YieldsIf P ops S oj v a := fun {S v u a} hy =>
  hy.of_same (execOp_put oj hsj a oi.dst u h1).symm (wanted_put oj a oi.dst u h1).symm
 have hdi : (ops[i]?).bind (·.dst) = oi.dst := by rw [hi]; rfl
 have hdj : (ops[j]?).bind (·.dst) = oj.dst := by rw [hj]; rfl
 have hsome : ∀ {w w' : World} {g : Nat} {o : Obj}, StepX (fun _ => False) w w' → base ≤ g → w.heap[g]? = some o → w'.heap[g]? = some o := fun {w w' g o} hs hb hg => by
  rw [hs.block g (Array.getElem?_eq_some_iff.1 hg).1 id]; exact hg
 cases hki : kd i with
 | silent =>
  cases hkj : kd j with
  | silent =>
   simp only [go, hki, hkj] at h ⊢
   obtain ⟨o, v, ho, hy, o', v', ho', hy', hk⟩ := h
   obtain rfl : oi = o := by rw [hi] at ho; exact Option.some.inj ho
   obtain rfl : oj = o' := by rw [hj] at ho'; exact Option.some.inj ho'
   exact ⟨_, v', hj, backJ hy', _, v, hi, keepI _ hy, by rw [← Act.put_comm a v v' h2]; exact hk⟩
  | chain =>
   simp only [go, hki, hkj] at h ⊢
   obtain ⟨o, v, ho, hy, hk⟩ := h
   obtain rfl : oi = o := by rw [hi] at ho; exact Option.some.inj ho
   intro W hW
   refine wpOp_mono (fun a' w' hh => ?_) (wpOp_putIf (S := StepX Y w) hj hap hsi hsj (fun _ _ _ hq => hq) hy (hk W hW))
   obtain ⟨hy', hs, hk'⟩ := hh
   exact ⟨hs, _, v, hi, YieldsIf.step hy' (StepX.of (hW.trans hs)), hk'⟩
  | alloc T z =>
   simp only [go, hki, hkj] at h ⊢
   obtain ⟨o, v, ho, hy, hk⟩ := h
   obtain rfl : oi = o := by rw [hi] at ho; exact Option.some.inj ho
   refine fun W g hs hb hg hN => ⟨_, v, hi, ?_, ?_⟩
   ·rw [hdj]; exact keepI _ (YieldsIf.step hy (StepX.of hs))
   ·rw [hdj, ← Act.put_comm a v _ h2, ← hdj]
    exact hk W g hs hb hg hN
 | chain =>
  cases hkj : kd j with
  | silent => simp [hki, hkj, swaps] at hsw
  | chain => simp [hki, hkj, swaps] at hsw
  | alloc T z =>
   simp only [go, hki, hkj] at h ⊢
   intro W0 g hs0 hb hg hN W hW
   refine wpOp_mono (fun a' w' hh => ?_) (wpOp_under (dst := (ops[j]?).bind (·.dst)) (v := madeV z g) hi (by rw [hdj]; exact h3) (by rw [hdj]; exact fun d hd he => h2 d he hd) hsi (h W (hs0.trans hW)))
   obtain ⟨a0, rfl, hs, hk⟩ := hh
   have hlt : g < W.heap.size := Nat.lt_of_lt_of_le (Array.getElem?_eq_some_iff.1 hb).1 hW.size
   exact ⟨hs, hK _ _ _ _ _ (fun x ⟨⟨q1, q2⟩, q3⟩ => ⟨⟨q1, q3⟩, q2⟩) (StepX.refl _ _) (hk w' g (StepX.refl _ _) (hsome (hW.trans hs) hg hb) hg ⟨hN, .inl hlt⟩)⟩
 | alloc T z =>
  cases hkj : kd j with
  | silent => simp [hki, hkj, swaps] at hsw
  | chain => simp [hki, hkj, swaps] at hsw
  | alloc T' z' =>
   simp only [go, hki, hkj] at h ⊢
   intro W' g' hs' hb' hg' hN' W g hs hb hg ⟨hN, hne⟩
   rw [hdi, hdj] at *
   rw [← Act.put_comm a _ _ h2]
   exact hK _ _ _ _ _ (fun x ⟨⟨q1, q2⟩, q3⟩ => ⟨⟨q1, q3⟩, q2⟩) (StepX.refl _ _) (h W g (hs'.trans hs) hb hg hN W g' (StepX.refl _ _) (hsome hs hg' hb') hg' ⟨hN', fun e => hne e.symm⟩)
theorem bring {K : Cont} (hK : ContMono (fun _ => False) K) (hsel : Region.noSelect ops = true) {j : Nat} {oj : Oper} (hj : ops[j]? = some oj) : ∀ (l1 l2 : List Nat) (N : Nat → Prop) (a : Act) (w : World),
  (∀ i ∈ l1, ∃ oi, ops[i]? = some oi ∧ oi.apart ops oj = true ∧ swaps (kd i) (kd j) = true) → run P ops Y base kd (l1 ++ j :: l2) K N a w → go P ops Y base kd j (run P ops Y base kd (l1 ++ l2) K) N a w := by
 intro l1
 induction l1 with
 | nil => intro l2 N a w _ h; exact h
 | cons i l1 ih =>
  intro l2 N a w hall h
  obtain ⟨oi, hi, hap, hsw⟩ := hall i (by simp)
  have h' : go P ops Y base kd i (go P ops Y base kd j (run P ops Y base kd (l1 ++ l2) K)) N a w :=
   go_cong (fun N a w hh => ih l2 N a w (fun k hk => hall k (by simp [hk])) hh) h
  exact exch hi hj hap (Region.noSelect_spec hsel i oi · · hi) (Region.noSelect_spec hsel j oj · · hj) hsw (run_mono hK _) h'
variable {tab : List Nat}
def K1 (P : Program) (ops : Array Oper) (Y : Nat → Prop) (Q : Exit → Act → World → Prop) (x : Nat) (t : List Nat) : Cont := fun _ a w => ∀ W, Step w W → wpOp P ops Q x (fun a' w' => StepX Y W w' ∧ wpOps P ops Q t a' w') a W
theorem K1_mono {Q : Exit → Act → World → Prop} (x : Nat) (t : List Nat) : ContMono (fun _ => False) (K1 P ops Y Q x t) := fun _ _ _ _ _ _ hs h W hW => h W (hs.trans hW)
def okWait (tab : List Nat) (ops : Array Oper) (kd : Nat → Kd) (y x : Nat) : Bool :=
 ancB tab y x || (isSil (kd y) && match ops[y]?, ops[x]? with
  | some oy, some ox => oy.apart ops ox
  | _, _ => false)
def okSeq (tab : List Nat) (ops : Array Oper) (kd : Nat → Kd) (l : List Nat) (x : Nat) (t : List Nat) : Bool :=
 okTab tab ops && okList tab ops kd l && (l.all fun y => okWait tab ops kd y x) && (l.all fun y => t.all fun z => ancB tab y z) && okTail tab [] (x :: t) && okDeps ops [] (l ++ x :: t) && okAlloc ops kd l && Region.noSelect ops && (List.range ops.size).all (fun i => (l ++ x :: t).contains i) && (l ++ x :: t).all (fun i => decide (i < ops.size)) && decide (l ++ x :: t).Nodup
def runS (P : Program) (ops : Array Oper) (S : World → Prop) : List Nat → (Act → Prop) → Act → Prop
 | [], K, a => K a
 | i :: l, K, a => ∃ o v, ops[i]? = some o ∧ YieldsIf P ops S o v a ∧ runS P ops S l K (a.put o.dst v)
theorem runS_and {S : World → Prop} {C : Prop} {K : Act → Prop} : ∀ {l : List Nat} {a : Act}, runS P ops S l (fun a => C ∧ K a) a → C ∧ runS P ops S l K a
 | [], _, hr => hr
 | _ :: _, _, ⟨o, v, ho, hy, hr⟩ => ⟨(runS_and hr).1, o, v, ho, hy, (runS_and hr).2⟩
theorem runS_of_run {Q : Exit → Act → World → Prop} {x : Nat} {t : List Nat} {w : World} : ∀ {l : List Nat} {N : Nat → Prop} {a : Act}, (∀ y ∈ l, isSil (kd y) = true) → run P ops Y base kd l (K1 P ops Y Q x t) N a w → runS P ops (StepX Y w) l (fun a => wpOp P ops Q x (fun a' w' => StepX Y w w' ∧ wpOps P ops Q t a' w') a w) a := by
 intro l
 induction l with
 | nil => intro N a _ h; exact h w (StepX.refl _ w)
 | cons i l ih =>
  intro N a hl h
  have h1 := hl i (by simp)
  have h' : go P ops Y base kd i (run P ops Y base kd l (K1 P ops Y Q x t)) N a w := h
  unfold go at h'
  cases hk : kd i <;> simp [hk, isSil] at h1
  rw [hk] at h'
  obtain ⟨o, v, ho, hy, hr⟩ := h'
  exact ⟨o, v, ho, hy, ih (fun y hy => hl y (by simp [hy])) hr⟩
theorem bringS (hsel : Region.noSelect ops = true) {S : World → Prop} {K : Act → Prop} {j : Nat} {oj : Oper} (hj : ops[j]? = some oj) : ∀ {l1 l2 : List Nat} {a : Act}, (∀ i ∈ l1, ∃ oi, ops[i]? = some oi ∧ oi.apart ops oj = true) → runS P ops S (l1 ++ j :: l2) K a →
  ∃ v, YieldsIf P ops S oj v a ∧ runS P ops S (l1 ++ l2) K (a.put oj.dst v) := by
 intro l1
 induction l1 with
 | nil =>
  intro l2 a _ h
  obtain ⟨o, v, ho, hy, hr⟩ := h
  obtain rfl : oj = o := by rw [hj] at ho; exact Option.some.inj ho
  exact ⟨v, hy, hr⟩
 | cons i l1 ih =>
  intro l2 a hall h
  obtain ⟨oi', hi', hap⟩ := hall i (by simp)
  obtain ⟨oi, vi, hi, hyi, hr⟩ := h
  obtain rfl : oi' = oi := by rw [hi] at hi'; exact (Option.some.inj hi').symm
  obtain ⟨v, hyj, hr2⟩ := ih (fun k hk => hall k (by simp [hk])) hr
  obtain ⟨h1, h2, h3⟩ := Oper.apart_spec hap
  have hsi := (Region.noSelect_spec hsel i oi' · · hi)
  have hsj := (Region.noSelect_spec hsel j oj · · hj)
  refine ⟨v, hyj.of_same (execOp_put oj hsj a oi'.dst vi h1).symm (wanted_put oj a oi'.dst vi h1).symm, oi', vi, hi, hyi.of_same (execOp_put oi' hsi a oj.dst v h3) (wanted_put oi' a oj.dst v h3), ?_⟩
  rw [← Act.put_comm a vi v h2]
  exact hr2
theorem tailS (hsel : Region.noSelect ops = true) {Q : Exit → Act → World → Prop} (hQ : ∀ c d v a w, Q (.panic c) (Act.put a d v) w → Q (.panic c) a w) {j : Nat} {oj : Oper} (hj : ops[j]? = some oj) {S : World → Prop} {K : Act → World → Prop} {w : World} : ∀ {l : List Nat} {a : Act},
  (∀ i ∈ l, ∃ oi, ops[i]? = some oi ∧ oi.apart ops oj = true) → runS P ops S l (fun a => wpOp P ops Q j K a w) a → wpOp P ops Q j (fun a' w' => runS P ops S l (fun a => K a w') a') a w := by
 intro l
 induction l with
 | nil => intro a _ h; exact h
 | cons i l ih =>
  intro a hall h
  obtain ⟨oi', hi', hap⟩ := hall i (by simp)
  obtain ⟨oi, vi, hi, hyi, hr⟩ := h
  obtain rfl : oi' = oi := by rw [hi] at hi'; exact (Option.some.inj hi').symm
  have h1 := ih (fun k hk => hall k (by simp [hk])) hr
  refine wpOp_mono (fun a' w' hh => ?_) (wpOp_putIf (S := S) hj hap (Region.noSelect_spec hsel i oi' · · hi) (Region.noSelect_spec hsel j oj · · hj) (fun c a w => hQ c _ _ a w) hyi h1)
  exact ⟨oi', vi, hi, hh.1, hh.2⟩
theorem mixed_sound {S : World → Prop} {Q : Exit → Act → World → Prop} (hsel : Region.noSelect ops = true) : ∀ (fuel : Nat) (l t : List Nat) (listed : Array Bool) (a : Act) (w : World),
  l.length + t.length ≤ fuel → listed.size = ops.size → (∀ i, i < ops.size → (listed.getD i true = false ↔ i ∈ l ++ t)) → (∀ i ∈ l ++ t, i < ops.size) → (l ++ t).Nodup → Closed ops listed →
  okTab tab ops = true → okList tab ops kd l = true → (∀ y ∈ l, ∀ x ∈ t, ancB tab y x = true) → TailOk tab [] t → DepsOk ops listed (l ++ t) → S w →
  runS P ops S l (fun a => wpOps P ops Q t a w) a → wpAny P .any ops Q fuel listed a w := by
 intro fuel
 induction fuel with
 | zero =>
  intro l t listed a w hf hsz hun hin hnd hcl htab _ _ htail hdeps _ h
  have hl : l = [] := List.eq_nil_of_length_eq_zero (by omega)
  subst hl
  exact tail_sound 0 t listed a w (by simpa using hf) hsz hun hin hnd hcl htab htail hdeps h
 | succ fuel ih =>
  intro l t listed a w hf hsz hun hin hnd hcl htab hlist hwait htail hdeps hS h
  by_cases hl : l = []
  ·subst hl
   exact tail_sound _ t listed a w (by simpa using hf) hsz hun hin hnd hcl htab htail hdeps h
  refine ⟨fun hr => ?_, fun j hj => ?_⟩
  ·exfalso
   cases l with
   | nil => exact hl rfl
   | cons x L =>
    obtain ⟨o, ho, hh⟩ := hdeps [] x (L ++ t) (by simp)
    have hx : x ∈ Region.ready .any ops listed := mem_ready.2 ⟨(hun x (hin x (by simp))).2 (by simp), o, ho, fun e he hb => (hh e he hb).resolve_right (by simp)⟩
    rw [hr] at hx; cases hx
  ·obtain ⟨h0, oj, hoj, hdj⟩ := mem_ready.1 hj
   have hjlt := (Array.getElem?_eq_some_iff.1 hoj).1
   have hjsz : j < listed.size := by omega
   have hjm := (hun j hjlt).1 h0
   have hcl' := closed_set hjsz hoj hdj hcl
   have notanc : ∀ i ∈ l ++ t, ancB tab i j = true → False := fun i hi ha => by
    have h1 := anc_listed hsz hcl htab j i oj hoj hdj ha
    have h2 := (hun i (hin i hi)).2 hi
    rw [getD_tf (by rw [hsz]; exact hin i hi), h1] at h2
    cases h2
   rcases List.mem_append.1 hjm with hjl | hjt
   ·obtain ⟨l1, l2, rfl⟩ := List.append_of_mem hjl
    obtain ⟨hlist', hpair⟩ := okList_drop hlist
    have hall : ∀ i ∈ l1, ∃ oi, ops[i]? = some oi ∧ oi.apart ops oj = true := fun i hi => by
     have hp := hpair i hi
     simp only [okPair, Bool.or_eq_true] at hp
     rcases hp with hp | hp
     ·exact (notanc i (by simp [hi]) hp).elim
     ·cases hoi : ops[i]? with
      | none => simp [hoi] at hp
      | some oi =>
       simp only [hoi, hoj, Bool.and_eq_true] at hp
       exact ⟨oi, rfl, hp.1⟩
    obtain ⟨v, hy, hr⟩ := bringS hsel hoj hall h
    have he : (l1 ++ j :: l2) ++ t = l1 ++ j :: (l2 ++ t) := by simp
    refine hy.wpOp hoj hS (ih (l1 ++ l2) t _ _ w (by simp at hf ⊢; omega) (by simp [hsz]) (by have := unlisted_drop (L1 := l1) (L2 := l2 ++ t) hjsz (by rw [← he]; exact hun) (by rw [← he]; exact hnd); simpa using this)
     (fun i hi => hin i (by simp only [List.mem_append, List.mem_cons] at hi ⊢; rcases hi with (hi | hi) | hi <;> simp [hi]))
     (by have := (nodup_mid (by rw [← he]; exact hnd)).2; simpa using this) hcl' htab hlist' (fun y hy x hx => hwait y (by simp only [List.mem_append, List.mem_cons] at hy ⊢; rcases hy with hy | hy <;> simp [hy]) x hx) htail
     (by have := depsOk_drop (L1 := l1) (L2 := l2 ++ t) hjsz (by rw [← he]; exact hdeps); simpa using this) hS hr)
   ·obtain ⟨y, hy⟩ := List.exists_mem_of_ne_nil l hl
    exact (notanc y (by simp [hy]) (hwait y hy j hjt)).elim
theorem seq_sound {Q : Exit → Act → World → Prop} (hsel : Region.noSelect ops = true) (hQ : ∀ c d v a w, Q (.panic c) (Act.put a d v) w → Q (.panic c) a w) {x0 : Nat} {t0 t : List Nat} (ht : t = x0 :: t0) : ∀ (fuel : Nat) (l : List Nat) (listed : Array Bool) (N : Nat → Prop) (a : Act) (w : World),
  l.length + t.length ≤ fuel → listed.size = ops.size → (∀ i, i < ops.size → (listed.getD i true = false ↔ i ∈ l ++ t)) → (∀ i ∈ l ++ t, i < ops.size) → (l ++ t).Nodup → Closed ops listed →
  okTab tab ops = true → okList tab ops kd l = true → (∀ y ∈ l, okWait tab ops kd y x0 = true) → (∀ y ∈ l, ∀ z ∈ t0, ancB tab y z = true) → TailOk tab [] t → DepsOk ops listed (l ++ t) → okAlloc ops kd l = true → (∀ i T z, i ∈ l → kd i = .alloc T z → Makes P ops i T z) →
  (∀ g, w.heap.size ≤ g → N g) → base ≤ w.heap.size → run P ops Y base kd l (K1 P ops Y Q x0 t0) N a w → wpAny P .any ops Q fuel listed a w := by
 intro fuel
 induction fuel with
 | zero =>
  intro l listed N a w hf hsz hun hin hnd hcl htab _ _ _ htail hdeps _ _ _ _ h
  have hl : l = [] := List.eq_nil_of_length_eq_zero (by omega)
  subst hl
  exact tail_sound 0 t listed a w (by simpa using hf) hsz hun hin hnd hcl htab htail hdeps (by rw [ht, wpOps_cons]; exact wpOp_mono (fun _ _ h => h.2) (h w (StepX.refl _ w)))
 | succ fuel ih =>
  intro l listed N a w hf hsz hun hin hnd hcl htab hlist hwait hanc htail hdeps halloc hz hN hbase h
  by_cases hl : l = []
  ·subst hl
   exact tail_sound _ t listed a w (by simpa using hf) hsz hun hin hnd hcl htab htail hdeps (by rw [ht, wpOps_cons]; exact wpOp_mono (fun _ _ h => h.2) (h w (StepX.refl _ w)))
  refine ⟨fun hr => ?_, fun j hj => ?_⟩
  ·-- nothing may come up: but something is left
   exfalso
   cases l with
   | nil => exact hl rfl
   | cons x L =>
    obtain ⟨o, ho, hh⟩ := hdeps [] x (L ++ t) (by simp)
    have hx : x ∈ Region.ready .any ops listed := mem_ready.2 ⟨(hun x (hin x (by simp))).2 (by simp), o, ho, fun e he hb => (hh e he hb).resolve_right (by simp)⟩
    rw [hr] at hx; cases hx
  ·obtain ⟨h0, oj, hoj, hdj⟩ := mem_ready.1 hj
   have hjlt := (Array.getElem?_eq_some_iff.1 hoj).1
   have hjsz : j < listed.size := by omega
   have hjm := (hun j hjlt).1 h0
   have hcl' := closed_set hjsz hoj hdj hcl
   have notanc : ∀ i ∈ l ++ t, ancB tab i j = true → False := fun i hi ha => by
    have h1 := anc_listed hsz hcl htab j i oj hoj hdj ha
    have h2 := (hun i (hin i hi)).2 hi
    rw [getD_tf (by rw [hsz]; exact hin i hi), h1] at h2
    cases h2
   rcases List.mem_append.1 hjm with hjl | hjt
   ·-- one of the first part
    obtain ⟨l1, l2, rfl⟩ := List.append_of_mem hjl
    obtain ⟨hlist', hpair⟩ := okList_drop hlist
    have hall : ∀ i ∈ l1, ∃ oi, ops[i]? = some oi ∧ oi.apart ops oj = true ∧ swaps (kd i) (kd j) = true := fun i hi => by
     have hp := hpair i hi
     simp only [okPair, Bool.or_eq_true] at hp
     rcases hp with hp | hp
     ·exact (notanc i (by simp [hi]) hp).elim
     ·cases hoi : ops[i]? with
      | none => simp [hoi] at hp
      | some oi =>
       simp only [hoi, hoj, Bool.and_eq_true] at hp
       exact ⟨oi, rfl, hp.1, hp.2⟩
    have hb := bring (K1_mono x0 t0) hsel hoj l1 l2 N a w hall h
    have he : (l1 ++ j :: l2) ++ t = l1 ++ j :: (l2 ++ t) := by simp
    have next : ∀ (N' : Nat → Prop) (a' : Act) (w' : World), (∀ g, w'.heap.size ≤ g → N' g) → w.heap.size ≤ w'.heap.size → run P ops Y base kd (l1 ++ l2) (K1 P ops Y Q x0 t0) N' a' w' → wpAny P .any ops Q fuel (listed.setIfInBounds j true) a' w' :=
     fun N' a' w' hN' hsz' hr => ih (l1 ++ l2) _ N' a' w' (by simp at hf ⊢; omega) (by simp [hsz]) (by have := unlisted_drop (L1 := l1) (L2 := l2 ++ t) hjsz (by rw [← he]; exact hun) (by rw [← he]; exact hnd); simpa using this)
      (fun i hi => hin i (by simp only [List.mem_append, List.mem_cons] at hi ⊢; rcases hi with (hi | hi) | hi <;> simp [hi]))
      (by have := (nodup_mid (by rw [← he]; exact hnd)).2; simpa using this) hcl' htab hlist' (fun y hy => hwait y (by simp only [List.mem_append, List.mem_cons] at hy ⊢; rcases hy with hy | hy <;> simp [hy])) (fun y hy => hanc y (by simp only [List.mem_append, List.mem_cons] at hy ⊢; rcases hy with hy | hy <;> simp [hy])) htail
      (by have := depsOk_drop (L1 := l1) (L2 := l2 ++ t) hjsz (by rw [← he]; exact hdeps); simpa using this)
      (by simp only [okAlloc, List.all_eq_true, List.mem_append, List.mem_cons] at halloc ⊢; exact fun x hx => halloc x (hx.elim .inl (fun h => .inr (.inr h))))
      (fun i T z hi => hz i T z (by simp only [List.mem_append, List.mem_cons] at hi ⊢; rcases hi with hi | hi <;> simp [hi])) hN' (by omega) hr
    cases hk : kd j with
    | silent =>
     simp only [go, hk] at hb
     obtain ⟨o, v, ho, hy, hr⟩ := hb
     exact hy.wpOp ho (StepX.refl _ w) (next N _ w hN (Nat.le_refl _) hr)
    | chain =>
     simp only [go, hk] at hb
     exact wpOp_any (wpOp_mono (fun a' w' ⟨hs, hr⟩ => next _ a' w' (fun g hg => ⟨hN g (Nat.le_trans hs.size hg), .inr hg⟩) hs.size hr) (hb w (StepX.refl _ w)))
    | alloc T z =>
     simp only [go, hk] at hb
     have hal := halloc
     simp only [okAlloc, List.all_eq_true] at hal
     have hal := hal j (by simp)
     simp only [hk, hoj, Bool.and_eq_true] at hal
     obtain ⟨hg, hop⟩ := hal
     refine wpOp_alloc hoj hop (by simpa using hg) (hz j T z (by simp) hk) ?_
     have hd : (ops[j]?).bind (·.dst) = oj.dst := by rw [hoj]; rfl
     rw [hd] at hb
     exact next _ _ _ (fun g hgg => ⟨hN g (by simp at hgg; omega), by simp at hgg; omega⟩) (by simp) (hb (w.alloc (.cells (madeC z) T)) w.heap.size (Step.alloc _ _) (heap_alloc_new w _) hbase (hN _ (Nat.le_refl _)))
   ·-- the tail's first may come, while what is left waits
    obtain ⟨y0, hy0⟩ := List.exists_mem_of_ne_nil l hl
    have hj0 : j = x0 := by
     rw [ht] at hjt
     rcases List.mem_cons.1 hjt with h1 | h1
     ·exact h1
     ·exact (notanc y0 (by simp [hy0]) (hanc y0 hy0 j h1)).elim
    subst hj0
    have hw1 : ∀ y ∈ l, isSil (kd y) = true ∧ ∃ oy, ops[y]? = some oy ∧ oy.apart ops oj = true := fun y hy => by
     have := hwait y hy
     simp only [okWait, Bool.or_eq_true, Bool.and_eq_true] at this
     rcases this with h1 | ⟨h2, h4⟩
     ·exact (notanc y (by simp [hy]) h1).elim
     ·cases hoy : ops[y]? with
      | none => simp [hoy] at h4
      | some oy => simp only [hoy, hoj] at h4; exact ⟨h2, oy, rfl, h4⟩
    have h5 := tailS hsel hQ hoj (fun i hi => (hw1 i hi).2) (runS_of_run (fun y hy => (hw1 y hy).1) h)
    have he : l ++ t = l ++ j :: t0 := by rw [ht]
    refine wpOp_mono (fun a' w' hk => ?_) h5
    obtain ⟨hS, hk⟩ := runS_and hk
    exact mixed_sound hsel fuel l t0 _ a' w' (by rw [ht] at hf; simp at hf; omega) (by simp [hsz]) (unlisted_drop (L1 := l) (L2 := t0) hjsz (by rw [← he]; exact hun) (by rw [← he]; exact hnd))
     (fun i hi => hin i (by rw [he]; simp only [List.mem_append, List.mem_cons] at hi ⊢; rcases hi with hi | hi <;> simp [hi])) (nodup_mid (by rw [← he]; exact hnd)).2 hcl' htab hlist hanc
     (fun u1 x u2 hu y hy => htail (j :: u1) x u2 (by rw [ht, hu]; simp) y (by simp at hy ⊢; exact .inr hy)) (depsOk_drop (L1 := l) (L2 := t0) hjsz (by rw [← he]; exact hdeps)) hS hk
theorem wp_region_late {id : Nat} {Q : Exit → Act → World → Prop} {a : Act} {w : World} (Y : Nat → Prop) (hQ : ∀ c d v a w, Q (.panic c) (Act.put a d v) w → Q (.panic c) a w) (kd : Nat → Kd) (tab l : List Nat) (x : Nat) (t : List Nat) (hm : P.follows .mixedOrders = true) (hok : okSeq tab ops kd l x t = true)
  (hz : ∀ i T z, i ∈ l → kd i = .alloc T z → Makes P ops i T z)
  (h : ∀ W, Step w W → run P ops Y w.heap.size kd l (K1 P ops Y Q x t) (fun _ => True) a W) : (Code.region id ops true).wp P Q a w := by
 simp only [okSeq, Bool.and_eq_true, List.all_eq_true, decide_eq_true_eq, List.mem_range, List.contains_iff_mem] at hok
 obtain ⟨⟨⟨⟨⟨⟨⟨⟨⟨⟨h0, h1⟩, h9⟩, h10⟩, h2⟩, h3⟩, h4⟩, h5⟩, h6⟩, h7⟩, h8⟩ := hok
 refine wp_region_any hm ?_
 refine seq_sound (base := w.heap.size) (kd := kd) h5 hQ rfl ops.size l _ (fun _ => True) a w.drew ?_ (by simp) ?_ h7 h8 ?_ h0 h1 h9 h10 (tailOk_of h2) ?_ h4 hz (fun _ _ => trivial) (by simp) (h w.drew (Step.drew w))
 ·have hsub : (l ++ x :: t).length ≤ (List.range ops.size).length := h8.length_le_of_subset (fun i hi => List.mem_range.2 (h7 i hi))
  simpa using hsub
 ·intro i hi
  simp only [Array.getD_eq_getD_getElem?, Array.getElem?_replicate, hi, if_true, Option.getD_some, true_iff]
  exact h6 i hi
 ·intro x' o ho hx
  have hlt := (Array.getElem?_eq_some_iff.1 ho).1
  simp [hlt] at hx
 ·intro L1 x' L2 he
  obtain ⟨o, ho, hh⟩ := depsOk_of (listed := Array.replicate ops.size false) h3 L1 x' L2 he
  exact ⟨o, ho, by simpa using hh⟩
section
variable {K : Cont} {N : Nat → Prop} {a : Act} {w : World} {i : Nat} {l : List Nat} {o : Oper}
theorem run_silent {v : Value} (hk : kd i = .silent) (ho : ops.toList[i]? = some o) (hy : YieldsIf P ops (StepX Y w) o v a) (h : run P ops Y base kd l K N (a.put o.dst v) w) : run P ops Y base kd (i :: l) K N a w := by
 show go P ops Y base kd i _ N a w
 unfold go; rw [hk]; exact ⟨o, v, by simpa using ho, hy, h⟩
theorem run_want (hk : kd i = .silent) (ho : ops.toList[i]? = some o) (hw : Region.wanted o (yielded ops a.tmps) = true) (h : ∃ v, (∀ W, StepX Y w W → (execOp a.eval o).run P W = .ok (.value v) W) ∧ run P ops Y base kd l K N (a.put o.dst v) w) :
  run P ops Y base kd (i :: l) K N a w := by
 obtain ⟨v, h1, h2⟩ := h
 exact run_silent hk ho (.inl ⟨hw, h1⟩) h2
theorem run_off (hk : kd i = .silent) (ho : ops.toList[i]? = some o) (hw : Region.wanted o (yielded ops a.tmps) = false) (h : run P ops Y base kd l K N (a.put o.dst undef) w) : run P ops Y base kd (i :: l) K N a w :=
 run_silent hk ho (.inr ⟨hw, rfl⟩) h
theorem run_chain (hk : kd i = .chain) (ho : ops.toList[i]? = some o) (hw : Region.wanted o (yielded ops a.tmps) = true)
  (h : ∀ W, StepX (fun _ => False) w W → ∀ K' : Act → World → Prop, (∀ a' w', StepX (fun _ => False) W w' → run P ops Y base kd l K (fun g => N g ∧ (g < W.heap.size ∨ w'.heap.size ≤ g)) a' w' → K' a' w') → o.wp P a W K' QF) : run P ops Y base kd (i :: l) K N a w := by
 show go P ops Y base kd i _ N a w
 have ho : ops[i]? = some o := by simpa using ho
 unfold go; rw [hk]
 intro W hW
 unfold wpOp; simp only [ho, hw, if_true]
 exact .inl (h W hW _ (fun a' w' hs hr => ⟨hs, hr⟩))
theorem run_chain_off (hk : kd i = .chain) (ho : ops.toList[i]? = some o) (hw : Region.wanted o (yielded ops a.tmps) = false) (hK : ContMono (fun _ => False) K)
  (h : run P ops Y base kd l K N (a.put o.dst undef) w) : run P ops Y base kd (i :: l) K N a w := by
 show go P ops Y base kd i _ N a w
 have ho : ops[i]? = some o := by simpa using ho
 unfold go; rw [hk]
 intro W hW
 unfold wpOp; simp only [ho, hw]
 exact ⟨StepX.refl _ _, run_mono hK l _ _ _ _ _ (fun g hg => hg.1) hW h⟩
theorem run_alloc {T : TypeId} {z : Value} (hk : kd i = .alloc T z) (ho : ops.toList[i]? = some o)
  (h : ∀ W g, StepX (fun _ => False) w W → W.heap[g]? = some (.cells z.cells T (0, 0)) → base ≤ g → N g → run P ops Y base kd l K (fun x => N x ∧ x ≠ g) (a.put o.dst (.pointer (some ⟨g, 0, none⟩))) W)
  (hv : ∀ g, madeV z g = .pointer (some ⟨g, 0, none⟩) := by exact fun _ => rfl) (hc : madeC z = z.cells := by exact rfl) : run P ops Y base kd (i :: l) K N a w := by
 show go P ops Y base kd i _ N a w
 have ho : ops[i]? = some o := by simpa using ho
 unfold go; rw [hk, ho]
 intro W g h1 h2 h3 h4
 rw [hc] at h2
 rw [hv]
 exact h W g h1 h2 h3 h4
theorem run_end {Q : Exit → Act → World → Prop} {x : Nat} {ox : Oper} {t : List Nat} {L : List Oper} (hx : ops.toList[x]? = some ox) (hg : ox.guard = none) (ht : t.map (fun i => ops.toList[i]?) = L.map some)
  (h : ∀ W, Step w W → ∀ K' : Act → World → Prop, (∀ a' w', StepX Y W w' → wpList P ops Q L a' w' → K' a' w') → ox.wp P a W K' Q) : run P ops Y base kd [] (K1 P ops Y Q x t) N a w := by
 intro W hW
 have hx' : ops[x]? = some ox := by simpa using hx
 unfold wpOp
 simp only [hx', Region.wanted, hg, if_true]
 refine .inl (h W hW _ fun a' w' h1 h2 => ⟨h1, ?_⟩)
 clear h hW h1
 induction t generalizing L a' w' with
 | nil =>
  cases L with
  | nil => exact h2
  | cons _ _ => simp at ht
 | cons x t ih =>
  cases L with
  | nil => simp at ht
  | cons o L =>
   simp only [List.map_cons, List.cons.injEq, Array.getElem?_toList] at ht
   rw [wpOps_cons]
   unfold wpOp
   unfold wpList at h2
   simp only [ht.1]
   split
   ·rename_i hw
    rw [if_pos hw] at h2
    exact h2.imp (Oper.wp_mono fun a' w' hh => ih (by simpa using ht.2) a' w' hh) id
   ·rename_i hw
    rw [if_neg hw] at h2
    exact ih (by simpa using ht.2) _ _ h2
end
end
end Go.BT.Late
namespace Go.Proofs.YtgpiieogiafdoaaGreat
set_option linter.unusedSimpArgs false
set_option linter.unusedVariables false
open Go.RowKit Go.BT
def takeE (h : House) (b : Book) (m : BT.Message) : Int := if messV h m = false then 1 else if m.dst ≠ b.agency then 2 else if hasK b.took (keyOf m) = true then 6 else
 if (m.seats.all fun j => decide (seatAt b m.shw j = -1)) = false then 8 else if 1000 ≤ b.took.length then 3 else 0
def takeTo (b : Book) (i : Nat) (l : List Int) : Book := l.foldl (fun b j => putSeat b i j.toNat 0) b
def takeP (b : Book) (m : BT.Message) : Book := { takeTo b m.shw.toNat m.seats with took := b.took ++ [keyOf m] }
def takeD (h : House) (b : Book) (m : BT.Message) : Except Int Book := if takeE h b m = 0 then .ok (takeP b m) else .error (takeE h b m)
theorem takeD_no {h : House} {b : Book} {m : BT.Message} {c : Int} (hc : takeE h b m = c) (h0 : c ≠ 0) : takeD h b m = .error c := by simp [takeD, hc, h0]
theorem takeD_yes {h : House} {b : Book} {m : BT.Message} (hc : takeE h b m = 0) : takeD h b m = .ok (takeP b m) := by simp [takeD, hc]
theorem like_take (b : Book) (i : Nat) : ∀ l : List Int, Like b (takeTo b i l) 0 := by
 intro l
 unfold takeTo
 induction l generalizing b with
 | nil => exact Like.refl b
 | cons j l ih => exact ((like_put b i j.toNat 0).trans (ih _)).mono (by omega)
theorem takeTo_snoc (b : Book) (i : Nat) (l : List Int) (j : Int) : takeTo b i (l ++ [j]) = putSeat (takeTo b i l) i j.toNat 0 := by simp [takeTo]
theorem takeTo_took (b : Book) (i : Nat) : ∀ l : List Int, (takeTo b i l).took = b.took := by
 intro l
 unfold takeTo
 induction l generalizing b with
 | nil => rfl
 | cons j l ih => rw [List.foldl_cons, ih]; rfl
theorem mess_parts {h : House} {m : BT.Message} (hm : messV h m = true) : withinB m.shw 0 (h.dates.length - 1) = true ∧ seatsB h m.seats = true := by
 simp only [messV, Bool.and_eq_true] at hm
 exact ⟨hm.1.2, hm.2⟩
theorem takeE_6 {h : House} {b : Book} {m : BT.Message} (h1 : messV h m = true) (h2 : m.dst = b.agency) (h3 : hasK b.took (keyOf m) = true) : takeE h b m = 6 := by
 unfold takeE; rw [h1, if_neg (by simp), if_neg (fun h => h h2), if_pos h3]
theorem takeE_at {h : House} {b : Book} {m : BT.Message} (h1 : messV h m = true) (h2 : m.dst = b.agency) (h3 : hasK b.took (keyOf m) = false) :
  takeE h b m = if (m.seats.all fun j => decide (seatAt b m.shw j = -1)) = false then 8 else if 1000 ≤ b.took.length then 3 else 0 := by
 unfold takeE; rw [h1, if_neg (by simp), if_neg (fun h => h h2), h3, if_neg (by simp)]
section
variable {base : Nat} {w w' : World} {g : Nat} {h : House} {b : Book} {c0 c1 c2 c3 c4 vs vo vt : Value} {xs : List Value}
theorem Desk.bx_took (D : Desk base w g h b c0 c1 c2 c3 c4 vs vo vt xs) (hg : w.grownBy w' vt.ownBlock) : Bx w' g [c0, c1, c2, c3, c4, .int .i64 b.agency, vs, vo, .int .i64 b.sent, vt, .int .i64 b.cash] 186 := by
 obtain ⟨ts, ht, _⟩ := D.took
 exact D.bx.keep (S := fun j => vt.ownBlock = some j) (.grown hg fun j hj _ => hj) (apart_bx D.bx ht (by decide))
theorem Desk.setTook {vt' : Value} {l' : List Key} (D : Desk base w g h b c0 c1 c2 c3 c4 vs vo vt xs) (hg : w.grownBy w' vt.ownBlock) (ho : OwnL (fun _ => False) base 172 w' vt' l') :
  Desk base (w'.setCell ⟨g, 9, none⟩ vt') g h { b with took := l' } c0 c1 c2 c3 c4 vs vo vt' xs := by
 obtain ⟨ts, ht, _⟩ := D.took
 have hne : ∀ {b3 s3 : Nat} {e3 : TypeId} {v3 : Value} {n3 : Nat} {x3 : List Value}, w.ownsRow b3 e3 s3 v3 n3 x3 → e3 ≠ 172 → v3.ownBlock = none ∨ v3.ownBlock ≠ vt.ownBlock := fun {b3 s3 e3 v3 n3 x3} h3 h4 => by
  cases hq : v3.ownBlock with
  | none => exact .inl rfl
  | some q => exact .inr fun he => apart_rows h3 ht h4 q hq he.symm
 have hk : Keeps (fun j => base ≤ j) w w' := .grown hg fun k hk _ => (D.took.lt k hk).1
 have hb7 := D.bx.keep (S := fun j => vt.ownBlock = some j) (.grown hg fun j hj _ => hj) (apart_bx D.bx ht (by decide))
 have hh7 := Rep.keep hk D.house
 have ho7 := D.outer.kept hg (hne D.outer (by decide))
 have hr7 : ∀ i (hi : i < b.seats.length) (hx : i < xs.length), OwnI base 3 w' xs[i] b.seats[i] := fun i hi hx => (D.row i hi hx).kept hg (hne (D.row i hi hx) (by decide))
 have hf7 := D.off.kept hg (hne D.off (by decide))
 have hw : Wrote g w' (w'.setCell ⟨g, 9, none⟩ vt') := Wrote.setCell w' g 9 _
 obtain ⟨us, hu, _⟩ := ho
 refine Desk.of ?_ D.gb (Rep.keep (keeps_of_wrote hw D.gb) hh7) (ho7.kept hw.grown (.inr (apart_bx hb7 ho7 (by decide)))) (fun i hi hx => (hr7 i hi hx).kept hw.grown (.inr (apart_bx hb7 (hr7 i hi hx) (by decide)))) (hf7.kept hw.grown (.inr (apart_bx hb7 hf7 (by decide)))) ?_ ?_
 ·have := hb7.setCell 9 vt'
  simpa using this
 ·exact OwnL.keptF (S := fun _ => False) ⟨us, hu, by assumption⟩ fun k hk' => hw.block k (fun e => apart_bx hb7 hu (by decide) (e ▸ hk'))
 ·have := D.apart
  unfold Apart at *
  simp only [List.pairwise_cons] at this
  exact this.2.2.2.2
end
end Go.Proofs.YtgpiieogiafdoaaGreat
namespace Go.Proofs.YtgpiieogiafdoaaGreat
set_option linter.unusedSimpArgs false
set_option linter.unusedVariables false
open Go.RowKit Go.BT
def risingB (l : List Int) (z : Int) : Bool := decide (0 < l.length) && (l.all fun n => withinB n 0 (z - 1)) && risesB l
theorem seats_rising (h : House) (l : List Int) : seatsB h l = risingB l (sizeL h.sectors) := rfl
theorem rising_all {l : List Int} {z : Int} (hr : risingB l z = true) : (l.all fun n => withinB n 0 (z - 1)) = true := by
 simp only [risingB, Bool.and_eq_true] at hr; exact hr.1.2
theorem rising_rise {l : List Int} {z : Int} (hr : risingB l z = true) : Rises l l.length := by
 simp only [risingB, risesB, Bool.and_eq_true, decide_eq_true_eq] at hr; exact hr.2
theorem rising_not {l : List Int} {z : Int} (h : ¬ ((l.all fun n => withinB n 0 (z - 1)) = true ∧ Rises l l.length)) : risingB l z = false := by
 cases q : risingB l z with
 | false => rfl
 | true => exact (h ⟨rising_all q, rising_rise q⟩).elim
theorem rises_step {l : List Int} {k j : Nat} (hk : k < l.length) (hp : 0 < k) (h : ¬ l[k] ≤ l[k - 1]) (e : j + 1 = k) : l[j]'(by omega) < l[k] := by
 subst e
 simp only [Nat.add_sub_cancel] at h
 omega
theorem rising_any (S : Nat → Prop) (l : List Int) (z : Nat) (hz : z ≤ 1000000) (v : Value) (w : World) (hv : SL S w v l) :
  Calls Tryz.prog 110 #[v, .int .i64 z] w fun e w' => e = .returned (.bool (risingB l z)) ∧ Step w w' := by
 obtain ⟨p, c, b, o, rfl, _, hm, hp, hc, h0⟩ := hv.ints
 have hwz : IntKind.i64.wrap ((z : Int) - 1) = (z : Int) - 1 := by rw [IntKind.wrap_i64]; omega
 have HC := zH hc
 have HP := zH hp
 clear hv hc hp h0
 go_enter Tryz.func110, Tryz.ntmps110
 go_wp2
 go_loopw [5] (fun i wr => ∃ k : Nat, k ≤ l.length ∧ i = .int .i64 k ∧ ((l.take k).all fun n => withinB n 0 ((z : Int) - 1)) = true ∧ Rises l k ∧ Step w wr) (fun i _ => l.length - (intOf i).toNat)
 case atStart => exact ⟨0, Nat.zero_le _, rfl, by simp, fun i h => absurd h (by omega), Step.refl _⟩
 case round =>
  obtain ⟨k, hk, rfl, ha, hr, hT⟩ := hrel
  have HA := zH ha
  have HRI := zH hr
  have HT := zH hT
  clear ha hr hT
  by_cases hlt : k < l.length
  ·obtain rfl := HP.out (by omega)
   have hix : (0 : Int) ≤ (k : Int) ∧ (k : Int) < (l.length : Int) := by omega
   go_upto_region 4 with fail
   refine wp_region_seq (kdOf [6] []) [0, 0, 3, 7, 0, 16, 63, 127, 255, 511, 1023, 2047, 4095, 4095, 16383, 32767, 4095, 4095, 135167, 462847, 987135, 2097151, 4194303, 8388607] [0, 1, 2, 3, 4, 5, 6, 7, 8, 9, 10, 11, 12, 13, 14, 15, 16, 17, 18, 19, 20, 21, 22, 23] [] (by kernel_rfl) (by kernel_rfl) (fun i T z hi hk => by simp [kdOf] at hk <;> (try (split at hk <;> cases hk))) ?_
   intro Wx hWx
   have HTx := zH (HT.out.trans hWx)
   clear hWx HT
   have HT := HTx
   clear HTx
   have g1 := (HT.out.keeps).cell id (HC.out k hlt)
   repeat ((first | (refine run_off rfl rfl (by rfl) ?_) | (refine run_chain_off rfl rfl (by rfl) (K0_mono _) ?_) | ((refine run_want rfl rfl (by rfl) ⟨?_, fun W hW => ?_, ?_⟩; rotate_left; (· (have d0 := hW.kc g1; go_simp; (try with_reducible rfl)))))); (try simp only [Act.put, zA, zB, zC]))
   refine run_chain rfl rfl (by rfl) (fun Wi hWi K' hK => ?_)
   have HTi := zH (HT.out.trans hWi)
   have HZW := zH HTi.out.size
   clear hWi HT
   go_simp
   refine (In_st _ _ _ _).mono ?_
   rintro e wn ⟨rfl, hSn⟩
   have HT := zH (HTi.out.trans (StepX.of hSn))
   clear HTi
   clear g1
   cases q : withinB l[k] 0 ((z : Int) - 1) with
   | false =>
    have q := zH q
    refine hK _ _ (StepX.of hSn) ?_
    clear hSn
    (try simp only [Act.put, zA, zB, zC])
    have g1 := (HT.out.keeps).cell id (HC.out k hlt)
    have g2 := g1
    have HF := zH (rising_not (l := l) (z := (z : Int)) fun p => t_of_ff q.out (all_at p.1 hlt))
    repeat ((first | (refine run_off rfl rfl (by rfl) ?_) | (refine run_chain_off rfl rfl (by rfl) (K0_mono _) ?_) | ((refine run_want rfl rfl (by rfl) ⟨?_, fun W hW => ?_, ?_⟩; rotate_left; (· (have d0 := hW.kc g1; have d1 := hW.kc g2; go_simp; (try with_reducible rfl)))))); (try simp only [Act.put, zA, zB, zC]))
    refine run_end (L := []) rfl (fun W6 hW6 => ?_)
    have HT6 := zH (HT.out.trans hW6)
    clear hW6 HT
    have HT := HT6
    clear HT6
    go_wp2
    go_ret
    exact ⟨by rw [HF.out]; rfl, HT.out⟩
   | true =>
    have HQ := zH q
    clear q
    refine hK _ _ (StepX.of hSn) ?_
    clear hSn
    (try simp only [Act.put, zA, zB, zC])
    have g1 := (HT.out.keeps).cell id (HC.out k hlt)
    by_cases hpos : 0 < k
    ·have g2 := (HT.out.keeps).cell id (HC.out (k - 1) (by omega))
     have hx2 : (0 : Int) ≤ ((k : Int) - 1) ∧ ((k : Int) - 1) < (l.length : Int) := by omega
     have hd : decide ((0 : Int) < (k : Int)) = true := by simpa using hpos
     have htn : ((k : Int) - 1).toNat = k - 1 := by omega
     have h1s : (1 : Int) ≤ (k : Int) := by omega
     have hws : IntKind.i64.wrap ((k : Int) - 1) = (k : Int) - 1 := by rw [IntKind.wrap_i64]; omega
     by_cases hle : l[k] ≤ l[k - 1]
     ·have hld : decide (l[k] ≤ l[k - 1]) = true := decide_eq_true hle
      have HLE := zH hle
      clear hle
      have HF := zH (rising_not (l := l) (z := (z : Int)) fun p => rises_at18 hlt hpos HLE.out p.2)
      repeat ((first | (refine run_off rfl rfl (by rfl) ?_) | (refine run_chain_off rfl rfl (by rfl) (K0_mono _) ?_) | ((refine run_want rfl rfl (by rfl) ⟨?_, fun W hW => ?_, ?_⟩; rotate_left; (· (have d0 := hW.kc g1; have d1 := hW.kc g2; go_simp; (try with_reducible rfl)))))); (try simp only [Act.put, zA, zB, zC]))
      refine run_end (L := []) rfl (fun W6 hW6 => ?_)
      have HT6 := zH (HT.out.trans hW6)
      clear hW6 HT
      have HT := HT6
      clear HT6
      go_wp2
      go_ret
      exact ⟨by rw [HF.out]; rfl, HT.out⟩
     ·have hld : decide (l[k] ≤ l[k - 1]) = false := decide_eq_false hle
      have HLE := zH hle
      clear hle
      repeat ((first | (refine run_off rfl rfl (by rfl) ?_) | (refine run_chain_off rfl rfl (by rfl) (K0_mono _) ?_) | ((refine run_want rfl rfl (by rfl) ⟨?_, fun W hW => ?_, ?_⟩; rotate_left; (· (have d0 := hW.kc g1; have d1 := hW.kc g2; go_simp; (try with_reducible rfl)))))); (try simp only [Act.put, zA, zB, zC]))
      refine run_end (L := []) rfl (fun W6 hW6 => ?_)
      have HT6 := zH (HT.out.trans hW6)
      clear hW6 HT
      have HT := HT6
      clear HT6
      go_wp2
      go_roundw
      case rel => exact ⟨k + 1, by omega, by go_num, all_take HA.out hlt HQ.out, rises_next HRI.out hlt (fun j e => rises_step hlt hpos HLE.out e), HT.out⟩
      case measure => simp [intOf]; omega
    ·have hd : decide ((0 : Int) < (k : Int)) = false := by simp; omega
     have g2 := g1
     repeat ((first | (refine run_off rfl rfl (by rfl) ?_) | (refine run_chain_off rfl rfl (by rfl) (K0_mono _) ?_) | ((refine run_want rfl rfl (by rfl) ⟨?_, fun W hW => ?_, ?_⟩; rotate_left; (· (have d0 := hW.kc g1; have d1 := hW.kc g2; go_simp; (try with_reducible rfl)))))); (try simp only [Act.put, zA, zB, zC]))
     refine run_end (L := []) rfl (fun W6 hW6 => ?_)
     have HT6 := zH (HT.out.trans hW6)
     clear hW6 HT
     have HT := HT6
     clear HT6
     go_wp2
     go_roundw
     case rel => exact ⟨k + 1, by omega, by go_num, all_take HA.out hlt HQ.out, rises_next HRI.out hlt (fun j e => absurd e (by omega)), HT.out⟩
     case measure => simp [intOf]; omega
  ·have HE := zH (show risingB l z = decide (0 < l.length) by
    have h1 := HA.out
    have h2 := HRI.out
    rw [List.take_of_length_le (by omega)] at h1
    rw [show k = l.length by omega] at h2
    simp only [risingB, risesB, h1, h2, Bool.and_true, decide_true])
   have hd : decide ((0 : Int) < (l.length : Int)) = decide (0 < l.length) := by simp
   have HD := zH hd
   clear hd
   go_wp2
   go_ret
   exact ⟨by rw [HE.out, ← HD.out]; rfl, HT.out⟩
theorem Has_any (S T : Nat → Prop) (b : Book) (m : BT.Message) (v u : Value) (w : World) (hv : AV S w v b) (hu : AV T w u m) :
  Calls Tryz.prog 63 #[v, u] w fun e w' => e = .returned (.bool (hasK b.took (keyOf m))) ∧ Step w w' := by
 obtain ⟨d1, d2, d4, rfl, s1, s2, s4⟩ := hv.book
 obtain ⟨q1, m1, rfl⟩ := s1.form
 obtain ⟨q2, m2, rfl⟩ := s2.form
 obtain ⟨q4, m4, bx, ox, rfl, _, n4, hpx, hcx, _⟩ := s4.keys
 obtain ⟨mc, rfl, hms⟩ := hu.message
 obtain ⟨pm, cm, rfl⟩ := hms.form
 obtain ⟨W0, hW0⟩ : ∃ W0, W0 = (w.alloc (.cells #[.int .i64 b.agency, .slice q1 b.seats.length m1, .slice q2 b.off.length m2, .int .i64 b.sent, .slice q4 b.took.length m4, .int .i64 b.cash] 56)).alloc (.cells #[.int .i64 m.frm, .int .i64 m.dst, .int .i64 m.number, .int .i64 m.shw, .slice pm m.seats.length cm] 58) := ⟨_, rfl⟩
 have hb1 : Bx W0 w.heap.size [.int .i64 b.agency, .slice q1 b.seats.length m1, .slice q2 b.off.length m2, .int .i64 b.sent, .slice q4 b.took.length m4, .int .i64 b.cash] 56 := by subst hW0; exact (Bx.new _ _ _).alloc _
 have hb2 : Bx W0 (w.heap.size + 1) [.int .i64 m.frm, .int .i64 m.dst, .int .i64 m.number, .int .i64 m.shw, .slice pm m.seats.length cm] 58 := by subst hW0; exact Bx.new' _ [_, _, _, _, _] _ _ (by simp)
 have hS : Step w W0 := by subst hW0; exact (by with_reducible repeat (first | assumption | exact Step.refl _ | apply Step.s_alloc | apply Step.s_drew | apply Step.s_drewN | refine Step.trans ?_ (by assumption)))
 have HB1 := zH hb1
 have HB2 := zH hb2
 have HS := zH hS
 have HX := zH (And.intro hpx hcx)
 have HW := zH hW0
 clear hv hu s1 s2 s4 hms hpx hcx hb1 hb2 hS hW0
 go_enter Tryz.func63, Tryz.ntmps63
 go_wp2
 go_loopw [5] (fun i wr => ∃ k : Nat, k ≤ b.took.length ∧ i = .int .i64 k ∧ keyOf m ∉ b.took.take k ∧ Step W0 wr) (fun i _ => b.took.length - (intOf i).toNat)
 case atStart => exact ⟨0, Nat.zero_le _, rfl, by simp, by rw [HW.out]; exact Step.refl _⟩
 case round =>
  obtain ⟨k, hk, rfl, ht, hT⟩ := hrel
  have HA := zH ht
  have HT := zH hT
  clear ht hT
  obtain ⟨f0, f1, f2, f3, f4, f5⟩ := cells6 (HB1.out.step HT.out)
  obtain ⟨e0, e1, e2, e3, e4⟩ := cells5 (HB2.out.step HT.out)
  by_cases hlt : k < b.took.length
  ·obtain rfl := HX.out.1 (by omega)
   obtain ⟨g1, g3⟩ := HX.out.2 k hlt
   have g1 := (HS.out.trans HT.out).kc g1
   have g3 := (HS.out.trans HT.out).kc g3
   have hix1 : (0 : Int) ≤ (k : Int) ∧ (k : Int) < (b.took.length : Int) := by omega
   obtain ⟨x, hx⟩ := (show ∃ x, b.took[k] = x from ⟨_, rfl⟩)
   rw [hx] at g1 g3
   have HK := zH hx
   clear hx
   obtain ⟨xf, xn⟩ := x
   dsimp only at g1 g3
   obtain ⟨kf, hkf⟩ : ∃ y, y = m.frm := ⟨_, rfl⟩
   obtain ⟨kn, hkn⟩ : ∃ y, y = m.number := ⟨_, rfl⟩
   rw [← hkf] at e0
   rw [← hkn] at e2
   have HM := zH (show keyOf m = ⟨kf, kn⟩ by unfold keyOf; rw [hkf, hkn])
   clear hkf hkn
   by_cases q1 : xf = kf
   ·subst q1
    by_cases q2 : xn = kn
    ·subst q2
     have HQ := zH (show hasK b.took (keyOf m) = true by unfold hasK; rw [decide_eq_true_eq, HM.out, ← HK.out]; exact List.getElem_mem hlt)
     go_wp2
     go_quiet (fail)
     go_wp2
     go_ret
     exact ⟨by rw [HQ.out]; rfl, HS.out.trans (HT.out.trans (Step.drewN _ _))⟩
    ·have HF := zH (not_take hlt HA.out (show keyOf m ≠ b.took[k] by rw [HM.out, HK.out]; intro e; injection e with e1 e2; exact q2 e2.symm))
     go_wp2
     go_quiet (fail)
     go_wp2
     go_roundw
     case rel => exact ⟨k + 1, by omega, by go_num, HF.out, HT.out.trans (Step.drewN _ _)⟩
     case measure => simp [intOf]; omega
   ·have HF := zH (not_take hlt HA.out (show keyOf m ≠ b.took[k] by rw [HM.out, HK.out]; intro e; injection e with e1 e2; exact q1 e1.symm))
    go_wp2
    go_quiet (fail)
    go_wp2
    go_roundw
    case rel => exact ⟨k + 1, by omega, by go_num, HF.out, HT.out.trans (Step.drewN _ _)⟩
    case measure => simp [intOf]; omega
  ·have HE := zH (show hasK b.took (keyOf m) = false by have := HA.out; rw [List.take_of_length_le (by omega)] at this; unfold hasK; rw [decide_eq_false_iff_not]; exact this)
   clear HA
   go_wp2
   go_ret
   exact ⟨by rw [HE.out]; rfl, HS.out.trans HT.out⟩
theorem Message_any (T : Nat → Prop) (m : BT.Message) (u : Value) (w : World) (hu : AV T w u m) (hl : m.seats.length ≤ 1000000) :
  Calls Tryz.prog 57 #[u] w fun e w' => ∃ v', e = .returned v' ∧ AV (Old w) w' v' m ∧ Step w w' := by
 obtain ⟨mc, rfl, hms⟩ := hu.message
 have hms0 := hms
 obtain ⟨pm, cm, rfl⟩ := hms.form
 obtain ⟨W0, hW0⟩ : ∃ W0, W0 = (w.alloc (.cells #[.int .i64 m.frm, .int .i64 m.dst, .int .i64 m.number, .int .i64 m.shw, .slice pm m.seats.length cm] 58)).alloc (.cells #[.int .i64 0, .int .i64 0, .int .i64 0, .int .i64 0, .slice none 0 0] 86) := ⟨_, rfl⟩
 have hb1 : Bx W0 w.heap.size [.int .i64 m.frm, .int .i64 m.dst, .int .i64 m.number, .int .i64 m.shw, .slice pm m.seats.length cm] 58 := by subst hW0; exact (Bx.new _ _ _).alloc _
 have hb2 : Bx W0 (w.heap.size + 1) [.int .i64 0, .int .i64 0, .int .i64 0, .int .i64 0, .slice none 0 0] 86 := by subst hW0; exact Bx.new' _ [_, _, _, _, _] _ _ (by simp)
 have hS : Step w W0 := by subst hW0; exact (by with_reducible repeat (first | assumption | exact Step.refl _ | apply Step.s_alloc | apply Step.s_drew | apply Step.s_drewN | refine Step.trans ?_ (by assumption)))
 have hz : W0.heap.size = w.heap.size + 2 := by subst hW0; simp
 have HB1 := zH hb1
 have HB2 := zH hb2
 have HS := zH hS
 have HZ := zH hz
 have HM := zH (hms0.keep (.of_step hS))
 have HL := zH hl
 have HW := zH hW0
 have HT := zH (Step.refl W0)
 clear hu hms hms0 hb1 hb2 hS hW0 hl hz
 go_enter Tryz.func57, Tryz.ntmps57
 go_upto_region 1 with (fail)
 rw [← HW.out]
 refine wp_region_seq (kdOf [10] []) [0, 1, 0, 4, 0, 16, 0, 64, 0, 256, 768, 2047, 4095] [0, 1, 2, 3, 4, 5, 6, 7, 8, 9, 10, 11] [12] (by kernel_rfl) (by kernel_rfl) (fun i T z hi hk => by simp [kdOf] at hk <;> (try (split at hk <;> cases hk))) ?_
 intro Wx hWx
 have HTx := zH (HT.out.trans hWx)
 clear hWx HT
 have HT := HTx
 clear HTx
 obtain ⟨e0, e1, e2, e3, e4⟩ := cells5 (HB1.out.step HT.out)
 repeat ((first | (refine run_off rfl rfl (by rfl) ?_) | (refine run_chain_off rfl rfl (by rfl) (K0_mono _) ?_) | ((refine run_want rfl rfl (by rfl) ⟨?_, fun W hW => ?_, ?_⟩; rotate_left; (· (have d0 := hW.kc e0; have d1 := hW.kc e1; have d2 := hW.kc e2; have d3 := hW.kc e3; have d4 := hW.kc e4; go_simp; (try with_reducible rfl)))))); (try simp only [Act.put, zA, zB, zC]))
 refine run_chain rfl rfl (by rfl) (fun Wi hWi K' hK => ?_)
 have HTi := zH (HT.out.trans hWi)
 have HZW := zH HTi.out.size
 clear hWi HT
 go_simp
 refine (list_any T m.seats _ Wi (HM.out.keep (.of_step HTi.out)) HL.out).mono ?_
 rintro e wn ⟨v', rfl, hv', hSn⟩
 have HT := zH (HTi.out.trans (StepX.of hSn))
 clear HTi
 obtain ⟨pv, cv, rfl⟩ := hv'.form
 have HV := zH hv'
 have HZI := HZW
 clear hv'
 have hsn := hSn
 refine hK _ _ (StepX.of hSn) ?_
 have HSN := zH hSn
 clear hSn hsn
 (try simp only [Act.put, zA, zB, zC])
 repeat ((first | (refine run_off rfl rfl (by rfl) ?_) | (refine run_chain_off rfl rfl (by rfl) (K0_mono _) ?_) | ((refine run_want rfl rfl (by rfl) ⟨?_, fun W hW => ?_, ?_⟩; rotate_left; (· (obtain ⟨hc'', hf''⟩ := hW.cells; go_simp; (try with_reducible rfl)))))); (try simp only [Act.put, zA, zB, zC]))
 refine run_end (L := [_]) rfl (fun W6 hW6 => ?_)
 have HTx := zH (HT.out.trans hW6)
 have HV6 := zH (HV.out.keep (.of_step hW6))
 clear hW6 HT HV
 have HT := HTx
 clear HTx
 have hb2 := HB2.out.step HT.out
 have n0 := hb2.cell 0
 have n1 := hb2.cell 1
 have n2 := hb2.cell 2
 have n3 := hb2.cell 3
 have n4 := hb2.cell 4
 have zn := hb2.frozen
 simp only [zD, zE] at n0 n1 n2 n3 n4
 have HB2' := zH hb2
 clear hb2 e0 e1 e2 e3 e4
 go_wp2
 have b5 := set5 HB2'.out (.int .i64 m.frm) (.int .i64 m.dst) (.int .i64 m.number) (.int .i64 m.shw) (.slice pv m.seats.length cv)
 have hz1 := HZ.out
 have hz2 := HZI.out
 refine ret_struct (k := 5) rfl siMessage rfl b5.1 rfl rfl ⟨_, rfl, ⟨_, rfl, _, rfl, (HV6.out.keep (b5.2.keeps.mono fun j _ hj => ?_)).weak fun j _ hj => ?_⟩, StepX.fresh (HS.out.trans HT.out) b5.2 (fun j hj => by omega)⟩
 ·unfold Old; omega
 ·unfold Old at *; omega
theorem RightMessage_any (S T : Nat → Prop) (h : House) (m : BT.Message) (v u : Value) (w : World) (hv : AV S w v h) (hu : AV T w u m) (hok : valid h = true) :
  Calls Tryz.prog 61 #[v, u] w fun e w' => e = .returned (.bool (messV h m)) ∧ Step w w' := by
 obtain ⟨cs, rfl, hr0⟩ := hv
 have hr := hr0
 obtain ⟨c0, c1, c2, c3, c4, rfl, h0, h1, h2, h3, h4⟩ := hr
 obtain ⟨p0, k0, rfl⟩ := h0.form
 obtain ⟨p1, k1, rfl⟩ := h1.form
 obtain ⟨p2, k2, rfl⟩ := h2.form
 obtain ⟨p3, k3, rfl⟩ := h3.form
 obtain ⟨p4, k4, b4, o4, rfl, _, m4, hp4, hc4, hb4⟩ := h4.rows
 obtain ⟨mc, rfl, hms⟩ := hu.message
 obtain ⟨pm, cm, rfl⟩ := hms.form
 have hbv := bounds_valid hok
 have hwa : IntKind.i64.wrap ((agN h : Int) - 1) = (agN h : Int) - 1 := by rw [IntKind.wrap_i64]; omega
 have hwd : IntKind.i64.wrap ((h.dates.length : Int) - 1) = (h.dates.length : Int) - 1 := by rw [IntKind.wrap_i64]; omega
 have hf0 : 0 < h.frm.length := by omega
 have hh0 : 0 < h.holds.length := by omega
 obtain ⟨z, hz⟩ : ∃ z : Nat, sizeL h.sectors = z := ⟨(sizeL h.sectors).toNat, by omega⟩
 have hz1 : z ≤ 100 := by omega
 obtain rfl := hp4 hh0
 obtain ⟨uz, gz, huz⟩ := hc4 0 hh0
 obtain ⟨pz, kz, rfl⟩ := huz.form
 simp only [Nat.add_zero] at gz
 have hlz : h.holds[0].length = z := by have := hbv.2.2.2.2.2.2.2.2.1 0 hh0; omega
 rw [hlz] at gz
 have hn1 : 1 ≤ h.dates.length ∧ h.dates.length ≤ 6 := by omega
 have hh1 : (0 : Int) < (h.holds.length : Int) := by omega
 have hhx : (0 : Int) ≤ 0 ∧ (0 : Int) < (h.holds.length : Int) := by omega
 obtain ⟨W0, hW0⟩ : ∃ W0, W0 = (w.alloc (.cells #[.slice p0 h.sectors.length k0, .slice p1 h.prices.length k1, .slice p2 h.dates.length k2, .slice p3 h.frm.length k3, .slice (some ⟨b4, o4, none⟩) h.holds.length k4] 26)).alloc (.cells #[.int .i64 m.frm, .int .i64 m.dst, .int .i64 m.number, .int .i64 m.shw, .slice pm m.seats.length cm] 58) := ⟨_, rfl⟩
 have hbx : Bx W0 w.heap.size [.slice p0 h.sectors.length k0, .slice p1 h.prices.length k1, .slice p2 h.dates.length k2, .slice p3 h.frm.length k3, .slice (some ⟨b4, o4, none⟩) h.holds.length k4] 26 := by subst hW0; exact (Bx.new _ _ _).alloc _
 have hb2 : Bx W0 (w.heap.size + 1) [.int .i64 m.frm, .int .i64 m.dst, .int .i64 m.number, .int .i64 m.shw, .slice pm m.seats.length cm] 58 := by subst hW0; exact Bx.new' _ [_, _, _, _, _] _ _ (by simp)
 have hS : Step w W0 := by subst hW0; exact (by with_reducible repeat (first | assumption | exact Step.refl _ | apply Step.s_alloc | apply Step.s_drew | apply Step.s_drewN | refine Step.trans ?_ (by assumption)))
 have HB1 := zH hbx
 have HB2 := zH hb2
 have HR := zH (Rep.keep (.of_step hS) hr0)
 have HM := zH (hms.keep (.of_step hS))
 have HS := zH hS
 have HGZ := zH gz
 have HZ := zH hz
 have HT := zH (Step.refl W0)
 have HW := zH hW0
 have hcall := zH (Agencies_any S h _ _ ⟨_, rfl, HR.out⟩ hf0)
 clear hr0 h0 h1 h2 h3 h4 hms hu hbx hb2 hS hW0 hok hbv huz hlz hc4 hb4 hp4 gz hz
 go_enter Tryz.func61, Tryz.ntmps61
 go_wp2_with fail
 rw [← HW.out]
 refine hcall.out.mono ?_
 rintro e wn ⟨rfl, hSn⟩
 have HT := zH hSn
 clear hSn hcall
 go_upto_region 2 with fail
 refine wp_region_seq (kdOf [3, 8, 20, 29, 39] []) (0 :: 1 :: 0 :: 7 :: 15 :: 31 :: 63 :: 31 :: 255 :: 511 :: 1023 :: 2047 :: 4095 :: 2047 :: 10239 :: 32767 :: 65535 :: 131071 :: 262143 :: 524287 :: 1048575 :: 2097151 :: 4194303 :: 8388607 :: 16777215 :: 8388607 :: 41943039 :: 109051903 :: 243269631 :: 536870911 :: 1073741823 :: 2147483647 :: 4294967295 :: 8589934591 :: 4294967295 :: 21474836479 :: 55834574847 :: 124554051583 :: 261993005055 :: 549755813887 :: 1099511627775 :: 2199023255551 :: []) (0 :: 1 :: 2 :: 3 :: 4 :: 5 :: 6 :: 7 :: 8 :: 9 :: 10 :: 11 :: 12 :: 13 :: 14 :: 15 :: 16 :: 17 :: 18 :: 19 :: 20 :: 21 :: 22 :: 23 :: 24 :: 25 :: 26 :: 27 :: 28 :: 29 :: 30 :: 31 :: 32 :: 33 :: 34 :: 35 :: 36 :: 37 :: 38 :: 39 :: 40 :: 41 :: []) [] (by kernel_rfl) (by kernel_rfl) (fun i T z hi hk => by simp [kdOf] at hk <;> (try (split at hk <;> cases hk))) ?_
 intro Wx hWx
 have HTx := zH (HT.out.trans hWx)
 clear hWx HT
 have HT := HTx
 clear HTx
 (try clear e0 e1 e2 e3 e4 x0 x1 x2 x3 x4 gz)
 obtain ⟨e0, e1, e2, e3, e4⟩ := cells5 (HB1.out.step HT.out)
 obtain ⟨x0, x1, x2, x3, x4⟩ := cells5 (HB2.out.step HT.out)
 have gz := (HS.out.trans HT.out).kc HGZ.out
 repeat ((first | (refine run_off rfl rfl (by rfl) ?_) | (refine run_chain_off rfl rfl (by rfl) (K0_mono _) ?_) | ((refine run_want rfl rfl (by rfl) ⟨?_, fun W hW => ?_, ?_⟩; rotate_left; (· (have d0 := hW.kc x0; have d1 := hW.kc x1; have d2 := hW.kc x2; have d3 := hW.kc x3; have d4 := hW.kc x4; have d5 := hW.kc e2; have d6 := hW.kc e4; have d7 := hW.kc gz; go_simp; (try with_reducible rfl)))))); (try simp only [Act.put, zA, zB, zC]))
 refine run_chain rfl rfl (by rfl) (fun Wi hWi K' hK => ?_)
 have HTi := zH (HT.out.trans hWi)
 have HZW := zH HTi.out.size
 clear hWi HT
 go_simp
 refine (In_st _ _ _ _).mono ?_
 rintro e wn ⟨rfl, hSn⟩
 have HT := zH (HTi.out.trans (StepX.of hSn))
 clear HTi
 cases q1 : withinB m.frm 0 ((agN h : Int) - 1) with
 | false =>
  have q1 := zH q1
  have HF := zH (show messV h m = false by simp only [messV, q1.out]; simp)
  refine hK _ _ (StepX.of hSn) ?_
  clear hSn
  (try simp only [Act.put, zA, zB, zC])
  (try clear e0 e1 e2 e3 e4 x0 x1 x2 x3 x4 gz)
  obtain ⟨e0, e1, e2, e3, e4⟩ := cells5 (HB1.out.step HT.out)
  obtain ⟨x0, x1, x2, x3, x4⟩ := cells5 (HB2.out.step HT.out)
  have gz := (HS.out.trans HT.out).kc HGZ.out
  repeat ((first | (refine run_off rfl rfl (by rfl) ?_) | (refine run_chain_off rfl rfl (by rfl) (K0_mono _) ?_) | ((refine run_want rfl rfl (by rfl) ⟨?_, fun W hW => ?_, ?_⟩; rotate_left; (· (have d0 := hW.kc x0; have d1 := hW.kc x1; have d2 := hW.kc x2; have d3 := hW.kc x3; have d4 := hW.kc x4; have d5 := hW.kc e2; have d6 := hW.kc e4; have d7 := hW.kc gz; go_simp; (try with_reducible rfl)))))); (try simp only [Act.put, zA, zB, zC]))
  refine run_end (L := []) rfl (fun W6 hW6 => ?_)
  have HT6 := zH (HT.out.trans hW6)
  clear hW6 HT
  have HT := HT6
  clear HT6
  go_wp2
  go_ret
  exact ⟨by rw [HF.out]; rfl, HS.out.trans HT.out⟩
 | true =>
 have Q1 := zH q1
 clear q1
 refine hK _ _ (StepX.of hSn) ?_
 clear hSn
 (try simp only [Act.put, zA, zB, zC])
 (try clear e0 e1 e2 e3 e4 x0 x1 x2 x3 x4 gz)
 obtain ⟨e0, e1, e2, e3, e4⟩ := cells5 (HB1.out.step HT.out)
 obtain ⟨x0, x1, x2, x3, x4⟩ := cells5 (HB2.out.step HT.out)
 have gz := (HS.out.trans HT.out).kc HGZ.out
 repeat ((first | (refine run_off rfl rfl (by rfl) ?_) | (refine run_chain_off rfl rfl (by rfl) (K0_mono _) ?_) | ((refine run_want rfl rfl (by rfl) ⟨?_, fun W hW => ?_, ?_⟩; rotate_left; (· (have d0 := hW.kc x0; have d1 := hW.kc x1; have d2 := hW.kc x2; have d3 := hW.kc x3; have d4 := hW.kc x4; have d5 := hW.kc e2; have d6 := hW.kc e4; have d7 := hW.kc gz; go_simp; (try with_reducible rfl)))))); (try simp only [Act.put, zA, zB, zC]))
 refine run_chain rfl rfl (by rfl) (fun Wi hWi K' hK => ?_)
 have HTi := zH (HT.out.trans hWi)
 have HZW := zH HTi.out.size
 clear hWi HT
 go_simp
 refine (In_st _ _ _ _).mono ?_
 rintro e wn ⟨rfl, hSn⟩
 have HT := zH (HTi.out.trans (StepX.of hSn))
 clear HTi
 cases q2 : withinB m.dst 0 ((agN h : Int) - 1) with
 | false =>
  have q2 := zH q2
  have HF := zH (show messV h m = false by simp only [messV, Q1.out, q2.out]; simp)
  refine hK _ _ (StepX.of hSn) ?_
  clear hSn
  (try simp only [Act.put, zA, zB, zC])
  (try clear e0 e1 e2 e3 e4 x0 x1 x2 x3 x4 gz)
  obtain ⟨e0, e1, e2, e3, e4⟩ := cells5 (HB1.out.step HT.out)
  obtain ⟨x0, x1, x2, x3, x4⟩ := cells5 (HB2.out.step HT.out)
  have gz := (HS.out.trans HT.out).kc HGZ.out
  repeat ((first | (refine run_off rfl rfl (by rfl) ?_) | (refine run_chain_off rfl rfl (by rfl) (K0_mono _) ?_) | ((refine run_want rfl rfl (by rfl) ⟨?_, fun W hW => ?_, ?_⟩; rotate_left; (· (have d0 := hW.kc x0; have d1 := hW.kc x1; have d2 := hW.kc x2; have d3 := hW.kc x3; have d4 := hW.kc x4; have d5 := hW.kc e2; have d6 := hW.kc e4; have d7 := hW.kc gz; go_simp; (try with_reducible rfl)))))); (try simp only [Act.put, zA, zB, zC]))
  refine run_end (L := []) rfl (fun W6 hW6 => ?_)
  have HT6 := zH (HT.out.trans hW6)
  clear hW6 HT
  have HT := HT6
  clear HT6
  go_wp2
  go_ret
  exact ⟨by rw [HF.out]; rfl, HS.out.trans HT.out⟩
 | true =>
 have Q2 := zH q2
 clear q2
 by_cases q3 : m.frm = m.dst
 ·have hd : (m.frm != m.dst) = false := by simpa using q3
  have q3 := zH q3
  have HF := zH (show messV h m = false by simp only [messV, Q1.out, Q2.out, q3.out]; simp)
  refine hK _ _ (StepX.of hSn) ?_
  clear hSn
  (try simp only [Act.put, zA, zB, zC])
  (try clear e0 e1 e2 e3 e4 x0 x1 x2 x3 x4 gz)
  obtain ⟨e0, e1, e2, e3, e4⟩ := cells5 (HB1.out.step HT.out)
  obtain ⟨x0, x1, x2, x3, x4⟩ := cells5 (HB2.out.step HT.out)
  have gz := (HS.out.trans HT.out).kc HGZ.out
  repeat ((first | (refine run_off rfl rfl (by rfl) ?_) | (refine run_chain_off rfl rfl (by rfl) (K0_mono _) ?_) | ((refine run_want rfl rfl (by rfl) ⟨?_, fun W hW => ?_, ?_⟩; rotate_left; (· (have d0 := hW.kc x0; have d1 := hW.kc x1; have d2 := hW.kc x2; have d3 := hW.kc x3; have d4 := hW.kc x4; have d5 := hW.kc e2; have d6 := hW.kc e4; have d7 := hW.kc gz; go_simp; (try with_reducible rfl)))))); (try simp only [Act.put, zA, zB, zC]))
  refine run_end (L := []) rfl (fun W6 hW6 => ?_)
  have HT6 := zH (HT.out.trans hW6)
  clear hW6 HT
  have HT := HT6
  clear HT6
  go_wp2
  go_ret
  exact ⟨by rw [HF.out]; rfl, HS.out.trans HT.out⟩
 have hd : (m.frm != m.dst) = true := by simpa using q3
 have Q3 := zH q3
 clear q3
 refine hK _ _ (StepX.of hSn) ?_
 clear hSn
 (try simp only [Act.put, zA, zB, zC])
 (try clear e0 e1 e2 e3 e4 x0 x1 x2 x3 x4 gz)
 obtain ⟨e0, e1, e2, e3, e4⟩ := cells5 (HB1.out.step HT.out)
 obtain ⟨x0, x1, x2, x3, x4⟩ := cells5 (HB2.out.step HT.out)
 have gz := (HS.out.trans HT.out).kc HGZ.out
 repeat ((first | (refine run_off rfl rfl (by rfl) ?_) | (refine run_chain_off rfl rfl (by rfl) (K0_mono _) ?_) | ((refine run_want rfl rfl (by rfl) ⟨?_, fun W hW => ?_, ?_⟩; rotate_left; (· (have d0 := hW.kc x0; have d1 := hW.kc x1; have d2 := hW.kc x2; have d3 := hW.kc x3; have d4 := hW.kc x4; have d5 := hW.kc e2; have d6 := hW.kc e4; have d7 := hW.kc gz; go_simp; (try with_reducible rfl)))))); (try simp only [Act.put, zA, zB, zC]))
 refine run_chain rfl rfl (by rfl) (fun Wi hWi K' hK => ?_)
 have HTi := zH (HT.out.trans hWi)
 have HZW := zH HTi.out.size
 clear hWi HT
 go_simp
 refine (In_st _ _ _ _).mono ?_
 rintro e wn ⟨rfl, hSn⟩
 have HT := zH (HTi.out.trans (StepX.of hSn))
 clear HTi
 cases q4 : withinB m.number 1 1000 with
 | false =>
  have q4 := zH q4
  have HF := zH (show messV h m = false by simp only [messV, Q1.out, Q2.out, q4.out]; simp)
  refine hK _ _ (StepX.of hSn) ?_
  clear hSn
  (try simp only [Act.put, zA, zB, zC])
  (try clear e0 e1 e2 e3 e4 x0 x1 x2 x3 x4 gz)
  obtain ⟨e0, e1, e2, e3, e4⟩ := cells5 (HB1.out.step HT.out)
  obtain ⟨x0, x1, x2, x3, x4⟩ := cells5 (HB2.out.step HT.out)
  have gz := (HS.out.trans HT.out).kc HGZ.out
  repeat ((first | (refine run_off rfl rfl (by rfl) ?_) | (refine run_chain_off rfl rfl (by rfl) (K0_mono _) ?_) | ((refine run_want rfl rfl (by rfl) ⟨?_, fun W hW => ?_, ?_⟩; rotate_left; (· (have d0 := hW.kc x0; have d1 := hW.kc x1; have d2 := hW.kc x2; have d3 := hW.kc x3; have d4 := hW.kc x4; have d5 := hW.kc e2; have d6 := hW.kc e4; have d7 := hW.kc gz; go_simp; (try with_reducible rfl)))))); (try simp only [Act.put, zA, zB, zC]))
  refine run_end (L := []) rfl (fun W6 hW6 => ?_)
  have HT6 := zH (HT.out.trans hW6)
  clear hW6 HT
  have HT := HT6
  clear HT6
  go_wp2
  go_ret
  exact ⟨by rw [HF.out]; rfl, HS.out.trans HT.out⟩
 | true =>
 have Q4 := zH q4
 clear q4 hd
 refine hK _ _ (StepX.of hSn) ?_
 clear hSn
 (try simp only [Act.put, zA, zB, zC])
 (try clear e0 e1 e2 e3 e4 x0 x1 x2 x3 x4 gz)
 obtain ⟨e0, e1, e2, e3, e4⟩ := cells5 (HB1.out.step HT.out)
 obtain ⟨x0, x1, x2, x3, x4⟩ := cells5 (HB2.out.step HT.out)
 have gz := (HS.out.trans HT.out).kc HGZ.out
 repeat ((first | (refine run_off rfl rfl (by rfl) ?_) | (refine run_chain_off rfl rfl (by rfl) (K0_mono _) ?_) | ((refine run_want rfl rfl (by rfl) ⟨?_, fun W hW => ?_, ?_⟩; rotate_left; (· (have d0 := hW.kc x0; have d1 := hW.kc x1; have d2 := hW.kc x2; have d3 := hW.kc x3; have d4 := hW.kc x4; have d5 := hW.kc e2; have d6 := hW.kc e4; have d7 := hW.kc gz; go_simp; (try with_reducible rfl)))))); (try simp only [Act.put, zA, zB, zC]))
 refine run_chain rfl rfl (by rfl) (fun Wi hWi K' hK => ?_)
 have HTi := zH (HT.out.trans hWi)
 have HZW := zH HTi.out.size
 clear hWi HT
 go_simp
 refine (In_st _ _ _ _).mono ?_
 rintro e wn ⟨rfl, hSn⟩
 have HT := zH (HTi.out.trans (StepX.of hSn))
 clear HTi
 cases q5 : withinB m.shw 0 ((h.dates.length : Int) - 1) with
 | false =>
  have q5 := zH q5
  have HF := zH (show messV h m = false by simp only [messV, Q1.out, Q2.out, q5.out]; simp)
  refine hK _ _ (StepX.of hSn) ?_
  clear hSn
  (try simp only [Act.put, zA, zB, zC])
  (try clear e0 e1 e2 e3 e4 x0 x1 x2 x3 x4 gz)
  obtain ⟨e0, e1, e2, e3, e4⟩ := cells5 (HB1.out.step HT.out)
  obtain ⟨x0, x1, x2, x3, x4⟩ := cells5 (HB2.out.step HT.out)
  have gz := (HS.out.trans HT.out).kc HGZ.out
  repeat ((first | (refine run_off rfl rfl (by rfl) ?_) | (refine run_chain_off rfl rfl (by rfl) (K0_mono _) ?_) | ((refine run_want rfl rfl (by rfl) ⟨?_, fun W hW => ?_, ?_⟩; rotate_left; (· (have d0 := hW.kc x0; have d1 := hW.kc x1; have d2 := hW.kc x2; have d3 := hW.kc x3; have d4 := hW.kc x4; have d5 := hW.kc e2; have d6 := hW.kc e4; have d7 := hW.kc gz; go_simp; (try with_reducible rfl)))))); (try simp only [Act.put, zA, zB, zC]))
  refine run_end (L := []) rfl (fun W6 hW6 => ?_)
  have HT6 := zH (HT.out.trans hW6)
  clear hW6 HT
  have HT := HT6
  clear HT6
  go_wp2
  go_ret
  exact ⟨by rw [HF.out]; rfl, HS.out.trans HT.out⟩
 | true =>
 have Q5 := zH q5
 clear q5
 refine hK _ _ (StepX.of hSn) ?_
 clear hSn
 (try simp only [Act.put, zA, zB, zC])
 (try clear e0 e1 e2 e3 e4 x0 x1 x2 x3 x4 gz)
 obtain ⟨e0, e1, e2, e3, e4⟩ := cells5 (HB1.out.step HT.out)
 obtain ⟨x0, x1, x2, x3, x4⟩ := cells5 (HB2.out.step HT.out)
 have gz := (HS.out.trans HT.out).kc HGZ.out
 repeat ((first | (refine run_off rfl rfl (by rfl) ?_) | (refine run_chain_off rfl rfl (by rfl) (K0_mono _) ?_) | ((refine run_want rfl rfl (by rfl) ⟨?_, fun W hW => ?_, ?_⟩; rotate_left; (· (have d0 := hW.kc x0; have d1 := hW.kc x1; have d2 := hW.kc x2; have d3 := hW.kc x3; have d4 := hW.kc x4; have d5 := hW.kc e2; have d6 := hW.kc e4; have d7 := hW.kc gz; go_simp; (try with_reducible rfl)))))); (try simp only [Act.put, zA, zB, zC]))
 refine run_chain rfl rfl (by rfl) (fun Wi hWi K' hK => ?_)
 have HTi := zH (HT.out.trans hWi)
 have HZW := zH HTi.out.size
 clear hWi HT
 go_simp
 refine (rising_any T m.seats z (by omega) _ Wi (HM.out.keep (.of_step HTi.out))).mono ?_
 rintro e wn ⟨rfl, hSn⟩
 have HT := zH (HTi.out.trans (StepX.of hSn))
 clear HTi
 have HF := zH (show messV h m = risingB m.seats z by simp only [messV, Q1.out, Q2.out, Q4.out, Q5.out, seats_rising, HZ.out]; simp [Q3.out])
 refine hK _ _ (StepX.of hSn) ?_
 clear hSn
 (try simp only [Act.put, zA, zB, zC])
 repeat ((first | (refine run_off rfl rfl (by rfl) ?_) | (refine run_chain_off rfl rfl (by rfl) (K0_mono _) ?_) | ((refine run_want rfl rfl (by rfl) ⟨?_, fun W hW => ?_, ?_⟩; rotate_left; (· (obtain ⟨hc'', hf''⟩ := hW.cells; go_simp; (try with_reducible rfl)))))); (try simp only [Act.put, zA, zB, zC]))
 refine run_end (L := []) rfl (fun W6 hW6 => ?_)
 have HT6 := zH (HT.out.trans hW6)
 clear hW6 HT
 have HT := HT6
 clear HT6
 go_wp2
 go_ret
 exact ⟨by rw [HF.out]; rfl, HS.out.trans HT.out⟩
section
variable {base : Nat} {w w' : World} {g : Nat} {b : Book} {vs vo vt : Value} {xs : List Value}
theorem Desk6.bx_took (D : Desk6 base w g b vs vo vt xs) (hg : w.grownBy w' vt.ownBlock) : Bx w' g [.int .i64 b.agency, vs, vo, .int .i64 b.sent, vt, .int .i64 b.cash] 56 := by
 obtain ⟨ts, ht⟩ := own_rowT D.took
 exact D.bx.keep (S := fun j => vt.ownBlock = some j) (.grown hg fun j hj _ => hj) (apart_bx D.bx ht (by decide))
theorem Desk6.setTook {vt' : Value} {l' : List Key} (D : Desk6 base w g b vs vo vt xs) (hg : w.grownBy w' vt.ownBlock) (ho : OwnL (fun _ => False) base 131 w' vt' l') :
    Desk6 base (w'.setCell ⟨g, 4, none⟩ vt') g { b with took := l' } vs vo vt' xs := by
  obtain ⟨ts, ht⟩ := own_rowT D.took
  have hne : ∀ {b3 s3 : Nat} {e3 : TypeId} {v3 : Value} {n3 : Nat} {x3 : List Value}, w.ownsRow b3 e3 s3 v3 n3 x3 → e3 ≠ 131 → v3.ownBlock = none ∨ v3.ownBlock ≠ vt.ownBlock := fun {b3 s3 e3 v3 n3 x3} h3 h4 => by
    cases hq : v3.ownBlock with
    | none => exact .inl rfl
    | some q => exact .inr fun he => apart_rows h3 ht h4 q hq he.symm
  have hb7 := D.bx_took hg
  have ho7 := D.outer.kept hg (hne D.outer (by decide))
  have hr7 : ∀ i (hi : i < b.seats.length) (hx : i < xs.length), OwnI base 3 w' xs[i] b.seats[i] := fun i hi hx => (D.row i hi hx).kept hg (hne (D.row i hi hx) (by decide))
  have hf7 := D.off.kept hg (hne D.off (by decide))
  have hw : Wrote g w' (w'.setCell ⟨g, 4, none⟩ vt') := Wrote.setCell w' g 4 _
  obtain ⟨us, hu⟩ := own_rowT ho
  exact
    { bx := by simpa using hb7.setCell 4 vt', gb := D.gb, outer := ho7.kept hw.grown (.inr (apart_bx hb7 ho7 (by decide))), row := fun i hi hx => (hr7 i hi hx).kept hw.grown (.inr (apart_bx hb7 (hr7 i hi hx) (by decide))),
      off := hf7.kept hw.grown (.inr (apart_bx hb7 hf7 (by decide))), took := ho.keptF fun k hk' => hw.block k (fun e => apart_bx hb7 hu (by decide) (e ▸ hk')), apart := D.apart }
end
theorem int_low {x : Int} (h1 : -1 ≤ x) : decide (x = -1) = !decide (0 ≤ x) := by
 by_cases q : 0 ≤ x
 ·rw [decide_eq_true q, decide_eq_false (by omega)]; rfl
 ·rw [decide_eq_false q, decide_eq_true (by omega)]; rfl
theorem RTake_any (S T : Nat → Prop) (h : House) (b : Book) (m : BT.Message) (v u x : Value) (w : World) (hv : AV S w v h) (hu : AV S w u b) (hx : AV T w x m) (hok : valid h = true) (hbk : bookB h b = true) :
  Calls Tryz.prog 100 #[v, u, x] w (fun e w' => RActEnds (takeD h b m) e w w') := by
 obtain ⟨hO, hcash, hc0, hthin⟩ := okDesk_book hok hbk
 obtain ⟨cs, rfl, hr0⟩ := hv
 have hr := hr0
 obtain ⟨c0, c1, c2, c3, c4, rfl, h0, h1, h2, h3, h4⟩ := hr
 obtain ⟨p0, k0, rfl⟩ := h0.form
 obtain ⟨p1, k1, rfl⟩ := h1.form
 obtain ⟨p2, k2, rfl⟩ := h2.form
 obtain ⟨p3, k3, rfl⟩ := h3.form
 obtain ⟨p4, k4, rfl⟩ := h4.form
 obtain ⟨cs, rfl, hq0⟩ := hu
 have hq := hq0
 obtain ⟨d1, d2, d4, rfl, s1, s2, s4⟩ := hq
 obtain ⟨q1, m1, bs, os, rfl, _, _, hp1, hc1, _⟩ := s1.rows
 obtain ⟨q2, m2, rfl⟩ := s2.form
 obtain ⟨q4, m4, rfl⟩ := s4.form
 have hbv := bounds_valid hok
 obtain ⟨z, hz⟩ : ∃ z : Nat, sizeL h.sectors = z := ⟨(sizeL h.sectors).toNat, by omega⟩
 have hz100 : z ≤ 100 := by omega
 have hz0 : 0 < z := by have := size_pos hok; omega
 obtain ⟨mf, md, mn, ms, l⟩ := m
 obtain ⟨mc, rfl, hms⟩ := hx.message
 dsimp only at hms ⊢
 obtain ⟨pu, cu, bu, ou, rfl, _, hlm, hpu, hcu, hbu⟩ := hms.ints
 obtain ⟨W3, hW3⟩ : ∃ W3, W3 = (((w.alloc (.cells #[.slice p0 h.sectors.length k0, .slice p1 h.prices.length k1, .slice p2 h.dates.length k2, .slice p3 h.frm.length k3, .slice p4 h.holds.length k4] 26)).alloc (.cells #[.int .i64 b.agency, .slice q1 b.seats.length m1, .slice q2 b.off.length m2, .int .i64 b.sent, .slice q4 b.took.length m4, .int .i64 b.cash] 56)).alloc (.cells #[.int .i64 mf, .int .i64 md, .int .i64 mn, .int .i64 ms, .slice pu l.length cu] 58)).alloc (.cells #[.int .i64 0, .slice none 0 0, .slice none 0 0, .int .i64 0, .slice none 0 0, .int .i64 0] 56) := ⟨_, rfl⟩
 have hbx : Bx W3 w.heap.size [.slice p0 h.sectors.length k0, .slice p1 h.prices.length k1, .slice p2 h.dates.length k2, .slice p3 h.frm.length k3, .slice p4 h.holds.length k4] 26 := by subst hW3; exact (((Bx.new _ _ _).alloc _).alloc _).alloc _
 have hb2 : Bx W3 (w.heap.size + 1) [.int .i64 b.agency, .slice q1 b.seats.length m1, .slice q2 b.off.length m2, .int .i64 b.sent, .slice q4 b.took.length m4, .int .i64 b.cash] 56 := by subst hW3; exact ((Bx.new' _ _ _ _ (by simp)).alloc _).alloc _
 have hbm : Bx W3 (w.heap.size + 2) [.int .i64 mf, .int .i64 md, .int .i64 mn, .int .i64 ms, .slice pu l.length cu] 58 := by subst hW3; exact (Bx.new' _ [_, _, _, _, _] _ _ (by simp)).alloc _
 have hb3 : Bx W3 (w.heap.size + 3) [.int .i64 0, .slice none 0 0, .slice none 0 0, .int .i64 0, .slice none 0 0, .int .i64 0] 56 := by subst hW3; exact Bx.new' _ _ _ _ (by simp)
 have hS : Step w W3 := by subst hW3; exact (by with_reducible repeat (first | assumption | exact Step.refl _ | apply Step.s_alloc | apply Step.s_drew | apply Step.s_drewN | refine Step.trans ?_ (by assumption)))
 have hz3 : W3.heap.size = w.heap.size + 4 := by subst hW3; simp
 have HO := zH hO
 have HC0 := zH (And.intro hc0 hcash)
 have HTH := zH hthin
 have HB1 := zH hbx
 have HB2 := zH hb2
 have HB3 := zH hb3
 have HBM := zH hbm
 have HMS := zH (AV.keep (.of_step hS) hx)
 have HU := zH (And.intro hpu hcu)
 have HR := zH (Rep.keep (.of_step hS) hr0)
 have HQ := zH (Rep.keep (.of_step hS) hq0)
 have HSHOW := zH (And.intro h2 (And.intro h3 s2))
 have HS := zH hS
 have HZ3 := zH hz3
 have HZ := zH hz
 have HP1 := zH (And.intro hp1 hc1)
 have HOK := zH hok
 have HBK := zH hbk
 have HBV := zH hbv
 have hn1 : 1 ≤ h.dates.length ∧ h.dates.length ≤ 6 := by omega
 have HT := zH (Step.refl W3)
 have HW := zH hW3
 clear hx hms hpu hcu hbu hbm hr0 hq0 h0 h1 h2 h3 h4 s1 s2 s4 hbx hb2 hb3 hS hz3 hz hp1 hc1 hok hbk hbv hW3 hO hcash hc0 hthin
 go_enter Tryz.func100, Tryz.ntmps100
 go_wp2_with fail
 rw [show w.heap.size + 1 + 1 = w.heap.size + 2 from rfl, show w.heap.size + 2 + 1 = w.heap.size + 3 from rfl, ← HW.out]
 refine (RightMessage_any S T h ⟨mf, md, mn, ms, l⟩ _ _ _ ⟨_, rfl, HR.out⟩ HMS.out HOK.out).mono ?_
 rintro e wn ⟨rfl, hSn⟩
 have HTi := zH (HT.out.trans hSn)
 clear hSn HT
 have HT := HTi
 clear HTi
 cases q1 : messV h ⟨mf, md, mn, ms, l⟩ with
 | false =>
  have HF := zH (show takeE h b ⟨mf, md, mn, ms, l⟩ = 1 by simp [takeE, q1])
  clear q1
  (try clear e0 e1 e2 e3 e4 f0 f1 f2 f3 f4 f5)
  obtain ⟨e0, e1, e2, e3, e4⟩ := cells5 (HB1.out.step HT.out)
  obtain ⟨f0, f1, f2, f3, f4, f5⟩ := cells6 (HB2.out.step HT.out)
  obtain ⟨g0, g1, g2, g3, g4, g5⟩ := cells6 (HB3.out.step HT.out)
  have t0 := (HB3.out.step HT.out).frozen 0
  have t1 := (HB3.out.step HT.out).frozen 1
  have t2 := (HB3.out.step HT.out).frozen 2
  have t3 := (HB3.out.step HT.out).frozen 3
  have t4 := (HB3.out.step HT.out).frozen 4
  have t5 := (HB3.out.step HT.out).frozen 5
  go_wp2
  have b6 := set6 (HB3.out.step HT.out) (.int .i64 0) (.slice none 0 0) (.slice none 0 0) (.int .i64 0) (.slice none 0 0) (.int .i64 0)
  exact ret_struct2 (k := 6) rfl siRefBook rfl b6.1 rfl rfl (.no (takeD_no HF.out (by simp)) rfl (StepX.fresh (HS.out.trans HT.out) b6.2 (fun j hj => by omega)))
 | true =>
 have Q1 := zH q1
 clear q1
 obtain ⟨q3, q4⟩ := mess_parts Q1.out
 dsimp only at q3 q4
 obtain ⟨i, rfl, hi0, hi1⟩ := within_nat q3 (by omega)
 have Q4 := zH q4
 have hi : i < h.dates.length := by omega
 clear q3 q4 hi0 hi1
 (try clear x0 x1 x2 x3 x4)
 obtain ⟨x0, x1, x2, x3, x4⟩ := cells5 (HBM.out.step HT.out)
 (try clear e0 e1 e2 e3 e4 f0 f1 f2 f3 f4 f5)
 obtain ⟨e0, e1, e2, e3, e4⟩ := cells5 (HB1.out.step HT.out)
 obtain ⟨f0, f1, f2, f3, f4, f5⟩ := cells6 (HB2.out.step HT.out)
 by_cases q2 : md = b.agency
 rotate_left
 ·have hd : (md != b.agency) = true := by simpa using q2
  have HF := zH (show takeE h b ⟨mf, md, mn, i, l⟩ = 2 by simp only [takeE, Q1.out]; simp [q2])
  clear q2
  (try clear e0 e1 e2 e3 e4 f0 f1 f2 f3 f4 f5)
  obtain ⟨e0, e1, e2, e3, e4⟩ := cells5 (HB1.out.step HT.out)
  obtain ⟨f0, f1, f2, f3, f4, f5⟩ := cells6 (HB2.out.step HT.out)
  obtain ⟨g0, g1, g2, g3, g4, g5⟩ := cells6 (HB3.out.step HT.out)
  have t0 := (HB3.out.step HT.out).frozen 0
  have t1 := (HB3.out.step HT.out).frozen 1
  have t2 := (HB3.out.step HT.out).frozen 2
  have t3 := (HB3.out.step HT.out).frozen 3
  have t4 := (HB3.out.step HT.out).frozen 4
  have t5 := (HB3.out.step HT.out).frozen 5
  go_wp2
  have b6 := set6 (HB3.out.step HT.out) (.int .i64 0) (.slice none 0 0) (.slice none 0 0) (.int .i64 0) (.slice none 0 0) (.int .i64 0)
  exact ret_struct2 (k := 6) rfl siRefBook rfl b6.1 rfl rfl (.no (takeD_no HF.out (by simp)) rfl (StepX.fresh (HS.out.trans HT.out) b6.2 (fun j hj => by omega)))
 have hd : (md != b.agency) = false := by simpa using q2
 have Q2 := zH q2
 clear q2
 go_wp2_with fail
 refine (Has_any S T b ⟨mf, md, mn, i, l⟩ _ _ _ ⟨_, rfl, Rep.keep (.of_step HT.out) HQ.out⟩ (AV.keep (.of_step HT.out) HMS.out)).mono ?_
 rintro e wn2 ⟨rfl, hSn⟩
 clear hd e0 e1 e2 e3 e4 f0 f1 f2 f3 f4 f5 x0 x1 x2 x3 x4
 have HTi := zH (HT.out.trans hSn)
 clear hSn HT
 have HT := HTi
 clear HTi
 cases q3 : hasK b.took (keyOf ⟨mf, md, mn, i, l⟩) with
 | true =>
  have HF := zH (show takeE h b ⟨mf, md, mn, i, l⟩ = 6 from takeE_6 Q1.out Q2.out q3)
  clear q3
  (try clear e0 e1 e2 e3 e4 f0 f1 f2 f3 f4 f5)
  obtain ⟨e0, e1, e2, e3, e4⟩ := cells5 (HB1.out.step HT.out)
  obtain ⟨f0, f1, f2, f3, f4, f5⟩ := cells6 (HB2.out.step HT.out)
  obtain ⟨g0, g1, g2, g3, g4, g5⟩ := cells6 (HB3.out.step HT.out)
  have t0 := (HB3.out.step HT.out).frozen 0
  have t1 := (HB3.out.step HT.out).frozen 1
  have t2 := (HB3.out.step HT.out).frozen 2
  have t3 := (HB3.out.step HT.out).frozen 3
  have t4 := (HB3.out.step HT.out).frozen 4
  have t5 := (HB3.out.step HT.out).frozen 5
  go_wp2
  have b6 := set6 (HB3.out.step HT.out) (.int .i64 0) (.slice none 0 0) (.slice none 0 0) (.int .i64 0) (.slice none 0 0) (.int .i64 0)
  exact ret_struct2 (k := 6) rfl siRefBook rfl b6.1 rfl rfl (.no (takeD_no HF.out (by simp)) rfl (StepX.fresh (HS.out.trans HT.out) b6.2 (fun j hj => by omega)))
 | false =>
 have Q3 := zH q3
 clear q3
 have his : i < b.seats.length := by have := HO.out.2.2.1; omega
 have hrl : ∀ b', OkDesk h b' → ∀ s (hs : s < b'.seats.length), b'.seats[s].length = z := fun b' hb s hs => by have := hb.2.2.2.1 s hs; have := HZ.out; omega
 have HRL := zH hrl
 obtain rfl := HP1.out.1 (by omega)
 obtain ⟨ur, hr1, hr2⟩ := HP1.out.2 i his
 obtain ⟨pr, cr, br, orr, rfl, _, _, hpr, hcr, _⟩ := hr2.ints
 obtain rfl := hpr (by rw [hrl _ HO.out]; exact hz0)
 have hcr2 : ∀ j, j < z → w.cell? ⟨br, orr + j, none⟩ = some (.int .i64 (seatAt b i j)) := fun j hjz => by
  rw [hcr j (by rw [hrl _ HO.out]; exact hjz)]
  simp [seatAt, List.getD_eq_getElem?_getD, his, show j < b.seats[i].length by rw [hrl _ HO.out]; exact hjz]
 have hlow : ∀ j : Nat, j < z → -1 ≤ seatAt b i j := fun j hjz => by
  have h1 := seat_low HBK.out his (show j < b.seats[i].length by rw [hrl _ HO.out]; exact hjz)
  simpa [seatAt, List.getD_eq_getElem?_getD, his, show j < b.seats[i].length by rw [hrl _ HO.out]; exact hjz] using h1
 rw [hrl _ HO.out] at hr1
 have HROW := zH (And.intro hr1 hcr2)
 have HLOW := zH hlow
 have hx2 : (0 : Int) ≤ (i : Int) ∧ (i : Int) < (b.seats.length : Int) := by omega
 clear hr1 hr2 hpr hcr hcr2 hrl hlow
 go_wp2_with fail
 go_loopw [8] (fun idx wr => ∃ k : Nat, k ≤ l.length ∧ idx = .int .i64 k ∧ ((l.take k).all fun j => decide (seatAt b i j = -1)) = true ∧ Step W3 wr) (fun idx _ => l.length - (intOf idx).toNat)
 case atStart => exact ⟨0, Nat.zero_le _, rfl, by simp, HT.out⟩
 case round =>
  obtain ⟨k, hk, rfl, ha, hT⟩ := hrel
  clear HT
  have HA := zH ha
  have HT := zH hT
  clear ha hT
  (try clear x0 x1 x2 x3 x4)
  obtain ⟨x0, x1, x2, x3, x4⟩ := cells5 (HBM.out.step HT.out)
  by_cases hlt : k < l.length
  ·obtain ⟨j, hj, hjz⟩ := seats_nat Q4.out hlt
   have HJ := zH hj
   have hjz2 : j < z := by have := HZ.out; omega
   obtain rfl := HU.out.1 (by omega)
   obtain ⟨y, hy⟩ : ∃ y, y = seatAt b i j := ⟨_, rfl⟩
   have hylow := HLOW.out j hjz2
   rw [← hy] at hylow
   have HY := zH hy
   have HYL := zH hylow
   clear hy hylow hj
   have hx3 : (0 : Int) ≤ (k : Int) ∧ (k : Int) < (l.length : Int) := by omega
   have hx4 : (0 : Int) ≤ (j : Int) ∧ (j : Int) < (z : Int) := by omega
   go_upto_region 10 with (fail)
   refine wp_region_seq (kdOf [] []) [0, 1, 0, 4, 15, 31, 0, 64, 0, 448, 960, 2047, 4095, 8191] [0, 1, 2, 3, 4, 5, 6, 7, 8, 9, 10, 11, 12, 13] [] (by kernel_rfl) (by kernel_rfl) (fun i T z hi hk => by simp [kdOf] at hk <;> (try (split at hk <;> cases hk))) ?_
   intro Wx hWx
   have HTx := zH (HT.out.trans hWx)
   clear hWx HT
   have HT := HTx
   clear HTx
   (try clear x0 x1 x2 x3 x4)
   obtain ⟨x0, x1, x2, x3, x4⟩ := cells5 (HBM.out.step HT.out)
   (try clear e0 e1 e2 e3 e4 f0 f1 f2 f3 f4 f5)
   obtain ⟨e0, e1, e2, e3, e4⟩ := cells5 (HB1.out.step HT.out)
   obtain ⟨f0, f1, f2, f3, f4, f5⟩ := cells6 (HB2.out.step HT.out)
   have hl0 := (HS.out.trans HT.out).kc (HU.out.2 k hlt)
   rw [HJ.out] at hl0
   have r1 := (HS.out.trans HT.out).kc HROW.out.1
   have r2 := (HS.out.trans HT.out).kc (HROW.out.2 j hjz2)
   rw [← HY.out] at r2
   by_cases q5 : 0 ≤ y
   ·have hd : decide (0 ≤ y) = true := by simpa using q5
    have HF := zH (show takeE h b ⟨mf, md, mn, i, l⟩ = 8 by
     rw [takeE_at Q1.out Q2.out Q3.out, if_pos ?_]
     rw [List.all_eq_false]
     exact ⟨l[k], List.getElem_mem hlt, by rw [HJ.out, ← HY.out]; simp; omega⟩)
    repeat ((first | (refine run_off rfl rfl (by rfl) ?_) | (refine run_chain_off rfl rfl (by rfl) (K0_mono _) ?_) | ((refine run_want rfl rfl (by rfl) ⟨?_, fun W hW => ?_, ?_⟩; rotate_left; (· (have d0 := hW.kc x0; have d1 := hW.kc x1; have d2 := hW.kc x2; have d3 := hW.kc x3; have d4 := hW.kc x4; have d5 := hW.kc f1; have d6 := hW.kc hl0; have d7 := hW.kc r1; have d8 := hW.kc r2; go_simp; (try with_reducible rfl)))))); (try simp only [Act.put, zA, zB, zC]))
    refine run_end (L := []) rfl (fun W6 hW6 => ?_)
    have HT6 := zH (HT.out.trans hW6)
    clear hW6 HT
    have HT := HT6
    clear HT6
    clear q5 x0 x1 x2 x3 x4 hl0 r1 r2
    (try clear e0 e1 e2 e3 e4 f0 f1 f2 f3 f4 f5)
    obtain ⟨e0, e1, e2, e3, e4⟩ := cells5 (HB1.out.step HT.out)
    obtain ⟨f0, f1, f2, f3, f4, f5⟩ := cells6 (HB2.out.step HT.out)
    obtain ⟨g0, g1, g2, g3, g4, g5⟩ := cells6 (HB3.out.step HT.out)
    have t0 := (HB3.out.step HT.out).frozen 0
    have t1 := (HB3.out.step HT.out).frozen 1
    have t2 := (HB3.out.step HT.out).frozen 2
    have t3 := (HB3.out.step HT.out).frozen 3
    have t4 := (HB3.out.step HT.out).frozen 4
    have t5 := (HB3.out.step HT.out).frozen 5
    go_wp2
    have b6 := set6 (HB3.out.step HT.out) (.int .i64 0) (.slice none 0 0) (.slice none 0 0) (.int .i64 0) (.slice none 0 0) (.int .i64 0)
    exact ret_struct2 (k := 6) rfl siRefBook rfl b6.1 rfl rfl (.no (takeD_no HF.out (by simp)) rfl (StepX.fresh (HS.out.trans HT.out) b6.2 (fun j hj => by omega)))
   ·have hd : decide (0 ≤ y) = false := by simp; omega
    have HQ := zH (show decide (seatAt b i l[k] = -1) = true by rw [HJ.out, ← HY.out, int_low HYL.out, hd]; rfl)
    repeat ((first | (refine run_off rfl rfl (by rfl) ?_) | (refine run_chain_off rfl rfl (by rfl) (K0_mono _) ?_) | ((refine run_want rfl rfl (by rfl) ⟨?_, fun W hW => ?_, ?_⟩; rotate_left; (· (have d0 := hW.kc x0; have d1 := hW.kc x1; have d2 := hW.kc x2; have d3 := hW.kc x3; have d4 := hW.kc x4; have d5 := hW.kc f1; have d6 := hW.kc hl0; have d7 := hW.kc r1; have d8 := hW.kc r2; go_simp; (try with_reducible rfl)))))); (try simp only [Act.put, zA, zB, zC]))
    refine run_end (L := []) rfl (fun W6 hW6 => ?_)
    have HT6 := zH (HT.out.trans hW6)
    clear hW6 HT
    have HT := HT6
    clear HT6
    clear q5 x0 x1 x2 x3 x4 hl0 r1 r2
    go_wp2
    go_roundw
    case rel => exact ⟨k + 1, by omega, by go_num, all_take (p := fun j => decide (seatAt b i j = -1)) HA.out hlt HQ.out, HT.out⟩
    case measure => simp [intOf]; omega
  ·have Q5 := zH (show (l.all fun j => decide (seatAt b i j = -1)) = true by have := HA.out; rwa [List.take_of_length_le (by omega)] at this)
   clear HA
   (try clear e0 e1 e2 e3 e4 f0 f1 f2 f3 f4 f5)
   obtain ⟨e0, e1, e2, e3, e4⟩ := cells5 (HB1.out.step HT.out)
   obtain ⟨f0, f1, f2, f3, f4, f5⟩ := cells6 (HB2.out.step HT.out)
   by_cases q6 : b.took.length < 1000
   rotate_left
   ·have HF := zH (show takeE h b ⟨mf, md, mn, i, l⟩ = 3 by rw [takeE_at Q1.out Q2.out Q3.out, if_neg (by rw [Q5.out]; simp), if_pos (by omega)])
    have hd : decide ((1000 : Int) ≤ (b.took.length : Int)) = true := by simp; omega
    clear q6
    (try clear e0 e1 e2 e3 e4 f0 f1 f2 f3 f4 f5)
    obtain ⟨e0, e1, e2, e3, e4⟩ := cells5 (HB1.out.step HT.out)
    obtain ⟨f0, f1, f2, f3, f4, f5⟩ := cells6 (HB2.out.step HT.out)
    obtain ⟨g0, g1, g2, g3, g4, g5⟩ := cells6 (HB3.out.step HT.out)
    have t0 := (HB3.out.step HT.out).frozen 0
    have t1 := (HB3.out.step HT.out).frozen 1
    have t2 := (HB3.out.step HT.out).frozen 2
    have t3 := (HB3.out.step HT.out).frozen 3
    have t4 := (HB3.out.step HT.out).frozen 4
    have t5 := (HB3.out.step HT.out).frozen 5
    go_wp2
    have b6 := set6 (HB3.out.step HT.out) (.int .i64 0) (.slice none 0 0) (.slice none 0 0) (.int .i64 0) (.slice none 0 0) (.int .i64 0)
    exact ret_struct2 (k := 6) rfl siRefBook rfl b6.1 rfl rfl (.no (takeD_no HF.out (by simp)) rfl (StepX.fresh (HS.out.trans HT.out) b6.2 (fun j hj => by omega)))
   have HF := zH (show takeE h b ⟨mf, md, mn, i, l⟩ = 0 by rw [takeE_at Q1.out Q2.out Q3.out, if_neg (by rw [Q5.out]; simp), if_neg (by omega)])
   have hd : decide ((1000 : Int) ≤ (b.took.length : Int)) = false := by simp; omega
   have Q6 := zH q6
   clear q6
   go_wp2_with fail
   refine (Copy_any S b _ _ ⟨_, rfl, Rep.keep (.of_step HT.out) HQ.out⟩ HTH.out).mono ?_
   rintro e wd ⟨vs, vo, vt, xs, rfl, hD0, hSd⟩
   obtain ⟨⟨pvs, cvs, rfl⟩, ⟨pvo, cvo, rfl⟩, ⟨pvt, cvt, rfl⟩⟩ := hD0.form
   have hTd := HT.out.trans hSd
   have hbase : w.heap.size + 4 ≤ wd.heap.size := by have := hTd.size; have := HZ3.out; omega
   have hbase2 : w.heap.size + 4 ≤ wr.heap.size := by have := HT.out.size; have := HZ3.out; omega
   clear hd e0 e1 e2 e3 e4 f0 f1 f2 f3 f4 f5 x0 x1 x2 x3 x4
   have hbD := Bx.new wd [.int .i64 b.agency, .slice pvs b.seats.length cvs, .slice pvo b.off.length cvo, .int .i64 b.sent, .slice pvt b.took.length cvt, .int .i64 b.cash] 56
   have hsA := Step.alloc wd (.cells #[.int .i64 b.agency, .slice pvs b.seats.length cvs, .slice pvo b.off.length cvo, .int .i64 b.sent, .slice pvt b.took.length cvt, .int .i64 b.cash] 56)
   have hD1 := (hD0.step hsA).desk (b2 := w.heap.size + 4) hbase2 hbase hbD
   have hT1 := hTd.trans hsA
   obtain ⟨⟨gs, cs, hvs⟩, hforms⟩ := hD1.forms HO.out HZ.out hz0
   injection hvs with hvs1 hvs2 hvs3
   subst hvs1 hvs3
   clear hvs2
   obtain ⟨hxi, gi, ci, hxv⟩ := hforms i hi
   have HXV := zH hxv
   have HT1 := zH hT1
   have HD1 := zH hD1
   clear hforms hxv hbD hsA hTd hSd hD0 hbase hbase2 hT1 hD1
   go_wp2_with fail
   have HT := HT1
   generalize wd.alloc (.cells #[.int .i64 b.agency, .slice (some ⟨gs, 0, none⟩) b.seats.length cvs, .slice pvo b.off.length cvo, .int .i64 b.sent, .slice pvt b.took.length cvt, .int .i64 b.cash] 56) = w2 at *
   generalize wd.heap.size = gb at *
   go_loopw [10] (fun idx wr => ∃ k : Nat, k ≤ l.length ∧ idx = .int .i64 k ∧ Desk6 (w.heap.size + 4) wr gb (takeTo b i (l.take k)) (.slice (some ⟨gs, 0, none⟩) b.seats.length cvs) (.slice pvo b.off.length cvo) (.slice pvt b.took.length cvt) xs ∧ Step W3 wr) (fun idx _ => l.length - (intOf idx).toNat)
   case atStart => exact ⟨0, Nat.zero_le _, rfl, HD1.out, HT1.out⟩
   case round =>
    obtain ⟨k, hk, rfl, hDk, hT⟩ := hrel
    clear HT
    have HT := zH hT
    have hOk := (like_take b i (l.take k)).ok HO.out (by have := HO.out.2.2.2.2.2.2.1; omega)
    have HDK := zH hDk
    have HOKK := zH hOk
    clear hDk hT hOk
    (try clear x0 x1 x2 x3 x4)
    obtain ⟨x0, x1, x2, x3, x4⟩ := cells5 (HBM.out.step HT.out)
    by_cases hlt : k < l.length
    ·obtain ⟨j, hj, hjz⟩ := seats_nat Q4.out hlt
     have HJ := zH hj
     have hjz2 : j < z := by have := HZ.out; omega
     obtain rfl := HU.out.1 (by omega)
     have hisk : i < (takeTo b i (l.take k)).seats.length := by have := HOKK.out.2.2.1; omega
     have hjk : j < (takeTo b i (l.take k)).seats[i].length := by rw [HRL.out _ HOKK.out]; exact hjz2
     obtain ⟨m0, m1, z1, _, hgir⟩ := HDK.out.seat_c hisk hxi HXV.out hjk
     have HM := zH (And.intro m0 z1)
     have hx3 : (0 : Int) ≤ (k : Int) ∧ (k : Int) < (l.length : Int) := by omega
     have hx4 : (0 : Int) ≤ (j : Int) ∧ (j : Int) < (z : Int) := by omega
     clear hj m0 m1 z1
     go_upto_region 18 with (fail)
     refine wp_region_seq (kdOf [] []) [0, 1, 0, 4, 15, 31, 0, 64, 0, 448, 960, 2047, 4095] [0, 1, 2, 3, 4, 5, 6, 7, 8, 9, 10, 11] [12] (by kernel_rfl) (by kernel_rfl) (fun i T z hi hk => by simp [kdOf] at hk <;> (try (split at hk <;> cases hk))) ?_
     intro Wx hWx
     have HSX := zH hWx
     have HTW := HT
     have HTx := zH (HT.out.trans hWx)
     clear hWx HT
     have HT := HTx
     clear HTx
     (try clear x0 x1 x2 x3 x4)
     obtain ⟨x0, x1, x2, x3, x4⟩ := cells5 (HBM.out.step HT.out)
     obtain ⟨_, y1, _, _, _, _⟩ := cells6 (HDK.out.step HSX.out).bx
     have hl0 := (HS.out.trans HT.out).kc (HU.out.2 k hlt)
     rw [HJ.out] at hl0
     have m0 := HSX.out.kc HM.out.1
     have HT0 := HT
     have HT := HSX
     repeat ((first | (refine run_off rfl rfl (by rfl) ?_) | (refine run_chain_off rfl rfl (by rfl) (K0_mono _) ?_) | ((refine run_want rfl rfl (by rfl) ⟨?_, fun W hW => ?_, ?_⟩; rotate_left; (· (have d0 := hW.kc x0; have d1 := hW.kc x1; have d2 := hW.kc x2; have d3 := hW.kc x3; have d4 := hW.kc x4; have d5 := hW.kc y1; have d6 := hW.kc hl0; have d7 := hW.kc m0; go_simp; (try with_reducible rfl)))))); (try simp only [Act.put, zA, zB, zC]))
     refine run_end (L := [_]) rfl (fun W6 hW6 => ?_)
     have HT6 := zH (HT.out.trans hW6)
     clear hW6 HT
     have HT := HT6
     clear HT6
     have hD6 := HDK.out.step HT.out
     obtain ⟨_, m1, z1, _, _⟩ := hD6.seat_c hisk hxi HXV.out hjk
     have hset := hD6.setSeat (j := j) hisk hxi (by rw [HRL.out _ HOKK.out]; exact HXV.out) 0
     have H7 := zH (And.intro hset.1 (Step.setNew (HTW.out.trans HT.out) ⟨gi, j, none⟩ (.int .i64 0) (by have := hset.2; have := HZ3.out; show W3.heap.size ≤ gi; omega)))
     have HN := zH (show takeTo b i (l.take (k + 1)) = putSeat (takeTo b i (l.take k)) i j 0 by rw [List.take_succ_eq_append_getElem hlt, takeTo_snoc, HJ.out, Int.toNat_natCast])
     clear x0 x1 x2 x3 x4 y1 hl0 m0 hD6 hset
     go_wp2
     go_roundw
     case rel => exact ⟨k + 1, by omega, by go_num, by rw [HN.out]; exact H7.out⟩
     case measure => simp [intOf]; omega
    ·have htk : takeTo b i (l.take k) = takeTo b i l := by rw [List.take_of_length_le (by omega)]
     rw [htk] at HDK HOKK
     have HFIN := zH (show takeD h b ⟨mf, md, mn, i, l⟩ = .ok { takeTo b i l with took := b.took ++ [⟨mf, mn⟩] } by rw [takeD_yes HF.out]; simp [takeP, keyOf])
     clear htk HF
     have hq6 := Q6.out
     obtain ⟨y0, y1, y2, y3, y4, y5⟩ := cells6 HDK.out.bx
     have hown : OwnL (fun _ => False) (w.heap.size + 4) 131 wr (.slice pvt b.took.length cvt) b.took := by have := HDK.out.took; rw [takeTo_took] at this; exact this
     have hn1 : b.took.length + [(⟨mf, mn⟩ : Key)].length = b.took.length + 1 := rfl
     have hn2 : b.took.length + 1 ≤ maxLen := by simp only [maxLen]; omega
     have hsA := Step.alloc wr (.cells #[.int .i64 mf, .int .i64 mn] 131)
     have hn3 : w.heap.size + 4 ≤ (wr.alloc (.cells #[.int .i64 mf, .int .i64 mn] 131)).heap.size := by have := HDK.out.gb; have := HDK.out.lt; have := hsA.size; omega
     have hown2 := hown.step hsA
     have hue := SLe.one (S := avoid (fun _ => False) (.slice pvt b.took.length cvt)) (w := wr) (cs := [.int .i64 mf, .int .i64 mn]) (x := (⟨mf, mn⟩ : Key)) 131 rfl
     go_wp2_with (at_builtin; refine wpl_append (α := Key) (S := fun _ => False) (base := w.heap.size + 4) (v := .slice pvt b.took.length cvt) (l := b.took) (m := [⟨mf, mn⟩]) eiRefKeys rfl _ _ rfl rfl rfl hown2 hue (b.took.length + 1) hn1 (b.took ++ [⟨mf, mn⟩]) rfl hn2 (by omega) hn3 ?_)
     intro p2 c2 w3 hown4 hg4
     have hD2 := HDK.out.step hsA
     have hD9 := hD2.setTook hg4 hown4
     have hT9 := (StepX.fresh (HT.out.trans hsA) (StepX.grown hg4 fun j hj _ => hj) (fun j hj => by have := (hown2.lt j hj).1; have := HZ3.out; omega)).setNew ⟨gb, 4, none⟩ (.slice p2 (b.took.length + 1) c2) (by have := hD2.gb; have := HZ3.out; show W3.heap.size ≤ gb; omega)
     have y4' := (hD2.bx_took hg4).cell 4
     have z4' := (hD2.bx_took hg4).frozen 4
     simp only [zD, zE] at y4'
     have H9 := zH (And.intro hD9 hT9)
     clear hown hn1 hn2 hsA hn3 hown2 hue hown4 hg4 hD2 hD9 hT9 y0 y1 y2 y3 y4 y5 x0 x1 x2 x3 x4
     go_upto_region 20 with (fail)
     clear y4' z4'
     generalize w3.setCell ⟨gb, 4, none⟩ (.slice p2 (b.took.length + 1) c2) = w9 at *
     obtain ⟨y0, y1, y2, y3, y4, y5⟩ := cells6 H9.out.1.bx
     have HT := zH H9.out.2
     obtain ⟨g0, g1, g2, g3, g4, g5⟩ := cells6 (HB3.out.step HT.out)
     have t0 := (HB3.out.step HT.out).frozen 0
     have t1 := (HB3.out.step HT.out).frozen 1
     have t2 := (HB3.out.step HT.out).frozen 2
     have t3 := (HB3.out.step HT.out).frozen 3
     have t4 := (HB3.out.step HT.out).frozen 4
     have t5 := (HB3.out.step HT.out).frozen 5
     go_wp2
     have b6 := set6 (HB3.out.step HT.out) (.int .i64 (takeTo b i l).agency) (.slice (some ⟨gs, 0, none⟩) b.seats.length cvs) (.slice pvo b.off.length cvo) (.int .i64 (takeTo b i l).sent) (.slice p2 (b.took.length + 1) c2) (.int .i64 (takeTo b i l).cash)
     refine ret_struct2 (k := 6) rfl siRefBook rfl b6.1 rfl rfl ?_
     unfold RActEnds
     rw [HFIN.out]
     exact ⟨_, rfl, ⟨_, rfl, Rep.weak (S := fun j => j < w.heap.size + 4) (fun j _ hj => by unfold Old at hj; omega) (Rep.keep (b6.2.keeps.mono fun j _ hj => by omega) (H9.out.1.book (fun j h1 h2 => by omega)))⟩, StepX.fresh (HS.out.trans HT.out) b6.2 (fun j hj => by omega)⟩
end Go.Proofs.YtgpiieogiafdoaaGreat
namespace Go.Proofs.YtgpiieogiafdoaaGreat
set_option linter.unusedSimpArgs false
set_option linter.unusedVariables false
open Go.RowKit Go.BT
theorem siRefMessage : SI Tryz.prog 58 5 := ⟨⟨_, Tryz.underlying58⟩, by kernel_rfl⟩
def RGiveEnds (r : Except Int (Book × BT.Message)) (e : Ending) (w w' : World) : Prop := ∃ v' m', e = .returned (.tuple #[v', m', .int .i64 (actR (bookOf r)).2]) ∧ AV (Old w) w' v' (actR (bookOf r)).1 ∧ AV (Old w) w' m' (restOf noMsg r) ∧ Step w w'
theorem noMsg_rep (S : Nat → Prop) (w : World) : Rep.rep S w [.int .i64 0, .int .i64 0, .int .i64 0, .int .i64 0, .slice none 0 0] noMsg := ⟨_, rfl, SL.nil _ _⟩
theorem RGiveEnds.no {r : Except Int (Book × BT.Message)} {c : Int} {w w' : World} {v : Value} (hr : r = .error c) (hv : v = .tuple #[.agg #[.int .i64 0, .slice none 0 0, .slice none 0 0, .int .i64 0, .slice none 0 0, .int .i64 0], .agg #[.int .i64 0, .int .i64 0, .int .i64 0, .int .i64 0, .slice none 0 0], .int .i64 c]) (hS : Step w w') : RGiveEnds r (.returned v) w w' := by
 unfold RGiveEnds
 rw [hr, hv]
 exact ⟨_, _, rfl, ⟨_, rfl, noBook_rep _ _⟩, ⟨_, rfl, noMsg_rep _ _⟩, hS⟩
theorem giveE_2 {h : House} {b : Book} {t s : Int} {l : List Int} (h1 : withinB t 0 (agN h - 1) = true) (h2 : t ≠ b.agency) (h3 : withinB s 0 (h.dates.length - 1) = true) (h4 : seatsB h l = true) :
  giveE h b t s l = if offAt b s = true then 8 else if (l.all fun j => decide (seatAt b s j ≠ -1)) = false then 7 else if (l.all fun j => !decide (0 < seatAt b s j)) = false then 6 else if 1000 ≤ b.sent then 3 else 0 := by
 unfold giveE; rw [h1, h3, h4, if_neg (by simp), if_neg h2, if_neg (by simp), if_neg (by simp)]
theorem RGive_any (S T : Nat → Prop) (h : House) (b : Book) (t s : Int) (l : List Int) (v u x : Value) (w : World) (hv : AV S w v h) (hu : AV S w u b) (hx : SL T w x l) (hl : l.length ≤ 1000000) (hok : valid h = true) (hbk : bookB h b = true) :
  Calls Tryz.prog 99 #[v, u, .int .i64 t, .int .i64 s, x] w (fun e w' => RGiveEnds (giveD h b t s l) e w w') := by
 obtain ⟨hO, hcash, hc0, hthin⟩ := okDesk_book hok hbk
 obtain ⟨cs, rfl, hr0⟩ := hv
 have hr := hr0
 obtain ⟨c0, c1, c2, c3, c4, rfl, h0, h1, h2, h3, h4⟩ := hr
 obtain ⟨p0, k0, rfl⟩ := h0.form
 obtain ⟨p1, k1, rfl⟩ := h1.form
 obtain ⟨p2, k2, rfl⟩ := h2.form
 obtain ⟨p3, k3, rfl⟩ := h3.form
 obtain ⟨p4, k4, rfl⟩ := h4.form
 obtain ⟨cs, rfl, hq0⟩ := hu
 have hq := hq0
 obtain ⟨d1, d2, d4, rfl, s1, s2, s4⟩ := hq
 obtain ⟨q1, m1, bs, os, rfl, _, _, hp1, hc1, _⟩ := s1.rows
 obtain ⟨q2, m2, rfl⟩ := s2.form
 obtain ⟨q4, m4, rfl⟩ := s4.form
 have hbv := bounds_valid hok
 obtain ⟨z, hz⟩ : ∃ z : Nat, sizeL h.sectors = z := ⟨(sizeL h.sectors).toNat, by omega⟩
 have hz100 : z ≤ 100 := by omega
 have hz0 : 0 < z := by have := size_pos hok; omega
 obtain ⟨pu, cu, bu, ou, rfl, _, hlm, hpu, hcu, hbu⟩ := hx.ints
 obtain ⟨W3, hW3⟩ : ∃ W3, W3 = (((w.alloc (.cells #[.slice p0 h.sectors.length k0, .slice p1 h.prices.length k1, .slice p2 h.dates.length k2, .slice p3 h.frm.length k3, .slice p4 h.holds.length k4] 26)).alloc (.cells #[.int .i64 b.agency, .slice q1 b.seats.length m1, .slice q2 b.off.length m2, .int .i64 b.sent, .slice q4 b.took.length m4, .int .i64 b.cash] 56)).alloc (.cells #[.int .i64 0, .slice none 0 0, .slice none 0 0, .int .i64 0, .slice none 0 0, .int .i64 0] 56)).alloc (.cells #[.int .i64 0, .int .i64 0, .int .i64 0, .int .i64 0, .slice none 0 0] 58) := ⟨_, rfl⟩
 have hbx : Bx W3 w.heap.size [.slice p0 h.sectors.length k0, .slice p1 h.prices.length k1, .slice p2 h.dates.length k2, .slice p3 h.frm.length k3, .slice p4 h.holds.length k4] 26 := by subst hW3; exact (((Bx.new _ _ _).alloc _).alloc _).alloc _
 have hb2 : Bx W3 (w.heap.size + 1) [.int .i64 b.agency, .slice q1 b.seats.length m1, .slice q2 b.off.length m2, .int .i64 b.sent, .slice q4 b.took.length m4, .int .i64 b.cash] 56 := by subst hW3; exact ((Bx.new' _ _ _ _ (by simp)).alloc _).alloc _
 have hb3 : Bx W3 (w.heap.size + 2) [.int .i64 0, .slice none 0 0, .slice none 0 0, .int .i64 0, .slice none 0 0, .int .i64 0] 56 := by subst hW3; exact (Bx.new' _ _ _ _ (by simp)).alloc _
 have hb4 : Bx W3 (w.heap.size + 3) [.int .i64 0, .int .i64 0, .int .i64 0, .int .i64 0, .slice none 0 0] 58 := by subst hW3; exact Bx.new' _ [_, _, _, _, _] _ _ (by simp)
 have hS : Step w W3 := by subst hW3; exact (by with_reducible repeat (first | assumption | exact Step.refl _ | apply Step.s_alloc | apply Step.s_drew | apply Step.s_drewN | refine Step.trans ?_ (by assumption)))
 have hz3 : W3.heap.size = w.heap.size + 4 := by subst hW3; simp
 have HO := zH hO
 have HC0 := zH (And.intro hc0 hcash)
 have HTH := zH hthin
 have HB1 := zH hbx
 have HB2 := zH hb2
 have HB3 := zH hb3
 have HB4 := zH hb4
 have HXS := zH (hx.keep (.of_step hS))
 have HU := zH (And.intro hpu hcu)
 have HR := zH (Rep.keep (.of_step hS) hr0)
 have HQ := zH (Rep.keep (.of_step hS) hq0)
 have HSHOW := zH (And.intro h2 (And.intro h3 s2))
 have HS := zH hS
 have HZ3 := zH hz3
 have HZ := zH hz
 have HP1 := zH (And.intro hp1 hc1)
 have HOK := zH hok
 have HBK := zH hbk
 have HBV := zH hbv
 have hn1 : 1 ≤ h.dates.length ∧ h.dates.length ≤ 6 := by omega
 have HT := zH (Step.refl W3)
 have HW := zH hW3
 clear hx hpu hcu hbu hb4 hr0 hq0 h0 h1 h2 h3 h4 s1 s2 s4 hbx hb2 hb3 hS hz3 hz hp1 hc1 hok hbk hbv hW3 hO hcash hc0 hthin
 have hwa : IntKind.i64.wrap ((agN h : Int) - 1) = (agN h : Int) - 1 := by rw [IntKind.wrap_i64]; have := HBV.out; omega
 have hwd : IntKind.i64.wrap ((h.dates.length : Int) - 1) = (h.dates.length : Int) - 1 := by rw [IntKind.wrap_i64]; omega
 have hf0 : 0 < h.frm.length := by have := HBV.out; omega
 have hh0 : 0 < h.holds.length := by have := HBV.out; omega
 have hh1 : (0 : Int) < (h.holds.length : Int) := by omega
 obtain ⟨pq4, kq4, b4, o4, eh4, _, _, hp4, hc4, _⟩ := (rep5 HR.out).2.2.2.2.rows
 injection eh4 with ea eb ec
 subst ea ec
 clear eb
 obtain rfl := hp4 hh0
 obtain ⟨uz, gz, huz⟩ := hc4 0 hh0
 obtain ⟨pz, kz, rfl⟩ := huz.form
 simp only [Nat.add_zero] at gz
 have hlz : h.holds[0].length = z := by have := HBV.out.2.2.2.2.2.2.2.2.1 0 hh0; have := HZ.out; omega
 rw [hlz] at gz
 have HGZ := zH gz
 clear gz huz hlz hc4 hp4
 have hcall := zH (Agencies_any S h _ _ ⟨_, rfl, HR.out⟩ hf0)
 go_enter Tryz.func99, Tryz.ntmps99
 go_wp2_with fail
 rw [show w.heap.size + 1 + 1 = w.heap.size + 2 from rfl, show w.heap.size + 2 + 1 = w.heap.size + 3 from rfl, ← HW.out]
 refine hcall.out.mono ?_
 rintro e wn ⟨rfl, hSn⟩
 clear hcall
 have HTi := zH (HT.out.trans hSn)
 clear hSn HT
 have HT := HTi
 clear HTi
 go_wp2_with fail
 refine (In_st _ _ _ _).mono ?_
 rintro e wn2 ⟨rfl, hSn⟩
 have HTi := zH (HT.out.trans hSn)
 clear hSn HT
 have HT := HTi
 clear HTi
 cases q1 : withinB t 0 ((agN h : Int) - 1) with
 | false =>
  have HF := zH (show giveE h b t s l = 2 by simp [giveE, q1])
  clear q1
  (try clear e0 e1 e2 e3 e4 f0 f1 f2 f3 f4 f5)
  obtain ⟨e0, e1, e2, e3, e4⟩ := cells5 (HB1.out.step HT.out)
  obtain ⟨f0, f1, f2, f3, f4, f5⟩ := cells6 (HB2.out.step HT.out)
  obtain ⟨g0, g1, g2, g3, g4, g5⟩ := cells6 (HB3.out.step HT.out)
  have t0 := (HB3.out.step HT.out).frozen 0
  have t1 := (HB3.out.step HT.out).frozen 1
  have t2 := (HB3.out.step HT.out).frozen 2
  have t3 := (HB3.out.step HT.out).frozen 3
  have t4 := (HB3.out.step HT.out).frozen 4
  have t5 := (HB3.out.step HT.out).frozen 5
  obtain ⟨n0, n1, n2, n3, n4⟩ := cells5 (HB4.out.step HT.out)
  have l0 := (HB4.out.step HT.out).frozen 0
  have l1 := (HB4.out.step HT.out).frozen 1
  have l2 := (HB4.out.step HT.out).frozen 2
  have l3 := (HB4.out.step HT.out).frozen 3
  have l4 := (HB4.out.step HT.out).frozen 4
  go_wp2
  have b6 := set6 (HB3.out.step HT.out) (.int .i64 0) (.slice none 0 0) (.slice none 0 0) (.int .i64 0) (.slice none 0 0) (.int .i64 0)
  have b5 := set5 ((HB4.out.step HT.out).keep b6.2.keeps (by omega)) (.int .i64 0) (.int .i64 0) (.int .i64 0) (.int .i64 0) (.slice none 0 0)
  exact ret_struct_cc (k := 6) (k' := 5) rfl siRefBook siRefMessage rfl rfl (b6.1.keep b5.2.keeps (by omega)) b5.1 rfl rfl rfl (.no (giveD_no HF.out (by simp)) rfl (StepX.fresh (StepX.fresh (HS.out.trans HT.out) b6.2 (fun j hj => by omega)) b5.2 (fun j hj => by omega)))
 | true =>
 have Q1 := zH q1
 clear q1
 (try clear e0 e1 e2 e3 e4 f0 f1 f2 f3 f4 f5)
 obtain ⟨e0, e1, e2, e3, e4⟩ := cells5 (HB1.out.step HT.out)
 obtain ⟨f0, f1, f2, f3, f4, f5⟩ := cells6 (HB2.out.step HT.out)
 by_cases q2 : t = b.agency
 ·have hd : (t == b.agency) = true := by simpa using q2
  have HF := zH (show giveE h b t s l = 2 by simp [giveE, Q1.out, q2])
  clear q2
  (try clear e0 e1 e2 e3 e4 f0 f1 f2 f3 f4 f5)
  obtain ⟨e0, e1, e2, e3, e4⟩ := cells5 (HB1.out.step HT.out)
  obtain ⟨f0, f1, f2, f3, f4, f5⟩ := cells6 (HB2.out.step HT.out)
  obtain ⟨g0, g1, g2, g3, g4, g5⟩ := cells6 (HB3.out.step HT.out)
  have t0 := (HB3.out.step HT.out).frozen 0
  have t1 := (HB3.out.step HT.out).frozen 1
  have t2 := (HB3.out.step HT.out).frozen 2
  have t3 := (HB3.out.step HT.out).frozen 3
  have t4 := (HB3.out.step HT.out).frozen 4
  have t5 := (HB3.out.step HT.out).frozen 5
  obtain ⟨n0, n1, n2, n3, n4⟩ := cells5 (HB4.out.step HT.out)
  have l0 := (HB4.out.step HT.out).frozen 0
  have l1 := (HB4.out.step HT.out).frozen 1
  have l2 := (HB4.out.step HT.out).frozen 2
  have l3 := (HB4.out.step HT.out).frozen 3
  have l4 := (HB4.out.step HT.out).frozen 4
  go_wp2
  have b6 := set6 (HB3.out.step HT.out) (.int .i64 0) (.slice none 0 0) (.slice none 0 0) (.int .i64 0) (.slice none 0 0) (.int .i64 0)
  have b5 := set5 ((HB4.out.step HT.out).keep b6.2.keeps (by omega)) (.int .i64 0) (.int .i64 0) (.int .i64 0) (.int .i64 0) (.slice none 0 0)
  exact ret_struct_cc (k := 6) (k' := 5) rfl siRefBook siRefMessage rfl rfl (b6.1.keep b5.2.keeps (by omega)) b5.1 rfl rfl rfl (.no (giveD_no HF.out (by simp)) rfl (StepX.fresh (StepX.fresh (HS.out.trans HT.out) b6.2 (fun j hj => by omega)) b5.2 (fun j hj => by omega)))
 have hd : (t == b.agency) = false := by simpa using q2
 have Q2 := zH q2
 clear q2
 go_wp2_with fail
 refine (In_st _ _ _ _).mono ?_
 rintro e wn3 ⟨rfl, hSn⟩
 clear hd
 have HTi := zH (HT.out.trans hSn)
 clear hSn HT
 have HT := HTi
 clear HTi
 cases q3 : withinB s 0 ((h.dates.length : Int) - 1) with
 | false =>
  have HF := zH (show giveE h b t s l = 2 by simp [giveE, Q1.out, Q2.out, q3])
  clear q3
  (try clear e0 e1 e2 e3 e4 f0 f1 f2 f3 f4 f5)
  obtain ⟨e0, e1, e2, e3, e4⟩ := cells5 (HB1.out.step HT.out)
  obtain ⟨f0, f1, f2, f3, f4, f5⟩ := cells6 (HB2.out.step HT.out)
  obtain ⟨g0, g1, g2, g3, g4, g5⟩ := cells6 (HB3.out.step HT.out)
  have t0 := (HB3.out.step HT.out).frozen 0
  have t1 := (HB3.out.step HT.out).frozen 1
  have t2 := (HB3.out.step HT.out).frozen 2
  have t3 := (HB3.out.step HT.out).frozen 3
  have t4 := (HB3.out.step HT.out).frozen 4
  have t5 := (HB3.out.step HT.out).frozen 5
  obtain ⟨n0, n1, n2, n3, n4⟩ := cells5 (HB4.out.step HT.out)
  have l0 := (HB4.out.step HT.out).frozen 0
  have l1 := (HB4.out.step HT.out).frozen 1
  have l2 := (HB4.out.step HT.out).frozen 2
  have l3 := (HB4.out.step HT.out).frozen 3
  have l4 := (HB4.out.step HT.out).frozen 4
  go_wp2
  have b6 := set6 (HB3.out.step HT.out) (.int .i64 0) (.slice none 0 0) (.slice none 0 0) (.int .i64 0) (.slice none 0 0) (.int .i64 0)
  have b5 := set5 ((HB4.out.step HT.out).keep b6.2.keeps (by omega)) (.int .i64 0) (.int .i64 0) (.int .i64 0) (.int .i64 0) (.slice none 0 0)
  exact ret_struct_cc (k := 6) (k' := 5) rfl siRefBook siRefMessage rfl rfl (b6.1.keep b5.2.keeps (by omega)) b5.1 rfl rfl rfl (.no (giveD_no HF.out (by simp)) rfl (StepX.fresh (StepX.fresh (HS.out.trans HT.out) b6.2 (fun j hj => by omega)) b5.2 (fun j hj => by omega)))
 | true =>
 have Q3 := zH q3
 clear q3
 (try clear e0 e1 e2 e3 e4 f0 f1 f2 f3 f4 f5)
 obtain ⟨e0, e1, e2, e3, e4⟩ := cells5 (HB1.out.step HT.out)
 obtain ⟨f0, f1, f2, f3, f4, f5⟩ := cells6 (HB2.out.step HT.out)
 have gz := HT.out.kc HGZ.out
 go_wp2_with fail
 clear gz
 refine (rising_any T l z (by omega) _ _ (HXS.out.keep (.of_step HT.out))).mono ?_
 rintro e wn4 ⟨rfl, hSn⟩
 have HTi := zH (HT.out.trans hSn)
 clear hSn HT
 have HT := HTi
 clear HTi
 cases q4 : risingB l z with
 | false =>
  have HF := zH (show giveE h b t s l = 2 by simp [giveE, Q1.out, Q2.out, Q3.out, seats_rising, HZ.out, q4])
  clear q4
  (try clear e0 e1 e2 e3 e4 f0 f1 f2 f3 f4 f5)
  obtain ⟨e0, e1, e2, e3, e4⟩ := cells5 (HB1.out.step HT.out)
  obtain ⟨f0, f1, f2, f3, f4, f5⟩ := cells6 (HB2.out.step HT.out)
  obtain ⟨g0, g1, g2, g3, g4, g5⟩ := cells6 (HB3.out.step HT.out)
  have t0 := (HB3.out.step HT.out).frozen 0
  have t1 := (HB3.out.step HT.out).frozen 1
  have t2 := (HB3.out.step HT.out).frozen 2
  have t3 := (HB3.out.step HT.out).frozen 3
  have t4 := (HB3.out.step HT.out).frozen 4
  have t5 := (HB3.out.step HT.out).frozen 5
  obtain ⟨n0, n1, n2, n3, n4⟩ := cells5 (HB4.out.step HT.out)
  have l0 := (HB4.out.step HT.out).frozen 0
  have l1 := (HB4.out.step HT.out).frozen 1
  have l2 := (HB4.out.step HT.out).frozen 2
  have l3 := (HB4.out.step HT.out).frozen 3
  have l4 := (HB4.out.step HT.out).frozen 4
  go_wp2
  have b6 := set6 (HB3.out.step HT.out) (.int .i64 0) (.slice none 0 0) (.slice none 0 0) (.int .i64 0) (.slice none 0 0) (.int .i64 0)
  have b5 := set5 ((HB4.out.step HT.out).keep b6.2.keeps (by omega)) (.int .i64 0) (.int .i64 0) (.int .i64 0) (.int .i64 0) (.slice none 0 0)
  exact ret_struct_cc (k := 6) (k' := 5) rfl siRefBook siRefMessage rfl rfl (b6.1.keep b5.2.keeps (by omega)) b5.1 rfl rfl rfl (.no (giveD_no HF.out (by simp)) rfl (StepX.fresh (StepX.fresh (HS.out.trans HT.out) b6.2 (fun j hj => by omega)) b5.2 (fun j hj => by omega)))
 | true =>
 have Q4 := zH (show seatsB h l = true by rw [seats_rising, HZ.out]; exact q4)
 clear q4
 have HGE := zH (giveE_2 Q1.out Q2.out Q3.out Q4.out)
 obtain ⟨i, rfl, hi0, hi1⟩ := within_nat Q3.out (by omega)
 have hi : i < h.dates.length := by omega
 clear hi0 hi1
 have hio : i < b.off.length := by have := HO.out.2.1; omega
 obtain ⟨po, co, bo, oo, eo, _, _, hpo, hco, _⟩ := HSHOW.out.2.2.bools
 injection eo with ea eb ec
 subst ea ec
 clear eb
 obtain rfl := hpo (by omega)
 have hoff : offAt b i = b.off[i] := by simp [offAt, List.getD_eq_getElem?_getD, hio]
 have hx1 : (0 : Int) ≤ (i : Int) ∧ (i : Int) < (b.off.length : Int) := by omega
 have hco := (HS.out.trans HT.out).kc (hco i hio)
 rw [← hoff] at hco
 clear hoff hpo
 (try clear e0 e1 e2 e3 e4 f0 f1 f2 f3 f4 f5)
 obtain ⟨e0, e1, e2, e3, e4⟩ := cells5 (HB1.out.step HT.out)
 obtain ⟨f0, f1, f2, f3, f4, f5⟩ := cells6 (HB2.out.step HT.out)
 cases q5 : offAt b i with
 | true =>
  rw [q5] at hco
  have HF := zH (show giveE h b t i l = 8 by rw [HGE.out, if_pos q5])
  clear q5
  (try clear e0 e1 e2 e3 e4 f0 f1 f2 f3 f4 f5)
  obtain ⟨e0, e1, e2, e3, e4⟩ := cells5 (HB1.out.step HT.out)
  obtain ⟨f0, f1, f2, f3, f4, f5⟩ := cells6 (HB2.out.step HT.out)
  obtain ⟨g0, g1, g2, g3, g4, g5⟩ := cells6 (HB3.out.step HT.out)
  have t0 := (HB3.out.step HT.out).frozen 0
  have t1 := (HB3.out.step HT.out).frozen 1
  have t2 := (HB3.out.step HT.out).frozen 2
  have t3 := (HB3.out.step HT.out).frozen 3
  have t4 := (HB3.out.step HT.out).frozen 4
  have t5 := (HB3.out.step HT.out).frozen 5
  obtain ⟨n0, n1, n2, n3, n4⟩ := cells5 (HB4.out.step HT.out)
  have l0 := (HB4.out.step HT.out).frozen 0
  have l1 := (HB4.out.step HT.out).frozen 1
  have l2 := (HB4.out.step HT.out).frozen 2
  have l3 := (HB4.out.step HT.out).frozen 3
  have l4 := (HB4.out.step HT.out).frozen 4
  go_wp2
  have b6 := set6 (HB3.out.step HT.out) (.int .i64 0) (.slice none 0 0) (.slice none 0 0) (.int .i64 0) (.slice none 0 0) (.int .i64 0)
  have b5 := set5 ((HB4.out.step HT.out).keep b6.2.keeps (by omega)) (.int .i64 0) (.int .i64 0) (.int .i64 0) (.int .i64 0) (.slice none 0 0)
  exact ret_struct_cc (k := 6) (k' := 5) rfl siRefBook siRefMessage rfl rfl (b6.1.keep b5.2.keeps (by omega)) b5.1 rfl rfl rfl (.no (giveD_no HF.out (by simp)) rfl (StepX.fresh (StepX.fresh (HS.out.trans HT.out) b6.2 (fun j hj => by omega)) b5.2 (fun j hj => by omega)))
 | false =>
 rw [q5] at hco
 have Q5 := zH q5
 clear q5
 have his : i < b.seats.length := by have := HO.out.2.2.1; omega
 have hrl : ∀ b', OkDesk h b' → ∀ s (hs : s < b'.seats.length), b'.seats[s].length = z := fun b' hb s hs => by have := hb.2.2.2.1 s hs; have := HZ.out; omega
 have HRL := zH hrl
 obtain rfl := HP1.out.1 (by omega)
 obtain ⟨ur, hr1, hr2⟩ := HP1.out.2 i his
 obtain ⟨pr, cr, br, orr, rfl, _, _, hpr, hcr, _⟩ := hr2.ints
 obtain rfl := hpr (by rw [hrl _ HO.out]; exact hz0)
 have hcr2 : ∀ j, j < z → w.cell? ⟨br, orr + j, none⟩ = some (.int .i64 (seatAt b i j)) := fun j hjz => by
  rw [hcr j (by rw [hrl _ HO.out]; exact hjz)]
  simp [seatAt, List.getD_eq_getElem?_getD, his, show j < b.seats[i].length by rw [hrl _ HO.out]; exact hjz]
 have hlow : ∀ j : Nat, j < z → -1 ≤ seatAt b i j := fun j hjz => by
  have h1 := seat_low HBK.out his (show j < b.seats[i].length by rw [hrl _ HO.out]; exact hjz)
  simpa [seatAt, List.getD_eq_getElem?_getD, his, show j < b.seats[i].length by rw [hrl _ HO.out]; exact hjz] using h1
 rw [hrl _ HO.out] at hr1
 have HROW := zH (And.intro hr1 hcr2)
 have HLOW := zH hlow
 have hx2 : (0 : Int) ≤ (i : Int) ∧ (i : Int) < (b.seats.length : Int) := by omega
 clear hr1 hr2 hpr hcr hcr2 hrl hlow
 go_wp2_with fail
 clear hco e0 e1 e2 e3 e4 f0 f1 f2 f3 f4 f5
 go_loopw [13] (fun idx wr => ∃ k : Nat, k ≤ l.length ∧ idx = .int .i64 k ∧ ((l.take k).all fun j => decide (seatAt b i j ≠ -1)) = true ∧ Step W3 wr) (fun idx _ => l.length - (intOf idx).toNat)
 case atStart => exact ⟨0, Nat.zero_le _, rfl, by simp, HT.out⟩
 case round =>
  obtain ⟨k, hk, rfl, ha, hT⟩ := hrel
  clear HT
  have HA := zH ha
  have HT := zH hT
  clear ha hT
  by_cases hlt : k < l.length
  ·obtain ⟨j, hj, hjz⟩ := seats_nat Q4.out hlt
   have HJ := zH hj
   have hjz2 : j < z := by have := HZ.out; omega
   obtain rfl := HU.out.1 (by omega)
   obtain ⟨y, hy⟩ : ∃ y, y = seatAt b i j := ⟨_, rfl⟩
   have hylow := HLOW.out j hjz2
   rw [← hy] at hylow
   have HY := zH hy
   have HYL := zH hylow
   clear hy hylow hj
   have hx3 : (0 : Int) ≤ (k : Int) ∧ (k : Int) < (l.length : Int) := by omega
   have hx4 : (0 : Int) ≤ (j : Int) ∧ (j : Int) < (z : Int) := by omega
   go_upto_region 8 with (fail)
   refine wp_region_seq (kdOf [] []) [0, 1, 0, 7, 15, 0, 0, 96, 224, 511, 1023, 2047] [0, 1, 2, 3, 4, 5, 6, 7, 8, 9, 10, 11] [] (by kernel_rfl) (by kernel_rfl) (fun i T z hi hk => by simp [kdOf] at hk <;> (try (split at hk <;> cases hk))) ?_
   intro Wx hWx
   have HTx := zH (HT.out.trans hWx)
   clear hWx HT
   have HT := HTx
   clear HTx
   (try clear e0 e1 e2 e3 e4 f0 f1 f2 f3 f4 f5)
   obtain ⟨e0, e1, e2, e3, e4⟩ := cells5 (HB1.out.step HT.out)
   obtain ⟨f0, f1, f2, f3, f4, f5⟩ := cells6 (HB2.out.step HT.out)
   have ll0 := (HS.out.trans HT.out).kc (HU.out.2 k hlt)
   rw [HJ.out] at ll0
   have r1 := (HS.out.trans HT.out).kc HROW.out.1
   have r2 := (HS.out.trans HT.out).kc (HROW.out.2 j hjz2)
   rw [← HY.out] at r2
   by_cases q6 : y < 0
   ·have hd : decide (y < 0) = true := by simpa using q6
    have HF := zH (show giveE h b t i l = 7 by
     rw [HGE.out, if_neg (by rw [Q5.out]; simp), if_pos ?_]
     rw [List.all_eq_false]
     exact ⟨l[k], List.getElem_mem hlt, by rw [HJ.out, ← HY.out]; have := HYL.out; simp; omega⟩)
    repeat ((first | (refine run_off rfl rfl (by rfl) ?_) | (refine run_chain_off rfl rfl (by rfl) (K0_mono _) ?_) | ((refine run_want rfl rfl (by rfl) ⟨?_, fun W hW => ?_, ?_⟩; rotate_left; (· (have d0 := hW.kc f1; have d1 := hW.kc ll0; have d2 := hW.kc r1; have d3 := hW.kc r2; go_simp; (try with_reducible rfl)))))); (try simp only [Act.put, zA, zB, zC]))
    refine run_end (L := []) rfl (fun W6 hW6 => ?_)
    have HT6 := zH (HT.out.trans hW6)
    clear hW6 HT
    have HT := HT6
    clear HT6
    clear q6 ll0 r1 r2
    (try clear e0 e1 e2 e3 e4 f0 f1 f2 f3 f4 f5)
    obtain ⟨e0, e1, e2, e3, e4⟩ := cells5 (HB1.out.step HT.out)
    obtain ⟨f0, f1, f2, f3, f4, f5⟩ := cells6 (HB2.out.step HT.out)
    obtain ⟨g0, g1, g2, g3, g4, g5⟩ := cells6 (HB3.out.step HT.out)
    have t0 := (HB3.out.step HT.out).frozen 0
    have t1 := (HB3.out.step HT.out).frozen 1
    have t2 := (HB3.out.step HT.out).frozen 2
    have t3 := (HB3.out.step HT.out).frozen 3
    have t4 := (HB3.out.step HT.out).frozen 4
    have t5 := (HB3.out.step HT.out).frozen 5
    obtain ⟨n0, n1, n2, n3, n4⟩ := cells5 (HB4.out.step HT.out)
    have l0 := (HB4.out.step HT.out).frozen 0
    have l1 := (HB4.out.step HT.out).frozen 1
    have l2 := (HB4.out.step HT.out).frozen 2
    have l3 := (HB4.out.step HT.out).frozen 3
    have l4 := (HB4.out.step HT.out).frozen 4
    go_wp2
    have b6 := set6 (HB3.out.step HT.out) (.int .i64 0) (.slice none 0 0) (.slice none 0 0) (.int .i64 0) (.slice none 0 0) (.int .i64 0)
    have b5 := set5 ((HB4.out.step HT.out).keep b6.2.keeps (by omega)) (.int .i64 0) (.int .i64 0) (.int .i64 0) (.int .i64 0) (.slice none 0 0)
    exact ret_struct_cc (k := 6) (k' := 5) rfl siRefBook siRefMessage rfl rfl (b6.1.keep b5.2.keeps (by omega)) b5.1 rfl rfl rfl (.no (giveD_no HF.out (by simp)) rfl (StepX.fresh (StepX.fresh (HS.out.trans HT.out) b6.2 (fun j hj => by omega)) b5.2 (fun j hj => by omega)))
   ·have hd : decide (y < 0) = false := by simp; omega
    have HQ := zH (show decide (seatAt b i l[k] ≠ -1) = true by rw [HJ.out, ← HY.out]; simp; omega)
    repeat ((first | (refine run_off rfl rfl (by rfl) ?_) | (refine run_chain_off rfl rfl (by rfl) (K0_mono _) ?_) | ((refine run_want rfl rfl (by rfl) ⟨?_, fun W hW => ?_, ?_⟩; rotate_left; (· (have d0 := hW.kc f1; have d1 := hW.kc ll0; have d2 := hW.kc r1; have d3 := hW.kc r2; go_simp; (try with_reducible rfl)))))); (try simp only [Act.put, zA, zB, zC]))
    refine run_end (L := []) rfl (fun W6 hW6 => ?_)
    have HT6 := zH (HT.out.trans hW6)
    clear hW6 HT
    have HT := HT6
    clear HT6
    clear q6 ll0 r1 r2
    go_wp2
    go_roundw
    case rel => exact ⟨k + 1, by omega, by go_num, all_take (p := fun j => decide (seatAt b i j ≠ -1)) HA.out hlt HQ.out, HT.out⟩
    case measure => simp [intOf]; omega
  ·have Q6 := zH (show (l.all fun j => decide (seatAt b i j ≠ -1)) = true by have := HA.out; rwa [List.take_of_length_le (by omega)] at this)
   clear HA
   go_wp2_with fail
   obtain ⟨wo, hwo⟩ : ∃ W, W = wr := ⟨_, rfl⟩
   subst hwo
   go_loopw [14] (fun idx wr => ∃ k : Nat, k ≤ l.length ∧ idx = .int .i64 k ∧ ((l.take k).all fun j => !decide (0 < seatAt b i j)) = true ∧ Step W3 wr) (fun idx _ => l.length - (intOf idx).toNat)
   case atStart => exact ⟨0, Nat.zero_le _, rfl, by simp, HT.out⟩
   case round =>
    obtain ⟨k, hk, rfl, ha, hT⟩ := hrel
    clear HT
    have HA := zH ha
    have HT := zH hT
    clear ha hT
    by_cases hlt : k < l.length
    ·obtain ⟨j, hj, hjz⟩ := seats_nat Q4.out hlt
     have HJ := zH hj
     have hjz2 : j < z := by have := HZ.out; omega
     obtain rfl := HU.out.1 (by omega)
     obtain ⟨y, hy⟩ : ∃ y, y = seatAt b i j := ⟨_, rfl⟩
     have HY := zH hy
     clear hy hj
     have hx3 : (0 : Int) ≤ (k : Int) ∧ (k : Int) < (l.length : Int) := by omega
     have hx4 : (0 : Int) ≤ (j : Int) ∧ (j : Int) < (z : Int) := by omega
     go_upto_region 13 with (fail)
     refine wp_region_seq (kdOf [] []) [0, 1, 0, 7, 15, 0, 0, 96, 224, 511, 1023, 2047] [0, 1, 2, 3, 4, 5, 6, 7, 8, 9, 10, 11] [] (by kernel_rfl) (by kernel_rfl) (fun i T z hi hk => by simp [kdOf] at hk <;> (try (split at hk <;> cases hk))) ?_
     intro Wx hWx
     have HTx := zH (HT.out.trans hWx)
     clear hWx HT
     have HT := HTx
     clear HTx
     (try clear e0 e1 e2 e3 e4 f0 f1 f2 f3 f4 f5)
     obtain ⟨e0, e1, e2, e3, e4⟩ := cells5 (HB1.out.step HT.out)
     obtain ⟨f0, f1, f2, f3, f4, f5⟩ := cells6 (HB2.out.step HT.out)
     have ll0 := (HS.out.trans HT.out).kc (HU.out.2 k hlt)
     rw [HJ.out] at ll0
     have r1 := (HS.out.trans HT.out).kc HROW.out.1
     have r2 := (HS.out.trans HT.out).kc (HROW.out.2 j hjz2)
     rw [← HY.out] at r2
     by_cases q7 : 0 < y
     ·have hd : decide (0 < y) = true := by simpa using q7
      have HF := zH (show giveE h b t i l = 6 by
       rw [HGE.out, if_neg (by rw [Q5.out]; simp), if_neg (by rw [Q6.out]; simp), if_pos ?_]
       rw [List.all_eq_false]
       exact ⟨l[k], List.getElem_mem hlt, by rw [HJ.out, ← HY.out]; simp; omega⟩)
      repeat ((first | (refine run_off rfl rfl (by rfl) ?_) | (refine run_chain_off rfl rfl (by rfl) (K0_mono _) ?_) | ((refine run_want rfl rfl (by rfl) ⟨?_, fun W hW => ?_, ?_⟩; rotate_left; (· (have d0 := hW.kc f1; have d1 := hW.kc ll0; have d2 := hW.kc r1; have d3 := hW.kc r2; go_simp; (try with_reducible rfl)))))); (try simp only [Act.put, zA, zB, zC]))
      refine run_end (L := []) rfl (fun W6 hW6 => ?_)
      have HT6 := zH (HT.out.trans hW6)
      clear hW6 HT
      have HT := HT6
      clear HT6
      clear q7 ll0 r1 r2
      (try clear e0 e1 e2 e3 e4 f0 f1 f2 f3 f4 f5)
      obtain ⟨e0, e1, e2, e3, e4⟩ := cells5 (HB1.out.step HT.out)
      obtain ⟨f0, f1, f2, f3, f4, f5⟩ := cells6 (HB2.out.step HT.out)
      obtain ⟨g0, g1, g2, g3, g4, g5⟩ := cells6 (HB3.out.step HT.out)
      have t0 := (HB3.out.step HT.out).frozen 0
      have t1 := (HB3.out.step HT.out).frozen 1
      have t2 := (HB3.out.step HT.out).frozen 2
      have t3 := (HB3.out.step HT.out).frozen 3
      have t4 := (HB3.out.step HT.out).frozen 4
      have t5 := (HB3.out.step HT.out).frozen 5
      obtain ⟨n0, n1, n2, n3, n4⟩ := cells5 (HB4.out.step HT.out)
      have l0 := (HB4.out.step HT.out).frozen 0
      have l1 := (HB4.out.step HT.out).frozen 1
      have l2 := (HB4.out.step HT.out).frozen 2
      have l3 := (HB4.out.step HT.out).frozen 3
      have l4 := (HB4.out.step HT.out).frozen 4
      go_wp2
      have b6 := set6 (HB3.out.step HT.out) (.int .i64 0) (.slice none 0 0) (.slice none 0 0) (.int .i64 0) (.slice none 0 0) (.int .i64 0)
      have b5 := set5 ((HB4.out.step HT.out).keep b6.2.keeps (by omega)) (.int .i64 0) (.int .i64 0) (.int .i64 0) (.int .i64 0) (.slice none 0 0)
      exact ret_struct_cc (k := 6) (k' := 5) rfl siRefBook siRefMessage rfl rfl (b6.1.keep b5.2.keeps (by omega)) b5.1 rfl rfl rfl (.no (giveD_no HF.out (by simp)) rfl (StepX.fresh (StepX.fresh (HS.out.trans HT.out) b6.2 (fun j hj => by omega)) b5.2 (fun j hj => by omega)))
     ·have hd : decide (0 < y) = false := by simp; omega
      have HQ := zH (show (!decide (0 < seatAt b i l[k])) = true by rw [HJ.out, ← HY.out]; simp; omega)
      repeat ((first | (refine run_off rfl rfl (by rfl) ?_) | (refine run_chain_off rfl rfl (by rfl) (K0_mono _) ?_) | ((refine run_want rfl rfl (by rfl) ⟨?_, fun W hW => ?_, ?_⟩; rotate_left; (· (have d0 := hW.kc f1; have d1 := hW.kc ll0; have d2 := hW.kc r1; have d3 := hW.kc r2; go_simp; (try with_reducible rfl)))))); (try simp only [Act.put, zA, zB, zC]))
      refine run_end (L := []) rfl (fun W6 hW6 => ?_)
      have HT6 := zH (HT.out.trans hW6)
      clear hW6 HT
      have HT := HT6
      clear HT6
      clear q7 ll0 r1 r2
      go_wp2
      go_roundw
      case rel => exact ⟨k + 1, by omega, by go_num, all_take (p := fun j => !decide (0 < seatAt b i j)) HA.out hlt HQ.out, HT.out⟩
      case measure => simp [intOf]; omega
    ·have Q7 := zH (show (l.all fun j => !decide (0 < seatAt b i j)) = true by have := HA.out; rwa [List.take_of_length_le (by omega)] at this)
     clear HA
     (try clear e0 e1 e2 e3 e4 f0 f1 f2 f3 f4 f5)
     obtain ⟨e0, e1, e2, e3, e4⟩ := cells5 (HB1.out.step HT.out)
     obtain ⟨f0, f1, f2, f3, f4, f5⟩ := cells6 (HB2.out.step HT.out)
     by_cases q8 : b.sent < 1000
     rotate_left
     ·have HF := zH (show giveE h b t i l = 3 by rw [HGE.out, if_neg (by rw [Q5.out]; simp), if_neg (by rw [Q6.out]; simp), if_neg (by rw [Q7.out]; simp), if_pos (by omega)])
      have hd : decide ((1000 : Int) ≤ b.sent) = true := by simp; omega
      clear q8
      (try clear e0 e1 e2 e3 e4 f0 f1 f2 f3 f4 f5)
      obtain ⟨e0, e1, e2, e3, e4⟩ := cells5 (HB1.out.step HT.out)
      obtain ⟨f0, f1, f2, f3, f4, f5⟩ := cells6 (HB2.out.step HT.out)
      obtain ⟨g0, g1, g2, g3, g4, g5⟩ := cells6 (HB3.out.step HT.out)
      have t0 := (HB3.out.step HT.out).frozen 0
      have t1 := (HB3.out.step HT.out).frozen 1
      have t2 := (HB3.out.step HT.out).frozen 2
      have t3 := (HB3.out.step HT.out).frozen 3
      have t4 := (HB3.out.step HT.out).frozen 4
      have t5 := (HB3.out.step HT.out).frozen 5
      obtain ⟨n0, n1, n2, n3, n4⟩ := cells5 (HB4.out.step HT.out)
      have l0 := (HB4.out.step HT.out).frozen 0
      have l1 := (HB4.out.step HT.out).frozen 1
      have l2 := (HB4.out.step HT.out).frozen 2
      have l3 := (HB4.out.step HT.out).frozen 3
      have l4 := (HB4.out.step HT.out).frozen 4
      go_wp2
      have b6 := set6 (HB3.out.step HT.out) (.int .i64 0) (.slice none 0 0) (.slice none 0 0) (.int .i64 0) (.slice none 0 0) (.int .i64 0)
      have b5 := set5 ((HB4.out.step HT.out).keep b6.2.keeps (by omega)) (.int .i64 0) (.int .i64 0) (.int .i64 0) (.int .i64 0) (.slice none 0 0)
      exact ret_struct_cc (k := 6) (k' := 5) rfl siRefBook siRefMessage rfl rfl (b6.1.keep b5.2.keeps (by omega)) b5.1 rfl rfl rfl (.no (giveD_no HF.out (by simp)) rfl (StepX.fresh (StepX.fresh (HS.out.trans HT.out) b6.2 (fun j hj => by omega)) b5.2 (fun j hj => by omega)))
     have HF := zH (show giveE h b t i l = 0 by rw [HGE.out, if_neg (by rw [Q5.out]; simp), if_neg (by rw [Q6.out]; simp), if_neg (by rw [Q7.out]; simp), if_neg (by omega)])
     have hd : decide ((1000 : Int) ≤ b.sent) = false := by simp; omega
     have Q8 := zH q8
     clear q8
     go_wp2_with fail
     refine (Copy_any S b _ _ ⟨_, rfl, Rep.keep (.of_step HT.out) HQ.out⟩ HTH.out).mono ?_
     rintro e wd ⟨vs, vo, vt, xs, rfl, hD0, hSd⟩
     obtain ⟨⟨pvs, cvs, rfl⟩, ⟨pvo, cvo, rfl⟩, ⟨pvt, cvt, rfl⟩⟩ := hD0.form
     have hTd := HT.out.trans hSd
     have hbase : w.heap.size + 4 ≤ wd.heap.size := by have := hTd.size; have := HZ3.out; omega
     have hbase2 : w.heap.size + 4 ≤ wr.heap.size := by have := HT.out.size; have := HZ3.out; omega
     clear hd e0 e1 e2 e3 e4 f0 f1 f2 f3 f4 f5
     have hbD := Bx.new wd [.int .i64 b.agency, .slice pvs b.seats.length cvs, .slice pvo b.off.length cvo, .int .i64 b.sent, .slice pvt b.took.length cvt, .int .i64 b.cash] 56
     have hsA := Step.alloc wd (.cells #[.int .i64 b.agency, .slice pvs b.seats.length cvs, .slice pvo b.off.length cvo, .int .i64 b.sent, .slice pvt b.took.length cvt, .int .i64 b.cash] 56)
     have hD1 := (hD0.step hsA).desk (b2 := w.heap.size + 4) hbase2 hbase hbD
     have hT1 := hTd.trans hsA
     obtain ⟨⟨gs, cs, hvs⟩, hforms⟩ := hD1.forms HO.out HZ.out hz0
     injection hvs with hvs1 hvs2 hvs3
     subst hvs1 hvs3
     clear hvs2
     obtain ⟨hxi, gi, ci, hxv⟩ := hforms i hi
     have HXV := zH hxv
     have HT1 := zH hT1
     have HD1 := zH hD1
     clear hforms hxv hbD hsA hTd hSd hD0 hbase hbase2 hT1 hD1
     go_wp2_with fail
     have HT := HT1
     generalize wd.alloc (.cells #[.int .i64 b.agency, .slice (some ⟨gs, 0, none⟩) b.seats.length cvs, .slice pvo b.off.length cvo, .int .i64 b.sent, .slice pvt b.took.length cvt, .int .i64 b.cash] 56) = w2 at *
     generalize wd.heap.size = gb at *
     go_loopw [16] (fun idx wr => ∃ k : Nat, k ≤ l.length ∧ idx = .int .i64 k ∧ Desk6 (w.heap.size + 4) wr gb (giveTo b i (l.take k)) (.slice (some ⟨gs, 0, none⟩) b.seats.length cvs) (.slice pvo b.off.length cvo) (.slice pvt b.took.length cvt) xs ∧ Step W3 wr) (fun idx _ => l.length - (intOf idx).toNat)
     case atStart => exact ⟨0, Nat.zero_le _, rfl, HD1.out, HT1.out⟩
     case round =>
      obtain ⟨k, hk, rfl, hDk, hT⟩ := hrel
      clear HT
      have HT := zH hT
      have hOk := (like_give b i (l.take k)).ok HO.out (by have := HO.out.2.2.2.2.2.2.1; omega)
      have HDK := zH hDk
      have HOKK := zH hOk
      clear hDk hT hOk
      by_cases hlt : k < l.length
      ·obtain ⟨j, hj, hjz⟩ := seats_nat Q4.out hlt
       have HJ := zH hj
       have hjz2 : j < z := by have := HZ.out; omega
       obtain rfl := HU.out.1 (by omega)
       have hisk : i < (giveTo b i (l.take k)).seats.length := by have := HOKK.out.2.2.1; omega
       have hjk : j < (giveTo b i (l.take k)).seats[i].length := by rw [HRL.out _ HOKK.out]; exact hjz2
       obtain ⟨m0, m1, z1, _, hgir⟩ := HDK.out.seat_c hisk hxi HXV.out hjk
       have HM := zH (And.intro m0 z1)
       have hx3 : (0 : Int) ≤ (k : Int) ∧ (k : Int) < (l.length : Int) := by omega
       have hx4 : (0 : Int) ≤ (j : Int) ∧ (j : Int) < (z : Int) := by omega
       clear hj m0 m1 z1
       go_upto_region 21 with (fail)
       refine wp_region_seq (kdOf [] []) [0, 1, 0, 7, 15, 0, 0, 96, 224, 511, 1023] [0, 1, 2, 3, 4, 5, 6, 7, 8, 9] [10] (by kernel_rfl) (by kernel_rfl) (fun i T z hi hk => by simp [kdOf] at hk <;> (try (split at hk <;> cases hk))) ?_
       intro Wx hWx
       have HSX := zH hWx
       have HTW := HT
       have HTx := zH (HT.out.trans hWx)
       clear hWx HT
       have HT := HTx
       clear HTx
       obtain ⟨_, y1, _, _, _, _⟩ := cells6 (HDK.out.step HSX.out).bx
       have ll0 := (HS.out.trans HT.out).kc (HU.out.2 k hlt)
       rw [HJ.out] at ll0
       have m0 := HSX.out.kc HM.out.1
       have HT := HSX
       repeat ((first | (refine run_off rfl rfl (by rfl) ?_) | (refine run_chain_off rfl rfl (by rfl) (K0_mono _) ?_) | ((refine run_want rfl rfl (by rfl) ⟨?_, fun W hW => ?_, ?_⟩; rotate_left; (· (have d0 := hW.kc y1; have d1 := hW.kc ll0; have d2 := hW.kc m0; go_simp; (try with_reducible rfl)))))); (try simp only [Act.put, zA, zB, zC]))
       refine run_end (L := [_]) rfl (fun W6 hW6 => ?_)
       have HT6 := zH (HT.out.trans hW6)
       clear hW6 HT
       have HT := HT6
       clear HT6
       have hD6 := HDK.out.step HT.out
       obtain ⟨_, m1, z1, _, _⟩ := hD6.seat_c hisk hxi HXV.out hjk
       have hset := hD6.setSeat (j := j) hisk hxi (by rw [HRL.out _ HOKK.out]; exact HXV.out) (-1)
       have H7 := zH (And.intro hset.1 (Step.setNew (HTW.out.trans HT.out) ⟨gi, j, none⟩ (.int .i64 (-1)) (by have := hset.2; have := HZ3.out; show W3.heap.size ≤ gi; omega)))
       have HN := zH (show giveTo b i (l.take (k + 1)) = putSeat (giveTo b i (l.take k)) i j (-1) by rw [List.take_succ_eq_append_getElem hlt, giveTo_snoc, HJ.out, Int.toNat_natCast])
       clear y1 ll0 m0 hD6 hset
       go_wp2
       go_roundw
       case rel => exact ⟨k + 1, by omega, by go_num, by rw [HN.out]; exact H7.out⟩
       case measure => simp [intOf]; omega
      ·have htk : giveTo b i (l.take k) = giveTo b i l := by rw [List.take_of_length_le (by omega)]
       rw [htk] at HDK HOKK
       have hsent : (giveTo b i l).sent = b.sent := (like_give b i l).sent
       have hag : (giveTo b i l).agency = b.agency := (like_give b i l).agency
       have HFIN := zH (show giveD h b t i l = .ok ({ giveTo b i l with sent := b.sent + 1 }, { frm := b.agency, dst := t, number := b.sent + 1, shw := i, seats := l }) by
        unfold giveD; rw [HF.out, if_pos rfl]; simp [giveP])
       clear htk HF
       obtain ⟨y0, y1, y2, y3, y4, y5⟩ := cells6 HDK.out.bx
       have z3 := HDK.out.bx.frozen 3
       rw [hsent] at y3
       have hs0 := HO.out.2.2.2.2.2.2.2.2.1
       have hs1 := Q8.out
       have hws : IntKind.i64.wrap (b.sent + 1) = b.sent + 1 := by rw [IntKind.wrap_i64]; omega
       go_upto_region 23 with (fail)
       have hD3 := HDK.out.setSent (b.sent + 1)
       have hT3 := HT.out.setNew ⟨gb, 3, none⟩ (.int .i64 (b.sent + 1)) (by have := HDK.out.gb; have := HZ3.out; show W3.heap.size ≤ gb; omega)
       have HD3 := zH hD3
       have HT3 := zH hT3
       have HAG := zH hag
       clear HT y0 y1 y2 y3 y4 y5 z3 hs0 hs1 hws hD3 hT3 hsent hag
       generalize wr.setCell ⟨gb, 3, none⟩ (.int .i64 (b.sent + 1)) = w3 at *
       have hng : ¬ (gb = w.heap.size + 2) := by have := HD3.out.gb; omega
       have hnf : ¬ (w.heap.size + 1 = w.heap.size + 2) := by omega
       refine Late.wp_region_late (fun j => j = w.heap.size + 2) (fun c d v a w h => by cases d <;> exact h) (kdOf [8] []) [0, 0, 2, 0, 0, 16, 0, 0, 128, 510, 385, 2047, 4095] [0, 1, 2, 3, 4, 5, 6, 7, 8, 9] 10 [11, 12] (by kernel_rfl) (by kernel_rfl) (fun i T z hi hk => by simp [kdOf] at hk <;> (try (split at hk <;> cases hk))) ?_
       intro Wx hWx
       have HSX := zH hWx
       have HT := zH (HT3.out.trans hWx)
       clear hWx
       obtain ⟨y0, y1, y2, y3, y4, y5⟩ := cells6 (HD3.out.step HSX.out).bx
       dsimp only at y0 y3 y5
       (try clear e0 e1 e2 e3 e4 f0 f1 f2 f3 f4 f5)
       obtain ⟨e0, e1, e2, e3, e4⟩ := cells5 (HB1.out.step HT.out)
       obtain ⟨f0, f1, f2, f3, f4, f5⟩ := cells6 (HB2.out.step HT.out)
       repeat ((first | (refine Late.run_off rfl rfl (by rfl) ?_) | ((refine Late.run_want rfl rfl (by rfl) ⟨?_, fun W hW => ?_, ?_⟩; rotate_left; (· (have d0 := hW.keeps.cell hng y0; have d1 := hW.keeps.cell hng y1; have d2 := hW.keeps.cell hng y2; have d3 := hW.keeps.cell hng y3; have d4 := hW.keeps.cell hng y4; have d5 := hW.keeps.cell hng y5; have d6 := hW.keeps.cell hnf f0; go_simp; (try with_reducible rfl)))))); (try simp only [Act.put, zA, zB, zC]))
       refine Late.run_chain rfl rfl (by rfl) (fun Wi hWi K' hK => ?_)
       refine wp_append_L (α := Int) (S := fun _ => False) (base := Wi.heap.size) (v := .slice none 0 0) (l := []) (m := l) eiInts _ _ rfl rfl rfl (OwnL.nil _ _ _ _) ((HXS.out.keep (.of_step (HT.out.trans hWi))).flat _) l.length (by simp) l rfl (by simp only [maxLen]; omega) (by omega) (Nat.le_refl _) (fun pv cv w5 hown5 hg5 => ?_)
       have hS5 : Step Wi w5 := .of ((Below.refl _ Wi).grown hg5 (Nat.le_refl _) (by simp [Value.ownBlock]))
       have HTx := zH ((HT.out.trans hWi).trans hS5)
       have HSY := zH ((HSX.out.trans hWi).trans hS5)
       have HWI := zH (show W3.heap.size ≤ Wi.heap.size from (HT.out.trans hWi).size)
       have HOW := zH hown5
       refine hK _ _ hS5 ?_
       clear hK hS5 hg5 hown5 hWi HT HSX y0 y1 y2 y3 y4 y5 e0 e1 e2 e3 e4 f0 f1 f2 f3 f4 f5
       have HT := HTx
       (try simp only [Act.put, zA, zB, zC])
       repeat ((first | (refine Late.run_off rfl rfl (by rfl) ?_) | ((refine Late.run_want rfl rfl (by rfl) ⟨?_, fun W hW => ?_, ?_⟩; rotate_left; (· (skip; go_simp; (try with_reducible rfl)))))); (try simp only [Act.put, zA, zB, zC]))
       refine Late.run_end rfl rfl (L := [_, _]) rfl (fun W6 hW6 K6 hK6 => ?_)
       have HTy := zH (HT.out.trans hW6)
       have HD6 := zH ((HD3.out.step HSY.out).step hW6)
       have HV6 := zH (OwnL.step HOW.out hW6)
       clear HT HTx HSY HOW hW6
       have HT := HTy
       clear HTy
       refine wp_store_L (v := .agg #[.int .i64 (giveTo b i l).agency, .slice (some ⟨gs, 0, none⟩) b.seats.length cvs, .slice pvo b.off.length cvo, .int .i64 (b.sent + 1), .slice pvt b.took.length cvt, .int .i64 (giveTo b i l).cash]) _ _ _ rfl rfl rfl (HB3.out.step HT.out) (by kernel_rfl) (by simp [Value.cells]) (by simp [Value.cells, Value.oneCell']) [.int .i64 (giveTo b i l).agency, .slice (some ⟨gs, 0, none⟩) b.seats.length cvs, .slice pvo b.off.length cvo, .int .i64 (b.sent + 1), .slice pvt b.took.length cvt, .int .i64 (giveTo b i l).cash] rfl (fun w7 hb7 hw7 => ?_)
       have hx7 : StepX (fun j => j = w.heap.size + 2) W6 w7 := StepX.grown hw7.grown (fun j hj _ => by injection hj with e; exact e.symm)
       refine hK6 _ _ hx7 ?_
       have HX7 := zH hx7
       have HB7 := zH hb7
       have HM7 := zH ((HB4.out.step HT.out).keep hx7.keeps (by omega))
       clear hK6 hx7 hb7 hw7 hng hnf
       (try simp only [Act.put, zA, zB, zC])
       obtain ⟨n0, n1, n2, n3, n4⟩ := cells5 HM7.out
       have l0 := HM7.out.frozen 0
       have l1 := HM7.out.frozen 1
       have l2 := HM7.out.frozen 2
       have l3 := HM7.out.frozen 3
       have l4 := HM7.out.frozen 4
       go_wp2
       have b5 := set5 HM7.out (.int .i64 b.agency) (.int .i64 t) (.int .i64 (b.sent + 1)) (.int .i64 i) (.slice pv l.length cv)
       refine ret_struct_cc (k := 6) (k' := 5) rfl siRefBook siRefMessage rfl rfl (HB7.out.keep b5.2.keeps (by omega)) b5.1 rfl rfl rfl ?_
       unfold RGiveEnds
       rw [HFIN.out]
       have hk65 : Keeps (fun j => j < w.heap.size + 4) W6 _ := (HX7.out.keeps.mono fun j _ hj => by omega).trans (b5.2.keeps.mono fun j _ hj => by omega)
       have hw4 := HWI.out
       have hz4 := HZ3.out
       refine ⟨_, _, rfl, ⟨_, rfl, Rep.weak (S := fun j => j < w.heap.size + 4) (fun j _ hj => by unfold Old at hj; omega) (Rep.keep hk65 (HD6.out.book (fun j h1 h2 => by omega)))⟩, ⟨_, rfl, _, rfl, ?_⟩, StepX.fresh (StepX.fresh (HS.out.trans HT.out) HX7.out (fun j hj => by omega)) b5.2 (fun j hj => by omega)⟩
       exact SL.weak (S := fun j => j < w.heap.size + 4) (fun j _ hj => by unfold Old at hj; omega) (SL.keep hk65 (OwnL.sl HV6.out fun j h1 h2 h3 => by omega))
end Go.Proofs.YtgpiieogiafdoaaGreat
namespace Go.BT
structure Wd where
 books : List Book
 msgs : List BT.Message
structure ActT where
 kind : Int
 agency : Int
 shw : Int
 seat : Int
 buyer : Int
 day : Int
 dst : Int
 msg : Int
 seats : List Int
end Go.BT
namespace Go.Proofs.YtgpiieogiafdoaaGreat
set_option linter.unusedSimpArgs false
set_option linter.unusedVariables false
open Go.RowKit Go.BT
def withNone (r : Except Int Book) : Except Int (Book × List BT.Message) := match r with
 | .ok b => .ok (b, [])
 | .error c => .error c
def withOne (r : Except Int (Book × BT.Message)) : Except Int (Book × List BT.Message) := match r with
 | .ok (b, m) => .ok (b, [m])
 | .error c => .error c
def deskD (h : House) (w : Wd) (b : Book) (x : ActT) : Except Int (Book × List BT.Message) :=
 if x.kind = 1 then withNone (sellD h b x.shw x.seat x.buyer x.day) else
 if x.kind = 2 then withNone (refundD h b x.shw x.seat) else
 if x.kind = 3 then withOne (giveD h b x.dst x.shw x.seats) else
 if x.kind = 4 then withNone (takeD h b (w.msgs.getD x.msg.toNat noMsg)) else
 withNone (bookOf (loseD h b x.shw x.day))
def actE (w : Wd) (x : ActT) : Int := if x.kind < 1 ∨ 5 < x.kind then 1 else if withinB x.agency 0 (w.books.length - 1) = false then 2 else if x.kind = 4 ∧ withinB x.msg 0 (w.msgs.length - 1) = false then 2 else 0
def putBook (w : Wd) (i : Nat) (r : Except Int (Book × List BT.Message)) : Wd × Int := match r with
 | .ok (b, ms) => (⟨w.books.set i b, w.msgs ++ ms⟩, 0)
 | .error c => (w, c)
def actD (h : House) (w : Wd) (x : ActT) : Wd × Int :=
 if actE w x = 0 then putBook w x.agency.toNat (gate h (w.books.getD x.agency.toNat noBook) (deskD h w (w.books.getD x.agency.toNat noBook) x)) else (w, actE w x)
def startD (h : House) : Wd := ⟨(List.range (agN h)).map fun (a : Nat) => openP h (a : Int), []⟩
def noAct : ActT := ⟨0, 0, 0, 0, 0, 0, 0, 0, []⟩
def worldAt (h : House) (l : List ActT) : Nat → Wd
 | 0 => startD h
 | k + 1 => (actD h (worldAt h l k) (l.getD k noAct)).1
def errAt (h : House) (l : List ActT) (k : Nat) : Int := (actD h (worldAt h l k) (l.getD k noAct)).2
def errsTo (h : House) (l : List ActT) (k : Nat) : List Int := (List.range k).map (errAt h l)
theorem errsTo_succ (h : House) (l : List ActT) (k : Nat) : errsTo h l (k + 1) = errsTo h l k ++ [errAt h l k] := by simp [errsTo, List.range_succ]
theorem errsTo_len (h : House) (l : List ActT) (k : Nat) : (errsTo h l k).length = k := by simp [errsTo]
/-! Books that stay valid. -/
def rowsB (h : House) (b : Book) : Bool := b.seats.all (rowB (sizeL h.sectors))
theorem book_iff {h : House} {b : Book} : bookB h b = true ↔ bookA h b = true ∧ rowsB h b = true ∧ b.cash = cashL h b.seats ∧ tookB h b = true := by
 unfold bookB rowsB
 simp [and_assoc]
theorem book_of {h : House} {b b' : Book} (hb : bookB h b = true) (e1 : b'.agency = b.agency) (e2 : b'.off.length = b.off.length) (e3 : b'.seats.length = b.seats.length) (e4 : withinB b'.sent 0 1000 = true) (e5 : b'.took = b.took) (hr : rowsB h b' = true) (hc : b'.cash = cashL h b'.seats) : bookB h b' = true := by
 rw [book_iff] at hb ⊢
 obtain ⟨a, r, c, t⟩ := hb
 refine ⟨?_, hr, hc, ?_⟩
 ·unfold bookA at a ⊢
  simp only [Bool.and_eq_true] at a ⊢
  rw [e1, e2, e3, e4, e5]
  exact ⟨⟨⟨⟨a.1.1.1.1, a.1.1.1.2⟩, a.1.1.2⟩, rfl⟩, a.2⟩
 ·unfold tookB ikeyB at t ⊢
  rw [e5, e1]
  exact t
theorem book_sent {h : House} {b : Book} (hb : bookB h b = true) : withinB b.sent 0 1000 = true := by
 rw [book_iff] at hb
 have a := hb.1
 unfold bookA at a
 simp only [Bool.and_eq_true] at a
 exact a.1.2
theorem rows_put {h : House} {b : Book} (hr : rowsB h b = true) (i j : Nat) {x : Int} (hx : withinB x (-1) 1000000 = true) : rowsB h (putSeat b i j x) = true := by
 unfold rowsB putSeat at *
 rw [List.all_eq_true] at hr ⊢
 intro r hm
 rcases Nat.lt_or_ge i b.seats.length with hi | hi
 ·rcases List.mem_or_eq_of_mem_set hm with h1 | h1
  ·exact hr r h1
  ·subst h1
   have hg : b.seats.getD i [] = b.seats[i] := by simp [List.getD_eq_getElem?_getD, hi]
   rw [hg]
   have h0 := hr _ (List.getElem_mem hi)
   unfold rowB at h0 ⊢
   simp only [Bool.and_eq_true, List.length_set] at h0 ⊢
   refine ⟨h0.1, ?_⟩
   rw [List.all_eq_true] at h0 ⊢
   intro y hy
   rcases List.mem_or_eq_of_mem_set hy with h2 | h2
   ·exact h0.2 y h2
   ·subst h2; exact hx
 ·rw [List.set_eq_of_length_le hi] at hm
  exact hr r hm
theorem seat_in {h : House} {b : Book} (hr : rowsB h b = true) {i j : Int} (h0 : seatAt b i j ≠ 0) : withinB (seatAt b i j) (-1) 1000000 = true := by
 unfold seatAt at *
 unfold rowsB at hr
 rw [List.all_eq_true] at hr
 rcases Nat.lt_or_ge i.toNat b.seats.length with hi | hi
 ·have hg : b.seats.getD i.toNat [] = b.seats[i.toNat] := by simp [List.getD_eq_getElem?_getD, hi]
  rw [hg] at h0 ⊢
  have h1 := hr _ (List.getElem_mem hi)
  unfold rowB at h1
  simp only [Bool.and_eq_true] at h1
  rcases Nat.lt_or_ge j.toNat b.seats[i.toNat].length with hj | hj
  ·have hg2 : b.seats[i.toNat].getD j.toNat 0 = b.seats[i.toNat][j.toNat] := by simp [List.getD_eq_getElem?_getD, hj]
   rw [hg2]
   exact List.all_eq_true.1 h1.2 _ (List.getElem_mem hj)
  ·exact absurd (by simp [List.getD_eq_getElem?_getD, List.getElem?_eq_none hj]) h0
 ·exact absurd (by simp [List.getD_eq_getElem?_getD, List.getElem?_eq_none hi]) h0
theorem nat_of {n hi : Int} (h : withinB n 0 hi = true) : ∃ k : Nat, n = k ∧ (k : Int) ≤ hi := by
 simp [withinB] at h
 exact ⟨n.toNat, by omega, by omega⟩
theorem sellE_ok {h : House} {b : Book} {s n y d : Int} (he : sellE h b s n y d = 0) : withinB s 0 (h.dates.length - 1) = true ∧ withinB n 0 (sizeL h.sectors - 1) = true ∧ withinB y 1 1000000 = true ∧ offAt b s = false ∧ fromAt h s b.agency ≤ d ∧ d ≤ dateAt h s ∧ seatAt b s n ≠ -1 ∧ ¬ 0 < seatAt b s n := by
 unfold sellE at he
 repeat' split at he
 all_goals first | omega | skip
 rename_i h1 h2 h3 h4 h5 h6 h7 h8
 exact ⟨by simpa using h1, by simpa using h2, by simpa using h3, by simpa using h4, by omega, by omega, h7, h8⟩
theorem refundE_ok {h : House} {b : Book} {s n : Int} (he : refundE h b s n = 0) : withinB s 0 (h.dates.length - 1) = true ∧ withinB n 0 (sizeL h.sectors - 1) = true ∧ 0 < seatAt b s n := by
 unfold refundE at he
 repeat' split at he
 all_goals first | omega | skip
 rename_i h1 h2 h3
 exact ⟨by simpa using h1, by simpa using h2, by omega⟩
theorem giveE_ok {h : House} {b : Book} {t s : Int} {l : List Int} (he : giveE h b t s l = 0) : withinB t 0 (agN h - 1) = true ∧ t ≠ b.agency ∧ withinB s 0 (h.dates.length - 1) = true ∧ seatsB h l = true ∧ offAt b s = false ∧ (∀ j ∈ l, seatAt b s j ≠ -1) ∧ (∀ j ∈ l, ¬ 0 < seatAt b s j) ∧ b.sent < 1000 := by
 unfold giveE at he
 repeat' split at he
 all_goals first | omega | skip
 rename_i h1 h2 h3 h4 h5 h6 h7 h8
 refine ⟨by simpa using h1, h2, by simpa using h3, by simpa using h4, by simpa using h5, ?_, ?_, by omega⟩
 ·simpa using h6
 ·simpa using h7
theorem takeE_ok {h : House} {b : Book} {m : BT.Message} (he : takeE h b m = 0) : messV h m = true ∧ m.dst = b.agency ∧ hasK b.took (keyOf m) = false ∧ (∀ j ∈ m.seats, seatAt b m.shw j = -1) ∧ b.took.length < 1000 := by
 unfold takeE at he
 repeat' split at he
 all_goals first | omega | skip
 rename_i h1 h2 h3 h4 h5
 refine ⟨by simpa using h1, by simpa using h2, by simpa using h3, by simpa using h4, by omega⟩
theorem row_at {h : House} {b : Book} (hv : valid h = true) (hb : bookB h b = true) {i j : Nat} (hi : (i : Int) ≤ h.dates.length - 1) (hj : (j : Int) ≤ sizeL h.sectors - 1) : ∃ hi : i < b.seats.length, j < b.seats[i].length := by
 have hO := (okDesk_book hv hb).1
 have h1 := hO.2.2.1
 refine ⟨by omega, ?_⟩
 have := hO.2.2.2.1 i (by omega)
 omega
theorem sell_valid {h : House} {b b' : Book} {s n y d : Int} (hv : valid h = true) (hb : bookB h b = true) (hr : sellD h b s n y d = .ok b') : bookB h b' = true ∧ b'.agency = b.agency := by
 unfold sellD at hr
 split at hr
 rotate_left
 ·cases hr
 rename_i he
 injection hr with hr
 obtain ⟨h1, h2, h3, _, _, _, _, h8⟩ := sellE_ok he
 obtain ⟨i, rfl, hi⟩ := nat_of h1
 obtain ⟨j, rfl, hj⟩ := nat_of h2
 obtain ⟨hi', hj'⟩ := row_at hv hb hi hj
 simp [withinB] at h3
 obtain ⟨hO, hc, _, _⟩ := okDesk_book hv hb
 have hq := sellP_cash hO hc hi' hj' (y := y) (by omega) h8
 have hp := book_iff.1 hb
 rw [hq] at hr
 subst hr
 exact ⟨book_of hb rfl rfl (by simp [withCash, putSeat]) (show withinB b.sent 0 1000 = true from book_sent hb) rfl (rows_put hp.2.1 i j (by simp [withinB]; omega)) rfl, rfl⟩
theorem refund_valid {h : House} {b b' : Book} {s n : Int} (hv : valid h = true) (hb : bookB h b = true) (hr : refundD h b s n = .ok b') : bookB h b' = true ∧ b'.agency = b.agency := by
 unfold refundD at hr
 split at hr
 rotate_left
 ·cases hr
 rename_i he
 injection hr with hr
 obtain ⟨h1, h2, h8⟩ := refundE_ok he
 obtain ⟨i, rfl, hi⟩ := nat_of h1
 obtain ⟨j, rfl, hj⟩ := nat_of h2
 obtain ⟨hi', hj'⟩ := row_at hv hb hi hj
 obtain ⟨hO, hc, _, _⟩ := okDesk_book hv hb
 have hq := refundP_cash hO hc hi' hj' h8
 have hp := book_iff.1 hb
 rw [hq] at hr
 subst hr
 exact ⟨book_of hb rfl rfl (by simp [withCash, putSeat]) (show withinB b.sent 0 1000 = true from book_sent hb) rfl (rows_put hp.2.1 i j (by simp [withinB])) rfl, rfl⟩
def putAll (b : Book) (i : Nat) (x : Int) (l : List Int) : Book := l.foldl (fun b j => putSeat b i j.toNat x) b
theorem giveTo_all (b : Book) (i : Nat) (l : List Int) : giveTo b i l = putAll b i (-1) l := rfl
theorem takeTo_all (b : Book) (i : Nat) (l : List Int) : takeTo b i l = putAll b i 0 l := rfl
theorem putAll_keep (i : Nat) (x : Int) : ∀ (l : List Int) (b : Book), (putAll b i x l).agency = b.agency ∧ (putAll b i x l).off = b.off ∧ (putAll b i x l).seats.length = b.seats.length ∧ (putAll b i x l).sent = b.sent ∧ (putAll b i x l).took = b.took ∧ (putAll b i x l).cash = b.cash
 | [], b => ⟨rfl, rfl, rfl, rfl, rfl, rfl⟩
 | j :: l, b => by
  have := putAll_keep i x l (putSeat b i j.toNat x)
  simp only [putAll, List.foldl_cons] at this ⊢
  simpa [putSeat] using this
theorem putAll_rows {h : House} (i : Nat) {x : Int} (hx : withinB x (-1) 1000000 = true) : ∀ (l : List Int) (b : Book), rowsB h b = true → rowsB h (putAll b i x l) = true
 | [], b, hr => hr
 | j :: l, b, hr => by
  simp only [putAll, List.foldl_cons]
  exact putAll_rows i hx l _ (rows_put hr i j.toNat hx)
theorem seatAt_putI {b : Book} {i j : Nat} {x : Int} (hi : i < b.seats.length) (hj : j < b.seats[i].length) : seatAt (putSeat b i j x) i j = x := by
 have hg : b.seats.getD i [] = b.seats[i] := by simp [List.getD_eq_getElem?_getD, hi]
 unfold seatAt putSeat
 rw [hg]
 simp [List.getD_eq_getElem?_getD, hi, hj]
theorem putSeat_len {b : Book} {i j : Nat} {x : Int} {k : Nat} (hk : k < b.seats.length) (hk' : k < (putSeat b i j x).seats.length) : (putSeat b i j x).seats[k].length = b.seats[k].length := by
 have hl := (like_put b i j x).row k hk hk'
 exact hl
theorem putAll_cash {h : House} (i : Nat) {x : Int} (hx : ¬ 0 < x) : ∀ (l : List Int) (b : Book), (hi : i < b.seats.length) → (∀ j ∈ l, 0 ≤ j ∧ j < b.seats[i].length ∧ ¬ 0 < seatAt b i j) → cashL h (putAll b i x l).seats = cashL h b.seats
 | [], b, _, _ => rfl
 | j :: l, b, hi, hl => by
  simp only [putAll, List.foldl_cons]
  obtain ⟨h0, h1, h2⟩ := hl j List.mem_cons_self
  obtain ⟨k, rfl⟩ : ∃ k : Nat, j = k := ⟨j.toNat, by omega⟩
  have hk : k < b.seats[i].length := by omega
  have hi' : i < (putSeat b i k x).seats.length := by simpa [putSeat] using hi
  have := putAll_cash (h := h) i hx l (putSeat b i k x) hi' (fun j hj => by
   obtain ⟨g0, g1, g2⟩ := hl j (List.mem_cons_of_mem _ hj)
   obtain ⟨n, rfl⟩ : ∃ n : Nat, j = n := ⟨j.toNat, by omega⟩
   refine ⟨g0, by rw [putSeat_len hi hi']; exact g1, ?_⟩
   by_cases hn : k = n
   ·subst hn; rw [seatAt_putI hi hk]; exact hx
   ·rw [seatAt_put_ne (.inr hn)]; exact g2)
  simp only [Int.toNat_natCast] at this ⊢
  refine this.trans ?_
  rw [cash_put hi hk]
  unfold wt
  rw [if_neg hx, if_neg h2]
  omega
theorem seats_ok {h : House} {l : List Int} (hs : seatsB h l = true) : ∀ j ∈ l, 0 ≤ j ∧ j < sizeL h.sectors := by
 intro j hj
 obtain ⟨k, hk, rfl⟩ := List.getElem_of_mem hj
 obtain ⟨n, e, hn⟩ := seats_nat hs hk
 omega
theorem rows_len {h : House} {b : Book} (hv : valid h = true) (hb : bookB h b = true) {i : Nat} (hi : i < b.seats.length) : (b.seats[i].length : Int) = sizeL h.sectors := (okDesk_book hv hb).1.2.2.2.1 i hi
theorem give_valid {h : House} {b b' : Book} {t s : Int} {l : List Int} {m : BT.Message} (hv : valid h = true) (hb : bookB h b = true) (hr : giveD h b t s l = .ok (b', m)) : bookB h b' = true ∧ b'.agency = b.agency ∧ messV h m = true ∧ m.seats = l := by
 unfold giveD at hr
 split at hr
 rotate_left
 ·cases hr
 rename_i he
 injection hr with hr
 obtain ⟨h1, h2, h3, h4, h5, h6, h7, h8⟩ := giveE_ok he
 obtain ⟨i, rfl, hi⟩ := nat_of h3
 have hO := (okDesk_book hv hb).1
 have hil : i < b.seats.length := by have := hO.2.2.1; omega
 have hlen := rows_len hv hb hil
 have hp := book_iff.1 hb
 have hk := putAll_keep i (-1) l b
 have hs0 := book_sent hb
 simp [withinB] at hs0
 unfold giveP at hr
 rw [giveTo_all] at hr
 injection hr with hr1 hr2
 subst hr1 hr2
 refine ⟨book_of hb hk.1 (by simp [hk.2.1]) (by simpa using hk.2.2.1) (by simp [withinB]; omega) hk.2.2.2.2.1 (by simpa [rowsB] using putAll_rows i (x := -1) (by decide) l b hp.2.1) ?_, hk.1, ?_, rfl⟩
 ·have hc := putAll_cash (h := h) i (x := -1) (by decide) l b hil (fun j hj => ⟨(seats_ok h4 j hj).1, by have := (seats_ok h4 j hj).2; omega, h7 j hj⟩)
  simp only [Int.toNat_natCast]
  rw [hk.2.2.2.2.2, hc]
  exact hp.2.2.1
 ·have ha : withinB b.agency 0 (agN h - 1) = true := by
   have a := hp.1
   unfold bookA at a
   simp only [Bool.and_eq_true] at a
   exact a.1.1.1.1
  unfold messV
  simp only [Bool.and_eq_true, decide_eq_true_eq]
  exact ⟨⟨⟨⟨⟨ha, h1⟩, fun e => h2 e.symm⟩, by simp [withinB]; omega⟩, h3⟩, h4⟩
theorem take_valid {h : House} {b b' : Book} {m : BT.Message} (hv : valid h = true) (hb : bookB h b = true) (hr : takeD h b m = .ok b') : bookB h b' = true ∧ b'.agency = b.agency := by
 unfold takeD at hr
 split at hr
 rotate_left
 ·cases hr
 rename_i he
 injection hr with hr
 obtain ⟨h1, h2, h3, h4, h5⟩ := takeE_ok he
 have hm := h1
 unfold messV at hm
 simp only [Bool.and_eq_true, decide_eq_true_eq] at hm
 obtain ⟨⟨⟨⟨⟨m1, m2⟩, m3⟩, m4⟩, m5⟩, m6⟩ := hm
 obtain ⟨i, hs, hi⟩ := nat_of m5
 have hO := (okDesk_book hv hb).1
 have hil : i < b.seats.length := by have := hO.2.2.1; omega
 have hlen := rows_len hv hb hil
 have hp := book_iff.1 hb
 have hk := putAll_keep i 0 m.seats b
 unfold takeP at hr
 rw [takeTo_all, hs, Int.toNat_natCast] at hr
 subst hr
 refine ⟨?_, hk.1⟩
 rw [book_iff]
 refine ⟨?_, by simpa [rowsB] using putAll_rows i (x := 0) (by decide) m.seats b hp.2.1, ?_, ?_⟩
 ·have a := hp.1
  unfold bookA at a ⊢
  simp only [Bool.and_eq_true, decide_eq_true_eq] at a ⊢
  refine ⟨⟨⟨⟨by simpa [hk.1] using a.1.1.1.1, by simpa [hk.2.1] using a.1.1.1.2⟩, by simpa [hk.2.2.1] using a.1.1.2⟩, by simpa [hk.2.2.2.1] using a.1.2⟩, by simp; omega⟩
 ·have hc := putAll_cash (h := h) i (x := 0) (by decide) m.seats b hil (fun j hj => ⟨(seats_ok m6 j hj).1, by have := (seats_ok m6 j hj).2; omega, by have := h4 j hj; rw [hs] at this; omega⟩)
  show (putAll b i 0 m.seats).cash = cashL h (putAll b i 0 m.seats).seats
  rw [hk.2.2.2.2.2, hc]
  exact hp.2.2.1
 ·have t := hp.2.2.2
  unfold tookB at t ⊢
  rw [List.all_eq_true] at t ⊢
  intro x hx
  obtain ⟨n, hn, rfl⟩ := List.getElem_of_mem hx
  have hn' : n < (b.took ++ [keyOf m]).length := by simpa [idxKeys_len] using hn
  rw [ikey_at hn hn']
  show (!decide ((b.took ++ [keyOf m])[n] ∈ (b.took ++ [keyOf m]).take n) && keyB h (putAll b i 0 m.seats).agency (b.took ++ [keyOf m])[n]) = true
  rw [hk.1]
  rcases Nat.lt_or_ge n b.took.length with hnl | hnl
  ·rw [List.getElem_append_left hnl, List.take_append_of_le_length (by omega)]
   have := t _ (List.getElem_mem (show n < (idxKeys b.took).length by simpa [idxKeys_len] using hnl))
   rw [ikey_at _ hnl] at this
   exact this
  ·have hnn : n = b.took.length := by simp at hn'; omega
   subst hnn
   simp only [List.getElem_append_right (Nat.le_refl _), Nat.sub_self, List.getElem_cons_zero, List.take_left']
   have hnot : keyOf m ∉ b.took := by simpa [hasK] using h3
   simp only [hnot, decide_false, Bool.not_false, Bool.true_and]
   unfold keyB keyOf
   simp only [Bool.and_eq_true, decide_eq_true_eq]
   exact ⟨⟨m1, fun e => m3 (by rw [e, h2])⟩, m4⟩
theorem lose_keep {h : House} (i : Nat) (d : Int) (b : Book) (hr : rowsB h b = true) : ∀ k, (loseTo h b i d k).1.off = b.off ∧ (loseTo h b i d k).1.took = b.took ∧ rowsB h (loseTo h b i d k).1 = true
 | 0 => ⟨rfl, rfl, hr⟩
 | k + 1 => by
  obtain ⟨a1, a2, a3⟩ := lose_keep i d b hr k
  unfold loseTo
  split
  rotate_left
  ·exact ⟨a1, a2, a3⟩
  ·rename_i hy
   have hw := seat_in a3 (i := i) (j := k) (by omega)
   unfold loseOne
   split
   ·exact ⟨a1, a2, rows_put (rows_put a3 _ _ hw) _ _ (by decide)⟩
   ·exact ⟨a1, a2, rows_put a3 _ _ (by decide)⟩
theorem off_valid {h : House} {b : Book} (hb : bookB h b = true) (i : Nat) : bookB h (offBook b i) = true :=
 book_of hb rfl (by simp [offBook]) rfl (show withinB b.sent 0 1000 = true from book_sent hb) rfl (book_iff.1 hb).2.1 (book_iff.1 hb).2.2.1
theorem lose_valid {h : House} {b b' : Book} {s d : Int} (hv : valid h = true) (hb : bookB h b = true) (hr : bookOf (loseD h b s d) = .ok b') : bookB h b' = true ∧ b'.agency = b.agency := by
 unfold loseD at hr
 split at hr
 rotate_left
 ·cases hr
 rename_i he
 have hs : withinB s 0 (h.dates.length - 1) = true := by
  unfold loseE at he
  split at he
  ·omega
  ·rename_i q; simpa using q
 obtain ⟨i, rfl, hi⟩ := nat_of hs
 have hO := (okDesk_book hv hb).1
 have hil : i < b.seats.length := by have := hO.2.2.1; omega
 have hlen := rows_len hv hb hil
 have hbo := off_valid hb i
 have hp := book_iff.1 hbo
 obtain ⟨hO2, hc2, hc0, _⟩ := okDesk_book hv hbo
 have hk : (((offBook b i).seats.getD i []).length : Int) ≤ sizeL h.sectors := by
  simp [offBook, List.getD_eq_getElem?_getD, hil, hlen]
 have hL := like_to hO2 hc0 i d _ hk
 have hK := lose_keep i d _ hp.2.1 ((offBook b i).seats.getD i []).length
 have hC := cash_to hO2 hc0 hc2 (i := i) (by omega) d _ hk
 rw [Int.toNat_natCast] at hr
 have hr2 : (loseTo h (offBook b i) i d ((offBook b i).seats.getD i []).length).1 = b' := by
  have : bookOf (.ok (loseTo h (offBook b i) i d (b.seats.getD i []).length)) = Except.ok (loseTo h (offBook b i) i d (b.seats.getD i []).length).1 := rfl
  rw [this] at hr
  injection hr
 subst hr2
 exact ⟨book_of hbo hL.agency hL.off hL.seats (by rw [hL.sent]; exact book_sent hbo) hK.2.1 hK.2.2 hC, hL.agency⟩
/-! A world that is valid. -/
structure WdOk (h : House) (w : Wd) : Prop where
 len : w.books.length = agN h
 book : ∀ i (hi : i < w.books.length), bookB h w.books[i] = true ∧ w.books[i].agency = i
 msg : ∀ m ∈ w.msgs, messV h m = true
theorem gate_ok {α : Type} {h : House} {b : Book} {r : Except Int α} (hv : valid h = true) (hb : bookB h b = true) : gate h b r = r := by
 unfold gate checkR
 simp [hv, hb]
theorem desk_valid {h : House} {w : Wd} {b b' : Book} {x : ActT} {ms : List BT.Message} (hv : valid h = true) (hb : bookB h b = true) (hr : deskD h w b x = .ok (b', ms)) : bookB h b' = true ∧ b'.agency = b.agency ∧ (∀ m ∈ ms, messV h m = true ∧ m.seats = x.seats) ∧ ms.length ≤ 1 := by
 have hw : ∀ r : Except Int Book, withNone r = .ok (b', ms) → r = .ok b' ∧ ms = [] := by
  intro r hr
  cases r with
  | ok c => injection hr with hr; injection hr with h1 h2; subst h1 h2; exact ⟨rfl, rfl⟩
  | error c => cases hr
 unfold deskD at hr
 split at hr
 ·obtain ⟨h1, rfl⟩ := hw _ hr
  have := sell_valid hv hb h1
  exact ⟨this.1, this.2, by simp, by simp⟩
 split at hr
 ·obtain ⟨h1, rfl⟩ := hw _ hr
  have := refund_valid hv hb h1
  exact ⟨this.1, this.2, by simp, by simp⟩
 split at hr
 ·generalize hg : giveD h b x.dst x.shw x.seats = r at hr
  cases r with
  | error c => cases hr
  | ok p =>
   obtain ⟨c, m⟩ := p
   injection hr with hr
   injection hr with h1 h2
   subst h1 h2
   have := give_valid hv hb hg
   exact ⟨this.1, this.2.1, by simpa using ⟨this.2.2.1, this.2.2.2⟩, by simp⟩
 split at hr
 ·obtain ⟨h1, rfl⟩ := hw _ hr
  have := take_valid hv hb h1
  exact ⟨this.1, this.2, by simp, by simp⟩
 ·obtain ⟨h1, rfl⟩ := hw _ hr
  have := lose_valid hv hb h1
  exact ⟨this.1, this.2, by simp, by simp⟩
theorem actE_ok {w : Wd} {x : ActT} (he : actE w x = 0) : 1 ≤ x.kind ∧ x.kind ≤ 5 ∧ withinB x.agency 0 (w.books.length - 1) = true ∧ (x.kind = 4 → withinB x.msg 0 (w.msgs.length - 1) = true) := by
 unfold actE at he
 repeat' split at he
 all_goals first | omega | skip
 rename_i h1 h2 h3
 refine ⟨by omega, by omega, by simpa using h2, fun h4 => ?_⟩
 cases q : withinB x.msg 0 (w.msgs.length - 1) with
 | true => rfl
 | false => exact absurd ⟨h4, q⟩ h3
theorem act_ok {h : House} {w : Wd} (hv : valid h = true) (hw : WdOk h w) (x : ActT) : WdOk h (actD h w x).1 ∧ (∃ ms, (actD h w x).1.msgs = w.msgs ++ ms ∧ ms.length ≤ 1 ∧ ∀ m ∈ ms, m.seats = x.seats) := by
 unfold actD
 split
 rotate_left
 ·exact ⟨hw, [], by simp, by simp, by simp⟩
 rename_i he
 obtain ⟨_, _, h3, _⟩ := actE_ok he
 obtain ⟨i, hia, hi⟩ := nat_of h3
 rw [hia, Int.toNat_natCast]
 have hi' : i < w.books.length := by omega
 have hg : w.books.getD i noBook = w.books[i] := by simp [List.getD_eq_getElem?_getD, hi']
 rw [hg, gate_ok hv (hw.book i hi').1]
 generalize hr : deskD h w w.books[i] x = r
 cases r with
 | error c => exact ⟨hw, [], by simp [putBook], by simp, by simp⟩
 | ok p =>
  obtain ⟨b', ms⟩ := p
  obtain ⟨h1, h2, h4, h5⟩ := desk_valid hv (hw.book i hi').1 hr
  refine ⟨⟨by simpa [putBook] using hw.len, fun k hk => ?_, fun m hm => ?_⟩, ms, rfl, h5, fun m hm => (h4 m hm).2⟩
  ·simp only [putBook] at hk ⊢
   rw [List.getElem_set]
   split
   ·rename_i e; subst e; exact ⟨h1, h2.trans (hw.book i hi').2⟩
   ·exact hw.book k (by simpa using hk)
  ·simp only [putBook, List.mem_append] at hm
   rcases hm with hm | hm
   ·exact hw.msg m hm
   ·exact (h4 m hm).1
theorem cash_none {h : House} {rows : List (List Int)} (hr : ∀ r ∈ rows, ∀ y ∈ r, ¬ 0 < y) : cashL h rows = 0 := by
 have h1 : ∀ (r : List Int), (∀ y ∈ r, ¬ 0 < y) → ∀ k, rowCash h r k = 0 := by
  intro r hy k
  induction k with
  | zero => rfl
  | succ k ih =>
   rw [rowCash_succ, ih, if_neg]
   ·rfl
   ·rcases Nat.lt_or_ge k r.length with hk | hk
    ·have : r.getD k 0 = r[k] := by simp [List.getD_eq_getElem?_getD, hk]
     rw [this]; exact hy _ (List.getElem_mem hk)
    ·simp [List.getD_eq_getElem?_getD, List.getElem?_eq_none hk]
 have h2 : ∀ k, cashTo h rows k = 0 := by
  intro k
  induction k with
  | zero => rfl
  | succ k ih =>
   show cashTo h rows k + rowCash h (rows.getD k []) (rows.getD k []).length = 0
   rw [ih, h1]
   ·rfl
   ·rcases Nat.lt_or_ge k rows.length with hk | hk
    ·have : rows.getD k [] = rows[k] := by simp [List.getD_eq_getElem?_getD, hk]
     rw [this]; exact hr _ (List.getElem_mem hk)
    ·simp [List.getD_eq_getElem?_getD, List.getElem?_eq_none hk]
 exact h2 _
theorem open_valid {h : House} (hv : valid h = true) {a : Nat} (ha : a < agN h) : bookB h (openP h a) = true := by
 have hb := bounds_valid hv
 rw [book_iff]
 refine ⟨?_, ?_, ?_, rfl⟩
 ·unfold bookA openP
  simp [withinB]
  omega
 ·unfold rowsB openP
  rw [List.all_eq_true]
  intro r hr
  simp only [List.mem_map] at hr
  obtain ⟨q, hq, rfl⟩ := hr
  obtain ⟨k, hk, rfl⟩ := List.getElem_of_mem hq
  have h1 := hb.2.2.2.2.2.2.2.2.1 k hk
  unfold rowB
  simp only [Bool.and_eq_true, decide_eq_true_eq, List.length_map]
  refine ⟨h1, ?_⟩
  rw [List.all_eq_true]
  intro y hy
  simp only [List.mem_map] at hy
  obtain ⟨z, _, rfl⟩ := hy
  unfold heldV
  split <;> simp [withinB]
 ·symm
  refine cash_none fun r hr y hy => ?_
  simp only [openP, List.mem_map] at hr
  obtain ⟨q, _, rfl⟩ := hr
  simp only [List.mem_map] at hy
  obtain ⟨z, _, rfl⟩ := hy
  unfold heldV
  split <;> omega
theorem start_ok {h : House} (hv : valid h = true) : WdOk h (startD h) := by
 refine ⟨by simp [startD], fun i hi => ?_, fun m hm => by simp [startD] at hm⟩
 have hi' : i < agN h := by simpa [startD] using hi
 simp only [startD, List.getElem_map, List.getElem_range]
 exact ⟨open_valid hv hi', rfl⟩
theorem world_ok {h : House} (hv : valid h = true) (l : List ActT) : ∀ k, WdOk h (worldAt h l k)
 | 0 => start_ok hv
 | k + 1 => (act_ok hv (world_ok hv l k) _).1
end Go.Proofs.YtgpiieogiafdoaaGreat
namespace Go.BT
open Go.RowKit
instance : Rep ActT where
 k := 9
 rep S w cs x := ∃ c8, cs = [.int .u8 x.kind, .int .i64 x.agency, .int .i64 x.shw, .int .i64 x.seat, .int .i64 x.buyer, .int .i64 x.day, .int .i64 x.dst, .int .i64 x.msg, c8] ∧ SL S w c8 x.seats ∧ 0 ≤ x.kind ∧ x.kind ≤ 255
 len h := by obtain ⟨_, rfl, _⟩ := h; rfl
 keep hk h := by obtain ⟨c, e, h1, h2⟩ := h; exact ⟨c, e, h1.keep hk, h2⟩
 weak hk h := by obtain ⟨c, e, h1, h2⟩ := h; exact ⟨c, e, h1.weak hk, h2⟩
 one h := by
  obtain ⟨c, rfl, h1, _⟩ := h
  obtain ⟨_, _, rfl⟩ := h1.form
  simp [Value.oneCell']
 pos := by decide
instance : Rep Wd where
 k := 2
 rep S w cs x := ∃ c0 c1, cs = [c0, c1] ∧ SL S w c0 x.books ∧ SL S w c1 x.msgs
 len h := by obtain ⟨_, _, rfl, _⟩ := h; rfl
 keep hk h := by obtain ⟨c0, c1, e, h1, h2⟩ := h; exact ⟨c0, c1, e, h1.keep hk, h2.keep hk⟩
 weak hk h := by obtain ⟨c0, c1, e, h1, h2⟩ := h; exact ⟨c0, c1, e, h1.weak hk, h2.weak hk⟩
 one h := by
  obtain ⟨c0, c1, rfl, h1, h2⟩ := h
  obtain ⟨_, _, rfl⟩ := h1.form
  obtain ⟨_, _, rfl⟩ := h2.form
  simp [Value.oneCell']
 pos := by decide
theorem AV.wd {S : Nat → Prop} {w : World} {v : Value} {x : Wd} (hv : AV S w v x) : ∃ c0 c1, v = .agg #[c0, c1] ∧ SL S w c0 x.books ∧ SL S w c1 x.msgs := by
 obtain ⟨cs, rfl, c0, c1, rfl, r⟩ := hv; exact ⟨c0, c1, rfl, r⟩
theorem AV.act {S : Nat → Prop} {w : World} {v : Value} {x : ActT} (hv : AV S w v x) : ∃ c8, v = .agg #[.int .u8 x.kind, .int .i64 x.agency, .int .i64 x.shw, .int .i64 x.seat, .int .i64 x.buyer, .int .i64 x.day, .int .i64 x.dst, .int .i64 x.msg, c8] ∧ SL S w c8 x.seats ∧ 0 ≤ x.kind ∧ x.kind ≤ 255 := by
 obtain ⟨cs, rfl, c8, rfl, r⟩ := hv; exact ⟨c8, rfl, r⟩
theorem SL.acts {S : Nat → Prop} {w : World} {v : Value} {l : List ActT} (h : SL S w v l) :
  ∃ p c b o, v = .slice p l.length c ∧ l.length ≤ c ∧ l.length ≤ 9223372036854775807 ∧ (0 < l.length → p = some ⟨b, o, none⟩) ∧
   (∀ i (h : i < l.length), ∃ c8, (w.cell? ⟨b, o + i * 9, none⟩ = some (.int .u8 l[i].kind) ∧ w.cell? ⟨b, o + i * 9 + 1, none⟩ = some (.int .i64 l[i].agency) ∧ w.cell? ⟨b, o + i * 9 + 2, none⟩ = some (.int .i64 l[i].shw) ∧ w.cell? ⟨b, o + i * 9 + 3, none⟩ = some (.int .i64 l[i].seat) ∧ w.cell? ⟨b, o + i * 9 + 4, none⟩ = some (.int .i64 l[i].buyer) ∧ w.cell? ⟨b, o + i * 9 + 5, none⟩ = some (.int .i64 l[i].day) ∧ w.cell? ⟨b, o + i * 9 + 6, none⟩ = some (.int .i64 l[i].dst) ∧ w.cell? ⟨b, o + i * 9 + 7, none⟩ = some (.int .i64 l[i].msg) ∧ w.cell? ⟨b, o + i * 9 + 8, none⟩ = some c8) ∧ SL S w c8 l[i].seats ∧ 0 ≤ l[i].kind ∧ l[i].kind ≤ 255) ∧ (0 < l.length → b < w.heap.size ∧ ¬ S b) := by
 obtain ⟨p, c, b, o, hv, hc, hm, hp, ha⟩ := h
 refine ⟨p, c, b, o, hv, hc, hm, hp, fun i hi => ?_, fun h0 => ⟨(ha 0 h0).1, (ha 0 h0).2.1⟩⟩
 obtain ⟨_, _, cs, hr, hcs⟩ := ha i hi
 obtain ⟨c8, rfl, r⟩ := hr
 exact ⟨c8, ⟨hcs 0 _ rfl, hcs 1 _ rfl, hcs 2 _ rfl, hcs 3 _ rfl, hcs 4 _ rfl, hcs 5 _ rfl, hcs 6 _ rfl, hcs 7 _ rfl, hcs 8 _ rfl⟩, r⟩
theorem SL.books {S : Nat → Prop} {w : World} {v : Value} {l : List Book} (h : SL S w v l) :
  ∃ p c b o, v = .slice p l.length c ∧ l.length ≤ c ∧ l.length ≤ 9223372036854775807 ∧ (0 < l.length → p = some ⟨b, o, none⟩) ∧
   (∀ i (h : i < l.length), ∃ c1 c2 c4, (w.cell? ⟨b, o + i * 6, none⟩ = some (.int .i64 l[i].agency) ∧ w.cell? ⟨b, o + i * 6 + 1, none⟩ = some c1 ∧ w.cell? ⟨b, o + i * 6 + 2, none⟩ = some c2 ∧ w.cell? ⟨b, o + i * 6 + 3, none⟩ = some (.int .i64 l[i].sent) ∧ w.cell? ⟨b, o + i * 6 + 4, none⟩ = some c4 ∧ w.cell? ⟨b, o + i * 6 + 5, none⟩ = some (.int .i64 l[i].cash)) ∧ SL S w c1 l[i].seats ∧ SL S w c2 l[i].off ∧ SL S w c4 l[i].took) ∧ (0 < l.length → b < w.heap.size ∧ ¬ S b) := by
 obtain ⟨p, c, b, o, hv, hc, hm, hp, ha⟩ := h
 refine ⟨p, c, b, o, hv, hc, hm, hp, fun i hi => ?_, fun h0 => ⟨(ha 0 h0).1, (ha 0 h0).2.1⟩⟩
 obtain ⟨_, _, cs, hr, hcs⟩ := ha i hi
 obtain ⟨c1, c2, c4, rfl, r⟩ := hr
 exact ⟨c1, c2, c4, ⟨hcs 0 _ rfl, hcs 1 _ rfl, hcs 2 _ rfl, hcs 3 _ rfl, hcs 4 _ rfl, hcs 5 _ rfl⟩, r⟩
theorem SL.mess {S : Nat → Prop} {w : World} {v : Value} {l : List BT.Message} (h : SL S w v l) :
  ∃ p c b o, v = .slice p l.length c ∧ l.length ≤ c ∧ l.length ≤ 9223372036854775807 ∧ (0 < l.length → p = some ⟨b, o, none⟩) ∧
   (∀ i (h : i < l.length), ∃ c4, (w.cell? ⟨b, o + i * 5, none⟩ = some (.int .i64 l[i].frm) ∧ w.cell? ⟨b, o + i * 5 + 1, none⟩ = some (.int .i64 l[i].dst) ∧ w.cell? ⟨b, o + i * 5 + 2, none⟩ = some (.int .i64 l[i].number) ∧ w.cell? ⟨b, o + i * 5 + 3, none⟩ = some (.int .i64 l[i].shw) ∧ w.cell? ⟨b, o + i * 5 + 4, none⟩ = some c4) ∧ SL S w c4 l[i].seats) ∧ (0 < l.length → b < w.heap.size ∧ ¬ S b) := by
 obtain ⟨p, c, b, o, hv, hc, hm, hp, ha⟩ := h
 refine ⟨p, c, b, o, hv, hc, hm, hp, fun i hi => ?_, fun h0 => ⟨(ha 0 h0).1, (ha 0 h0).2.1⟩⟩
 obtain ⟨_, _, cs, hr, hcs⟩ := ha i hi
 obtain ⟨c4, rfl, r⟩ := hr
 exact ⟨c4, ⟨hcs 0 _ rfl, hcs 1 _ rfl, hcs 2 _ rfl, hcs 3 _ rfl, hcs 4 _ rfl⟩, r⟩
end Go.BT
namespace Go.Proofs.YtgpiieogiafdoaaGreat
set_option linter.unusedSimpArgs false
set_option linter.unusedVariables false
open Go.ChangeShapes Go.WideShapes Go.ChangeAt Go.RowKit Go.BT
theorem fields9 {cs : List Value} (h : cs.length = 9) : ∃ a b c d e f g h' i, cs = [a, b, c, d, e, f, g, h', i] := by
 match cs, h with
 | [a, b, c, d, e, f, g, h', i], _ => exact ⟨a, b, c, d, e, f, g, h', i, rfl⟩
theorem opens_Act : Opens 105 ActT := by
 intro H enc w fuel cs x h
 obtain ⟨xs, n, rfl, rfl, hl, hx, hf⟩ := DataW.trod_struct Tryz.underlying105 h
 rw [show Tryz.prog.cellsOf 105 = 9 from by kernel_rfl] at hl
 obtain ⟨a, b, c, d, e, f, g, h9, i, rfl⟩ := fields9 hl
 have hx2 : xs.length = 9 := hx
 have h0 : DataW.trod enc Tryz.prog w 0 (fun _ => true) true n 5 [a] = xs[0]? := by
  have q : DataW.trod enc Tryz.prog w 0 (fun _ => true) true n 5 (([a, b, c, d, e, f, g, h9, i].drop 0).take (Tryz.prog.cellsOf 5)) = xs[0]? := hf 0 _ rfl
  rw [show Tryz.prog.cellsOf 5 = 1 from by kernel_rfl] at q
  exact q
 have h1 : DataW.trod enc Tryz.prog w 0 (fun _ => true) true n 3 [b] = xs[1]? := by
  have q : DataW.trod enc Tryz.prog w 0 (fun _ => true) true n 3 (([a, b, c, d, e, f, g, h9, i].drop 1).take (Tryz.prog.cellsOf 3)) = xs[1]? := hf 1 _ rfl
  rw [show Tryz.prog.cellsOf 3 = 1 from by kernel_rfl] at q
  exact q
 have h2 : DataW.trod enc Tryz.prog w 0 (fun _ => true) true n 3 [c] = xs[2]? := by
  have q : DataW.trod enc Tryz.prog w 0 (fun _ => true) true n 3 (([a, b, c, d, e, f, g, h9, i].drop 2).take (Tryz.prog.cellsOf 3)) = xs[2]? := hf 2 _ rfl
  rw [show Tryz.prog.cellsOf 3 = 1 from by kernel_rfl] at q
  exact q
 have h3 : DataW.trod enc Tryz.prog w 0 (fun _ => true) true n 3 [d] = xs[3]? := by
  have q : DataW.trod enc Tryz.prog w 0 (fun _ => true) true n 3 (([a, b, c, d, e, f, g, h9, i].drop 3).take (Tryz.prog.cellsOf 3)) = xs[3]? := hf 3 _ rfl
  rw [show Tryz.prog.cellsOf 3 = 1 from by kernel_rfl] at q
  exact q
 have h4 : DataW.trod enc Tryz.prog w 0 (fun _ => true) true n 3 [e] = xs[4]? := by
  have q : DataW.trod enc Tryz.prog w 0 (fun _ => true) true n 3 (([a, b, c, d, e, f, g, h9, i].drop 4).take (Tryz.prog.cellsOf 3)) = xs[4]? := hf 4 _ rfl
  rw [show Tryz.prog.cellsOf 3 = 1 from by kernel_rfl] at q
  exact q
 have h5 : DataW.trod enc Tryz.prog w 0 (fun _ => true) true n 3 [f] = xs[5]? := by
  have q : DataW.trod enc Tryz.prog w 0 (fun _ => true) true n 3 (([a, b, c, d, e, f, g, h9, i].drop 5).take (Tryz.prog.cellsOf 3)) = xs[5]? := hf 5 _ rfl
  rw [show Tryz.prog.cellsOf 3 = 1 from by kernel_rfl] at q
  exact q
 have h6 : DataW.trod enc Tryz.prog w 0 (fun _ => true) true n 3 [g] = xs[6]? := by
  have q : DataW.trod enc Tryz.prog w 0 (fun _ => true) true n 3 (([a, b, c, d, e, f, g, h9, i].drop 6).take (Tryz.prog.cellsOf 3)) = xs[6]? := hf 6 _ rfl
  rw [show Tryz.prog.cellsOf 3 = 1 from by kernel_rfl] at q
  exact q
 have h7 : DataW.trod enc Tryz.prog w 0 (fun _ => true) true n 3 [h9] = xs[7]? := by
  have q : DataW.trod enc Tryz.prog w 0 (fun _ => true) true n 3 (([a, b, c, d, e, f, g, h9, i].drop 7).take (Tryz.prog.cellsOf 3)) = xs[7]? := hf 7 _ rfl
  rw [show Tryz.prog.cellsOf 3 = 1 from by kernel_rfl] at q
  exact q
 have h8 : DataW.trod enc Tryz.prog w 0 (fun _ => true) true n 23 [i] = xs[8]? := by
  have q : DataW.trod enc Tryz.prog w 0 (fun _ => true) true n 23 (([a, b, c, d, e, f, g, h9, i].drop 8).take (Tryz.prog.cellsOf 23)) = xs[8]? := hf 8 _ rfl
  rw [show Tryz.prog.cellsOf 23 = 1 from by kernel_rfl] at q
  exact q
 rw [List.getElem?_eq_getElem (show 0 < xs.length by omega)] at h0
 obtain ⟨y0, r0, _, wf0⟩ := DataW.trod_int Tryz.underlying5 h0
 obtain ⟨y1, r1⟩ := field_opens (opens_int Tryz.underlying3) (by omega) h1
 obtain ⟨y2, r2⟩ := field_opens (opens_int Tryz.underlying3) (by omega) h2
 obtain ⟨y3, r3⟩ := field_opens (opens_int Tryz.underlying3) (by omega) h3
 obtain ⟨y4, r4⟩ := field_opens (opens_int Tryz.underlying3) (by omega) h4
 obtain ⟨y5, r5⟩ := field_opens (opens_int Tryz.underlying3) (by omega) h5
 obtain ⟨y6, r6⟩ := field_opens (opens_int Tryz.underlying3) (by omega) h6
 obtain ⟨y7, r7⟩ := field_opens (opens_int Tryz.underlying3) (by omega) h7
 obtain ⟨y8, r8⟩ := field_opens opens_ints (by omega) h8
 injection r0 with e0
 have e1 : [b] = [Value.int .i64 y1] := r1
 injection e1 with e1
 have e2 : [c] = [Value.int .i64 y2] := r2
 injection e2 with e2
 have e3 : [d] = [Value.int .i64 y3] := r3
 injection e3 with e3
 have e4 : [e] = [Value.int .i64 y4] := r4
 injection e4 with e4
 have e5 : [f] = [Value.int .i64 y5] := r5
 injection e5 with e5
 have e6 : [g] = [Value.int .i64 y6] := r6
 injection e6 with e6
 have e7 : [h9] = [Value.int .i64 y7] := r7
 injection e7 with e7
 have hk : 0 ≤ y0 ∧ y0 ≤ 255 := by
  have h1 : IntKind.u8.min = 0 := rfl
  have h2 : IntKind.u8.max = 255 := rfl
  simp [Lit.wf] at wf0; omega
 exact ⟨⟨y0, y1, y2, y3, y4, y5, y6, y7, y8⟩, _, by rw [e0, e1, e2, e3, e4, e5, e6, e7], rep_list r8, hk.1, hk.2⟩
theorem opens_acts : Opens 27 (List ActT) := opens_slice Tryz.underlying27 (by kernel_rfl) opens_Act
end Go.Proofs.YtgpiieogiafdoaaGreat
namespace Go.BT
open Go.RowKit
theorem splice_get (cs ds : List Value) (p k q : Nat) (hp : p + k ≤ cs.length) (hd : ds.length = k) : (cs.take p ++ ds ++ cs.drop (p + k))[q]? = if q < p then cs[q]? else if q < p + k then ds[q - p]? else cs[q]? := by
 have h1 : (cs.take p).length = p := by simp; omega
 by_cases a : q < p
 ·rw [if_pos a, List.append_assoc, List.getElem?_append_left (by omega), List.getElem?_take_of_lt a]
 ·rw [if_neg a]
  by_cases b : q < p + k
  ·rw [if_pos b, List.getElem?_append_left (by simp; omega), List.getElem?_append_right (by omega), h1]
  ·rw [if_neg b, List.getElem?_append_right (by simp; omega), List.getElem?_drop]
   congr 1
   simp
   omega
theorem piece_get (L : List Value) (n k j q : Nat) (hj : j < n) : (((L.take (n * k)).drop (j * k)).take k)[q]? = if q < k then L[j * k + q]? else none := by
 have hm : j * k + k ≤ n * k := by
  have := Nat.mul_le_mul_right k (show j + 1 ≤ n by omega)
  rw [Nat.add_mul, Nat.one_mul] at this
  exact this
 by_cases a : q < k
 ·rw [if_pos a, List.getElem?_take_of_lt a, List.getElem?_drop, List.getElem?_take_of_lt (by omega)]
 ·rw [if_neg a, List.getElem?_take, if_neg a]
theorem OwnL.row_put {α : Type} [Rep α] {S : Nat → Prop} {base : Nat} {e : TypeId} {w : World} {v : Value} {l : List α} (h : OwnL S base e w v l) {i : Nat} (hi : i < l.length) :
  ∃ g cap cs, v = .slice (some ⟨g, 0, none⟩) l.length cap ∧ base ≤ g ∧ Bx w g cs e ∧ i * Rep.k α + Rep.k α ≤ cs.length ∧ Rep.rep (avoid S v) w ((cs.drop (i * Rep.k α)).take (Rep.k α)) l[i] ∧
   ∀ w' ds (y : α), Rep.rep (avoid S v) w ds y → Wrote g w w' → Bx w' g (cs.take (i * Rep.k α) ++ ds ++ cs.drop (i * Rep.k α + Rep.k α)) e → OwnL S base e w' v (l.set i y) := by
 obtain ⟨xs, ⟨hl, ho⟩, hr⟩ := h
 rcases ho with ⟨_, h0⟩ | ⟨g, cap, cur, rfl, hb, hg, hle, hcap, hsz, htk⟩
 ·omega
 have hm : i * Rep.k α + Rep.k α ≤ l.length * Rep.k α := by
  have := Nat.mul_le_mul_right (Rep.k α) (show i + 1 ≤ l.length by omega)
  rw [Nat.add_mul, Nat.one_mul] at this
  exact this
 have hm2 : l.length * Rep.k α ≤ cap * Rep.k α := Nat.mul_le_mul_right _ hle
 have hcl : cur.toList.length = cap * Rep.k α := by simpa using hsz
 have hpi : ((xs.drop (i * Rep.k α)).take (Rep.k α)) = ((cur.toList.drop (i * Rep.k α)).take (Rep.k α)) := by
  subst htk
  refine List.ext_getElem? fun q => ?_
  rw [piece_get _ _ _ _ _ hi]
  by_cases a : q < Rep.k α
  ·rw [if_pos a, List.getElem?_take_of_lt a, List.getElem?_drop]
  ·rw [if_neg a, List.getElem?_take, if_neg a]
 refine ⟨g, cap, cur.toList, rfl, hb, by unfold Bx; rw [hg], by omega, hpi ▸ hr i hi, fun w' ds y hy hw hbx => ?_⟩
 have hd : ds.length = Rep.k α := Rep.len hy
 have hk : Keeps (avoid S (.slice (some ⟨g, 0, none⟩) l.length cap)) w w' := hw.keeps.mono fun j _ hj => .inr (by rw [hj]; rfl)
 refine ⟨(cur.toList.take (i * Rep.k α) ++ ds ++ cur.toList.drop (i * Rep.k α + Rep.k α)).take (l.length * Rep.k α), ⟨?_, .inr ⟨g, cap, _, by simp, hb, hbx, by simpa using hle, hcap, ?_, by simp⟩⟩, fun j hj => ?_⟩
 ·simp; omega
 ·simp; omega
 ·have hj' : j < l.length := by simpa using hj
  have hlen : (l.set i y).length = l.length := by simp
  rw [List.getElem_set]
  by_cases e : i = j
  ·subst e
   rw [if_pos rfl]
   have : (((cur.toList.take (i * Rep.k α) ++ ds ++ cur.toList.drop (i * Rep.k α + Rep.k α)).take (l.length * Rep.k α)).drop (i * Rep.k α)).take (Rep.k α) = ds := by
    refine List.ext_getElem? fun q => ?_
    rw [piece_get _ _ _ _ _ hi]
    by_cases a : q < Rep.k α
    ·rw [if_pos a, splice_get _ _ _ _ _ (by omega) hd, if_neg (by omega), if_pos (by omega), Nat.add_sub_cancel_left]
    ·rw [if_neg a, List.getElem?_eq_none (by omega)]
   rw [this]
   exact Rep.keep hk (Rep.weak (fun _ _ h => h) hy)
  ·rw [if_neg e]
   have h0 := hr j hj'
   have : (((cur.toList.take (i * Rep.k α) ++ ds ++ cur.toList.drop (i * Rep.k α + Rep.k α)).take (l.length * Rep.k α)).drop (j * Rep.k α)).take (Rep.k α) = ((xs.drop (j * Rep.k α)).take (Rep.k α)) := by
    subst htk
    refine List.ext_getElem? fun q => ?_
    rw [piece_get _ _ _ _ _ hj', piece_get _ _ _ _ _ hj']
    by_cases a : q < Rep.k α
    ·rw [if_pos a, if_pos a, splice_get _ _ _ _ _ (by omega) hd]
     rcases Nat.lt_or_gt_of_ne e with h1 | h1
     ·have := Nat.mul_le_mul_right (Rep.k α) (show i + 1 ≤ j by omega)
      rw [Nat.add_mul, Nat.one_mul] at this
      rw [if_neg (by omega), if_neg (by omega)]
     ·have := Nat.mul_le_mul_right (Rep.k α) (show j + 1 ≤ i by omega)
      rw [Nat.add_mul, Nat.one_mul] at this
      rw [if_pos (by omega)]
    ·rw [if_neg a, if_neg a]
   rw [this]
   exact Rep.keep hk h0
section
variable {α : Type} [Rep α] {S : Nat → Prop} {base : Nat} {P : Program} {w : World} {v u : Value} {l m : List α} {t e : TypeId} {z : Value} {bytes : Nat}
theorem run_append_F (ei : EI P t e z (Rep.k α) bytes) (ty : TypeId) (hown : OwnL S base e w v l) (hu : SLe (avoid S v) w u m)
  (n : Nat) (hn : l.length + m.length = n) (lm : List α) (hlm : l ++ m = lm) (h63 : n ≤ maxLen) (hbytes : n * bytes ≤ 140737488355328) (hbase : base ≤ w.heap.size) :
  ∃ p c w', (Builtin.append_ #[t, t] ty #[v, u]).run P w = .ok (.slice p n c) w' ∧ OwnL S base e w' (.slice p n c) lm ∧ w.grownBy w' v.ownBlock ∧ ∀ k, (Value.slice p n c).ownBlock = some k → v.ownBlock = some k ∨ w.heap.size ≤ k := by
 subst hn hlm
 obtain ⟨ht, hzs, i, hi, hz, hsize, hby⟩ := ei
 obtain ⟨xs, ho, hr⟩ := hown
 obtain ⟨pu, cu, b, o, rfl, hcu, _, hp, hat⟩ := hu
 obtain ⟨news, hl, hnw, h1, hrs⟩ := cells_of_at m o hat
 by_cases hm : m = []
 ·subst hm
  have hform := OwnL.form (S := S) ⟨xs, ho, hr⟩
  obtain ⟨p, c, rfl, hle, _⟩ := hform
  have h0 : news = [] := List.eq_nil_of_length_eq_zero (by simpa using hl)
  subst h0
  cases pu with
  | none =>
   refine ⟨p, c, w, ?_, by rw [List.append_nil]; exact (⟨xs, ho, hr⟩ : OwnL S base e w _ l), World.grownBy.refl _ _, fun k hk => .inl (by cases p <;> simp_all [Value.ownBlock])⟩
   have hc : l.length ≤ c := by
    rcases ho.2 with ⟨h, h0⟩ | ⟨g, cap, cur, hv, _, _, hle, _⟩
    ·rw [h0]; exact Nat.zero_le _
    ·injection hv
   simp [Builtin.append_, run_underlying ht, sizeOf, typeInfo, hi, Builtin.lenOf, Builtin.firstCells, hc]
   cases p <;> simp [storeCells]
  | some a =>
   have hc : l.length ≤ c := by
    rcases ho.2 with ⟨h, h0⟩ | ⟨g, cap, cur, hv, _, _, hle, _⟩
    ·rw [h0]; exact Nat.zero_le _
    ·injection hv
   refine ⟨p, c, w, ?_, by rw [List.append_nil]; exact (⟨xs, ho, hr⟩ : OwnL S base e w _ l), World.grownBy.refl _ _, fun k hk => .inl (by cases p <;> simp_all [Value.ownBlock])⟩
   simp [Builtin.append_, run_underlying ht, sizeOf, typeInfo, hi, Builtin.lenOf, Builtin.firstCells, hc, loadCells, loadCellsFrom]
   cases p <;> simp [storeCells]
 ·have hpos : 0 < m.length := List.length_pos_iff.2 hm
  obtain rfl := hp hpos
  obtain ⟨g, cap, w', hrun, h2, h3, h4, _⟩ := run_append_lies (P := P) w t ty base e i z (Rep.k α) bytes ht hi hz hsize hby hzs Rep.pos v l.length xs ho ⟨b, o, none⟩ m.length cu news hl
   (fun j x hj => by rw [Addr.add_lit]; exact hnw j x hj) h1 hpos h63 hbytes hbase w.heap.size rfl
  have hloc : ∀ k, (Value.slice (some ⟨g, 0, none⟩) (l.length + m.length) cap).ownBlock = some k → v.ownBlock = some k ∨ w.heap.size ≤ k := fun k hk => by
   have hk' : g = k := by simpa [Value.ownBlock] using hk
   subst hk'
   rcases h4 with h4 | h4
   ·exact .inl h4
   ·exact .inr (Nat.le_of_eq h4.symm)
  refine ⟨_, _, w', hrun, ⟨xs ++ news, by simpa using h2, fun k hk => ?_⟩, h3, hloc⟩
  -- what the elements lead to: kept, and not in the new row
  have hkp : Keeps (avoid S v) w w' := Keeps.grown h3 fun j hj _ => .inr hj
  have fresh : ∀ {cs : List Value} {x : α}, Rep.rep (avoid S v) w cs x → Rep.rep (avoid S (.slice (some ⟨g, 0, none⟩) (l.length + m.length) cap)) w' cs x := fun {cs x} hx => by
   have hT : Rep.rep (fun j => avoid S v j ∨ g = j) w cs x := Rep.weak (fun j hj hs => by
    rcases hs with hs | rfl
    ·exact hs
    ·rcases h4 with h4 | h4
     ·exact .inr h4
     ·omega) hx
   exact Rep.weak (fun j _ hs => by
    rcases hs with hs | hs
    ·exact .inl (.inl hs)
    ·simp [Value.ownBlock] at hs; exact .inr hs) (Rep.keep (hkp.mono fun j _ hs => .inl hs) hT)
  have hxl : xs.length = l.length * Rep.k α := ho.1
  by_cases hkl : k < l.length
  ·have e1 : ((xs ++ news).drop (k * Rep.k α)).take (Rep.k α) = (xs.drop (k * Rep.k α)).take (Rep.k α) := by
    have : k * Rep.k α + Rep.k α ≤ xs.length := by
     rw [hxl, ← Nat.succ_mul]; exact Nat.mul_le_mul_right _ hkl
    rw [List.drop_append_of_le_length (by omega), List.take_append_of_le_length (by rw [List.length_drop]; omega)]
   rw [e1, List.getElem_append_left hkl]
   exact fresh (hr k hkl)
  ·have hk' : k - l.length < m.length := by simp at hk; omega
   have e1 : (xs ++ news).drop (k * Rep.k α) = news.drop ((k - l.length) * Rep.k α) := by
    rw [List.drop_append, List.drop_of_length_le (by rw [hxl]; exact Nat.mul_le_mul_right _ (by omega)), List.nil_append, hxl, ← Nat.sub_mul]
   rw [e1, List.getElem_append_right (by omega)]
   exact fresh (hrs _ hk')
theorem wp_append_F {o : Oper} {a : Act} {K : Act → World → Prop} {Q : Exit → Act → World → Prop} (ei : EI P t e z (Rep.k α) bytes) (s x : Operand)
  (ho : o.op = .call { callee := .builtin .append, args := #[s, x], argTypes := #[t, t] }) (hs : a.eval s = v) (hx : a.eval x = u) (hown : OwnL S base e w v l) (hu : SLe (avoid S v) w u m)
  (n : Nat) (hn : l.length + m.length = n) (lm : List α) (hlm : l ++ m = lm) (h63 : n ≤ maxLen) (hbytes : n * bytes ≤ 140737488355328) (hbase : base ≤ w.heap.size)
  (h : ∀ p c w', OwnL S base e w' (.slice p n c) lm → w.grownBy w' v.ownBlock → (∀ k, (Value.slice p n c).ownBlock = some k → v.ownBlock = some k ∨ w.heap.size ≤ k) → K (a.put o.dst (.slice p n c)) w') : o.wp P a w K Q := by
 obtain ⟨p, c, w', hr, h2, h3, h4⟩ := run_append_F ei o.type hown hu n hn lm hlm h63 hbytes hbase
 unfold Oper.wp execOp
 simp only [ho, resolve, invoke, builtin, Sem.run_bind, Sem.run_pure, Result.andThen_ok, List.map_toArray, List.map_cons, List.map_nil, hs, hx, hr]
 exact h p c w' h2 h3 h4
theorem wpl_append_F {ops : Array Oper} {rest : List Oper} {o : Oper} {a : Act} {Q : Exit → Act → World → Prop} (ei : EI P t e z (Rep.k α) bytes) (hgd : o.guard = none) (s x : Operand)
  (ho : o.op = .call { callee := .builtin .append, args := #[s, x], argTypes := #[t, t] }) (hs : a.eval s = v) (hx : a.eval x = u) (hown : OwnL S base e w v l) (hu : SLe (avoid S v) w u m)
  (n : Nat) (hn : l.length + m.length = n) (lm : List α) (hlm : l ++ m = lm) (h63 : n ≤ maxLen) (hbytes : n * bytes ≤ 140737488355328) (hbase : base ≤ w.heap.size)
  (h : ∀ p c w', OwnL S base e w' (.slice p n c) lm → w.grownBy w' v.ownBlock → (∀ k, (Value.slice p n c).ownBlock = some k → v.ownBlock = some k ∨ w.heap.size ≤ k) → wpList P ops Q rest (a.put o.dst (.slice p n c)) w') : wpList P ops Q (o :: rest) a w :=
 wpList_plain hgd fun _ hK => wp_append_F ei s x ho hs hx hown hu n hn lm hlm h63 hbytes hbase fun p c w' h2 h3 h4 => hK _ _ (h p c w' h2 h3 h4)
end
end Go.BT
namespace Go.Proofs.YtgpiieogiafdoaaGreat
set_option linter.unusedSimpArgs false
set_option linter.unusedVariables false
open Go.RowKit Go.BT
structure Play (X : Nat → Prop) (n0 : Nat) (w : World) (gp : Nat) (h : House) (W : Wd) (c0 c1 c2 c3 c4 vb vm : Value) : Prop where
 bx : Bx w gp [c0, c1, c2, c3, c4, vb, vm] 111
 low : n0 ≤ gp
 house : Rep.rep (fun j => n0 ≤ j) w [c0, c1, c2, c3, c4] h
 books : OwnL (fun j => (X j ∨ j < n0) ∨ j = gp ∨ vm.ownBlock = some j) n0 77 w vb W.books
 msgs : OwnL (fun j => (X j ∨ j < n0) ∨ j = gp ∨ vb.ownBlock = some j) n0 86 w vm W.msgs
 xlow : ∀ j, X j → n0 ≤ j
 gx : ¬ X gp
 bxx : ∀ k, vb.ownBlock = some k → ¬ X k ∧ k ≠ gp
 mxx : ∀ k, vm.ownBlock = some k → ¬ X k ∧ k ≠ gp
section
variable {X Y : Nat → Prop} {n0 : Nat} {w w' : World} {gp : Nat} {h : House} {W : Wd} {c0 c1 c2 c3 c4 vb vm : Value}
theorem Play.keep (P : Play X n0 w gp h W c0 c1 c2 c3 c4 vb vm) (hk : Keeps X w w') : Play X n0 w' gp h W c0 c1 c2 c3 c4 vb vm :=
  { bx := P.bx.keep hk P.gx, low := P.low, house := Rep.keep (hk.mono fun j _ hj => P.xlow j hj) P.house,
    books := P.books.kept (hk.mono fun j _ hj => .inl (.inl hj)) fun g hg => hk.2 g (P.books.lt g hg).2 (P.bxx g hg).1,
    msgs := P.msgs.kept (hk.mono fun j _ hj => .inl (.inl hj)) fun g hg => hk.2 g (P.msgs.lt g hg).2 (P.mxx g hg).1,
    xlow := P.xlow, gx := P.gx, bxx := P.bxx, mxx := P.mxx }
theorem Play.step (P : Play X n0 w gp h W c0 c1 c2 c3 c4 vb vm) (hs : Step w w') : Play X n0 w' gp h W c0 c1 c2 c3 c4 vb vm := P.keep (.of_step hs)
theorem Play.more (P : Play X n0 w gp h W c0 c1 c2 c3 c4 vb vm) (hy : ∀ j, j < w.heap.size → Y j → X j) (hl : ∀ j, Y j → n0 ≤ j) : Play Y n0 w gp h W c0 c1 c2 c3 c4 vb vm :=
  { bx := P.bx, low := P.low, house := P.house,
    books := P.books.weak fun j hj hs => hs.elim (fun a => .inl (a.elim (fun a => .inl (hy j hj a)) .inr)) .inr,
    msgs := P.msgs.weak fun j hj hs => hs.elim (fun a => .inl (a.elim (fun a => .inl (hy j hj a)) .inr)) .inr,
    xlow := hl, gx := fun a => P.gx (hy _ P.bx.lt a), bxx := fun k hk => ⟨fun a => (P.bxx k hk).1 (hy _ (P.books.lt k hk).2 a), (P.bxx k hk).2⟩,
    mxx := fun k hk => ⟨fun a => (P.mxx k hk).1 (hy _ (P.msgs.lt k hk).2 a), (P.mxx k hk).2⟩ }
theorem Play.apart (P : Play X n0 w gp h W c0 c1 c2 c3 c4 vb vm) : ∀ k, vb.ownBlock = some k → vm.ownBlock ≠ some k := by
 obtain ⟨_, h1, _⟩ := P.books
 obtain ⟨_, h2, _⟩ := P.msgs
 exact apart_rows h1 h2 (by decide)
theorem DeskQ.of {base : Nat} {g : Nat} {b : Book} (hD : DeskE base w g h b) (hb : base ≤ w.heap.size) (hs : StepX (fun j => j < base) w w') : DeskQ base w' g h b := by
 obtain ⟨W0, hW0⟩ : ∃ W0 : World, W0 = { w' with heap := w.heap.extract 0 base ++ w'.heap.extract base w'.heap.size } := ⟨_, rfl⟩
 have hsz := hs.size
 have e1 : W0.heap.size = w'.heap.size := by subst hW0; simp; omega
 have e2 : ∀ j, base ≤ j → W0.heap[j]? = w'.heap[j]? := by
  intro j hj
  subst hW0
  simp only [Array.getElem?_append, Array.size_extract]
  have hm : min base w.heap.size - 0 = base := by omega
  rw [hm, if_neg (by omega)]
  by_cases hlt : j < w'.heap.size
  ·rw [Array.getElem?_extract_of_lt (by omega), Array.getElem?_eq_getElem hlt]
   simp only [Nat.add_sub_cancel' hj]
  ·rw [Array.getElem?_eq_none (by simp; omega), Array.getElem?_eq_none (by omega)]
 have e3 : ∀ j, j < base → W0.heap[j]? = w.heap[j]? := by
  intro j hj
  subst hW0
  simp only [Array.getElem?_append, Array.size_extract]
  have hm : min base w.heap.size - 0 = base := by omega
  rw [hm, if_pos (by omega), Array.getElem?_extract_of_lt (by omega), Array.getElem?_eq_getElem (show j < w.heap.size by omega)]
  simp only [Nat.zero_add]
 refine ⟨W0, ?_, by omega, fun j hj => (e2 j hj).symm⟩
 have hS : Step w W0 := ⟨by subst hW0; exact hs.os, by subst hW0; exact hs.tape, by subst hW0; exact hs.output, by omega, fun j hj _ => by
  rcases Nat.lt_or_ge j base with a | a
  ·exact e3 j a
  ·rw [e2 j a]; exact hs.block j hj (by omega)⟩
 obtain ⟨d0, d1, d2, d3, d4, vs, vo, vt, xs, D⟩ := hD
 exact ⟨_, _, _, _, _, _, _, _, _, D.step hS⟩
end
end Go.Proofs.YtgpiieogiafdoaaGreat
namespace Go.Proofs.YtgpiieogiafdoaaGreat
set_option linter.unusedSimpArgs false
set_option linter.unusedVariables false
open Go.RowKit Go.BT
theorem infoMess : (Tryz.prog.info? 86).map (fun i => (i.zero, i.size, i.bytes)) = some (some (.agg #[.int .i64 0, .int .i64 0, .int .i64 0, .int .i64 0, .slice none 0 0]), 5, 56) := by kernel_rfl
theorem eiMess : EI Tryz.prog 32 86 (.agg #[.int .i64 0, .int .i64 0, .int .i64 0, .int .i64 0, .slice none 0 0]) 5 56 := .mk' Tryz.underlying32 infoMess rfl
theorem DoEnds.before {base : Nat} {C : Nat → Prop} {g : Nat} {h : House} {r : Except Int Book} {Z : World → Prop} {e : Ending} {W W1 W' : World} (hS : Step W W1) (hh : DoEnds base C g h r Z e W1 W') : DoEnds base C g h r Z e W W' := by
 cases r with
 | ok b' => exact ⟨hh.1, hh.2.1, hh.2.2.1, (StepX.of hS).trans hh.2.2.2⟩
 | error c => exact ⟨hh.1, (StepX.of hS).trans hh.2⟩
theorem DeskE.step {base : Nat} {w w' : World} {g : Nat} {h : House} {b : Book} (hD : DeskE base w g h b) (hs : Step w w') : DeskE base w' g h b := by
 obtain ⟨c0, c1, c2, c3, c4, vs, vo, vt, xs, D⟩ := hD
 exact ⟨_, _, _, _, _, _, _, _, _, D.step hs⟩
end Go.Proofs.YtgpiieogiafdoaaGreat
