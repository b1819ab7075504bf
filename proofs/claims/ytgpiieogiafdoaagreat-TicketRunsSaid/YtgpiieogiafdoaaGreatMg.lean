/- Walks and plain laws, part g. -/
import Derived.Test.YtgpiieogiafdoaaGreatMa
import Derived.Test.YtgpiieogiafdoaaGreatMc
import Derived.Test.YtgpiieogiafdoaaGreatMd
import Derived.Test.YtgpiieogiafdoaaGreatMe
import Derived.Test.YtgpiieogiafdoaaGreatMf
import Derived.BigQuiet
import Derived.Deep.AppendLies
import Derived.Deep.DeepCutAuto
import Derived.Deep.QuietTactic
import Derived.Deep.RegionHeld3
import Derived.Lib.Hide
import Derived.WalkKit
import Derived.WalkLawsBesides
import Derived.WalkSmall
namespace Go.BT.Mk
open Go.BT
open Go.RowKit
inductive Kd where
 | silent | chain | alloc (T : TypeId) (z : Value) | make (T : TypeId) (n : Nat) (xs : Array Value) | pure
def madeV (z : Value) (g : Nat) : Value := match z with
 | .tuple xs => .slice (some ⟨g, 0, none⟩) xs.size xs.size
 | _ => .pointer (some ⟨g, 0, none⟩)
def madeC (z : Value) : Array Value := match z with
 | .tuple xs => xs
 | z => z.cells
def isTup (z : Value) : Bool := match z with
 | .tuple _ => true
 | _ => false
def Makes (P : Program) (ops : Array Oper) (i : Nat) (T : TypeId) (z : Value) : Prop := match z with
 | .tuple xs => ∃ o, ops[i]? = some o ∧ ∀ (a : Act) (w : World), (execOp a.eval o).run P w = .ok (.value (.slice (some ⟨w.heap.size, 0, none⟩) xs.size xs.size)) (w.alloc (.cells xs T))
 | z => (P.info? T).bind (·.zero) = some z
def MakesAt (P : Program) (ops : Array Oper) (i : Nat) (T : TypeId) (n : Nat) (xs : Array Value) (a : Act) : Prop :=
 ∃ o, ops[i]? = some o ∧ Region.wanted o (yielded ops a.tmps) = true ∧ ∀ w : World, (execOp a.eval o).run P w = .ok (.value (.slice (some ⟨w.heap.size, 0, none⟩) n n)) (w.alloc (.cells xs T))
def QF : Exit → Act → World → Prop := fun _ _ _ => False
abbrev Cont := (Nat → Prop) → Act → World → Prop
def ContMono (X : Nat → Prop) (K : Cont) : Prop := ∀ (N N' : Nat → Prop) a w w', (∀ g, N' g → N g) → StepX X w w' → K N a w → K N' a w'
section
variable (P : Program) (ops : Array Oper) (X : Nat → Prop) (base : Nat) (kd : Nat → Kd)
def go (i : Nat) (K : Cont) : Cont := fun N a w =>
 match kd i with
 | .silent => ∃ o v, ops[i]? = some o ∧ YieldsIf P ops (StepX X w) o v a ∧ K N (a.put o.dst v) w
 | .chain => ∀ W, StepX X w W → wpOp P ops QF i (fun a' w' => StepX X W w' ∧ K (fun g => N g ∧ (g < W.heap.size ∨ w'.heap.size ≤ g)) a' w') a W
 | .alloc T z => ∀ W g, StepX X w W → W.heap[g]? = some (.cells (madeC z) T (0, 0)) → base ≤ g → N g → K (fun x => N x ∧ x ≠ g) (a.put ((ops[i]?).bind (·.dst)) (madeV z g)) W
 | .make T n xs => MakesAt P ops i T n xs a ∧ ∀ W g, StepX X w W → W.heap[g]? = some (.cells xs T (0, 0)) → base ≤ g → N g → K (fun x => N x ∧ x ≠ g) (a.put ((ops[i]?).bind (·.dst)) (.slice (some ⟨g, 0, none⟩) n n)) W
 | .pure => ∃ o v, ops[i]? = some o ∧ YieldsIf P ops (fun _ => True) o v a ∧ K N (a.put o.dst v) w
def run (l : List Nat) (K : Cont) : Cont := l.foldr (fun i K => go P ops X base kd i K) K
variable {P ops X base kd}
theorem YieldsIf.step {o : Oper} {v : Value} {a : Act} {w w' : World} (h : YieldsIf P ops (StepX X w) o v a) (hs : StepX X w w') : YieldsIf P ops (StepX X w') o v a :=
 h.imp (fun ⟨hw, hv⟩ => ⟨hw, fun W hW => hv W (hs.trans hW)⟩) id
theorem go_cong {i : Nat} {K K' : Cont} (h : ∀ N a w, K N a w → K' N a w) {N : Nat → Prop} {a : Act} {w : World} (hg : go P ops X base kd i K N a w) : go P ops X base kd i K' N a w := by
 unfold go at *
 split at hg
 ·obtain ⟨o, v, ho, hy, hk⟩ := hg; exact ⟨o, v, ho, hy, h _ _ _ hk⟩
 ·exact fun W hW => wpOp_mono (fun a' w' ⟨hs, hk⟩ => ⟨hs, h _ _ _ hk⟩) (hg W hW)
 ·exact fun W g h1 h2 h3 h4 => h _ _ _ (hg W g h1 h2 h3 h4)
 ·exact ⟨hg.1, fun W g h1 h2 h3 h4 => h _ _ _ (hg.2 W g h1 h2 h3 h4)⟩
 ·obtain ⟨o, v, ho, hy, hk⟩ := hg; exact ⟨o, v, ho, hy, h _ _ _ hk⟩
theorem go_mono {i : Nat} {K : Cont} (hK : ContMono X K) : ContMono X (go P ops X base kd i K) := by
 intro N N' a w w' hN hs hg
 unfold go at *
 split at hg
 ·obtain ⟨o, v, ho, hy, hk⟩ := hg; exact ⟨o, v, ho, YieldsIf.step hy hs, hK _ _ _ _ _ hN hs hk⟩
 ·exact fun W hW => wpOp_mono (fun a' w' ⟨hs', hk⟩ => ⟨hs', hK _ _ _ _ _ (fun g ⟨h1, h2⟩ => ⟨hN g h1, h2⟩) (StepX.refl _ _) hk⟩) (hg W (hs.trans hW))
 ·exact fun W g h1 h2 h3 h4 => hK _ _ _ _ _ (fun x ⟨h5, h6⟩ => ⟨hN x h5, h6⟩) (StepX.refl _ _) (hg W g (hs.trans h1) h2 h3 (hN g h4))
 ·exact ⟨hg.1, fun W g h1 h2 h3 h4 => hK _ _ _ _ _ (fun x ⟨h5, h6⟩ => ⟨hN x h5, h6⟩) (StepX.refl _ _) (hg.2 W g (hs.trans h1) h2 h3 (hN g h4))⟩
 ·obtain ⟨o, v, ho, hy, hk⟩ := hg; exact ⟨o, v, ho, hy, hK _ _ _ _ _ hN hs hk⟩
theorem run_mono {K : Cont} (hK : ContMono X K) : ∀ l, ContMono X (run P ops X base kd l K)
 | [] => hK
 | _ :: l => go_mono (run_mono hK l)
theorem wpOp_under {j : Nat} {oj : Oper} {dst : Option Tmp} {v : Value} (hj : ops[j]? = some oj) (h1 : ∀ d, dst = some d → d ∉ oj.looksAt ops) (h2 : ∀ d, dst = some d → oj.dst ≠ some d)
  (hsj : ∀ cs b, oj.op ≠ .select cs b) {K : Act → World → Prop} {a : Act} {w : World} (h : wpOp P ops QF j K a w) :
  wpOp P ops QF j (fun a' w' => ∃ a0, a' = a0.put dst v ∧ K a0 w') (a.put dst v) w := by
 unfold wpOp at *
 simp only [hj] at *
 rw [wanted_put oj a dst v h1]
 split
 ·rename_i hw
  simp only [hw, if_true] at h
  rcases h with h | ⟨_, a0, w0, hF⟩
  case inr => exact hF.elim
  refine .inl ?_
  unfold Oper.wp at *
  rw [execOp_put oj hsj a dst v h1]
  generalize (execOp a.eval oj).run P w = r at *
  cases r with
  | ok n w' =>
   cases n <;> simp only [Oper.upon] at h ⊢
   case value u => exact ⟨_, (Act.put_comm a v u h2), h⟩
   case skip => exact ⟨_, (Act.put_comm a v undef h2), h⟩
   case defer d => exact ⟨_, (by rw [← Act.put_comm _ v undef h2]; cases dst <;> rfl), h⟩
   case enter f args =>
    refine Calls.mono h fun e w'' he => ?_
    cases e with
    | returned u => exact ⟨_, (Act.put_comm a v u h2), he⟩
    | panicked c => exact he.elim
    | outgrown => exact he
   case row row args => exact Rows.mono h fun u w'' he => ⟨_, (Act.put_comm a v u h2), he⟩
  | halt x w' =>
   cases x <;> simp only [Oper.upon] at h ⊢
   case panic u => exact h.elim
 ·rename_i hw
  simp only [hw] at h
  exact ⟨_, (Act.put_comm a v undef h2), h⟩
theorem calls_ex {f : FuncId} {args : Array Value} {w : World} {R : Ending → World → Prop} (h : Calls P f args w R) : ∃ e w', R e w' := by
 obtain ⟨e, w', _, hR, _⟩ := h []
 exact ⟨e, w', hR⟩
theorem wpOp_pure {i : Nat} {oi : Oper} (hi : ops[i]? = some oi) {Φ : Act → Prop} (hΦ : ∀ a v, Φ (a.put oi.dst v) → Φ a) (hD : ∀ (a : Act) (d : Deferred), Φ { a with defers := d :: a.defers } → Φ a) {K : Act → World → Prop} {a : Act} {w : World} (h : wpOp P ops QF i K a w) (hK : ∀ a' w', K a' w' → Φ a') : Φ a := by
 unfold wpOp at h
 simp only [hi] at h
 split at h
 ·rcases h with h | ⟨_, a0, w0, hF⟩
  case inr => exact hF.elim
  unfold Oper.wp at h
  generalize (execOp a.eval oi).run P w = r at h
  cases r with
  | ok n w' =>
   cases n <;> simp only [Oper.upon] at h
   case value u => exact hΦ a u (hK _ _ h)
   case skip => exact hΦ a undef (hK _ _ h)
   case defer d => exact hD a d (hΦ _ undef (hK _ _ h))
   case enter f args =>
    obtain ⟨e, w'', he⟩ := calls_ex h
    cases e with
    | returned u => exact hΦ a u (hK _ _ he)
    | panicked c => exact he.elim
    | outgrown => obtain ⟨_, _, hF⟩ := he; exact hF.elim
   case row row args =>
    obtain ⟨u, w'', he, _⟩ := h (Frame.enter P 0 #[] .normal) []
    exact hΦ a u (hK _ _ he)
   all_goals exact h.elim
  | halt x w' => cases x <;> simp only [Oper.upon] at h <;> exact h.elim
 ·exact hΦ a undef (hK _ _ h)
theorem wpOp_keep {i : Nat} {oi : Oper} (hi : ops[i]? = some oi) {Φ : Act → Prop} (hΦ : ∀ a v, Φ a → Φ (a.put oi.dst v)) (hD : ∀ (a : Act) (d : Deferred), Φ a → Φ { a with defers := d :: a.defers }) {K : Act → World → Prop} {a : Act} {w : World} (h : wpOp P ops QF i K a w) (ha : Φ a) : wpOp P ops QF i (fun a' w' => K a' w' ∧ Φ a') a w := by
 unfold wpOp at *
 simp only [hi] at *
 split
 ·rename_i hw
  simp only [hw, if_true] at h
  rcases h with h | ⟨_, a0, w0, hF⟩
  case inr => exact hF.elim
  refine .inl ?_
  unfold Oper.wp at *
  generalize (execOp a.eval oi).run P w = r at *
  cases r with
  | ok n w' =>
   cases n <;> simp only [Oper.upon] at h ⊢
   case value u => exact ⟨h, hΦ _ _ ha⟩
   case skip => exact ⟨h, hΦ _ _ ha⟩
   case defer d => exact ⟨h, hΦ _ _ (hD _ _ ha)⟩
   case enter f args =>
    refine Calls.mono h fun e w'' he => ?_
    cases e with
    | returned u => exact ⟨he, hΦ _ _ ha⟩
    | panicked c => exact he.elim
    | outgrown => exact he
   case row row args => exact Rows.mono h fun u w'' he => ⟨he, hΦ _ _ ha⟩
  | halt x w' =>
   cases x <;> simp only [Oper.upon] at h ⊢
   case panic u => exact h.elim
 ·rename_i hw
  simp only [hw] at h
  exact ⟨h, hΦ _ _ ha⟩
theorem YieldsIf.same {o : Oper} {v v' : Value} {a : Act} (h : YieldsIf P ops (fun _ => True) o v a) (h' : YieldsIf P ops (fun _ => True) o v' a) (w : World) : v = v' := by
 rcases h with ⟨h1, h2⟩ | ⟨h1, h2⟩ <;> rcases h' with ⟨k1, k2⟩ | ⟨k1, k2⟩
 ·have e := (h2 w trivial).symm.trans (k2 w trivial)
  injection e with e
  injection e
 ·rw [h1] at k1; cases k1
 ·rw [h1] at k1; cases k1
 ·rw [h2, k2]
def swaps : Kd → Kd → Bool
 | .silent, _ => true
 | .pure, _ => true
 | .chain, .pure => true
 | .chain, .alloc _ _ => true
 | .alloc _ _, .alloc _ _ => true
 | .chain, .make _ _ _ => true
 | .make _ _ _, .alloc _ _ => true
 | _, _ => false
theorem exch {i j : Nat} {oi oj : Oper} (hi : ops[i]? = some oi) (hj : ops[j]? = some oj) (hap : oi.apart ops oj = true)
  (hsi : ∀ cs b, oi.op ≠ .select cs b) (hsj : ∀ cs b, oj.op ≠ .select cs b) (hsw : swaps (kd i) (kd j) = true) (hX : ∀ j, X j → j < base) {K : Cont} (hK : ContMono X K) {N : Nat → Prop} {a : Act} {w : World}
  (h : go P ops X base kd i (go P ops X base kd j K) N a w) : go P ops X base kd j (go P ops X base kd i K) N a w := by
 obtain ⟨h1, h2, h3⟩ := Oper.apart_spec hap
 have keepI : ∀ {S : World → Prop} {v : Value} {a : Act} (u : Value), YieldsIf P ops S oi v a → YieldsIf P ops S oi v (a.put oj.dst u) := fun {S v a} u hy =>
  hy.of_same (execOp_put oi hsi a oj.dst u h3) (wanted_put oi a oj.dst u h3)
 have backJ : ∀ {S : World → Prop} {v u : Value} {a : Act}, YieldsIf P ops S oj v (a.put oi.dst u) → YieldsIf P ops S oj v a := fun {S v u a} hy =>
  hy.of_same (execOp_put oj hsj a oi.dst u h1).symm (wanted_put oj a oi.dst u h1).symm
 have hdi : (ops[i]?).bind (·.dst) = oi.dst := by rw [hi]; rfl
 have hdj : (ops[j]?).bind (·.dst) = oj.dst := by rw [hj]; rfl
 have hsome : ∀ {w w' : World} {g : Nat} {o : Obj}, StepX X w w' → base ≤ g → w.heap[g]? = some o → w'.heap[g]? = some o := fun {w w' g o} hs hb hg => by
  rw [hs.block g (Array.getElem?_eq_some_iff.1 hg).1 (fun hx => by have := hX g hx; omega)]; exact hg
 have makesBack : ∀ {T : TypeId} {n : Nat} {xs : Array Value} {a : Act} {v : Value}, MakesAt P ops j T n xs (a.put oi.dst v) → MakesAt P ops j T n xs a := fun {T n xs a v} ⟨o, ho, hg, hr⟩ => by
  obtain rfl : oj = o := by rw [hj] at ho; exact Option.some.inj ho
  exact ⟨oj, hj, by rw [← wanted_put oj a oi.dst v h1]; exact hg, fun w => by rw [← execOp_put oj hsj a oi.dst v h1]; exact hr w⟩
 have makesKeep : ∀ {T : TypeId} {n : Nat} {xs : Array Value} {a : Act} {v : Value}, MakesAt P ops i T n xs a → MakesAt P ops i T n xs (a.put oj.dst v) := fun {T n xs a v} ⟨o, ho, hg, hr⟩ => by
  obtain rfl : oi = o := by rw [hi] at ho; exact Option.some.inj ho
  exact ⟨oi, hi, by rw [wanted_put oi a oj.dst v h3]; exact hg, fun w => by rw [execOp_put oi hsi a oj.dst v h3]; exact hr w⟩
 cases hki : kd i with
 | make T n xs =>
  cases hkj : kd j with
  | silent => simp [hki, hkj, swaps] at hsw
  | chain => simp [hki, hkj, swaps] at hsw
  | make T' n' xs' => simp [hki, hkj, swaps] at hsw
  | pure => simp [hki, hkj, swaps] at hsw
  | alloc T' z' =>
   simp only [go, hki, hkj] at h ⊢
   intro W' g' hs' hb' hg' hN'
   refine ⟨by rw [hdj]; exact makesKeep h.1, ?_⟩
   intro W g hs hb hg ⟨hN, hne⟩
   have h := h.2
   rw [hdi, hdj] at *
   rw [← Act.put_comm a _ _ h2]
   exact hK _ _ _ _ _ (fun x ⟨⟨q1, q2⟩, q3⟩ => ⟨⟨q1, q3⟩, q2⟩) (StepX.refl _ _) (h W g (hs'.trans hs) hb hg hN W g' (StepX.refl _ _) (hsome hs hg' hb') hg' ⟨hN', fun e => hne e.symm⟩)
 | silent =>
  cases hkj : kd j with
  | make T n xs =>
   simp only [go, hki, hkj] at h ⊢
   obtain ⟨o, v, ho, hy, hm, hk⟩ := h
   obtain rfl : oi = o := by rw [hi] at ho; exact Option.some.inj ho
   refine ⟨makesBack hm, fun W g hs hb hg hN => ⟨_, v, hi, ?_, ?_⟩⟩
   ·rw [hdj]; exact keepI _ (YieldsIf.step hy hs)
   ·rw [hdj, ← Act.put_comm a v _ h2, ← hdj]
    exact hk W g hs hb hg hN
  | silent =>
   simp only [go, hki, hkj] at h ⊢
   obtain ⟨o, v, ho, hy, o', v', ho', hy', hk⟩ := h
   obtain rfl : oi = o := by rw [hi] at ho; exact Option.some.inj ho
   obtain rfl : oj = o' := by rw [hj] at ho'; exact Option.some.inj ho'
   exact ⟨_, v', hj, backJ hy', _, v, hi, keepI _ hy, by rw [← Act.put_comm a v v' h2]; exact hk⟩
  | chain =>
   simp only [go, hki, hkj] at h ⊢
   obtain ⟨o, v, ho, hy, hk⟩ := h
   obtain rfl : oi = o := by rw [hi] at ho; exact Option.some.inj ho
   intro W hW
   refine wpOp_mono (fun a' w' hh => ?_) (wpOp_putIf (S := StepX X w) hj hap hsi hsj (fun _ _ _ hq => hq) hy (hk W hW))
   obtain ⟨hy', hs, hk'⟩ := hh
   exact ⟨hs, _, v, hi, YieldsIf.step hy' (hW.trans hs), hk'⟩
  | alloc T z =>
   simp only [go, hki, hkj] at h ⊢
   obtain ⟨o, v, ho, hy, hk⟩ := h
   obtain rfl : oi = o := by rw [hi] at ho; exact Option.some.inj ho
   refine fun W g hs hb hg hN => ⟨_, v, hi, ?_, ?_⟩
   ·rw [hdj]; exact keepI _ (YieldsIf.step hy hs)
   ·rw [hdj, ← Act.put_comm a v _ h2, ← hdj]
    exact hk W g hs hb hg hN
  | pure =>
   simp only [go, hki, hkj] at h ⊢
   obtain ⟨o, v, ho, hy, o', v', ho', hy', hk⟩ := h
   obtain rfl : oi = o := by rw [hi] at ho; exact Option.some.inj ho
   obtain rfl : oj = o' := by rw [hj] at ho'; exact Option.some.inj ho'
   exact ⟨_, v', hj, backJ hy', _, v, hi, keepI _ hy, by rw [← Act.put_comm a v v' h2]; exact hk⟩
 | pure =>
  cases hkj : kd j with
  | make T n xs =>
   simp only [go, hki, hkj] at h ⊢
   obtain ⟨o, v, ho, hy, hm, hk⟩ := h
   obtain rfl : oi = o := by rw [hi] at ho; exact Option.some.inj ho
   refine ⟨makesBack hm, fun W g hs hb hg hN => ⟨_, v, hi, ?_, ?_⟩⟩
   ·rw [hdj]; exact keepI _ hy
   ·rw [hdj, ← Act.put_comm a v _ h2, ← hdj]
    exact hk W g hs hb hg hN
  | silent =>
   simp only [go, hki, hkj] at h ⊢
   obtain ⟨o, v, ho, hy, o', v', ho', hy', hk⟩ := h
   obtain rfl : oi = o := by rw [hi] at ho; exact Option.some.inj ho
   obtain rfl : oj = o' := by rw [hj] at ho'; exact Option.some.inj ho'
   exact ⟨_, v', hj, backJ hy', _, v, hi, keepI _ hy, by rw [← Act.put_comm a v v' h2]; exact hk⟩
  | chain =>
   simp only [go, hki, hkj] at h ⊢
   obtain ⟨o, v, ho, hy, hk⟩ := h
   obtain rfl : oi = o := by rw [hi] at ho; exact Option.some.inj ho
   intro W hW
   refine wpOp_mono (fun a' w' hh => ?_) (wpOp_putIf (S := fun _ => True) hj hap hsi hsj (fun _ _ _ hq => hq) hy (hk W hW))
   obtain ⟨hy', hs, hk'⟩ := hh
   exact ⟨hs, _, v, hi, hy', hk'⟩
  | alloc T z =>
   simp only [go, hki, hkj] at h ⊢
   obtain ⟨o, v, ho, hy, hk⟩ := h
   obtain rfl : oi = o := by rw [hi] at ho; exact Option.some.inj ho
   refine fun W g hs hb hg hN => ⟨_, v, hi, ?_, ?_⟩
   ·rw [hdj]; exact keepI _ hy
   ·rw [hdj, ← Act.put_comm a v _ h2, ← hdj]
    exact hk W g hs hb hg hN
  | pure =>
   simp only [go, hki, hkj] at h ⊢
   obtain ⟨o, v, ho, hy, o', v', ho', hy', hk⟩ := h
   obtain rfl : oi = o := by rw [hi] at ho; exact Option.some.inj ho
   obtain rfl : oj = o' := by rw [hj] at ho'; exact Option.some.inj ho'
   exact ⟨_, v', hj, backJ hy', _, v, hi, keepI _ hy, by rw [← Act.put_comm a v v' h2]; exact hk⟩
 | chain =>
  cases hkj : kd j with
  | silent => simp [hki, hkj, swaps] at hsw
  | chain => simp [hki, hkj, swaps] at hsw
  | pure =>
   simp only [go, hki, hkj] at h ⊢
   obtain ⟨v, hv⟩ : ∃ v, YieldsIf P ops (fun _ => True) oj v a := wpOp_pure hi (Φ := fun a => ∃ v, YieldsIf P ops (fun _ => True) oj v a) (fun a u ⟨v, hm⟩ => ⟨v, backJ hm⟩) (fun a d ⟨v, hm⟩ => ⟨v, hm.of_same rfl rfl⟩) (h w (StepX.refl _ _)) (fun a' w' hh => by
    obtain ⟨_, o, v, ho, hy, _⟩ := hh
    obtain rfl : oj = o := by rw [hj] at ho; exact Option.some.inj ho
    exact ⟨v, hy⟩)
   refine ⟨_, v, hj, hv, fun W hW => ?_⟩
   have hkeep := wpOp_keep hi (Φ := fun a => YieldsIf P ops (fun _ => True) oj v a) (fun a u hm => hm.of_same (execOp_put oj hsj a oi.dst u h1) (wanted_put oj a oi.dst u h1)) (fun a d hm => hm.of_same rfl rfl) (h W hW) hv
   refine wpOp_mono (fun a' w' hh => ?_) (wpOp_under (dst := oj.dst) (v := v) hi h3 (fun d hd he => h2 d he hd) hsi hkeep)
   obtain ⟨a0, rfl, ⟨hs, o, v', ho, hy, hk⟩, hv0⟩ := hh
   obtain rfl : oj = o := by rw [hj] at ho; exact Option.some.inj ho
   obtain rfl := YieldsIf.same hv0 hy w'
   exact ⟨hs, hk⟩
  | make T n xs =>
   simp only [go, hki, hkj] at h ⊢
   have hmk : MakesAt P ops j T n xs a := wpOp_pure hi (Φ := MakesAt P ops j T n xs) (fun a v hm => makesBack hm) (fun a d hm => hm) (h w (StepX.refl _ _)) (fun a' w' hh => hh.2.1)
   refine ⟨hmk, ?_⟩
   intro W0 g hs0 hb hg hN W hW
   refine wpOp_mono (fun a' w' hh => ?_) (wpOp_under (dst := (ops[j]?).bind (·.dst)) (v := .slice (some ⟨g, 0, none⟩) n n) hi (by rw [hdj]; exact h3) (by rw [hdj]; exact fun d hd he => h2 d he hd) hsi (h W (hs0.trans hW)))
   obtain ⟨a0, rfl, hs, hk⟩ := hh
   have hlt : g < W.heap.size := Nat.lt_of_lt_of_le (Array.getElem?_eq_some_iff.1 hb).1 hW.size
   exact ⟨hs, hK _ _ _ _ _ (fun x ⟨⟨q1, q2⟩, q3⟩ => ⟨⟨q1, q3⟩, q2⟩) (StepX.refl _ _) (hk.2 w' g (StepX.refl _ _) (hsome (hW.trans hs) hg hb) hg ⟨hN, .inl hlt⟩)⟩
  | alloc T z =>
   simp only [go, hki, hkj] at h ⊢
   intro W0 g hs0 hb hg hN W hW
   refine wpOp_mono (fun a' w' hh => ?_) (wpOp_under (dst := (ops[j]?).bind (·.dst)) (v := madeV z g) hi (by rw [hdj]; exact h3) (by rw [hdj]; exact fun d hd he => h2 d he hd) hsi (h W (hs0.trans hW)))
   obtain ⟨a0, rfl, hs, hk⟩ := hh
   have hlt : g < W.heap.size := Nat.lt_of_lt_of_le (Array.getElem?_eq_some_iff.1 hb).1 hW.size
   exact ⟨hs, hK _ _ _ _ _ (fun x ⟨⟨q1, q2⟩, q3⟩ => ⟨⟨q1, q3⟩, q2⟩) (StepX.refl _ _) (hk w' g (StepX.refl _ _) (hsome (hW.trans hs) hg hb) hg ⟨hN, .inl hlt⟩)⟩
 | alloc T z =>
  cases hkj : kd j with
  | silent => simp [hki, hkj, swaps] at hsw
  | chain => simp [hki, hkj, swaps] at hsw
  | make T' n' xs' => simp [hki, hkj, swaps] at hsw
  | pure => simp [hki, hkj, swaps] at hsw
  | alloc T' z' =>
   simp only [go, hki, hkj] at h ⊢
   intro W' g' hs' hb' hg' hN' W g hs hb hg ⟨hN, hne⟩
   rw [hdi, hdj] at *
   rw [← Act.put_comm a _ _ h2]
   exact hK _ _ _ _ _ (fun x ⟨⟨q1, q2⟩, q3⟩ => ⟨⟨q1, q3⟩, q2⟩) (StepX.refl _ _) (h W g (hs'.trans hs) hb hg hN W g' (StepX.refl _ _) (hsome hs hg' hb') hg' ⟨hN', fun e => hne e.symm⟩)
def bitsOf (tab : List Nat) (j : Nat) (l : List Edge) : Nat := l.foldl (fun acc e => if Region.binds .any e && decide (e.on < j) then acc ||| (2 ^ e.on ||| tab.getD e.on 0) else acc) 0
def okTab (tab : List Nat) (ops : Array Oper) : Bool := (List.range ops.size).all fun j => match ops[j]? with
 | none => true
 | some o => tab.getD j 0 == bitsOf tab j o.after.toList
def ancB (tab : List Nat) (i j : Nat) : Bool := (tab.getD j 0).testBit i
theorem bits_of {tab : List Nat} {j i : Nat} : ∀ {l : List Edge} {acc : Nat}, (l.foldl (fun acc e => if Region.binds .any e && decide (e.on < j) then acc ||| (2 ^ e.on ||| tab.getD e.on 0) else acc) acc).testBit i = true →
  acc.testBit i = true ∨ ∃ e ∈ l, Region.binds .any e = true ∧ e.on < j ∧ (e.on = i ∨ ancB tab i e.on = true) := by
 intro l
 induction l with
 | nil => intro acc h; exact .inl h
 | cons x l ih =>
  intro acc h
  rw [List.foldl_cons] at h
  rcases ih h with h1 | ⟨e, he, h2⟩
  ·split at h1
   ·rename_i hx
    simp only [Bool.and_eq_true, decide_eq_true_eq] at hx
    rw [Nat.testBit_or, Nat.testBit_or, Nat.testBit_two_pow, Bool.or_eq_true, Bool.or_eq_true, decide_eq_true_eq] at h1
    rcases h1 with h1 | h1
    ·exact .inl h1
    ·exact .inr ⟨x, List.mem_cons_self, hx.1, hx.2, h1⟩
   ·exact .inl h1
  ·exact .inr ⟨e, List.mem_cons_of_mem _ he, h2⟩
def okPair (tab : List Nat) (ops : Array Oper) (kd : Nat → Kd) (i j : Nat) : Bool :=
 ancB tab i j || match ops[i]?, ops[j]? with
  | some oi, some oj => oi.apart ops oj && swaps (kd i) (kd j)
  | _, _ => false
def okList (tab : List Nat) (ops : Array Oper) (kd : Nat → Kd) : List Nat → Bool
 | [] => true
 | i :: l => l.all (okPair tab ops kd i) && okList tab ops kd l
def okTail (tab : List Nat) (before : List Nat) : List Nat → Bool
 | [] => true
 | x :: t => before.all (fun y => ancB tab y x) && okTail tab (before ++ [x]) t
def isSil : Kd → Bool
 | .silent => true
 | _ => false
def isMove (ops : Array Oper) (i : Nat) : Bool := match ops[i]? with
 | some o => (match o.op with | .move _ => true | .extract _ _ => true | _ => false)
 | none => false
def okWait (strict : Bool) (tab : List Nat) (ops : Array Oper) (kd : Nat → Kd) (y x : Nat) : Bool :=
 ancB tab y x || (!strict && isSil (kd y) && isMove ops y && match ops[y]?, ops[x]? with
  | some oy, some ox => oy.apart ops ox
  | _, _ => false)
def okDeps (ops : Array Oper) (seen : List Nat) : List Nat → Bool
 | [] => true
 | x :: l => (match ops[x]? with
  | none => false
  | some o => o.after.all fun e => !Region.binds .any e || seen.contains e.on) && okDeps ops (seen ++ [x]) l
def okAlloc (ops : Array Oper) (kd : Nat → Kd) (l : List Nat) : Bool :=
 l.all fun i => match kd i, ops[i]? with
  | .alloc T z, some o => o.guard.isNone && (isTup z || match o.op with | .alloc T' => T == T' | _ => false)
  | .alloc _ _, none => false
  | _, _ => true
def okSeq (strict : Bool) (tab : List Nat) (ops : Array Oper) (kd : Nat → Kd) (l t : List Nat) : Bool :=
 okTab tab ops && okList tab ops kd l && (l.all fun y => t.all fun x => okWait strict tab ops kd y x) && okTail tab [] t && okDeps ops [] (l ++ t) && okAlloc ops kd l && Region.noSelect ops && (List.range ops.size).all (fun i => (l ++ t).contains i) && (l ++ t).all (fun i => decide (i < ops.size)) && decide (l ++ t).Nodup
def Closed (ops : Array Oper) (listed : Array Bool) : Prop :=
 ∀ x o, ops[x]? = some o → listed.getD x true = true → ∀ e ∈ o.after, Region.binds .any e = true → listed.getD e.on false = true
theorem getD_tf' {listed : Array Bool} {i : Nat} (h : i < listed.size) (hl : listed.getD i false = true) : listed.getD i true = true := by
 simp [h] at hl ⊢; exact hl
variable {tab : List Nat}
theorem anc_listed {listed : Array Bool} (hsz : listed.size = ops.size) (hc : Closed ops listed) (ht : okTab tab ops = true) : ∀ j i o, ops[j]? = some o → (∀ e ∈ o.after, Region.binds .any e = true → listed.getD e.on false = true) →
  ancB tab i j = true → listed.getD i false = true := by
 intro j
 induction j using Nat.strongRecOn with
 | _ j ih =>
  intro i o ho hd h
  have hj : j < ops.size := (Array.getElem?_eq_some_iff.1 ho).1
  have h1 := List.all_eq_true.1 ht j (List.mem_range.2 hj)
  simp only [ho, beq_iff_eq] at h1
  unfold ancB at h
  rw [h1] at h
  rcases bits_of h with h2 | ⟨e, he, hb, hlt, h2⟩
  ·simp at h2
  ·have hl := hd e (by simpa using he) hb
   rcases h2 with rfl | h2
   ·exact hl
   ·have hej : e.on < ops.size := by omega
    exact ih e.on hlt i ops[e.on] (Array.getElem?_eq_getElem hej) (hc e.on _ (Array.getElem?_eq_getElem hej) (getD_tf' (by omega) hl)) h2
theorem bring (hX : ∀ j, X j → j < base) {K : Cont} (hK : ContMono X K) (hsel : Region.noSelect ops = true) {j : Nat} {oj : Oper} (hj : ops[j]? = some oj) : ∀ (l1 l2 : List Nat) (N : Nat → Prop) (a : Act) (w : World),
  (∀ i ∈ l1, ∃ oi, ops[i]? = some oi ∧ oi.apart ops oj = true ∧ swaps (kd i) (kd j) = true) → run P ops X base kd (l1 ++ j :: l2) K N a w → go P ops X base kd j (run P ops X base kd (l1 ++ l2) K) N a w := by
 intro l1
 induction l1 with
 | nil => intro l2 N a w _ h; exact h
 | cons i l1 ih =>
  intro l2 N a w hall h
  obtain ⟨oi, hi, hap, hsw⟩ := hall i (by simp)
  have h' : go P ops X base kd i (go P ops X base kd j (run P ops X base kd (l1 ++ l2) K)) N a w :=
   go_cong (fun N a w hh => ih l2 N a w (fun k hk => hall k (by simp [hk])) hh) h
  exact exch hi hj hap (Region.noSelect_spec hsel i oi · · hi) (Region.noSelect_spec hsel j oj · · hj) hsw hX (run_mono hK _) h'
theorem okList_drop {l1 l2 : List Nat} {j : Nat} (h : okList tab ops kd (l1 ++ j :: l2) = true) : okList tab ops kd (l1 ++ l2) = true ∧ ∀ i ∈ l1, okPair tab ops kd i j = true := by
 induction l1 with
 | nil => simp only [List.nil_append, okList, Bool.and_eq_true] at h; exact ⟨h.2, by simp⟩
 | cons i l1 ih =>
  simp only [List.cons_append, okList, Bool.and_eq_true, List.all_eq_true] at h ⊢
  obtain ⟨h1, h2⟩ := ih h.2
  refine ⟨⟨fun x hx => h.1 x ?_, h1⟩, fun x hx => ?_⟩
  ·simp only [List.mem_append, List.mem_cons] at hx ⊢; rcases hx with hx | hx <;> simp [hx]
  ·rcases List.mem_cons.1 hx with rfl | hx
   ·exact h.1 j (by simp)
   ·exact h2 x hx
def TailOk (tab : List Nat) (l t : List Nat) : Prop := ∀ t1 x t2, t = t1 ++ x :: t2 → ∀ y ∈ l ++ t1, ancB tab y x = true
def DepsOk (ops : Array Oper) (listed : Array Bool) (L : List Nat) : Prop := ∀ L1 x L2, L = L1 ++ x :: L2 → ∃ o, ops[x]? = some o ∧ ∀ e ∈ o.after, Region.binds .any e = true → listed.getD e.on false = true ∨ e.on ∈ L1
theorem tailOk_of {t : List Nat} : ∀ {b : List Nat}, okTail tab b t = true → TailOk tab b t := by
 induction t with
 | nil => intro b _ t1 x t2 h; exact absurd h (by simp)
 | cons z t ih =>
  intro b h t1 x t2 he y hy
  simp only [okTail, Bool.and_eq_true, List.all_eq_true] at h
  cases t1 with
  | nil =>
   simp only [List.nil_append, List.cons.injEq] at he
   obtain ⟨rfl, rfl⟩ := he
   exact h.1 y (by simpa using hy)
  | cons z' t1 =>
   simp only [List.cons_append, List.cons.injEq] at he
   obtain ⟨rfl, rfl⟩ := he
   exact ih h.2 t1 x t2 rfl y (by simpa using hy)
theorem depsOk_of {listed : Array Bool} {L : List Nat} : ∀ {seen : List Nat}, okDeps ops seen L = true → ∀ L1 x L2, L = L1 ++ x :: L2 → ∃ o, ops[x]? = some o ∧ ∀ e ∈ o.after, Region.binds .any e = true → listed.getD e.on false = true ∨ e.on ∈ seen ++ L1 := by
 induction L with
 | nil => intro b _ t1 x t2 h; exact absurd h (by simp)
 | cons z t ih =>
  intro b h t1 x t2 he
  simp only [okDeps, Bool.and_eq_true] at h
  cases t1 with
  | nil =>
   simp only [List.nil_append, List.cons.injEq] at he
   obtain ⟨rfl, rfl⟩ := he
   cases ho : ops[z]? with
   | none => simp [ho] at h
   | some o =>
    simp only [ho, Array.all_eq_true_iff_forall_mem, Bool.or_eq_true, Bool.not_eq_true', List.contains_iff_mem] at h
    exact ⟨o, rfl, fun e he hb => .inr (by have := (h.1 e he).resolve_left (by simp [hb]); simpa using this)⟩
  | cons z' t1 =>
   simp only [List.cons_append, List.cons.injEq] at he
   obtain ⟨rfl, rfl⟩ := he
   obtain ⟨o, ho, hh⟩ := ih h.2 t1 x t2 rfl
   exact ⟨o, ho, fun e he hb => (hh e he hb).imp id (by simp)⟩
def K0 (P : Program) (ops : Array Oper) (X : Nat → Prop) (Q : Exit → Act → World → Prop) (t : List Nat) : Cont := fun _ a w => ∀ W, StepX X w W → wpOps P ops Q t a W
theorem K0_mono {Q : Exit → Act → World → Prop} (t : List Nat) : ContMono X (K0 P ops X Q t) := fun _ _ _ _ _ _ hs h W hW => h W (hs.trans hW)
theorem wpOp_any {Q : Exit → Act → World → Prop} {i : Nat} {K : Act → World → Prop} {a : Act} {w : World} (h : wpOp P ops QF i K a w) : wpOp P ops Q i K a w := by
 unfold wpOp at *
 cases ho : ops[i]? with
 | none => simp only [ho] at h; exact h
 | some o =>
  simp only [ho] at h ⊢
  split
  ·rename_i hw
   simp only [hw, if_true] at h
   rcases h with h | ⟨_, a0, w0, hF⟩
   case inr => exact hF.elim
   refine .inl ?_
   unfold Oper.wp at *
   generalize (execOp a.eval o).run P w = r at *
   cases r with
   | ok n w' =>
    cases n <;> simp only [Oper.upon] at h ⊢ <;> first
     | exact h
     | exact Calls.mono h (fun e w'' he => by cases e <;> first | exact he | exact he.elim | (obtain ⟨_, _, hF⟩ := he; exact hF.elim))
   | halt x w' => cases x <;> simp only [Oper.upon] at h ⊢ <;> exact h.elim
  ·rename_i hw
   simp only [hw] at h
   exact h
theorem wpOp_alloc {Q : Exit → Act → World → Prop} {i : Nat} {o : Oper} {T : TypeId} {z : Value} {K : Act → World → Prop} {a : Act} {w : World} (ho : ops[i]? = some o) (hop : (isTup z || match o.op with | .alloc T' => T == T' | _ => false) = true) (hg : o.guard = none)
  (hz : Makes P ops i T z) (h : K (a.put o.dst (madeV z w.heap.size)) (w.alloc (.cells (madeC z) T))) : wpOp P ops Q i K a w := by
 unfold wpOp
 simp only [ho, Region.wanted, hg, if_true]
 refine .inl ?_
 unfold Oper.wp
 have hr : (execOp a.eval o).run P w = .ok (.value (madeV z w.heap.size)) (w.alloc (.cells (madeC z) T)) := by
  by_cases ht : ∃ xs, z = .tuple xs
  ·obtain ⟨xs, rfl⟩ := ht
   obtain ⟨o', ho', hrun⟩ := hz
   obtain rfl : o = o' := by rw [ho] at ho'; exact Option.some.inj ho'
   exact hrun _ _
  ·have h1 : isTup z = false := by cases z <;> simp [isTup] at ht ⊢
   have h2 : madeV z w.heap.size = .pointer (some ⟨w.heap.size, 0, none⟩) := by cases z <;> simp [isTup] at h1 <;> rfl
   have h3 : madeC z = z.cells := by cases z <;> simp [isTup] at h1 <;> rfl
   have h4 : (P.info? T).bind (·.zero) = some z := by cases z <;> simp [isTup] at h1 <;> exact hz
   rw [h1, Bool.false_or] at hop
   have hop' : o.op = .alloc T := by
    cases hopp : o.op <;> simp [hopp] at hop
    rw [hop]
   obtain ⟨inf, hi, hzz⟩ := Option.bind_eq_some_iff.1 h4
   rw [h2, h3]
   simp [execOp, hop', Instr.alloc, zeroValue, typeInfo, hi, hzz, newVar, newRow, newObj, Result.andThen]
   rfl
 rw [hr]
 exact h
theorem getD_tf {listed : Array Bool} {i : Nat} (h : i < listed.size) : listed.getD i true = listed.getD i false := by simp [h]
theorem getD_set {listed : Array Bool} {i j : Nat} (hi : i < listed.size) : (listed.setIfInBounds i true).getD j true = (listed.getD j true || decide (i = j)) := by
 by_cases hij : i = j
 ·subst hij; simp [hi]
 ·rw [getD_set_ne true hij]; simp [hij]
theorem depsOk_drop {listed : Array Bool} {L1 L2 : List Nat} {j : Nat} (hj : j < listed.size) (h : DepsOk ops listed (L1 ++ j :: L2)) : DepsOk ops (listed.setIfInBounds j true) (L1 ++ L2) := by
 intro M1 x M2 he
 have keep : ∀ {k}, listed.getD k false = true → (listed.setIfInBounds j true).getD k false = true := fun {k} hk => getD_set_true hk
 rcases List.append_eq_append_iff.1 he with ⟨r, h1, h2⟩ | ⟨r, h1, h2⟩
 ·-- M1 = L1 ++ r, L2 = r ++ x :: M2
  subst h1 h2
  obtain ⟨o, ho, hh⟩ := h (L1 ++ j :: r) x M2 (by simp)
  refine ⟨o, ho, fun e hee hb => ?_⟩
  rcases hh e hee hb with hl | hm
  ·exact .inl (keep hl)
  ·simp only [List.mem_append, List.mem_cons] at hm ⊢
   rcases hm with hm | rfl | hm
   ·exact .inr (.inl hm)
   ·exact .inl (by simp [hj])
   ·exact .inr (.inr hm)
 ·-- L1 = M1 ++ r, x :: M2 = r ++ L2
  cases r with
  | nil =>
   simp only [List.append_nil, List.nil_append] at h1 h2
   subst h1
   obtain ⟨o, ho, hh⟩ := h (L1 ++ [j]) x M2 (by simp [h2])
   refine ⟨o, ho, fun e hee hb => ?_⟩
   rcases hh e hee hb with hl | hm
   ·exact .inl (keep hl)
   ·simp only [List.mem_append, List.mem_singleton] at hm
    rcases hm with hm | rfl
    ·exact .inr hm
    ·exact .inl (by simp [hj])
  | cons y r =>
   simp only [List.cons_append, List.cons.injEq] at h2
   obtain ⟨rfl, rfl⟩ := h2
   subst h1
   obtain ⟨o, ho, hh⟩ := h M1 x (r ++ j :: L2) (by simp)
   exact ⟨o, ho, fun e hee hb => (hh e hee hb).imp keep id⟩
theorem nodup_mid {L1 L2 : List Nat} {j : Nat} (h : (L1 ++ j :: L2).Nodup) : j ∉ L1 ++ L2 ∧ (L1 ++ L2).Nodup := by
 rw [List.nodup_append] at h
 obtain ⟨h1, h2, h3⟩ := h
 rw [List.nodup_cons] at h2
 refine ⟨?_, ?_⟩
 ·rw [List.mem_append]
  rintro (hj | hj)
  ·exact h3 j hj j (by simp) rfl
  ·exact h2.1 hj
 ·rw [List.nodup_append]
  exact ⟨h1, h2.2, fun a ha b hb => h3 a ha b (by simp [hb])⟩
theorem unlisted_drop {listed : Array Bool} {j : Nat} {L1 L2 : List Nat} (hsz : j < listed.size) (hun : ∀ i, i < ops.size → (listed.getD i true = false ↔ i ∈ L1 ++ j :: L2)) (hnd : (L1 ++ j :: L2).Nodup) :
  ∀ i, i < ops.size → ((listed.setIfInBounds j true).getD i true = false ↔ i ∈ L1 ++ L2) := by
 intro i hi
 rw [getD_set hsz, Bool.or_eq_false_iff, decide_eq_false_iff_not, hun i hi]
 obtain ⟨h1, _⟩ := nodup_mid hnd
 simp only [List.mem_append, List.mem_cons] at h1 ⊢
 constructor
 ·rintro ⟨h2 | h2 | h2, h3⟩
  ·exact .inl h2
  ·exact absurd h2.symm h3
  ·exact .inr h2
 ·intro h2
  refine ⟨h2.elim .inl (fun h => .inr (.inr h)), fun e => ?_⟩
  subst e; exact h1 h2
theorem closed_set {listed : Array Bool} {j : Nat} {oj : Oper} (hsz : j < listed.size) (hoj : ops[j]? = some oj) (hdj : ∀ e ∈ oj.after, Region.binds .any e = true → listed.getD e.on false = true) (hcl : Closed ops listed) :
  Closed ops (listed.setIfInBounds j true) := fun x o ho hx e he hb => by
 rw [getD_set hsz, Bool.or_eq_true, decide_eq_true_eq] at hx
 rcases hx with hx | rfl
 ·exact getD_set_true (hcl x o ho hx e he hb)
 ·rw [hoj] at ho; obtain rfl := Option.some.inj ho; exact getD_set_true (hdj e he hb)
theorem tail_sound {Q : Exit → Act → World → Prop} : ∀ (fuel : Nat) (t : List Nat) (listed : Array Bool) (a : Act) (w : World),
  t.length ≤ fuel → listed.size = ops.size → (∀ i, i < ops.size → (listed.getD i true = false ↔ i ∈ t)) → (∀ i ∈ t, i < ops.size) → t.Nodup → Closed ops listed →
  okTab tab ops = true → TailOk tab [] t → DepsOk ops listed t → wpOps P ops Q t a w → wpAny P .any ops Q fuel listed a w := by
 intro fuel
 induction fuel with
 | zero =>
  intro t listed a w hf hsz hun hin hnd hcl htab htail hdeps h
  have ht : t = [] := List.eq_nil_of_length_eq_zero (by omega)
  subst ht
  refine ⟨?_, by simpa [wpOps] using h⟩
  rw [List.eq_nil_iff_forall_not_mem]
  intro j hj
  obtain ⟨h0, o, ho, _⟩ := mem_ready.1 hj
  have := (hun j (Array.getElem?_eq_some_iff.1 ho).1).1 h0
  simp at this
 | succ fuel ih =>
  intro t listed a w hf hsz hun hin hnd hcl htab htail hdeps h
  refine ⟨fun hr => ?_, fun j hj => ?_⟩
  ·cases t with
   | nil => simpa [wpOps] using h
   | cons x L =>
    exfalso
    obtain ⟨o, ho, hh⟩ := hdeps [] x L rfl
    have hx : x ∈ Region.ready .any ops listed := mem_ready.2 ⟨(hun x (hin x (by simp))).2 (by simp), o, ho, fun e he hb => (hh e he hb).resolve_right (by simp)⟩
    rw [hr] at hx; cases hx
  ·obtain ⟨h0, oj, hoj, hdj⟩ := mem_ready.1 hj
   have hjlt := (Array.getElem?_eq_some_iff.1 hoj).1
   have hjsz : j < listed.size := by omega
   obtain ⟨t1, t2, rfl⟩ := List.append_of_mem ((hun j hjlt).1 h0)
   have ht1 : t1 = [] := by
    rw [List.eq_nil_iff_forall_not_mem]
    intro i hi
    have h1 := anc_listed hsz hcl htab j i oj hoj hdj (htail t1 j t2 rfl i (by simp [hi]))
    have h2 := (hun i (hin i (by simp [hi]))).2 (by simp [hi])
    rw [getD_tf (by rw [hsz]; exact hin i (by simp [hi])), h1] at h2
    cases h2
   subst ht1
   rw [List.nil_append, wpOps_cons] at h
   refine wpOp_mono (fun a' w' hk => ?_) h
   have hnd' := nodup_mid hnd
   refine ih t2 _ a' w' (by simp at hf; omega) (by simp [hsz]) (by have := unlisted_drop (L1 := []) (L2 := t2) hjsz hun hnd; simpa using this) (fun i hi => hin i (by simp [hi])) (by simpa using hnd'.2)
    (closed_set hjsz hoj hdj hcl) htab (fun u1 x u2 he y hy => htail (j :: u1) x u2 (by simp [he]) y (by simp at hy ⊢; exact .inr hy)) (by have := depsOk_drop (L1 := []) (L2 := t2) hjsz hdeps; simpa using this) hk
def runM (P : Program) (ops : Array Oper) : List Nat → (Act → Prop) → Act → Prop
 | [], K, a => K a
 | i :: l, K, a => ∃ o v, ops[i]? = some o ∧ YieldsIf P ops (fun _ => True) o v a ∧ runM P ops l K (a.put o.dst v)
theorem runM_mono {K K' : Act → Prop} (h : ∀ a, K a → K' a) : ∀ {l : List Nat} {a : Act}, runM P ops l K a → runM P ops l K' a
 | [], _, hr => h _ hr
 | _ :: _, _, ⟨o, v, ho, hy, hr⟩ => ⟨o, v, ho, hy, runM_mono h hr⟩
theorem move_yields {S : World → Prop} {o : Oper} {v : Value} {a : Act} {w : World} {i : Nat} (ho : ops[i]? = some o) (hm : isMove ops i = true) (hs : S w) (h : YieldsIf P ops S o v a) : YieldsIf P ops (fun _ => True) o v a := by
 rcases h with ⟨hw, hv⟩ | h
 ·refine .inl ⟨hw, fun W _ => ?_⟩
  have h1 := hv w hs
  unfold isMove at hm
  rw [ho] at hm
  simp only at hm
  cases hop : o.op <;> simp [hop] at hm
  ·simp [execOp, hop] at h1 ⊢
   exact h1
  ·rename_i x ix
   have h2 : ∀ (u : Value) (n : Nat), (∃ y, Instr.extract u n = pure y) ∨ ∃ t, Instr.extract u n = stuck t := fun u n => by
    unfold Instr.extract
    split
    ·split
     ·exact .inl ⟨_, rfl⟩
     ·exact .inr ⟨_, rfl⟩
    ·exact .inr ⟨_, rfl⟩
   rcases h2 (a.eval x) ix with ⟨y, h3⟩ | ⟨t, h3⟩
   ·simp [execOp, hop, h3] at h1 ⊢
    exact h1
   ·simp [execOp, hop, h3] at h1
 ·exact .inr h
theorem runM_of_run {Q : Exit → Act → World → Prop} {t : List Nat} {w : World} : ∀ {l : List Nat} {N : Nat → Prop} {a : Act}, (∀ y ∈ l, isSil (kd y) = true ∧ isMove ops y = true) → run P ops X base kd l (K0 P ops X Q t) N a w → runM P ops l (fun a => wpOps P ops Q t a w) a := by
 intro l
 induction l with
 | nil => intro N a _ h; exact h w (StepX.refl _ w)
 | cons i l ih =>
  intro N a hl h
  obtain ⟨h1, h2⟩ := hl i (by simp)
  have h' : go P ops X base kd i (run P ops X base kd l (K0 P ops X Q t)) N a w := h
  unfold go at h'
  cases hk : kd i <;> simp [hk, isSil] at h1
  rw [hk] at h'
  obtain ⟨o, v, ho, hy, hr⟩ := h'
  exact ⟨o, v, ho, move_yields ho h2 (StepX.refl _ w) hy, ih (fun y hy => hl y (by simp [hy])) hr⟩
theorem bringM (hsel : Region.noSelect ops = true) {K : Act → Prop} {j : Nat} {oj : Oper} (hj : ops[j]? = some oj) : ∀ {l1 l2 : List Nat} {a : Act}, (∀ i ∈ l1, ∃ oi, ops[i]? = some oi ∧ oi.apart ops oj = true) → runM P ops (l1 ++ j :: l2) K a →
  ∃ v, YieldsIf P ops (fun _ => True) oj v a ∧ runM P ops (l1 ++ l2) K (a.put oj.dst v) := by
 intro l1
 induction l1 with
 | nil =>
  intro l2 a _ h
  obtain ⟨o, v, ho, hy, hr⟩ := h
  obtain rfl : oj = o := by rw [hj] at ho; exact Option.some.inj ho
  exact ⟨v, hy, hr⟩
 | cons i l1 ih =>
  intro l2 a hall h
  obtain ⟨oi', hi', hap⟩ := hall i (by simp)
  obtain ⟨oi, vi, hi, hyi, hr⟩ := h
  obtain rfl : oi' = oi := by rw [hi] at hi'; exact (Option.some.inj hi').symm
  obtain ⟨v, hyj, hr2⟩ := ih (fun k hk => hall k (by simp [hk])) hr
  obtain ⟨h1, h2, h3⟩ := Oper.apart_spec hap
  have hsi := (Region.noSelect_spec hsel i oi' · · hi)
  have hsj := (Region.noSelect_spec hsel j oj · · hj)
  refine ⟨v, hyj.of_same (execOp_put oj hsj a oi'.dst vi h1).symm (wanted_put oj a oi'.dst vi h1).symm, oi', vi, hi, hyi.of_same (execOp_put oi' hsi a oj.dst v h3) (wanted_put oi' a oj.dst v h3), ?_⟩
  rw [← Act.put_comm a vi v h2]
  exact hr2
theorem tailM (hsel : Region.noSelect ops = true) {Q : Exit → Act → World → Prop} (hQ : ∀ c d v a w, Q (.panic c) (Act.put a d v) w → Q (.panic c) a w) {j : Nat} {oj : Oper} (hj : ops[j]? = some oj) {K : Act → World → Prop} {w : World} : ∀ {l : List Nat} {a : Act},
  (∀ i ∈ l, ∃ oi, ops[i]? = some oi ∧ oi.apart ops oj = true) → runM P ops l (fun a => wpOp P ops Q j K a w) a → wpOp P ops Q j (fun a' w' => runM P ops l (fun a => K a w') a') a w := by
 intro l
 induction l with
 | nil => intro a _ h; exact h
 | cons i l ih =>
  intro a hall h
  obtain ⟨oi', hi', hap⟩ := hall i (by simp)
  obtain ⟨oi, vi, hi, hyi, hr⟩ := h
  obtain rfl : oi' = oi := by rw [hi] at hi'; exact (Option.some.inj hi').symm
  have h1 := ih (fun k hk => hall k (by simp [hk])) hr
  refine wpOp_mono (fun a' w' hh => ?_) (wpOp_putIf (S := fun _ => True) hj hap (Region.noSelect_spec hsel i oi' · · hi) (Region.noSelect_spec hsel j oj · · hj) (fun c a w => hQ c _ _ a w) hyi h1)
  exact ⟨oi', vi, hi, hh.1, hh.2⟩
theorem mixed_sound {Q : Exit → Act → World → Prop} (hsel : Region.noSelect ops = true) (hQ : ∀ c d v a w, Q (.panic c) (Act.put a d v) w → Q (.panic c) a w) : ∀ (fuel : Nat) (l t : List Nat) (listed : Array Bool) (a : Act) (w : World),
  l.length + t.length ≤ fuel → listed.size = ops.size → (∀ i, i < ops.size → (listed.getD i true = false ↔ i ∈ l ++ t)) → (∀ i ∈ l ++ t, i < ops.size) → (l ++ t).Nodup → Closed ops listed →
  okTab tab ops = true → okList tab ops kd l = true → (∀ y ∈ l, ∀ x ∈ t, ancB tab y x = true ∨ ∃ oy ox, ops[y]? = some oy ∧ ops[x]? = some ox ∧ oy.apart ops ox = true) → TailOk tab [] t → DepsOk ops listed (l ++ t) →
  runM P ops l (fun a => wpOps P ops Q t a w) a → wpAny P .any ops Q fuel listed a w := by
 intro fuel
 induction fuel with
 | zero =>
  intro l t listed a w hf hsz hun hin hnd hcl htab _ _ htail hdeps h
  have hl : l = [] := List.eq_nil_of_length_eq_zero (by omega)
  subst hl
  exact tail_sound 0 t listed a w (by simpa using hf) hsz hun hin hnd hcl htab htail hdeps h
 | succ fuel ih =>
  intro l t listed a w hf hsz hun hin hnd hcl htab hlist hwait htail hdeps h
  by_cases hl : l = []
  ·subst hl
   exact tail_sound _ t listed a w (by simpa using hf) hsz hun hin hnd hcl htab htail hdeps h
  refine ⟨fun hr => ?_, fun j hj => ?_⟩
  ·exfalso
   cases l with
   | nil => exact hl rfl
   | cons x L =>
    obtain ⟨o, ho, hh⟩ := hdeps [] x (L ++ t) (by simp)
    have hx : x ∈ Region.ready .any ops listed := mem_ready.2 ⟨(hun x (hin x (by simp))).2 (by simp), o, ho, fun e he hb => (hh e he hb).resolve_right (by simp)⟩
    rw [hr] at hx; cases hx
  ·obtain ⟨h0, oj, hoj, hdj⟩ := mem_ready.1 hj
   have hjlt := (Array.getElem?_eq_some_iff.1 hoj).1
   have hjsz : j < listed.size := by omega
   have hjm := (hun j hjlt).1 h0
   have hcl' := closed_set hjsz hoj hdj hcl
   have notanc : ∀ i ∈ l ++ t, ancB tab i j = true → False := fun i hi ha => by
    have h1 := anc_listed hsz hcl htab j i oj hoj hdj ha
    have h2 := (hun i (hin i hi)).2 hi
    rw [getD_tf (by rw [hsz]; exact hin i hi), h1] at h2
    cases h2
   rcases List.mem_append.1 hjm with hjl | hjt
   ·obtain ⟨l1, l2, rfl⟩ := List.append_of_mem hjl
    obtain ⟨hlist', hpair⟩ := okList_drop hlist
    have hall : ∀ i ∈ l1, ∃ oi, ops[i]? = some oi ∧ oi.apart ops oj = true := fun i hi => by
     have hp := hpair i hi
     simp only [okPair, Bool.or_eq_true] at hp
     rcases hp with hp | hp
     ·exact (notanc i (by simp [hi]) hp).elim
     ·cases hoi : ops[i]? with
      | none => simp [hoi] at hp
      | some oi =>
       simp only [hoi, hoj, Bool.and_eq_true] at hp
       exact ⟨oi, rfl, hp.1⟩
    obtain ⟨v, hy, hr⟩ := bringM hsel hoj hall h
    have he : (l1 ++ j :: l2) ++ t = l1 ++ j :: (l2 ++ t) := by simp
    refine hy.wpOp hoj trivial (ih (l1 ++ l2) t _ _ w (by simp at hf ⊢; omega) (by simp [hsz]) (by have := unlisted_drop (L1 := l1) (L2 := l2 ++ t) hjsz (by rw [← he]; exact hun) (by rw [← he]; exact hnd); simpa using this)
     (fun i hi => hin i (by simp only [List.mem_append, List.mem_cons] at hi ⊢; rcases hi with (hi | hi) | hi <;> simp [hi]))
     (by have := (nodup_mid (by rw [← he]; exact hnd)).2; simpa using this) hcl' htab hlist' (fun y hy x hx => hwait y (by simp only [List.mem_append, List.mem_cons] at hy ⊢; rcases hy with hy | hy <;> simp [hy]) x hx) htail
     (by have := depsOk_drop (L1 := l1) (L2 := l2 ++ t) hjsz (by rw [← he]; exact hdeps); simpa using this) hr)
   ·obtain ⟨t1, t2, rfl⟩ := List.append_of_mem hjt
    have ht1 : t1 = [] := by
     rw [List.eq_nil_iff_forall_not_mem]
     intro i hi
     exact notanc i (by simp [hi]) (htail t1 j t2 rfl i (by simp [hi]))
    subst ht1
    have hall : ∀ i ∈ l, ∃ oi, ops[i]? = some oi ∧ oi.apart ops oj = true := fun i hi => by
     rcases hwait i hi j (by simp) with h1 | ⟨oy, ox, h1, h2, h3⟩
     ·exact (notanc i (by simp [hi]) h1).elim
     ·obtain rfl : oj = ox := by rw [hoj] at h2; exact Option.some.inj h2
      exact ⟨oy, h1, h3⟩
    have h' : runM P ops l (fun a => wpOp P ops Q j (wpOps P ops Q t2) a w) a := runM_mono (fun a hh => by rw [List.nil_append, wpOps_cons] at hh; exact hh) h
    have he : l ++ ([] ++ j :: t2) = l ++ j :: t2 := by simp
    refine wpOp_mono (fun a' w' hk => ?_) (tailM hsel hQ hoj hall h')
    exact ih l t2 _ a' w' (by simp at hf; omega) (by simp [hsz]) (by have := unlisted_drop (L1 := l) (L2 := t2) hjsz (by rw [← he]; exact hun) (by rw [← he]; exact hnd); simpa using this)
     (fun i hi => hin i (by simp only [List.mem_append, List.nil_append, List.mem_cons] at hi ⊢; rcases hi with hi | hi <;> simp [hi])) (by have := (nodup_mid (by rw [← he]; exact hnd)).2; simpa using this) hcl' htab hlist
     (fun y hy x hx => hwait y hy x (by simp [hx])) (fun u1 x u2 hu y hy => htail (j :: u1) x u2 (by simp [hu]) y (by simp at hy ⊢; exact .inr hy)) (by have := depsOk_drop (L1 := l) (L2 := t2) hjsz (by rw [← he]; exact hdeps); simpa using this) hk
theorem seq_sound (hX : ∀ j, X j → j < base) {Q : Exit → Act → World → Prop} (hsel : Region.noSelect ops = true) {strict : Bool} (hQ : strict = true ∨ ∀ c d v a w, Q (.panic c) (Act.put a d v) w → Q (.panic c) a w) : ∀ (fuel : Nat) (l t : List Nat) (listed : Array Bool) (N : Nat → Prop) (a : Act) (w : World),
  l.length + t.length ≤ fuel → listed.size = ops.size → (∀ i, i < ops.size → (listed.getD i true = false ↔ i ∈ l ++ t)) → (∀ i ∈ l ++ t, i < ops.size) → (l ++ t).Nodup → Closed ops listed →
  okTab tab ops = true → okList tab ops kd l = true → (∀ y ∈ l, ∀ x ∈ t, okWait strict tab ops kd y x = true) → TailOk tab [] t → DepsOk ops listed (l ++ t) → okAlloc ops kd l = true → (∀ i T z, i ∈ l → kd i = .alloc T z → Makes P ops i T z) →
  (∀ g, w.heap.size ≤ g → N g) → base ≤ w.heap.size → run P ops X base kd l (K0 P ops X Q t) N a w → wpAny P .any ops Q fuel listed a w := by
 intro fuel
 induction fuel with
 | zero =>
  intro l t listed N a w hf hsz hun hin hnd hcl htab _ _ htail hdeps _ _ _ _ h
  have hl : l = [] := List.eq_nil_of_length_eq_zero (by omega)
  subst hl
  exact tail_sound 0 t listed a w (by simpa using hf) hsz hun hin hnd hcl htab htail hdeps (h w (StepX.refl _ w))
 | succ fuel ih =>
  intro l t listed N a w hf hsz hun hin hnd hcl htab hlist hwait htail hdeps halloc hz hN hbase h
  by_cases hl : l = []
  ·subst hl
   exact tail_sound _ t listed a w (by simpa using hf) hsz hun hin hnd hcl htab htail hdeps (h w (StepX.refl _ w))
  refine ⟨fun hr => ?_, fun j hj => ?_⟩
  ·-- nothing may come up: but something is left
   exfalso
   cases l with
   | nil => exact hl rfl
   | cons x L =>
    obtain ⟨o, ho, hh⟩ := hdeps [] x (L ++ t) (by simp)
    have hx : x ∈ Region.ready .any ops listed := mem_ready.2 ⟨(hun x (hin x (by simp))).2 (by simp), o, ho, fun e he hb => (hh e he hb).resolve_right (by simp)⟩
    rw [hr] at hx; cases hx
  ·obtain ⟨h0, oj, hoj, hdj⟩ := mem_ready.1 hj
   have hjlt := (Array.getElem?_eq_some_iff.1 hoj).1
   have hjsz : j < listed.size := by omega
   have hjm := (hun j hjlt).1 h0
   have hcl' := closed_set hjsz hoj hdj hcl
   have notanc : ∀ i ∈ l ++ t, ancB tab i j = true → False := fun i hi ha => by
    have h1 := anc_listed hsz hcl htab j i oj hoj hdj ha
    have h2 := (hun i (hin i hi)).2 hi
    rw [getD_tf (by rw [hsz]; exact hin i hi), h1] at h2
    cases h2
   rcases List.mem_append.1 hjm with hjl | hjt
   ·-- one of the first part
    obtain ⟨l1, l2, rfl⟩ := List.append_of_mem hjl
    obtain ⟨hlist', hpair⟩ := okList_drop hlist
    have hall : ∀ i ∈ l1, ∃ oi, ops[i]? = some oi ∧ oi.apart ops oj = true ∧ swaps (kd i) (kd j) = true := fun i hi => by
     have hp := hpair i hi
     simp only [okPair, Bool.or_eq_true] at hp
     rcases hp with hp | hp
     ·exact (notanc i (by simp [hi]) hp).elim
     ·cases hoi : ops[i]? with
      | none => simp [hoi] at hp
      | some oi =>
       simp only [hoi, hoj, Bool.and_eq_true] at hp
       exact ⟨oi, rfl, hp.1, hp.2⟩
    have hb := bring hX (K0_mono t) hsel hoj l1 l2 N a w hall h
    have he : (l1 ++ j :: l2) ++ t = l1 ++ j :: (l2 ++ t) := by simp
    have next : ∀ (N' : Nat → Prop) (a' : Act) (w' : World), (∀ g, w'.heap.size ≤ g → N' g) → w.heap.size ≤ w'.heap.size → run P ops X base kd (l1 ++ l2) (K0 P ops X Q t) N' a' w' → wpAny P .any ops Q fuel (listed.setIfInBounds j true) a' w' :=
     fun N' a' w' hN' hsz' hr => ih (l1 ++ l2) t _ N' a' w' (by simp at hf ⊢; omega) (by simp [hsz]) (by have := unlisted_drop (L1 := l1) (L2 := l2 ++ t) hjsz (by rw [← he]; exact hun) (by rw [← he]; exact hnd); simpa using this)
      (fun i hi => hin i (by simp only [List.mem_append, List.mem_cons] at hi ⊢; rcases hi with (hi | hi) | hi <;> simp [hi]))
      (by have := (nodup_mid (by rw [← he]; exact hnd)).2; simpa using this) hcl' htab hlist' (fun y hy x hx => hwait y (by simp only [List.mem_append, List.mem_cons] at hy ⊢; rcases hy with hy | hy <;> simp [hy]) x hx) htail
      (by have := depsOk_drop (L1 := l1) (L2 := l2 ++ t) hjsz (by rw [← he]; exact hdeps); simpa using this)
      (by simp only [okAlloc, List.all_eq_true, List.mem_append, List.mem_cons] at halloc ⊢; exact fun x hx => halloc x (hx.elim .inl (fun h => .inr (.inr h))))
      (fun i T z hi => hz i T z (by simp only [List.mem_append, List.mem_cons] at hi ⊢; rcases hi with hi | hi <;> simp [hi])) hN' (by omega) hr
    cases hk : kd j with
    | silent =>
     simp only [go, hk] at hb
     obtain ⟨o, v, ho, hy, hr⟩ := hb
     exact hy.wpOp ho (StepX.refl _ w) (next N _ w hN (Nat.le_refl _) hr)
    | pure =>
     simp only [go, hk] at hb
     obtain ⟨o, v, ho, hy, hr⟩ := hb
     exact hy.wpOp ho trivial (next N _ w hN (Nat.le_refl _) hr)
    | chain =>
     simp only [go, hk] at hb
     exact wpOp_any (wpOp_mono (fun a' w' ⟨hs, hr⟩ => next _ a' w' (fun g hg => ⟨hN g (Nat.le_trans hs.size hg), .inr hg⟩) hs.size hr) (hb w (StepX.refl _ w)))
    | alloc T z =>
     simp only [go, hk] at hb
     have hal := halloc
     simp only [okAlloc, List.all_eq_true] at hal
     have hal := hal j (by simp)
     simp only [hk, hoj, Bool.and_eq_true] at hal
     obtain ⟨hg, hop⟩ := hal
     refine wpOp_alloc hoj hop (by simpa using hg) (hz j T z (by simp) hk) ?_
     have hd : (ops[j]?).bind (·.dst) = oj.dst := by rw [hoj]; rfl
     rw [hd] at hb
     exact next _ _ _ (fun g hgg => ⟨hN g (by simp at hgg; omega), by simp at hgg; omega⟩) (by simp) (hb (w.alloc (.cells (madeC z) T)) w.heap.size (.of (Step.alloc _ _)) (heap_alloc_new w _) hbase (hN _ (Nat.le_refl _)))
    | make T n xs =>
     simp only [go, hk] at hb
     obtain ⟨⟨o, ho, hg, hrun⟩, hb⟩ := hb
     obtain rfl : oj = o := by rw [hoj] at ho; exact Option.some.inj ho
     have hd : (ops[j]?).bind (·.dst) = oj.dst := by rw [hoj]; rfl
     rw [hd] at hb
     unfold wpOp
     simp only [hoj, hg, if_true]
     refine .inl ?_
     unfold Oper.wp
     rw [hrun w]
     exact next _ _ _ (fun g hgg => ⟨hN g (by simp at hgg; omega), by simp at hgg; omega⟩) (by simp) (hb (w.alloc (.cells xs T)) w.heap.size (.of (Step.alloc _ _)) (heap_alloc_new w _) hbase (hN _ (Nat.le_refl _)))
   ·-- the tail waits, but for moves
    have hw1 : ∀ y ∈ l, ancB tab y j = true ∨ (strict = false ∧ isSil (kd y) = true ∧ isMove ops y = true ∧ ∃ oy, ops[y]? = some oy ∧ oy.apart ops oj = true) := fun y hy => by
     have := hwait y hy j hjt
     simp only [okWait, Bool.or_eq_true, Bool.and_eq_true, Bool.not_eq_true'] at this
     rcases this with h1 | ⟨⟨⟨h1, h2⟩, h3⟩, h4⟩
     ·exact .inl h1
     ·cases hoy : ops[y]? with
      | none => simp [hoy] at h4
      | some oy => simp only [hoy, hoj] at h4; exact .inr ⟨h1, h2, h3, oy, rfl, h4⟩
    have hw2 : ∀ y ∈ l, strict = false ∧ isSil (kd y) = true ∧ isMove ops y = true := fun y hy => by
     rcases hw1 y hy with h1 | ⟨h1, h2, h3, _⟩
     ·exact (notanc y (by simp [hy]) h1).elim
     ·exact ⟨h1, h2, h3⟩
    have hst : strict = false := by
     cases l with
     | nil => exact (hl rfl).elim
     | cons x L => exact (hw2 x (by simp)).1
    have hQ' := hQ.resolve_left (by rw [hst]; decide)
    have hm := mixed_sound hsel hQ' (fuel + 1) l t listed a w hf hsz hun hin hnd hcl htab hlist (fun y hy x hx => by
     have := hwait y hy x hx
     simp only [okWait, Bool.or_eq_true, Bool.and_eq_true, Bool.not_eq_true'] at this
     rcases this with h1 | ⟨_, h4⟩
     ·exact .inl h1
     ·cases hoy : ops[y]? with
      | none => simp [hoy] at h4
      | some oy =>
       cases hox : ops[x]? with
       | none => simp [hoy, hox] at h4
       | some ox => simp only [hoy, hox] at h4; exact .inr ⟨oy, ox, rfl, rfl, h4⟩) htail hdeps (runM_of_run (fun y hy => (hw2 y hy).2) h)
    exact hm.2 j hj
theorem wp_region_seqG {id : Nat} {Q : Exit → Act → World → Prop} {a : Act} {w : World} (X : Nat → Prop) (hX : ∀ j, X j → j < w.heap.size) (kd : Nat → Kd) (strict : Bool) (hQ : strict = true ∨ ∀ c d v a w, Q (.panic c) (Act.put a d v) w → Q (.panic c) a w) (tab l t : List Nat) (hm : P.follows .mixedOrders = true) (hok : okSeq strict tab ops kd l t = true)
  (hz : ∀ i T z, i ∈ l → kd i = .alloc T z → Makes P ops i T z)
  (h : ∀ W, StepX X w W → run P ops X w.heap.size kd l (K0 P ops X Q t) (fun _ => True) a W) : (Code.region id ops true).wp P Q a w := by
 simp only [okSeq, Bool.and_eq_true, List.all_eq_true, decide_eq_true_eq, List.mem_range, List.contains_iff_mem] at hok
 obtain ⟨⟨⟨⟨⟨⟨⟨⟨⟨h0, h1⟩, h9⟩, h2⟩, h3⟩, h4⟩, h5⟩, h6⟩, h7⟩, h8⟩ := hok
 refine wp_region_any hm ?_
 refine seq_sound (base := w.heap.size) (kd := kd) hX h5 hQ ops.size l t _ (fun _ => True) a w.drew ?_ (by simp) ?_ h7 h8 ?_ h0 h1 h9 (tailOk_of h2) ?_ h4 hz (fun _ _ => trivial) (by simp) (h w.drew (.of (Step.drew w)))
 ·-- no more than the region has
  have hsub : (l ++ t).length ≤ (List.range ops.size).length := h8.length_le_of_subset (fun i hi => List.mem_range.2 (h7 i hi))
  simpa using hsub
 ·intro i hi
  simp only [Array.getD_eq_getD_getElem?, Array.getElem?_replicate, hi, if_true, Option.getD_some, true_iff]
  exact h6 i hi
 ·intro x o ho hx
  have hlt := (Array.getElem?_eq_some_iff.1 ho).1
  simp [hlt] at hx
 ·intro L1 x L2 he
  obtain ⟨o, ho, hh⟩ := depsOk_of (listed := Array.replicate ops.size false) h3 L1 x L2 he
  exact ⟨o, ho, by simpa using hh⟩
theorem wp_region_seqM {id : Nat} {Q : Exit → Act → World → Prop} {a : Act} {w : World} (hQ : ∀ c d v a w, Q (.panic c) (Act.put a d v) w → Q (.panic c) a w) (kd : Nat → Kd) (tab l t : List Nat) (hm : P.follows .mixedOrders = true) (hok : okSeq false tab ops kd l t = true)
  (hz : ∀ i T z, i ∈ l → kd i = .alloc T z → Makes P ops i T z)
  (h : ∀ W, Step w W → run P ops (fun _ => False) w.heap.size kd l (K0 P ops (fun _ => False) Q t) (fun _ => True) a W) : (Code.region id ops true).wp P Q a w :=
 wp_region_seqG (fun _ => False) (fun _ h => h.elim) kd false (.inr hQ) tab l t hm hok hz h
def kdOf (calls : List Nat) (allocs : List (Nat × TypeId × Value)) (makes : List (Nat × TypeId × Nat × Array Value)) (i : Nat) : Kd :=
 if calls.contains i then .chain else match makes.find? (fun x => x.1 == i) with
  | some (_, T, n, xs) => .make T n xs
  | none => match allocs.find? (fun x => x.1 == i) with
   | some (_, T, z) => .alloc T z
   | none => .silent
section
variable {K : Cont} {N : Nat → Prop} {a : Act} {w : World} {i : Nat} {l : List Nat} {o : Oper}
theorem run_silent {v : Value} (hk : kd i = .silent) (ho : ops.toList[i]? = some o) (hy : YieldsIf P ops (StepX X w) o v a) (h : run P ops X base kd l K N (a.put o.dst v) w) : run P ops X base kd (i :: l) K N a w := by
 show go P ops X base kd i _ N a w
 unfold go; rw [hk]; exact ⟨o, v, by simpa using ho, hy, h⟩
theorem run_want (hk : kd i = .silent) (ho : ops.toList[i]? = some o) (hw : Region.wanted o (yielded ops a.tmps) = true) (h : ∃ v, (∀ W, StepX X w W → (execOp a.eval o).run P W = .ok (.value v) W) ∧ run P ops X base kd l K N (a.put o.dst v) w) :
  run P ops X base kd (i :: l) K N a w := by
 obtain ⟨v, h1, h2⟩ := h
 exact run_silent hk ho (.inl ⟨hw, h1⟩) h2
theorem run_off (hk : kd i = .silent) (ho : ops.toList[i]? = some o) (hw : Region.wanted o (yielded ops a.tmps) = false) (h : run P ops X base kd l K N (a.put o.dst undef) w) : run P ops X base kd (i :: l) K N a w :=
 run_silent hk ho (.inr ⟨hw, rfl⟩) h
theorem run_chain (hk : kd i = .chain) (ho : ops.toList[i]? = some o) (hw : Region.wanted o (yielded ops a.tmps) = true)
  (h : ∀ W, StepX X w W → ∀ K' : Act → World → Prop, (∀ a' w', StepX X W w' → run P ops X base kd l K (fun g => N g ∧ (g < W.heap.size ∨ w'.heap.size ≤ g)) a' w' → K' a' w') → o.wp P a W K' QF) : run P ops X base kd (i :: l) K N a w := by
 show go P ops X base kd i _ N a w
 have ho : ops[i]? = some o := by simpa using ho
 unfold go; rw [hk]
 intro W hW
 unfold wpOp; simp only [ho, hw, if_true]
 exact .inl (h W hW _ (fun a' w' hs hr => ⟨hs, hr⟩))
theorem run_chain_off (hk : kd i = .chain) (ho : ops.toList[i]? = some o) (hw : Region.wanted o (yielded ops a.tmps) = false) (hK : ContMono X K)
  (h : run P ops X base kd l K N (a.put o.dst undef) w) : run P ops X base kd (i :: l) K N a w := by
 show go P ops X base kd i _ N a w
 have ho : ops[i]? = some o := by simpa using ho
 unfold go; rw [hk]
 intro W hW
 unfold wpOp; simp only [ho, hw]
 exact ⟨StepX.refl _ _, run_mono hK l _ _ _ _ _ (fun g hg => hg.1) hW h⟩
theorem run_alloc {T : TypeId} {z : Value} (hk : kd i = .alloc T z) (ho : ops.toList[i]? = some o)
  (h : ∀ W g, StepX X w W → W.heap[g]? = some (.cells z.cells T (0, 0)) → base ≤ g → N g → run P ops X base kd l K (fun x => N x ∧ x ≠ g) (a.put o.dst (.pointer (some ⟨g, 0, none⟩))) W)
  (hv : ∀ g, madeV z g = .pointer (some ⟨g, 0, none⟩) := by exact fun _ => rfl) (hc : madeC z = z.cells := by exact rfl) : run P ops X base kd (i :: l) K N a w := by
 show go P ops X base kd i _ N a w
 have ho : ops[i]? = some o := by simpa using ho
 unfold go; rw [hk, ho]
 intro W g h1 h2 h3 h4
 rw [hc] at h2
 rw [hv]
 exact h W g h1 h2 h3 h4
theorem run_make {T : TypeId} {n : Nat} {xs : Array Value} (hk : kd i = .make T n xs) (ho : ops.toList[i]? = some o) (hg : Region.wanted o (yielded ops a.tmps) = true) (hm : ∀ w : World, (execOp a.eval o).run P w = .ok (.value (.slice (some ⟨w.heap.size, 0, none⟩) n n)) (w.alloc (.cells xs T)))
  (h : ∀ W g, StepX X w W → W.heap[g]? = some (.cells xs T (0, 0)) → base ≤ g → N g → run P ops X base kd l K (fun x => N x ∧ x ≠ g) (a.put o.dst (.slice (some ⟨g, 0, none⟩) n n)) W) : run P ops X base kd (i :: l) K N a w := by
 show go P ops X base kd i _ N a w
 have ho : ops[i]? = some o := by simpa using ho
 unfold go
 simp only [hk]
 refine ⟨⟨o, ho, hg, hm⟩, fun W g h1 h2 h3 h4 => ?_⟩
 rw [ho]
 exact h W g h1 h2 h3 h4
theorem run_end {Q : Exit → Act → World → Prop} {t : List Nat} {L : List Oper} (ht : t.map (fun i => ops.toList[i]?) = L.map some) (h : ∀ W, StepX X w W → wpList P ops Q L a W) : run P ops X base kd [] (K0 P ops X Q t) N a w := by
 intro W hW
 have h' := h W hW
 clear h hW
 show wpOps P ops Q t a W
 induction t generalizing L a W with
 | nil =>
  cases L with
  | nil => exact h'
  | cons _ _ => simp at ht
 | cons x t ih =>
  cases L with
  | nil => simp at ht
  | cons o L =>
   simp only [List.map_cons, List.cons.injEq, Array.getElem?_toList] at ht
   rw [wpOps_cons]
   unfold wpOp
   unfold wpList at h'
   simp only [ht.1]
   split
   ·rename_i hw
    rw [if_pos hw] at h'
    exact h'.imp (Oper.wp_mono fun a' w' hh => ih (by simpa using ht.2) w' hh) id
   ·rename_i hw
    rw [if_neg hw] at h'
    exact ih (by simpa using ht.2) W h'
end
end
end Go.BT.Mk
namespace Go.Proofs.YtgpiieogiafdoaaGreat
set_option linter.unusedSimpArgs false
set_option linter.unusedVariables false
open Go.RowKit Go.BT
def NoZero {α : Type} (r : Except Int α) : Prop := ∀ c, r = .error c → c ≠ 0
theorem nz_of {α : Type} {c : Int} {y : α} : NoZero (if c = 0 then .ok y else .error c : Except Int α) := by
 intro d hd
 split at hd
 ·cases hd
 ·rename_i hne
  injection hd with hd
  exact hd ▸ hne
theorem nz_sell (h : House) (b : Book) (s n y d : Int) : NoZero (sellD h b s n y d) := nz_of
theorem nz_refund (h : House) (b : Book) (s n : Int) : NoZero (refundD h b s n) := nz_of
theorem nz_give (h : House) (b : Book) (t s : Int) (l : List Int) : NoZero (giveD h b t s l) := nz_of
theorem nz_take (h : House) (b : Book) (m : BT.Message) : NoZero (takeD h b m) := nz_of
theorem nz_lose (h : House) (b : Book) (s d : Int) : NoZero (loseD h b s d) := nz_of
theorem nz_book {α : Type} {r : Except Int (Book × α)} (h : NoZero r) : NoZero (bookOf r) := by
 intro c hc
 cases r with
 | ok p => cases hc
 | error d => injection hc with hc; exact hc ▸ h d rfl
theorem act_two {r : Except Int Book} (hn : NoZero r) : (∃ b, r = .ok b ∧ actR r = (b, 0)) ∨ (∃ c, r = .error c ∧ c ≠ 0 ∧ actR r = (noBook, c)) := by
 cases r with
 | ok b => exact .inl ⟨b, rfl, rfl⟩
 | error c => exact .inr ⟨c, rfl, hn c rfl, rfl⟩
theorem av0 {α : Type} [Rep α] {S : Nat → Prop} {w : World} {v : Value} {x : α} (h : AV S w v x) : AV (fun _ => False) w v x := h.weak fun _ _ h => h.elim
theorem sle_bx {α : Type} [Rep α] {S : Nat → Prop} {w : World} {g : Nat} {cs : List Value} {T : TypeId} {x : α} (hb : Bx w g cs T) (hr : Rep.rep S w cs x) : SLe S w (.slice (some ⟨g, 0, none⟩) 1 1) [x] := by
 refine ⟨_, 1, g, 0, rfl, Nat.le_refl _, by simp, fun _ => rfl, fun i hi => ?_⟩
 obtain rfl : i = 0 := by simpa using hi
 refine ⟨cs, hr, fun j u hj => ?_⟩
 simp only [Nat.zero_mul, Nat.zero_add]
 rw [hb.cell j]
 exact hj
theorem infoRefMess : (Tryz.prog.info? 58).map (fun i => (i.zero, i.size, i.bytes)) = some (some (.agg #[.int .i64 0, .int .i64 0, .int .i64 0, .int .i64 0, .slice none 0 0]), 5, 56) := by kernel_rfl
theorem eiRefMess : EI Tryz.prog 47 58 (.agg #[.int .i64 0, .int .i64 0, .int .i64 0, .int .i64 0, .slice none 0 0]) 5 56 := .mk' Tryz.underlying47 infoRefMess rfl
theorem cells9 {w : World} {g : Nat} {c0 c1 c2 c3 c4 c5 c6 c7 c8 : Value} {T : TypeId} (h : Bx w g [c0, c1, c2, c3, c4, c5, c6, c7, c8] T) :
  w.cell? ⟨g, 0, none⟩ = some c0 ∧ w.cell? ⟨g, 1, none⟩ = some c1 ∧ w.cell? ⟨g, 2, none⟩ = some c2 ∧ w.cell? ⟨g, 3, none⟩ = some c3 ∧ w.cell? ⟨g, 4, none⟩ = some c4 ∧ w.cell? ⟨g, 5, none⟩ = some c5 ∧ w.cell? ⟨g, 6, none⟩ = some c6 ∧ w.cell? ⟨g, 7, none⟩ = some c7 ∧ w.cell? ⟨g, 8, none⟩ = some c8 :=
 ⟨h.cell 0, h.cell 1, h.cell 2, h.cell 3, h.cell 4, h.cell 5, h.cell 6, h.cell 7, h.cell 8⟩
set_option maxRecDepth 100000 in
set_option maxHeartbeats 8000000 in
theorem RDo_any (S S1 S2 : Nat → Prop) (h : House) (W : Wd) (x : ActT) (v u y : Value) (w : World) (hv : AV S1 w v h) (hu : AV S w u W) (hx : AV S2 w y x) (hSl : ∀ j, S j → j < w.heap.size) (hok : valid h = true) (hwd : WdOk h W) (hsl : x.seats.length ≤ 1000000) (hml : W.msgs.length ≤ 1000) :
  Calls Tryz.prog 51 #[v, u, y] w fun e w' => ∃ v', e = .returned (.tuple #[v', .int .i64 (actD h W x).2]) ∧ AV S w' v' (actD h W x).1 ∧ Step w w' := by
 obtain ⟨c0, c1, c2, c3, c4, rfl, h0, h1, h2, h3, h4⟩ := hv.house
 obtain ⟨p0, k0, rfl⟩ := h0.form
 obtain ⟨p1, k1, rfl⟩ := h1.form
 obtain ⟨p2, k2, rfl⟩ := h2.form
 obtain ⟨p3, k3, rfl⟩ := h3.form
 obtain ⟨p4, k4, rfl⟩ := h4.form
 obtain ⟨b0, b1, rfl, s0, s1⟩ := hu.wd
 obtain ⟨qb, nb, rfl⟩ := s0.form
 obtain ⟨qm, nm, rfl⟩ := s1.form
 obtain ⟨c8, rfl, s8, hk0, hk1⟩ := hx.act
 obtain ⟨p8, k8, rfl⟩ := s8.form
 obtain ⟨W0, hW0⟩ : ∃ W0, W0 = (((w.alloc (.cells #[.slice p0 h.sectors.length k0, .slice p1 h.prices.length k1, .slice p2 h.dates.length k2, .slice p3 h.frm.length k3, .slice p4 h.holds.length k4] 26)).alloc (.cells #[.slice qb W.books.length nb, .slice qm W.msgs.length nm] 49)).alloc (.cells #[.int .u8 x.kind, .int .i64 x.agency, .int .i64 x.shw, .int .i64 x.seat, .int .i64 x.buyer, .int .i64 x.day, .int .i64 x.dst, .int .i64 x.msg, .slice p8 x.seats.length k8] 105)).alloc (.cells #[.slice none 0 0, .slice none 0 0] 49) := ⟨_, rfl⟩
 have hS : Step w W0 := by subst hW0; exact (by repeat (first | (with_reducible assumption) | (with_reducible exact Step.refl _) | (with_reducible apply Step.s_alloc) | (with_reducible apply Step.s_drew) | (with_reducible apply Step.s_drewN) | (with_reducible refine Step.trans ?_ (by with_reducible assumption))))
 have hb0 : Bx W0 w.heap.size [.slice p0 h.sectors.length k0, .slice p1 h.prices.length k1, .slice p2 h.dates.length k2, .slice p3 h.frm.length k3, .slice p4 h.holds.length k4] 26 := by subst hW0; exact (((Bx.new _ [_, _, _, _, _] _).alloc _).alloc _).alloc _
 have hb1 : Bx W0 (w.heap.size + 1) [.slice qb W.books.length nb, .slice qm W.msgs.length nm] 49 := by subst hW0; exact ((Bx.new' _ [_, _] _ _ (by simp)).alloc _).alloc _
 have hb2 : Bx W0 (w.heap.size + 2) [.int .u8 x.kind, .int .i64 x.agency, .int .i64 x.shw, .int .i64 x.seat, .int .i64 x.buyer, .int .i64 x.day, .int .i64 x.dst, .int .i64 x.msg, .slice p8 x.seats.length k8] 105 := by subst hW0; exact (Bx.new' _ [_, _, _, _, _, _, _, _, _] _ _ (by simp)).alloc _
 have hb3 : Bx W0 (w.heap.size + 3) [.slice none 0 0, .slice none 0 0] 49 := by subst hW0; exact Bx.new' _ [_, _] _ _ (by simp)
 have hz0 : W0.heap.size = w.heap.size + 4 := by subst hW0; simp
 have hweak : ∀ j, j < w.heap.size → (S j ∨ w.heap.size ≤ j) → S j := fun j hj hs => hs.elim id (fun e => by omega)
 have HH := Lib.hid ((av0 hv).keep (.of_step hS))
 have HWB := Lib.hid ((s0.weak hweak).keep (.of_step hS))
 have HWM := Lib.hid ((s1.weak hweak).keep (.of_step hS))
 have HXS := Lib.hid ((s8.weak (T := fun _ => False) fun _ _ h => h.elim).keep (.of_step hS))
 have HS := Lib.hid hS
 have HB0 := Lib.hid hb0
 have HB1 := Lib.hid hb1
 have HB2 := Lib.hid hb2
 have HB3 := Lib.hid hb3
 have HZ := Lib.hid hz0
 have HSL := Lib.hid hSl
 have HW := Lib.hid hW0
 have BD := Lib.hid (bounds_valid hok)
 have HV := Lib.hid (And.intro hok (And.intro hwd (And.intro hsl hml)))
 have HT0 := Lib.hid (Step.refl W0)
 have hbl : W.books.length ≤ 6 := by have := hwd.len; have := BD.out; omega
 have hbl1 : 1 ≤ W.books.length := by have := hwd.len; have := BD.out; omega
 have hml2 : W.msgs.length ≤ 1000 := hml
 clear hv hu hx hSl hS hb0 hb1 hb2 hb3 hz0 hW0 hok hwd hsl hml h0 h1 h2 h3 h4 s0 s1 s8 hweak
 go_enter Tryz.func51, Tryz.ntmps51
 go_upto_region 1 with (fail)
 rw [← HW.out]
 clear HW
 by_cases hkb : x.kind < 1 ∨ 5 < x.kind
 ·have HE := Lib.hid (actD_err (h := h) (actE_kind (w := W) hkb) (by decide))
  have HT := HT0
  (try clear e0 e1 e2 e3 e4)
  (try clear u0 u1)
  (try clear a0 a1 a2 a3 a4 a5 a6 a7 a8)
  obtain ⟨e0, e1, e2, e3, e4⟩ := cells5 (HB0.out.step HT.out)
  obtain ⟨a0, a1, a2, a3, a4, a5, a6, a7, a8⟩ := cells9 (HB2.out.step HT.out)
  obtain ⟨u0, u1⟩ : _ ∧ _ := ⟨(HB1.out.step HT.out).cell 0, (HB1.out.step HT.out).cell 1⟩
  simp only [zD, zE] at u0 u1
  by_cases hka : x.kind < 1
  ·have d1 : decide (x.kind < 1) = true := decide_eq_true hka
   clear hkb hka hk0 hk1
   go_upto_region 2 with (fail)
   have t0 := (HB3.out.step HT.out).cell 0
   have t1 := (HB3.out.step HT.out).cell 1
   have tf0 := (HB3.out.step HT.out).frozen 0
   have tf1 := (HB3.out.step HT.out).frozen 1
   simp only [zD, zE] at t0 t1
   go_wp2
   have b2 := set2r (HB3.out.step HT.out) (.slice (qb) W.books.length nb) (.slice (qm) W.msgs.length nm)
   refine ret_struct2 (k := 2) rfl siRefWorld rfl b2.1 rfl rfl ?_
   rw [HE.out]
   have hk2 := b2.2.keeps.mono (T := fun j => S j ∨ w.heap.size ≤ j) fun j _ e => .inr (by omega)
   exact ⟨_, rfl, ⟨_, rfl, _, _, rfl, ((HWB.out.keep (.of_step HT.out)).keep hk2).weak (fun _ _ h => .inl h), ((HWM.out.keep (.of_step HT.out)).keep hk2).weak (fun _ _ h => .inl h)⟩, StepX.fresh (HS.out.trans HT.out) b2.2 (fun j hj => by omega)⟩
  ·have d1 : decide (x.kind < 1) = false := decide_eq_false hka
   have d2 : decide (5 < x.kind) = true := decide_eq_true (by omega)
   clear hkb hka hk0 hk1
   go_upto_region 2 with (fail)
   have t0 := (HB3.out.step HT.out).cell 0
   have t1 := (HB3.out.step HT.out).cell 1
   have tf0 := (HB3.out.step HT.out).frozen 0
   have tf1 := (HB3.out.step HT.out).frozen 1
   simp only [zD, zE] at t0 t1
   go_wp2
   have b2 := set2r (HB3.out.step HT.out) (.slice (qb) W.books.length nb) (.slice (qm) W.msgs.length nm)
   refine ret_struct2 (k := 2) rfl siRefWorld rfl b2.1 rfl rfl ?_
   rw [HE.out]
   have hk2 := b2.2.keeps.mono (T := fun j => S j ∨ w.heap.size ≤ j) fun j _ e => .inr (by omega)
   exact ⟨_, rfl, ⟨_, rfl, _, _, rfl, ((HWB.out.keep (.of_step HT.out)).keep hk2).weak (fun _ _ h => .inl h), ((HWM.out.keep (.of_step HT.out)).keep hk2).weak (fun _ _ h => .inl h)⟩, StepX.fresh (HS.out.trans HT.out) b2.2 (fun j hj => by omega)⟩
 have d1 : decide (x.kind < 1) = false := decide_eq_false (by omega)
 have d2 : decide (5 < x.kind) = false := decide_eq_false (by omega)
 have HK := Lib.hid hkb
 have hkl : 1 ≤ x.kind ∧ x.kind ≤ 5 := by omega
 have HKL := Lib.hid hkl
 clear hkb hk0 hk1 hkl
 (try clear e0 e1 e2 e3 e4)
 (try clear u0 u1)
 (try clear a0 a1 a2 a3 a4 a5 a6 a7 a8)
 obtain ⟨e0, e1, e2, e3, e4⟩ := cells5 (HB0.out.step HT0.out)
 obtain ⟨a0, a1, a2, a3, a4, a5, a6, a7, a8⟩ := cells9 (HB2.out.step HT0.out)
 obtain ⟨u0, u1⟩ : _ ∧ _ := ⟨(HB1.out.step HT0.out).cell 0, (HB1.out.step HT0.out).cell 1⟩
 simp only [zD, zE] at u0 u1
 have hl1 : IntKind.i64.wrap ((W.books.length : Int) - 1) = (W.books.length : Int) - 1 := by rw [IntKind.wrap_i64]; omega
 have hl2 : IntKind.i64.wrap ((W.msgs.length : Int) - 1) = (W.msgs.length : Int) - 1 := by rw [IntKind.wrap_i64]; omega
 go_wp2_with fail
 refine (bigtopref08.In_any _ _ _ _).mono ?_
 rintro e w' ⟨rfl, rfl⟩
 cases qa : withinB x.agency 0 ((W.books.length : Int) - 1) with
 | false =>
  have HE := Lib.hid (actD_err (h := h) (actE_agency HK.out qa) (by decide))
  clear qa d1 d2 hl1 hl2
  go_upto_region 4 with (fail)
  have HT := HT0
  have t0 := (HB3.out.step HT.out).cell 0
  have t1 := (HB3.out.step HT.out).cell 1
  have tf0 := (HB3.out.step HT.out).frozen 0
  have tf1 := (HB3.out.step HT.out).frozen 1
  simp only [zD, zE] at t0 t1
  go_wp2
  have b2 := set2r (HB3.out.step HT.out) (.slice (qb) W.books.length nb) (.slice (qm) W.msgs.length nm)
  refine ret_struct2 (k := 2) rfl siRefWorld rfl b2.1 rfl rfl ?_
  rw [HE.out]
  have hk2 := b2.2.keeps.mono (T := fun j => S j ∨ w.heap.size ≤ j) fun j _ e => .inr (by omega)
  exact ⟨_, rfl, ⟨_, rfl, _, _, rfl, ((HWB.out.keep (.of_step HT.out)).keep hk2).weak (fun _ _ h => .inl h), ((HWM.out.keep (.of_step HT.out)).keep hk2).weak (fun _ _ h => .inl h)⟩, StepX.fresh (HS.out.trans HT.out) b2.2 (fun j hj => by omega)⟩
 | true =>
 obtain ⟨i, hia, hi⟩ := nat_of qa
 have hib : i < W.books.length := by omega
 have HQA := Lib.hid qa
 have HIA := Lib.hid hia
 clear qa hia hi
 by_cases k4 : x.kind = 4
 ·have d4 : (x.kind == 4) = true := by simp [k4]
  go_wp2_with fail
  refine (bigtopref08.In_any _ _ _ _).mono ?_
  rintro e w' ⟨rfl, rfl⟩
  cases qmm : withinB x.msg 0 ((W.msgs.length : Int) - 1) with
  | false =>
   have HE := Lib.hid (actD_err (h := h) (actE_mess HK.out HQA.out ⟨k4, qmm⟩) (by decide))
   clear qmm d1 d2 d4 hl1 hl2
   go_upto_region 4 with (fail)
   have HT := HT0
   have t0 := (HB3.out.step HT.out).cell 0
   have t1 := (HB3.out.step HT.out).cell 1
   have tf0 := (HB3.out.step HT.out).frozen 0
   have tf1 := (HB3.out.step HT.out).frozen 1
   simp only [zD, zE] at t0 t1
   go_wp2
   have b2 := set2r (HB3.out.step HT.out) (.slice (qb) W.books.length nb) (.slice (qm) W.msgs.length nm)
   refine ret_struct2 (k := 2) rfl siRefWorld rfl b2.1 rfl rfl ?_
   rw [HE.out]
   have hk2 := b2.2.keeps.mono (T := fun j => S j ∨ w.heap.size ≤ j) fun j _ e => .inr (by omega)
   exact ⟨_, rfl, ⟨_, rfl, _, _, rfl, ((HWB.out.keep (.of_step HT.out)).keep hk2).weak (fun _ _ h => .inl h), ((HWM.out.keep (.of_step HT.out)).keep hk2).weak (fun _ _ h => .inl h)⟩, StepX.fresh (HS.out.trans HT.out) b2.2 (fun j hj => by omega)⟩
  | true =>
  have HE0 := Lib.hid (actE_zero HK.out HQA.out fun _ => qmm)
  obtain ⟨k, hmk, hkb⟩ := nat_of qmm
  have hkb : k < W.msgs.length := by omega
  have HMK := Lib.hid hmk
  clear qmm hmk
  have hwk := HV.out.2.1
  obtain ⟨pQ, cQ, bb, bo, he, _, _, hpb, hcb, _⟩ := HWB.out.books
  injection he with he1 he2 he3
  clear he2 he3
  have hpb := hpb (by omega)
  rw [← he1] at hpb
  subst hpb
  obtain ⟨z1, z2, z4, ⟨f0, f1, f2, f3, f4, f5⟩, s1, s2, s4⟩ := hcb i hib
  obtain ⟨b, hb⟩ : ∃ b, b = W.books[i] := ⟨_, rfl⟩
  have hbb := hwk.book i hib
  rw [← hb] at f0 f3 f5 s1 s2 s4 hbb
  have HBB := Lib.hid hbb
  have HGB := Lib.hid (show W.books.getD i noBook = b by rw [hb]; simp [List.getD_eq_getElem?_getD, hib])
  clear he1 hcb hb hbb hwk
  obtain ⟨r1, l1, hf1⟩ := s1.form
  obtain ⟨r2, l2, hf2⟩ := s2.form
  obtain ⟨r4, l4, hf4⟩ := s4.form
  subst hf1 hf2 hf4
  have hia := HIA.out
  have hrg : (0 : Int) ≤ x.agency ∧ x.agency < (W.books.length : Int) := by omega
  have htn : x.agency.toNat = i := by omega
  clear hia
  go_upto_region 7 with (fail)
  clear hrg htn f0 f1 f2 f3 f4 f5
  obtain ⟨g8, hg8⟩ : ∃ g, g = W0.heap.size := ⟨_, rfl⟩
  obtain ⟨W1, hW1⟩ : ∃ W, W = (W0.alloc (.cells #[.int .i64 b.agency, .slice r1 b.seats.length l1, .slice r2 b.off.length l2, .int .i64 b.sent, .slice r4 b.took.length l4, .int .i64 b.cash] 56)).alloc (.cells #[.int .i64 0, .slice none 0 0, .slice none 0 0, .int .i64 0, .slice none 0 0, .int .i64 0] 56) := ⟨_, rfl⟩
  have hb8 : Bx W1 g8 [.int .i64 b.agency, .slice r1 b.seats.length l1, .slice r2 b.off.length l2, .int .i64 b.sent, .slice r4 b.took.length l4, .int .i64 b.cash] 56 := by subst hW1 hg8; exact (Bx.new _ [_, _, _, _, _, _] _).alloc _
  have hb9 : Bx W1 (g8 + 1) [.int .i64 0, .slice none 0 0, .slice none 0 0, .int .i64 0, .slice none 0 0, .int .i64 0] 56 := by subst hW1 hg8; exact Bx.new' _ [_, _, _, _, _, _] _ _ (by simp)
  have hS1 : Step W0 W1 := by subst hW1; exact (by repeat (first | (with_reducible assumption) | (with_reducible exact Step.refl _) | (with_reducible apply Step.s_alloc) | (with_reducible apply Step.s_drew) | (with_reducible apply Step.s_drewN) | (with_reducible refine Step.trans ?_ (by with_reducible assumption))))
  have hz1 : W1.heap.size = g8 + 2 := by subst hW1 hg8; simp
  rw [← hW1, ← hg8]
  have HG8 := Lib.hid hg8
  have HB8 := Lib.hid hb8
  have HB9 := Lib.hid hb9
  have HS1 := Lib.hid hS1
  have HZ1 := Lib.hid hz1
  have HBV := Lib.hid (show AV (fun j => S j ∨ w.heap.size ≤ j) W1 (.agg #[.int .i64 b.agency, .slice r1 b.seats.length l1, .slice r2 b.off.length l2, .int .i64 b.sent, .slice r4 b.took.length l4, .int .i64 b.cash]) b from ⟨_, rfl, _, _, _, rfl, s1.keep (.of_step hS1), s2.keep (.of_step hS1), s4.keep (.of_step hS1)⟩)
  clear hW1 hg8 hb8 hb9 hS1 hz1 s1 s2 s4
  (try clear e0 e1 e2 e3 e4)
  (try clear u0 u1)
  (try clear a0 a1 a2 a3 a4 a5 a6 a7 a8)
  obtain ⟨e0, e1, e2, e3, e4⟩ := cells5 (HB0.out.step HS1.out)
  obtain ⟨a0, a1, a2, a3, a4, a5, a6, a7, a8⟩ := cells9 (HB2.out.step HS1.out)
  obtain ⟨u0, u1⟩ : _ ∧ _ := ⟨(HB1.out.step HS1.out).cell 0, (HB1.out.step HS1.out).cell 1⟩
  simp only [zD, zE] at u0 u1
  obtain ⟨f0, f1, f2, f3, f4, f5⟩ := cells6 HB8.out
  obtain ⟨pM, cM, mb, mo, he, _, _, hpm, hcm, _⟩ := HWM.out.mess
  injection he with he1 he2 he3
  clear he2 he3
  have hpm := hpm (by omega)
  rw [← he1] at hpm
  subst hpm
  obtain ⟨mz, ⟨m0, m1, m2, m3, m4⟩, hmx⟩ := hcm k hkb
  obtain ⟨m, hm⟩ : ∃ m, m = W.msgs[k] := ⟨_, rfl⟩
  rw [← hm] at m0 m1 m2 m3 hmx
  have HGM := Lib.hid (show W.msgs.getD x.msg.toNat noMsg = m by rw [HMK.out, hm]; simp [List.getD_eq_getElem?_getD, hkb])
  clear he1 hcm hm
  obtain ⟨pmz, kmz, hfm⟩ := hmx.form
  subst hfm
  have HMX := Lib.hid (show AV (fun j => S j ∨ w.heap.size ≤ j) W1 (.agg #[.int .i64 m.frm, .int .i64 m.dst, .int .i64 m.number, .int .i64 m.shw, .slice pmz m.seats.length kmz]) m from ⟨_, rfl, _, rfl, hmx.keep (.of_step HS1.out)⟩)
  clear hmx
  have m0 := (HS1.out).kc m0; have m1 := (HS1.out).kc m1; have m2 := (HS1.out).kc m2; have m3 := (HS1.out).kc m3; have m4 := (HS1.out).kc m4
  have e1 : (x.kind == 1) = false := by simp [k4]
  have e2 : (x.kind == 2) = false := by simp [k4]
  have e3 : (x.kind == 3) = false := by simp [k4]
  have HKK := Lib.hid k4
  clear k4 d1 d2 hl1 hl2
  go_upto_region 18 with (fail)
  clear e1 e2 e3 d4
  (try clear e0 e1 e2 e3 e4)
  (try clear u0 u1)
  (try clear a0 a1 a2 a3 a4 a5 a6 a7 a8)
  obtain ⟨e0, e1, e2, e3, e4⟩ := cells5 (HB0.out.step HS1.out)
  obtain ⟨a0, a1, a2, a3, a4, a5, a6, a7, a8⟩ := cells9 (HB2.out.step HS1.out)
  obtain ⟨u0, u1⟩ : _ ∧ _ := ⟨(HB1.out.step HS1.out).cell 0, (HB1.out.step HS1.out).cell 1⟩
  simp only [zD, zE] at u0 u1
  have hmk := HMK.out
  have hrg : (0 : Int) ≤ x.msg ∧ x.msg < (W.msgs.length : Int) := by omega
  have htn : x.msg.toNat = k := by omega
  clear hmk
  refine wp_region_seqM (fun c d v a w h => by cases d <;> exact h) (kdOf [8] []) [0, 0, 0, 4, 0, 16, 60, 124, 255, 511, 1023, 1023, 2047, 8191] [0, 1, 2, 3, 4, 5, 6, 7, 8, 9, 10, 11] [12, 13] (by kernel_rfl) (by kernel_rfl) (fun i T z hi hk => by simp [kdOf] at hk <;> (try (split at hk <;> cases hk))) ?_
  intro Wx hWx
  have e0 := (hWx).kc e0; have e1 := (hWx).kc e1; have e2 := (hWx).kc e2; have e3 := (hWx).kc e3; have e4 := (hWx).kc e4; have u1 := (hWx).kc u1; have a7 := (hWx).kc a7; have f0 := (hWx).kc f0; have f1 := (hWx).kc f1; have f2 := (hWx).kc f2; have f3 := (hWx).kc f3; have f4 := (hWx).kc f4; have f5 := (hWx).kc f5; have m0 := (hWx).kc m0; have m1 := (hWx).kc m1; have m2 := (hWx).kc m2; have m3 := (hWx).kc m3; have m4 := (hWx).kc m4
  repeat (first | (refine run_off rfl rfl (by rfl) ?_; (try simp only [Act.put, zA, zB, zC])) | (refine run_chain_off rfl rfl (by rfl) (K0_mono _) ?_; (try simp only [Act.put, zA, zB, zC])) | ((refine run_want rfl rfl (by rfl) ⟨?_, fun W hW => ?_, ?_⟩; rotate_left; (· (have d0 := hW.kc e0; have d1 := hW.kc e1; have d2 := hW.kc e2; have d3 := hW.kc e3; have d4 := hW.kc e4; have d5 := hW.kc u1; have d6 := hW.kc a7; have d7 := hW.kc f0; have d8 := hW.kc f1; have d9 := hW.kc f2; have d10 := hW.kc f3; have d11 := hW.kc f4; have d12 := hW.kc f5; have d13 := hW.kc m0; have d14 := hW.kc m1; have d15 := hW.kc m2; have d16 := hW.kc m3; have d17 := hW.kc m4; go_simp; (try with_reducible rfl)))); (try simp only [Act.put, zA, zB, zC])))
  clear e0 e1 e2 e3 e4 u0 u1 a0 a1 a2 a3 a4 a5 a6 a7 a8 f0 f1 f2 f3 f4 f5 m0 m1 m2 m3 m4 hrg htn
  refine run_chain rfl rfl (by rfl) (fun Wi hWi K' hK => ?_)
  have HTi := Lib.hid (hWx.trans hWi)
  clear hWx hWi
  go_simp
  refine (RTake_any (fun _ => False) (fun j => S j ∨ w.heap.size ≤ j) h b m _ _ _ _ (HH.out.keep (.of_step (HS1.out.trans HTi.out))) ((av0 HBV.out).keep (.of_step HTi.out)) (HMX.out.keep (.of_step HTi.out)) HV.out.1 HBB.out.1).mono ?_
  rintro e wq ⟨v6, rfl, hv6, hSn⟩
  obtain ⟨P, hP⟩ : ∃ P, P = actR (takeD h b m) := ⟨_, rfl⟩
  rw [← hP] at hv6 ⊢
  obtain ⟨x1, x2, x4, rfl, t1, t2, t4⟩ := hv6.book
  obtain ⟨ra, na, rfl⟩ := t1.form
  obtain ⟨rb, nb2, rfl⟩ := t2.form
  obtain ⟨rc, nc, rfl⟩ := t4.form
  have HP := Lib.hid hP
  have HV6 := Lib.hid hv6
  have HSN := Lib.hid hSn
  clear hP t1 t2 t4 hv6 hSn
  refine hK _ _ (StepX.of HSN.out) ?_
  clear hK
  (try simp only [Act.put, zA, zB, zC])
  repeat (first | (refine run_off rfl rfl (by rfl) ?_; (try simp only [Act.put, zA, zB, zC])) | (refine run_chain_off rfl rfl (by rfl) (K0_mono _) ?_; (try simp only [Act.put, zA, zB, zC])) | ((refine run_want rfl rfl (by rfl) ⟨?_, fun W hW => ?_, ?_⟩; rotate_left; (· (skip; go_simp; (try with_reducible rfl)))); (try simp only [Act.put, zA, zB, zC])))
  refine run_end (L := [_, _]) rfl (fun W6 hW6 => ?_)
  replace HV6 := Lib.hid ((HV6.out.keep (.of_step hW6)).weak (T := Old W1) (fun j _ hj => by unfold Old at *; have := HTi.out.size; omega))
  have HSN2 := Lib.hid (show Step W1 W6 from (HTi.out.trans HSN.out).trans hW6)
  clear HSN HTi hW6
  have HSN := HSN2
  clear HSN2
  refine wpl_store (v := .agg #[.int .i64 P.1.agency, .slice ra P.1.seats.length na, .slice rb P.1.off.length nb2, .int .i64 P.1.sent, .slice rc P.1.took.length nc, .int .i64 P.1.cash]) rfl _ _ _ rfl rfl rfl (HB9.out.step HSN.out) (by kernel_rfl) (by simp [Value.cells]) (by simp [Value.cells, Value.oneCell']) [.int .i64 P.1.agency, .slice ra P.1.seats.length na, .slice rb P.1.off.length nb2, .int .i64 P.1.sent, .slice rc P.1.took.length nc, .int .i64 P.1.cash] rfl (fun wr hbr hwr => ?_)
  have HBR := Lib.hid (hbr)
  have HTR := Lib.hid (StepX.fresh (HS1.out.trans HSN.out) (hwr.stepX) (fun j hj => by have := HG8.out; omega))
  have hnb : AV (fun j => (S j ∨ j = w.heap.size + 3 ∨ j = g8 + 1) ∨ W6.heap.size ≤ j) W6 (.agg #[.int .i64 P.1.agency, .slice ra P.1.seats.length na, .slice rb P.1.off.length nb2, .int .i64 P.1.sent, .slice rc P.1.took.length nc, .int .i64 P.1.cash]) P.1 := HV6.out.weak (fun j hj hs => by
   unfold Old
   have h1 := HZ1.out
   have h2 := HG8.out
   have h3 := HZ.out
   rcases hs with (hs | hs) | hs
   ·have := HSL.out j hs; omega
   ·omega
   ·omega)
  have hsz : wr.heap.size = W6.heap.size ∨ W6.heap.size ≤ wr.heap.size := .inr (hwr.stepX).size
  have HNB := Lib.hid ((hnb.keep ((hwr.stepX).keeps.mono (T := fun j => (S j ∨ j = w.heap.size + 3 ∨ j = g8 + 1) ∨ W6.heap.size ≤ j) fun j _ e => .inl (.inr (.inr e)))))
  have HSQ := Lib.hid (hwr.stepX).size
  clear hnb hsz
  clear hbr hwr
  go_upto_region 21 with (fail)
  rcases act_two (nz_take h b m) with ⟨b', hrr, ha⟩ | ⟨c, hrr, hc0, ha⟩
  ·have hp2 : P.2 = 0 := by rw [HP.out, ha]
   have hp1 : P.1 = b' := by rw [HP.out, ha]
   subst hp1
   have HE := Lib.hid (show actD h W x = (⟨W.books.set i P.1, W.msgs ++ []⟩, 0) from actD_done HV.out.1 HE0.out HIA.out HGB.out HBB.out.1 (by unfold deskD; rw [if_neg (by rw [HKK.out]; decide), if_neg (by rw [HKK.out]; decide), if_neg (by rw [HKK.out]; decide), if_pos HKK.out, HGM.out, hrr]; rfl))
   have d9 : (P.2 != 0) = false := by rw [hp2]; rfl
   clear hp2 hrr
   (try clear e0 e1 e2 e3 e4)
   (try clear u0 u1)
   (try clear a0 a1 a2 a3 a4 a5 a6 a7 a8)
   obtain ⟨e0, e1, e2, e3, e4⟩ := cells5 (HB0.out.step HTR.out)
   obtain ⟨a0, a1, a2, a3, a4, a5, a6, a7, a8⟩ := cells9 (HB2.out.step HTR.out)
   obtain ⟨u0, u1⟩ : _ ∧ _ := ⟨(HB1.out.step HTR.out).cell 0, (HB1.out.step HTR.out).cell 1⟩
   simp only [zD, zE] at u0 u1
   have hu23 : SLe (avoid (fun j => S j ∨ j = w.heap.size + 3) (.slice none 0 0)) wr (.slice (some ⟨bb, bo, none⟩) W.books.length nb) W.books := ((HWB.out.keep (.of_step HTR.out)).weak (T := avoid (fun j => S j ∨ j = w.heap.size + 3) (.slice none 0 0)) (fun j _ hj => by
    rcases hj with (hj | hj) | hj
    ·exact .inl hj
    ·exact .inr (by omega)
    ·simp [Value.ownBlock] at hj)).e
   go_upto_region 24 with (at_builtin; refine wpl_append (α := Book) (S := fun j => S j ∨ j = w.heap.size + 3) (base := wr.heap.size) (v := .slice none 0 0) (l := []) (m := W.books) eiRefBooks rfl _ _ rfl rfl rfl (OwnL.nil _ _ _ _) hu23 W.books.length (by simp) W.books rfl (by simp only [maxLen]; omega) (by omega) (Nat.le_refl _) (fun p' c' w5 hown5 hg5 => ?_))
   have hst5 : Step wr w5 := StepX.grown hg5 (fun k hk _ => by simp [Value.ownBlock] at hk)
   clear hu23 hg5
   obtain ⟨g13, hg13⟩ : ∃ g, g = w5.heap.size := ⟨_, rfl⟩
   obtain ⟨W6, hW6⟩ : ∃ z9, z9 = w5.alloc (.cells #[.slice p' W.books.length c', .slice (some ⟨mb, mo, none⟩) W.msgs.length nm] 49) := ⟨_, rfl⟩
   have hb13 : Bx W6 g13 [.slice p' W.books.length c', .slice (some ⟨mb, mo, none⟩) W.msgs.length nm] 49 := by subst hW6 hg13; exact Bx.new _ [_, _] _
   have hst6 : Step wr W6 := by subst hW6; exact hst5.trans (Step.alloc _ _)
   have hown6 := hown5.step (show Step w5 W6 by subst hW6; exact Step.alloc _ _)
   rw [← hW6, ← hg13]
   have hlt13 : w5.heap.size ≤ g13 := by rw [hg13]; exact Nat.le_refl _
   have hng : ∀ g, (Value.slice p' W.books.length c').ownBlock = some g → g ≠ g13 := fun g hg e => by have := (hown5.lt g hg).2; omega
   clear hown5 hst5 hW6 hg13 hlt13
   obtain ⟨gB, cap, csB, hvb, hgb, hbxB, hcsB, _, hput⟩ := hown6.row_put hib
   rw [hvb] at hown6 hput hng hb13 ⊢
   have HNG := Lib.hid (hng gB rfl)
   have hrep : Rep.rep (avoid (fun j => S j ∨ j = w.heap.size + 3) (.slice (some ⟨gB, 0, none⟩) W.books.length cap)) W6 [.int .i64 P.1.agency, .slice ra P.1.seats.length na, .slice rb P.1.off.length nb2, .int .i64 P.1.sent, .slice rc P.1.took.length nc, .int .i64 P.1.cash] P.1 := by
    obtain ⟨cs9, he9, hr9⟩ := (HNB.out.keep (.of_step hst6))
    injection he9 with he9
    have hf9 : cs9 = [.int .i64 P.1.agency, .slice ra P.1.seats.length na, .slice rb P.1.off.length nb2, .int .i64 P.1.sent, .slice rc P.1.took.length nc, .int .i64 P.1.cash] := by
     have := congrArg Array.toList he9
     simpa using this.symm
    rw [hf9] at hr9
    refine Rep.weak (fun j _ hj => ?_) hr9
    rcases hj with (hj | hj) | hj
    ·exact .inl (.inl hj)
    ·exact .inl (.inr (.inl hj))
    ·right
     simp [Value.ownBlock] at hj
     have := HSQ.out
     omega
   have HST6 := Lib.hid hst6
   have HPUT := Lib.hid hput
   have HREP := Lib.hid hrep
   have HB13 := Lib.hid hb13
   have HBXB := Lib.hid hbxB
   have HCSB := Lib.hid (show i * 6 + 6 ≤ csB.length from hcsB)
   have HGB0 := Lib.hid hgb
   have HBR6 := Lib.hid (HBR.out.step hst6)
   clear hvb hgb hbxB hcsB hput hng hown6 hrep hst6 hb13
   (try clear e0 e1 e2 e3 e4)
   (try clear u0 u1)
   (try clear a0 a1 a2 a3 a4 a5 a6 a7 a8)
   obtain ⟨e0, e1, e2, e3, e4⟩ := cells5 (HB0.out.step (HTR.out.trans HST6.out))
   obtain ⟨a0, a1, a2, a3, a4, a5, a6, a7, a8⟩ := cells9 (HB2.out.step (HTR.out.trans HST6.out))
   obtain ⟨u0, u1⟩ : _ ∧ _ := ⟨(HB1.out.step (HTR.out.trans HST6.out)).cell 0, (HB1.out.step (HTR.out.trans HST6.out)).cell 1⟩
   simp only [zD, zE] at u0 u1
   obtain ⟨z0, z1, z2, z3, z4, z5⟩ := cells6 HBR6.out
   have y0 := HB13.out.cell 0
   have y1 := HB13.out.cell 1
   simp only [zD, zE] at y0 y1
   have hia := HIA.out
   have hrg : (0 : Int) ≤ x.agency ∧ x.agency < (W.books.length : Int) := by omega
   have htn : x.agency.toNat = i := by omega
   clear hia
   go_upto_region 25 with (refine wpl_store (v := .agg #[.int .i64 P.1.agency, .slice ra P.1.seats.length na, .slice rb P.1.off.length nb2, .int .i64 P.1.sent, .slice rc P.1.took.length nc, .int .i64 P.1.cash]) rfl _ _ _ rfl rfl rfl HBXB.out (by kernel_rfl) (by simp [Value.cells]; exact HCSB.out) (by simp [Value.cells, Value.oneCell']) (csB.take (i * 6) ++ [.int .i64 P.1.agency, .slice ra P.1.seats.length na, .slice rb P.1.off.length nb2, .int .i64 P.1.sent, .slice rc P.1.took.length nc, .int .i64 P.1.cash] ++ csB.drop (i * 6 + 6)) rfl (fun w10 hb10 hw10 => ?_))
   have hown10 := HPUT.out w10 _ P.1 HREP.out hw10 hb10
   have hst10 : Step wr w10 := Step.wrote HST6.out hw10 HGB0.out
   have hb13 := HB13.out.keep (Keeps.wrote (S := fun j => j = gB) hw10 rfl) (fun e => HNG.out e.symm)
   have HO10 := Lib.hid hown10
   have HS10 := Lib.hid (HTR.out.trans hst10)
   have HSR := Lib.hid hst10
   clear hown10 hst10 hw10 hb10 HPUT HREP hrg htn z0 z1 z2 z3 z4 z5 y0 y1
   have y0 := hb13.cell 0
   have y1 := hb13.cell 1
   simp only [zD, zE] at y0 y1
   have t0 := (HB3.out.step HS10.out).cell 0
   have t1 := (HB3.out.step HS10.out).cell 1
   have tf0 := (HB3.out.step HS10.out).frozen 0
   have tf1 := (HB3.out.step HS10.out).frozen 1
   simp only [zD, zE] at t0 t1
   clear hb13
   go_wp2
   have b2 := set2r (HB3.out.step HS10.out) (.slice (some ⟨gB, 0, none⟩) W.books.length cap) (.slice (some ⟨mb, mo, none⟩) W.msgs.length nm)
   refine ret_struct2 (k := 2) rfl siRefWorld rfl b2.1 rfl rfl ?_
   rw [HE.out]
   have hk2 := b2.2.keeps.mono (T := fun j => S j ∨ w.heap.size ≤ j) fun j _ e => .inr (by omega)
   have hk3 := b2.2.keeps.mono (T := fun j => S j ∨ j = w.heap.size + 3) fun j _ e => .inr e
   have hsl := HO10.out.sl (fun g hg _ hs => by
    have h1 := HTR.out.size
    have h2 := HZ.out
    rcases hs with hs | hs
    ·have := HSL.out g hs; omega
    ·omega)
   exact ⟨_, rfl, ⟨_, rfl, _, _, rfl, (hsl.keep hk3).weak (fun _ _ h => .inl h), by rw [List.append_nil]; exact ((HWM.out.keep (.of_step HS10.out)).keep hk2).weak (fun _ _ h => .inl h)⟩, StepX.fresh (HS.out.trans HS10.out) b2.2 (fun j hj => by omega)⟩
  ·have hp2 : P.2 = c := by rw [HP.out, ha]
   have HE := Lib.hid (show actD h W x = (W, P.2) by
    rw [hp2]
    exact actD_refused HV.out.1 HE0.out HIA.out HGB.out HBB.out.1 (by unfold deskD; rw [if_neg (by rw [HKK.out]; decide), if_neg (by rw [HKK.out]; decide), if_neg (by rw [HKK.out]; decide), if_pos HKK.out, HGM.out, hrr]; rfl))
   have d9 : (P.2 != 0) = true := by rw [bne_iff_ne, hp2]; exact hc0
   clear hp2 hc0 hrr
   (try clear e0 e1 e2 e3 e4)
   (try clear u0 u1)
   (try clear a0 a1 a2 a3 a4 a5 a6 a7 a8)
   obtain ⟨e0, e1, e2, e3, e4⟩ := cells5 (HB0.out.step HTR.out)
   obtain ⟨a0, a1, a2, a3, a4, a5, a6, a7, a8⟩ := cells9 (HB2.out.step HTR.out)
   obtain ⟨u0, u1⟩ : _ ∧ _ := ⟨(HB1.out.step HTR.out).cell 0, (HB1.out.step HTR.out).cell 1⟩
   simp only [zD, zE] at u0 u1
   have t0 := (HB3.out.step HTR.out).cell 0
   have t1 := (HB3.out.step HTR.out).cell 1
   have tf0 := (HB3.out.step HTR.out).frozen 0
   have tf1 := (HB3.out.step HTR.out).frozen 1
   simp only [zD, zE] at t0 t1
   go_wp2
   have b2 := set2r (HB3.out.step HTR.out) (.slice (some ⟨bb, bo, none⟩) W.books.length nb) (.slice (some ⟨mb, mo, none⟩) W.msgs.length nm)
   refine ret_struct2 (k := 2) rfl siRefWorld rfl b2.1 rfl rfl ?_
   rw [HE.out]
   have hk2 := b2.2.keeps.mono (T := fun j => S j ∨ w.heap.size ≤ j) fun j _ e => .inr (by omega)
   exact ⟨_, rfl, ⟨_, rfl, _, _, rfl, ((HWB.out.keep (.of_step HTR.out)).keep hk2).weak (fun _ _ h => .inl h), ((HWM.out.keep (.of_step HTR.out)).keep hk2).weak (fun _ _ h => .inl h)⟩, StepX.fresh (HS.out.trans HTR.out) b2.2 (fun j hj => by omega)⟩
 ·have d4 : (x.kind == 4) = false := by simp [k4]
  have HE0 := Lib.hid (actE_zero HK.out HQA.out fun e => absurd e k4)
  have hkk : x.kind = 1 ∨ x.kind = 2 ∨ x.kind = 3 ∨ x.kind = 5 := by have := HKL.out; omega
  clear k4
  have hwk := HV.out.2.1
  obtain ⟨pQ, cQ, bb, bo, he, _, _, hpb, hcb, _⟩ := HWB.out.books
  injection he with he1 he2 he3
  clear he2 he3
  have hpb := hpb (by omega)
  rw [← he1] at hpb
  subst hpb
  obtain ⟨z1, z2, z4, ⟨f0, f1, f2, f3, f4, f5⟩, s1, s2, s4⟩ := hcb i hib
  obtain ⟨b, hb⟩ : ∃ b, b = W.books[i] := ⟨_, rfl⟩
  have hbb := hwk.book i hib
  rw [← hb] at f0 f3 f5 s1 s2 s4 hbb
  have HBB := Lib.hid hbb
  have HGB := Lib.hid (show W.books.getD i noBook = b by rw [hb]; simp [List.getD_eq_getElem?_getD, hib])
  clear he1 hcb hb hbb hwk
  obtain ⟨r1, l1, hf1⟩ := s1.form
  obtain ⟨r2, l2, hf2⟩ := s2.form
  obtain ⟨r4, l4, hf4⟩ := s4.form
  subst hf1 hf2 hf4
  have hia := HIA.out
  have hrg : (0 : Int) ≤ x.agency ∧ x.agency < (W.books.length : Int) := by omega
  have htn : x.agency.toNat = i := by omega
  clear hia
  go_upto_region 7 with (fail)
  clear hrg htn f0 f1 f2 f3 f4 f5
  obtain ⟨g8, hg8⟩ : ∃ g, g = W0.heap.size := ⟨_, rfl⟩
  obtain ⟨W1, hW1⟩ : ∃ W, W = (W0.alloc (.cells #[.int .i64 b.agency, .slice r1 b.seats.length l1, .slice r2 b.off.length l2, .int .i64 b.sent, .slice r4 b.took.length l4, .int .i64 b.cash] 56)).alloc (.cells #[.int .i64 0, .slice none 0 0, .slice none 0 0, .int .i64 0, .slice none 0 0, .int .i64 0] 56) := ⟨_, rfl⟩
  have hb8 : Bx W1 g8 [.int .i64 b.agency, .slice r1 b.seats.length l1, .slice r2 b.off.length l2, .int .i64 b.sent, .slice r4 b.took.length l4, .int .i64 b.cash] 56 := by subst hW1 hg8; exact (Bx.new _ [_, _, _, _, _, _] _).alloc _
  have hb9 : Bx W1 (g8 + 1) [.int .i64 0, .slice none 0 0, .slice none 0 0, .int .i64 0, .slice none 0 0, .int .i64 0] 56 := by subst hW1 hg8; exact Bx.new' _ [_, _, _, _, _, _] _ _ (by simp)
  have hS1 : Step W0 W1 := by subst hW1; exact (by repeat (first | (with_reducible assumption) | (with_reducible exact Step.refl _) | (with_reducible apply Step.s_alloc) | (with_reducible apply Step.s_drew) | (with_reducible apply Step.s_drewN) | (with_reducible refine Step.trans ?_ (by with_reducible assumption))))
  have hz1 : W1.heap.size = g8 + 2 := by subst hW1 hg8; simp
  rw [← hW1, ← hg8]
  have HG8 := Lib.hid hg8
  have HB8 := Lib.hid hb8
  have HB9 := Lib.hid hb9
  have HS1 := Lib.hid hS1
  have HZ1 := Lib.hid hz1
  have HBV := Lib.hid (show AV (fun j => S j ∨ w.heap.size ≤ j) W1 (.agg #[.int .i64 b.agency, .slice r1 b.seats.length l1, .slice r2 b.off.length l2, .int .i64 b.sent, .slice r4 b.took.length l4, .int .i64 b.cash]) b from ⟨_, rfl, _, _, _, rfl, s1.keep (.of_step hS1), s2.keep (.of_step hS1), s4.keep (.of_step hS1)⟩)
  clear hW1 hg8 hb8 hb9 hS1 hz1 s1 s2 s4
  (try clear e0 e1 e2 e3 e4)
  (try clear u0 u1)
  (try clear a0 a1 a2 a3 a4 a5 a6 a7 a8)
  obtain ⟨e0, e1, e2, e3, e4⟩ := cells5 (HB0.out.step HS1.out)
  obtain ⟨a0, a1, a2, a3, a4, a5, a6, a7, a8⟩ := cells9 (HB2.out.step HS1.out)
  obtain ⟨u0, u1⟩ : _ ∧ _ := ⟨(HB1.out.step HS1.out).cell 0, (HB1.out.step HS1.out).cell 1⟩
  simp only [zD, zE] at u0 u1
  obtain ⟨f0, f1, f2, f3, f4, f5⟩ := cells6 HB8.out
  rcases hkk with hk | hk | hk | hk
  ·have e1 : (x.kind == 1) = true := by simp [hk]
   have HKK := Lib.hid hk
   clear hk d1 d2 d4 hl1 hl2
   go_wp2_with fail
   refine (RSell_any (fun _ => False) h b _ _ x.shw x.seat x.buyer x.day _ (HH.out.keep (.of_step HS1.out)) (av0 HBV.out) HV.out.1 HBB.out.1).mono ?_
   rintro e wq ⟨v6, rfl, hv6, hSn⟩
   obtain ⟨P, hP⟩ : ∃ P, P = actR (sellD h b x.shw x.seat x.buyer x.day) := ⟨_, rfl⟩
   rw [← hP] at hv6 ⊢
   obtain ⟨x1, x2, x4, rfl, t1, t2, t4⟩ := hv6.book
   obtain ⟨ra, na, rfl⟩ := t1.form
   obtain ⟨rb, nb2, rfl⟩ := t2.form
   obtain ⟨rc, nc, rfl⟩ := t4.form
   have HP := Lib.hid hP
   have HV6 := Lib.hid hv6
   have HSN := Lib.hid hSn
   clear hP t1 t2 t4 hv6 hSn
   have hb9q := HB9.out.step HSN.out
   obtain ⟨z0, z1, z2, z3, z4, z5⟩ := cells6 hb9q
   have tz0 := hb9q.frozen 0
   have tz1 := hb9q.frozen 1
   have tz2 := hb9q.frozen 2
   have tz3 := hb9q.frozen 3
   have tz4 := hb9q.frozen 4
   have tz5 := hb9q.frozen 5
   go_upto_region 21 with (fail)
   have b6 := set6 hb9q (.int .i64 P.1.agency) (.slice ra P.1.seats.length na) (.slice rb P.1.off.length nb2) (.int .i64 P.1.sent) (.slice rc P.1.took.length nc) (.int .i64 P.1.cash)
   generalize ((((((wq.setCell ⟨g8 + 1, 0, none⟩ (.int .i64 P.1.agency)).setCell ⟨g8 + 1, 1, none⟩ (.slice ra P.1.seats.length na)).setCell ⟨g8 + 1, 2, none⟩ (.slice rb P.1.off.length nb2)).setCell ⟨g8 + 1, 3, none⟩ (.int .i64 P.1.sent)).setCell ⟨g8 + 1, 4, none⟩ (.slice rc P.1.took.length nc)).setCell ⟨g8 + 1, 5, none⟩ (.int .i64 P.1.cash)) = wr at b6 ⊢
   clear hb9q z0 z1 z2 z3 z4 z5 tz0 tz1 tz2 tz3 tz4 tz5
   have HBR := Lib.hid (b6.1)
   have HTR := Lib.hid (StepX.fresh (HS1.out.trans HSN.out) (b6.2) (fun j hj => by have := HG8.out; omega))
   have hnb : AV (fun j => (S j ∨ j = w.heap.size + 3 ∨ j = g8 + 1) ∨ wq.heap.size ≤ j) wq (.agg #[.int .i64 P.1.agency, .slice ra P.1.seats.length na, .slice rb P.1.off.length nb2, .int .i64 P.1.sent, .slice rc P.1.took.length nc, .int .i64 P.1.cash]) P.1 := HV6.out.weak (fun j hj hs => by
    unfold Old
    have h1 := HZ1.out
    have h2 := HG8.out
    have h3 := HZ.out
    rcases hs with (hs | hs) | hs
    ·have := HSL.out j hs; omega
    ·omega
    ·omega)
   have hsz : wr.heap.size = wq.heap.size ∨ wq.heap.size ≤ wr.heap.size := .inr (b6.2).size
   have HNB := Lib.hid ((hnb.keep ((b6.2).keeps.mono (T := fun j => (S j ∨ j = w.heap.size + 3 ∨ j = g8 + 1) ∨ wq.heap.size ≤ j) fun j _ e => .inl (.inr (.inr e)))))
   have HSQ := Lib.hid (b6.2).size
   clear hnb hsz
   clear b6
   rcases act_two (nz_sell h b x.shw x.seat x.buyer x.day) with ⟨b', hrr, ha⟩ | ⟨c, hrr, hc0, ha⟩
   ·have hp2 : P.2 = 0 := by rw [HP.out, ha]
    have hp1 : P.1 = b' := by rw [HP.out, ha]
    subst hp1
    have HE := Lib.hid (show actD h W x = (⟨W.books.set i P.1, W.msgs ++ []⟩, 0) from actD_done HV.out.1 HE0.out HIA.out HGB.out HBB.out.1 (by unfold deskD; rw [if_pos HKK.out, hrr]; rfl))
    have d9 : (P.2 != 0) = false := by rw [hp2]; rfl
    clear hp2 hrr
    (try clear e0 e1 e2 e3 e4)
    (try clear u0 u1)
    (try clear a0 a1 a2 a3 a4 a5 a6 a7 a8)
    obtain ⟨e0, e1, e2, e3, e4⟩ := cells5 (HB0.out.step HTR.out)
    obtain ⟨a0, a1, a2, a3, a4, a5, a6, a7, a8⟩ := cells9 (HB2.out.step HTR.out)
    obtain ⟨u0, u1⟩ : _ ∧ _ := ⟨(HB1.out.step HTR.out).cell 0, (HB1.out.step HTR.out).cell 1⟩
    simp only [zD, zE] at u0 u1
    have hu23 : SLe (avoid (fun j => S j ∨ j = w.heap.size + 3) (.slice none 0 0)) wr (.slice (some ⟨bb, bo, none⟩) W.books.length nb) W.books := ((HWB.out.keep (.of_step HTR.out)).weak (T := avoid (fun j => S j ∨ j = w.heap.size + 3) (.slice none 0 0)) (fun j _ hj => by
     rcases hj with (hj | hj) | hj
     ·exact .inl hj
     ·exact .inr (by omega)
     ·simp [Value.ownBlock] at hj)).e
    go_upto_region 24 with (at_builtin; refine wpl_append (α := Book) (S := fun j => S j ∨ j = w.heap.size + 3) (base := wr.heap.size) (v := .slice none 0 0) (l := []) (m := W.books) eiRefBooks rfl _ _ rfl rfl rfl (OwnL.nil _ _ _ _) hu23 W.books.length (by simp) W.books rfl (by simp only [maxLen]; omega) (by omega) (Nat.le_refl _) (fun p' c' w5 hown5 hg5 => ?_))
    have hst5 : Step wr w5 := StepX.grown hg5 (fun k hk _ => by simp [Value.ownBlock] at hk)
    clear hu23 hg5
    obtain ⟨g13, hg13⟩ : ∃ g, g = w5.heap.size := ⟨_, rfl⟩
    obtain ⟨W6, hW6⟩ : ∃ z9, z9 = w5.alloc (.cells #[.slice p' W.books.length c', .slice qm W.msgs.length nm] 49) := ⟨_, rfl⟩
    have hb13 : Bx W6 g13 [.slice p' W.books.length c', .slice qm W.msgs.length nm] 49 := by subst hW6 hg13; exact Bx.new _ [_, _] _
    have hst6 : Step wr W6 := by subst hW6; exact hst5.trans (Step.alloc _ _)
    have hown6 := hown5.step (show Step w5 W6 by subst hW6; exact Step.alloc _ _)
    rw [← hW6, ← hg13]
    have hlt13 : w5.heap.size ≤ g13 := by rw [hg13]; exact Nat.le_refl _
    have hng : ∀ g, (Value.slice p' W.books.length c').ownBlock = some g → g ≠ g13 := fun g hg e => by have := (hown5.lt g hg).2; omega
    clear hown5 hst5 hW6 hg13 hlt13
    obtain ⟨gB, cap, csB, hvb, hgb, hbxB, hcsB, _, hput⟩ := hown6.row_put hib
    rw [hvb] at hown6 hput hng hb13 ⊢
    have HNG := Lib.hid (hng gB rfl)
    have hrep : Rep.rep (avoid (fun j => S j ∨ j = w.heap.size + 3) (.slice (some ⟨gB, 0, none⟩) W.books.length cap)) W6 [.int .i64 P.1.agency, .slice ra P.1.seats.length na, .slice rb P.1.off.length nb2, .int .i64 P.1.sent, .slice rc P.1.took.length nc, .int .i64 P.1.cash] P.1 := by
     obtain ⟨cs9, he9, hr9⟩ := (HNB.out.keep (.of_step hst6))
     injection he9 with he9
     have hf9 : cs9 = [.int .i64 P.1.agency, .slice ra P.1.seats.length na, .slice rb P.1.off.length nb2, .int .i64 P.1.sent, .slice rc P.1.took.length nc, .int .i64 P.1.cash] := by
      have := congrArg Array.toList he9
      simpa using this.symm
     rw [hf9] at hr9
     refine Rep.weak (fun j _ hj => ?_) hr9
     rcases hj with (hj | hj) | hj
     ·exact .inl (.inl hj)
     ·exact .inl (.inr (.inl hj))
     ·right
      simp [Value.ownBlock] at hj
      have := HSQ.out
      omega
    have HST6 := Lib.hid hst6
    have HPUT := Lib.hid hput
    have HREP := Lib.hid hrep
    have HB13 := Lib.hid hb13
    have HBXB := Lib.hid hbxB
    have HCSB := Lib.hid (show i * 6 + 6 ≤ csB.length from hcsB)
    have HGB0 := Lib.hid hgb
    have HBR6 := Lib.hid (HBR.out.step hst6)
    clear hvb hgb hbxB hcsB hput hng hown6 hrep hst6 hb13
    (try clear e0 e1 e2 e3 e4)
    (try clear u0 u1)
    (try clear a0 a1 a2 a3 a4 a5 a6 a7 a8)
    obtain ⟨e0, e1, e2, e3, e4⟩ := cells5 (HB0.out.step (HTR.out.trans HST6.out))
    obtain ⟨a0, a1, a2, a3, a4, a5, a6, a7, a8⟩ := cells9 (HB2.out.step (HTR.out.trans HST6.out))
    obtain ⟨u0, u1⟩ : _ ∧ _ := ⟨(HB1.out.step (HTR.out.trans HST6.out)).cell 0, (HB1.out.step (HTR.out.trans HST6.out)).cell 1⟩
    simp only [zD, zE] at u0 u1
    obtain ⟨z0, z1, z2, z3, z4, z5⟩ := cells6 HBR6.out
    have y0 := HB13.out.cell 0
    have y1 := HB13.out.cell 1
    simp only [zD, zE] at y0 y1
    have hia := HIA.out
    have hrg : (0 : Int) ≤ x.agency ∧ x.agency < (W.books.length : Int) := by omega
    have htn : x.agency.toNat = i := by omega
    clear hia
    go_upto_region 25 with (refine wpl_store (v := .agg #[.int .i64 P.1.agency, .slice ra P.1.seats.length na, .slice rb P.1.off.length nb2, .int .i64 P.1.sent, .slice rc P.1.took.length nc, .int .i64 P.1.cash]) rfl _ _ _ rfl rfl rfl HBXB.out (by kernel_rfl) (by simp [Value.cells]; exact HCSB.out) (by simp [Value.cells, Value.oneCell']) (csB.take (i * 6) ++ [.int .i64 P.1.agency, .slice ra P.1.seats.length na, .slice rb P.1.off.length nb2, .int .i64 P.1.sent, .slice rc P.1.took.length nc, .int .i64 P.1.cash] ++ csB.drop (i * 6 + 6)) rfl (fun w10 hb10 hw10 => ?_))
    have hown10 := HPUT.out w10 _ P.1 HREP.out hw10 hb10
    have hst10 : Step wr w10 := Step.wrote HST6.out hw10 HGB0.out
    have hb13 := HB13.out.keep (Keeps.wrote (S := fun j => j = gB) hw10 rfl) (fun e => HNG.out e.symm)
    have HO10 := Lib.hid hown10
    have HS10 := Lib.hid (HTR.out.trans hst10)
    have HSR := Lib.hid hst10
    clear hown10 hst10 hw10 hb10 HPUT HREP hrg htn z0 z1 z2 z3 z4 z5 y0 y1
    have y0 := hb13.cell 0
    have y1 := hb13.cell 1
    simp only [zD, zE] at y0 y1
    have t0 := (HB3.out.step HS10.out).cell 0
    have t1 := (HB3.out.step HS10.out).cell 1
    have tf0 := (HB3.out.step HS10.out).frozen 0
    have tf1 := (HB3.out.step HS10.out).frozen 1
    simp only [zD, zE] at t0 t1
    clear hb13
    go_wp2
    have b2 := set2r (HB3.out.step HS10.out) (.slice (some ⟨gB, 0, none⟩) W.books.length cap) (.slice qm W.msgs.length nm)
    refine ret_struct2 (k := 2) rfl siRefWorld rfl b2.1 rfl rfl ?_
    rw [HE.out]
    have hk2 := b2.2.keeps.mono (T := fun j => S j ∨ w.heap.size ≤ j) fun j _ e => .inr (by omega)
    have hk3 := b2.2.keeps.mono (T := fun j => S j ∨ j = w.heap.size + 3) fun j _ e => .inr e
    have hsl := HO10.out.sl (fun g hg _ hs => by
     have h1 := HTR.out.size
     have h2 := HZ.out
     rcases hs with hs | hs
     ·have := HSL.out g hs; omega
     ·omega)
    exact ⟨_, rfl, ⟨_, rfl, _, _, rfl, (hsl.keep hk3).weak (fun _ _ h => .inl h), by rw [List.append_nil]; exact ((HWM.out.keep (.of_step HS10.out)).keep hk2).weak (fun _ _ h => .inl h)⟩, StepX.fresh (HS.out.trans HS10.out) b2.2 (fun j hj => by omega)⟩
   ·have hp2 : P.2 = c := by rw [HP.out, ha]
    have HE := Lib.hid (show actD h W x = (W, P.2) by
     rw [hp2]
     exact actD_refused HV.out.1 HE0.out HIA.out HGB.out HBB.out.1 (by unfold deskD; rw [if_pos HKK.out, hrr]; rfl))
    have d9 : (P.2 != 0) = true := by rw [bne_iff_ne, hp2]; exact hc0
    clear hp2 hc0 hrr
    (try clear e0 e1 e2 e3 e4)
    (try clear u0 u1)
    (try clear a0 a1 a2 a3 a4 a5 a6 a7 a8)
    obtain ⟨e0, e1, e2, e3, e4⟩ := cells5 (HB0.out.step HTR.out)
    obtain ⟨a0, a1, a2, a3, a4, a5, a6, a7, a8⟩ := cells9 (HB2.out.step HTR.out)
    obtain ⟨u0, u1⟩ : _ ∧ _ := ⟨(HB1.out.step HTR.out).cell 0, (HB1.out.step HTR.out).cell 1⟩
    simp only [zD, zE] at u0 u1
    have t0 := (HB3.out.step HTR.out).cell 0
    have t1 := (HB3.out.step HTR.out).cell 1
    have tf0 := (HB3.out.step HTR.out).frozen 0
    have tf1 := (HB3.out.step HTR.out).frozen 1
    simp only [zD, zE] at t0 t1
    go_wp2
    have b2 := set2r (HB3.out.step HTR.out) (.slice (some ⟨bb, bo, none⟩) W.books.length nb) (.slice (qm) W.msgs.length nm)
    refine ret_struct2 (k := 2) rfl siRefWorld rfl b2.1 rfl rfl ?_
    rw [HE.out]
    have hk2 := b2.2.keeps.mono (T := fun j => S j ∨ w.heap.size ≤ j) fun j _ e => .inr (by omega)
    exact ⟨_, rfl, ⟨_, rfl, _, _, rfl, ((HWB.out.keep (.of_step HTR.out)).keep hk2).weak (fun _ _ h => .inl h), ((HWM.out.keep (.of_step HTR.out)).keep hk2).weak (fun _ _ h => .inl h)⟩, StepX.fresh (HS.out.trans HTR.out) b2.2 (fun j hj => by omega)⟩
  ·have e1 : (x.kind == 1) = false := by simp [hk]
   have e2 : (x.kind == 2) = true := by simp [hk]
   have HKK := Lib.hid hk
   clear hk d1 d2 d4 hl1 hl2
   go_wp2_with fail
   refine (RRefund_any (fun _ => False) h b _ _ x.shw x.seat _ (HH.out.keep (.of_step HS1.out)) (av0 HBV.out) HV.out.1 HBB.out.1).mono ?_
   rintro e wq ⟨v6, rfl, hv6, hSn⟩
   obtain ⟨P, hP⟩ : ∃ P, P = actR (refundD h b x.shw x.seat) := ⟨_, rfl⟩
   rw [← hP] at hv6 ⊢
   obtain ⟨x1, x2, x4, rfl, t1, t2, t4⟩ := hv6.book
   obtain ⟨ra, na, rfl⟩ := t1.form
   obtain ⟨rb, nb2, rfl⟩ := t2.form
   obtain ⟨rc, nc, rfl⟩ := t4.form
   have HP := Lib.hid hP
   have HV6 := Lib.hid hv6
   have HSN := Lib.hid hSn
   clear hP t1 t2 t4 hv6 hSn
   have hb9q := HB9.out.step HSN.out
   obtain ⟨z0, z1, z2, z3, z4, z5⟩ := cells6 hb9q
   have tz0 := hb9q.frozen 0
   have tz1 := hb9q.frozen 1
   have tz2 := hb9q.frozen 2
   have tz3 := hb9q.frozen 3
   have tz4 := hb9q.frozen 4
   have tz5 := hb9q.frozen 5
   go_upto_region 21 with (fail)
   have b6 := set6 hb9q (.int .i64 P.1.agency) (.slice ra P.1.seats.length na) (.slice rb P.1.off.length nb2) (.int .i64 P.1.sent) (.slice rc P.1.took.length nc) (.int .i64 P.1.cash)
   generalize ((((((wq.setCell ⟨g8 + 1, 0, none⟩ (.int .i64 P.1.agency)).setCell ⟨g8 + 1, 1, none⟩ (.slice ra P.1.seats.length na)).setCell ⟨g8 + 1, 2, none⟩ (.slice rb P.1.off.length nb2)).setCell ⟨g8 + 1, 3, none⟩ (.int .i64 P.1.sent)).setCell ⟨g8 + 1, 4, none⟩ (.slice rc P.1.took.length nc)).setCell ⟨g8 + 1, 5, none⟩ (.int .i64 P.1.cash)) = wr at b6 ⊢
   clear hb9q z0 z1 z2 z3 z4 z5 tz0 tz1 tz2 tz3 tz4 tz5
   have HBR := Lib.hid (b6.1)
   have HTR := Lib.hid (StepX.fresh (HS1.out.trans HSN.out) (b6.2) (fun j hj => by have := HG8.out; omega))
   have hnb : AV (fun j => (S j ∨ j = w.heap.size + 3 ∨ j = g8 + 1) ∨ wq.heap.size ≤ j) wq (.agg #[.int .i64 P.1.agency, .slice ra P.1.seats.length na, .slice rb P.1.off.length nb2, .int .i64 P.1.sent, .slice rc P.1.took.length nc, .int .i64 P.1.cash]) P.1 := HV6.out.weak (fun j hj hs => by
    unfold Old
    have h1 := HZ1.out
    have h2 := HG8.out
    have h3 := HZ.out
    rcases hs with (hs | hs) | hs
    ·have := HSL.out j hs; omega
    ·omega
    ·omega)
   have hsz : wr.heap.size = wq.heap.size ∨ wq.heap.size ≤ wr.heap.size := .inr (b6.2).size
   have HNB := Lib.hid ((hnb.keep ((b6.2).keeps.mono (T := fun j => (S j ∨ j = w.heap.size + 3 ∨ j = g8 + 1) ∨ wq.heap.size ≤ j) fun j _ e => .inl (.inr (.inr e)))))
   have HSQ := Lib.hid (b6.2).size
   clear hnb hsz
   clear b6
   rcases act_two (nz_refund h b x.shw x.seat) with ⟨b', hrr, ha⟩ | ⟨c, hrr, hc0, ha⟩
   ·have hp2 : P.2 = 0 := by rw [HP.out, ha]
    have hp1 : P.1 = b' := by rw [HP.out, ha]
    subst hp1
    have HE := Lib.hid (show actD h W x = (⟨W.books.set i P.1, W.msgs ++ []⟩, 0) from actD_done HV.out.1 HE0.out HIA.out HGB.out HBB.out.1 (by unfold deskD; rw [if_neg (by rw [HKK.out]; decide), if_pos HKK.out, hrr]; rfl))
    have d9 : (P.2 != 0) = false := by rw [hp2]; rfl
    clear hp2 hrr
    (try clear e0 e1 e2 e3 e4)
    (try clear u0 u1)
    (try clear a0 a1 a2 a3 a4 a5 a6 a7 a8)
    obtain ⟨e0, e1, e2, e3, e4⟩ := cells5 (HB0.out.step HTR.out)
    obtain ⟨a0, a1, a2, a3, a4, a5, a6, a7, a8⟩ := cells9 (HB2.out.step HTR.out)
    obtain ⟨u0, u1⟩ : _ ∧ _ := ⟨(HB1.out.step HTR.out).cell 0, (HB1.out.step HTR.out).cell 1⟩
    simp only [zD, zE] at u0 u1
    have hu23 : SLe (avoid (fun j => S j ∨ j = w.heap.size + 3) (.slice none 0 0)) wr (.slice (some ⟨bb, bo, none⟩) W.books.length nb) W.books := ((HWB.out.keep (.of_step HTR.out)).weak (T := avoid (fun j => S j ∨ j = w.heap.size + 3) (.slice none 0 0)) (fun j _ hj => by
     rcases hj with (hj | hj) | hj
     ·exact .inl hj
     ·exact .inr (by omega)
     ·simp [Value.ownBlock] at hj)).e
    go_upto_region 24 with (at_builtin; refine wpl_append (α := Book) (S := fun j => S j ∨ j = w.heap.size + 3) (base := wr.heap.size) (v := .slice none 0 0) (l := []) (m := W.books) eiRefBooks rfl _ _ rfl rfl rfl (OwnL.nil _ _ _ _) hu23 W.books.length (by simp) W.books rfl (by simp only [maxLen]; omega) (by omega) (Nat.le_refl _) (fun p' c' w5 hown5 hg5 => ?_))
    have hst5 : Step wr w5 := StepX.grown hg5 (fun k hk _ => by simp [Value.ownBlock] at hk)
    clear hu23 hg5
    obtain ⟨g13, hg13⟩ : ∃ g, g = w5.heap.size := ⟨_, rfl⟩
    obtain ⟨W6, hW6⟩ : ∃ z9, z9 = w5.alloc (.cells #[.slice p' W.books.length c', .slice qm W.msgs.length nm] 49) := ⟨_, rfl⟩
    have hb13 : Bx W6 g13 [.slice p' W.books.length c', .slice qm W.msgs.length nm] 49 := by subst hW6 hg13; exact Bx.new _ [_, _] _
    have hst6 : Step wr W6 := by subst hW6; exact hst5.trans (Step.alloc _ _)
    have hown6 := hown5.step (show Step w5 W6 by subst hW6; exact Step.alloc _ _)
    rw [← hW6, ← hg13]
    have hlt13 : w5.heap.size ≤ g13 := by rw [hg13]; exact Nat.le_refl _
    have hng : ∀ g, (Value.slice p' W.books.length c').ownBlock = some g → g ≠ g13 := fun g hg e => by have := (hown5.lt g hg).2; omega
    clear hown5 hst5 hW6 hg13 hlt13
    obtain ⟨gB, cap, csB, hvb, hgb, hbxB, hcsB, _, hput⟩ := hown6.row_put hib
    rw [hvb] at hown6 hput hng hb13 ⊢
    have HNG := Lib.hid (hng gB rfl)
    have hrep : Rep.rep (avoid (fun j => S j ∨ j = w.heap.size + 3) (.slice (some ⟨gB, 0, none⟩) W.books.length cap)) W6 [.int .i64 P.1.agency, .slice ra P.1.seats.length na, .slice rb P.1.off.length nb2, .int .i64 P.1.sent, .slice rc P.1.took.length nc, .int .i64 P.1.cash] P.1 := by
     obtain ⟨cs9, he9, hr9⟩ := (HNB.out.keep (.of_step hst6))
     injection he9 with he9
     have hf9 : cs9 = [.int .i64 P.1.agency, .slice ra P.1.seats.length na, .slice rb P.1.off.length nb2, .int .i64 P.1.sent, .slice rc P.1.took.length nc, .int .i64 P.1.cash] := by
      have := congrArg Array.toList he9
      simpa using this.symm
     rw [hf9] at hr9
     refine Rep.weak (fun j _ hj => ?_) hr9
     rcases hj with (hj | hj) | hj
     ·exact .inl (.inl hj)
     ·exact .inl (.inr (.inl hj))
     ·right
      simp [Value.ownBlock] at hj
      have := HSQ.out
      omega
    have HST6 := Lib.hid hst6
    have HPUT := Lib.hid hput
    have HREP := Lib.hid hrep
    have HB13 := Lib.hid hb13
    have HBXB := Lib.hid hbxB
    have HCSB := Lib.hid (show i * 6 + 6 ≤ csB.length from hcsB)
    have HGB0 := Lib.hid hgb
    have HBR6 := Lib.hid (HBR.out.step hst6)
    clear hvb hgb hbxB hcsB hput hng hown6 hrep hst6 hb13
    (try clear e0 e1 e2 e3 e4)
    (try clear u0 u1)
    (try clear a0 a1 a2 a3 a4 a5 a6 a7 a8)
    obtain ⟨e0, e1, e2, e3, e4⟩ := cells5 (HB0.out.step (HTR.out.trans HST6.out))
    obtain ⟨a0, a1, a2, a3, a4, a5, a6, a7, a8⟩ := cells9 (HB2.out.step (HTR.out.trans HST6.out))
    obtain ⟨u0, u1⟩ : _ ∧ _ := ⟨(HB1.out.step (HTR.out.trans HST6.out)).cell 0, (HB1.out.step (HTR.out.trans HST6.out)).cell 1⟩
    simp only [zD, zE] at u0 u1
    obtain ⟨z0, z1, z2, z3, z4, z5⟩ := cells6 HBR6.out
    have y0 := HB13.out.cell 0
    have y1 := HB13.out.cell 1
    simp only [zD, zE] at y0 y1
    have hia := HIA.out
    have hrg : (0 : Int) ≤ x.agency ∧ x.agency < (W.books.length : Int) := by omega
    have htn : x.agency.toNat = i := by omega
    clear hia
    go_upto_region 25 with (refine wpl_store (v := .agg #[.int .i64 P.1.agency, .slice ra P.1.seats.length na, .slice rb P.1.off.length nb2, .int .i64 P.1.sent, .slice rc P.1.took.length nc, .int .i64 P.1.cash]) rfl _ _ _ rfl rfl rfl HBXB.out (by kernel_rfl) (by simp [Value.cells]; exact HCSB.out) (by simp [Value.cells, Value.oneCell']) (csB.take (i * 6) ++ [.int .i64 P.1.agency, .slice ra P.1.seats.length na, .slice rb P.1.off.length nb2, .int .i64 P.1.sent, .slice rc P.1.took.length nc, .int .i64 P.1.cash] ++ csB.drop (i * 6 + 6)) rfl (fun w10 hb10 hw10 => ?_))
    have hown10 := HPUT.out w10 _ P.1 HREP.out hw10 hb10
    have hst10 : Step wr w10 := Step.wrote HST6.out hw10 HGB0.out
    have hb13 := HB13.out.keep (Keeps.wrote (S := fun j => j = gB) hw10 rfl) (fun e => HNG.out e.symm)
    have HO10 := Lib.hid hown10
    have HS10 := Lib.hid (HTR.out.trans hst10)
    have HSR := Lib.hid hst10
    clear hown10 hst10 hw10 hb10 HPUT HREP hrg htn z0 z1 z2 z3 z4 z5 y0 y1
    have y0 := hb13.cell 0
    have y1 := hb13.cell 1
    simp only [zD, zE] at y0 y1
    have t0 := (HB3.out.step HS10.out).cell 0
    have t1 := (HB3.out.step HS10.out).cell 1
    have tf0 := (HB3.out.step HS10.out).frozen 0
    have tf1 := (HB3.out.step HS10.out).frozen 1
    simp only [zD, zE] at t0 t1
    clear hb13
    go_wp2
    have b2 := set2r (HB3.out.step HS10.out) (.slice (some ⟨gB, 0, none⟩) W.books.length cap) (.slice qm W.msgs.length nm)
    refine ret_struct2 (k := 2) rfl siRefWorld rfl b2.1 rfl rfl ?_
    rw [HE.out]
    have hk2 := b2.2.keeps.mono (T := fun j => S j ∨ w.heap.size ≤ j) fun j _ e => .inr (by omega)
    have hk3 := b2.2.keeps.mono (T := fun j => S j ∨ j = w.heap.size + 3) fun j _ e => .inr e
    have hsl := HO10.out.sl (fun g hg _ hs => by
     have h1 := HTR.out.size
     have h2 := HZ.out
     rcases hs with hs | hs
     ·have := HSL.out g hs; omega
     ·omega)
    exact ⟨_, rfl, ⟨_, rfl, _, _, rfl, (hsl.keep hk3).weak (fun _ _ h => .inl h), by rw [List.append_nil]; exact ((HWM.out.keep (.of_step HS10.out)).keep hk2).weak (fun _ _ h => .inl h)⟩, StepX.fresh (HS.out.trans HS10.out) b2.2 (fun j hj => by omega)⟩
   ·have hp2 : P.2 = c := by rw [HP.out, ha]
    have HE := Lib.hid (show actD h W x = (W, P.2) by
     rw [hp2]
     exact actD_refused HV.out.1 HE0.out HIA.out HGB.out HBB.out.1 (by unfold deskD; rw [if_neg (by rw [HKK.out]; decide), if_pos HKK.out, hrr]; rfl))
    have d9 : (P.2 != 0) = true := by rw [bne_iff_ne, hp2]; exact hc0
    clear hp2 hc0 hrr
    (try clear e0 e1 e2 e3 e4)
    (try clear u0 u1)
    (try clear a0 a1 a2 a3 a4 a5 a6 a7 a8)
    obtain ⟨e0, e1, e2, e3, e4⟩ := cells5 (HB0.out.step HTR.out)
    obtain ⟨a0, a1, a2, a3, a4, a5, a6, a7, a8⟩ := cells9 (HB2.out.step HTR.out)
    obtain ⟨u0, u1⟩ : _ ∧ _ := ⟨(HB1.out.step HTR.out).cell 0, (HB1.out.step HTR.out).cell 1⟩
    simp only [zD, zE] at u0 u1
    have t0 := (HB3.out.step HTR.out).cell 0
    have t1 := (HB3.out.step HTR.out).cell 1
    have tf0 := (HB3.out.step HTR.out).frozen 0
    have tf1 := (HB3.out.step HTR.out).frozen 1
    simp only [zD, zE] at t0 t1
    go_wp2
    have b2 := set2r (HB3.out.step HTR.out) (.slice (some ⟨bb, bo, none⟩) W.books.length nb) (.slice (qm) W.msgs.length nm)
    refine ret_struct2 (k := 2) rfl siRefWorld rfl b2.1 rfl rfl ?_
    rw [HE.out]
    have hk2 := b2.2.keeps.mono (T := fun j => S j ∨ w.heap.size ≤ j) fun j _ e => .inr (by omega)
    exact ⟨_, rfl, ⟨_, rfl, _, _, rfl, ((HWB.out.keep (.of_step HTR.out)).keep hk2).weak (fun _ _ h => .inl h), ((HWM.out.keep (.of_step HTR.out)).keep hk2).weak (fun _ _ h => .inl h)⟩, StepX.fresh (HS.out.trans HTR.out) b2.2 (fun j hj => by omega)⟩
  ·have e1 : (x.kind == 1) = false := by simp [hk]
   have e2 : (x.kind == 2) = false := by simp [hk]
   have e3 : (x.kind == 3) = true := by simp [hk]
   have HKK := Lib.hid hk
   clear hk d1 d2 d4 hl1 hl2
   go_upto_region 15 with (fail)
   clear e1 e2 e3
   obtain ⟨g12, hg12⟩ : ∃ g, g = W1.heap.size := ⟨_, rfl⟩
   obtain ⟨W2, hW2⟩ : ∃ z9, z9 = W1.alloc (.cells #[.int .i64 0, .int .i64 0, .int .i64 0, .int .i64 0, .slice none 0 0] 58) := ⟨_, rfl⟩
   have hb12 : Bx W2 g12 [.int .i64 0, .int .i64 0, .int .i64 0, .int .i64 0, .slice none 0 0] 58 := by subst hW2 hg12; exact Bx.new _ [_, _, _, _, _] _
   have hS12 : Step W1 W2 := by subst hW2; exact Step.alloc _ _
   rw [← hW2, ← hg12]
   have HG12 := Lib.hid (show g12 = g8 + 2 ∧ W2.heap.size = g12 + 1 by rw [hg12]; refine ⟨HZ1.out, ?_⟩; subst hW2; simp)
   have HB12 := Lib.hid hb12
   have HS12 := Lib.hid hS12
   clear hW2 hg12 hb12 hS12 f0 f1 f2 f3 f4 f5
   (try clear e0 e1 e2 e3 e4)
   (try clear u0 u1)
   (try clear a0 a1 a2 a3 a4 a5 a6 a7 a8)
   obtain ⟨e0, e1, e2, e3, e4⟩ := cells5 (HB0.out.step (HS1.out.trans HS12.out))
   obtain ⟨a0, a1, a2, a3, a4, a5, a6, a7, a8⟩ := cells9 (HB2.out.step (HS1.out.trans HS12.out))
   obtain ⟨u0, u1⟩ : _ ∧ _ := ⟨(HB1.out.step (HS1.out.trans HS12.out)).cell 0, (HB1.out.step (HS1.out.trans HS12.out)).cell 1⟩
   simp only [zD, zE] at u0 u1
   obtain ⟨f0, f1, f2, f3, f4, f5⟩ := cells6 (HB8.out.step HS12.out)
   go_wp2_with fail
   refine (RGive_any (fun _ => False) (fun _ => False) h b x.dst x.shw x.seats _ _ _ _ (HH.out.keep (.of_step (HS1.out.trans HS12.out))) ((av0 HBV.out).keep (.of_step HS12.out)) (HXS.out.keep (.of_step (HS1.out.trans HS12.out))) HV.out.2.2.1 HV.out.1 HBB.out.1).mono ?_
   rintro e wq ⟨v6, m6, rfl, hv6, hm6, hSn⟩
   obtain ⟨mm, hmm⟩ : ∃ z9, z9 = restOf noMsg (giveD h b x.dst x.shw x.seats) := ⟨_, rfl⟩
   rw [← hmm] at hm6
   have HMM := Lib.hid hmm
   obtain ⟨mz, rfl, hmz⟩ := hm6.message
   obtain ⟨pz, kz, rfl⟩ := hmz.form
   have HMZ := Lib.hid hmz
   clear hmm hm6 hmz
   have hSn2 := HS12.out.trans hSn
   have HSN0 := Lib.hid hSn
   clear hSn
   have hSn := hSn2
   clear hSn2
   obtain ⟨P, hP⟩ : ∃ P, P = actR (bookOf (giveD h b x.dst x.shw x.seats)) := ⟨_, rfl⟩
   rw [← hP] at hv6 ⊢
   obtain ⟨x1, x2, x4, rfl, t1, t2, t4⟩ := hv6.book
   obtain ⟨ra, na, rfl⟩ := t1.form
   obtain ⟨rb, nb2, rfl⟩ := t2.form
   obtain ⟨rc, nc, rfl⟩ := t4.form
   have HP := Lib.hid hP
   have HV6 := Lib.hid hv6
   have HSN := Lib.hid hSn
   clear hP t1 t2 t4 hv6 hSn
   have hb9q := HB9.out.step HSN.out
   obtain ⟨z0, z1, z2, z3, z4, z5⟩ := cells6 hb9q
   have tz0 := hb9q.frozen 0
   have tz1 := hb9q.frozen 1
   have tz2 := hb9q.frozen 2
   have tz3 := hb9q.frozen 3
   have tz4 := hb9q.frozen 4
   have tz5 := hb9q.frozen 5
   have hb12q := HB12.out.step HSN0.out
   obtain ⟨y0, y1, y2, y3, y4⟩ := cells5 hb12q
   have ty0 := hb12q.frozen 0
   have ty1 := hb12q.frozen 1
   have ty2 := hb12q.frozen 2
   have ty3 := hb12q.frozen 3
   have ty4 := hb12q.frozen 4
   have hne1 : ¬ g12 = g8 + 1 := by have := HG12.out.1; omega
   have hne2 : ¬ g8 + 1 = g12 := by have := HG12.out.1; omega
   go_upto_region 16 with (fail)
   have b6 := set6 hb9q (.int .i64 P.1.agency) (.slice ra P.1.seats.length na) (.slice rb P.1.off.length nb2) (.int .i64 P.1.sent) (.slice rc P.1.took.length nc) (.int .i64 P.1.cash)
   have b12 := hb12q.keep (b6.2.keeps) hne1
   have b5 := set5 b12 (.int .i64 mm.frm) (.int .i64 mm.dst) (.int .i64 mm.number) (.int .i64 mm.shw) (.slice pz mm.seats.length kz)
   have b9 := b6.1.keep b5.2.keeps hne2
   have st2 : StepX (fun j => j = g8 + 1 ∨ j = g12) wq _ := (b6.2.mono (fun j _ e => .inl e)).trans (b5.2.mono (fun j _ e => .inr e))
   generalize (((((((((((wq.setCell ⟨g8 + 1, 0, none⟩ (.int .i64 P.1.agency)).setCell ⟨g8 + 1, 1, none⟩ (.slice ra P.1.seats.length na)).setCell ⟨g8 + 1, 2, none⟩ (.slice rb P.1.off.length nb2)).setCell ⟨g8 + 1, 3, none⟩ (.int .i64 P.1.sent)).setCell ⟨g8 + 1, 4, none⟩ (.slice rc P.1.took.length nc)).setCell ⟨g8 + 1, 5, none⟩ (.int .i64 P.1.cash)).setCell ⟨g12, 0, none⟩ (.int .i64 mm.frm)).setCell ⟨g12, 1, none⟩ (.int .i64 mm.dst)).setCell ⟨g12, 2, none⟩ (.int .i64 mm.number)).setCell ⟨g12, 3, none⟩ (.int .i64 mm.shw)).setCell ⟨g12, 4, none⟩ (.slice pz mm.seats.length kz)) = wr at b5 b9 st2 ⊢
   have HB12R := Lib.hid b5.1
   have hbr := b9
   clear hb9q hb12q b6 b12 b5 b9 z0 z1 z2 z3 z4 z5 tz0 tz1 tz2 tz3 tz4 tz5 y0 y1 y2 y3 y4 ty0 ty1 ty2 ty3 ty4 hne1 hne2
   have HBR := Lib.hid hbr
   have HTR := Lib.hid (StepX.fresh (HS1.out.trans HSN.out) st2 (fun j hj => by have := HG8.out; have := HG12.out; omega))
   have havoid : ∀ j, j < wq.heap.size → ((S j ∨ j = w.heap.size + 3 ∨ j = g8 + 1) ∨ (wq.heap.size ≤ j ∨ j = g12)) → Old W2 j := fun j hj hs => by
    unfold Old
    have h2 := HG8.out
    have h3 := HZ.out
    have h4 := HG12.out
    rcases hs with (hs | hs) | hs
    ·have := HSL.out j hs; omega
    ·omega
    ·omega
   have hk2 := st2.keeps.mono (T := fun j => (S j ∨ j = w.heap.size + 3 ∨ j = g8 + 1) ∨ (wq.heap.size ≤ j ∨ j = g12)) fun j _ e => e.elim (fun e => .inl (.inr (.inr e))) (fun e => .inr (.inr e))
   have HNB0 := Lib.hid ((HV6.out.weak havoid).keep hk2)
   have HMZ0 := Lib.hid ((HMZ.out.weak havoid).keep hk2)
   have HSQ := Lib.hid st2.size
   clear havoid hk2 st2 hbr
   (try clear e0 e1 e2 e3 e4)
   (try clear u0 u1)
   (try clear a0 a1 a2 a3 a4 a5 a6 a7 a8)
   obtain ⟨e0, e1, e2, e3, e4⟩ := cells5 (HB0.out.step HTR.out)
   obtain ⟨a0, a1, a2, a3, a4, a5, a6, a7, a8⟩ := cells9 (HB2.out.step HTR.out)
   obtain ⟨u0, u1⟩ : _ ∧ _ := ⟨(HB1.out.step HTR.out).cell 0, (HB1.out.step HTR.out).cell 1⟩
   simp only [zD, zE] at u0 u1
   obtain ⟨y0, y1, y2, y3, y4⟩ := cells5 HB12R.out
   have hu16 : SLe (avoid (fun j => S j ∨ j = w.heap.size + 3) (.slice none 0 0)) wr (.slice qm W.msgs.length nm) W.msgs := ((HWM.out.keep (.of_step HTR.out)).weak (T := avoid (fun j => S j ∨ j = w.heap.size + 3) (.slice none 0 0)) (fun j _ hj => by
    rcases hj with (hj | hj) | hj
    ·exact .inl hj
    ·exact .inr (by omega)
    ·simp [Value.ownBlock] at hj)).e
   have HU16 := Lib.hid hu16
   clear hu16
   refine Mk.wp_region_seqM (fun c d v a w h => by cases d <;> exact h) (Mk.kdOf [2] [] [(4, 58, 1, #[.int .i64 mm.frm, .int .i64 mm.dst, .int .i64 mm.number, .int .i64 mm.shw, .slice pz mm.seats.length kz])]) [0, 1, 3, 0, 8, 31, 63] [0, 1, 3, 2, 4] [5, 6] (by kernel_rfl) (by kernel_rfl) (fun i T z hi hk => by simp only [List.mem_cons, List.not_mem_nil, or_false] at hi; rcases hi with rfl | rfl | rfl | rfl | rfl <;> simp [Mk.kdOf] at hk) ?_
   intro Wx hWx
   have u1 := (hWx).kc u1; have y0 := (hWx).kc y0; have y1 := (hWx).kc y1; have y2 := (hWx).kc y2; have y3 := (hWx).kc y3; have y4 := (hWx).kc y4
   repeat (first | (refine Mk.run_off rfl rfl (by rfl) ?_; (try simp only [Act.put, zA, zB, zC])) | (refine Mk.run_chain_off rfl rfl (by rfl) (Mk.K0_mono _) ?_; (try simp only [Act.put, zA, zB, zC])) | ((refine Mk.run_want rfl rfl (by rfl) ⟨?_, fun W hW => ?_, ?_⟩; rotate_left; (· (have d0 := hW.kc u1; have d1 := hW.kc y0; have d2 := hW.kc y1; have d3 := hW.kc y2; have d4 := hW.kc y3; have d5 := hW.kc y4; go_simp; (try with_reducible rfl)))); (try simp only [Act.put, zA, zB, zC])))
   clear u0 u1 e0 e1 e2 e3 e4 a0 a1 a2 a3 a4 a5 a6 a7 a8 y0 y1 y2 y3 y4
   refine Mk.run_chain rfl rfl (by rfl) (fun Wi hWi K' hK => ?_)
   have hTi := hWx.trans hWi
   clear hWx hWi
   refine wp_append_L (α := BT.Message) (S := fun j => S j ∨ j = w.heap.size + 3) (base := wr.heap.size) (v := .slice none 0 0) (l := []) (m := W.msgs) eiRefMess _ _ rfl rfl rfl (OwnL.nil _ _ _ _) (HU16.out.step hTi) W.msgs.length (by simp) W.msgs rfl (by simp only [maxLen]; omega) (by omega) hTi.size ?_
   intro p5 c5 w5 hown5 hg5
   have hs5 : Step Wi w5 := StepX.grown hg5 (fun k hk _ => by simp [Value.ownBlock] at hk)
   have HO5 := Lib.hid hown5
   have HT5 := Lib.hid (hTi.trans hs5)
   refine hK _ _ (.of hs5) ?_
   clear hK hTi hown5 hg5 hs5
   (try simp only [Act.put, zA, zB, zC])
   repeat (first | (refine Mk.run_off rfl rfl (by rfl) ?_; (try simp only [Act.put, zA, zB, zC])) | (refine Mk.run_chain_off rfl rfl (by rfl) (Mk.K0_mono _) ?_; (try simp only [Act.put, zA, zB, zC])) | ((refine Mk.run_want rfl rfl (by rfl) ⟨?_, fun W hW => ?_, ?_⟩; rotate_left; (· (skip; go_simp; (try with_reducible rfl)))); (try simp only [Act.put, zA, zB, zC])))
   refine Mk.run_make rfl (by rfl) rfl (fun w => ?_) (fun W7 g7 hW7 hg hgb hgN => ?_)
   ·go_simp
   (try simp only [Act.put, zA, zB, zC])
   repeat (first | (refine Mk.run_off rfl rfl (by rfl) ?_; (try simp only [Act.put, zA, zB, zC])) | (refine Mk.run_chain_off rfl rfl (by rfl) (Mk.K0_mono _) ?_; (try simp only [Act.put, zA, zB, zC])) | ((refine Mk.run_want rfl rfl (by rfl) ⟨?_, fun W hW => ?_, ?_⟩; rotate_left; (· (skip; go_simp; (try with_reducible rfl)))); (try simp only [Act.put, zA, zB, zC])))
   refine Mk.run_end (L := [_, _]) rfl (fun W8 hW8 => ?_)
   have hst8 := (HT5.out.trans hW7).trans hW8
   have hb7 : Bx W8 g7 [.int .i64 mm.frm, .int .i64 mm.dst, .int .i64 mm.number, .int .i64 mm.shw, .slice pz mm.seats.length kz] 58 := Bx.step (show Bx W7 g7 [.int .i64 mm.frm, .int .i64 mm.dst, .int .i64 mm.number, .int .i64 mm.shw, .slice pz mm.seats.length kz] 58 from hg) hW8
   have hown8 := (HO5.out.step hW7).step hW8
   have hmz8 := HMZ0.out.keep (.of_step hst8)
   have hlt5 := HO5.out.lt
   have hu8 : SLe (avoid (fun j => S j ∨ j = w.heap.size + 3) (.slice p5 W.msgs.length c5)) W8 (.slice (some ⟨g7, 0, none⟩) 1 1) [mm] := sle_bx hb7 ⟨_, rfl, hmz8.weak (fun j _ hj => by
    rcases hj with (hj | hj) | hj
    ·exact .inl (.inl hj)
    ·exact .inl (.inr (.inl hj))
    ·have := (hlt5 j hj).1
     have := HSQ.out
     exact .inr (.inl (by omega)))⟩
   refine wpl_append (α := BT.Message) (S := fun j => S j ∨ j = w.heap.size + 3) (base := wr.heap.size) (v := .slice p5 W.msgs.length c5) (l := W.msgs) (m := [mm]) eiRefMess rfl _ _ rfl rfl rfl hown8 hu8 (W.msgs.length + 1) (by simp) (W.msgs ++ [mm]) rfl (by simp only [maxLen]; omega) (by omega) hst8.size ?_
   intro p9 c9 wr2 hown9 hg9
   have hst9 : Step wr wr2 := StepX.fresh hst8 (StepX.grown (X := fun j => (Value.slice p5 W.msgs.length c5).ownBlock = some j) hg9 fun j hj _ => hj) (fun j hj => (hown8.lt j hj).1)
   have hsl9 := hown9.sl (fun g hg _ hs => by
    have h1 := HTR.out.size
    have h2 := HZ.out
    rcases hs with hs | hs
    ·have := HSL.out g hs; omega
    ·omega)
   have HMS := Lib.hid hsl9
   have HNB := Lib.hid ((HNB0.out.keep (.of_step hst9)).weak (T := fun j => (S j ∨ j = w.heap.size + 3 ∨ j = g8 + 1) ∨ wq.heap.size ≤ j) (fun j _ hj => hj.elim .inl (fun e => .inr (.inl e))))
   have HBR2 := Lib.hid (HBR.out.step hst9)
   have HTR2 := Lib.hid (HTR.out.trans hst9)
   have HSQ2 := Lib.hid (Nat.le_trans HSQ.out hst9.size)
   clear HBR HTR HSQ hW7 hg hgb hgN hW8 hst8 hb7 hown8 hmz8 hlt5 hu8 hown9 hg9 hst9 hsl9 HNB0 HMZ0 HO5 HT5 HU16
   have HBR := HBR2
   have HTR := HTR2
   have HSQ := HSQ2
   clear HBR2 HTR2 HSQ2
   go_upto_region 21 with (fail)
   rcases act_two (nz_book (nz_give h b x.dst x.shw x.seats)) with ⟨b', hrr, ha⟩ | ⟨c, hrr, hc0, ha⟩
   ·have hp2 : P.2 = 0 := by rw [HP.out, ha]
    have hp1 : P.1 = b' := by rw [HP.out, ha]
    subst hp1
    have hrg : giveD h b x.dst x.shw x.seats = .ok (P.1, mm) := by
     have hq := HMM.out
     cases hr : giveD h b x.dst x.shw x.seats with
     | error c => rw [hr] at hrr; cases hrr
     | ok p =>
      obtain ⟨p1, p2⟩ := p
      rw [hr] at hrr hq
      injection hrr with hrr
      rw [hrr, hq]; rfl
    have HE := Lib.hid (show actD h W x = (⟨W.books.set i P.1, W.msgs ++ [mm]⟩, 0) from actD_done HV.out.1 HE0.out HIA.out HGB.out HBB.out.1 (by unfold deskD; rw [if_neg (by rw [HKK.out]; decide), if_neg (by rw [HKK.out]; decide), if_pos HKK.out, hrg]; rfl))
    have d9 : (P.2 != 0) = false := by rw [hp2]; rfl
    clear hp2 hrr
    (try clear e0 e1 e2 e3 e4)
    (try clear u0 u1)
    (try clear a0 a1 a2 a3 a4 a5 a6 a7 a8)
    obtain ⟨e0, e1, e2, e3, e4⟩ := cells5 (HB0.out.step HTR.out)
    obtain ⟨a0, a1, a2, a3, a4, a5, a6, a7, a8⟩ := cells9 (HB2.out.step HTR.out)
    obtain ⟨u0, u1⟩ : _ ∧ _ := ⟨(HB1.out.step HTR.out).cell 0, (HB1.out.step HTR.out).cell 1⟩
    simp only [zD, zE] at u0 u1
    have hu23 : SLe (avoid (fun j => S j ∨ j = w.heap.size + 3) (.slice none 0 0)) wr2 (.slice (some ⟨bb, bo, none⟩) W.books.length nb) W.books := ((HWB.out.keep (.of_step HTR.out)).weak (T := avoid (fun j => S j ∨ j = w.heap.size + 3) (.slice none 0 0)) (fun j _ hj => by
     rcases hj with (hj | hj) | hj
     ·exact .inl hj
     ·exact .inr (by omega)
     ·simp [Value.ownBlock] at hj)).e
    go_upto_region 24 with (at_builtin; refine wpl_append (α := Book) (S := fun j => S j ∨ j = w.heap.size + 3) (base := wr2.heap.size) (v := .slice none 0 0) (l := []) (m := W.books) eiRefBooks rfl _ _ rfl rfl rfl (OwnL.nil _ _ _ _) hu23 W.books.length (by simp) W.books rfl (by simp only [maxLen]; omega) (by omega) (Nat.le_refl _) (fun p' c' w5 hown5 hg5 => ?_))
    have hst5 : Step wr2 w5 := StepX.grown hg5 (fun k hk _ => by simp [Value.ownBlock] at hk)
    clear hu23 hg5
    obtain ⟨g13, hg13⟩ : ∃ g, g = w5.heap.size := ⟨_, rfl⟩
    obtain ⟨W6, hW6⟩ : ∃ z9, z9 = w5.alloc (.cells #[.slice p' W.books.length c', .slice p9 (W.msgs.length + 1) c9] 49) := ⟨_, rfl⟩
    have hb13 : Bx W6 g13 [.slice p' W.books.length c', .slice p9 (W.msgs.length + 1) c9] 49 := by subst hW6 hg13; exact Bx.new _ [_, _] _
    have hst6 : Step wr2 W6 := by subst hW6; exact hst5.trans (Step.alloc _ _)
    have hown6 := hown5.step (show Step w5 W6 by subst hW6; exact Step.alloc _ _)
    rw [← hW6, ← hg13]
    have hlt13 : w5.heap.size ≤ g13 := by rw [hg13]; exact Nat.le_refl _
    have hng : ∀ g, (Value.slice p' W.books.length c').ownBlock = some g → g ≠ g13 := fun g hg e => by have := (hown5.lt g hg).2; omega
    clear hown5 hst5 hW6 hg13 hlt13
    obtain ⟨gB, cap, csB, hvb, hgb, hbxB, hcsB, _, hput⟩ := hown6.row_put hib
    rw [hvb] at hown6 hput hng hb13 ⊢
    have HNG := Lib.hid (hng gB rfl)
    have hrep : Rep.rep (avoid (fun j => S j ∨ j = w.heap.size + 3) (.slice (some ⟨gB, 0, none⟩) W.books.length cap)) W6 [.int .i64 P.1.agency, .slice ra P.1.seats.length na, .slice rb P.1.off.length nb2, .int .i64 P.1.sent, .slice rc P.1.took.length nc, .int .i64 P.1.cash] P.1 := by
     obtain ⟨cs9, he9, hr9⟩ := (HNB.out.keep (.of_step hst6))
     injection he9 with he9
     have hf9 : cs9 = [.int .i64 P.1.agency, .slice ra P.1.seats.length na, .slice rb P.1.off.length nb2, .int .i64 P.1.sent, .slice rc P.1.took.length nc, .int .i64 P.1.cash] := by
      have := congrArg Array.toList he9
      simpa using this.symm
     rw [hf9] at hr9
     refine Rep.weak (fun j _ hj => ?_) hr9
     rcases hj with (hj | hj) | hj
     ·exact .inl (.inl hj)
     ·exact .inl (.inr (.inl hj))
     ·right
      simp [Value.ownBlock] at hj
      have := HSQ.out
      omega
    have HST6 := Lib.hid hst6
    have HPUT := Lib.hid hput
    have HREP := Lib.hid hrep
    have HB13 := Lib.hid hb13
    have HBXB := Lib.hid hbxB
    have HCSB := Lib.hid (show i * 6 + 6 ≤ csB.length from hcsB)
    have HGB0 := Lib.hid hgb
    have HBR6 := Lib.hid (HBR.out.step hst6)
    clear hvb hgb hbxB hcsB hput hng hown6 hrep hst6 hb13
    (try clear e0 e1 e2 e3 e4)
    (try clear u0 u1)
    (try clear a0 a1 a2 a3 a4 a5 a6 a7 a8)
    obtain ⟨e0, e1, e2, e3, e4⟩ := cells5 (HB0.out.step (HTR.out.trans HST6.out))
    obtain ⟨a0, a1, a2, a3, a4, a5, a6, a7, a8⟩ := cells9 (HB2.out.step (HTR.out.trans HST6.out))
    obtain ⟨u0, u1⟩ : _ ∧ _ := ⟨(HB1.out.step (HTR.out.trans HST6.out)).cell 0, (HB1.out.step (HTR.out.trans HST6.out)).cell 1⟩
    simp only [zD, zE] at u0 u1
    obtain ⟨z0, z1, z2, z3, z4, z5⟩ := cells6 HBR6.out
    have y0 := HB13.out.cell 0
    have y1 := HB13.out.cell 1
    simp only [zD, zE] at y0 y1
    have hia := HIA.out
    have hrg : (0 : Int) ≤ x.agency ∧ x.agency < (W.books.length : Int) := by omega
    have htn : x.agency.toNat = i := by omega
    clear hia
    go_upto_region 25 with (refine wpl_store (v := .agg #[.int .i64 P.1.agency, .slice ra P.1.seats.length na, .slice rb P.1.off.length nb2, .int .i64 P.1.sent, .slice rc P.1.took.length nc, .int .i64 P.1.cash]) rfl _ _ _ rfl rfl rfl HBXB.out (by kernel_rfl) (by simp [Value.cells]; exact HCSB.out) (by simp [Value.cells, Value.oneCell']) (csB.take (i * 6) ++ [.int .i64 P.1.agency, .slice ra P.1.seats.length na, .slice rb P.1.off.length nb2, .int .i64 P.1.sent, .slice rc P.1.took.length nc, .int .i64 P.1.cash] ++ csB.drop (i * 6 + 6)) rfl (fun w10 hb10 hw10 => ?_))
    have hown10 := HPUT.out w10 _ P.1 HREP.out hw10 hb10
    have hst10 : Step wr2 w10 := Step.wrote HST6.out hw10 HGB0.out
    have hb13 := HB13.out.keep (Keeps.wrote (S := fun j => j = gB) hw10 rfl) (fun e => HNG.out e.symm)
    have HO10 := Lib.hid hown10
    have HS10 := Lib.hid (HTR.out.trans hst10)
    have HSR := Lib.hid hst10
    clear hown10 hst10 hw10 hb10 HPUT HREP hrg htn z0 z1 z2 z3 z4 z5 y0 y1
    have y0 := hb13.cell 0
    have y1 := hb13.cell 1
    simp only [zD, zE] at y0 y1
    have t0 := (HB3.out.step HS10.out).cell 0
    have t1 := (HB3.out.step HS10.out).cell 1
    have tf0 := (HB3.out.step HS10.out).frozen 0
    have tf1 := (HB3.out.step HS10.out).frozen 1
    simp only [zD, zE] at t0 t1
    clear hb13
    go_wp2
    have b2 := set2r (HB3.out.step HS10.out) (.slice (some ⟨gB, 0, none⟩) W.books.length cap) (.slice p9 (W.msgs.length + 1) c9)
    refine ret_struct2 (k := 2) rfl siRefWorld rfl b2.1 rfl rfl ?_
    rw [HE.out]
    have hk2 := b2.2.keeps.mono (T := fun j => S j ∨ w.heap.size ≤ j) fun j _ e => .inr (by omega)
    have hk3 := b2.2.keeps.mono (T := fun j => S j ∨ j = w.heap.size + 3) fun j _ e => .inr e
    have hsl := HO10.out.sl (fun g hg _ hs => by
     have h1 := HTR.out.size
     have h2 := HZ.out
     rcases hs with hs | hs
     ·have := HSL.out g hs; omega
     ·omega)
    exact ⟨_, rfl, ⟨_, rfl, _, _, rfl, (hsl.keep hk3).weak (fun _ _ h => .inl h), ((HMS.out.keep (.of_step HSR.out)).keep hk3).weak (fun _ _ h => .inl h)⟩, StepX.fresh (HS.out.trans HS10.out) b2.2 (fun j hj => by omega)⟩
   ·have hp2 : P.2 = c := by rw [HP.out, ha]
    have hrg : giveD h b x.dst x.shw x.seats = .error c := by
     cases hr : giveD h b x.dst x.shw x.seats with
     | error d => rw [hr] at hrr; injection hrr with hrr; rw [hrr]
     | ok p => rw [hr] at hrr; cases hrr
    have HE := Lib.hid (show actD h W x = (W, P.2) by
     rw [hp2]
     exact actD_refused HV.out.1 HE0.out HIA.out HGB.out HBB.out.1 (by unfold deskD; rw [if_neg (by rw [HKK.out]; decide), if_neg (by rw [HKK.out]; decide), if_pos HKK.out, hrg]; rfl))
    have d9 : (P.2 != 0) = true := by rw [bne_iff_ne, hp2]; exact hc0
    clear hp2 hc0 hrr
    (try clear e0 e1 e2 e3 e4)
    (try clear u0 u1)
    (try clear a0 a1 a2 a3 a4 a5 a6 a7 a8)
    obtain ⟨e0, e1, e2, e3, e4⟩ := cells5 (HB0.out.step HTR.out)
    obtain ⟨a0, a1, a2, a3, a4, a5, a6, a7, a8⟩ := cells9 (HB2.out.step HTR.out)
    obtain ⟨u0, u1⟩ : _ ∧ _ := ⟨(HB1.out.step HTR.out).cell 0, (HB1.out.step HTR.out).cell 1⟩
    simp only [zD, zE] at u0 u1
    have t0 := (HB3.out.step HTR.out).cell 0
    have t1 := (HB3.out.step HTR.out).cell 1
    have tf0 := (HB3.out.step HTR.out).frozen 0
    have tf1 := (HB3.out.step HTR.out).frozen 1
    simp only [zD, zE] at t0 t1
    go_wp2
    have b2 := set2r (HB3.out.step HTR.out) (.slice (some ⟨bb, bo, none⟩) W.books.length nb) (.slice (qm) W.msgs.length nm)
    refine ret_struct2 (k := 2) rfl siRefWorld rfl b2.1 rfl rfl ?_
    rw [HE.out]
    have hk2 := b2.2.keeps.mono (T := fun j => S j ∨ w.heap.size ≤ j) fun j _ e => .inr (by omega)
    exact ⟨_, rfl, ⟨_, rfl, _, _, rfl, ((HWB.out.keep (.of_step HTR.out)).keep hk2).weak (fun _ _ h => .inl h), ((HWM.out.keep (.of_step HTR.out)).keep hk2).weak (fun _ _ h => .inl h)⟩, StepX.fresh (HS.out.trans HTR.out) b2.2 (fun j hj => by omega)⟩
  ·have e1 : (x.kind == 1) = false := by simp [hk]
   have e2 : (x.kind == 2) = false := by simp [hk]
   have e3 : (x.kind == 3) = false := by simp [hk]
   have e5 : (x.kind == 5) = true := by simp [hk]
   have HKK := Lib.hid hk
   clear hk d1 d2 hl1 hl2
   go_wp2_with fail
   refine (RLose_any (fun _ => False) h b _ _ x.shw x.day _ (HH.out.keep (.of_step HS1.out)) (av0 HBV.out) HV.out.1 HBB.out.1).mono ?_
   rintro e wq ⟨v6, l6, rfl, hv6, _, hSn⟩
   obtain ⟨P, hP⟩ : ∃ P, P = actR (bookOf (loseD h b x.shw x.day)) := ⟨_, rfl⟩
   rw [← hP] at hv6 ⊢
   obtain ⟨x1, x2, x4, rfl, t1, t2, t4⟩ := hv6.book
   obtain ⟨ra, na, rfl⟩ := t1.form
   obtain ⟨rb, nb2, rfl⟩ := t2.form
   obtain ⟨rc, nc, rfl⟩ := t4.form
   have HP := Lib.hid hP
   have HV6 := Lib.hid hv6
   have HSN := Lib.hid hSn
   clear hP t1 t2 t4 hv6 hSn
   have hb9q := HB9.out.step HSN.out
   obtain ⟨z0, z1, z2, z3, z4, z5⟩ := cells6 hb9q
   have tz0 := hb9q.frozen 0
   have tz1 := hb9q.frozen 1
   have tz2 := hb9q.frozen 2
   have tz3 := hb9q.frozen 3
   have tz4 := hb9q.frozen 4
   have tz5 := hb9q.frozen 5
   go_upto_region 21 with (fail)
   have b6 := set6 hb9q (.int .i64 P.1.agency) (.slice ra P.1.seats.length na) (.slice rb P.1.off.length nb2) (.int .i64 P.1.sent) (.slice rc P.1.took.length nc) (.int .i64 P.1.cash)
   generalize ((((((wq.setCell ⟨g8 + 1, 0, none⟩ (.int .i64 P.1.agency)).setCell ⟨g8 + 1, 1, none⟩ (.slice ra P.1.seats.length na)).setCell ⟨g8 + 1, 2, none⟩ (.slice rb P.1.off.length nb2)).setCell ⟨g8 + 1, 3, none⟩ (.int .i64 P.1.sent)).setCell ⟨g8 + 1, 4, none⟩ (.slice rc P.1.took.length nc)).setCell ⟨g8 + 1, 5, none⟩ (.int .i64 P.1.cash)) = wr at b6 ⊢
   clear hb9q z0 z1 z2 z3 z4 z5 tz0 tz1 tz2 tz3 tz4 tz5
   have HBR := Lib.hid (b6.1)
   have HTR := Lib.hid (StepX.fresh (HS1.out.trans HSN.out) (b6.2) (fun j hj => by have := HG8.out; omega))
   have hnb : AV (fun j => (S j ∨ j = w.heap.size + 3 ∨ j = g8 + 1) ∨ wq.heap.size ≤ j) wq (.agg #[.int .i64 P.1.agency, .slice ra P.1.seats.length na, .slice rb P.1.off.length nb2, .int .i64 P.1.sent, .slice rc P.1.took.length nc, .int .i64 P.1.cash]) P.1 := HV6.out.weak (fun j hj hs => by
    unfold Old
    have h1 := HZ1.out
    have h2 := HG8.out
    have h3 := HZ.out
    rcases hs with (hs | hs) | hs
    ·have := HSL.out j hs; omega
    ·omega
    ·omega)
   have hsz : wr.heap.size = wq.heap.size ∨ wq.heap.size ≤ wr.heap.size := .inr (b6.2).size
   have HNB := Lib.hid ((hnb.keep ((b6.2).keeps.mono (T := fun j => (S j ∨ j = w.heap.size + 3 ∨ j = g8 + 1) ∨ wq.heap.size ≤ j) fun j _ e => .inl (.inr (.inr e)))))
   have HSQ := Lib.hid (b6.2).size
   clear hnb hsz
   clear b6
   rcases act_two (nz_book (nz_lose h b x.shw x.day)) with ⟨b', hrr, ha⟩ | ⟨c, hrr, hc0, ha⟩
   ·have hp2 : P.2 = 0 := by rw [HP.out, ha]
    have hp1 : P.1 = b' := by rw [HP.out, ha]
    subst hp1
    have HE := Lib.hid (show actD h W x = (⟨W.books.set i P.1, W.msgs ++ []⟩, 0) from actD_done HV.out.1 HE0.out HIA.out HGB.out HBB.out.1 (by unfold deskD; rw [if_neg (by rw [HKK.out]; decide), if_neg (by rw [HKK.out]; decide), if_neg (by rw [HKK.out]; decide), if_neg (by rw [HKK.out]; decide), hrr]; rfl))
    have d9 : (P.2 != 0) = false := by rw [hp2]; rfl
    clear hp2 hrr
    (try clear e0 e1 e2 e3 e4)
    (try clear u0 u1)
    (try clear a0 a1 a2 a3 a4 a5 a6 a7 a8)
    obtain ⟨e0, e1, e2, e3, e4⟩ := cells5 (HB0.out.step HTR.out)
    obtain ⟨a0, a1, a2, a3, a4, a5, a6, a7, a8⟩ := cells9 (HB2.out.step HTR.out)
    obtain ⟨u0, u1⟩ : _ ∧ _ := ⟨(HB1.out.step HTR.out).cell 0, (HB1.out.step HTR.out).cell 1⟩
    simp only [zD, zE] at u0 u1
    have hu23 : SLe (avoid (fun j => S j ∨ j = w.heap.size + 3) (.slice none 0 0)) wr (.slice (some ⟨bb, bo, none⟩) W.books.length nb) W.books := ((HWB.out.keep (.of_step HTR.out)).weak (T := avoid (fun j => S j ∨ j = w.heap.size + 3) (.slice none 0 0)) (fun j _ hj => by
     rcases hj with (hj | hj) | hj
     ·exact .inl hj
     ·exact .inr (by omega)
     ·simp [Value.ownBlock] at hj)).e
    go_upto_region 24 with (at_builtin; refine wpl_append (α := Book) (S := fun j => S j ∨ j = w.heap.size + 3) (base := wr.heap.size) (v := .slice none 0 0) (l := []) (m := W.books) eiRefBooks rfl _ _ rfl rfl rfl (OwnL.nil _ _ _ _) hu23 W.books.length (by simp) W.books rfl (by simp only [maxLen]; omega) (by omega) (Nat.le_refl _) (fun p' c' w5 hown5 hg5 => ?_))
    have hst5 : Step wr w5 := StepX.grown hg5 (fun k hk _ => by simp [Value.ownBlock] at hk)
    clear hu23 hg5
    obtain ⟨g13, hg13⟩ : ∃ g, g = w5.heap.size := ⟨_, rfl⟩
    obtain ⟨W6, hW6⟩ : ∃ z9, z9 = w5.alloc (.cells #[.slice p' W.books.length c', .slice qm W.msgs.length nm] 49) := ⟨_, rfl⟩
    have hb13 : Bx W6 g13 [.slice p' W.books.length c', .slice qm W.msgs.length nm] 49 := by subst hW6 hg13; exact Bx.new _ [_, _] _
    have hst6 : Step wr W6 := by subst hW6; exact hst5.trans (Step.alloc _ _)
    have hown6 := hown5.step (show Step w5 W6 by subst hW6; exact Step.alloc _ _)
    rw [← hW6, ← hg13]
    have hlt13 : w5.heap.size ≤ g13 := by rw [hg13]; exact Nat.le_refl _
    have hng : ∀ g, (Value.slice p' W.books.length c').ownBlock = some g → g ≠ g13 := fun g hg e => by have := (hown5.lt g hg).2; omega
    clear hown5 hst5 hW6 hg13 hlt13
    obtain ⟨gB, cap, csB, hvb, hgb, hbxB, hcsB, _, hput⟩ := hown6.row_put hib
    rw [hvb] at hown6 hput hng hb13 ⊢
    have HNG := Lib.hid (hng gB rfl)
    have hrep : Rep.rep (avoid (fun j => S j ∨ j = w.heap.size + 3) (.slice (some ⟨gB, 0, none⟩) W.books.length cap)) W6 [.int .i64 P.1.agency, .slice ra P.1.seats.length na, .slice rb P.1.off.length nb2, .int .i64 P.1.sent, .slice rc P.1.took.length nc, .int .i64 P.1.cash] P.1 := by
     obtain ⟨cs9, he9, hr9⟩ := (HNB.out.keep (.of_step hst6))
     injection he9 with he9
     have hf9 : cs9 = [.int .i64 P.1.agency, .slice ra P.1.seats.length na, .slice rb P.1.off.length nb2, .int .i64 P.1.sent, .slice rc P.1.took.length nc, .int .i64 P.1.cash] := by
      have := congrArg Array.toList he9
      simpa using this.symm
     rw [hf9] at hr9
     refine Rep.weak (fun j _ hj => ?_) hr9
     rcases hj with (hj | hj) | hj
     ·exact .inl (.inl hj)
     ·exact .inl (.inr (.inl hj))
     ·right
      simp [Value.ownBlock] at hj
      have := HSQ.out
      omega
    have HST6 := Lib.hid hst6
    have HPUT := Lib.hid hput
    have HREP := Lib.hid hrep
    have HB13 := Lib.hid hb13
    have HBXB := Lib.hid hbxB
    have HCSB := Lib.hid (show i * 6 + 6 ≤ csB.length from hcsB)
    have HGB0 := Lib.hid hgb
    have HBR6 := Lib.hid (HBR.out.step hst6)
    clear hvb hgb hbxB hcsB hput hng hown6 hrep hst6 hb13
    (try clear e0 e1 e2 e3 e4)
    (try clear u0 u1)
    (try clear a0 a1 a2 a3 a4 a5 a6 a7 a8)
    obtain ⟨e0, e1, e2, e3, e4⟩ := cells5 (HB0.out.step (HTR.out.trans HST6.out))
    obtain ⟨a0, a1, a2, a3, a4, a5, a6, a7, a8⟩ := cells9 (HB2.out.step (HTR.out.trans HST6.out))
    obtain ⟨u0, u1⟩ : _ ∧ _ := ⟨(HB1.out.step (HTR.out.trans HST6.out)).cell 0, (HB1.out.step (HTR.out.trans HST6.out)).cell 1⟩
    simp only [zD, zE] at u0 u1
    obtain ⟨z0, z1, z2, z3, z4, z5⟩ := cells6 HBR6.out
    have y0 := HB13.out.cell 0
    have y1 := HB13.out.cell 1
    simp only [zD, zE] at y0 y1
    have hia := HIA.out
    have hrg : (0 : Int) ≤ x.agency ∧ x.agency < (W.books.length : Int) := by omega
    have htn : x.agency.toNat = i := by omega
    clear hia
    go_upto_region 25 with (refine wpl_store (v := .agg #[.int .i64 P.1.agency, .slice ra P.1.seats.length na, .slice rb P.1.off.length nb2, .int .i64 P.1.sent, .slice rc P.1.took.length nc, .int .i64 P.1.cash]) rfl _ _ _ rfl rfl rfl HBXB.out (by kernel_rfl) (by simp [Value.cells]; exact HCSB.out) (by simp [Value.cells, Value.oneCell']) (csB.take (i * 6) ++ [.int .i64 P.1.agency, .slice ra P.1.seats.length na, .slice rb P.1.off.length nb2, .int .i64 P.1.sent, .slice rc P.1.took.length nc, .int .i64 P.1.cash] ++ csB.drop (i * 6 + 6)) rfl (fun w10 hb10 hw10 => ?_))
    have hown10 := HPUT.out w10 _ P.1 HREP.out hw10 hb10
    have hst10 : Step wr w10 := Step.wrote HST6.out hw10 HGB0.out
    have hb13 := HB13.out.keep (Keeps.wrote (S := fun j => j = gB) hw10 rfl) (fun e => HNG.out e.symm)
    have HO10 := Lib.hid hown10
    have HS10 := Lib.hid (HTR.out.trans hst10)
    have HSR := Lib.hid hst10
    clear hown10 hst10 hw10 hb10 HPUT HREP hrg htn z0 z1 z2 z3 z4 z5 y0 y1
    have y0 := hb13.cell 0
    have y1 := hb13.cell 1
    simp only [zD, zE] at y0 y1
    have t0 := (HB3.out.step HS10.out).cell 0
    have t1 := (HB3.out.step HS10.out).cell 1
    have tf0 := (HB3.out.step HS10.out).frozen 0
    have tf1 := (HB3.out.step HS10.out).frozen 1
    simp only [zD, zE] at t0 t1
    clear hb13
    go_wp2
    have b2 := set2r (HB3.out.step HS10.out) (.slice (some ⟨gB, 0, none⟩) W.books.length cap) (.slice qm W.msgs.length nm)
    refine ret_struct2 (k := 2) rfl siRefWorld rfl b2.1 rfl rfl ?_
    rw [HE.out]
    have hk2 := b2.2.keeps.mono (T := fun j => S j ∨ w.heap.size ≤ j) fun j _ e => .inr (by omega)
    have hk3 := b2.2.keeps.mono (T := fun j => S j ∨ j = w.heap.size + 3) fun j _ e => .inr e
    have hsl := HO10.out.sl (fun g hg _ hs => by
     have h1 := HTR.out.size
     have h2 := HZ.out
     rcases hs with hs | hs
     ·have := HSL.out g hs; omega
     ·omega)
    exact ⟨_, rfl, ⟨_, rfl, _, _, rfl, (hsl.keep hk3).weak (fun _ _ h => .inl h), by rw [List.append_nil]; exact ((HWM.out.keep (.of_step HS10.out)).keep hk2).weak (fun _ _ h => .inl h)⟩, StepX.fresh (HS.out.trans HS10.out) b2.2 (fun j hj => by omega)⟩
   ·have hp2 : P.2 = c := by rw [HP.out, ha]
    have HE := Lib.hid (show actD h W x = (W, P.2) by
     rw [hp2]
     exact actD_refused HV.out.1 HE0.out HIA.out HGB.out HBB.out.1 (by unfold deskD; rw [if_neg (by rw [HKK.out]; decide), if_neg (by rw [HKK.out]; decide), if_neg (by rw [HKK.out]; decide), if_neg (by rw [HKK.out]; decide), hrr]; rfl))
    have d9 : (P.2 != 0) = true := by rw [bne_iff_ne, hp2]; exact hc0
    clear hp2 hc0 hrr
    (try clear e0 e1 e2 e3 e4)
    (try clear u0 u1)
    (try clear a0 a1 a2 a3 a4 a5 a6 a7 a8)
    obtain ⟨e0, e1, e2, e3, e4⟩ := cells5 (HB0.out.step HTR.out)
    obtain ⟨a0, a1, a2, a3, a4, a5, a6, a7, a8⟩ := cells9 (HB2.out.step HTR.out)
    obtain ⟨u0, u1⟩ : _ ∧ _ := ⟨(HB1.out.step HTR.out).cell 0, (HB1.out.step HTR.out).cell 1⟩
    simp only [zD, zE] at u0 u1
    have t0 := (HB3.out.step HTR.out).cell 0
    have t1 := (HB3.out.step HTR.out).cell 1
    have tf0 := (HB3.out.step HTR.out).frozen 0
    have tf1 := (HB3.out.step HTR.out).frozen 1
    simp only [zD, zE] at t0 t1
    go_wp2
    have b2 := set2r (HB3.out.step HTR.out) (.slice (some ⟨bb, bo, none⟩) W.books.length nb) (.slice (qm) W.msgs.length nm)
    refine ret_struct2 (k := 2) rfl siRefWorld rfl b2.1 rfl rfl ?_
    rw [HE.out]
    have hk2 := b2.2.keeps.mono (T := fun j => S j ∨ w.heap.size ≤ j) fun j _ e => .inr (by omega)
    exact ⟨_, rfl, ⟨_, rfl, _, _, rfl, ((HWB.out.keep (.of_step HTR.out)).keep hk2).weak (fun _ _ h => .inl h), ((HWM.out.keep (.of_step HTR.out)).keep hk2).weak (fun _ _ h => .inl h)⟩, StepX.fresh (HS.out.trans HTR.out) b2.2 (fun j hj => by omega)⟩
set_option maxRecDepth 100000 in
set_option maxHeartbeats 8000000 in
theorem RRun_any (S1 S2 : Nat → Prop) (h : House) (l : List ActT) (v u : Value) (w : World) (hv : AV S1 w v h) (hu : SL S2 w u l) (hok : valid h = true) (hsl : ∀ i (hi : i < l.length), l[i].seats.length ≤ 1000000) (hl : l.length ≤ 900) :
  Calls Tryz.prog 16 #[v, u] w fun e w' => ∃ vw ve, e = .returned (.tuple #[vw, ve]) ∧ AV (Old w) w' vw (worldAt h l l.length) ∧ SL (Old w) w' ve (errsTo h l l.length) ∧ Step w w' := by
 obtain ⟨c0, c1, c2, c3, c4, rfl, h0, h1, h2, h3, h4⟩ := hv.house
 obtain ⟨p0, k0, rfl⟩ := h0.form
 obtain ⟨p1, k1, rfl⟩ := h1.form
 obtain ⟨p2, k2, rfl⟩ := h2.form
 obtain ⟨p3, k3, rfl⟩ := h3.form
 obtain ⟨p4, k4, rfl⟩ := h4.form
 obtain ⟨pu, cu, bu, ou, rfl, _, _, hpu, hcu, _⟩ := hu.acts
 obtain ⟨W0, hW0⟩ : ∃ W0, W0 = (w.alloc (.cells #[.slice p0 h.sectors.length k0, .slice p1 h.prices.length k1, .slice p2 h.dates.length k2, .slice p3 h.frm.length k3, .slice p4 h.holds.length k4] 26)).alloc (.cells #[.slice none 0 0, .slice none 0 0] 49) := ⟨_, rfl⟩
 have hS : Step w W0 := by subst hW0; exact (by repeat (first | (with_reducible assumption) | (with_reducible exact Step.refl _) | (with_reducible apply Step.s_alloc) | (with_reducible apply Step.s_drew) | (with_reducible apply Step.s_drewN) | (with_reducible refine Step.trans ?_ (by with_reducible assumption))))
 have hb0 : Bx W0 w.heap.size [.slice p0 h.sectors.length k0, .slice p1 h.prices.length k1, .slice p2 h.dates.length k2, .slice p3 h.frm.length k3, .slice p4 h.holds.length k4] 26 := by subst hW0; exact (Bx.new _ [_, _, _, _, _] _).alloc _
 have hb4 : Bx W0 (w.heap.size + 1) [.slice none 0 0, .slice none 0 0] 49 := by subst hW0; exact Bx.new' _ [_, _] _ _ (by simp)
 have hz0 : W0.heap.size = w.heap.size + 2 := by subst hW0; simp
 have HH := Lib.hid (av0 hv)
 have HU := Lib.hid (And.intro hpu hcu)
 have HS := Lib.hid hS
 have HB0 := Lib.hid hb0
 have HB4 := Lib.hid hb4
 have HZ := Lib.hid hz0
 have HW := Lib.hid hW0
 have HV := Lib.hid (And.intro hok hsl)
 have hl9 := hl
 clear hv hu hS hb0 hb4 hz0 hW0 hok hsl hl hpu hcu h0 h1 h2 h3 h4
 go_enter Tryz.func16, Tryz.ntmps16
 go_upto_region 1 with (fail)
 rw [← HW.out]
 clear HW
 obtain ⟨e0, e1, e2, e3, e4⟩ := cells5 HB0.out
 go_wp2_with fail
 refine (RStart_any (fun _ => False) h _ _ (HH.out.keep (.of_step HS.out)) HV.out.1).mono ?_
 rintro e wn ⟨v6, rfl, hv6, hSn⟩
 obtain ⟨x0, x1, rfl, t0, t1⟩ := hv6.wd
 obtain ⟨pb, cb, rfl⟩ := t0.form
 obtain ⟨pm, cm, rfl⟩ := t1.form
 have HVW := Lib.hid (And.intro t0 t1)
 have HSN := Lib.hid hSn
 clear hv6 t0 t1 hSn e0 e1 e2 e3 e4
 go_upto_region 4 with (fail)
 obtain ⟨g6, hg6⟩ : ∃ g, g = wn.heap.size := ⟨_, rfl⟩
 obtain ⟨W6, hW6⟩ : ∃ z9, z9 = wn.alloc (.cells #[.slice pb (startD h).books.length cb, .slice pm (startD h).msgs.length cm] 49) := ⟨_, rfl⟩
 have hb6 : Bx W6 g6 [.slice pb (startD h).books.length cb, .slice pm (startD h).msgs.length cm] 49 := by subst hW6 hg6; exact Bx.new _ [_, _] _
 have hS6 : Step wn W6 := by subst hW6; exact Step.alloc _ _
 have hz6 : W6.heap.size = g6 + 1 := by subst hW6 hg6; simp
 rw [← hW6, ← hg6]
 have hg0 : W0.heap.size ≤ g6 := by rw [hg6]; exact HSN.out.size
 have HG6 := Lib.hid (And.intro hg0 hz6)
 have HST := Lib.hid (HSN.out.trans hS6)
 have HWA := Lib.hid (show SL (fun j => (j < w.heap.size + 2 ∨ j = g6) ∨ (Value.slice none 0 0).ownBlock = some j) W6 (.slice pb (worldAt h l 0).books.length cb) (worldAt h l 0).books ∧ SL (fun j => (j < w.heap.size + 2 ∨ j = g6) ∨ (Value.slice none 0 0).ownBlock = some j) W6 (.slice pm (worldAt h l 0).msgs.length cm) (worldAt h l 0).msgs from
  ⟨(HVW.out.1.weak (fun j hj hs => by unfold Old; have := HZ.out; rcases hs with (hs | hs) | hs <;> first | omega | simp [Value.ownBlock] at hs)).keep (.of_step hS6), (HVW.out.2.weak (fun j hj hs => by unfold Old; have := HZ.out; rcases hs with (hs | hs) | hs <;> first | omega | simp [Value.ownBlock] at hs)).keep (.of_step hS6)⟩)
 have HB6 := Lib.hid hb6
 clear hb6 hS6 hW6 hg6 hg0 hz6 HVW HSN
 go_loopw [7, 8] (fun v7 i wr => ∃ (k : Nat) (pb : Option Addr) (cb : Nat) (pm : Option Addr) (cm : Nat), k ≤ l.length ∧ i = .int .i64 k ∧ Bx wr g6 [.slice pb (worldAt h l k).books.length cb, .slice pm (worldAt h l k).msgs.length cm] 49 ∧ (SL (fun j => (j < w.heap.size + 2 ∨ j = g6) ∨ v7.ownBlock = some j) wr (.slice pb (worldAt h l k).books.length cb) (worldAt h l k).books ∧ SL (fun j => (j < w.heap.size + 2 ∨ j = g6) ∨ v7.ownBlock = some j) wr (.slice pm (worldAt h l k).msgs.length cm) (worldAt h l k).msgs) ∧ OwnL (fun _ => False) W6.heap.size 3 wr v7 (errsTo h l k) ∧ Keeps (fun j => j = g6) W6 wr ∧ Step w wr) (fun _ i _ => l.length - (intOf i).toNat)
 case atStart => exact ⟨0, pb, cb, pm, cm, Nat.zero_le _, rfl, HB6.out, HWA.out, OwnL.nil _ _ _ _, Keeps.refl _ _, HS.out.trans HST.out⟩
 case round =>
  obtain ⟨k, pb, cb, pm, cm, hk, rfl, hbx, hwd, hown, hkp, hT⟩ := hrel
  clear HB6 HWA
  obtain ⟨p7, c7, rfl⟩ : ∃ p c, u7 = .slice p (errsTo h l k).length c := by obtain ⟨p, c, e, _, _⟩ := hown.form; exact ⟨p, c, e⟩
  have HBX := Lib.hid hbx
  have HWD := Lib.hid hwd
  have HOW := Lib.hid hown
  have HKP := Lib.hid hkp
  have HT := Lib.hid hT
  have hb0 := (HB0.out.step HST.out).keep hkp (by have := HG6.out; have := HZ.out; omega)
  have HBH := Lib.hid hb0
  clear hbx hwd hown hkp hT hb0
  by_cases hlt : k < l.length
  ·obtain rfl := HU.out.1 (by omega)
   obtain ⟨c8, ⟨a0, a1, a2, a3, a4, a5, a6, a7, a8⟩, hs8, hk0, hk1⟩ := HU.out.2 k hlt
   obtain ⟨x, hx⟩ : ∃ x, x = l[k] := ⟨_, rfl⟩
   have hgx : l.getD k noAct = x := by rw [hx]; simp [List.getD_eq_getElem?_getD, hlt]
   have hxs : x.seats.length ≤ 1000000 := by rw [hx]; exact HV.out.2 k hlt
   rw [← hx] at a0 a1 a2 a3 a4 a5 a6 a7 hs8 hk0 hk1
   obtain ⟨p8, k8, hf8⟩ := hs8.form
   subst hf8
   have HXA := Lib.hid (show AV S2 w (.agg #[.int .u8 x.kind, .int .i64 x.agency, .int .i64 x.shw, .int .i64 x.seat, .int .i64 x.buyer, .int .i64 x.day, .int .i64 x.dst, .int .i64 x.msg, .slice p8 x.seats.length k8]) x from ⟨_, rfl, _, rfl, hs8, hk0, hk1⟩)
   have HGX := Lib.hid (And.intro hgx hxs)
   have a0 := (HT.out).kc a0; have a1 := (HT.out).kc a1; have a2 := (HT.out).kc a2; have a3 := (HT.out).kc a3; have a4 := (HT.out).kc a4; have a5 := (HT.out).kc a5; have a6 := (HT.out).kc a6; have a7 := (HT.out).kc a7; have a8 := (HT.out).kc a8
   clear hx hgx hxs hs8 hk0 hk1
   obtain ⟨e0, e1, e2, e3, e4⟩ := cells5 HBH.out
   obtain ⟨q0, q1⟩ : _ ∧ _ := ⟨HBX.out.cell 0, HBX.out.cell 1⟩
   simp only [zD, zE] at q0 q1
   have hrg : (0 : Int) ≤ (k : Int) ∧ (k : Int) < (l.length : Int) := by omega
   go_upto_region 6 with (fail)
   refine wp_region_seqM (fun c d v a w h => by cases d <;> exact h) (kdOf [6] [(10, 49, .agg #[.slice none 0 0, .slice none 0 0])]) [0, 0, 0, 0, 12, 28, 63, 127, 255, 255, 0, 1535, 4095] [0, 1, 2, 3, 4, 5, 6, 7, 8, 9, 10] [11, 12] (by kernel_rfl) (by kernel_rfl) (fun i T z hi hk => by simp only [List.mem_cons, List.not_mem_nil, or_false] at hi; rcases hi with rfl | rfl | rfl | rfl | rfl | rfl | rfl | rfl | rfl | rfl | rfl <;> simp [kdOf] at hk <;> (obtain ⟨rfl, rfl⟩ := hk; first | (show Option.bind _ _ = some _; kernel_rfl) | (refine ⟨_, rfl, fun _ _ => ?_⟩; go_simp))) ?_
   intro Wx hWx
   have e0 := (hWx).kc e0; have e1 := (hWx).kc e1; have e2 := (hWx).kc e2; have e3 := (hWx).kc e3; have e4 := (hWx).kc e4; have q0 := (hWx).kc q0; have q1 := (hWx).kc q1; have a0 := (hWx).kc a0; have a1 := (hWx).kc a1; have a2 := (hWx).kc a2; have a3 := (hWx).kc a3; have a4 := (hWx).kc a4; have a5 := (hWx).kc a5; have a6 := (hWx).kc a6; have a7 := (hWx).kc a7; have a8 := (hWx).kc a8
   repeat (first | (refine run_off rfl rfl (by rfl) ?_; (try simp only [Act.put, zA, zB, zC])) | (refine run_chain_off rfl rfl (by rfl) (K0_mono _) ?_; (try simp only [Act.put, zA, zB, zC])) | ((refine run_want rfl rfl (by rfl) ⟨?_, fun W hW => ?_, ?_⟩; rotate_left; (· (have d0 := hW.kc e0; have d1 := hW.kc e1; have d2 := hW.kc e2; have d3 := hW.kc e3; have d4 := hW.kc e4; have d5 := hW.kc q0; have d6 := hW.kc q1; have d7 := hW.kc a0; have d8 := hW.kc a1; have d9 := hW.kc a2; have d10 := hW.kc a3; have d11 := hW.kc a4; have d12 := hW.kc a5; have d13 := hW.kc a6; have d14 := hW.kc a7; have d15 := hW.kc a8; go_simp; (try with_reducible rfl)))); (try simp only [Act.put, zA, zB, zC])))
   clear e0 e1 e2 e3 e4 q0 q1 a0 a1 a2 a3 a4 a5 a6 a7 a8 hrg
   refine run_chain rfl rfl (by rfl) (fun Wi hWi K' hK => ?_)
   have HTi := Lib.hid (hWx.trans hWi)
   clear hWx hWi
   go_simp
   have hwk : ∀ j, j < wr.heap.size → (((j < w.heap.size + 2 ∨ j = g6) ∨ (Value.slice p7 (errsTo h l k).length c7).ownBlock = some j) ∨ (wr.heap.size ≤ j ∧ j < Wi.heap.size)) → ((j < w.heap.size + 2 ∨ j = g6) ∨ (Value.slice p7 (errsTo h l k).length c7).ownBlock = some j) := fun j hj hs => hs.elim id (fun e => by omega)
   have hwok := world_ok HV.out.1 l k
   have hml := msgs_le HV.out.1 l k
   refine (RDo_any (fun j => ((j < w.heap.size + 2 ∨ j = g6) ∨ (Value.slice p7 (errsTo h l k).length c7).ownBlock = some j) ∨ (wr.heap.size ≤ j ∧ j < Wi.heap.size)) (fun _ => False) S2 h (worldAt h l k) x _ _ _ _ (HH.out.keep (.of_step (HT.out.trans HTi.out))) ⟨_, rfl, _, _, rfl, (HWD.out.1.weak hwk).keep (.of_step HTi.out), (HWD.out.2.weak hwk).keep (.of_step HTi.out)⟩ (HXA.out.keep (.of_step (HT.out.trans HTi.out))) (fun j hj => by have h1 := HTi.out.size; have h2 := HKP.out.1; have h3 := HG6.out; have h4 := HZ.out; rcases hj with ((hj | hj) | hj) | hj <;> first | omega | (have := (HOW.out.lt j hj).2; omega)) HV.out.1 hwok HGX.out.2 (by omega)).mono ?_
   rintro e wq ⟨v9, rfl, hv9, hSn⟩
   clear hwk hwok hml
   have hst : (actD h (worldAt h l k) x).1 = worldAt h l (k + 1) := by rw [← HGX.out.1]; rfl
   have her : errsTo h l k ++ [(actD h (worldAt h l k) x).2] = errsTo h l (k + 1) := by rw [errsTo_succ, ← HGX.out.1]; rfl
   rw [hst] at hv9
   obtain ⟨er, her2⟩ : ∃ e, e = (actD h (worldAt h l k) x).2 := ⟨_, rfl⟩
   rw [← her2] at her ⊢
   have HER := Lib.hid her
   clear hst her her2
   obtain ⟨x0, x1, rfl, t0, t1⟩ := hv9.wd
   obtain ⟨pb2, cb2, rfl⟩ := t0.form
   obtain ⟨pm2, cm2, rfl⟩ := t1.form
   have HTT := Lib.hid (And.intro t0 t1)
   have HTQ := Lib.hid (HTi.out.trans hSn)
   refine hK _ _ (StepX.of hSn) ?_
   clear hK hv9 t0 t1 hSn HTi
   (try simp only [Act.put, zA, zB, zC])
   repeat (first | (refine run_off rfl rfl (by rfl) ?_; (try simp only [Act.put, zA, zB, zC])) | (refine run_chain_off rfl rfl (by rfl) (K0_mono _) ?_; (try simp only [Act.put, zA, zB, zC])) | ((refine run_want rfl rfl (by rfl) ⟨?_, fun W hW => ?_, ?_⟩; rotate_left; (· (skip; go_simp; (try with_reducible rfl)))); (try simp only [Act.put, zA, zB, zC])))
   refine run_alloc rfl rfl (fun W5 g9 hW5 hg hgb hgN => ?_)
   have hno : ∀ j, j < wq.heap.size → (((j < w.heap.size + 2 ∨ j = g6) ∨ (Value.slice p7 (errsTo h l k).length c7).ownBlock = some j) ∨ j = g9) → (((j < w.heap.size + 2 ∨ j = g6) ∨ (Value.slice p7 (errsTo h l k).length c7).ownBlock = some j) ∨ (wr.heap.size ≤ j ∧ j < Wi.heap.size)) := fun j hj hs => by
    rcases hs with hs | hs
    ·exact .inl hs
    ·exact .inr (by omega)
   have HNO := Lib.hid hno
   clear hno
   (try simp only [Act.put, zA, zB, zC])
   repeat (first | (refine run_off rfl rfl (by rfl) ?_; (try simp only [Act.put, zA, zB, zC])) | (refine run_chain_off rfl rfl (by rfl) (K0_mono _) ?_; (try simp only [Act.put, zA, zB, zC])) | ((refine run_want rfl rfl (by rfl) ⟨?_, fun W hW => ?_, ?_⟩; rotate_left; (· (skip; go_simp; (try with_reducible rfl)))); (try simp only [Act.put, zA, zB, zC])))
   refine run_end (L := [_, _]) rfl (fun W7 hW7 => ?_)
   have hb9 := Bx.step (w := W5) (cs := [_, _]) hg hW7
   refine wpl_store (v := .agg #[.slice pb2 (worldAt h l (k + 1)).books.length cb2, .slice pm2 (worldAt h l (k + 1)).msgs.length cm2]) rfl _ _ _ rfl rfl rfl hb9 (by kernel_rfl) (by simp [Value.cells]) (by simp [Value.cells, Value.oneCell']) [.slice pb2 (worldAt h l (k + 1)).books.length cb2, .slice pm2 (worldAt h l (k + 1)).msgs.length cm2] rfl (fun w8 hb8 hw8 => ?_)
   have hk8 : Keeps (fun j => ((j < w.heap.size + 2 ∨ j = g6) ∨ (Value.slice p7 (errsTo h l k).length c7).ownBlock = some j) ∨ j = g9) wq w8 := (Keeps.of_step (hW5.trans hW7)).trans (.wrote hw8 (.inr rfl))
   have hst8 : Step wr w8 := Step.wrote ((HTQ.out.trans hW5).trans hW7) hw8 hgb
   have HW8 := Lib.hid (And.intro ((HTT.out.1.weak HNO.out).keep hk8) ((HTT.out.2.weak HNO.out).keep hk8))
   have HB8 := Lib.hid hb8
   have HS8 := Lib.hid hst8
   have HBX8 := Lib.hid (HBX.out.step hst8)
   have HOW8 := Lib.hid (HOW.out.step hst8)
   clear hW5 hg hgb hgN hW7 hb9 hb8 hw8 hk8 hst8 HNO HTT HTQ HBX HOW HWD
   have q0 := HB8.out.cell 0
   have q1 := HB8.out.cell 1
   have r0 := HBX8.out.cell 0
   have r1 := HBX8.out.cell 1
   have f0 := HBX8.out.frozen 0
   have f1 := HBX8.out.frozen 1
   simp only [zD, zE] at q0 q1 r0 r1
   go_upto_region 8 with (fail)
   have b2 := set2r HBX8.out (.slice pb2 (worldAt h l (k + 1)).books.length cb2) (.slice pm2 (worldAt h l (k + 1)).msgs.length cm2)
   generalize ((w8.setCell ⟨g6, 0, none⟩ (.slice pb2 (worldAt h l (k + 1)).books.length cb2)).setCell ⟨g6, 1, none⟩ (.slice pm2 (worldAt h l (k + 1)).msgs.length cm2)) = w10 at b2 ⊢
   have hk10 : Keeps (fun j => ((j < w.heap.size + 2 ∨ j = g6) ∨ (Value.slice p7 (errsTo h l k).length c7).ownBlock = some j) ∨ j = g9) w8 w10 := b2.2.keeps.mono fun j _ e => .inl (.inl (.inr e))
   have hlt7 := HOW8.out.lt
   have hg6 := HG6.out
   have HW10 := Lib.hid (And.intro ((HW8.out.1.keep hk10).weak (T := fun j => (j < w.heap.size + 2 ∨ j = g6) ∨ (Value.slice p7 (errsTo h l k).length c7).ownBlock = some j) fun j _ hj => .inl hj) ((HW8.out.2.keep hk10).weak (T := fun j => (j < w.heap.size + 2 ∨ j = g6) ∨ (Value.slice p7 (errsTo h l k).length c7).ownBlock = some j) fun j _ hj => .inl hj))
   have HOW10 := Lib.hid (HOW8.out.keptF (fun g hg => b2.2.block g (hlt7 g hg).2 (by have := (hlt7 g hg).1; omega)))
   have HKP10 := Lib.hid ((HKP.out.trans (.of_step HS8.out)).trans b2.2.keeps)
   have HT10 := Lib.hid (StepX.fresh (HT.out.trans HS8.out) b2.2 (fun j hj => by have := HZ.out; omega))
   have HB10 := Lib.hid b2.1
   clear b2 hk10 hlt7 hg6 q0 q1 r0 r1 f0 f1 HW8 HOW8 HBX8 HS8 HKP HT HB8
   have hbase : W6.heap.size ≤ (w10.alloc (.cells #[.int .i64 er] 3)).heap.size := by have := HKP10.out.1; simp; omega
   go_wp2_with (at_builtin; refine wpl_append_F (α := Int) (S := fun _ => False) (base := W6.heap.size) (v := .slice p7 (errsTo h l k).length c7) (l := errsTo h l k) (m := [er]) eiInts rfl _ _ rfl rfl rfl (HOW10.out.step (Step.alloc _ _)) (SLe.one 3 rfl) (k + 1) (by simp [errsTo_len]) (errsTo h l (k + 1)) HER.out (by simp only [maxLen]; omega) (by omega) hbase ?_)
   intro p' c' w11 hown11 hg11 hf11
   have hal := Step.alloc w10 (.cells #[.int .i64 er] 3)
   have hown' := HOW10.out.step hal
   have hk11 : Keeps (fun j => (j < w.heap.size + 2 ∨ j = g6) ∨ (Value.slice p7 (errsTo h l k).length c7).ownBlock = some j) w10 w11 := (Keeps.of_step hal).trans (.grown hg11 fun j hj _ => .inr hj)
   have hng : ¬ (Value.slice p7 (errsTo h l k).length c7).ownBlock = some g6 := fun e => by have := (HOW10.out.lt _ e).1; have := HG6.out; omega
   have HB11 := Lib.hid ((HB10.out.step hal).keep (S := fun j => (Value.slice p7 (errsTo h l k).length c7).ownBlock = some j) (.grown hg11 fun j hj _ => hj) hng)
   have hown2 : ∀ j, j < w10.heap.size → ((j < w.heap.size + 2 ∨ j = g6) ∨ (Value.slice p' (k + 1) c').ownBlock = some j) → ((j < w.heap.size + 2 ∨ j = g6) ∨ (Value.slice p7 (errsTo h l k).length c7).ownBlock = some j) := fun j hj hs => by
    rcases hs with hs | hs
    ·exact .inl hs
    ·rcases hf11 j hs with e | e
     ·exact .inr e
     ·have := hal.size; omega
   have hk11b : Keeps (fun j => (j < w.heap.size + 2 ∨ j = g6) ∨ (Value.slice p7 (errsTo h l k).length c7).ownBlock = some j) w10 w11 := hk11
   have hfin : ∀ {α : Type} [Rep α] {v : Value} {L : List α}, SL (fun j => (j < w.heap.size + 2 ∨ j = g6) ∨ (Value.slice p7 (errsTo h l k).length c7).ownBlock = some j) w10 v L → SL (fun j => (j < w.heap.size + 2 ∨ j = g6) ∨ (Value.slice p' (k + 1) c').ownBlock = some j) w11 v L := fun {α _ v L} hh =>
    ((hh.weak (T := fun j => ((j < w.heap.size + 2 ∨ j = g6) ∨ (Value.slice p7 (errsTo h l k).length c7).ownBlock = some j) ∨ w10.heap.size ≤ j) (fun j hj hs => hs.elim id (fun e => by omega))).keep (hk11.mono fun j _ e => .inl e)).weak (fun j _ hs => by
     rcases hs with hs | hs
     ·exact .inl (.inl hs)
     ·rcases hf11 j hs with e | e
      ·exact .inl (.inr e)
      ·have := hal.size; exact .inr (by omega))
   have HW11 := Lib.hid (And.intro (hfin HW10.out.1) (hfin HW10.out.2))
   have HO11 := Lib.hid hown11
   have HKP11 := Lib.hid (show Keeps (fun j => j = g6) W6 w11 from ⟨by have h1 := HKP10.out.1; have h2 := hal.size; have h3 := hg11.size; omega, fun j hj hs => by
    have h1 := HKP10.out.1
    have h2 := hal.size
    rw [hg11.block j (by omega) (fun e => by have := (hown'.lt j e.symm).1; omega), hal.block j (by omega) id]
    exact HKP10.out.2 j hj hs⟩)
   have HT11 := Lib.hid (StepX.fresh (HT10.out.trans hal) (StepX.grown (X := fun j => (Value.slice p7 (errsTo h l k).length c7).ownBlock = some j) hg11 fun j hj _ => hj) (fun j hj => by have := (hown'.lt j hj).1; have := HG6.out; have := HZ.out; omega))
   clear hown11 hg11 hf11 hal hown' hk11 hng hown2 hk11b hfin hbase HW10 HOW10 HKP10 HT10 HB10
   go_wp2
   go_roundw
   case rel => exact ⟨k + 1, pb2, cb2, pm2, cm2, by omega, by go_num, HB11.out, HW11.out, HO11.out, HKP11.out, HT11.out⟩
   case measure => simp [intOf]; omega
  ·have hkl : k = l.length := by omega
   subst hkl
   have q0 := HBX.out.cell 0
   have q1 := HBX.out.cell 1
   have hb4 := (HB4.out.step HST.out).keep HKP.out (by have := HG6.out; have := HZ.out; omega)
   have t0 := hb4.cell 0
   have t1 := hb4.cell 1
   have tf0 := hb4.frozen 0
   have tf1 := hb4.frozen 1
   simp only [zD, zE] at q0 q1 t0 t1
   have HB4r := Lib.hid hb4
   clear hb4
   go_wp2
   have b2 := set2r HB4r.out (.slice pb (worldAt h l l.length).books.length cb) (.slice pm (worldAt h l l.length).msgs.length cm)
   have so := (HOW.out.flat (fun j => j < w.heap.size + 2)).slb fun g hg e => by have := (HOW.out.lt g hg).1; have := HG6.out; have := HZ.out; omega
   have hk2 : Keeps (fun j => j < w.heap.size + 2) wr _ := b2.2.keeps.mono fun j _ e => by omega
   have hold : ∀ j : Nat, ∀ W : World, j < W.heap.size → Old w j → j < w.heap.size + 2 := fun j W _ hj => by unfold Old at hj; omega
   refine ret_struct2 (k := 2) rfl siRefWorld rfl b2.1 rfl rfl ?_
   refine ⟨_, _, rfl, ⟨_, rfl, _, _, rfl, ?_, ?_⟩, ?_, StepX.fresh HT.out b2.2 (fun j hj => by omega)⟩
   ·exact ((HWD.out.1.weak (T := fun j => j < w.heap.size + 2) fun j _ hj => .inl (.inl hj)).keep hk2).weak (hold · _)
   ·exact ((HWD.out.2.weak (T := fun j => j < w.heap.size + 2) fun j _ hj => .inl (.inl hj)).keep hk2).weak (hold · _)
   ·exact (so.keep hk2).weak (hold · _)
end Go.Proofs.YtgpiieogiafdoaaGreat
