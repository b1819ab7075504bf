/- Walks and plain laws, part r. -/
import Derived.Test.YtfhmdpicoccnfaaMb
import Derived.Test.YtfhmdpicoccnfaaMe
import Derived.Test.YtfhmdpicoccnfaaMo
import Derived.Test.YtfhmdpicoccnfaaRows
import Derived.BigQuiet
import Derived.Deep.AppendLies
import Derived.Deep.DeepCutAuto
import Derived.Deep.QuietTactic
import Derived.Deep.RegionHeld3
import Derived.Lib.Hide
import Derived.WalkKit
import Derived.WalkLawsBesides
import Derived.WalkSmall
set_option maxHeartbeats 16000000
set_option maxRecDepth 100000
namespace Go.BT
end Go.BT
namespace Go.BT.Ap
open Go.BT
open Go.RowKit
inductive Kd where
 | silent | chain | alloc (T : TypeId) (z : Value) | make (T : TypeId) (n : Nat) (xs : Array Value) | pure
def madeV (z : Value) (g : Nat) : Value := match z with
 | .tuple xs => .slice (some ⟨g, 0, none⟩) xs.size xs.size
 | _ => .pointer (some ⟨g, 0, none⟩)
def madeC (z : Value) : Array Value := match z with
 | .tuple xs => xs
 | z => z.cells
def isTup (z : Value) : Bool := match z with
 | .tuple _ => true
 | _ => false
def Makes (P : Program) (ops : Array Oper) (i : Nat) (T : TypeId) (z : Value) : Prop := match z with
 | .tuple xs => ∃ o, ops[i]? = some o ∧ ∀ (a : Act) (w : World), (execOp a.eval o).run P w = .ok (.value (.slice (some ⟨w.heap.size, 0, none⟩) xs.size xs.size)) (w.alloc (.cells xs T))
 | z => (P.info? T).bind (·.zero) = some z
def MakesAt (P : Program) (ops : Array Oper) (i : Nat) (T : TypeId) (n : Nat) (xs : Array Value) (a : Act) : Prop :=
 ∃ o, ops[i]? = some o ∧ Region.wanted o (yielded ops a.tmps) = true ∧ ∀ w : World, (execOp a.eval o).run P w = .ok (.value (.slice (some ⟨w.heap.size, 0, none⟩) n n)) (w.alloc (.cells xs T))
def QF : Exit → Act → World → Prop := fun _ _ _ => False
abbrev Cont := (Nat → Prop) → Act → World → Prop
def ContMono (X : Nat → Prop) (K : Cont) : Prop := ∀ (N N' : Nat → Prop) a w w', (∀ g, N' g → N g) → StepX X w w' → K N a w → K N' a w'
def XB (X : Nat → Prop) (base : Nat) : Nat → Prop := fun j => X j ∨ base ≤ j
def XN (X : Nat → Prop) (base : Nat) (N : Nat → Prop) : Nat → Prop := fun j => X j ∨ (base ≤ j ∧ ¬ N j)
section
variable (P : Program) (ops : Array Oper) (X : Nat → Prop) (base : Nat) (kd : Nat → Kd)
def go (i : Nat) (K : Cont) : Cont := fun N a w =>
 match kd i with
 | .silent => ∃ o v, ops[i]? = some o ∧ YieldsIf P ops (StepX (XB X base) w) o v a ∧ K N (a.put o.dst v) w
 | .chain => ∀ W, StepX X w W → wpOp P ops QF i (fun a' w' => StepX (XN X base N) W w' ∧ K (fun g => N g ∧ (g < W.heap.size ∨ w'.heap.size ≤ g)) a' w') a W
 | .alloc T z => ∀ W g, StepX X w W → W.heap[g]? = some (.cells (madeC z) T (0, 0)) → base ≤ g → N g → K (fun x => N x ∧ x ≠ g) (a.put ((ops[i]?).bind (·.dst)) (madeV z g)) W
 | .make T n xs => MakesAt P ops i T n xs a ∧ ∀ W g, StepX X w W → W.heap[g]? = some (.cells xs T (0, 0)) → base ≤ g → N g → K (fun x => N x ∧ x ≠ g) (a.put ((ops[i]?).bind (·.dst)) (.slice (some ⟨g, 0, none⟩) n n)) W
 | .pure => ∃ o v, ops[i]? = some o ∧ YieldsIf P ops (fun _ => True) o v a ∧ K N (a.put o.dst v) w
def run (l : List Nat) (K : Cont) : Cont := l.foldr (fun i K => go P ops X base kd i K) K
variable {P ops X base kd}
theorem YieldsIf.step {o : Oper} {v : Value} {a : Act} {w w' : World} (h : YieldsIf P ops (StepX (XB X base) w) o v a) (hs : StepX X w w') : YieldsIf P ops (StepX (XB X base) w') o v a :=
 h.imp (fun ⟨hw, hv⟩ => ⟨hw, fun W hW => hv W ((hs.mono fun _ _ h => .inl h).trans hW)⟩) id
theorem YieldsIf.stepN {o : Oper} {v : Value} {a : Act} {w W w' : World} {N : Nat → Prop} (h : YieldsIf P ops (StepX (XB X base) w) o v a) (hs : StepX X w W) (hs' : StepX (XN X base N) W w') : YieldsIf P ops (StepX (XB X base) w') o v a :=
 h.imp (fun ⟨hw, hv⟩ => ⟨hw, fun W hW => hv W (((hs.mono fun _ _ h => .inl h).trans (hs'.mono fun _ _ h => h.imp id And.left)).trans hW)⟩) id
theorem go_cong {i : Nat} {K K' : Cont} (h : ∀ N a w, K N a w → K' N a w) {N : Nat → Prop} {a : Act} {w : World} (hg : go P ops X base kd i K N a w) : go P ops X base kd i K' N a w := by
 unfold go at *
 split at hg
 ·obtain ⟨o, v, ho, hy, hk⟩ := hg; exact ⟨o, v, ho, hy, h _ _ _ hk⟩
 ·exact fun W hW => wpOp_mono (fun a' w' ⟨hs, hk⟩ => ⟨hs, h _ _ _ hk⟩) (hg W hW)
 ·exact fun W g h1 h2 h3 h4 => h _ _ _ (hg W g h1 h2 h3 h4)
 ·exact ⟨hg.1, fun W g h1 h2 h3 h4 => h _ _ _ (hg.2 W g h1 h2 h3 h4)⟩
 ·obtain ⟨o, v, ho, hy, hk⟩ := hg; exact ⟨o, v, ho, hy, h _ _ _ hk⟩
theorem go_mono {i : Nat} {K : Cont} (hK : ContMono X K) : ContMono X (go P ops X base kd i K) := by
 intro N N' a w w' hN hs hg
 unfold go at *
 split at hg
 ·obtain ⟨o, v, ho, hy, hk⟩ := hg; exact ⟨o, v, ho, YieldsIf.step hy hs, hK _ _ _ _ _ hN hs hk⟩
 ·exact fun W hW => wpOp_mono (fun a' w' ⟨hs', hk⟩ => ⟨hs'.mono (fun j _ h => h.imp id fun h => ⟨h.1, fun hn => h.2 (hN j hn)⟩), hK _ _ _ _ _ (fun g ⟨h1, h2⟩ => ⟨hN g h1, h2⟩) (StepX.refl _ _) hk⟩) (hg W (hs.trans hW))
 ·exact fun W g h1 h2 h3 h4 => hK _ _ _ _ _ (fun x ⟨h5, h6⟩ => ⟨hN x h5, h6⟩) (StepX.refl _ _) (hg W g (hs.trans h1) h2 h3 (hN g h4))
 ·exact ⟨hg.1, fun W g h1 h2 h3 h4 => hK _ _ _ _ _ (fun x ⟨h5, h6⟩ => ⟨hN x h5, h6⟩) (StepX.refl _ _) (hg.2 W g (hs.trans h1) h2 h3 (hN g h4))⟩
 ·obtain ⟨o, v, ho, hy, hk⟩ := hg; exact ⟨o, v, ho, hy, hK _ _ _ _ _ hN hs hk⟩
theorem run_mono {K : Cont} (hK : ContMono X K) : ∀ l, ContMono X (run P ops X base kd l K)
 | [] => hK
 | _ :: l => go_mono (run_mono hK l)
theorem wpOp_under {j : Nat} {oj : Oper} {dst : Option Tmp} {v : Value} (hj : ops[j]? = some oj) (h1 : ∀ d, dst = some d → d ∉ oj.looksAt ops) (h2 : ∀ d, dst = some d → oj.dst ≠ some d)
  (hsj : ∀ cs b, oj.op ≠ .select cs b) {K : Act → World → Prop} {a : Act} {w : World} (h : wpOp P ops QF j K a w) :
  wpOp P ops QF j (fun a' w' => ∃ a0, a' = a0.put dst v ∧ K a0 w') (a.put dst v) w := by
 unfold wpOp at *
 simp only [hj] at *
 rw [wanted_put oj a dst v h1]
 split
 ·rename_i hw
  simp only [hw, if_true] at h
  rcases h with h | ⟨_, a0, w0, hF⟩
  case inr => exact hF.elim
  refine .inl ?_
  unfold Oper.wp at *
  rw [execOp_put oj hsj a dst v h1]
  generalize (execOp a.eval oj).run P w = r at *
  cases r with
  | ok n w' =>
   cases n <;> simp only [Oper.upon] at h ⊢
   case value u => exact ⟨_, (Act.put_comm a v u h2), h⟩
   case skip => exact ⟨_, (Act.put_comm a v undef h2), h⟩
   case defer d => exact ⟨_, (by rw [← Act.put_comm _ v undef h2]; cases dst <;> rfl), h⟩
   case enter f args =>
    refine Calls.mono h fun e w'' he => ?_
    cases e with
    | returned u => exact ⟨_, (Act.put_comm a v u h2), he⟩
    | panicked c => exact he.elim
    | outgrown => exact he
   case row row args => exact Rows.mono h fun u w'' he => ⟨_, (Act.put_comm a v u h2), he⟩
  | halt x w' =>
   cases x <;> simp only [Oper.upon] at h ⊢
   case panic u => exact h.elim
 ·rename_i hw
  simp only [hw] at h
  exact ⟨_, (Act.put_comm a v undef h2), h⟩
theorem calls_ex {f : FuncId} {args : Array Value} {w : World} {R : Ending → World → Prop} (h : Calls P f args w R) : ∃ e w', R e w' := by
 obtain ⟨e, w', _, hR, _⟩ := h []
 exact ⟨e, w', hR⟩
theorem wpOp_pure {i : Nat} {oi : Oper} (hi : ops[i]? = some oi) {Φ : Act → Prop} (hΦ : ∀ a v, Φ (a.put oi.dst v) → Φ a) (hD : ∀ (a : Act) (d : Deferred), Φ { a with defers := d :: a.defers } → Φ a) {K : Act → World → Prop} {a : Act} {w : World} (h : wpOp P ops QF i K a w) (hK : ∀ a' w', K a' w' → Φ a') : Φ a := by
 unfold wpOp at h
 simp only [hi] at h
 split at h
 ·rcases h with h | ⟨_, a0, w0, hF⟩
  case inr => exact hF.elim
  unfold Oper.wp at h
  generalize (execOp a.eval oi).run P w = r at h
  cases r with
  | ok n w' =>
   cases n <;> simp only [Oper.upon] at h
   case value u => exact hΦ a u (hK _ _ h)
   case skip => exact hΦ a undef (hK _ _ h)
   case defer d => exact hD a d (hΦ _ undef (hK _ _ h))
   case enter f args =>
    obtain ⟨e, w'', he⟩ := calls_ex h
    cases e with
    | returned u => exact hΦ a u (hK _ _ he)
    | panicked c => exact he.elim
    | outgrown => obtain ⟨_, _, hF⟩ := he; exact hF.elim
   case row row args =>
    obtain ⟨u, w'', he, _⟩ := h (Frame.enter P 0 #[] .normal) []
    exact hΦ a u (hK _ _ he)
   all_goals exact h.elim
  | halt x w' => cases x <;> simp only [Oper.upon] at h <;> exact h.elim
 ·exact hΦ a undef (hK _ _ h)
theorem wpOp_keep {i : Nat} {oi : Oper} (hi : ops[i]? = some oi) {Φ : Act → Prop} (hΦ : ∀ a v, Φ a → Φ (a.put oi.dst v)) (hD : ∀ (a : Act) (d : Deferred), Φ a → Φ { a with defers := d :: a.defers }) {K : Act → World → Prop} {a : Act} {w : World} (h : wpOp P ops QF i K a w) (ha : Φ a) : wpOp P ops QF i (fun a' w' => K a' w' ∧ Φ a') a w := by
 unfold wpOp at *
 simp only [hi] at *
 split
 ·rename_i hw
  simp only [hw, if_true] at h
  rcases h with h | ⟨_, a0, w0, hF⟩
  case inr => exact hF.elim
  refine .inl ?_
  unfold Oper.wp at *
  generalize (execOp a.eval oi).run P w = r at *
  cases r with
  | ok n w' =>
   cases n <;> simp only [Oper.upon] at h ⊢
   case value u => exact ⟨h, hΦ _ _ ha⟩
   case skip => exact ⟨h, hΦ _ _ ha⟩
   case defer d => exact ⟨h, hΦ _ _ (hD _ _ ha)⟩
   case enter f args =>
    refine Calls.mono h fun e w'' he => ?_
    cases e with
    | returned u => exact ⟨he, hΦ _ _ ha⟩
    | panicked c => exact he.elim
    | outgrown => exact he
   case row row args => exact Rows.mono h fun u w'' he => ⟨he, hΦ _ _ ha⟩
  | halt x w' =>
   cases x <;> simp only [Oper.upon] at h ⊢
   case panic u => exact h.elim
 ·rename_i hw
  simp only [hw] at h
  exact ⟨h, hΦ _ _ ha⟩
theorem YieldsIf.same {o : Oper} {v v' : Value} {a : Act} (h : YieldsIf P ops (fun _ => True) o v a) (h' : YieldsIf P ops (fun _ => True) o v' a) (w : World) : v = v' := by
 rcases h with ⟨h1, h2⟩ | ⟨h1, h2⟩ <;> rcases h' with ⟨k1, k2⟩ | ⟨k1, k2⟩
 ·have e := (h2 w trivial).symm.trans (k2 w trivial)
  injection e with e
  injection e
 ·rw [h1] at k1; cases k1
 ·rw [h1] at k1; cases k1
 ·rw [h2, k2]
def swaps : Kd → Kd → Bool
 | .silent, _ => true
 | .pure, _ => true
 | .chain, .pure => true
 | .chain, .alloc _ _ => true
 | .alloc _ _, .alloc _ _ => true
 | .chain, .make _ _ _ => true
 | .make _ _ _, .alloc _ _ => true
 | _, _ => false
theorem exch {i j : Nat} {oi oj : Oper} (hi : ops[i]? = some oi) (hj : ops[j]? = some oj) (hap : oi.apart ops oj = true)
  (hsi : ∀ cs b, oi.op ≠ .select cs b) (hsj : ∀ cs b, oj.op ≠ .select cs b) (hsw : swaps (kd i) (kd j) = true) (hX : ∀ j, X j → j < base) {K : Cont} (hK : ContMono X K) {N : Nat → Prop} {a : Act} {w : World}
  (h : go P ops X base kd i (go P ops X base kd j K) N a w) : go P ops X base kd j (go P ops X base kd i K) N a w := by
 obtain ⟨h1, h2, h3⟩ := Oper.apart_spec hap
 have keepI : ∀ {S : World → Prop} {v : Value} {a : Act} (u : Value), YieldsIf P ops S oi v a → YieldsIf P ops S oi v (a.put oj.dst u) := fun {S v a} u hy =>
  hy.of_same (execOp_put oi hsi a oj.dst u h3) (wanted_put oi a oj.dst u h3)
 have backJ : ∀ {S : World → Prop} {v u : Value} {a : Act}, YieldsIf P ops S oj v (a.put oi.dst u) → YieldsIf P ops S oj v a := fun {S v u a} hy =>
  hy.of_same (execOp_put oj hsj a oi.dst u h1).symm (wanted_put oj a oi.dst u h1).symm
 have hdi : (ops[i]?).bind (·.dst) = oi.dst := by rw [hi]; rfl
 have hdj : (ops[j]?).bind (·.dst) = oj.dst := by rw [hj]; rfl
 have hsome : ∀ {w w' : World} {g : Nat} {o : Obj}, StepX X w w' → base ≤ g → w.heap[g]? = some o → w'.heap[g]? = some o := fun {w w' g o} hs hb hg => by
  rw [hs.block g (Array.getElem?_eq_some_iff.1 hg).1 (fun hx => by have := hX g hx; omega)]; exact hg
 have hsomeN : ∀ {w W w' : World} {g : Nat} {o : Obj} {N : Nat → Prop}, StepX X w W → StepX (XN X base N) W w' → base ≤ g → N g → w.heap[g]? = some o → w'.heap[g]? = some o := fun {w W w' g o N} h1 h2 hb hn hg => by
  have hg2 := hsome h1 hb hg
  rw [h2.block g (Array.getElem?_eq_some_iff.1 hg2).1 (fun hx => by
   rcases hx with hx | hx
   ·have := hX g hx; omega
   ·exact hx.2 hn)]
  exact hg2
 have makesBack : ∀ {T : TypeId} {n : Nat} {xs : Array Value} {a : Act} {v : Value}, MakesAt P ops j T n xs (a.put oi.dst v) → MakesAt P ops j T n xs a := fun {T n xs a v} ⟨o, ho, hg, hr⟩ => by
  obtain rfl : oj = o := by rw [hj] at ho; exact Option.some.inj ho
  exact ⟨oj, hj, by rw [← wanted_put oj a oi.dst v h1]; exact hg, fun w => by rw [← execOp_put oj hsj a oi.dst v h1]; exact hr w⟩
 have makesKeep : ∀ {T : TypeId} {n : Nat} {xs : Array Value} {a : Act} {v : Value}, MakesAt P ops i T n xs a → MakesAt P ops i T n xs (a.put oj.dst v) := fun {T n xs a v} ⟨o, ho, hg, hr⟩ => by
  obtain rfl : oi = o := by rw [hi] at ho; exact Option.some.inj ho
  exact ⟨oi, hi, by rw [wanted_put oi a oj.dst v h3]; exact hg, fun w => by rw [execOp_put oi hsi a oj.dst v h3]; exact hr w⟩
 cases hki : kd i with
 | make T n xs =>
  cases hkj : kd j with
  | silent => simp [hki, hkj, swaps] at hsw
  | chain => simp [hki, hkj, swaps] at hsw
  | make T' n' xs' => simp [hki, hkj, swaps] at hsw
  | pure => simp [hki, hkj, swaps] at hsw
  | alloc T' z' =>
   simp only [go, hki, hkj] at h ⊢
   intro W' g' hs' hb' hg' hN'
   refine ⟨by rw [hdj]; exact makesKeep h.1, ?_⟩
   intro W g hs hb hg ⟨hN, hne⟩
   have h := h.2
   rw [hdi, hdj] at *
   rw [← Act.put_comm a _ _ h2]
   exact hK _ _ _ _ _ (fun x ⟨⟨q1, q2⟩, q3⟩ => ⟨⟨q1, q3⟩, q2⟩) (StepX.refl _ _) (h W g (hs'.trans hs) hb hg hN W g' (StepX.refl _ _) (hsome hs hg' hb') hg' ⟨hN', fun e => hne e.symm⟩)
 | silent =>
  cases hkj : kd j with
  | make T n xs =>
   simp only [go, hki, hkj] at h ⊢
   obtain ⟨o, v, ho, hy, hm, hk⟩ := h
   obtain rfl : oi = o := by rw [hi] at ho; exact Option.some.inj ho
   refine ⟨makesBack hm, fun W g hs hb hg hN => ⟨_, v, hi, ?_, ?_⟩⟩
   ·rw [hdj]; exact keepI _ (YieldsIf.step hy hs)
   ·rw [hdj, ← Act.put_comm a v _ h2, ← hdj]
    exact hk W g hs hb hg hN
  | silent =>
   simp only [go, hki, hkj] at h ⊢
   obtain ⟨o, v, ho, hy, o', v', ho', hy', hk⟩ := h
   obtain rfl : oi = o := by rw [hi] at ho; exact Option.some.inj ho
   obtain rfl : oj = o' := by rw [hj] at ho'; exact Option.some.inj ho'
   exact ⟨_, v', hj, backJ hy', _, v, hi, keepI _ hy, by rw [← Act.put_comm a v v' h2]; exact hk⟩
  | chain =>
   simp only [go, hki, hkj] at h ⊢
   obtain ⟨o, v, ho, hy, hk⟩ := h
   obtain rfl : oi = o := by rw [hi] at ho; exact Option.some.inj ho
   intro W hW
   refine wpOp_mono (fun a' w' hh => ?_) (wpOp_putIf (S := StepX (XB X base) w) hj hap hsi hsj (fun _ _ _ hq => hq) hy (hk W hW))
   obtain ⟨hy', hs, hk'⟩ := hh
   exact ⟨hs, _, v, hi, YieldsIf.stepN hy' hW hs, hk'⟩
  | alloc T z =>
   simp only [go, hki, hkj] at h ⊢
   obtain ⟨o, v, ho, hy, hk⟩ := h
   obtain rfl : oi = o := by rw [hi] at ho; exact Option.some.inj ho
   refine fun W g hs hb hg hN => ⟨_, v, hi, ?_, ?_⟩
   ·rw [hdj]; exact keepI _ (YieldsIf.step hy hs)
   ·rw [hdj, ← Act.put_comm a v _ h2, ← hdj]
    exact hk W g hs hb hg hN
  | pure =>
   simp only [go, hki, hkj] at h ⊢
   obtain ⟨o, v, ho, hy, o', v', ho', hy', hk⟩ := h
   obtain rfl : oi = o := by rw [hi] at ho; exact Option.some.inj ho
   obtain rfl : oj = o' := by rw [hj] at ho'; exact Option.some.inj ho'
   exact ⟨_, v', hj, backJ hy', _, v, hi, keepI _ hy, by rw [← Act.put_comm a v v' h2]; exact hk⟩
 | pure =>
  cases hkj : kd j with
  | make T n xs =>
   simp only [go, hki, hkj] at h ⊢
   obtain ⟨o, v, ho, hy, hm, hk⟩ := h
   obtain rfl : oi = o := by rw [hi] at ho; exact Option.some.inj ho
   refine ⟨makesBack hm, fun W g hs hb hg hN => ⟨_, v, hi, ?_, ?_⟩⟩
   ·rw [hdj]; exact keepI _ hy
   ·rw [hdj, ← Act.put_comm a v _ h2, ← hdj]
    exact hk W g hs hb hg hN
  | silent =>
   simp only [go, hki, hkj] at h ⊢
   obtain ⟨o, v, ho, hy, o', v', ho', hy', hk⟩ := h
   obtain rfl : oi = o := by rw [hi] at ho; exact Option.some.inj ho
   obtain rfl : oj = o' := by rw [hj] at ho'; exact Option.some.inj ho'
   exact ⟨_, v', hj, backJ hy', _, v, hi, keepI _ hy, by rw [← Act.put_comm a v v' h2]; exact hk⟩
  | chain =>
   simp only [go, hki, hkj] at h ⊢
   obtain ⟨o, v, ho, hy, hk⟩ := h
   obtain rfl : oi = o := by rw [hi] at ho; exact Option.some.inj ho
   intro W hW
   refine wpOp_mono (fun a' w' hh => ?_) (wpOp_putIf (S := fun _ => True) hj hap hsi hsj (fun _ _ _ hq => hq) hy (hk W hW))
   obtain ⟨hy', hs, hk'⟩ := hh
   exact ⟨hs, _, v, hi, hy', hk'⟩
  | alloc T z =>
   simp only [go, hki, hkj] at h ⊢
   obtain ⟨o, v, ho, hy, hk⟩ := h
   obtain rfl : oi = o := by rw [hi] at ho; exact Option.some.inj ho
   refine fun W g hs hb hg hN => ⟨_, v, hi, ?_, ?_⟩
   ·rw [hdj]; exact keepI _ hy
   ·rw [hdj, ← Act.put_comm a v _ h2, ← hdj]
    exact hk W g hs hb hg hN
  | pure =>
   simp only [go, hki, hkj] at h ⊢
   obtain ⟨o, v, ho, hy, o', v', ho', hy', hk⟩ := h
   obtain rfl : oi = o := by rw [hi] at ho; exact Option.some.inj ho
   obtain rfl : oj = o' := by rw [hj] at ho'; exact Option.some.inj ho'
   exact ⟨_, v', hj, backJ hy', _, v, hi, keepI _ hy, by rw [← Act.put_comm a v v' h2]; exact hk⟩
 | chain =>
  cases hkj : kd j with
  | silent => simp [hki, hkj, swaps] at hsw
  | chain => simp [hki, hkj, swaps] at hsw
  | pure =>
   simp only [go, hki, hkj] at h ⊢
   obtain ⟨v, hv⟩ : ∃ v, YieldsIf P ops (fun _ => True) oj v a := wpOp_pure hi (Φ := fun a => ∃ v, YieldsIf P ops (fun _ => True) oj v a) (fun a u ⟨v, hm⟩ => ⟨v, backJ hm⟩) (fun a d ⟨v, hm⟩ => ⟨v, hm.of_same rfl rfl⟩) (h w (StepX.refl _ _)) (fun a' w' hh => by
    obtain ⟨_, o, v, ho, hy, _⟩ := hh
    obtain rfl : oj = o := by rw [hj] at ho; exact Option.some.inj ho
    exact ⟨v, hy⟩)
   refine ⟨_, v, hj, hv, fun W hW => ?_⟩
   have hkeep := wpOp_keep hi (Φ := fun a => YieldsIf P ops (fun _ => True) oj v a) (fun a u hm => hm.of_same (execOp_put oj hsj a oi.dst u h1) (wanted_put oj a oi.dst u h1)) (fun a d hm => hm.of_same rfl rfl) (h W hW) hv
   refine wpOp_mono (fun a' w' hh => ?_) (wpOp_under (dst := oj.dst) (v := v) hi h3 (fun d hd he => h2 d he hd) hsi hkeep)
   obtain ⟨a0, rfl, ⟨hs, o, v', ho, hy, hk⟩, hv0⟩ := hh
   obtain rfl : oj = o := by rw [hj] at ho; exact Option.some.inj ho
   obtain rfl := YieldsIf.same hv0 hy w'
   exact ⟨hs, hk⟩
  | make T n xs =>
   simp only [go, hki, hkj] at h ⊢
   have hmk : MakesAt P ops j T n xs a := wpOp_pure hi (Φ := MakesAt P ops j T n xs) (fun a v hm => makesBack hm) (fun a d hm => hm) (h w (StepX.refl _ _)) (fun a' w' hh => hh.2.1)
   refine ⟨hmk, ?_⟩
   intro W0 g hs0 hb hg hN W hW
   refine wpOp_mono (fun a' w' hh => ?_) (wpOp_under (dst := (ops[j]?).bind (·.dst)) (v := .slice (some ⟨g, 0, none⟩) n n) hi (by rw [hdj]; exact h3) (by rw [hdj]; exact fun d hd he => h2 d he hd) hsi (h W (hs0.trans hW)))
   obtain ⟨a0, rfl, hs, hk⟩ := hh
   have hlt : g < W.heap.size := Nat.lt_of_lt_of_le (Array.getElem?_eq_some_iff.1 hb).1 hW.size
   exact ⟨hs.mono (fun j _ h => h.imp id fun h => ⟨h.1, fun hn => h.2 hn.1⟩), hK _ _ _ _ _ (fun x ⟨⟨q1, q2⟩, q3⟩ => ⟨⟨q1, q3⟩, q2⟩) (StepX.refl _ _) (hk.2 w' g (StepX.refl _ _) (hsomeN hW hs hg hN hb) hg ⟨hN, .inl hlt⟩)⟩
  | alloc T z =>
   simp only [go, hki, hkj] at h ⊢
   intro W0 g hs0 hb hg hN W hW
   refine wpOp_mono (fun a' w' hh => ?_) (wpOp_under (dst := (ops[j]?).bind (·.dst)) (v := madeV z g) hi (by rw [hdj]; exact h3) (by rw [hdj]; exact fun d hd he => h2 d he hd) hsi (h W (hs0.trans hW)))
   obtain ⟨a0, rfl, hs, hk⟩ := hh
   have hlt : g < W.heap.size := Nat.lt_of_lt_of_le (Array.getElem?_eq_some_iff.1 hb).1 hW.size
   exact ⟨hs.mono (fun j _ h => h.imp id fun h => ⟨h.1, fun hn => h.2 hn.1⟩), hK _ _ _ _ _ (fun x ⟨⟨q1, q2⟩, q3⟩ => ⟨⟨q1, q3⟩, q2⟩) (StepX.refl _ _) (hk w' g (StepX.refl _ _) (hsomeN hW hs hg hN hb) hg ⟨hN, .inl hlt⟩)⟩
 | alloc T z =>
  cases hkj : kd j with
  | silent => simp [hki, hkj, swaps] at hsw
  | chain => simp [hki, hkj, swaps] at hsw
  | make T' n' xs' => simp [hki, hkj, swaps] at hsw
  | pure => simp [hki, hkj, swaps] at hsw
  | alloc T' z' =>
   simp only [go, hki, hkj] at h ⊢
   intro W' g' hs' hb' hg' hN' W g hs hb hg ⟨hN, hne⟩
   rw [hdi, hdj] at *
   rw [← Act.put_comm a _ _ h2]
   exact hK _ _ _ _ _ (fun x ⟨⟨q1, q2⟩, q3⟩ => ⟨⟨q1, q3⟩, q2⟩) (StepX.refl _ _) (h W g (hs'.trans hs) hb hg hN W g' (StepX.refl _ _) (hsome hs hg' hb') hg' ⟨hN', fun e => hne e.symm⟩)
def bitsOf (tab : List Nat) (j : Nat) (l : List Edge) : Nat := l.foldl (fun acc e => if Region.binds .any e && decide (e.on < j) then acc ||| (2 ^ e.on ||| tab.getD e.on 0) else acc) 0
def okTab (tab : List Nat) (ops : Array Oper) : Bool := (List.range ops.size).all fun j => match ops[j]? with
 | none => true
 | some o => tab.getD j 0 == bitsOf tab j o.after.toList
def ancB (tab : List Nat) (i j : Nat) : Bool := (tab.getD j 0).testBit i
theorem bits_of {tab : List Nat} {j i : Nat} : ∀ {l : List Edge} {acc : Nat}, (l.foldl (fun acc e => if Region.binds .any e && decide (e.on < j) then acc ||| (2 ^ e.on ||| tab.getD e.on 0) else acc) acc).testBit i = true →
  acc.testBit i = true ∨ ∃ e ∈ l, Region.binds .any e = true ∧ e.on < j ∧ (e.on = i ∨ ancB tab i e.on = true) := by
 intro l
 induction l with
 | nil => intro acc h; exact .inl h
 | cons x l ih =>
  intro acc h
  rw [List.foldl_cons] at h
  rcases ih h with h1 | ⟨e, he, h2⟩
  ·split at h1
   ·rename_i hx
    simp only [Bool.and_eq_true, decide_eq_true_eq] at hx
    rw [Nat.testBit_or, Nat.testBit_or, Nat.testBit_two_pow, Bool.or_eq_true, Bool.or_eq_true, decide_eq_true_eq] at h1
    rcases h1 with h1 | h1
    ·exact .inl h1
    ·exact .inr ⟨x, List.mem_cons_self, hx.1, hx.2, h1⟩
   ·exact .inl h1
  ·exact .inr ⟨e, List.mem_cons_of_mem _ he, h2⟩
def okPair (tab : List Nat) (ops : Array Oper) (kd : Nat → Kd) (i j : Nat) : Bool :=
 ancB tab i j || match ops[i]?, ops[j]? with
  | some oi, some oj => oi.apart ops oj && swaps (kd i) (kd j)
  | _, _ => false
def okList (tab : List Nat) (ops : Array Oper) (kd : Nat → Kd) : List Nat → Bool
 | [] => true
 | i :: l => l.all (okPair tab ops kd i) && okList tab ops kd l
def okTail (tab : List Nat) (before : List Nat) : List Nat → Bool
 | [] => true
 | x :: t => before.all (fun y => ancB tab y x) && okTail tab (before ++ [x]) t
def isSil : Kd → Bool
 | .silent => true
 | _ => false
def isMove (ops : Array Oper) (i : Nat) : Bool := match ops[i]? with
 | some o => (match o.op with | .move _ => true | .extract _ _ => true | _ => false)
 | none => false
def okWait (strict : Bool) (tab : List Nat) (ops : Array Oper) (kd : Nat → Kd) (y x : Nat) : Bool :=
 ancB tab y x || (!strict && isSil (kd y) && isMove ops y && match ops[y]?, ops[x]? with
  | some oy, some ox => oy.apart ops ox
  | _, _ => false)
def okDeps (ops : Array Oper) (seen : List Nat) : List Nat → Bool
 | [] => true
 | x :: l => (match ops[x]? with
  | none => false
  | some o => o.after.all fun e => !Region.binds .any e || seen.contains e.on) && okDeps ops (seen ++ [x]) l
def okAlloc (ops : Array Oper) (kd : Nat → Kd) (l : List Nat) : Bool :=
 l.all fun i => match kd i, ops[i]? with
  | .alloc T z, some o => o.guard.isNone && (isTup z || match o.op with | .alloc T' => T == T' | _ => false)
  | .alloc _ _, none => false
  | _, _ => true
def okSeq (strict : Bool) (tab : List Nat) (ops : Array Oper) (kd : Nat → Kd) (l t : List Nat) : Bool :=
 okTab tab ops && okList tab ops kd l && (l.all fun y => t.all fun x => okWait strict tab ops kd y x) && okTail tab [] t && okDeps ops [] (l ++ t) && okAlloc ops kd l && Region.noSelect ops && (List.range ops.size).all (fun i => (l ++ t).contains i) && (l ++ t).all (fun i => decide (i < ops.size)) && decide (l ++ t).Nodup
def Closed (ops : Array Oper) (listed : Array Bool) : Prop :=
 ∀ x o, ops[x]? = some o → listed.getD x true = true → ∀ e ∈ o.after, Region.binds .any e = true → listed.getD e.on false = true
theorem getD_tf' {listed : Array Bool} {i : Nat} (h : i < listed.size) (hl : listed.getD i false = true) : listed.getD i true = true := by
 simp [h] at hl ⊢; exact hl
variable {tab : List Nat}
theorem anc_listed {listed : Array Bool} (hsz : listed.size = ops.size) (hc : Closed ops listed) (ht : okTab tab ops = true) : ∀ j i o, ops[j]? = some o → (∀ e ∈ o.after, Region.binds .any e = true → listed.getD e.on false = true) →
  ancB tab i j = true → listed.getD i false = true := by
 intro j
 induction j using Nat.strongRecOn with
 | _ j ih =>
  intro i o ho hd h
  have hj : j < ops.size := (Array.getElem?_eq_some_iff.1 ho).1
  have h1 := List.all_eq_true.1 ht j (List.mem_range.2 hj)
  simp only [ho, beq_iff_eq] at h1
  unfold ancB at h
  rw [h1] at h
  rcases bits_of h with h2 | ⟨e, he, hb, hlt, h2⟩
  ·simp at h2
  ·have hl := hd e (by simpa using he) hb
   rcases h2 with rfl | h2
   ·exact hl
   ·have hej : e.on < ops.size := by omega
    exact ih e.on hlt i ops[e.on] (Array.getElem?_eq_getElem hej) (hc e.on _ (Array.getElem?_eq_getElem hej) (getD_tf' (by omega) hl)) h2
theorem bring (hX : ∀ j, X j → j < base) {K : Cont} (hK : ContMono X K) (hsel : Region.noSelect ops = true) {j : Nat} {oj : Oper} (hj : ops[j]? = some oj) : ∀ (l1 l2 : List Nat) (N : Nat → Prop) (a : Act) (w : World),
  (∀ i ∈ l1, ∃ oi, ops[i]? = some oi ∧ oi.apart ops oj = true ∧ swaps (kd i) (kd j) = true) → run P ops X base kd (l1 ++ j :: l2) K N a w → go P ops X base kd j (run P ops X base kd (l1 ++ l2) K) N a w := by
 intro l1
 induction l1 with
 | nil => intro l2 N a w _ h; exact h
 | cons i l1 ih =>
  intro l2 N a w hall h
  obtain ⟨oi, hi, hap, hsw⟩ := hall i (by simp)
  have h' : go P ops X base kd i (go P ops X base kd j (run P ops X base kd (l1 ++ l2) K)) N a w :=
   go_cong (fun N a w hh => ih l2 N a w (fun k hk => hall k (by simp [hk])) hh) h
  exact exch hi hj hap (Region.noSelect_spec hsel i oi · · hi) (Region.noSelect_spec hsel j oj · · hj) hsw hX (run_mono hK _) h'
theorem okList_drop {l1 l2 : List Nat} {j : Nat} (h : okList tab ops kd (l1 ++ j :: l2) = true) : okList tab ops kd (l1 ++ l2) = true ∧ ∀ i ∈ l1, okPair tab ops kd i j = true := by
 induction l1 with
 | nil => simp only [List.nil_append, okList, Bool.and_eq_true] at h; exact ⟨h.2, by simp⟩
 | cons i l1 ih =>
  simp only [List.cons_append, okList, Bool.and_eq_true, List.all_eq_true] at h ⊢
  obtain ⟨h1, h2⟩ := ih h.2
  refine ⟨⟨fun x hx => h.1 x ?_, h1⟩, fun x hx => ?_⟩
  ·simp only [List.mem_append, List.mem_cons] at hx ⊢; rcases hx with hx | hx <;> simp [hx]
  ·rcases List.mem_cons.1 hx with rfl | hx
   ·exact h.1 j (by simp)
   ·exact h2 x hx
def TailOk (tab : List Nat) (l t : List Nat) : Prop := ∀ t1 x t2, t = t1 ++ x :: t2 → ∀ y ∈ l ++ t1, ancB tab y x = true
def DepsOk (ops : Array Oper) (listed : Array Bool) (L : List Nat) : Prop := ∀ L1 x L2, L = L1 ++ x :: L2 → ∃ o, ops[x]? = some o ∧ ∀ e ∈ o.after, Region.binds .any e = true → listed.getD e.on false = true ∨ e.on ∈ L1
theorem tailOk_of {t : List Nat} : ∀ {b : List Nat}, okTail tab b t = true → TailOk tab b t := by
 induction t with
 | nil => intro b _ t1 x t2 h; exact absurd h (by simp)
 | cons z t ih =>
  intro b h t1 x t2 he y hy
  simp only [okTail, Bool.and_eq_true, List.all_eq_true] at h
  cases t1 with
  | nil =>
   simp only [List.nil_append, List.cons.injEq] at he
   obtain ⟨rfl, rfl⟩ := he
   exact h.1 y (by simpa using hy)
  | cons z' t1 =>
   simp only [List.cons_append, List.cons.injEq] at he
   obtain ⟨rfl, rfl⟩ := he
   exact ih h.2 t1 x t2 rfl y (by simpa using hy)
theorem depsOk_of {listed : Array Bool} {L : List Nat} : ∀ {seen : List Nat}, okDeps ops seen L = true → ∀ L1 x L2, L = L1 ++ x :: L2 → ∃ o, ops[x]? = some o ∧ ∀ e ∈ o.after, Region.binds .any e = true → listed.getD e.on false = true ∨ e.on ∈ seen ++ L1 := by
 induction L with
 | nil => intro b _ t1 x t2 h; exact absurd h (by simp)
 | cons z t ih =>
  intro b h t1 x t2 he
  simp only [okDeps, Bool.and_eq_true] at h
  cases t1 with
  | nil =>
   simp only [List.nil_append, List.cons.injEq] at he
   obtain ⟨rfl, rfl⟩ := he
   cases ho : ops[z]? with
   | none => simp [ho] at h
   | some o =>
    simp only [ho, Array.all_eq_true_iff_forall_mem, Bool.or_eq_true, Bool.not_eq_true', List.contains_iff_mem] at h
    exact ⟨o, rfl, fun e he hb => .inr (by have := (h.1 e he).resolve_left (by simp [hb]); simpa using this)⟩
  | cons z' t1 =>
   simp only [List.cons_append, List.cons.injEq] at he
   obtain ⟨rfl, rfl⟩ := he
   obtain ⟨o, ho, hh⟩ := ih h.2 t1 x t2 rfl
   exact ⟨o, ho, fun e he hb => (hh e he hb).imp id (by simp)⟩
def K0 (P : Program) (ops : Array Oper) (X : Nat → Prop) (Q : Exit → Act → World → Prop) (t : List Nat) : Cont := fun _ a w => ∀ W, StepX X w W → wpOps P ops Q t a W
theorem K0_mono {Q : Exit → Act → World → Prop} (t : List Nat) : ContMono X (K0 P ops X Q t) := fun _ _ _ _ _ _ hs h W hW => h W (hs.trans hW)
theorem wpOp_any {Q : Exit → Act → World → Prop} {i : Nat} {K : Act → World → Prop} {a : Act} {w : World} (h : wpOp P ops QF i K a w) : wpOp P ops Q i K a w := by
 unfold wpOp at *
 cases ho : ops[i]? with
 | none => simp only [ho] at h; exact h
 | some o =>
  simp only [ho] at h ⊢
  split
  ·rename_i hw
   simp only [hw, if_true] at h
   rcases h with h | ⟨_, a0, w0, hF⟩
   case inr => exact hF.elim
   refine .inl ?_
   unfold Oper.wp at *
   generalize (execOp a.eval o).run P w = r at *
   cases r with
   | ok n w' =>
    cases n <;> simp only [Oper.upon] at h ⊢ <;> first
     | exact h
     | exact Calls.mono h (fun e w'' he => by cases e <;> first | exact he | exact he.elim | (obtain ⟨_, _, hF⟩ := he; exact hF.elim))
   | halt x w' => cases x <;> simp only [Oper.upon] at h ⊢ <;> exact h.elim
  ·rename_i hw
   simp only [hw] at h
   exact h
theorem wpOp_alloc {Q : Exit → Act → World → Prop} {i : Nat} {o : Oper} {T : TypeId} {z : Value} {K : Act → World → Prop} {a : Act} {w : World} (ho : ops[i]? = some o) (hop : (isTup z || match o.op with | .alloc T' => T == T' | _ => false) = true) (hg : o.guard = none)
  (hz : Makes P ops i T z) (h : K (a.put o.dst (madeV z w.heap.size)) (w.alloc (.cells (madeC z) T))) : wpOp P ops Q i K a w := by
 unfold wpOp
 simp only [ho, Region.wanted, hg, if_true]
 refine .inl ?_
 unfold Oper.wp
 have hr : (execOp a.eval o).run P w = .ok (.value (madeV z w.heap.size)) (w.alloc (.cells (madeC z) T)) := by
  by_cases ht : ∃ xs, z = .tuple xs
  ·obtain ⟨xs, rfl⟩ := ht
   obtain ⟨o', ho', hrun⟩ := hz
   obtain rfl : o = o' := by rw [ho] at ho'; exact Option.some.inj ho'
   exact hrun _ _
  ·have h1 : isTup z = false := by cases z <;> simp [isTup] at ht ⊢
   have h2 : madeV z w.heap.size = .pointer (some ⟨w.heap.size, 0, none⟩) := by cases z <;> simp [isTup] at h1 <;> rfl
   have h3 : madeC z = z.cells := by cases z <;> simp [isTup] at h1 <;> rfl
   have h4 : (P.info? T).bind (·.zero) = some z := by cases z <;> simp [isTup] at h1 <;> exact hz
   rw [h1, Bool.false_or] at hop
   have hop' : o.op = .alloc T := by
    cases hopp : o.op <;> simp [hopp] at hop
    rw [hop]
   obtain ⟨inf, hi, hzz⟩ := Option.bind_eq_some_iff.1 h4
   rw [h2, h3]
   simp [execOp, hop', Instr.alloc, zeroValue, typeInfo, hi, hzz, newVar, newRow, newObj, Result.andThen]
   rfl
 rw [hr]
 exact h
theorem getD_tf {listed : Array Bool} {i : Nat} (h : i < listed.size) : listed.getD i true = listed.getD i false := by simp [h]
theorem getD_set {listed : Array Bool} {i j : Nat} (hi : i < listed.size) : (listed.setIfInBounds i true).getD j true = (listed.getD j true || decide (i = j)) := by
 by_cases hij : i = j
 ·subst hij; simp [hi]
 ·rw [getD_set_ne true hij]; simp [hij]
theorem depsOk_drop {listed : Array Bool} {L1 L2 : List Nat} {j : Nat} (hj : j < listed.size) (h : DepsOk ops listed (L1 ++ j :: L2)) : DepsOk ops (listed.setIfInBounds j true) (L1 ++ L2) := by
 intro M1 x M2 he
 have keep : ∀ {k}, listed.getD k false = true → (listed.setIfInBounds j true).getD k false = true := fun {k} hk => getD_set_true hk
 rcases List.append_eq_append_iff.1 he with ⟨r, h1, h2⟩ | ⟨r, h1, h2⟩
 ·-- M1 = L1 ++ r, L2 = r ++ x :: M2
  subst h1 h2
  obtain ⟨o, ho, hh⟩ := h (L1 ++ j :: r) x M2 (by simp)
  refine ⟨o, ho, fun e hee hb => ?_⟩
  rcases hh e hee hb with hl | hm
  ·exact .inl (keep hl)
  ·simp only [List.mem_append, List.mem_cons] at hm ⊢
   rcases hm with hm | rfl | hm
   ·exact .inr (.inl hm)
   ·exact .inl (by simp [hj])
   ·exact .inr (.inr hm)
 ·-- L1 = M1 ++ r, x :: M2 = r ++ L2
  cases r with
  | nil =>
   simp only [List.append_nil, List.nil_append] at h1 h2
   subst h1
   obtain ⟨o, ho, hh⟩ := h (L1 ++ [j]) x M2 (by simp [h2])
   refine ⟨o, ho, fun e hee hb => ?_⟩
   rcases hh e hee hb with hl | hm
   ·exact .inl (keep hl)
   ·simp only [List.mem_append, List.mem_singleton] at hm
    rcases hm with hm | rfl
    ·exact .inr hm
    ·exact .inl (by simp [hj])
  | cons y r =>
   simp only [List.cons_append, List.cons.injEq] at h2
   obtain ⟨rfl, rfl⟩ := h2
   subst h1
   obtain ⟨o, ho, hh⟩ := h M1 x (r ++ j :: L2) (by simp)
   exact ⟨o, ho, fun e hee hb => (hh e hee hb).imp keep id⟩
theorem nodup_mid {L1 L2 : List Nat} {j : Nat} (h : (L1 ++ j :: L2).Nodup) : j ∉ L1 ++ L2 ∧ (L1 ++ L2).Nodup := by
 rw [List.nodup_append] at h
 obtain ⟨h1, h2, h3⟩ := h
 rw [List.nodup_cons] at h2
 refine ⟨?_, ?_⟩
 ·rw [List.mem_append]
  rintro (hj | hj)
  ·exact h3 j hj j (by simp) rfl
  ·exact h2.1 hj
 ·rw [List.nodup_append]
  exact ⟨h1, h2.2, fun a ha b hb => h3 a ha b (by simp [hb])⟩
theorem unlisted_drop {listed : Array Bool} {j : Nat} {L1 L2 : List Nat} (hsz : j < listed.size) (hun : ∀ i, i < ops.size → (listed.getD i true = false ↔ i ∈ L1 ++ j :: L2)) (hnd : (L1 ++ j :: L2).Nodup) :
  ∀ i, i < ops.size → ((listed.setIfInBounds j true).getD i true = false ↔ i ∈ L1 ++ L2) := by
 intro i hi
 rw [getD_set hsz, Bool.or_eq_false_iff, decide_eq_false_iff_not, hun i hi]
 obtain ⟨h1, _⟩ := nodup_mid hnd
 simp only [List.mem_append, List.mem_cons] at h1 ⊢
 constructor
 ·rintro ⟨h2 | h2 | h2, h3⟩
  ·exact .inl h2
  ·exact absurd h2.symm h3
  ·exact .inr h2
 ·intro h2
  refine ⟨h2.elim .inl (fun h => .inr (.inr h)), fun e => ?_⟩
  subst e; exact h1 h2
theorem closed_set {listed : Array Bool} {j : Nat} {oj : Oper} (hsz : j < listed.size) (hoj : ops[j]? = some oj) (hdj : ∀ e ∈ oj.after, Region.binds .any e = true → listed.getD e.on false = true) (hcl : Closed ops listed) :
  Closed ops (listed.setIfInBounds j true) := fun x o ho hx e he hb => by
 rw [getD_set hsz, Bool.or_eq_true, decide_eq_true_eq] at hx
 rcases hx with hx | rfl
 ·exact getD_set_true (hcl x o ho hx e he hb)
 ·rw [hoj] at ho; obtain rfl := Option.some.inj ho; exact getD_set_true (hdj e he hb)
theorem tail_sound {Q : Exit → Act → World → Prop} : ∀ (fuel : Nat) (t : List Nat) (listed : Array Bool) (a : Act) (w : World),
  t.length ≤ fuel → listed.size = ops.size → (∀ i, i < ops.size → (listed.getD i true = false ↔ i ∈ t)) → (∀ i ∈ t, i < ops.size) → t.Nodup → Closed ops listed →
  okTab tab ops = true → TailOk tab [] t → DepsOk ops listed t → wpOps P ops Q t a w → wpAny P .any ops Q fuel listed a w := by
 intro fuel
 induction fuel with
 | zero =>
  intro t listed a w hf hsz hun hin hnd hcl htab htail hdeps h
  have ht : t = [] := List.eq_nil_of_length_eq_zero (by omega)
  subst ht
  refine ⟨?_, by simpa [wpOps] using h⟩
  rw [List.eq_nil_iff_forall_not_mem]
  intro j hj
  obtain ⟨h0, o, ho, _⟩ := mem_ready.1 hj
  have := (hun j (Array.getElem?_eq_some_iff.1 ho).1).1 h0
  simp at this
 | succ fuel ih =>
  intro t listed a w hf hsz hun hin hnd hcl htab htail hdeps h
  refine ⟨fun hr => ?_, fun j hj => ?_⟩
  ·cases t with
   | nil => simpa [wpOps] using h
   | cons x L =>
    exfalso
    obtain ⟨o, ho, hh⟩ := hdeps [] x L rfl
    have hx : x ∈ Region.ready .any ops listed := mem_ready.2 ⟨(hun x (hin x (by simp))).2 (by simp), o, ho, fun e he hb => (hh e he hb).resolve_right (by simp)⟩
    rw [hr] at hx; cases hx
  ·obtain ⟨h0, oj, hoj, hdj⟩ := mem_ready.1 hj
   have hjlt := (Array.getElem?_eq_some_iff.1 hoj).1
   have hjsz : j < listed.size := by omega
   obtain ⟨t1, t2, rfl⟩ := List.append_of_mem ((hun j hjlt).1 h0)
   have ht1 : t1 = [] := by
    rw [List.eq_nil_iff_forall_not_mem]
    intro i hi
    have h1 := anc_listed hsz hcl htab j i oj hoj hdj (htail t1 j t2 rfl i (by simp [hi]))
    have h2 := (hun i (hin i (by simp [hi]))).2 (by simp [hi])
    rw [getD_tf (by rw [hsz]; exact hin i (by simp [hi])), h1] at h2
    cases h2
   subst ht1
   rw [List.nil_append, wpOps_cons] at h
   refine wpOp_mono (fun a' w' hk => ?_) h
   have hnd' := nodup_mid hnd
   refine ih t2 _ a' w' (by simp at hf; omega) (by simp [hsz]) (by have := unlisted_drop (L1 := []) (L2 := t2) hjsz hun hnd; simpa using this) (fun i hi => hin i (by simp [hi])) (by simpa using hnd'.2)
    (closed_set hjsz hoj hdj hcl) htab (fun u1 x u2 he y hy => htail (j :: u1) x u2 (by simp [he]) y (by simp at hy ⊢; exact .inr hy)) (by have := depsOk_drop (L1 := []) (L2 := t2) hjsz hdeps; simpa using this) hk
def runM (P : Program) (ops : Array Oper) : List Nat → (Act → Prop) → Act → Prop
 | [], K, a => K a
 | i :: l, K, a => ∃ o v, ops[i]? = some o ∧ YieldsIf P ops (fun _ => True) o v a ∧ runM P ops l K (a.put o.dst v)
theorem runM_mono {K K' : Act → Prop} (h : ∀ a, K a → K' a) : ∀ {l : List Nat} {a : Act}, runM P ops l K a → runM P ops l K' a
 | [], _, hr => h _ hr
 | _ :: _, _, ⟨o, v, ho, hy, hr⟩ => ⟨o, v, ho, hy, runM_mono h hr⟩
theorem move_yields {S : World → Prop} {o : Oper} {v : Value} {a : Act} {w : World} {i : Nat} (ho : ops[i]? = some o) (hm : isMove ops i = true) (hs : S w) (h : YieldsIf P ops S o v a) : YieldsIf P ops (fun _ => True) o v a := by
 rcases h with ⟨hw, hv⟩ | h
 ·refine .inl ⟨hw, fun W _ => ?_⟩
  have h1 := hv w hs
  unfold isMove at hm
  rw [ho] at hm
  simp only at hm
  cases hop : o.op <;> simp [hop] at hm
  ·simp [execOp, hop] at h1 ⊢
   exact h1
  ·rename_i x ix
   have h2 : ∀ (u : Value) (n : Nat), (∃ y, Instr.extract u n = pure y) ∨ ∃ t, Instr.extract u n = stuck t := fun u n => by
    unfold Instr.extract
    split
    ·split
     ·exact .inl ⟨_, rfl⟩
     ·exact .inr ⟨_, rfl⟩
    ·exact .inr ⟨_, rfl⟩
   rcases h2 (a.eval x) ix with ⟨y, h3⟩ | ⟨t, h3⟩
   ·simp [execOp, hop, h3] at h1 ⊢
    exact h1
   ·simp [execOp, hop, h3] at h1
 ·exact .inr h
theorem runM_of_run {Q : Exit → Act → World → Prop} {t : List Nat} {w : World} : ∀ {l : List Nat} {N : Nat → Prop} {a : Act}, (∀ y ∈ l, isSil (kd y) = true ∧ isMove ops y = true) → run P ops X base kd l (K0 P ops X Q t) N a w → runM P ops l (fun a => wpOps P ops Q t a w) a := by
 intro l
 induction l with
 | nil => intro N a _ h; exact h w (StepX.refl _ w)
 | cons i l ih =>
  intro N a hl h
  obtain ⟨h1, h2⟩ := hl i (by simp)
  have h' : go P ops X base kd i (run P ops X base kd l (K0 P ops X Q t)) N a w := h
  unfold go at h'
  cases hk : kd i <;> simp [hk, isSil] at h1
  rw [hk] at h'
  obtain ⟨o, v, ho, hy, hr⟩ := h'
  exact ⟨o, v, ho, move_yields ho h2 (StepX.refl _ w) hy, ih (fun y hy => hl y (by simp [hy])) hr⟩
theorem bringM (hsel : Region.noSelect ops = true) {K : Act → Prop} {j : Nat} {oj : Oper} (hj : ops[j]? = some oj) : ∀ {l1 l2 : List Nat} {a : Act}, (∀ i ∈ l1, ∃ oi, ops[i]? = some oi ∧ oi.apart ops oj = true) → runM P ops (l1 ++ j :: l2) K a →
  ∃ v, YieldsIf P ops (fun _ => True) oj v a ∧ runM P ops (l1 ++ l2) K (a.put oj.dst v) := by
 intro l1
 induction l1 with
 | nil =>
  intro l2 a _ h
  obtain ⟨o, v, ho, hy, hr⟩ := h
  obtain rfl : oj = o := by rw [hj] at ho; exact Option.some.inj ho
  exact ⟨v, hy, hr⟩
 | cons i l1 ih =>
  intro l2 a hall h
  obtain ⟨oi', hi', hap⟩ := hall i (by simp)
  obtain ⟨oi, vi, hi, hyi, hr⟩ := h
  obtain rfl : oi' = oi := by rw [hi] at hi'; exact (Option.some.inj hi').symm
  obtain ⟨v, hyj, hr2⟩ := ih (fun k hk => hall k (by simp [hk])) hr
  obtain ⟨h1, h2, h3⟩ := Oper.apart_spec hap
  have hsi := (Region.noSelect_spec hsel i oi' · · hi)
  have hsj := (Region.noSelect_spec hsel j oj · · hj)
  refine ⟨v, hyj.of_same (execOp_put oj hsj a oi'.dst vi h1).symm (wanted_put oj a oi'.dst vi h1).symm, oi', vi, hi, hyi.of_same (execOp_put oi' hsi a oj.dst v h3) (wanted_put oi' a oj.dst v h3), ?_⟩
  rw [← Act.put_comm a vi v h2]
  exact hr2
theorem tailM (hsel : Region.noSelect ops = true) {Q : Exit → Act → World → Prop} (hQ : ∀ c d v a w, Q (.panic c) (Act.put a d v) w → Q (.panic c) a w) {j : Nat} {oj : Oper} (hj : ops[j]? = some oj) {K : Act → World → Prop} {w : World} : ∀ {l : List Nat} {a : Act},
  (∀ i ∈ l, ∃ oi, ops[i]? = some oi ∧ oi.apart ops oj = true) → runM P ops l (fun a => wpOp P ops Q j K a w) a → wpOp P ops Q j (fun a' w' => runM P ops l (fun a => K a w') a') a w := by
 intro l
 induction l with
 | nil => intro a _ h; exact h
 | cons i l ih =>
  intro a hall h
  obtain ⟨oi', hi', hap⟩ := hall i (by simp)
  obtain ⟨oi, vi, hi, hyi, hr⟩ := h
  obtain rfl : oi' = oi := by rw [hi] at hi'; exact (Option.some.inj hi').symm
  have h1 := ih (fun k hk => hall k (by simp [hk])) hr
  refine wpOp_mono (fun a' w' hh => ?_) (wpOp_putIf (S := fun _ => True) hj hap (Region.noSelect_spec hsel i oi' · · hi) (Region.noSelect_spec hsel j oj · · hj) (fun c a w => hQ c _ _ a w) hyi h1)
  exact ⟨oi', vi, hi, hh.1, hh.2⟩
theorem mixed_sound {Q : Exit → Act → World → Prop} (hsel : Region.noSelect ops = true) (hQ : ∀ c d v a w, Q (.panic c) (Act.put a d v) w → Q (.panic c) a w) : ∀ (fuel : Nat) (l t : List Nat) (listed : Array Bool) (a : Act) (w : World),
  l.length + t.length ≤ fuel → listed.size = ops.size → (∀ i, i < ops.size → (listed.getD i true = false ↔ i ∈ l ++ t)) → (∀ i ∈ l ++ t, i < ops.size) → (l ++ t).Nodup → Closed ops listed →
  okTab tab ops = true → okList tab ops kd l = true → (∀ y ∈ l, ∀ x ∈ t, ancB tab y x = true ∨ ∃ oy ox, ops[y]? = some oy ∧ ops[x]? = some ox ∧ oy.apart ops ox = true) → TailOk tab [] t → DepsOk ops listed (l ++ t) →
  runM P ops l (fun a => wpOps P ops Q t a w) a → wpAny P .any ops Q fuel listed a w := by
 intro fuel
 induction fuel with
 | zero =>
  intro l t listed a w hf hsz hun hin hnd hcl htab _ _ htail hdeps h
  have hl : l = [] := List.eq_nil_of_length_eq_zero (by omega)
  subst hl
  exact tail_sound 0 t listed a w (by simpa using hf) hsz hun hin hnd hcl htab htail hdeps h
 | succ fuel ih =>
  intro l t listed a w hf hsz hun hin hnd hcl htab hlist hwait htail hdeps h
  by_cases hl : l = []
  ·subst hl
   exact tail_sound _ t listed a w (by simpa using hf) hsz hun hin hnd hcl htab htail hdeps h
  refine ⟨fun hr => ?_, fun j hj => ?_⟩
  ·exfalso
   cases l with
   | nil => exact hl rfl
   | cons x L =>
    obtain ⟨o, ho, hh⟩ := hdeps [] x (L ++ t) (by simp)
    have hx : x ∈ Region.ready .any ops listed := mem_ready.2 ⟨(hun x (hin x (by simp))).2 (by simp), o, ho, fun e he hb => (hh e he hb).resolve_right (by simp)⟩
    rw [hr] at hx; cases hx
  ·obtain ⟨h0, oj, hoj, hdj⟩ := mem_ready.1 hj
   have hjlt := (Array.getElem?_eq_some_iff.1 hoj).1
   have hjsz : j < listed.size := by omega
   have hjm := (hun j hjlt).1 h0
   have hcl' := closed_set hjsz hoj hdj hcl
   have notanc : ∀ i ∈ l ++ t, ancB tab i j = true → False := fun i hi ha => by
    have h1 := anc_listed hsz hcl htab j i oj hoj hdj ha
    have h2 := (hun i (hin i hi)).2 hi
    rw [getD_tf (by rw [hsz]; exact hin i hi), h1] at h2
    cases h2
   rcases List.mem_append.1 hjm with hjl | hjt
   ·obtain ⟨l1, l2, rfl⟩ := List.append_of_mem hjl
    obtain ⟨hlist', hpair⟩ := okList_drop hlist
    have hall : ∀ i ∈ l1, ∃ oi, ops[i]? = some oi ∧ oi.apart ops oj = true := fun i hi => by
     have hp := hpair i hi
     simp only [okPair, Bool.or_eq_true] at hp
     rcases hp with hp | hp
     ·exact (notanc i (by simp [hi]) hp).elim
     ·cases hoi : ops[i]? with
      | none => simp [hoi] at hp
      | some oi =>
       simp only [hoi, hoj, Bool.and_eq_true] at hp
       exact ⟨oi, rfl, hp.1⟩
    obtain ⟨v, hy, hr⟩ := bringM hsel hoj hall h
    have he : (l1 ++ j :: l2) ++ t = l1 ++ j :: (l2 ++ t) := by simp
    refine hy.wpOp hoj trivial (ih (l1 ++ l2) t _ _ w (by simp at hf ⊢; omega) (by simp [hsz]) (by have := unlisted_drop (L1 := l1) (L2 := l2 ++ t) hjsz (by rw [← he]; exact hun) (by rw [← he]; exact hnd); simpa using this)
     (fun i hi => hin i (by simp only [List.mem_append, List.mem_cons] at hi ⊢; rcases hi with (hi | hi) | hi <;> simp [hi]))
     (by have := (nodup_mid (by rw [← he]; exact hnd)).2; simpa using this) hcl' htab hlist' (fun y hy x hx => hwait y (by simp only [List.mem_append, List.mem_cons] at hy ⊢; rcases hy with hy | hy <;> simp [hy]) x hx) htail
     (by have := depsOk_drop (L1 := l1) (L2 := l2 ++ t) hjsz (by rw [← he]; exact hdeps); simpa using this) hr)
   ·obtain ⟨t1, t2, rfl⟩ := List.append_of_mem hjt
    have ht1 : t1 = [] := by
     rw [List.eq_nil_iff_forall_not_mem]
     intro i hi
     exact notanc i (by simp [hi]) (htail t1 j t2 rfl i (by simp [hi]))
    subst ht1
    have hall : ∀ i ∈ l, ∃ oi, ops[i]? = some oi ∧ oi.apart ops oj = true := fun i hi => by
     rcases hwait i hi j (by simp) with h1 | ⟨oy, ox, h1, h2, h3⟩
     ·exact (notanc i (by simp [hi]) h1).elim
     ·obtain rfl : oj = ox := by rw [hoj] at h2; exact Option.some.inj h2
      exact ⟨oy, h1, h3⟩
    have h' : runM P ops l (fun a => wpOp P ops Q j (wpOps P ops Q t2) a w) a := runM_mono (fun a hh => by rw [List.nil_append, wpOps_cons] at hh; exact hh) h
    have he : l ++ ([] ++ j :: t2) = l ++ j :: t2 := by simp
    refine wpOp_mono (fun a' w' hk => ?_) (tailM hsel hQ hoj hall h')
    exact ih l t2 _ a' w' (by simp at hf; omega) (by simp [hsz]) (by have := unlisted_drop (L1 := l) (L2 := t2) hjsz (by rw [← he]; exact hun) (by rw [← he]; exact hnd); simpa using this)
     (fun i hi => hin i (by simp only [List.mem_append, List.nil_append, List.mem_cons] at hi ⊢; rcases hi with hi | hi <;> simp [hi])) (by have := (nodup_mid (by rw [← he]; exact hnd)).2; simpa using this) hcl' htab hlist
     (fun y hy x hx => hwait y hy x (by simp [hx])) (fun u1 x u2 hu y hy => htail (j :: u1) x u2 (by simp [hu]) y (by simp at hy ⊢; exact .inr hy)) (by have := depsOk_drop (L1 := l) (L2 := t2) hjsz (by rw [← he]; exact hdeps); simpa using this) hk
theorem seq_sound (hX : ∀ j, X j → j < base) {Q : Exit → Act → World → Prop} (hsel : Region.noSelect ops = true) {strict : Bool} (hQ : strict = true ∨ ∀ c d v a w, Q (.panic c) (Act.put a d v) w → Q (.panic c) a w) : ∀ (fuel : Nat) (l t : List Nat) (listed : Array Bool) (N : Nat → Prop) (a : Act) (w : World),
  l.length + t.length ≤ fuel → listed.size = ops.size → (∀ i, i < ops.size → (listed.getD i true = false ↔ i ∈ l ++ t)) → (∀ i ∈ l ++ t, i < ops.size) → (l ++ t).Nodup → Closed ops listed →
  okTab tab ops = true → okList tab ops kd l = true → (∀ y ∈ l, ∀ x ∈ t, okWait strict tab ops kd y x = true) → TailOk tab [] t → DepsOk ops listed (l ++ t) → okAlloc ops kd l = true → (∀ i T z, i ∈ l → kd i = .alloc T z → Makes P ops i T z) →
  (∀ g, w.heap.size ≤ g → N g) → base ≤ w.heap.size → run P ops X base kd l (K0 P ops X Q t) N a w → wpAny P .any ops Q fuel listed a w := by
 intro fuel
 induction fuel with
 | zero =>
  intro l t listed N a w hf hsz hun hin hnd hcl htab _ _ htail hdeps _ _ _ _ h
  have hl : l = [] := List.eq_nil_of_length_eq_zero (by omega)
  subst hl
  exact tail_sound 0 t listed a w (by simpa using hf) hsz hun hin hnd hcl htab htail hdeps (h w (StepX.refl _ w))
 | succ fuel ih =>
  intro l t listed N a w hf hsz hun hin hnd hcl htab hlist hwait htail hdeps halloc hz hN hbase h
  by_cases hl : l = []
  ·subst hl
   exact tail_sound _ t listed a w (by simpa using hf) hsz hun hin hnd hcl htab htail hdeps (h w (StepX.refl _ w))
  refine ⟨fun hr => ?_, fun j hj => ?_⟩
  ·-- nothing may come up: but something is left
   exfalso
   cases l with
   | nil => exact hl rfl
   | cons x L =>
    obtain ⟨o, ho, hh⟩ := hdeps [] x (L ++ t) (by simp)
    have hx : x ∈ Region.ready .any ops listed := mem_ready.2 ⟨(hun x (hin x (by simp))).2 (by simp), o, ho, fun e he hb => (hh e he hb).resolve_right (by simp)⟩
    rw [hr] at hx; cases hx
  ·obtain ⟨h0, oj, hoj, hdj⟩ := mem_ready.1 hj
   have hjlt := (Array.getElem?_eq_some_iff.1 hoj).1
   have hjsz : j < listed.size := by omega
   have hjm := (hun j hjlt).1 h0
   have hcl' := closed_set hjsz hoj hdj hcl
   have notanc : ∀ i ∈ l ++ t, ancB tab i j = true → False := fun i hi ha => by
    have h1 := anc_listed hsz hcl htab j i oj hoj hdj ha
    have h2 := (hun i (hin i hi)).2 hi
    rw [getD_tf (by rw [hsz]; exact hin i hi), h1] at h2
    cases h2
   rcases List.mem_append.1 hjm with hjl | hjt
   ·-- one of the first part
    obtain ⟨l1, l2, rfl⟩ := List.append_of_mem hjl
    obtain ⟨hlist', hpair⟩ := okList_drop hlist
    have hall : ∀ i ∈ l1, ∃ oi, ops[i]? = some oi ∧ oi.apart ops oj = true ∧ swaps (kd i) (kd j) = true := fun i hi => by
     have hp := hpair i hi
     simp only [okPair, Bool.or_eq_true] at hp
     rcases hp with hp | hp
     ·exact (notanc i (by simp [hi]) hp).elim
     ·cases hoi : ops[i]? with
      | none => simp [hoi] at hp
      | some oi =>
       simp only [hoi, hoj, Bool.and_eq_true] at hp
       exact ⟨oi, rfl, hp.1, hp.2⟩
    have hb := bring hX (K0_mono t) hsel hoj l1 l2 N a w hall h
    have he : (l1 ++ j :: l2) ++ t = l1 ++ j :: (l2 ++ t) := by simp
    have next : ∀ (N' : Nat → Prop) (a' : Act) (w' : World), (∀ g, w'.heap.size ≤ g → N' g) → w.heap.size ≤ w'.heap.size → run P ops X base kd (l1 ++ l2) (K0 P ops X Q t) N' a' w' → wpAny P .any ops Q fuel (listed.setIfInBounds j true) a' w' :=
     fun N' a' w' hN' hsz' hr => ih (l1 ++ l2) t _ N' a' w' (by simp at hf ⊢; omega) (by simp [hsz]) (by have := unlisted_drop (L1 := l1) (L2 := l2 ++ t) hjsz (by rw [← he]; exact hun) (by rw [← he]; exact hnd); simpa using this)
      (fun i hi => hin i (by simp only [List.mem_append, List.mem_cons] at hi ⊢; rcases hi with (hi | hi) | hi <;> simp [hi]))
      (by have := (nodup_mid (by rw [← he]; exact hnd)).2; simpa using this) hcl' htab hlist' (fun y hy x hx => hwait y (by simp only [List.mem_append, List.mem_cons] at hy ⊢; rcases hy with hy | hy <;> simp [hy]) x hx) htail
      (by have := depsOk_drop (L1 := l1) (L2 := l2 ++ t) hjsz (by rw [← he]; exact hdeps); simpa using this)
      (by simp only [okAlloc, List.all_eq_true, List.mem_append, List.mem_cons] at halloc ⊢; exact fun x hx => halloc x (hx.elim .inl (fun h => .inr (.inr h))))
      (fun i T z hi => hz i T z (by simp only [List.mem_append, List.mem_cons] at hi ⊢; rcases hi with hi | hi <;> simp [hi])) hN' (by omega) hr
    cases hk : kd j with
    | silent =>
     simp only [go, hk] at hb
     obtain ⟨o, v, ho, hy, hr⟩ := hb
     exact hy.wpOp ho (StepX.refl _ w) (next N _ w hN (Nat.le_refl _) hr)
    | pure =>
     simp only [go, hk] at hb
     obtain ⟨o, v, ho, hy, hr⟩ := hb
     exact hy.wpOp ho trivial (next N _ w hN (Nat.le_refl _) hr)
    | chain =>
     simp only [go, hk] at hb
     exact wpOp_any (wpOp_mono (fun a' w' ⟨hs, hr⟩ => next _ a' w' (fun g hg => ⟨hN g (Nat.le_trans hs.size hg), .inr hg⟩) hs.size hr) (hb w (StepX.refl _ w)))
    | alloc T z =>
     simp only [go, hk] at hb
     have hal := halloc
     simp only [okAlloc, List.all_eq_true] at hal
     have hal := hal j (by simp)
     simp only [hk, hoj, Bool.and_eq_true] at hal
     obtain ⟨hg, hop⟩ := hal
     refine wpOp_alloc hoj hop (by simpa using hg) (hz j T z (by simp) hk) ?_
     have hd : (ops[j]?).bind (·.dst) = oj.dst := by rw [hoj]; rfl
     rw [hd] at hb
     exact next _ _ _ (fun g hgg => ⟨hN g (by simp at hgg; omega), by simp at hgg; omega⟩) (by simp) (hb (w.alloc (.cells (madeC z) T)) w.heap.size (.of (Step.alloc _ _)) (heap_alloc_new w _) hbase (hN _ (Nat.le_refl _)))
    | make T n xs =>
     simp only [go, hk] at hb
     obtain ⟨⟨o, ho, hg, hrun⟩, hb⟩ := hb
     obtain rfl : oj = o := by rw [hoj] at ho; exact Option.some.inj ho
     have hd : (ops[j]?).bind (·.dst) = oj.dst := by rw [hoj]; rfl
     rw [hd] at hb
     unfold wpOp
     simp only [hoj, hg, if_true]
     refine .inl ?_
     unfold Oper.wp
     rw [hrun w]
     exact next _ _ _ (fun g hgg => ⟨hN g (by simp at hgg; omega), by simp at hgg; omega⟩) (by simp) (hb (w.alloc (.cells xs T)) w.heap.size (.of (Step.alloc _ _)) (heap_alloc_new w _) hbase (hN _ (Nat.le_refl _)))
   ·-- the tail waits, but for moves
    have hw1 : ∀ y ∈ l, ancB tab y j = true ∨ (strict = false ∧ isSil (kd y) = true ∧ isMove ops y = true ∧ ∃ oy, ops[y]? = some oy ∧ oy.apart ops oj = true) := fun y hy => by
     have := hwait y hy j hjt
     simp only [okWait, Bool.or_eq_true, Bool.and_eq_true, Bool.not_eq_true'] at this
     rcases this with h1 | ⟨⟨⟨h1, h2⟩, h3⟩, h4⟩
     ·exact .inl h1
     ·cases hoy : ops[y]? with
      | none => simp [hoy] at h4
      | some oy => simp only [hoy, hoj] at h4; exact .inr ⟨h1, h2, h3, oy, rfl, h4⟩
    have hw2 : ∀ y ∈ l, strict = false ∧ isSil (kd y) = true ∧ isMove ops y = true := fun y hy => by
     rcases hw1 y hy with h1 | ⟨h1, h2, h3, _⟩
     ·exact (notanc y (by simp [hy]) h1).elim
     ·exact ⟨h1, h2, h3⟩
    have hst : strict = false := by
     cases l with
     | nil => exact (hl rfl).elim
     | cons x L => exact (hw2 x (by simp)).1
    have hQ' := hQ.resolve_left (by rw [hst]; decide)
    have hm := mixed_sound hsel hQ' (fuel + 1) l t listed a w hf hsz hun hin hnd hcl htab hlist (fun y hy x hx => by
     have := hwait y hy x hx
     simp only [okWait, Bool.or_eq_true, Bool.and_eq_true, Bool.not_eq_true'] at this
     rcases this with h1 | ⟨_, h4⟩
     ·exact .inl h1
     ·cases hoy : ops[y]? with
      | none => simp [hoy] at h4
      | some oy =>
       cases hox : ops[x]? with
       | none => simp [hoy, hox] at h4
       | some ox => simp only [hoy, hox] at h4; exact .inr ⟨oy, ox, rfl, rfl, h4⟩) htail hdeps (runM_of_run (fun y hy => (hw2 y hy).2) h)
    exact hm.2 j hj
theorem wp_region_seqG {id : Nat} {Q : Exit → Act → World → Prop} {a : Act} {w : World} (X : Nat → Prop) (hX : ∀ j, X j → j < w.heap.size) (kd : Nat → Kd) (strict : Bool) (hQ : strict = true ∨ ∀ c d v a w, Q (.panic c) (Act.put a d v) w → Q (.panic c) a w) (tab l t : List Nat) (hm : P.follows .mixedOrders = true) (hok : okSeq strict tab ops kd l t = true)
  (hz : ∀ i T z, i ∈ l → kd i = .alloc T z → Makes P ops i T z)
  (h : ∀ W, StepX X w W → run P ops X w.heap.size kd l (K0 P ops X Q t) (fun _ => True) a W) : (Code.region id ops true).wp P Q a w := by
 simp only [okSeq, Bool.and_eq_true, List.all_eq_true, decide_eq_true_eq, List.mem_range, List.contains_iff_mem] at hok
 obtain ⟨⟨⟨⟨⟨⟨⟨⟨⟨h0, h1⟩, h9⟩, h2⟩, h3⟩, h4⟩, h5⟩, h6⟩, h7⟩, h8⟩ := hok
 refine wp_region_any hm ?_
 refine seq_sound (base := w.heap.size) (kd := kd) hX h5 hQ ops.size l t _ (fun _ => True) a w.drew ?_ (by simp) ?_ h7 h8 ?_ h0 h1 h9 (tailOk_of h2) ?_ h4 hz (fun _ _ => trivial) (by simp) (h w.drew (.of (Step.drew w)))
 ·-- no more than the region has
  have hsub : (l ++ t).length ≤ (List.range ops.size).length := h8.length_le_of_subset (fun i hi => List.mem_range.2 (h7 i hi))
  simpa using hsub
 ·intro i hi
  simp only [Array.getD_eq_getD_getElem?, Array.getElem?_replicate, hi, if_true, Option.getD_some, true_iff]
  exact h6 i hi
 ·intro x o ho hx
  have hlt := (Array.getElem?_eq_some_iff.1 ho).1
  simp [hlt] at hx
 ·intro L1 x L2 he
  obtain ⟨o, ho, hh⟩ := depsOk_of (listed := Array.replicate ops.size false) h3 L1 x L2 he
  exact ⟨o, ho, by simpa using hh⟩
theorem wp_region_seqX {id : Nat} {Q : Exit → Act → World → Prop} {a : Act} {w : World} (X : Nat → Prop) (hX : ∀ j, X j → j < w.heap.size) (kd : Nat → Kd) (tab l t : List Nat) (hm : P.follows .mixedOrders = true) (hok : okSeq true tab ops kd l t = true)
  (hz : ∀ i T z, i ∈ l → kd i = .alloc T z → Makes P ops i T z)
  (h : ∀ W, StepX X w W → run P ops X w.heap.size kd l (K0 P ops X Q t) (fun _ => True) a W) : (Code.region id ops true).wp P Q a w :=
 wp_region_seqG X hX kd true (.inl rfl) tab l t hm hok hz h
theorem wp_region_seq {id : Nat} {Q : Exit → Act → World → Prop} {a : Act} {w : World} (kd : Nat → Kd) (tab l t : List Nat) (hm : P.follows .mixedOrders = true) (hok : okSeq true tab ops kd l t = true)
  (hz : ∀ i T z, i ∈ l → kd i = .alloc T z → Makes P ops i T z)
  (h : ∀ W, Step w W → run P ops (fun _ => False) w.heap.size kd l (K0 P ops (fun _ => False) Q t) (fun _ => True) a W) : (Code.region id ops true).wp P Q a w :=
 wp_region_seqX (fun _ => False) (fun _ h => h.elim) kd tab l t hm hok hz h
def kdOf (calls : List Nat) (allocs : List (Nat × TypeId × Value)) (makes : List (Nat × TypeId × Nat × Array Value)) (i : Nat) : Kd :=
 if calls.contains i then .chain else match makes.find? (fun x => x.1 == i) with
  | some (_, T, n, xs) => .make T n xs
  | none => match allocs.find? (fun x => x.1 == i) with
   | some (_, T, z) => .alloc T z
   | none => .silent
section
variable {K : Cont} {N : Nat → Prop} {a : Act} {w : World} {i : Nat} {l : List Nat} {o : Oper}
theorem run_silent {v : Value} (hk : kd i = .silent) (ho : ops.toList[i]? = some o) (hy : YieldsIf P ops (StepX (XB X base) w) o v a) (h : run P ops X base kd l K N (a.put o.dst v) w) : run P ops X base kd (i :: l) K N a w := by
 show go P ops X base kd i _ N a w
 unfold go; rw [hk]; exact ⟨o, v, by simpa using ho, hy, h⟩
theorem run_want (hk : kd i = .silent) (ho : ops.toList[i]? = some o) (hw : Region.wanted o (yielded ops a.tmps) = true) (h : ∃ v, (∀ W, StepX (XB X base) w W → (execOp a.eval o).run P W = .ok (.value v) W) ∧ run P ops X base kd l K N (a.put o.dst v) w) :
  run P ops X base kd (i :: l) K N a w := by
 obtain ⟨v, h1, h2⟩ := h
 exact run_silent hk ho (.inl ⟨hw, h1⟩) h2
theorem run_off (hk : kd i = .silent) (ho : ops.toList[i]? = some o) (hw : Region.wanted o (yielded ops a.tmps) = false) (h : run P ops X base kd l K N (a.put o.dst undef) w) : run P ops X base kd (i :: l) K N a w :=
 run_silent hk ho (.inr ⟨hw, rfl⟩) h
theorem run_chain_off (hk : kd i = .chain) (ho : ops.toList[i]? = some o) (hw : Region.wanted o (yielded ops a.tmps) = false) (hK : ContMono X K)
  (h : run P ops X base kd l K N (a.put o.dst undef) w) : run P ops X base kd (i :: l) K N a w := by
 show go P ops X base kd i _ N a w
 have ho : ops[i]? = some o := by simpa using ho
 unfold go; rw [hk]
 intro W hW
 unfold wpOp; simp only [ho, hw]
 exact ⟨StepX.refl _ _, run_mono hK l _ _ _ _ _ (fun g hg => hg.1) hW h⟩
theorem run_end {Q : Exit → Act → World → Prop} {t : List Nat} {L : List Oper} (ht : t.map (fun i => ops.toList[i]?) = L.map some) (h : ∀ W, StepX X w W → wpList P ops Q L a W) : run P ops X base kd [] (K0 P ops X Q t) N a w := by
 intro W hW
 have h' := h W hW
 clear h hW
 show wpOps P ops Q t a W
 induction t generalizing L a W with
 | nil =>
  cases L with
  | nil => exact h'
  | cons _ _ => simp at ht
 | cons x t ih =>
  cases L with
  | nil => simp at ht
  | cons o L =>
   simp only [List.map_cons, List.cons.injEq, Array.getElem?_toList] at ht
   rw [wpOps_cons]
   unfold wpOp
   unfold wpList at h'
   simp only [ht.1]
   split
   ·rename_i hw
    rw [if_pos hw] at h'
    exact h'.imp (Oper.wp_mono fun a' w' hh => ih (by simpa using ht.2) w' hh) id
   ·rename_i hw
    rw [if_neg hw] at h'
    exact ih (by simpa using ht.2) W h'
end
end
end Go.BT.Ap
namespace Go.BT
open Go.RowKit
theorem rem_len {n : Int} (h : 0 ≤ n) {l : Nat} (hl : 0 < l) : ∃ k : Nat, n.tmod (l : Int) = (k : Int) ∧ k < l := by
 refine ⟨(n.tmod l).toNat, ?_, ?_⟩ <;> rw [Int.tmod_eq_emod_of_nonneg h]
 ·have := Int.emod_nonneg n (show (l : Int) ≠ 0 by omega); omega
 ·have := Int.emod_lt_of_pos n (show (0 : Int) < l by omega); have := Int.emod_nonneg n (show (l : Int) ≠ 0 by omega); omega
theorem set_one (cs : List Value) (p : Nat) (x : Value) (hl : p + 1 ≤ cs.length) : cs.set p x = cs.take p ++ [x] ++ cs.drop (p + 1) := by
 refine List.ext_getElem? fun j => ?_
 rw [splice_get _ _ _ _ _ hl rfl, List.getElem?_set]
 by_cases h1 : j < p
 ·rw [if_pos h1, if_neg (by omega)]
 ·rw [if_neg h1]
  by_cases h2 : j < p + 1
  ·have : j = p := by omega
   subst this
   rw [if_pos rfl, if_pos (by omega), if_pos h2, Nat.sub_self]; rfl
  ·rw [if_neg h2, if_neg (by omega)]
theorem own_num {S : Nat → Prop} {base : Nat} {e : TypeId} {w : World} {v : Value} {l : List Int} (h : OwnL S base e w v l) {k : Nat} (hk : k < l.length) :
  ∃ g c, v = .slice (some ⟨g, 0, none⟩) l.length c ∧ base ≤ g ∧ g < w.heap.size ∧ w.cell? ⟨g, k, none⟩ = some (.int .i64 l[k]) ∧ w.frozen? ⟨g, k, none⟩ = false ∧
   ∀ x : Int, OwnL S base e (w.setCell ⟨g, k, none⟩ (.int .i64 x)) v (l.set k x) := by
 obtain ⟨g, cap, cs, rfl, hb, hbx, hle, hr, hput⟩ := h.row_put hk
 have hk1 : Rep.k Int = 1 := rfl
 rw [hk1, Nat.mul_one] at hle hr hput
 have hr' : (cs.drop k).take 1 = [.int .i64 l[k]] := hr
 refine ⟨g, cap, rfl, hb, hbx.lt, ?_, hbx.frozen _, fun x => ?_⟩
 ·rw [hbx.cell]
  have := congrArg (fun l => l[0]?) hr'
  simpa [List.getElem?_take, List.getElem?_drop] using this
 ·refine hput _ [.int .i64 x] _ rfl (Wrote.setCell _ _ _ _) ?_
  rw [← set_one cs k (.int .i64 x) hle]
  exact hbx.setCell _ _
end Go.BT
namespace Go.Proofs.Ytfhmdpicoccnfaa
set_option linter.unusedSimpArgs false
set_option linter.unusedVariables false
open Go.RowKit Go.BT
end Go.Proofs.Ytfhmdpicoccnfaa
