/- Walks and plain laws, part r. -/
import Derived.Test.YtfhmdpicoccnfaaMb
import Derived.Test.YtfhmdpicoccnfaaMe
import Derived.Test.YtfhmdpicoccnfaaMo
import Derived.Test.YtfhmdpicoccnfaaRows
import Derived.BigQuiet
import Derived.Deep.AppendLies
import Derived.Deep.DeepCutAuto
import Derived.Deep.QuietTactic
import Derived.Deep.RegionHeld3
import Derived.Lib.Hide
import Derived.WalkKit
import Derived.WalkLawsBesides
import Derived.WalkSmall
set_option maxHeartbeats 16000000
set_option maxRecDepth 100000
namespace Go.BT
def capH (h : Hall) (k : Nat) (more : Int) : Hall := ⟨h.people, h.ways.set k { wyAt h k with cap := min 1000 ((wyAt h k).cap + more) }⟩
def lessH (h : Hall) (k : Nat) (less : Int) : Hall := ⟨h.people.set k (max 0 (h.people.getD k 0 - less)), h.ways⟩
def moreH (h : Hall) (w : Wy) : Hall := ⟨h.people, h.ways ++ [w]⟩
theorem cap_at {h : Hall} {k : Nat} {more : Int} {i : Nat} (hi : i < h.ways.length) : wyAt (capH h k more) i = if i = k then { wyAt h k with cap := min 1000 ((wyAt h k).cap + more) } else wyAt h i := by
 have h1 : i < (capH h k more).ways.length := by simpa [capH] using hi
 rw [wyAt_at h1, wyAt_at hi]
 simp only [capH, List.getElem_set]
 by_cases e : k = i
 ·rw [if_pos e, if_pos e.symm]
 ·rw [if_neg e, if_neg (Ne.symm e)]
theorem cap_ok {h : Hall} (O : HallOk h) {k : Nat} {more : Int} (h0 : 0 ≤ more) : HallOk (capH h k more) := by
 refine ⟨O.n2, O.n10, O.z, O.pe, by simpa [capH] using O.w20, fun i hi => ?_⟩
 have hi' : i < h.ways.length := by simpa [capH] using hi
 have e := cap_at (k := k) (more := more) hi'
 rw [wyAt_at hi, wyAt_at hi'] at e
 rw [e]
 have a := O.way i hi'
 split
 ·rename_i q
  subst q
  rw [wyAt_at hi']
  obtain ⟨b1, b2, b3, b4, b5⟩ := a
  exact ⟨b1, b2, b3, by dsimp only; omega, b5⟩
 ·exact a
theorem cap_feas {h : Hall} (O : HallOk h) {k : Nat} {more : Int} (h0 : 0 ≤ more) {T : Nat} (F : Feas h T) : Feas (capH h k more) T := by
 refine Feas.caps F rfl (by simp [capH]) fun i hi => ?_
 rw [cap_at hi]
 split
 ·rename_i q
  subst q
  have a := O.way i hi
  rw [wyAt_at hi]
  exact ⟨rfl, rfl, rfl, by dsimp only; omega⟩
 ·exact ⟨rfl, rfl, rfl, Int.le_refl _⟩
theorem less_at {h : Hall} {k : Nat} {less : Int} {s : Nat} (hs : s < h.people.length) : (lessH h k less).people.getD s 0 = if s = k then max 0 (h.people.getD k 0 - less) else h.people.getD s 0 := by
 simp only [lessH, List.getD_eq_getElem?_getD, List.getElem?_set]
 by_cases e : k = s
 ·subst e
  rw [if_pos rfl, if_pos rfl, if_pos hs]; rfl
 ·rw [if_neg e, if_neg (Ne.symm e)]
theorem less_ok {h : Hall} (O : HallOk h) {k : Nat} {less : Int} (h0 : 0 ≤ less) : HallOk (lessH h k less) := by
 have hl : (lessH h k less).people.length = h.people.length := by simp [lessH]
 refine ⟨by rw [hl]; exact O.n2, by rw [hl]; exact O.n10, ?_, fun s hs => ?_, O.w20, fun i hi => by rw [hl]; exact O.way i hi⟩
 ·rw [less_at (by have := O.n2; omega)]
  have := O.z
  split
  ·rename_i q; rw [← q, this]; omega
  ·exact this
 ·have hs' : s < h.people.length := by rwa [hl] at hs
  have e := less_at (k := k) (less := less) hs'
  have a := O.pe s hs'
  have e1 : (lessH h k less).people.getD s 0 = (lessH h k less).people[s] := by simp [List.getD_eq_getElem?_getD, hs]
  have e2 : h.people.getD s 0 = h.people[s] := by simp [List.getD_eq_getElem?_getD, hs']
  rw [e1] at e
  rw [e]
  split
  ·rename_i q; rw [← q, e2]; omega
  ·rw [e2]; exact a
theorem less_feas {h : Hall} (O : HallOk h) {k : Nat} {less : Int} (h0 : 0 ≤ less) {T : Nat} (F : Feas h T) : Feas (lessH h k less) T := by
 refine Feas.less O (less_ok O h0) F rfl (by simp [lessH]) fun s hs => ?_
 rw [less_at hs]
 have a := O.pe s hs
 have e2 : h.people.getD s 0 = h.people[s] := by simp [List.getD_eq_getElem?_getD, hs]
 split
 ·rename_i q; rw [← q, e2]; omega
 ·exact Int.le_refl _
theorem more_feas {h : Hall} {w : Wy} (O' : HallOk (moreH h w)) {T : Nat} (F : Feas h T) : Feas (moreH h w) T := Feas.more O' F w rfl rfl
end Go.BT
namespace Go.BT.Ap
open Go.BT
open Go.RowKit
inductive Kd where
 | silent | chain | alloc (T : TypeId) (z : Value) | make (T : TypeId) (n : Nat) (xs : Array Value) | pure
def madeV (z : Value) (g : Nat) : Value := match z with
 | .tuple xs => .slice (some ⟨g, 0, none⟩) xs.size xs.size
 | _ => .pointer (some ⟨g, 0, none⟩)
def madeC (z : Value) : Array Value := match z with
 | .tuple xs => xs
 | z => z.cells
def isTup (z : Value) : Bool := match z with
 | .tuple _ => true
 | _ => false
def Makes (P : Program) (ops : Array Oper) (i : Nat) (T : TypeId) (z : Value) : Prop := match z with
 | .tuple xs => ∃ o, ops[i]? = some o ∧ ∀ (a : Act) (w : World), (execOp a.eval o).run P w = .ok (.value (.slice (some ⟨w.heap.size, 0, none⟩) xs.size xs.size)) (w.alloc (.cells xs T))
 | z => (P.info? T).bind (·.zero) = some z
def MakesAt (P : Program) (ops : Array Oper) (i : Nat) (T : TypeId) (n : Nat) (xs : Array Value) (a : Act) : Prop :=
 ∃ o, ops[i]? = some o ∧ Region.wanted o (yielded ops a.tmps) = true ∧ ∀ w : World, (execOp a.eval o).run P w = .ok (.value (.slice (some ⟨w.heap.size, 0, none⟩) n n)) (w.alloc (.cells xs T))
def QF : Exit → Act → World → Prop := fun _ _ _ => False
abbrev Cont := (Nat → Prop) → Act → World → Prop
def ContMono (X : Nat → Prop) (K : Cont) : Prop := ∀ (N N' : Nat → Prop) a w w', (∀ g, N' g → N g) → StepX X w w' → K N a w → K N' a w'
def XB (X : Nat → Prop) (base : Nat) : Nat → Prop := fun j => X j ∨ base ≤ j
def XN (X : Nat → Prop) (base : Nat) (N : Nat → Prop) : Nat → Prop := fun j => X j ∨ (base ≤ j ∧ ¬ N j)
section
variable (P : Program) (ops : Array Oper) (X : Nat → Prop) (base : Nat) (kd : Nat → Kd)
def go (i : Nat) (K : Cont) : Cont := fun N a w =>
 match kd i with
 | .silent => ∃ o v, ops[i]? = some o ∧ YieldsIf P ops (StepX (XB X base) w) o v a ∧ K N (a.put o.dst v) w
 | .chain => ∀ W, StepX X w W → wpOp P ops QF i (fun a' w' => StepX (XN X base N) W w' ∧ K (fun g => N g ∧ (g < W.heap.size ∨ w'.heap.size ≤ g)) a' w') a W
 | .alloc T z => ∀ W g, StepX X w W → W.heap[g]? = some (.cells (madeC z) T (0, 0)) → base ≤ g → N g → K (fun x => N x ∧ x ≠ g) (a.put ((ops[i]?).bind (·.dst)) (madeV z g)) W
 | .make T n xs => MakesAt P ops i T n xs a ∧ ∀ W g, StepX X w W → W.heap[g]? = some (.cells xs T (0, 0)) → base ≤ g → N g → K (fun x => N x ∧ x ≠ g) (a.put ((ops[i]?).bind (·.dst)) (.slice (some ⟨g, 0, none⟩) n n)) W
 | .pure => ∃ o v, ops[i]? = some o ∧ YieldsIf P ops (fun _ => True) o v a ∧ K N (a.put o.dst v) w
def run (l : List Nat) (K : Cont) : Cont := l.foldr (fun i K => go P ops X base kd i K) K
variable {P ops X base kd}
theorem YieldsIf.step {o : Oper} {v : Value} {a : Act} {w w' : World} (h : YieldsIf P ops (StepX (XB X base) w) o v a) (hs : StepX X w w') : YieldsIf P ops (StepX (XB X base) w') o v a :=
 h.imp (fun ⟨hw, hv⟩ => ⟨hw, fun W hW => hv W ((hs.mono fun _ _ h => .inl h).trans hW)⟩) id
theorem YieldsIf.stepN {o : Oper} {v : Value} {a : Act} {w W w' : World} {N : Nat → Prop} (h : YieldsIf P ops (StepX (XB X base) w) o v a) (hs : StepX X w W) (hs' : StepX (XN X base N) W w') : YieldsIf P ops (StepX (XB X base) w') o v a :=
 h.imp (fun ⟨hw, hv⟩ => ⟨hw, fun W hW => hv W (((hs.mono fun _ _ h => .inl h).trans (hs'.mono fun _ _ h => h.imp id And.left)).trans hW)⟩) id
theorem go_cong {i : Nat} {K K' : Cont} (h : ∀ N a w, K N a w → K' N a w) {N : Nat → Prop} {a : Act} {w : World} (hg : go P ops X base kd i K N a w) : go P ops X base kd i K' N a w := by
 unfold go at *
 split at hg
 ·obtain ⟨o, v, ho, hy, hk⟩ := hg; exact ⟨o, v, ho, hy, h _ _ _ hk⟩
 ·exact fun W hW => wpOp_mono (fun a' w' ⟨hs, hk⟩ => ⟨hs, h _ _ _ hk⟩) (hg W hW)
 ·exact fun W g h1 h2 h3 h4 => h _ _ _ (hg W g h1 h2 h3 h4)
 ·exact ⟨hg.1, fun W g h1 h2 h3 h4 => h _ _ _ (hg.2 W g h1 h2 h3 h4)⟩
 ·obtain ⟨o, v, ho, hy, hk⟩ := hg; exact ⟨o, v, ho, hy, h _ _ _ hk⟩
theorem go_mono {i : Nat} {K : Cont} (hK : ContMono X K) : ContMono X (go P ops X base kd i K) := by
 intro N N' a w w' hN hs hg
 unfold go at *
 split at hg
 ·obtain ⟨o, v, ho, hy, hk⟩ := hg; exact ⟨o, v, ho, YieldsIf.step hy hs, hK _ _ _ _ _ hN hs hk⟩
 ·exact fun W hW => wpOp_mono (fun a' w' ⟨hs', hk⟩ => ⟨hs'.mono (fun j _ h => h.imp id fun h => ⟨h.1, fun hn => h.2 (hN j hn)⟩), hK _ _ _ _ _ (fun g ⟨h1, h2⟩ => ⟨hN g h1, h2⟩) (StepX.refl _ _) hk⟩) (hg W (hs.trans hW))
 ·exact fun W g h1 h2 h3 h4 => hK _ _ _ _ _ (fun x ⟨h5, h6⟩ => ⟨hN x h5, h6⟩) (StepX.refl _ _) (hg W g (hs.trans h1) h2 h3 (hN g h4))
 ·exact ⟨hg.1, fun W g h1 h2 h3 h4 => hK _ _ _ _ _ (fun x ⟨h5, h6⟩ => ⟨hN x h5, h6⟩) (StepX.refl _ _) (hg.2 W g (hs.trans h1) h2 h3 (hN g h4))⟩
 ·obtain ⟨o, v, ho, hy, hk⟩ := hg; exact ⟨o, v, ho, hy, hK _ _ _ _ _ hN hs hk⟩
theorem run_mono {K : Cont} (hK : ContMono X K) : ∀ l, ContMono X (run P ops X base kd l K)
 | [] => hK
 | _ :: l => go_mono (run_mono hK l)
theorem wpOp_under {j : Nat} {oj : Oper} {dst : Option Tmp} {v : Value} (hj : ops[j]? = some oj) (h1 : ∀ d, dst = some d → d ∉ oj.looksAt ops) (h2 : ∀ d, dst = some d → oj.dst ≠ some d)
  (hsj : ∀ cs b, oj.op ≠ .select cs b) {K : Act → World → Prop} {a : Act} {w : World} (h : wpOp P ops QF j K a w) :
  wpOp P ops QF j (fun a' w' => ∃ a0, a' = a0.put dst v ∧ K a0 w') (a.put dst v) w := by
 unfold wpOp at *
 simp only [hj] at *
 rw [wanted_put oj a dst v h1]
 split
 ·rename_i hw
  simp only [hw, if_true] at h
  rcases h with h | ⟨_, a0, w0, hF⟩
  case inr => exact hF.elim
  refine .inl ?_
  unfold Oper.wp at *
  rw [execOp_put oj hsj a dst v h1]
  generalize (execOp a.eval oj).run P w = r at *
  cases r with
  | ok n w' =>
   cases n <;> simp only [Oper.upon] at h ⊢
   case value u => exact ⟨_, (Act.put_comm a v u h2), h⟩
   case skip => exact ⟨_, (Act.put_comm a v undef h2), h⟩
   case defer d => exact ⟨_, (by rw [← Act.put_comm _ v undef h2]; cases dst <;> rfl), h⟩
   case enter f args =>
    refine Calls.mono h fun e w'' he => ?_
    cases e with
    | returned u => exact ⟨_, (Act.put_comm a v u h2), he⟩
    | panicked c => exact he.elim
    | outgrown => exact he
   case row row args => exact Rows.mono h fun u w'' he => ⟨_, (Act.put_comm a v u h2), he⟩
  | halt x w' =>
   cases x <;> simp only [Oper.upon] at h ⊢
   case panic u => exact h.elim
 ·rename_i hw
  simp only [hw] at h
  exact ⟨_, (Act.put_comm a v undef h2), h⟩
theorem calls_ex {f : FuncId} {args : Array Value} {w : World} {R : Ending → World → Prop} (h : Calls P f args w R) : ∃ e w', R e w' := by
 obtain ⟨e, w', _, hR, _⟩ := h []
 exact ⟨e, w', hR⟩
theorem wpOp_pure {i : Nat} {oi : Oper} (hi : ops[i]? = some oi) {Φ : Act → Prop} (hΦ : ∀ a v, Φ (a.put oi.dst v) → Φ a) (hD : ∀ (a : Act) (d : Deferred), Φ { a with defers := d :: a.defers } → Φ a) {K : Act → World → Prop} {a : Act} {w : World} (h : wpOp P ops QF i K a w) (hK : ∀ a' w', K a' w' → Φ a') : Φ a := by
 unfold wpOp at h
 simp only [hi] at h
 split at h
 ·rcases h with h | ⟨_, a0, w0, hF⟩
  case inr => exact hF.elim
  unfold Oper.wp at h
  generalize (execOp a.eval oi).run P w = r at h
  cases r with
  | ok n w' =>
   cases n <;> simp only [Oper.upon] at h
   case value u => exact hΦ a u (hK _ _ h)
   case skip => exact hΦ a undef (hK _ _ h)
   case defer d => exact hD a d (hΦ _ undef (hK _ _ h))
   case enter f args =>
    obtain ⟨e, w'', he⟩ := calls_ex h
    cases e with
    | returned u => exact hΦ a u (hK _ _ he)
    | panicked c => exact he.elim
    | outgrown => obtain ⟨_, _, hF⟩ := he; exact hF.elim
   case row row args =>
    obtain ⟨u, w'', he, _⟩ := h (Frame.enter P 0 #[] .normal) []
    exact hΦ a u (hK _ _ he)
   all_goals exact h.elim
  | halt x w' => cases x <;> simp only [Oper.upon] at h <;> exact h.elim
 ·exact hΦ a undef (hK _ _ h)
theorem wpOp_keep {i : Nat} {oi : Oper} (hi : ops[i]? = some oi) {Φ : Act → Prop} (hΦ : ∀ a v, Φ a → Φ (a.put oi.dst v)) (hD : ∀ (a : Act) (d : Deferred), Φ a → Φ { a with defers := d :: a.defers }) {K : Act → World → Prop} {a : Act} {w : World} (h : wpOp P ops QF i K a w) (ha : Φ a) : wpOp P ops QF i (fun a' w' => K a' w' ∧ Φ a') a w := by
 unfold wpOp at *
 simp only [hi] at *
 split
 ·rename_i hw
  simp only [hw, if_true] at h
  rcases h with h | ⟨_, a0, w0, hF⟩
  case inr => exact hF.elim
  refine .inl ?_
  unfold Oper.wp at *
  generalize (execOp a.eval oi).run P w = r at *
  cases r with
  | ok n w' =>
   cases n <;> simp only [Oper.upon] at h ⊢
   case value u => exact ⟨h, hΦ _ _ ha⟩
   case skip => exact ⟨h, hΦ _ _ ha⟩
   case defer d => exact ⟨h, hΦ _ _ (hD _ _ ha)⟩
   case enter f args =>
    refine Calls.mono h fun e w'' he => ?_
    cases e with
    | returned u => exact ⟨he, hΦ _ _ ha⟩
    | panicked c => exact he.elim
    | outgrown => exact he
   case row row args => exact Rows.mono h fun u w'' he => ⟨he, hΦ _ _ ha⟩
  | halt x w' =>
   cases x <;> simp only [Oper.upon] at h ⊢
   case panic u => exact h.elim
 ·rename_i hw
  simp only [hw] at h
  exact ⟨h, hΦ _ _ ha⟩
theorem YieldsIf.same {o : Oper} {v v' : Value} {a : Act} (h : YieldsIf P ops (fun _ => True) o v a) (h' : YieldsIf P ops (fun _ => True) o v' a) (w : World) : v = v' := by
 rcases h with ⟨h1, h2⟩ | ⟨h1, h2⟩ <;> rcases h' with ⟨k1, k2⟩ | ⟨k1, k2⟩
 ·have e := (h2 w trivial).symm.trans (k2 w trivial)
  injection e with e
  injection e
 ·rw [h1] at k1; cases k1
 ·rw [h1] at k1; cases k1
 ·rw [h2, k2]
def swaps : Kd → Kd → Bool
 | .silent, _ => true
 | .pure, _ => true
 | .chain, .pure => true
 | .chain, .alloc _ _ => true
 | .alloc _ _, .alloc _ _ => true
 | .chain, .make _ _ _ => true
 | .make _ _ _, .alloc _ _ => true
 | _, _ => false
theorem exch {i j : Nat} {oi oj : Oper} (hi : ops[i]? = some oi) (hj : ops[j]? = some oj) (hap : oi.apart ops oj = true)
  (hsi : ∀ cs b, oi.op ≠ .select cs b) (hsj : ∀ cs b, oj.op ≠ .select cs b) (hsw : swaps (kd i) (kd j) = true) (hX : ∀ j, X j → j < base) {K : Cont} (hK : ContMono X K) {N : Nat → Prop} {a : Act} {w : World}
  (h : go P ops X base kd i (go P ops X base kd j K) N a w) : go P ops X base kd j (go P ops X base kd i K) N a w := by
 obtain ⟨h1, h2, h3⟩ := Oper.apart_spec hap
 have keepI : ∀ {S : World → Prop} {v : Value} {a : Act} (u : Value), YieldsIf P ops S oi v a → YieldsIf P ops S oi v (a.put oj.dst u) := fun {S v a} u hy =>
  hy.of_same (execOp_put oi hsi a oj.dst u h3) (wanted_put oi a oj.dst u h3)
 have backJ : ∀ {S : World → Prop} {v u : Value} {a : Act}, YieldsIf P ops S oj v (a.put oi.dst u) → YieldsIf P ops S oj v a := fun {S v u a} hy =>
  hy.of_same (execOp_put oj hsj a oi.dst u h1).symm (wanted_put oj a oi.dst u h1).symm
 have hdi : (ops[i]?).bind (·.dst) = oi.dst := by rw [hi]; rfl
 have hdj : (ops[j]?).bind (·.dst) = oj.dst := by rw [hj]; rfl
 have hsome : ∀ {w w' : World} {g : Nat} {o : Obj}, StepX X w w' → base ≤ g → w.heap[g]? = some o → w'.heap[g]? = some o := fun {w w' g o} hs hb hg => by
  rw [hs.block g (Array.getElem?_eq_some_iff.1 hg).1 (fun hx => by have := hX g hx; omega)]; exact hg
 have hsomeN : ∀ {w W w' : World} {g : Nat} {o : Obj} {N : Nat → Prop}, StepX X w W → StepX (XN X base N) W w' → base ≤ g → N g → w.heap[g]? = some o → w'.heap[g]? = some o := fun {w W w' g o N} h1 h2 hb hn hg => by
  have hg2 := hsome h1 hb hg
  rw [h2.block g (Array.getElem?_eq_some_iff.1 hg2).1 (fun hx => by
   rcases hx with hx | hx
   ·have := hX g hx; omega
   ·exact hx.2 hn)]
  exact hg2
 have makesBack : ∀ {T : TypeId} {n : Nat} {xs : Array Value} {a : Act} {v : Value}, MakesAt P ops j T n xs (a.put oi.dst v) → MakesAt P ops j T n xs a := fun {T n xs a v} ⟨o, ho, hg, hr⟩ => by
  obtain rfl : oj = o := by rw [hj] at ho; exact Option.some.inj ho
  exact ⟨oj, hj, by rw [← wanted_put oj a oi.dst v h1]; exact hg, fun w => by rw [← execOp_put oj hsj a oi.dst v h1]; exact hr w⟩
 have makesKeep : ∀ {T : TypeId} {n : Nat} {xs : Array Value} {a : Act} {v : Value}, MakesAt P ops i T n xs a → MakesAt P ops i T n xs (a.put oj.dst v) := fun {T n xs a v} ⟨o, ho, hg, hr⟩ => by
  obtain rfl : oi = o := by rw [hi] at ho; exact Option.some.inj ho
  exact ⟨oi, hi, by rw [wanted_put oi a oj.dst v h3]; exact hg, fun w => by rw [execOp_put oi hsi a oj.dst v h3]; exact hr w⟩
 cases hki : kd i with
 | make T n xs =>
  cases hkj : kd j with
  | silent => simp [hki, hkj, swaps] at hsw
  | chain => simp [hki, hkj, swaps] at hsw
  | make T' n' xs' => simp [hki, hkj, swaps] at hsw
  | pure => simp [hki, hkj, swaps] at hsw
  | alloc T' z' =>
   simp only [go, hki, hkj] at h ⊢
   intro W' g' hs' hb' hg' hN'
   refine ⟨by rw [hdj]; exact makesKeep h.1, ?_⟩
   intro W g hs hb hg ⟨hN, hne⟩
   have h := h.2
   rw [hdi, hdj] at *
   rw [← Act.put_comm a _ _ h2]
   exact hK _ _ _ _ _ (fun x ⟨⟨q1, q2⟩, q3⟩ => ⟨⟨q1, q3⟩, q2⟩) (StepX.refl _ _) (h W g (hs'.trans hs) hb hg hN W g' (StepX.refl _ _) (hsome hs hg' hb') hg' ⟨hN', fun e => hne e.symm⟩)
 | silent =>
  cases hkj : kd j with
  | make T n xs =>
   simp only [go, hki, hkj] at h ⊢
   obtain ⟨o, v, ho, hy, hm, hk⟩ := h
   obtain rfl : oi = o := by rw [hi] at ho; exact Option.some.inj ho
   refine ⟨makesBack hm, fun W g hs hb hg hN => ⟨_, v, hi, ?_, ?_⟩⟩
   ·rw [hdj]; exact keepI _ (YieldsIf.step hy hs)
   ·rw [hdj, ← Act.put_comm a v _ h2, ← hdj]
    exact hk W g hs hb hg hN
  | silent =>
   simp only [go, hki, hkj] at h ⊢
   obtain ⟨o, v, ho, hy, o', v', ho', hy', hk⟩ := h
   obtain rfl : oi = o := by rw [hi] at ho; exact Option.some.inj ho
   obtain rfl : oj = o' := by rw [hj] at ho'; exact Option.some.inj ho'
   exact ⟨_, v', hj, backJ hy', _, v, hi, keepI _ hy, by rw [← Act.put_comm a v v' h2]; exact hk⟩
  | chain =>
   simp only [go, hki, hkj] at h ⊢
   obtain ⟨o, v, ho, hy, hk⟩ := h
   obtain rfl : oi = o := by rw [hi] at ho; exact Option.some.inj ho
   intro W hW
   refine wpOp_mono (fun a' w' hh => ?_) (wpOp_putIf (S := StepX (XB X base) w) hj hap hsi hsj (fun _ _ _ hq => hq) hy (hk W hW))
   obtain ⟨hy', hs, hk'⟩ := hh
   exact ⟨hs, _, v, hi, YieldsIf.stepN hy' hW hs, hk'⟩
  | alloc T z =>
   simp only [go, hki, hkj] at h ⊢
   obtain ⟨o, v, ho, hy, hk⟩ := h
   obtain rfl : oi = o := by rw [hi] at ho; exact Option.some.inj ho
   refine fun W g hs hb hg hN => ⟨_, v, hi, ?_, ?_⟩
   ·rw [hdj]; exact keepI _ (YieldsIf.step hy hs)
   ·rw [hdj, ← Act.put_comm a v _ h2, ← hdj]
    exact hk W g hs hb hg hN
  | pure =>
   simp only [go, hki, hkj] at h ⊢
   obtain ⟨o, v, ho, hy, o', v', ho', hy', hk⟩ := h
   obtain rfl : oi = o := by rw [hi] at ho; exact Option.some.inj ho
   obtain rfl : oj = o' := by rw [hj] at ho'; exact Option.some.inj ho'
   exact ⟨_, v', hj, backJ hy', _, v, hi, keepI _ hy, by rw [← Act.put_comm a v v' h2]; exact hk⟩
 | pure =>
  cases hkj : kd j with
  | make T n xs =>
   simp only [go, hki, hkj] at h ⊢
   obtain ⟨o, v, ho, hy, hm, hk⟩ := h
   obtain rfl : oi = o := by rw [hi] at ho; exact Option.some.inj ho
   refine ⟨makesBack hm, fun W g hs hb hg hN => ⟨_, v, hi, ?_, ?_⟩⟩
   ·rw [hdj]; exact keepI _ hy
   ·rw [hdj, ← Act.put_comm a v _ h2, ← hdj]
    exact hk W g hs hb hg hN
  | silent =>
   simp only [go, hki, hkj] at h ⊢
   obtain ⟨o, v, ho, hy, o', v', ho', hy', hk⟩ := h
   obtain rfl : oi = o := by rw [hi] at ho; exact Option.some.inj ho
   obtain rfl : oj = o' := by rw [hj] at ho'; exact Option.some.inj ho'
   exact ⟨_, v', hj, backJ hy', _, v, hi, keepI _ hy, by rw [← Act.put_comm a v v' h2]; exact hk⟩
  | chain =>
   simp only [go, hki, hkj] at h ⊢
   obtain ⟨o, v, ho, hy, hk⟩ := h
   obtain rfl : oi = o := by rw [hi] at ho; exact Option.some.inj ho
   intro W hW
   refine wpOp_mono (fun a' w' hh => ?_) (wpOp_putIf (S := fun _ => True) hj hap hsi hsj (fun _ _ _ hq => hq) hy (hk W hW))
   obtain ⟨hy', hs, hk'⟩ := hh
   exact ⟨hs, _, v, hi, hy', hk'⟩
  | alloc T z =>
   simp only [go, hki, hkj] at h ⊢
   obtain ⟨o, v, ho, hy, hk⟩ := h
   obtain rfl : oi = o := by rw [hi] at ho; exact Option.some.inj ho
   refine fun W g hs hb hg hN => ⟨_, v, hi, ?_, ?_⟩
   ·rw [hdj]; exact keepI _ hy
   ·rw [hdj, ← Act.put_comm a v _ h2, ← hdj]
    exact hk W g hs hb hg hN
  | pure =>
   simp only [go, hki, hkj] at h ⊢
   obtain ⟨o, v, ho, hy, o', v', ho', hy', hk⟩ := h
   obtain rfl : oi = o := by rw [hi] at ho; exact Option.some.inj ho
   obtain rfl : oj = o' := by rw [hj] at ho'; exact Option.some.inj ho'
   exact ⟨_, v', hj, backJ hy', _, v, hi, keepI _ hy, by rw [← Act.put_comm a v v' h2]; exact hk⟩
 | chain =>
  cases hkj : kd j with
  | silent => simp [hki, hkj, swaps] at hsw
  | chain => simp [hki, hkj, swaps] at hsw
  | pure =>
   simp only [go, hki, hkj] at h ⊢
   obtain ⟨v, hv⟩ : ∃ v, YieldsIf P ops (fun _ => True) oj v a := wpOp_pure hi (Φ := fun a => ∃ v, YieldsIf P ops (fun _ => True) oj v a) (fun a u ⟨v, hm⟩ => ⟨v, backJ hm⟩) (fun a d ⟨v, hm⟩ => ⟨v, hm.of_same rfl rfl⟩) (h w (StepX.refl _ _)) (fun a' w' hh => by
    obtain ⟨_, o, v, ho, hy, _⟩ := hh
    obtain rfl : oj = o := by rw [hj] at ho; exact Option.some.inj ho
    exact ⟨v, hy⟩)
   refine ⟨_, v, hj, hv, fun W hW => ?_⟩
   have hkeep := wpOp_keep hi (Φ := fun a => YieldsIf P ops (fun _ => True) oj v a) (fun a u hm => hm.of_same (execOp_put oj hsj a oi.dst u h1) (wanted_put oj a oi.dst u h1)) (fun a d hm => hm.of_same rfl rfl) (h W hW) hv
   refine wpOp_mono (fun a' w' hh => ?_) (wpOp_under (dst := oj.dst) (v := v) hi h3 (fun d hd he => h2 d he hd) hsi hkeep)
   obtain ⟨a0, rfl, ⟨hs, o, v', ho, hy, hk⟩, hv0⟩ := hh
   obtain rfl : oj = o := by rw [hj] at ho; exact Option.some.inj ho
   obtain rfl := YieldsIf.same hv0 hy w'
   exact ⟨hs, hk⟩
  | make T n xs =>
   simp only [go, hki, hkj] at h ⊢
   have hmk : MakesAt P ops j T n xs a := wpOp_pure hi (Φ := MakesAt P ops j T n xs) (fun a v hm => makesBack hm) (fun a d hm => hm) (h w (StepX.refl _ _)) (fun a' w' hh => hh.2.1)
   refine ⟨hmk, ?_⟩
   intro W0 g hs0 hb hg hN W hW
   refine wpOp_mono (fun a' w' hh => ?_) (wpOp_under (dst := (ops[j]?).bind (·.dst)) (v := .slice (some ⟨g, 0, none⟩) n n) hi (by rw [hdj]; exact h3) (by rw [hdj]; exact fun d hd he => h2 d he hd) hsi (h W (hs0.trans hW)))
   obtain ⟨a0, rfl, hs, hk⟩ := hh
   have hlt : g < W.heap.size := Nat.lt_of_lt_of_le (Array.getElem?_eq_some_iff.1 hb).1 hW.size
   exact ⟨hs.mono (fun j _ h => h.imp id fun h => ⟨h.1, fun hn => h.2 hn.1⟩), hK _ _ _ _ _ (fun x ⟨⟨q1, q2⟩, q3⟩ => ⟨⟨q1, q3⟩, q2⟩) (StepX.refl _ _) (hk.2 w' g (StepX.refl _ _) (hsomeN hW hs hg hN hb) hg ⟨hN, .inl hlt⟩)⟩
  | alloc T z =>
   simp only [go, hki, hkj] at h ⊢
   intro W0 g hs0 hb hg hN W hW
   refine wpOp_mono (fun a' w' hh => ?_) (wpOp_under (dst := (ops[j]?).bind (·.dst)) (v := madeV z g) hi (by rw [hdj]; exact h3) (by rw [hdj]; exact fun d hd he => h2 d he hd) hsi (h W (hs0.trans hW)))
   obtain ⟨a0, rfl, hs, hk⟩ := hh
   have hlt : g < W.heap.size := Nat.lt_of_lt_of_le (Array.getElem?_eq_some_iff.1 hb).1 hW.size
   exact ⟨hs.mono (fun j _ h => h.imp id fun h => ⟨h.1, fun hn => h.2 hn.1⟩), hK _ _ _ _ _ (fun x ⟨⟨q1, q2⟩, q3⟩ => ⟨⟨q1, q3⟩, q2⟩) (StepX.refl _ _) (hk w' g (StepX.refl _ _) (hsomeN hW hs hg hN hb) hg ⟨hN, .inl hlt⟩)⟩
 | alloc T z =>
  cases hkj : kd j with
  | silent => simp [hki, hkj, swaps] at hsw
  | chain => simp [hki, hkj, swaps] at hsw
  | make T' n' xs' => simp [hki, hkj, swaps] at hsw
  | pure => simp [hki, hkj, swaps] at hsw
  | alloc T' z' =>
   simp only [go, hki, hkj] at h ⊢
   intro W' g' hs' hb' hg' hN' W g hs hb hg ⟨hN, hne⟩
   rw [hdi, hdj] at *
   rw [← Act.put_comm a _ _ h2]
   exact hK _ _ _ _ _ (fun x ⟨⟨q1, q2⟩, q3⟩ => ⟨⟨q1, q3⟩, q2⟩) (StepX.refl _ _) (h W g (hs'.trans hs) hb hg hN W g' (StepX.refl _ _) (hsome hs hg' hb') hg' ⟨hN', fun e => hne e.symm⟩)
def bitsOf (tab : List Nat) (j : Nat) (l : List Edge) : Nat := l.foldl (fun acc e => if Region.binds .any e && decide (e.on < j) then acc ||| (2 ^ e.on ||| tab.getD e.on 0) else acc) 0
def okTab (tab : List Nat) (ops : Array Oper) : Bool := (List.range ops.size).all fun j => match ops[j]? with
 | none => true
 | some o => tab.getD j 0 == bitsOf tab j o.after.toList
def ancB (tab : List Nat) (i j : Nat) : Bool := (tab.getD j 0).testBit i
theorem bits_of {tab : List Nat} {j i : Nat} : ∀ {l : List Edge} {acc : Nat}, (l.foldl (fun acc e => if Region.binds .any e && decide (e.on < j) then acc ||| (2 ^ e.on ||| tab.getD e.on 0) else acc) acc).testBit i = true →
  acc.testBit i = true ∨ ∃ e ∈ l, Region.binds .any e = true ∧ e.on < j ∧ (e.on = i ∨ ancB tab i e.on = true) := by
 intro l
 induction l with
 | nil => intro acc h; exact .inl h
 | cons x l ih =>
  intro acc h
  rw [List.foldl_cons] at h
  rcases ih h with h1 | ⟨e, he, h2⟩
  ·split at h1
   ·rename_i hx
    simp only [Bool.and_eq_true, decide_eq_true_eq] at hx
    rw [Nat.testBit_or, Nat.testBit_or, Nat.testBit_two_pow, Bool.or_eq_true, Bool.or_eq_true, decide_eq_true_eq] at h1
    rcases h1 with h1 | h1
    ·exact .inl h1
    ·exact .inr ⟨x, List.mem_cons_self, hx.1, hx.2, h1⟩
   ·exact .inl h1
  ·exact .inr ⟨e, List.mem_cons_of_mem _ he, h2⟩
def okPair (tab : List Nat) (ops : Array Oper) (kd : Nat → Kd) (i j : Nat) : Bool :=
 ancB tab i j || match ops[i]?, ops[j]? with
  | some oi, some oj => oi.apart ops oj && swaps (kd i) (kd j)
  | _, _ => false
def okList (tab : List Nat) (ops : Array Oper) (kd : Nat → Kd) : List Nat → Bool
 | [] => true
 | i :: l => l.all (okPair tab ops kd i) && okList tab ops kd l
def okTail (tab : List Nat) (before : List Nat) : List Nat → Bool
 | [] => true
 | x :: t => before.all (fun y => ancB tab y x) && okTail tab (before ++ [x]) t
def isSil : Kd → Bool
 | .silent => true
 | _ => false
def isMove (ops : Array Oper) (i : Nat) : Bool := match ops[i]? with
 | some o => (match o.op with | .move _ => true | .extract _ _ => true | _ => false)
 | none => false
def okWait (strict : Bool) (tab : List Nat) (ops : Array Oper) (kd : Nat → Kd) (y x : Nat) : Bool :=
 ancB tab y x || (!strict && isSil (kd y) && isMove ops y && match ops[y]?, ops[x]? with
  | some oy, some ox => oy.apart ops ox
  | _, _ => false)
def okDeps (ops : Array Oper) (seen : List Nat) : List Nat → Bool
 | [] => true
 | x :: l => (match ops[x]? with
  | none => false
  | some o => o.after.all fun e => !Region.binds .any e || seen.contains e.on) && okDeps ops (seen ++ [x]) l
def okAlloc (ops : Array Oper) (kd : Nat → Kd) (l : List Nat) : Bool :=
 l.all fun i => match kd i, ops[i]? with
  | .alloc T z, some o => o.guard.isNone && (isTup z || match o.op with | .alloc T' => T == T' | _ => false)
  | .alloc _ _, none => false
  | _, _ => true
def okSeq (strict : Bool) (tab : List Nat) (ops : Array Oper) (kd : Nat → Kd) (l t : List Nat) : Bool :=
 okTab tab ops && okList tab ops kd l && (l.all fun y => t.all fun x => okWait strict tab ops kd y x) && okTail tab [] t && okDeps ops [] (l ++ t) && okAlloc ops kd l && Region.noSelect ops && (List.range ops.size).all (fun i => (l ++ t).contains i) && (l ++ t).all (fun i => decide (i < ops.size)) && decide (l ++ t).Nodup
def Closed (ops : Array Oper) (listed : Array Bool) : Prop :=
 ∀ x o, ops[x]? = some o → listed.getD x true = true → ∀ e ∈ o.after, Region.binds .any e = true → listed.getD e.on false = true
theorem getD_tf' {listed : Array Bool} {i : Nat} (h : i < listed.size) (hl : listed.getD i false = true) : listed.getD i true = true := by
 simp [h] at hl ⊢; exact hl
variable {tab : List Nat}
theorem anc_listed {listed : Array Bool} (hsz : listed.size = ops.size) (hc : Closed ops listed) (ht : okTab tab ops = true) : ∀ j i o, ops[j]? = some o → (∀ e ∈ o.after, Region.binds .any e = true → listed.getD e.on false = true) →
  ancB tab i j = true → listed.getD i false = true := by
 intro j
 induction j using Nat.strongRecOn with
 | _ j ih =>
  intro i o ho hd h
  have hj : j < ops.size := (Array.getElem?_eq_some_iff.1 ho).1
  have h1 := List.all_eq_true.1 ht j (List.mem_range.2 hj)
  simp only [ho, beq_iff_eq] at h1
  unfold ancB at h
  rw [h1] at h
  rcases bits_of h with h2 | ⟨e, he, hb, hlt, h2⟩
  ·simp at h2
  ·have hl := hd e (by simpa using he) hb
   rcases h2 with rfl | h2
   ·exact hl
   ·have hej : e.on < ops.size := by omega
    exact ih e.on hlt i ops[e.on] (Array.getElem?_eq_getElem hej) (hc e.on _ (Array.getElem?_eq_getElem hej) (getD_tf' (by omega) hl)) h2
theorem bring (hX : ∀ j, X j → j < base) {K : Cont} (hK : ContMono X K) (hsel : Region.noSelect ops = true) {j : Nat} {oj : Oper} (hj : ops[j]? = some oj) : ∀ (l1 l2 : List Nat) (N : Nat → Prop) (a : Act) (w : World),
  (∀ i ∈ l1, ∃ oi, ops[i]? = some oi ∧ oi.apart ops oj = true ∧ swaps (kd i) (kd j) = true) → run P ops X base kd (l1 ++ j :: l2) K N a w → go P ops X base kd j (run P ops X base kd (l1 ++ l2) K) N a w := by
 intro l1
 induction l1 with
 | nil => intro l2 N a w _ h; exact h
 | cons i l1 ih =>
  intro l2 N a w hall h
  obtain ⟨oi, hi, hap, hsw⟩ := hall i (by simp)
  have h' : go P ops X base kd i (go P ops X base kd j (run P ops X base kd (l1 ++ l2) K)) N a w :=
   go_cong (fun N a w hh => ih l2 N a w (fun k hk => hall k (by simp [hk])) hh) h
  exact exch hi hj hap (Region.noSelect_spec hsel i oi · · hi) (Region.noSelect_spec hsel j oj · · hj) hsw hX (run_mono hK _) h'
theorem okList_drop {l1 l2 : List Nat} {j : Nat} (h : okList tab ops kd (l1 ++ j :: l2) = true) : okList tab ops kd (l1 ++ l2) = true ∧ ∀ i ∈ l1, okPair tab ops kd i j = true := by
 induction l1 with
 | nil => simp only [List.nil_append, okList, Bool.and_eq_true] at h; exact ⟨h.2, by simp⟩
 | cons i l1 ih =>
  simp only [List.cons_append, okList, Bool.and_eq_true, List.all_eq_true] at h ⊢
  obtain ⟨h1, h2⟩ := ih h.2
  refine ⟨⟨fun x hx => h.1 x ?_, h1⟩, fun x hx => ?_⟩
  ·simp only [List.mem_append, List.mem_cons] at hx ⊢; rcases hx with hx | hx <;> simp [hx]
  ·rcases List.mem_cons.1 hx with rfl | hx
   ·exact h.1 j (by simp)
   ·exact h2 x hx
def TailOk (tab : List Nat) (l t : List Nat) : Prop := ∀ t1 x t2, t = t1 ++ x :: t2 → ∀ y ∈ l ++ t1, ancB tab y x = true
def DepsOk (ops : Array Oper) (listed : Array Bool) (L : List Nat) : Prop := ∀ L1 x L2, L = L1 ++ x :: L2 → ∃ o, ops[x]? = some o ∧ ∀ e ∈ o.after, Region.binds .any e = true → listed.getD e.on false = true ∨ e.on ∈ L1
theorem tailOk_of {t : List Nat} : ∀ {b : List Nat}, okTail tab b t = true → TailOk tab b t := by
 induction t with
 | nil => intro b _ t1 x t2 h; exact absurd h (by simp)
 | cons z t ih =>
  intro b h t1 x t2 he y hy
  simp only [okTail, Bool.and_eq_true, List.all_eq_true] at h
  cases t1 with
  | nil =>
   simp only [List.nil_append, List.cons.injEq] at he
   obtain ⟨rfl, rfl⟩ := he
   exact h.1 y (by simpa using hy)
  | cons z' t1 =>
   simp only [List.cons_append, List.cons.injEq] at he
   obtain ⟨rfl, rfl⟩ := he
   exact ih h.2 t1 x t2 rfl y (by simpa using hy)
theorem depsOk_of {listed : Array Bool} {L : List Nat} : ∀ {seen : List Nat}, okDeps ops seen L = true → ∀ L1 x L2, L = L1 ++ x :: L2 → ∃ o, ops[x]? = some o ∧ ∀ e ∈ o.after, Region.binds .any e = true → listed.getD e.on false = true ∨ e.on ∈ seen ++ L1 := by
 induction L with
 | nil => intro b _ t1 x t2 h; exact absurd h (by simp)
 | cons z t ih =>
  intro b h t1 x t2 he
  simp only [okDeps, Bool.and_eq_true] at h
  cases t1 with
  | nil =>
   simp only [List.nil_append, List.cons.injEq] at he
   obtain ⟨rfl, rfl⟩ := he
   cases ho : ops[z]? with
   | none => simp [ho] at h
   | some o =>
    simp only [ho, Array.all_eq_true_iff_forall_mem, Bool.or_eq_true, Bool.not_eq_true', List.contains_iff_mem] at h
    exact ⟨o, rfl, fun e he hb => .inr (by have := (h.1 e he).resolve_left (by simp [hb]); simpa using this)⟩
  | cons z' t1 =>
   simp only [List.cons_append, List.cons.injEq] at he
   obtain ⟨rfl, rfl⟩ := he
   obtain ⟨o, ho, hh⟩ := ih h.2 t1 x t2 rfl
   exact ⟨o, ho, fun e he hb => (hh e he hb).imp id (by simp)⟩
def K0 (P : Program) (ops : Array Oper) (X : Nat → Prop) (Q : Exit → Act → World → Prop) (t : List Nat) : Cont := fun _ a w => ∀ W, StepX X w W → wpOps P ops Q t a W
theorem K0_mono {Q : Exit → Act → World → Prop} (t : List Nat) : ContMono X (K0 P ops X Q t) := fun _ _ _ _ _ _ hs h W hW => h W (hs.trans hW)
theorem wpOp_any {Q : Exit → Act → World → Prop} {i : Nat} {K : Act → World → Prop} {a : Act} {w : World} (h : wpOp P ops QF i K a w) : wpOp P ops Q i K a w := by
 unfold wpOp at *
 cases ho : ops[i]? with
 | none => simp only [ho] at h; exact h
 | some o =>
  simp only [ho] at h ⊢
  split
  ·rename_i hw
   simp only [hw, if_true] at h
   rcases h with h | ⟨_, a0, w0, hF⟩
   case inr => exact hF.elim
   refine .inl ?_
   unfold Oper.wp at *
   generalize (execOp a.eval o).run P w = r at *
   cases r with
   | ok n w' =>
    cases n <;> simp only [Oper.upon] at h ⊢ <;> first
     | exact h
     | exact Calls.mono h (fun e w'' he => by cases e <;> first | exact he | exact he.elim | (obtain ⟨_, _, hF⟩ := he; exact hF.elim))
   | halt x w' => cases x <;> simp only [Oper.upon] at h ⊢ <;> exact h.elim
  ·rename_i hw
   simp only [hw] at h
   exact h
theorem wpOp_alloc {Q : Exit → Act → World → Prop} {i : Nat} {o : Oper} {T : TypeId} {z : Value} {K : Act → World → Prop} {a : Act} {w : World} (ho : ops[i]? = some o) (hop : (isTup z || match o.op with | .alloc T' => T == T' | _ => false) = true) (hg : o.guard = none)
  (hz : Makes P ops i T z) (h : K (a.put o.dst (madeV z w.heap.size)) (w.alloc (.cells (madeC z) T))) : wpOp P ops Q i K a w := by
 unfold wpOp
 simp only [ho, Region.wanted, hg, if_true]
 refine .inl ?_
 unfold Oper.wp
 have hr : (execOp a.eval o).run P w = .ok (.value (madeV z w.heap.size)) (w.alloc (.cells (madeC z) T)) := by
  by_cases ht : ∃ xs, z = .tuple xs
  ·obtain ⟨xs, rfl⟩ := ht
   obtain ⟨o', ho', hrun⟩ := hz
   obtain rfl : o = o' := by rw [ho] at ho'; exact Option.some.inj ho'
   exact hrun _ _
  ·have h1 : isTup z = false := by cases z <;> simp [isTup] at ht ⊢
   have h2 : madeV z w.heap.size = .pointer (some ⟨w.heap.size, 0, none⟩) := by cases z <;> simp [isTup] at h1 <;> rfl
   have h3 : madeC z = z.cells := by cases z <;> simp [isTup] at h1 <;> rfl
   have h4 : (P.info? T).bind (·.zero) = some z := by cases z <;> simp [isTup] at h1 <;> exact hz
   rw [h1, Bool.false_or] at hop
   have hop' : o.op = .alloc T := by
    cases hopp : o.op <;> simp [hopp] at hop
    rw [hop]
   obtain ⟨inf, hi, hzz⟩ := Option.bind_eq_some_iff.1 h4
   rw [h2, h3]
   simp [execOp, hop', Instr.alloc, zeroValue, typeInfo, hi, hzz, newVar, newRow, newObj, Result.andThen]
   rfl
 rw [hr]
 exact h
theorem getD_tf {listed : Array Bool} {i : Nat} (h : i < listed.size) : listed.getD i true = listed.getD i false := by simp [h]
theorem getD_set {listed : Array Bool} {i j : Nat} (hi : i < listed.size) : (listed.setIfInBounds i true).getD j true = (listed.getD j true || decide (i = j)) := by
 by_cases hij : i = j
 ·subst hij; simp [hi]
 ·rw [getD_set_ne true hij]; simp [hij]
theorem depsOk_drop {listed : Array Bool} {L1 L2 : List Nat} {j : Nat} (hj : j < listed.size) (h : DepsOk ops listed (L1 ++ j :: L2)) : DepsOk ops (listed.setIfInBounds j true) (L1 ++ L2) := by
 intro M1 x M2 he
 have keep : ∀ {k}, listed.getD k false = true → (listed.setIfInBounds j true).getD k false = true := fun {k} hk => getD_set_true hk
 rcases List.append_eq_append_iff.1 he with ⟨r, h1, h2⟩ | ⟨r, h1, h2⟩
 ·-- M1 = L1 ++ r, L2 = r ++ x :: M2
  subst h1 h2
  obtain ⟨o, ho, hh⟩ := h (L1 ++ j :: r) x M2 (by simp)
  refine ⟨o, ho, fun e hee hb => ?_⟩
  rcases hh e hee hb with hl | hm
  ·exact .inl (keep hl)
  ·simp only [List.mem_append, List.mem_cons] at hm ⊢
   rcases hm with hm | rfl | hm
   ·exact .inr (.inl hm)
   ·exact .inl (by simp [hj])
   ·exact .inr (.inr hm)
 ·-- L1 = M1 ++ r, x :: M2 = r ++ L2
  cases r with
  | nil =>
   simp only [List.append_nil, List.nil_append] at h1 h2
   subst h1
   obtain ⟨o, ho, hh⟩ := h (L1 ++ [j]) x M2 (by simp [h2])
   refine ⟨o, ho, fun e hee hb => ?_⟩
   rcases hh e hee hb with hl | hm
   ·exact .inl (keep hl)
   ·simp only [List.mem_append, List.mem_singleton] at hm
    rcases hm with hm | rfl
    ·exact .inr hm
    ·exact .inl (by simp [hj])
  | cons y r =>
   simp only [List.cons_append, List.cons.injEq] at h2
   obtain ⟨rfl, rfl⟩ := h2
   subst h1
   obtain ⟨o, ho, hh⟩ := h M1 x (r ++ j :: L2) (by simp)
   exact ⟨o, ho, fun e hee hb => (hh e hee hb).imp keep id⟩
theorem nodup_mid {L1 L2 : List Nat} {j : Nat} (h : (L1 ++ j :: L2).Nodup) : j ∉ L1 ++ L2 ∧ (L1 ++ L2).Nodup := by
 rw [List.nodup_append] at h
 obtain ⟨h1, h2, h3⟩ := h
 rw [List.nodup_cons] at h2
 refine ⟨?_, ?_⟩
 ·rw [List.mem_append]
  rintro (hj | hj)
  ·exact h3 j hj j (by simp) rfl
  ·exact h2.1 hj
 ·rw [List.nodup_append]
  exact ⟨h1, h2.2, fun a ha b hb => h3 a ha b (by simp [hb])⟩
theorem unlisted_drop {listed : Array Bool} {j : Nat} {L1 L2 : List Nat} (hsz : j < listed.size) (hun : ∀ i, i < ops.size → (listed.getD i true = false ↔ i ∈ L1 ++ j :: L2)) (hnd : (L1 ++ j :: L2).Nodup) :
  ∀ i, i < ops.size → ((listed.setIfInBounds j true).getD i true = false ↔ i ∈ L1 ++ L2) := by
 intro i hi
 rw [getD_set hsz, Bool.or_eq_false_iff, decide_eq_false_iff_not, hun i hi]
 obtain ⟨h1, _⟩ := nodup_mid hnd
 simp only [List.mem_append, List.mem_cons] at h1 ⊢
 constructor
 ·rintro ⟨h2 | h2 | h2, h3⟩
  ·exact .inl h2
  ·exact absurd h2.symm h3
  ·exact .inr h2
 ·intro h2
  refine ⟨h2.elim .inl (fun h => .inr (.inr h)), fun e => ?_⟩
  subst e; exact h1 h2
theorem closed_set {listed : Array Bool} {j : Nat} {oj : Oper} (hsz : j < listed.size) (hoj : ops[j]? = some oj) (hdj : ∀ e ∈ oj.after, Region.binds .any e = true → listed.getD e.on false = true) (hcl : Closed ops listed) :
  Closed ops (listed.setIfInBounds j true) := fun x o ho hx e he hb => by
 rw [getD_set hsz, Bool.or_eq_true, decide_eq_true_eq] at hx
 rcases hx with hx | rfl
 ·exact getD_set_true (hcl x o ho hx e he hb)
 ·rw [hoj] at ho; obtain rfl := Option.some.inj ho; exact getD_set_true (hdj e he hb)
theorem tail_sound {Q : Exit → Act → World → Prop} : ∀ (fuel : Nat) (t : List Nat) (listed : Array Bool) (a : Act) (w : World),
  t.length ≤ fuel → listed.size = ops.size → (∀ i, i < ops.size → (listed.getD i true = false ↔ i ∈ t)) → (∀ i ∈ t, i < ops.size) → t.Nodup → Closed ops listed →
  okTab tab ops = true → TailOk tab [] t → DepsOk ops listed t → wpOps P ops Q t a w → wpAny P .any ops Q fuel listed a w := by
 intro fuel
 induction fuel with
 | zero =>
  intro t listed a w hf hsz hun hin hnd hcl htab htail hdeps h
  have ht : t = [] := List.eq_nil_of_length_eq_zero (by omega)
  subst ht
  refine ⟨?_, by simpa [wpOps] using h⟩
  rw [List.eq_nil_iff_forall_not_mem]
  intro j hj
  obtain ⟨h0, o, ho, _⟩ := mem_ready.1 hj
  have := (hun j (Array.getElem?_eq_some_iff.1 ho).1).1 h0
  simp at this
 | succ fuel ih =>
  intro t listed a w hf hsz hun hin hnd hcl htab htail hdeps h
  refine ⟨fun hr => ?_, fun j hj => ?_⟩
  ·cases t with
   | nil => simpa [wpOps] using h
   | cons x L =>
    exfalso
    obtain ⟨o, ho, hh⟩ := hdeps [] x L rfl
    have hx : x ∈ Region.ready .any ops listed := mem_ready.2 ⟨(hun x (hin x (by simp))).2 (by simp), o, ho, fun e he hb => (hh e he hb).resolve_right (by simp)⟩
    rw [hr] at hx; cases hx
  ·obtain ⟨h0, oj, hoj, hdj⟩ := mem_ready.1 hj
   have hjlt := (Array.getElem?_eq_some_iff.1 hoj).1
   have hjsz : j < listed.size := by omega
   obtain ⟨t1, t2, rfl⟩ := List.append_of_mem ((hun j hjlt).1 h0)
   have ht1 : t1 = [] := by
    rw [List.eq_nil_iff_forall_not_mem]
    intro i hi
    have h1 := anc_listed hsz hcl htab j i oj hoj hdj (htail t1 j t2 rfl i (by simp [hi]))
    have h2 := (hun i (hin i (by simp [hi]))).2 (by simp [hi])
    rw [getD_tf (by rw [hsz]; exact hin i (by simp [hi])), h1] at h2
    cases h2
   subst ht1
   rw [List.nil_append, wpOps_cons] at h
   refine wpOp_mono (fun a' w' hk => ?_) h
   have hnd' := nodup_mid hnd
   refine ih t2 _ a' w' (by simp at hf; omega) (by simp [hsz]) (by have := unlisted_drop (L1 := []) (L2 := t2) hjsz hun hnd; simpa using this) (fun i hi => hin i (by simp [hi])) (by simpa using hnd'.2)
    (closed_set hjsz hoj hdj hcl) htab (fun u1 x u2 he y hy => htail (j :: u1) x u2 (by simp [he]) y (by simp at hy ⊢; exact .inr hy)) (by have := depsOk_drop (L1 := []) (L2 := t2) hjsz hdeps; simpa using this) hk
def runM (P : Program) (ops : Array Oper) : List Nat → (Act → Prop) → Act → Prop
 | [], K, a => K a
 | i :: l, K, a => ∃ o v, ops[i]? = some o ∧ YieldsIf P ops (fun _ => True) o v a ∧ runM P ops l K (a.put o.dst v)
theorem runM_mono {K K' : Act → Prop} (h : ∀ a, K a → K' a) : ∀ {l : List Nat} {a : Act}, runM P ops l K a → runM P ops l K' a
 | [], _, hr => h _ hr
 | _ :: _, _, ⟨o, v, ho, hy, hr⟩ => ⟨o, v, ho, hy, runM_mono h hr⟩
theorem move_yields {S : World → Prop} {o : Oper} {v : Value} {a : Act} {w : World} {i : Nat} (ho : ops[i]? = some o) (hm : isMove ops i = true) (hs : S w) (h : YieldsIf P ops S o v a) : YieldsIf P ops (fun _ => True) o v a := by
 rcases h with ⟨hw, hv⟩ | h
 ·refine .inl ⟨hw, fun W _ => ?_⟩
  have h1 := hv w hs
  unfold isMove at hm
  rw [ho] at hm
  simp only at hm
  cases hop : o.op <;> simp [hop] at hm
  ·simp [execOp, hop] at h1 ⊢
   exact h1
  ·rename_i x ix
   have h2 : ∀ (u : Value) (n : Nat), (∃ y, Instr.extract u n = pure y) ∨ ∃ t, Instr.extract u n = stuck t := fun u n => by
    unfold Instr.extract
    split
    ·split
     ·exact .inl ⟨_, rfl⟩
     ·exact .inr ⟨_, rfl⟩
    ·exact .inr ⟨_, rfl⟩
   rcases h2 (a.eval x) ix with ⟨y, h3⟩ | ⟨t, h3⟩
   ·simp [execOp, hop, h3] at h1 ⊢
    exact h1
   ·simp [execOp, hop, h3] at h1
 ·exact .inr h
theorem runM_of_run {Q : Exit → Act → World → Prop} {t : List Nat} {w : World} : ∀ {l : List Nat} {N : Nat → Prop} {a : Act}, (∀ y ∈ l, isSil (kd y) = true ∧ isMove ops y = true) → run P ops X base kd l (K0 P ops X Q t) N a w → runM P ops l (fun a => wpOps P ops Q t a w) a := by
 intro l
 induction l with
 | nil => intro N a _ h; exact h w (StepX.refl _ w)
 | cons i l ih =>
  intro N a hl h
  obtain ⟨h1, h2⟩ := hl i (by simp)
  have h' : go P ops X base kd i (run P ops X base kd l (K0 P ops X Q t)) N a w := h
  unfold go at h'
  cases hk : kd i <;> simp [hk, isSil] at h1
  rw [hk] at h'
  obtain ⟨o, v, ho, hy, hr⟩ := h'
  exact ⟨o, v, ho, move_yields ho h2 (StepX.refl _ w) hy, ih (fun y hy => hl y (by simp [hy])) hr⟩
theorem bringM (hsel : Region.noSelect ops = true) {K : Act → Prop} {j : Nat} {oj : Oper} (hj : ops[j]? = some oj) : ∀ {l1 l2 : List Nat} {a : Act}, (∀ i ∈ l1, ∃ oi, ops[i]? = some oi ∧ oi.apart ops oj = true) → runM P ops (l1 ++ j :: l2) K a →
  ∃ v, YieldsIf P ops (fun _ => True) oj v a ∧ runM P ops (l1 ++ l2) K (a.put oj.dst v) := by
 intro l1
 induction l1 with
 | nil =>
  intro l2 a _ h
  obtain ⟨o, v, ho, hy, hr⟩ := h
  obtain rfl : oj = o := by rw [hj] at ho; exact Option.some.inj ho
  exact ⟨v, hy, hr⟩
 | cons i l1 ih =>
  intro l2 a hall h
  obtain ⟨oi', hi', hap⟩ := hall i (by simp)
  obtain ⟨oi, vi, hi, hyi, hr⟩ := h
  obtain rfl : oi' = oi := by rw [hi] at hi'; exact (Option.some.inj hi').symm
  obtain ⟨v, hyj, hr2⟩ := ih (fun k hk => hall k (by simp [hk])) hr
  obtain ⟨h1, h2, h3⟩ := Oper.apart_spec hap
  have hsi := (Region.noSelect_spec hsel i oi' · · hi)
  have hsj := (Region.noSelect_spec hsel j oj · · hj)
  refine ⟨v, hyj.of_same (execOp_put oj hsj a oi'.dst vi h1).symm (wanted_put oj a oi'.dst vi h1).symm, oi', vi, hi, hyi.of_same (execOp_put oi' hsi a oj.dst v h3) (wanted_put oi' a oj.dst v h3), ?_⟩
  rw [← Act.put_comm a vi v h2]
  exact hr2
theorem tailM (hsel : Region.noSelect ops = true) {Q : Exit → Act → World → Prop} (hQ : ∀ c d v a w, Q (.panic c) (Act.put a d v) w → Q (.panic c) a w) {j : Nat} {oj : Oper} (hj : ops[j]? = some oj) {K : Act → World → Prop} {w : World} : ∀ {l : List Nat} {a : Act},
  (∀ i ∈ l, ∃ oi, ops[i]? = some oi ∧ oi.apart ops oj = true) → runM P ops l (fun a => wpOp P ops Q j K a w) a → wpOp P ops Q j (fun a' w' => runM P ops l (fun a => K a w') a') a w := by
 intro l
 induction l with
 | nil => intro a _ h; exact h
 | cons i l ih =>
  intro a hall h
  obtain ⟨oi', hi', hap⟩ := hall i (by simp)
  obtain ⟨oi, vi, hi, hyi, hr⟩ := h
  obtain rfl : oi' = oi := by rw [hi] at hi'; exact (Option.some.inj hi').symm
  have h1 := ih (fun k hk => hall k (by simp [hk])) hr
  refine wpOp_mono (fun a' w' hh => ?_) (wpOp_putIf (S := fun _ => True) hj hap (Region.noSelect_spec hsel i oi' · · hi) (Region.noSelect_spec hsel j oj · · hj) (fun c a w => hQ c _ _ a w) hyi h1)
  exact ⟨oi', vi, hi, hh.1, hh.2⟩
theorem mixed_sound {Q : Exit → Act → World → Prop} (hsel : Region.noSelect ops = true) (hQ : ∀ c d v a w, Q (.panic c) (Act.put a d v) w → Q (.panic c) a w) : ∀ (fuel : Nat) (l t : List Nat) (listed : Array Bool) (a : Act) (w : World),
  l.length + t.length ≤ fuel → listed.size = ops.size → (∀ i, i < ops.size → (listed.getD i true = false ↔ i ∈ l ++ t)) → (∀ i ∈ l ++ t, i < ops.size) → (l ++ t).Nodup → Closed ops listed →
  okTab tab ops = true → okList tab ops kd l = true → (∀ y ∈ l, ∀ x ∈ t, ancB tab y x = true ∨ ∃ oy ox, ops[y]? = some oy ∧ ops[x]? = some ox ∧ oy.apart ops ox = true) → TailOk tab [] t → DepsOk ops listed (l ++ t) →
  runM P ops l (fun a => wpOps P ops Q t a w) a → wpAny P .any ops Q fuel listed a w := by
 intro fuel
 induction fuel with
 | zero =>
  intro l t listed a w hf hsz hun hin hnd hcl htab _ _ htail hdeps h
  have hl : l = [] := List.eq_nil_of_length_eq_zero (by omega)
  subst hl
  exact tail_sound 0 t listed a w (by simpa using hf) hsz hun hin hnd hcl htab htail hdeps h
 | succ fuel ih =>
  intro l t listed a w hf hsz hun hin hnd hcl htab hlist hwait htail hdeps h
  by_cases hl : l = []
  ·subst hl
   exact tail_sound _ t listed a w (by simpa using hf) hsz hun hin hnd hcl htab htail hdeps h
  refine ⟨fun hr => ?_, fun j hj => ?_⟩
  ·exfalso
   cases l with
   | nil => exact hl rfl
   | cons x L =>
    obtain ⟨o, ho, hh⟩ := hdeps [] x (L ++ t) (by simp)
    have hx : x ∈ Region.ready .any ops listed := mem_ready.2 ⟨(hun x (hin x (by simp))).2 (by simp), o, ho, fun e he hb => (hh e he hb).resolve_right (by simp)⟩
    rw [hr] at hx; cases hx
  ·obtain ⟨h0, oj, hoj, hdj⟩ := mem_ready.1 hj
   have hjlt := (Array.getElem?_eq_some_iff.1 hoj).1
   have hjsz : j < listed.size := by omega
   have hjm := (hun j hjlt).1 h0
   have hcl' := closed_set hjsz hoj hdj hcl
   have notanc : ∀ i ∈ l ++ t, ancB tab i j = true → False := fun i hi ha => by
    have h1 := anc_listed hsz hcl htab j i oj hoj hdj ha
    have h2 := (hun i (hin i hi)).2 hi
    rw [getD_tf (by rw [hsz]; exact hin i hi), h1] at h2
    cases h2
   rcases List.mem_append.1 hjm with hjl | hjt
   ·obtain ⟨l1, l2, rfl⟩ := List.append_of_mem hjl
    obtain ⟨hlist', hpair⟩ := okList_drop hlist
    have hall : ∀ i ∈ l1, ∃ oi, ops[i]? = some oi ∧ oi.apart ops oj = true := fun i hi => by
     have hp := hpair i hi
     simp only [okPair, Bool.or_eq_true] at hp
     rcases hp with hp | hp
     ·exact (notanc i (by simp [hi]) hp).elim
     ·cases hoi : ops[i]? with
      | none => simp [hoi] at hp
      | some oi =>
       simp only [hoi, hoj, Bool.and_eq_true] at hp
       exact ⟨oi, rfl, hp.1⟩
    obtain ⟨v, hy, hr⟩ := bringM hsel hoj hall h
    have he : (l1 ++ j :: l2) ++ t = l1 ++ j :: (l2 ++ t) := by simp
    refine hy.wpOp hoj trivial (ih (l1 ++ l2) t _ _ w (by simp at hf ⊢; omega) (by simp [hsz]) (by have := unlisted_drop (L1 := l1) (L2 := l2 ++ t) hjsz (by rw [← he]; exact hun) (by rw [← he]; exact hnd); simpa using this)
     (fun i hi => hin i (by simp only [List.mem_append, List.mem_cons] at hi ⊢; rcases hi with (hi | hi) | hi <;> simp [hi]))
     (by have := (nodup_mid (by rw [← he]; exact hnd)).2; simpa using this) hcl' htab hlist' (fun y hy x hx => hwait y (by simp only [List.mem_append, List.mem_cons] at hy ⊢; rcases hy with hy | hy <;> simp [hy]) x hx) htail
     (by have := depsOk_drop (L1 := l1) (L2 := l2 ++ t) hjsz (by rw [← he]; exact hdeps); simpa using this) hr)
   ·obtain ⟨t1, t2, rfl⟩ := List.append_of_mem hjt
    have ht1 : t1 = [] := by
     rw [List.eq_nil_iff_forall_not_mem]
     intro i hi
     exact notanc i (by simp [hi]) (htail t1 j t2 rfl i (by simp [hi]))
    subst ht1
    have hall : ∀ i ∈ l, ∃ oi, ops[i]? = some oi ∧ oi.apart ops oj = true := fun i hi => by
     rcases hwait i hi j (by simp) with h1 | ⟨oy, ox, h1, h2, h3⟩
     ·exact (notanc i (by simp [hi]) h1).elim
     ·obtain rfl : oj = ox := by rw [hoj] at h2; exact Option.some.inj h2
      exact ⟨oy, h1, h3⟩
    have h' : runM P ops l (fun a => wpOp P ops Q j (wpOps P ops Q t2) a w) a := runM_mono (fun a hh => by rw [List.nil_append, wpOps_cons] at hh; exact hh) h
    have he : l ++ ([] ++ j :: t2) = l ++ j :: t2 := by simp
    refine wpOp_mono (fun a' w' hk => ?_) (tailM hsel hQ hoj hall h')
    exact ih l t2 _ a' w' (by simp at hf; omega) (by simp [hsz]) (by have := unlisted_drop (L1 := l) (L2 := t2) hjsz (by rw [← he]; exact hun) (by rw [← he]; exact hnd); simpa using this)
     (fun i hi => hin i (by simp only [List.mem_append, List.nil_append, List.mem_cons] at hi ⊢; rcases hi with hi | hi <;> simp [hi])) (by have := (nodup_mid (by rw [← he]; exact hnd)).2; simpa using this) hcl' htab hlist
     (fun y hy x hx => hwait y hy x (by simp [hx])) (fun u1 x u2 hu y hy => htail (j :: u1) x u2 (by simp [hu]) y (by simp at hy ⊢; exact .inr hy)) (by have := depsOk_drop (L1 := l) (L2 := t2) hjsz (by rw [← he]; exact hdeps); simpa using this) hk
theorem seq_sound (hX : ∀ j, X j → j < base) {Q : Exit → Act → World → Prop} (hsel : Region.noSelect ops = true) {strict : Bool} (hQ : strict = true ∨ ∀ c d v a w, Q (.panic c) (Act.put a d v) w → Q (.panic c) a w) : ∀ (fuel : Nat) (l t : List Nat) (listed : Array Bool) (N : Nat → Prop) (a : Act) (w : World),
  l.length + t.length ≤ fuel → listed.size = ops.size → (∀ i, i < ops.size → (listed.getD i true = false ↔ i ∈ l ++ t)) → (∀ i ∈ l ++ t, i < ops.size) → (l ++ t).Nodup → Closed ops listed →
  okTab tab ops = true → okList tab ops kd l = true → (∀ y ∈ l, ∀ x ∈ t, okWait strict tab ops kd y x = true) → TailOk tab [] t → DepsOk ops listed (l ++ t) → okAlloc ops kd l = true → (∀ i T z, i ∈ l → kd i = .alloc T z → Makes P ops i T z) →
  (∀ g, w.heap.size ≤ g → N g) → base ≤ w.heap.size → run P ops X base kd l (K0 P ops X Q t) N a w → wpAny P .any ops Q fuel listed a w := by
 intro fuel
 induction fuel with
 | zero =>
  intro l t listed N a w hf hsz hun hin hnd hcl htab _ _ htail hdeps _ _ _ _ h
  have hl : l = [] := List.eq_nil_of_length_eq_zero (by omega)
  subst hl
  exact tail_sound 0 t listed a w (by simpa using hf) hsz hun hin hnd hcl htab htail hdeps (h w (StepX.refl _ w))
 | succ fuel ih =>
  intro l t listed N a w hf hsz hun hin hnd hcl htab hlist hwait htail hdeps halloc hz hN hbase h
  by_cases hl : l = []
  ·subst hl
   exact tail_sound _ t listed a w (by simpa using hf) hsz hun hin hnd hcl htab htail hdeps (h w (StepX.refl _ w))
  refine ⟨fun hr => ?_, fun j hj => ?_⟩
  ·-- nothing may come up: but something is left
   exfalso
   cases l with
   | nil => exact hl rfl
   | cons x L =>
    obtain ⟨o, ho, hh⟩ := hdeps [] x (L ++ t) (by simp)
    have hx : x ∈ Region.ready .any ops listed := mem_ready.2 ⟨(hun x (hin x (by simp))).2 (by simp), o, ho, fun e he hb => (hh e he hb).resolve_right (by simp)⟩
    rw [hr] at hx; cases hx
  ·obtain ⟨h0, oj, hoj, hdj⟩ := mem_ready.1 hj
   have hjlt := (Array.getElem?_eq_some_iff.1 hoj).1
   have hjsz : j < listed.size := by omega
   have hjm := (hun j hjlt).1 h0
   have hcl' := closed_set hjsz hoj hdj hcl
   have notanc : ∀ i ∈ l ++ t, ancB tab i j = true → False := fun i hi ha => by
    have h1 := anc_listed hsz hcl htab j i oj hoj hdj ha
    have h2 := (hun i (hin i hi)).2 hi
    rw [getD_tf (by rw [hsz]; exact hin i hi), h1] at h2
    cases h2
   rcases List.mem_append.1 hjm with hjl | hjt
   ·-- one of the first part
    obtain ⟨l1, l2, rfl⟩ := List.append_of_mem hjl
    obtain ⟨hlist', hpair⟩ := okList_drop hlist
    have hall : ∀ i ∈ l1, ∃ oi, ops[i]? = some oi ∧ oi.apart ops oj = true ∧ swaps (kd i) (kd j) = true := fun i hi => by
     have hp := hpair i hi
     simp only [okPair, Bool.or_eq_true] at hp
     rcases hp with hp | hp
     ·exact (notanc i (by simp [hi]) hp).elim
     ·cases hoi : ops[i]? with
      | none => simp [hoi] at hp
      | some oi =>
       simp only [hoi, hoj, Bool.and_eq_true] at hp
       exact ⟨oi, rfl, hp.1, hp.2⟩
    have hb := bring hX (K0_mono t) hsel hoj l1 l2 N a w hall h
    have he : (l1 ++ j :: l2) ++ t = l1 ++ j :: (l2 ++ t) := by simp
    have next : ∀ (N' : Nat → Prop) (a' : Act) (w' : World), (∀ g, w'.heap.size ≤ g → N' g) → w.heap.size ≤ w'.heap.size → run P ops X base kd (l1 ++ l2) (K0 P ops X Q t) N' a' w' → wpAny P .any ops Q fuel (listed.setIfInBounds j true) a' w' :=
     fun N' a' w' hN' hsz' hr => ih (l1 ++ l2) t _ N' a' w' (by simp at hf ⊢; omega) (by simp [hsz]) (by have := unlisted_drop (L1 := l1) (L2 := l2 ++ t) hjsz (by rw [← he]; exact hun) (by rw [← he]; exact hnd); simpa using this)
      (fun i hi => hin i (by simp only [List.mem_append, List.mem_cons] at hi ⊢; rcases hi with (hi | hi) | hi <;> simp [hi]))
      (by have := (nodup_mid (by rw [← he]; exact hnd)).2; simpa using this) hcl' htab hlist' (fun y hy x hx => hwait y (by simp only [List.mem_append, List.mem_cons] at hy ⊢; rcases hy with hy | hy <;> simp [hy]) x hx) htail
      (by have := depsOk_drop (L1 := l1) (L2 := l2 ++ t) hjsz (by rw [← he]; exact hdeps); simpa using this)
      (by simp only [okAlloc, List.all_eq_true, List.mem_append, List.mem_cons] at halloc ⊢; exact fun x hx => halloc x (hx.elim .inl (fun h => .inr (.inr h))))
      (fun i T z hi => hz i T z (by simp only [List.mem_append, List.mem_cons] at hi ⊢; rcases hi with hi | hi <;> simp [hi])) hN' (by omega) hr
    cases hk : kd j with
    | silent =>
     simp only [go, hk] at hb
     obtain ⟨o, v, ho, hy, hr⟩ := hb
     exact hy.wpOp ho (StepX.refl _ w) (next N _ w hN (Nat.le_refl _) hr)
    | pure =>
     simp only [go, hk] at hb
     obtain ⟨o, v, ho, hy, hr⟩ := hb
     exact hy.wpOp ho trivial (next N _ w hN (Nat.le_refl _) hr)
    | chain =>
     simp only [go, hk] at hb
     exact wpOp_any (wpOp_mono (fun a' w' ⟨hs, hr⟩ => next _ a' w' (fun g hg => ⟨hN g (Nat.le_trans hs.size hg), .inr hg⟩) hs.size hr) (hb w (StepX.refl _ w)))
    | alloc T z =>
     simp only [go, hk] at hb
     have hal := halloc
     simp only [okAlloc, List.all_eq_true] at hal
     have hal := hal j (by simp)
     simp only [hk, hoj, Bool.and_eq_true] at hal
     obtain ⟨hg, hop⟩ := hal
     refine wpOp_alloc hoj hop (by simpa using hg) (hz j T z (by simp) hk) ?_
     have hd : (ops[j]?).bind (·.dst) = oj.dst := by rw [hoj]; rfl
     rw [hd] at hb
     exact next _ _ _ (fun g hgg => ⟨hN g (by simp at hgg; omega), by simp at hgg; omega⟩) (by simp) (hb (w.alloc (.cells (madeC z) T)) w.heap.size (.of (Step.alloc _ _)) (heap_alloc_new w _) hbase (hN _ (Nat.le_refl _)))
    | make T n xs =>
     simp only [go, hk] at hb
     obtain ⟨⟨o, ho, hg, hrun⟩, hb⟩ := hb
     obtain rfl : oj = o := by rw [hoj] at ho; exact Option.some.inj ho
     have hd : (ops[j]?).bind (·.dst) = oj.dst := by rw [hoj]; rfl
     rw [hd] at hb
     unfold wpOp
     simp only [hoj, hg, if_true]
     refine .inl ?_
     unfold Oper.wp
     rw [hrun w]
     exact next _ _ _ (fun g hgg => ⟨hN g (by simp at hgg; omega), by simp at hgg; omega⟩) (by simp) (hb (w.alloc (.cells xs T)) w.heap.size (.of (Step.alloc _ _)) (heap_alloc_new w _) hbase (hN _ (Nat.le_refl _)))
   ·-- the tail waits, but for moves
    have hw1 : ∀ y ∈ l, ancB tab y j = true ∨ (strict = false ∧ isSil (kd y) = true ∧ isMove ops y = true ∧ ∃ oy, ops[y]? = some oy ∧ oy.apart ops oj = true) := fun y hy => by
     have := hwait y hy j hjt
     simp only [okWait, Bool.or_eq_true, Bool.and_eq_true, Bool.not_eq_true'] at this
     rcases this with h1 | ⟨⟨⟨h1, h2⟩, h3⟩, h4⟩
     ·exact .inl h1
     ·cases hoy : ops[y]? with
      | none => simp [hoy] at h4
      | some oy => simp only [hoy, hoj] at h4; exact .inr ⟨h1, h2, h3, oy, rfl, h4⟩
    have hw2 : ∀ y ∈ l, strict = false ∧ isSil (kd y) = true ∧ isMove ops y = true := fun y hy => by
     rcases hw1 y hy with h1 | ⟨h1, h2, h3, _⟩
     ·exact (notanc y (by simp [hy]) h1).elim
     ·exact ⟨h1, h2, h3⟩
    have hst : strict = false := by
     cases l with
     | nil => exact (hl rfl).elim
     | cons x L => exact (hw2 x (by simp)).1
    have hQ' := hQ.resolve_left (by rw [hst]; decide)
    have hm := mixed_sound hsel hQ' (fuel + 1) l t listed a w hf hsz hun hin hnd hcl htab hlist (fun y hy x hx => by
     have := hwait y hy x hx
     simp only [okWait, Bool.or_eq_true, Bool.and_eq_true, Bool.not_eq_true'] at this
     rcases this with h1 | ⟨_, h4⟩
     ·exact .inl h1
     ·cases hoy : ops[y]? with
      | none => simp [hoy] at h4
      | some oy =>
       cases hox : ops[x]? with
       | none => simp [hoy, hox] at h4
       | some ox => simp only [hoy, hox] at h4; exact .inr ⟨oy, ox, rfl, rfl, h4⟩) htail hdeps (runM_of_run (fun y hy => (hw2 y hy).2) h)
    exact hm.2 j hj
theorem wp_region_seqG {id : Nat} {Q : Exit → Act → World → Prop} {a : Act} {w : World} (X : Nat → Prop) (hX : ∀ j, X j → j < w.heap.size) (kd : Nat → Kd) (strict : Bool) (hQ : strict = true ∨ ∀ c d v a w, Q (.panic c) (Act.put a d v) w → Q (.panic c) a w) (tab l t : List Nat) (hm : P.follows .mixedOrders = true) (hok : okSeq strict tab ops kd l t = true)
  (hz : ∀ i T z, i ∈ l → kd i = .alloc T z → Makes P ops i T z)
  (h : ∀ W, StepX X w W → run P ops X w.heap.size kd l (K0 P ops X Q t) (fun _ => True) a W) : (Code.region id ops true).wp P Q a w := by
 simp only [okSeq, Bool.and_eq_true, List.all_eq_true, decide_eq_true_eq, List.mem_range, List.contains_iff_mem] at hok
 obtain ⟨⟨⟨⟨⟨⟨⟨⟨⟨h0, h1⟩, h9⟩, h2⟩, h3⟩, h4⟩, h5⟩, h6⟩, h7⟩, h8⟩ := hok
 refine wp_region_any hm ?_
 refine seq_sound (base := w.heap.size) (kd := kd) hX h5 hQ ops.size l t _ (fun _ => True) a w.drew ?_ (by simp) ?_ h7 h8 ?_ h0 h1 h9 (tailOk_of h2) ?_ h4 hz (fun _ _ => trivial) (by simp) (h w.drew (.of (Step.drew w)))
 ·-- no more than the region has
  have hsub : (l ++ t).length ≤ (List.range ops.size).length := h8.length_le_of_subset (fun i hi => List.mem_range.2 (h7 i hi))
  simpa using hsub
 ·intro i hi
  simp only [Array.getD_eq_getD_getElem?, Array.getElem?_replicate, hi, if_true, Option.getD_some, true_iff]
  exact h6 i hi
 ·intro x o ho hx
  have hlt := (Array.getElem?_eq_some_iff.1 ho).1
  simp [hlt] at hx
 ·intro L1 x L2 he
  obtain ⟨o, ho, hh⟩ := depsOk_of (listed := Array.replicate ops.size false) h3 L1 x L2 he
  exact ⟨o, ho, by simpa using hh⟩
theorem wp_region_seqX {id : Nat} {Q : Exit → Act → World → Prop} {a : Act} {w : World} (X : Nat → Prop) (hX : ∀ j, X j → j < w.heap.size) (kd : Nat → Kd) (tab l t : List Nat) (hm : P.follows .mixedOrders = true) (hok : okSeq true tab ops kd l t = true)
  (hz : ∀ i T z, i ∈ l → kd i = .alloc T z → Makes P ops i T z)
  (h : ∀ W, StepX X w W → run P ops X w.heap.size kd l (K0 P ops X Q t) (fun _ => True) a W) : (Code.region id ops true).wp P Q a w :=
 wp_region_seqG X hX kd true (.inl rfl) tab l t hm hok hz h
theorem wp_region_seq {id : Nat} {Q : Exit → Act → World → Prop} {a : Act} {w : World} (kd : Nat → Kd) (tab l t : List Nat) (hm : P.follows .mixedOrders = true) (hok : okSeq true tab ops kd l t = true)
  (hz : ∀ i T z, i ∈ l → kd i = .alloc T z → Makes P ops i T z)
  (h : ∀ W, Step w W → run P ops (fun _ => False) w.heap.size kd l (K0 P ops (fun _ => False) Q t) (fun _ => True) a W) : (Code.region id ops true).wp P Q a w :=
 wp_region_seqX (fun _ => False) (fun _ h => h.elim) kd tab l t hm hok hz h
def kdOf (calls : List Nat) (allocs : List (Nat × TypeId × Value)) (makes : List (Nat × TypeId × Nat × Array Value)) (i : Nat) : Kd :=
 if calls.contains i then .chain else match makes.find? (fun x => x.1 == i) with
  | some (_, T, n, xs) => .make T n xs
  | none => match allocs.find? (fun x => x.1 == i) with
   | some (_, T, z) => .alloc T z
   | none => .silent
section
variable {K : Cont} {N : Nat → Prop} {a : Act} {w : World} {i : Nat} {l : List Nat} {o : Oper}
theorem run_silent {v : Value} (hk : kd i = .silent) (ho : ops.toList[i]? = some o) (hy : YieldsIf P ops (StepX (XB X base) w) o v a) (h : run P ops X base kd l K N (a.put o.dst v) w) : run P ops X base kd (i :: l) K N a w := by
 show go P ops X base kd i _ N a w
 unfold go; rw [hk]; exact ⟨o, v, by simpa using ho, hy, h⟩
theorem run_want (hk : kd i = .silent) (ho : ops.toList[i]? = some o) (hw : Region.wanted o (yielded ops a.tmps) = true) (h : ∃ v, (∀ W, StepX (XB X base) w W → (execOp a.eval o).run P W = .ok (.value v) W) ∧ run P ops X base kd l K N (a.put o.dst v) w) :
  run P ops X base kd (i :: l) K N a w := by
 obtain ⟨v, h1, h2⟩ := h
 exact run_silent hk ho (.inl ⟨hw, h1⟩) h2
theorem run_off (hk : kd i = .silent) (ho : ops.toList[i]? = some o) (hw : Region.wanted o (yielded ops a.tmps) = false) (h : run P ops X base kd l K N (a.put o.dst undef) w) : run P ops X base kd (i :: l) K N a w :=
 run_silent hk ho (.inr ⟨hw, rfl⟩) h
theorem run_chain (hk : kd i = .chain) (ho : ops.toList[i]? = some o) (hw : Region.wanted o (yielded ops a.tmps) = true)
  (h : ∀ W, StepX X w W → ∀ K' : Act → World → Prop, (∀ a' w', StepX (XN X base N) W w' → run P ops X base kd l K (fun g => N g ∧ (g < W.heap.size ∨ w'.heap.size ≤ g)) a' w' → K' a' w') → o.wp P a W K' QF) : run P ops X base kd (i :: l) K N a w := by
 show go P ops X base kd i _ N a w
 have ho : ops[i]? = some o := by simpa using ho
 unfold go; rw [hk]
 intro W hW
 unfold wpOp; simp only [ho, hw, if_true]
 exact .inl (h W hW _ (fun a' w' hs hr => ⟨hs, hr⟩))
theorem run_chain_off (hk : kd i = .chain) (ho : ops.toList[i]? = some o) (hw : Region.wanted o (yielded ops a.tmps) = false) (hK : ContMono X K)
  (h : run P ops X base kd l K N (a.put o.dst undef) w) : run P ops X base kd (i :: l) K N a w := by
 show go P ops X base kd i _ N a w
 have ho : ops[i]? = some o := by simpa using ho
 unfold go; rw [hk]
 intro W hW
 unfold wpOp; simp only [ho, hw]
 exact ⟨StepX.refl _ _, run_mono hK l _ _ _ _ _ (fun g hg => hg.1) hW h⟩
theorem run_alloc {T : TypeId} {z : Value} (hk : kd i = .alloc T z) (ho : ops.toList[i]? = some o)
  (h : ∀ W g, StepX X w W → W.heap[g]? = some (.cells z.cells T (0, 0)) → base ≤ g → N g → run P ops X base kd l K (fun x => N x ∧ x ≠ g) (a.put o.dst (.pointer (some ⟨g, 0, none⟩))) W)
  (hv : ∀ g, madeV z g = .pointer (some ⟨g, 0, none⟩) := by exact fun _ => rfl) (hc : madeC z = z.cells := by exact rfl) : run P ops X base kd (i :: l) K N a w := by
 show go P ops X base kd i _ N a w
 have ho : ops[i]? = some o := by simpa using ho
 unfold go; rw [hk, ho]
 intro W g h1 h2 h3 h4
 rw [hc] at h2
 rw [hv]
 exact h W g h1 h2 h3 h4
theorem run_make {T : TypeId} {n : Nat} {xs : Array Value} (hk : kd i = .make T n xs) (ho : ops.toList[i]? = some o) (hg : Region.wanted o (yielded ops a.tmps) = true) (hm : ∀ w : World, (execOp a.eval o).run P w = .ok (.value (.slice (some ⟨w.heap.size, 0, none⟩) n n)) (w.alloc (.cells xs T)))
  (h : ∀ W g, StepX X w W → W.heap[g]? = some (.cells xs T (0, 0)) → base ≤ g → N g → run P ops X base kd l K (fun x => N x ∧ x ≠ g) (a.put o.dst (.slice (some ⟨g, 0, none⟩) n n)) W) : run P ops X base kd (i :: l) K N a w := by
 show go P ops X base kd i _ N a w
 have ho : ops[i]? = some o := by simpa using ho
 unfold go
 simp only [hk]
 refine ⟨⟨o, ho, hg, hm⟩, fun W g h1 h2 h3 h4 => ?_⟩
 rw [ho]
 exact h W g h1 h2 h3 h4
theorem run_end {Q : Exit → Act → World → Prop} {t : List Nat} {L : List Oper} (ht : t.map (fun i => ops.toList[i]?) = L.map some) (h : ∀ W, StepX X w W → wpList P ops Q L a W) : run P ops X base kd [] (K0 P ops X Q t) N a w := by
 intro W hW
 have h' := h W hW
 clear h hW
 show wpOps P ops Q t a W
 induction t generalizing L a W with
 | nil =>
  cases L with
  | nil => exact h'
  | cons _ _ => simp at ht
 | cons x t ih =>
  cases L with
  | nil => simp at ht
  | cons o L =>
   simp only [List.map_cons, List.cons.injEq, Array.getElem?_toList] at ht
   rw [wpOps_cons]
   unfold wpOp
   unfold wpList at h'
   simp only [ht.1]
   split
   ·rename_i hw
    rw [if_pos hw] at h'
    exact h'.imp (Oper.wp_mono fun a' w' hh => ih (by simpa using ht.2) w' hh) id
   ·rename_i hw
    rw [if_neg hw] at h'
    exact ih (by simpa using ht.2) W h'
end
end
end Go.BT.Ap
namespace Go.BT
open Go.RowKit
theorem u16_ofH {n : Int} (h : (Lit.int .u16 n).wf = true) : 0 ≤ n ∧ n ≤ 65535 := by
 have h2 : IntKind.u16.min = 0 := rfl
 have h3 : IntKind.u16.max = 65535 := rfl
 simp [Lit.wf] at h; omega
theorem rem_len {n : Int} (h : 0 ≤ n) {l : Nat} (hl : 0 < l) : ∃ k : Nat, n.tmod (l : Int) = (k : Int) ∧ k < l := by
 refine ⟨(n.tmod l).toNat, ?_, ?_⟩ <;> rw [Int.tmod_eq_emod_of_nonneg h]
 ·have := Int.emod_nonneg n (show (l : Int) ≠ 0 by omega); omega
 ·have := Int.emod_lt_of_pos n (show (0 : Int) < l by omega); have := Int.emod_nonneg n (show (l : Int) ≠ 0 by omega); omega
theorem set_mid (cs : List Value) (p : Nat) (x : Value) (a b c d : Value) (hl : p + 4 ≤ cs.length) (h : (cs.drop p).take 4 = [a, b, c, d]) : cs.set (p + 2) x = cs.take p ++ [a, b, x, d] ++ cs.drop (p + 4) := by
 refine List.ext_getElem? fun j => ?_
 rw [splice_get _ _ _ _ _ hl rfl, List.getElem?_set]
 have hg : ∀ q, q < 4 → cs[p + q]? = [a, b, c, d][q]? := fun q hq => by
  rw [← h, List.getElem?_take_of_lt hq, List.getElem?_drop]
 by_cases h1 : j < p
 ·rw [if_pos h1, if_neg (by omega)]
 ·rw [if_neg h1]
  by_cases h2 : j < p + 4
  ·rw [if_pos h2]
   obtain ⟨q, rfl⟩ : ∃ q, j = p + q := ⟨j - p, by omega⟩
   rw [Nat.add_sub_cancel_left]
   have hq := hg q (by omega)
   match q, hq with
   | 0, hq => rw [if_neg (by omega)]; exact hq
   | 1, hq => rw [if_neg (by omega)]; exact hq
   | 2, hq => rw [if_pos rfl, if_pos (by omega)]; rfl
   | 3, hq => rw [if_neg (by omega)]; exact hq
   | q + 4, hq => omega
  ·rw [if_neg h2, if_neg (by omega)]
theorem set_one (cs : List Value) (p : Nat) (x : Value) (hl : p + 1 ≤ cs.length) : cs.set p x = cs.take p ++ [x] ++ cs.drop (p + 1) := by
 refine List.ext_getElem? fun j => ?_
 rw [splice_get _ _ _ _ _ hl rfl, List.getElem?_set]
 by_cases h1 : j < p
 ·rw [if_pos h1, if_neg (by omega)]
 ·rw [if_neg h1]
  by_cases h2 : j < p + 1
  ·have : j = p := by omega
   subst this
   rw [if_pos rfl, if_pos (by omega), if_pos h2, Nat.sub_self]; rfl
  ·rw [if_neg h2, if_neg (by omega)]
theorem own_cap {S : Nat → Prop} {base : Nat} {e : TypeId} {w : World} {v : Value} {l : List Wy} (h : OwnL S base e w v l) {k : Nat} (hk : k < l.length) :
  ∃ g c, v = .slice (some ⟨g, 0, none⟩) l.length c ∧ base ≤ g ∧ g < w.heap.size ∧ w.cell? ⟨g, k * 4 + 2, none⟩ = some (.int .i64 l[k].cap) ∧ w.frozen? ⟨g, k * 4 + 2, none⟩ = false ∧
   ∀ x : Int, OwnL S base e (w.setCell ⟨g, k * 4 + 2, none⟩ (.int .i64 x)) v (l.set k { l[k] with cap := x }) := by
 obtain ⟨g, cap, cs, rfl, hb, hbx, hle, hr, hput⟩ := h.row_put hk
 have hk4 : Rep.k Wy = 4 := rfl
 rw [hk4] at hle hr hput
 have hr' : (cs.drop (k * 4)).take 4 = [.int .i64 l[k].frm, .int .i64 l[k].dst, .int .i64 l[k].cap, .int .i64 l[k].mins] := hr
 refine ⟨g, cap, rfl, hb, hbx.lt, ?_, hbx.frozen _, fun x => ?_⟩
 ·rw [hbx.cell]
  have := congrArg (fun l => l[2]?) hr'
  simpa [List.getElem?_take, List.getElem?_drop] using this
 ·refine hput _ [.int .i64 l[k].frm, .int .i64 l[k].dst, .int .i64 x, .int .i64 l[k].mins] _ rfl (Wrote.setCell _ _ _ _) ?_
  rw [← set_mid cs (k * 4) (.int .i64 x) _ _ _ _ hle hr']
  exact hbx.setCell _ _
theorem own_num {S : Nat → Prop} {base : Nat} {e : TypeId} {w : World} {v : Value} {l : List Int} (h : OwnL S base e w v l) {k : Nat} (hk : k < l.length) :
  ∃ g c, v = .slice (some ⟨g, 0, none⟩) l.length c ∧ base ≤ g ∧ g < w.heap.size ∧ w.cell? ⟨g, k, none⟩ = some (.int .i64 l[k]) ∧ w.frozen? ⟨g, k, none⟩ = false ∧
   ∀ x : Int, OwnL S base e (w.setCell ⟨g, k, none⟩ (.int .i64 x)) v (l.set k x) := by
 obtain ⟨g, cap, cs, rfl, hb, hbx, hle, hr, hput⟩ := h.row_put hk
 have hk1 : Rep.k Int = 1 := rfl
 rw [hk1, Nat.mul_one] at hle hr hput
 have hr' : (cs.drop k).take 1 = [.int .i64 l[k]] := hr
 refine ⟨g, cap, rfl, hb, hbx.lt, ?_, hbx.frozen _, fun x => ?_⟩
 ·rw [hbx.cell]
  have := congrArg (fun l => l[0]?) hr'
  simpa [List.getElem?_take, List.getElem?_drop] using this
 ·refine hput _ [.int .i64 x] _ rfl (Wrote.setCell _ _ _ _) ?_
  rw [← set_one cs k (.int .i64 x) hle]
  exact hbx.setCell _ _
end Go.BT
namespace Go.Proofs.Ytfhmdpicoccnfaa
set_option linter.unusedSimpArgs false
set_option linter.unusedVariables false
open Go.RowKit Go.BT
theorem eiRWays : EI Try.prog 71 107 (.agg #[.int .i64 0, .int .i64 0, .int .i64 0, .int .i64 0]) 4 32 := EI.mk' Try.underlying71 (by kernel_rfl) rfl
theorem GaleWider_any (h : Hall) (at_ more less : Int) (x : Wy) (v : Value) (w : World) (hv : AV (fun _ => False) w v h) (ha : (Lit.int .u8 at_).wf = true) (hmo : (Lit.int .u16 more).wf = true) (hle : (Lit.int .u16 less).wf = true) :
  Calls Try.prog 11 #[v, .int .u8 at_, .int .u16 more, .int .u16 less, .agg #[.int .i64 x.frm, .int .i64 x.dst, .int .i64 x.cap, .int .i64 x.mins]] w fun e w' => e = .returned (.bool true) ∧ Step w w' := by
 have ha := u8_ofH ha
 have hmo := u16_ofH hmo
 have hle := u16_ofH hle
 have hwa : wrap64 at_ = at_ := by unfold wrap64; omega
 have hwm : wrap64 more = more := by unfold wrap64; omega
 have hwl : wrap64 less = less := by unfold wrap64; omega
 have hwa2 : IntKind.i64.wrap at_ = at_ := by rw [IntKind.wrap_i64]; omega
 have hwm2 : IntKind.i64.wrap more = more := by rw [IntKind.wrap_i64]; omega
 have hwl2 : IntKind.i64.wrap less = less := by rw [IntKind.wrap_i64]; omega
 obtain ⟨c0, c1, rfl, h0, h1⟩ := hv.hall
 obtain ⟨p0, k0, rfl⟩ := h0.form
 obtain ⟨p1, k1, rfl⟩ := h1.form
 obtain ⟨W0, hW0⟩ : ∃ W, W = (w.alloc (.cells #[.slice p0 h.people.length k0, .slice p1 h.ways.length k1] 73)).alloc (.cells #[.int .i64 x.frm, .int .i64 x.dst, .int .i64 x.cap, .int .i64 x.mins] 107) := ⟨_, rfl⟩
 have hb : Bx W0 w.heap.size [.slice p0 h.people.length k0, .slice p1 h.ways.length k1] 73 := by subst hW0; exact (Bx.new w [_, _] _).alloc _
 have hbw : Bx W0 (w.heap.size + 1) [.int .i64 x.frm, .int .i64 x.dst, .int .i64 x.cap, .int .i64 x.mins] 107 := by subst hW0; exact Bx.new' _ [_, _, _, _] _ _ (by simp)
 have hS : Step w W0 := by subst hW0; exact (Step.alloc _ _).trans (Step.alloc _ _)
 have hav : ∀ W, Step W0 W → AV (fun _ => False) W (.agg #[.slice p0 h.people.length k0, .slice p1 h.ways.length k1]) h := fun W hW => ⟨_, rfl, _, _, rfl, h0.keep (.of_step (hS.trans hW)), h1.keep (.of_step (hS.trans hW))⟩
 have HAV := zH hav
 have HS := zH hS
 have HW := zH hW0
 have HB := zH hb
 have HBW := zH hbw
 have HT := zH (Step.refl W0)
 have HNN := zH (And.intro ha (And.intro hmo hle))
 have HH1 := zH (h1.keep (.of_step hS))
 have HH0 := zH (h0.keep (.of_step hS))
 clear hv h0 h1 hW0 hb hbw hS hav ha hmo hle
 go_enter Try.func11, Try.ntmps11
 go_upto_region 1 with (fail)
 rw [← HW.out]
 have e0 := (HB.out.step HT.out).cell 0
 have e1 := (HB.out.step HT.out).cell 1
 simp only [zD, zE] at e0 e1
 go_wp2_with fail
 refine (SmallH_any (fun _ => False) h _ _ (HAV.out _ HT.out)).mono ?_
 rintro e wn ⟨rfl, hSn⟩
 have HTn := zH (HT.out.trans hSn)
 have HSN := zH hSn
 clear HT hSn
 have HT := HTn
 clear HTn
 clear e0 e1
 cases hs : decide (h.people.length ≤ 15 ∧ h.ways.length ≤ 25) with
 | false =>
  clear hs
  go_wp2_with fail
  refine (gwakes_any _).mono ?_
  rintro e wn ⟨rfl, hSn⟩
  have HTn := zH (HT.out.trans hSn)
  have HSN := zH hSn
  clear HT hSn
  have HT := HTn
  clear HTn
  go_wp2
  go_ret
  exact ⟨rfl, HS.out.trans HT.out⟩
 | true =>
 have HL := zH (show h.people.length ≤ 1000 ∧ h.ways.length ≤ 1000 by have := of_decide_eq_true hs; omega)
 clear hs
 have e0 := (HB.out.step HT.out).cell 0
 have e1 := (HB.out.step HT.out).cell 1
 simp only [zD, zE] at e0 e1
 go_wp2_with fail
 refine (RRightHall_any (fun _ => False) h _ _ (HAV.out _ HT.out)).mono ?_
 rintro e wn ⟨rfl, hSn⟩
 have HTn := zH (HT.out.trans hSn)
 have HSN := zH hSn
 clear HT hSn
 have HT := HTn
 clear HTn
 clear e0 e1
 clear HSN
 cases hb : hallB h with
 | false =>
  clear hb
  go_wp2_with fail
  refine (gwakes_any _).mono ?_
  rintro e wn ⟨rfl, hSn⟩
  have HTn := zH (HT.out.trans hSn)
  have HSN := zH hSn
  clear HT hSn
  have HT := HTn
  clear HTn
  go_wp2
  go_ret
  exact ⟨rfl, HS.out.trans HT.out⟩
 | true =>
 have HQ := zH hb
 have HO := zH (hallB_iff.1 hb)
 clear hb
 have e0 := (HB.out.step HT.out).cell 0
 have e1 := (HB.out.step HT.out).cell 1
 simp only [zD, zE] at e0 e1
 go_wp2_with fail
 refine (GHall_any (fun _ => False) h _ _ (HAV.out _ HT.out) HL.out.1 HL.out.2).mono ?_
 rintro e wn ⟨va, rfl, hv', hSn⟩
 have HVva := zH (av0 hv')
 clear hv' e0 e1
 have HTn := zH (HT.out.trans hSn)
 have HSN := zH hSn
 clear HT hSn
 have HT := HTn
 clear HTn
 clear HSN
 go_wp2_with fail
 refine (Leave_any (fun _ => False) h _ _ HVva.out).mono ?_
 rintro e wn ⟨c, n, pl, vp, rfl, hL, hpl, hSn⟩
 have HLV := zH hL
 obtain ⟨pp, kp, rfl⟩ := hpl.form
 clear hpl hL HVva
 have HTn := zH (HT.out.trans hSn)
 have HSN := zH hSn
 clear HT hSn
 have HT := HTn
 clear HTn
 clear HSN
 rcases HLV.out.codes HQ.out with rfl | rfl
 case inr =>
  go_wp2_with fail
  refine (gwakes_any _).mono ?_
  rintro e wn ⟨rfl, hSn⟩
  have HTn := zH (HT.out.trans hSn)
  have HSN := zH hSn
  clear HT hSn
  have HT := HTn
  clear HTn
  go_wp2
  go_ret
  exact ⟨rfl, HS.out.trans HT.out⟩
 have e0 := (HB.out.step HT.out).cell 0
 have e1 := (HB.out.step HT.out).cell 1
 simp only [zD, zE] at e0 e1
 go_wp2_with fail
 refine (GHall_own (fun _ => False) h _ _ (HAV.out _ HT.out) HL.out.1 HL.out.2).mono ?_
 rintro e wn ⟨vx, rfl, hx, hSn⟩
 obtain ⟨s0, s1, rfl, ho0, ho1⟩ := hx
 obtain ⟨q0, j0, rfl, _⟩ := ho0.form
 obtain ⟨q1, j1, rfl, _⟩ := ho1.form
 have HO0 := zH ho0
 have HO1 := zH ho1
 have HBS := zH hSn.size
 clear ho0 ho1 e0 e1
 have HTI := HT
 obtain ⟨wi, hwi⟩ : ∃ z, z = wn := ⟨_, rfl⟩
 subst hwi
 have HTn := zH (HT.out.trans hSn)
 have HSN := zH hSn
 clear HT hSn
 have HT := HTn
 clear HTn
 clear HSN
 go_upto_region 7 with (fail)
 obtain ⟨W7, hW7⟩ : ∃ z, z = wi.alloc (.cells #[.slice q0 h.people.length j0, .slice q1 h.ways.length j1] 78) := ⟨_, rfl⟩
 obtain ⟨gx, hgx⟩ : ∃ z, z = wi.heap.size := ⟨_, rfl⟩
 rw [← hW7, ← hgx]
 have hb7 : Bx W7 gx [.slice q0 h.people.length j0, .slice q1 h.ways.length j1] 78 := by subst hW7 hgx; exact Bx.new _ [_, _] _
 have hs7 : Step wi W7 := by subst hW7; exact Step.alloc _ _
 have HB7 := zH hb7
 have HO0 := zH (HO0.out.step hs7)
 have HO1 := zH (HO1.out.step hs7)
 have HGX := zH (show W0.heap.size ≤ gx by rw [hgx]; exact HT.out.size)
 have HT7 := zH (HT.out.trans hs7)
 clear hb7 hs7 hW7 hgx HT HBS
 have HT := HT7
 clear HT7
 by_cases hw0 : 0 < h.ways.length
 case neg =>
  have d0 : decide ((0 : Int) < (h.ways.length : Int)) = false := decide_eq_false (by omega)
  have d0' : decide (0 < h.ways.length) = false := decide_eq_false hw0
  have HGB := HQ
  have HGF := zH (show ∀ T, Feas h T → Feas h T from fun _ F => F)
  have HAVX := zH (show AV (fun _ => False) W7 (.agg #[.slice q0 h.people.length j0, .slice q1 h.ways.length j1]) h from ⟨[_, _], rfl, _, _, rfl, (ownL_flat (fun _ => False) HO0.out).slb fun _ _ h => h, (ownL_flat (fun _ => False) HO1.out).slb fun _ _ h => h⟩)
  have x0 := HB7.out.cell 0
  have x1 := HB7.out.cell 1
  simp only [zD, zE] at x0 x1
  have HBX := HB7
  clear HO0 HO1 HB7 hw0
  go_wp2_with fail
  refine (Leave_any (fun _ => False) h _ _ HAVX.out).mono ?_
  rintro e wn ⟨c', m, pl', vq, rfl, hM, hpl', hSn⟩
  obtain ⟨pq, kq, rfl⟩ := hpl'.form
  obtain ⟨rfl, hmn⟩ := HLV.out.le hM HQ.out HGB.out rfl HGF.out
  have dmn : decide ((n : Int) < (m : Int)) = false := decide_eq_false (Int.not_lt.2 (Int.ofNat_le.2 hmn))
  have dmn' : decide (n < m) = false := decide_eq_false (Nat.not_lt.2 hmn)
  have dmn2 : decide ((m : Int) ≤ (n : Int)) = true := decide_eq_true (Int.ofNat_le.2 hmn)
  have dmn3 : decide (m ≤ n) = true := decide_eq_true hmn
  clear hpl' hM HAVX hmn
  have HTL := zH hSn
  have HTn := zH (HT.out.trans hSn)
  have HSN := zH hSn
  clear HT hSn
  have HT := HTn
  clear HTn
  clear HSN
  clear x0 x1 d0 d0'
  have e0 := (HB.out.step HT.out).cell 0
  have e1 := (HB.out.step HT.out).cell 1
  simp only [zD, zE] at e0 e1
  go_wp2_with fail
  refine (GHall_own (fun _ => False) h _ _ (HAV.out _ HT.out) HL.out.1 HL.out.2).mono ?_
  clear dmn dmn' dmn2 dmn3 HGB HGF
  rintro e wn ⟨vx, rfl, hx, hSn⟩
  obtain ⟨s0, s1, rfl, ho0, ho1⟩ := hx
  obtain ⟨r0, i0, rfl, _⟩ := ho0.form
  obtain ⟨r1, i1, rfl, _⟩ := ho1.form
  have HO0 := zH ho0
  have HO1 := zH ho1
  have HZB := zH (show gx < _ from (HBX.out.step HTL.out).lt)
  have hbx := HBX.out.step (HTL.out.trans hSn)
  have x0 := hbx.cell 0
  have x1 := hbx.cell 1
  simp only [zD, zE] at x0 x1
  have z0 := hbx.frozen 0
  have z1 := hbx.frozen 1
  have zl := hbx.lt
  have HBX2 := zH hbx
  have HTn := zH (HT.out.trans hSn)
  obtain ⟨wj, hwj⟩ : ∃ z, z = wn := ⟨_, rfl⟩
  subst hwj
  clear ho0 ho1 hSn hbx HT HBX HTL e0 e1
  go_upto_region 14 with (fail)
  clear x0 x1 z0 z1 zl
  have b2 := set2H HBX2.out (.slice r0 h.people.length i0) (.slice r1 h.ways.length i1)
  obtain ⟨W14, hW14⟩ : ∃ z, z = (wj.setCell ⟨gx, 0, none⟩ (.slice r0 h.people.length i0)).setCell ⟨gx, 1, none⟩ (.slice r1 h.ways.length i1) := ⟨_, rfl⟩
  rw [← hW14] at b2 ⊢
  have ho0 := ownF_row HO0.out (w' := W14) fun j hj => b2.2.block j (HO0.out.lt j hj).2 (by have := HO0.out.lt j hj; have := HZB.out; omega)
  have ho1 := ownF_row HO1.out (w' := W14) fun j hj => b2.2.block j (HO1.out.lt j hj).2 (by have := HO1.out.lt j hj; have := HZB.out; omega)
  have HT14 := zH (show Step W0 W14 from StepX.fresh HTn.out b2.2 fun j hj => by have := HGX.out; omega)
  have HBX14 := zH b2.1
  have HP0 := zH ho0
  have HP1 := zH ho1
  have HGB0 := zH (show W0.heap.size ≤ _ from Nat.le_trans HGX.out (Nat.le_of_lt HZB.out))
  have x0 := b2.1.cell 0
  have x1 := b2.1.cell 1
  simp only [zD, zE] at x0 x1
  clear b2 ho0 ho1 hW14 HTn HBX2 HO0 HO1 HZB
  have hn2 := HO.out.n2
  obtain ⟨k2, hk2, hkl2⟩ := rem_len HNN.out.1.1 (show 0 < h.people.length by omega)
  have hkw2 : IntKind.i64.wrap (at_.tmod (h.people.length : Int)) = (k2 : Int) := by rw [hk2, IntKind.wrap_i64]; have := HL.out.1; omega
  have hp0i : (0 : Int) < (h.people.length : Int) := by omega
  have hp0n : 0 < h.people.length := by omega
  obtain ⟨gp, cp, he, hgb, hgl, hcc, hfz, _⟩ := own_num HP0.out hkl2
  injection he with he1 he2 he3
  clear he2
  subst he1 he3
  have hpe := HO.out.pe k2 hkl2
  have hnn := HNN.out.2.2
  obtain ⟨C2, hC2⟩ : ∃ z, z = h.people[k2] := ⟨_, rfl⟩
  rw [← hC2] at hcc hpe
  have hwc2 : IntKind.i64.wrap (C2 - less) = C2 - less := by rw [IntKind.wrap_i64]; omega
  have hix2 : (0 : Int) ≤ (k2 : Int) ∧ (k2 : Int) < (h.people.length : Int) := by omega
  have HK2 := zH (And.intro hkl2 hC2)
  clear hpe hnn hgb hC2
  go_upto_region 15 with (fail)
  have HT := zH (Step.refl W14)
  have HCC := zH (And.intro hcc (And.intro hfz hgl))
  clear hcc hfz hgl
  refine wp_region_seq (kdOf [] []) [0, 1, 0, 0, 8, 0, 56, 120, 0, 256, 1016, 2040, 4095, 8191] [0, 1, 2, 3, 4, 5, 6, 7, 8, 9, 10, 11, 12] [13] (by kernel_rfl) (by kernel_rfl) (fun i T z hi hk => by simp [kdOf] at hk <;> (try (split at hk <;> cases hk))) ?_
  intro Wx hWx
  have HTx := zH (HT.out.trans hWx)
  clear hWx HT
  have HT := HTx
  clear HTx
  have x0 := HT.out.kc x0
  have x1 := HT.out.kc x1
  have hcc := HT.out.kc HCC.out.1
  repeat ((first | (refine run_off rfl rfl (by rfl) ?_) | (refine run_chain_off rfl rfl (by rfl) (K0_mono _) ?_) | ((refine run_want rfl rfl (by rfl) ⟨?_, fun W hW => ?_, ?_⟩; rotate_left; (· (have d0 := hW.kc x0; have d1 := hW.kc x1; have d2 := hW.kc hcc; go_simp; (try with_reducible rfl)))))); (try simp only [Act.put, zA, zB, zC]))
  refine run_end (L := [_]) rfl (fun W6 hW6 => ?_)
  have HS6 := zH (HT.out.trans hW6)
  clear hW6 HT x0 x1 hcc
  obtain ⟨gp', cp', he, hgb, hgl, hc6, hfz6, hput⟩ := own_num (HP0.out.step HS6.out) hkl2
  injection he with he1 he2 he3
  clear he2 he3
  injection he1 with he1
  injection he1 with he1 he2 he3
  clear he2 he3
  subst he1
  have HPUT := zH hput
  have HGP := zH (show W0.heap.size ≤ gp from Nat.le_trans HGB0.out hgb)
  have hM : (if less < C2 then C2 - less else 0) = max 0 (C2 - less) := by omega
  rw [hM]
  obtain ⟨M, hMM⟩ : ∃ z, z = max 0 (C2 - less) := ⟨_, rfl⟩
  rw [← hMM]
  have HMM := zH hMM
  rw [← HK2.out.2] at hc6
  clear hM hMM hput hgb
  go_upto_region 16 with (fail)
  obtain ⟨W8, hW8⟩ : ∃ z, z = W6.setCell ⟨gp, k2, none⟩ (.int .i64 M) := ⟨_, rfl⟩
  rw [← hW8]
  have ho0 : OwnL (fun _ => False) 0 3 W8 (.slice (some ⟨gp, 0, none⟩) h.people.length i0) (h.people.set k2 M) := by subst hW8; exact ownF_base (HPUT.out M) (Nat.zero_le _)
  have ho1 : OwnL (fun _ => False) 0 108 W8 (.slice r1 h.ways.length i1) h.ways := by
   subst hW8
   exact ownF_base (ownF_row (HP1.out.step HS6.out) fun j hj => Below.heap_setCell W6 ⟨gp, k2, none⟩ _ j fun e => by
    have e : j = gp := e
    exact own_types HP1.out HP0.out (by decide) hj (by rw [e]; rfl)) (Nat.zero_le _)
  have hbx8 : Bx W8 gx [.slice (some ⟨gp, 0, none⟩) h.people.length i0, .slice r1 h.ways.length i1] 78 := by
   subst hW8
   exact (HBX14.out.step HS6.out).setOther fun e => own_apart HP0.out HBX14.out (by decide) (by rw [e]; rfl)
  have hgw : h.people.set k2 M = (lessH h k2 less).people := by
   rw [HMM.out]
   show _ = h.people.set k2 (max 0 (h.people.getD k2 0 - less))
   rw [HK2.out.2, List.getD_eq_getElem?_getD, List.getElem?_eq_getElem HK2.out.1]; rfl
  rw [hgw] at ho0
  have HGB := zH (show hallB (lessH h k2 less) = true from hallB_iff.2 (less_ok HO.out HNN.out.2.2.1))
  have HGF := zH (show ∀ T, Feas h T → Feas (lessH h k2 less) T from fun _ F => less_feas HO.out HNN.out.2.2.1 F)
  have hln : (lessH h k2 less).people.length = h.people.length := by show (h.people.set _ _).length = _; simp
  have HAVX := zH (show AV (fun _ => False) W8 (.agg #[.slice (some ⟨gp, 0, none⟩) h.people.length i0, .slice r1 h.ways.length i1]) (lessH h k2 less) from ⟨[_, _], rfl, _, _, rfl, (ownL_flat (fun _ => False) ho0).slb fun _ _ h => h, (ownL_flat (fun _ => False) ho1).slb fun _ _ h => h⟩)
  have HT := zH (show Step W0 W8 by subst hW8; exact (HT14.out.trans HS6.out).setNew _ _ HGP.out)
  have HBX := zH hbx8
  have x0 := hbx8.cell 0
  have x1 := hbx8.cell 1
  simp only [zD, zE] at x0 x1
  clear hW8 ho1 ho0 hbx8 hgw hln HT14 HS6 hc6 hfz6 HPUT HMM hgl hkw2 hk2 hwc2 hix2 HP0 HP1 HBX14 hp0i hp0n
  go_wp2_with fail
  refine (Leave_any (fun _ => False) (lessH h k2 less) _ _ HAVX.out).mono ?_
  rintro e wn ⟨c', m, pl', vq, rfl, hM, hpl', hSn⟩
  obtain ⟨pq, kq, rfl⟩ := hpl'.form
  obtain ⟨rfl, hmn⟩ := HLV.out.le hM HQ.out HGB.out rfl HGF.out
  have dmn : decide ((n : Int) < (m : Int)) = false := decide_eq_false (Int.not_lt.2 (Int.ofNat_le.2 hmn))
  have dmn' : decide (n < m) = false := decide_eq_false (Nat.not_lt.2 hmn)
  have dmn2 : decide ((m : Int) ≤ (n : Int)) = true := decide_eq_true (Int.ofNat_le.2 hmn)
  have dmn3 : decide (m ≤ n) = true := decide_eq_true hmn
  clear hpl' hM HAVX hmn
  have HTL := zH hSn
  have HTn := zH (HT.out.trans hSn)
  have HSN := zH hSn
  clear HT hSn
  have HT := HTn
  clear HTn
  clear HSN
  clear x0 x1 HBX HTL
  obtain ⟨wy, hwy⟩ : ∃ z, z = wn := ⟨_, rfl⟩
  subst hwy
  have e0 := (HB.out.step HT.out).cell 0
  have e1 := (HB.out.step HT.out).cell 1
  simp only [zD, zE] at e0 e1
  go_upto_region 19 with (fail)
  have y0 := (HBW.out.step HT.out).cell 0
  have y1 := (HBW.out.step HT.out).cell 1
  have y2 := (HBW.out.step HT.out).cell 2
  have y3 := (HBW.out.step HT.out).cell 3
  simp only [zD, zE] at y0 y1 y2 y3
  have l0 := (HB.out.step HT.out).lt
  have l1 := (HBW.out.step HT.out).lt
  have HC19 := zH (And.intro e0 (And.intro e1 (And.intro y0 (And.intro y1 (And.intro y2 y3)))))
  have HTB := zH HT.out
  have nl0 : ¬ Ap.XB (fun _ => False) wy.heap.size w.heap.size := fun h => h.elim id fun h => absurd h (Nat.not_le.2 l0)
  have nl1 : ¬ Ap.XB (fun _ => False) wy.heap.size (w.heap.size + 1) := fun h => h.elim id fun h => absurd h (Nat.not_le.2 l1)
  clear HT e0 e1 y0 y1 y2 y3 hwa hwm hwl hwa2 hwm2 hwl2 dmn dmn' dmn2 dmn3
  have HT := zH (Step.refl wy)
  refine Ap.wp_region_seq (Ap.kdOf [2, 5, 8] [(10, 73, .agg #[.slice none 0 0, .slice none 0 0])] [(7, 107, 1, #[.int .i64 x.frm, .int .i64 x.dst, .int .i64 x.cap, .int .i64 x.mins])]) [0, 1, 0, 0, 8, 28, 0, 64, 252, 511, 0, 2047] [0, 1, 3, 4, 6, 2, 5, 7, 8, 9, 10] [11] (by kernel_rfl) (by kernel_rfl) (fun i T z hi hk => by simp only [List.mem_cons, List.not_mem_nil, or_false] at hi; rcases hi with rfl | rfl | rfl | rfl | rfl | rfl | rfl | rfl | rfl | rfl | rfl <;> simp [Ap.kdOf] at hk <;> (obtain ⟨rfl, rfl⟩ := hk; first | (show Option.bind _ _ = some _; kernel_rfl) | (refine ⟨_, rfl, fun _ _ => ?_⟩; go_simp))) ?_
  intro Wx hWx
  have HTx := zH (HT.out.trans hWx)
  clear hWx HT
  have HT := HTx
  clear HTx
  have e0 := HT.out.kc HC19.out.1
  have e1 := HT.out.kc HC19.out.2.1
  have y0 := HT.out.kc HC19.out.2.2.1
  have y1 := HT.out.kc HC19.out.2.2.2.1
  have y2 := HT.out.kc HC19.out.2.2.2.2.1
  have y3 := HT.out.kc HC19.out.2.2.2.2.2
  repeat ((first | (refine Ap.run_off rfl rfl (by rfl) ?_) | (refine Ap.run_chain_off rfl rfl (by rfl) (Ap.K0_mono _) ?_) | ((refine Ap.run_want rfl rfl (by rfl) ⟨?_, fun W hW => ?_, ?_⟩; rotate_left; (· (have d0 := hW.keeps.cell (a := ⟨w.heap.size, 0, none⟩) nl0 e0; have d1 := hW.keeps.cell (a := ⟨w.heap.size, 1, none⟩) nl0 e1; have d2 := hW.keeps.cell (a := ⟨w.heap.size + 1, 0, none⟩) nl1 y0; have d3 := hW.keeps.cell (a := ⟨w.heap.size + 1, 1, none⟩) nl1 y1; have d4 := hW.keeps.cell (a := ⟨w.heap.size + 1, 2, none⟩) nl1 y2; have d5 := hW.keeps.cell (a := ⟨w.heap.size + 1, 3, none⟩) nl1 y3; go_simp; (try with_reducible rfl)))))); (try simp only [Act.put, zA, zB, zC]))
  clear e0 e1 y0 y1 y2 y3
  refine Ap.run_chain rfl rfl (by rfl) (fun Wi hWi K' hK => ?_)
  have HTi := zH (HT.out.trans hWi)
  clear hWi HT
  go_simp
  refine hK _ _ (.of (Step.alloc _ _)) ?_
  (try simp only [Act.put, zA, zB, zC])
  obtain ⟨gl, hgl⟩ : ∃ g, g = Wi.heap.size := ⟨_, rfl⟩
  obtain ⟨WA, hWA⟩ : ∃ z, z = Wi.alloc (.cells #[] 107) := ⟨_, rfl⟩
  have HOWN := zH (show OwnL (fun _ => False) wy.heap.size 107 WA (.slice (some ⟨gl, 0, none⟩) 0 0) ([] : List Wy) by subst hgl hWA; exact ownL_lit (α := Wy) (fun _ => False) wy.heap.size 107 Wi HTi.out.size)
  have HT := zH (show Step wy WA by subst hWA; exact HTi.out.trans (Step.alloc Wi _))
  have HGL := zH (show wy.heap.size ≤ gl ∧ WA.heap.size = gl + 1 by subst hgl hWA; exact ⟨HTi.out.size, by simp⟩)
  rw [← hgl, ← hWA]
  clear hgl hWA HTi hK
  repeat ((first | (refine Ap.run_off rfl rfl (by rfl) ?_) | (refine Ap.run_chain_off rfl rfl (by rfl) (Ap.K0_mono _) ?_) | ((refine Ap.run_want rfl rfl (by rfl) ⟨?_, fun W hW => ?_, ?_⟩; rotate_left; (· (skip; go_simp; (try with_reducible rfl)))))); (try simp only [Act.put, zA, zB, zC]))
  refine Ap.run_chain rfl rfl (by rfl) (fun Wi hWi K' hK => ?_)
  have HTi := zH (HT.out.trans hWi)
  have hu6 := SL.flat (avoid (fun _ => False) (.slice (some ⟨gl, 0, none⟩) 0 0)) (HH1.out.keep (.of_step (HTB.out.trans HTi.out)))
  have hw20 := HO.out.w20
  refine wp_append_F (α := Wy) (S := fun _ => False) (base := wy.heap.size) (l := []) (m := h.ways) eiRWays _ _ rfl rfl rfl (HOWN.out.step hWi) hu6 h.ways.length (by simp) h.ways rfl (by simp only [maxLen]; omega) (by omega) HTi.out.size ?_
  intro p5 c5 w5 hown5 hg5 hloc5
  have HIS := zH (show gl + 1 ≤ Wi.heap.size by have := hWi.size; have := HGL.out.2; omega)
  have hx5 : StepX (fun j => j = gl) Wi w5 := .grown hg5 fun j hj _ => (Option.some.inj (show some gl = some j from hj)).symm
  have HT5 := zH (show Step wy w5 from StepX.fresh HTi.out hx5 fun j hj => by have := HGL.out.1; omega)
  have HOWN5 := zH hown5
  have HLOC := zH (show ∀ j, (Value.slice p5 h.ways.length c5).ownBlock = some j → gl = j ∨ (Wi.heap.size ≤ j ∧ j < w5.heap.size) from fun j hj => by
   rcases hloc5 j hj with q | q
   ·exact .inl (Option.some.inj (show some gl = some j from q))
   ·exact .inr ⟨q, (hown5.lt j hj).2⟩)
  refine hK _ _ (hx5.mono fun j _ hj => .inr ⟨by have := HGL.out.1; omega, fun hn => by
   have h1 := hn.2
   have h2 := HGL.out.2
   subst hj
   rcases h1 with h1 | h1 <;> omega⟩) ?_
  clear hK hWi hu6 hown5 hg5 hloc5 HTi hx5 HT HOWN hw20
  (try simp only [Act.put, zA, zB, zC])
  have HT := HT5
  clear HT5
  repeat ((first | (refine Ap.run_off rfl rfl (by rfl) ?_) | (refine Ap.run_chain_off rfl rfl (by rfl) (Ap.K0_mono _) ?_) | ((refine Ap.run_want rfl rfl (by rfl) ⟨?_, fun W hW => ?_, ?_⟩; rotate_left; (· (skip; go_simp; (try with_reducible rfl)))))); (try simp only [Act.put, zA, zB, zC]))
  refine Ap.run_make rfl (by rfl) rfl (fun w => ?_) (fun W2 g hW2 hg hgb hgN => ?_)
  ·go_simp
  have HU := zH (SL.flat (avoid (fun _ => False) (.slice p5 h.ways.length c5)) (SL.bx (S := fun _ => False) (l := [x]) (show Bx W2 g [.int .i64 x.frm, .int .i64 x.dst, .int .i64 x.cap, .int .i64 x.mins] 107 from hg) id 1 (by simp) (by simp) fun i hi => by match i, hi with | 0, _ => rfl))
  have HTz := zH (HT.out.trans hW2)
  have HOWN := zH (HOWN5.out.step hW2)
  clear HT HOWN5 hW2 hg hgb hgN
  have HT := HTz
  clear HTz
  (try simp only [Act.put, zA, zB, zC])
  repeat ((first | (refine Ap.run_off rfl rfl (by rfl) ?_) | (refine Ap.run_chain_off rfl rfl (by rfl) (Ap.K0_mono _) ?_) | ((refine Ap.run_want rfl rfl (by rfl) ⟨?_, fun W hW => ?_, ?_⟩; rotate_left; (· (skip; go_simp; (try with_reducible rfl)))))); (try simp only [Act.put, zA, zB, zC]))
  refine Ap.run_chain rfl rfl (by rfl) (fun Wj hWj K' hK => ?_)
  have HTi := zH (HT.out.trans hWj)
  have hw20 := HO.out.w20
  refine wp_append_F (α := Wy) (S := fun _ => False) (base := wy.heap.size) (l := h.ways) (m := [x]) eiRWays _ _ rfl rfl rfl (HOWN.out.step hWj) (HU.out.step hWj) (h.ways.length + 1) (by simp) (h.ways ++ [x]) rfl (by simp only [maxLen]; omega) (by omega) HTi.out.size ?_
  intro p6 c6 w6 hown6 hg6 _
  have hx6 : StepX (fun j => (Value.slice p5 h.ways.length c5).ownBlock = some j) Wj w6 := .grown hg6 fun j hj _ => hj
  have HT6 := zH (show Step wy w6 from StepX.fresh HTi.out hx6 fun j hj => (HOWN.out.lt j hj).1)
  have HOWN6 := zH hown6
  refine hK _ _ (hx6.mono fun j _ hj => .inr ⟨(HOWN.out.lt j hj).1, fun hn => by
   have h2 := HGL.out.2
   rcases HLOC.out j hj with q | ⟨q1, q2⟩
   ·have h3 := hn.1.1.2
    rcases h3 with h3 | h3 <;> omega
   ·have h3 := hn.1.2
    rcases h3 with h3 | h3 <;> omega⟩) ?_
  clear hK hWj hown6 hg6 HTi hx6 HT HOWN HU hw20
  (try simp only [Act.put, zA, zB, zC])
  have HT := HT6
  clear HT6
  repeat ((first | (refine Ap.run_off rfl rfl (by rfl) ?_) | (refine Ap.run_chain_off rfl rfl (by rfl) (Ap.K0_mono _) ?_) | ((refine Ap.run_want rfl rfl (by rfl) ⟨?_, fun W hW => ?_, ?_⟩; rotate_left; (· (skip; go_simp; (try with_reducible rfl)))))); (try simp only [Act.put, zA, zB, zC]))
  refine Ap.run_alloc rfl rfl (fun W5 gy hW5 hg hgb hgN => ?_)
  (try simp only [Act.put, zA, zB, zC])
  refine Ap.run_end (L := [_]) rfl (fun W6 hW6 => ?_)
  have hb6 := Bx.step (w := W5) (cs := [_, _]) hg hW6
  have HOWN7 := zH (HOWN6.out.step (hW5.trans hW6))
  have HT7 := zH (HT.out.trans (hW5.trans hW6))
  have HGY := zH hgb
  clear hW5 hg hgN hW6 hgb HT HOWN6
  refine wpl_store (v := .agg #[.slice p0 h.people.length k0, .slice p6 (h.ways.length + 1) c6]) rfl _ _ _ rfl rfl rfl hb6 (by kernel_rfl) (by simp [Value.cells]) (by simp [Value.cells, Value.oneCell']) [.slice p0 h.people.length k0, .slice p6 (h.ways.length + 1) c6] rfl (fun w9 hb9 hw9 => ?_)
  have HT9 := zH (HTB.out.trans (Step.wrote HT7.out hw9 HGY.out))
  have hown9 := ownF_row HOWN7.out (w' := w9) fun j hj => hw9.block j fun e => own_apart HOWN7.out hb6 (by decide) (by rw [hj, e])
  have HAVY := zH (show ∀ W, Step w9 W → AV (fun _ => False) W (.agg #[.slice p0 h.people.length k0, .slice p6 (h.ways.length + 1) c6]) (moreH h x) from fun W hW => ⟨[_, _], rfl, _, _, rfl, HH0.out.keep (.of_step (HT9.out.trans hW)), by
   have := ((ownL_flat (fun _ => False) hown9).slb fun _ _ h => h).keep (.of_step hW)
   simpa [moreH] using this⟩)
  have HBY := zH hb9
  have HLY := zH (show (moreH h x).people.length ≤ 1000 ∧ (moreH h x).ways.length ≤ 1000 by
   have h1 := HL.out
   have h2 := HO.out.w20
   refine ⟨h1.1, ?_⟩
   show (h.ways ++ [x]).length ≤ 1000
   simp; omega)
  have y0 := hb9.cell 0
  have y1 := hb9.cell 1
  simp only [zD, zE] at y0 y1
  clear hown9 hb9 hw9 hb6 HT7 HOWN7
  have HT := zH (Step.refl w9)
  go_wp2_with fail
  refine (RRightHall_any (fun _ => False) (moreH h x) _ _ (HAVY.out _ HT.out)).mono ?_
  rintro e wn ⟨rfl, hSn⟩
  have HTn := zH (HT.out.trans hSn)
  have HSN := zH hSn
  clear HT hSn
  have HT := HTn
  clear HTn
  clear HSN y0 y1
  cases hy : hallB (moreH h x) with
  | false =>
   clear hy
   have HT2 := zH (HT9.out.trans HT.out)
   clear HT
   have HT := HT2
   go_wp2_with fail
   refine (gwakes_any _).mono ?_
   rintro e wn ⟨rfl, hSn⟩
   have HTn := zH (HT.out.trans hSn)
   have HSN := zH hSn
   clear HT hSn
   have HT := HTn
   clear HTn
   go_wp2
   go_ret
   exact ⟨rfl, HS.out.trans HT.out⟩
  | true =>
  have HHY := zH hy
  clear hy
  have y0 := (HBY.out.step HT.out).cell 0
  have y1 := (HBY.out.step HT.out).cell 1
  simp only [zD, zE] at y0 y1
  go_wp2_with fail
  refine (GHall_any (fun _ => False) (moreH h x) _ _ (HAVY.out _ HT.out) HLY.out.1 HLY.out.2).mono ?_
  rintro e wn ⟨vy, rfl, hvy, hSn⟩
  have HVY := zH (av0 hvy)
  clear hvy y0 y1
  have HTn := zH (HT.out.trans hSn)
  have HSN := zH hSn
  clear HT hSn
  have HT := HTn
  clear HTn
  clear HSN
  go_wp2_with fail
  refine (Leave_any (fun _ => False) (moreH h x) _ _ HVY.out).mono ?_
  rintro e wn ⟨c', m, pl', vq, rfl, hM, hpl', hSn⟩
  obtain ⟨pq, kq, rfl⟩ := hpl'.form
  obtain ⟨rfl, hmn⟩ := HLV.out.le hM HQ.out HHY.out rfl (fun T F => more_feas (hallB_iff.1 HHY.out) F)
  have dmn2 : decide ((m : Int) ≤ (n : Int)) = true := decide_eq_true (Int.ofNat_le.2 hmn)
  have dmn3 : decide (m ≤ n) = true := decide_eq_true hmn
  clear hpl' hM hmn HVY
  have HTn := zH (HT.out.trans hSn)
  have HSN := zH hSn
  clear HT hSn
  have HT := HTn
  clear HTn
  clear HSN
  have HT2 := zH (HT9.out.trans HT.out)
  clear HT
  have HT := HT2
  go_wp2_with fail
  refine (gwakes_any _).mono ?_
  rintro e wn ⟨rfl, hSn⟩
  have HTn := zH (HT.out.trans hSn)
  have HSN := zH hSn
  clear HT hSn
  have HT := HTn
  clear HTn
  go_wp2
  go_ret
  exact ⟨rfl, HS.out.trans HT.out⟩
 case pos =>
  have d0 : decide ((0 : Int) < (h.ways.length : Int)) = true := decide_eq_true (by omega)
  have d0' : decide (0 < h.ways.length) = true := decide_eq_true hw0
  obtain ⟨k, hk, hkl⟩ := rem_len HNN.out.1.1 hw0
  have hkw : IntKind.i64.wrap (at_.tmod (h.ways.length : Int)) = (k : Int) := by rw [hk, IntKind.wrap_i64]; have := HL.out.2; omega
  have hw0i : (0 : Int) < (h.ways.length : Int) := by omega
  obtain ⟨gw, cw, he, hgb, hgl, hcc, hfz, _⟩ := own_cap HO1.out hkl
  injection he with he1 he2 he3
  clear he2
  subst he1 he3
  have x0 := HB7.out.cell 0
  have x1 := HB7.out.cell 1
  simp only [zD, zE] at x0 x1
  have hway := HO.out.way k hkl
  have hnn := HNN.out.2.1
  obtain ⟨C, hC⟩ : ∃ z, z = h.ways[k].cap := ⟨_, rfl⟩
  rw [← hC] at hcc hway
  have hwc : IntKind.i64.wrap (C + more) = C + more := by rw [IntKind.wrap_i64]; omega
  have hix : (0 : Int) ≤ (k : Int) ∧ (k : Int) < (h.ways.length : Int) := by omega
  have HK := zH (And.intro hkl hC)
  clear hway hnn hgb hC
  go_upto_region 9 with (fail)
  have HT9 := zH (Step.refl W7)
  have HCC := zH (And.intro hcc (And.intro hfz hgl))
  obtain ⟨HTo, hHTo⟩ : ∃ z, z = HT := ⟨_, rfl⟩
  clear hHTo HT
  have HT := HT9
  clear HT9 hcc hfz hgl
  refine wp_region_seq (kdOf [] []) [0, 1, 0, 0, 8, 0, 56, 120, 248, 0, 512, 2040, 4088, 8191, 16383, 32767] [0, 1, 2, 3, 4, 5, 6, 7, 8, 9, 10, 11, 12, 13, 14] [15] (by kernel_rfl) (by kernel_rfl) (fun i T z hi hk => by simp [kdOf] at hk <;> (try (split at hk <;> cases hk))) ?_
  intro Wx hWx
  have HTx := zH (HT.out.trans hWx)
  clear hWx HT
  have HT := HTx
  clear HTx
  have x0 := HT.out.kc x0
  have x1 := HT.out.kc x1
  have hcc := HT.out.kc HCC.out.1
  repeat ((first | (refine run_off rfl rfl (by rfl) ?_) | (refine run_chain_off rfl rfl (by rfl) (K0_mono _) ?_) | ((refine run_want rfl rfl (by rfl) ⟨?_, fun W hW => ?_, ?_⟩; rotate_left; (· (have d0 := hW.kc x0; have d1 := hW.kc x1; have d2 := hW.kc hcc; go_simp; (try with_reducible rfl)))))); (try simp only [Act.put, zA, zB, zC]))
  refine run_end (L := [_]) rfl (fun W6 hW6 => ?_)
  have HS6 := zH (HT.out.trans hW6)
  have HT6 := zH (HTo.out.trans (HT.out.trans hW6))
  clear hW6 HT HTo x0 x1 hcc
  obtain ⟨gw', cw', he, hgb, hgl, hc6, hfz6, hput⟩ := own_cap (HO1.out.step HS6.out) hkl
  injection he with he1 he2 he3
  clear he2 he3
  injection he1 with he1
  injection he1 with he1 he2 he3
  clear he2 he3
  subst he1
  have HPUT := zH hput
  have HGW := zH (show W0.heap.size ≤ gw from Nat.le_trans HTI.out.size hgb)
  have hM : (if C + more < 1000 then C + more else 1000) = min 1000 (C + more) := by omega
  rw [hM]
  obtain ⟨M, hMM⟩ : ∃ z, z = min 1000 (C + more) := ⟨_, rfl⟩
  rw [← hMM]
  have HMM := zH hMM
  rw [← HK.out.2] at hc6
  clear hM hMM hput hgb
  go_upto_region 10 with (fail)
  obtain ⟨W8, hW8⟩ : ∃ z, z = W6.setCell ⟨gw, k * 4 + 2, none⟩ (.int .i64 M) := ⟨_, rfl⟩
  rw [← hW8]
  have ho1 : OwnL (fun _ => False) 0 108 W8 (.slice (some ⟨gw, 0, none⟩) h.ways.length j1) (h.ways.set k { h.ways[k] with cap := M }) := by subst hW8; exact ownF_base (HPUT.out M) (Nat.zero_le _)
  have ho0 : OwnL (fun _ => False) 0 3 W8 (.slice q0 h.people.length j0) h.people := by
   subst hW8
   exact ownF_base (ownF_row (HO0.out.step HS6.out) fun j hj => Below.heap_setCell W6 ⟨gw, k * 4 + 2, none⟩ _ j fun e => by
    have e : j = gw := e
    exact own_types HO0.out HO1.out (by decide) hj (by rw [e]; rfl)) (Nat.zero_le _)
  have hbx8 : Bx W8 gx [.slice q0 h.people.length j0, .slice (some ⟨gw, 0, none⟩) h.ways.length j1] 78 := by
   subst hW8
   exact (HB7.out.step HS6.out).setOther fun e => own_apart HO1.out HB7.out (by decide) (by rw [e]; rfl)
  have hgw : h.ways.set k { h.ways[k] with cap := M } = (capH h k more).ways := by
   rw [HMM.out]
   show _ = h.ways.set k { wyAt h k with cap := min 1000 ((wyAt h k).cap + more) }
   rw [wyAt_at hkl, ← HK.out.2]
  rw [hgw] at ho1
  have HGB := zH (show hallB (capH h k more) = true from hallB_iff.2 (cap_ok HO.out HNN.out.2.1.1))
  have HGF := zH (show ∀ T, Feas h T → Feas (capH h k more) T from fun _ F => cap_feas HO.out HNN.out.2.1.1 F)
  have hln : (capH h k more).ways.length = h.ways.length := by show (h.ways.set _ _).length = _; simp
  have HAVX := zH (show AV (fun _ => False) W8 (.agg #[.slice q0 h.people.length j0, .slice (some ⟨gw, 0, none⟩) h.ways.length j1]) (capH h k more) from ⟨[_, _], rfl, _, _, rfl, (ownL_flat (fun _ => False) ho0).slb fun _ _ h => h, (ownL_flat (fun _ => False) ho1).slb fun _ _ h => h⟩)
  have HT := zH (show Step W0 W8 by subst hW8; exact HT6.out.setNew _ _ HGW.out)
  have HBX := zH hbx8
  have x0 := hbx8.cell 0
  have x1 := hbx8.cell 1
  simp only [zD, zE] at x0 x1
  clear hW8 ho1 ho0 hbx8 hgw hln HT6 HS6 hc6 hfz6 HPUT HMM hgl hw0i hkw hk hwc hix d0 d0'
  go_wp2_with fail
  refine (Leave_any (fun _ => False) (capH h k more) _ _ HAVX.out).mono ?_
  rintro e wn ⟨c', m, pl', vq, rfl, hM, hpl', hSn⟩
  obtain ⟨pq, kq, rfl⟩ := hpl'.form
  obtain ⟨rfl, hmn⟩ := HLV.out.le hM HQ.out HGB.out rfl HGF.out
  have dmn : decide ((n : Int) < (m : Int)) = false := decide_eq_false (Int.not_lt.2 (Int.ofNat_le.2 hmn))
  have dmn' : decide (n < m) = false := decide_eq_false (Nat.not_lt.2 hmn)
  have dmn2 : decide ((m : Int) ≤ (n : Int)) = true := decide_eq_true (Int.ofNat_le.2 hmn)
  have dmn3 : decide (m ≤ n) = true := decide_eq_true hmn
  clear hpl' hM HAVX hmn
  have HTL := zH hSn
  have HTn := zH (HT.out.trans hSn)
  have HSN := zH hSn
  clear HT hSn
  have HT := HTn
  clear HTn
  clear HSN
  clear x0 x1
  have e0 := (HB.out.step HT.out).cell 0
  have e1 := (HB.out.step HT.out).cell 1
  simp only [zD, zE] at e0 e1
  go_wp2_with fail
  refine (GHall_own (fun _ => False) h _ _ (HAV.out _ HT.out) HL.out.1 HL.out.2).mono ?_
  clear dmn dmn' dmn2 dmn3 HGB HGF
  rintro e wn ⟨vx, rfl, hx, hSn⟩
  obtain ⟨s0, s1, rfl, ho0, ho1⟩ := hx
  obtain ⟨r0, i0, rfl, _⟩ := ho0.form
  obtain ⟨r1, i1, rfl, _⟩ := ho1.form
  have HO0 := zH ho0
  have HO1 := zH ho1
  have HZB := zH (show gx < _ from (HBX.out.step HTL.out).lt)
  have hbx := HBX.out.step (HTL.out.trans hSn)
  have x0 := hbx.cell 0
  have x1 := hbx.cell 1
  simp only [zD, zE] at x0 x1
  have z0 := hbx.frozen 0
  have z1 := hbx.frozen 1
  have zl := hbx.lt
  have HBX2 := zH hbx
  have HTn := zH (HT.out.trans hSn)
  obtain ⟨wj, hwj⟩ : ∃ z, z = wn := ⟨_, rfl⟩
  subst hwj
  clear ho0 ho1 hSn hbx HT HBX HTL e0 e1
  go_upto_region 14 with (fail)
  clear x0 x1 z0 z1 zl
  have b2 := set2H HBX2.out (.slice r0 h.people.length i0) (.slice r1 h.ways.length i1)
  obtain ⟨W14, hW14⟩ : ∃ z, z = (wj.setCell ⟨gx, 0, none⟩ (.slice r0 h.people.length i0)).setCell ⟨gx, 1, none⟩ (.slice r1 h.ways.length i1) := ⟨_, rfl⟩
  rw [← hW14] at b2 ⊢
  have ho0 := ownF_row HO0.out (w' := W14) fun j hj => b2.2.block j (HO0.out.lt j hj).2 (by have := HO0.out.lt j hj; have := HZB.out; omega)
  have ho1 := ownF_row HO1.out (w' := W14) fun j hj => b2.2.block j (HO1.out.lt j hj).2 (by have := HO1.out.lt j hj; have := HZB.out; omega)
  have HT14 := zH (show Step W0 W14 from StepX.fresh HTn.out b2.2 fun j hj => by have := HGX.out; omega)
  have HBX14 := zH b2.1
  have HP0 := zH ho0
  have HP1 := zH ho1
  have HGB0 := zH (show W0.heap.size ≤ _ from Nat.le_trans HGX.out (Nat.le_of_lt HZB.out))
  have x0 := b2.1.cell 0
  have x1 := b2.1.cell 1
  simp only [zD, zE] at x0 x1
  clear b2 ho0 ho1 hW14 HTn HBX2 HO0 HO1 HZB
  have hn2 := HO.out.n2
  obtain ⟨k2, hk2, hkl2⟩ := rem_len HNN.out.1.1 (show 0 < h.people.length by omega)
  have hkw2 : IntKind.i64.wrap (at_.tmod (h.people.length : Int)) = (k2 : Int) := by rw [hk2, IntKind.wrap_i64]; have := HL.out.1; omega
  have hp0i : (0 : Int) < (h.people.length : Int) := by omega
  have hp0n : 0 < h.people.length := by omega
  obtain ⟨gp, cp, he, hgb, hgl, hcc, hfz, _⟩ := own_num HP0.out hkl2
  injection he with he1 he2 he3
  clear he2
  subst he1 he3
  have hpe := HO.out.pe k2 hkl2
  have hnn := HNN.out.2.2
  obtain ⟨C2, hC2⟩ : ∃ z, z = h.people[k2] := ⟨_, rfl⟩
  rw [← hC2] at hcc hpe
  have hwc2 : IntKind.i64.wrap (C2 - less) = C2 - less := by rw [IntKind.wrap_i64]; omega
  have hix2 : (0 : Int) ≤ (k2 : Int) ∧ (k2 : Int) < (h.people.length : Int) := by omega
  have HK2 := zH (And.intro hkl2 hC2)
  clear hpe hnn hgb hC2
  go_upto_region 15 with (fail)
  have HT := zH (Step.refl W14)
  have HCC := zH (And.intro hcc (And.intro hfz hgl))
  clear hcc hfz hgl
  refine wp_region_seq (kdOf [] []) [0, 1, 0, 0, 8, 0, 56, 120, 0, 256, 1016, 2040, 4095, 8191] [0, 1, 2, 3, 4, 5, 6, 7, 8, 9, 10, 11, 12] [13] (by kernel_rfl) (by kernel_rfl) (fun i T z hi hk => by simp [kdOf] at hk <;> (try (split at hk <;> cases hk))) ?_
  intro Wx hWx
  have HTx := zH (HT.out.trans hWx)
  clear hWx HT
  have HT := HTx
  clear HTx
  have x0 := HT.out.kc x0
  have x1 := HT.out.kc x1
  have hcc := HT.out.kc HCC.out.1
  repeat ((first | (refine run_off rfl rfl (by rfl) ?_) | (refine run_chain_off rfl rfl (by rfl) (K0_mono _) ?_) | ((refine run_want rfl rfl (by rfl) ⟨?_, fun W hW => ?_, ?_⟩; rotate_left; (· (have d0 := hW.kc x0; have d1 := hW.kc x1; have d2 := hW.kc hcc; go_simp; (try with_reducible rfl)))))); (try simp only [Act.put, zA, zB, zC]))
  refine run_end (L := [_]) rfl (fun W6 hW6 => ?_)
  have HS6 := zH (HT.out.trans hW6)
  clear hW6 HT x0 x1 hcc
  obtain ⟨gp', cp', he, hgb, hgl, hc6, hfz6, hput⟩ := own_num (HP0.out.step HS6.out) hkl2
  injection he with he1 he2 he3
  clear he2 he3
  injection he1 with he1
  injection he1 with he1 he2 he3
  clear he2 he3
  subst he1
  have HPUT := zH hput
  have HGP := zH (show W0.heap.size ≤ gp from Nat.le_trans HGB0.out hgb)
  have hM : (if less < C2 then C2 - less else 0) = max 0 (C2 - less) := by omega
  rw [hM]
  obtain ⟨M, hMM⟩ : ∃ z, z = max 0 (C2 - less) := ⟨_, rfl⟩
  rw [← hMM]
  have HMM := zH hMM
  rw [← HK2.out.2] at hc6
  clear hM hMM hput hgb
  go_upto_region 16 with (fail)
  obtain ⟨W8, hW8⟩ : ∃ z, z = W6.setCell ⟨gp, k2, none⟩ (.int .i64 M) := ⟨_, rfl⟩
  rw [← hW8]
  have ho0 : OwnL (fun _ => False) 0 3 W8 (.slice (some ⟨gp, 0, none⟩) h.people.length i0) (h.people.set k2 M) := by subst hW8; exact ownF_base (HPUT.out M) (Nat.zero_le _)
  have ho1 : OwnL (fun _ => False) 0 108 W8 (.slice r1 h.ways.length i1) h.ways := by
   subst hW8
   exact ownF_base (ownF_row (HP1.out.step HS6.out) fun j hj => Below.heap_setCell W6 ⟨gp, k2, none⟩ _ j fun e => by
    have e : j = gp := e
    exact own_types HP1.out HP0.out (by decide) hj (by rw [e]; rfl)) (Nat.zero_le _)
  have hbx8 : Bx W8 gx [.slice (some ⟨gp, 0, none⟩) h.people.length i0, .slice r1 h.ways.length i1] 78 := by
   subst hW8
   exact (HBX14.out.step HS6.out).setOther fun e => own_apart HP0.out HBX14.out (by decide) (by rw [e]; rfl)
  have hgw : h.people.set k2 M = (lessH h k2 less).people := by
   rw [HMM.out]
   show _ = h.people.set k2 (max 0 (h.people.getD k2 0 - less))
   rw [HK2.out.2, List.getD_eq_getElem?_getD, List.getElem?_eq_getElem HK2.out.1]; rfl
  rw [hgw] at ho0
  have HGB := zH (show hallB (lessH h k2 less) = true from hallB_iff.2 (less_ok HO.out HNN.out.2.2.1))
  have HGF := zH (show ∀ T, Feas h T → Feas (lessH h k2 less) T from fun _ F => less_feas HO.out HNN.out.2.2.1 F)
  have hln : (lessH h k2 less).people.length = h.people.length := by show (h.people.set _ _).length = _; simp
  have HAVX := zH (show AV (fun _ => False) W8 (.agg #[.slice (some ⟨gp, 0, none⟩) h.people.length i0, .slice r1 h.ways.length i1]) (lessH h k2 less) from ⟨[_, _], rfl, _, _, rfl, (ownL_flat (fun _ => False) ho0).slb fun _ _ h => h, (ownL_flat (fun _ => False) ho1).slb fun _ _ h => h⟩)
  have HT := zH (show Step W0 W8 by subst hW8; exact (HT14.out.trans HS6.out).setNew _ _ HGP.out)
  have HBX := zH hbx8
  have x0 := hbx8.cell 0
  have x1 := hbx8.cell 1
  simp only [zD, zE] at x0 x1
  clear hW8 ho1 ho0 hbx8 hgw hln HT14 HS6 hc6 hfz6 HPUT HMM hgl hkw2 hk2 hwc2 hix2 HP0 HP1 HBX14 hp0i hp0n
  go_wp2_with fail
  refine (Leave_any (fun _ => False) (lessH h k2 less) _ _ HAVX.out).mono ?_
  rintro e wn ⟨c', m, pl', vq, rfl, hM, hpl', hSn⟩
  obtain ⟨pq, kq, rfl⟩ := hpl'.form
  obtain ⟨rfl, hmn⟩ := HLV.out.le hM HQ.out HGB.out rfl HGF.out
  have dmn : decide ((n : Int) < (m : Int)) = false := decide_eq_false (Int.not_lt.2 (Int.ofNat_le.2 hmn))
  have dmn' : decide (n < m) = false := decide_eq_false (Nat.not_lt.2 hmn)
  have dmn2 : decide ((m : Int) ≤ (n : Int)) = true := decide_eq_true (Int.ofNat_le.2 hmn)
  have dmn3 : decide (m ≤ n) = true := decide_eq_true hmn
  clear hpl' hM HAVX hmn
  have HTL := zH hSn
  have HTn := zH (HT.out.trans hSn)
  have HSN := zH hSn
  clear HT hSn
  have HT := HTn
  clear HTn
  clear HSN
  clear x0 x1 HBX HTL
  obtain ⟨wy, hwy⟩ : ∃ z, z = wn := ⟨_, rfl⟩
  subst hwy
  have e0 := (HB.out.step HT.out).cell 0
  have e1 := (HB.out.step HT.out).cell 1
  simp only [zD, zE] at e0 e1
  go_upto_region 19 with (fail)
  have y0 := (HBW.out.step HT.out).cell 0
  have y1 := (HBW.out.step HT.out).cell 1
  have y2 := (HBW.out.step HT.out).cell 2
  have y3 := (HBW.out.step HT.out).cell 3
  simp only [zD, zE] at y0 y1 y2 y3
  have l0 := (HB.out.step HT.out).lt
  have l1 := (HBW.out.step HT.out).lt
  have HC19 := zH (And.intro e0 (And.intro e1 (And.intro y0 (And.intro y1 (And.intro y2 y3)))))
  have HTB := zH HT.out
  have nl0 : ¬ Ap.XB (fun _ => False) wy.heap.size w.heap.size := fun h => h.elim id fun h => absurd h (Nat.not_le.2 l0)
  have nl1 : ¬ Ap.XB (fun _ => False) wy.heap.size (w.heap.size + 1) := fun h => h.elim id fun h => absurd h (Nat.not_le.2 l1)
  clear HT e0 e1 y0 y1 y2 y3 hwa hwm hwl hwa2 hwm2 hwl2 dmn dmn' dmn2 dmn3
  have HT := zH (Step.refl wy)
  refine Ap.wp_region_seq (Ap.kdOf [2, 5, 8] [(10, 73, .agg #[.slice none 0 0, .slice none 0 0])] [(7, 107, 1, #[.int .i64 x.frm, .int .i64 x.dst, .int .i64 x.cap, .int .i64 x.mins])]) [0, 1, 0, 0, 8, 28, 0, 64, 252, 511, 0, 2047] [0, 1, 3, 4, 6, 2, 5, 7, 8, 9, 10] [11] (by kernel_rfl) (by kernel_rfl) (fun i T z hi hk => by simp only [List.mem_cons, List.not_mem_nil, or_false] at hi; rcases hi with rfl | rfl | rfl | rfl | rfl | rfl | rfl | rfl | rfl | rfl | rfl <;> simp [Ap.kdOf] at hk <;> (obtain ⟨rfl, rfl⟩ := hk; first | (show Option.bind _ _ = some _; kernel_rfl) | (refine ⟨_, rfl, fun _ _ => ?_⟩; go_simp))) ?_
  intro Wx hWx
  have HTx := zH (HT.out.trans hWx)
  clear hWx HT
  have HT := HTx
  clear HTx
  have e0 := HT.out.kc HC19.out.1
  have e1 := HT.out.kc HC19.out.2.1
  have y0 := HT.out.kc HC19.out.2.2.1
  have y1 := HT.out.kc HC19.out.2.2.2.1
  have y2 := HT.out.kc HC19.out.2.2.2.2.1
  have y3 := HT.out.kc HC19.out.2.2.2.2.2
  repeat ((first | (refine Ap.run_off rfl rfl (by rfl) ?_) | (refine Ap.run_chain_off rfl rfl (by rfl) (Ap.K0_mono _) ?_) | ((refine Ap.run_want rfl rfl (by rfl) ⟨?_, fun W hW => ?_, ?_⟩; rotate_left; (· (have d0 := hW.keeps.cell (a := ⟨w.heap.size, 0, none⟩) nl0 e0; have d1 := hW.keeps.cell (a := ⟨w.heap.size, 1, none⟩) nl0 e1; have d2 := hW.keeps.cell (a := ⟨w.heap.size + 1, 0, none⟩) nl1 y0; have d3 := hW.keeps.cell (a := ⟨w.heap.size + 1, 1, none⟩) nl1 y1; have d4 := hW.keeps.cell (a := ⟨w.heap.size + 1, 2, none⟩) nl1 y2; have d5 := hW.keeps.cell (a := ⟨w.heap.size + 1, 3, none⟩) nl1 y3; go_simp; (try with_reducible rfl)))))); (try simp only [Act.put, zA, zB, zC]))
  clear e0 e1 y0 y1 y2 y3
  refine Ap.run_chain rfl rfl (by rfl) (fun Wi hWi K' hK => ?_)
  have HTi := zH (HT.out.trans hWi)
  clear hWi HT
  go_simp
  refine hK _ _ (.of (Step.alloc _ _)) ?_
  (try simp only [Act.put, zA, zB, zC])
  obtain ⟨gl, hgl⟩ : ∃ g, g = Wi.heap.size := ⟨_, rfl⟩
  obtain ⟨WA, hWA⟩ : ∃ z, z = Wi.alloc (.cells #[] 107) := ⟨_, rfl⟩
  have HOWN := zH (show OwnL (fun _ => False) wy.heap.size 107 WA (.slice (some ⟨gl, 0, none⟩) 0 0) ([] : List Wy) by subst hgl hWA; exact ownL_lit (α := Wy) (fun _ => False) wy.heap.size 107 Wi HTi.out.size)
  have HT := zH (show Step wy WA by subst hWA; exact HTi.out.trans (Step.alloc Wi _))
  have HGL := zH (show wy.heap.size ≤ gl ∧ WA.heap.size = gl + 1 by subst hgl hWA; exact ⟨HTi.out.size, by simp⟩)
  rw [← hgl, ← hWA]
  clear hgl hWA HTi hK
  repeat ((first | (refine Ap.run_off rfl rfl (by rfl) ?_) | (refine Ap.run_chain_off rfl rfl (by rfl) (Ap.K0_mono _) ?_) | ((refine Ap.run_want rfl rfl (by rfl) ⟨?_, fun W hW => ?_, ?_⟩; rotate_left; (· (skip; go_simp; (try with_reducible rfl)))))); (try simp only [Act.put, zA, zB, zC]))
  refine Ap.run_chain rfl rfl (by rfl) (fun Wi hWi K' hK => ?_)
  have HTi := zH (HT.out.trans hWi)
  have hu6 := SL.flat (avoid (fun _ => False) (.slice (some ⟨gl, 0, none⟩) 0 0)) (HH1.out.keep (.of_step (HTB.out.trans HTi.out)))
  have hw20 := HO.out.w20
  refine wp_append_F (α := Wy) (S := fun _ => False) (base := wy.heap.size) (l := []) (m := h.ways) eiRWays _ _ rfl rfl rfl (HOWN.out.step hWi) hu6 h.ways.length (by simp) h.ways rfl (by simp only [maxLen]; omega) (by omega) HTi.out.size ?_
  intro p5 c5 w5 hown5 hg5 hloc5
  have HIS := zH (show gl + 1 ≤ Wi.heap.size by have := hWi.size; have := HGL.out.2; omega)
  have hx5 : StepX (fun j => j = gl) Wi w5 := .grown hg5 fun j hj _ => (Option.some.inj (show some gl = some j from hj)).symm
  have HT5 := zH (show Step wy w5 from StepX.fresh HTi.out hx5 fun j hj => by have := HGL.out.1; omega)
  have HOWN5 := zH hown5
  have HLOC := zH (show ∀ j, (Value.slice p5 h.ways.length c5).ownBlock = some j → gl = j ∨ (Wi.heap.size ≤ j ∧ j < w5.heap.size) from fun j hj => by
   rcases hloc5 j hj with q | q
   ·exact .inl (Option.some.inj (show some gl = some j from q))
   ·exact .inr ⟨q, (hown5.lt j hj).2⟩)
  refine hK _ _ (hx5.mono fun j _ hj => .inr ⟨by have := HGL.out.1; omega, fun hn => by
   have h1 := hn.2
   have h2 := HGL.out.2
   subst hj
   rcases h1 with h1 | h1 <;> omega⟩) ?_
  clear hK hWi hu6 hown5 hg5 hloc5 HTi hx5 HT HOWN hw20
  (try simp only [Act.put, zA, zB, zC])
  have HT := HT5
  clear HT5
  repeat ((first | (refine Ap.run_off rfl rfl (by rfl) ?_) | (refine Ap.run_chain_off rfl rfl (by rfl) (Ap.K0_mono _) ?_) | ((refine Ap.run_want rfl rfl (by rfl) ⟨?_, fun W hW => ?_, ?_⟩; rotate_left; (· (skip; go_simp; (try with_reducible rfl)))))); (try simp only [Act.put, zA, zB, zC]))
  refine Ap.run_make rfl (by rfl) rfl (fun w => ?_) (fun W2 g hW2 hg hgb hgN => ?_)
  ·go_simp
  have HU := zH (SL.flat (avoid (fun _ => False) (.slice p5 h.ways.length c5)) (SL.bx (S := fun _ => False) (l := [x]) (show Bx W2 g [.int .i64 x.frm, .int .i64 x.dst, .int .i64 x.cap, .int .i64 x.mins] 107 from hg) id 1 (by simp) (by simp) fun i hi => by match i, hi with | 0, _ => rfl))
  have HTz := zH (HT.out.trans hW2)
  have HOWN := zH (HOWN5.out.step hW2)
  clear HT HOWN5 hW2 hg hgb hgN
  have HT := HTz
  clear HTz
  (try simp only [Act.put, zA, zB, zC])
  repeat ((first | (refine Ap.run_off rfl rfl (by rfl) ?_) | (refine Ap.run_chain_off rfl rfl (by rfl) (Ap.K0_mono _) ?_) | ((refine Ap.run_want rfl rfl (by rfl) ⟨?_, fun W hW => ?_, ?_⟩; rotate_left; (· (skip; go_simp; (try with_reducible rfl)))))); (try simp only [Act.put, zA, zB, zC]))
  refine Ap.run_chain rfl rfl (by rfl) (fun Wj hWj K' hK => ?_)
  have HTi := zH (HT.out.trans hWj)
  have hw20 := HO.out.w20
  refine wp_append_F (α := Wy) (S := fun _ => False) (base := wy.heap.size) (l := h.ways) (m := [x]) eiRWays _ _ rfl rfl rfl (HOWN.out.step hWj) (HU.out.step hWj) (h.ways.length + 1) (by simp) (h.ways ++ [x]) rfl (by simp only [maxLen]; omega) (by omega) HTi.out.size ?_
  intro p6 c6 w6 hown6 hg6 _
  have hx6 : StepX (fun j => (Value.slice p5 h.ways.length c5).ownBlock = some j) Wj w6 := .grown hg6 fun j hj _ => hj
  have HT6 := zH (show Step wy w6 from StepX.fresh HTi.out hx6 fun j hj => (HOWN.out.lt j hj).1)
  have HOWN6 := zH hown6
  refine hK _ _ (hx6.mono fun j _ hj => .inr ⟨(HOWN.out.lt j hj).1, fun hn => by
   have h2 := HGL.out.2
   rcases HLOC.out j hj with q | ⟨q1, q2⟩
   ·have h3 := hn.1.1.2
    rcases h3 with h3 | h3 <;> omega
   ·have h3 := hn.1.2
    rcases h3 with h3 | h3 <;> omega⟩) ?_
  clear hK hWj hown6 hg6 HTi hx6 HT HOWN HU hw20
  (try simp only [Act.put, zA, zB, zC])
  have HT := HT6
  clear HT6
  repeat ((first | (refine Ap.run_off rfl rfl (by rfl) ?_) | (refine Ap.run_chain_off rfl rfl (by rfl) (Ap.K0_mono _) ?_) | ((refine Ap.run_want rfl rfl (by rfl) ⟨?_, fun W hW => ?_, ?_⟩; rotate_left; (· (skip; go_simp; (try with_reducible rfl)))))); (try simp only [Act.put, zA, zB, zC]))
  refine Ap.run_alloc rfl rfl (fun W5 gy hW5 hg hgb hgN => ?_)
  (try simp only [Act.put, zA, zB, zC])
  refine Ap.run_end (L := [_]) rfl (fun W6 hW6 => ?_)
  have hb6 := Bx.step (w := W5) (cs := [_, _]) hg hW6
  have HOWN7 := zH (HOWN6.out.step (hW5.trans hW6))
  have HT7 := zH (HT.out.trans (hW5.trans hW6))
  have HGY := zH hgb
  clear hW5 hg hgN hW6 hgb HT HOWN6
  refine wpl_store (v := .agg #[.slice p0 h.people.length k0, .slice p6 (h.ways.length + 1) c6]) rfl _ _ _ rfl rfl rfl hb6 (by kernel_rfl) (by simp [Value.cells]) (by simp [Value.cells, Value.oneCell']) [.slice p0 h.people.length k0, .slice p6 (h.ways.length + 1) c6] rfl (fun w9 hb9 hw9 => ?_)
  have HT9 := zH (HTB.out.trans (Step.wrote HT7.out hw9 HGY.out))
  have hown9 := ownF_row HOWN7.out (w' := w9) fun j hj => hw9.block j fun e => own_apart HOWN7.out hb6 (by decide) (by rw [hj, e])
  have HAVY := zH (show ∀ W, Step w9 W → AV (fun _ => False) W (.agg #[.slice p0 h.people.length k0, .slice p6 (h.ways.length + 1) c6]) (moreH h x) from fun W hW => ⟨[_, _], rfl, _, _, rfl, HH0.out.keep (.of_step (HT9.out.trans hW)), by
   have := ((ownL_flat (fun _ => False) hown9).slb fun _ _ h => h).keep (.of_step hW)
   simpa [moreH] using this⟩)
  have HBY := zH hb9
  have HLY := zH (show (moreH h x).people.length ≤ 1000 ∧ (moreH h x).ways.length ≤ 1000 by
   have h1 := HL.out
   have h2 := HO.out.w20
   refine ⟨h1.1, ?_⟩
   show (h.ways ++ [x]).length ≤ 1000
   simp; omega)
  have y0 := hb9.cell 0
  have y1 := hb9.cell 1
  simp only [zD, zE] at y0 y1
  clear hown9 hb9 hw9 hb6 HT7 HOWN7
  have HT := zH (Step.refl w9)
  go_wp2_with fail
  refine (RRightHall_any (fun _ => False) (moreH h x) _ _ (HAVY.out _ HT.out)).mono ?_
  rintro e wn ⟨rfl, hSn⟩
  have HTn := zH (HT.out.trans hSn)
  have HSN := zH hSn
  clear HT hSn
  have HT := HTn
  clear HTn
  clear HSN y0 y1
  cases hy : hallB (moreH h x) with
  | false =>
   clear hy
   have HT2 := zH (HT9.out.trans HT.out)
   clear HT
   have HT := HT2
   go_wp2_with fail
   refine (gwakes_any _).mono ?_
   rintro e wn ⟨rfl, hSn⟩
   have HTn := zH (HT.out.trans hSn)
   have HSN := zH hSn
   clear HT hSn
   have HT := HTn
   clear HTn
   go_wp2
   go_ret
   exact ⟨rfl, HS.out.trans HT.out⟩
  | true =>
  have HHY := zH hy
  clear hy
  have y0 := (HBY.out.step HT.out).cell 0
  have y1 := (HBY.out.step HT.out).cell 1
  simp only [zD, zE] at y0 y1
  go_wp2_with fail
  refine (GHall_any (fun _ => False) (moreH h x) _ _ (HAVY.out _ HT.out) HLY.out.1 HLY.out.2).mono ?_
  rintro e wn ⟨vy, rfl, hvy, hSn⟩
  have HVY := zH (av0 hvy)
  clear hvy y0 y1
  have HTn := zH (HT.out.trans hSn)
  have HSN := zH hSn
  clear HT hSn
  have HT := HTn
  clear HTn
  clear HSN
  go_wp2_with fail
  refine (Leave_any (fun _ => False) (moreH h x) _ _ HVY.out).mono ?_
  rintro e wn ⟨c', m, pl', vq, rfl, hM, hpl', hSn⟩
  obtain ⟨pq, kq, rfl⟩ := hpl'.form
  obtain ⟨rfl, hmn⟩ := HLV.out.le hM HQ.out HHY.out rfl (fun T F => more_feas (hallB_iff.1 HHY.out) F)
  have dmn2 : decide ((m : Int) ≤ (n : Int)) = true := decide_eq_true (Int.ofNat_le.2 hmn)
  have dmn3 : decide (m ≤ n) = true := decide_eq_true hmn
  clear hpl' hM hmn HVY
  have HTn := zH (HT.out.trans hSn)
  have HSN := zH hSn
  clear HT hSn
  have HT := HTn
  clear HTn
  clear HSN
  have HT2 := zH (HT9.out.trans HT.out)
  clear HT
  have HT := HT2
  go_wp2_with fail
  refine (gwakes_any _).mono ?_
  rintro e wn ⟨rfl, hSn⟩
  have HTn := zH (HT.out.trans hSn)
  have HSN := zH hSn
  clear HT hSn
  have HT := HTn
  clear HTn
  go_wp2
  go_ret
  exact ⟨rfl, HS.out.trans HT.out⟩
end Go.Proofs.Ytfhmdpicoccnfaa
