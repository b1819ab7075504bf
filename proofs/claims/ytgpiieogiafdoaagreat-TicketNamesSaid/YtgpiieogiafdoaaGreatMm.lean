/- Walks and plain laws, part m. -/
import Derived.Test.YtgpiieogiafdoaaGreatMa
import Derived.Test.YtgpiieogiafdoaaGreatMb
import Derived.Test.YtgpiieogiafdoaaGreatMc
import Derived.Test.YtgpiieogiafdoaaGreatMd
import Derived.Test.YtgpiieogiafdoaaGreatRows
import Derived.BigQuiet
import Derived.Deep.AppendLies
import Derived.Deep.DeepCutAuto
import Derived.Deep.QuietTactic
import Derived.Deep.RegionHeld3
import Derived.Lib.Hide
import Derived.WalkKit
import Derived.WalkLawsBesides
import Derived.WalkSmall
namespace Go.BT
open Go.RowKit
def KeepB (base : Nat) (w w' : World) : Prop := w.heap.size ≤ w'.heap.size ∧ ∀ g o, base ≤ g → w.heap[g]? = some o → w'.heap[g]? = some o
namespace Sc
open Go.RowKit
inductive Kd where
 | silent | chain | alloc (T : TypeId) (z : Value)
def madeV (z : Value) (g : Nat) : Value := match z with
 | .tuple xs => .slice (some ⟨g, 0, none⟩) xs.size xs.size
 | _ => .pointer (some ⟨g, 0, none⟩)
def madeC (z : Value) : Array Value := match z with
 | .tuple xs => xs
 | z => z.cells
def isTup (z : Value) : Bool := match z with
 | .tuple _ => true
 | _ => false
def Makes (P : Program) (ops : Array Oper) (i : Nat) (T : TypeId) (z : Value) : Prop := match z with
 | .tuple xs => ∃ o, ops[i]? = some o ∧ ∀ (a : Act) (w : World), (execOp a.eval o).run P w = .ok (.value (.slice (some ⟨w.heap.size, 0, none⟩) xs.size xs.size)) (w.alloc (.cells xs T))
 | z => (P.info? T).bind (·.zero) = some z
def QF : Exit → Act → World → Prop := fun _ _ _ => False
abbrev Cont := (Nat → Prop) → Act → World → Prop
def ContMono (K : Cont) : Prop := ∀ (N N' : Nat → Prop) a w w', (∀ g, N' g → N g) → Step w w' → K N a w → K N' a w'
section
variable (P : Program) (ops : Array Oper) (base : Nat) (kd : Nat → Kd)
def go (i : Nat) (K : Cont) : Cont := fun N a w =>
 match kd i with
 | .silent => ∃ o v, ops[i]? = some o ∧ YieldsIf P ops (Step w) o v a ∧ K N (a.put o.dst v) w
 | .chain => ∀ W, Step w W → wpOp P ops QF i (fun a' w' => KeepB base W w' ∧ K (fun g => N g ∧ (g < W.heap.size ∨ w'.heap.size ≤ g)) a' w') a W
 | .alloc T z => ∀ W g, Step w W → W.heap[g]? = some (.cells (madeC z) T (0, 0)) → base ≤ g → N g → K (fun x => N x ∧ x ≠ g) (a.put ((ops[i]?).bind (·.dst)) (madeV z g)) W
def run (l : List Nat) (K : Cont) : Cont := l.foldr (fun i K => go P ops base kd i K) K
variable {P ops base kd}
theorem YieldsIf.step {o : Oper} {v : Value} {a : Act} {w w' : World} (h : YieldsIf P ops (Step w) o v a) (hs : Step w w') : YieldsIf P ops (Step w') o v a :=
 h.imp (fun ⟨hw, hv⟩ => ⟨hw, fun W hW => hv W (hs.trans hW)⟩) id
theorem go_cong {i : Nat} {K K' : Cont} (h : ∀ N a w, K N a w → K' N a w) {N : Nat → Prop} {a : Act} {w : World} (hg : go P ops base kd i K N a w) : go P ops base kd i K' N a w := by
 unfold go at *
 split at hg
 ·obtain ⟨o, v, ho, hy, hk⟩ := hg; exact ⟨o, v, ho, hy, h _ _ _ hk⟩
 ·exact fun W hW => wpOp_mono (fun a' w' ⟨hs, hk⟩ => ⟨hs, h _ _ _ hk⟩) (hg W hW)
 ·exact fun W g h1 h2 h3 h4 => h _ _ _ (hg W g h1 h2 h3 h4)
theorem go_mono {i : Nat} {K : Cont} (hK : ContMono K) : ContMono (go P ops base kd i K) := by
 intro N N' a w w' hN hs hg
 unfold go at *
 split at hg
 ·obtain ⟨o, v, ho, hy, hk⟩ := hg; exact ⟨o, v, ho, YieldsIf.step hy hs, hK _ _ _ _ _ hN hs hk⟩
 ·exact fun W hW => wpOp_mono (fun a' w' ⟨hs', hk⟩ => ⟨hs', hK _ _ _ _ _ (fun g ⟨h1, h2⟩ => ⟨hN g h1, h2⟩) (Step.refl _) hk⟩) (hg W (hs.trans hW))
 ·exact fun W g h1 h2 h3 h4 => hK _ _ _ _ _ (fun x ⟨h5, h6⟩ => ⟨hN x h5, h6⟩) (Step.refl _) (hg W g (hs.trans h1) h2 h3 (hN g h4))
theorem run_mono {K : Cont} (hK : ContMono K) : ∀ l, ContMono (run P ops base kd l K)
 | [] => hK
 | _ :: l => go_mono (run_mono hK l)
theorem wpOp_under {j : Nat} {oj : Oper} {dst : Option Tmp} {v : Value} (hj : ops[j]? = some oj) (h1 : ∀ d, dst = some d → d ∉ oj.looksAt ops) (h2 : ∀ d, dst = some d → oj.dst ≠ some d)
  (hsj : ∀ cs b, oj.op ≠ .select cs b) {K : Act → World → Prop} {a : Act} {w : World} (h : wpOp P ops QF j K a w) :
  wpOp P ops QF j (fun a' w' => ∃ a0, a' = a0.put dst v ∧ K a0 w') (a.put dst v) w := by
 unfold wpOp at *
 simp only [hj] at *
 rw [wanted_put oj a dst v h1]
 split
 ·rename_i hw
  simp only [hw, if_true] at h
  rcases h with h | ⟨_, a0, w0, hF⟩
  case inr => exact hF.elim
  refine .inl ?_
  unfold Oper.wp at *
  rw [execOp_put oj hsj a dst v h1]
  generalize (execOp a.eval oj).run P w = r at *
  cases r with
  | ok n w' =>
   cases n <;> simp only [Oper.upon] at h ⊢
   case value u => exact ⟨_, (Act.put_comm a v u h2), h⟩
   case skip => exact ⟨_, (Act.put_comm a v undef h2), h⟩
   case defer d => exact ⟨_, (by rw [← Act.put_comm _ v undef h2]; cases dst <;> rfl), h⟩
   case enter f args =>
    refine Calls.mono h fun e w'' he => ?_
    cases e with
    | returned u => exact ⟨_, (Act.put_comm a v u h2), he⟩
    | panicked c => exact he.elim
    | outgrown => exact he
   case row row args => exact Rows.mono h fun u w'' he => ⟨_, (Act.put_comm a v u h2), he⟩
  | halt x w' =>
   cases x <;> simp only [Oper.upon] at h ⊢
   case panic u => exact h.elim
 ·rename_i hw
  simp only [hw] at h
  exact ⟨_, (Act.put_comm a v undef h2), h⟩
def swaps : Kd → Kd → Bool
 | .silent, .silent => true
 | .silent, .alloc _ _ => true
 | .chain, .alloc _ _ => true
 | .alloc _ _, .alloc _ _ => true
 | _, _ => false
theorem exch {i j : Nat} {oi oj : Oper} (hi : ops[i]? = some oi) (hj : ops[j]? = some oj) (hap : oi.apart ops oj = true)
  (hsi : ∀ cs b, oi.op ≠ .select cs b) (hsj : ∀ cs b, oj.op ≠ .select cs b) (hsw : swaps (kd i) (kd j) = true) {K : Cont} (hK : ContMono K) {N : Nat → Prop} {a : Act} {w : World}
  (h : go P ops base kd i (go P ops base kd j K) N a w) : go P ops base kd j (go P ops base kd i K) N a w := by
 obtain ⟨h1, h2, h3⟩ := Oper.apart_spec hap
 have keepI : ∀ {S : World → Prop} {v : Value} {a : Act} (u : Value), YieldsIf P ops S oi v a → YieldsIf P ops S oi v (a.put oj.dst u) := fun {S v a} u hy =>
  hy.of_same (execOp_put oi hsi a oj.dst u h3) (wanted_put oi a oj.dst u h3)
 have backJ : ∀ {S : World → Prop} {v u : Value} {a : Act}, YieldsIf P ops S oj v (a.put oi.dst u) → YieldsIf P ops S oj v a := fun {S v u a} hy =>
  hy.of_same (execOp_put oj hsj a oi.dst u h1).symm (wanted_put oj a oi.dst u h1).symm
 have hdi : (ops[i]?).bind (·.dst) = oi.dst := by rw [hi]; rfl
 have hdj : (ops[j]?).bind (·.dst) = oj.dst := by rw [hj]; rfl
 have hsome : ∀ {w w' : World} {g : Nat} {o : Obj}, Step w w' → base ≤ g → w.heap[g]? = some o → w'.heap[g]? = some o := fun {w w' g o} hs hb hg => by
  rw [hs.block g (Array.getElem?_eq_some_iff.1 hg).1 (fun hx => hx)]; exact hg
 cases hki : kd i with
 | silent =>
  cases hkj : kd j with
  | silent =>
   simp only [go, hki, hkj] at h ⊢
   obtain ⟨o, v, ho, hy, o', v', ho', hy', hk⟩ := h
   obtain rfl : oi = o := by rw [hi] at ho; exact Option.some.inj ho
   obtain rfl : oj = o' := by rw [hj] at ho'; exact Option.some.inj ho'
   exact ⟨_, v', hj, backJ hy', _, v, hi, keepI _ hy, by rw [← Act.put_comm a v v' h2]; exact hk⟩
  | chain => simp [hki, hkj, swaps] at hsw
  | alloc T z =>
   simp only [go, hki, hkj] at h ⊢
   obtain ⟨o, v, ho, hy, hk⟩ := h
   obtain rfl : oi = o := by rw [hi] at ho; exact Option.some.inj ho
   refine fun W g hs hb hg hN => ⟨_, v, hi, ?_, ?_⟩
   ·rw [hdj]; exact keepI _ (YieldsIf.step hy hs)
   ·rw [hdj, ← Act.put_comm a v _ h2, ← hdj]
    exact hk W g hs hb hg hN
 | chain =>
  cases hkj : kd j with
  | silent => simp [hki, hkj, swaps] at hsw
  | chain => simp [hki, hkj, swaps] at hsw
  | alloc T z =>
   simp only [go, hki, hkj] at h ⊢
   intro W0 g hs0 hb hg hN W hW
   refine wpOp_mono (fun a' w' hh => ?_) (wpOp_under (dst := (ops[j]?).bind (·.dst)) (v := madeV z g) hi (by rw [hdj]; exact h3) (by rw [hdj]; exact fun d hd he => h2 d he hd) hsi (h W (hs0.trans hW)))
   obtain ⟨a0, rfl, hs, hk⟩ := hh
   have hlt : g < W.heap.size := Nat.lt_of_lt_of_le (Array.getElem?_eq_some_iff.1 hb).1 hW.size
   exact ⟨hs, hK _ _ _ _ _ (fun x ⟨⟨q1, q2⟩, q3⟩ => ⟨⟨q1, q3⟩, q2⟩) (Step.refl _) (hk w' g (Step.refl _) (hs.2 g _ hg (hsome hW hg hb)) hg ⟨hN, .inl hlt⟩)⟩
 | alloc T z =>
  cases hkj : kd j with
  | silent => simp [hki, hkj, swaps] at hsw
  | chain => simp [hki, hkj, swaps] at hsw
  | alloc T' z' =>
   simp only [go, hki, hkj] at h ⊢
   intro W' g' hs' hb' hg' hN' W g hs hb hg ⟨hN, hne⟩
   rw [hdi, hdj] at *
   rw [← Act.put_comm a _ _ h2]
   exact hK _ _ _ _ _ (fun x ⟨⟨q1, q2⟩, q3⟩ => ⟨⟨q1, q3⟩, q2⟩) (Step.refl _) (h W g (hs'.trans hs) hb hg hN W g' (Step.refl _) (hsome hs hg' hb') hg' ⟨hN', fun e => hne e.symm⟩)
def bitsOf (tab : List Nat) (j : Nat) (l : List Edge) : Nat := l.foldl (fun acc e => if Region.binds .any e && decide (e.on < j) then acc ||| (2 ^ e.on ||| tab.getD e.on 0) else acc) 0
def okTab (tab : List Nat) (ops : Array Oper) : Bool := (List.range ops.size).all fun j => match ops[j]? with
 | none => true
 | some o => tab.getD j 0 == bitsOf tab j o.after.toList
def ancB (tab : List Nat) (i j : Nat) : Bool := (tab.getD j 0).testBit i
theorem bits_of {tab : List Nat} {j i : Nat} : ∀ {l : List Edge} {acc : Nat}, (l.foldl (fun acc e => if Region.binds .any e && decide (e.on < j) then acc ||| (2 ^ e.on ||| tab.getD e.on 0) else acc) acc).testBit i = true →
  acc.testBit i = true ∨ ∃ e ∈ l, Region.binds .any e = true ∧ e.on < j ∧ (e.on = i ∨ ancB tab i e.on = true) := by
 intro l
 induction l with
 | nil => intro acc h; exact .inl h
 | cons x l ih =>
  intro acc h
  rw [List.foldl_cons] at h
  rcases ih h with h1 | ⟨e, he, h2⟩
  ·split at h1
   ·rename_i hx
    simp only [Bool.and_eq_true, decide_eq_true_eq] at hx
    rw [Nat.testBit_or, Nat.testBit_or, Nat.testBit_two_pow, Bool.or_eq_true, Bool.or_eq_true, decide_eq_true_eq] at h1
    rcases h1 with h1 | h1
    ·exact .inl h1
    ·exact .inr ⟨x, List.mem_cons_self, hx.1, hx.2, h1⟩
   ·exact .inl h1
  ·exact .inr ⟨e, List.mem_cons_of_mem _ he, h2⟩
def okPair (tab : List Nat) (ops : Array Oper) (kd : Nat → Kd) (i j : Nat) : Bool :=
 ancB tab i j || match ops[i]?, ops[j]? with
  | some oi, some oj => oi.apart ops oj && swaps (kd i) (kd j)
  | _, _ => false
def okList (tab : List Nat) (ops : Array Oper) (kd : Nat → Kd) : List Nat → Bool
 | [] => true
 | i :: l => l.all (okPair tab ops kd i) && okList tab ops kd l
def okTail (tab : List Nat) (before : List Nat) : List Nat → Bool
 | [] => true
 | x :: t => before.all (fun y => ancB tab y x) && okTail tab (before ++ [x]) t
def isSil : Kd → Bool
 | .silent => true
 | _ => false
def isMove (ops : Array Oper) (i : Nat) : Bool := match ops[i]? with
 | some o => (match o.op with | .move _ => true | .extract _ _ => true | _ => false)
 | none => false
def okWait (strict : Bool) (tab : List Nat) (ops : Array Oper) (kd : Nat → Kd) (y x : Nat) : Bool :=
 ancB tab y x || (!strict && isSil (kd y) && isMove ops y && match ops[y]?, ops[x]? with
  | some oy, some ox => oy.apart ops ox
  | _, _ => false)
def okDeps (ops : Array Oper) (seen : List Nat) : List Nat → Bool
 | [] => true
 | x :: l => (match ops[x]? with
  | none => false
  | some o => o.after.all fun e => !Region.binds .any e || seen.contains e.on) && okDeps ops (seen ++ [x]) l
def okAlloc (ops : Array Oper) (kd : Nat → Kd) (l : List Nat) : Bool :=
 l.all fun i => match kd i, ops[i]? with
  | .alloc T z, some o => o.guard.isNone && (isTup z || match o.op with | .alloc T' => T == T' | _ => false)
  | .alloc _ _, none => false
  | _, _ => true
def okSeq (strict : Bool) (tab : List Nat) (ops : Array Oper) (kd : Nat → Kd) (l t : List Nat) : Bool :=
 okTab tab ops && okList tab ops kd l && (l.all fun y => t.all fun x => okWait strict tab ops kd y x) && okTail tab [] t && okDeps ops [] (l ++ t) && okAlloc ops kd l && Region.noSelect ops && (List.range ops.size).all (fun i => (l ++ t).contains i) && (l ++ t).all (fun i => decide (i < ops.size)) && decide (l ++ t).Nodup
def Closed (ops : Array Oper) (listed : Array Bool) : Prop :=
 ∀ x o, ops[x]? = some o → listed.getD x true = true → ∀ e ∈ o.after, Region.binds .any e = true → listed.getD e.on false = true
theorem getD_tf' {listed : Array Bool} {i : Nat} (h : i < listed.size) (hl : listed.getD i false = true) : listed.getD i true = true := by
 simp [h] at hl ⊢; exact hl
variable {tab : List Nat}
theorem anc_listed {listed : Array Bool} (hsz : listed.size = ops.size) (hc : Closed ops listed) (ht : okTab tab ops = true) : ∀ j i o, ops[j]? = some o → (∀ e ∈ o.after, Region.binds .any e = true → listed.getD e.on false = true) →
  ancB tab i j = true → listed.getD i false = true := by
 intro j
 induction j using Nat.strongRecOn with
 | _ j ih =>
  intro i o ho hd h
  have hj : j < ops.size := (Array.getElem?_eq_some_iff.1 ho).1
  have h1 := List.all_eq_true.1 ht j (List.mem_range.2 hj)
  simp only [ho, beq_iff_eq] at h1
  unfold ancB at h
  rw [h1] at h
  rcases bits_of h with h2 | ⟨e, he, hb, hlt, h2⟩
  ·simp at h2
  ·have hl := hd e (by simpa using he) hb
   rcases h2 with rfl | h2
   ·exact hl
   ·have hej : e.on < ops.size := by omega
    exact ih e.on hlt i ops[e.on] (Array.getElem?_eq_getElem hej) (hc e.on _ (Array.getElem?_eq_getElem hej) (getD_tf' (by omega) hl)) h2
theorem bring {K : Cont} (hK : ContMono K) (hsel : Region.noSelect ops = true) {j : Nat} {oj : Oper} (hj : ops[j]? = some oj) : ∀ (l1 l2 : List Nat) (N : Nat → Prop) (a : Act) (w : World),
  (∀ i ∈ l1, ∃ oi, ops[i]? = some oi ∧ oi.apart ops oj = true ∧ swaps (kd i) (kd j) = true) → run P ops base kd (l1 ++ j :: l2) K N a w → go P ops base kd j (run P ops base kd (l1 ++ l2) K) N a w := by
 intro l1
 induction l1 with
 | nil => intro l2 N a w _ h; exact h
 | cons i l1 ih =>
  intro l2 N a w hall h
  obtain ⟨oi, hi, hap, hsw⟩ := hall i (by simp)
  have h' : go P ops base kd i (go P ops base kd j (run P ops base kd (l1 ++ l2) K)) N a w :=
   go_cong (fun N a w hh => ih l2 N a w (fun k hk => hall k (by simp [hk])) hh) h
  exact exch hi hj hap (Region.noSelect_spec hsel i oi · · hi) (Region.noSelect_spec hsel j oj · · hj) hsw (run_mono hK _) h'
theorem okList_drop {l1 l2 : List Nat} {j : Nat} (h : okList tab ops kd (l1 ++ j :: l2) = true) : okList tab ops kd (l1 ++ l2) = true ∧ ∀ i ∈ l1, okPair tab ops kd i j = true := by
 induction l1 with
 | nil => simp only [List.nil_append, okList, Bool.and_eq_true] at h; exact ⟨h.2, by simp⟩
 | cons i l1 ih =>
  simp only [List.cons_append, okList, Bool.and_eq_true, List.all_eq_true] at h ⊢
  obtain ⟨h1, h2⟩ := ih h.2
  refine ⟨⟨fun x hx => h.1 x ?_, h1⟩, fun x hx => ?_⟩
  ·simp only [List.mem_append, List.mem_cons] at hx ⊢; rcases hx with hx | hx <;> simp [hx]
  ·rcases List.mem_cons.1 hx with rfl | hx
   ·exact h.1 j (by simp)
   ·exact h2 x hx
def TailOk (tab : List Nat) (l t : List Nat) : Prop := ∀ t1 x t2, t = t1 ++ x :: t2 → ∀ y ∈ l ++ t1, ancB tab y x = true
def DepsOk (ops : Array Oper) (listed : Array Bool) (L : List Nat) : Prop := ∀ L1 x L2, L = L1 ++ x :: L2 → ∃ o, ops[x]? = some o ∧ ∀ e ∈ o.after, Region.binds .any e = true → listed.getD e.on false = true ∨ e.on ∈ L1
theorem tailOk_of {t : List Nat} : ∀ {b : List Nat}, okTail tab b t = true → TailOk tab b t := by
 induction t with
 | nil => intro b _ t1 x t2 h; exact absurd h (by simp)
 | cons z t ih =>
  intro b h t1 x t2 he y hy
  simp only [okTail, Bool.and_eq_true, List.all_eq_true] at h
  cases t1 with
  | nil =>
   simp only [List.nil_append, List.cons.injEq] at he
   obtain ⟨rfl, rfl⟩ := he
   exact h.1 y (by simpa using hy)
  | cons z' t1 =>
   simp only [List.cons_append, List.cons.injEq] at he
   obtain ⟨rfl, rfl⟩ := he
   exact ih h.2 t1 x t2 rfl y (by simpa using hy)
theorem depsOk_of {listed : Array Bool} {L : List Nat} : ∀ {seen : List Nat}, okDeps ops seen L = true → ∀ L1 x L2, L = L1 ++ x :: L2 → ∃ o, ops[x]? = some o ∧ ∀ e ∈ o.after, Region.binds .any e = true → listed.getD e.on false = true ∨ e.on ∈ seen ++ L1 := by
 induction L with
 | nil => intro b _ t1 x t2 h; exact absurd h (by simp)
 | cons z t ih =>
  intro b h t1 x t2 he
  simp only [okDeps, Bool.and_eq_true] at h
  cases t1 with
  | nil =>
   simp only [List.nil_append, List.cons.injEq] at he
   obtain ⟨rfl, rfl⟩ := he
   cases ho : ops[z]? with
   | none => simp [ho] at h
   | some o =>
    simp only [ho, Array.all_eq_true_iff_forall_mem, Bool.or_eq_true, Bool.not_eq_true', List.contains_iff_mem] at h
    exact ⟨o, rfl, fun e he hb => .inr (by have := (h.1 e he).resolve_left (by simp [hb]); simpa using this)⟩
  | cons z' t1 =>
   simp only [List.cons_append, List.cons.injEq] at he
   obtain ⟨rfl, rfl⟩ := he
   obtain ⟨o, ho, hh⟩ := ih h.2 t1 x t2 rfl
   exact ⟨o, ho, fun e he hb => (hh e he hb).imp id (by simp)⟩
def K0 (P : Program) (ops : Array Oper) (Q : Exit → Act → World → Prop) (t : List Nat) : Cont := fun _ a w => ∀ W, Step w W → wpOps P ops Q t a W
theorem K0_mono {Q : Exit → Act → World → Prop} (t : List Nat) : ContMono (K0 P ops Q t) := fun _ _ _ _ _ _ hs h W hW => h W (hs.trans hW)
theorem wpOp_any {Q : Exit → Act → World → Prop} {i : Nat} {K : Act → World → Prop} {a : Act} {w : World} (h : wpOp P ops QF i K a w) : wpOp P ops Q i K a w := by
 unfold wpOp at *
 cases ho : ops[i]? with
 | none => simp only [ho] at h; exact h
 | some o =>
  simp only [ho] at h ⊢
  split
  ·rename_i hw
   simp only [hw, if_true] at h
   rcases h with h | ⟨_, a0, w0, hF⟩
   case inr => exact hF.elim
   refine .inl ?_
   unfold Oper.wp at *
   generalize (execOp a.eval o).run P w = r at *
   cases r with
   | ok n w' =>
    cases n <;> simp only [Oper.upon] at h ⊢ <;> first
     | exact h
     | exact Calls.mono h (fun e w'' he => by cases e <;> first | exact he | exact he.elim | (obtain ⟨_, _, hF⟩ := he; exact hF.elim))
   | halt x w' => cases x <;> simp only [Oper.upon] at h ⊢ <;> exact h.elim
  ·rename_i hw
   simp only [hw] at h
   exact h
theorem wpOp_alloc {Q : Exit → Act → World → Prop} {i : Nat} {o : Oper} {T : TypeId} {z : Value} {K : Act → World → Prop} {a : Act} {w : World} (ho : ops[i]? = some o) (hop : (isTup z || match o.op with | .alloc T' => T == T' | _ => false) = true) (hg : o.guard = none)
  (hz : Makes P ops i T z) (h : K (a.put o.dst (madeV z w.heap.size)) (w.alloc (.cells (madeC z) T))) : wpOp P ops Q i K a w := by
 unfold wpOp
 simp only [ho, Region.wanted, hg, if_true]
 refine .inl ?_
 unfold Oper.wp
 have hr : (execOp a.eval o).run P w = .ok (.value (madeV z w.heap.size)) (w.alloc (.cells (madeC z) T)) := by
  by_cases ht : ∃ xs, z = .tuple xs
  ·obtain ⟨xs, rfl⟩ := ht
   obtain ⟨o', ho', hrun⟩ := hz
   obtain rfl : o = o' := by rw [ho] at ho'; exact Option.some.inj ho'
   exact hrun _ _
  ·have h1 : isTup z = false := by cases z <;> simp [isTup] at ht ⊢
   have h2 : madeV z w.heap.size = .pointer (some ⟨w.heap.size, 0, none⟩) := by cases z <;> simp [isTup] at h1 <;> rfl
   have h3 : madeC z = z.cells := by cases z <;> simp [isTup] at h1 <;> rfl
   have h4 : (P.info? T).bind (·.zero) = some z := by cases z <;> simp [isTup] at h1 <;> exact hz
   rw [h1, Bool.false_or] at hop
   have hop' : o.op = .alloc T := by
    cases hopp : o.op <;> simp [hopp] at hop
    rw [hop]
   obtain ⟨inf, hi, hzz⟩ := Option.bind_eq_some_iff.1 h4
   rw [h2, h3]
   simp [execOp, hop', Instr.alloc, zeroValue, typeInfo, hi, hzz, newVar, newRow, newObj, Result.andThen]
   rfl
 rw [hr]
 exact h
theorem getD_tf {listed : Array Bool} {i : Nat} (h : i < listed.size) : listed.getD i true = listed.getD i false := by simp [h]
theorem getD_set {listed : Array Bool} {i j : Nat} (hi : i < listed.size) : (listed.setIfInBounds i true).getD j true = (listed.getD j true || decide (i = j)) := by
 by_cases hij : i = j
 ·subst hij; simp [hi]
 ·rw [getD_set_ne true hij]; simp [hij]
theorem depsOk_drop {listed : Array Bool} {L1 L2 : List Nat} {j : Nat} (hj : j < listed.size) (h : DepsOk ops listed (L1 ++ j :: L2)) : DepsOk ops (listed.setIfInBounds j true) (L1 ++ L2) := by
 intro M1 x M2 he
 have keep : ∀ {k}, listed.getD k false = true → (listed.setIfInBounds j true).getD k false = true := fun {k} hk => getD_set_true hk
 rcases List.append_eq_append_iff.1 he with ⟨r, h1, h2⟩ | ⟨r, h1, h2⟩
 ·-- M1 = L1 ++ r, L2 = r ++ x :: M2
  subst h1 h2
  obtain ⟨o, ho, hh⟩ := h (L1 ++ j :: r) x M2 (by simp)
  refine ⟨o, ho, fun e hee hb => ?_⟩
  rcases hh e hee hb with hl | hm
  ·exact .inl (keep hl)
  ·simp only [List.mem_append, List.mem_cons] at hm ⊢
   rcases hm with hm | rfl | hm
   ·exact .inr (.inl hm)
   ·exact .inl (by simp [hj])
   ·exact .inr (.inr hm)
 ·-- L1 = M1 ++ r, x :: M2 = r ++ L2
  cases r with
  | nil =>
   simp only [List.append_nil, List.nil_append] at h1 h2
   subst h1
   obtain ⟨o, ho, hh⟩ := h (L1 ++ [j]) x M2 (by simp [h2])
   refine ⟨o, ho, fun e hee hb => ?_⟩
   rcases hh e hee hb with hl | hm
   ·exact .inl (keep hl)
   ·simp only [List.mem_append, List.mem_singleton] at hm
    rcases hm with hm | rfl
    ·exact .inr hm
    ·exact .inl (by simp [hj])
  | cons y r =>
   simp only [List.cons_append, List.cons.injEq] at h2
   obtain ⟨rfl, rfl⟩ := h2
   subst h1
   obtain ⟨o, ho, hh⟩ := h M1 x (r ++ j :: L2) (by simp)
   exact ⟨o, ho, fun e hee hb => (hh e hee hb).imp keep id⟩
theorem nodup_mid {L1 L2 : List Nat} {j : Nat} (h : (L1 ++ j :: L2).Nodup) : j ∉ L1 ++ L2 ∧ (L1 ++ L2).Nodup := by
 rw [List.nodup_append] at h
 obtain ⟨h1, h2, h3⟩ := h
 rw [List.nodup_cons] at h2
 refine ⟨?_, ?_⟩
 ·rw [List.mem_append]
  rintro (hj | hj)
  ·exact h3 j hj j (by simp) rfl
  ·exact h2.1 hj
 ·rw [List.nodup_append]
  exact ⟨h1, h2.2, fun a ha b hb => h3 a ha b (by simp [hb])⟩
theorem unlisted_drop {listed : Array Bool} {j : Nat} {L1 L2 : List Nat} (hsz : j < listed.size) (hun : ∀ i, i < ops.size → (listed.getD i true = false ↔ i ∈ L1 ++ j :: L2)) (hnd : (L1 ++ j :: L2).Nodup) :
  ∀ i, i < ops.size → ((listed.setIfInBounds j true).getD i true = false ↔ i ∈ L1 ++ L2) := by
 intro i hi
 rw [getD_set hsz, Bool.or_eq_false_iff, decide_eq_false_iff_not, hun i hi]
 obtain ⟨h1, _⟩ := nodup_mid hnd
 simp only [List.mem_append, List.mem_cons] at h1 ⊢
 constructor
 ·rintro ⟨h2 | h2 | h2, h3⟩
  ·exact .inl h2
  ·exact absurd h2.symm h3
  ·exact .inr h2
 ·intro h2
  refine ⟨h2.elim .inl (fun h => .inr (.inr h)), fun e => ?_⟩
  subst e; exact h1 h2
theorem closed_set {listed : Array Bool} {j : Nat} {oj : Oper} (hsz : j < listed.size) (hoj : ops[j]? = some oj) (hdj : ∀ e ∈ oj.after, Region.binds .any e = true → listed.getD e.on false = true) (hcl : Closed ops listed) :
  Closed ops (listed.setIfInBounds j true) := fun x o ho hx e he hb => by
 rw [getD_set hsz, Bool.or_eq_true, decide_eq_true_eq] at hx
 rcases hx with hx | rfl
 ·exact getD_set_true (hcl x o ho hx e he hb)
 ·rw [hoj] at ho; obtain rfl := Option.some.inj ho; exact getD_set_true (hdj e he hb)
theorem tail_sound {Q : Exit → Act → World → Prop} : ∀ (fuel : Nat) (t : List Nat) (listed : Array Bool) (a : Act) (w : World),
  t.length ≤ fuel → listed.size = ops.size → (∀ i, i < ops.size → (listed.getD i true = false ↔ i ∈ t)) → (∀ i ∈ t, i < ops.size) → t.Nodup → Closed ops listed →
  okTab tab ops = true → TailOk tab [] t → DepsOk ops listed t → wpOps P ops Q t a w → wpAny P .any ops Q fuel listed a w := by
 intro fuel
 induction fuel with
 | zero =>
  intro t listed a w hf hsz hun hin hnd hcl htab htail hdeps h
  have ht : t = [] := List.eq_nil_of_length_eq_zero (by omega)
  subst ht
  refine ⟨?_, by simpa [wpOps] using h⟩
  rw [List.eq_nil_iff_forall_not_mem]
  intro j hj
  obtain ⟨h0, o, ho, _⟩ := mem_ready.1 hj
  have := (hun j (Array.getElem?_eq_some_iff.1 ho).1).1 h0
  simp at this
 | succ fuel ih =>
  intro t listed a w hf hsz hun hin hnd hcl htab htail hdeps h
  refine ⟨fun hr => ?_, fun j hj => ?_⟩
  ·cases t with
   | nil => simpa [wpOps] using h
   | cons x L =>
    exfalso
    obtain ⟨o, ho, hh⟩ := hdeps [] x L rfl
    have hx : x ∈ Region.ready .any ops listed := mem_ready.2 ⟨(hun x (hin x (by simp))).2 (by simp), o, ho, fun e he hb => (hh e he hb).resolve_right (by simp)⟩
    rw [hr] at hx; cases hx
  ·obtain ⟨h0, oj, hoj, hdj⟩ := mem_ready.1 hj
   have hjlt := (Array.getElem?_eq_some_iff.1 hoj).1
   have hjsz : j < listed.size := by omega
   obtain ⟨t1, t2, rfl⟩ := List.append_of_mem ((hun j hjlt).1 h0)
   have ht1 : t1 = [] := by
    rw [List.eq_nil_iff_forall_not_mem]
    intro i hi
    have h1 := anc_listed hsz hcl htab j i oj hoj hdj (htail t1 j t2 rfl i (by simp [hi]))
    have h2 := (hun i (hin i (by simp [hi]))).2 (by simp [hi])
    rw [getD_tf (by rw [hsz]; exact hin i (by simp [hi])), h1] at h2
    cases h2
   subst ht1
   rw [List.nil_append, wpOps_cons] at h
   refine wpOp_mono (fun a' w' hk => ?_) h
   have hnd' := nodup_mid hnd
   refine ih t2 _ a' w' (by simp at hf; omega) (by simp [hsz]) (by have := unlisted_drop (L1 := []) (L2 := t2) hjsz hun hnd; simpa using this) (fun i hi => hin i (by simp [hi])) (by simpa using hnd'.2)
    (closed_set hjsz hoj hdj hcl) htab (fun u1 x u2 he y hy => htail (j :: u1) x u2 (by simp [he]) y (by simp at hy ⊢; exact .inr hy)) (by have := depsOk_drop (L1 := []) (L2 := t2) hjsz hdeps; simpa using this) hk
def runM (P : Program) (ops : Array Oper) : List Nat → (Act → Prop) → Act → Prop
 | [], K, a => K a
 | i :: l, K, a => ∃ o v, ops[i]? = some o ∧ YieldsIf P ops (fun _ => True) o v a ∧ runM P ops l K (a.put o.dst v)
theorem runM_mono {K K' : Act → Prop} (h : ∀ a, K a → K' a) : ∀ {l : List Nat} {a : Act}, runM P ops l K a → runM P ops l K' a
 | [], _, hr => h _ hr
 | _ :: _, _, ⟨o, v, ho, hy, hr⟩ => ⟨o, v, ho, hy, runM_mono h hr⟩
theorem move_yields {S : World → Prop} {o : Oper} {v : Value} {a : Act} {w : World} {i : Nat} (ho : ops[i]? = some o) (hm : isMove ops i = true) (hs : S w) (h : YieldsIf P ops S o v a) : YieldsIf P ops (fun _ => True) o v a := by
 rcases h with ⟨hw, hv⟩ | h
 ·refine .inl ⟨hw, fun W _ => ?_⟩
  have h1 := hv w hs
  unfold isMove at hm
  rw [ho] at hm
  simp only at hm
  cases hop : o.op <;> simp [hop] at hm
  ·simp [execOp, hop] at h1 ⊢
   exact h1
  ·rename_i x ix
   have h2 : ∀ (u : Value) (n : Nat), (∃ y, Instr.extract u n = pure y) ∨ ∃ t, Instr.extract u n = stuck t := fun u n => by
    unfold Instr.extract
    split
    ·split
     ·exact .inl ⟨_, rfl⟩
     ·exact .inr ⟨_, rfl⟩
    ·exact .inr ⟨_, rfl⟩
   rcases h2 (a.eval x) ix with ⟨y, h3⟩ | ⟨t, h3⟩
   ·simp [execOp, hop, h3] at h1 ⊢
    exact h1
   ·simp [execOp, hop, h3] at h1
 ·exact .inr h
theorem runM_of_run {Q : Exit → Act → World → Prop} {t : List Nat} {w : World} : ∀ {l : List Nat} {N : Nat → Prop} {a : Act}, (∀ y ∈ l, isSil (kd y) = true ∧ isMove ops y = true) → run P ops base kd l (K0 P ops Q t) N a w → runM P ops l (fun a => wpOps P ops Q t a w) a := by
 intro l
 induction l with
 | nil => intro N a _ h; exact h w (Step.refl w)
 | cons i l ih =>
  intro N a hl h
  obtain ⟨h1, h2⟩ := hl i (by simp)
  have h' : go P ops base kd i (run P ops base kd l (K0 P ops Q t)) N a w := h
  unfold go at h'
  cases hk : kd i <;> simp [hk, isSil] at h1
  rw [hk] at h'
  obtain ⟨o, v, ho, hy, hr⟩ := h'
  exact ⟨o, v, ho, move_yields ho h2 (Step.refl w) hy, ih (fun y hy => hl y (by simp [hy])) hr⟩
theorem bringM (hsel : Region.noSelect ops = true) {K : Act → Prop} {j : Nat} {oj : Oper} (hj : ops[j]? = some oj) : ∀ {l1 l2 : List Nat} {a : Act}, (∀ i ∈ l1, ∃ oi, ops[i]? = some oi ∧ oi.apart ops oj = true) → runM P ops (l1 ++ j :: l2) K a →
  ∃ v, YieldsIf P ops (fun _ => True) oj v a ∧ runM P ops (l1 ++ l2) K (a.put oj.dst v) := by
 intro l1
 induction l1 with
 | nil =>
  intro l2 a _ h
  obtain ⟨o, v, ho, hy, hr⟩ := h
  obtain rfl : oj = o := by rw [hj] at ho; exact Option.some.inj ho
  exact ⟨v, hy, hr⟩
 | cons i l1 ih =>
  intro l2 a hall h
  obtain ⟨oi', hi', hap⟩ := hall i (by simp)
  obtain ⟨oi, vi, hi, hyi, hr⟩ := h
  obtain rfl : oi' = oi := by rw [hi] at hi'; exact (Option.some.inj hi').symm
  obtain ⟨v, hyj, hr2⟩ := ih (fun k hk => hall k (by simp [hk])) hr
  obtain ⟨h1, h2, h3⟩ := Oper.apart_spec hap
  have hsi := (Region.noSelect_spec hsel i oi' · · hi)
  have hsj := (Region.noSelect_spec hsel j oj · · hj)
  refine ⟨v, hyj.of_same (execOp_put oj hsj a oi'.dst vi h1).symm (wanted_put oj a oi'.dst vi h1).symm, oi', vi, hi, hyi.of_same (execOp_put oi' hsi a oj.dst v h3) (wanted_put oi' a oj.dst v h3), ?_⟩
  rw [← Act.put_comm a vi v h2]
  exact hr2
theorem tailM (hsel : Region.noSelect ops = true) {Q : Exit → Act → World → Prop} (hQ : ∀ c d v a w, Q (.panic c) (Act.put a d v) w → Q (.panic c) a w) {j : Nat} {oj : Oper} (hj : ops[j]? = some oj) {K : Act → World → Prop} {w : World} : ∀ {l : List Nat} {a : Act},
  (∀ i ∈ l, ∃ oi, ops[i]? = some oi ∧ oi.apart ops oj = true) → runM P ops l (fun a => wpOp P ops Q j K a w) a → wpOp P ops Q j (fun a' w' => runM P ops l (fun a => K a w') a') a w := by
 intro l
 induction l with
 | nil => intro a _ h; exact h
 | cons i l ih =>
  intro a hall h
  obtain ⟨oi', hi', hap⟩ := hall i (by simp)
  obtain ⟨oi, vi, hi, hyi, hr⟩ := h
  obtain rfl : oi' = oi := by rw [hi] at hi'; exact (Option.some.inj hi').symm
  have h1 := ih (fun k hk => hall k (by simp [hk])) hr
  refine wpOp_mono (fun a' w' hh => ?_) (wpOp_putIf (S := fun _ => True) hj hap (Region.noSelect_spec hsel i oi' · · hi) (Region.noSelect_spec hsel j oj · · hj) (fun c a w => hQ c _ _ a w) hyi h1)
  exact ⟨oi', vi, hi, hh.1, hh.2⟩
theorem mixed_sound {Q : Exit → Act → World → Prop} (hsel : Region.noSelect ops = true) (hQ : ∀ c d v a w, Q (.panic c) (Act.put a d v) w → Q (.panic c) a w) : ∀ (fuel : Nat) (l t : List Nat) (listed : Array Bool) (a : Act) (w : World),
  l.length + t.length ≤ fuel → listed.size = ops.size → (∀ i, i < ops.size → (listed.getD i true = false ↔ i ∈ l ++ t)) → (∀ i ∈ l ++ t, i < ops.size) → (l ++ t).Nodup → Closed ops listed →
  okTab tab ops = true → okList tab ops kd l = true → (∀ y ∈ l, ∀ x ∈ t, ancB tab y x = true ∨ ∃ oy ox, ops[y]? = some oy ∧ ops[x]? = some ox ∧ oy.apart ops ox = true) → TailOk tab [] t → DepsOk ops listed (l ++ t) →
  runM P ops l (fun a => wpOps P ops Q t a w) a → wpAny P .any ops Q fuel listed a w := by
 intro fuel
 induction fuel with
 | zero =>
  intro l t listed a w hf hsz hun hin hnd hcl htab _ _ htail hdeps h
  have hl : l = [] := List.eq_nil_of_length_eq_zero (by omega)
  subst hl
  exact tail_sound 0 t listed a w (by simpa using hf) hsz hun hin hnd hcl htab htail hdeps h
 | succ fuel ih =>
  intro l t listed a w hf hsz hun hin hnd hcl htab hlist hwait htail hdeps h
  by_cases hl : l = []
  ·subst hl
   exact tail_sound _ t listed a w (by simpa using hf) hsz hun hin hnd hcl htab htail hdeps h
  refine ⟨fun hr => ?_, fun j hj => ?_⟩
  ·exfalso
   cases l with
   | nil => exact hl rfl
   | cons x L =>
    obtain ⟨o, ho, hh⟩ := hdeps [] x (L ++ t) (by simp)
    have hx : x ∈ Region.ready .any ops listed := mem_ready.2 ⟨(hun x (hin x (by simp))).2 (by simp), o, ho, fun e he hb => (hh e he hb).resolve_right (by simp)⟩
    rw [hr] at hx; cases hx
  ·obtain ⟨h0, oj, hoj, hdj⟩ := mem_ready.1 hj
   have hjlt := (Array.getElem?_eq_some_iff.1 hoj).1
   have hjsz : j < listed.size := by omega
   have hjm := (hun j hjlt).1 h0
   have hcl' := closed_set hjsz hoj hdj hcl
   have notanc : ∀ i ∈ l ++ t, ancB tab i j = true → False := fun i hi ha => by
    have h1 := anc_listed hsz hcl htab j i oj hoj hdj ha
    have h2 := (hun i (hin i hi)).2 hi
    rw [getD_tf (by rw [hsz]; exact hin i hi), h1] at h2
    cases h2
   rcases List.mem_append.1 hjm with hjl | hjt
   ·obtain ⟨l1, l2, rfl⟩ := List.append_of_mem hjl
    obtain ⟨hlist', hpair⟩ := okList_drop hlist
    have hall : ∀ i ∈ l1, ∃ oi, ops[i]? = some oi ∧ oi.apart ops oj = true := fun i hi => by
     have hp := hpair i hi
     simp only [okPair, Bool.or_eq_true] at hp
     rcases hp with hp | hp
     ·exact (notanc i (by simp [hi]) hp).elim
     ·cases hoi : ops[i]? with
      | none => simp [hoi] at hp
      | some oi =>
       simp only [hoi, hoj, Bool.and_eq_true] at hp
       exact ⟨oi, rfl, hp.1⟩
    obtain ⟨v, hy, hr⟩ := bringM hsel hoj hall h
    have he : (l1 ++ j :: l2) ++ t = l1 ++ j :: (l2 ++ t) := by simp
    refine hy.wpOp hoj trivial (ih (l1 ++ l2) t _ _ w (by simp at hf ⊢; omega) (by simp [hsz]) (by have := unlisted_drop (L1 := l1) (L2 := l2 ++ t) hjsz (by rw [← he]; exact hun) (by rw [← he]; exact hnd); simpa using this)
     (fun i hi => hin i (by simp only [List.mem_append, List.mem_cons] at hi ⊢; rcases hi with (hi | hi) | hi <;> simp [hi]))
     (by have := (nodup_mid (by rw [← he]; exact hnd)).2; simpa using this) hcl' htab hlist' (fun y hy x hx => hwait y (by simp only [List.mem_append, List.mem_cons] at hy ⊢; rcases hy with hy | hy <;> simp [hy]) x hx) htail
     (by have := depsOk_drop (L1 := l1) (L2 := l2 ++ t) hjsz (by rw [← he]; exact hdeps); simpa using this) hr)
   ·obtain ⟨t1, t2, rfl⟩ := List.append_of_mem hjt
    have ht1 : t1 = [] := by
     rw [List.eq_nil_iff_forall_not_mem]
     intro i hi
     exact notanc i (by simp [hi]) (htail t1 j t2 rfl i (by simp [hi]))
    subst ht1
    have hall : ∀ i ∈ l, ∃ oi, ops[i]? = some oi ∧ oi.apart ops oj = true := fun i hi => by
     rcases hwait i hi j (by simp) with h1 | ⟨oy, ox, h1, h2, h3⟩
     ·exact (notanc i (by simp [hi]) h1).elim
     ·obtain rfl : oj = ox := by rw [hoj] at h2; exact Option.some.inj h2
      exact ⟨oy, h1, h3⟩
    have h' : runM P ops l (fun a => wpOp P ops Q j (wpOps P ops Q t2) a w) a := runM_mono (fun a hh => by rw [List.nil_append, wpOps_cons] at hh; exact hh) h
    have he : l ++ ([] ++ j :: t2) = l ++ j :: t2 := by simp
    refine wpOp_mono (fun a' w' hk => ?_) (tailM hsel hQ hoj hall h')
    exact ih l t2 _ a' w' (by simp at hf; omega) (by simp [hsz]) (by have := unlisted_drop (L1 := l) (L2 := t2) hjsz (by rw [← he]; exact hun) (by rw [← he]; exact hnd); simpa using this)
     (fun i hi => hin i (by simp only [List.mem_append, List.nil_append, List.mem_cons] at hi ⊢; rcases hi with hi | hi <;> simp [hi])) (by have := (nodup_mid (by rw [← he]; exact hnd)).2; simpa using this) hcl' htab hlist
     (fun y hy x hx => hwait y hy x (by simp [hx])) (fun u1 x u2 hu y hy => htail (j :: u1) x u2 (by simp [hu]) y (by simp at hy ⊢; exact .inr hy)) (by have := depsOk_drop (L1 := l) (L2 := t2) hjsz (by rw [← he]; exact hdeps); simpa using this) hk
theorem seq_sound {Q : Exit → Act → World → Prop} (hsel : Region.noSelect ops = true) {strict : Bool} (hQ : strict = true ∨ ∀ c d v a w, Q (.panic c) (Act.put a d v) w → Q (.panic c) a w) : ∀ (fuel : Nat) (l t : List Nat) (listed : Array Bool) (N : Nat → Prop) (a : Act) (w : World),
  l.length + t.length ≤ fuel → listed.size = ops.size → (∀ i, i < ops.size → (listed.getD i true = false ↔ i ∈ l ++ t)) → (∀ i ∈ l ++ t, i < ops.size) → (l ++ t).Nodup → Closed ops listed →
  okTab tab ops = true → okList tab ops kd l = true → (∀ y ∈ l, ∀ x ∈ t, okWait strict tab ops kd y x = true) → TailOk tab [] t → DepsOk ops listed (l ++ t) → okAlloc ops kd l = true → (∀ i T z, i ∈ l → kd i = .alloc T z → Makes P ops i T z) →
  (∀ g, w.heap.size ≤ g → N g) → base ≤ w.heap.size → run P ops base kd l (K0 P ops Q t) N a w → wpAny P .any ops Q fuel listed a w := by
 intro fuel
 induction fuel with
 | zero =>
  intro l t listed N a w hf hsz hun hin hnd hcl htab _ _ htail hdeps _ _ _ _ h
  have hl : l = [] := List.eq_nil_of_length_eq_zero (by omega)
  subst hl
  exact tail_sound 0 t listed a w (by simpa using hf) hsz hun hin hnd hcl htab htail hdeps (h w (Step.refl w))
 | succ fuel ih =>
  intro l t listed N a w hf hsz hun hin hnd hcl htab hlist hwait htail hdeps halloc hz hN hbase h
  by_cases hl : l = []
  ·subst hl
   exact tail_sound _ t listed a w (by simpa using hf) hsz hun hin hnd hcl htab htail hdeps (h w (Step.refl w))
  refine ⟨fun hr => ?_, fun j hj => ?_⟩
  ·-- nothing may come up: but something is left
   exfalso
   cases l with
   | nil => exact hl rfl
   | cons x L =>
    obtain ⟨o, ho, hh⟩ := hdeps [] x (L ++ t) (by simp)
    have hx : x ∈ Region.ready .any ops listed := mem_ready.2 ⟨(hun x (hin x (by simp))).2 (by simp), o, ho, fun e he hb => (hh e he hb).resolve_right (by simp)⟩
    rw [hr] at hx; cases hx
  ·obtain ⟨h0, oj, hoj, hdj⟩ := mem_ready.1 hj
   have hjlt := (Array.getElem?_eq_some_iff.1 hoj).1
   have hjsz : j < listed.size := by omega
   have hjm := (hun j hjlt).1 h0
   have hcl' := closed_set hjsz hoj hdj hcl
   have notanc : ∀ i ∈ l ++ t, ancB tab i j = true → False := fun i hi ha => by
    have h1 := anc_listed hsz hcl htab j i oj hoj hdj ha
    have h2 := (hun i (hin i hi)).2 hi
    rw [getD_tf (by rw [hsz]; exact hin i hi), h1] at h2
    cases h2
   rcases List.mem_append.1 hjm with hjl | hjt
   ·-- one of the first part
    obtain ⟨l1, l2, rfl⟩ := List.append_of_mem hjl
    obtain ⟨hlist', hpair⟩ := okList_drop hlist
    have hall : ∀ i ∈ l1, ∃ oi, ops[i]? = some oi ∧ oi.apart ops oj = true ∧ swaps (kd i) (kd j) = true := fun i hi => by
     have hp := hpair i hi
     simp only [okPair, Bool.or_eq_true] at hp
     rcases hp with hp | hp
     ·exact (notanc i (by simp [hi]) hp).elim
     ·cases hoi : ops[i]? with
      | none => simp [hoi] at hp
      | some oi =>
       simp only [hoi, hoj, Bool.and_eq_true] at hp
       exact ⟨oi, rfl, hp.1, hp.2⟩
    have hb := bring (K0_mono t) hsel hoj l1 l2 N a w hall h
    have he : (l1 ++ j :: l2) ++ t = l1 ++ j :: (l2 ++ t) := by simp
    have next : ∀ (N' : Nat → Prop) (a' : Act) (w' : World), (∀ g, w'.heap.size ≤ g → N' g) → w.heap.size ≤ w'.heap.size → run P ops base kd (l1 ++ l2) (K0 P ops Q t) N' a' w' → wpAny P .any ops Q fuel (listed.setIfInBounds j true) a' w' :=
     fun N' a' w' hN' hsz' hr => ih (l1 ++ l2) t _ N' a' w' (by simp at hf ⊢; omega) (by simp [hsz]) (by have := unlisted_drop (L1 := l1) (L2 := l2 ++ t) hjsz (by rw [← he]; exact hun) (by rw [← he]; exact hnd); simpa using this)
      (fun i hi => hin i (by simp only [List.mem_append, List.mem_cons] at hi ⊢; rcases hi with (hi | hi) | hi <;> simp [hi]))
      (by have := (nodup_mid (by rw [← he]; exact hnd)).2; simpa using this) hcl' htab hlist' (fun y hy x hx => hwait y (by simp only [List.mem_append, List.mem_cons] at hy ⊢; rcases hy with hy | hy <;> simp [hy]) x hx) htail
      (by have := depsOk_drop (L1 := l1) (L2 := l2 ++ t) hjsz (by rw [← he]; exact hdeps); simpa using this)
      (by simp only [okAlloc, List.all_eq_true, List.mem_append, List.mem_cons] at halloc ⊢; exact fun x hx => halloc x (hx.elim .inl (fun h => .inr (.inr h))))
      (fun i T z hi => hz i T z (by simp only [List.mem_append, List.mem_cons] at hi ⊢; rcases hi with hi | hi <;> simp [hi])) hN' (by omega) hr
    cases hk : kd j with
    | silent =>
     simp only [go, hk] at hb
     obtain ⟨o, v, ho, hy, hr⟩ := hb
     exact hy.wpOp ho (Step.refl w) (next N _ w hN (Nat.le_refl _) hr)
    | chain =>
     simp only [go, hk] at hb
     exact wpOp_any (wpOp_mono (fun a' w' ⟨hs, hr⟩ => next _ a' w' (fun g hg => ⟨hN g (Nat.le_trans hs.1 hg), .inr hg⟩) hs.1 hr) (hb w (Step.refl w)))
    | alloc T z =>
     simp only [go, hk] at hb
     have hal := halloc
     simp only [okAlloc, List.all_eq_true] at hal
     have hal := hal j (by simp)
     simp only [hk, hoj, Bool.and_eq_true] at hal
     obtain ⟨hg, hop⟩ := hal
     refine wpOp_alloc hoj hop (by simpa using hg) (hz j T z (by simp) hk) ?_
     have hd : (ops[j]?).bind (·.dst) = oj.dst := by rw [hoj]; rfl
     rw [hd] at hb
     exact next _ _ _ (fun g hgg => ⟨hN g (by simp at hgg; omega), by simp at hgg; omega⟩) (by simp) (hb (w.alloc (.cells (madeC z) T)) w.heap.size (Step.alloc _ _) (heap_alloc_new w _) hbase (hN _ (Nat.le_refl _)))
   ·-- the tail waits, but for moves
    have hw1 : ∀ y ∈ l, ancB tab y j = true ∨ (strict = false ∧ isSil (kd y) = true ∧ isMove ops y = true ∧ ∃ oy, ops[y]? = some oy ∧ oy.apart ops oj = true) := fun y hy => by
     have := hwait y hy j hjt
     simp only [okWait, Bool.or_eq_true, Bool.and_eq_true, Bool.not_eq_true'] at this
     rcases this with h1 | ⟨⟨⟨h1, h2⟩, h3⟩, h4⟩
     ·exact .inl h1
     ·cases hoy : ops[y]? with
      | none => simp [hoy] at h4
      | some oy => simp only [hoy, hoj] at h4; exact .inr ⟨h1, h2, h3, oy, rfl, h4⟩
    have hw2 : ∀ y ∈ l, strict = false ∧ isSil (kd y) = true ∧ isMove ops y = true := fun y hy => by
     rcases hw1 y hy with h1 | ⟨h1, h2, h3, _⟩
     ·exact (notanc y (by simp [hy]) h1).elim
     ·exact ⟨h1, h2, h3⟩
    have hst : strict = false := by
     cases l with
     | nil => exact (hl rfl).elim
     | cons x L => exact (hw2 x (by simp)).1
    have hQ' := hQ.resolve_left (by rw [hst]; decide)
    have hm := mixed_sound hsel hQ' (fuel + 1) l t listed a w hf hsz hun hin hnd hcl htab hlist (fun y hy x hx => by
     have := hwait y hy x hx
     simp only [okWait, Bool.or_eq_true, Bool.and_eq_true, Bool.not_eq_true'] at this
     rcases this with h1 | ⟨_, h4⟩
     ·exact .inl h1
     ·cases hoy : ops[y]? with
      | none => simp [hoy] at h4
      | some oy =>
       cases hox : ops[x]? with
       | none => simp [hoy, hox] at h4
       | some ox => simp only [hoy, hox] at h4; exact .inr ⟨oy, ox, rfl, rfl, h4⟩) htail hdeps (runM_of_run (fun y hy => (hw2 y hy).2) h)
    exact hm.2 j hj
theorem wp_region_seqG {id : Nat} {Q : Exit → Act → World → Prop} {a : Act} {w : World} (kd : Nat → Kd) (strict : Bool) (hQ : strict = true ∨ ∀ c d v a w, Q (.panic c) (Act.put a d v) w → Q (.panic c) a w) (tab l t : List Nat) (hm : P.follows .mixedOrders = true) (hok : okSeq strict tab ops kd l t = true)
  (hz : ∀ i T z, i ∈ l → kd i = .alloc T z → Makes P ops i T z)
  (h : ∀ W, Step w W → run P ops w.heap.size kd l (K0 P ops Q t) (fun _ => True) a W) : (Code.region id ops true).wp P Q a w := by
 simp only [okSeq, Bool.and_eq_true, List.all_eq_true, decide_eq_true_eq, List.mem_range, List.contains_iff_mem] at hok
 obtain ⟨⟨⟨⟨⟨⟨⟨⟨⟨h0, h1⟩, h9⟩, h2⟩, h3⟩, h4⟩, h5⟩, h6⟩, h7⟩, h8⟩ := hok
 refine wp_region_any hm ?_
 refine seq_sound (base := w.heap.size) (kd := kd) h5 hQ ops.size l t _ (fun _ => True) a w.drew ?_ (by simp) ?_ h7 h8 ?_ h0 h1 h9 (tailOk_of h2) ?_ h4 hz (fun _ _ => trivial) (by simp) (h w.drew (Step.drew w))
 ·-- no more than the region has
  have hsub : (l ++ t).length ≤ (List.range ops.size).length := h8.length_le_of_subset (fun i hi => List.mem_range.2 (h7 i hi))
  simpa using hsub
 ·intro i hi
  simp only [Array.getD_eq_getD_getElem?, Array.getElem?_replicate, hi, if_true, Option.getD_some, true_iff]
  exact h6 i hi
 ·intro x o ho hx
  have hlt := (Array.getElem?_eq_some_iff.1 ho).1
  simp [hlt] at hx
 ·intro L1 x L2 he
  obtain ⟨o, ho, hh⟩ := depsOk_of (listed := Array.replicate ops.size false) h3 L1 x L2 he
  exact ⟨o, ho, by simpa using hh⟩
theorem wp_region_seqCM {id : Nat} {Q : Exit → Act → World → Prop} {a : Act} {w : World} (hQ : ∀ c d v a w, Q (.panic c) (Act.put a d v) w → Q (.panic c) a w) (kd : Nat → Kd) (tab l t : List Nat) (hm : P.follows .mixedOrders = true) (hok : okSeq false tab ops kd l t = true)
  (hz : ∀ i T z, i ∈ l → kd i = .alloc T z → Makes P ops i T z)
  (h : ∀ W, Step w W → run P ops w.heap.size kd l (K0 P ops Q t) (fun _ => True) a W) : (Code.region id ops true).wp P Q a w :=
 wp_region_seqG kd false (.inr hQ) tab l t hm hok hz h
def kdOf (calls : List Nat) (allocs : List (Nat × TypeId × Value)) (i : Nat) : Kd :=
 if calls.contains i then .chain else match allocs.find? (fun x => x.1 == i) with
  | some (_, T, z) => .alloc T z
  | none => .silent
section
variable {K : Cont} {N : Nat → Prop} {a : Act} {w : World} {i : Nat} {l : List Nat} {o : Oper}
theorem run_silent {v : Value} (hk : kd i = .silent) (ho : ops.toList[i]? = some o) (hy : YieldsIf P ops (Step w) o v a) (h : run P ops base kd l K N (a.put o.dst v) w) : run P ops base kd (i :: l) K N a w := by
 show go P ops base kd i _ N a w
 unfold go; rw [hk]; exact ⟨o, v, by simpa using ho, hy, h⟩
theorem run_want (hk : kd i = .silent) (ho : ops.toList[i]? = some o) (hw : Region.wanted o (yielded ops a.tmps) = true) (h : ∃ v, (∀ W, Step w W → (execOp a.eval o).run P W = .ok (.value v) W) ∧ run P ops base kd l K N (a.put o.dst v) w) :
  run P ops base kd (i :: l) K N a w := by
 obtain ⟨v, h1, h2⟩ := h
 exact run_silent hk ho (.inl ⟨hw, h1⟩) h2
theorem run_off (hk : kd i = .silent) (ho : ops.toList[i]? = some o) (hw : Region.wanted o (yielded ops a.tmps) = false) (h : run P ops base kd l K N (a.put o.dst undef) w) : run P ops base kd (i :: l) K N a w :=
 run_silent hk ho (.inr ⟨hw, rfl⟩) h
theorem run_chain (hk : kd i = .chain) (ho : ops.toList[i]? = some o) (hw : Region.wanted o (yielded ops a.tmps) = true)
  (h : ∀ W, Step w W → ∀ K' : Act → World → Prop, (∀ a' w', KeepB base W w' → run P ops base kd l K (fun g => N g ∧ (g < W.heap.size ∨ w'.heap.size ≤ g)) a' w' → K' a' w') → o.wp P a W K' QF) : run P ops base kd (i :: l) K N a w := by
 show go P ops base kd i _ N a w
 have ho : ops[i]? = some o := by simpa using ho
 unfold go; rw [hk]
 intro W hW
 unfold wpOp; simp only [ho, hw, if_true]
 exact .inl (h W hW _ (fun a' w' hs hr => ⟨hs, hr⟩))
theorem run_chain_off (hk : kd i = .chain) (ho : ops.toList[i]? = some o) (hw : Region.wanted o (yielded ops a.tmps) = false) (hK : ContMono K)
  (h : run P ops base kd l K N (a.put o.dst undef) w) : run P ops base kd (i :: l) K N a w := by
 show go P ops base kd i _ N a w
 have ho : ops[i]? = some o := by simpa using ho
 unfold go; rw [hk]
 intro W hW
 unfold wpOp; simp only [ho, hw]
 exact ⟨⟨Nat.le_refl _, fun _ _ _ h => h⟩, run_mono hK l _ _ _ _ _ (fun g hg => hg.1) hW h⟩
theorem run_alloc {T : TypeId} {z : Value} (hk : kd i = .alloc T z) (ho : ops.toList[i]? = some o)
  (h : ∀ W g, Step w W → W.heap[g]? = some (.cells z.cells T (0, 0)) → base ≤ g → N g → run P ops base kd l K (fun x => N x ∧ x ≠ g) (a.put o.dst (.pointer (some ⟨g, 0, none⟩))) W)
  (hv : ∀ g, madeV z g = .pointer (some ⟨g, 0, none⟩) := by exact fun _ => rfl) (hc : madeC z = z.cells := by exact rfl) : run P ops base kd (i :: l) K N a w := by
 show go P ops base kd i _ N a w
 have ho : ops[i]? = some o := by simpa using ho
 unfold go; rw [hk, ho]
 intro W g h1 h2 h3 h4
 rw [hc] at h2
 rw [hv]
 exact h W g h1 h2 h3 h4
theorem run_consts {T : TypeId} {xs : Array Value} (hk : kd i = .alloc T (.tuple xs)) (ho : ops.toList[i]? = some o)
  (h : ∀ W g, Step w W → W.heap[g]? = some (.cells xs T (0, 0)) → base ≤ g → N g → run P ops base kd l K (fun x => N x ∧ x ≠ g) (a.put o.dst (.slice (some ⟨g, 0, none⟩) xs.size xs.size)) W) : run P ops base kd (i :: l) K N a w := by
 show go P ops base kd i _ N a w
 have ho : ops[i]? = some o := by simpa using ho
 unfold go; rw [hk, ho]; exact h
theorem run_end {Q : Exit → Act → World → Prop} {t : List Nat} {L : List Oper} (ht : t.map (fun i => ops.toList[i]?) = L.map some) (h : ∀ W, Step w W → wpList P ops Q L a W) : run P ops base kd [] (K0 P ops Q t) N a w := by
 intro W hW
 have h' := h W hW
 clear h hW
 show wpOps P ops Q t a W
 induction t generalizing L a W with
 | nil =>
  cases L with
  | nil => exact h'
  | cons _ _ => simp at ht
 | cons x t ih =>
  cases L with
  | nil => simp at ht
  | cons o L =>
   simp only [List.map_cons, List.cons.injEq, Array.getElem?_toList] at ht
   rw [wpOps_cons]
   unfold wpOp
   unfold wpList at h'
   simp only [ht.1]
   split
   ·rename_i hw
    rw [if_pos hw] at h'
    exact h'.imp (Oper.wp_mono fun a' w' hh => ih (by simpa using ht.2) w' hh) id
   ·rename_i hw
    rw [if_neg hw] at h'
    exact ih (by simpa using ht.2) W h'
end
end
end Sc
end Go.BT
namespace Go.Proofs.YtgpiieogiafdoaaGreat
set_option linter.unusedSimpArgs false
set_option linter.unusedVariables false
open Go.RowKit Go.BT
theorem actE_kind {w : Wd} {x : ActT} (hk : x.kind < 1 ∨ 5 < x.kind) : actE w x = 1 := by unfold actE; rw [if_pos hk]
theorem actE_agency {w : Wd} {x : ActT} (hk : ¬ (x.kind < 1 ∨ 5 < x.kind)) (ha : withinB x.agency 0 (w.books.length - 1) = false) : actE w x = 2 := by unfold actE; rw [if_neg hk, if_pos ha]
theorem actE_mess {w : Wd} {x : ActT} (hk : ¬ (x.kind < 1 ∨ 5 < x.kind)) (ha : withinB x.agency 0 (w.books.length - 1) = true) (hm : x.kind = 4 ∧ withinB x.msg 0 (w.msgs.length - 1) = false) : actE w x = 2 := by unfold actE; rw [if_neg hk, if_neg (by simp [ha]), if_pos hm]
theorem actE_zero {w : Wd} {x : ActT} (hk : ¬ (x.kind < 1 ∨ 5 < x.kind)) (ha : withinB x.agency 0 (w.books.length - 1) = true) (hm : x.kind = 4 → withinB x.msg 0 (w.msgs.length - 1) = true) : actE w x = 0 := by
 unfold actE
 rw [if_neg hk, if_neg (by simp [ha]), if_neg (fun hh => by rw [hm hh.1] at hh; exact absurd hh.2 (by decide))]
theorem actD_err {h : House} {w : Wd} {x : ActT} {c : Int} (he : actE w x = c) (hc : c ≠ 0) : actD h w x = (w, c) := by
 unfold actD
 rw [he, if_neg hc]
theorem actD_refused {h : House} {w : Wd} {x : ActT} {b : Book} {i : Nat} {c : Int} (hv : valid h = true) (he : actE w x = 0) (hi : x.agency = i) (hb : w.books.getD i noBook = b) (hk : bookB h b = true) (hr : deskD h w b x = .error c) : actD h w x = (w, c) := by
 unfold actD
 rw [if_pos he, hi, Int.toNat_natCast, hb, gate_ok hv hk, hr]
 rfl
theorem actD_done {h : House} {w : Wd} {x : ActT} {b b' : Book} {ms : List BT.Message} {i : Nat} (hv : valid h = true) (he : actE w x = 0) (hi : x.agency = i) (hb : w.books.getD i noBook = b) (hk : bookB h b = true) (hr : deskD h w b x = .ok (b', ms)) : actD h w x = (⟨w.books.set i b', w.msgs ++ ms⟩, 0) := by
 unfold actD
 rw [if_pos he, hi, Int.toNat_natCast, hb, gate_ok hv hk, hr]
 rfl
def ActEnds (X : Nat → Prop) (n0 gp : Nat) (h : House) (Wd : Wd) (x : ActT) (c0 c1 c2 c3 c4 vb vm : Value) (w : World) (e : Ending) (w' : World) : Prop :=
 ∃ vm', e = .returned (.int .i64 (actD h Wd x).2) ∧ Play X n0 w' gp h (actD h Wd x).1 c0 c1 c2 c3 c4 vb vm' ∧ StepX (fun j => j = gp ∨ vb.ownBlock = some j ∨ vm.ownBlock = some j) w w'
theorem ActEnds.no {X : Nat → Prop} {n0 gp : Nat} {h : House} {Wd : Wd} {x : ActT} {c0 c1 c2 c3 c4 vb vm : Value} {w w' : World} {c : Int} (P : Play X n0 w' gp h Wd c0 c1 c2 c3 c4 vb vm) (hS : Step w w') (he : actD h Wd x = (Wd, c)) : ActEnds X n0 gp h Wd x c0 c1 c2 c3 c4 vb vm w (.returned (.int .i64 c)) w' := by
 unfold ActEnds
 rw [he]
 exact ⟨vm, rfl, P, .of hS⟩
theorem ActEnds.yes {X : Nat → Prop} {n0 gp : Nat} {h : House} {Wd W2 : BT.Wd} {x : ActT} {c0 c1 c2 c3 c4 vb vm vm' : Value} {w w' : World} (P : Play X n0 w' gp h W2 c0 c1 c2 c3 c4 vb vm') (hS : StepX (fun j => j = gp ∨ vb.ownBlock = some j ∨ vm.ownBlock = some j) w w') (he : actD h Wd x = (W2, 0)) : ActEnds X n0 gp h Wd x c0 c1 c2 c3 c4 vb vm w (.returned (.int .i64 0)) w' := by
 unfold ActEnds
 rw [he]
 exact ⟨vm', rfl, P, hS⟩
theorem ActEnds.err {X : Nat → Prop} {n0 gp : Nat} {h : House} {Wd : Wd} {x : ActT} {c0 c1 c2 c3 c4 vb vm : Value} {w w' : World} {c : Int} (P : Play X n0 w gp h Wd c0 c1 c2 c3 c4 vb vm) (hS : Step w w') (he : actE Wd x = c) (hc : c ≠ 0) : ActEnds X n0 gp h Wd x c0 c1 c2 c3 c4 vb vm w (.returned (.int .i64 c)) w' := by
 unfold ActEnds
 rw [actD_err he hc]
 exact ⟨vm, rfl, P.step hS, .of hS⟩
set_option maxHeartbeats 4000000 in
theorem Play.put {X : Nat → Prop} {n0 : Nat} {w : World} {gp : Nat} {h : House} {W : Wd} {c0 c1 c2 c3 c4 vb vm : Value} (P : Play X n0 w gp h W c0 c1 c2 c3 c4 vb vm) {i : Nat} (hi : i < W.books.length) :
    ∃ g cap cs, vb = .slice (some ⟨g, 0, none⟩) W.books.length cap ∧ Bx w g cs 77 ∧ i * 6 + 6 ≤ cs.length ∧ ∀ w' ds (b' : Book), Rep.rep (avoid (fun j => (X j ∨ j < n0) ∨ j = gp ∨ vm.ownBlock = some j) vb) w ds b' → Wrote g w w' → Bx w' g (cs.take (i * 6) ++ ds ++ cs.drop (i * 6 + 6)) 77 →
      Play X n0 w' gp h ⟨W.books.set i b', W.msgs⟩ c0 c1 c2 c3 c4 vb vm := by
  obtain ⟨g, cap, cs, hvb, hgb, hbx, hcs, _, hput⟩ := P.books.row_put hi
  refine ⟨g, cap, cs, hvb, hbx, hcs, fun w' ds b' hr hw hb => ?_⟩
  have hown : vb.ownBlock = some g := by rw [hvb]; rfl
  have hng := P.bxx g hown
  exact { bx := P.bx.keep hw.keeps fun e => hng.2 e.symm, low := P.low, house := Rep.keep (.wrote hw hgb) P.house, books := hput w' ds b' hr hw hb,
          msgs := P.msgs.wrote hw (.inr (.inr hown)) (P.apart g hown), xlow := P.xlow, gx := P.gx, bxx := P.bxx, mxx := P.mxx }
theorem Play.msgT {X : Nat → Prop} {n0 : Nat} {w : World} {gp : Nat} {h : House} {W : Wd} {c0 c1 c2 c3 c4 vb vm : Value} (P : Play X n0 w gp h W c0 c1 c2 c3 c4 vb vm) : ∀ k, vm.ownBlock = some k → TyB w 86 k := by
 intro k hk
 obtain ⟨xs, ho, _⟩ := P.msgs
 rcases ho.2 with ⟨rfl, _⟩ | ⟨g, cap, cur, rfl, _, hg, _⟩
 ·simp [Value.ownBlock] at hk
 ·obtain rfl : g = k := by simpa [Value.ownBlock] using hk
  exact ⟨cur, _, hg⟩
theorem done_act {X : Nat → Prop} {gp n0 ak ax ab : Nat} {h : House} {Wd : Wd} {c0 c1 c2 c3 c4 vb vm c8 u v : Value} (hv : valid h = true) (b : Book) (hbk : bookB h b = true) (S : Nat → Prop) (x : ActT) (w : World) (m : Nat) (hm : m ≤ w.heap.size) (hXl : ∀ j, X j → j < w.heap.size) (P : Play (fun j => X j ∨ m ≤ j) n0 w gp h Wd c0 c1 c2 c3 c4 vb vm)
  (h8 : SL S w c8 x.seats) (hk : Bx w ak kinds 156) (hx : Bx w ax [.int .u8 x.kind, .int .i64 x.agency, .int .i64 x.shw, .int .i64 x.seat, .int .i64 x.buyer, .int .i64 x.day, .int .i64 x.dst, .int .i64 x.msg, c8] 100) (hp : w.cell? ⟨ab, 0, none⟩ = some (.pointer (some ⟨gp, 0, none⟩)))
  (hk1 : 1 ≤ x.kind) (hk5 : x.kind ≤ 5) (hi : x.kind = 4 → withinB x.msg 0 (Wd.msgs.length - 1) = true) (hsl : x.seats.length ≤ 1000000) (hml : Wd.msgs.length ≤ 1000)
  (hu : AV (fun j => j = gp ∨ vm.ownBlock = some j) w u b) (hvv : AV (fun j => j = gp ∨ vm.ownBlock = some j) w v h) :
  Calls Tryz.prog 66 #[v, u, .func (.func 94) #[] #[.pointer (some ⟨ak, 0, none⟩), .pointer (some ⟨ax, 0, none⟩), .pointer (some ⟨ab, 0, none⟩)]] w (fun e w' => DoneEndsT (fun j => j = gp ∨ vm.ownBlock = some j) (bookOf (deskD h Wd b x)) (fun Z => ∃ vm', Play (fun j => X j ∨ (m ≤ j ∧ j < w.heap.size + 4)) n0 Z gp h ⟨Wd.books, Wd.msgs ++ restOf [] (deskD h Wd b x)⟩ c0 c1 c2 c3 c4 vb vm') w e w') := by
 have hd := done_anyT (fun j => j = gp ∨ vm.ownBlock = some j) h b v u w 94 #[.pointer (some ⟨ak, 0, none⟩), .pointer (some ⟨ax, 0, none⟩), .pointer (some ⟨ab, 0, none⟩)] (Go.Proofs.enters_of Tryz.func94 (by kernel_rfl) rfl)
  (fun j => j = gp ∨ vm.ownBlock = some j) (bookOf (deskD h Wd b x)) (fun Z => ∃ vm', Play (fun j => X j ∨ (m ≤ j ∧ j < w.heap.size + 4)) n0 Z gp h ⟨Wd.books, Wd.msgs ++ restOf [] (deskD h Wd b x)⟩ c0 c1 c2 c3 c4 vb vm') hvv hu
  (fun j hj => ⟨hj, hj.elim (fun e => e ▸ P.bx.lt) fun e => (P.msgs.lt j e).2⟩) (fun W W' ⟨vm', PP⟩ hX => ⟨vm', PP.keep (hX.keeps.mono fun j _ hj => .inr ⟨by omega, hj.2⟩)⟩)
  (fun hck W base g hSW h1 h2 hD => act1_any (X := fun j => X j ∨ m ≤ j) (XI := fun j => X j ∨ (m ≤ j ∧ j < w.heap.size + 4)) hD (okDesk_of hck).1 (okDesk_cash hck) h2 x ((h8.weak (T := fun j => base ≤ j) fun j a b => absurd b (by omega)).keep (.of_step hSW))
   (P.step hSW) (fun j hj => .inr (by omega)) (fun j hj => hj.elim (fun a => ⟨.inl a, by have := hXl j a; omega⟩) fun a => ⟨.inr a.1, by omega⟩) hsl hml (hk.step hSW) (hx.step hSW) (hSW.kc hp) hk1 hk5 hi)
 rw [show doneR h b (bookOf (deskD h Wd b x)) = bookOf (deskD h Wd b x) by simp [doneR, checkR, hv, hbk]] at hd
 exact hd
theorem deskD_err {h : House} {w : Wd} {b : Book} {x : ActT} {c : Int} (hr : deskD h w b x = .error c) : c ≠ 0 := by
 have hw : ∀ r : Except Int Book, withNone r = .error c → r = .error c := by
  intro r hr
  cases r with
  | ok b => cases hr
  | error d => injection hr with hr; rw [hr]
 unfold deskD at hr
 split at hr
 ·have := hw _ hr; unfold sellD at this; split at this
  ·cases this
  ·injection this with this; omega
 split at hr
 ·have := hw _ hr; unfold refundD at this; split at this
  ·cases this
  ·injection this with this; omega
 split at hr
 ·unfold giveD at hr; split at hr
  ·cases hr
  ·injection hr with hr; omega
 split at hr
 ·have := hw _ hr; unfold takeD at this; split at this
  ·cases this
  ·injection this with this; omega
 ·have := hw _ hr; unfold loseD at this; split at this
  ·cases this
  ·injection this with this; omega
theorem _root_.Go.BT.Wrote.stepX {g : Nat} {w w' : World} (h : Wrote g w w') : StepX (fun j => j = g) w w' := ⟨h.os, h.tape, h.output, Nat.le_of_eq h.size.symm, fun j _ hn => h.block j hn⟩
set_option maxRecDepth 100000 in
set_option maxHeartbeats 8000000 in
theorem act_any {X : Nat → Prop} {gp n0 : Nat} {h : House} {Wd : Wd} {c0 c1 c2 c3 c4 vb vm : Value} (hv : valid h = true) (hw : WdOk h Wd) (S : Nat → Prop) (x : ActT) (u : Value) (w : World) (hx : AV S w u x) (hXl : ∀ j, X j → j < w.heap.size) (P : Play X n0 w gp h Wd c0 c1 c2 c3 c4 vb vm) (hsl : x.seats.length ≤ 1000000) (hml : Wd.msgs.length ≤ 1000) :
  Calls Tryz.prog 46 #[.pointer (some ⟨gp, 0, none⟩), u] w (fun e w' => ActEnds X n0 gp h Wd x c0 c1 c2 c3 c4 vb vm w e w') := by
 obtain ⟨c8, rfl, h8, hk0, hk1⟩ := hx.act
 obtain ⟨p8, k8, rfl⟩ := h8.form
 obtain ⟨W2, hW2⟩ : ∃ W2, W2 = (w.alloc (.cells #[.pointer (some ⟨gp, 0, none⟩)] 109)).alloc (.cells #[.int .u8 x.kind, .int .i64 x.agency, .int .i64 x.shw, .int .i64 x.seat, .int .i64 x.buyer, .int .i64 x.day, .int .i64 x.dst, .int .i64 x.msg, .slice p8 x.seats.length k8] 100) := ⟨_, rfl⟩
 have hS2 : Step w W2 := by subst hW2; exact (by repeat (first | (with_reducible assumption) | (with_reducible exact Step.refl _) | (with_reducible apply Step.s_alloc) | (with_reducible apply Step.s_drew) | (with_reducible apply Step.s_drewN) | (with_reducible refine Step.trans ?_ (by with_reducible assumption))))
 have hz2 : W2.heap.size = w.heap.size + 2 := by subst hW2; simp
 have hb0 : Bx W2 w.heap.size [.pointer (some ⟨gp, 0, none⟩)] 109 := by subst hW2; exact (Bx.new w [_] _).alloc _
 have hb1 : Bx W2 (w.heap.size + 1) [.int .u8 x.kind, .int .i64 x.agency, .int .i64 x.shw, .int .i64 x.seat, .int .i64 x.buyer, .int .i64 x.day, .int .i64 x.dst, .int .i64 x.msg, .slice p8 x.seats.length k8] 100 := by subst hW2; exact Bx.new' _ [_, _, _, _, _, _, _, _, _] _ _ (by simp)
 have HXL := Lib.hid hXl
 have HW := Lib.hid hW2
 have HB0 := Lib.hid hb0
 have HB1 := Lib.hid hb1
 have HZ := Lib.hid hz2
 have HS := Lib.hid hS2
 have HP := Lib.hid P
 have HX := Lib.hid h8
 have HK := Lib.hid (And.intro hk0 hk1)
 have HV := Lib.hid (And.intro hv (And.intro hw (And.intro hsl hml)))
 clear hXl hW2 hb0 hb1 hz2 hS2 P h8 hk0 hk1 hv hw hsl hml hx
 go_enter Tryz.func46, Tryz.ntmps46
 go_upto_region 1 with (fail)
 rw [← HW.out]
 clear HW
 go_upto_region 2 with (refine wpl_store (v := .agg #[.nilFunc, .func (.func 89) #[] #[], .func (.func 90) #[] #[], .func (.func 91) #[] #[], .func (.func 92) #[] #[], .func (.func 93) #[] #[]]) rfl _ _ _ rfl rfl rfl (Bx.new W2 [.nilFunc, .nilFunc, .nilFunc, .nilFunc, .nilFunc, .nilFunc] _) (by kernel_rfl) (by simp [Value.cells]) (by simp [Value.cells, Value.oneCell']) kinds rfl (fun W3 hb3 hw3 => ?_))
 have hS3 : Step W2 W3 := Step.wrote (Step.alloc W2 _) hw3 (Nat.le_refl _)
 have hz2 := HZ.out
 have hbk : Bx W3 (w.heap.size + 2) kinds 156 := by rw [← hz2]; exact hb3
 rw [show W2.heap.size = w.heap.size + 2 from hz2]
 have HB03 := Lib.hid (HB0.out.step hS3)
 have HB13 := Lib.hid (HB1.out.step hS3)
 have HBK := Lib.hid hbk
 have HT := Lib.hid (HS.out.trans hS3)
 have HZ3 := Lib.hid (show w.heap.size + 3 ≤ W3.heap.size by have := hw3.size; simp at this; omega)
 obtain ⟨pb, kb, rfl, _, _⟩ := HP.out.books.form
 obtain ⟨pm, km, rfl, _, _⟩ := HP.out.msgs.form
 clear hS3 hz2 hbk hb3 hw3 HB0 HB1 HS HZ W2
 (try simp only [Act.put, zA, zB, zC])
 have q0 := HB13.out.cell 0
 simp only [zD, zE] at q0
 have hwk : IntKind.i64.wrap x.kind = x.kind := by have := HK.out; rw [IntKind.wrap_i64]; omega
 by_cases ha : x.kind < 1 ∨ 5 < x.kind
 ·by_cases h0 : x.kind = 0
  ·have d0 : (x.kind == 0) = true := by simp [h0]
   have HA := Lib.hid ha
   clear ha h0
   go_wp2
   go_ret
   exact ActEnds.err HP.out HT.out (actE_kind HA.out) (by decide)
  ·have d0 : (x.kind == 0) = false := by simp [h0]
   have d1 : decide (6 ≤ x.kind) = true := decide_eq_true (by have := HK.out; omega)
   have HA := Lib.hid ha
   clear ha h0
   go_wp2
   go_ret
   exact ActEnds.err HP.out HT.out (actE_kind HA.out) (by decide)
 have d0 : (x.kind == 0) = false := by simp; omega
 have d1 : decide (6 ≤ x.kind) = false := decide_eq_false (by omega)
 have HA := Lib.hid ha
 clear ha
 go_upto_region 4 with (fail)
 clear d0 d1 hwk q0
 have HT0 := Lib.hid HT.out
 have HP3 := Lib.hid (HP.out.step HT.out)
 clear HT
 have hl1 : IntKind.i64.wrap ((Wd.books.length : Int) - 1) = (Wd.books.length : Int) - 1 := by
  have := HV.out.2.1.len
  have := (bounds_valid HV.out.1).2.2.2.2.2.1
  rw [IntKind.wrap_i64]; omega
 have hl2 : IntKind.i64.wrap ((Wd.msgs.length : Int) - 1) = (Wd.msgs.length : Int) - 1 := by
  have := HV.out.2.2.2
  rw [IntKind.wrap_i64]; omega
 refine wp_region_seq (kdOf [9, 25] []) (0 :: 1 :: 0 :: 4 :: 12 :: 28 :: 60 :: 124 :: 252 :: 511 :: 1023 :: 2047 :: 4095 :: 8191 :: 16383 :: 32767 :: 65535 :: 131071 :: 65535 :: 327679 :: 851967 :: 1900543 :: 3997695 :: 8191999 :: 16580607 :: 33554431 :: 67108863 :: 134217727 :: 268435455 :: 536870911 :: []) (0 :: 1 :: 2 :: 3 :: 4 :: 5 :: 6 :: 7 :: 8 :: 9 :: 10 :: 11 :: 12 :: 13 :: 14 :: 15 :: 16 :: 17 :: 18 :: 19 :: 20 :: 21 :: 22 :: 23 :: 24 :: 25 :: 26 :: 27 :: 28 :: 29 :: []) [] (by kernel_rfl) (by kernel_rfl) (fun i T z hi hk => by simp [kdOf] at hk <;> (try (split at hk <;> cases hk))) ?_
 intro Wx hWx
 have HT := Lib.hid hWx
 clear hWx
 have a0 := (HB03.out.step HT.out).cell 0
 have q0 := (HB13.out.step HT.out).cell 0
 have q1 := (HB13.out.step HT.out).cell 1
 have q7 := (HB13.out.step HT.out).cell 7
 have g5 := (HP3.out.bx.step HT.out).cell 5
 have g6 := (HP3.out.bx.step HT.out).cell 6
 simp only [zD, zE] at a0 q0 q1 q7 g5 g6
 repeat (first | (refine run_off rfl rfl (by rfl) ?_; (try simp only [Act.put, zA, zB, zC])) | (refine run_chain_off rfl rfl (by rfl) (K0_mono _) ?_; (try simp only [Act.put, zA, zB, zC])) | ((refine run_want rfl rfl (by rfl) ⟨?_, fun W hW => ?_, ?_⟩; rotate_left; (· (have d0 := hW.kc a0; have d1 := hW.kc q0; have d2 := hW.kc q1; have d3 := hW.kc q7; have d4 := hW.kc g5; have d5 := hW.kc g6; go_simp; (try with_reducible rfl)))); (try simp only [Act.put, zA, zB, zC])))
 clear a0 q0 q1 q7 g5 g6
 refine run_chain rfl rfl (by rfl) (fun Wi hWi K' hK => ?_)
 have HTi := Lib.hid (HT.out.trans hWi)
 have HZW := Lib.hid HTi.out.size
 clear hWi HT
 go_simp
 refine (within_st _ _ _ _).mono ?_
 rintro e wn ⟨rfl, hSn⟩
 have HT := Lib.hid (HTi.out.trans (StepX.of hSn))
 clear HTi
 cases qa : withinB x.agency 0 ((Wd.books.length : Int) - 1) with
 | false =>
  have HQA := Lib.hid qa
  clear qa
  refine hK _ _ (StepX.of hSn) ?_
  clear hSn
  (try simp only [Act.put, zA, zB, zC])
  have a0 := (HB03.out.step HT.out).cell 0
  have q0 := (HB13.out.step HT.out).cell 0
  have q1 := (HB13.out.step HT.out).cell 1
  have q7 := (HB13.out.step HT.out).cell 7
  have g5 := (HP3.out.bx.step HT.out).cell 5
  have g6 := (HP3.out.bx.step HT.out).cell 6
  simp only [zD, zE] at a0 q0 q1 q7 g5 g6
  repeat (first | (refine run_off rfl rfl (by rfl) ?_; (try simp only [Act.put, zA, zB, zC])) | (refine run_chain_off rfl rfl (by rfl) (K0_mono _) ?_; (try simp only [Act.put, zA, zB, zC])) | ((refine run_want rfl rfl (by rfl) ⟨?_, fun W hW => ?_, ?_⟩; rotate_left; (· (have d0 := hW.kc a0; have d1 := hW.kc q0; have d2 := hW.kc q1; have d3 := hW.kc q7; have d4 := hW.kc g5; have d5 := hW.kc g6; go_simp; (try with_reducible rfl)))); (try simp only [Act.put, zA, zB, zC])))
  clear a0 q0 q1 q7 g5 g6
  refine run_end (L := []) rfl (fun W6 hW6 => ?_)
  have HT6 := Lib.hid (HT.out.trans hW6)
  clear hW6 HT
  have HT := HT6
  clear HT6
  go_wp2
  go_ret
  exact ActEnds.err HP.out (HT0.out.trans HT.out) (actE_agency HA.out HQA.out) (by decide)
 | true =>
 have HQA := Lib.hid qa
 clear qa
 refine hK _ _ (StepX.of hSn) ?_
 clear hSn
 (try simp only [Act.put, zA, zB, zC])
 by_cases k4 : x.kind = 4
 ·have d4 : (x.kind == 4) = true := by simp [k4]
  have HK4 := Lib.hid k4
  clear k4
  have a0 := (HB03.out.step HT.out).cell 0
  have q0 := (HB13.out.step HT.out).cell 0
  have q1 := (HB13.out.step HT.out).cell 1
  have q7 := (HB13.out.step HT.out).cell 7
  have g5 := (HP3.out.bx.step HT.out).cell 5
  have g6 := (HP3.out.bx.step HT.out).cell 6
  simp only [zD, zE] at a0 q0 q1 q7 g5 g6
  repeat (first | (refine run_off rfl rfl (by rfl) ?_; (try simp only [Act.put, zA, zB, zC])) | (refine run_chain_off rfl rfl (by rfl) (K0_mono _) ?_; (try simp only [Act.put, zA, zB, zC])) | ((refine run_want rfl rfl (by rfl) ⟨?_, fun W hW => ?_, ?_⟩; rotate_left; (· (have d0 := hW.kc a0; have d1 := hW.kc q0; have d2 := hW.kc q1; have d3 := hW.kc q7; have d4 := hW.kc g5; have d5 := hW.kc g6; go_simp; (try with_reducible rfl)))); (try simp only [Act.put, zA, zB, zC])))
  clear a0 q0 q1 q7 g5 g6
  refine run_chain rfl rfl (by rfl) (fun Wi hWi K' hK => ?_)
  have HTi := Lib.hid (HT.out.trans hWi)
  have HZW := Lib.hid HTi.out.size
  clear hWi HT
  go_simp
  refine (within_st _ _ _ _).mono ?_
  rintro e wn ⟨rfl, hSn⟩
  have HT := Lib.hid (HTi.out.trans (StepX.of hSn))
  clear HTi
  cases qm : withinB x.msg 0 ((Wd.msgs.length : Int) - 1) with
  | false =>
   have HQM := Lib.hid qm
   clear qm
   refine hK _ _ (StepX.of hSn) ?_
   clear hSn
   (try simp only [Act.put, zA, zB, zC])
   have a0 := (HB03.out.step HT.out).cell 0
   have q0 := (HB13.out.step HT.out).cell 0
   have q1 := (HB13.out.step HT.out).cell 1
   have q7 := (HB13.out.step HT.out).cell 7
   have g5 := (HP3.out.bx.step HT.out).cell 5
   have g6 := (HP3.out.bx.step HT.out).cell 6
   simp only [zD, zE] at a0 q0 q1 q7 g5 g6
   repeat (first | (refine run_off rfl rfl (by rfl) ?_; (try simp only [Act.put, zA, zB, zC])) | (refine run_chain_off rfl rfl (by rfl) (K0_mono _) ?_; (try simp only [Act.put, zA, zB, zC])) | ((refine run_want rfl rfl (by rfl) ⟨?_, fun W hW => ?_, ?_⟩; rotate_left; (· (have d0 := hW.kc a0; have d1 := hW.kc q0; have d2 := hW.kc q1; have d3 := hW.kc q7; have d4 := hW.kc g5; have d5 := hW.kc g6; go_simp; (try with_reducible rfl)))); (try simp only [Act.put, zA, zB, zC])))
   clear a0 q0 q1 q7 g5 g6
   refine run_end (L := []) rfl (fun W6 hW6 => ?_)
   have HT6 := Lib.hid (HT.out.trans hW6)
   clear hW6 HT
   have HT := HT6
   clear HT6
   go_wp2
   go_ret
   exact ActEnds.err HP.out (HT0.out.trans HT.out) (actE_mess HA.out HQA.out ⟨HK4.out, HQM.out⟩) (by decide)
  | true =>
   have HE0 := Lib.hid (actE_zero HA.out HQA.out fun _ => qm)
   clear qm
   refine hK _ _ (StepX.of hSn) ?_
   clear hSn
   (try simp only [Act.put, zA, zB, zC])
   have a0 := (HB03.out.step HT.out).cell 0
   have q0 := (HB13.out.step HT.out).cell 0
   have q1 := (HB13.out.step HT.out).cell 1
   have q7 := (HB13.out.step HT.out).cell 7
   have g5 := (HP3.out.bx.step HT.out).cell 5
   have g6 := (HP3.out.bx.step HT.out).cell 6
   simp only [zD, zE] at a0 q0 q1 q7 g5 g6
   repeat (first | (refine run_off rfl rfl (by rfl) ?_; (try simp only [Act.put, zA, zB, zC])) | (refine run_chain_off rfl rfl (by rfl) (K0_mono _) ?_; (try simp only [Act.put, zA, zB, zC])) | ((refine run_want rfl rfl (by rfl) ⟨?_, fun W hW => ?_, ?_⟩; rotate_left; (· (have d0 := hW.kc a0; have d1 := hW.kc q0; have d2 := hW.kc q1; have d3 := hW.kc q7; have d4 := hW.kc g5; have d5 := hW.kc g6; go_simp; (try with_reducible rfl)))); (try simp only [Act.put, zA, zB, zC])))
   clear a0 q0 q1 q7 g5 g6
   refine run_end (L := []) rfl (fun W6 hW6 => ?_)
   have HT6 := Lib.hid (HT.out.trans hW6)
   clear hW6 HT
   have HT := HT6
   clear HT6
   clear d4
   go_upto_region 6 with (fail)
   have HPQ := Lib.hid (HP3.out.step HT.out)
   obtain ⟨i, hia, hil⟩ := nat_of HQA.out
   have hib : i < Wd.books.length := by omega
   obtain ⟨gB, capB, csB, hvb, _, _, _⟩ := HPQ.out.put hib
   injection hvb with hv1 _ hv3
   subst hv1 hv3
   have hBS : SL (fun j => j = gp ∨ (Value.slice pm Wd.msgs.length km).ownBlock = some j) W6 (.slice (some ⟨gB, 0, none⟩) Wd.books.length kb) Wd.books := (HPQ.out.books.weak fun j _ hj => .inr hj).slb fun k hk hh => by
    rcases hh with hh | hh
    ·exact (HPQ.out.bxx k hk).2 hh
    ·exact HPQ.out.apart k hk hh
   obtain ⟨pQ, cQ, bb, bo, he, _, _, hpb, hcb, _⟩ := hBS.books
   injection he with he1 he2 he3
   clear he2 he3
   rw [← he1] at hpb
   have hpb := hpb (by omega)
   injection hpb with hpb
   injection hpb with hpb1 hpb2 _
   subst hpb1 hpb2
   obtain ⟨b1, b2, b4, ⟨e0, e1, e2, e3, e4, e5⟩, s1, s2, s4⟩ := hcb i hib
   simp only [Nat.zero_add] at e0 e1 e2 e3 e4 e5
   obtain ⟨b, hb⟩ : ∃ b, b = Wd.books[i] := ⟨_, rfl⟩
   rw [← hb] at e0 e3 e5 s1 s2 s4
   have hgd : Wd.books.getD i noBook = b := by rw [hb]; simp [List.getD_eq_getElem?_getD, hib]
   have hbv := (HV.out.2.1.book i hib)
   rw [← hb] at hbv
   have HBV := Lib.hid hbv
   have HBK2 := Lib.hid (show AV (fun j => j = gp ∨ (Value.slice pm Wd.msgs.length km).ownBlock = some j) W6 (.agg #[.int .i64 b.agency, b1, b2, .int .i64 b.sent, b4, .int .i64 b.cash]) b from ⟨_, rfl, b1, b2, b4, rfl, s1, s2, s4⟩)
   have HHK := Lib.hid (show AV (fun j => j = gp ∨ (Value.slice pm Wd.msgs.length km).ownBlock = some j) W6 (.agg #[c0, c1, c2, c3, c4]) h from ⟨_, rfl, Rep.weak (fun j _ hj => hj.elim (fun e => e ▸ HPQ.out.low) fun e => (HPQ.out.msgs.lt j e).1) HPQ.out.house⟩)
   have HBI := Lib.hid hgd
   have HIB := Lib.hid hib
   have HIA := Lib.hid hia
   have hrg : (0 : Int) ≤ x.agency ∧ x.agency < (Wd.books.length : Int) := by omega
   have htn : x.agency.toNat = i := by omega
   have hmf : ∀ (fn : Fn) (first cap : Array Value) (w : World), (Instr.makeFunc fn first cap).run Tryz.prog w = .ok (.func fn first cap) w := fun _ _ _ _ => rfl
   have g0 := HPQ.out.bx.cell 0
   have g1 := HPQ.out.bx.cell 1
   have g2 := HPQ.out.bx.cell 2
   have g3 := HPQ.out.bx.cell 3
   have g4 := HPQ.out.bx.cell 4
   have g5 := HPQ.out.bx.cell 5
   have a0 := (HB03.out.step HT.out).cell 0
   have q1 := (HB13.out.step HT.out).cell 1
   simp only [zD, zE] at g0 g1 g2 g3 g4 g5 a0 q1
   clear hb
   clear hbv hcb hBS s1 s2 s4 he1 hgd hia hil hib hl1 hl2
   have HT6 := Lib.hid HT.out
   clear HT
   have HPQ6 := HPQ
   clear HPQ
   refine Sc.wp_region_seqCM (fun c d v a w h => by cases d <;> exact h) (Sc.kdOf [14] [(18, 77, .agg #[.int .i64 0, .slice none 0 0, .slice none 0 0, .int .i64 0, .slice none 0 0, .int .i64 0])]) [0, 1, 3, 7, 0, 16, 48, 112, 240, 0, 512, 2032, 4080, 0, 16383, 32767, 65535, 65535, 0, 393215, 1048575] [0, 1, 2, 3, 4, 5, 6, 7, 8, 9, 10, 11, 12, 13, 14, 15, 16, 17, 18] [19, 20] (by kernel_rfl) (by kernel_rfl) (fun i T z hi hk => by simp only [List.mem_cons, List.not_mem_nil, or_false] at hi; rcases hi with rfl | rfl | rfl | rfl | rfl | rfl | rfl | rfl | rfl | rfl | rfl | rfl | rfl | rfl | rfl | rfl | rfl | rfl | rfl <;> simp [Sc.kdOf] at hk <;> (obtain ⟨rfl, rfl⟩ := hk; first | (show Option.bind _ _ = some _; kernel_rfl) | (refine ⟨_, rfl, fun _ _ => ?_⟩; go_simp))) ?_
   intro Wx hWx
   have g0 := hWx.kc g0
   have g1 := hWx.kc g1
   have g2 := hWx.kc g2
   have g3 := hWx.kc g3
   have g4 := hWx.kc g4
   have g5 := hWx.kc g5
   have e0 := hWx.kc e0
   have e1 := hWx.kc e1
   have e2 := hWx.kc e2
   have e3 := hWx.kc e3
   have e4 := hWx.kc e4
   have e5 := hWx.kc e5
   have a0 := hWx.kc a0
   have q1 := hWx.kc q1
   repeat (first | (refine Sc.run_off rfl rfl (by rfl) ?_; (try simp only [Act.put, zA, zB, zC])) | (refine Sc.run_chain_off rfl rfl (by rfl) (Sc.K0_mono _) ?_; (try simp only [Act.put, zA, zB, zC])) | ((refine Sc.run_want rfl rfl (by rfl) ⟨?_, fun W hW => ?_, ?_⟩; rotate_left; (· (have d0 := hW.kc g0; have d1 := hW.kc g1; have d2 := hW.kc g2; have d3 := hW.kc g3; have d4 := hW.kc g4; have d5 := hW.kc g5; have d6 := hW.kc e0; have d7 := hW.kc e1; have d8 := hW.kc e2; have d9 := hW.kc e3; have d10 := hW.kc e4; have d11 := hW.kc e5; have d12 := hW.kc a0; have d13 := hW.kc q1; go_simp; (try with_reducible rfl)))); (try simp only [Act.put, zA, zB, zC])))
   clear g0 g1 g2 g3 g4 g5 e0 e1 e2 e3 e4 e5 a0 q1
   refine Sc.run_chain rfl rfl (by rfl) (fun Wi hWi K' hK => ?_)
   have HST := Lib.hid (hWx.trans hWi)
   obtain ⟨hk1, hk5, _, hkm⟩ := actE_ok HE0.out
   have hcall := Lib.hid (done_act HV.out.1 b HBV.out.1 S x Wi W6.heap.size HST.out.size (fun j hj => by have := HXL.out j hj; have := ((HT0.out.trans HT6.out).trans HST.out).size; omega) ((HPQ6.out.more (Y := fun j => X j ∨ W6.heap.size ≤ j) (fun j a b => b.elim id (fun b => absurd b (by omega))) (fun j hj => hj.elim (HPQ6.out.xlow j) (fun hj => by have := HPQ6.out.low; have := HPQ6.out.bx.lt; omega))).step HST.out) (HX.out.keep (.of_step ((HT0.out.trans HT6.out).trans HST.out))) ((HBK.out.step HT6.out).step HST.out) ((HB13.out.step HT6.out).step HST.out) (((HB03.out.step HT6.out).step HST.out).cell 0) hk1 hk5 hkm HV.out.2.2.1 HV.out.2.2.2 (HBK2.out.keep (.of_step HST.out)) (HHK.out.keep (.of_step HST.out)))
   clear hWx hWi hk1 hk5 hkm HBK2 HHK hrg htn
   go_simp
   refine hcall.out.mono ?_
   clear hcall hmf
   rintro e w' he
   cases hr : deskD h Wd b x with
   | error c =>
    rw [hr] at he
    obtain ⟨v', rfl, hv', hSn⟩ := he
    obtain ⟨d1, d2, d4, rfl, t1, t2, t4⟩ := hv'.book
    have hc0 := deskD_err hr
    have HRR := Lib.hid hr
    refine hK _ _ ⟨hSn.size, fun g o _ hg => by rw [hSn.block g (Array.getElem?_eq_some_iff.1 hg).1 (fun h => h)]; exact hg⟩ ?_
    have HSN := Lib.hid hSn
    obtain ⟨r1, l1, rfl⟩ := t1.form
    obtain ⟨r2, l2, rfl⟩ := t2.form
    obtain ⟨r4, l4, rfl⟩ := t4.form
    clear hK hSn hr t1 t2 t4 hv'
    (try simp only [Act.put, zA, zB, zC])
    repeat (first | (refine Sc.run_off rfl rfl (by rfl) ?_; (try simp only [Act.put, zA, zB, zC])) | (refine Sc.run_chain_off rfl rfl (by rfl) (Sc.K0_mono _) ?_; (try simp only [Act.put, zA, zB, zC])) | ((refine Sc.run_want rfl rfl (by rfl) ⟨?_, fun W hW => ?_, ?_⟩; rotate_left; (· (skip; go_simp; (try with_reducible rfl)))); (try simp only [Act.put, zA, zB, zC])))
    refine Sc.run_alloc rfl rfl (fun W5 g6 hW5 hg hgb hgN => ?_)
    (try simp only [Act.put, zA, zB, zC])
    repeat (first | (refine Sc.run_off rfl rfl (by rfl) ?_; (try simp only [Act.put, zA, zB, zC])) | (refine Sc.run_chain_off rfl rfl (by rfl) (Sc.K0_mono _) ?_; (try simp only [Act.put, zA, zB, zC])) | ((refine Sc.run_want rfl rfl (by rfl) ⟨?_, fun W hW => ?_, ?_⟩; rotate_left; (· (skip; go_simp; (try with_reducible rfl)))); (try simp only [Act.put, zA, zB, zC])))
    refine Sc.run_end (L := [_, _]) rfl (fun W7 hW7 => ?_)
    have hb7 := Bx.step (w := W5) (cs := [_, _, _, _, _, _]) hg hW7
    refine wpl_store (v := .agg #[.int .i64 noBook.agency, .slice r1 noBook.seats.length l1, .slice r2 noBook.off.length l2, .int .i64 noBook.sent, .slice r4 noBook.took.length l4, .int .i64 noBook.cash]) rfl _ _ _ rfl rfl rfl hb7 (by kernel_rfl) (by simp [Value.cells]) (by simp [Value.cells, Value.oneCell']) [.int .i64 noBook.agency, .slice r1 noBook.seats.length l1, .slice r2 noBook.off.length l2, .int .i64 noBook.sent, .slice r4 noBook.took.length l4, .int .i64 noBook.cash] rfl (fun w8 hb8 hw8 => ?_)
    have hS8 : Step W6 w8 := Step.wrote (((HST.out.trans HSN.out).trans hW5).trans hW7) hw8 hgb
    have HS8 := Lib.hid hS8
    have d7 : (c == 0) = false := by simpa using hc0
    clear hW5 hg hgb hgN hW7 hb7 hb8 hw8 hS8 hc0
    go_wp2
    go_ret
    exact ActEnds.no (HPQ6.out.step HS8.out) ((HT0.out.trans HT6.out).trans HS8.out) (actD_refused HV.out.1 HE0.out HIA.out HBI.out HBV.out.1 HRR.out)
   | ok q =>
    obtain ⟨b', ms⟩ := q
    rw [hr] at he
    obtain ⟨v', rfl, hv', ⟨vm', P'⟩, hSn⟩ := he
    obtain ⟨d1, d2, d4, rfl, t1, t2, t4⟩ := hv'.book
    have HRR := Lib.hid hr
    have hnew : ∀ {C : Nat → Prop}, (∀ j, C j → j < W6.heap.size) → StepX C Wi w' → KeepB W6.heap.size Wi w' := fun hC hS => ⟨hS.size, fun g o hg ho => by rw [hS.block g (Array.getElem?_eq_some_iff.1 ho).1 (fun h => by have := hC g h; omega)]; exact ho⟩
    have hCl : ∀ j, (j = gp ∨ (Value.slice pm Wd.msgs.length km).ownBlock = some j) → j < W6.heap.size := fun j hj => hj.elim (fun e => e ▸ HPQ6.out.bx.lt) fun e => (HPQ6.out.msgs.lt j e).2
    refine hK _ _ (hnew hCl hSn) ?_
    have HSN := Lib.hid hSn
    have HPN := Lib.hid P'
    have HBN := Lib.hid hv'
    have HCL := Lib.hid hCl
    obtain ⟨r1, l1, rfl⟩ := t1.form
    obtain ⟨r2, l2, rfl⟩ := t2.form
    obtain ⟨r4, l4, rfl⟩ := t4.form
    clear hK hSn hr t1 t2 t4 hv' P' hnew hCl
    (try simp only [Act.put, zA, zB, zC])
    repeat (first | (refine Sc.run_off rfl rfl (by rfl) ?_; (try simp only [Act.put, zA, zB, zC])) | (refine Sc.run_chain_off rfl rfl (by rfl) (Sc.K0_mono _) ?_; (try simp only [Act.put, zA, zB, zC])) | ((refine Sc.run_want rfl rfl (by rfl) ⟨?_, fun W hW => ?_, ?_⟩; rotate_left; (· (skip; go_simp; (try with_reducible rfl)))); (try simp only [Act.put, zA, zB, zC])))
    refine Sc.run_alloc rfl rfl (fun W5 g6 hW5 hg hgb hgN => ?_)
    (try simp only [Act.put, zA, zB, zC])
    repeat (first | (refine Sc.run_off rfl rfl (by rfl) ?_; (try simp only [Act.put, zA, zB, zC])) | (refine Sc.run_chain_off rfl rfl (by rfl) (Sc.K0_mono _) ?_; (try simp only [Act.put, zA, zB, zC])) | ((refine Sc.run_want rfl rfl (by rfl) ⟨?_, fun W hW => ?_, ?_⟩; rotate_left; (· (skip; go_simp; (try with_reducible rfl)))); (try simp only [Act.put, zA, zB, zC])))
    refine Sc.run_end (L := [_, _]) rfl (fun W7 hW7 => ?_)
    have hb7 := Bx.step (w := W5) (cs := [_, _, _, _, _, _]) hg hW7
    refine wpl_store (v := .agg #[.int .i64 b'.agency, .slice r1 b'.seats.length l1, .slice r2 b'.off.length l2, .int .i64 b'.sent, .slice r4 b'.took.length l4, .int .i64 b'.cash]) rfl _ _ _ rfl rfl rfl hb7 (by kernel_rfl) (by simp [Value.cells]) (by simp [Value.cells, Value.oneCell']) [.int .i64 b'.agency, .slice r1 b'.seats.length l1, .slice r2 b'.off.length l2, .int .i64 b'.sent, .slice r4 b'.took.length l4, .int .i64 b'.cash] rfl (fun w8 hb8 hw8 => ?_)
    have hS7 : Step w' W7 := hW5.trans hW7
    have HB8 := Lib.hid hb8
    have HW8 := Lib.hid hw8
    have HS7 := Lib.hid hS7
    have HG6 := Lib.hid (And.intro hgb hgN.2)
    clear hW5 hg hgb hgN hW7 hb7 hb8 hw8 hS7
    go_upto_region 8 with (fail)
    have HC8 := Lib.hid (show StepX (fun j => j = gp ∨ (Value.slice pm Wd.msgs.length km).ownBlock = some j) W6 w8 from (((StepX.of HST.out).trans HSN.out).trans (StepX.of HS7.out)).over (HW8.out.stepX) (fun j hj => .inl (by have := HG6.out.1; omega)))
    have hP7 : Play (fun j => X j ∨ j = g6) n0 W7 gp h ⟨Wd.books, Wd.msgs ++ restOf [] (Except.ok (b', ms))⟩ c0 c1 c2 c3 c4 (.slice (some ⟨gB, 0, none⟩) Wd.books.length kb) vm' := by
     have h1 := HPN.out.more (Y := fun j => X j ∨ (W6.heap.size ≤ j ∧ j < Wi.heap.size) ∨ w'.heap.size ≤ j) (fun j hj hs => by
      rcases hs with hs | hs | hs
      ·exact .inl hs
      ·exact .inr ⟨hs.1, by omega⟩
      ·omega) (fun j hj => by
      have := HPQ6.out.low; have := HPQ6.out.bx.lt; have := HST.out.size; have := HSN.out.size
      rcases hj with hj | hj | hj
      ·exact HPQ6.out.xlow j hj
      ·omega
      ·omega)
     refine (h1.step HS7.out).more (fun j hj e => ?_) (fun j e => e.elim (HPQ6.out.xlow j) fun e => by have := HPQ6.out.low; have := HPQ6.out.bx.lt; have := HG6.out.1; omega)
     have hg := HG6.out
     rcases e with e | e
     ·exact .inl e
     rcases hg.2 with a | a
     ·exact .inr (.inl ⟨by omega, by omega⟩)
     ·exact .inr (.inr (by omega))
    have HP8 := Lib.hid ((hP7.keep (HW8.out.keeps.mono fun j _ e => .inr e)).more (Y := X) (fun _ _ h => .inl h) (fun j h => HPQ6.out.xlow j h))
    have hnw : ¬ (w.heap.size = gp ∨ (Value.slice pm Wd.msgs.length km).ownBlock = some w.heap.size) := fun e => by
     rcases e with e | e
     ·have := HP.out.bx.lt; omega
     ·have := (HP.out.msgs.lt _ e).2; omega
    have hnx : ¬ (w.heap.size + 1 = gp ∨ (Value.slice pm Wd.msgs.length km).ownBlock = some (w.heap.size + 1)) := fun e => by
     rcases e with e | e
     ·have := HP.out.bx.lt; omega
     ·have := (HP.out.msgs.lt _ e).2; omega
    have a0 := ((HB03.out.step HT6.out).keep HC8.out.keeps hnw).cell 0
    have q1 := ((HB13.out.step HT6.out).keep HC8.out.keeps hnx).cell 1
    have g5 := HP8.out.bx.cell 5
    obtain ⟨y0, y1, y2, y3, y4, y5⟩ := cells6 HB8.out
    simp only [zD, zE] at a0 q1 g5
    have hia := HIA.out
    have hib := HIB.out
    have hrg : (0 : Int) ≤ x.agency ∧ x.agency < (Wd.books.length : Int) := by omega
    have htn : x.agency.toNat = i := by omega
    clear hia hib hP7 hnw hnx
    refine wp_region_seq (kdOf [] []) [0, 1, 3, 7, 15, 0, 32, 0, 255, 511] [0, 1, 2, 3, 4, 5, 6, 7, 8] [9] (by kernel_rfl) (by kernel_rfl) (fun i T z hi hk => by simp [kdOf] at hk <;> (try (split at hk <;> cases hk))) ?_
    intro Wy hWy
    have a0 := hWy.kc a0
    have q1 := hWy.kc q1
    have g5 := hWy.kc g5
    have y0 := hWy.kc y0
    have y1 := hWy.kc y1
    have y2 := hWy.kc y2
    have y3 := hWy.kc y3
    have y4 := hWy.kc y4
    have y5 := hWy.kc y5
    repeat (first | (refine run_off rfl rfl (by rfl) ?_; (try simp only [Act.put, zA, zB, zC])) | (refine run_chain_off rfl rfl (by rfl) (K0_mono _) ?_; (try simp only [Act.put, zA, zB, zC])) | ((refine run_want rfl rfl (by rfl) ⟨?_, fun W hW => ?_, ?_⟩; rotate_left; (· (have d0 := hW.kc a0; have d1 := hW.kc q1; have d2 := hW.kc g5; have d3 := hW.kc y0; have d4 := hW.kc y1; have d5 := hW.kc y2; have d6 := hW.kc y3; have d7 := hW.kc y4; have d8 := hW.kc y5; go_simp; (try with_reducible rfl)))); (try simp only [Act.put, zA, zB, zC])))
    clear a0 q1 g5 y0 y1 y2 y3 y4 y5
    refine run_end (L := [_]) rfl (fun W9 hW9 => ?_)
    have HP9 := Lib.hid ((HP8.out.step hWy).step hW9)
    obtain ⟨gB2, capB, csB, hvb, hbx, hlen, hput⟩ := HP9.out.put HIB.out
    injection hvb with hv1 _ hv3
    injection hv1 with hv1
    injection hv1 with hv1 _ _
    subst hv1
    have HPUT := Lib.hid hput
    have HLEN := Lib.hid hlen
    have HBX := Lib.hid hbx
    have HS9 := Lib.hid (hWy.trans hW9)
    clear hWy hW9 hrg hput hlen hbx hv3
    have hold : AV (fun j => ((X j ∨ j < n0) ∨ j = gp ∨ vm'.ownBlock = some j) ∨ (Value.slice (some ⟨gB, 0, none⟩) Wd.books.length kb).ownBlock = some j ∨ j = g6) w' (.agg #[.int .i64 b'.agency, .slice r1 b'.seats.length l1, .slice r2 b'.off.length l2, .int .i64 b'.sent, .slice r4 b'.took.length l4, .int .i64 b'.cash]) b' := HBN.out.weak fun j hj hs => by
     have hz := HST.out.size
     rcases hs with (hs | hs | hs) | hs | hs
     ·have := HPQ6.out.low; have := HPQ6.out.bx.lt
      rcases hs with hs | hs
      ·have := HXL.out j hs; have := (HT0.out.trans HT6.out).size; left; unfold Old; omega
      ·left; unfold Old; omega
     ·have := HPQ6.out.bx.lt; left; unfold Old; omega
     ·exact .inr (HPN.out.msgT j hs)
     ·have := (HPQ6.out.books.lt j hs).2; left; unfold Old; omega
     ·rcases HG6.out.2 with a | a
      ·left; unfold Old; omega
      ·omega
    have hold9 := (((hold.keep (.of_step HS7.out)).keep (.wrote HW8.out (.inr (.inr rfl)))).keep (.of_step HS9.out)).weak (T := avoid (fun j => (X j ∨ j < n0) ∨ j = gp ∨ vm'.ownBlock = some j) (.slice (some ⟨gB, 0, none⟩) Wd.books.length kb)) (fun j _ hj => hj.elim .inl fun e => .inr (.inl e))
    obtain ⟨cs9, he9, hr9⟩ := hold9
    injection he9 with he9
    have hf9 : cs9 = [.int .i64 b'.agency, .slice r1 b'.seats.length l1, .slice r2 b'.off.length l2, .int .i64 b'.sent, .slice r4 b'.took.length l4, .int .i64 b'.cash] := by
     have := congrArg Array.toList he9
     simpa using this.symm
    rw [hf9] at hr9
    have HR9 := Lib.hid hr9
    clear hold hf9 hr9 he9 cs9
    refine wpl_store (v := .agg #[.int .i64 b'.agency, .slice r1 b'.seats.length l1, .slice r2 b'.off.length l2, .int .i64 b'.sent, .slice r4 b'.took.length l4, .int .i64 b'.cash]) rfl _ _ _ rfl rfl rfl HBX.out (by kernel_rfl) (by simp [Value.cells]; exact HLEN.out) (by simp [Value.cells, Value.oneCell']) (csB.take (i * 6) ++ [.int .i64 b'.agency, .slice r1 b'.seats.length l1, .slice r2 b'.off.length l2, .int .i64 b'.sent, .slice r4 b'.took.length l4, .int .i64 b'.cash] ++ csB.drop (i * 6 + 6)) rfl (fun w10 hb10 hw10 => ?_)
    have HPF := Lib.hid (HPUT.out w10 _ b' HR9.out hw10 hb10)
    have HSF := Lib.hid (show StepX (fun j => j = gp ∨ (Value.slice (some ⟨gB, 0, none⟩) Wd.books.length kb).ownBlock = some j ∨ (Value.slice pm Wd.msgs.length km).ownBlock = some j) w w10 from
     (((StepX.of (HT0.out.trans HT6.out)).trans (HC8.out.mono fun j _ hj => hj.elim .inl fun e => .inr (.inr e))).trans (StepX.of HS9.out)).trans (hw10.stepX.mono fun j _ e => .inr (.inl (by rw [e]; rfl))))
    clear hb10 hw10 htn
    go_wp2
    go_ret
    exact ActEnds.yes HPF.out HSF.out (actD_done HV.out.1 HE0.out HIA.out HBI.out HBV.out.1 HRR.out)
 ·have d4 : (x.kind == 4) = false := by simp [k4]
  have HE0 := Lib.hid (actE_zero HA.out HQA.out fun e => absurd e k4)
  clear k4
  have a0 := (HB03.out.step HT.out).cell 0
  have q0 := (HB13.out.step HT.out).cell 0
  have q1 := (HB13.out.step HT.out).cell 1
  have q7 := (HB13.out.step HT.out).cell 7
  have g5 := (HP3.out.bx.step HT.out).cell 5
  have g6 := (HP3.out.bx.step HT.out).cell 6
  simp only [zD, zE] at a0 q0 q1 q7 g5 g6
  repeat (first | (refine run_off rfl rfl (by rfl) ?_; (try simp only [Act.put, zA, zB, zC])) | (refine run_chain_off rfl rfl (by rfl) (K0_mono _) ?_; (try simp only [Act.put, zA, zB, zC])) | ((refine run_want rfl rfl (by rfl) ⟨?_, fun W hW => ?_, ?_⟩; rotate_left; (· (have d0 := hW.kc a0; have d1 := hW.kc q0; have d2 := hW.kc q1; have d3 := hW.kc q7; have d4 := hW.kc g5; have d5 := hW.kc g6; go_simp; (try with_reducible rfl)))); (try simp only [Act.put, zA, zB, zC])))
  clear a0 q0 q1 q7 g5 g6
  refine run_end (L := []) rfl (fun W6 hW6 => ?_)
  have HT6 := Lib.hid (HT.out.trans hW6)
  clear hW6 HT
  have HT := HT6
  clear HT6
  clear d4
  go_upto_region 6 with (fail)
  have HPQ := Lib.hid (HP3.out.step HT.out)
  obtain ⟨i, hia, hil⟩ := nat_of HQA.out
  have hib : i < Wd.books.length := by omega
  obtain ⟨gB, capB, csB, hvb, _, _, _⟩ := HPQ.out.put hib
  injection hvb with hv1 _ hv3
  subst hv1 hv3
  have hBS : SL (fun j => j = gp ∨ (Value.slice pm Wd.msgs.length km).ownBlock = some j) W6 (.slice (some ⟨gB, 0, none⟩) Wd.books.length kb) Wd.books := (HPQ.out.books.weak fun j _ hj => .inr hj).slb fun k hk hh => by
   rcases hh with hh | hh
   ·exact (HPQ.out.bxx k hk).2 hh
   ·exact HPQ.out.apart k hk hh
  obtain ⟨pQ, cQ, bb, bo, he, _, _, hpb, hcb, _⟩ := hBS.books
  injection he with he1 he2 he3
  clear he2 he3
  rw [← he1] at hpb
  have hpb := hpb (by omega)
  injection hpb with hpb
  injection hpb with hpb1 hpb2 _
  subst hpb1 hpb2
  obtain ⟨b1, b2, b4, ⟨e0, e1, e2, e3, e4, e5⟩, s1, s2, s4⟩ := hcb i hib
  simp only [Nat.zero_add] at e0 e1 e2 e3 e4 e5
  obtain ⟨b, hb⟩ : ∃ b, b = Wd.books[i] := ⟨_, rfl⟩
  rw [← hb] at e0 e3 e5 s1 s2 s4
  have hgd : Wd.books.getD i noBook = b := by rw [hb]; simp [List.getD_eq_getElem?_getD, hib]
  have hbv := (HV.out.2.1.book i hib)
  rw [← hb] at hbv
  have HBV := Lib.hid hbv
  have HBK2 := Lib.hid (show AV (fun j => j = gp ∨ (Value.slice pm Wd.msgs.length km).ownBlock = some j) W6 (.agg #[.int .i64 b.agency, b1, b2, .int .i64 b.sent, b4, .int .i64 b.cash]) b from ⟨_, rfl, b1, b2, b4, rfl, s1, s2, s4⟩)
  have HHK := Lib.hid (show AV (fun j => j = gp ∨ (Value.slice pm Wd.msgs.length km).ownBlock = some j) W6 (.agg #[c0, c1, c2, c3, c4]) h from ⟨_, rfl, Rep.weak (fun j _ hj => hj.elim (fun e => e ▸ HPQ.out.low) fun e => (HPQ.out.msgs.lt j e).1) HPQ.out.house⟩)
  have HBI := Lib.hid hgd
  have HIB := Lib.hid hib
  have HIA := Lib.hid hia
  have hrg : (0 : Int) ≤ x.agency ∧ x.agency < (Wd.books.length : Int) := by omega
  have htn : x.agency.toNat = i := by omega
  have hmf : ∀ (fn : Fn) (first cap : Array Value) (w : World), (Instr.makeFunc fn first cap).run Tryz.prog w = .ok (.func fn first cap) w := fun _ _ _ _ => rfl
  have g0 := HPQ.out.bx.cell 0
  have g1 := HPQ.out.bx.cell 1
  have g2 := HPQ.out.bx.cell 2
  have g3 := HPQ.out.bx.cell 3
  have g4 := HPQ.out.bx.cell 4
  have g5 := HPQ.out.bx.cell 5
  have a0 := (HB03.out.step HT.out).cell 0
  have q1 := (HB13.out.step HT.out).cell 1
  simp only [zD, zE] at g0 g1 g2 g3 g4 g5 a0 q1
  clear hb
  clear hbv hcb hBS s1 s2 s4 he1 hgd hia hil hib hl1 hl2
  have HT6 := Lib.hid HT.out
  clear HT
  have HPQ6 := HPQ
  clear HPQ
  refine Sc.wp_region_seqCM (fun c d v a w h => by cases d <;> exact h) (Sc.kdOf [14] [(18, 77, .agg #[.int .i64 0, .slice none 0 0, .slice none 0 0, .int .i64 0, .slice none 0 0, .int .i64 0])]) [0, 1, 3, 7, 0, 16, 48, 112, 240, 0, 512, 2032, 4080, 0, 16383, 32767, 65535, 65535, 0, 393215, 1048575] [0, 1, 2, 3, 4, 5, 6, 7, 8, 9, 10, 11, 12, 13, 14, 15, 16, 17, 18] [19, 20] (by kernel_rfl) (by kernel_rfl) (fun i T z hi hk => by simp only [List.mem_cons, List.not_mem_nil, or_false] at hi; rcases hi with rfl | rfl | rfl | rfl | rfl | rfl | rfl | rfl | rfl | rfl | rfl | rfl | rfl | rfl | rfl | rfl | rfl | rfl | rfl <;> simp [Sc.kdOf] at hk <;> (obtain ⟨rfl, rfl⟩ := hk; first | (show Option.bind _ _ = some _; kernel_rfl) | (refine ⟨_, rfl, fun _ _ => ?_⟩; go_simp))) ?_
  intro Wx hWx
  have g0 := hWx.kc g0
  have g1 := hWx.kc g1
  have g2 := hWx.kc g2
  have g3 := hWx.kc g3
  have g4 := hWx.kc g4
  have g5 := hWx.kc g5
  have e0 := hWx.kc e0
  have e1 := hWx.kc e1
  have e2 := hWx.kc e2
  have e3 := hWx.kc e3
  have e4 := hWx.kc e4
  have e5 := hWx.kc e5
  have a0 := hWx.kc a0
  have q1 := hWx.kc q1
  repeat (first | (refine Sc.run_off rfl rfl (by rfl) ?_; (try simp only [Act.put, zA, zB, zC])) | (refine Sc.run_chain_off rfl rfl (by rfl) (Sc.K0_mono _) ?_; (try simp only [Act.put, zA, zB, zC])) | ((refine Sc.run_want rfl rfl (by rfl) ⟨?_, fun W hW => ?_, ?_⟩; rotate_left; (· (have d0 := hW.kc g0; have d1 := hW.kc g1; have d2 := hW.kc g2; have d3 := hW.kc g3; have d4 := hW.kc g4; have d5 := hW.kc g5; have d6 := hW.kc e0; have d7 := hW.kc e1; have d8 := hW.kc e2; have d9 := hW.kc e3; have d10 := hW.kc e4; have d11 := hW.kc e5; have d12 := hW.kc a0; have d13 := hW.kc q1; go_simp; (try with_reducible rfl)))); (try simp only [Act.put, zA, zB, zC])))
  clear g0 g1 g2 g3 g4 g5 e0 e1 e2 e3 e4 e5 a0 q1
  refine Sc.run_chain rfl rfl (by rfl) (fun Wi hWi K' hK => ?_)
  have HST := Lib.hid (hWx.trans hWi)
  obtain ⟨hk1, hk5, _, hkm⟩ := actE_ok HE0.out
  have hcall := Lib.hid (done_act HV.out.1 b HBV.out.1 S x Wi W6.heap.size HST.out.size (fun j hj => by have := HXL.out j hj; have := ((HT0.out.trans HT6.out).trans HST.out).size; omega) ((HPQ6.out.more (Y := fun j => X j ∨ W6.heap.size ≤ j) (fun j a b => b.elim id (fun b => absurd b (by omega))) (fun j hj => hj.elim (HPQ6.out.xlow j) (fun hj => by have := HPQ6.out.low; have := HPQ6.out.bx.lt; omega))).step HST.out) (HX.out.keep (.of_step ((HT0.out.trans HT6.out).trans HST.out))) ((HBK.out.step HT6.out).step HST.out) ((HB13.out.step HT6.out).step HST.out) (((HB03.out.step HT6.out).step HST.out).cell 0) hk1 hk5 hkm HV.out.2.2.1 HV.out.2.2.2 (HBK2.out.keep (.of_step HST.out)) (HHK.out.keep (.of_step HST.out)))
  clear hWx hWi hk1 hk5 hkm HBK2 HHK hrg htn
  go_simp
  refine hcall.out.mono ?_
  clear hcall hmf
  rintro e w' he
  cases hr : deskD h Wd b x with
  | error c =>
   rw [hr] at he
   obtain ⟨v', rfl, hv', hSn⟩ := he
   obtain ⟨d1, d2, d4, rfl, t1, t2, t4⟩ := hv'.book
   have hc0 := deskD_err hr
   have HRR := Lib.hid hr
   refine hK _ _ ⟨hSn.size, fun g o _ hg => by rw [hSn.block g (Array.getElem?_eq_some_iff.1 hg).1 (fun h => h)]; exact hg⟩ ?_
   have HSN := Lib.hid hSn
   obtain ⟨r1, l1, rfl⟩ := t1.form
   obtain ⟨r2, l2, rfl⟩ := t2.form
   obtain ⟨r4, l4, rfl⟩ := t4.form
   clear hK hSn hr t1 t2 t4 hv'
   (try simp only [Act.put, zA, zB, zC])
   repeat (first | (refine Sc.run_off rfl rfl (by rfl) ?_; (try simp only [Act.put, zA, zB, zC])) | (refine Sc.run_chain_off rfl rfl (by rfl) (Sc.K0_mono _) ?_; (try simp only [Act.put, zA, zB, zC])) | ((refine Sc.run_want rfl rfl (by rfl) ⟨?_, fun W hW => ?_, ?_⟩; rotate_left; (· (skip; go_simp; (try with_reducible rfl)))); (try simp only [Act.put, zA, zB, zC])))
   refine Sc.run_alloc rfl rfl (fun W5 g6 hW5 hg hgb hgN => ?_)
   (try simp only [Act.put, zA, zB, zC])
   repeat (first | (refine Sc.run_off rfl rfl (by rfl) ?_; (try simp only [Act.put, zA, zB, zC])) | (refine Sc.run_chain_off rfl rfl (by rfl) (Sc.K0_mono _) ?_; (try simp only [Act.put, zA, zB, zC])) | ((refine Sc.run_want rfl rfl (by rfl) ⟨?_, fun W hW => ?_, ?_⟩; rotate_left; (· (skip; go_simp; (try with_reducible rfl)))); (try simp only [Act.put, zA, zB, zC])))
   refine Sc.run_end (L := [_, _]) rfl (fun W7 hW7 => ?_)
   have hb7 := Bx.step (w := W5) (cs := [_, _, _, _, _, _]) hg hW7
   refine wpl_store (v := .agg #[.int .i64 noBook.agency, .slice r1 noBook.seats.length l1, .slice r2 noBook.off.length l2, .int .i64 noBook.sent, .slice r4 noBook.took.length l4, .int .i64 noBook.cash]) rfl _ _ _ rfl rfl rfl hb7 (by kernel_rfl) (by simp [Value.cells]) (by simp [Value.cells, Value.oneCell']) [.int .i64 noBook.agency, .slice r1 noBook.seats.length l1, .slice r2 noBook.off.length l2, .int .i64 noBook.sent, .slice r4 noBook.took.length l4, .int .i64 noBook.cash] rfl (fun w8 hb8 hw8 => ?_)
   have hS8 : Step W6 w8 := Step.wrote (((HST.out.trans HSN.out).trans hW5).trans hW7) hw8 hgb
   have HS8 := Lib.hid hS8
   have d7 : (c == 0) = false := by simpa using hc0
   clear hW5 hg hgb hgN hW7 hb7 hb8 hw8 hS8 hc0
   go_wp2
   go_ret
   exact ActEnds.no (HPQ6.out.step HS8.out) ((HT0.out.trans HT6.out).trans HS8.out) (actD_refused HV.out.1 HE0.out HIA.out HBI.out HBV.out.1 HRR.out)
  | ok q =>
   obtain ⟨b', ms⟩ := q
   rw [hr] at he
   obtain ⟨v', rfl, hv', ⟨vm', P'⟩, hSn⟩ := he
   obtain ⟨d1, d2, d4, rfl, t1, t2, t4⟩ := hv'.book
   have HRR := Lib.hid hr
   have hnew : ∀ {C : Nat → Prop}, (∀ j, C j → j < W6.heap.size) → StepX C Wi w' → KeepB W6.heap.size Wi w' := fun hC hS => ⟨hS.size, fun g o hg ho => by rw [hS.block g (Array.getElem?_eq_some_iff.1 ho).1 (fun h => by have := hC g h; omega)]; exact ho⟩
   have hCl : ∀ j, (j = gp ∨ (Value.slice pm Wd.msgs.length km).ownBlock = some j) → j < W6.heap.size := fun j hj => hj.elim (fun e => e ▸ HPQ6.out.bx.lt) fun e => (HPQ6.out.msgs.lt j e).2
   refine hK _ _ (hnew hCl hSn) ?_
   have HSN := Lib.hid hSn
   have HPN := Lib.hid P'
   have HBN := Lib.hid hv'
   have HCL := Lib.hid hCl
   obtain ⟨r1, l1, rfl⟩ := t1.form
   obtain ⟨r2, l2, rfl⟩ := t2.form
   obtain ⟨r4, l4, rfl⟩ := t4.form
   clear hK hSn hr t1 t2 t4 hv' P' hnew hCl
   (try simp only [Act.put, zA, zB, zC])
   repeat (first | (refine Sc.run_off rfl rfl (by rfl) ?_; (try simp only [Act.put, zA, zB, zC])) | (refine Sc.run_chain_off rfl rfl (by rfl) (Sc.K0_mono _) ?_; (try simp only [Act.put, zA, zB, zC])) | ((refine Sc.run_want rfl rfl (by rfl) ⟨?_, fun W hW => ?_, ?_⟩; rotate_left; (· (skip; go_simp; (try with_reducible rfl)))); (try simp only [Act.put, zA, zB, zC])))
   refine Sc.run_alloc rfl rfl (fun W5 g6 hW5 hg hgb hgN => ?_)
   (try simp only [Act.put, zA, zB, zC])
   repeat (first | (refine Sc.run_off rfl rfl (by rfl) ?_; (try simp only [Act.put, zA, zB, zC])) | (refine Sc.run_chain_off rfl rfl (by rfl) (Sc.K0_mono _) ?_; (try simp only [Act.put, zA, zB, zC])) | ((refine Sc.run_want rfl rfl (by rfl) ⟨?_, fun W hW => ?_, ?_⟩; rotate_left; (· (skip; go_simp; (try with_reducible rfl)))); (try simp only [Act.put, zA, zB, zC])))
   refine Sc.run_end (L := [_, _]) rfl (fun W7 hW7 => ?_)
   have hb7 := Bx.step (w := W5) (cs := [_, _, _, _, _, _]) hg hW7
   refine wpl_store (v := .agg #[.int .i64 b'.agency, .slice r1 b'.seats.length l1, .slice r2 b'.off.length l2, .int .i64 b'.sent, .slice r4 b'.took.length l4, .int .i64 b'.cash]) rfl _ _ _ rfl rfl rfl hb7 (by kernel_rfl) (by simp [Value.cells]) (by simp [Value.cells, Value.oneCell']) [.int .i64 b'.agency, .slice r1 b'.seats.length l1, .slice r2 b'.off.length l2, .int .i64 b'.sent, .slice r4 b'.took.length l4, .int .i64 b'.cash] rfl (fun w8 hb8 hw8 => ?_)
   have hS7 : Step w' W7 := hW5.trans hW7
   have HB8 := Lib.hid hb8
   have HW8 := Lib.hid hw8
   have HS7 := Lib.hid hS7
   have HG6 := Lib.hid (And.intro hgb hgN.2)
   clear hW5 hg hgb hgN hW7 hb7 hb8 hw8 hS7
   go_upto_region 8 with (fail)
   have HC8 := Lib.hid (show StepX (fun j => j = gp ∨ (Value.slice pm Wd.msgs.length km).ownBlock = some j) W6 w8 from (((StepX.of HST.out).trans HSN.out).trans (StepX.of HS7.out)).over (HW8.out.stepX) (fun j hj => .inl (by have := HG6.out.1; omega)))
   have hP7 : Play (fun j => X j ∨ j = g6) n0 W7 gp h ⟨Wd.books, Wd.msgs ++ restOf [] (Except.ok (b', ms))⟩ c0 c1 c2 c3 c4 (.slice (some ⟨gB, 0, none⟩) Wd.books.length kb) vm' := by
    have h1 := HPN.out.more (Y := fun j => X j ∨ (W6.heap.size ≤ j ∧ j < Wi.heap.size) ∨ w'.heap.size ≤ j) (fun j hj hs => by
     rcases hs with hs | hs | hs
     ·exact .inl hs
     ·exact .inr ⟨hs.1, by omega⟩
     ·omega) (fun j hj => by
     have := HPQ6.out.low; have := HPQ6.out.bx.lt; have := HST.out.size; have := HSN.out.size
     rcases hj with hj | hj | hj
     ·exact HPQ6.out.xlow j hj
     ·omega
     ·omega)
    refine (h1.step HS7.out).more (fun j hj e => ?_) (fun j e => e.elim (HPQ6.out.xlow j) fun e => by have := HPQ6.out.low; have := HPQ6.out.bx.lt; have := HG6.out.1; omega)
    have hg := HG6.out
    rcases e with e | e
    ·exact .inl e
    rcases hg.2 with a | a
    ·exact .inr (.inl ⟨by omega, by omega⟩)
    ·exact .inr (.inr (by omega))
   have HP8 := Lib.hid ((hP7.keep (HW8.out.keeps.mono fun j _ e => .inr e)).more (Y := X) (fun _ _ h => .inl h) (fun j h => HPQ6.out.xlow j h))
   have hnw : ¬ (w.heap.size = gp ∨ (Value.slice pm Wd.msgs.length km).ownBlock = some w.heap.size) := fun e => by
    rcases e with e | e
    ·have := HP.out.bx.lt; omega
    ·have := (HP.out.msgs.lt _ e).2; omega
   have hnx : ¬ (w.heap.size + 1 = gp ∨ (Value.slice pm Wd.msgs.length km).ownBlock = some (w.heap.size + 1)) := fun e => by
    rcases e with e | e
    ·have := HP.out.bx.lt; omega
    ·have := (HP.out.msgs.lt _ e).2; omega
   have a0 := ((HB03.out.step HT6.out).keep HC8.out.keeps hnw).cell 0
   have q1 := ((HB13.out.step HT6.out).keep HC8.out.keeps hnx).cell 1
   have g5 := HP8.out.bx.cell 5
   obtain ⟨y0, y1, y2, y3, y4, y5⟩ := cells6 HB8.out
   simp only [zD, zE] at a0 q1 g5
   have hia := HIA.out
   have hib := HIB.out
   have hrg : (0 : Int) ≤ x.agency ∧ x.agency < (Wd.books.length : Int) := by omega
   have htn : x.agency.toNat = i := by omega
   clear hia hib hP7 hnw hnx
   refine wp_region_seq (kdOf [] []) [0, 1, 3, 7, 15, 0, 32, 0, 255, 511] [0, 1, 2, 3, 4, 5, 6, 7, 8] [9] (by kernel_rfl) (by kernel_rfl) (fun i T z hi hk => by simp [kdOf] at hk <;> (try (split at hk <;> cases hk))) ?_
   intro Wy hWy
   have a0 := hWy.kc a0
   have q1 := hWy.kc q1
   have g5 := hWy.kc g5
   have y0 := hWy.kc y0
   have y1 := hWy.kc y1
   have y2 := hWy.kc y2
   have y3 := hWy.kc y3
   have y4 := hWy.kc y4
   have y5 := hWy.kc y5
   repeat (first | (refine run_off rfl rfl (by rfl) ?_; (try simp only [Act.put, zA, zB, zC])) | (refine run_chain_off rfl rfl (by rfl) (K0_mono _) ?_; (try simp only [Act.put, zA, zB, zC])) | ((refine run_want rfl rfl (by rfl) ⟨?_, fun W hW => ?_, ?_⟩; rotate_left; (· (have d0 := hW.kc a0; have d1 := hW.kc q1; have d2 := hW.kc g5; have d3 := hW.kc y0; have d4 := hW.kc y1; have d5 := hW.kc y2; have d6 := hW.kc y3; have d7 := hW.kc y4; have d8 := hW.kc y5; go_simp; (try with_reducible rfl)))); (try simp only [Act.put, zA, zB, zC])))
   clear a0 q1 g5 y0 y1 y2 y3 y4 y5
   refine run_end (L := [_]) rfl (fun W9 hW9 => ?_)
   have HP9 := Lib.hid ((HP8.out.step hWy).step hW9)
   obtain ⟨gB2, capB, csB, hvb, hbx, hlen, hput⟩ := HP9.out.put HIB.out
   injection hvb with hv1 _ hv3
   injection hv1 with hv1
   injection hv1 with hv1 _ _
   subst hv1
   have HPUT := Lib.hid hput
   have HLEN := Lib.hid hlen
   have HBX := Lib.hid hbx
   have HS9 := Lib.hid (hWy.trans hW9)
   clear hWy hW9 hrg hput hlen hbx hv3
   have hold : AV (fun j => ((X j ∨ j < n0) ∨ j = gp ∨ vm'.ownBlock = some j) ∨ (Value.slice (some ⟨gB, 0, none⟩) Wd.books.length kb).ownBlock = some j ∨ j = g6) w' (.agg #[.int .i64 b'.agency, .slice r1 b'.seats.length l1, .slice r2 b'.off.length l2, .int .i64 b'.sent, .slice r4 b'.took.length l4, .int .i64 b'.cash]) b' := HBN.out.weak fun j hj hs => by
    have hz := HST.out.size
    rcases hs with (hs | hs | hs) | hs | hs
    ·have := HPQ6.out.low; have := HPQ6.out.bx.lt
     rcases hs with hs | hs
     ·have := HXL.out j hs; have := (HT0.out.trans HT6.out).size; left; unfold Old; omega
     ·left; unfold Old; omega
    ·have := HPQ6.out.bx.lt; left; unfold Old; omega
    ·exact .inr (HPN.out.msgT j hs)
    ·have := (HPQ6.out.books.lt j hs).2; left; unfold Old; omega
    ·rcases HG6.out.2 with a | a
     ·left; unfold Old; omega
     ·omega
   have hold9 := (((hold.keep (.of_step HS7.out)).keep (.wrote HW8.out (.inr (.inr rfl)))).keep (.of_step HS9.out)).weak (T := avoid (fun j => (X j ∨ j < n0) ∨ j = gp ∨ vm'.ownBlock = some j) (.slice (some ⟨gB, 0, none⟩) Wd.books.length kb)) (fun j _ hj => hj.elim .inl fun e => .inr (.inl e))
   obtain ⟨cs9, he9, hr9⟩ := hold9
   injection he9 with he9
   have hf9 : cs9 = [.int .i64 b'.agency, .slice r1 b'.seats.length l1, .slice r2 b'.off.length l2, .int .i64 b'.sent, .slice r4 b'.took.length l4, .int .i64 b'.cash] := by
    have := congrArg Array.toList he9
    simpa using this.symm
   rw [hf9] at hr9
   have HR9 := Lib.hid hr9
   clear hold hf9 hr9 he9 cs9
   refine wpl_store (v := .agg #[.int .i64 b'.agency, .slice r1 b'.seats.length l1, .slice r2 b'.off.length l2, .int .i64 b'.sent, .slice r4 b'.took.length l4, .int .i64 b'.cash]) rfl _ _ _ rfl rfl rfl HBX.out (by kernel_rfl) (by simp [Value.cells]; exact HLEN.out) (by simp [Value.cells, Value.oneCell']) (csB.take (i * 6) ++ [.int .i64 b'.agency, .slice r1 b'.seats.length l1, .slice r2 b'.off.length l2, .int .i64 b'.sent, .slice r4 b'.took.length l4, .int .i64 b'.cash] ++ csB.drop (i * 6 + 6)) rfl (fun w10 hb10 hw10 => ?_)
   have HPF := Lib.hid (HPUT.out w10 _ b' HR9.out hw10 hb10)
   have HSF := Lib.hid (show StepX (fun j => j = gp ∨ (Value.slice (some ⟨gB, 0, none⟩) Wd.books.length kb).ownBlock = some j ∨ (Value.slice pm Wd.msgs.length km).ownBlock = some j) w w10 from
    (((StepX.of (HT0.out.trans HT6.out)).trans (HC8.out.mono fun j _ hj => hj.elim .inl fun e => .inr (.inr e))).trans (StepX.of HS9.out)).trans (hw10.stepX.mono fun j _ e => .inr (.inl (by rw [e]; rfl))))
   clear hb10 hw10 htn
   go_wp2
   go_ret
   exact ActEnds.yes HPF.out HSF.out (actD_done HV.out.1 HE0.out HIA.out HBI.out HBV.out.1 HRR.out)
def runC (h : House) (l : List ActT) : Int := if valid h then if 200 < l.length then 3 else 0 else 1
def runW (h : House) (l : List ActT) : Wd := if runC h l = 0 then worldAt h l l.length else ⟨[], []⟩
def runE (h : House) (l : List ActT) : List Int := if runC h l = 0 then errsTo h l l.length else []
theorem siWorld : SI Tryz.prog 34 2 := ⟨⟨_, Tryz.underlying34⟩, by kernel_rfl⟩
theorem infoBook : (Tryz.prog.info? 77).map (fun i => (i.zero, i.size, i.bytes)) = some (some (.agg #[.int .i64 0, .slice none 0 0, .slice none 0 0, .int .i64 0, .slice none 0 0, .int .i64 0]), 6, 96) := by kernel_rfl
theorem eiBooks : EI Tryz.prog 31 77 (.agg #[.int .i64 0, .slice none 0 0, .slice none 0 0, .int .i64 0, .slice none 0 0, .int .i64 0]) 6 96 := .mk' Tryz.underlying31 infoBook rfl
theorem infoErr : (Tryz.prog.info? 36).map (fun i => (i.zero, i.size, i.bytes)) = some (some (.int .i64 0), 1, 8) := by kernel_rfl
theorem eiErrs : EI Tryz.prog 35 36 (.int .i64 0) 1 8 := .mk' Tryz.underlying35 infoErr rfl
theorem Play.booked {X : Nat → Prop} {n0 : Nat} {w w2 : World} {gp : Nat} {h : House} {W : Wd} {c0 c1 c2 c3 c4 vb vm : Value} {p : Option Addr} {n c : Nat} {l : List Book} (P : Play X n0 w gp h W c0 c1 c2 c3 c4 vb vm)
  (hown : OwnL (fun j => (X j ∨ j < n0) ∨ j = gp ∨ vm.ownBlock = some j) n0 77 w2 (.slice p n c) l) (hg : w.grownBy w2 vb.ownBlock) (hf : ∀ k, (Value.slice p n c).ownBlock = some k → vb.ownBlock = some k ∨ w.heap.size ≤ k) (hX : ∀ j, X j → j < w.heap.size) :
  Play X n0 (w2.setCell ⟨gp, 5, none⟩ (.slice p n c)) gp h ⟨l, W.msgs⟩ c0 c1 c2 c3 c4 (.slice p n c) vm := by
 have hw := Wrote.setCell w2 gp 5 (.slice p n c)
 have hgp : vb.ownBlock ≠ some gp := fun e => (P.bxx gp e).2 rfl
 have hvb : Keeps (fun j => vb.ownBlock = some j) w w2 := .grown hg fun j hj _ => hj
 have b1 : Bx w2 gp [c0, c1, c2, c3, c4, vb, vm] 111 := P.bx.keep hvb hgp
 have hap : ∀ g, vm.ownBlock = some g → vb.ownBlock ≠ some g := fun g e1 e2 => P.apart g e2 e1
 have hm2 : OwnL (fun j => (X j ∨ j < n0) ∨ j = gp ∨ (Value.slice p n c).ownBlock = some j) n0 86 w2 vm W.msgs := by
  have h1 : OwnL (fun j => (X j ∨ j < n0) ∨ j = gp ∨ vb.ownBlock = some j ∨ (Value.slice p n c).ownBlock = some j) n0 86 w vm W.msgs := P.msgs.weak fun j hj hs => by
   rcases hs with a | a | a | a
   ·exact .inl a
   ·exact .inr (.inl a)
   ·exact .inr (.inr a)
   ·rcases hf j a with a | a
    ·exact .inr (.inr a)
    ·omega
  have h2 := h1.kept (w' := w2) (hvb.mono fun j _ hj => .inr (.inr (.inl hj))) fun g hg' => hg.block g (P.msgs.lt g hg').2 fun e => hap g hg' e.symm
  exact h2.weak fun j _ hs => by
   rcases hs with a | a | a
   ·exact .inl a
   ·exact .inr (.inl a)
   ·exact .inr (.inr (.inr a))
 have x4 : (Value.slice p n c).ownBlock ≠ some gp := fun e => by
  rcases hf gp e with a | a
  ·exact hgp a
  ·have := P.bx.lt; omega
 refine { bx := b1.setCell 5 _, low := P.low, house := Rep.keep (.wrote hw P.low) (Rep.keep (hvb.mono fun j hj hs => (P.books.lt j hs).1) P.house), msgs := hm2.wrote hw (.inr (.inl rfl)) fun e => (P.mxx gp e).2 rfl, books := hown.wrote hw (.inr (.inl rfl)) x4, xlow := P.xlow, gx := P.gx, mxx := P.mxx, bxx := fun k hk => ⟨fun hx => ?_, fun e => x4 (e ▸ hk)⟩ }
 rcases hf k hk with a | a
 ·exact (P.bxx k a).1 hx
 ·have := hX k hx; omega
theorem msgs_le {h : House} (hv : valid h = true) (l : List ActT) : ∀ k, (worldAt h l k).msgs.length ≤ k
 | 0 => by simp [worldAt, startD]
 | k + 1 => by
  obtain ⟨ms, e, h1, _⟩ := (act_ok hv (world_ok hv l k) (l.getD k noAct)).2
  show (actD h (worldAt h l k) (l.getD k noAct)).1.msgs.length ≤ k + 1
  rw [e, List.length_append]
  have := msgs_le hv l k
  omega
def openTo (h : House) (k : Nat) : List Book := (List.range k).map fun (a : Nat) => openP h (a : Int)
theorem openTo_succ (h : House) (k : Nat) : openTo h (k + 1) = openTo h k ++ [openP h (k : Int)] := by simp [openTo, List.range_succ]
theorem openTo_len (h : House) (k : Nat) : (openTo h k).length = k := by simp [openTo]
set_option maxRecDepth 100000 in
set_option maxHeartbeats 8000000 in
theorem Run_any (S : Nat → Prop) (h : House) (l : List ActT) (v u : Value) (w : World) (hv : AV S w v h) (hu : SL S w u l) (hsl : ∀ i (hi : i < l.length), l[i].seats.length ≤ 1000000) :
    Calls Tryz.prog 11 #[v, u] w fun e w' => ∃ vw ve, e = .returned (.tuple #[vw, ve, .int .i64 (runC h l)]) ∧ AV (Old w) w' vw (runW h l) ∧ SL (Old w) w' ve (runE h l) ∧ Step w w' := by
  obtain ⟨c0, c1, c2, c3, c4, rfl, h0, h1, h2, h3, h4⟩ := hv.house
  obtain ⟨p0, k0, rfl⟩ := h0.form
  obtain ⟨p1, k1, rfl⟩ := h1.form
  obtain ⟨p2, k2, rfl⟩ := h2.form
  obtain ⟨p3, k3, rfl⟩ := h3.form
  obtain ⟨p4, k4, rfl⟩ := h4.form
  obtain ⟨pu, ku, rfl⟩ := hu.form
  obtain ⟨W0, hW0⟩ : ∃ W0, W0 = (w.alloc (.cells #[.slice p0 h.sectors.length k0, .slice p1 h.prices.length k1, .slice p2 h.dates.length k2, .slice p3 h.frm.length k3, .slice p4 h.holds.length k4] 41)).alloc (.cells #[.slice none 0 0, .slice none 0 0] 34) := ⟨_, rfl⟩
  have hS : Step w W0 := by subst hW0; exact (by repeat (first | (with_reducible assumption) | (with_reducible exact Step.refl _) | (with_reducible apply Step.s_alloc) | (with_reducible apply Step.s_drew) | (with_reducible apply Step.s_drewN) | (with_reducible refine Step.trans ?_ (by with_reducible assumption))))
  have hb0 : Bx W0 w.heap.size [.slice p0 h.sectors.length k0, .slice p1 h.prices.length k1, .slice p2 h.dates.length k2, .slice p3 h.frm.length k3, .slice p4 h.holds.length k4] 41 := by subst hW0; exact (Bx.new _ [_, _, _, _, _] _).alloc _
  have hb1 : Bx W0 (w.heap.size + 1) [.slice none 0 0, .slice none 0 0] 34 := by subst hW0; exact Bx.new' _ [_, _] _ _ (by simp)
  have hz0 : W0.heap.size = w.heap.size + 2 := by subst hW0; simp
  have HHR := Lib.hid (Rep.weak (T := fun j => w.heap.size ≤ j) (fun j hj hs => by omega) (show Rep.rep S w [.slice p0 h.sectors.length k0, .slice p1 h.prices.length k1, .slice p2 h.dates.length k2, .slice p3 h.frm.length k3, .slice p4 h.holds.length k4] h from ⟨_, _, _, _, _, rfl, h0, h1, h2, h3, h4⟩))
  have HH := Lib.hid (hv.weak (T := fun j => w.heap.size ≤ j) (fun j hj hs => by omega))
  have HU := Lib.hid (hu.weak (T := fun j => w.heap.size ≤ j) (fun j hj hs => by omega))
  have HS := Lib.hid hS
  have HB0 := Lib.hid hb0
  have HB1 := Lib.hid hb1
  have HZ0 := Lib.hid hz0
  have HW := Lib.hid hW0
  have HSL := Lib.hid hsl
  clear hv hu hS hb0 hb1 hz0 hW0 hsl h0 h1 h2 h3 h4
  go_enter Tryz.func11, Tryz.ntmps11
  go_upto_region 1 with (fail)
  rw [← HW.out]
  clear HW
  obtain ⟨e0, e1, e2, e3, e4⟩ := cells5 HB0.out
  go_wp2_with fail
  refine (valid_any (fun j => w.heap.size ≤ j) h _ _ (HH.out.keep (.of_step HS.out))).mono ?_
  rintro e wn ⟨rfl, hSn⟩
  have HT := Lib.hid hSn
  clear hSn e0 e1 e2 e3 e4
  obtain ⟨f0, f1⟩ : W0.cell? ⟨w.heap.size + 1, 0, none⟩ = some (.slice none 0 0) ∧ W0.cell? ⟨w.heap.size + 1, 1, none⟩ = some (.slice none 0 0) := ⟨HB1.out.cell 0, HB1.out.cell 1⟩
  cases qv : valid h with
  | false =>
    have HQ := Lib.hid qv
    have b1 := HB1.out.step HT.out
    have z0 := b1.cell 0
    have z1 := b1.cell 1
    have zf := b1.frozen
    simp only [zD, zE] at z0 z1
    clear qv f0 f1
    go_wp2
    have hc : runC h l = 1 := by simp [runC, HQ.out]
    have hs2 := Step.setNew (Step.setNew (HS.out.trans HT.out) ⟨w.heap.size + 1, 0, none⟩ (.slice none 0 0) (by show w.heap.size ≤ w.heap.size + 1; omega)) ⟨w.heap.size + 1, 1, none⟩ (.slice none 0 0) (by show w.heap.size ≤ w.heap.size + 1; omega)
    have b2 := (b1.setCell 0 (.slice none 0 0)).setCell 1 (.slice none 0 0)
    refine ret_struct3 (k := 2) rfl siWorld rfl b2 rfl rfl ?_
    show ∃ vw ve, _
    rw [runW, runE, hc, if_neg (by decide), if_neg (by decide)]
    exact ⟨_, _, rfl, ⟨_, rfl, _, _, rfl, SL.nil _ _, SL.nil _ _⟩, SL.nil _ _, hs2⟩
  | true =>
  have HQ := Lib.hid qv
  clear qv f0 f1
  by_cases hl : 200 < l.length
  · have d1 : decide ((200 : Int) < (l.length : Int)) = true := decide_eq_true (by omega)
    have d1n : decide (200 < l.length) = true := decide_eq_true hl
    have HL := Lib.hid hl
    clear hl
    have b1 := HB1.out.step HT.out
    have z0 := b1.cell 0
    have z1 := b1.cell 1
    have zf := b1.frozen
    simp only [zD, zE] at z0 z1
    go_wp2
    have hc : runC h l = 3 := by simp [runC, HQ.out, HL.out]
    have hs2 := Step.setNew (Step.setNew (HS.out.trans HT.out) ⟨w.heap.size + 1, 0, none⟩ (.slice none 0 0) (by show w.heap.size ≤ w.heap.size + 1; omega)) ⟨w.heap.size + 1, 1, none⟩ (.slice none 0 0) (by show w.heap.size ≤ w.heap.size + 1; omega)
    have b2 := (b1.setCell 0 (.slice none 0 0)).setCell 1 (.slice none 0 0)
    refine ret_struct3 (k := 2) rfl siWorld rfl b2 rfl rfl ?_
    show ∃ vw ve, _
    rw [runW, runE, hc, if_neg (by decide), if_neg (by decide)]
    exact ⟨_, _, rfl, ⟨_, rfl, _, _, rfl, SL.nil _ _, SL.nil _ _⟩, SL.nil _ _, hs2⟩
  have d1 : decide ((200 : Int) < (l.length : Int)) = false := decide_eq_false (by omega)
  have d1n : decide (200 < l.length) = false := decide_eq_false hl
  have HL := Lib.hid hl
  clear hl
  obtain ⟨e0, e1, e2, e3, e4⟩ := cells5 (HB0.out.step HT.out)
  go_upto_region 6 with (fail)
  clear d1 d1n e0 e1 e2 e3 e4
  obtain ⟨gp, hgp⟩ : ∃ g, g = wn.heap.size := ⟨_, rfl⟩
  obtain ⟨W5, hW5⟩ : ∃ W, W = wn.alloc (.cells #[.slice p0 h.sectors.length k0, .slice p1 h.prices.length k1, .slice p2 h.dates.length k2, .slice p3 h.frm.length k3, .slice p4 h.holds.length k4, .slice none 0 0, .slice none 0 0] 111) := ⟨_, rfl⟩
  have hb5 : Bx W5 gp [.slice p0 h.sectors.length k0, .slice p1 h.prices.length k1, .slice p2 h.dates.length k2, .slice p3 h.frm.length k3, .slice p4 h.holds.length k4, .slice none 0 0, .slice none 0 0] 111 := by subst hW5 hgp; exact Bx.new wn [_, _, _, _, _, _, _] _
  have hS5 : Step wn W5 := by subst hW5; exact Step.alloc _ _
  have hlow : W0.heap.size ≤ gp := by rw [hgp]; exact HT.out.size
  rw [← hW5, ← hgp]
  have HP5 := Lib.hid (show Play (fun j => j = w.heap.size ∨ j = w.heap.size + 1) w.heap.size W5 gp h ⟨openTo h 0, []⟩ (.slice p0 h.sectors.length k0) (.slice p1 h.prices.length k1) (.slice p2 h.dates.length k2) (.slice p3 h.frm.length k3) (.slice p4 h.holds.length k4) (.slice none 0 0) (.slice none 0 0) from
    { bx := hb5, low := by have := HZ0.out; omega, house := Rep.keep (.of_step ((HS.out.trans HT.out).trans hS5)) HHR.out, books := OwnL.nil _ _ _ _, msgs := OwnL.nil _ _ _ _,
      xlow := fun j hj => by omega, gx := fun hj => by have := HZ0.out; omega, bxx := fun k hk => by simp [Value.ownBlock] at hk, mxx := fun k hk => by simp [Value.ownBlock] at hk })
  have HLOW := Lib.hid hlow
  have hT5 := HT.out.trans hS5
  have BD := Lib.hid (bounds_valid HQ.out)
  clear HT hb5 hS5 hW5 hgp hlow
  have HT := Lib.hid hT5
  clear hT5
  obtain ⟨e0, e1, e2, e3, e4⟩ := cells5 (HB0.out.step HT.out)
  have hcall2 := agencies_any (fun j => w.heap.size ≤ j) h _ W5 (HH.out.keep (.of_step (HS.out.trans HT.out))) (by have := BD.out; omega)
  rw [agN_eq] at hcall2
  have hcall2 := Lib.hid hcall2
  go_wp2_with fail
  refine hcall2.out.mono ?_
  clear hcall2 e0 e1 e2 e3 e4
  rintro e w6 ⟨rfl, hS6⟩
  have HP6 := Lib.hid (HP5.out.step hS6)
  have HT6 := Lib.hid (HT.out.trans hS6)
  clear hS6 HP5 HT
  go_upto_region 7 with (fail)
  go_loopw [8, 28] (fun a i wr => ∃ (k : Nat) (vb : Value), k ≤ agN h ∧ i = .int .i64 k ∧ Play (fun j => j = w.heap.size ∨ j = w.heap.size + 1) w.heap.size wr gp h ⟨openTo h k, []⟩ (.slice p0 h.sectors.length k0) (.slice p1 h.prices.length k1) (.slice p2 h.dates.length k2) (.slice p3 h.frm.length k3) (.slice p4 h.holds.length k4) vb (.slice none 0 0) ∧ Step W0 wr) (fun _ i _ => agN h - (intOf i).toNat)
  case atStart => exact ⟨0, _, Nat.zero_le _, rfl, HP6.out, HT6.out⟩
  case round =>
    obtain ⟨k, vb, hk, rfl, hP, hT⟩ := hrel
    clear HP6 HT6
    have HP := Lib.hid hP
    have HT := Lib.hid hT
    clear hP hT
    by_cases hlt : k < agN h
    · obtain ⟨pb, kb, rfl⟩ : ∃ p c, vb = .slice p (openTo h k).length c := by obtain ⟨p, c, e, _, _⟩ := HP.out.books.form; exact ⟨p, c, e⟩
      go_upto_region 9 with (fail)
      have HPR := HP
      have hHB0 := HB0.out.step HT.out
      have HBR := Lib.hid hHB0
      clear hHB0
      refine wp_region_seqM (fun c d v a w h => by cases d <;> exact h) (kdOf [8, 9] []) [0, 0, 2, 6, 14, 30, 0, 0, 192, 448, 1022, 2047, 4095, 8191, 16383] [0, 1, 2, 3, 4, 5, 6, 7, 8, 9] [10, 11, 12, 13, 14] (by kernel_rfl) (by kernel_rfl) (fun i T z hi hk => by simp [kdOf] at hk <;> (try (split at hk <;> cases hk))) ?_
      intro Wx hWx
      obtain ⟨e0, e1, e2, e3, e4⟩ := cells5 (HBR.out.step hWx)
      have g5 := (HPR.out.bx.step hWx).cell 5
      simp only [zD, zE] at g5
      repeat (first | (refine run_off rfl rfl (by rfl) ?_; (try simp only [Act.put, zA, zB, zC])) | (refine run_chain_off rfl rfl (by rfl) (K0_mono _) ?_; (try simp only [Act.put, zA, zB, zC])) | ((refine run_want rfl rfl (by rfl) ⟨?_, fun W hW => ?_, ?_⟩; rotate_left; (· (have d0 := hW.kc e0; have d1 := hW.kc e1; have d2 := hW.kc e2; have d3 := hW.kc e3; have d4 := hW.kc e4; have d5 := hW.kc g5; go_simp; (try with_reducible rfl)))); (try simp only [Act.put, zA, zB, zC])))
      clear e0 e1 e2 e3 e4 g5
      refine run_chain rfl rfl (by rfl) (fun Wi hWi K' hK => ?_)
      have HXI := Lib.hid (hWx.trans hWi)
      have hcall := Lib.hid (open_any (fun j => w.heap.size ≤ j) h (k : Int) _ Wi (HH.out.keep (.of_step ((HS.out.trans HT.out).trans HXI.out))) (by have := BD.out; omega) (by have := BD.out; omega) (fun i hi => by have := BD.out.2.2.2.2.2.2.2.2.1 i hi; have := BD.out; omega))
      clear hWx hWi
      go_simp
      refine hcall.out.mono ?_
      clear hcall
      rintro e wq ⟨v', rfl, hv', hSn⟩
      obtain ⟨b1, b2, b4, rfl, s1, s2, s4⟩ := hv'.book
      obtain ⟨y1, x1, rfl⟩ := s1.form
      obtain ⟨y2, x2, rfl⟩ := s2.form
      obtain ⟨y4, x4, rfl⟩ := s4.form
      have HVB := Lib.hid hv'
      have HXN := Lib.hid (HXI.out.trans hSn)
      refine hK _ _ (StepX.of hSn) ?_
      have HSN := Lib.hid hSn
      have HZI := Lib.hid HXI.out.size
      clear hSn hv' s1 s2 s4 hK HXI
      (try simp only [Act.put, zA, zB, zC])
      repeat (first | (refine run_off rfl rfl (by rfl) ?_; (try simp only [Act.put, zA, zB, zC])) | (refine run_chain_off rfl rfl (by rfl) (K0_mono _) ?_; (try simp only [Act.put, zA, zB, zC])) | ((refine run_want rfl rfl (by rfl) ⟨?_, fun W hW => ?_, ?_⟩; rotate_left; (· (skip; go_simp; (try with_reducible rfl)))); (try simp only [Act.put, zA, zB, zC])))
      refine run_chain rfl rfl (by rfl) (fun W3 hW3 K' hK' => ?_)
      go_simp
      refine hK' _ _ (.of (Step.alloc _ _)) ?_
      (try simp only [Act.put, zA, zB, zC])
      refine run_end (L := [_, _, _, _, _]) rfl (fun W4 hW4 => ?_)
      have HP4 := Lib.hid ((((HPR.out.step HXN.out).step hW3).step (Step.alloc _ _)).step hW4)
      have HS4 := Lib.hid ((((HT.out.trans HXN.out).trans hW3).trans (Step.alloc _ _)).trans hW4)
      have hold : Rep.rep (avoid (fun j => ((j = w.heap.size ∨ j = w.heap.size + 1) ∨ j < w.heap.size) ∨ j = gp ∨ (Value.slice none 0 0).ownBlock = some j) (.slice pb (openTo h k).length kb)) wq [.int .i64 (openP h (k : Int)).agency, .slice y1 (openP h (k : Int)).seats.length x1, .slice y2 (openP h (k : Int)).off.length x2, .int .i64 (openP h (k : Int)).sent, .slice y4 (openP h (k : Int)).took.length x4, .int .i64 (openP h (k : Int)).cash] (openP h (k : Int)) := by
        obtain ⟨cs9, he9, hr9⟩ := HVB.out
        injection he9 with he9
        have hf9 : cs9 = [.int .i64 (openP h (k : Int)).agency, .slice y1 (openP h (k : Int)).seats.length x1, .slice y2 (openP h (k : Int)).off.length x2, .int .i64 (openP h (k : Int)).sent, .slice y4 (openP h (k : Int)).took.length x4, .int .i64 (openP h (k : Int)).cash] := by
          have := congrArg Array.toList he9
          simpa using this.symm
        rw [hf9] at hr9
        refine Rep.weak (fun j hj hs => ?_) hr9
        unfold Old
        have hz := HXN.out.size
        have h1 := HPR.out.bx.lt
        have h2 := HZI.out
        rcases hs with (hs | hs | hs) | hs
        · have := HT.out.size; have := HZ0.out; omega
        · have := HSN.out.size; have := HPR.out.bx.lt; omega
        · simp [Value.ownBlock] at hs
        · have := (HPR.out.books.lt j hs).2; omega
      have hu := (SLe.one 77 (Rep.keep (.of_step hW3) hold)).step hW4
      have hn1 : (openTo h k).length + [openP h (k : Int)].length = k + 1 := by rw [openTo_len]; rfl
      have hn2 : k + 1 ≤ maxLen := by have := BD.out; simp only [maxLen]; omega
      have hn3 : (k + 1) * 96 ≤ 140737488355328 := by have := BD.out; omega
      have HU4 := Lib.hid hu
      have HN := Lib.hid (And.intro hn1 (And.intro hn2 (And.intro hn3 (HS.out.trans HS4.out).size)))
      clear hW3 hW4 hold hu hn1 hn2 hn3 HP HPR
      go_wp2_with (at_builtin; refine wpl_append_F (S := fun j => ((j = w.heap.size ∨ j = w.heap.size + 1) ∨ j < w.heap.size) ∨ j = gp ∨ (Value.slice none 0 0).ownBlock = some j) (base := w.heap.size) (v := .slice pb (openTo h k).length kb) (l := openTo h k) (m := [openP h (k : Int)]) eiBooks rfl _ _ rfl rfl rfl HP4.out.books HU4.out (k + 1) HN.out.1 (openTo h (k + 1)) (openTo_succ h k).symm HN.out.2.1 HN.out.2.2.1 HN.out.2.2.2 ?_)
      intro p' c' w5 hown hg hf
      have hag := BD.out.2.2.2.2.2.1
      have hkw : IntKind.i64.wrap ((k : Int) + 1) = (k : Int) + 1 := by rw [IntKind.wrap_i64]; omega
      have hgp : ¬ (Value.slice pb (openTo h k).length kb).ownBlock = some gp := fun e => (HP4.out.bxx gp e).2 rfl
      have b5 := HP4.out.bx.keep (S := fun j => (Value.slice pb (openTo h k).length kb).ownBlock = some j) (.grown hg fun j hj _ => hj) hgp
      have f5 := b5.frozen 5
      have c5 := b5.cell 5
      simp only [zD, zE] at c5
      have HP5 := Lib.hid (HP4.out.booked (hown.weak (T := fun j => ((j = w.heap.size ∨ j = w.heap.size + 1) ∨ j < w.heap.size) ∨ j = gp ∨ (Value.slice none 0 0).ownBlock = some j) fun j _ hj => by first | exact hj | (rcases hj with (a | a) | a | a <;> simp [a]) | simpa [or_assoc] using hj) hg hf (fun j hj => by have := (HS.out.trans HS4.out).size; have := HS4.out.size; have := HZ0.out; omega))
      have HT5 := Lib.hid (StepX.fresh HS4.out (StepX.grown (X := fun j => (Value.slice pb (openTo h k).length kb).ownBlock = some j) hg fun k hk _ => hk) (fun j hj => by have h1 := (HP4.out.books.lt j hj).1; have h2 := (HP4.out.bxx j hj).1; have := HZ0.out; omega))
      clear hown hf hgp b5 hg
      go_wp2
      go_roundw
      case rel => exact ⟨k + 1, _, by omega, by go_num, HP5.out, Step.setNew HT5.out ⟨gp, 5, none⟩ _ HLOW.out⟩
      case measure => simp [intOf]; omega
    · have hke : k = agN h := by omega
      subst hke
      have HPS := Lib.hid (show Play (fun j => j = w.heap.size ∨ j = w.heap.size + 1) w.heap.size wr gp h (worldAt h l 0) (.slice p0 h.sectors.length k0) (.slice p1 h.prices.length k1) (.slice p2 h.dates.length k2) (.slice p3 h.frm.length k3) (.slice p4 h.holds.length k4) vb (.slice none 0 0) from HP.out)
      have hmf : ∀ (fn : Fn) (first cap : Array Value) (w : World), (Instr.makeFunc fn first cap).run Tryz.prog w = .ok (.func fn first cap) w := fun _ _ _ _ => rfl
      clear HP hk
      go_upto_region 14 with (fail)
      clear hmf hlt
      obtain ⟨wo, hwo⟩ : ∃ W, W = wr := ⟨_, rfl⟩
      subst hwo
      go_loopw [9, 12, 50] (fun v9 _ i wr => ∃ (k : Nat) (vb vm : Value), k ≤ l.length ∧ i = .int .i64 k ∧ OwnL (fun _ => False) W0.heap.size 36 wr v9 (errsTo h l k) ∧ Play (fun j => v9.ownBlock = some j ∨ j = w.heap.size ∨ j = w.heap.size + 1) w.heap.size wr gp h (worldAt h l k) (.slice p0 h.sectors.length k0) (.slice p1 h.prices.length k1) (.slice p2 h.dates.length k2) (.slice p3 h.frm.length k3) (.slice p4 h.holds.length k4) vb vm ∧ Step W0 wr) (fun _ _ i _ => l.length - (intOf i).toNat)
      case atStart => exact ⟨0, _, _, Nat.zero_le _, rfl, OwnL.nil _ _ _ _, HPS.out.more (fun j _ hj => hj.elim (fun e => by simp [Value.ownBlock] at e) id) (fun j hj => hj.elim (fun e => by simp [Value.ownBlock] at e) (fun e => by omega)), HT.out⟩
      case round =>
        obtain ⟨k, vb, vm, hk, rfl, hO, hP, hT⟩ := hrel
        clear HPS HT
        have HO := Lib.hid hO
        have HP := Lib.hid hP
        have HT := Lib.hid hT
        clear hO hP hT
        by_cases hlt : k < l.length
        · obtain ⟨_, _, lb, lo, he, _, _, hpu, hcu, _⟩ := (HU.out.keep (.of_step (HS.out.trans HT.out))).acts
          injection he with he1 he2 he3
          clear he2 he3
          have hpu := hpu (by omega)
          rw [← he1] at hpu
          obtain ⟨c8, ⟨q0, q1, q2, q3, q4, q5, q6, q7, q8⟩, hs8, hk0, hk1⟩ := hcu k hlt
          obtain ⟨p8, k8, rfl⟩ := hs8.form
          rw [hpu]
          have hx : (0 : Int) ≤ (k : Int) ∧ (k : Int) < (l.length : Int) := by omega
          have hgd : l.getD k noAct = l[k] := by simp [List.getD_eq_getElem?_getD, hlt]
          obtain ⟨x, hxl⟩ : ∃ x, x = l[k] := ⟨_, rfl⟩
          rw [← hxl] at q0 q1 q2 q3 q4 q5 q6 q7 q8 hs8 hk0 hk1 hgd
          have hsx := HSL.out k hlt
          rw [← hxl] at hsx
          have HGD := Lib.hid hgd
          have HSX := Lib.hid hsx
          have HX8 := Lib.hid (And.intro hs8 (And.intro hk0 hk1))
          clear he1 hpu hcu hs8 hk0 hk1 hgd hsx hxl
          go_upto_region 16 with (fail)
          obtain ⟨p9, c9, hu9, _, _⟩ := HO.out.form
          subst hu9
          obtain ⟨W2, hW2⟩ : ∃ W2, W2 = wr.alloc (.cells #[.int .u8 x.kind, .int .i64 x.agency, .int .i64 x.shw, .int .i64 x.seat, .int .i64 x.buyer, .int .i64 x.day, .int .i64 x.dst, .int .i64 x.msg, .slice p8 x.seats.length k8] 100) := ⟨_, rfl⟩
          have hb2 : Bx W2 wr.heap.size [.int .u8 x.kind, .int .i64 x.agency, .int .i64 x.shw, .int .i64 x.seat, .int .i64 x.buyer, .int .i64 x.day, .int .i64 x.dst, .int .i64 x.msg, .slice p8 x.seats.length k8] 100 := by subst hW2; exact Bx.new wr [_, _, _, _, _, _, _, _, _] _
          have hS2 : Step wr W2 := by subst hW2; exact Step.alloc _ _
          rw [← hW2]
          have HS2 := Lib.hid hS2
          have HB2 := Lib.hid hb2
          clear hW2 q0 q1 q2 q3 q4 q5 q6 q7 q8 hS2 hb2 hx
          have q0 := HB2.out.cell 0
          have q1 := HB2.out.cell 1
          have q2 := HB2.out.cell 2
          have q3 := HB2.out.cell 3
          have q4 := HB2.out.cell 4
          have q5 := HB2.out.cell 5
          have q6 := HB2.out.cell 6
          have q7 := HB2.out.cell 7
          have q8 := HB2.out.cell 8
          simp only [zD, zE] at q0 q1 q2 q3 q4 q5 q6 q7 q8
          have eg : ∀ args w, (callFunc 46 args).run Tryz.prog w = .ok (.enter 46 args) w := Go.Proofs.enters_of Tryz.func46 (by kernel_rfl) rfl
          have hcall := Lib.hid (act_any HQ.out (world_ok HQ.out l k) (fun j => w.heap.size ≤ j) x (.agg #[.int .u8 x.kind, .int .i64 x.agency, .int .i64 x.shw, .int .i64 x.seat, .int .i64 x.buyer, .int .i64 x.day, .int .i64 x.dst, .int .i64 x.msg, .slice p8 x.seats.length k8]) W2 ⟨_, rfl, _, rfl, HX8.out.1.keep (.of_step HS2.out), HX8.out.2.1, HX8.out.2.2⟩ (fun j hj => by have := HS2.out.size; have := HT.out.size; have := HZ0.out; rcases hj with hj | hj; exact Nat.lt_of_lt_of_le (HO.out.lt j hj).2 HS2.out.size; omega) (HP.out.step HS2.out) HSX.out (by have := msgs_le HQ.out l k; have := HL.out; omega))
          go_wp2_with fail
          refine hcall.out.mono ?_
          clear hcall eg q0 q1 q2 q3 q4 q5 q6 q7 q8
          rintro e w3 ⟨vm', rfl, hP3, hX3⟩
          obtain ⟨er, her⟩ : ∃ n, n = (actD h (worldAt h l k) x).2 := ⟨_, rfl⟩
          rw [← her]
          have hn4 : errsTo h l k ++ [er] = errsTo h l (k + 1) := by rw [errsTo_succ, her, ← HGD.out]; rfl
          have hPk : (actD h (worldAt h l k) x).1 = worldAt h l (k + 1) := by rw [← HGD.out]; rfl
          rw [hPk] at hP3
          have HO3 := Lib.hid ((HO.out.step HS2.out).keptF (w' := w3) (fun g hg => hX3.block g (Nat.lt_of_lt_of_le (HO.out.lt g hg).2 HS2.out.size) (fun hh => by
            rcases hh with e | e | e
            · exact HP.out.gx (.inl (e ▸ hg))
            · exact (HP.out.bxx g e).1 (.inl hg)
            · exact (HP.out.mxx g e).1 (.inl hg))))
          have HP3 := Lib.hid hP3
          have HN4 := Lib.hid hn4
          have hT3 : Step W0 w3 := StepX.fresh (HT.out.trans HS2.out) hX3 (fun j hj => by
            rcases hj with e | e | e
            · have := HLOW.out; omega
            · have h1 := (HP.out.books.lt j e).1; have h2 := (HP.out.bxx j e).1; have := HZ0.out; omega
            · have h1 := (HP.out.msgs.lt j e).1; have h2 := (HP.out.mxx j e).1; have := HZ0.out; omega)
          have HT3 := Lib.hid hT3
          clear hX3 hP3 hn4 hPk her hT3
          have hlen : (errsTo h l k).length + 1 = k + 1 := by rw [errsTo_len]
          have hk200 : k + 1 ≤ 200 := by have := HL.out; omega
          have HK2 := Lib.hid (And.intro hlen hk200)
          clear hlen hk200
          go_wp2_with (at_builtin; refine wpl_append_F (α := Int) (S := fun _ => False) (base := W0.heap.size) (v := .slice p9 (errsTo h l k).length c9) (l := errsTo h l k) (m := [er]) eiErrs rfl _ _ rfl rfl rfl (HO3.out.step (Step.alloc _ _)) (SLe.one 36 rfl) (k + 1) HK2.out.1 (errsTo h l (k + 1)) HN4.out ?_ ?_ ?_ ?_)
          · have := HK2.out.2; simp only [maxLen]; omega
          · have := HK2.out.2; omega
          · have := HT3.out.size; simp; omega
          intro p' c' w5 hown hg hf
          have hP4 := HP3.out.step (Step.alloc w3 (.cells #[.int .i64 er] 36))
          have hz4 : (w3.alloc (.cells #[.int .i64 er] 36)).heap.size = w3.heap.size + 1 := by simp
          have HP5 := Lib.hid (show Play (fun j => (Value.slice p' (k + 1) c').ownBlock = some j ∨ j = w.heap.size ∨ j = w.heap.size + 1) w.heap.size w5 gp h (worldAt h l (k + 1)) (.slice p0 h.sectors.length k0) (.slice p1 h.prices.length k1) (.slice p2 h.dates.length k2) (.slice p3 h.frm.length k3) (.slice p4 h.holds.length k4) vb vm' from
            (((hP4.more (Y := fun j => (Value.slice p9 (errsTo h l k).length c9).ownBlock = some j ∨ (Value.slice p' (k + 1) c').ownBlock = some j ∨ j = w.heap.size ∨ j = w.heap.size + 1) (fun j hj hs => by
              rcases hs with e | e | e
              · exact .inl e
              · rcases hf j e with q | q
                · exact .inl q
                · first | omega | (rw [hz4] at hj; omega)
              · exact .inr e) (fun j hj => by
              have := HZ0.out
              rcases hj with e | e | e
              · have := (HO3.out.lt j e).1; omega
              · have := (hown.lt j e).1; omega
              · omega)).keep (.grown hg fun j hj _ => .inl hj)).more (fun j _ hj => .inr hj) (fun j hj => by
              have := HZ0.out
              rcases hj with e | e
              · have := (hown.lt j e).1; omega
              · omega)))
          have HT5 := Lib.hid (StepX.fresh (HT3.out.trans (Step.alloc w3 (.cells #[.int .i64 er] 36))) (StepX.grown (X := fun j => (Value.slice p9 (errsTo h l k).length c9).ownBlock = some j) hg fun k hk _ => hk) (fun j hj => (HO3.out.lt j hj).1))
          have HO5 := Lib.hid hown
          have hkl : (k : Int) + 1 ≤ 200 := by have := HK2.out.2; omega
          have hkw : IntKind.i64.wrap ((k : Int) + 1) = (k : Int) + 1 := by rw [IntKind.wrap_i64]; omega
          clear hown hf hg hP4
          go_wp2
          go_roundw
          case rel => exact ⟨k + 1, _, _, by omega, by go_num, HO5.out, HP5.out, HT5.out⟩
          case measure => simp [intOf]; omega
        · have hke : k = l.length := by omega
          subst hke
          have hc : runC h l = 0 := by simp [runC, HQ.out, HL.out]
          have HC := Lib.hid hc
          obtain ⟨p9, c9, hu9, _, _⟩ := HO.out.form
          subst hu9
          obtain ⟨pb, kb, rfl, _, _⟩ := HP.out.books.form
          obtain ⟨pm, km, rfl, _, _⟩ := HP.out.msgs.form
          have b1 := HB1.out.step HT.out
          have zf := b1.frozen
          have z0 := b1.cell 0
          have z1 := b1.cell 1
          have g5 := HP.out.bx.cell 5
          have g6 := HP.out.bx.cell 6
          simp only [zD, zE] at z0 z1 g5 g6
          clear hc
          go_wp2
          have b2 := (b1.setCell 0 (.slice pb (worldAt h l l.length).books.length kb)).setCell 1 (.slice pm (worldAt h l l.length).msgs.length km)
          have hw2 : StepX (fun j => j = w.heap.size + 1) wr ((wr.setCell ⟨w.heap.size + 1, 0, none⟩ (.slice pb (worldAt h l l.length).books.length kb)).setCell ⟨w.heap.size + 1, 1, none⟩ (.slice pm (worldAt h l l.length).msgs.length km)) :=
            StepX.setCell (X := fun j => j = w.heap.size + 1) (StepX.setCell (X := fun j => j = w.heap.size + 1) (StepX.refl (fun j => j = w.heap.size + 1) wr) ⟨w.heap.size + 1, 0, none⟩ _ rfl) ⟨w.heap.size + 1, 1, none⟩ _ rfl
          have sb : SL (fun j => j = w.heap.size + 1 ∨ j < w.heap.size) wr (.slice pb (worldAt h l l.length).books.length kb) (worldAt h l l.length).books := (HP.out.books.weak fun j _ hj => hj.elim (fun e => .inl (.inl (.inr (.inr e)))) (fun e => .inl (.inr e))).slb fun g hg e => e.elim (fun e => (HP.out.bxx g hg).1 (.inr (.inr e))) (fun e => by have := (HP.out.books.lt g hg).1; omega)
          have sm : SL (fun j => j = w.heap.size + 1 ∨ j < w.heap.size) wr (.slice pm (worldAt h l l.length).msgs.length km) (worldAt h l l.length).msgs := (HP.out.msgs.weak fun j _ hj => hj.elim (fun e => .inl (.inl (.inr (.inr e)))) (fun e => .inl (.inr e))).slb fun g hg e => e.elim (fun e => (HP.out.mxx g hg).1 (.inr (.inr e))) (fun e => by have := (HP.out.msgs.lt g hg).1; omega)
          have so : SL (fun j => j = w.heap.size + 1 ∨ j < w.heap.size) wr (.slice p9 (errsTo h l l.length).length c9) (errsTo h l l.length) := (HO.out.flat (fun j => j = w.heap.size + 1 ∨ j < w.heap.size)).slb fun g hg e => by have := (HO.out.lt g hg).1; have := HZ0.out; omega
          have hs2 := StepX.fresh (HS.out.trans HT.out) hw2 (fun j hj => by omega)
          refine ret_struct3 (k := 2) rfl siWorld rfl b2 rfl rfl ?_
          show ∃ vw ve, _
          rw [runW, runE, HC.out, if_pos rfl, if_pos rfl]
          have hk2 := hw2.keeps.mono (T := fun j => j = w.heap.size + 1 ∨ j < w.heap.size) fun j _ e => .inl e
          exact ⟨_, _, rfl, ⟨_, rfl, _, _, rfl, (sb.keep hk2).weak (fun _ _ h => .inr h), (sm.keep hk2).weak (fun _ _ h => .inr h)⟩, (so.keep hk2).weak (fun _ _ h => .inr h), hs2⟩
end Go.Proofs.YtgpiieogiafdoaaGreat
namespace Go.Proofs.YtgpiieogiafdoaaGreat
set_option linter.unusedSimpArgs false
open Go.RowKit Go.BT
theorem siHouse : SI Tryz.prog 41 5 := ⟨⟨_, Tryz.underlying41⟩, by kernel_rfl⟩
end Go.Proofs.YtgpiieogiafdoaaGreat
namespace Go.Proofs.YtgpiieogiafdoaaGreat
set_option linter.unusedSimpArgs false
set_option linter.unusedVariables false
open Go.RowKit Go.BT
end Go.Proofs.YtgpiieogiafdoaaGreat
