/- The seats of a class, and a lost show, are walked. -/
import Derived.Test.YtbgfmikbhiblgaaMa
import Derived.Test.YtbgfmikbhiblgaaMc
import Derived.Test.YtbgfmikbhiblgaaMe
import Derived.Test.YtbgfmikbhiblgaaRows
import Derived.BigQuiet
import Derived.Deep.AppendLies
import Derived.Deep.DeepCutAuto
import Derived.Deep.QuietTactic
import Derived.Deep.RegionHeld3
import Derived.Defers
import Derived.Laws.MakeOwn
import Derived.Laws.OwnMore
import Derived.Laws.Pointers
import Derived.Laws.StructEq
import Derived.Lib.Hide
import Derived.LoopIn
import Derived.LoopNIn
import Derived.OwnWalkIn
import Derived.RangeFuncBound
import Derived.RangeFuncCalls
import Derived.RangeFuncLeaves
import Derived.RangeFuncNested
import Derived.Recover
import Derived.Shelf.Abstract
import Derived.Shelf.RegionOpen
import Derived.TacticsInMore
import Derived.WalkKit
import Derived.WalkLawsBesides
import Derived.WalkSmall
import Derived.WalkSpells
import Derived.WideKeyRuns
/- A region that draws its order, walked in one order, within the wide fence, and within a round of a range over a function. -/
namespace Go.BT
open Go.RowKit

/-- The wide fence, in a round or in none. -/
def FW (ro : Option Nat) : Fence := { Fence.wide with round := ro }
@[simp] theorem FW_round (ro : Option Nat) : (FW ro).round = ro := rfl
@[simp] theorem FW_depth (ro : Option Nat) : (FW ro).depth = none := rfl
@[simp] theorem FW_fn (ro : Option Nat) (f : FuncId) : (FW ro).fn f = True := rfl
@[simp] theorem FW_inRound (ro : Option Nat) (l : Nat) : (FW ro).inRound l = FW (some l) := rfl
@[simp] theorem semAt_FW (ρ : Operand → Value) (o : Oper) : Oper.semAt none ρ o = execOp ρ o := rfl
theorem callsIn_FW {ro : Option Nat} {n : Nat} {P : Program} {f : FuncId} {args : Array Value} {w : World} {R : Ending → World → Prop} (h : Calls P f args w R) : CallsIn (FW ro) n P f args w R := by
  have h' : CallsIn Fence.wide n P f args w R := callsIn_wide.2 h
  cases ro with
  | none => exact h'
  | some l => exact CallsIn.inRound l h'
theorem rowsIn_FW {ro : Option Nat} {n : Nat} {P : Program} {row : String} {args : Array Value} {w : World} {R : Value → World → Prop} (h : Rows P row args w R) : RowsIn (FW ro) n P row args w R := fun c cs _ => by
  obtain ⟨v, w', r, s⟩ := h c cs
  exact ⟨v, w', r, (StepsIn.of_steps s).mono fun m _ => fenced_wide P m⟩

section
variable {P : Program} {ops : Array Oper} {X : Nat → Prop} {base : Nat} {kd : Nat → Kd} {ro : Option Nat} {n : Nat}
def noDefer (ops : Array Oper) : Bool := ops.all fun o => match o.op with
  | .defer _ => false
  | _ => true
theorem wpOpIn_of (hnd : noDefer ops = true) {Q : Exit → Act → World → Prop} {j : Nat} {K : Act → World → Prop} {a : Act} {w : World} (h : wpOp P ops QF j K a w) : wpOpIn (FW ro) n P ops Q j K a w := by
  unfold wpOp at h
  unfold wpOpIn
  cases ho : ops[j]? with
  | none => simp only [ho] at h; exact h
  | some o =>
    simp only [ho] at h ⊢
    have hd : ∀ c, o.op ≠ .defer c := fun c hc => by
      have := Array.all_eq_true'.1 hnd o (Array.mem_of_getElem? ho)
      simp [hc] at this
    have hsem : o.semAt (FW ro).round a.eval = execOp a.eval o := by
      unfold Oper.semAt
      cases ro with
      | none => rfl
      | some l =>
        show (match some l, o.op with | some l, .defer c => _ | _, _ => _) = _
        split
        · rename_i c _ hc; exact (hd _ hc).elim
        · rfl
    split
    · rename_i hw
      simp only [hw, if_true] at h
      rcases h with h | ⟨_, a0, w0, hF⟩
      case inr => exact hF.elim
      unfold Oper.wp at h
      refine ⟨fun f _ => trivial, ?_⟩
      rw [hsem]
      generalize (execOp a.eval o).run P w = r at *
      cases r with
      | ok x w' =>
        cases x <;> simp only [Oper.upon, Oper.uponIn] at h ⊢ <;> first
          | exact h
          | exact ⟨fun hs => absurd hs (by simp [FW, Fence.wide]), callsIn_FW (Calls.mono h fun e w'' he => by cases e <;> first | exact he | exact he.elim | (obtain ⟨_, _, hF⟩ := he; exact hF.elim))⟩
          | exact ⟨fun hs => absurd hs (by simp [FW, Fence.wide]), rowsIn_FW h⟩
      | halt x w' => cases x <;> simp only [Oper.upon] at h <;> exact h.elim
    · rename_i hw
      simp only [hw] at h
      exact ⟨fun f _ => trivial, h⟩
def K0I (P : Program) (ops : Array Oper) (X : Nat → Prop) (ro : Option Nat) (n : Nat) (Q : Exit → Act → World → Prop) (t : List Nat) : Cont := fun _ a w => ∀ W, StepX X w W → wpOpsIn (FW ro) n P ops Q t a W
theorem K0I_mono {Q : Exit → Act → World → Prop} (t : List Nat) : ContMono X (K0I P ops X ro n Q t) := fun _ _ _ _ _ _ hs h W hW => h W (hs.trans hW)
variable {tab : List Nat}
theorem tail_soundI {Q : Exit → Act → World → Prop} : ∀ (fuel : Nat) (t : List Nat) (listed : Array Bool) (a : Act) (w : World),
    t.length ≤ fuel → listed.size = ops.size → (∀ i, i < ops.size → (listed.getD i true = false ↔ i ∈ t)) → (∀ i ∈ t, i < ops.size) → t.Nodup → Closed ops listed →
    okTab tab ops = true → TailOk tab [] t → DepsOk ops listed t → wpOpsIn (FW ro) n P ops Q t a w → wpAnyIn (FW ro) n P .any ops Q fuel listed a w := by
  intro fuel
  induction fuel with
  | zero =>
    intro t listed a w hf hsz hun hin hnd hcl htab htail hdeps h
    have ht : t = [] := List.eq_nil_of_length_eq_zero (by omega)
    subst ht
    refine ⟨?_, by simpa [wpOpsIn] using h⟩
    rw [List.eq_nil_iff_forall_not_mem]
    intro j hj
    obtain ⟨h0, o, ho, _⟩ := mem_ready.1 hj
    have := (hun j (Array.getElem?_eq_some_iff.1 ho).1).1 h0
    simp at this
  | succ fuel ih =>
    intro t listed a w hf hsz hun hin hnd hcl htab htail hdeps h
    refine ⟨fun hr => ?_, fun j hj => ?_⟩
    · cases t with
      | nil => simpa [wpOpsIn] using h
      | cons x L =>
        exfalso
        obtain ⟨o, ho, hh⟩ := hdeps [] x L rfl
        have hx : x ∈ Region.ready .any ops listed := mem_ready.2 ⟨(hun x (hin x (by simp))).2 (by simp), o, ho, fun e he hb => (hh e he hb).resolve_right (by simp)⟩
        rw [hr] at hx; cases hx
    · obtain ⟨h0, oj, hoj, hdj⟩ := mem_ready.1 hj
      have hjlt := (Array.getElem?_eq_some_iff.1 hoj).1
      have hjsz : j < listed.size := by omega
      obtain ⟨t1, t2, rfl⟩ := List.append_of_mem ((hun j hjlt).1 h0)
      have ht1 : t1 = [] := by
        rw [List.eq_nil_iff_forall_not_mem]
        intro i hi
        have h1 := anc_listed hsz hcl htab j i oj hoj hdj (htail t1 j t2 rfl i (by simp [hi]))
        have h2 := (hun i (hin i (by simp [hi]))).2 (by simp [hi])
        rw [getD_tf (by rw [hsz]; exact hin i (by simp [hi])), h1] at h2
        cases h2
      subst ht1
      rw [List.nil_append, wpOpsIn_cons] at h
      refine wpOpIn_mono (fun a' w' hk => ?_) h
      have hnd' := nodup_mid hnd
      refine ih t2 _ a' w' (by simp at hf; omega) (by simp [hsz]) (by have := unlisted_drop (L1 := []) (L2 := t2) hjsz hun hnd; simpa using this) (fun i hi => hin i (by simp [hi])) (by simpa using hnd'.2)
        (closed_set hjsz hoj hdj hcl) htab (fun u1 x u2 he y hy => htail (j :: u1) x u2 (by simp [he]) y (by simp at hy ⊢; exact .inr hy)) (by have := depsOk_drop (L1 := []) (L2 := t2) hjsz hdeps; simpa using this) hk

theorem seq_soundI (hX : ∀ j, X j → j < base) {Q : Exit → Act → World → Prop} (hdf : noDefer ops = true) (hsel : Region.noSelect ops = true) : ∀ (fuel : Nat) (l t : List Nat) (listed : Array Bool) (N : Nat → Prop) (a : Act) (w : World),
    l.length + t.length ≤ fuel → listed.size = ops.size → (∀ i, i < ops.size → (listed.getD i true = false ↔ i ∈ l ++ t)) → (∀ i ∈ l ++ t, i < ops.size) → (l ++ t).Nodup → Closed ops listed →
    okTab tab ops = true → okList tab ops kd l = true → (∀ y ∈ l, ∀ x ∈ t, ancB tab y x = true) → TailOk tab [] t → DepsOk ops listed (l ++ t) → okAlloc ops kd l = true → (∀ i T z, i ∈ l → kd i = .alloc T z → Makes P ops i T z) →
    (∀ g, w.heap.size ≤ g → N g) → base ≤ w.heap.size → run P ops X base kd l (K0I P ops X ro n Q t) N a w → wpAnyIn (FW ro) n P .any ops Q fuel listed a w := by
  intro fuel
  induction fuel with
  | zero =>
    intro l t listed N a w hf hsz hun hin hnd hcl htab _ _ htail hdeps _ _ _ _ h
    have hl : l = [] := List.eq_nil_of_length_eq_zero (by omega)
    subst hl
    exact tail_soundI 0 t listed a w (by simpa using hf) hsz hun hin hnd hcl htab htail hdeps (h w (StepX.refl _ w))
  | succ fuel ih =>
    intro l t listed N a w hf hsz hun hin hnd hcl htab hlist hwait htail hdeps halloc hz hN hbase h
    by_cases hl : l = []
    · subst hl
      exact tail_soundI _ t listed a w (by simpa using hf) hsz hun hin hnd hcl htab htail hdeps (h w (StepX.refl _ w))
    refine ⟨fun hr => ?_, fun j hj => ?_⟩
    · -- nothing may come up: but something is left
      exfalso
      cases l with
      | nil => exact hl rfl
      | cons x L =>
        obtain ⟨o, ho, hh⟩ := hdeps [] x (L ++ t) (by simp)
        have hx : x ∈ Region.ready .any ops listed := mem_ready.2 ⟨(hun x (hin x (by simp))).2 (by simp), o, ho, fun e he hb => (hh e he hb).resolve_right (by simp)⟩
        rw [hr] at hx; cases hx
    · obtain ⟨h0, oj, hoj, hdj⟩ := mem_ready.1 hj
      have hjlt := (Array.getElem?_eq_some_iff.1 hoj).1
      have hjsz : j < listed.size := by omega
      have hjm := (hun j hjlt).1 h0
      have hcl' := closed_set hjsz hoj hdj hcl
      have notanc : ∀ i ∈ l ++ t, ancB tab i j = true → False := fun i hi ha => by
        have h1 := anc_listed hsz hcl htab j i oj hoj hdj ha
        have h2 := (hun i (hin i hi)).2 hi
        rw [getD_tf (by rw [hsz]; exact hin i hi), h1] at h2
        cases h2
      rcases List.mem_append.1 hjm with hjl | hjt
      · -- one of the first part
        obtain ⟨l1, l2, rfl⟩ := List.append_of_mem hjl
        obtain ⟨hlist', hpair⟩ := okList_drop hlist
        have hall : ∀ i ∈ l1, ∃ oi, ops[i]? = some oi ∧ oi.apart ops oj = true ∧ swaps (kd i) (kd j) = true := fun i hi => by
          have hp := hpair i hi
          simp only [okPair, Bool.or_eq_true] at hp
          rcases hp with hp | hp
          · exact (notanc i (by simp [hi]) hp).elim
          · cases hoi : ops[i]? with
            | none => simp [hoi] at hp
            | some oi =>
              simp only [hoi, hoj, Bool.and_eq_true] at hp
              exact ⟨oi, rfl, hp.1, hp.2⟩
        have hb := bring hX (K0I_mono t) hsel hoj l1 l2 N a w hall h
        have he : (l1 ++ j :: l2) ++ t = l1 ++ j :: (l2 ++ t) := by simp
        have next : ∀ (N' : Nat → Prop) (a' : Act) (w' : World), (∀ g, w'.heap.size ≤ g → N' g) → w.heap.size ≤ w'.heap.size → run P ops X base kd (l1 ++ l2) (K0I P ops X ro n Q t) N' a' w' → wpAnyIn (FW ro) n P .any ops Q fuel (listed.setIfInBounds j true) a' w' :=
          fun N' a' w' hN' hsz' hr => ih (l1 ++ l2) t _ N' a' w' (by simp at hf ⊢; omega) (by simp [hsz]) (by have := unlisted_drop (L1 := l1) (L2 := l2 ++ t) hjsz (by rw [← he]; exact hun) (by rw [← he]; exact hnd); simpa using this)
            (fun i hi => hin i (by simp only [List.mem_append, List.mem_cons] at hi ⊢; rcases hi with (hi | hi) | hi <;> simp [hi]))
            (by have := (nodup_mid (by rw [← he]; exact hnd)).2; simpa using this) hcl' htab hlist' (fun y hy x hx => hwait y (by simp only [List.mem_append, List.mem_cons] at hy ⊢; rcases hy with hy | hy <;> simp [hy]) x hx) htail
            (by have := depsOk_drop (L1 := l1) (L2 := l2 ++ t) hjsz (by rw [← he]; exact hdeps); simpa using this)
            (by simp only [okAlloc, List.all_eq_true, List.mem_append, List.mem_cons] at halloc ⊢; exact fun x hx => halloc x (hx.elim .inl (fun h => .inr (.inr h))))
            (fun i T z hi => hz i T z (by simp only [List.mem_append, List.mem_cons] at hi ⊢; rcases hi with hi | hi <;> simp [hi])) hN' (by omega) hr
        cases hk : kd j with
        | silent =>
          simp only [go, hk] at hb
          obtain ⟨o, v, ho, hy, hr⟩ := hb
          exact wpOpIn_of hdf (hy.wpOp (Q := QF) ho (StepX.refl _ w) (next N _ w hN (Nat.le_refl _) hr))
        | chain =>
          simp only [go, hk] at hb
          exact wpOpIn_of hdf (wpOp_mono (fun a' w' ⟨hs, hr⟩ => next _ a' w' (fun g hg => ⟨hN g (Nat.le_trans hs.size hg), .inr hg⟩) hs.size hr) (hb w (StepX.refl _ w)))
        | alloc T z =>
          simp only [go, hk] at hb
          have hal := halloc
          simp only [okAlloc, List.all_eq_true] at hal
          have hal := hal j (by simp)
          simp only [hk, hoj, Bool.and_eq_true] at hal
          obtain ⟨hg, hop⟩ := hal
          refine wpOpIn_of hdf (wpOp_alloc (Q := QF) hoj hop (by simpa using hg) (hz j T z (by simp) hk) ?_)
          have hd : (ops[j]?).bind (·.dst) = oj.dst := by rw [hoj]; rfl
          rw [hd] at hb
          exact next _ _ _ (fun g hgg => ⟨hN g (by simp at hgg; omega), by simp at hgg; omega⟩) (by simp) (hb (w.alloc (.cells (madeC z) T)) w.heap.size (.of (Step.alloc _ _)) (heap_alloc_new w _) hbase (hN _ (Nat.le_refl _)))
      · exfalso
        obtain ⟨t1, t2, rfl⟩ := List.append_of_mem hjt
        cases l with
        | nil => exact hl rfl
        | cons x L => exact notanc x (by simp) (hwait x (by simp) j (by simp))

theorem wpIn_region_seq {id : Nat} {Q : Exit → Act → World → Prop} {a : Act} {w : World} (X : Nat → Prop) (hX : ∀ j, X j → j < w.heap.size) (kd : Nat → Kd) (tab l t : List Nat) (hm : P.follows .mixedOrders = true) (hdf : noDefer ops = true) (hok : okSeq true tab ops kd l t = true)
    (hz : ∀ i T z, i ∈ l → kd i = .alloc T z → Makes P ops i T z)
    (h : ∀ W, StepX X w W → run P ops X w.heap.size kd l (K0I P ops X ro n Q t) (fun _ => True) a W) : (Code.region id ops true).wpIn (FW ro) n P Q a w := by
  simp only [okSeq, Bool.and_eq_true, List.all_eq_true, decide_eq_true_eq, List.mem_range, List.contains_iff_mem] at hok
  obtain ⟨⟨⟨⟨⟨⟨⟨⟨⟨h0, h1⟩, h9⟩, h2⟩, h3⟩, h4⟩, h5⟩, h6⟩, h7⟩, h8⟩ := hok
  refine wpIn_region_any hm ?_
  refine seq_soundI (base := w.heap.size) (kd := kd) hX hdf h5 ops.size l t _ (fun _ => True) a w.drew ?_ (by simp) ?_ h7 h8 ?_ h0 h1 (fun y hy x hx => by have := h9 y hy x hx; simpa [okWait] using this) (tailOk_of h2) ?_ h4 hz (fun _ _ => trivial) (by simp) (h w.drew (.of (Step.drew w)))
  · -- no more than the region has
    have hsub : (l ++ t).length ≤ (List.range ops.size).length := h8.length_le_of_subset (fun i hi => List.mem_range.2 (h7 i hi))
    simpa using hsub
  · intro i hi
    simp only [Array.getD_eq_getD_getElem?, Array.getElem?_replicate, hi, if_true, Option.getD_some, true_iff]
    exact h6 i hi
  · intro x o ho hx
    have hlt := (Array.getElem?_eq_some_iff.1 ho).1
    simp [hlt] at hx
  · intro L1 x L2 he
    obtain ⟨o, ho, hh⟩ := depsOk_of (listed := Array.replicate ops.size false) h3 L1 x L2 he
    exact ⟨o, ho, by simpa using hh⟩


theorem runI_end {N : Nat → Prop} {a : Act} {w : World} {Q : Exit → Act → World → Prop} {t : List Nat} {L : List Oper} (ht : t.map (fun i => ops.toList[i]?) = L.map some) (h : ∀ W, StepX X w W → wpListIn (FW ro) n P ops Q L a W) : run P ops X base kd [] (K0I P ops X ro n Q t) N a w := by
  intro W hW
  have h' := h W hW
  clear h hW
  show wpOpsIn (FW ro) n P ops Q t a W
  induction t generalizing L a W with
  | nil =>
    cases L with
    | nil => exact h'
    | cons _ _ => simp at ht
  | cons x t ih =>
    cases L with
    | nil => simp at ht
    | cons o L =>
      simp only [List.map_cons, List.cons.injEq, Array.getElem?_toList] at ht
      rw [wpOpsIn_cons]
      unfold wpOpIn
      unfold wpListIn at h'
      simp only [ht.1]
      split
      · rename_i hw
        rw [if_pos hw] at h'
        exact Oper.wpIn_mono (fun a' w' hh => ih (by simpa using ht.2) w' hh) h'
      · rename_i hw
        rw [if_neg hw] at h'
        exact ⟨h'.1, ih (by simpa using ht.2) W h'.2⟩
end

section
variable {α : Type} [Rep α] {S : Nat → Prop} {base : Nat} {P : Program} {w : World} {v u : Value} {l m : List α} {t e : TypeId} {z : Value} {bytes : Nat} {ro : Option Nat} {nn : Nat}
theorem wplI_append {ops : Array Oper} {rest : List Oper} {o : Oper} {a : Act} {Q : Exit → Act → World → Prop} (ei : EI P t e z (Rep.k α) bytes) (hgd : o.guard = none) (s x : Operand)
    (ho : o.op = .call { callee := .builtin .append, args := #[s, x], argTypes := #[t, t] }) (hs : a.eval s = v) (hx : a.eval x = u) (hown : OwnL S base e w v l) (hu : SLe (avoid S v) w u m)
    (n : Nat) (hn : l.length + m.length = n) (lm : List α) (hlm : l ++ m = lm) (h63 : n ≤ maxLen) (hbytes : n * bytes ≤ 140737488355328) (hbase : base ≤ w.heap.size)
    (h : ∀ p c w', OwnL S base e w' (.slice p n c) lm → w.grownBy w' v.ownBlock → wpListIn (FW ro) nn P ops Q rest (a.put o.dst (.slice p n c)) w') : wpListIn (FW ro) nn P ops Q (o :: rest) a w := by
  obtain ⟨p, c, w', hr, h2, h3⟩ := run_append_L ei o.type hown hu n hn lm hlm h63 hbytes hbase
  have hw : Region.wanted o (yielded ops a.tmps) = true := by simp [Region.wanted, hgd]
  have hsem : o.semAt (FW ro).round a.eval = execOp a.eval o := by
    unfold Oper.semAt
    cases ro with
    | none => rfl
    | some l => simp [ho]
  unfold wpListIn
  rw [if_pos hw]
  refine ⟨fun f _ => trivial, ?_⟩
  rw [hsem]
  unfold execOp
  simp only [ho, resolve, invoke, builtin, Sem.run_bind, Sem.run_pure, Result.andThen_ok, List.map_toArray, List.map_cons, List.map_nil, hs, hx, hr]
  exact h p c w' h2 h3
end
end Go.BT
/- Walks within the fence: the seats of a class, one by one. -/
namespace Go.Proofs.Ytbgfmikbhiblgaa
set_option linter.unusedSimpArgs false
set_option linter.unusedVariables false
open Go.RowKit Go.BT
attribute [local go_sem] Oper.semAt_some

def manyN : Nat := 1000000
theorem manyN_eq : manyN = 1000000 := rfl
attribute [irreducible] manyN
def ofB (h : House) (c : Int) (k : Nat) : List Nat := (List.range k).filter fun i => decide (classL h.sectors i = c)
def ofL (h : House) (c : Int) : List Nat := ofB h c (sizeL h.sectors).toNat
theorem ofB_hit {h : House} {c : Int} {k : Nat} (hk : classL h.sectors k = c) : ofB h c (k + 1) = ofB h c k ++ [k] := by
  simp [ofB, List.range_succ, List.filter_append, hk]
theorem ofB_miss {h : House} {c : Int} {k : Nat} (hk : ¬ classL h.sectors k = c) : ofB h c (k + 1) = ofB h c k := by
  simp [ofB, List.range_succ, List.filter_append, hk]
theorem ofB_pre {h : House} {c : Int} {k m : Nat} (hk : k ≤ m) : ofB h c k <+: ofB h c m := by
  obtain ⟨d, rfl⟩ : ∃ d, m = k + d := ⟨m - k, by omega⟩
  unfold ofB
  rw [List.range_add, List.filter_append]
  exact List.prefix_append _ _
theorem ofB_len (h : House) (c : Int) (k : Nat) : (ofB h c k).length ≤ k := by
  have := List.length_filter_le (fun i : Nat => decide (classL h.sectors i = c)) (List.range k)
  simpa [ofB] using this

abbrev SeatNo (h : House) := { k : Nat // (k : Int) < sizeL h.sectors }
theorem abides_step {β : Type} {B : Nat} {J : β → World → Prop} (hJ : AbidesFrom B J) {s : β} {W W' : World} (h : J s W) (hs : Step W W') : J s W' :=
  hJ s W W' none h ⟨hs.os, hs.tape, hs.output, hs.size, fun j hj _ => hs.block j hj id⟩ (fun r e => by cases e)
set_option maxRecDepth 100000 in
set_option maxHeartbeats 2000000 in
theorem of1_stops (n : Nat) (hn : 1 ≤ n) (S X : Nat → Prop) (h : House) (c : Int) (gh gc : Nat) (c0 c1 c2 c3 c4 : Value) (w : World) (hb : Bx w gh [c0, c1, c2, c3, c4] 43) (hr : Rep.rep S w [c0, c1, c2, c3, c4] h) (hc : w.cell? ⟨gc, 0, none⟩ = some (.int .i64 c))
    (hXh : ¬ X gh) (hXc : ¬ X gc) (hXS : ∀ j, X j → S j) (hok : okSec h.sectors) (hsz : sizeL h.sectors ≤ 1000) :
    SeqStopsK (FW none) n Try.prog 109 #[.pointer (some ⟨gh, 0, none⟩), .pointer (some ⟨gc, 0, none⟩)] (fun i : SeatNo h => #[.int .i64 i.1]) (fun W W' => StepX X W W') (fun xs => xs.map (·.1) = ofL h c) (fun pre => pre.map (·.1) <+: ofL h c) manyN w := by
  intro l J Jx W hW hJ hJx hY h0
  have hS := Step.of hW
  have HB := Lib.hid (hb.step hS)
  have HR := Lib.hid (Rep.keep (.of_step hS) hr)
  have HC := Lib.hid (hS.keeps.cell id hc)
  have HY := Lib.hid hY
  have HJ := Lib.hid hJ
  have HX := Lib.hid (And.intro hXh (And.intro hXc hXS))
  have hbd := sizeL_bound hok h.sectors.length (Nat.le_refl _)
  rw [List.take_length] at hbd
  have HOK := Lib.hid hok
  have hsz0 := hbd.1
  clear hb hr hc hW hS hY hJ hJx hXh hXc hXS hbd hok
  refine callsIn_of_wp Try.func109 rfl trivial ?_ rfl
  simp only [Try.ntmps109, List.size_toArray, List.length_cons, List.length_nil, Nat.reduceAdd, Nat.reduceSub, Array.replicate_succ, Array.replicate_zero, List.push_toArray, List.append_toArray, List.nil_append, List.cons_append]
  obtain ⟨e0, e1, e2, e3, e4⟩ := cells5 HB.out
  gi_wp2_with fail
  refine (callsIn_FW (size_any S h _ W ⟨_, rfl, HR.out⟩ HOK.out)).mono ?_
  rintro e w1 ⟨rfl, hS1⟩
  have h1 := abides_step HJ.out h0 hS1
  have HS1 := Lib.hid hS1
  obtain ⟨z, hz⟩ : ∃ z : Nat, sizeL h.sectors = z := ⟨(sizeL h.sectors).toNat, by omega⟩
  rw [hz]
  have HZ := Lib.hid hz
  have hz1000 : z ≤ 1000 := by omega
  clear hS1 h0 hsz hsz0 hz
  gi_wp2
  gi_loopw [7] (fun i wr => ∃ k : Nat, k ≤ z ∧ i = .int .i64 k ∧ (∃ pre : List (SeatNo h), pre.map (·.1) = ofB h c k ∧ J pre wr) ∧ StepX X W wr) (fun i _ => z - (intOf i).toNat)
  case atStart => exact ⟨0, Nat.zero_le _, rfl, ⟨[], rfl, h1⟩, .of HS1.out⟩
  case round =>
    obtain ⟨k, hk, rfl, ⟨pre, hpre, hJk⟩, hX⟩ := hrel
    have HPRE := Lib.hid hpre
    have HJK := Lib.hid hJk
    have HT := Lib.hid hX
    have HTR := Lib.hid hX
    clear hJk hX h1 hpre
    by_cases hlt : k < z
    · have hb := HB.out.keep HT.out.keeps HX.out.1
      have hr := Rep.keep (HT.out.keeps.mono fun j _ hj => HX.out.2.2 j hj) HR.out
      have hcc := HT.out.keeps.cell (a := ⟨gc, 0, none⟩) HX.out.2.1 HC.out
      have HB2 := Lib.hid hb
      have HR2 := Lib.hid hr
      have HC2 := Lib.hid hcc
      clear hb hr hcc
      have hcl := Lib.hid (fun W1 (hS : Step wr W1) => class_any S h (.agg #[c0, c1, c2, c3, c4]) k W1 ⟨_, rfl, Rep.keep (.of_step hS) HR2.out⟩ HOK.out (by omega))
      gi_wp2_with fail
      refine wpIn_region_seq (fun _ => False) (fun _ h => h.elim) (kdOf [2] []) [0, 0, 3, 0, 15, 31, 63, 63, 255, 511, 1023] [0, 1, 3, 2, 4, 5, 6, 7] [8, 9, 10] (by kernel_rfl) (by kernel_rfl) (by kernel_rfl) (fun i T z hi hk => by simp [kdOf] at hk <;> (try (split at hk <;> cases hk))) ?_
      intro Wx hWx
      have HT := Lib.hid hWx
      clear hWx
      obtain ⟨e0, e1, e2, e3, e4⟩ := cells5 (HB2.out.step HT.out)
      have e5 := HT.out.keeps.cell id HC2.out
      repeat (first | (refine run_off rfl rfl (by rfl) ?_; (try simp only [Act.put, List.setIfInBounds_toArray, List.set_cons_zero, List.set_cons_succ])) | (refine run_chain_off rfl rfl (by rfl) (K0_mono _) ?_; (try simp only [Act.put, List.setIfInBounds_toArray, List.set_cons_zero, List.set_cons_succ])) | ((refine run_want rfl rfl (by rfl) ⟨?_, fun W hW => ?_, ?_⟩; rotate_left; (· (have d0 := hW.keeps.cell id e0; have d1 := hW.keeps.cell id e1; have d2 := hW.keeps.cell id e2; have d3 := hW.keeps.cell id e3; have d4 := hW.keeps.cell id e4; have d5 := hW.keeps.cell id e5; go_simp; (try with_reducible rfl)))); (try simp only [Act.put, List.setIfInBounds_toArray, List.set_cons_zero, List.set_cons_succ])))
      refine run_chain rfl rfl (by rfl) (fun Wi hWi K' hK => ?_)
      have HTi := Lib.hid (HT.out.trans hWi)
      have HZW := Lib.hid HTi.out.size
      clear hWi HT
      go_simp
      refine (hcl.out Wi HTi.out).mono ?_
      rintro e wn ⟨rfl, hSn⟩
      have HT := Lib.hid (HTi.out.trans (StepX.of hSn))
      clear HTi
      refine hK _ _ (StepX.of hSn) ?_
      clear hSn
      (try simp only [Act.put, List.setIfInBounds_toArray, List.set_cons_zero, List.set_cons_succ])
      clear hcl e0 e1 e2 e3 e4
      have e5 := HT.out.keeps.cell id HC2.out
      by_cases q : classL h.sectors k = c
      · have hd : (classL h.sectors (k : Int) == c) = true := by simp [q]
        have Q := Lib.hid q
        clear q
        repeat (first | (refine run_off rfl rfl (by rfl) ?_; (try simp only [Act.put, List.setIfInBounds_toArray, List.set_cons_zero, List.set_cons_succ])) | (refine run_chain_off rfl rfl (by rfl) (K0_mono _) ?_; (try simp only [Act.put, List.setIfInBounds_toArray, List.set_cons_zero, List.set_cons_succ])) | ((refine run_want rfl rfl (by rfl) ⟨?_, fun W hW => ?_, ?_⟩; rotate_left; (· (have d0 := hW.keeps.cell id e5; go_simp; (try with_reducible rfl)))); (try simp only [Act.put, List.setIfInBounds_toArray, List.set_cons_zero, List.set_cons_succ])))
        refine runI_end (L := [_, _, _]) rfl (fun W6 hW6 => ?_)
        have HT6 := Lib.hid (HT.out.trans hW6)
        have hJ6 := abides_step HJ.out HJK.out HT6.out
        obtain ⟨fn, tmps, assign, body, hy, hR⟩ := HY.out pre ⟨k, by rw [HZ.out]; omega⟩ W6 hJ6 (by rw [manyN_eq]; have := ofB_len h c k; have h9 := congrArg List.length HPRE.out; rw [List.length_map] at h9; omega)
        dsimp only at hy
        clear hW6 hJ6 e5 hd
        gi_wp2_with fail
        refine hR.mono ?_
        rintro e W7 (⟨rfl, hJ7, hX7⟩ | ⟨rfl, hJx7⟩)
        · have HJ7 := Lib.hid hJ7
          have HX7 := Lib.hid ((HTR.out.trans (.of HT6.out)).trans hX7)
          clear hJ7 hX7 hy hR
          gi_wp2
          go_roundw
          case rel => exact ⟨k + 1, by omega, by go_num, ⟨_, by rw [ofB_hit Q.out, List.map_append, HPRE.out]; rfl, HJ7.out⟩, HX7.out⟩
          case measure => simp [intOf]; omega
        · clear hy hR
          gi_wp2
          refine bodyPost_ret (results_none rfl _ _ _) rfl ?_
          refine ⟨⟨_, rfl⟩, .inr ⟨_, ?_, hJx7⟩⟩
          rw [List.map_append, HPRE.out]
          show ofB h c k ++ [k] <+: _
          rw [← ofB_hit Q.out]
          exact ofB_pre (by rw [HZ.out]; simp; omega)
      · have hd : (classL h.sectors (k : Int) == c) = false := by simp [q]
        have Q := Lib.hid q
        clear q
        repeat (first | (refine run_off rfl rfl (by rfl) ?_; (try simp only [Act.put, List.setIfInBounds_toArray, List.set_cons_zero, List.set_cons_succ])) | (refine run_chain_off rfl rfl (by rfl) (K0_mono _) ?_; (try simp only [Act.put, List.setIfInBounds_toArray, List.set_cons_zero, List.set_cons_succ])) | ((refine run_want rfl rfl (by rfl) ⟨?_, fun W hW => ?_, ?_⟩; rotate_left; (· (have d0 := hW.keeps.cell id e5; go_simp; (try with_reducible rfl)))); (try simp only [Act.put, List.setIfInBounds_toArray, List.set_cons_zero, List.set_cons_succ])))
        refine runI_end (L := [_, _, _]) rfl (fun W6 hW6 => ?_)
        have HT6 := Lib.hid (HT.out.trans hW6)
        have HX7 := Lib.hid (HTR.out.trans (.of HT6.out))
        have HJ7 := Lib.hid (abides_step HJ.out HJK.out HT6.out)
        clear hW6 e5 hd
        gi_wp2
        go_roundw
        case rel => exact ⟨k + 1, by omega, by go_num, ⟨_, by rw [ofB_miss Q.out, HPRE.out], HJ7.out⟩, HX7.out⟩
        case measure => simp [intOf]; omega
    · gi_wp2
      go_end0
      have hkz : k = z := by omega
      refine ⟨⟨_, rfl⟩, .inl ⟨_, ?_, HJK.out⟩⟩
      rw [HPRE.out]
      show ofB h c k = ofB h c (sizeL h.sectors).toNat
      rw [HZ.out, hkz, Int.toNat_natCast]
end Go.Proofs.Ytbgfmikbhiblgaa
/- Walks: of, sells. -/
namespace Go.Proofs.Ytbgfmikbhiblgaa
set_option linter.unusedSimpArgs false
set_option linter.unusedVariables false
open Go.RowKit Go.BT

theorem of_any (S : Nat → Prop) (h : House) (v : Value) (c : Int) (w : World) (hv : AV S w v h) :
    Calls Try.prog 82 #[v, .int .i64 c] w fun e w' => ∃ c0 c1 c2 c3 c4, e = .returned (.func (.func 109) #[] #[.pointer (some ⟨w.heap.size, 0, none⟩), .pointer (some ⟨w.heap.size + 1, 0, none⟩)]) ∧ Bx w' w.heap.size [c0, c1, c2, c3, c4] 43 ∧ Rep.rep S w' [c0, c1, c2, c3, c4] h ∧ Bx w' (w.heap.size + 1) [.int .i64 c] 3 ∧ Step w w' ∧ w'.heap.size = w.heap.size + 2 := by
  obtain ⟨cs, rfl, hr⟩ := hv
  have hr0 := hr
  obtain ⟨c0, c1, c2, c3, c4, rfl, h0, h1, h2, h3, h4⟩ := hr
  have hmf : ∀ (fn : Fn) (first cap : Array Value) (w : World), (Instr.makeFunc fn first cap).run Try.prog w = .ok (.func fn first cap) w := fun _ _ _ _ => rfl
  obtain ⟨p0, k0, rfl⟩ := h0.form
  obtain ⟨p1, k1, rfl⟩ := h1.form
  obtain ⟨p2, k2, rfl⟩ := h2.form
  obtain ⟨p3, k3, rfl⟩ := h3.form
  obtain ⟨p4, k4, rfl⟩ := h4.form
  clear h0 h1 h2 h3 h4
  have HR := Lib.hid hr0
  clear hr0
  go_enter Try.func82, Try.ntmps82
  go_wp2
  go_ret
  have hS : Step w ((w.alloc (.cells #[.slice p0 h.sectors.length k0, .slice p1 h.prices.length k1, .slice p2 h.dates.length k2, .slice p3 h.frm.length k3, .slice p4 h.holds.length k4] 43)).alloc (.cells #[.int .i64 c] 3)) := (by repeat (first | (with_reducible assumption) | (with_reducible exact Step.refl _) | (with_reducible apply Step.s_alloc) | (with_reducible apply Step.s_drew) | (with_reducible apply Step.s_drewN) | (with_reducible refine Step.trans ?_ (by with_reducible assumption))))
  exact ⟨_, _, _, _, _, rfl, (Bx.new _ [_, _, _, _, _] _).alloc _, Rep.keep (.of_step hS) HR.out, Bx.new' _ [_] _ _ (by simp), hS, by simp⟩

def sellsB (h : House) (b : Book) (s d : Int) : Bool := !offAt b s && withinB d (fromAt h s b.agency) (dateAt h s)
section
variable {base : Nat} {w : World} {g : Nat} {h : House} {b : Book} {c0 c1 c2 c3 c4 vs vo vt : Value} {xs : List Value}
/-- What is read of a show. -/
theorem Desk.show_at (D : Desk base w g h b c0 c1 c2 c3 c4 vs vo vt xs) (hO : OkDesk h b) {i : Nat} (hi : i < h.dates.length) : ∃ go co bf of kf bg og kg bd od kd ag : Nat, vo = .slice (some ⟨go, 0, none⟩) b.off.length co ∧ c3 = .slice (some ⟨bf, of, none⟩) h.frm.length kf ∧
    c2 = .slice (some ⟨bd, od, none⟩) h.dates.length kd ∧ b.agency = ag ∧ w.cell? ⟨go, i, none⟩ = some (.bool (offAt b i)) ∧ w.cell? ⟨bf, of + i, none⟩ = some (.slice (some ⟨bg, og, none⟩) (agN h) kg) ∧ w.cell? ⟨bg, og + ag, none⟩ = some (.int .i64 (fromAt h i b.agency)) ∧
    w.cell? ⟨bd, od + i, none⟩ = some (.int .i64 (dateAt h i)) ∧ i < b.off.length ∧ i < h.frm.length ∧ ag < agN h ∧ w.frozen? ⟨go, i, none⟩ = false ∧ go < w.heap.size := by
  have hbv := bounds_valid hO.1
  have hio : i < b.off.length := by have := hO.2.1; omega
  have hif : i < h.frm.length := by omega
  have hag0 := hO.2.2.2.2.1
  have hag1 := hO.2.2.2.2.2.1
  obtain ⟨ag, hag⟩ : ∃ ag : Nat, b.agency = ag := ⟨b.agency.toNat, by omega⟩
  have hagf : ag < h.frm[i].length := by rw [from_row hO.1 hif]; omega
  obtain ⟨go, co, rfl, hoc, hof, hol⟩ := D.off_at hio
  obtain ⟨r0, r1, r2, r3, r4⟩ := rep5 D.house
  obtain ⟨pf, kf, bf, of, rfl, _, _, hpf, hcf, hbf⟩ := r3.rows
  obtain rfl := hpf (by omega)
  obtain ⟨fv, hfc, hfs⟩ := hcf i hif
  obtain ⟨pg, kg, bg, og, rfl, _, _, hpg, hcg, hbg⟩ := hfs.ints
  obtain rfl := hpg (by omega)
  obtain ⟨pd, kd, bd, od, rfl, _, _, hpd, hcd, hbd⟩ := r2.ints
  obtain rfl := hpd (by omega)
  have hrow := from_row hO.1 hif
  refine ⟨go, co, bf, of, kf, bg, og, kg, bd, od, kd, ag, rfl, rfl, rfl, hag, ?_, ?_, ?_, ?_, hio, hif, by omega, hof i, hol⟩
  · rw [hoc i hio]; simp [offAt, List.getD_eq_getElem?_getD, hio]
  · rw [hfc, hrow]
  · rw [hcg ag hagf]; rw [hag]; simp [fromAt, List.getD_eq_getElem?_getD, hif, hagf]
  · rw [hcd i hi]; simp [dateAt, List.getD_eq_getElem?_getD, hi]

set_option maxHeartbeats 2000000 in
theorem sells_any (D : Desk base w g h b c0 c1 c2 c3 c4 vs vo vt xs) (hO : OkDesk h b) (i : Nat) (hi : i < h.dates.length) (d : Int) :
    Calls Try.prog 108 #[.pointer (some ⟨g, 0, none⟩), .int .i64 i, .int .i64 d] w fun e w' => e = .returned (.bool (sellsB h b i d)) ∧ Step w w' := by
  obtain ⟨go, co, bf, of, kf, bg, og, kg, bd, od, kd, ag, rfl, rfl, rfl, hag, m0, m1, m2, m3, hio, hif, hagl, _⟩ := D.show_at hO hi
  have hx1 : (0 : Int) ≤ (i : Int) ∧ (i : Int) < (b.off.length : Int) := by omega
  have hx4 : (0 : Int) ≤ (i : Int) ∧ (i : Int) < (h.frm.length : Int) := by omega
  have hx5 : (0 : Int) ≤ (ag : Int) ∧ (ag : Int) < (agN h : Int) := by omega
  have hx6 : (0 : Int) ≤ (i : Int) ∧ (i : Int) < (h.dates.length : Int) := by omega
  have HD := Lib.hid D
  have HM := Lib.hid (And.intro m0 (And.intro m1 (And.intro m2 m3)))
  have HAG := Lib.hid hag
  clear D hO m0 m1 m2 m3 hag
  go_enter Try.func108, Try.ntmps108
  go_upto_region 1 with (fail)
  refine wp_region_seq (kdOf [34] []) [0, 1, 3, 7, 15, 0, 63, 127, 255, 511, 1023, 1023, 3071, 7167, 15359, 31743, 1023, 130047, 261119, 1023, 525311, 1573887, 3671039, 7865343, 16776191, 33553407, 1023, 67109887, 201327615, 469763071, 1006633983, 1023, 4227859455, 8522826751, 17179869183, 34359738367, 68719476735] [0, 1, 2, 3, 4, 5, 6, 7, 8, 9, 10, 11, 12, 13, 14, 15, 16, 17, 18, 19, 20, 21, 22, 23, 24, 25, 26, 27, 28, 29, 30, 31, 32, 33, 34, 35, 36] [] (by kernel_rfl) (by kernel_rfl) (fun i T z hi hk => by simp [kdOf] at hk <;> (try (split at hk <;> cases hk))) ?_
  intro Wx hWx
  have HT := Lib.hid hWx
  clear hWx
  obtain ⟨⟨f0, f1, f2, f3, f4⟩, f5, f6, f7, f8, f9, f10⟩ := cells11 (HD.out.step HT.out).bx
  rw [HAG.out] at f5
  have m0 := HT.out.keeps.cell id HM.out.1
  have m1 := HT.out.keeps.cell id HM.out.2.1
  have m2 := HT.out.keeps.cell id HM.out.2.2.1
  have m3 := HT.out.keeps.cell id HM.out.2.2.2
  cases q : offAt b i with
  | true =>
    rw [q] at m0
    have HF := Lib.hid (show sellsB h b i d = false by simp [sellsB, q])
    clear q
    repeat (first | (refine run_off rfl rfl (by rfl) ?_; (try simp only [Act.put, List.setIfInBounds_toArray, List.set_cons_zero, List.set_cons_succ])) | (refine run_chain_off rfl rfl (by rfl) (K0_mono _) ?_; (try simp only [Act.put, List.setIfInBounds_toArray, List.set_cons_zero, List.set_cons_succ])) | ((refine run_want rfl rfl (by rfl) ⟨?_, fun W hW => ?_, ?_⟩; rotate_left; (· (have d0 := hW.keeps.cell id f7; have d1 := hW.keeps.cell id m0; go_simp; (try with_reducible rfl)))); (try simp only [Act.put, List.setIfInBounds_toArray, List.set_cons_zero, List.set_cons_succ])))
    refine run_end (L := []) rfl (fun W6 hW6 => ?_)
    have HT6 := Lib.hid (HT.out.trans hW6)
    clear hW6 HT
    have HT := HT6
    clear HT6
    go_wp2
    go_ret
    exact ⟨by rw [HF.out]; rfl, HT.out⟩
  | false =>
    rw [q] at m0
    have HF := Lib.hid (show sellsB h b i d = withinB d (fromAt h i b.agency) (dateAt h i) by simp [sellsB, q])
    clear q
    repeat (first | (refine run_off rfl rfl (by rfl) ?_; (try simp only [Act.put, List.setIfInBounds_toArray, List.set_cons_zero, List.set_cons_succ])) | (refine run_chain_off rfl rfl (by rfl) (K0_mono _) ?_; (try simp only [Act.put, List.setIfInBounds_toArray, List.set_cons_zero, List.set_cons_succ])) | ((refine run_want rfl rfl (by rfl) ⟨?_, fun W hW => ?_, ?_⟩; rotate_left; (· (have d0 := hW.keeps.cell id f7; have d1 := hW.keeps.cell id m0; have d2 := hW.keeps.cell id f3; have d3 := hW.keeps.cell id m1; have d4 := hW.keeps.cell id f5; have d5 := hW.keeps.cell id m2; have d6 := hW.keeps.cell id f2; have d7 := hW.keeps.cell id m3; go_simp; (try with_reducible rfl)))); (try simp only [Act.put, List.setIfInBounds_toArray, List.set_cons_zero, List.set_cons_succ])))
    refine run_chain rfl rfl (by rfl) (fun Wi hWi K' hK => ?_)
    have HTi := Lib.hid (HT.out.trans hWi)
    have HZW := Lib.hid HTi.out.size
    clear hWi HT
    go_simp
    refine (within_st _ _ _ _).mono ?_
    rintro e wn ⟨rfl, hSn⟩
    have HT := Lib.hid (HTi.out.trans (StepX.of hSn))
    clear HTi
    refine hK _ _ (StepX.of hSn) ?_
    clear hSn
    (try simp only [Act.put, List.setIfInBounds_toArray, List.set_cons_zero, List.set_cons_succ])
    repeat (first | (refine run_off rfl rfl (by rfl) ?_; (try simp only [Act.put, List.setIfInBounds_toArray, List.set_cons_zero, List.set_cons_succ])) | (refine run_chain_off rfl rfl (by rfl) (K0_mono _) ?_; (try simp only [Act.put, List.setIfInBounds_toArray, List.set_cons_zero, List.set_cons_succ])) | ((refine run_want rfl rfl (by rfl) ⟨?_, fun W hW => ?_, ?_⟩; rotate_left; (· (skip; go_simp; (try with_reducible rfl)))); (try simp only [Act.put, List.setIfInBounds_toArray, List.set_cons_zero, List.set_cons_succ])))
    refine run_end (L := []) rfl (fun W6 hW6 => ?_)
    have HT6 := Lib.hid (HT.out.trans hW6)
    clear hW6 HT
    have HT := HT6
    clear HT6
    go_wp2
    go_ret
    exact ⟨by rw [HF.out]; rfl, HT.out⟩
end
end Go.Proofs.Ytbgfmikbhiblgaa
/- Walks within the fence: the seats that may be sold. -/
namespace Go.Proofs.Ytbgfmikbhiblgaa
set_option linter.unusedSimpArgs false
set_option linter.unusedVariables false
open Go.RowKit Go.BT
attribute [local go_sem] Oper.semAt_some

def freeL (b : Book) (s : Int) (l : List Nat) : List Int := (l.filter fun (k : Nat) => decide (seatAt b s k = 0)).map fun (k : Nat) => (k : Int)
def openL (h : House) (b : Book) (s c d : Int) : List Int := if sellsB h b s d then freeL b s (ofL h c) else []
def seatsOf {h : House} (pre : List (SeatNo h)) : List Nat := pre.map (·.1)
theorem seatsOf_len {h : House} (pre : List (SeatNo h)) : (seatsOf pre).length = pre.length := by simp [seatsOf]
theorem seatsOf_snoc {h : House} (pre : List (SeatNo h)) (x : SeatNo h) : seatsOf (pre ++ [x]) = seatsOf pre ++ [x.1] := by simp [seatsOf]
/-- Between two rounds. -/
def OpenI (w0 : World) (ob : Nat) (h : House) (b : Book) (s : Int) (pre : List (SeatNo h)) (W : World) : Prop :=
  ∃ v, Bx W ob [v] 23 ∧ OwnL (fun _ => False) w0.heap.size 3 W v (freeL b s (seatsOf pre)) ∧ StepX (fun j => j = ob ∨ w0.heap.size ≤ j) w0 W
theorem stepX_b {X : Nat → Prop} {w : World} (hX : ∀ j, w.heap.size ≤ j → X j) (W : World) (l : Nat) (o o' : Obj) (hl : w.heap.size ≤ l) (h : W.heap[l]? = some o) (_ : o.isCells = false) (_ : o.isWalk = false) : StepX X W (W.putObj l o') :=
  have hg := grownBy_putObj' W l o'
  ⟨hg.os, hg.tape, hg.output, hg.size, fun k hk hn => hg.block k hk (fun e => hn (by cases e; exact hX _ hl))⟩
theorem OpenI.own {w0 : World} {ob : Nat} {h : House} {b : Book} {s : Int} : OwnFrom w0.heap.size (OpenI w0 ob h b s) := by
  intro pre A B row ⟨v, h1, h2, h3⟩ hg hr
  have h4 : ∀ g, (∃ (cs : Array Value) (T : TypeId) (f : Nat × Nat), A.heap[g]? = some (Obj.cells cs T f)) → B.heap[g]? = A.heap[g]? := fun g hcs => by
    obtain ⟨cs, T, f, hc⟩ := hcs
    refine hg.block g (Array.getElem?_eq_some_iff.1 hc).1 fun e => ?_
    obtain ⟨_, o, ho, hn⟩ := hr g e.symm
    rw [hc] at ho
    obtain rfl := Option.some.inj ho
    simp [Obj.isCells] at hn
  refine ⟨v, ?_, h2.keptF fun g hgv => ?_, h3.trans ⟨hg.os, hg.tape, hg.output, hg.size, fun k hk hn => hg.block k hk fun e => hn (.inr (hr k e.symm).1)⟩⟩
  · unfold Bx at *; rw [h4 ob ⟨_, _, _, h1⟩]; exact h1
  · obtain ⟨xs, ho, _⟩ := h2
    rcases ho.2 with ⟨rfl, _⟩ | ⟨g', cap, cur, rfl, _, hg', _⟩
    · simp [Value.ownBlock] at hgv
    · simp [Value.ownBlock] at hgv
      subst hgv
      exact h4 _ ⟨_, _, _, hg'⟩

theorem keepsFrom_step (B : Nat) {W W' : World} (h : Step W W') : KeepsFrom B W W' := ⟨h.size, fun k o _ hk _ => (h.block k (Array.getElem?_eq_some_iff.1 hk).1 id).trans hk⟩
theorem keepsFrom_own (B : Nat) {S : Nat → Prop} {base : Nat} {e : TypeId} {α : Type} [Rep α] {v : Value} {l : List α} {W W' : World} (h : OwnL S base e W v l) (hg : W.grownBy W' v.ownBlock) : KeepsFrom B W W' := ⟨hg.size, fun k o _ hk ho => by
  refine (hg.block k (Array.getElem?_eq_some_iff.1 hk).1 fun e => ?_).trans hk
  obtain ⟨xs, hx, _⟩ := h
  rcases hx.2 with ⟨rfl, _⟩ | ⟨g, cap, cur, rfl, _, hg', _⟩
  · simp [Value.ownBlock] at e
  · simp [Value.ownBlock] at e
    subst e
    rw [hk] at hg'
    obtain rfl := Option.some.inj hg'
    simp [Obj.isCells] at ho⟩
theorem freeL_snoc_yes {b : Book} {s : Int} {l : List Nat} {k : Nat} (h : seatAt b s k = 0) : freeL b s (l ++ [k]) = freeL b s l ++ [(k : Int)] := by simp [freeL, List.filter_append, h]
theorem freeL_snoc_no {b : Book} {s : Int} {l : List Nat} {k : Nat} (h : ¬ seatAt b s k = 0) : freeL b s (l ++ [k]) = freeL b s l := by simp [freeL, List.filter_append, h]
theorem freeL_len (b : Book) (s : Int) (l : List Nat) : (freeL b s l).length ≤ l.length := by simp [freeL]; exact List.length_filter_le _ _
section
variable {base : Nat} {w : World} {g : Nat} {h : House} {b : Book} {c0 c1 c2 c3 c4 vs vo vt : Value} {xs : List Value}
set_option maxRecDepth 100000 in
set_option maxHeartbeats 4000000 in
theorem open2_any (D : Desk base w g h b c0 c1 c2 c3 c4 vs vo vt xs) (hO : OkDesk h b) (i : Nat) (hi : i < h.dates.length) (c d : Int) :
    Calls Try.prog 81 #[.pointer (some ⟨g, 0, none⟩), .int .i64 i, .int .i64 c, .int .i64 d] w fun e w' => ∃ v', e = .returned v' ∧ SL (Old w) w' v' (openL h b i c d) ∧ Step w w' := by
  obtain ⟨W3, hW3⟩ : ∃ W3, W3 = ((w.alloc (.cells #[.pointer (some ⟨g, 0, none⟩)] 117)).alloc (.cells #[.int .i64 i] 3)).alloc (.cells #[.slice none 0 0] 23) := ⟨_, rfl⟩
  have hS : Step w W3 := by subst hW3; exact (by repeat (first | (with_reducible assumption) | (with_reducible exact Step.refl _) | (with_reducible apply Step.s_alloc) | (with_reducible apply Step.s_drew) | (with_reducible apply Step.s_drewN) | (with_reducible refine Step.trans ?_ (by with_reducible assumption))))
  have hb0 : Bx W3 w.heap.size [.pointer (some ⟨g, 0, none⟩)] 117 := by subst hW3; exact ((Bx.new _ [_] _).alloc _).alloc _
  have hb1 : Bx W3 (w.heap.size + 1) [.int .i64 i] 3 := by subst hW3; exact (Bx.new' _ [_] _ _ (by simp)).alloc _
  have hb2 : Bx W3 (w.heap.size + 2) [.slice none 0 0] 23 := by subst hW3; exact Bx.new' _ [_] _ _ (by simp)
  have hz3 : W3.heap.size = w.heap.size + 3 := by subst hW3; simp
  have HS := Lib.hid hS
  have HB0 := Lib.hid hb0
  have HB1 := Lib.hid hb1
  have HB2 := Lib.hid hb2
  have HZ3 := Lib.hid hz3
  have HD := Lib.hid (D.step hS)
  have HO := Lib.hid hO
  have HLT := Lib.hid D.lt
  have HD0 := Lib.hid D
  have HW := Lib.hid hW3
  clear hS hb0 hb1 hb2 hz3 D hO hW3
  refine callsIn_wide.1 (show CallsIn (FW none) 5 Try.prog 81 _ w _ from ?_)
  refine callsIn_of_wp_marks Try.func81 rfl trivial ?_ rfl
  simp only [Try.ntmps81, List.size_toArray, List.length_cons, List.length_nil, Nat.reduceAdd, Nat.reduceSub, Array.replicate_succ, Array.replicate_zero, List.push_toArray, List.append_toArray, List.nil_append, List.cons_append]
  gi_wp2_with fail
  rw [← HW.out]
  clear HW
  refine (callsIn_FW (sells_any HD.out HO.out i hi d)).mono ?_
  rintro e w1 ⟨rfl, hS1⟩
  have HT := Lib.hid hS1
  clear hS1
  cases q : sellsB h b i d with
  | false =>
    have HF := Lib.hid (show openL h b i c d = [] by simp [openL, q])
    clear q
    have f0 := (HB2.out.step HT.out).cell 0
    simp only [List.getElem?_cons_zero] at f0
    gi_wp2
    refine ⟨_, results_tmp rfl _ _ _, _, rfl, ?_, HS.out.trans HT.out⟩
    rw [HF.out]; exact SL.nil _ _
  | true =>
    have HF := Lib.hid (show openL h b i c d = freeL b i (ofL h c) by simp [openL, q])
    clear q
    obtain ⟨⟨f0, f1, f2, f3, f4⟩, _⟩ := cells11 (HD.out.step HT.out).bx
    have y0 := (HB0.out.step HT.out).cell 0
    simp only [List.getElem?_cons_zero] at y0
    have hcall := Lib.hid (of_any (fun j => base ≤ j) h (.agg #[c0, c1, c2, c3, c4]) c w1 ⟨_, rfl, (HD.out.step HT.out).house⟩)
    obtain ⟨p0, k0, rfl⟩ := (rep5 HD.out.house).1.form
    obtain ⟨p1, k1, rfl⟩ := (rep5 HD.out.house).2.1.form
    obtain ⟨p2, k2, rfl⟩ := (rep5 HD.out.house).2.2.1.form
    obtain ⟨p3, k3, rfl⟩ := (rep5 HD.out.house).2.2.2.1.form
    obtain ⟨p4, k4, rfl⟩ := (rep5 HD.out.house).2.2.2.2.form
    gi_wp2_with fail
    refine (callsIn_FW hcall.out).mono ?_
    rintro e w2 ⟨x0, x1, x2, x3, x4, rfl, hbh, hrh, hbc, hS2, hz2⟩
    have HBH := Lib.hid hbh
    have HRH := Lib.hid hrh
    have HBC := Lib.hid hbc
    have HT2 := Lib.hid (HT.out.trans hS2)
    have hz1 := HT.out.size
    have hz3 := HZ3.out
    have HZ := Lib.hid (And.intro hz1 (And.intro hz2 hz3))
    clear hcall f0 f1 f2 f3 f4 y0 hbh hrh hbc hS2 hz1 hz2 hz3
    gi_wp2_with fail
    have hseq := Lib.hid (of1_stops 4 (by omega) (fun j => base ≤ j) (fun j => j = w.heap.size + 2 ∨ w2.heap.size ≤ j) h c w1.heap.size (w1.heap.size + 1) x0 x1 x2 x3 x4 w2 HBH.out HRH.out (HBC.out.cell 0) (by have := HZ.out; omega) (by have := HZ.out; omega)
      (fun j hj => by have := HZ.out; have := HD.out.gb; have := HD.out.lt; have := HLT.out; omega) (okSec_valid HO.out.1) (by have := (bounds_valid HO.out.1).2.2.2.2.2.2.2.1; omega))
    have h00 : OpenI w2 (w.heap.size + 2) h b i [] w2 := ⟨_, HB2.out.step HT2.out, OwnL.nil _ _ _ _, StepX.refl _ _⟩
    refine wpIn_rangeFunc_ownG rfl (by omega) rfl trivial (Go.Proofs.enters_of Try.func109 (by kernel_rfl) rfl) hseq.out (fun h1 h2 => h1.trans h2) (stepX_b (fun j hj => .inr hj)) (Below.refl _ _) (fun _ => rfl)
      (OpenI w2 (w.heap.size + 2) h b i) (fun _ _ _ => False) OpenI.own (fun _ _ _ _ _ hf _ _ => hf) h00 ?a1 ?assign ?body ?done ?stop
    case assign =>
      intro l x W K hK
      rw [FW_inRound]
      gi_wp2
      exact hK
    case stop => exact fun _ _ _ _ _ _ hf _ => hf.elim
    case done =>
      intro D ys W hDl hys hI hK
      obtain ⟨v, hbv, hown, hX⟩ := hI
      rw [show seatsOf ys = ofL h c from hys] at hown
      have HK := Lib.hid hK
      have HOWN := Lib.hid hown
      have HX := Lib.hid hX
      have f0 := hbv.cell 0
      simp only [List.getElem?_cons_zero] at f0
      have HBV := Lib.hid hbv
      clear hK hown hX hbv hys
      gi_wp2
      refine ⟨by simp, .inl ⟨_, _, rfl, run_takeDeferred HK.out, ?_⟩⟩
      have hg := grownBy_putObj' W D (.deferred none)
      have hstep : Step w (W.putObj D (.deferred none)) := by
        have a1 : Step w w2 := HS.out.trans HT2.out
        have a2 := StepX.fresh a1 HX.out (fun j hj => by have := HZ.out; omega)
        exact StepX.fresh (X := fun j => j = D) a2 ⟨hg.os, hg.tape, hg.output, hg.size, fun k hk hn => hg.block k hk (fun e => hn (by cases e; rfl))⟩ (fun j hj => by have := HZ.out; omega)
      refine ⟨_, results_tmp rfl _ _ _, v, rfl, ?_, hstep⟩
      rw [HF.out]
      have hown2 : OwnL (fun _ => False) w2.heap.size 3 (W.putObj D (.deferred none)) v (freeL b i (ofL h c)) := HOWN.out.keptF fun g' hg' => hg.block g' (HOWN.out.lt g' hg').2 fun e => by
        cases e
        obtain ⟨xs', hx, _⟩ := HOWN.out
        rcases hx.2 with ⟨rfl, _⟩ | ⟨g2, cap, cur, rfl, _, hg2, _⟩
        · simp [Value.ownBlock] at hg'
        · simp [Value.ownBlock] at hg'
          subst hg'
          rw [HK.out] at hg2
          simp at hg2
      exact OwnL.sl (hown2.flat (Old w)) fun j hj _ ho => by unfold Old at ho; have := HZ.out; omega
    case body =>
      intro l pre x W hI hlen
      rw [FW_inRound]
      have his : i < b.seats.length := by have := HO.out.2.2.1; omega
      have hrow := HO.out.2.2.2.1 i his
      obtain ⟨xk, hxk⟩ := x
      have hxs : xk < b.seats[i].length := by omega
      obtain ⟨v, hbv, hown, hX⟩ := hI
      obtain ⟨gs, cs, gi, ci, rfl, _, hsc, hsj, _, hgs, hgi⟩ := HD0.out.seat_at his (by omega)
      obtain ⟨_, _, hf6, _⟩ := cells11 (HD.out.step HT2.out).bx
      have hsc := (HS.out.trans HT2.out).keeps.cell id hsc
      have hsj := (HS.out.trans HT2.out).keeps.cell id (hsj xk hxs)
      have HBD := Lib.hid (And.intro HD.out.gb (And.intro (HD.out.step HT2.out).lt HLT.out))
      have hcell : ∀ b o u, w2.cell? ⟨b, o, none⟩ = some u → ¬ (b = w.heap.size + 2 ∨ w2.heap.size ≤ b) → W.cell? ⟨b, o, none⟩ = some u := fun b o u hu hn => hX.keeps.cell (a := ⟨b, o, none⟩) hn hu
      have hzz := HZ.out
      have gb := HBD.out.1
      have y0 := hcell w.heap.size 0 _ ((HB0.out.step HT2.out).cell 0) (by omega)
      have y1 := hcell (w.heap.size + 1) 0 _ ((HB1.out.step HT2.out).cell 0) (by omega)
      have y2 := hcell g 6 _ hf6 (by have := HBD.out; omega)
      have y3 := hcell gs i _ hsc (by omega)
      have y4 := hcell gi xk _ hsj (by have := hgi; omega)
      have HY := Lib.hid (And.intro y0 (And.intro y1 (And.intro y2 (And.intro y3 y4))))
      have hbx1 : (0 : Int) ≤ (i : Int) ∧ (i : Int) < (b.seats.length : Int) := by omega
      have hbx2 : (0 : Int) ≤ (xk : Int) ∧ (xk : Int) < (b.seats[i].length : Int) := by omega
      have HBV := Lib.hid hbv
      have HOWN := Lib.hid hown
      have HX := Lib.hid hX
      have HLEN := Lib.hid (show (freeL b i (seatsOf pre)).length ≤ 1000000 by have := freeL_len b i (seatsOf pre); rw [seatsOf_len] at this; have := manyN_eq; omega)
      clear y0 y1 y2 y3 y4 hsc hsj hf6 hbv hown hX hcell hzz gb hlen
      gi_wp2_with fail
      refine wpIn_region_seq (fun _ => False) (fun _ h => h.elim) (kdOf [] []) [0, 1, 3, 7, 15, 0, 63, 127, 0, 511, 1023, 2047] [0, 1, 2, 3, 4, 5, 6, 7, 8, 9, 10, 11] [] (by kernel_rfl) (by kernel_rfl) (by kernel_rfl) (fun i T z hi hk => by simp [kdOf] at hk <;> (try (split at hk <;> cases hk))) ?_
      intro Wx hWx
      have HT := Lib.hid hWx
      clear hWx
      have y0 := HT.out.keeps.cell id HY.out.1
      have y1 := HT.out.keeps.cell id HY.out.2.1
      have y2 := HT.out.keeps.cell id HY.out.2.2.1
      have y3 := HT.out.keeps.cell id HY.out.2.2.2.1
      have y4 := HT.out.keeps.cell id HY.out.2.2.2.2
      have hseat : seatAt b i xk = b.seats[i][xk] := by simp [seatAt, List.getD_eq_getElem?_getD, his, hxs]
      have HSE := Lib.hid hseat
      clear hseat
      by_cases q : b.seats[i][xk] = 0
      · have hd : (b.seats[i][xk] == 0) = true := by simp [q]
        have HN := Lib.hid (show freeL b i (seatsOf pre ++ [xk]) = freeL b i (seatsOf pre) ++ [(xk : Int)] from freeL_snoc_yes (HSE.out.trans q))
        clear q
        repeat (first | (refine run_off rfl rfl (by rfl) ?_; (try simp only [Act.put, List.setIfInBounds_toArray, List.set_cons_zero, List.set_cons_succ])) | (refine run_chain_off rfl rfl (by rfl) (K0_mono _) ?_; (try simp only [Act.put, List.setIfInBounds_toArray, List.set_cons_zero, List.set_cons_succ])) | ((refine run_want rfl rfl (by rfl) ⟨?_, fun W hW => ?_, ?_⟩; rotate_left; (· (have d0 := hW.keeps.cell id y0; have d1 := hW.keeps.cell id y1; have d2 := hW.keeps.cell id y2; have d3 := hW.keeps.cell id y3; have d4 := hW.keeps.cell id y4; go_simp; (try with_reducible rfl)))); (try simp only [Act.put, List.setIfInBounds_toArray, List.set_cons_zero, List.set_cons_succ])))
        refine runI_end (L := []) rfl (fun W6 hW6 => ?_)
        have HT6 := Lib.hid (HT.out.trans hW6)
        have f0 := (HBV.out.step HT6.out).cell 0
        simp only [List.getElem?_cons_zero] at f0
        obtain ⟨pv, cv, rfl, _, _⟩ := HOWN.out.form
        clear hW6 y0 y1 y2 y3 y4 hd
        have hown6 := (HOWN.out.step HT6.out).alloc (.cells #[.int .i64 xk] 3)
        have hu := SLe.one (S := avoid (fun _ => False) (.slice pv (freeL b i (seatsOf pre)).length cv)) (w := W6) (cs := [.int .i64 xk]) (x := (xk : Int)) 3 rfl
        have hlen := HLEN.out
        have hz6 : w2.heap.size ≤ (W6.alloc (.cells #[.int .i64 xk] 3)).heap.size := by have := HX.out.size; have := HT6.out.size; simp; omega
        gi_wp2_with (gi_at_builtin; refine wplI_append (α := Int) (S := fun _ => False) (base := w2.heap.size) (v := .slice pv (freeL b i (seatsOf pre)).length cv) (l := freeL b i (seatsOf pre)) (m := [(xk : Int)]) eiInts rfl _ _ rfl rfl rfl hown6 hu ((freeL b i (seatsOf pre)).length + 1) (by simp) (freeL b i (seatsOf pre) ++ [(xk : Int)]) rfl ?_ ?_ hz6 ?_)
        · simp only [maxLen]; omega
        · omega
        intro p' c' w7 hown7 hg7
        have hob := ((HBV.out.step HT6.out).alloc (.cells #[.int .i64 xk] 3))
        have hne : (Value.slice pv (freeL b i (seatsOf pre)).length cv).ownBlock ≠ some (w.heap.size + 2) := fun e => by have := (HOWN.out.lt _ e).1; have := HZ.out; omega
        have hob7 := hob.keep (S := fun j => (Value.slice pv (freeL b i (seatsOf pre)).length cv).ownBlock = some j) (.grown hg7 fun j hj _ => hj) hne
        have f7 := hob7.cell 0
        have z7 := hob7.frozen 0
        simp only [List.getElem?_cons_zero] at f7
        have H7 := Lib.hid (And.intro hown7 (And.intro hg7 hob7))
        have H6 := Lib.hid hown6
        clear hown6 hu hlen hz6 hown7 hg7 hob hob7 f0
        gi_wp2
        obtain ⟨hown7, hg7, hob7⟩ := H7.out
        have hne7 : (Value.slice p' ((freeL b i (seatsOf pre)).length + 1) c').ownBlock ≠ some (w.heap.size + 2) := fun e => by have := (hown7.lt _ e).1; have := HZ.out; omega
        have hw9 := Wrote.setCell w7 (w.heap.size + 2) 0 (Value.slice p' ((freeL b i (seatsOf pre)).length + 1) c')
        have hX6 : StepX (fun j => j = w.heap.size + 2 ∨ w2.heap.size ≤ j) W (w7.setCell ⟨w.heap.size + 2, 0, none⟩ (.slice p' ((freeL b i (seatsOf pre)).length + 1) c')) :=
          StepX.setCell (((StepX.of HT6.out).alloc' _).trans (.grown hg7 fun j hj _ => .inr (HOWN.out.lt j hj).1)) ⟨w.heap.size + 2, 0, none⟩ _ (.inl rfl)
        have hK6 : KeepsFrom w2.heap.size W (w7.setCell ⟨w.heap.size + 2, 0, none⟩ (.slice p' ((freeL b i (seatsOf pre)).length + 1) c')) :=
          ((keepsFrom_step _ (Step.s_alloc _ HT6.out)).trans (keepsFrom_own _ H6.out hg7)).trans ((KeepsOthers.setCell _ _ _).from _)
        refine ⟨hK6, hX6, _, hob7.setCell 0 _, ?_, HX.out.trans hX6⟩
        rw [seatsOf_snoc, HN.out]
        exact hown7.keptF fun g' hg' => hw9.block g' fun e => hne7 (e ▸ hg')
      · have hd : (b.seats[i][xk] == 0) = false := by simp [q]
        have HN := Lib.hid (show freeL b i (seatsOf pre ++ [xk]) = freeL b i (seatsOf pre) from freeL_snoc_no (fun h => q (HSE.out.symm.trans h)))
        clear q
        repeat (first | (refine run_off rfl rfl (by rfl) ?_; (try simp only [Act.put, List.setIfInBounds_toArray, List.set_cons_zero, List.set_cons_succ])) | (refine run_chain_off rfl rfl (by rfl) (K0_mono _) ?_; (try simp only [Act.put, List.setIfInBounds_toArray, List.set_cons_zero, List.set_cons_succ])) | ((refine run_want rfl rfl (by rfl) ⟨?_, fun W hW => ?_, ?_⟩; rotate_left; (· (have d0 := hW.keeps.cell id y0; have d1 := hW.keeps.cell id y1; have d2 := hW.keeps.cell id y2; have d3 := hW.keeps.cell id y3; have d4 := hW.keeps.cell id y4; go_simp; (try with_reducible rfl)))); (try simp only [Act.put, List.setIfInBounds_toArray, List.set_cons_zero, List.set_cons_succ])))
        refine runI_end (L := []) rfl (fun W6 hW6 => ?_)
        have HT6 := Lib.hid (HT.out.trans hW6)
        clear hW6 y0 y1 y2 y3 y4 hd
        gi_wp2
        exact ⟨keepsFrom_step _ HT6.out, .of HT6.out, _, HBV.out.step HT6.out, by rw [seatsOf_snoc, HN.out]; exact HOWN.out.step HT6.out, HX.out.trans (.of HT6.out)⟩
end
end Go.Proofs.Ytbgfmikbhiblgaa
/- A show is lost: what becomes of a desk, in plain words; a desk beside a row of moves. -/
namespace Go.Proofs.Ytbgfmikbhiblgaa
set_option linter.unusedSimpArgs false
set_option linter.unusedVariables false
open Go.RowKit Go.BT

/-- The first later show, from s on (m shows), that has an open seat of the class, with the seat. -/
def placeL (h : House) (b : Book) (c d : Int) : Nat → Nat → Option (Nat × Int)
  | _, 0 => none
  | s, m + 1 => match openL h b s c d with
    | k :: _ => some (s, k)
    | [] => placeL h b c d (s + 1) m
def loseOne (h : House) (b : Book) (i : Nat) (d : Int) (k : Nat) (y : Int) : Book × BT.Move := match placeL h b (classL h.sectors k) d (i + 1) (h.dates.length - (i + 1)) with
  | some (s, j) => (putSeat (putSeat b s j.toNat y) i k 0, ⟨k, s, j⟩)
  | none => (putSeat { b with cash := b.cash - priceL h k } i k 0, ⟨k, -1, -1⟩)
def loseTo (h : House) (b : Book) (i : Nat) (d : Int) : Nat → Book × List BT.Move
  | 0 => (b, [])
  | k + 1 => if 0 < seatAt (loseTo h b i d k).1 i k then
      ((loseOne h (loseTo h b i d k).1 i d k (seatAt (loseTo h b i d k).1 i k)).1, (loseTo h b i d k).2 ++ [(loseOne h (loseTo h b i d k).1 i d k (seatAt (loseTo h b i d k).1 i k)).2])
    else loseTo h b i d k
def loseE (h : House) (b : Book) (s d : Int) : Int := if withinB s 0 (h.dates.length - 1) = false then 2 else if withinB d 0 1000 = false then 2 else if offAt b s = true then 6 else 0
def offBook (b : Book) (i : Nat) : Book := { b with off := b.off.set i true }
def loseD (h : House) (b : Book) (s d : Int) : Except Int (Book × List BT.Move) := if loseE h b s d = 0 then .ok (loseTo h (offBook b s.toNat) s.toNat d (b.seats.getD s.toNat []).length) else .error (loseE h b s d)

theorem placeL_skip {h : House} {b : Book} {c d : Int} {s m : Nat} (hs : openL h b s c d = []) : placeL h b c d s (m + 1) = placeL h b c d (s + 1) m := by simp [placeL, hs]
theorem placeL_hit {h : House} {b : Book} {c d : Int} {s m : Nat} {k : Int} {l : List Int} (hs : openL h b s c d = k :: l) : placeL h b c d s (m + 1) = some (s, k) := by simp [placeL, hs]

theorem freeL_mem {h : House} {b : Book} {s c d k : Int} (hk : k ∈ openL h b s c d) : 0 ≤ k ∧ k < sizeL h.sectors ∧ seatAt b s k = 0 := by
  unfold openL at hk
  split at hk
  · simp only [freeL, ofL, ofB, List.mem_map, List.mem_filter, List.mem_range, decide_eq_true_eq] at hk
    obtain ⟨n, ⟨⟨h1, h2⟩, h3⟩, rfl⟩ := hk
    exact ⟨by omega, by omega, h3⟩
  · cases hk
theorem placeL_some {h : House} {b : Book} {c d : Int} : ∀ {m s : Nat} {r : Nat × Int}, placeL h b c d s m = some r → s ≤ r.1 ∧ r.1 < s + m ∧ r.2 ∈ openL h b r.1 c d
  | 0, s, r, hr => by simp [placeL] at hr
  | m + 1, s, r, hr => by
    unfold placeL at hr
    split at hr
    · rename_i k l ho
      obtain rfl := Option.some.inj hr
      exact ⟨Nat.le_refl _, by simp, by rw [ho]; exact List.mem_cons_self⟩
    · have := placeL_some hr
      exact ⟨by omega, by omega, this.2.2⟩

/-- What a desk's book keeps: its lengths, its agency; its cash stays in bounds. -/
structure Like (b b' : Book) (q : Int) : Prop where
  off : b'.off.length = b.off.length
  seats : b'.seats.length = b.seats.length
  row : ∀ i (hi : i < b.seats.length) (hi' : i < b'.seats.length), b'.seats[i].length = b.seats[i].length
  agency : b'.agency = b.agency
  sent : b'.sent = b.sent
  cash : b.cash - q ≤ b'.cash ∧ b'.cash ≤ b.cash
theorem Like.refl (b : Book) : Like b b 0 := ⟨rfl, rfl, fun _ _ _ => rfl, rfl, rfl, by omega, by omega⟩
theorem Like.trans {a b c : Book} {p q : Int} (h : Like a b p) (k : Like b c q) : Like a c (p + q) :=
  ⟨k.off.trans h.off, k.seats.trans h.seats, fun i hi hi' => (k.row i (by rw [h.seats]; exact hi) hi').trans (h.row i hi (by rw [h.seats]; exact hi)), k.agency.trans h.agency, k.sent.trans h.sent, by have := h.cash; have := k.cash; omega, by have := h.cash; have := k.cash; omega⟩
theorem Like.mono {a b : Book} {p q : Int} (h : Like a b p) (hq : p ≤ q) : Like a b q := { h with cash := ⟨by have := h.cash; omega, h.cash.2⟩ }
theorem like_put (b : Book) (i j : Nat) (x : Int) : Like b (putSeat b i j x) 0 := by
  refine ⟨rfl, by simp [putSeat], fun k hk hk' => ?_, rfl, rfl, by simp [putSeat], by simp [putSeat]⟩
  simp only [putSeat, List.getElem_set]
  split
  · subst_vars; simp [List.getD_eq_getElem?_getD, hk]
  · rfl
theorem Like.ok {h : House} {b b' : Book} {q : Int} (hl : Like b b' q) (hO : OkDesk h b) (hq : -1000000000 ≤ b.cash - q) : OkDesk h b' := by
  obtain ⟨h1, h2, h3, h4, h5, h6, h7, h8, h9, h10⟩ := hO
  refine ⟨h1, hl.off.trans h2, hl.seats.trans h3, fun i hi => ?_, by rw [hl.agency]; exact h5, by rw [hl.agency]; exact h6, by have := hl.cash; omega, by have := hl.cash; omega, by rw [hl.sent]; exact h9, by rw [hl.sent]; exact h10⟩
  have hi' : i < b.seats.length := by rw [← hl.seats]; exact hi
  rw [hl.row i hi' hi]; exact h4 i hi'
theorem seat_len {h : House} {b : Book} (hO : OkDesk h b) {i : Nat} (hi : i < b.seats.length) : b.seats[i].length = (sizeL h.sectors).toNat := by have := hO.2.2.2.1 i hi; omega
theorem like_one {h : House} {b : Book} (hO : OkDesk h b) (i : Nat) (d : Int) (k : Nat) (hk : (k : Int) < sizeL h.sectors) (y : Int) : Like b (loseOne h b i d k y).1 10000 := by
  unfold loseOne
  split
  · exact ((like_put _ _ _ _).trans (like_put _ _ _ _)).mono (by omega)
  · obtain ⟨_, _, _, e, h0, h1⟩ := class_valid hO.1 (n := k) (by omega) hk
    have a : Like b { b with cash := b.cash - priceL h k } 10000 := ⟨rfl, rfl, fun _ _ _ => rfl, rfl, rfl, by simp only []; omega, by simp only []; omega⟩
    exact (a.trans (like_put _ _ _ _)).mono (by omega)
theorem like_to {h : House} {b : Book} (hO : OkDesk h b) (hc : 0 ≤ b.cash) (i : Nat) (d : Int) : ∀ k : Nat, (k : Int) ≤ sizeL h.sectors → Like b (loseTo h b i d k).1 (10000 * k)
  | 0, _ => Like.refl b
  | k + 1, hk => by
    have ih := like_to hO hc i d k (by omega)
    have hs := (bounds_valid hO.1).2.2.2.2.2.2.2.1
    have hO' := ih.ok hO (by omega)
    unfold loseTo
    split
    · exact (ih.trans (like_one hO' i d k (by omega) _)).mono (by omega)
    · exact ih.mono (by omega)
theorem loseTo_yes {h : House} {b : Book} {i : Nat} {d : Int} {k : Nat} (hy : 0 < seatAt (loseTo h b i d k).1 i k) : loseTo h b i d (k + 1) = ((loseOne h (loseTo h b i d k).1 i d k (seatAt (loseTo h b i d k).1 i k)).1, (loseTo h b i d k).2 ++ [(loseOne h (loseTo h b i d k).1 i d k (seatAt (loseTo h b i d k).1 i k)).2]) := by
  rw [loseTo, if_pos hy]
theorem loseTo_no {h : House} {b : Book} {i : Nat} {d : Int} {k : Nat} (hy : ¬ 0 < seatAt (loseTo h b i d k).1 i k) : loseTo h b i d (k + 1) = loseTo h b i d k := by
  rw [loseTo, if_neg hy]

theorem infoMove : (Try.prog.info? 53).map (fun i => (i.zero, i.size, i.bytes)) = some (some (.agg #[.int .i64 0, .int .i64 0, .int .i64 0]), 3, 24) := by kernel_rfl
theorem eiMoves : EI Try.prog 37 53 (.agg #[.int .i64 0, .int .i64 0, .int .i64 0]) 3 24 := .mk' Try.underlying37 infoMove rfl

section
variable {base b2 : Nat} {w w' : World} {g : Nat} {h : House} {b : Book} {c0 c1 c2 c3 c4 vs vo vt v : Value} {xs : List Value} {l : List BT.Move}
theorem own_row' {α : Type} [Rep α] {S : Nat → Prop} {e : TypeId} {l : List α} (h : OwnL S b2 e w v l) : ∃ ys, w.ownsRow b2 e (Rep.k α) v l.length ys := by obtain ⟨ys, h, _⟩ := h; exact ⟨ys, h⟩
/-- A desk abides a row of moves that grows. -/
theorem Desk.grown (D : Desk base w g h b c0 c1 c2 c3 c4 vs vo vt xs) (ho : OwnL (fun _ => False) b2 53 w v l) (hb : base ≤ b2) (hg : w.grownBy w' v.ownBlock) : Desk base w' g h b c0 c1 c2 c3 c4 vs vo vt xs := by
  obtain ⟨ys, hy⟩ := own_row' ho
  have hne : ∀ {b3 s3 : Nat} {e3 : TypeId} {v3 : Value} {n3 : Nat} {x3 : List Value}, w.ownsRow b3 e3 s3 v3 n3 x3 → e3 ≠ 53 → v3.ownBlock = none ∨ v3.ownBlock ≠ v.ownBlock := fun {b3 s3 e3 v3 n3 x3} h3 h4 => by
    cases hq : v3.ownBlock with
    | none => exact .inl rfl
    | some q => exact .inr fun he => apart_rows h3 hy h4 q hq he.symm
  have hk : Keeps (fun j => base ≤ j) w w' := .grown hg fun k hk _ => by have := (ho.lt k hk).1; omega
  refine ⟨D.bx.keep (S := fun j => v.ownBlock = some j) (.grown hg fun j hj _ => hj) (apart_bx D.bx hy (by decide)), D.gb, Rep.keep hk D.house, D.outer.kept hg (hne D.outer (by decide)), fun i hi hx => (D.row i hi hx).kept hg (hne (D.row i hi hx) (by decide)), D.off.kept hg (hne D.off (by decide)), ?_, D.apart⟩
  obtain ⟨ts, ht, _⟩ := D.took
  refine D.took.keptF fun q hq => hg.block q (D.took.lt q hq).2 fun e => ?_
  rcases hne ht (by decide) with h1 | h1
  · rw [h1] at hq; cases hq
  · exact h1 (hq.trans e)
/-- A row of moves abides a store into a block of another make. -/
theorem moves_set (ho : OwnL (fun _ => False) b2 53 w v l) {k o : Nat} {u : Value} {cs : Array Value} {T : TypeId} (hc : w.heap[k]? = some (.cells cs T (0, 0))) (hT : T ≠ 53) : OwnL (fun _ => False) b2 53 (w.setCell ⟨k, o, none⟩ u) v l := by
  obtain ⟨ys, hy⟩ := own_row' ho
  refine ho.keptF fun q hq => (Wrote.setCell w k o u).block q fun e => ?_
  subst e
  rcases hy.2 with ⟨rfl, _⟩ | ⟨g', cap, cur, rfl, _, hg', _⟩
  · simp [Value.ownBlock] at hq
  · simp [Value.ownBlock] at hq
    subst hq
    rw [hc] at hg'
    simp at hg'
    exact hT hg'.2
theorem owns_block {s : Nat} {e : TypeId} {n : Nat} {x : List Value} {p c : Nat} {k : Nat} (h : w.ownsRow b2 e s (.slice (some ⟨p, 0, none⟩) n c) k x) : ∃ cs, w.heap[p]? = some (.cells cs e (0, 0)) := by
  rcases h.2 with ⟨h1, _⟩ | ⟨g', cap, cur, h1, _, hg', _⟩
  · cases h1
  · injection h1 with h1 _ _
    injection h1 with h1
    injection h1 with h1
    subst h1
    exact ⟨_, hg'⟩
end
end Go.Proofs.Ytbgfmikbhiblgaa
/- Walks: a desk loses a show. -/
namespace Go.Proofs.Ytbgfmikbhiblgaa
set_option linter.unusedSimpArgs false
set_option linter.unusedVariables false
open Go.RowKit Go.BT

section
variable {base : Nat} {w : World} {g : Nat} {h : House} {b : Book} {c0 c1 c2 c3 c4 vs vo vt : Value} {xs : List Value}
theorem Desk.seat_c {gs n cs : Nat} (D : Desk base w g h b c0 c1 c2 c3 c4 (.slice (some ⟨gs, 0, none⟩) n cs) vo vt xs) {i gi z ci : Nat} (hi : i < b.seats.length) (hx : i < xs.length) (hxi : xs[i] = .slice (some ⟨gi, 0, none⟩) z ci) {j : Nat} (hj : j < b.seats[i].length) :
    w.cell? ⟨gs, i, none⟩ = some (.slice (some ⟨gi, 0, none⟩) z ci) ∧ w.cell? ⟨gi, j, none⟩ = some (.int .i64 (seatAt b i j)) ∧ w.frozen? ⟨gi, j, none⟩ = false ∧ gs < w.heap.size ∧ gi < w.heap.size := by
  obtain ⟨gs', cs', gi', ci', e1, ⟨hx', e2⟩, h1, h2, h3, h4, h5⟩ := D.seat_at hi (by omega)
  injection e1 with e1 _ _
  injection e1 with e1
  injection e1 with e1
  rw [hxi] at e2
  injection e2 with e2 e3 e4
  injection e2 with e2
  injection e2 with e2
  subst e1 e2 e3 e4
  refine ⟨h1, ?_, h3 j, h4, h5⟩
  rw [h2 j hj]
  simp [seatAt, List.getD_eq_getElem?_getD, hi, hj]
theorem Desk.forms (D : Desk base w g h b c0 c1 c2 c3 c4 vs vo vt xs) (hO : OkDesk h b) {z : Nat} (hz : sizeL h.sectors = z) (hz0 : 0 < z) : (∃ gs cs, vs = .slice (some ⟨gs, 0, none⟩) h.dates.length cs) ∧ ∀ i, i < h.dates.length → ∃ hx : i < xs.length, ∃ gi ci, xs[i] = .slice (some ⟨gi, 0, none⟩) z ci := by
  have hl := hO.2.2.1
  have hd := (bounds_valid hO.1).1
  have hrow : ∀ i (hi : i < b.seats.length), b.seats[i].length = z := fun i hi => by have := hO.2.2.2.1 i hi; omega
  refine ⟨?_, fun i hi => ?_⟩
  · obtain ⟨gs, cs, _, _, e, _⟩ := D.seat_at (i := 0) (by omega) (by rw [hrow]; exact hz0)
    exact ⟨gs, cs, by rw [e, hl]⟩
  · obtain ⟨_, _, gi, ci, _, ⟨hx, e⟩, _⟩ := D.seat_at (i := i) (by omega) (by rw [hrow]; exact hz0)
    exact ⟨hx, gi, ci, by rw [e, hrow]⟩

/-- A desk abides a store into a variable of another make. -/
theorem Desk.besides {w' : World} {k : Nat} {cs : List Value} (D : Desk base w g h b c0 c1 c2 c3 c4 vs vo vt xs) (hw : Wrote k w w') (hb : Bx w k cs 53) (hk : base ≤ k) : Desk base w' g h b c0 c1 c2 c3 c4 vs vo vt xs := by
  have hg0 : g ≠ k := fun e => by subst e; have h1 := D.bx; unfold Bx at h1 hb; rw [h1] at hb; simp at hb
  refine ⟨D.bx.keep hw.keeps hg0, D.gb, Rep.keep (keeps_of_wrote hw hk) D.house, D.outer.kept hw.grown (.inr (apart_bx hb D.outer (by decide))), fun i hi hx => (D.row i hi hx).kept hw.grown (.inr (apart_bx hb (D.row i hi hx) (by decide))), D.off.kept hw.grown (.inr (apart_bx hb D.off (by decide))), ?_, D.apart⟩
  obtain ⟨ts, ht, _⟩ := D.took
  exact D.took.keptF fun q hq => hw.block q fun e => apart_bx hb ht (by decide) (e ▸ hq)
theorem size_ge : ∀ (l : List Sector), (∀ s ∈ l, 1 ≤ s.seats) → (l.length : Int) ≤ sizeL l
  | [], _ => by simp [sizeL]
  | s :: l, hs => by
    have := size_ge l fun s hs' => hs s (List.mem_cons_of_mem _ hs')
    have := hs s List.mem_cons_self
    simp only [sizeL, List.map_cons, List.sum_cons, List.length_cons] at *
    omega
theorem size_pos {h : House} (hv : valid h = true) : 0 < sizeL h.sectors := by
  simp only [valid, validB, Bool.and_eq_true] at hv
  have hl := hv.2.1.1.1.1.1.1.1.1
  have ha := hv.2.1.1.1.1.1.1.1.2
  have := size_ge h.sectors fun s hs => by
    have := List.all_eq_true.1 ha s hs
    simp [secB, withinB] at this
    omega
  simp [withinB] at hl
  omega
theorem loseTo_len (h : House) (b : Book) (i : Nat) (d : Int) : ∀ k, (loseTo h b i d k).2.length ≤ k
  | 0 => by simp [loseTo]
  | k + 1 => by
    have := loseTo_len h b i d k
    unfold loseTo
    split
    · simp; omega
    · omega
/-- Behind k rounds. -/
def LoseRel (base b0 : Nat) (w0 : World) (g : Nat) (h : House) (b : Book) (i : Nat) (d : Int) (c0 c1 c2 c3 c4 vs vo vt : Value) (xs : List Value) (k : Nat) (wr : World) (outv : Value) : Prop :=
  Desk base wr g h (loseTo h b i d k).1 c0 c1 c2 c3 c4 vs vo vt xs ∧ OwnL (fun _ => False) b0 53 wr outv (loseTo h b i d k).2 ∧ StepX (fun j => base ≤ j) w0 wr
def InnerRel (base b0 : Nat) (w0 : World) (g : Nat) (h : House) (bk : Book) (i k : Nat) (d y : Int) (mb : Nat) (outv : Value) (lk : List BT.Move) (c0 c1 c2 c3 c4 vs vo vt : Value) (xs : List Value) (s : Nat) (wi : World) : Option (Nat × Int) → Prop
  | none => OwnL (fun _ => False) b0 53 wi outv lk ∧ StepX (fun j => base ≤ j) w0 wi ∧ Bx wi mb [.int .i64 k, .int .i64 (-1), .int .i64 (-1)] 53 ∧ Desk base wi g h bk c0 c1 c2 c3 c4 vs vo vt xs ∧ placeL h bk (classL h.sectors k) d (i + 1) (h.dates.length - (i + 1)) = placeL h bk (classL h.sectors k) d s (h.dates.length - s)
  | some (s0, j) => OwnL (fun _ => False) b0 53 wi outv lk ∧ StepX (fun j => base ≤ j) w0 wi ∧ Bx wi mb [.int .i64 k, .int .i64 s0, .int .i64 j] 53 ∧ Desk base wi g h (putSeat bk s0 j.toNat y) c0 c1 c2 c3 c4 vs vo vt xs ∧ placeL h bk (classL h.sectors k) d (i + 1) (h.dates.length - (i + 1)) = some (s0, j)
def LoseEnds (base g : Nat) (h : House) (r : Except Int (Book × List BT.Move)) (e : Ending) (w w' : World) : Prop := match r with
  | .ok (b', l) => ∃ v', e = .returned v' ∧ DeskE base w' g h b' ∧ SL (fun j => j < w.heap.size) w' v' l ∧ StepX (fun j => base ≤ j) w w'
  | .error c => e = .panicked (refusal c) ∧ StepX (fun j => base ≤ j) w w'
theorem LoseEnds.no {base g : Nat} {h : House} {r : Except Int (Book × List BT.Move)} {w w' : World} {c : Int} (hr : r = .error c) (hS : Step w w') : LoseEnds base g h r (.panicked (refusal c)) w w' := by
  subst hr; exact ⟨rfl, .of hS⟩
theorem loseD_no {h : House} {b : Book} {s d c : Int} (hc : loseE h b s d = c) (h0 : c ≠ 0) : loseD h b s d = .error c := by simp [loseD, hc, h0]

set_option maxRecDepth 100000 in
set_option maxHeartbeats 8000000 in
theorem lose_any (D : Desk base w g h b c0 c1 c2 c3 c4 vs vo vt xs) (hO : OkDesk h b) (hc0 : 0 ≤ b.cash) (s d : Int) :
    Calls Try.prog 54 #[.pointer (some ⟨g, 0, none⟩), .int .i64 s, .int .i64 d] w (fun e w' => LoseEnds base g h (loseD h b s d) e w w') := by
  have HD := Lib.hid D
  have HO := Lib.hid hO
  have HC0 := Lib.hid hc0
  have HT := Lib.hid (Step.refl w)
  clear D hO hc0
  go_enter Try.func54, Try.ntmps54
  cases q1 : withinB s 0 (h.dates.length - 1) with
  | false =>
    have HF := Lib.hid (show loseE h b s d = 2 by simp [loseE, q1])
    have hcall := Lib.hid (show_no HD.out s q1)
    go_wp2_with fail
    refine hcall.out.mono ?_
    clear hcall
    rintro e wn ⟨rfl, hSn⟩
    have HTi := Lib.hid (HT.out.trans hSn)
    clear hSn HT
    have HT := HTi
    clear HTi
    exact ⟨rfl, .no (loseD_no HF.out (by simp)) HT.out⟩
  | true =>
  have hcall := Lib.hid (show_yes HD.out s q1)
  go_wp2_with fail
  refine hcall.out.mono ?_
  clear hcall
  rintro e wn ⟨rfl, hSn⟩
  have HTi := Lib.hid (HT.out.trans hSn)
  clear hSn HT
  have HT := HTi
  clear HTi
  have Q1 := Lib.hid q1
  clear q1
  go_wp2_with fail
  refine (within_st _ _ _ _).mono ?_
  rintro e wn ⟨rfl, hSn⟩
  have HTi := Lib.hid (HT.out.trans hSn)
  clear hSn HT
  have HT := HTi
  clear HTi
  cases q2 : withinB d 0 1000 with
  | false =>
    have HF := Lib.hid (show loseE h b s d = 2 by simp [loseE, Q1.out, q2])
    clear q2
    go_wp2_with fail
    refine (ask_no _ _).mono ?_
    rintro e wn ⟨rfl, hSn⟩
    have HTi := Lib.hid (HT.out.trans hSn)
    clear hSn HT
    have HT := HTi
    clear HTi
    exact ⟨rfl, .no (loseD_no HF.out (by simp)) HT.out⟩
  | true =>
  have Q2 := Lib.hid q2
  clear q2
  go_wp2_with fail
  refine (ask_yes _ _).mono ?_
  rintro e wn ⟨rfl, hSn⟩
  have HTi := Lib.hid (HT.out.trans hSn)
  clear hSn HT
  have HT := HTi
  clear HTi
  obtain ⟨i, rfl, hi0, hi1⟩ := within_nat Q1.out (by omega)
  have hbv := bounds_valid HO.out.1
  have hi : i < h.dates.length := by omega
  obtain ⟨z, hz⟩ : ∃ z : Nat, sizeL h.sectors = z := ⟨(sizeL h.sectors).toNat, by omega⟩
  have hz100 : z ≤ 100 := by omega
  have hz0 : 0 < z := by have := size_pos HO.out.1; omega
  have hio : i < b.off.length := by have := HO.out.2.1; omega
  have hD6 : h.dates.length ≤ 6 := by omega
  obtain ⟨⟨gs, cs, rfl⟩, hforms⟩ := HD.out.forms HO.out hz hz0
  obtain ⟨go, co, rfl, hoc, hof, hgo⟩ := HD.out.off_at hio
  have HFO := Lib.hid hforms
  have HZ := Lib.hid hz
  have HOC := Lib.hid (And.intro (hoc i hio) (And.intro (hof i) hgo))
  have hx1 : (0 : Int) ≤ (i : Int) ∧ (i : Int) < (b.off.length : Int) := by omega
  clear hforms hz hbv hi0 hi1 hoc hof hgo
  obtain ⟨_, f5, f6, f7, f8, f9, f10⟩ := cells11 (HD.out.step HT.out).bx
  have m0 := HT.out.keeps.cell id HOC.out.1
  have hoff : offAt b i = b.off[i] := by simp [offAt, List.getD_eq_getElem?_getD, hio]
  have HOFF := Lib.hid hoff
  clear hoff
  cases q3 : b.off[i] with
  | true =>
    have HF := Lib.hid (show loseE h b i d = 6 by simp [loseE, Q1.out, Q2.out, HOFF.out, q3])
    rw [q3] at m0
    clear q3
    go_wp2_with fail
    refine (ask_no _ _).mono ?_
    rintro e wn ⟨rfl, hSn⟩
    have HTi := Lib.hid (HT.out.trans hSn)
    clear hSn HT
    have HT := HTi
    clear HTi
    exact ⟨rfl, .no (loseD_no HF.out (by simp)) HT.out⟩
  | false =>
  have HF := Lib.hid (show loseE h b i d = 0 by simp [loseE, Q1.out, Q2.out, HOFF.out, q3])
  rw [q3] at m0
  clear q3
  go_wp2_with fail
  refine (ask_yes _ _).mono ?_
  rintro e wn ⟨rfl, hSn⟩
  have HTi := Lib.hid (HT.out.trans hSn)
  clear hSn HT
  have HT := HTi
  clear HTi
  clear f5 f6 f7 f8 f9 f10 m0
  obtain ⟨_, f5, f6, f7, f8, f9, f10⟩ := cells11 (HD.out.step HT.out).bx
  have m0 := HT.out.keeps.cell id HOC.out.1
  have z0 := (HT.out.cells.2 go i HOC.out.2.2).trans HOC.out.2.1
  have hl9 := (HD.out.step HT.out).lt
  go_upto_region 5 with (fail)
  have hset := (HD.out.step HT.out).setOff (i := i) rfl true
  have hD9 : Desk base (wn.setCell ⟨go, i, none⟩ (.bool true)) g h (offBook b i) c0 c1 c2 c3 c4 (.slice (some ⟨gs, 0, none⟩) h.dates.length cs) (.slice (some ⟨go, 0, none⟩) b.off.length co) vt xs := hset.1
  have hX9 : StepX (fun j => base ≤ j) w (wn.setCell ⟨go, i, none⟩ (.bool true)) := (StepX.of HT.out).setCell ⟨go, i, none⟩ _ hset.2
  clear f5 f6 f7 f8 f9 f10 m0 z0 hl9 hset
  generalize wn.setCell ⟨go, i, none⟩ (.bool true) = w9 at *
  have HD9 := Lib.hid hD9
  have HX9 := Lib.hid hX9
  have hO9 : OkDesk h (offBook b i) := by
    obtain ⟨o1, o2, o3⟩ := HO.out
    exact ⟨o1, by simp [offBook]; exact o2, o3⟩
  have HO9 := Lib.hid hO9
  obtain ⟨hxi, gi, ci, hxv⟩ := HFO.out i hi
  have HXV := Lib.hid hxv
  have hsl : (offBook b i).seats.length = h.dates.length := hO9.2.2.1
  have his : i < (offBook b i).seats.length := by omega
  have hrl : ∀ b', OkDesk h b' → ∀ s (hs : s < b'.seats.length), b'.seats[s].length = z := fun b' hb s hs => by have := hb.2.2.2.1 s hs; have := HZ.out; omega
  have HRL := Lib.hid hrl
  obtain ⟨m0, _, _, _, _⟩ := hD9.seat_c his hxi hxv (j := 0) (by rw [hrl _ hO9]; exact hz0)
  obtain ⟨_, _, f6, _⟩ := cells11 hD9.bx
  have hx2 : (0 : Int) ≤ (i : Int) ∧ (i : Int) < (h.dates.length : Int) := by omega
  clear hD9 hX9 hO9 hxv hsl hrl
  go_wp2_with fail
  clear m0 f6
  have hstart : LoseRel base w9.heap.size w9 g h (offBook b i) i d c0 c1 c2 c3 c4 (.slice (some ⟨gs, 0, none⟩) h.dates.length cs) (.slice (some ⟨go, 0, none⟩) b.off.length co) vt xs 0 w9 (.slice none 0 0) := ⟨HD9.out, OwnL.nil _ _ _ _, StepX.refl _ _⟩
  go_loopw [7, 45] (fun outv idx wr => ∃ k : Nat, k ≤ z ∧ idx = .int .i64 k ∧ LoseRel base w9.heap.size w9 g h (offBook b i) i d c0 c1 c2 c3 c4 (.slice (some ⟨gs, 0, none⟩) h.dates.length cs) (.slice (some ⟨go, 0, none⟩) b.off.length co) vt xs k wr outv) (fun _ idx _ => z - (intOf idx).toNat)
  case atStart => exact ⟨0, Nat.zero_le _, rfl, hstart⟩
  case round =>
    obtain ⟨k, hk, rfl, hR⟩ := hrel
    obtain ⟨hDk, hown, hX⟩ := hR
    have hlike := like_to HO9.out (show 0 ≤ (offBook b i).cash from HC0.out) i d k (by have := HZ.out; omega)
    have hOk := hlike.ok HO9.out (by have := HC0.out; simp only [offBook]; omega)
    obtain ⟨P, hP⟩ : ∃ P, P = loseTo h (offBook b i) i d k := ⟨_, rfl⟩
    rw [← hP] at hDk hown hOk hlike
    have hcash : -1000000 ≤ P.1.cash := by have e1 := hlike.cash; have e2 : (offBook b i).cash = b.cash := rfl; have e3 := HC0.out; omega
    have hcash2 : P.1.cash ≤ 1000000000 := hOk.2.2.2.2.2.2.2.1
    have HP := Lib.hid hP
    have HDK := Lib.hid hDk
    obtain ⟨pu, cu, rfl, _, _⟩ := hown.form
    have HOWN := Lib.hid hown
    have HX := Lib.hid hX
    have HOK := Lib.hid hOk
    have HLK : Hid (P.2.length ≤ k) := Lib.hid (by rw [hP]; exact loseTo_len _ _ _ _ _)
    have HBASE : Hid (base ≤ w9.heap.size) := Lib.hid (by have := HD9.out.gb; have := HD9.out.lt; omega)
    clear hstart hDk hown hX hOk hlike hP
    by_cases hlt : k < z
    · have hsl := HOK.out.2.2.1
      have his2 : i < P.1.seats.length := by omega
      have hkl : k < P.1.seats[i].length := by rw [HRL.out _ HOK.out]; exact hlt
      obtain ⟨m0, m1, m2, _, hgi⟩ := HDK.out.seat_c his2 hxi HXV.out hkl
      have hx3 : (0 : Int) ≤ (k : Int) ∧ (k : Int) < (z : Int) := by omega
      clear hsl
      by_cases hy : 0 < seatAt P.1 i k
      rotate_left
      · have hN := Lib.hid (show loseTo h (offBook b i) i d (k + 1) = P by rw [loseTo_no (by rw [← HP.out]; exact hy), HP.out])
        go_wp2
        go_roundw
        case rel => exact ⟨k + 1, by omega, by go_num, by unfold LoseRel; rw [hN.out]; exact ⟨HDK.out, HOWN.out, HX.out⟩⟩
        case measure => simp [intOf]; omega
      · obtain ⟨wo, hwo⟩ : ∃ wo, wo = wr := ⟨_, rfl⟩
        subst hwo
        have hi2 : (0 : Int) ≤ (i : Int) ∧ (i : Int) < 1000 := by omega
        clear m2
        go_wp2_with fail
        have hb2 := Bx.new wo [.int .i64 k, .int .i64 (-1), .int .i64 (-1)] 53
        have hs2 : Step wo (wo.alloc (.cells #[.int .i64 k, .int .i64 (-1), .int .i64 (-1)] 53)) := Step.alloc _ _
        have hst : InnerRel base w9.heap.size w9 g h P.1 i k d (seatAt P.1 i k) wo.heap.size (.slice pu P.2.length cu) P.2 c0 c1 c2 c3 c4 (.slice (some ⟨gs, 0, none⟩) h.dates.length cs) (.slice (some ⟨go, 0, none⟩) b.off.length co) vt xs (i + 1) (wo.alloc (.cells #[.int .i64 k, .int .i64 (-1), .int .i64 (-1)] 53)) none :=
          ⟨HOWN.out.step hs2, HX.out.trans (.of hs2), hb2, HDK.out.step hs2, rfl⟩
        have hmo : (Value.slice pu P.2.length cu).ownBlock ≠ some wo.heap.size := fun e => by have := (HOWN.out.lt _ e).2; omega
        have hmz : w9.heap.size ≤ wo.heap.size := HX.out.size
        have HMO := Lib.hid (And.intro hmo hmz)
        have hHOLD : Step wo (wo.alloc (.cells #[.int .i64 k, .int .i64 (-1), .int .i64 (-1)] 53)) := hs2
        clear hb2 hs2 hmo hmz hHOLD m0 m1 hgi
        generalize wo.alloc (.cells #[.int .i64 k, .int .i64 (-1), .int .i64 (-1)] 53) = W2 at *
        generalize wo.heap.size = mb at *
        obtain ⟨y, hyy⟩ : ∃ y, y = seatAt P.1 i k := ⟨_, rfl⟩
        rw [← hyy] at hst hy ⊢
        have HYY := Lib.hid hyy
        have HST := Lib.hid hst
        clear hyy hst
        go_loopw [11] (fun sv wi => ∃ (sN : Nat) (st : Option (Nat × Int)), i + 1 ≤ sN ∧ sN ≤ h.dates.length ∧ sv = .int .i64 sN ∧ InnerRel base w9.heap.size w9 g h P.1 i k d y mb (.slice pu P.2.length cu) P.2 c0 c1 c2 c3 c4 (.slice (some ⟨gs, 0, none⟩) h.dates.length cs) (.slice (some ⟨go, 0, none⟩) b.off.length co) vt xs sN wi st) (fun sv _ => h.dates.length - (intOf sv).toNat)
        case atStart => exact ⟨i + 1, none, Nat.le_refl _, by omega, by go_num, HST.out⟩
        case round =>
          clear HST
          obtain ⟨sN, st, hs1, hs2, rfl, hR⟩ := hrel
          cases st with
          | some sj =>
            obtain ⟨s0, j⟩ := sj
            obtain ⟨hown, hX, hbm, hDi, hpl⟩ := hR
            have HOI := Lib.hid hown
            have HXI := Lib.hid hX
            have HBM := Lib.hid hbm
            have HDI := Lib.hid hDi
            have HPL := Lib.hid hpl
            clear hown hX hbm hDi hpl
            have n0 := HBM.out.cell 0
            have n1 := HBM.out.cell 1
            have n2 := HBM.out.cell 2
            simp only [List.getElem?_cons_zero, List.getElem?_cons_succ] at n0 n1 n2
            obtain ⟨⟨_, _, e2, _, _⟩, _, f6, _⟩ := cells11 HDI.out.bx
            obtain ⟨pp2, kk2, rfl⟩ := (rep5 HDI.out.house).2.2.1.form
            have hs0 : (0 : Int) ≤ (s0 : Int) := by omega
            have hk0 := hk
            have hOB : OkDesk h (putSeat P.1 s0 j.toNat y) := (like_put P.1 s0 j.toNat y).ok HOK.out (by omega)
            have HOB := Lib.hid hOB
            have HNEXT := Lib.hid (show loseTo h (offBook b i) i d (k + 1) = (putSeat (putSeat P.1 s0 j.toNat y) i k 0, P.2 ++ [⟨k, s0, j⟩]) by
              rw [loseTo_yes (by rw [← HP.out, ← HYY.out]; exact hy), ← HP.out, ← HYY.out]
              unfold loseOne
              rw [HPL.out])
            clear hOB
            cases hlts : decide (sN < h.dates.length) with
            | true =>
              have hob : OkDesk h (putSeat P.1 s0 j.toNat y) := HOB.out
              have hisb : i < (putSeat P.1 s0 j.toNat y).seats.length := by have := hob.2.2.1; omega
              have hklb : k < (putSeat P.1 s0 j.toNat y).seats[i].length := by rw [HRL.out _ hob]; exact hlt
              obtain ⟨m0, m1, z1, hgsl, hgil⟩ := HDI.out.seat_c hisb hxi HXV.out hklb
              obtain ⟨_, _, f6, _⟩ := cells11 HDI.out.bx
              have hne : gi ≠ mb := fun e => apart_bx HBM.out (HDI.out.row i hisb hxi) (by decide) (by rw [HXV.out, ← e]; rfl)
              go_upto_region 21 with (fail)
              have hset := HDI.out.setSeat (j := k) hisb hxi (by rw [HRL.out _ hob]; exact HXV.out) 0
              obtain ⟨ccs, hcc⟩ := owns_block (by have := HDI.out.row i hisb hxi; rw [HXV.out] at this; exact this)
              have hown5 := moves_set HOI.out (k := gi) (o := k) (u := .int .i64 0) hcc (by decide)
              have hbm5 := HBM.out.setOther (b := gi) (o := k) (v := .int .i64 0) (Ne.symm hne)
              have hX5 := HXI.out.setCell ⟨gi, k, none⟩ (.int .i64 0) hset.2
              have HD5 := Lib.hid hset.1
              have H5 := Lib.hid (And.intro hown5 (And.intro hbm5 hX5))
              clear hset hown5 hbm5 hX5 m0 m1 z1 f6 hcc hne n0 n1 n2
              generalize wr.setCell ⟨gi, k, none⟩ (.int .i64 0) = W5 at *
              have n0 := H5.out.2.1.cell 0
              have n1 := H5.out.2.1.cell 1
              have n2 := H5.out.2.1.cell 2
              simp only [List.getElem?_cons_zero, List.getElem?_cons_succ] at n0 n1 n2
              have hu := SLe.one (S := avoid (fun _ => False) (.slice pu P.2.length cu)) (w := W5) (cs := [.int .i64 ((⟨k, s0, j⟩ : BT.Move)).seat, .int .i64 ((⟨k, s0, j⟩ : BT.Move)).shw, .int .i64 ((⟨k, s0, j⟩ : BT.Move)).at_]) (x := (⟨k, s0, j⟩ : BT.Move)) 53 rfl
              have hown6 := H5.out.1.alloc (.cells #[.int .i64 ((⟨k, s0, j⟩ : BT.Move)).seat, .int .i64 ((⟨k, s0, j⟩ : BT.Move)).shw, .int .i64 ((⟨k, s0, j⟩ : BT.Move)).at_] 53)
              have hlm : P.2.length ≤ k := HLK.out
              have hz6 : w9.heap.size ≤ (W5.alloc (.cells #[.int .i64 ((⟨k, s0, j⟩ : BT.Move)).seat, .int .i64 ((⟨k, s0, j⟩ : BT.Move)).shw, .int .i64 ((⟨k, s0, j⟩ : BT.Move)).at_] 53)).heap.size := by have := H5.out.2.2.size; simp; omega
              go_wp2_with (at_builtin; refine wpl_append (α := BT.Move) (S := fun _ => False) (base := w9.heap.size) (v := .slice pu P.2.length cu) (l := P.2) (m := [(⟨k, s0, j⟩ : BT.Move)]) eiMoves rfl _ _ rfl rfl rfl hown6 hu (P.2.length + 1) (by simp) (P.2 ++ [(⟨k, s0, j⟩ : BT.Move)]) rfl ?_ ?_ hz6 ?_)
              · simp only [maxLen]; omega
              · omega
              intro p' c' w7 hown7 hg7
              have hD7 := (HD5.out.step (Step.alloc _ _)).grown hown6 HBASE.out hg7
              have hX7 := (H5.out.2.2.alloc' (.cells #[.int .i64 ((⟨k, s0, j⟩ : BT.Move)).seat, .int .i64 ((⟨k, s0, j⟩ : BT.Move)).shw, .int .i64 ((⟨k, s0, j⟩ : BT.Move)).at_] 53)).trans (StepX.grown (X := fun j => base ≤ j) hg7 fun j hj _ => by have := (HOWN.out.lt j hj).1; have := HBASE.out; omega)
              have H7 := Lib.hid (And.intro hD7 (And.intro hown7 hX7))
              clear hown6 hu hlm hz6 hown7 hg7 hD7 hX7 n0 n1 n2
              go_wp2
              go_roundw
              case rel => exact ⟨k + 1, by omega, by go_num, by unfold LoseRel; rw [HNEXT.out]; exact H7.out⟩
              case measure => simp [intOf]; omega
            | false =>
              have hob : OkDesk h (putSeat P.1 s0 j.toNat y) := HOB.out
              have hisb : i < (putSeat P.1 s0 j.toNat y).seats.length := by have := hob.2.2.1; omega
              have hklb : k < (putSeat P.1 s0 j.toNat y).seats[i].length := by rw [HRL.out _ hob]; exact hlt
              obtain ⟨m0, m1, z1, hgsl, hgil⟩ := HDI.out.seat_c hisb hxi HXV.out hklb
              obtain ⟨_, _, f6, _⟩ := cells11 HDI.out.bx
              have hne : gi ≠ mb := fun e => apart_bx HBM.out (HDI.out.row i hisb hxi) (by decide) (by rw [HXV.out, ← e]; rfl)
              go_upto_region 21 with (fail)
              have hset := HDI.out.setSeat (j := k) hisb hxi (by rw [HRL.out _ hob]; exact HXV.out) 0
              obtain ⟨ccs, hcc⟩ := owns_block (by have := HDI.out.row i hisb hxi; rw [HXV.out] at this; exact this)
              have hown5 := moves_set HOI.out (k := gi) (o := k) (u := .int .i64 0) hcc (by decide)
              have hbm5 := HBM.out.setOther (b := gi) (o := k) (v := .int .i64 0) (Ne.symm hne)
              have hX5 := HXI.out.setCell ⟨gi, k, none⟩ (.int .i64 0) hset.2
              have HD5 := Lib.hid hset.1
              have H5 := Lib.hid (And.intro hown5 (And.intro hbm5 hX5))
              clear hset hown5 hbm5 hX5 m0 m1 z1 f6 hcc hne n0 n1 n2
              generalize wr.setCell ⟨gi, k, none⟩ (.int .i64 0) = W5 at *
              have n0 := H5.out.2.1.cell 0
              have n1 := H5.out.2.1.cell 1
              have n2 := H5.out.2.1.cell 2
              simp only [List.getElem?_cons_zero, List.getElem?_cons_succ] at n0 n1 n2
              have hu := SLe.one (S := avoid (fun _ => False) (.slice pu P.2.length cu)) (w := W5) (cs := [.int .i64 ((⟨k, s0, j⟩ : BT.Move)).seat, .int .i64 ((⟨k, s0, j⟩ : BT.Move)).shw, .int .i64 ((⟨k, s0, j⟩ : BT.Move)).at_]) (x := (⟨k, s0, j⟩ : BT.Move)) 53 rfl
              have hown6 := H5.out.1.alloc (.cells #[.int .i64 ((⟨k, s0, j⟩ : BT.Move)).seat, .int .i64 ((⟨k, s0, j⟩ : BT.Move)).shw, .int .i64 ((⟨k, s0, j⟩ : BT.Move)).at_] 53)
              have hlm : P.2.length ≤ k := HLK.out
              have hz6 : w9.heap.size ≤ (W5.alloc (.cells #[.int .i64 ((⟨k, s0, j⟩ : BT.Move)).seat, .int .i64 ((⟨k, s0, j⟩ : BT.Move)).shw, .int .i64 ((⟨k, s0, j⟩ : BT.Move)).at_] 53)).heap.size := by have := H5.out.2.2.size; simp; omega
              go_wp2_with (at_builtin; refine wpl_append (α := BT.Move) (S := fun _ => False) (base := w9.heap.size) (v := .slice pu P.2.length cu) (l := P.2) (m := [(⟨k, s0, j⟩ : BT.Move)]) eiMoves rfl _ _ rfl rfl rfl hown6 hu (P.2.length + 1) (by simp) (P.2 ++ [(⟨k, s0, j⟩ : BT.Move)]) rfl ?_ ?_ hz6 ?_)
              · simp only [maxLen]; omega
              · omega
              intro p' c' w7 hown7 hg7
              have hD7 := (HD5.out.step (Step.alloc _ _)).grown hown6 HBASE.out hg7
              have hX7 := (H5.out.2.2.alloc' (.cells #[.int .i64 ((⟨k, s0, j⟩ : BT.Move)).seat, .int .i64 ((⟨k, s0, j⟩ : BT.Move)).shw, .int .i64 ((⟨k, s0, j⟩ : BT.Move)).at_] 53)).trans (StepX.grown (X := fun j => base ≤ j) hg7 fun j hj _ => by have := (HOWN.out.lt j hj).1; have := HBASE.out; omega)
              have H7 := Lib.hid (And.intro hD7 (And.intro hown7 hX7))
              clear hown6 hu hlm hz6 hown7 hg7 hD7 hX7 n0 n1 n2
              go_wp2
              go_roundw
              case rel => exact ⟨k + 1, by omega, by go_num, by unfold LoseRel; rw [HNEXT.out]; exact H7.out⟩
              case measure => simp [intOf]; omega
          | none =>
            obtain ⟨hown, hX, hbm, hDi, hpl⟩ := hR
            have HOI := Lib.hid hown
            have HXI := Lib.hid hX
            have HBM := Lib.hid hbm
            have HDI := Lib.hid hDi
            have HPL := Lib.hid hpl
            clear hown hX hbm hDi hpl
            have n0 := HBM.out.cell 0
            have n1 := HBM.out.cell 1
            have n2 := HBM.out.cell 2
            simp only [List.getElem?_cons_zero, List.getElem?_cons_succ] at n0 n1 n2
            obtain ⟨pp0, kk0, rfl⟩ := (rep5 HDI.out.house).1.form
            obtain ⟨pp1, kk1, rfl⟩ := (rep5 HDI.out.house).2.1.form
            obtain ⟨pp2, kk2, rfl⟩ := (rep5 HDI.out.house).2.2.1.form
            obtain ⟨pp3, kk3, rfl⟩ := (rep5 HDI.out.house).2.2.2.1.form
            obtain ⟨pp4, kk4, rfl⟩ := (rep5 HDI.out.house).2.2.2.2.form
            obtain ⟨⟨e0, e1, e2, e3, e4⟩, _, f6, _, _, _, f10⟩ := cells11 HDI.out.bx
            have hkc : (k : Int) < sizeL h.sectors := by have := HZ.out; omega
            by_cases hsd : sN < h.dates.length
            · have hd1 : decide (sN < h.dates.length) = true := by simpa using hsd
              have hcl := Lib.hid (class_any (fun q => base ≤ q) h (.agg #[.slice pp0 h.sectors.length kk0, .slice pp1 h.prices.length kk1, .slice pp2 h.dates.length kk2, .slice pp3 h.frm.length kk3, .slice pp4 h.holds.length kk4]) k wr ⟨_, rfl, HDI.out.house⟩ (okSec_valid HO.out.1) (by omega))
              go_wp2_with fail
              refine hcl.out.mono ?_
              rintro e w1 ⟨rfl, hS1⟩
              have HT1 := Lib.hid hS1
              clear hcl hS1 e0 e1 e2 e3 e4 f6 f10 n0 n1 n2
              have hop := Lib.hid (open2_any (HDI.out.step HT1.out) HOK.out sN hsd (classL h.sectors k) d)
              go_wp2_with fail
              refine hop.out.mono ?_
              rintro e w2 ⟨lv, rfl, hlv, hS2⟩
              have HT2 := Lib.hid (HT1.out.trans hS2)
              clear hop hS2
              cases hol : openL h P.1 sN (classL h.sectors k) d with
              | nil =>
                rw [hol] at hlv
                obtain ⟨pl, kl, rfl⟩ := hlv.form
                have HNX := Lib.hid (show placeL h P.1 (classL h.sectors k) d sN (h.dates.length - sN) = placeL h P.1 (classL h.sectors k) d (sN + 1) (h.dates.length - (sN + 1)) by
                  rw [show h.dates.length - sN = (h.dates.length - (sN + 1)) + 1 by omega]; exact placeL_skip hol)
                clear hlv hol
                go_wp2
                go_roundw
                case rel => exact ⟨sN + 1, none, by omega, by omega, by go_num, HOI.out.step HT2.out, HXI.out.trans (.of HT2.out), HBM.out.step HT2.out, HDI.out.step HT2.out, HPL.out.trans HNX.out⟩
                case measure => simp [intOf]; omega
              | cons j rest =>
                obtain ⟨hj0, hj1, hj2⟩ := freeL_mem (k := j) (by rw [hol]; exact List.mem_cons_self)
                have hj1 : j < (z : Int) := by have := HZ.out; omega
                obtain ⟨jn, rfl⟩ : ∃ n : Nat, j = n := ⟨j.toNat, by omega⟩
                have hjn : jn < z := by omega
                have HNX := Lib.hid (show placeL h P.1 (classL h.sectors k) d sN (h.dates.length - sN) = some (sN, (jn : Int)) by
                  rw [show h.dates.length - sN = (h.dates.length - (sN + 1)) + 1 by omega]; exact placeL_hit hol)
                rw [hol] at hlv
                obtain ⟨pl, cl, lb, lo, rfl, _, _, hpl, hlc, hlb⟩ := hlv.ints
                obtain rfl := hpl (by simp)
                have l0 := hlc 0 (by simp)
                have hlb := (hlb (by simp)).2
                simp only [List.getElem_cons_zero, Nat.add_zero] at l0
                obtain ⟨nl, hnl⟩ : ∃ nl, nl = ((jn : Int) :: rest).length := ⟨_, rfl⟩
                rw [← hnl]
                have hnl0 : 0 < nl := by rw [hnl]; simp
                have hnl1 : (0 : Int) < (nl : Int) := by omega
                have hnl2 : (0 : Int) ≤ 0 ∧ (0 : Int) < (nl : Int) := by omega
                have hbm2 := HBM.out.step HT2.out
                have hmlb : mb ≠ lb := fun e => hlb (by unfold Old; have := (HBM.out.step HT1.out).lt; omega)
                have n0 := hbm2.cell 0
                have n1 := hbm2.cell 1
                have n2 := hbm2.cell 2
                have zm := hbm2.frozen
                have hlbm : lb ≠ mb := Ne.symm hmlb
                simp only [List.getElem?_cons_zero, List.getElem?_cons_succ] at n0 n1 n2
                have HBM2 := Lib.hid hbm2
                have HL0 := Lib.hid (And.intro l0 hlbm)
                clear hlv hol hpl hlc hlb hnl hbm2 hj0 hj1 hj2
                go_upto_region 16 with (fail)
                go_region
                have b5 := ((HBM2.out.setCell 1 (.int .i64 sN)).setCell 2 (.int .i64 jn)).step (.drew _)
                have hw5 : Wrote mb w2 ((w2.setCell ⟨mb, 1, none⟩ (.int .i64 sN)).setCell ⟨mb, 2, none⟩ (.int .i64 jn)) := by
                  have a1 := Wrote.setCell w2 mb 1 (.int .i64 sN)
                  have a2 := Wrote.setCell (w2.setCell ⟨mb, 1, none⟩ (.int .i64 sN)) mb 2 (.int .i64 jn)
                  exact ⟨a2.os.trans a1.os, a2.tape.trans a1.tape, a2.output.trans a1.output, a2.size.trans a1.size, fun q hq => (a2.block q hq).trans (a1.block q hq)⟩
                have hD2 := HDI.out.step HT2.out
                have hD5 := (hD2.besides hw5 HBM2.out (by have := HBASE.out; have := HMO.out.2; omega)).step (.drew _)
                have ho5 := ((HOI.out.step HT2.out).keptF fun q hq => hw5.block q fun e => HMO.out.1 (e ▸ hq)).step (.drew _)
                have hx5 : StepX (fun q => base ≤ q) w9 (((w2.setCell ⟨mb, 1, none⟩ (.int .i64 sN)).setCell ⟨mb, 2, none⟩ (.int .i64 jn)).drew) := (((HXI.out.trans (.of HT2.out)).setCell ⟨mb, 1, none⟩ _ (by show base ≤ mb; have := HBASE.out; have := HMO.out.2; omega)).setCell ⟨mb, 2, none⟩ _ (by show base ≤ mb; have := HBASE.out; have := HMO.out.2; omega)).drew'
                have l5 : (((w2.setCell ⟨mb, 1, none⟩ (.int .i64 sN)).setCell ⟨mb, 2, none⟩ (.int .i64 jn)).drew).cell? ⟨lb, lo, none⟩ = some (.int .i64 jn) := (hw5.keeps.cell (S := fun q => q = mb) (a := ⟨lb, lo, none⟩) HL0.out.2 HL0.out.1)
                have H5 := Lib.hid (And.intro b5 (And.intro hD5 (And.intro ho5 (And.intro hx5 l5))))
                clear b5 hw5 hD2 hD5 ho5 hx5 l5 n0 n1 n2 zm l0 hmlb hlbm
                generalize ((w2.setCell ⟨mb, 1, none⟩ (.int .i64 sN)).setCell ⟨mb, 2, none⟩ (.int .i64 jn)).drew = w5 at *
                obtain ⟨hxs, gis, cis, hxvs⟩ := HFO.out sN hsd
                have HXVS := Lib.hid hxvs
                have hob : OkDesk h P.1 := HOK.out
                have hisb : sN < P.1.seats.length := by have := hob.2.2.1; omega
                have hklb : jn < P.1.seats[sN].length := by rw [HRL.out _ hob]; exact hjn
                obtain ⟨m0, m1, z1, _, hgil⟩ := H5.out.2.1.seat_c hisb hxs hxvs hklb
                obtain ⟨_, _, f6, _⟩ := cells11 H5.out.2.1.bx
                have HM := Lib.hid (And.intro m0 (And.intro z1 (And.intro f6 (And.intro H5.out.2.2.2.2 hgil))))
                have hx7 : (0 : Int) ≤ (sN : Int) ∧ (sN : Int) < (h.dates.length : Int) := by omega
                have hx8 : (0 : Int) ≤ (jn : Int) ∧ (jn : Int) < (z : Int) := by omega
                clear m0 m1 z1 f6 hgil hxvs hob
                go_upto_region 17 with (fail)
                refine wp_region_seq (kdOf [] []) [0, 1, 3, 7, 15, 0, 63, 127, 0, 256, 768, 0, 4095, 8191] [0, 1, 2, 3, 4, 5, 6, 7, 8, 9, 10, 11, 12] [13] (by kernel_rfl) (by kernel_rfl) (fun i T z hi hk => by simp [kdOf] at hk <;> (try (split at hk <;> cases hk))) ?_
                intro Wx hWx
                have HT := Lib.hid hWx
                clear hWx
                have m0 := HT.out.keeps.cell id HM.out.1
                have f6 := HT.out.keeps.cell id HM.out.2.2.1
                have l5 := HT.out.keeps.cell id HM.out.2.2.2.1
                repeat (first | (refine run_off rfl rfl (by rfl) ?_; (try simp only [Act.put, List.setIfInBounds_toArray, List.set_cons_zero, List.set_cons_succ])) | (refine run_chain_off rfl rfl (by rfl) (K0_mono _) ?_; (try simp only [Act.put, List.setIfInBounds_toArray, List.set_cons_zero, List.set_cons_succ])) | ((refine run_want rfl rfl (by rfl) ⟨?_, fun W hW => ?_, ?_⟩; rotate_left; (· (have d0 := hW.keeps.cell id m0; have d1 := hW.keeps.cell id f6; have d2 := hW.keeps.cell id l5; go_simp; (try with_reducible rfl)))); (try simp only [Act.put, List.setIfInBounds_toArray, List.set_cons_zero, List.set_cons_succ])))
                refine run_end (L := [_]) rfl (fun W6 hW6 => ?_)
                have HT6 := Lib.hid (HT.out.trans hW6)
                clear hW6 HT
                have HT := HT6
                clear HT6
                have hD6 := H5.out.2.1.step HT.out
                have z1 := (HT.out.cells.2 gis jn HM.out.2.2.2.2).trans HM.out.2.1
                obtain ⟨_, m1, _, _, _⟩ := hD6.seat_c hisb hxs HXVS.out hklb
                clear m0 f6 l5
                have hset := hD6.setSeat (j := jn) hisb hxs (by rw [HRL.out _ HOK.out]; exact HXVS.out) y
                obtain ⟨ccs, hcc⟩ := owns_block (by have := hD6.row sN hisb hxs; rw [HXVS.out] at this; exact this)
                have hown6 := moves_set (H5.out.2.2.1.step HT.out) (k := gis) (o := jn) (u := .int .i64 y) hcc (by decide)
                have hbm6 := H5.out.1.step HT.out
                have hne : gis ≠ mb := fun e => apart_bx hbm6 (hD6.row sN hisb hxs) (by decide) (by rw [HXVS.out, ← e]; rfl)
                have hbm7 := hbm6.setOther (b := gis) (o := jn) (v := .int .i64 y) (Ne.symm hne)
                have hX7 := (H5.out.2.2.2.1.trans (.of HT.out)).setCell ⟨gis, jn, none⟩ (.int .i64 y) hset.2
                have H7 := Lib.hid (And.intro hset.1 (And.intro hown6 (And.intro hbm7 hX7)))
                clear hD6 hset hcc hown6 hbm6 hne hbm7 hX7
                go_wp2
                go_roundw
                case rel => exact ⟨sN + 1, some (sN, (jn : Int)), by omega, by omega, by go_num, H7.out.2.1, H7.out.2.2.2, H7.out.2.2.1, by simpa using H7.out.1, HPL.out.trans HNX.out⟩
                case measure => simp [intOf]; omega
            · have hd1 : decide (sN < h.dates.length) = false := by simpa using hsd
              have hpn : placeL h P.1 (classL h.sectors k) d (i + 1) (h.dates.length - (i + 1)) = none := by
                rw [HPL.out, show h.dates.length - sN = 0 by omega]; rfl
              have HNEXT := Lib.hid (show loseTo h (offBook b i) i d (k + 1) = (putSeat { P.1 with cash := P.1.cash - priceL h k } i k 0, P.2 ++ [⟨k, -1, -1⟩]) by
                rw [loseTo_yes (by rw [← HP.out, ← HYY.out]; exact hy), ← HP.out, ← HYY.out]
                unfold loseOne
                rw [hpn])
              clear hpn
              obtain ⟨kc, hkcl, hkl, hpr, hp0, hp1⟩ := class_valid HO.out.1 (n := k) (by omega) hkc
              have HPR := Lib.hid hpr
              have HPC := Lib.hid (fun W (hW : Step wr W) => price_any (fun q => base ≤ q) h (.agg #[.slice pp0 h.sectors.length kk0, .slice pp1 h.prices.length kk1, .slice pp2 h.dates.length kk2, .slice pp3 h.frm.length kk3, .slice pp4 h.holds.length kk4]) k W ⟨_, rfl, (HDI.out.step hW).house⟩ (okSec_valid HO.out.1) (by omega) kc hkcl hkl)
              clear hkcl hpr
              go_upto_region 19 with (fail)
              clear e0 e1 e2 e3 e4 f6 f10 n0 n1 n2
              refine wp_region_seq (kdOf [10] []) [0, 1, 3, 7, 15, 0, 32, 96, 224, 0, 992, 2047, 4095, 8191, 16383, 32767] [0, 1, 2, 3, 4, 5, 6, 7, 8, 9, 10, 11, 12, 13, 14] [15] (by kernel_rfl) (by kernel_rfl) (fun i T z hi hk => by simp [kdOf] at hk <;> (try (split at hk <;> cases hk))) ?_
              intro Wx hWx
              have HT := Lib.hid hWx
              clear hWx
              obtain ⟨⟨e0, e1, e2, e3, e4⟩, _, _, _, _, _, f10⟩ := cells11 (HDI.out.step HT.out).bx
              repeat (first | (refine run_off rfl rfl (by rfl) ?_; (try simp only [Act.put, List.setIfInBounds_toArray, List.set_cons_zero, List.set_cons_succ])) | (refine run_chain_off rfl rfl (by rfl) (K0_mono _) ?_; (try simp only [Act.put, List.setIfInBounds_toArray, List.set_cons_zero, List.set_cons_succ])) | ((refine run_want rfl rfl (by rfl) ⟨?_, fun W hW => ?_, ?_⟩; rotate_left; (· (have d0 := hW.keeps.cell id e0; have d1 := hW.keeps.cell id e1; have d2 := hW.keeps.cell id e2; have d3 := hW.keeps.cell id e3; have d4 := hW.keeps.cell id e4; have d5 := hW.keeps.cell id f10; go_simp; (try with_reducible rfl)))); (try simp only [Act.put, List.setIfInBounds_toArray, List.set_cons_zero, List.set_cons_succ])))
              refine run_chain rfl rfl (by rfl) (fun Wi hWi K' hK => ?_)
              have HTi := Lib.hid (HT.out.trans hWi)
              have HZW := Lib.hid HTi.out.size
              clear hWi HT
              go_simp
              refine (HPC.out Wi HTi.out).mono ?_
              rintro e wn ⟨rfl, hSn⟩
              have HT := Lib.hid (HTi.out.trans (StepX.of hSn))
              clear HTi
              refine hK _ _ (StepX.of hSn) ?_
              clear hSn
              (try simp only [Act.put, List.setIfInBounds_toArray, List.set_cons_zero, List.set_cons_succ])
              clear HPC e0 e1 e2 e3 e4 f10
              repeat (first | (refine run_off rfl rfl (by rfl) ?_; (try simp only [Act.put, List.setIfInBounds_toArray, List.set_cons_zero, List.set_cons_succ])) | (refine run_chain_off rfl rfl (by rfl) (K0_mono _) ?_; (try simp only [Act.put, List.setIfInBounds_toArray, List.set_cons_zero, List.set_cons_succ])) | ((refine run_want rfl rfl (by rfl) ⟨?_, fun W hW => ?_, ?_⟩; rotate_left; (· (skip; go_simp; (try with_reducible rfl)))); (try simp only [Act.put, List.setIfInBounds_toArray, List.set_cons_zero, List.set_cons_succ])))
              refine run_end (L := [_]) rfl (fun W6 hW6 => ?_)
              have HT6 := Lib.hid (HT.out.trans hW6)
              clear hW6 HT
              have HT := HT6
              clear HT6
              have hD6 := HDI.out.step HT.out
              obtain ⟨_, _, _, _, _, _, f10⟩ := cells11 hD6.bx
              have z0 := hD6.bx.frozen 10
              have hb6 := hD6.bx.setCell 10 (.int .i64 (P.1.cash - h.prices[kc]))
              have hD7 := hD6.setBook (Wrote.setCell _ g 10 _) { P.1 with cash := P.1.cash - priceL h k } rfl rfl rfl (by simpa [HPR.out] using hb6)
              have hgm : mb ≠ g := fun e => by have h1 := hD6.bx; have h2 := HBM.out.step HT.out; subst e; unfold Bx at h1 h2; rw [h1] at h2; simp at h2
              have ho7 := moves_set (HOI.out.step HT.out) (k := g) (o := 10) (u := .int .i64 (P.1.cash - h.prices[kc])) hD6.bx (by decide)
              have hm7 := (HBM.out.step HT.out).setOther (b := g) (o := 10) (v := .int .i64 (P.1.cash - h.prices[kc])) hgm
              have hx7 := (HXI.out.trans (.of HT.out)).setCell ⟨g, 10, none⟩ (.int .i64 (P.1.cash - h.prices[kc])) hD6.gb
              have hob7 : OkDesk h { P.1 with cash := P.1.cash - priceL h k } := by
                have hb := HOK.out
                obtain ⟨o1, o2, o3, o4, o5, o6, o7, o8, o9⟩ := hb
                have := HPR.out
                exact ⟨o1, o2, o3, o4, o5, o6, by simp only []; omega, by simp only []; omega, o9⟩
              have H7 := Lib.hid (And.intro hD7 (And.intro ho7 (And.intro hm7 (And.intro hx7 hob7))))
              clear hD6 hb6 hD7 hgm ho7 hm7 hx7 hob7
              go_upto_region 20 with (fail)
              clear f10 z0
              generalize W6.setCell ⟨g, 10, none⟩ (.int .i64 (P.1.cash - h.prices[kc])) = wr at *
              have HDI := Lib.hid H7.out.1
              have HOI := Lib.hid H7.out.2.1
              have HBM := Lib.hid H7.out.2.2.1
              have HXI := Lib.hid H7.out.2.2.2.1
              have HOB := Lib.hid H7.out.2.2.2.2
              have n0 := HBM.out.cell 0
              have n1 := HBM.out.cell 1
              have n2 := HBM.out.cell 2
              simp only [List.getElem?_cons_zero, List.getElem?_cons_succ] at n0 n1 n2
              clear H7
              have hob : OkDesk h ({ P.1 with cash := P.1.cash - priceL h k }) := HOB.out
              have hisb : i < ({ P.1 with cash := P.1.cash - priceL h k }).seats.length := by have := hob.2.2.1; omega
              have hklb : k < ({ P.1 with cash := P.1.cash - priceL h k }).seats[i].length := by rw [HRL.out _ hob]; exact hlt
              obtain ⟨m0, m1, z1, hgsl, hgil⟩ := HDI.out.seat_c hisb hxi HXV.out hklb
              obtain ⟨_, _, f6, _⟩ := cells11 HDI.out.bx
              have hne : gi ≠ mb := fun e => apart_bx HBM.out (HDI.out.row i hisb hxi) (by decide) (by rw [HXV.out, ← e]; rfl)
              go_upto_region 21 with (fail)
              have hset := HDI.out.setSeat (j := k) hisb hxi (by rw [HRL.out _ hob]; exact HXV.out) 0
              obtain ⟨ccs, hcc⟩ := owns_block (by have := HDI.out.row i hisb hxi; rw [HXV.out] at this; exact this)
              have hown5 := moves_set HOI.out (k := gi) (o := k) (u := .int .i64 0) hcc (by decide)
              have hbm5 := HBM.out.setOther (b := gi) (o := k) (v := .int .i64 0) (Ne.symm hne)
              have hX5 := HXI.out.setCell ⟨gi, k, none⟩ (.int .i64 0) hset.2
              have HD5 := Lib.hid hset.1
              have H5 := Lib.hid (And.intro hown5 (And.intro hbm5 hX5))
              clear hset hown5 hbm5 hX5 m0 m1 z1 f6 hcc hne n0 n1 n2
              generalize wr.setCell ⟨gi, k, none⟩ (.int .i64 0) = W5 at *
              have n0 := H5.out.2.1.cell 0
              have n1 := H5.out.2.1.cell 1
              have n2 := H5.out.2.1.cell 2
              simp only [List.getElem?_cons_zero, List.getElem?_cons_succ] at n0 n1 n2
              have hu := SLe.one (S := avoid (fun _ => False) (.slice pu P.2.length cu)) (w := W5) (cs := [.int .i64 ((⟨k, -1, -1⟩ : BT.Move)).seat, .int .i64 ((⟨k, -1, -1⟩ : BT.Move)).shw, .int .i64 ((⟨k, -1, -1⟩ : BT.Move)).at_]) (x := (⟨k, -1, -1⟩ : BT.Move)) 53 rfl
              have hown6 := H5.out.1.alloc (.cells #[.int .i64 ((⟨k, -1, -1⟩ : BT.Move)).seat, .int .i64 ((⟨k, -1, -1⟩ : BT.Move)).shw, .int .i64 ((⟨k, -1, -1⟩ : BT.Move)).at_] 53)
              have hlm : P.2.length ≤ k := HLK.out
              have hz6 : w9.heap.size ≤ (W5.alloc (.cells #[.int .i64 ((⟨k, -1, -1⟩ : BT.Move)).seat, .int .i64 ((⟨k, -1, -1⟩ : BT.Move)).shw, .int .i64 ((⟨k, -1, -1⟩ : BT.Move)).at_] 53)).heap.size := by have := H5.out.2.2.size; simp; omega
              go_wp2_with (at_builtin; refine wpl_append (α := BT.Move) (S := fun _ => False) (base := w9.heap.size) (v := .slice pu P.2.length cu) (l := P.2) (m := [(⟨k, -1, -1⟩ : BT.Move)]) eiMoves rfl _ _ rfl rfl rfl hown6 hu (P.2.length + 1) (by simp) (P.2 ++ [(⟨k, -1, -1⟩ : BT.Move)]) rfl ?_ ?_ hz6 ?_)
              · simp only [maxLen]; omega
              · omega
              intro p' c' w7 hown7 hg7
              have hD7 := (HD5.out.step (Step.alloc _ _)).grown hown6 HBASE.out hg7
              have hX7 := (H5.out.2.2.alloc' (.cells #[.int .i64 ((⟨k, -1, -1⟩ : BT.Move)).seat, .int .i64 ((⟨k, -1, -1⟩ : BT.Move)).shw, .int .i64 ((⟨k, -1, -1⟩ : BT.Move)).at_] 53)).trans (StepX.grown (X := fun j => base ≤ j) hg7 fun j hj _ => by have := (HOWN.out.lt j hj).1; have := HBASE.out; omega)
              have H7 := Lib.hid (And.intro hD7 (And.intro hown7 hX7))
              clear hown6 hu hlm hz6 hown7 hg7 hD7 hX7 n0 n1 n2
              go_wp2
              go_roundw
              case rel => exact ⟨k + 1, by omega, by go_num, by unfold LoseRel; rw [HNEXT.out]; exact H7.out⟩
              case measure => simp [intOf]; omega
    · have hkz : k = z := by omega
      have HKZ := Lib.hid hkz
      clear hkz
      go_wp2
      go_ret
      have hlen : (b.seats.getD i []).length = z := by
        have hbs : i < b.seats.length := by have := HO.out.2.2.1; omega
        rw [List.getD_eq_getElem?_getD, List.getElem?_eq_getElem hbs]
        exact HRL.out _ HO.out i hbs
      have hres : loseD h b i d = .ok P := by
        unfold loseD
        rw [if_pos HF.out, Int.toNat_natCast, hlen, ← HKZ.out, HP.out]
      rw [hres]
      exact ⟨_, rfl, ⟨_, _, _, _, _, _, _, _, _, HDK.out⟩, OwnL.sl (HOWN.out.flat _) (fun q hq _ hl => by have := HX9.out.size; omega), HX9.out.trans HX.out⟩
end
end Go.Proofs.Ytbgfmikbhiblgaa
