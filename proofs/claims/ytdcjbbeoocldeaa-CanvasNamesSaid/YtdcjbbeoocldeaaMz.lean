/- A region whose first write may come ahead of what is silent; no program is named here. -/
import Derived.Test.YtdcjbbeoocldeaaMa
/- A region that draws its order, walked in one order, where what is silent may wait till the first operation of the tail, an append, has been carried out: it yields the same in every world in which but the blocks of Y are others. -/
namespace Go.BT.Late
open Go.RowKit Go.BT

section
variable (P : Program) (ops : Array Oper) (Y : Nat → Prop) (base : Nat) (kd : Nat → Kd)
def go (i : Nat) (K : Cont) : Cont := fun N a w =>
  match kd i with
  | .silent => ∃ o v, ops[i]? = some o ∧ YieldsIf P ops (StepX Y w) o v a ∧ K N (a.put o.dst v) w
  | .chain => ∀ W, Step w W → wpOp P ops QF i (fun a' w' => Step W w' ∧ K (fun g => N g ∧ (g < W.heap.size ∨ w'.heap.size ≤ g)) a' w') a W
  | .alloc T z => ∀ W g, Step w W → W.heap[g]? = some (.cells (madeC z) T (0, 0)) → base ≤ g → N g → K (fun x => N x ∧ x ≠ g) (a.put ((ops[i]?).bind (·.dst)) (madeV z g)) W
def run (l : List Nat) (K : Cont) : Cont := l.foldr (fun i K => go P ops Y base kd i K) K
variable {P ops Y base kd}
theorem go_cong {i : Nat} {K K' : Cont} (h : ∀ N a w, K N a w → K' N a w) {N : Nat → Prop} {a : Act} {w : World} (hg : go P ops Y base kd i K N a w) : go P ops Y base kd i K' N a w := by
  unfold go at *
  split at hg
  · obtain ⟨o, v, ho, hy, hk⟩ := hg; exact ⟨o, v, ho, hy, h _ _ _ hk⟩
  · exact fun W hW => wpOp_mono (fun a' w' ⟨hs, hk⟩ => ⟨hs, h _ _ _ hk⟩) (hg W hW)
  · exact fun W g h1 h2 h3 h4 => h _ _ _ (hg W g h1 h2 h3 h4)

theorem go_mono {i : Nat} {K : Cont} (hK : ContMono (fun _ => False) K) : ContMono (fun _ => False) (go P ops Y base kd i K) := by
  intro N N' a w w' hN hs hg
  unfold go at *
  split at hg
  · obtain ⟨o, v, ho, hy, hk⟩ := hg; exact ⟨o, v, ho, YieldsIf.step hy (StepX.of hs), hK _ _ _ _ _ hN hs hk⟩
  · exact fun W hW => wpOp_mono (fun a' w' ⟨hs', hk⟩ => ⟨hs', hK _ _ _ _ _ (fun g ⟨h1, h2⟩ => ⟨hN g h1, h2⟩) (StepX.refl _ _) hk⟩) (hg W (hs.trans hW))
  · exact fun W g h1 h2 h3 h4 => hK _ _ _ _ _ (fun x ⟨h5, h6⟩ => ⟨hN x h5, h6⟩) (StepX.refl _ _) (hg W g (hs.trans h1) h2 h3 (hN g h4))

theorem run_mono {K : Cont} (hK : ContMono (fun _ => False) K) : ∀ l, ContMono (fun _ => False) (run P ops Y base kd l K)
  | [] => hK
  | _ :: l => go_mono (run_mono hK l)

theorem exch {i j : Nat} {oi oj : Oper} (hi : ops[i]? = some oi) (hj : ops[j]? = some oj) (hap : oi.apart ops oj = true)
    (hsi : ∀ cs b, oi.op ≠ .select cs b) (hsj : ∀ cs b, oj.op ≠ .select cs b) (hsw : swaps (kd i) (kd j) = true) {K : Cont} (hK : ContMono (fun _ => False) K) {N : Nat → Prop} {a : Act} {w : World}
    (h : go P ops Y base kd i (go P ops Y base kd j K) N a w) : go P ops Y base kd j (go P ops Y base kd i K) N a w := by
  obtain ⟨h1, h2, h3⟩ := Oper.apart_spec hap
  have keepI : ∀ {S : World → Prop} {v : Value} {a : Act} (u : Value), YieldsIf P ops S oi v a → YieldsIf P ops S oi v (a.put oj.dst u) := fun {S v a} u hy =>
    hy.of_same (execOp_put oi hsi a oj.dst u h3) (wanted_put oi a oj.dst u h3)
  have backJ : ∀ {S : World → Prop} {v u : Value} {a : Act}, YieldsIf P ops S oj v (a.put oi.dst u) → YieldsIf P ops S oj v a := fun {S v u a} hy =>
    hy.of_same (execOp_put oj hsj a oi.dst u h1).symm (wanted_put oj a oi.dst u h1).symm
  have hdi : (ops[i]?).bind (·.dst) = oi.dst := by rw [hi]; rfl
  have hdj : (ops[j]?).bind (·.dst) = oj.dst := by rw [hj]; rfl
  have hsome : ∀ {w w' : World} {g : Nat} {o : Obj}, StepX (fun _ => False) w w' → base ≤ g → w.heap[g]? = some o → w'.heap[g]? = some o := fun {w w' g o} hs hb hg => by
    rw [hs.block g (Array.getElem?_eq_some_iff.1 hg).1 id]; exact hg
  cases hki : kd i with
  | silent =>
    cases hkj : kd j with
    | silent =>
      simp only [go, hki, hkj] at h ⊢
      obtain ⟨o, v, ho, hy, o', v', ho', hy', hk⟩ := h
      obtain rfl : oi = o := by rw [hi] at ho; exact Option.some.inj ho
      obtain rfl : oj = o' := by rw [hj] at ho'; exact Option.some.inj ho'
      exact ⟨_, v', hj, backJ hy', _, v, hi, keepI _ hy, by rw [← Act.put_comm a v v' h2]; exact hk⟩
    | chain =>
      simp only [go, hki, hkj] at h ⊢
      obtain ⟨o, v, ho, hy, hk⟩ := h
      obtain rfl : oi = o := by rw [hi] at ho; exact Option.some.inj ho
      intro W hW
      refine wpOp_mono (fun a' w' hh => ?_) (wpOp_putIf (S := StepX Y w) hj hap hsi hsj (fun _ _ _ hq => hq) hy (hk W hW))
      obtain ⟨hy', hs, hk'⟩ := hh
      exact ⟨hs, _, v, hi, YieldsIf.step hy' (StepX.of (hW.trans hs)), hk'⟩
    | alloc T z =>
      simp only [go, hki, hkj] at h ⊢
      obtain ⟨o, v, ho, hy, hk⟩ := h
      obtain rfl : oi = o := by rw [hi] at ho; exact Option.some.inj ho
      refine fun W g hs hb hg hN => ⟨_, v, hi, ?_, ?_⟩
      · rw [hdj]; exact keepI _ (YieldsIf.step hy (StepX.of hs))
      · rw [hdj, ← Act.put_comm a v _ h2, ← hdj]
        exact hk W g hs hb hg hN
  | chain =>
    cases hkj : kd j with
    | silent => simp [hki, hkj, swaps] at hsw
    | chain => simp [hki, hkj, swaps] at hsw
    | alloc T z =>
      simp only [go, hki, hkj] at h ⊢
      intro W0 g hs0 hb hg hN W hW
      refine wpOp_mono (fun a' w' hh => ?_) (wpOp_under (dst := (ops[j]?).bind (·.dst)) (v := madeV z g) hi (by rw [hdj]; exact h3) (by rw [hdj]; exact fun d hd he => h2 d he hd) hsi (h W (hs0.trans hW)))
      obtain ⟨a0, rfl, hs, hk⟩ := hh
      have hlt : g < W.heap.size := Nat.lt_of_lt_of_le (Array.getElem?_eq_some_iff.1 hb).1 hW.size
      exact ⟨hs, hK _ _ _ _ _ (fun x ⟨⟨q1, q2⟩, q3⟩ => ⟨⟨q1, q3⟩, q2⟩) (StepX.refl _ _) (hk w' g (StepX.refl _ _) (hsome (hW.trans hs) hg hb) hg ⟨hN, .inl hlt⟩)⟩
  | alloc T z =>
    cases hkj : kd j with
    | silent => simp [hki, hkj, swaps] at hsw
    | chain => simp [hki, hkj, swaps] at hsw
    | alloc T' z' =>
      simp only [go, hki, hkj] at h ⊢
      intro W' g' hs' hb' hg' hN' W g hs hb hg ⟨hN, hne⟩
      rw [hdi, hdj] at *
      rw [← Act.put_comm a _ _ h2]
      exact hK _ _ _ _ _ (fun x ⟨⟨q1, q2⟩, q3⟩ => ⟨⟨q1, q3⟩, q2⟩) (StepX.refl _ _) (h W g (hs'.trans hs) hb hg hN W g' (StepX.refl _ _) (hsome hs hg' hb') hg' ⟨hN', fun e => hne e.symm⟩)

theorem bring {K : Cont} (hK : ContMono (fun _ => False) K) (hsel : Region.noSelect ops = true) {j : Nat} {oj : Oper} (hj : ops[j]? = some oj) : ∀ (l1 l2 : List Nat) (N : Nat → Prop) (a : Act) (w : World),
    (∀ i ∈ l1, ∃ oi, ops[i]? = some oi ∧ oi.apart ops oj = true ∧ swaps (kd i) (kd j) = true) → run P ops Y base kd (l1 ++ j :: l2) K N a w → go P ops Y base kd j (run P ops Y base kd (l1 ++ l2) K) N a w := by
  intro l1
  induction l1 with
  | nil => intro l2 N a w _ h; exact h
  | cons i l1 ih =>
    intro l2 N a w hall h
    obtain ⟨oi, hi, hap, hsw⟩ := hall i (by simp)
    have h' : go P ops Y base kd i (go P ops Y base kd j (run P ops Y base kd (l1 ++ l2) K)) N a w :=
      go_cong (fun N a w hh => ih l2 N a w (fun k hk => hall k (by simp [hk])) hh) h
    exact exch hi hj hap (Region.noSelect_spec hsel i oi · · hi) (Region.noSelect_spec hsel j oj · · hj) hsw (run_mono hK _) h'

variable {tab : List Nat}
def K1 (P : Program) (ops : Array Oper) (Y : Nat → Prop) (Q : Exit → Act → World → Prop) (x : Nat) (t : List Nat) : Cont := fun _ a w => ∀ W, Step w W → wpOp P ops Q x (fun a' w' => StepX Y W w' ∧ wpOps P ops Q t a' w') a W
theorem K1_mono {Q : Exit → Act → World → Prop} (x : Nat) (t : List Nat) : ContMono (fun _ => False) (K1 P ops Y Q x t) := fun _ _ _ _ _ _ hs h W hW => h W (hs.trans hW)
def okWait (tab : List Nat) (ops : Array Oper) (kd : Nat → Kd) (y x : Nat) : Bool :=
  ancB tab y x || (isSil (kd y) && match ops[y]?, ops[x]? with
    | some oy, some ox => oy.apart ops ox
    | _, _ => false)
def okSeq (tab : List Nat) (ops : Array Oper) (kd : Nat → Kd) (l : List Nat) (x : Nat) (t : List Nat) : Bool :=
  okTab tab ops && okList tab ops kd l && (l.all fun y => okWait tab ops kd y x) && (l.all fun y => t.all fun z => ancB tab y z) && okTail tab [] (x :: t) && okDeps ops [] (l ++ x :: t) && okAlloc ops kd l && Region.noSelect ops && (List.range ops.size).all (fun i => (l ++ x :: t).contains i) && (l ++ x :: t).all (fun i => decide (i < ops.size)) && decide (l ++ x :: t).Nodup

def runS (P : Program) (ops : Array Oper) (S : World → Prop) : List Nat → (Act → Prop) → Act → Prop
  | [], K, a => K a
  | i :: l, K, a => ∃ o v, ops[i]? = some o ∧ YieldsIf P ops S o v a ∧ runS P ops S l K (a.put o.dst v)
theorem runS_mono {S : World → Prop} {K K' : Act → Prop} (h : ∀ a, K a → K' a) : ∀ {l : List Nat} {a : Act}, runS P ops S l K a → runS P ops S l K' a
  | [], _, hr => h _ hr
  | _ :: _, _, ⟨o, v, ho, hy, hr⟩ => ⟨o, v, ho, hy, runS_mono h hr⟩
theorem runS_and {S : World → Prop} {C : Prop} {K : Act → Prop} : ∀ {l : List Nat} {a : Act}, runS P ops S l (fun a => C ∧ K a) a → C ∧ runS P ops S l K a
  | [], _, hr => hr
  | _ :: _, _, ⟨o, v, ho, hy, hr⟩ => ⟨(runS_and hr).1, o, v, ho, hy, (runS_and hr).2⟩
theorem runS_of_run {Q : Exit → Act → World → Prop} {x : Nat} {t : List Nat} {w : World} : ∀ {l : List Nat} {N : Nat → Prop} {a : Act}, (∀ y ∈ l, isSil (kd y) = true) → run P ops Y base kd l (K1 P ops Y Q x t) N a w → runS P ops (StepX Y w) l (fun a => wpOp P ops Q x (fun a' w' => StepX Y w w' ∧ wpOps P ops Q t a' w') a w) a := by
  intro l
  induction l with
  | nil => intro N a _ h; exact h w (StepX.refl _ w)
  | cons i l ih =>
    intro N a hl h
    have h1 := hl i (by simp)
    have h' : go P ops Y base kd i (run P ops Y base kd l (K1 P ops Y Q x t)) N a w := h
    unfold go at h'
    cases hk : kd i <;> simp [hk, isSil] at h1
    rw [hk] at h'
    obtain ⟨o, v, ho, hy, hr⟩ := h'
    exact ⟨o, v, ho, hy, ih (fun y hy => hl y (by simp [hy])) hr⟩
theorem bringS (hsel : Region.noSelect ops = true) {S : World → Prop} {K : Act → Prop} {j : Nat} {oj : Oper} (hj : ops[j]? = some oj) : ∀ {l1 l2 : List Nat} {a : Act}, (∀ i ∈ l1, ∃ oi, ops[i]? = some oi ∧ oi.apart ops oj = true) → runS P ops S (l1 ++ j :: l2) K a →
    ∃ v, YieldsIf P ops S oj v a ∧ runS P ops S (l1 ++ l2) K (a.put oj.dst v) := by
  intro l1
  induction l1 with
  | nil =>
    intro l2 a _ h
    obtain ⟨o, v, ho, hy, hr⟩ := h
    obtain rfl : oj = o := by rw [hj] at ho; exact Option.some.inj ho
    exact ⟨v, hy, hr⟩
  | cons i l1 ih =>
    intro l2 a hall h
    obtain ⟨oi', hi', hap⟩ := hall i (by simp)
    obtain ⟨oi, vi, hi, hyi, hr⟩ := h
    obtain rfl : oi' = oi := by rw [hi] at hi'; exact (Option.some.inj hi').symm
    obtain ⟨v, hyj, hr2⟩ := ih (fun k hk => hall k (by simp [hk])) hr
    obtain ⟨h1, h2, h3⟩ := Oper.apart_spec hap
    have hsi := (Region.noSelect_spec hsel i oi' · · hi)
    have hsj := (Region.noSelect_spec hsel j oj · · hj)
    refine ⟨v, hyj.of_same (execOp_put oj hsj a oi'.dst vi h1).symm (wanted_put oj a oi'.dst vi h1).symm, oi', vi, hi, hyi.of_same (execOp_put oi' hsi a oj.dst v h3) (wanted_put oi' a oj.dst v h3), ?_⟩
    rw [← Act.put_comm a vi v h2]
    exact hr2
theorem tailS (hsel : Region.noSelect ops = true) {Q : Exit → Act → World → Prop} (hQ : ∀ c d v a w, Q (.panic c) (Act.put a d v) w → Q (.panic c) a w) {j : Nat} {oj : Oper} (hj : ops[j]? = some oj) {S : World → Prop} {K : Act → World → Prop} {w : World} : ∀ {l : List Nat} {a : Act},
    (∀ i ∈ l, ∃ oi, ops[i]? = some oi ∧ oi.apart ops oj = true) → runS P ops S l (fun a => wpOp P ops Q j K a w) a → wpOp P ops Q j (fun a' w' => runS P ops S l (fun a => K a w') a') a w := by
  intro l
  induction l with
  | nil => intro a _ h; exact h
  | cons i l ih =>
    intro a hall h
    obtain ⟨oi', hi', hap⟩ := hall i (by simp)
    obtain ⟨oi, vi, hi, hyi, hr⟩ := h
    obtain rfl : oi' = oi := by rw [hi] at hi'; exact (Option.some.inj hi').symm
    have h1 := ih (fun k hk => hall k (by simp [hk])) hr
    refine wpOp_mono (fun a' w' hh => ?_) (wpOp_putIf (S := S) hj hap (Region.noSelect_spec hsel i oi' · · hi) (Region.noSelect_spec hsel j oj · · hj) (fun c a w => hQ c _ _ a w) hyi h1)
    exact ⟨oi', vi, hi, hh.1, hh.2⟩
theorem mixed_sound {S : World → Prop} {Q : Exit → Act → World → Prop} (hsel : Region.noSelect ops = true) : ∀ (fuel : Nat) (l t : List Nat) (listed : Array Bool) (a : Act) (w : World),
    l.length + t.length ≤ fuel → listed.size = ops.size → (∀ i, i < ops.size → (listed.getD i true = false ↔ i ∈ l ++ t)) → (∀ i ∈ l ++ t, i < ops.size) → (l ++ t).Nodup → Closed ops listed →
    okTab tab ops = true → okList tab ops kd l = true → (∀ y ∈ l, ∀ x ∈ t, ancB tab y x = true) → TailOk tab [] t → DepsOk ops listed (l ++ t) → S w →
    runS P ops S l (fun a => wpOps P ops Q t a w) a → wpAny P .any ops Q fuel listed a w := by
  intro fuel
  induction fuel with
  | zero =>
    intro l t listed a w hf hsz hun hin hnd hcl htab _ _ htail hdeps _ h
    have hl : l = [] := List.eq_nil_of_length_eq_zero (by omega)
    subst hl
    exact tail_sound 0 t listed a w (by simpa using hf) hsz hun hin hnd hcl htab htail hdeps h
  | succ fuel ih =>
    intro l t listed a w hf hsz hun hin hnd hcl htab hlist hwait htail hdeps hS h
    by_cases hl : l = []
    · subst hl
      exact tail_sound _ t listed a w (by simpa using hf) hsz hun hin hnd hcl htab htail hdeps h
    refine ⟨fun hr => ?_, fun j hj => ?_⟩
    · exfalso
      cases l with
      | nil => exact hl rfl
      | cons x L =>
        obtain ⟨o, ho, hh⟩ := hdeps [] x (L ++ t) (by simp)
        have hx : x ∈ Region.ready .any ops listed := mem_ready.2 ⟨(hun x (hin x (by simp))).2 (by simp), o, ho, fun e he hb => (hh e he hb).resolve_right (by simp)⟩
        rw [hr] at hx; cases hx
    · obtain ⟨h0, oj, hoj, hdj⟩ := mem_ready.1 hj
      have hjlt := (Array.getElem?_eq_some_iff.1 hoj).1
      have hjsz : j < listed.size := by omega
      have hjm := (hun j hjlt).1 h0
      have hcl' := closed_set hjsz hoj hdj hcl
      have notanc : ∀ i ∈ l ++ t, ancB tab i j = true → False := fun i hi ha => by
        have h1 := anc_listed hsz hcl htab j i oj hoj hdj ha
        have h2 := (hun i (hin i hi)).2 hi
        rw [getD_tf (by rw [hsz]; exact hin i hi), h1] at h2
        cases h2
      rcases List.mem_append.1 hjm with hjl | hjt
      · obtain ⟨l1, l2, rfl⟩ := List.append_of_mem hjl
        obtain ⟨hlist', hpair⟩ := okList_drop hlist
        have hall : ∀ i ∈ l1, ∃ oi, ops[i]? = some oi ∧ oi.apart ops oj = true := fun i hi => by
          have hp := hpair i hi
          simp only [okPair, Bool.or_eq_true] at hp
          rcases hp with hp | hp
          · exact (notanc i (by simp [hi]) hp).elim
          · cases hoi : ops[i]? with
            | none => simp [hoi] at hp
            | some oi =>
              simp only [hoi, hoj, Bool.and_eq_true] at hp
              exact ⟨oi, rfl, hp.1⟩
        obtain ⟨v, hy, hr⟩ := bringS hsel hoj hall h
        have he : (l1 ++ j :: l2) ++ t = l1 ++ j :: (l2 ++ t) := by simp
        refine hy.wpOp hoj hS (ih (l1 ++ l2) t _ _ w (by simp at hf ⊢; omega) (by simp [hsz]) (by have := unlisted_drop (L1 := l1) (L2 := l2 ++ t) hjsz (by rw [← he]; exact hun) (by rw [← he]; exact hnd); simpa using this)
          (fun i hi => hin i (by simp only [List.mem_append, List.mem_cons] at hi ⊢; rcases hi with (hi | hi) | hi <;> simp [hi]))
          (by have := (nodup_mid (by rw [← he]; exact hnd)).2; simpa using this) hcl' htab hlist' (fun y hy x hx => hwait y (by simp only [List.mem_append, List.mem_cons] at hy ⊢; rcases hy with hy | hy <;> simp [hy]) x hx) htail
          (by have := depsOk_drop (L1 := l1) (L2 := l2 ++ t) hjsz (by rw [← he]; exact hdeps); simpa using this) hS hr)
      · obtain ⟨y, hy⟩ := List.exists_mem_of_ne_nil l hl
        exact (notanc y (by simp [hy]) (hwait y hy j hjt)).elim

theorem seq_sound {Q : Exit → Act → World → Prop} (hsel : Region.noSelect ops = true) (hQ : ∀ c d v a w, Q (.panic c) (Act.put a d v) w → Q (.panic c) a w) {x0 : Nat} {t0 t : List Nat} (ht : t = x0 :: t0) : ∀ (fuel : Nat) (l : List Nat) (listed : Array Bool) (N : Nat → Prop) (a : Act) (w : World),
    l.length + t.length ≤ fuel → listed.size = ops.size → (∀ i, i < ops.size → (listed.getD i true = false ↔ i ∈ l ++ t)) → (∀ i ∈ l ++ t, i < ops.size) → (l ++ t).Nodup → Closed ops listed →
    okTab tab ops = true → okList tab ops kd l = true → (∀ y ∈ l, okWait tab ops kd y x0 = true) → (∀ y ∈ l, ∀ z ∈ t0, ancB tab y z = true) → TailOk tab [] t → DepsOk ops listed (l ++ t) → okAlloc ops kd l = true → (∀ i T z, i ∈ l → kd i = .alloc T z → Makes P ops i T z) →
    (∀ g, w.heap.size ≤ g → N g) → base ≤ w.heap.size → run P ops Y base kd l (K1 P ops Y Q x0 t0) N a w → wpAny P .any ops Q fuel listed a w := by
  intro fuel
  induction fuel with
  | zero =>
    intro l listed N a w hf hsz hun hin hnd hcl htab _ _ _ htail hdeps _ _ _ _ h
    have hl : l = [] := List.eq_nil_of_length_eq_zero (by omega)
    subst hl
    exact tail_sound 0 t listed a w (by simpa using hf) hsz hun hin hnd hcl htab htail hdeps (by rw [ht, wpOps_cons]; exact wpOp_mono (fun _ _ h => h.2) (h w (StepX.refl _ w)))
  | succ fuel ih =>
    intro l listed N a w hf hsz hun hin hnd hcl htab hlist hwait hanc htail hdeps halloc hz hN hbase h
    by_cases hl : l = []
    · subst hl
      exact tail_sound _ t listed a w (by simpa using hf) hsz hun hin hnd hcl htab htail hdeps (by rw [ht, wpOps_cons]; exact wpOp_mono (fun _ _ h => h.2) (h w (StepX.refl _ w)))
    refine ⟨fun hr => ?_, fun j hj => ?_⟩
    · -- nothing may come up: but something is left
      exfalso
      cases l with
      | nil => exact hl rfl
      | cons x L =>
        obtain ⟨o, ho, hh⟩ := hdeps [] x (L ++ t) (by simp)
        have hx : x ∈ Region.ready .any ops listed := mem_ready.2 ⟨(hun x (hin x (by simp))).2 (by simp), o, ho, fun e he hb => (hh e he hb).resolve_right (by simp)⟩
        rw [hr] at hx; cases hx
    · obtain ⟨h0, oj, hoj, hdj⟩ := mem_ready.1 hj
      have hjlt := (Array.getElem?_eq_some_iff.1 hoj).1
      have hjsz : j < listed.size := by omega
      have hjm := (hun j hjlt).1 h0
      have hcl' := closed_set hjsz hoj hdj hcl
      have notanc : ∀ i ∈ l ++ t, ancB tab i j = true → False := fun i hi ha => by
        have h1 := anc_listed hsz hcl htab j i oj hoj hdj ha
        have h2 := (hun i (hin i hi)).2 hi
        rw [getD_tf (by rw [hsz]; exact hin i hi), h1] at h2
        cases h2
      rcases List.mem_append.1 hjm with hjl | hjt
      · -- one of the first part
        obtain ⟨l1, l2, rfl⟩ := List.append_of_mem hjl
        obtain ⟨hlist', hpair⟩ := okList_drop hlist
        have hall : ∀ i ∈ l1, ∃ oi, ops[i]? = some oi ∧ oi.apart ops oj = true ∧ swaps (kd i) (kd j) = true := fun i hi => by
          have hp := hpair i hi
          simp only [okPair, Bool.or_eq_true] at hp
          rcases hp with hp | hp
          · exact (notanc i (by simp [hi]) hp).elim
          · cases hoi : ops[i]? with
            | none => simp [hoi] at hp
            | some oi =>
              simp only [hoi, hoj, Bool.and_eq_true] at hp
              exact ⟨oi, rfl, hp.1, hp.2⟩
        have hb := bring (K1_mono x0 t0) hsel hoj l1 l2 N a w hall h
        have he : (l1 ++ j :: l2) ++ t = l1 ++ j :: (l2 ++ t) := by simp
        have next : ∀ (N' : Nat → Prop) (a' : Act) (w' : World), (∀ g, w'.heap.size ≤ g → N' g) → w.heap.size ≤ w'.heap.size → run P ops Y base kd (l1 ++ l2) (K1 P ops Y Q x0 t0) N' a' w' → wpAny P .any ops Q fuel (listed.setIfInBounds j true) a' w' :=
          fun N' a' w' hN' hsz' hr => ih (l1 ++ l2) _ N' a' w' (by simp at hf ⊢; omega) (by simp [hsz]) (by have := unlisted_drop (L1 := l1) (L2 := l2 ++ t) hjsz (by rw [← he]; exact hun) (by rw [← he]; exact hnd); simpa using this)
            (fun i hi => hin i (by simp only [List.mem_append, List.mem_cons] at hi ⊢; rcases hi with (hi | hi) | hi <;> simp [hi]))
            (by have := (nodup_mid (by rw [← he]; exact hnd)).2; simpa using this) hcl' htab hlist' (fun y hy => hwait y (by simp only [List.mem_append, List.mem_cons] at hy ⊢; rcases hy with hy | hy <;> simp [hy])) (fun y hy => hanc y (by simp only [List.mem_append, List.mem_cons] at hy ⊢; rcases hy with hy | hy <;> simp [hy])) htail
            (by have := depsOk_drop (L1 := l1) (L2 := l2 ++ t) hjsz (by rw [← he]; exact hdeps); simpa using this)
            (by simp only [okAlloc, List.all_eq_true, List.mem_append, List.mem_cons] at halloc ⊢; exact fun x hx => halloc x (hx.elim .inl (fun h => .inr (.inr h))))
            (fun i T z hi => hz i T z (by simp only [List.mem_append, List.mem_cons] at hi ⊢; rcases hi with hi | hi <;> simp [hi])) hN' (by omega) hr
        cases hk : kd j with
        | silent =>
          simp only [go, hk] at hb
          obtain ⟨o, v, ho, hy, hr⟩ := hb
          exact hy.wpOp ho (StepX.refl _ w) (next N _ w hN (Nat.le_refl _) hr)
        | chain =>
          simp only [go, hk] at hb
          exact wpOp_any (wpOp_mono (fun a' w' ⟨hs, hr⟩ => next _ a' w' (fun g hg => ⟨hN g (Nat.le_trans hs.size hg), .inr hg⟩) hs.size hr) (hb w (StepX.refl _ w)))
        | alloc T z =>
          simp only [go, hk] at hb
          have hal := halloc
          simp only [okAlloc, List.all_eq_true] at hal
          have hal := hal j (by simp)
          simp only [hk, hoj, Bool.and_eq_true] at hal
          obtain ⟨hg, hop⟩ := hal
          refine wpOp_alloc hoj hop (by simpa using hg) (hz j T z (by simp) hk) ?_
          have hd : (ops[j]?).bind (·.dst) = oj.dst := by rw [hoj]; rfl
          rw [hd] at hb
          exact next _ _ _ (fun g hgg => ⟨hN g (by simp at hgg; omega), by simp at hgg; omega⟩) (by simp) (hb (w.alloc (.cells (madeC z) T)) w.heap.size (Step.alloc _ _) (heap_alloc_new w _) hbase (hN _ (Nat.le_refl _)))
      · -- the tail's first may come, while what is left waits
        obtain ⟨y0, hy0⟩ := List.exists_mem_of_ne_nil l hl
        have hj0 : j = x0 := by
          rw [ht] at hjt
          rcases List.mem_cons.1 hjt with h1 | h1
          · exact h1
          · exact (notanc y0 (by simp [hy0]) (hanc y0 hy0 j h1)).elim
        subst hj0
        have hw1 : ∀ y ∈ l, isSil (kd y) = true ∧ ∃ oy, ops[y]? = some oy ∧ oy.apart ops oj = true := fun y hy => by
          have := hwait y hy
          simp only [okWait, Bool.or_eq_true, Bool.and_eq_true] at this
          rcases this with h1 | ⟨h2, h4⟩
          · exact (notanc y (by simp [hy]) h1).elim
          · cases hoy : ops[y]? with
            | none => simp [hoy] at h4
            | some oy => simp only [hoy, hoj] at h4; exact ⟨h2, oy, rfl, h4⟩
        have h5 := tailS hsel hQ hoj (fun i hi => (hw1 i hi).2) (runS_of_run (fun y hy => (hw1 y hy).1) h)
        have he : l ++ t = l ++ j :: t0 := by rw [ht]
        refine wpOp_mono (fun a' w' hk => ?_) h5
        obtain ⟨hS, hk⟩ := runS_and hk
        exact mixed_sound hsel fuel l t0 _ a' w' (by rw [ht] at hf; simp at hf; omega) (by simp [hsz]) (unlisted_drop (L1 := l) (L2 := t0) hjsz (by rw [← he]; exact hun) (by rw [← he]; exact hnd))
          (fun i hi => hin i (by rw [he]; simp only [List.mem_append, List.mem_cons] at hi ⊢; rcases hi with hi | hi <;> simp [hi])) (nodup_mid (by rw [← he]; exact hnd)).2 hcl' htab hlist hanc
          (fun u1 x u2 hu y hy => htail (j :: u1) x u2 (by rw [ht, hu]; simp) y (by simp at hy ⊢; exact .inr hy)) (depsOk_drop (L1 := l) (L2 := t0) hjsz (by rw [← he]; exact hdeps)) hS hk

/-- **The law.** -/
theorem wp_region_late {id : Nat} {Q : Exit → Act → World → Prop} {a : Act} {w : World} (Y : Nat → Prop) (hQ : ∀ c d v a w, Q (.panic c) (Act.put a d v) w → Q (.panic c) a w) (kd : Nat → Kd) (tab l : List Nat) (x : Nat) (t : List Nat) (hm : P.follows .mixedOrders = true) (hok : okSeq tab ops kd l x t = true)
    (hz : ∀ i T z, i ∈ l → kd i = .alloc T z → Makes P ops i T z)
    (h : ∀ W, Step w W → run P ops Y w.heap.size kd l (K1 P ops Y Q x t) (fun _ => True) a W) : (Code.region id ops true).wp P Q a w := by
  simp only [okSeq, Bool.and_eq_true, List.all_eq_true, decide_eq_true_eq, List.mem_range, List.contains_iff_mem] at hok
  obtain ⟨⟨⟨⟨⟨⟨⟨⟨⟨⟨h0, h1⟩, h9⟩, h10⟩, h2⟩, h3⟩, h4⟩, h5⟩, h6⟩, h7⟩, h8⟩ := hok
  refine wp_region_any hm ?_
  refine seq_sound (base := w.heap.size) (kd := kd) h5 hQ rfl ops.size l _ (fun _ => True) a w.drew ?_ (by simp) ?_ h7 h8 ?_ h0 h1 h9 h10 (tailOk_of h2) ?_ h4 hz (fun _ _ => trivial) (by simp) (h w.drew (Step.drew w))
  · have hsub : (l ++ x :: t).length ≤ (List.range ops.size).length := h8.length_le_of_subset (fun i hi => List.mem_range.2 (h7 i hi))
    simpa using hsub
  · intro i hi
    simp only [Array.getD_eq_getD_getElem?, Array.getElem?_replicate, hi, if_true, Option.getD_some, true_iff]
    exact h6 i hi
  · intro x' o ho hx
    have hlt := (Array.getElem?_eq_some_iff.1 ho).1
    simp [hlt] at hx
  · intro L1 x' L2 he
    obtain ⟨o, ho, hh⟩ := depsOk_of (listed := Array.replicate ops.size false) h3 L1 x' L2 he
    exact ⟨o, ho, by simpa using hh⟩

section
variable {K : Cont} {N : Nat → Prop} {a : Act} {w : World} {i : Nat} {l : List Nat} {o : Oper}
theorem run_silent {v : Value} (hk : kd i = .silent) (ho : ops.toList[i]? = some o) (hy : YieldsIf P ops (StepX Y w) o v a) (h : run P ops Y base kd l K N (a.put o.dst v) w) : run P ops Y base kd (i :: l) K N a w := by
  show go P ops Y base kd i _ N a w
  unfold go; rw [hk]; exact ⟨o, v, by simpa using ho, hy, h⟩
theorem run_want (hk : kd i = .silent) (ho : ops.toList[i]? = some o) (hw : Region.wanted o (yielded ops a.tmps) = true) (h : ∃ v, (∀ W, StepX Y w W → (execOp a.eval o).run P W = .ok (.value v) W) ∧ run P ops Y base kd l K N (a.put o.dst v) w) :
    run P ops Y base kd (i :: l) K N a w := by
  obtain ⟨v, h1, h2⟩ := h
  exact run_silent hk ho (.inl ⟨hw, h1⟩) h2
theorem run_off (hk : kd i = .silent) (ho : ops.toList[i]? = some o) (hw : Region.wanted o (yielded ops a.tmps) = false) (h : run P ops Y base kd l K N (a.put o.dst undef) w) : run P ops Y base kd (i :: l) K N a w :=
  run_silent hk ho (.inr ⟨hw, rfl⟩) h
theorem run_chain (hk : kd i = .chain) (ho : ops.toList[i]? = some o) (hw : Region.wanted o (yielded ops a.tmps) = true)
    (h : ∀ W, StepX (fun _ => False) w W → ∀ K' : Act → World → Prop, (∀ a' w', StepX (fun _ => False) W w' → run P ops Y base kd l K (fun g => N g ∧ (g < W.heap.size ∨ w'.heap.size ≤ g)) a' w' → K' a' w') → o.wp P a W K' QF) : run P ops Y base kd (i :: l) K N a w := by
  show go P ops Y base kd i _ N a w
  have ho : ops[i]? = some o := by simpa using ho
  unfold go; rw [hk]
  intro W hW
  unfold wpOp; simp only [ho, hw, if_true]
  exact .inl (h W hW _ (fun a' w' hs hr => ⟨hs, hr⟩))
theorem run_chain_off (hk : kd i = .chain) (ho : ops.toList[i]? = some o) (hw : Region.wanted o (yielded ops a.tmps) = false) (hK : ContMono (fun _ => False) K)
    (h : run P ops Y base kd l K N (a.put o.dst undef) w) : run P ops Y base kd (i :: l) K N a w := by
  show go P ops Y base kd i _ N a w
  have ho : ops[i]? = some o := by simpa using ho
  unfold go; rw [hk]
  intro W hW
  unfold wpOp; simp only [ho, hw]
  exact ⟨StepX.refl _ _, run_mono hK l _ _ _ _ _ (fun g hg => hg.1) hW h⟩
theorem run_alloc {T : TypeId} {z : Value} (hk : kd i = .alloc T z) (ho : ops.toList[i]? = some o)
    (h : ∀ W g, StepX (fun _ => False) w W → W.heap[g]? = some (.cells z.cells T (0, 0)) → base ≤ g → N g → run P ops Y base kd l K (fun x => N x ∧ x ≠ g) (a.put o.dst (.pointer (some ⟨g, 0, none⟩))) W)
    (hv : ∀ g, madeV z g = .pointer (some ⟨g, 0, none⟩) := by exact fun _ => rfl) (hc : madeC z = z.cells := by exact rfl) : run P ops Y base kd (i :: l) K N a w := by
  show go P ops Y base kd i _ N a w
  have ho : ops[i]? = some o := by simpa using ho
  unfold go; rw [hk, ho]
  intro W g h1 h2 h3 h4
  rw [hc] at h2
  rw [hv]
  exact h W g h1 h2 h3 h4
/-- A slice of constants. -/
theorem run_consts {T : TypeId} {xs : Array Value} (hk : kd i = .alloc T (.tuple xs)) (ho : ops.toList[i]? = some o)
    (h : ∀ W g, StepX (fun _ => False) w W → W.heap[g]? = some (.cells xs T (0, 0)) → base ≤ g → N g → run P ops Y base kd l K (fun x => N x ∧ x ≠ g) (a.put o.dst (.slice (some ⟨g, 0, none⟩) xs.size xs.size)) W) : run P ops Y base kd (i :: l) K N a w := by
  show go P ops Y base kd i _ N a w
  have ho : ops[i]? = some o := by simpa using ho
  unfold go; rw [hk, ho]; exact h
theorem run_end {Q : Exit → Act → World → Prop} {x : Nat} {ox : Oper} {t : List Nat} {L : List Oper} (hx : ops.toList[x]? = some ox) (hg : ox.guard = none) (ht : t.map (fun i => ops.toList[i]?) = L.map some)
    (h : ∀ W, Step w W → ∀ K' : Act → World → Prop, (∀ a' w', StepX Y W w' → wpList P ops Q L a' w' → K' a' w') → ox.wp P a W K' Q) : run P ops Y base kd [] (K1 P ops Y Q x t) N a w := by
  intro W hW
  have hx' : ops[x]? = some ox := by simpa using hx
  unfold wpOp
  simp only [hx', Region.wanted, hg, if_true]
  refine .inl (h W hW _ fun a' w' h1 h2 => ⟨h1, ?_⟩)
  clear h hW h1
  induction t generalizing L a' w' with
  | nil =>
    cases L with
    | nil => exact h2
    | cons _ _ => simp at ht
  | cons x t ih =>
    cases L with
    | nil => simp at ht
    | cons o L =>
      simp only [List.map_cons, List.cons.injEq, Array.getElem?_toList] at ht
      rw [wpOps_cons]
      unfold wpOp
      unfold wpList at h2
      simp only [ht.1]
      split
      · rename_i hw
        rw [if_pos hw] at h2
        exact h2.imp (Oper.wp_mono fun a' w' hh => ih (by simpa using ht.2) a' w' hh) id
      · rename_i hw
        rw [if_neg hw] at h2
        exact ih (by simpa using ht.2) _ _ h2
end
end
end Go.BT.Late
