/- Walks and plain laws, part U. -/
import Derived.Test.YtfhmdpicoccnfaaMB
import Derived.Test.YtfhmdpicoccnfaaMC
import Derived.Test.YtfhmdpicoccnfaaMD
import Derived.Test.YtfhmdpicoccnfaaMF
import Derived.Test.YtfhmdpicoccnfaaMT
import Derived.Test.YtfhmdpicoccnfaaRows
set_option maxHeartbeats 16000000
set_option maxRecDepth 100000
namespace Go.BT.Late
open Go.RowKit Go.BT
section
variable (P : Program) (ops : Array Oper) (Y : Nat → Prop) (base : Nat) (kd : Nat → Kd)
def go (i : Nat) (K : Cont) : Cont := fun N a w =>
 match kd i with
 | .silent => ∃ o v, ops[i]? = some o ∧ YieldsIf P ops (StepX Y w) o v a ∧ K N (a.put o.dst v) w
 | .chain => ∀ W, Step w W → wpOp P ops QF i (fun a' w' => Step W w' ∧ K (fun g => N g ∧ (g < W.heap.size ∨ w'.heap.size ≤ g)) a' w') a W
 | .alloc T z => ∀ W g, Step w W → W.heap[g]? = some (.cells (madeC z) T (0, 0)) → base ≤ g → N g → K (fun x => N x ∧ x ≠ g) (a.put ((ops[i]?).bind (·.dst)) (madeV z g)) W
def run (l : List Nat) (K : Cont) : Cont := l.foldr (fun i K => go P ops Y base kd i K) K
variable {P ops Y base kd}
theorem go_cong {i : Nat} {K K' : Cont} (h : ∀ N a w, K N a w → K' N a w) {N : Nat → Prop} {a : Act} {w : World} (hg : go P ops Y base kd i K N a w) : go P ops Y base kd i K' N a w := by
 unfold go at *
 split at hg
 ·obtain ⟨o, v, ho, hy, hk⟩ := hg; exact ⟨o, v, ho, hy, h _ _ _ hk⟩
 ·exact fun W hW => wpOp_mono (fun a' w' ⟨hs, hk⟩ => ⟨hs, h _ _ _ hk⟩) (hg W hW)
 ·exact fun W g h1 h2 h3 h4 => h _ _ _ (hg W g h1 h2 h3 h4)
theorem go_mono {i : Nat} {K : Cont} (hK : ContMono (fun _ => False) K) : ContMono (fun _ => False) (go P ops Y base kd i K) := by
 intro N N' a w w' hN hs hg
 unfold go at *
 split at hg
 ·obtain ⟨o, v, ho, hy, hk⟩ := hg; exact ⟨o, v, ho, YieldsIf.step hy (StepX.of hs), hK _ _ _ _ _ hN hs hk⟩
 ·exact fun W hW => wpOp_mono (fun a' w' ⟨hs', hk⟩ => ⟨hs', hK _ _ _ _ _ (fun g ⟨h1, h2⟩ => ⟨hN g h1, h2⟩) (StepX.refl _ _) hk⟩) (hg W (hs.trans hW))
 ·exact fun W g h1 h2 h3 h4 => hK _ _ _ _ _ (fun x ⟨h5, h6⟩ => ⟨hN x h5, h6⟩) (StepX.refl _ _) (hg W g (hs.trans h1) h2 h3 (hN g h4))
theorem run_mono {K : Cont} (hK : ContMono (fun _ => False) K) : ∀ l, ContMono (fun _ => False) (run P ops Y base kd l K)
 | [] => hK
 | _ :: l => go_mono (run_mono hK l)
theorem exch {i j : Nat} {oi oj : Oper} (hi : ops[i]? = some oi) (hj : ops[j]? = some oj) (hap : oi.apart ops oj = true)
  (hsi : ∀ cs b, oi.op ≠ .select cs b) (hsj : ∀ cs b, oj.op ≠ .select cs b) (hsw : swaps (kd i) (kd j) = true) {K : Cont} (hK : ContMono (fun _ => False) K) {N : Nat → Prop} {a : Act} {w : World}
  (h : go P ops Y base kd i (go P ops Y base kd j K) N a w) : go P ops Y base kd j (go P ops Y base kd i K) N a w := by
 obtain ⟨h1, h2, h3⟩ := Oper.apart_spec hap
 have keepI : ∀ {S : World → Prop} {v : Value} {a : Act} (u : Value), YieldsIf P ops S oi v a → YieldsIf P ops S oi v (a.put oj.dst u) := fun {S v a} u hy =>
  hy.of_same (execOp_put oi hsi a oj.dst u h3) (wanted_put oi a oj.dst u h3)
 have backJ : ∀ {S : World → Prop} {v u : Value} {a : Act}, YieldsIf P ops S oj v (a.put oi.dst u) → YieldsIf P ops S oj v a := fun {S v u a} hy =>
  hy.of_same (execOp_put oj hsj a oi.dst u h1).symm (wanted_put oj a oi.dst u h1).symm
 have hdi : (ops[i]?).bind (·.dst) = oi.dst := by rw [hi]; rfl
 have hdj : (ops[j]?).bind (·.dst) = oj.dst := by rw [hj]; rfl
 have hsome : ∀ {w w' : World} {g : Nat} {o : Obj}, StepX (fun _ => False) w w' → base ≤ g → w.heap[g]? = some o → w'.heap[g]? = some o := fun {w w' g o} hs hb hg => by
  rw [hs.block g (Array.getElem?_eq_some_iff.1 hg).1 id]; exact hg
 cases hki : kd i with
 | silent =>
  cases hkj : kd j with
  | silent =>
   simp only [go, hki, hkj] at h ⊢
   obtain ⟨o, v, ho, hy, o', v', ho', hy', hk⟩ := h
   obtain rfl : oi = o := by rw [hi] at ho; exact Option.some.inj ho
   obtain rfl : oj = o' := by rw [hj] at ho'; exact Option.some.inj ho'
   exact ⟨_, v', hj, backJ hy', _, v, hi, keepI _ hy, by rw [← Act.put_comm a v v' h2]; exact hk⟩
  | chain =>
   simp only [go, hki, hkj] at h ⊢
   obtain ⟨o, v, ho, hy, hk⟩ := h
   obtain rfl : oi = o := by rw [hi] at ho; exact Option.some.inj ho
   intro W hW
   refine wpOp_mono (fun a' w' hh => ?_) (wpOp_putIf (S := StepX Y w) hj hap hsi hsj (fun _ _ _ hq => hq) hy (hk W hW))
   obtain ⟨hy', hs, hk'⟩ := hh
   exact ⟨hs, _, v, hi, YieldsIf.step hy' (StepX.of (hW.trans hs)), hk'⟩
  | alloc T z =>
   simp only [go, hki, hkj] at h ⊢
   obtain ⟨o, v, ho, hy, hk⟩ := h
   obtain rfl : oi = o := by rw [hi] at ho; exact Option.some.inj ho
   refine fun W g hs hb hg hN => ⟨_, v, hi, ?_, ?_⟩
   ·rw [hdj]; exact keepI _ (YieldsIf.step hy (StepX.of hs))
   ·rw [hdj, ← Act.put_comm a v _ h2, ← hdj]
    exact hk W g hs hb hg hN
 | chain =>
  cases hkj : kd j with
  | silent => simp [hki, hkj, swaps] at hsw
  | chain => simp [hki, hkj, swaps] at hsw
  | alloc T z =>
   simp only [go, hki, hkj] at h ⊢
   intro W0 g hs0 hb hg hN W hW
   refine wpOp_mono (fun a' w' hh => ?_) (wpOp_under (dst := (ops[j]?).bind (·.dst)) (v := madeV z g) hi (by rw [hdj]; exact h3) (by rw [hdj]; exact fun d hd he => h2 d he hd) hsi (h W (hs0.trans hW)))
   obtain ⟨a0, rfl, hs, hk⟩ := hh
   have hlt : g < W.heap.size := Nat.lt_of_lt_of_le (Array.getElem?_eq_some_iff.1 hb).1 hW.size
   exact ⟨hs, hK _ _ _ _ _ (fun x ⟨⟨q1, q2⟩, q3⟩ => ⟨⟨q1, q3⟩, q2⟩) (StepX.refl _ _) (hk w' g (StepX.refl _ _) (hsome (hW.trans hs) hg hb) hg ⟨hN, .inl hlt⟩)⟩
 | alloc T z =>
  cases hkj : kd j with
  | silent => simp [hki, hkj, swaps] at hsw
  | chain => simp [hki, hkj, swaps] at hsw
  | alloc T' z' =>
   simp only [go, hki, hkj] at h ⊢
   intro W' g' hs' hb' hg' hN' W g hs hb hg ⟨hN, hne⟩
   rw [hdi, hdj] at *
   rw [← Act.put_comm a _ _ h2]
   exact hK _ _ _ _ _ (fun x ⟨⟨q1, q2⟩, q3⟩ => ⟨⟨q1, q3⟩, q2⟩) (StepX.refl _ _) (h W g (hs'.trans hs) hb hg hN W g' (StepX.refl _ _) (hsome hs hg' hb') hg' ⟨hN', fun e => hne e.symm⟩)
theorem bring {K : Cont} (hK : ContMono (fun _ => False) K) (hsel : Region.noSelect ops = true) {j : Nat} {oj : Oper} (hj : ops[j]? = some oj) : ∀ (l1 l2 : List Nat) (N : Nat → Prop) (a : Act) (w : World),
  (∀ i ∈ l1, ∃ oi, ops[i]? = some oi ∧ oi.apart ops oj = true ∧ swaps (kd i) (kd j) = true) → run P ops Y base kd (l1 ++ j :: l2) K N a w → go P ops Y base kd j (run P ops Y base kd (l1 ++ l2) K) N a w := by
 intro l1
 induction l1 with
 | nil => intro l2 N a w _ h; exact h
 | cons i l1 ih =>
  intro l2 N a w hall h
  obtain ⟨oi, hi, hap, hsw⟩ := hall i (by simp)
  have h' : go P ops Y base kd i (go P ops Y base kd j (run P ops Y base kd (l1 ++ l2) K)) N a w :=
   go_cong (fun N a w hh => ih l2 N a w (fun k hk => hall k (by simp [hk])) hh) h
  exact exch hi hj hap (Region.noSelect_spec hsel i oi · · hi) (Region.noSelect_spec hsel j oj · · hj) hsw (run_mono hK _) h'
variable {tab : List Nat}
def K1 (P : Program) (ops : Array Oper) (Y : Nat → Prop) (Q : Exit → Act → World → Prop) (x : Nat) (t : List Nat) : Cont := fun _ a w => ∀ W, Step w W → wpOp P ops Q x (fun a' w' => StepX Y W w' ∧ wpOps P ops Q t a' w') a W
theorem K1_mono {Q : Exit → Act → World → Prop} (x : Nat) (t : List Nat) : ContMono (fun _ => False) (K1 P ops Y Q x t) := fun _ _ _ _ _ _ hs h W hW => h W (hs.trans hW)
def okWait (tab : List Nat) (ops : Array Oper) (kd : Nat → Kd) (y x : Nat) : Bool :=
 ancB tab y x || (isSil (kd y) && match ops[y]?, ops[x]? with
  | some oy, some ox => oy.apart ops ox
  | _, _ => false)
def okSeq (tab : List Nat) (ops : Array Oper) (kd : Nat → Kd) (l : List Nat) (x : Nat) (t : List Nat) : Bool :=
 okTab tab ops && okList tab ops kd l && (l.all fun y => okWait tab ops kd y x) && (l.all fun y => t.all fun z => ancB tab y z) && okTail tab [] (x :: t) && okDeps ops [] (l ++ x :: t) && okAlloc ops kd l && Region.noSelect ops && (List.range ops.size).all (fun i => (l ++ x :: t).contains i) && (l ++ x :: t).all (fun i => decide (i < ops.size)) && decide (l ++ x :: t).Nodup
def runS (P : Program) (ops : Array Oper) (S : World → Prop) : List Nat → (Act → Prop) → Act → Prop
 | [], K, a => K a
 | i :: l, K, a => ∃ o v, ops[i]? = some o ∧ YieldsIf P ops S o v a ∧ runS P ops S l K (a.put o.dst v)
theorem runS_and {S : World → Prop} {C : Prop} {K : Act → Prop} : ∀ {l : List Nat} {a : Act}, runS P ops S l (fun a => C ∧ K a) a → C ∧ runS P ops S l K a
 | [], _, hr => hr
 | _ :: _, _, ⟨o, v, ho, hy, hr⟩ => ⟨(runS_and hr).1, o, v, ho, hy, (runS_and hr).2⟩
theorem runS_of_run {Q : Exit → Act → World → Prop} {x : Nat} {t : List Nat} {w : World} : ∀ {l : List Nat} {N : Nat → Prop} {a : Act}, (∀ y ∈ l, isSil (kd y) = true) → run P ops Y base kd l (K1 P ops Y Q x t) N a w → runS P ops (StepX Y w) l (fun a => wpOp P ops Q x (fun a' w' => StepX Y w w' ∧ wpOps P ops Q t a' w') a w) a := by
 intro l
 induction l with
 | nil => intro N a _ h; exact h w (StepX.refl _ w)
 | cons i l ih =>
  intro N a hl h
  have h1 := hl i (by simp)
  have h' : go P ops Y base kd i (run P ops Y base kd l (K1 P ops Y Q x t)) N a w := h
  unfold go at h'
  cases hk : kd i <;> simp [hk, isSil] at h1
  rw [hk] at h'
  obtain ⟨o, v, ho, hy, hr⟩ := h'
  exact ⟨o, v, ho, hy, ih (fun y hy => hl y (by simp [hy])) hr⟩
theorem bringS (hsel : Region.noSelect ops = true) {S : World → Prop} {K : Act → Prop} {j : Nat} {oj : Oper} (hj : ops[j]? = some oj) : ∀ {l1 l2 : List Nat} {a : Act}, (∀ i ∈ l1, ∃ oi, ops[i]? = some oi ∧ oi.apart ops oj = true) → runS P ops S (l1 ++ j :: l2) K a →
  ∃ v, YieldsIf P ops S oj v a ∧ runS P ops S (l1 ++ l2) K (a.put oj.dst v) := by
 intro l1
 induction l1 with
 | nil =>
  intro l2 a _ h
  obtain ⟨o, v, ho, hy, hr⟩ := h
  obtain rfl : oj = o := by rw [hj] at ho; exact Option.some.inj ho
  exact ⟨v, hy, hr⟩
 | cons i l1 ih =>
  intro l2 a hall h
  obtain ⟨oi', hi', hap⟩ := hall i (by simp)
  obtain ⟨oi, vi, hi, hyi, hr⟩ := h
  obtain rfl : oi' = oi := by rw [hi] at hi'; exact (Option.some.inj hi').symm
  obtain ⟨v, hyj, hr2⟩ := ih (fun k hk => hall k (by simp [hk])) hr
  obtain ⟨h1, h2, h3⟩ := Oper.apart_spec hap
  have hsi := (Region.noSelect_spec hsel i oi' · · hi)
  have hsj := (Region.noSelect_spec hsel j oj · · hj)
  refine ⟨v, hyj.of_same (execOp_put oj hsj a oi'.dst vi h1).symm (wanted_put oj a oi'.dst vi h1).symm, oi', vi, hi, hyi.of_same (execOp_put oi' hsi a oj.dst v h3) (wanted_put oi' a oj.dst v h3), ?_⟩
  rw [← Act.put_comm a vi v h2]
  exact hr2
theorem tailS (hsel : Region.noSelect ops = true) {Q : Exit → Act → World → Prop} (hQ : ∀ c d v a w, Q (.panic c) (Act.put a d v) w → Q (.panic c) a w) {j : Nat} {oj : Oper} (hj : ops[j]? = some oj) {S : World → Prop} {K : Act → World → Prop} {w : World} : ∀ {l : List Nat} {a : Act},
  (∀ i ∈ l, ∃ oi, ops[i]? = some oi ∧ oi.apart ops oj = true) → runS P ops S l (fun a => wpOp P ops Q j K a w) a → wpOp P ops Q j (fun a' w' => runS P ops S l (fun a => K a w') a') a w := by
 intro l
 induction l with
 | nil => intro a _ h; exact h
 | cons i l ih =>
  intro a hall h
  obtain ⟨oi', hi', hap⟩ := hall i (by simp)
  obtain ⟨oi, vi, hi, hyi, hr⟩ := h
  obtain rfl : oi' = oi := by rw [hi] at hi'; exact (Option.some.inj hi').symm
  have h1 := ih (fun k hk => hall k (by simp [hk])) hr
  refine wpOp_mono (fun a' w' hh => ?_) (wpOp_putIf (S := S) hj hap (Region.noSelect_spec hsel i oi' · · hi) (Region.noSelect_spec hsel j oj · · hj) (fun c a w => hQ c _ _ a w) hyi h1)
  exact ⟨oi', vi, hi, hh.1, hh.2⟩
theorem mixed_sound {S : World → Prop} {Q : Exit → Act → World → Prop} (hsel : Region.noSelect ops = true) : ∀ (fuel : Nat) (l t : List Nat) (listed : Array Bool) (a : Act) (w : World),
  l.length + t.length ≤ fuel → listed.size = ops.size → (∀ i, i < ops.size → (listed.getD i true = false ↔ i ∈ l ++ t)) → (∀ i ∈ l ++ t, i < ops.size) → (l ++ t).Nodup → Closed ops listed →
  okTab tab ops = true → okList tab ops kd l = true → (∀ y ∈ l, ∀ x ∈ t, ancB tab y x = true) → TailOk tab [] t → DepsOk ops listed (l ++ t) → S w →
  runS P ops S l (fun a => wpOps P ops Q t a w) a → wpAny P .any ops Q fuel listed a w := by
 intro fuel
 induction fuel with
 | zero =>
  intro l t listed a w hf hsz hun hin hnd hcl htab _ _ htail hdeps _ h
  have hl : l = [] := List.eq_nil_of_length_eq_zero (by omega)
  subst hl
  exact tail_sound 0 t listed a w (by simpa using hf) hsz hun hin hnd hcl htab htail hdeps h
 | succ fuel ih =>
  intro l t listed a w hf hsz hun hin hnd hcl htab hlist hwait htail hdeps hS h
  by_cases hl : l = []
  ·subst hl
   exact tail_sound _ t listed a w (by simpa using hf) hsz hun hin hnd hcl htab htail hdeps h
  refine ⟨fun hr => ?_, fun j hj => ?_⟩
  ·exfalso
   cases l with
   | nil => exact hl rfl
   | cons x L =>
    obtain ⟨o, ho, hh⟩ := hdeps [] x (L ++ t) (by simp)
    have hx : x ∈ Region.ready .any ops listed := mem_ready.2 ⟨(hun x (hin x (by simp))).2 (by simp), o, ho, fun e he hb => (hh e he hb).resolve_right (by simp)⟩
    rw [hr] at hx; cases hx
  ·obtain ⟨h0, oj, hoj, hdj⟩ := mem_ready.1 hj
   have hjlt := (Array.getElem?_eq_some_iff.1 hoj).1
   have hjsz : j < listed.size := by omega
   have hjm := (hun j hjlt).1 h0
   have hcl' := closed_set hjsz hoj hdj hcl
   have notanc : ∀ i ∈ l ++ t, ancB tab i j = true → False := fun i hi ha => by
    have h1 := anc_listed hsz hcl htab j i oj hoj hdj ha
    have h2 := (hun i (hin i hi)).2 hi
    rw [getD_tf (by rw [hsz]; exact hin i hi), h1] at h2
    cases h2
   rcases List.mem_append.1 hjm with hjl | hjt
   ·obtain ⟨l1, l2, rfl⟩ := List.append_of_mem hjl
    obtain ⟨hlist', hpair⟩ := okList_drop hlist
    have hall : ∀ i ∈ l1, ∃ oi, ops[i]? = some oi ∧ oi.apart ops oj = true := fun i hi => by
     have hp := hpair i hi
     simp only [okPair, Bool.or_eq_true] at hp
     rcases hp with hp | hp
     ·exact (notanc i (by simp [hi]) hp).elim
     ·cases hoi : ops[i]? with
      | none => simp [hoi] at hp
      | some oi =>
       simp only [hoi, hoj, Bool.and_eq_true] at hp
       exact ⟨oi, rfl, hp.1⟩
    obtain ⟨v, hy, hr⟩ := bringS hsel hoj hall h
    have he : (l1 ++ j :: l2) ++ t = l1 ++ j :: (l2 ++ t) := by simp
    refine hy.wpOp hoj hS (ih (l1 ++ l2) t _ _ w (by simp at hf ⊢; omega) (by simp [hsz]) (by have := unlisted_drop (L1 := l1) (L2 := l2 ++ t) hjsz (by rw [← he]; exact hun) (by rw [← he]; exact hnd); simpa using this)
     (fun i hi => hin i (by simp only [List.mem_append, List.mem_cons] at hi ⊢; rcases hi with (hi | hi) | hi <;> simp [hi]))
     (by have := (nodup_mid (by rw [← he]; exact hnd)).2; simpa using this) hcl' htab hlist' (fun y hy x hx => hwait y (by simp only [List.mem_append, List.mem_cons] at hy ⊢; rcases hy with hy | hy <;> simp [hy]) x hx) htail
     (by have := depsOk_drop (L1 := l1) (L2 := l2 ++ t) hjsz (by rw [← he]; exact hdeps); simpa using this) hS hr)
   ·obtain ⟨y, hy⟩ := List.exists_mem_of_ne_nil l hl
    exact (notanc y (by simp [hy]) (hwait y hy j hjt)).elim
theorem seq_sound {Q : Exit → Act → World → Prop} (hsel : Region.noSelect ops = true) (hQ : ∀ c d v a w, Q (.panic c) (Act.put a d v) w → Q (.panic c) a w) {x0 : Nat} {t0 t : List Nat} (ht : t = x0 :: t0) : ∀ (fuel : Nat) (l : List Nat) (listed : Array Bool) (N : Nat → Prop) (a : Act) (w : World),
  l.length + t.length ≤ fuel → listed.size = ops.size → (∀ i, i < ops.size → (listed.getD i true = false ↔ i ∈ l ++ t)) → (∀ i ∈ l ++ t, i < ops.size) → (l ++ t).Nodup → Closed ops listed →
  okTab tab ops = true → okList tab ops kd l = true → (∀ y ∈ l, okWait tab ops kd y x0 = true) → (∀ y ∈ l, ∀ z ∈ t0, ancB tab y z = true) → TailOk tab [] t → DepsOk ops listed (l ++ t) → okAlloc ops kd l = true → (∀ i T z, i ∈ l → kd i = .alloc T z → Makes P ops i T z) →
  (∀ g, w.heap.size ≤ g → N g) → base ≤ w.heap.size → run P ops Y base kd l (K1 P ops Y Q x0 t0) N a w → wpAny P .any ops Q fuel listed a w := by
 intro fuel
 induction fuel with
 | zero =>
  intro l listed N a w hf hsz hun hin hnd hcl htab _ _ _ htail hdeps _ _ _ _ h
  have hl : l = [] := List.eq_nil_of_length_eq_zero (by omega)
  subst hl
  exact tail_sound 0 t listed a w (by simpa using hf) hsz hun hin hnd hcl htab htail hdeps (by rw [ht, wpOps_cons]; exact wpOp_mono (fun _ _ h => h.2) (h w (StepX.refl _ w)))
 | succ fuel ih =>
  intro l listed N a w hf hsz hun hin hnd hcl htab hlist hwait hanc htail hdeps halloc hz hN hbase h
  by_cases hl : l = []
  ·subst hl
   exact tail_sound _ t listed a w (by simpa using hf) hsz hun hin hnd hcl htab htail hdeps (by rw [ht, wpOps_cons]; exact wpOp_mono (fun _ _ h => h.2) (h w (StepX.refl _ w)))
  refine ⟨fun hr => ?_, fun j hj => ?_⟩
  ·-- nothing may come up: but something is left
   exfalso
   cases l with
   | nil => exact hl rfl
   | cons x L =>
    obtain ⟨o, ho, hh⟩ := hdeps [] x (L ++ t) (by simp)
    have hx : x ∈ Region.ready .any ops listed := mem_ready.2 ⟨(hun x (hin x (by simp))).2 (by simp), o, ho, fun e he hb => (hh e he hb).resolve_right (by simp)⟩
    rw [hr] at hx; cases hx
  ·obtain ⟨h0, oj, hoj, hdj⟩ := mem_ready.1 hj
   have hjlt := (Array.getElem?_eq_some_iff.1 hoj).1
   have hjsz : j < listed.size := by omega
   have hjm := (hun j hjlt).1 h0
   have hcl' := closed_set hjsz hoj hdj hcl
   have notanc : ∀ i ∈ l ++ t, ancB tab i j = true → False := fun i hi ha => by
    have h1 := anc_listed hsz hcl htab j i oj hoj hdj ha
    have h2 := (hun i (hin i hi)).2 hi
    rw [getD_tf (by rw [hsz]; exact hin i hi), h1] at h2
    cases h2
   rcases List.mem_append.1 hjm with hjl | hjt
   ·-- one of the first part
    obtain ⟨l1, l2, rfl⟩ := List.append_of_mem hjl
    obtain ⟨hlist', hpair⟩ := okList_drop hlist
    have hall : ∀ i ∈ l1, ∃ oi, ops[i]? = some oi ∧ oi.apart ops oj = true ∧ swaps (kd i) (kd j) = true := fun i hi => by
     have hp := hpair i hi
     simp only [okPair, Bool.or_eq_true] at hp
     rcases hp with hp | hp
     ·exact (notanc i (by simp [hi]) hp).elim
     ·cases hoi : ops[i]? with
      | none => simp [hoi] at hp
      | some oi =>
       simp only [hoi, hoj, Bool.and_eq_true] at hp
       exact ⟨oi, rfl, hp.1, hp.2⟩
    have hb := bring (K1_mono x0 t0) hsel hoj l1 l2 N a w hall h
    have he : (l1 ++ j :: l2) ++ t = l1 ++ j :: (l2 ++ t) := by simp
    have next : ∀ (N' : Nat → Prop) (a' : Act) (w' : World), (∀ g, w'.heap.size ≤ g → N' g) → w.heap.size ≤ w'.heap.size → run P ops Y base kd (l1 ++ l2) (K1 P ops Y Q x0 t0) N' a' w' → wpAny P .any ops Q fuel (listed.setIfInBounds j true) a' w' :=
     fun N' a' w' hN' hsz' hr => ih (l1 ++ l2) _ N' a' w' (by simp at hf ⊢; omega) (by simp [hsz]) (by have := unlisted_drop (L1 := l1) (L2 := l2 ++ t) hjsz (by rw [← he]; exact hun) (by rw [← he]; exact hnd); simpa using this)
      (fun i hi => hin i (by simp only [List.mem_append, List.mem_cons] at hi ⊢; rcases hi with (hi | hi) | hi <;> simp [hi]))
      (by have := (nodup_mid (by rw [← he]; exact hnd)).2; simpa using this) hcl' htab hlist' (fun y hy => hwait y (by simp only [List.mem_append, List.mem_cons] at hy ⊢; rcases hy with hy | hy <;> simp [hy])) (fun y hy => hanc y (by simp only [List.mem_append, List.mem_cons] at hy ⊢; rcases hy with hy | hy <;> simp [hy])) htail
      (by have := depsOk_drop (L1 := l1) (L2 := l2 ++ t) hjsz (by rw [← he]; exact hdeps); simpa using this)
      (by simp only [okAlloc, List.all_eq_true, List.mem_append, List.mem_cons] at halloc ⊢; exact fun x hx => halloc x (hx.elim .inl (fun h => .inr (.inr h))))
      (fun i T z hi => hz i T z (by simp only [List.mem_append, List.mem_cons] at hi ⊢; rcases hi with hi | hi <;> simp [hi])) hN' (by omega) hr
    cases hk : kd j with
    | silent =>
     simp only [go, hk] at hb
     obtain ⟨o, v, ho, hy, hr⟩ := hb
     exact hy.wpOp ho (StepX.refl _ w) (next N _ w hN (Nat.le_refl _) hr)
    | chain =>
     simp only [go, hk] at hb
     exact wpOp_any (wpOp_mono (fun a' w' ⟨hs, hr⟩ => next _ a' w' (fun g hg => ⟨hN g (Nat.le_trans hs.size hg), .inr hg⟩) hs.size hr) (hb w (StepX.refl _ w)))
    | alloc T z =>
     simp only [go, hk] at hb
     have hal := halloc
     simp only [okAlloc, List.all_eq_true] at hal
     have hal := hal j (by simp)
     simp only [hk, hoj, Bool.and_eq_true] at hal
     obtain ⟨hg, hop⟩ := hal
     refine wpOp_alloc hoj hop (by simpa using hg) (hz j T z (by simp) hk) ?_
     have hd : (ops[j]?).bind (·.dst) = oj.dst := by rw [hoj]; rfl
     rw [hd] at hb
     exact next _ _ _ (fun g hgg => ⟨hN g (by simp at hgg; omega), by simp at hgg; omega⟩) (by simp) (hb (w.alloc (.cells (madeC z) T)) w.heap.size (Step.alloc _ _) (heap_alloc_new w _) hbase (hN _ (Nat.le_refl _)))
   ·-- the tail's first may come, while what is left waits
    obtain ⟨y0, hy0⟩ := List.exists_mem_of_ne_nil l hl
    have hj0 : j = x0 := by
     rw [ht] at hjt
     rcases List.mem_cons.1 hjt with h1 | h1
     ·exact h1
     ·exact (notanc y0 (by simp [hy0]) (hanc y0 hy0 j h1)).elim
    subst hj0
    have hw1 : ∀ y ∈ l, isSil (kd y) = true ∧ ∃ oy, ops[y]? = some oy ∧ oy.apart ops oj = true := fun y hy => by
     have := hwait y hy
     simp only [okWait, Bool.or_eq_true, Bool.and_eq_true] at this
     rcases this with h1 | ⟨h2, h4⟩
     ·exact (notanc y (by simp [hy]) h1).elim
     ·cases hoy : ops[y]? with
      | none => simp [hoy] at h4
      | some oy => simp only [hoy, hoj] at h4; exact ⟨h2, oy, rfl, h4⟩
    have h5 := tailS hsel hQ hoj (fun i hi => (hw1 i hi).2) (runS_of_run (fun y hy => (hw1 y hy).1) h)
    have he : l ++ t = l ++ j :: t0 := by rw [ht]
    refine wpOp_mono (fun a' w' hk => ?_) h5
    obtain ⟨hS, hk⟩ := runS_and hk
    exact mixed_sound hsel fuel l t0 _ a' w' (by rw [ht] at hf; simp at hf; omega) (by simp [hsz]) (unlisted_drop (L1 := l) (L2 := t0) hjsz (by rw [← he]; exact hun) (by rw [← he]; exact hnd))
     (fun i hi => hin i (by rw [he]; simp only [List.mem_append, List.mem_cons] at hi ⊢; rcases hi with hi | hi <;> simp [hi])) (nodup_mid (by rw [← he]; exact hnd)).2 hcl' htab hlist hanc
     (fun u1 x u2 hu y hy => htail (j :: u1) x u2 (by rw [ht, hu]; simp) y (by simp at hy ⊢; exact .inr hy)) (depsOk_drop (L1 := l) (L2 := t0) hjsz (by rw [← he]; exact hdeps)) hS hk
theorem wp_region_late {id : Nat} {Q : Exit → Act → World → Prop} {a : Act} {w : World} (Y : Nat → Prop) (hQ : ∀ c d v a w, Q (.panic c) (Act.put a d v) w → Q (.panic c) a w) (kd : Nat → Kd) (tab l : List Nat) (x : Nat) (t : List Nat) (hm : P.follows .mixedOrders = true) (hok : okSeq tab ops kd l x t = true)
  (hz : ∀ i T z, i ∈ l → kd i = .alloc T z → Makes P ops i T z)
  (h : ∀ W, Step w W → run P ops Y w.heap.size kd l (K1 P ops Y Q x t) (fun _ => True) a W) : (Code.region id ops true).wp P Q a w := by
 simp only [okSeq, Bool.and_eq_true, List.all_eq_true, decide_eq_true_eq, List.mem_range, List.contains_iff_mem] at hok
 obtain ⟨⟨⟨⟨⟨⟨⟨⟨⟨⟨h0, h1⟩, h9⟩, h10⟩, h2⟩, h3⟩, h4⟩, h5⟩, h6⟩, h7⟩, h8⟩ := hok
 refine wp_region_any hm ?_
 refine seq_sound (base := w.heap.size) (kd := kd) h5 hQ rfl ops.size l _ (fun _ => True) a w.drew ?_ (by simp) ?_ h7 h8 ?_ h0 h1 h9 h10 (tailOk_of h2) ?_ h4 hz (fun _ _ => trivial) (by simp) (h w.drew (Step.drew w))
 ·have hsub : (l ++ x :: t).length ≤ (List.range ops.size).length := h8.length_le_of_subset (fun i hi => List.mem_range.2 (h7 i hi))
  simpa using hsub
 ·intro i hi
  simp only [Array.getD_eq_getD_getElem?, Array.getElem?_replicate, hi, if_true, Option.getD_some, true_iff]
  exact h6 i hi
 ·intro x' o ho hx
  have hlt := (Array.getElem?_eq_some_iff.1 ho).1
  simp [hlt] at hx
 ·intro L1 x' L2 he
  obtain ⟨o, ho, hh⟩ := depsOk_of (listed := Array.replicate ops.size false) h3 L1 x' L2 he
  exact ⟨o, ho, by simpa using hh⟩
section
variable {K : Cont} {N : Nat → Prop} {a : Act} {w : World} {i : Nat} {l : List Nat} {o : Oper}
theorem run_silent {v : Value} (hk : kd i = .silent) (ho : ops.toList[i]? = some o) (hy : YieldsIf P ops (StepX Y w) o v a) (h : run P ops Y base kd l K N (a.put o.dst v) w) : run P ops Y base kd (i :: l) K N a w := by
 show go P ops Y base kd i _ N a w
 unfold go; rw [hk]; exact ⟨o, v, by simpa using ho, hy, h⟩
theorem run_want (hk : kd i = .silent) (ho : ops.toList[i]? = some o) (hw : Region.wanted o (yielded ops a.tmps) = true) (h : ∃ v, (∀ W, StepX Y w W → (execOp a.eval o).run P W = .ok (.value v) W) ∧ run P ops Y base kd l K N (a.put o.dst v) w) :
  run P ops Y base kd (i :: l) K N a w := by
 obtain ⟨v, h1, h2⟩ := h
 exact run_silent hk ho (.inl ⟨hw, h1⟩) h2
theorem run_off (hk : kd i = .silent) (ho : ops.toList[i]? = some o) (hw : Region.wanted o (yielded ops a.tmps) = false) (h : run P ops Y base kd l K N (a.put o.dst undef) w) : run P ops Y base kd (i :: l) K N a w :=
 run_silent hk ho (.inr ⟨hw, rfl⟩) h
theorem run_chain (hk : kd i = .chain) (ho : ops.toList[i]? = some o) (hw : Region.wanted o (yielded ops a.tmps) = true)
  (h : ∀ W, StepX (fun _ => False) w W → ∀ K' : Act → World → Prop, (∀ a' w', StepX (fun _ => False) W w' → run P ops Y base kd l K (fun g => N g ∧ (g < W.heap.size ∨ w'.heap.size ≤ g)) a' w' → K' a' w') → o.wp P a W K' QF) : run P ops Y base kd (i :: l) K N a w := by
 show go P ops Y base kd i _ N a w
 have ho : ops[i]? = some o := by simpa using ho
 unfold go; rw [hk]
 intro W hW
 unfold wpOp; simp only [ho, hw, if_true]
 exact .inl (h W hW _ (fun a' w' hs hr => ⟨hs, hr⟩))
theorem run_chain_off (hk : kd i = .chain) (ho : ops.toList[i]? = some o) (hw : Region.wanted o (yielded ops a.tmps) = false) (hK : ContMono (fun _ => False) K)
  (h : run P ops Y base kd l K N (a.put o.dst undef) w) : run P ops Y base kd (i :: l) K N a w := by
 show go P ops Y base kd i _ N a w
 have ho : ops[i]? = some o := by simpa using ho
 unfold go; rw [hk]
 intro W hW
 unfold wpOp; simp only [ho, hw]
 exact ⟨StepX.refl _ _, run_mono hK l _ _ _ _ _ (fun g hg => hg.1) hW h⟩
theorem run_alloc {T : TypeId} {z : Value} (hk : kd i = .alloc T z) (ho : ops.toList[i]? = some o)
  (h : ∀ W g, StepX (fun _ => False) w W → W.heap[g]? = some (.cells z.cells T (0, 0)) → base ≤ g → N g → run P ops Y base kd l K (fun x => N x ∧ x ≠ g) (a.put o.dst (.pointer (some ⟨g, 0, none⟩))) W)
  (hv : ∀ g, madeV z g = .pointer (some ⟨g, 0, none⟩) := by exact fun _ => rfl) (hc : madeC z = z.cells := by exact rfl) : run P ops Y base kd (i :: l) K N a w := by
 show go P ops Y base kd i _ N a w
 have ho : ops[i]? = some o := by simpa using ho
 unfold go; rw [hk, ho]
 intro W g h1 h2 h3 h4
 rw [hc] at h2
 rw [hv]
 exact h W g h1 h2 h3 h4
theorem run_end {Q : Exit → Act → World → Prop} {x : Nat} {ox : Oper} {t : List Nat} {L : List Oper} (hx : ops.toList[x]? = some ox) (hg : ox.guard = none) (ht : t.map (fun i => ops.toList[i]?) = L.map some)
  (h : ∀ W, Step w W → ∀ K' : Act → World → Prop, (∀ a' w', StepX Y W w' → wpList P ops Q L a' w' → K' a' w') → ox.wp P a W K' Q) : run P ops Y base kd [] (K1 P ops Y Q x t) N a w := by
 intro W hW
 have hx' : ops[x]? = some ox := by simpa using hx
 unfold wpOp
 simp only [hx', Region.wanted, hg, if_true]
 refine .inl (h W hW _ fun a' w' h1 h2 => ⟨h1, ?_⟩)
 clear h hW h1
 induction t generalizing L a' w' with
 | nil =>
  cases L with
  | nil => exact h2
  | cons _ _ => simp at ht
 | cons x t ih =>
  cases L with
  | nil => simp at ht
  | cons o L =>
   simp only [List.map_cons, List.cons.injEq, Array.getElem?_toList] at ht
   rw [wpOps_cons]
   unfold wpOp
   unfold wpList at h2
   simp only [ht.1]
   split
   ·rename_i hw
    rw [if_pos hw] at h2
    exact h2.imp (Oper.wp_mono fun a' w' hh => ih (by simpa using ht.2) a' w' hh) id
   ·rename_i hw
    rw [if_neg hw] at h2
    exact ih (by simpa using ht.2) _ _ h2
end
end
end Go.BT.Late
namespace Go.Proofs.Ytfhmdpicoccnfaa
set_option linter.unusedSimpArgs false
set_option linter.unusedVariables false
open Go.RowKit Go.BT
def hitFrom {α : Type} (p : α → Bool) (l : List α) (n : Nat) : Int := if idxOf p (l.drop n) < 0 then -1 else idxOf p (l.drop n) + n
theorem idxOf_low {α : Type} (p : α → Bool) (l : List α) : -1 ≤ idxOf p l := by
 unfold idxOf; split <;> omega
theorem idxOf_cons {α : Type} (p : α → Bool) (a : α) (l : List α) : idxOf p (a :: l) = if p a = true then 0 else if idxOf p l < 0 then -1 else idxOf p l + 1 := by
 unfold idxOf
 rw [List.findIdx?_cons]
 cases h : p a
 ·cases q : l.findIdx? p with
  | none => simp
  | some i =>
   have h0 : ¬ ((i : Int) < 0) := by omega
   simp [h0]
 ·simp
theorem hitFrom_end {α : Type} (p : α → Bool) (l : List α) : hitFrom p l l.length = -1 := by
 unfold hitFrom
 rw [List.drop_length]
 rfl
theorem hitFrom_zero {α : Type} (p : α → Bool) (l : List α) : hitFrom p l 0 = idxOf p l := by
 unfold hitFrom
 rw [List.drop_zero]
 have := idxOf_low p l
 split <;> omega
theorem hitFrom_at {α : Type} (p : α → Bool) (l : List α) (n : Nat) (h : n < l.length) : hitFrom p l n = if p l[n] = true then (n : Int) else hitFrom p l (n + 1) := by
 unfold hitFrom
 rw [List.drop_eq_getElem_cons h, idxOf_cons]
 have := idxOf_low p (l.drop (n + 1))
 generalize idxOf p (l.drop (n + 1)) = t at *
 cases p l[n]
 ·simp only [Bool.false_eq_true, if_false]
  split
  ·simp
  ·rw [if_neg (by omega)]; omega
 ·simp
theorem hits_max {f : Fc} {x : Rdg} {r : Rng} (hr : hourAt f x.hour = r) (h1 : r.lo ≤ r.hi) (h2 : x.lo ≤ x.hi) : hitsB f x = decide ((if x.hi < r.hi then x.hi else r.hi) < (if r.lo < x.lo then x.lo else r.lo)) := by
 unfold hitsB
 rw [hr]
 by_cases a : x.hi < r.hi
 ·rw [if_pos a]
  by_cases b : r.lo < x.lo
  ·rw [if_pos b]; rw [Bool.eq_iff_iff]; simp only [Bool.or_eq_true, decide_eq_true_eq]; omega
  ·rw [if_neg b]; rw [Bool.eq_iff_iff]; simp only [Bool.or_eq_true, decide_eq_true_eq]; omega
 ·rw [if_neg a]
  by_cases b : r.lo < x.lo
  ·rw [if_pos b]; rw [Bool.eq_iff_iff]; simp only [Bool.or_eq_true, decide_eq_true_eq]; omega
  ·rw [if_neg b]; rw [Bool.eq_iff_iff]; simp only [Bool.or_eq_true, decide_eq_true_eq]; omega
theorem infoRStrike : (Try.prog.info? 46).map (fun i => (i.zero, i.size, i.bytes)) = some (some (.agg #[.int .i64 0, .int .i64 0]), 2, 16) := by kernel_rfl
theorem eiRStrikes : EI Try.prog 40 46 (.agg #[.int .i64 0, .int .i64 0]) 2 16 := .mk' Try.underlying40 infoRStrike rfl
theorem rdgs_ok {l : List Fc} {rs : List Rdg} (h : readC l rs = 0) : ∀ x ∈ rs, rangeB ⟨x.lo, x.hi⟩ = true := by
 unfold readC at h
 split at h
 ·unfold readingsC at h
  split at h
  ·split at h
   ·split at h
    ·rename_i h3; exact List.all_eq_true.1 h3
    ·simp at h
   ·simp at h
  ·simp at h
 ·rename_i h0; exact absurd h h0
theorem RStrikes_any (S : Nat → Prop) (l : List Fc) (rs : List Rdg) (v u : Value) (w : World) (hv : SL S w v l) (hu : SL S w u rs) (hok : readC l rs = 0) :
  Calls Try.prog 22 #[v, u] w fun e w' => ∃ v1 v2, e = .returned (.tuple #[v1, v2]) ∧ SL (Old w) w' v1 (leftI l rs l.length) ∧ SL (Old w) w' v2 (strikesTo l rs l.length) ∧ Step w w' := by
 have HV := zH (SL.go hv (Step.refl _))
 have HU := zH (SL.go hu (Step.refl _))
 have HR := zH (read_hours hok)
 have HRR := zH (rdgs_ok hok)
 have HL := zH (few_parts (forecasts_ok (read_hours hok).1).1)
 have HEV := zH (even_parts (forecasts_ok (read_hours hok).1).2.1)
 obtain ⟨pv, cv, rfl⟩ := hv.form
 obtain ⟨pu, cu, rfl⟩ := hu.form
 have hwn : IntKind.i64.wrap ((rs.length : Int) - 1) = (rs.length : Int) - 1 := by have := (read_hours hok).2.1; rw [IntKind.wrap_i64]; omega
 clear hv hu hok
 go_enter Try.func22, Try.ntmps22
 go_upto_region 4 with (fail)
 go_loopw [6, 7, 8] (fun a b i wr => ∃ k : Nat, k ≤ l.length ∧ i = .int .i64 k ∧ OwnL (fun _ => False) w.heap.size 3 wr a (leftI l rs k) ∧ OwnL (fun _ => False) w.heap.size 46 wr b (strikesTo l rs k) ∧ Below w.heap.size w wr) (fun _ _ i _ => l.length - (intOf i).toNat)
 case atStart => exact ⟨0, Nat.zero_le _, rfl, OwnL.nil _ _ _ _, OwnL.nil _ _ _ _, Below.refl _ _⟩
 case round =>
  obtain ⟨k, hk, rfl, hoa, hob, hB⟩ := hrel
  have HT := zH (Step.of hB)
  have HB := zH hB
  have HOA := zH hoa
  have HOB := zH hob
  have HLA := zH (Nat.le_trans (left_len l rs k) (Nat.le_trans hk HL.out.2.1))
  have HLB := zH (Nat.le_trans (strikes_len l rs k) (Nat.le_trans hk HL.out.2.1))
  by_cases hlt : k < l.length
  ·obtain ⟨la, hla⟩ : ∃ L, L = leftI l rs k := ⟨_, rfl⟩
   obtain ⟨lb, hlb⟩ : ∃ L, L = strikesTo l rs k := ⟨_, rfl⟩
   rw [← hla] at hoa HOA HLA
   rw [← hlb] at hob HOB HLB
   obtain ⟨pa, ca, rfl, _⟩ := hoa.form
   obtain ⟨pb, cb, rfl, _⟩ := hob.form
   have HLL := zH (And.intro hla hlb)
   obtain ⟨p', c', b', o', he, _, _, hpp, hcc, hbl⟩ := (SL.go HV.out HT.out).fcs
   injection he with he1 he2 he3
   subst he1 he3
   obtain rfl := hpp (by omega)
   obtain ⟨c1, e1, e2, e3, e4⟩ := hcc k hlt
   obtain ⟨p2, k2, rfl⟩ := e3.form
   have HHR := zH (HR.out.2.2 k hlt)
   have HEK := zH (HEV.out _ (List.getElem_mem hlt)).2.2
   have HNX := zH (And.intro (left_next (rs := rs) hlt) (strikes_next (rs := rs) hlt))
   obtain ⟨f, hf⟩ : ∃ f, f = l[k] := ⟨_, rfl⟩
   rw [← hf] at e1 e2 e3 e4 HHR HNX HEK
   have HF1 := zH e2
   have HFS := zH e3
   have HK := zH (And.intro hk hlt)
   obtain ⟨wo, hwo⟩ : ∃ W, W = wr := ⟨_, rfl⟩
   subst hwo
   clear hoa hob hB hla hlb hpp hcc hbl he2 e1 e2 e3 e4 hf hk
   go_upto_region 8 with (fail)
   go_loopw [9, 10] (fun y x wr => ∃ (n : Nat) (q : Int), n ≤ rs.length ∧ x = .int .i64 q ∧ q = (n : Int) - 1 ∧ y = .int .i64 (hitFrom (hitsB f) rs n) ∧ Below wo.heap.size wo wr) (fun _ x _ => (intOf x + 1).toNat)
   case atStart => exact ⟨rs.length, _, Nat.le_refl _, rfl, rfl, by rw [hitFrom_end], Below.refl _ _⟩
   case round =>
    obtain ⟨n, q, hn, rfl, hq, rfl, hBn⟩ := hrel
    have HBN := zH hBn
    have HTN := zH (Step.of hBn)
    clear hBn
    cases n with
    | succ n =>
     obtain rfl : q = (n : Int) := by omega
     have hlt2 : n < rs.length := by omega
     have d0 : decide (0 ≤ (n : Int)) = true := decide_eq_true (by omega)
     have HAT := zH (hitFrom_at (hitsB f) rs n hlt2)
     obtain ⟨p', c', b2, o2, he, _, _, hpp, hcc, hbl⟩ := (SL.go HU.out (HT.out.trans HTN.out)).rdgs
     injection he with he1 he2 he3
     subst he1 he3
     obtain rfl := hpp (by omega)
     obtain ⟨r0, r1, r2⟩ := hcc n hlt2
     have hh := HHR.out _ (List.getElem_mem hlt2)
     have HRX := zH (HRR.out _ (List.getElem_mem hlt2))
     obtain ⟨x, hx⟩ : ∃ x, x = rs[n] := ⟨_, rfl⟩
     rw [← hx] at r0 r1 r2 hh HRX HAT
     obtain ⟨xh, xa, xb⟩ := x
     dsimp only at r0 r1 r2 hh HRX
     obtain ⟨z, rfl⟩ : ∃ z : Nat, xh = z := ⟨xh.toNat, by omega⟩
     have hz : z < f.hours.length := by omega
     obtain ⟨p3, c3, b3, o3, he, _, _, hpp3, hcc3, _⟩ := (SL.go HFS.out HTN.out).rngs
     injection he with he1 he4 he3
     subst he1 he3
     obtain rfl := hpp3 (by omega)
     obtain ⟨x0, x1⟩ := hcc3 z hz
     have HHA := zH (show hourAt f (z : Int) = f.hours[z] by
      unfold hourAt
      rw [Int.toNat_natCast, List.getD_eq_getElem?_getD, List.getElem?_eq_getElem hz]; rfl)
     have HRG := zH (List.all_eq_true.1 HEK.out _ (List.getElem_mem hz))
     obtain ⟨r, hr⟩ : ∃ r, r = f.hours[z] := ⟨_, rfl⟩
     rw [← hr] at x0 x1 HHA HRG
     obtain ⟨ra, rb⟩ := r
     dsimp only at x0 x1
     have hH : hitsB f ⟨(z : Int), xa, xb⟩ = decide ((if xb < rb then xb else rb) < (if ra < xa then xa else ra)) := hits_max (f := f) (x := ⟨(z : Int), xa, xb⟩) (r := ⟨ra, rb⟩) HHA.out (by have := HRG.out; simp [rangeB] at this; exact this.1.2) (by have := HRX.out; simp [rangeB] at this; exact this.1.2)
     have HHH := zH hH
     have f1 := HTN.out.kc HF1.out
     have hixk : (0 : Int) ≤ (k : Int) ∧ (k : Int) < (l.length : Int) := by omega
     have hixn : (0 : Int) ≤ (n : Int) ∧ (n : Int) < (rs.length : Int) := by omega
     have hixz : (0 : Int) ≤ (z : Int) ∧ (z : Int) < (f.hours.length : Int) := by omega
     obtain ⟨wi, hwi⟩ : ∃ W, W = wr := ⟨_, rfl⟩
     subst hwi
     clear he2 he4 hpp hcc hbl hpp3 hcc3 hr hx hH hq hh hz
     go_upto_region 10 with (fail)
     have m0 := World.block_lt_of_cell? wi _ f1
     have m1 := World.block_lt_of_cell? wi _ r0
     have m2 := World.block_lt_of_cell? wi _ x0
     dsimp only at m0 m1 m2
     have n0 : ¬ wi.heap.size ≤ b' := Nat.not_le.2 m0
     have n1 : ¬ wi.heap.size ≤ b2 := Nat.not_le.2 m1
     have n2 : ¬ wi.heap.size ≤ b3 := Nat.not_le.2 m2
     clear m0 m1 m2
     refine Late.wp_region_late (fun j => wi.heap.size ≤ j) (fun c d v a w h => by cases d <;> exact h) (kdOf [] [(17, 95, .agg #[.int .i64 0, .int .i64 0]), (18, 95, .agg #[.int .i64 0, .int .i64 0])]) [0, 0, 3, 7, 15, 0, 0, 96, 224, 480, 1023, 2047, 0, 0, 12288, 28672, 61440, 0, 0, 397311, 1048575] [0, 1, 2, 3, 4, 5, 6, 7, 8, 9, 10, 11, 12, 13, 14, 15, 16, 17, 18] 19 [20] (by kernel_rfl) (by kernel_rfl) (fun i T z hi hk => by simp only [List.mem_cons, List.not_mem_nil, or_false] at hi; rcases hi with rfl | rfl | rfl | rfl | rfl | rfl | rfl | rfl | rfl | rfl | rfl | rfl | rfl | rfl | rfl | rfl | rfl | rfl | rfl <;> simp [kdOf] at hk <;> (obtain ⟨rfl, rfl⟩ := hk; first | (show Option.bind _ _ = some _; kernel_rfl) | (refine ⟨_, rfl, fun _ _ => ?_⟩; go_simp))) ?_
     intro Wx hWx
     have f1 := (hWx).kc f1; have r0 := (hWx).kc r0; have r1 := (hWx).kc r1; have r2 := (hWx).kc r2; have x0 := (hWx).kc x0; have x1 := (hWx).kc x1
     repeat ((first | (refine Late.run_off rfl rfl (by rfl) ?_) | ((refine Late.run_want rfl rfl (by rfl) ⟨?_, fun W hW => ?_, ?_⟩; rotate_left; (· (have d1 := hW.keeps.cell n0 f1; have d2 := hW.keeps.cell n1 r0; have d3 := hW.keeps.cell n1 r1; have d4 := hW.keeps.cell n1 r2; have d5 := hW.keeps.cell n2 x0; have d6 := hW.keeps.cell n2 x1; go_simp; (try with_reducible rfl)))))); (try simp only [Act.put, zA, zB, zC]))
     clear f1 r0 r1 r2 x0 x1 n0 n1 n2
     refine Late.run_alloc rfl rfl (fun W5 gx hW5 hg hgb hgN => ?_)
     (try simp only [Act.put, zA, zB, zC])
     refine Late.run_alloc rfl rfl (fun W5b gy hW5b hg2 hgb2 hgN2 => ?_)
     have hxy : gy ≠ gx := by
      intro e
      simp [e] at hgN2
     (try simp only [Act.put, zA, zB, zC])
     repeat ((first | (refine Late.run_off rfl rfl (by rfl) ?_) | ((refine Late.run_want rfl rfl (by rfl) ⟨?_, fun W hW => ?_, ?_⟩; rotate_left; (· (skip; go_simp; (try with_reducible rfl)))))); (try simp only [Act.put, zA, zB, zC]))
     refine Late.run_end rfl rfl (L := [_]) rfl (fun W6 hW6 K6 hK6 => ?_)
     have hb6 := Bx.step (w := W5b) (Bx.step (w := W5) (cs := [_, _]) hg hW5b) hW6
     have hc6 := Bx.step (w := W5b) (cs := [_, _]) hg2 hW6
     refine wp_store_L (v := .agg #[.int .i64 ra, .int .i64 rb]) _ _ _ rfl rfl rfl hb6 (by kernel_rfl) (by simp [Value.cells]) (by simp [Value.cells, Value.oneCell']) [.int .i64 ra, .int .i64 rb] rfl (fun w9 hb9 hw9 => ?_)
     refine hK6 _ _ (StepX.grown hw9.grown (fun j hj _ => by injection hj with e; exact e ▸ hgb)) ?_
     have hc9 := hc6.keep (Keeps.wrote (S := fun j => j = gx) hw9 rfl) hxy
     clear hK6
     (try simp only [Act.put, zA, zB, zC])
     refine wpl_store (v := .agg #[.int .i64 xa, .int .i64 xb]) rfl _ _ _ rfl rfl rfl hc9 (by kernel_rfl) (by simp [Value.cells]) (by simp [Value.cells, Value.oneCell']) [.int .i64 xa, .int .i64 xb] rfl (fun wc hby hw10 => ?_)
     have hbx := hb9.keep (Keeps.wrote (S := fun j => j = gy) hw10 rfl) (Ne.symm hxy)
     have hS9 : Step wi wc := Step.wrote (Step.wrote (((hWx.trans hW5).trans hW5b).trans hW6) hw9 hgb) hw10 hgb2
     clear hWx hW5 hg hgb hgN hW5b hg2 hgb2 hgN2 hxy hW6 hb6 hc6 hb9 hw9 hc9 hw10
     have HB9 := zH (HBN.out.step (Nat.le_refl _) hS9)
     have y0 := hbx.cell 0
     have y1 := hbx.cell 1
     have y2 := hby.cell 0
     have y3 := hby.cell 1
     simp only [zD, zE] at y0 y1 y2 y3
     clear hbx hby hS9
     have hwq : IntKind.i64.wrap ((n : Int) - 1) = (n : Int) - 1 := by have := HR.out.2.1; rw [IntKind.wrap_i64]; omega
     have HHQ := HHH.out
     cases q : hitsB f ⟨(z : Int), xa, xb⟩ with
     | true =>
      rw [q] at HHQ
      have HAT2 := zH (HAT.out.trans (by rw [q, if_pos rfl]))
      have d1 := HHQ.symm
      clear q HHQ
      go_wp2
      go_roundw
      case rel => exact ⟨n, _, by omega, rfl, rfl, by rw [HAT2.out], HB9.out⟩
      case measure => simp [intOf]
     | false =>
      rw [q] at HHQ
      have HAT2 := zH (HAT.out.trans (by rw [q, if_neg (by decide)]))
      have d1 := HHQ.symm
      clear q HHQ
      go_wp2
      go_roundw
      case rel => exact ⟨n, _, by omega, rfl, rfl, by rw [HAT2.out], HB9.out⟩
      case measure => simp [intOf]
    | zero =>
     obtain rfl : q = -1 := by omega
     have hlo := idxOf_ge (hitsB f) rs
     rw [hitFrom_zero]
     obtain ⟨r, hr⟩ : ∃ r, r = idxOf (hitsB f) rs := ⟨_, rfl⟩
     rw [← hr] at hlo ⊢
     have hNX := HNX.out
     rw [← hr, ← HLL.out.1, ← HLL.out.2] at hNX
     have HNXX := zH hNX
     clear hNX hr hq hn
     have HS4 := HTN
     cases q : rs.any (hitsB f) with
     | true =>
      rw [q] at hlo HNXX
      rw [if_pos rfl, if_pos rfl, List.append_nil] at HNXX
      have d1 : decide (r < 0) = false := by simp at hlo; exact decide_eq_false (by omega)
      clear q hlo
      have hA4 := (HOA.out.step HS4.out).alloc (.cells #[.int .i64 (k : Int), .int .i64 r] 46)
      have hB4 := (HOB.out.step HS4.out).alloc (.cells #[.int .i64 (k : Int), .int .i64 r] 46)
      have hBl := (HB.out.step (Nat.le_refl _) HS4.out).step (Nat.le_refl _) (Step.alloc wr (.cells #[.int .i64 (k : Int), .int .i64 r] 46))
      have hbz := hBl.size
      have hl1 := HLB.out
      have HBl := zH hBl
      have HAB := zH (And.intro hA4 hB4)
      clear hBl
      have hu := SLe.one (S := avoid (fun _ => False) (.slice pb lb.length cb)) (w := wr) (cs := [.int .i64 (k : Int), .int .i64 r]) (x := (⟨(k : Int), r⟩ : Vec)) 46 rfl
      clear hA4
      go_wp2_with (at_builtin; refine wpl_append (α := Vec) (S := fun _ => False) (base := w.heap.size) (v := .slice pb lb.length cb) (l := lb) (m := [⟨(k : Int), r⟩]) eiRStrikes rfl _ _ rfl rfl rfl hB4 hu (lb.length + 1) (by simp) _ rfl (by simp only [maxLen]; omega) (by omega) hbz ?_)
      intro p5 c5 w5 hown5 hg
      have HF := zH (And.intro hown5 (And.intro (ownL_grown HAB.out.1 hg (fun g hg' => own_own HAB.out.1 HAB.out.2 (by decide) g hg')) (HBl.out.grown hg hbz (fun j hj => (hB4.lt j hj).1))))
      clear hB4 hu hown5 hg hbz hl1 HAB
      go_wp2
      go_roundw
      case rel => exact ⟨k + 1, by have := HK.out; omega, by go_num, by rw [HNXX.out.1]; exact HF.out.2.1, by rw [HNXX.out.2]; exact HF.out.1, HF.out.2.2⟩
      case measure => simp [intOf]; have := HK.out; omega
     | false =>
      rw [q] at hlo HNXX
      rw [if_neg (by decide), if_neg (by decide), List.append_nil] at HNXX
      have d1 : decide (r < 0) = true := by simp at hlo; exact decide_eq_true (by omega)
      clear q hlo
      have hA4 := (HOA.out.step HS4.out).alloc (.cells #[.int .i64 (k : Int)] 3)
      have hB4 := (HOB.out.step HS4.out).alloc (.cells #[.int .i64 (k : Int)] 3)
      have hBl := (HB.out.step (Nat.le_refl _) HS4.out).step (Nat.le_refl _) (Step.alloc wr (.cells #[.int .i64 (k : Int)] 3))
      have hbz := hBl.size
      have hl1 := HLA.out
      have HBl := zH hBl
      have HAB := zH (And.intro hA4 hB4)
      clear hBl
      have hu := SLe.one (S := avoid (fun _ => False) (.slice pa la.length ca)) (w := wr) (cs := [.int .i64 (k : Int)]) (x := ((k : Int) : Int)) 3 rfl
      clear hB4
      go_wp2_with (at_builtin; refine wpl_append (α := Int) (S := fun _ => False) (base := w.heap.size) (v := .slice pa la.length ca) (l := la) (m := [(k : Int)]) eiInts rfl _ _ rfl rfl rfl hA4 hu (la.length + 1) (by simp) _ rfl (by simp only [maxLen]; omega) (by omega) hbz ?_)
      intro p5 c5 w5 hown5 hg
      have HF := zH (And.intro hown5 (And.intro (ownL_grown HAB.out.2 hg (fun g hg' => own_own HAB.out.2 HAB.out.1 (by decide) g hg')) (HBl.out.grown hg hbz (fun j hj => (hA4.lt j hj).1))))
      clear hA4 hu hown5 hg hbz hl1 HAB
      go_wp2
      go_roundw
      case rel => exact ⟨k + 1, by have := HK.out; omega, by go_num, by rw [HNXX.out.1]; exact HF.out.1, by rw [HNXX.out.2]; exact HF.out.2.1, HF.out.2.2⟩
      case measure => simp [intOf]; have := HK.out; omega
  ·have hke : k = l.length := by omega
   subst hke
   have HF := zH (And.intro (hoa.sl (S := Old w) fun g h1 _ h2 => by unfold Old at h2; omega) (hob.sl (S := Old w) fun g h1 _ h2 => by unfold Old at h2; omega))
   clear hoa hob hB
   go_wp2
   go_ret2
   exact ⟨_, _, rfl, HF.out.1, HF.out.2, HT.out⟩
theorem RWorst_any (S : Nat → Prop) (l : List Fc) (ids : List Nat) (v u : Value) (h : Nat) (w : World) (hv : SL S w v l) (hu : SL S w u (ids.map fun (i : Nat) => (i : Int))) (hi : ∀ j (hj : j < ids.length), ids[j] < l.length) (hh : ∀ f ∈ l, h < f.hours.length) :
  Calls Try.prog 24 #[v, u, .int .i64 h] w fun e w' => e = .returned (.int .i64 (worstF l ids h)) ∧ Step w w' := by
 have hml := hu.len
 have HV := zH (SL.go hv (Step.refl _))
 have HU := zH (SL.go hu (Step.refl _))
 obtain ⟨pv, cv, rfl⟩ := hv.form
 obtain ⟨pu, cu, rfl⟩ := hu.form
 rw [List.length_map] at *
 have HI := zH (And.intro hi hh)
 clear hv hu hi hh
 go_enter Try.func24, Try.ntmps24
 go_upto_region 3 with (fail)
 go_loopw [7, 8] (fun n i wr => ∃ k : Nat, k ≤ ids.length ∧ i = .int .i64 k ∧ n = .int .i64 (worstF l (ids.take k) h) ∧ Step w wr) (fun _ i _ => ids.length - (intOf i).toNat)
 case atStart => exact ⟨0, Nat.zero_le _, rfl, by rw [List.take_zero]; rfl, Step.refl _⟩
 case round =>
  obtain ⟨k, hk, rfl, rfl, hT⟩ := hrel
  have HT := zH hT
  clear hT
  by_cases hlt : k < ids.length
  ·obtain ⟨q1, d1, b1, o1, he, _, _, hp1, hc1, _⟩ := (SL.go HU.out HT.out).ints
   rw [List.length_map] at he hp1
   injection he with he1 he2 he3
   subst he1 he3
   obtain rfl := hp1 (by omega)
   have e0 := hc1 k (by simpa using hlt)
   simp only [List.getElem_map] at e0
   have hij := HI.out.1 k hlt
   have HWT := zH (worst_take hlt hij h)
   obtain ⟨q2, d2, b2, o2, he, _, _, hp2, hc2, _⟩ := (SL.go HV.out HT.out).fcs
   injection he with he1 he4 he3
   subst he1 he3
   obtain rfl := hp2 (by omega)
   obtain ⟨cf, f1, f2, f3, f4⟩ := hc2 ids[k] hij
   obtain ⟨pf, kf, rfl⟩ := f3.form
   have hix2 : (0 : Int) ≤ (ids[k] : Int) ∧ (ids[k] : Int) < (l.length : Int) := by omega
   have hix1 : (0 : Int) ≤ (k : Int) ∧ (k : Int) < (ids.length : Int) := by omega
   have hhf := HI.out.2 _ (List.getElem_mem hij)
   obtain ⟨f, hf⟩ : ∃ f, f = l[ids[k]] := ⟨_, rfl⟩
   rw [← hf] at f2 f3 HWT hhf
   obtain ⟨i, hi⟩ : ∃ i, i = ids[k] := ⟨_, rfl⟩
   rw [← hi] at e0 f2 hix2
   obtain ⟨p3, c3, b3, o3, he, _, _, hpp3, hcc3, _⟩ := f3.rngs
   injection he with he1 he5 he3
   subst he1 he3
   obtain rfl := hpp3 (by omega)
   obtain ⟨x0, x1⟩ := hcc3 h hhf
   have hixh : (0 : Int) ≤ (h : Int) ∧ (h : Int) < (f.hours.length : Int) := by omega
   rw [show (hourAt f (h : Int)).hi = f.hours[h].hi by
    unfold hourAt
    rw [Int.toNat_natCast, List.getD_eq_getElem?_getD, List.getElem?_eq_getElem hhf]; rfl] at HWT
   obtain ⟨y, hy⟩ : ∃ y, y = f.hours[h].hi := ⟨_, rfl⟩
   obtain ⟨n, hn⟩ : ∃ n, n = worstF l (ids.take k) h := ⟨_, rfl⟩
   rw [← hy] at x1 HWT
   rw [← hn] at HWT ⊢
   clear he2 he4 he5 hp1 hc1 hp2 hc2 f1 f3 f4 hij hf hi hhf hpp3 hcc3 x0 hy hn
   by_cases a : n < y
   ·have d : decide (n < y) = true := decide_eq_true a
    have HM := zH (HWT.out.trans (show max n y = y by omega))
    go_wp2
    go_roundw
    case rel => exact ⟨k + 1, by omega, by go_num, by rw [HM.out], HT.out⟩
    case measure => simp [intOf]; omega
   ·have d : decide (n < y) = false := decide_eq_false a
    have HM := zH (HWT.out.trans (show max n y = n by omega))
    go_wp2
    go_roundw
    case rel => exact ⟨k + 1, by omega, by go_num, by rw [HM.out], HT.out⟩
    case measure => simp [intOf]; omega
  ·have hke : k = ids.length := by omega
   subst hke
   rw [List.take_length]
   go_wp2
   go_ret
   exact ⟨rfl, HT.out⟩
def fewLB (l : List Fc) (rs : List Rdg) : Bool := (l.all fun f => decide (f.hours.length ≤ 60) && decide (f.name.size ≤ 20)) && (decide (l.length ≤ 15) && decide (rs.length ≤ 70))
theorem few_any (S : Nat → Prop) (l : List Fc) (rs : List Rdg) (v u : Value) (w : World) (hv : SL S w v l) (hu : SL S w u rs) :
  Calls Try.prog 13 #[v, u] w fun e w' => e = .returned (.bool (fewLB l rs)) ∧ Step w w' := by
 have hm := hv.len
 have HV := zH (SL.go hv (Step.refl _))
 obtain ⟨pv, cv, rfl⟩ := hv.form
 obtain ⟨pu, cu, rfl⟩ := hu.form
 clear hv hu
 go_enter Try.func13, Try.ntmps13
 go_upto_region 2 with (fail)
 go_loopw [5] (fun i wr => ∃ k : Nat, k ≤ l.length ∧ i = .int .i64 k ∧ (∀ j (hj : j < k) (hl : j < l.length), (decide (l[j].hours.length ≤ 60) && decide (l[j].name.size ≤ 20)) = true) ∧ Step w wr) (fun i _ => l.length - (intOf i).toNat)
 case atStart => exact ⟨0, Nat.zero_le _, rfl, fun j hj => absurd hj (by omega), Step.refl _⟩
 case round =>
  obtain ⟨k, hk, rfl, hall, hT⟩ := hrel
  have HT := zH hT
  clear hT
  have HA := zH hall
  clear hall
  by_cases hlt : k < l.length
  ·obtain ⟨q2, d2, b2, o2, he, _, _, hp2, hc2, _⟩ := (SL.go HV.out HT.out).fcs
   injection he with he1 he4 he3
   subst he1 he3
   obtain rfl := hp2 (by omega)
   obtain ⟨cf, f1, f2, f3, f4⟩ := hc2 k hlt
   obtain ⟨pf, kf, rfl⟩ := f3.form
   have hixk : (0 : Int) ≤ (k : Int) ∧ (k : Int) < (l.length : Int) := by omega
   have HNO := zH (fun (h : (decide (l[k].hours.length ≤ 60) && decide (l[k].name.size ≤ 20)) = false) => show fewLB l rs = false by
    unfold fewLB
    rw [Bool.and_eq_false_iff]; left
    rw [← Bool.not_eq_true, List.all_eq_true]
    intro hh
    rw [hh _ (List.getElem_mem hlt)] at h
    exact absurd h (by decide))
   obtain ⟨f, hf⟩ : ∃ f, f = l[k] := ⟨_, rfl⟩
   rw [← hf] at f1 f2 f3 f4 HNO
   have HFF := zH hf
   clear he4 hp2 hc2 f3 hf
   by_cases a : f.hours.length ≤ 60
   ·have d1 : decide (60 < (f.hours.length : Int)) = false := decide_eq_false (by omega)
    by_cases b : f.name.size ≤ 20
    ·have d2 : decide (20 < (f.name.size : Int)) = false := decide_eq_false (by omega)
     have HQ := zH (And.intro a b)
     clear a b
     go_wp2
     go_roundw
     case rel => exact ⟨k + 1, by omega, by go_num, fun j hj hl => if e : j = k then by subst e; rw [← HFF.out]; simp [HQ.out] else HA.out j (by omega) hl, HT.out⟩
     case measure => simp [intOf]; omega
    ·have d2 : decide (20 < (f.name.size : Int)) = true := decide_eq_true (by omega)
     have HR := zH (HNO.out (by simp [b]))
     clear a b
     go_wp2
     go_ret
     exact ⟨by rw [HR.out]; rfl, HT.out⟩
   ·have d1 : decide (60 < (f.hours.length : Int)) = true := decide_eq_true (by omega)
    have HR := zH (HNO.out (by simp [a]))
    clear a
    go_wp2
    go_ret
    exact ⟨by rw [HR.out]; rfl, HT.out⟩
  ·have hke : k = l.length := by omega
   subst hke
   have HALL := zH (show (l.all fun f => decide (f.hours.length ≤ 60) && decide (f.name.size ≤ 20)) = true by
    rw [List.all_eq_true]
    intro f hf
    obtain ⟨j, hj, rfl⟩ := List.getElem_of_mem hf
    exact HA.out j (by omega) hj)
   have HR := zH (show fewLB l rs = (decide (l.length ≤ 15) && decide (rs.length ≤ 70)) by unfold fewLB; rw [HALL.out, Bool.true_and])
   by_cases a : l.length ≤ 15
   ·have d1 : decide ((l.length : Int) ≤ 15) = true := decide_eq_true (by omega)
    by_cases b : rs.length ≤ 70
    ·have d2 : decide ((rs.length : Int) ≤ 70) = true := decide_eq_true (by omega)
     have HX := zH (HR.out.trans (show _ = true by simp [a, b]))
     clear a b
     go_wp2
     go_ret
     exact ⟨by rw [HX.out]; rfl, HT.out⟩
    ·have d2 : decide ((rs.length : Int) ≤ 70) = false := decide_eq_false (by omega)
     have HX := zH (HR.out.trans (show _ = false by simp [b]))
     clear a b
     go_wp2
     go_ret
     exact ⟨by rw [HX.out]; rfl, HT.out⟩
   ·have d1 : decide ((l.length : Int) ≤ 15) = false := decide_eq_false (by omega)
    have HX := zH (HR.out.trans (show _ = false by simp [a]))
    clear a
    go_wp2
    go_ret
    exact ⟨by rw [HX.out]; rfl, HT.out⟩
theorem few_bounds {l : List Fc} {rs : List Rdg} (h : fewLB l rs = true) : l.length ≤ 1000 ∧ rs.length ≤ 1000 ∧ ∀ i (h : i < l.length), l[i].hours.length ≤ 1000 := by
 unfold fewLB at h
 simp only [Bool.and_eq_true, List.all_eq_true, decide_eq_true_eq] at h
 refine ⟨by omega, by omega, fun i hi => ?_⟩
 have := h.1 _ (List.getElem_mem hi)
 omega
theorem GaleStrikes_any (l : List Fc) (rs : List Rdg) (v u : Value) (w : World) (hv : SL (fun _ => False) w v l) (hu : SL (fun _ => False) w u rs) : Calls Try.prog 3 #[v, u] w fun e w' => e = .returned (.bool true) ∧ Step w w' := by
 have HV := zH hv
 have HU := zH hu
 have HT := zH (Step.refl w)
 obtain ⟨pv, cv, rfl⟩ := hv.form
 obtain ⟨pu, cu, rfl⟩ := hu.form
 clear hv hu
 go_enter Try.func3, Try.ntmps3
 go_wp2_with fail
 refine (few_any (fun _ => False) l rs _ _ _ HV.out HU.out).mono ?_
 rintro e wn ⟨rfl, hSn⟩
 have HSN := zH hSn
 have HTn := zH (HT.out.trans hSn)
 clear HT hSn
 have HT := HTn
 clear HTn
 try (have X1 := zH (HV.out.keep (.of_step HSN.out)); clear HV; have HV := X1; clear X1)
 try (have X1 := zH (HU.out.keep (.of_step HSN.out)); clear HU; have HU := X1; clear X1)
 try (have X1 := zH (HF.out.keep (.of_step HSN.out)); clear HF; have HF := X1; clear X1)
 try (have X1 := zH (HR.out.keep (.of_step HSN.out)); clear HR; have HR := X1; clear X1)
 try (have X1 := zH (HA.out.keep (.of_step HSN.out)); clear HA; have HA := X1; clear X1)
 try (have X1 := zH (HB.out.keep (.of_step HSN.out)); clear HB; have HB := X1; clear X1)
 try (have X1 := zH (HC.out.keep (.of_step HSN.out)); clear HC; have HC := X1; clear X1)
 try (have X1 := zH (HD.out.keep (.of_step HSN.out)); clear HD; have HD := X1; clear X1)
 try (have X1 := zH (HE.out.keep (.of_step HSN.out)); clear HE; have HE := X1; clear X1)
 clear HSN
 cases hb : fewLB l rs with
 | false =>
  clear hb
  go_wp2_with fail
  refine (gwakes_any _).mono ?_
  rintro e wn ⟨rfl, hSn⟩
  have HTn := zH (HT.out.trans hSn)
  clear HT hSn
  go_wp2
  go_ret
  exact ⟨rfl, HTn.out⟩
 | true =>
 have HLB := zH (few_bounds hb)
 clear hb
 try clear HF
 go_wp2_with fail
 refine (Forecasts_any (fun _ => False) l _ _ HV.out HLB.out.1 HLB.out.2.2).mono ?_
 rintro e wn ⟨v1, rfl, hv1, hSn⟩
 obtain ⟨pHF, kHF, rfl⟩ := hv1.form
 have X0 := zH (sl0 hv1)
 clear hv1
 have HSN := zH hSn
 have HTn := zH (HT.out.trans hSn)
 clear HT hSn
 have HT := HTn
 clear HTn
 try (have X1 := zH (HV.out.keep (.of_step HSN.out)); clear HV; have HV := X1; clear X1)
 try (have X1 := zH (HU.out.keep (.of_step HSN.out)); clear HU; have HU := X1; clear X1)
 try (have X1 := zH (HF.out.keep (.of_step HSN.out)); clear HF; have HF := X1; clear X1)
 try (have X1 := zH (HR.out.keep (.of_step HSN.out)); clear HR; have HR := X1; clear X1)
 try (have X1 := zH (HA.out.keep (.of_step HSN.out)); clear HA; have HA := X1; clear X1)
 try (have X1 := zH (HB.out.keep (.of_step HSN.out)); clear HB; have HB := X1; clear X1)
 try (have X1 := zH (HC.out.keep (.of_step HSN.out)); clear HC; have HC := X1; clear X1)
 try (have X1 := zH (HD.out.keep (.of_step HSN.out)); clear HD; have HD := X1; clear X1)
 try (have X1 := zH (HE.out.keep (.of_step HSN.out)); clear HE; have HE := X1; clear X1)
 clear HSN
 have HF := X0
 clear X0
 try clear HR
 go_wp2_with fail
 refine (Readings_any (fun _ => False) rs _ _ HU.out HLB.out.2.1).mono ?_
 rintro e wn ⟨v1, rfl, hv1, hSn⟩
 obtain ⟨pHR, kHR, rfl⟩ := hv1.form
 have X0 := zH (sl0 hv1)
 clear hv1
 have HSN := zH hSn
 have HTn := zH (HT.out.trans hSn)
 clear HT hSn
 have HT := HTn
 clear HTn
 try (have X1 := zH (HV.out.keep (.of_step HSN.out)); clear HV; have HV := X1; clear X1)
 try (have X1 := zH (HU.out.keep (.of_step HSN.out)); clear HU; have HU := X1; clear X1)
 try (have X1 := zH (HF.out.keep (.of_step HSN.out)); clear HF; have HF := X1; clear X1)
 try (have X1 := zH (HR.out.keep (.of_step HSN.out)); clear HR; have HR := X1; clear X1)
 try (have X1 := zH (HA.out.keep (.of_step HSN.out)); clear HA; have HA := X1; clear X1)
 try (have X1 := zH (HB.out.keep (.of_step HSN.out)); clear HB; have HB := X1; clear X1)
 try (have X1 := zH (HC.out.keep (.of_step HSN.out)); clear HC; have HC := X1; clear X1)
 try (have X1 := zH (HD.out.keep (.of_step HSN.out)); clear HD; have HD := X1; clear X1)
 try (have X1 := zH (HE.out.keep (.of_step HSN.out)); clear HE; have HE := X1; clear X1)
 clear HSN
 have HR := X0
 clear X0
 go_wp2_with fail
 refine (Strikes_any (fun _ => False) l rs _ _ _ HF.out HR.out).mono ?_
 rintro e wn ⟨v1, v2, rfl, hok, hno, hSn⟩
 obtain ⟨c, hc⟩ : ∃ c, c = readC l rs := ⟨_, rfl⟩
 rw [← hc] at hok hno ⊢
 have HCC := zH hc
 clear hc
 by_cases h0 : c = 0
 rotate_left
 ·obtain ⟨rfl, rfl⟩ := hno h0
  have HWC := zH (show worstC l rs = c by unfold worstC; rw [← HCC.out, if_neg h0])
  have HWR := zH (show worstR l rs = [] by unfold worstR; rw [HWC.out, if_neg h0])
  have H0 := zH h0
  clear hok hno
  have HSN := zH hSn
  have HTn := zH (HT.out.trans hSn)
  clear HT hSn
  have HT := HTn
  clear HTn
  try (have X1 := zH (HV.out.keep (.of_step HSN.out)); clear HV; have HV := X1; clear X1)
  try (have X1 := zH (HU.out.keep (.of_step HSN.out)); clear HU; have HU := X1; clear X1)
  try (have X1 := zH (HF.out.keep (.of_step HSN.out)); clear HF; have HF := X1; clear X1)
  try (have X1 := zH (HR.out.keep (.of_step HSN.out)); clear HR; have HR := X1; clear X1)
  try (have X1 := zH (HA.out.keep (.of_step HSN.out)); clear HA; have HA := X1; clear X1)
  try (have X1 := zH (HB.out.keep (.of_step HSN.out)); clear HB; have HB := X1; clear X1)
  try (have X1 := zH (HC.out.keep (.of_step HSN.out)); clear HC; have HC := X1; clear X1)
  try (have X1 := zH (HD.out.keep (.of_step HSN.out)); clear HD; have HD := X1; clear X1)
  try (have X1 := zH (HE.out.keep (.of_step HSN.out)); clear HE; have HE := X1; clear X1)
  clear HSN
  clear h0
  try clear HF
  go_wp2_with fail
  refine (Forecasts_any (fun _ => False) l _ _ HV.out HLB.out.1 HLB.out.2.2).mono ?_
  rintro e wn ⟨v1, rfl, hv1, hSn⟩
  obtain ⟨pHF, kHF, rfl⟩ := hv1.form
  have X0 := zH (sl0 hv1)
  clear hv1
  have HSN := zH hSn
  have HTn := zH (HT.out.trans hSn)
  clear HT hSn
  have HT := HTn
  clear HTn
  try (have X1 := zH (HV.out.keep (.of_step HSN.out)); clear HV; have HV := X1; clear X1)
  try (have X1 := zH (HU.out.keep (.of_step HSN.out)); clear HU; have HU := X1; clear X1)
  try (have X1 := zH (HF.out.keep (.of_step HSN.out)); clear HF; have HF := X1; clear X1)
  try (have X1 := zH (HR.out.keep (.of_step HSN.out)); clear HR; have HR := X1; clear X1)
  try (have X1 := zH (HA.out.keep (.of_step HSN.out)); clear HA; have HA := X1; clear X1)
  try (have X1 := zH (HB.out.keep (.of_step HSN.out)); clear HB; have HB := X1; clear X1)
  try (have X1 := zH (HC.out.keep (.of_step HSN.out)); clear HC; have HC := X1; clear X1)
  try (have X1 := zH (HD.out.keep (.of_step HSN.out)); clear HD; have HD := X1; clear X1)
  try (have X1 := zH (HE.out.keep (.of_step HSN.out)); clear HE; have HE := X1; clear X1)
  clear HSN
  have HF := X0
  clear X0
  try clear HR
  go_wp2_with fail
  refine (Readings_any (fun _ => False) rs _ _ HU.out HLB.out.2.1).mono ?_
  rintro e wn ⟨v1, rfl, hv1, hSn⟩
  obtain ⟨pHR, kHR, rfl⟩ := hv1.form
  have X0 := zH (sl0 hv1)
  clear hv1
  have HSN := zH hSn
  have HTn := zH (HT.out.trans hSn)
  clear HT hSn
  have HT := HTn
  clear HTn
  try (have X1 := zH (HV.out.keep (.of_step HSN.out)); clear HV; have HV := X1; clear X1)
  try (have X1 := zH (HU.out.keep (.of_step HSN.out)); clear HU; have HU := X1; clear X1)
  try (have X1 := zH (HF.out.keep (.of_step HSN.out)); clear HF; have HF := X1; clear X1)
  try (have X1 := zH (HR.out.keep (.of_step HSN.out)); clear HR; have HR := X1; clear X1)
  try (have X1 := zH (HA.out.keep (.of_step HSN.out)); clear HA; have HA := X1; clear X1)
  try (have X1 := zH (HB.out.keep (.of_step HSN.out)); clear HB; have HB := X1; clear X1)
  try (have X1 := zH (HC.out.keep (.of_step HSN.out)); clear HC; have HC := X1; clear X1)
  try (have X1 := zH (HD.out.keep (.of_step HSN.out)); clear HD; have HD := X1; clear X1)
  try (have X1 := zH (HE.out.keep (.of_step HSN.out)); clear HE; have HE := X1; clear X1)
  clear HSN
  have HR := X0
  clear X0
  go_wp2_with fail
  refine (Worst_any (fun _ => False) l rs _ _ _ HF.out HR.out).mono ?_
  rintro e wn ⟨v1, rfl, hv1, hSn⟩
  rw [HWR.out] at hv1
  rw [HWC.out]
  obtain ⟨p3, k3, rfl⟩ := hv1.form
  clear hv1
  have HSN := zH hSn
  have HTn := zH (HT.out.trans hSn)
  clear HT hSn
  have HT := HTn
  clear HTn
  try (have X1 := zH (HV.out.keep (.of_step HSN.out)); clear HV; have HV := X1; clear X1)
  try (have X1 := zH (HU.out.keep (.of_step HSN.out)); clear HU; have HU := X1; clear X1)
  try (have X1 := zH (HF.out.keep (.of_step HSN.out)); clear HF; have HF := X1; clear X1)
  try (have X1 := zH (HR.out.keep (.of_step HSN.out)); clear HR; have HR := X1; clear X1)
  try (have X1 := zH (HA.out.keep (.of_step HSN.out)); clear HA; have HA := X1; clear X1)
  try (have X1 := zH (HB.out.keep (.of_step HSN.out)); clear HB; have HB := X1; clear X1)
  try (have X1 := zH (HC.out.keep (.of_step HSN.out)); clear HC; have HC := X1; clear X1)
  try (have X1 := zH (HD.out.keep (.of_step HSN.out)); clear HD; have HD := X1; clear X1)
  try (have X1 := zH (HE.out.keep (.of_step HSN.out)); clear HE; have HE := X1; clear X1)
  clear HSN
  rw [List.length_nil]
  clear HF HR
  go_wp2_with fail
  refine (ForecastsFault_any (fun _ => False) l _ _ HV.out).mono ?_
  rintro e wn ⟨rfl, hSn⟩
  have HSN := zH hSn
  have HTn := zH (HT.out.trans hSn)
  clear HT hSn
  have HT := HTn
  clear HTn
  try (have X1 := zH (HV.out.keep (.of_step HSN.out)); clear HV; have HV := X1; clear X1)
  try (have X1 := zH (HU.out.keep (.of_step HSN.out)); clear HU; have HU := X1; clear X1)
  try (have X1 := zH (HF.out.keep (.of_step HSN.out)); clear HF; have HF := X1; clear X1)
  try (have X1 := zH (HR.out.keep (.of_step HSN.out)); clear HR; have HR := X1; clear X1)
  try (have X1 := zH (HA.out.keep (.of_step HSN.out)); clear HA; have HA := X1; clear X1)
  try (have X1 := zH (HB.out.keep (.of_step HSN.out)); clear HB; have HB := X1; clear X1)
  try (have X1 := zH (HC.out.keep (.of_step HSN.out)); clear HC; have HC := X1; clear X1)
  try (have X1 := zH (HD.out.keep (.of_step HSN.out)); clear HD; have HD := X1; clear X1)
  try (have X1 := zH (HE.out.keep (.of_step HSN.out)); clear HE; have HE := X1; clear X1)
  clear HSN
  try clear HF
  go_wp2_with fail
  refine (Forecasts_any (fun _ => False) l _ _ HV.out HLB.out.1 HLB.out.2.2).mono ?_
  rintro e wn ⟨v1, rfl, hv1, hSn⟩
  obtain ⟨pHF, kHF, rfl⟩ := hv1.form
  have X0 := zH (sl0 hv1)
  clear hv1
  have HSN := zH hSn
  have HTn := zH (HT.out.trans hSn)
  clear HT hSn
  have HT := HTn
  clear HTn
  try (have X1 := zH (HV.out.keep (.of_step HSN.out)); clear HV; have HV := X1; clear X1)
  try (have X1 := zH (HU.out.keep (.of_step HSN.out)); clear HU; have HU := X1; clear X1)
  try (have X1 := zH (HF.out.keep (.of_step HSN.out)); clear HF; have HF := X1; clear X1)
  try (have X1 := zH (HR.out.keep (.of_step HSN.out)); clear HR; have HR := X1; clear X1)
  try (have X1 := zH (HA.out.keep (.of_step HSN.out)); clear HA; have HA := X1; clear X1)
  try (have X1 := zH (HB.out.keep (.of_step HSN.out)); clear HB; have HB := X1; clear X1)
  try (have X1 := zH (HC.out.keep (.of_step HSN.out)); clear HC; have HC := X1; clear X1)
  try (have X1 := zH (HD.out.keep (.of_step HSN.out)); clear HD; have HD := X1; clear X1)
  try (have X1 := zH (HE.out.keep (.of_step HSN.out)); clear HE; have HE := X1; clear X1)
  clear HSN
  have HF := X0
  clear X0
  go_wp2_with fail
  refine (CheckForecasts_any (fun _ => False) l _ _ HF.out).mono ?_
  rintro e wn ⟨rfl, hSn⟩
  have HSN := zH hSn
  have HTn := zH (HT.out.trans hSn)
  clear HT hSn
  have HT := HTn
  clear HTn
  try (have X1 := zH (HV.out.keep (.of_step HSN.out)); clear HV; have HV := X1; clear X1)
  try (have X1 := zH (HU.out.keep (.of_step HSN.out)); clear HU; have HU := X1; clear X1)
  try (have X1 := zH (HF.out.keep (.of_step HSN.out)); clear HF; have HF := X1; clear X1)
  try (have X1 := zH (HR.out.keep (.of_step HSN.out)); clear HR; have HR := X1; clear X1)
  try (have X1 := zH (HA.out.keep (.of_step HSN.out)); clear HA; have HA := X1; clear X1)
  try (have X1 := zH (HB.out.keep (.of_step HSN.out)); clear HB; have HB := X1; clear X1)
  try (have X1 := zH (HC.out.keep (.of_step HSN.out)); clear HC; have HC := X1; clear X1)
  try (have X1 := zH (HD.out.keep (.of_step HSN.out)); clear HD; have HD := X1; clear X1)
  try (have X1 := zH (HE.out.keep (.of_step HSN.out)); clear HE; have HE := X1; clear X1)
  clear HSN
  by_cases h1 : forecastsC l = 0
  ·have hl := few_parts (forecasts_ok h1).1
   have hn := hoursN_le h1
   have HRC := zH (show readingsC l rs = c by rw [HCC.out]; unfold readC; rw [if_pos h1])
   rw [h1]
   clear h1
   go_wp2_with fail
   refine (ReadingsFault_any (fun _ => False) l rs _ _ _ HV.out HU.out (by omega) hn.2).mono ?_
   rintro e wn ⟨rfl, hSn⟩
   rw [HRC.out]
   have HSN := zH hSn
   have HTn := zH (HT.out.trans hSn)
   clear HT hSn
   have HT := HTn
   clear HTn
   try (have X1 := zH (HV.out.keep (.of_step HSN.out)); clear HV; have HV := X1; clear X1)
   try (have X1 := zH (HU.out.keep (.of_step HSN.out)); clear HU; have HU := X1; clear X1)
   try (have X1 := zH (HF.out.keep (.of_step HSN.out)); clear HF; have HF := X1; clear X1)
   try (have X1 := zH (HR.out.keep (.of_step HSN.out)); clear HR; have HR := X1; clear X1)
   try (have X1 := zH (HA.out.keep (.of_step HSN.out)); clear HA; have HA := X1; clear X1)
   try (have X1 := zH (HB.out.keep (.of_step HSN.out)); clear HB; have HB := X1; clear X1)
   try (have X1 := zH (HC.out.keep (.of_step HSN.out)); clear HC; have HC := X1; clear X1)
   try (have X1 := zH (HD.out.keep (.of_step HSN.out)); clear HD; have HD := X1; clear X1)
   try (have X1 := zH (HE.out.keep (.of_step HSN.out)); clear HE; have HE := X1; clear X1)
   clear HSN
   clear hl hn
   have d1 : (c != 0) = true := by simpa using H0.out
   go_wp2_with fail
   refine (gwakes_any _).mono ?_
   rintro e wn ⟨rfl, hSn⟩
   have HTn := zH (HT.out.trans hSn)
   clear HT hSn
   go_wp2
   go_ret
   exact ⟨rfl, HTn.out⟩
  ·have HRC := zH (show forecastsC l = c by rw [HCC.out]; unfold readC; rw [if_neg h1])
   rw [HRC.out]
   clear h1
   have d0 : (c == 0) = false := by simpa using H0.out
   have d1 : (c != 0) = true := by simpa using H0.out
   go_wp2_with fail
   refine (gwakes_any _).mono ?_
   rintro e wn ⟨rfl, hSn⟩
   have HTn := zH (HT.out.trans hSn)
   clear HT hSn
   go_wp2
   go_ret
   exact ⟨rfl, HTn.out⟩
 subst h0
 obtain ⟨ha, hb⟩ := hok rfl
 obtain ⟨la, hla⟩ : ∃ L, L = leftI l rs l.length := ⟨_, rfl⟩
 obtain ⟨lb, hlb⟩ : ∃ L, L = strikesTo l rs l.length := ⟨_, rfl⟩
 rw [← hla] at ha
 rw [← hlb] at hb
 have HLL := zH (And.intro hla hlb)
 have HF0 := zH (read_hours HCC.out.symm).1
 obtain ⟨p1, k1, rfl⟩ := ha.form
 obtain ⟨p2, k2, rfl⟩ := hb.form
 have X0 := zH (sl0 ha)
 have X2 := zH (sl0 hb)
 clear ha hb hla hlb hok hno
 have HSN := zH hSn
 have HTn := zH (HT.out.trans hSn)
 clear HT hSn
 have HT := HTn
 clear HTn
 try (have X1 := zH (HV.out.keep (.of_step HSN.out)); clear HV; have HV := X1; clear X1)
 try (have X1 := zH (HU.out.keep (.of_step HSN.out)); clear HU; have HU := X1; clear X1)
 try (have X1 := zH (HF.out.keep (.of_step HSN.out)); clear HF; have HF := X1; clear X1)
 try (have X1 := zH (HR.out.keep (.of_step HSN.out)); clear HR; have HR := X1; clear X1)
 try (have X1 := zH (HA.out.keep (.of_step HSN.out)); clear HA; have HA := X1; clear X1)
 try (have X1 := zH (HB.out.keep (.of_step HSN.out)); clear HB; have HB := X1; clear X1)
 try (have X1 := zH (HC.out.keep (.of_step HSN.out)); clear HC; have HC := X1; clear X1)
 try (have X1 := zH (HD.out.keep (.of_step HSN.out)); clear HD; have HD := X1; clear X1)
 try (have X1 := zH (HE.out.keep (.of_step HSN.out)); clear HE; have HE := X1; clear X1)
 clear HSN
 have HA := X0
 have HB := X2
 clear X0 X2
 try clear HF
 go_wp2_with fail
 refine (Forecasts_any (fun _ => False) l _ _ HV.out HLB.out.1 HLB.out.2.2).mono ?_
 rintro e wn ⟨v1, rfl, hv1, hSn⟩
 obtain ⟨pHF, kHF, rfl⟩ := hv1.form
 have X0 := zH (sl0 hv1)
 clear hv1
 have HSN := zH hSn
 have HTn := zH (HT.out.trans hSn)
 clear HT hSn
 have HT := HTn
 clear HTn
 try (have X1 := zH (HV.out.keep (.of_step HSN.out)); clear HV; have HV := X1; clear X1)
 try (have X1 := zH (HU.out.keep (.of_step HSN.out)); clear HU; have HU := X1; clear X1)
 try (have X1 := zH (HF.out.keep (.of_step HSN.out)); clear HF; have HF := X1; clear X1)
 try (have X1 := zH (HR.out.keep (.of_step HSN.out)); clear HR; have HR := X1; clear X1)
 try (have X1 := zH (HA.out.keep (.of_step HSN.out)); clear HA; have HA := X1; clear X1)
 try (have X1 := zH (HB.out.keep (.of_step HSN.out)); clear HB; have HB := X1; clear X1)
 try (have X1 := zH (HC.out.keep (.of_step HSN.out)); clear HC; have HC := X1; clear X1)
 try (have X1 := zH (HD.out.keep (.of_step HSN.out)); clear HD; have HD := X1; clear X1)
 try (have X1 := zH (HE.out.keep (.of_step HSN.out)); clear HE; have HE := X1; clear X1)
 clear HSN
 have HF := X0
 clear X0
 try clear HR
 go_wp2_with fail
 refine (Readings_any (fun _ => False) rs _ _ HU.out HLB.out.2.1).mono ?_
 rintro e wn ⟨v1, rfl, hv1, hSn⟩
 obtain ⟨pHR, kHR, rfl⟩ := hv1.form
 have X0 := zH (sl0 hv1)
 clear hv1
 have HSN := zH hSn
 have HTn := zH (HT.out.trans hSn)
 clear HT hSn
 have HT := HTn
 clear HTn
 try (have X1 := zH (HV.out.keep (.of_step HSN.out)); clear HV; have HV := X1; clear X1)
 try (have X1 := zH (HU.out.keep (.of_step HSN.out)); clear HU; have HU := X1; clear X1)
 try (have X1 := zH (HF.out.keep (.of_step HSN.out)); clear HF; have HF := X1; clear X1)
 try (have X1 := zH (HR.out.keep (.of_step HSN.out)); clear HR; have HR := X1; clear X1)
 try (have X1 := zH (HA.out.keep (.of_step HSN.out)); clear HA; have HA := X1; clear X1)
 try (have X1 := zH (HB.out.keep (.of_step HSN.out)); clear HB; have HB := X1; clear X1)
 try (have X1 := zH (HC.out.keep (.of_step HSN.out)); clear HC; have HC := X1; clear X1)
 try (have X1 := zH (HD.out.keep (.of_step HSN.out)); clear HD; have HD := X1; clear X1)
 try (have X1 := zH (HE.out.keep (.of_step HSN.out)); clear HE; have HE := X1; clear X1)
 clear HSN
 have HR := X0
 clear X0
 go_wp2_with fail
 refine (Worst_any (fun _ => False) l rs _ _ _ HF.out HR.out).mono ?_
 rintro e wn ⟨v1, rfl, hv1, hSn⟩
 obtain ⟨lw, hlw⟩ : ∃ L, L = worstR l rs := ⟨_, rfl⟩
 obtain ⟨cw, hcw⟩ : ∃ L, L = worstC l rs := ⟨_, rfl⟩
 rw [← hlw] at hv1
 rw [← hcw]
 have HWW := zH (And.intro hlw hcw)
 clear hlw hcw
 clear HF HR
 obtain ⟨pHC, kHC, rfl⟩ := hv1.form
 have X0 := zH (sl0 hv1)
 clear hv1
 have HSN := zH hSn
 have HTn := zH (HT.out.trans hSn)
 clear HT hSn
 have HT := HTn
 clear HTn
 try (have X1 := zH (HV.out.keep (.of_step HSN.out)); clear HV; have HV := X1; clear X1)
 try (have X1 := zH (HU.out.keep (.of_step HSN.out)); clear HU; have HU := X1; clear X1)
 try (have X1 := zH (HF.out.keep (.of_step HSN.out)); clear HF; have HF := X1; clear X1)
 try (have X1 := zH (HR.out.keep (.of_step HSN.out)); clear HR; have HR := X1; clear X1)
 try (have X1 := zH (HA.out.keep (.of_step HSN.out)); clear HA; have HA := X1; clear X1)
 try (have X1 := zH (HB.out.keep (.of_step HSN.out)); clear HB; have HB := X1; clear X1)
 try (have X1 := zH (HC.out.keep (.of_step HSN.out)); clear HC; have HC := X1; clear X1)
 try (have X1 := zH (HD.out.keep (.of_step HSN.out)); clear HD; have HD := X1; clear X1)
 try (have X1 := zH (HE.out.keep (.of_step HSN.out)); clear HE; have HE := X1; clear X1)
 clear HSN
 have HC := X0
 clear X0
 go_wp2_with fail
 refine (ForecastsFault_any (fun _ => False) l _ _ HV.out).mono ?_
 rintro e wn ⟨rfl, hSn⟩
 rw [HF0.out]
 have HSN := zH hSn
 have HTn := zH (HT.out.trans hSn)
 clear HT hSn
 have HT := HTn
 clear HTn
 try (have X1 := zH (HV.out.keep (.of_step HSN.out)); clear HV; have HV := X1; clear X1)
 try (have X1 := zH (HU.out.keep (.of_step HSN.out)); clear HU; have HU := X1; clear X1)
 try (have X1 := zH (HF.out.keep (.of_step HSN.out)); clear HF; have HF := X1; clear X1)
 try (have X1 := zH (HR.out.keep (.of_step HSN.out)); clear HR; have HR := X1; clear X1)
 try (have X1 := zH (HA.out.keep (.of_step HSN.out)); clear HA; have HA := X1; clear X1)
 try (have X1 := zH (HB.out.keep (.of_step HSN.out)); clear HB; have HB := X1; clear X1)
 try (have X1 := zH (HC.out.keep (.of_step HSN.out)); clear HC; have HC := X1; clear X1)
 try (have X1 := zH (HD.out.keep (.of_step HSN.out)); clear HD; have HD := X1; clear X1)
 try (have X1 := zH (HE.out.keep (.of_step HSN.out)); clear HE; have HE := X1; clear X1)
 clear HSN
 try clear HF
 go_wp2_with fail
 refine (Forecasts_any (fun _ => False) l _ _ HV.out HLB.out.1 HLB.out.2.2).mono ?_
 rintro e wn ⟨v1, rfl, hv1, hSn⟩
 obtain ⟨pHF, kHF, rfl⟩ := hv1.form
 have X0 := zH (sl0 hv1)
 clear hv1
 have HSN := zH hSn
 have HTn := zH (HT.out.trans hSn)
 clear HT hSn
 have HT := HTn
 clear HTn
 try (have X1 := zH (HV.out.keep (.of_step HSN.out)); clear HV; have HV := X1; clear X1)
 try (have X1 := zH (HU.out.keep (.of_step HSN.out)); clear HU; have HU := X1; clear X1)
 try (have X1 := zH (HF.out.keep (.of_step HSN.out)); clear HF; have HF := X1; clear X1)
 try (have X1 := zH (HR.out.keep (.of_step HSN.out)); clear HR; have HR := X1; clear X1)
 try (have X1 := zH (HA.out.keep (.of_step HSN.out)); clear HA; have HA := X1; clear X1)
 try (have X1 := zH (HB.out.keep (.of_step HSN.out)); clear HB; have HB := X1; clear X1)
 try (have X1 := zH (HC.out.keep (.of_step HSN.out)); clear HC; have HC := X1; clear X1)
 try (have X1 := zH (HD.out.keep (.of_step HSN.out)); clear HD; have HD := X1; clear X1)
 try (have X1 := zH (HE.out.keep (.of_step HSN.out)); clear HE; have HE := X1; clear X1)
 clear HSN
 have HF := X0
 clear X0
 go_wp2_with fail
 refine (CheckForecasts_any (fun _ => False) l _ _ HF.out).mono ?_
 rintro e wn ⟨rfl, hSn⟩
 rw [HF0.out]
 have HSN := zH hSn
 have HTn := zH (HT.out.trans hSn)
 clear HT hSn
 have HT := HTn
 clear HTn
 try (have X1 := zH (HV.out.keep (.of_step HSN.out)); clear HV; have HV := X1; clear X1)
 try (have X1 := zH (HU.out.keep (.of_step HSN.out)); clear HU; have HU := X1; clear X1)
 try (have X1 := zH (HF.out.keep (.of_step HSN.out)); clear HF; have HF := X1; clear X1)
 try (have X1 := zH (HR.out.keep (.of_step HSN.out)); clear HR; have HR := X1; clear X1)
 try (have X1 := zH (HA.out.keep (.of_step HSN.out)); clear HA; have HA := X1; clear X1)
 try (have X1 := zH (HB.out.keep (.of_step HSN.out)); clear HB; have HB := X1; clear X1)
 try (have X1 := zH (HC.out.keep (.of_step HSN.out)); clear HC; have HC := X1; clear X1)
 try (have X1 := zH (HD.out.keep (.of_step HSN.out)); clear HD; have HD := X1; clear X1)
 try (have X1 := zH (HE.out.keep (.of_step HSN.out)); clear HE; have HE := X1; clear X1)
 clear HSN
 have HLN := zH (few_parts (forecasts_ok HF0.out).1)
 have HN := zH (hoursN_le HF0.out)
 have HRC := zH (show readingsC l rs = 0 by have := HCC.out.symm; unfold readC at this; rwa [if_pos HF0.out] at this)
 clear HF
 go_wp2_with fail
 refine (ReadingsFault_any (fun _ => False) l rs _ _ _ HV.out HU.out (by have := HLN.out; omega) HN.out.2).mono ?_
 rintro e wn ⟨rfl, hSn⟩
 rw [HRC.out]
 have HSN := zH hSn
 have HTn := zH (HT.out.trans hSn)
 clear HT hSn
 have HT := HTn
 clear HTn
 try (have X1 := zH (HV.out.keep (.of_step HSN.out)); clear HV; have HV := X1; clear X1)
 try (have X1 := zH (HU.out.keep (.of_step HSN.out)); clear HU; have HU := X1; clear X1)
 try (have X1 := zH (HF.out.keep (.of_step HSN.out)); clear HF; have HF := X1; clear X1)
 try (have X1 := zH (HR.out.keep (.of_step HSN.out)); clear HR; have HR := X1; clear X1)
 try (have X1 := zH (HA.out.keep (.of_step HSN.out)); clear HA; have HA := X1; clear X1)
 try (have X1 := zH (HB.out.keep (.of_step HSN.out)); clear HB; have HB := X1; clear X1)
 try (have X1 := zH (HC.out.keep (.of_step HSN.out)); clear HC; have HC := X1; clear X1)
 try (have X1 := zH (HD.out.keep (.of_step HSN.out)); clear HD; have HD := X1; clear X1)
 try (have X1 := zH (HE.out.keep (.of_step HSN.out)); clear HE; have HE := X1; clear X1)
 clear HSN
 go_wp2_with fail
 refine (RStrikes_any (fun _ => False) l rs _ _ _ HV.out HU.out HCC.out.symm).mono ?_
 rintro e wn ⟨v1, v2, rfl, ha, hb, hSn⟩
 rw [← HLL.out.1] at ha
 rw [← HLL.out.2] at hb
 obtain ⟨p3, k3, rfl⟩ := ha.form
 obtain ⟨p4, k4, rfl⟩ := hb.form
 have X0 := zH (sl0 ha)
 have X2 := zH (sl0 hb)
 clear ha hb
 have HSN := zH hSn
 have HTn := zH (HT.out.trans hSn)
 clear HT hSn
 have HT := HTn
 clear HTn
 try (have X1 := zH (HV.out.keep (.of_step HSN.out)); clear HV; have HV := X1; clear X1)
 try (have X1 := zH (HU.out.keep (.of_step HSN.out)); clear HU; have HU := X1; clear X1)
 try (have X1 := zH (HF.out.keep (.of_step HSN.out)); clear HF; have HF := X1; clear X1)
 try (have X1 := zH (HR.out.keep (.of_step HSN.out)); clear HR; have HR := X1; clear X1)
 try (have X1 := zH (HA.out.keep (.of_step HSN.out)); clear HA; have HA := X1; clear X1)
 try (have X1 := zH (HB.out.keep (.of_step HSN.out)); clear HB; have HB := X1; clear X1)
 try (have X1 := zH (HC.out.keep (.of_step HSN.out)); clear HC; have HC := X1; clear X1)
 try (have X1 := zH (HD.out.keep (.of_step HSN.out)); clear HD; have HD := X1; clear X1)
 try (have X1 := zH (HE.out.keep (.of_step HSN.out)); clear HE; have HE := X1; clear X1)
 clear HSN
 have HD := X0
 have HE := X2
 clear X0 X2
 go_wp2_with fail
 have hin := gints_any (fun _ => False) la la _ _ _ HA.out HD.out
 rw [show intsB la la = true by simp [intsB]] at hin
 refine hin.mono ?_
 clear hin
 rintro e wn ⟨rfl, hSn⟩
 have HSN := zH hSn
 have HTn := zH (HT.out.trans hSn)
 clear HT hSn
 have HT := HTn
 clear HTn
 try (have X1 := zH (HV.out.keep (.of_step HSN.out)); clear HV; have HV := X1; clear X1)
 try (have X1 := zH (HU.out.keep (.of_step HSN.out)); clear HU; have HU := X1; clear X1)
 try (have X1 := zH (HF.out.keep (.of_step HSN.out)); clear HF; have HF := X1; clear X1)
 try (have X1 := zH (HR.out.keep (.of_step HSN.out)); clear HR; have HR := X1; clear X1)
 try (have X1 := zH (HA.out.keep (.of_step HSN.out)); clear HA; have HA := X1; clear X1)
 try (have X1 := zH (HB.out.keep (.of_step HSN.out)); clear HB; have HB := X1; clear X1)
 try (have X1 := zH (HC.out.keep (.of_step HSN.out)); clear HC; have HC := X1; clear X1)
 try (have X1 := zH (HD.out.keep (.of_step HSN.out)); clear HD; have HD := X1; clear X1)
 try (have X1 := zH (HE.out.keep (.of_step HSN.out)); clear HE; have HE := X1; clear X1)
 clear HSN
 have hlb := HB.out.len
 have HLBM := zH hlb
 clear hlb
 go_upto_region 16 with (fail)
 go_loopw [13] (fun i wr => ∃ k : Nat, k ≤ lb.length ∧ i = .int .i64 k ∧ Step wn wr) (fun i _ => lb.length - (intOf i).toNat)
 case atStart => exact ⟨0, Nat.zero_le _, rfl, Step.refl _⟩
 case round =>
  obtain ⟨k, hk, rfl, hSn⟩ := hrel
  have HTL := zH hSn
  have HSN := zH hSn
  have HTn := zH (HT.out.trans hSn)
  clear HT hSn
  have HT := HTn
  clear HTn
  try (have X1 := zH (HV.out.keep (.of_step HSN.out)); clear HV; have HV := X1; clear X1)
  try (have X1 := zH (HU.out.keep (.of_step HSN.out)); clear HU; have HU := X1; clear X1)
  try (have X1 := zH (HF.out.keep (.of_step HSN.out)); clear HF; have HF := X1; clear X1)
  try (have X1 := zH (HR.out.keep (.of_step HSN.out)); clear HR; have HR := X1; clear X1)
  try (have X1 := zH (HA.out.keep (.of_step HSN.out)); clear HA; have HA := X1; clear X1)
  try (have X1 := zH (HB.out.keep (.of_step HSN.out)); clear HB; have HB := X1; clear X1)
  try (have X1 := zH (HC.out.keep (.of_step HSN.out)); clear HC; have HC := X1; clear X1)
  try (have X1 := zH (HD.out.keep (.of_step HSN.out)); clear HD; have HD := X1; clear X1)
  try (have X1 := zH (HE.out.keep (.of_step HSN.out)); clear HE; have HE := X1; clear X1)
  clear HSN
  have hlm := HLBM.out
  by_cases hlt : k < lb.length
  ·obtain ⟨q2, d2, b2, o2, he, _, _, hq2, hc2, _⟩ := HB.out.vecs
   injection he with he1 he4 he3
   subst he1 he3
   obtain rfl := hq2 (by omega)
   obtain ⟨e0, e1⟩ := hc2 k hlt
   obtain ⟨q3, d3, b3, o3, he, _, _, hq3, hc3, _⟩ := HE.out.vecs
   injection he with he1 he5 he3
   subst he1 he3
   obtain rfl := hq3 (by omega)
   obtain ⟨f0, f1⟩ := hc3 k hlt
   have hixk : (0 : Int) ≤ (k : Int) ∧ (k : Int) < (lb.length : Int) := by omega
   obtain ⟨x, hx⟩ : ∃ x, x = lb[k] := ⟨_, rfl⟩
   rw [← hx] at e0 e1 f0 f1
   obtain ⟨xa, xb⟩ := x
   dsimp only at e0 e1 f0 f1
   clear he4 he5 hq2 hc2 hq3 hc3 hx
   have E0 := zH (And.intro e0 (And.intro e1 (And.intro f0 f1)))
   clear e0 e1 f0 f1
   go_upto_region 18 with (fail)
   obtain ⟨wo, hwo⟩ : ∃ W, W = wr := ⟨_, rfl⟩
   subst hwo
   have HT0 := HT
   clear HT
   have HT := zH (Step.refl wo)
   refine wp_region_seq (kdOf [] []) [0, 0, 3, 7, 0, 0, 48, 112, 240, 0, 0, 1536, 3584, 7680, 16368, 32767] [0, 1, 2, 3, 4, 5, 6, 7, 8, 9, 10, 11, 12, 13, 14, 15] [] (by kernel_rfl) (by kernel_rfl) (fun i T z hi hk => by simp [kdOf] at hk <;> (try (split at hk <;> cases hk))) ?_
   intro Wx hWx
   have HTx := zH (HT.out.trans hWx)
   clear hWx HT
   have HT := HTx
   clear HTx
   have e0 := HT.out.kc E0.out.1
   have e1 := HT.out.kc E0.out.2.1
   have f0 := HT.out.kc E0.out.2.2.1
   have f1 := HT.out.kc E0.out.2.2.2
   repeat ((first | (refine run_off rfl rfl (by rfl) ?_) | (refine run_chain_off rfl rfl (by rfl) (K0_mono _) ?_) | ((refine run_want rfl rfl (by rfl) ⟨?_, fun W hW => ?_, ?_⟩; rotate_left; (· (have d0 := hW.kc e0; have d1 := hW.kc e1; have d2 := hW.kc f0; have d3 := hW.kc f1; go_simp; (try with_reducible rfl)))))); (try simp only [Act.put, zA, zB, zC]))
   clear e0 e1 f0 f1
   refine run_end (L := []) rfl (fun W6 hW6 => ?_)
   have HT6 := zH (HT.out.trans hW6)
   clear hW6 HT
   have HT := HT6
   clear HT6
   go_wp2
   go_roundw
   case rel => exact ⟨k + 1, by omega, by go_num, HTL.out.trans HT.out⟩
   case measure => simp [intOf]; omega
  ·have hke : k = lb.length := by omega
   subst hke
   clear hk hlt HTL hlm
   have HFE := zH (even_parts (forecasts_ok HF0.out).2.1)
   by_cases hl0 : leftN l rs l.length = []
   ·have HX1 := zH (show cw = 7 by rw [HWW.out.2]; unfold worstC; rw [if_pos HCC.out.symm, if_pos hl0])
    have HX2 := zH (show lw = [] by rw [HWW.out.1]; unfold worstR; rw [← HWW.out.2, HX1.out, if_neg (by decide)])
    have HX3 := zH (show la = [] by rw [HLL.out.1]; unfold leftI; rw [hl0]; rfl)
    rw [HX1.out, HX2.out, HX3.out, List.length_nil]
    clear hl0
    go_wp2_with fail
    refine (gwakes_any _).mono ?_
    rintro e wn ⟨rfl, hSn⟩
    have HTn := zH (HT.out.trans hSn)
    clear HT hSn
    go_wp2
    go_ret
    exact ⟨rfl, HTn.out⟩
   ·have HX1 := zH (show cw = 0 by rw [HWW.out.2]; unfold worstC; rw [if_pos HCC.out.symm, if_neg hl0])
    have HX2 := zH (show lw = worstL l (leftN l rs l.length) by rw [HWW.out.1]; unfold worstR; rw [← HWW.out.2, HX1.out, if_pos rfl])
    have HX3 := zH (show la.length ≠ 0 by
     rw [HLL.out.1]; unfold leftI; rw [List.length_map]
     intro e; exact hl0 (List.eq_nil_of_length_eq_zero e))
    have HX4 := zH (show lw.length = hoursN l by rw [HX2.out]; unfold worstL; simp)
    rw [HX1.out]
    have d0 : ((la.length : Int) == 0) = false := beq_eq_false_iff_ne.2 (by have := HX3.out; omega)
    have hl1 := HLN.out.1
    obtain ⟨pl, cl, bl, ol, he, _, _, hpl, hcl, _⟩ := HV.out.fcs
    injection he with he1 he2 he3
    subst he1 he3
    obtain rfl := hpl (by omega)
    obtain ⟨cx, x1, x2, x3, x4⟩ := hcl 0 (by omega)
    obtain ⟨px, kx, rfl⟩ := x3.form
    rw [(HFE.out _ (List.getElem_mem (show 0 < l.length by omega))).2.1, ← HX4.out] at x2
    rw [Nat.zero_mul, Nat.add_zero] at x2
    have hix0 : (0 : Int) < (l.length : Int) := by omega
    have hlwm := HC.out.len
    clear hl0 he2 hpl hcl x1 x3 x4
    obtain ⟨wl, hwl⟩ : ∃ W, W = wr := ⟨_, rfl⟩
    subst hwl
    go_upto_region 25 with (fail)
    clear x2 hix0 d0 hl1
    go_loopw [14] (fun i wr => ∃ k : Nat, k ≤ lw.length ∧ i = .int .i64 k ∧ Step wl wr) (fun i _ => lw.length - (intOf i).toNat)
    case atStart => exact ⟨0, Nat.zero_le _, rfl, Step.refl _⟩
    case round =>
     obtain ⟨k, hk, rfl, hSn⟩ := hrel
     have HTL := zH hSn
     have HSN := zH hSn
     have HTn := zH (HT.out.trans hSn)
     clear HT hSn
     have HT := HTn
     clear HTn
     try (have X1 := zH (HV.out.keep (.of_step HSN.out)); clear HV; have HV := X1; clear X1)
     try (have X1 := zH (HU.out.keep (.of_step HSN.out)); clear HU; have HU := X1; clear X1)
     try (have X1 := zH (HF.out.keep (.of_step HSN.out)); clear HF; have HF := X1; clear X1)
     try (have X1 := zH (HR.out.keep (.of_step HSN.out)); clear HR; have HR := X1; clear X1)
     try (have X1 := zH (HA.out.keep (.of_step HSN.out)); clear HA; have HA := X1; clear X1)
     try (have X1 := zH (HB.out.keep (.of_step HSN.out)); clear HB; have HB := X1; clear X1)
     try (have X1 := zH (HC.out.keep (.of_step HSN.out)); clear HC; have HC := X1; clear X1)
     try (have X1 := zH (HD.out.keep (.of_step HSN.out)); clear HD; have HD := X1; clear X1)
     try (have X1 := zH (HE.out.keep (.of_step HSN.out)); clear HE; have HE := X1; clear X1)
     clear HSN
     by_cases hlt : k < lw.length
     ·obtain ⟨q2, d2, b2, o2, he, _, _, hq2, hc2, _⟩ := HC.out.ints
      injection he with he1 he4 he3
      subst he1 he3
      obtain rfl := hq2 (by omega)
      have e0 := hc2 k hlt
      have hixk : (0 : Int) ≤ (k : Int) ∧ (k : Int) < (lw.length : Int) := by omega
      have hxw : lw[k] = worstF l (leftN l rs l.length) k := by
       have := HX2.out
       subst this
       simp [worstL]
      rw [hxw] at e0
      have HE0 := zH e0
      have hkh : k < hoursN l := by have := HX4.out; omega
      have HKH := zH hkh
      have HAA := zH (show SL (fun _ => False) wr (.slice p3 la.length k3) ((leftN l rs l.length).map fun (i : Nat) => (i : Int)) by have := HD.out; rw [HLL.out.1] at this; rw [HLL.out.1]; exact this)
      clear he4 hq2 hc2 hxw e0 hkh
      go_upto_region 27 with (fail)
      obtain ⟨wo, hwo⟩ : ∃ W, W = wr := ⟨_, rfl⟩
      subst hwo
      have HT0 := HT
      clear HT
      have HT := zH (Step.refl wo)
      refine wp_region_seq (kdOf [7] []) [0, 0, 3, 7, 0, 0, 0, 112, 255] [0, 1, 2, 3, 4, 5, 6, 7, 8] [] (by kernel_rfl) (by kernel_rfl) (fun i T z hi hk => by simp [kdOf] at hk <;> (try (split at hk <;> cases hk))) ?_
      intro Wx hWx
      have HTx := zH (HT.out.trans hWx)
      clear hWx HT
      have HT := HTx
      clear HTx
      have e0 := HT.out.kc HE0.out
      repeat ((first | (refine run_off rfl rfl (by rfl) ?_) | (refine run_chain_off rfl rfl (by rfl) (K0_mono _) ?_) | ((refine run_want rfl rfl (by rfl) ⟨?_, fun W hW => ?_, ?_⟩; rotate_left; (· (have d0 := hW.kc e0; go_simp; (try with_reducible rfl)))))); (try simp only [Act.put, zA, zB, zC]))
      clear e0
      refine run_chain rfl rfl (by rfl) (fun Wi hWi K' hK => ?_)
      have HTi := zH (HT.out.trans hWi)
      clear hWi HT
      go_simp
      refine (RWorst_any (fun _ => False) l (leftN l rs l.length) _ _ k _ (HV.out.keep (.of_step HTi.out)) (HAA.out.keep (.of_step HTi.out)) (fun j hj => left_lt hj) (fun f hf => by rw [(HFE.out f hf).2.1]; exact HKH.out)).mono ?_
      rintro e wn ⟨rfl, hSn⟩
      have HT := zH (HTi.out.trans hSn)
      clear HTi
      refine hK _ _ (StepX.of hSn) ?_
      clear hSn
      (try simp only [Act.put, zA, zB, zC])
      repeat ((first | (refine run_off rfl rfl (by rfl) ?_) | (refine run_chain_off rfl rfl (by rfl) (K0_mono _) ?_) | ((refine run_want rfl rfl (by rfl) ⟨?_, fun W hW => ?_, ?_⟩; rotate_left; (· (skip; go_simp; (try with_reducible rfl)))))); (try simp only [Act.put, zA, zB, zC]))
      refine run_end (L := []) rfl (fun W6 hW6 => ?_)
      have HT6 := zH (HT.out.trans hW6)
      clear hW6 HT
      have HT := HT6
      clear HT6
      go_wp2
      go_roundw
      case rel => exact ⟨k + 1, by omega, by go_num, HTL.out.trans HT.out⟩
      case measure => simp [intOf]; omega
     ·have hke : k = lw.length := by omega
      subst hke
      clear hk hlt HTL
      go_wp2_with fail
      refine (gwakes_any _).mono ?_
      rintro e wn ⟨rfl, hSn⟩
      have HTn := zH (HT.out.trans hSn)
      clear HT hSn
      go_wp2
      go_ret
      exact ⟨rfl, HTn.out⟩
end Go.Proofs.Ytfhmdpicoccnfaa
