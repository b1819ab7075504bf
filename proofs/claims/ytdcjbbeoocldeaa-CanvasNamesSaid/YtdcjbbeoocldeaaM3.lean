/- Clones of guys and heads, pairs of numbers, and the tent without a guy, are walked. -/
import Derived.Test.YtdcjbbeoocldeaaM1
import Derived.Test.YtdcjbbeoocldeaaMz
import Derived.Test.YtdcjbbeoocldeaaRows
/- Walks: the guys and the heads of a tent are cloned. -/
namespace Go.Proofs.Ytdcjbbeoocldeaa
set_option linter.unusedSimpArgs false
set_option linter.unusedVariables false
open Go.RowKit Go.BT

/-- What a list leads to is there; so nothing of it lies in what is made later. -/
theorem SL_avoid {α : Type} [Rep α] {S : Nat → Prop} {w : World} {v : Value} {l : List α} (h : SL S w v l) (g : Nat) (hg : w.heap.size ≤ g) (p : Option Addr) (n c : Nat) (hp : (Value.slice p n c).ownBlock = some g) : SL (avoid S (.slice p n c)) w v l :=
  h.weak fun j hj ht => ht.elim id fun e => by rw [hp] at e; injection e with e; omega
set_option maxHeartbeats 1000000 in
theorem clone_guys (S : Nat → Prop) (l : List Guy) (v : Value) (w : World) (h : SL S w v l) (hl : l.length ≤ 1000000) :
    Calls Try.prog 83 #[v] w fun e w' => ∃ v', e = .returned v' ∧ OwnL (Old w) w.heap.size 91 w' v' l ∧ Step w w' := by
  have hq : ∀ (w : World) (a : Option Addr) (n c n' c' : Nat), (binOp .eql 87 (.slice a n c) (.slice none n' c')).run Try.prog w = .ok (.bool a.isNone) w := fun w a n c n' c' => Lib.run_eql_slice_nil w _ _ a n c n' c' Try.underlying87
  obtain ⟨p, c, rfl⟩ := h.form
  cases p with
  | none =>
    have h0 : l = [] := by
      obtain ⟨p', c', b, o, he, _, _, hp, _⟩ := h
      injection he with he _ _
      cases l with
      | nil => rfl
      | cons x l => rw [← he] at hp; have := hp (by simp); cases this
    subst h0
    have hc : (none : Option Addr).isNone = true := rfl
    go_enter Try.func83, Try.ntmps83
    go_wp2
    go_ret
    exact ⟨_, rfl, OwnL.nil _ _ _ _, Step.refl _⟩
  | some a =>
    have hc : (some a : Option Addr).isNone = false := rfl
    go_enter Try.func83, Try.ntmps83
    go_wp2_with (at_builtin; refine wpl_append (α := Guy) (S := Old w) (base := w.heap.size) (v := .slice (some ⟨w.heap.size, 0, none⟩) 0 0) (l := []) (m := l) eiGuys rfl _ _ rfl rfl rfl ⟨[], World.ownsRow_lit w #[] 0 (Nat.le_refl _) (by simp [maxLen]) (by simp), fun i h => absurd h (by simp)⟩ (SL.flat _ (h.keep (.alloc _ _))) l.length (by simp) l rfl ?_ ?_ ?_ ?_)
    · simp only [maxLen]; omega
    · omega
    · simp
    intro p' c' w' hown hg
    go_wp2
    go_ret
    exact ⟨_, rfl, hown, .of (((Below.refl _ w).alloc (Nat.le_refl _) _).grown hg (by simp) (by simp [Value.ownBlock]))⟩
set_option maxHeartbeats 1000000 in
theorem clone_heads (l : List Head) (v : Value) (w : World) (h : SL (fun _ => False) w v l) (hl : l.length ≤ 1000000) :
    Calls Try.prog 81 #[v] w fun e w' => ∃ v', e = .returned v' ∧ OwnL (fun _ => False) w.heap.size 89 w' v' l ∧ Step w w' := by
  have hq : ∀ (w : World) (a : Option Addr) (n c n' c' : Nat), (binOp .eql 38 (.slice a n c) (.slice none n' c')).run Try.prog w = .ok (.bool a.isNone) w := fun w a n c n' c' => Lib.run_eql_slice_nil w _ _ a n c n' c' Try.underlying38
  have hsl := SL_avoid h w.heap.size (Nat.le_refl _) (some ⟨w.heap.size, 0, none⟩) 0 0 rfl
  obtain ⟨p, c, rfl⟩ := h.form
  cases p with
  | none =>
    have h0 : l = [] := by
      obtain ⟨p', c', b, o, he, _, _, hp, _⟩ := h
      injection he with he _ _
      cases l with
      | nil => rfl
      | cons x l => rw [← he] at hp; have := hp (by simp); cases this
    subst h0
    have hc : (none : Option Addr).isNone = true := rfl
    clear hsl
    go_enter Try.func81, Try.ntmps81
    go_wp2
    go_ret
    exact ⟨_, rfl, OwnL.nil _ _ _ _, Step.refl _⟩
  | some a =>
    have hc : (some a : Option Addr).isNone = false := rfl
    have HSL := Lib.hid hsl
    clear hsl
    go_enter Try.func81, Try.ntmps81
    go_wp2_with (at_builtin; refine wpl_append (α := Head) (S := fun _ => False) (base := w.heap.size) (v := .slice (some ⟨w.heap.size, 0, none⟩) 0 0) (l := []) (m := l) eiHeads rfl _ _ rfl rfl rfl ⟨[], World.ownsRow_lit w #[] 0 (Nat.le_refl _) (by simp [maxLen]) (by simp), fun i h => absurd h (by simp)⟩ (SL.e (HSL.out.keep (.alloc _ _))) l.length (by simp) l rfl ?_ ?_ ?_ ?_)
    · simp only [maxLen]; omega
    · omega
    · simp
    intro p' c' w' hown hg
    go_wp2
    go_ret
    exact ⟨_, rfl, hown, .of (((Below.refl _ w).alloc (Nat.le_refl _) _).grown hg (by simp) (by simp [Value.ownBlock]))⟩
end Go.Proofs.Ytdcjbbeoocldeaa
/- Pairs of numbers, and the law's pairs. -/
namespace Go.Proofs.Ytdcjbbeoocldeaa
set_option linter.unusedSimpArgs false
set_option linter.unusedVariables false
open Go.RowKit Go.BT

theorem equalIn_pair (n : Nat) (a b c d : Int) (w : World) : (Op.equalIn (n + 2) 102 (.agg #[.int .i64 a, .int .i64 b]) (.agg #[.int .i64 c, .int .i64 d])).run Try.prog w = .ok (a == c && b == d) w := by
  have hi : Try.prog.underlying 3 = some (.int .i64) := by kernel_rfl
  have hs : (sizeOf 3).run Try.prog w = .ok 1 w := by kernel_rfl
  have hq : ∀ (a b : Int) (w : World), (Op.equalIn (n + 1) 3 (.int .i64 a) (.int .i64 b)).run Try.prog w = .ok (a == b) w := fun a b w => run_equalIn_int (w := w) n _ _ .i64 _ _ hi
  rw [Op.equalIn]
  simp [Sem.run_bind, run_underlying Try.underlying102, hs, hq, part, isAgg, run_underlying hi, Result.andThen_ok, show List.range' 0 2 = [0, 1] from rfl, List.forIn_cons, List.forIn_nil]
  by_cases h1 : a = c <;> by_cases h2 : b = d <;> simp [h1, h2, Result.andThen]
theorem equal_pair (a b c d : Int) (w : World) : (Op.equal 102 (.agg #[.int .i64 a, .int .i64 b]) (.agg #[.int .i64 c, .int .i64 d])).run Try.prog w = .ok (a == c && b == d) w := equalIn_pair 9998 a b c d w
theorem neq_pair (a b c d : Int) (w : World) : (binOp .neq 102 (.agg #[.int .i64 a, .int .i64 b]) (.agg #[.int .i64 c, .int .i64 d])).run Try.prog w = .ok (.bool (!(veq a b c d))) w := by
  have h := equal_pair a b c d w
  unfold Op.equal Op.maxDepth at h
  rw [run_neq_struct, h]
  rfl
theorem eql_pair (a b c d : Int) (w : World) : (binOp .eql 102 (.agg #[.int .i64 a, .int .i64 b]) (.agg #[.int .i64 c, .int .i64 d])).run Try.prog w = .ok (.bool (veq a b c d)) w := by
  have h := equal_pair a b c d w
  unfold Op.equal Op.maxDepth at h
  rw [run_eql_struct, h]
  rfl
theorem equalIn_pairs (a b c d : Int) (w : World) : (Op.equalIn 10000 102 (.agg #[.int .i64 a, .int .i64 b]) (.agg #[.int .i64 c, .int .i64 d])).run Try.prog w = .ok (veq a b c d) w := equalIn_pair 9998 a b c d w
attribute [local go_sem] neq_pair eql_pair equalIn_pairs
/-- Are two lists of pairs the same? -/
def pairsB (a b : List Vec) : Bool := decide (a = b)
theorem pairs_miss {a b : List Vec} {k : Nat} (ha : k < a.length) (hb : k < b.length) (h : a[k] ≠ b[k]) : pairsB a b = false := by
  unfold pairsB
  rw [decide_eq_false]
  intro e
  subst e
  exact h rfl
theorem pairs_hit {a b : List Vec} {k : Nat} (ha : k < a.length) (hb : k < b.length) (ht : a.take k = b.take k) (h : a[k] = b[k]) : a.take (k + 1) = b.take (k + 1) := by
  rw [List.take_succ_eq_append_getElem ha, List.take_succ_eq_append_getElem hb, ht, h]
theorem pairs_end {a b : List Vec} {k : Nat} (hl : a.length = b.length) (hk : a.length ≤ k) (ht : a.take k = b.take k) : pairsB a b = true := by
  rw [List.take_of_length_le hk, List.take_of_length_le (by omega)] at ht
  simp [pairsB, ht]
theorem vec_ext {a b : Vec} (h : veq a.x a.y b.x b.y = true) : a = b := by
  obtain ⟨h1, h2⟩ := veq_iff.1 h
  cases a; cases b; simp_all
set_option maxRecDepth 100000 in
set_option maxHeartbeats 1000000 in
theorem pairs_any (S : Nat → Prop) (a b : List Vec) (va vb : Value) (w : World) (ha : SL S w va a) (hb : SL S w vb b) :
    Calls Try.prog 49 #[va, vb] w fun e w' => e = .returned (.bool (pairsB a b)) ∧ Step w w' := by
  obtain ⟨pa, ca, ba, oa, rfl, _, hma, hpa, hca, h0a⟩ := ha.vecs
  obtain ⟨pb, cb, bb, ob, rfl, _, hmb, hpb, hcb, h0b⟩ := hb.vecs
  by_cases hl : a.length = b.length
  · have hne : ((a.length : Int) != (b.length : Int)) = false := by simp [hl]
    have Hl := Lib.hid hl
    clear hl
    go_enter Try.func49, Try.ntmps49
    go_wp2
    go_loopw [5] (fun i wr => ∃ k : Nat, k ≤ a.length ∧ i = .int .i64 k ∧ a.take k = b.take k ∧ Below w.heap.size w wr) (fun i _ => a.length - (intOf i).toNat)
    case atStart => exact ⟨0, Nat.zero_le _, rfl, rfl, Below.refl _ _⟩
    case round =>
      obtain ⟨k, hk, rfl, ht, hB⟩ := hrel
      have HT := Lib.hid ht
      clear ht
      by_cases hlt : k < a.length
      · have hltb : k < b.length := by have := Hl.out; omega
        obtain rfl := hpa (by omega)
        obtain rfl := hpb (by omega)
        have e1 := (hB.cell (p := ⟨ba, oa + k * 2, none⟩) (h0a (by omega)).1).trans (hca k hlt).1
        have e2 := (hB.cell (p := ⟨ba, oa + k * 2 + 1, none⟩) (h0a (by omega)).1).trans (hca k hlt).2
        have e3 := (hB.cell (p := ⟨bb, ob + k * 2, none⟩) (h0b (by omega)).1).trans (hcb k hltb).1
        have e4 := (hB.cell (p := ⟨bb, ob + k * 2 + 1, none⟩) (h0b (by omega)).1).trans (hcb k hltb).2
        have hx : (0 : Int) ≤ (k : Int) ∧ (k : Int) < (a.length : Int) := by omega
        have hy : (0 : Int) ≤ (k : Int) ∧ (k : Int) < (b.length : Int) := by omega
        clear hpa hpb hca hcb h0a h0b
        obtain ⟨q, hq⟩ : ∃ q, q = veq a[k].x a[k].y b[k].x b[k].y := ⟨_, rfl⟩
        have HQ := Lib.hid hq
        have hg : Try.prog.eqGuardType Try.prog.depth 102 = false := by kernel_rfl
        go_wp2
        go_quiet (fail)
        rw [← hq]
        clear hq hg
        cases q with
        | false =>
          go_wp2
          go_ret
          exact ⟨by rw [pairs_miss hlt hltb (fun e => by have := HQ.out; rw [e, veq_self] at this; exact absurd this (by decide))]; rfl, .of (below_drewN hB _)⟩
        | true =>
          go_wp2
          go_roundw
          case rel => exact ⟨k + 1, by omega, by go_num, pairs_hit hlt hltb HT.out (vec_ext HQ.out.symm), below_drewN hB _⟩
          case measure => simp [intOf]; omega
      · go_wp2
        go_ret
        exact ⟨by rw [pairs_end Hl.out (by omega) HT.out]; rfl, .of hB⟩
  · have hne : ((a.length : Int) != (b.length : Int)) = true := by simp; omega
    go_enter Try.func49, Try.ntmps49
    go_wp2
    go_ret
    refine ⟨?_, Step.refl _⟩
    have : a ≠ b := fun h => hl (by rw [h])
    simp [pairsB, this]
end Go.Proofs.Ytdcjbbeoocldeaa
/- Walks: the document's Without: a tent without a guy. -/
namespace Go.Proofs.Ytdcjbbeoocldeaa
set_option linter.unusedSimpArgs false
set_option linter.unusedVariables false
open Go.RowKit Go.BT

theorem infoRHead : (Try.prog.info? 49).map (fun i => (i.zero, i.size, i.bytes)) = some (some (.agg #[.int .i64 0, .int .i64 0, .slice none 0 0]), 3, 40) := by kernel_rfl
theorem eiRHeads : EI Try.prog 24 49 (.agg #[.int .i64 0, .int .i64 0, .slice none 0 0]) 3 40 := .mk' Try.underlying24 infoRHead rfl
theorem infoRGuy : (Try.prog.info? 75).map (fun i => (i.zero, i.size, i.bytes)) = some (some (.agg #[.int .i64 0, .int .i64 0, .int .i64 0, .int .i64 0, .int .i64 0]), 5, 40) := by kernel_rfl
theorem eiRGuys : EI Try.prog 47 75 (.agg #[.int .i64 0, .int .i64 0, .int .i64 0, .int .i64 0, .int .i64 0]) 5 40 := .mk' Try.underlying47 infoRGuy rfl
/-- A head without a guy. -/
def lessH (h : Head) (k : Nat) : Head := ⟨h.area, h.bears, h.guys.take k ++ h.guys.drop (k + 1)⟩
/-- A tent without a guy. -/
def withoutL (t : List Head) (i k : Nat) : List Head := match t[i]? with
  | some h => t.set i (lessH h k)
  | none => t
theorem without_get {t : List Head} {i k : Nat} (hi : i < t.length) : withoutL t i k = t.set i (lessH t[i] k) := by
  unfold withoutL
  rw [List.getElem?_eq_getElem hi]
/-- A tent in a row of its own, whose guys lie elsewhere, opened. -/
theorem OwnL.opened {base : Nat} {e : TypeId} {w : World} {v : Value} {t : List Head} (h : OwnL (fun _ => False) base e w v t) (ht : 0 < t.length) :
    ∃ g c, v = .slice (some ⟨g, 0, none⟩) t.length c ∧ t.length ≤ c ∧ t.length ≤ 9223372036854775807 ∧ base ≤ g ∧ (∃ cs, Bx w g cs e) ∧
      ∀ i (hi : i < t.length), ∃ q, w.cell? ⟨g, i * 3, none⟩ = some (.int .i64 t[i].area) ∧ w.cell? ⟨g, i * 3 + 1, none⟩ = some (.int .i64 t[i].bears) ∧ w.cell? ⟨g, i * 3 + 2, none⟩ = some q ∧ SL (fun j => j = g) w q t[i].guys := by
  have hsl := h.sl (fun _ _ _ h => h)
  obtain ⟨xs, ⟨hx, ho⟩, hr⟩ := h
  rcases ho with ⟨_, h0⟩ | ⟨g, cap, cur, rfl, hb, hg, hle, hcap, hsz, hcur⟩
  · omega
  obtain ⟨p, c', b, o, hv, h1, h2, hp, hc⟩ := hsl
  have hbo := hp (by omega)
  injection hv with e1 e2 e3
  rw [← e1] at hbo
  injection hbo with hbo
  injection hbo with hbo1 hbo2
  subst hbo1 hbo2
  refine ⟨g, cap, rfl, hle, h2, hb, ⟨cur.toList, by unfold Bx; simpa using hg⟩, fun i hi => ?_⟩
  obtain ⟨q, hq, hs⟩ := hr i hi
  have k3 : Rep.k Head = 3 := rfl
  rw [k3] at hq hsz hcur hx
  have hcell : ∀ j u, ((xs.drop (i * 3)).take 3)[j]? = some u → j < 3 → w.cell? ⟨g, i * 3 + j, none⟩ = some u := fun j u hu hj => by
    rw [← hcur] at hu
    rw [List.getElem?_take_of_lt hj, List.getElem?_drop, List.getElem?_take_of_lt (by omega)] at hu
    simp [World.cell?, hg]
    simpa using hu
  have hs' := hs.weak (T := fun j => j = g) (fun j _ e => by subst e; exact .inr rfl)
  exact ⟨q, by have := hcell 0 _ (by rw [hq]; rfl) (by omega); simpa using this, by have := hcell 1 _ (by rw [hq]; rfl) (by omega); simpa using this, by have := hcell 2 _ (by rw [hq]; rfl) (by omega); simpa using this, hs'⟩
/-- A head written anew. -/
theorem tent_set {w : World} {g c : Nat} {t : List Head} {i : Nat} (hi : i < t.length) (hlt : g < w.heap.size) (hc : t.length ≤ c) (hm : t.length ≤ 9223372036854775807)
    (h : ∀ j (hj : j < t.length), ∃ q, w.cell? ⟨g, j * 3, none⟩ = some (.int .i64 t[j].area) ∧ w.cell? ⟨g, j * 3 + 1, none⟩ = some (.int .i64 t[j].bears) ∧ w.cell? ⟨g, j * 3 + 2, none⟩ = some q ∧ SL (fun j => j = g) w q t[j].guys)
    {a b : Int} {q : Value} {gs : List Guy} (hq : SL (fun j => j = g) w q gs) :
    SL (fun _ => False) (((w.setCell ⟨g, i * 3, none⟩ (.int .i64 a)).setCell ⟨g, i * 3 + 1, none⟩ (.int .i64 b)).setCell ⟨g, i * 3 + 2, none⟩ q) (.slice (some ⟨g, 0, none⟩) t.length c) (t.set i ⟨a, b, gs⟩) := by
  have hk : Keeps (fun j => j = g) w (((w.setCell ⟨g, i * 3, none⟩ (.int .i64 a)).setCell ⟨g, i * 3 + 1, none⟩ (.int .i64 b)).setCell ⟨g, i * 3 + 2, none⟩ q) :=
    ((Keeps.wrote (S := fun j => j = g) (Wrote.setCell _ _ _ _) rfl).trans (Keeps.wrote (S := fun j => j = g) (Wrote.setCell _ _ _ _) rfl)).trans (Keeps.wrote (S := fun j => j = g) (Wrote.setCell _ _ _ _) rfl)
  have far : ∀ (w : World) (o o' : Nat) (v : Value), o ≠ o' → (w.setCell ⟨g, o, none⟩ v).cell? ⟨g, o', none⟩ = w.cell? ⟨g, o', none⟩ := fun w o o' v hne => World.cell?_setCell_other _ _ _ _ (by intro e; injection e with _ e _; exact hne e)
  rw [show t.length = (t.set i ⟨a, b, gs⟩).length by simp]
  refine tent_sl (Nat.lt_of_lt_of_le hlt hk.1) (by simpa using hc) (by simpa using hm) fun j hj => ?_
  have hj' : j < t.length := by simpa using hj
  obtain ⟨q', c1, c2, c3, hs⟩ := h j hj'
  by_cases r : i = j
  · subst r
    refine ⟨q, ?_, ?_, ?_, ?_⟩
    · rw [far _ _ _ _ (by omega), far _ _ _ _ (by omega), World.cell?_setCell_same _ _ _ c1]; simp
    · rw [far _ _ _ _ (by omega), World.cell?_setCell_same _ _ _ (by rw [far _ _ _ _ (by omega)]; exact c2)]; simp
    · rw [World.cell?_setCell_same _ _ _ (by rw [far _ _ _ _ (by omega), far _ _ _ _ (by omega)]; exact c3)]
    · simpa using (hq.keep hk).weak (T := fun _ => False) (fun _ _ h => h.elim)
  · refine ⟨q', ?_, ?_, ?_, ?_⟩
    · rw [far _ _ _ _ (by omega), far _ _ _ _ (by omega), far _ _ _ _ (by omega), c1]; simp [List.getElem_set, r]
    · rw [far _ _ _ _ (by omega), far _ _ _ _ (by omega), far _ _ _ _ (by omega), c2]; simp [List.getElem_set, r]
    · rw [far _ _ _ _ (by omega), far _ _ _ _ (by omega), far _ _ _ _ (by omega), c3]
    · simpa [List.getElem_set, r] using (hs.keep hk).weak (T := fun _ => False) (fun _ _ h => h.elim)
theorem _root_.Go.BT.SL.front {α : Type} [Rep α] {S : Nat → Prop} {w : World} {p : Option Addr} {n c : Nat} {l : List α} (h : SL S w (.slice p n c) l) {k : Nat} (hk : k ≤ l.length) : SL S w (.slice p k c) (l.take k) := by
  obtain ⟨p', c2, b, o, hv, hc, hm, hp, ha⟩ := h
  injection hv with e1 e2 e3
  subst e1 e2 e3
  refine ⟨_, c, b, o, by simp [Nat.min_eq_left hk], by simp; omega, by simp; omega, fun h0 => hp (by simp at h0; omega), fun i hi => ?_⟩
  have hi' : i < l.length := by simp at hi; omega
  rw [List.getElem_take]
  exact ha i hi'
theorem _root_.Go.BT.SL.back {α : Type} [Rep α] {S : Nat → Prop} {w : World} {b o n c : Nat} {l : List α} (h : SL S w (.slice (some ⟨b, o, none⟩) n c) l) {k : Nat} (hk : k ≤ l.length) (c' : Nat) (hc' : n - k ≤ c') (q : Option Addr) (hq : k < n → q = some ⟨b, o + k * Rep.k α, none⟩) : SL S w (.slice q (n - k) c') (l.drop k) := by
  obtain ⟨p', c2, b', o', hv, hc, hm, hp, ha⟩ := h
  injection hv with e1 e2 e3
  subst e2 e3
  refine ⟨q, c', b, o + k * Rep.k α, by simp, by simp; omega, by simp; omega, fun h0 => hq (by simp at h0; omega), fun i hi => ?_⟩
  have hi' : k + i < l.length := by simp at hi; omega
  have hb := hp (by omega)
  rw [← e1] at hb
  injection hb with hb
  injection hb with hb1 hb2
  subst hb1 hb2
  rw [List.getElem_drop]
  have := ha (k + i) hi'
  rw [Nat.add_mul, ← Nat.add_assoc] at this
  exact this
set_option maxRecDepth 100000 in
set_option maxHeartbeats 4000000 in
theorem Without_any (t : List Head) (i k : Nat) (v : Value) (w : World) (hv : SL (fun _ => False) w v t) (hi : i < t.length) (hk : k < t[i].guys.length) (hn : fewT t) :
    Calls Try.prog 51 #[v, .int .i64 i, .int .i64 k] w fun e w' => ∃ v', e = .returned v' ∧ SL (fun _ => False) w' v' (withoutL t i k) ∧ Step w w' := by
  have hsl := SL_avoid hv w.heap.size (Nat.le_refl _) (some ⟨w.heap.size, 0, none⟩) 0 0 rfl
  obtain ⟨pv, cv, rfl⟩ := hv.form
  have HV := Lib.hid hv
  have HSL := Lib.hid hsl
  have HN := Lib.hid hn
  have HI := Lib.hid (And.intro hi hk)
  clear hsl hv hn
  go_enter Try.func51, Try.ntmps51
  go_wp2_with (at_builtin; refine wpl_append (α := Head) (S := fun _ => False) (base := w.heap.size) (v := .slice (some ⟨w.heap.size, 0, none⟩) 0 0) (l := []) (m := t) eiRHeads rfl _ _ rfl rfl rfl ⟨[], World.ownsRow_lit w #[] 0 (Nat.le_refl _) (by simp [maxLen]) (by simp), fun i h => absurd h (by simp)⟩ (SL.e (HSL.out.keep (.alloc _ _))) t.length (by simp) t rfl ?_ ?_ ?_ ?_)
  · have := HN.out.1; simp only [maxLen]; omega
  · have := HN.out.1; omega
  · simp
  intro p' c' w' hown hg
  have HO := Lib.hid hown
  have HT := Lib.hid (show Step w w' from .of (((Below.refl _ w).alloc (Nat.le_refl _) _).grown hg (by simp) (by simp [Value.ownBlock])))
  clear hown hg
  obtain ⟨g, cg, hpg, hcap, hmx, hgb, hbx, hc⟩ := OwnL.opened HO.out (by omega)
  injection hpg with e1 _ e3
  subst e1 e3
  have HG := Lib.hid (And.intro hcap (And.intro hmx (And.intro hgb (And.intro hbx hc))))
  obtain ⟨q, c1, c2, c3, hq⟩ := hc i hi
  have hix : (0 : Int) ≤ (i : Int) ∧ (i : Int) < (t.length : Int) := by omega
  obtain ⟨h, hh⟩ : ∃ h, h = t[i] := ⟨_, rfl⟩
  rw [← hh] at c1 c2 hq hk
  have HH := Lib.hid hh
  obtain ⟨pq, cq, rfl⟩ := hq.form
  have HQ := Lib.hid hq
  obtain ⟨_, _, bq, oq, hvq, hqc, _, hpq, _, _⟩ := hq.guys
  injection hvq with e1 _ e3
  subst e1 e3
  obtain rfl := hpq (by omega)
  clear hcap hmx hgb hbx hc hh hq hpq
  go_upto_region 3 with (fail)
  obtain ⟨wa, hwa⟩ : ∃ W, W = w'.alloc (.cells #[.int .i64 h.area, .int .i64 h.bears, .slice (some ⟨bq, oq, none⟩) h.guys.length cq] 49) := ⟨_, rfl⟩
  have HBX := Lib.hid (show Bx wa w'.heap.size [.int .i64 h.area, .int .i64 h.bears, .slice (some ⟨bq, oq, none⟩) h.guys.length cq] 49 by rw [hwa]; exact Bx.new w' [_, _, _] _)
  have HTA := Lib.hid (show Step w' wa by rw [hwa]; exact Step.alloc _ _)
  have HSZ := Lib.hid (show wa.heap.size = w'.heap.size + 1 by rw [hwa]; simp)
  rw [← hwa]
  have HGL := Lib.hid (show g < w'.heap.size from World.block_lt_of_cell? w' _ c1)
  clear hwa c1 c2 c3 hix
  have hs1 : IntKind.i64.wrap ((k : Int) + 1) = (k : Int) + 1 := by have := HQ.out.len; rw [IntKind.wrap_i64]; omega
  have htn : ((k : Int) + 1).toNat = k + 1 := by omega
  have hin1 : (0 : Int) ≤ (k : Int) ∧ (k : Int) ≤ (cq : Int) := by omega
  have hin2 : (0 : Int) ≤ (k : Int) + 1 ∧ (k : Int) + 1 ≤ (h.guys.length : Int) := by omega
  have hin3 : (h.guys.length : Int) ≤ (cq : Int) := by omega
  have HSZ0 := Lib.hid HT.out.size
  by_cases hcz : cq = k + 1
  · have hcz2 : cq - (k + 1) = 0 := by omega
    have HCZ := Lib.hid hcz
    clear hcz
    skip
    refine Late.wp_region_late (fun j => wa.heap.size ≤ j) (fun c d v a w h => by cases d <;> exact h) (kdOf [0, 5] []) [0, 0, 2, 0, 14, 31, 0, 64, 0, 256, 960, 2047, 4095, 8191] [1, 2, 3, 4, 6, 7, 8, 9, 10, 0, 5] 11 [12, 13] (by kernel_rfl) (by kernel_rfl) (fun i T z hi hk => by simp [kdOf] at hk <;> (try (split at hk <;> cases hk))) ?_
    intro Wx hWx
    have HT3 := Lib.hid hWx
    clear hWx
    have hnb : ¬ wa.heap.size ≤ w'.heap.size := by have := HSZ.out; omega
    have x2 := (HBX.out.step HT3.out).cell 2
    simp only [List.getElem?_cons_zero, List.getElem?_cons_succ] at x2
    repeat (first | (refine Late.run_off rfl rfl (by rfl) ?_; (try simp only [Act.put, List.setIfInBounds_toArray, List.set_cons_zero, List.set_cons_succ])) | ((refine Late.run_want rfl rfl (by rfl) ⟨?_, fun W hW => ?_, ?_⟩; rotate_left; (· (have d0 := hW.keeps.cell hnb x2; go_simp; (try with_reducible rfl)))); (try simp only [Act.put, List.setIfInBounds_toArray, List.set_cons_zero, List.set_cons_succ])))
    clear x2
    refine Late.run_chain rfl rfl (by rfl) (fun Wi hWi K' hK => ?_)
    go_simp
    refine hK _ _ (.of (Step.alloc _ _)) ?_
    (try simp only [Act.put, List.setIfInBounds_toArray, List.set_cons_zero, List.set_cons_succ])
    have HOWN := Lib.hid (ownL_lit (α := Guy) (fun _ => False) wa.heap.size 75 Wi (HT3.out.trans hWi).size)
    have HT4 := Lib.hid ((HT3.out.trans hWi).trans (Step.alloc Wi (.cells #[] 75)))
    obtain ⟨gl, hgl⟩ : ∃ g, g = Wi.heap.size := ⟨_, rfl⟩
    rw [← hgl] at HOWN ⊢
    clear hgl hK hWi HT3
    generalize Wi.alloc (.cells #[] 75) = WA at *
    refine Late.run_chain rfl rfl (by rfl) (fun Wi hWi K' hK => ?_)
    have hq5 := SL.go ((HQ.out.weak (T := fun _ => False) (fun _ _ h => h.elim))) (HTA.out.trans (HT4.out.trans hWi))
    have HQ5 := Lib.hid hq5
    have hu5 := SL.flat (avoid (fun _ => False) (.slice (some ⟨gl, 0, none⟩) 0 0)) (hq5.front (show k ≤ h.guys.length by omega))
    have hg10 : h.guys.length ≤ 10 := by rw [HH.out]; exact HN.out.2 i hi
    refine wp_append_empty (α := Guy) (S := fun _ => False) (base := wa.heap.size) eiRGuys gl _ _ rfl rfl rfl (HOWN.out.step hWi) hu5 k (by rw [List.length_take]; omega) (by simp only [maxLen]; omega) (by omega) (HT4.out.trans hWi).size ?_
    intro p5 c5 w5 hown5 hs5
    have HO5 := Lib.hid hown5
    have HQ55 := Lib.hid (SL.go HQ5.out hs5)
    have HT5 := Lib.hid (HT4.out.trans (hWi.trans hs5))
    refine hK _ _ (.of hs5) ?_
    clear hK hWi hq5 hu5 hown5 hs5 HOWN HT4 HQ5
    (try simp only [Act.put, List.setIfInBounds_toArray, List.set_cons_zero, List.set_cons_succ])
    refine Late.run_end rfl rfl (L := [_, _]) rfl (fun W6 hW6 K6 hK6 => ?_)
    have hq6 := SL.go HQ55.out hW6
    have HT6 := Lib.hid (HT5.out.trans hW6)
    have hown6 := HO5.out.step hW6
    have hu6 := SL.flat (avoid (fun _ => False) (.slice p5 k c5)) (hq6.back (k := k + 1) (by omega) (0) (by have := HCZ.out; omega) (if cq = k + 1 then some ⟨bq, oq, none⟩ else some ⟨bq, oq + (k + 1) * 5, none⟩) (fun hlt => by first | rfl | (have := HCZ.out; exfalso; omega)))
    have hln : (h.guys.take k).length + (h.guys.drop (k + 1)).length = h.guys.length - 1 := by rw [List.length_take, List.length_drop]; omega
    refine wp_append_L (α := Guy) (S := fun _ => False) (base := wa.heap.size) (v := .slice p5 k c5) (l := h.guys.take k) (m := h.guys.drop (k + 1)) eiRGuys _ _ rfl rfl rfl hown6 hu6 (h.guys.length - 1) hln (h.guys.take k ++ h.guys.drop (k + 1)) rfl (by simp only [maxLen]; omega) (by omega) HT6.out.size ?_
    intro p6 c6 w6 hown7 hg7
    have hrow : ∀ j, (Value.slice p5 k c5).ownBlock = some j → wa.heap.size ≤ j := fun j hj => (hown6.lt j hj).1
    have hst7 : Step wa w6 := .of (HT6.out.below.grown hg7 HT6.out.size hrow)
    have HO7 := Lib.hid hown7
    have HT7 := Lib.hid hst7
    refine hK6 _ _ (StepX.grown hg7 fun j hj _ => hrow j hj) ?_
    clear hK6 hW6 hq6 hown6 hu6 hln hown7 hg7 hrow hst7 HT6 HT5 HO5 HQ55
    (try simp only [Act.put, List.setIfInBounds_toArray, List.set_cons_zero, List.set_cons_succ])
    have hbx7 := HBX.out.step HT7.out
    have x1 := hbx7.cell 2
    have z1 := hbx7.frozen 2
    have xl := hbx7.lt
    simp only [List.getElem?_cons_zero, List.getElem?_cons_succ] at x1
    go_upto_region 4 with (fail)
    have hb8 := hbx7.setCell 2 (.slice p6 (h.guys.length - 1) c6)
    have hst8 : Step w' (w6.setCell ⟨w'.heap.size, 2, none⟩ (.slice p6 (h.guys.length - 1) c6)) := Step.setNew (HTA.out.trans HT7.out) _ _ (Nat.le_refl _)
    have hne8 : (Value.slice p6 (h.guys.length - 1) c6).ownBlock ≠ some w'.heap.size := own_apart HO7.out hbx7 (by decide)
    have ho8 : SL (fun j => j = g) (w6.setCell ⟨w'.heap.size, 2, none⟩ (.slice p6 (h.guys.length - 1) c6)) (.slice p6 (h.guys.length - 1) c6) (h.guys.take k ++ h.guys.drop (k + 1)) := by
      have h1 := (ownL_flat (fun j => j = g ∨ j = w'.heap.size) HO7.out).slb (fun g' hg' e => by
        have h2 := HO7.out.lt _ hg'
        have h3 := HSZ.out
        have h4 := HGL.out
        rcases e with e | e <;> omega)
      exact (h1.keep (Keeps.wrote (Wrote.setCell _ _ _ _) (.inr rfl))).weak (fun _ _ h => .inl h)
    have hng : ¬ w'.heap.size = g := by have := HGL.out; omega
    have H8 := Lib.hid (And.intro hb8 (And.intro hst8 ho8))
    clear hbx7 x1 z1 xl hb8 hst8 hne8 ho8 HO7 HT7 HBX HTA
    generalize w6.setCell ⟨w'.heap.size, 2, none⟩ (.slice p6 (h.guys.length - 1) c6) = w8 at *
    obtain ⟨cs, hbg⟩ := HG.out.2.2.2.1
    have hbg8 := hbg.step H8.out.2.1
    have z8 := hbg8.frozen
    have l8 := hbg8.lt
    obtain ⟨qq, k1, k2, k3, _⟩ := HG.out.2.2.2.2 i hi
    have k1 := H8.out.2.1.keeps.cell id k1
    have k2 := H8.out.2.1.keeps.cell id k2
    have k3 := H8.out.2.1.keeps.cell id k3
    have y0 := H8.out.1.cell 0
    have y1 := H8.out.1.cell 1
    have y2 := H8.out.1.cell 2
    have zz0 := z8 (i * 3)
    have zz1 := z8 (i * 3 + 1)
    have zz2 := z8 (i * 3 + 2)
    simp only [List.set_cons_zero, List.set_cons_succ, List.getElem?_cons_zero, List.getElem?_cons_succ] at y0 y1 y2
    have hix : (0 : Int) ≤ (i : Int) ∧ (i : Int) < (t.length : Int) := by omega
    clear z8 hbg hbg8
    have hfin := tent_set hi l8 HG.out.1 HG.out.2.1 (fun j hj => by
      obtain ⟨qj, e1, e2, e3, e4⟩ := HG.out.2.2.2.2 j hj
      exact ⟨qj, H8.out.2.1.keeps.cell id e1, H8.out.2.1.keeps.cell id e2, H8.out.2.1.keeps.cell id e3, e4.keep (.of_step H8.out.2.1)⟩) (a := h.area) (b := h.bears) H8.out.2.2
    have hfs := Step.setNew (Step.setNew (Step.setNew (HT.out.trans H8.out.2.1) ⟨g, i * 3, none⟩ (.int .i64 h.area) HG.out.2.2.1) ⟨g, i * 3 + 1, none⟩ (.int .i64 h.bears) HG.out.2.2.1) ⟨g, i * 3 + 2, none⟩ (.slice p6 (h.guys.length - 1) c6) HG.out.2.2.1
    have HF := Lib.hid (And.intro hfin hfs)
    clear hfin hfs
    go_wp2
    go_ret
    refine ⟨_, rfl, ?_, HF.out.2⟩
    rw [without_get hi, ← HH.out]
    exact HF.out.1
  · have hcz2 : ¬ cq - (k + 1) = 0 := by omega
    skip
    refine Late.wp_region_late (fun j => wa.heap.size ≤ j) (fun c d v a w h => by cases d <;> exact h) (kdOf [0, 5] []) [0, 0, 2, 0, 14, 31, 0, 64, 0, 256, 960, 2047, 4095, 8191] [1, 2, 3, 4, 6, 7, 8, 9, 10, 0, 5] 11 [12, 13] (by kernel_rfl) (by kernel_rfl) (fun i T z hi hk => by simp [kdOf] at hk <;> (try (split at hk <;> cases hk))) ?_
    intro Wx hWx
    have HT3 := Lib.hid hWx
    clear hWx
    have hnb : ¬ wa.heap.size ≤ w'.heap.size := by have := HSZ.out; omega
    have x2 := (HBX.out.step HT3.out).cell 2
    simp only [List.getElem?_cons_zero, List.getElem?_cons_succ] at x2
    repeat (first | (refine Late.run_off rfl rfl (by rfl) ?_; (try simp only [Act.put, List.setIfInBounds_toArray, List.set_cons_zero, List.set_cons_succ])) | ((refine Late.run_want rfl rfl (by rfl) ⟨?_, fun W hW => ?_, ?_⟩; rotate_left; (· (have d0 := hW.keeps.cell hnb x2; go_simp; (try with_reducible rfl)))); (try simp only [Act.put, List.setIfInBounds_toArray, List.set_cons_zero, List.set_cons_succ])))
    clear x2
    refine Late.run_chain rfl rfl (by rfl) (fun Wi hWi K' hK => ?_)
    go_simp
    refine hK _ _ (.of (Step.alloc _ _)) ?_
    (try simp only [Act.put, List.setIfInBounds_toArray, List.set_cons_zero, List.set_cons_succ])
    have HOWN := Lib.hid (ownL_lit (α := Guy) (fun _ => False) wa.heap.size 75 Wi (HT3.out.trans hWi).size)
    have HT4 := Lib.hid ((HT3.out.trans hWi).trans (Step.alloc Wi (.cells #[] 75)))
    obtain ⟨gl, hgl⟩ : ∃ g, g = Wi.heap.size := ⟨_, rfl⟩
    rw [← hgl] at HOWN ⊢
    clear hgl hK hWi HT3
    generalize Wi.alloc (.cells #[] 75) = WA at *
    refine Late.run_chain rfl rfl (by rfl) (fun Wi hWi K' hK => ?_)
    have hq5 := SL.go ((HQ.out.weak (T := fun _ => False) (fun _ _ h => h.elim))) (HTA.out.trans (HT4.out.trans hWi))
    have HQ5 := Lib.hid hq5
    have hu5 := SL.flat (avoid (fun _ => False) (.slice (some ⟨gl, 0, none⟩) 0 0)) (hq5.front (show k ≤ h.guys.length by omega))
    have hg10 : h.guys.length ≤ 10 := by rw [HH.out]; exact HN.out.2 i hi
    refine wp_append_empty (α := Guy) (S := fun _ => False) (base := wa.heap.size) eiRGuys gl _ _ rfl rfl rfl (HOWN.out.step hWi) hu5 k (by rw [List.length_take]; omega) (by simp only [maxLen]; omega) (by omega) (HT4.out.trans hWi).size ?_
    intro p5 c5 w5 hown5 hs5
    have HO5 := Lib.hid hown5
    have HQ55 := Lib.hid (SL.go HQ5.out hs5)
    have HT5 := Lib.hid (HT4.out.trans (hWi.trans hs5))
    refine hK _ _ (.of hs5) ?_
    clear hK hWi hq5 hu5 hown5 hs5 HOWN HT4 HQ5
    (try simp only [Act.put, List.setIfInBounds_toArray, List.set_cons_zero, List.set_cons_succ])
    refine Late.run_end rfl rfl (L := [_, _]) rfl (fun W6 hW6 K6 hK6 => ?_)
    have hq6 := SL.go HQ55.out hW6
    have HT6 := Lib.hid (HT5.out.trans hW6)
    have hown6 := HO5.out.step hW6
    have hu6 := SL.flat (avoid (fun _ => False) (.slice p5 k c5)) (hq6.back (k := k + 1) (by omega) (cq - (k + 1)) (by skip; omega) (_) (fun hlt => by first | rfl | (skip; exfalso; omega)))
    have hln : (h.guys.take k).length + (h.guys.drop (k + 1)).length = h.guys.length - 1 := by rw [List.length_take, List.length_drop]; omega
    refine wp_append_L (α := Guy) (S := fun _ => False) (base := wa.heap.size) (v := .slice p5 k c5) (l := h.guys.take k) (m := h.guys.drop (k + 1)) eiRGuys _ _ rfl rfl rfl hown6 hu6 (h.guys.length - 1) hln (h.guys.take k ++ h.guys.drop (k + 1)) rfl (by simp only [maxLen]; omega) (by omega) HT6.out.size ?_
    intro p6 c6 w6 hown7 hg7
    have hrow : ∀ j, (Value.slice p5 k c5).ownBlock = some j → wa.heap.size ≤ j := fun j hj => (hown6.lt j hj).1
    have hst7 : Step wa w6 := .of (HT6.out.below.grown hg7 HT6.out.size hrow)
    have HO7 := Lib.hid hown7
    have HT7 := Lib.hid hst7
    refine hK6 _ _ (StepX.grown hg7 fun j hj _ => hrow j hj) ?_
    clear hK6 hW6 hq6 hown6 hu6 hln hown7 hg7 hrow hst7 HT6 HT5 HO5 HQ55
    (try simp only [Act.put, List.setIfInBounds_toArray, List.set_cons_zero, List.set_cons_succ])
    have hbx7 := HBX.out.step HT7.out
    have x1 := hbx7.cell 2
    have z1 := hbx7.frozen 2
    have xl := hbx7.lt
    simp only [List.getElem?_cons_zero, List.getElem?_cons_succ] at x1
    go_upto_region 4 with (fail)
    have hb8 := hbx7.setCell 2 (.slice p6 (h.guys.length - 1) c6)
    have hst8 : Step w' (w6.setCell ⟨w'.heap.size, 2, none⟩ (.slice p6 (h.guys.length - 1) c6)) := Step.setNew (HTA.out.trans HT7.out) _ _ (Nat.le_refl _)
    have hne8 : (Value.slice p6 (h.guys.length - 1) c6).ownBlock ≠ some w'.heap.size := own_apart HO7.out hbx7 (by decide)
    have ho8 : SL (fun j => j = g) (w6.setCell ⟨w'.heap.size, 2, none⟩ (.slice p6 (h.guys.length - 1) c6)) (.slice p6 (h.guys.length - 1) c6) (h.guys.take k ++ h.guys.drop (k + 1)) := by
      have h1 := (ownL_flat (fun j => j = g ∨ j = w'.heap.size) HO7.out).slb (fun g' hg' e => by
        have h2 := HO7.out.lt _ hg'
        have h3 := HSZ.out
        have h4 := HGL.out
        rcases e with e | e <;> omega)
      exact (h1.keep (Keeps.wrote (Wrote.setCell _ _ _ _) (.inr rfl))).weak (fun _ _ h => .inl h)
    have hng : ¬ w'.heap.size = g := by have := HGL.out; omega
    have H8 := Lib.hid (And.intro hb8 (And.intro hst8 ho8))
    clear hbx7 x1 z1 xl hb8 hst8 hne8 ho8 HO7 HT7 HBX HTA
    generalize w6.setCell ⟨w'.heap.size, 2, none⟩ (.slice p6 (h.guys.length - 1) c6) = w8 at *
    obtain ⟨cs, hbg⟩ := HG.out.2.2.2.1
    have hbg8 := hbg.step H8.out.2.1
    have z8 := hbg8.frozen
    have l8 := hbg8.lt
    obtain ⟨qq, k1, k2, k3, _⟩ := HG.out.2.2.2.2 i hi
    have k1 := H8.out.2.1.keeps.cell id k1
    have k2 := H8.out.2.1.keeps.cell id k2
    have k3 := H8.out.2.1.keeps.cell id k3
    have y0 := H8.out.1.cell 0
    have y1 := H8.out.1.cell 1
    have y2 := H8.out.1.cell 2
    have zz0 := z8 (i * 3)
    have zz1 := z8 (i * 3 + 1)
    have zz2 := z8 (i * 3 + 2)
    simp only [List.set_cons_zero, List.set_cons_succ, List.getElem?_cons_zero, List.getElem?_cons_succ] at y0 y1 y2
    have hix : (0 : Int) ≤ (i : Int) ∧ (i : Int) < (t.length : Int) := by omega
    clear z8 hbg hbg8
    have hfin := tent_set hi l8 HG.out.1 HG.out.2.1 (fun j hj => by
      obtain ⟨qj, e1, e2, e3, e4⟩ := HG.out.2.2.2.2 j hj
      exact ⟨qj, H8.out.2.1.keeps.cell id e1, H8.out.2.1.keeps.cell id e2, H8.out.2.1.keeps.cell id e3, e4.keep (.of_step H8.out.2.1)⟩) (a := h.area) (b := h.bears) H8.out.2.2
    have hfs := Step.setNew (Step.setNew (Step.setNew (HT.out.trans H8.out.2.1) ⟨g, i * 3, none⟩ (.int .i64 h.area) HG.out.2.2.1) ⟨g, i * 3 + 1, none⟩ (.int .i64 h.bears) HG.out.2.2.1) ⟨g, i * 3 + 2, none⟩ (.slice p6 (h.guys.length - 1) c6) HG.out.2.2.1
    have HF := Lib.hid (And.intro hfin hfs)
    clear hfin hfs
    go_wp2
    go_ret
    refine ⟨_, rfl, ?_, HF.out.2⟩
    rw [without_get hi, ← HH.out]
    exact HF.out.1
end Go.Proofs.Ytdcjbbeoocldeaa
