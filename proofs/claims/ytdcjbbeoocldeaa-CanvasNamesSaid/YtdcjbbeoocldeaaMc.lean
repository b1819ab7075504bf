/- The small functions of the canvas package and of the document are walked. -/
import Derived.Test.YtdcjbbeoocldeaaMa
import Derived.Test.YtdcjbbeoocldeaaMb
import Derived.Test.YtdcjbbeoocldeaaRows
import Derived.BigQuiet
import Derived.Deep.AppendLies
import Derived.Deep.DeepCutAuto
import Derived.Deep.QuietTactic
import Derived.Deep.RegionHeld3
import Derived.Lib.Hide
import Derived.Shelf.Abstract
import Derived.WalkKit
import Derived.WalkLawsBesides
import Derived.WalkSmall
/- Walks: comparisons of lists; within. -/
namespace Go.Proofs.Ytdcjbbeoocldeaa
set_option linter.unusedSimpArgs false
set_option linter.unusedVariables false
open Go.RowKit Go.BT

theorem infoInt : (Try.prog.info? 3).map (fun i => (i.zero, i.size, i.bytes)) = some (some (.int .i64 0), 1, 8) := by kernel_rfl
theorem infoInts : (Try.prog.info? 29).map (fun i => (i.zero, i.size, i.bytes)) = some (some (.slice none 0 0), 1, 24) := by kernel_rfl

def intsB (a b : List Int) : Bool := decide (a = b)

theorem ints_hit {a b : List Int} {k : Nat} (ha : k < a.length) (hb : k < b.length) (ht : a.take k = b.take k) (h : a[k] = b[k]) : a.take (k + 1) = b.take (k + 1) := by
  rw [List.take_succ_eq_append_getElem ha, List.take_succ_eq_append_getElem hb, ht, h]
theorem ints_miss {a b : List Int} {k : Nat} (ha : k < a.length) (hb : k < b.length) (h : a[k] ≠ b[k]) : intsB a b = false := by
  have : a ≠ b := fun e => h (by subst e; rfl)
  simp [intsB, this]
theorem ints_end {a b : List Int} {k : Nat} (hl : a.length = b.length) (hk : a.length ≤ k) (ht : a.take k = b.take k) : intsB a b = true := by
  rw [List.take_of_length_le hk, List.take_of_length_le (by omega)] at ht
  simp [intsB, ht]

theorem ints_any (S : Nat → Prop) (a b : List Int) (va vb : Value) (w : World) (ha : SL S w va a) (hb : SL S w vb b) :
    Calls Try.prog 38 #[va, vb] w fun e w' => e = .returned (.bool (intsB a b)) ∧ Step w w' := by
  obtain ⟨pa, ca, ba, oa, rfl, _, hma, hpa, hca, h0a⟩ := ha.ints
  obtain ⟨pb, cb, bb, ob, rfl, _, hmb, hpb, hcb, h0b⟩ := hb.ints
  by_cases hl : a.length = b.length
  · have hne : ((a.length : Int) != (b.length : Int)) = false := by simp [hl]
    have Hl := Lib.hid hl
    clear hl
    go_enter Try.func38, Try.ntmps38
    go_wp2
    go_loopw [5] (fun i wr => ∃ k : Nat, k ≤ a.length ∧ i = .int .i64 k ∧ a.take k = b.take k ∧ Below w.heap.size w wr) (fun i _ => a.length - (intOf i).toNat)
    case atStart => exact ⟨0, Nat.zero_le _, rfl, rfl, Below.refl _ _⟩
    case round =>
      obtain ⟨k, hk, rfl, ht, hB⟩ := hrel
      have HT := Lib.hid ht
      clear ht
      by_cases hlt : k < a.length
      · have hltb : k < b.length := by have := Hl.out; omega
        obtain rfl := hpa (by omega)
        obtain rfl := hpb (by omega)
        have e1 := (hB.cell (p := ⟨ba, oa + k, none⟩) (h0a (by omega)).1).trans (hca k hlt)
        have e2 := (hB.cell (p := ⟨bb, ob + k, none⟩) (h0b (by omega)).1).trans (hcb k hltb)
        have hx : (0 : Int) ≤ (k : Int) ∧ (k : Int) < (a.length : Int) := by omega
        have hy : (0 : Int) ≤ (k : Int) ∧ (k : Int) < (b.length : Int) := by omega
        clear hpa hpb hca hcb h0a h0b
        go_wp2
        go_quiet (fail)
        go_wp2
        · have hx : (a[k] != b[k]) = true := by assumption
          go_ret
          exact ⟨by rw [ints_miss hlt hltb (by simpa using hx)]; rfl, .of (below_drewN hB _)⟩
        · have hx : (a[k] != b[k]) = false := by assumption
          go_roundw
          case rel => exact ⟨k + 1, by omega, by go_num, ints_hit hlt hltb HT.out (by simpa using hx), below_drewN hB _⟩
          case measure => simp [intOf]; omega
      · go_wp2
        go_ret
        exact ⟨by rw [ints_end Hl.out (by omega) HT.out]; rfl, .of hB⟩
  · have hne : ((a.length : Int) != (b.length : Int)) = true := by simp; omega
    go_enter Try.func38, Try.ntmps38
    go_wp2
    go_ret
    refine ⟨?_, Step.refl _⟩
    have : a ≠ b := fun h => hl (by rw [h])
    simp [intsB, this]

theorem eiInts : EI Try.prog 29 3 (.int .i64 0) 1 8 := .mk' Try.underlying29 infoInt rfl
theorem eiRows : EI Try.prog 64 29 (.slice none 0 0) 1 24 := .mk' Try.underlying64 infoInts rfl

theorem ret_bool {a b : Bool} (h : a = b) : Ending.returned (.bool a) = .returned (.bool b) := by rw [h]
theorem ret_int {a b : Int} (h : a = b) : Ending.returned (.int .i64 a) = .returned (.int .i64 b) := by rw [h]

theorem canvas.within_any (n lo hi : Int) (w : World) : Calls Try.prog 65 #[.int .i64 n, .int .i64 lo, .int .i64 hi] w fun e w' => e = .returned (.bool (withinB n lo hi)) ∧ w = w' := by
  by_cases h1 : lo ≤ n
  · go_enter Try.func65, Try.ntmps65
    go_wp2
    go_ret
    exact ⟨by simp [withinB, h1], rfl⟩
  · have hd : decide (lo ≤ n) = false := by simpa using h1
    go_enter Try.func65, Try.ntmps65
    go_wp2
    go_ret
    exact ⟨by simp [withinB]; omega, rfl⟩
theorem bigtopref01.In_any (n lo hi : Int) (w : World) : Calls Try.prog 29 #[.int .i64 n, .int .i64 lo, .int .i64 hi] w fun e w' => e = .returned (.bool (withinB n lo hi)) ∧ w = w' := by
  by_cases h1 : lo ≤ n
  · go_enter Try.func29, Try.ntmps29
    go_wp2
    go_ret
    exact ⟨by simp [withinB, h1], rfl⟩
  · have hd : decide (lo ≤ n) = false := by simpa using h1
    go_enter Try.func29, Try.ntmps29
    go_wp2
    go_ret
    exact ⟨by simp [withinB]; omega, rfl⟩

def veq (a b c d : Int) : Bool := a == c && b == d
theorem veq_iff {a b c d : Int} : veq a b c d = true ↔ a = c ∧ b = d := by simp [veq]
theorem veq_self (a b : Int) : veq a b a b = true := by simp [veq]
theorem equal_vec (a b c d : Int) (w : World) : (Op.equal 40 (.agg #[.int .i64 a, .int .i64 b]) (.agg #[.int .i64 c, .int .i64 d])).run Try.prog w = .ok (a == c && b == d) w := by
  unfold Op.equal Op.maxDepth
  rw [run_equalIn_agg (w := w) 9999 40 _ _ (by kernel_rfl) (by kernel_rfl)]
  have hf : (Try.prog.fieldsOf 40).toList.map (fun f => (f.name, f.type, f.offset)) = [("X", 3, 0), ("Y", 3, 1)] := by kernel_rfl
  obtain ⟨f, g, hfg⟩ : ∃ f g, (Try.prog.fieldsOf 40).toList = [f, g] := by
    cases hl : (Try.prog.fieldsOf 40).toList with
    | nil => simp [hl] at hf
    | cons f l =>
      cases l with
      | nil => simp [hl] at hf
      | cons g l =>
        cases l with
        | nil => exact ⟨f, g, rfl⟩
        | cons _ _ => simp [hl] at hf
  rw [hfg] at hf ⊢
  simp only [List.map_cons, List.map_nil, List.cons.injEq, Prod.mk.injEq, and_true] at hf
  obtain ⟨⟨n1, t1, o1⟩, n2, t2, o2⟩ := hf
  have hi : Try.prog.underlying 3 = some (.int .i64) := by kernel_rfl
  simp [Op.eqFields, n1, n2, t1, t2, o1, o2, hi, part, run_underlying hi]
  have hq : ∀ (a b : Int) (w : World), (Op.equalIn 9999 3 (.int .i64 a) (.int .i64 b)).run Try.prog w = .ok (a == b) w := fun a b w => run_equalIn_int (w := w) 9998 _ _ .i64 _ _ hi
  simp only [hq, Result.andThen_ok]
  cases a == c <;> cases b == d <;> simp [Result.andThen]
theorem neq_vec (a b c d : Int) (w : World) : (binOp .neq 40 (.agg #[.int .i64 a, .int .i64 b]) (.agg #[.int .i64 c, .int .i64 d])).run Try.prog w = .ok (.bool (!(veq a b c d))) w := by
  have h := equal_vec a b c d w
  unfold Op.equal Op.maxDepth at h
  rw [run_neq_struct, h]
  rfl
theorem eql_vec (a b c d : Int) (w : World) : (binOp .eql 40 (.agg #[.int .i64 a, .int .i64 b]) (.agg #[.int .i64 c, .int .i64 d])).run Try.prog w = .ok (.bool (veq a b c d)) w := by
  have h := equal_vec a b c d w
  unfold Op.equal Op.maxDepth at h
  rw [run_eql_struct, h]
  rfl
theorem equal_rvec (a b c d : Int) (w : World) : (Op.equal 26 (.agg #[.int .i64 a, .int .i64 b]) (.agg #[.int .i64 c, .int .i64 d])).run Try.prog w = .ok (a == c && b == d) w := by
  unfold Op.equal Op.maxDepth
  rw [run_equalIn_agg (w := w) 9999 26 _ _ (by kernel_rfl) (by kernel_rfl)]
  have hf : (Try.prog.fieldsOf 26).toList.map (fun f => (f.name, f.type, f.offset)) = [("X", 3, 0), ("Y", 3, 1)] := by kernel_rfl
  obtain ⟨f, g, hfg⟩ : ∃ f g, (Try.prog.fieldsOf 26).toList = [f, g] := by
    cases hl : (Try.prog.fieldsOf 26).toList with
    | nil => simp [hl] at hf
    | cons f l =>
      cases l with
      | nil => simp [hl] at hf
      | cons g l =>
        cases l with
        | nil => exact ⟨f, g, rfl⟩
        | cons _ _ => simp [hl] at hf
  rw [hfg] at hf ⊢
  simp only [List.map_cons, List.map_nil, List.cons.injEq, Prod.mk.injEq, and_true] at hf
  obtain ⟨⟨n1, t1, o1⟩, n2, t2, o2⟩ := hf
  have hi : Try.prog.underlying 3 = some (.int .i64) := by kernel_rfl
  simp [Op.eqFields, n1, n2, t1, t2, o1, o2, hi, part, run_underlying hi]
  have hq : ∀ (a b : Int) (w : World), (Op.equalIn 9999 3 (.int .i64 a) (.int .i64 b)).run Try.prog w = .ok (a == b) w := fun a b w => run_equalIn_int (w := w) 9998 _ _ .i64 _ _ hi
  simp only [hq, Result.andThen_ok]
  cases a == c <;> cases b == d <;> simp [Result.andThen]
theorem neq_rvec (a b c d : Int) (w : World) : (binOp .neq 26 (.agg #[.int .i64 a, .int .i64 b]) (.agg #[.int .i64 c, .int .i64 d])).run Try.prog w = .ok (.bool (!(veq a b c d))) w := by
  have h := equal_rvec a b c d w
  unfold Op.equal Op.maxDepth at h
  rw [run_neq_struct, h]
  rfl
theorem eql_rvec (a b c d : Int) (w : World) : (binOp .eql 26 (.agg #[.int .i64 a, .int .i64 b]) (.agg #[.int .i64 c, .int .i64 d])).run Try.prog w = .ok (.bool (veq a b c d)) w := by
  have h := equal_rvec a b c d w
  unfold Op.equal Op.maxDepth at h
  rw [run_eql_struct, h]
  rfl
end Go.Proofs.Ytdcjbbeoocldeaa
/- Walks: 'all', ContainsFunc, IndexFunc at a list of tests, of guys, of heads, of vectors: for whatever predicate. -/
namespace Go.Proofs.Ytdcjbbeoocldeaa
set_option linter.unusedSimpArgs false
set_option linter.unusedVariables false
open Go.RowKit Go.BT

/-- Where p first holds, or -1. -/
def idxOf {α : Type} (p : α → Bool) (l : List α) : Int := match l.findIdx? p with | some i => (i : Int) | none => -1
theorem idxOf_at {α : Type} {p : α → Bool} {l : List α} {k : Nat} (hk : k < l.length) (h : ∀ j (hj : j < k), p (l[j]'(by omega)) = false) (hp : p l[k] = true) : idxOf p l = k := by
  have : l.findIdx? p = some k := by
    rw [List.findIdx?_eq_some_iff_getElem]
    exact ⟨hk, hp, fun j hj => by simpa using h j hj⟩
  simp [idxOf, this]
theorem idxOf_none {α : Type} {p : α → Bool} {l : List α} (h : ∀ j (hj : j < l.length), p l[j] = false) : idxOf p l = -1 := by
  have : l.findIdx? p = none := by
    rw [List.findIdx?_eq_none_iff]
    intro x hx
    obtain ⟨j, hj, rfl⟩ := List.getElem_of_mem hx
    exact h j hj
  simp [idxOf, this]
theorem idxOf_ge {α : Type} (p : α → Bool) (l : List α) : decide (0 ≤ idxOf p l) = l.any p := by
  unfold idxOf
  cases h : l.findIdx? p with
  | none =>
    rw [List.findIdx?_eq_none_iff] at h
    simp only [Int.reduceNeg, Int.reduceLE, decide_false]
    symm; rw [List.any_eq_false]; intro x hx; simpa using h x hx
  | some i =>
    rw [List.findIdx?_eq_some_iff_getElem] at h
    obtain ⟨hi, hp, _⟩ := h
    simp only [Int.natCast_nonneg, decide_true]
    symm; rw [List.any_eq_true]; exact ⟨_, List.getElem_mem hi, hp⟩

/-- What is asked of a predicate: called at each element in turn, in a world of its kind J, it gives p, and the world is of the next kind. -/
def PredJ (g : FuncId) (cap : Array Value) {α : Type} (V : World → Value → α → Prop) (p : α → Bool) (l : List α) (J : Nat → World → Prop) : Prop :=
  ∀ i (h : i < l.length) W u, J i W → (∀ j (hj : j < i), p (l[j]'(by omega)) = false) → V W u l[i] → Calls Try.prog g (#[u] ++ cap) W fun e W' => e = .returned (.bool (p l[i])) ∧ J (i + 1) W'

/-- What is asked of a predicate that 'all' is handed: it is called at each element in turn, as long as it has held; X: what it may write. -/
def PredA (g : FuncId) (cap : Array Value) {α : Type} (V : World → Value → α → Prop) (p : α → Bool) (l : List α) (J : Nat → World → Prop) (X : Nat → Prop) : Prop :=
  ∀ i (h : i < l.length) W u, J i W → (∀ j (hj : j < i), p (l[j]'(by omega)) = true) → V W u l[i] → Calls Try.prog g (#[u] ++ cap) W fun e W' => e = .returned (.bool (p l[i])) ∧ J (i + 1) W' ∧ StepX X W W'

set_option maxHeartbeats 1000000 in
theorem indexFunc_tst (S : Nat → Prop) (l : List Tst) (v : Value) (w : World) (g : FuncId) (cap : Array Value) (eg : ∀ args w, (callFunc g args).run Try.prog w = .ok (.enter g args) w) (p : Tst → Bool) (J : Nat → World → Prop) (hJ : ∀ i W, J i W → SL S W v l) (hw : J 0 w)
    (hp : PredJ g cap (fun _ u x => u = .agg #[.int .i64 x.soil, .int .i64 x.depth, .int .i64 x.force, .bool x.held]) p l J) :
    Calls Try.prog 101 #[v, .func (.func g) #[] cap] w fun e w' => e = .returned (.int .i64 (idxOf p l)) ∧ ∃ k, k ≤ l.length ∧ (idxOf p l = -1 → k = l.length) ∧ J k w' := by
  obtain ⟨pv, cv, rfl⟩ := (hJ 0 w hw).form
  have hm := (hJ 0 w hw).len
  have Hp := Lib.hid hp
  have HJ := Lib.hid hJ
  clear hp hJ
  go_enter Try.func101, Try.ntmps101
  go_wp2
  go_loopw [8] (fun i wr => ∃ k : Nat, k ≤ l.length ∧ i = .int .i64 k ∧ (∀ j (hj : j < k) (hl : j < l.length), p l[j] = false) ∧ J k wr) (fun i _ => l.length - (intOf i).toNat)
  case atStart => exact ⟨0, Nat.zero_le _, rfl, fun j hj => absurd hj (by omega), hw⟩
  case round =>
    obtain ⟨k, hk, rfl, hno, hJk⟩ := hrel
    have HN := Lib.hid hno
    clear hno
    by_cases hlt : k < l.length
    · obtain ⟨p', c', b, o, he, _, _, hpp, hc, _⟩ := (HJ.out k wr hJk).tsts
      injection he with he1 he2 he3
      subst he1 he3
      obtain rfl := hpp (by omega)
      obtain ⟨e1, e2, e3, e4⟩ := hc k hlt
      clear hc hpp he2
      have hcall := Lib.hid (Hp.out k hlt wr (.agg #[.int .i64 l[k].soil, .int .i64 l[k].depth, .int .i64 l[k].force, .bool l[k].held]) hJk (fun j hj => HN.out j hj (by omega)) rfl)
      cases hq : p l[k] with
      | true =>
        have hq := Lib.hid hq
        go_wp2_with fail
        refine hcall.out.mono ?_
        rintro e w' ⟨rfl, hJ'⟩
        rw [hq.out]
        go_wp2
        have hi := idxOf_at hlt (fun j hj => HN.out j hj (by omega)) hq.out
        go_ret
        rw [hi]
        exact ⟨rfl, k + 1, by omega, fun h => by omega, hJ'⟩
      | false =>
        have hq := Lib.hid hq
        go_wp2_with fail
        refine hcall.out.mono ?_
        rintro e w' ⟨rfl, hJ'⟩
        rw [hq.out]
        go_wp2
        go_roundw
        case rel => exact ⟨k + 1, by omega, by go_num, fun j hj hl => if h : j = k then by subst h; exact hq.out else HN.out j (by omega) hl, hJ'⟩
        case measure => simp [intOf]; omega
    · go_wp2
      have hi := idxOf_none (fun j hj => HN.out j (by omega) hj)
      go_ret
      rw [hi]
      exact ⟨rfl, k, hk, fun _ => by omega, hJk⟩
set_option maxHeartbeats 1000000 in
theorem containsFunc_tst (S : Nat → Prop) (l : List Tst) (v : Value) (w : World) (g : FuncId) (cap : Array Value) (eg : ∀ args w, (callFunc g args).run Try.prog w = .ok (.enter g args) w) (p : Tst → Bool) (J : Nat → World → Prop) (hJ : ∀ i W, J i W → SL S W v l) (hw : J 0 w)
    (hp : PredJ g cap (fun _ u x => u = .agg #[.int .i64 x.soil, .int .i64 x.depth, .int .i64 x.force, .bool x.held]) p l J) :
    Calls Try.prog 103 #[v, .func (.func g) #[] cap] w fun e w' => e = .returned (.bool (l.any p)) ∧ ∃ k, k ≤ l.length ∧ (l.any p = false → k = l.length) ∧ J k w' := by
  have hc := indexFunc_tst S l v w g cap eg p J hJ hw hp
  have HC := Lib.hid hc
  clear hc hp hJ eg
  go_enter Try.func103, Try.ntmps103
  go_wp2_with fail
  refine HC.out.mono ?_
  rintro e w' ⟨rfl, hk⟩
  have HK := Lib.hid hk
  clear hk
  go_wp2
  have hge := idxOf_ge p l
  go_ret
  obtain ⟨k, h1, h2, h3⟩ := HK.out
  refine ⟨by rw [← hge]; rfl, k, h1, fun h => h2 ?_, h3⟩
  rw [← hge, decide_eq_false_iff_not] at h
  unfold idxOf at h ⊢
  split <;> rename_i hh <;> simp [hh] at h ⊢
set_option maxHeartbeats 1000000 in
theorem allNot_tst (l : List Tst) (g : FuncId) (cap : Array Value) (eg : ∀ args w, (callFunc g args).run Try.prog w = .ok (.enter g args) w) (p : Tst → Bool) (J : Nat → World → Prop) (X : Nat → Prop) (b : Nat) (hX : ¬ X b)
    (hJs : ∀ i W W', J i W → Step W W' → J i W') (hp : PredA g cap (fun _ u x => u = .agg #[.int .i64 x.soil, .int .i64 x.depth, .int .i64 x.force, .bool x.held]) p l J X) :
    PredJ 104 #[.pointer (some ⟨b, 0, none⟩)] (fun _ u x => u = .agg #[.int .i64 x.soil, .int .i64 x.depth, .int .i64 x.force, .bool x.held]) (fun x => !p x) l (fun i W => J i W ∧ W.cell? ⟨b, 0, none⟩ = some (.func (.func g) #[] cap)) := by
  intro i h W u ⟨hJ, hc⟩ hno hV
  have hb := World.block_lt_of_cell? W _ hc
  have hb' : b < W.heap.size := hb
  obtain rfl := hV
  have hcall := Lib.hid (hp i h (W.alloc (.cells #[.int .i64 l[i].soil, .int .i64 l[i].depth, .int .i64 l[i].force, .bool l[i].held] 111)) (.agg #[.int .i64 l[i].soil, .int .i64 l[i].depth, .int .i64 l[i].force, .bool l[i].held]) (hJs _ _ _ hJ (Step.alloc _ _)) (fun j hj => by simpa using hno j hj) rfl)
  show Calls Try.prog 104 #[(.agg #[.int .i64 l[i].soil, .int .i64 l[i].depth, .int .i64 l[i].force, .bool l[i].held]), .pointer (some ⟨b, 0, none⟩)] W _
  have HN := Lib.hid hno
  have HS := Lib.hid hJs
  clear hno hJs hp hJ hb
  go_enter Try.func104, Try.ntmps104
  go_wp2_with fail
  refine hcall.out.mono ?_
  rintro e w' ⟨rfl, hJ', hst⟩
  have hc' := hst.keeps.cell hX (a := ⟨b, 0, none⟩) (by rw [World.cell?_alloc_lt _ _ _ hb']; exact hc)
  go_wp2
  go_ret
  exact ⟨rfl, hJ', hc'⟩
set_option maxHeartbeats 1000000 in
theorem all_tst (S : Nat → Prop) (l : List Tst) (v : Value) (w : World) (g : FuncId) (cap : Array Value) (eg : ∀ args w, (callFunc g args).run Try.prog w = .ok (.enter g args) w) (p : Tst → Bool) (J : Nat → World → Prop) (X : Nat → Prop)
    (hX : ∀ j, X j → j < w.heap.size) (hJ : ∀ i W, J i W → SL S W v l) (hJs : ∀ i W W', J i W → Step W W' → J i W') (hw : J 0 w) (hp : PredA g cap (fun _ u x => u = .agg #[.int .i64 x.soil, .int .i64 x.depth, .int .i64 x.force, .bool x.held]) p l J X) :
    Calls Try.prog 86 #[v, .func (.func g) #[] cap] w fun e w' => e = .returned (.bool (l.all p)) ∧ ∃ k, k ≤ l.length ∧ (l.all p = true → k = l.length) ∧ J k w' := by
  have hmf : ∀ (fn : Fn) (first cap : Array Value) (w : World), (Instr.makeFunc fn first cap).run Try.prog w = .ok (.func fn first cap) w := fun _ _ _ _ => rfl
  have hc := containsFunc_tst S l v (w.alloc (.cells #[.func (.func g) #[] cap] 151)) 104 #[.pointer (some ⟨w.heap.size, 0, none⟩)] (Go.Proofs.enters_of Try.func104 (by kernel_rfl) rfl) (fun x => !p x)
    (fun i W => J i W ∧ W.cell? ⟨w.heap.size, 0, none⟩ = some (.func (.func g) #[] cap)) (fun i W h => hJ i W h.1) ⟨hJs _ _ _ hw (Step.alloc _ _), by rw [World.cell?_alloc_new]; rfl⟩
    (allNot_tst l g cap eg p J X w.heap.size (fun h => by have := hX _ h; omega) hJs hp)
  have HC := Lib.hid hc
  clear hc hp hJ hJs hX eg
  go_enter Try.func86, Try.ntmps86
  go_wp2_with fail
  refine HC.out.mono ?_
  rintro e w' ⟨rfl, hk⟩
  have HK := Lib.hid hk
  clear hk
  have he : (l.any fun x => !p x) = !(l.all p) := by rw [List.not_all_eq_any_not]
  have HE := Lib.hid he
  clear he
  go_wp2
  go_ret
  obtain ⟨k, h1, h2, h3, _⟩ := HK.out
  rw [HE.out] at h2 ⊢
  exact ⟨by simp, k, h1, fun h => h2 (by simp [h]), h3⟩
set_option maxHeartbeats 1000000 in
theorem indexFunc_guy (S : Nat → Prop) (l : List Guy) (v : Value) (w : World) (g : FuncId) (cap : Array Value) (eg : ∀ args w, (callFunc g args).run Try.prog w = .ok (.enter g args) w) (p : Guy → Bool) (J : Nat → World → Prop) (hJ : ∀ i W, J i W → SL S W v l) (hw : J 0 w)
    (hp : PredJ g cap (fun _ u x => u = .agg #[.int .i64 x.x, .int .i64 x.y, .int .i64 x.down, .int .i64 x.soil, .int .i64 x.depth]) p l J) :
    Calls Try.prog 112 #[v, .func (.func g) #[] cap] w fun e w' => e = .returned (.int .i64 (idxOf p l)) ∧ ∃ k, k ≤ l.length ∧ (idxOf p l = -1 → k = l.length) ∧ J k w' := by
  obtain ⟨pv, cv, rfl⟩ := (hJ 0 w hw).form
  have hm := (hJ 0 w hw).len
  have Hp := Lib.hid hp
  have HJ := Lib.hid hJ
  clear hp hJ
  go_enter Try.func112, Try.ntmps112
  go_wp2
  go_loopw [8] (fun i wr => ∃ k : Nat, k ≤ l.length ∧ i = .int .i64 k ∧ (∀ j (hj : j < k) (hl : j < l.length), p l[j] = false) ∧ J k wr) (fun i _ => l.length - (intOf i).toNat)
  case atStart => exact ⟨0, Nat.zero_le _, rfl, fun j hj => absurd hj (by omega), hw⟩
  case round =>
    obtain ⟨k, hk, rfl, hno, hJk⟩ := hrel
    have HN := Lib.hid hno
    clear hno
    by_cases hlt : k < l.length
    · obtain ⟨p', c', b, o, he, _, _, hpp, hc, _⟩ := (HJ.out k wr hJk).guys
      injection he with he1 he2 he3
      subst he1 he3
      obtain rfl := hpp (by omega)
      obtain ⟨e1, e2, e3, e4, e5⟩ := hc k hlt
      clear hc hpp he2
      have hcall := Lib.hid (Hp.out k hlt wr (.agg #[.int .i64 l[k].x, .int .i64 l[k].y, .int .i64 l[k].down, .int .i64 l[k].soil, .int .i64 l[k].depth]) hJk (fun j hj => HN.out j hj (by omega)) rfl)
      cases hq : p l[k] with
      | true =>
        have hq := Lib.hid hq
        go_wp2_with fail
        refine hcall.out.mono ?_
        rintro e w' ⟨rfl, hJ'⟩
        rw [hq.out]
        go_wp2
        have hi := idxOf_at hlt (fun j hj => HN.out j hj (by omega)) hq.out
        go_ret
        rw [hi]
        exact ⟨rfl, k + 1, by omega, fun h => by omega, hJ'⟩
      | false =>
        have hq := Lib.hid hq
        go_wp2_with fail
        refine hcall.out.mono ?_
        rintro e w' ⟨rfl, hJ'⟩
        rw [hq.out]
        go_wp2
        go_roundw
        case rel => exact ⟨k + 1, by omega, by go_num, fun j hj hl => if h : j = k then by subst h; exact hq.out else HN.out j (by omega) hl, hJ'⟩
        case measure => simp [intOf]; omega
    · go_wp2
      have hi := idxOf_none (fun j hj => HN.out j (by omega) hj)
      go_ret
      rw [hi]
      exact ⟨rfl, k, hk, fun _ => by omega, hJk⟩
set_option maxHeartbeats 1000000 in
theorem containsFunc_guy (S : Nat → Prop) (l : List Guy) (v : Value) (w : World) (g : FuncId) (cap : Array Value) (eg : ∀ args w, (callFunc g args).run Try.prog w = .ok (.enter g args) w) (p : Guy → Bool) (J : Nat → World → Prop) (hJ : ∀ i W, J i W → SL S W v l) (hw : J 0 w)
    (hp : PredJ g cap (fun _ u x => u = .agg #[.int .i64 x.x, .int .i64 x.y, .int .i64 x.down, .int .i64 x.soil, .int .i64 x.depth]) p l J) :
    Calls Try.prog 108 #[v, .func (.func g) #[] cap] w fun e w' => e = .returned (.bool (l.any p)) ∧ ∃ k, k ≤ l.length ∧ (l.any p = false → k = l.length) ∧ J k w' := by
  have hc := indexFunc_guy S l v w g cap eg p J hJ hw hp
  have HC := Lib.hid hc
  clear hc hp hJ eg
  go_enter Try.func108, Try.ntmps108
  go_wp2_with fail
  refine HC.out.mono ?_
  rintro e w' ⟨rfl, hk⟩
  have HK := Lib.hid hk
  clear hk
  go_wp2
  have hge := idxOf_ge p l
  go_ret
  obtain ⟨k, h1, h2, h3⟩ := HK.out
  refine ⟨by rw [← hge]; rfl, k, h1, fun h => h2 ?_, h3⟩
  rw [← hge, decide_eq_false_iff_not] at h
  unfold idxOf at h ⊢
  split <;> rename_i hh <;> simp [hh] at h ⊢
set_option maxHeartbeats 1000000 in
theorem allNot_guy (l : List Guy) (g : FuncId) (cap : Array Value) (eg : ∀ args w, (callFunc g args).run Try.prog w = .ok (.enter g args) w) (p : Guy → Bool) (J : Nat → World → Prop) (X : Nat → Prop) (b : Nat) (hX : ¬ X b)
    (hJs : ∀ i W W', J i W → Step W W' → J i W') (hp : PredA g cap (fun _ u x => u = .agg #[.int .i64 x.x, .int .i64 x.y, .int .i64 x.down, .int .i64 x.soil, .int .i64 x.depth]) p l J X) :
    PredJ 109 #[.pointer (some ⟨b, 0, none⟩)] (fun _ u x => u = .agg #[.int .i64 x.x, .int .i64 x.y, .int .i64 x.down, .int .i64 x.soil, .int .i64 x.depth]) (fun x => !p x) l (fun i W => J i W ∧ W.cell? ⟨b, 0, none⟩ = some (.func (.func g) #[] cap)) := by
  intro i h W u ⟨hJ, hc⟩ hno hV
  have hb := World.block_lt_of_cell? W _ hc
  have hb' : b < W.heap.size := hb
  obtain rfl := hV
  have hcall := Lib.hid (hp i h (W.alloc (.cells #[.int .i64 l[i].x, .int .i64 l[i].y, .int .i64 l[i].down, .int .i64 l[i].soil, .int .i64 l[i].depth] 91)) (.agg #[.int .i64 l[i].x, .int .i64 l[i].y, .int .i64 l[i].down, .int .i64 l[i].soil, .int .i64 l[i].depth]) (hJs _ _ _ hJ (Step.alloc _ _)) (fun j hj => by simpa using hno j hj) rfl)
  show Calls Try.prog 109 #[(.agg #[.int .i64 l[i].x, .int .i64 l[i].y, .int .i64 l[i].down, .int .i64 l[i].soil, .int .i64 l[i].depth]), .pointer (some ⟨b, 0, none⟩)] W _
  have HN := Lib.hid hno
  have HS := Lib.hid hJs
  clear hno hJs hp hJ hb
  go_enter Try.func109, Try.ntmps109
  go_wp2_with fail
  refine hcall.out.mono ?_
  rintro e w' ⟨rfl, hJ', hst⟩
  have hc' := hst.keeps.cell hX (a := ⟨b, 0, none⟩) (by rw [World.cell?_alloc_lt _ _ _ hb']; exact hc)
  go_wp2
  go_ret
  exact ⟨rfl, hJ', hc'⟩
set_option maxHeartbeats 1000000 in
theorem all_guy (S : Nat → Prop) (l : List Guy) (v : Value) (w : World) (g : FuncId) (cap : Array Value) (eg : ∀ args w, (callFunc g args).run Try.prog w = .ok (.enter g args) w) (p : Guy → Bool) (J : Nat → World → Prop) (X : Nat → Prop)
    (hX : ∀ j, X j → j < w.heap.size) (hJ : ∀ i W, J i W → SL S W v l) (hJs : ∀ i W W', J i W → Step W W' → J i W') (hw : J 0 w) (hp : PredA g cap (fun _ u x => u = .agg #[.int .i64 x.x, .int .i64 x.y, .int .i64 x.down, .int .i64 x.soil, .int .i64 x.depth]) p l J X) :
    Calls Try.prog 98 #[v, .func (.func g) #[] cap] w fun e w' => e = .returned (.bool (l.all p)) ∧ ∃ k, k ≤ l.length ∧ (l.all p = true → k = l.length) ∧ J k w' := by
  have hmf : ∀ (fn : Fn) (first cap : Array Value) (w : World), (Instr.makeFunc fn first cap).run Try.prog w = .ok (.func fn first cap) w := fun _ _ _ _ => rfl
  have hc := containsFunc_guy S l v (w.alloc (.cells #[.func (.func g) #[] cap] 162)) 109 #[.pointer (some ⟨w.heap.size, 0, none⟩)] (Go.Proofs.enters_of Try.func109 (by kernel_rfl) rfl) (fun x => !p x)
    (fun i W => J i W ∧ W.cell? ⟨w.heap.size, 0, none⟩ = some (.func (.func g) #[] cap)) (fun i W h => hJ i W h.1) ⟨hJs _ _ _ hw (Step.alloc _ _), by rw [World.cell?_alloc_new]; rfl⟩
    (allNot_guy l g cap eg p J X w.heap.size (fun h => by have := hX _ h; omega) hJs hp)
  have HC := Lib.hid hc
  clear hc hp hJ hJs hX eg
  go_enter Try.func98, Try.ntmps98
  go_wp2_with fail
  refine HC.out.mono ?_
  rintro e w' ⟨rfl, hk⟩
  have HK := Lib.hid hk
  clear hk
  have he : (l.any fun x => !p x) = !(l.all p) := by rw [List.not_all_eq_any_not]
  have HE := Lib.hid he
  clear he
  go_wp2
  go_ret
  obtain ⟨k, h1, h2, h3, _⟩ := HK.out
  rw [HE.out] at h2 ⊢
  exact ⟨by simp, k, h1, fun h => h2 (by simp [h]), h3⟩
set_option maxHeartbeats 1000000 in
theorem indexFunc_vec (S : Nat → Prop) (l : List Vec) (v : Value) (w : World) (g : FuncId) (cap : Array Value) (eg : ∀ args w, (callFunc g args).run Try.prog w = .ok (.enter g args) w) (p : Vec → Bool) (J : Nat → World → Prop) (hJ : ∀ i W, J i W → SL S W v l) (hw : J 0 w)
    (hp : PredJ g cap (fun _ u x => u = .agg #[.int .i64 x.x, .int .i64 x.y]) p l J) :
    Calls Try.prog 115 #[v, .func (.func g) #[] cap] w fun e w' => e = .returned (.int .i64 (idxOf p l)) ∧ ∃ k, k ≤ l.length ∧ (idxOf p l = -1 → k = l.length) ∧ J k w' := by
  obtain ⟨pv, cv, rfl⟩ := (hJ 0 w hw).form
  have hm := (hJ 0 w hw).len
  have Hp := Lib.hid hp
  have HJ := Lib.hid hJ
  clear hp hJ
  go_enter Try.func115, Try.ntmps115
  go_wp2
  go_loopw [8] (fun i wr => ∃ k : Nat, k ≤ l.length ∧ i = .int .i64 k ∧ (∀ j (hj : j < k) (hl : j < l.length), p l[j] = false) ∧ J k wr) (fun i _ => l.length - (intOf i).toNat)
  case atStart => exact ⟨0, Nat.zero_le _, rfl, fun j hj => absurd hj (by omega), hw⟩
  case round =>
    obtain ⟨k, hk, rfl, hno, hJk⟩ := hrel
    have HN := Lib.hid hno
    clear hno
    by_cases hlt : k < l.length
    · obtain ⟨p', c', b, o, he, _, _, hpp, hc, _⟩ := (HJ.out k wr hJk).vecs
      injection he with he1 he2 he3
      subst he1 he3
      obtain rfl := hpp (by omega)
      obtain ⟨e1, e2⟩ := hc k hlt
      clear hc hpp he2
      have hcall := Lib.hid (Hp.out k hlt wr (.agg #[.int .i64 l[k].x, .int .i64 l[k].y]) hJk (fun j hj => HN.out j hj (by omega)) rfl)
      cases hq : p l[k] with
      | true =>
        have hq := Lib.hid hq
        go_wp2_with fail
        refine hcall.out.mono ?_
        rintro e w' ⟨rfl, hJ'⟩
        rw [hq.out]
        go_wp2
        have hi := idxOf_at hlt (fun j hj => HN.out j hj (by omega)) hq.out
        go_ret
        rw [hi]
        exact ⟨rfl, k + 1, by omega, fun h => by omega, hJ'⟩
      | false =>
        have hq := Lib.hid hq
        go_wp2_with fail
        refine hcall.out.mono ?_
        rintro e w' ⟨rfl, hJ'⟩
        rw [hq.out]
        go_wp2
        go_roundw
        case rel => exact ⟨k + 1, by omega, by go_num, fun j hj hl => if h : j = k then by subst h; exact hq.out else HN.out j (by omega) hl, hJ'⟩
        case measure => simp [intOf]; omega
    · go_wp2
      have hi := idxOf_none (fun j hj => HN.out j (by omega) hj)
      go_ret
      rw [hi]
      exact ⟨rfl, k, hk, fun _ => by omega, hJk⟩
set_option maxHeartbeats 1000000 in
theorem containsFunc_vec (S : Nat → Prop) (l : List Vec) (v : Value) (w : World) (g : FuncId) (cap : Array Value) (eg : ∀ args w, (callFunc g args).run Try.prog w = .ok (.enter g args) w) (p : Vec → Bool) (J : Nat → World → Prop) (hJ : ∀ i W, J i W → SL S W v l) (hw : J 0 w)
    (hp : PredJ g cap (fun _ u x => u = .agg #[.int .i64 x.x, .int .i64 x.y]) p l J) :
    Calls Try.prog 113 #[v, .func (.func g) #[] cap] w fun e w' => e = .returned (.bool (l.any p)) ∧ ∃ k, k ≤ l.length ∧ (l.any p = false → k = l.length) ∧ J k w' := by
  have hc := indexFunc_vec S l v w g cap eg p J hJ hw hp
  have HC := Lib.hid hc
  clear hc hp hJ eg
  go_enter Try.func113, Try.ntmps113
  go_wp2_with fail
  refine HC.out.mono ?_
  rintro e w' ⟨rfl, hk⟩
  have HK := Lib.hid hk
  clear hk
  go_wp2
  have hge := idxOf_ge p l
  go_ret
  obtain ⟨k, h1, h2, h3⟩ := HK.out
  refine ⟨by rw [← hge]; rfl, k, h1, fun h => h2 ?_, h3⟩
  rw [← hge, decide_eq_false_iff_not] at h
  unfold idxOf at h ⊢
  split <;> rename_i hh <;> simp [hh] at h ⊢
set_option maxHeartbeats 1000000 in
theorem allNot_vec (l : List Vec) (g : FuncId) (cap : Array Value) (eg : ∀ args w, (callFunc g args).run Try.prog w = .ok (.enter g args) w) (p : Vec → Bool) (J : Nat → World → Prop) (X : Nat → Prop) (b : Nat) (hX : ¬ X b)
    (hJs : ∀ i W W', J i W → Step W W' → J i W') (hp : PredA g cap (fun _ u x => u = .agg #[.int .i64 x.x, .int .i64 x.y]) p l J X) :
    PredJ 114 #[.pointer (some ⟨b, 0, none⟩)] (fun _ u x => u = .agg #[.int .i64 x.x, .int .i64 x.y]) (fun x => !p x) l (fun i W => J i W ∧ W.cell? ⟨b, 0, none⟩ = some (.func (.func g) #[] cap)) := by
  intro i h W u ⟨hJ, hc⟩ hno hV
  have hb := World.block_lt_of_cell? W _ hc
  have hb' : b < W.heap.size := hb
  obtain rfl := hV
  have hcall := Lib.hid (hp i h (W.alloc (.cells #[.int .i64 l[i].x, .int .i64 l[i].y] 40)) (.agg #[.int .i64 l[i].x, .int .i64 l[i].y]) (hJs _ _ _ hJ (Step.alloc _ _)) (fun j hj => by simpa using hno j hj) rfl)
  show Calls Try.prog 114 #[(.agg #[.int .i64 l[i].x, .int .i64 l[i].y]), .pointer (some ⟨b, 0, none⟩)] W _
  have HN := Lib.hid hno
  have HS := Lib.hid hJs
  clear hno hJs hp hJ hb
  go_enter Try.func114, Try.ntmps114
  go_wp2_with fail
  refine hcall.out.mono ?_
  rintro e w' ⟨rfl, hJ', hst⟩
  have hc' := hst.keeps.cell hX (a := ⟨b, 0, none⟩) (by rw [World.cell?_alloc_lt _ _ _ hb']; exact hc)
  go_wp2
  go_ret
  exact ⟨rfl, hJ', hc'⟩
set_option maxHeartbeats 1000000 in
theorem all_vec (S : Nat → Prop) (l : List Vec) (v : Value) (w : World) (g : FuncId) (cap : Array Value) (eg : ∀ args w, (callFunc g args).run Try.prog w = .ok (.enter g args) w) (p : Vec → Bool) (J : Nat → World → Prop) (X : Nat → Prop)
    (hX : ∀ j, X j → j < w.heap.size) (hJ : ∀ i W, J i W → SL S W v l) (hJs : ∀ i W W', J i W → Step W W' → J i W') (hw : J 0 w) (hp : PredA g cap (fun _ u x => u = .agg #[.int .i64 x.x, .int .i64 x.y]) p l J X) :
    Calls Try.prog 110 #[v, .func (.func g) #[] cap] w fun e w' => e = .returned (.bool (l.all p)) ∧ ∃ k, k ≤ l.length ∧ (l.all p = true → k = l.length) ∧ J k w' := by
  have hmf : ∀ (fn : Fn) (first cap : Array Value) (w : World), (Instr.makeFunc fn first cap).run Try.prog w = .ok (.func fn first cap) w := fun _ _ _ _ => rfl
  have hc := containsFunc_vec S l v (w.alloc (.cells #[.func (.func g) #[] cap] 167)) 114 #[.pointer (some ⟨w.heap.size, 0, none⟩)] (Go.Proofs.enters_of Try.func114 (by kernel_rfl) rfl) (fun x => !p x)
    (fun i W => J i W ∧ W.cell? ⟨w.heap.size, 0, none⟩ = some (.func (.func g) #[] cap)) (fun i W h => hJ i W h.1) ⟨hJs _ _ _ hw (Step.alloc _ _), by rw [World.cell?_alloc_new]; rfl⟩
    (allNot_vec l g cap eg p J X w.heap.size (fun h => by have := hX _ h; omega) hJs hp)
  have HC := Lib.hid hc
  clear hc hp hJ hJs hX eg
  go_enter Try.func110, Try.ntmps110
  go_wp2_with fail
  refine HC.out.mono ?_
  rintro e w' ⟨rfl, hk⟩
  have HK := Lib.hid hk
  clear hk
  have he : (l.any fun x => !p x) = !(l.all p) := by rw [List.not_all_eq_any_not]
  have HE := Lib.hid he
  clear he
  go_wp2
  go_ret
  obtain ⟨k, h1, h2, h3, _⟩ := HK.out
  rw [HE.out] at h2 ⊢
  exact ⟨by simp, k, h1, fun h => h2 (by simp [h]), h3⟩
set_option maxHeartbeats 1000000 in
theorem indexFunc_head (S : Nat → Prop) (l : List Head) (v : Value) (w : World) (g : FuncId) (cap : Array Value) (eg : ∀ args w, (callFunc g args).run Try.prog w = .ok (.enter g args) w) (p : Head → Bool) (J : Nat → World → Prop) (hJ : ∀ i W, J i W → SL S W v l) (hw : J 0 w)
    (hp : PredJ g cap (fun W u x => AV (fun _ => False) W u x) p l J) :
    Calls Try.prog 107 #[v, .func (.func g) #[] cap] w fun e w' => e = .returned (.int .i64 (idxOf p l)) ∧ ∃ k, k ≤ l.length ∧ (idxOf p l = -1 → k = l.length) ∧ J k w' := by
  obtain ⟨pv, cv, rfl⟩ := (hJ 0 w hw).form
  have hm := (hJ 0 w hw).len
  have Hp := Lib.hid hp
  have HJ := Lib.hid hJ
  clear hp hJ
  go_enter Try.func107, Try.ntmps107
  go_wp2
  go_loopw [8] (fun i wr => ∃ k : Nat, k ≤ l.length ∧ i = .int .i64 k ∧ (∀ j (hj : j < k) (hl : j < l.length), p l[j] = false) ∧ J k wr) (fun i _ => l.length - (intOf i).toNat)
  case atStart => exact ⟨0, Nat.zero_le _, rfl, fun j hj => absurd hj (by omega), hw⟩
  case round =>
    obtain ⟨k, hk, rfl, hno, hJk⟩ := hrel
    have HN := Lib.hid hno
    clear hno
    by_cases hlt : k < l.length
    · obtain ⟨p', c', b, o, he, _, _, hpp, hc, _⟩ := (HJ.out k wr hJk).heads
      injection he with he1 he2 he3
      subst he1 he3
      obtain rfl := hpp (by omega)
      obtain ⟨c2, e1, e2, e3, e4⟩ := hc k hlt; obtain ⟨p2, k2, rfl⟩ := e4.form
      clear hc hpp he2
      have hcall := Lib.hid (Hp.out k hlt wr (.agg #[.int .i64 l[k].area, .int .i64 l[k].bears, .slice p2 l[k].guys.length k2]) hJk (fun j hj => HN.out j hj (by omega)) ⟨_, rfl, _, rfl, e4.weak fun _ _ h => h.elim⟩)
      cases hq : p l[k] with
      | true =>
        have hq := Lib.hid hq
        go_wp2_with fail
        refine hcall.out.mono ?_
        rintro e w' ⟨rfl, hJ'⟩
        rw [hq.out]
        go_wp2
        have hi := idxOf_at hlt (fun j hj => HN.out j hj (by omega)) hq.out
        go_ret
        rw [hi]
        exact ⟨rfl, k + 1, by omega, fun h => by omega, hJ'⟩
      | false =>
        have hq := Lib.hid hq
        go_wp2_with fail
        refine hcall.out.mono ?_
        rintro e w' ⟨rfl, hJ'⟩
        rw [hq.out]
        go_wp2
        go_roundw
        case rel => exact ⟨k + 1, by omega, by go_num, fun j hj hl => if h : j = k then by subst h; exact hq.out else HN.out j (by omega) hl, hJ'⟩
        case measure => simp [intOf]; omega
    · go_wp2
      have hi := idxOf_none (fun j hj => HN.out j (by omega) hj)
      go_ret
      rw [hi]
      exact ⟨rfl, k, hk, fun _ => by omega, hJk⟩
set_option maxHeartbeats 1000000 in
theorem containsFunc_head (S : Nat → Prop) (l : List Head) (v : Value) (w : World) (g : FuncId) (cap : Array Value) (eg : ∀ args w, (callFunc g args).run Try.prog w = .ok (.enter g args) w) (p : Head → Bool) (J : Nat → World → Prop) (hJ : ∀ i W, J i W → SL S W v l) (hw : J 0 w)
    (hp : PredJ g cap (fun W u x => AV (fun _ => False) W u x) p l J) :
    Calls Try.prog 96 #[v, .func (.func g) #[] cap] w fun e w' => e = .returned (.bool (l.any p)) ∧ ∃ k, k ≤ l.length ∧ (l.any p = false → k = l.length) ∧ J k w' := by
  have hc := indexFunc_head S l v w g cap eg p J hJ hw hp
  have HC := Lib.hid hc
  clear hc hp hJ eg
  go_enter Try.func96, Try.ntmps96
  go_wp2_with fail
  refine HC.out.mono ?_
  rintro e w' ⟨rfl, hk⟩
  have HK := Lib.hid hk
  clear hk
  go_wp2
  have hge := idxOf_ge p l
  go_ret
  obtain ⟨k, h1, h2, h3⟩ := HK.out
  refine ⟨by rw [← hge]; rfl, k, h1, fun h => h2 ?_, h3⟩
  rw [← hge, decide_eq_false_iff_not] at h
  unfold idxOf at h ⊢
  split <;> rename_i hh <;> simp [hh] at h ⊢
set_option maxHeartbeats 1000000 in
theorem allNot_head (l : List Head) (g : FuncId) (cap : Array Value) (eg : ∀ args w, (callFunc g args).run Try.prog w = .ok (.enter g args) w) (p : Head → Bool) (J : Nat → World → Prop) (X : Nat → Prop) (b : Nat) (hX : ¬ X b)
    (hJs : ∀ i W W', J i W → Step W W' → J i W') (hp : PredA g cap (fun W u x => AV (fun _ => False) W u x) p l J X) :
    PredJ 97 #[.pointer (some ⟨b, 0, none⟩)] (fun W u x => AV (fun _ => False) W u x) (fun x => !p x) l (fun i W => J i W ∧ W.cell? ⟨b, 0, none⟩ = some (.func (.func g) #[] cap)) := by
  intro i h W u ⟨hJ, hc⟩ hno hV
  have hb := World.block_lt_of_cell? W _ hc
  have hb' : b < W.heap.size := hb
  obtain ⟨c2, rfl, e4⟩ := AV.head hV; obtain ⟨p2, k2, rfl⟩ := e4.form
  have hcall := Lib.hid (hp i h (W.alloc (.cells #[.int .i64 l[i].area, .int .i64 l[i].bears, .slice p2 l[i].guys.length k2] 89)) (.agg #[.int .i64 l[i].area, .int .i64 l[i].bears, .slice p2 l[i].guys.length k2]) (hJs _ _ _ hJ (Step.alloc _ _)) (fun j hj => by simpa using hno j hj) ⟨_, rfl, _, rfl, e4.keep (.alloc _ _)⟩)
  show Calls Try.prog 97 #[(.agg #[.int .i64 l[i].area, .int .i64 l[i].bears, .slice p2 l[i].guys.length k2]), .pointer (some ⟨b, 0, none⟩)] W _
  have HN := Lib.hid hno
  have HS := Lib.hid hJs
  clear hno hJs hp hJ hb
  go_enter Try.func97, Try.ntmps97
  go_wp2_with fail
  refine hcall.out.mono ?_
  rintro e w' ⟨rfl, hJ', hst⟩
  have hc' := hst.keeps.cell hX (a := ⟨b, 0, none⟩) (by rw [World.cell?_alloc_lt _ _ _ hb']; exact hc)
  go_wp2
  go_ret
  exact ⟨rfl, hJ', hc'⟩
set_option maxHeartbeats 1000000 in
theorem all_head (S : Nat → Prop) (l : List Head) (v : Value) (w : World) (g : FuncId) (cap : Array Value) (eg : ∀ args w, (callFunc g args).run Try.prog w = .ok (.enter g args) w) (p : Head → Bool) (J : Nat → World → Prop) (X : Nat → Prop)
    (hX : ∀ j, X j → j < w.heap.size) (hJ : ∀ i W, J i W → SL S W v l) (hJs : ∀ i W W', J i W → Step W W' → J i W') (hw : J 0 w) (hp : PredA g cap (fun W u x => AV (fun _ => False) W u x) p l J X) :
    Calls Try.prog 72 #[v, .func (.func g) #[] cap] w fun e w' => e = .returned (.bool (l.all p)) ∧ ∃ k, k ≤ l.length ∧ (l.all p = true → k = l.length) ∧ J k w' := by
  have hmf : ∀ (fn : Fn) (first cap : Array Value) (w : World), (Instr.makeFunc fn first cap).run Try.prog w = .ok (.func fn first cap) w := fun _ _ _ _ => rfl
  have hc := containsFunc_head S l v (w.alloc (.cells #[.func (.func g) #[] cap] 134)) 97 #[.pointer (some ⟨w.heap.size, 0, none⟩)] (Go.Proofs.enters_of Try.func97 (by kernel_rfl) rfl) (fun x => !p x)
    (fun i W => J i W ∧ W.cell? ⟨w.heap.size, 0, none⟩ = some (.func (.func g) #[] cap)) (fun i W h => hJ i W h.1) ⟨hJs _ _ _ hw (Step.alloc _ _), by rw [World.cell?_alloc_new]; rfl⟩
    (allNot_head l g cap eg p J X w.heap.size (fun h => by have := hX _ h; omega) hJs hp)
  have HC := Lib.hid hc
  clear hc hp hJ hJs hX eg
  go_enter Try.func72, Try.ntmps72
  go_wp2_with fail
  refine HC.out.mono ?_
  rintro e w' ⟨rfl, hk⟩
  have HK := Lib.hid hk
  clear hk
  have he : (l.any fun x => !p x) = !(l.all p) := by rw [List.not_all_eq_any_not]
  have HE := Lib.hid he
  clear he
  go_wp2
  go_ret
  obtain ⟨k, h1, h2, h3, _⟩ := HK.out
  rw [HE.out] at h2 ⊢
  exact ⟨by simp, k, h1, fun h => h2 (by simp [h]), h3⟩
end Go.Proofs.Ytdcjbbeoocldeaa
/- Walks: small functions of vectors, and whether tests, guys and vectors are valid. -/
namespace Go.Proofs.Ytdcjbbeoocldeaa
set_option linter.unusedSimpArgs false
set_option linter.unusedVariables false
open Go.RowKit Go.BT

def fits (n : Int) : Prop := -9223372036854775808 ≤ n ∧ n ≤ 9223372036854775807
theorem fits.wrap {n : Int} (h : fits n) : IntKind.i64.wrap n = n := by rw [IntKind.wrap_i64]; unfold fits at h; omega
/-- A vector as a value. -/
abbrev vv (v : Vec) : Value := .agg #[.int .i64 v.x, .int .i64 v.y]
theorem siVec : SI Try.prog 40 2 := ⟨⟨_, Try.underlying40⟩, by kernel_rfl⟩
theorem siRVec : SI Try.prog 26 2 := ⟨⟨_, Try.underlying26⟩, by kernel_rfl⟩
theorem set2 {w : World} {g : Nat} {a0 a1 : Value} {T : TypeId} (h : Bx w g [a0, a1] T) (c0 c1 : Value) : Bx ((w.setCell ⟨g, 0, none⟩ c0).setCell ⟨g, 1, none⟩ c1) g [c0, c1] T ∧ StepX (fun j => j = g) w ((w.setCell ⟨g, 0, none⟩ c0).setCell ⟨g, 1, none⟩ c1) :=
  ⟨(h.setCell 0 c0).setCell 1 c1, ((StepX.refl _ w).set1 0 c0).set1 1 c1⟩
theorem set4 {w : World} {g : Nat} {a0 a1 a2 a3 : Value} {T : TypeId} (h : Bx w g [a0, a1, a2, a3] T) (c0 c1 c2 c3 : Value) : Bx ((((w.setCell ⟨g, 0, none⟩ c0).setCell ⟨g, 1, none⟩ c1).setCell ⟨g, 2, none⟩ c2).setCell ⟨g, 3, none⟩ c3) g [c0, c1, c2, c3] T ∧ StepX (fun j => j = g) w ((((w.setCell ⟨g, 0, none⟩ c0).setCell ⟨g, 1, none⟩ c1).setCell ⟨g, 2, none⟩ c2).setCell ⟨g, 3, none⟩ c3) :=
  ⟨(((h.setCell 0 c0).setCell 1 c1).setCell 2 c2).setCell 3 c3, ((((StepX.refl _ w).set1 0 c0).set1 1 c1).set1 2 c2).set1 3 c3⟩
theorem set3 {w : World} {g : Nat} {a0 a1 a2 : Value} {T : TypeId} (h : Bx w g [a0, a1, a2] T) (c0 c1 c2 : Value) : Bx (((w.setCell ⟨g, 0, none⟩ c0).setCell ⟨g, 1, none⟩ c1).setCell ⟨g, 2, none⟩ c2) g [c0, c1, c2] T ∧ StepX (fun j => j = g) w (((w.setCell ⟨g, 0, none⟩ c0).setCell ⟨g, 1, none⟩ c1).setCell ⟨g, 2, none⟩ c2) :=
  ⟨((h.setCell 0 c0).setCell 1 c1).setCell 2 c2, (((StepX.refl _ w).set1 0 c0).set1 1 c1).set1 2 c2⟩
theorem times_any (v : Vec) (n : Int) (w : World) (h1 : fits (n * v.x)) (h2 : fits (n * v.y)) :
    Calls Try.prog 61 #[.agg #[.int .i64 v.x, .int .i64 v.y], .int .i64 n] w fun e w' => e = .returned (.agg #[.int .i64 (timesV v n).x, .int .i64 (timesV v n).y]) ∧ Step w w' := by
  have h1 := h1.wrap
  have h2 := h2.wrap
  go_enter Try.func61, Try.ntmps61
  go_wp2
  exact ret_struct (k := 2) rfl siVec rfl (Bx.new' _ [.int .i64 (n * v.x), .int .i64 (n * v.y)] _ _ (by simp)) rfl rfl ⟨rfl, (by repeat (first | (with_reducible assumption) | (with_reducible exact Step.refl _) | (with_reducible apply Step.s_alloc) | (with_reducible apply Step.s_drew) | (with_reducible apply Step.s_drewN) | (with_reducible refine Step.trans ?_ (by with_reducible assumption))))⟩
theorem Times_any (v : Vec) (n : Int) (w : World) (h1 : fits (n * v.x)) (h2 : fits (n * v.y)) :
    Calls Try.prog 25 #[.agg #[.int .i64 v.x, .int .i64 v.y], .int .i64 n] w fun e w' => e = .returned (.agg #[.int .i64 (timesV v n).x, .int .i64 (timesV v n).y]) ∧ Step w w' := by
  have h1 := h1.wrap
  have h2 := h2.wrap
  go_enter Try.func25, Try.ntmps25
  go_wp2
  exact ret_struct (k := 2) rfl siRVec rfl (Bx.new' _ [.int .i64 (n * v.x), .int .i64 (n * v.y)] _ _ (by simp)) rfl rfl ⟨rfl, (by repeat (first | (with_reducible assumption) | (with_reducible exact Step.refl _) | (with_reducible apply Step.s_alloc) | (with_reducible apply Step.s_drew) | (with_reducible apply Step.s_drewN) | (with_reducible refine Step.trans ?_ (by with_reducible assumption))))⟩
theorem dot_any (v o : Vec) (w : World) (h1 : fits (v.x * o.x)) (h2 : fits (v.y * o.y)) (h3 : fits (v.x * o.x + v.y * o.y)) :
    Calls Try.prog 67 #[.agg #[.int .i64 v.x, .int .i64 v.y], .agg #[.int .i64 o.x, .int .i64 o.y]] w fun e w' => e = .returned (.int .i64 (dotV v o)) ∧ Step w w' := by
  have h1 := h1.wrap
  have h2 := h2.wrap
  have h3 := h3.wrap
  go_enter Try.func67, Try.ntmps67
  go_wp2
  go_ret
  exact ⟨rfl, (by repeat (first | (with_reducible assumption) | (with_reducible exact Step.refl _) | (with_reducible apply Step.s_alloc) | (with_reducible apply Step.s_drew) | (with_reducible apply Step.s_drewN) | (with_reducible refine Step.trans ?_ (by with_reducible assumption))))⟩
theorem Dot_any (v o : Vec) (w : World) (h1 : fits (v.x * o.x)) (h2 : fits (v.y * o.y)) (h3 : fits (v.x * o.x + v.y * o.y)) :
    Calls Try.prog 62 #[.agg #[.int .i64 v.x, .int .i64 v.y], .agg #[.int .i64 o.x, .int .i64 o.y]] w fun e w' => e = .returned (.int .i64 (dotV v o)) ∧ Step w w' := by
  have h1 := h1.wrap
  have h2 := h2.wrap
  have h3 := h3.wrap
  go_enter Try.func62, Try.ntmps62
  go_wp2
  go_ret
  exact ⟨rfl, (by repeat (first | (with_reducible assumption) | (with_reducible exact Step.refl _) | (with_reducible apply Step.s_alloc) | (with_reducible apply Step.s_drew) | (with_reducible apply Step.s_drewN) | (with_reducible refine Step.trans ?_ (by with_reducible assumption))))⟩
theorem cross_any (v o : Vec) (w : World) (h1 : fits (v.x * o.y)) (h2 : fits (v.y * o.x)) (h3 : fits (v.x * o.y - v.y * o.x)) :
    Calls Try.prog 106 #[.agg #[.int .i64 v.x, .int .i64 v.y], .agg #[.int .i64 o.x, .int .i64 o.y]] w fun e w' => e = .returned (.int .i64 (crossV v o)) ∧ Step w w' := by
  have h1 := h1.wrap
  have h2 := h2.wrap
  have h3 := h3.wrap
  go_enter Try.func106, Try.ntmps106
  go_wp2
  go_ret
  exact ⟨rfl, (by repeat (first | (with_reducible assumption) | (with_reducible exact Step.refl _) | (with_reducible apply Step.s_alloc) | (with_reducible apply Step.s_drew) | (with_reducible apply Step.s_drewN) | (with_reducible refine Step.trans ?_ (by with_reducible assumption))))⟩
theorem Vector_any (v : Vec) (w : World) :
    Calls Try.prog 20 #[.agg #[.int .i64 v.x, .int .i64 v.y]] w fun e w' => e = .returned (.agg #[.int .i64 v.x, .int .i64 v.y]) ∧ Step w w' := by
  go_enter Try.func20, Try.ntmps20
  go_wp2
  exact ret_struct (k := 2) rfl siVec rfl (Bx.new' _ [.int .i64 v.x, .int .i64 v.y] _ _ (by simp)) rfl rfl ⟨rfl, (by repeat (first | (with_reducible assumption) | (with_reducible exact Step.refl _) | (with_reducible apply Step.s_alloc) | (with_reducible apply Step.s_drew) | (with_reducible apply Step.s_drewN) | (with_reducible refine Step.trans ?_ (by with_reducible assumption))))⟩
end Go.Proofs.Ytdcjbbeoocldeaa
/- Walks: whether tests, guys, heads, tents and winds are valid. -/
namespace Go.Proofs.Ytdcjbbeoocldeaa
set_option linter.unusedSimpArgs false
set_option linter.unusedVariables false
open Go.RowKit Go.BT
attribute [local go_sem] neq_vec

theorem headZ (n : Nat) : decide (n ≤ 8) = decide ((n : Int) ≤ 8) := by simp; omega
theorem tvalid_any (x : Tst) (w : World) : Calls Try.prog 87 #[.agg #[.int .i64 x.soil, .int .i64 x.depth, .int .i64 x.force, .bool x.held]] w fun e w' => e = .returned (.bool (tstB x)) ∧ Step w w' := by
  go_enter Try.func87, Try.ntmps87
  go_wp2_with fail
  refine (canvas.within_any _ _ _ _).mono ?_
  rintro e w' ⟨rfl, rfl⟩
  cases q0 : withinB x.soil 0 9 with
  | false =>
    go_wp2
    go_ret
    exact ⟨by simp [tstB, q0], (by repeat (first | (with_reducible assumption) | (with_reducible exact Step.refl _) | (with_reducible apply Step.s_alloc) | (with_reducible apply Step.s_drew) | (with_reducible apply Step.s_drewN) | (with_reducible refine Step.trans ?_ (by with_reducible assumption))))⟩
  | true =>
    go_wp2_with fail
    refine (canvas.within_any _ _ _ _).mono ?_
    rintro e w' ⟨rfl, rfl⟩
    cases q1 : withinB x.depth 1 3000 with
    | false =>
      go_wp2
      go_ret
      exact ⟨by simp [tstB, q0, q1], (by repeat (first | (with_reducible assumption) | (with_reducible exact Step.refl _) | (with_reducible apply Step.s_alloc) | (with_reducible apply Step.s_drew) | (with_reducible apply Step.s_drewN) | (with_reducible refine Step.trans ?_ (by with_reducible assumption))))⟩
    | true =>
      go_wp2_with fail
      refine (canvas.within_any _ _ _ _).mono ?_
      rintro e w' ⟨rfl, rfl⟩
      cases q2 : withinB x.force 1 5000 with
      | false =>
        go_wp2
        go_ret
        exact ⟨by simp [tstB, q0, q1, q2], (by repeat (first | (with_reducible assumption) | (with_reducible exact Step.refl _) | (with_reducible apply Step.s_alloc) | (with_reducible apply Step.s_drew) | (with_reducible apply Step.s_drewN) | (with_reducible refine Step.trans ?_ (by with_reducible assumption))))⟩
      | true =>
        go_wp2
        go_ret
        exact ⟨by simp [tstB, q0, q1, q2], (by repeat (first | (with_reducible assumption) | (with_reducible exact Step.refl _) | (with_reducible apply Step.s_alloc) | (with_reducible apply Step.s_drew) | (with_reducible apply Step.s_drewN) | (with_reducible refine Step.trans ?_ (by with_reducible assumption))))⟩
theorem CheckTests_any (S : Nat → Prop) (l : List Tst) (v : Value) (w : World) (hv : SL S w v l) : Calls Try.prog 57 #[v] w fun e w' => e = .returned (.int .i64 (testsC l)) ∧ Step w w' := by
  have hm := hv.len
  have hc := all_tst S l v w 87 #[] (Go.Proofs.enters_of Try.func87 (by kernel_rfl) rfl) tstB (fun _ W => Step w W) (fun _ => False) (fun _ h => h.elim)
    (fun _ W hW => hv.keep (.of_step hW)) (fun _ _ _ h1 h2 => h1.trans h2) (Step.refl _) (fun i hi W u hW _ hu => by
      subst hu
      refine (tvalid_any l[i] W).mono ?_
      rintro e w' ⟨rfl, hs⟩
      exact ⟨rfl, hW.trans hs, hs⟩)
  have HC := Lib.hid hc
  obtain ⟨pv, cv, rfl⟩ := hv.form
  clear hc hv
  by_cases hl : 40 < l.length
  · have hd : decide ((40 : Int) < (l.length : Int)) = true := by simp; omega
    go_enter Try.func57, Try.ntmps57
    go_wp2
    go_ret
    exact ⟨by simp [testsC, hl], Step.refl _⟩
  have hd : decide ((40 : Int) < (l.length : Int)) = false := by simp; omega
  have HL := Lib.hid hl
  clear hl
  go_enter Try.func57, Try.ntmps57
  go_wp2_with fail
  refine HC.out.mono ?_
  rintro e w' ⟨rfl, hk⟩
  obtain ⟨k, _, _, hS⟩ := hk
  cases q : l.all tstB with
  | true =>
    go_wp2
    go_ret
    exact ⟨by unfold testsC; rw [if_neg HL.out, if_pos q]; rfl, hS⟩
  | false =>
    go_wp2
    go_ret
    exact ⟨by unfold testsC; rw [if_neg HL.out, if_neg (by rw [q]; decide)]; rfl, hS⟩
set_option maxHeartbeats 1000000 in
theorem gvalid_any (x : Guy) (w : World) : Calls Try.prog 99 #[.agg #[.int .i64 x.x, .int .i64 x.y, .int .i64 x.down, .int .i64 x.soil, .int .i64 x.depth]] w fun e w' => e = .returned (.bool (guyB x)) ∧ Step w w' := by
  obtain ⟨xx, xy, dn, sl, dp⟩ := x
  dsimp only
  by_cases hx : xx = 0
  · subst hx
    by_cases hy : xy = 0
    · subst hy
      go_enter Try.func99, Try.ntmps99
      go_wp2_with fail
      refine (canvas.within_any _ _ _ _).mono ?_
      rintro e w' ⟨rfl, rfl⟩
      cases q0 : withinB 0 (-5000) 5000 with
      | false =>
        go_wp2
        go_ret
        exact ⟨by simp [guyB, guyB, q0], (by repeat (first | (with_reducible assumption) | (with_reducible exact Step.refl _) | (with_reducible apply Step.s_alloc) | (with_reducible apply Step.s_drew) | (with_reducible apply Step.s_drewN) | (with_reducible refine Step.trans ?_ (by with_reducible assumption))))⟩
      | true =>
        go_wp2_with fail
        refine (canvas.within_any _ _ _ _).mono ?_
        rintro e w' ⟨rfl, rfl⟩
        cases q1 : withinB 0 (-5000) 5000 with
        | false =>
          go_wp2
          go_ret
          exact ⟨by simp [guyB, guyB, q0, q1], (by repeat (first | (with_reducible assumption) | (with_reducible exact Step.refl _) | (with_reducible apply Step.s_alloc) | (with_reducible apply Step.s_drew) | (with_reducible apply Step.s_drewN) | (with_reducible refine Step.trans ?_ (by with_reducible assumption))))⟩
        | true =>
          go_wp2
          go_ret
          exact ⟨by simp [guyB, guyB, q0, q1], (by repeat (first | (with_reducible assumption) | (with_reducible exact Step.refl _) | (with_reducible apply Step.s_alloc) | (with_reducible apply Step.s_drew) | (with_reducible apply Step.s_drewN) | (with_reducible refine Step.trans ?_ (by with_reducible assumption))))⟩
    · go_enter Try.func99, Try.ntmps99
      go_wp2_with fail
      refine (canvas.within_any _ _ _ _).mono ?_
      rintro e w' ⟨rfl, rfl⟩
      cases q0 : withinB 0 (-5000) 5000 with
      | false =>
        go_wp2
        go_ret
        exact ⟨by simp [guyB, hy, q0], (by repeat (first | (with_reducible assumption) | (with_reducible exact Step.refl _) | (with_reducible apply Step.s_alloc) | (with_reducible apply Step.s_drew) | (with_reducible apply Step.s_drewN) | (with_reducible refine Step.trans ?_ (by with_reducible assumption))))⟩
      | true =>
        go_wp2_with fail
        refine (canvas.within_any _ _ _ _).mono ?_
        rintro e w' ⟨rfl, rfl⟩
        cases q1 : withinB xy (-5000) 5000 with
        | false =>
          go_wp2
          go_ret
          exact ⟨by simp [guyB, hy, q0, q1], (by repeat (first | (with_reducible assumption) | (with_reducible exact Step.refl _) | (with_reducible apply Step.s_alloc) | (with_reducible apply Step.s_drew) | (with_reducible apply Step.s_drewN) | (with_reducible refine Step.trans ?_ (by with_reducible assumption))))⟩
        | true =>
          go_wp2_with fail
          refine (canvas.within_any _ _ _ _).mono ?_
          rintro e w' ⟨rfl, rfl⟩
          cases q2 : withinB dn 0 5000 with
          | false =>
            go_wp2
            go_ret
            exact ⟨by simp [guyB, hy, q0, q1, q2], (by repeat (first | (with_reducible assumption) | (with_reducible exact Step.refl _) | (with_reducible apply Step.s_alloc) | (with_reducible apply Step.s_drew) | (with_reducible apply Step.s_drewN) | (with_reducible refine Step.trans ?_ (by with_reducible assumption))))⟩
          | true =>
            go_wp2_with fail
            refine (canvas.within_any _ _ _ _).mono ?_
            rintro e w' ⟨rfl, rfl⟩
            cases q3 : withinB sl 0 9 with
            | false =>
              go_wp2
              go_ret
              exact ⟨by simp [guyB, hy, q0, q1, q2, q3], (by repeat (first | (with_reducible assumption) | (with_reducible exact Step.refl _) | (with_reducible apply Step.s_alloc) | (with_reducible apply Step.s_drew) | (with_reducible apply Step.s_drewN) | (with_reducible refine Step.trans ?_ (by with_reducible assumption))))⟩
            | true =>
              go_wp2_with fail
              refine (canvas.within_any _ _ _ _).mono ?_
              rintro e w' ⟨rfl, rfl⟩
              cases q4 : withinB dp 1 3000 with
              | false =>
                go_wp2
                go_ret
                exact ⟨by simp [guyB, hy, q0, q1, q2, q3, q4], (by repeat (first | (with_reducible assumption) | (with_reducible exact Step.refl _) | (with_reducible apply Step.s_alloc) | (with_reducible apply Step.s_drew) | (with_reducible apply Step.s_drewN) | (with_reducible refine Step.trans ?_ (by with_reducible assumption))))⟩
              | true =>
                go_wp2
                go_ret
                exact ⟨by simp [guyB, hy, q0, q1, q2, q3, q4], (by repeat (first | (with_reducible assumption) | (with_reducible exact Step.refl _) | (with_reducible apply Step.s_alloc) | (with_reducible apply Step.s_drew) | (with_reducible apply Step.s_drewN) | (with_reducible refine Step.trans ?_ (by with_reducible assumption))))⟩
  · go_enter Try.func99, Try.ntmps99
    go_wp2_with fail
    refine (canvas.within_any _ _ _ _).mono ?_
    rintro e w' ⟨rfl, rfl⟩
    cases q0 : withinB xx (-5000) 5000 with
    | false =>
      go_wp2
      go_ret
      exact ⟨by simp [guyB, hx, q0], (by repeat (first | (with_reducible assumption) | (with_reducible exact Step.refl _) | (with_reducible apply Step.s_alloc) | (with_reducible apply Step.s_drew) | (with_reducible apply Step.s_drewN) | (with_reducible refine Step.trans ?_ (by with_reducible assumption))))⟩
    | true =>
      go_wp2_with fail
      refine (canvas.within_any _ _ _ _).mono ?_
      rintro e w' ⟨rfl, rfl⟩
      cases q1 : withinB xy (-5000) 5000 with
      | false =>
        go_wp2
        go_ret
        exact ⟨by simp [guyB, hx, q0, q1], (by repeat (first | (with_reducible assumption) | (with_reducible exact Step.refl _) | (with_reducible apply Step.s_alloc) | (with_reducible apply Step.s_drew) | (with_reducible apply Step.s_drewN) | (with_reducible refine Step.trans ?_ (by with_reducible assumption))))⟩
      | true =>
        go_wp2_with fail
        refine (canvas.within_any _ _ _ _).mono ?_
        rintro e w' ⟨rfl, rfl⟩
        cases q2 : withinB dn 0 5000 with
        | false =>
          go_wp2
          go_ret
          exact ⟨by simp [guyB, hx, q0, q1, q2], (by repeat (first | (with_reducible assumption) | (with_reducible exact Step.refl _) | (with_reducible apply Step.s_alloc) | (with_reducible apply Step.s_drew) | (with_reducible apply Step.s_drewN) | (with_reducible refine Step.trans ?_ (by with_reducible assumption))))⟩
        | true =>
          go_wp2_with fail
          refine (canvas.within_any _ _ _ _).mono ?_
          rintro e w' ⟨rfl, rfl⟩
          cases q3 : withinB sl 0 9 with
          | false =>
            go_wp2
            go_ret
            exact ⟨by simp [guyB, hx, q0, q1, q2, q3], (by repeat (first | (with_reducible assumption) | (with_reducible exact Step.refl _) | (with_reducible apply Step.s_alloc) | (with_reducible apply Step.s_drew) | (with_reducible apply Step.s_drewN) | (with_reducible refine Step.trans ?_ (by with_reducible assumption))))⟩
          | true =>
            go_wp2_with fail
            refine (canvas.within_any _ _ _ _).mono ?_
            rintro e w' ⟨rfl, rfl⟩
            cases q4 : withinB dp 1 3000 with
            | false =>
              go_wp2
              go_ret
              exact ⟨by simp [guyB, hx, q0, q1, q2, q3, q4], (by repeat (first | (with_reducible assumption) | (with_reducible exact Step.refl _) | (with_reducible apply Step.s_alloc) | (with_reducible apply Step.s_drew) | (with_reducible apply Step.s_drewN) | (with_reducible refine Step.trans ?_ (by with_reducible assumption))))⟩
            | true =>
              go_wp2
              go_ret
              exact ⟨by simp [guyB, hx, q0, q1, q2, q3, q4], (by repeat (first | (with_reducible assumption) | (with_reducible exact Step.refl _) | (with_reducible apply Step.s_alloc) | (with_reducible apply Step.s_drew) | (with_reducible apply Step.s_drewN) | (with_reducible refine Step.trans ?_ (by with_reducible assumption))))⟩
theorem guys_all (S : Nat → Prop) (l : List Guy) (v : Value) (w : World) (hv : SL S w v l) : Calls Try.prog 98 #[v, .func (.func 99) #[] #[]] w fun e w' => e = .returned (.bool (l.all guyB)) ∧ Step w w' := by
  refine (all_guy S l v w 99 #[] (Go.Proofs.enters_of Try.func99 (by kernel_rfl) rfl) guyB (fun _ W => Step w W) (fun _ => False) (fun _ h => h.elim)
    (fun _ W hW => hv.keep (.of_step hW)) (fun _ _ _ h1 h2 => h1.trans h2) (Step.refl _) (fun i hi W u hW _ hu => by
      subst hu
      refine (gvalid_any l[i] W).mono ?_
      rintro e w' ⟨rfl, hs⟩
      exact ⟨rfl, hW.trans hs, hs⟩)).mono ?_
  rintro e w' ⟨rfl, k, _, _, hS⟩
  exact ⟨rfl, hS⟩
set_option maxHeartbeats 1000000 in
theorem hvalid_any (S : Nat → Prop) (x : Head) (v : Value) (w : World) (hv : AV S w v x) : Calls Try.prog 73 #[v] w fun e w' => e = .returned (.bool (headB x)) ∧ Step w w' := by
  obtain ⟨c2, rfl, h2⟩ := hv.head
  obtain ⟨p2, k2, rfl⟩ := h2.form
  have hm := h2.len
  have hcall := Lib.hid (guys_all S x.guys (.slice p2 x.guys.length k2) (w.alloc (.cells #[.int .i64 x.area, .int .i64 x.bears, .slice p2 x.guys.length k2] 89)) (h2.keep (.alloc _ _)))
  clear h2
  go_enter Try.func73, Try.ntmps73
  go_wp2_with fail
  refine (canvas.within_any _ _ _ _).mono ?_
  rintro e w' ⟨rfl, rfl⟩
  cases q0 : withinB x.area 0 1000 with
  | false =>
    go_wp2
    go_ret
    exact ⟨by simp [headB, headZ, q0], (by repeat (first | (with_reducible assumption) | (with_reducible exact Step.refl _) | (with_reducible apply Step.s_alloc) | (with_reducible apply Step.s_drew) | (with_reducible apply Step.s_drewN) | (with_reducible refine Step.trans ?_ (by with_reducible assumption))))⟩
  | true =>
    go_wp2_with fail
    refine (canvas.within_any _ _ _ _).mono ?_
    rintro e w' ⟨rfl, rfl⟩
    cases q1 : withinB x.bears 0 10000000 with
    | false =>
      go_wp2
      go_ret
      exact ⟨by simp [headB, headZ, q0, q1], (by repeat (first | (with_reducible assumption) | (with_reducible exact Step.refl _) | (with_reducible apply Step.s_alloc) | (with_reducible apply Step.s_drew) | (with_reducible apply Step.s_drewN) | (with_reducible refine Step.trans ?_ (by with_reducible assumption))))⟩
    | true =>
      cases q2 : decide ((x.guys.length : Int) ≤ 8) with
      | false =>
        go_wp2
        go_ret
        exact ⟨by simp [headB, headZ, q0, q1, q2], (by repeat (first | (with_reducible assumption) | (with_reducible exact Step.refl _) | (with_reducible apply Step.s_alloc) | (with_reducible apply Step.s_drew) | (with_reducible apply Step.s_drewN) | (with_reducible refine Step.trans ?_ (by with_reducible assumption))))⟩
      | true =>
        go_wp2_with fail
        refine hcall.out.mono ?_
        rintro e w' ⟨rfl, hS⟩
        go_wp2
        go_ret
        exact ⟨by simp [headB, headZ, q0, q1, q2], (Step.alloc _ _).trans hS⟩
theorem heads_all (S : Nat → Prop) (l : List Head) (v : Value) (w : World) (hv : SL S w v l) : Calls Try.prog 72 #[v, .func (.func 73) #[] #[]] w fun e w' => e = .returned (.bool (l.all headB)) ∧ Step w w' := by
  refine (all_head S l v w 73 #[] (Go.Proofs.enters_of Try.func73 (by kernel_rfl) rfl) headB (fun _ W => Step w W) (fun _ => False) (fun _ h => h.elim)
    (fun _ W hW => hv.keep (.of_step hW)) (fun _ _ _ h1 h2 => h1.trans h2) (Step.refl _) (fun i hi W u hW _ hu => by
      refine (hvalid_any _ l[i] u W hu).mono ?_
      rintro e w' ⟨rfl, hs⟩
      exact ⟨rfl, hW.trans hs, hs⟩)).mono ?_
  rintro e w' ⟨rfl, k, _, _, hS⟩
  exact ⟨rfl, hS⟩
theorem CheckTent_any (S : Nat → Prop) (t : List Head) (v : Value) (w : World) (hv : SL S w v t) : Calls Try.prog 35 #[v] w fun e w' => e = .returned (.int .i64 (tentC t)) ∧ Step w w' := by
  have hm := hv.len
  have hcall := Lib.hid (heads_all S t v w hv)
  obtain ⟨pv, cv, rfl⟩ := hv.form
  clear hv
  go_enter Try.func35, Try.ntmps35
  go_wp2_with fail
  refine (canvas.within_any _ _ _ _).mono ?_
  rintro e w' ⟨rfl, rfl⟩
  cases q0 : withinB (t.length : Int) 1 12 with
  | false =>
    go_wp2
    go_ret
    exact ⟨by simp [tentC, tentB, q0], Step.refl _⟩
  | true =>
    go_wp2_with fail
    refine hcall.out.mono ?_
    rintro e w' ⟨rfl, hS⟩
    cases q1 : t.all headB with
    | false =>
      go_wp2
      go_ret
      exact ⟨by unfold tentC tentB; rw [q0, q1]; rfl, hS⟩
    | true =>
      go_wp2
      go_ret
      exact ⟨by unfold tentC tentB; rw [q0, q1]; rfl, hS⟩
theorem in_any (v : Vec) (n : Int) (w : World) (hn : 0 ≤ n ∧ n ≤ 1000000000) : Calls Try.prog 59 #[.agg #[.int .i64 v.x, .int .i64 v.y], .int .i64 n] w fun e w' => e = .returned (.bool (withinB v.x (-n) n && withinB v.y (-n) n)) ∧ Step w w' := by
  have hw : IntKind.i64.wrap (-n) = -n := by rw [IntKind.wrap_i64]; omega
  go_enter Try.func59, Try.ntmps59
  go_wp2_with fail
  refine (canvas.within_any _ _ _ _).mono ?_
  rintro e w' ⟨rfl, rfl⟩
  cases q0 : withinB v.x (-n) n with
  | false =>
    go_wp2
    go_ret
    exact ⟨by simp [Bool.and_true, q0], (by repeat (first | (with_reducible assumption) | (with_reducible exact Step.refl _) | (with_reducible apply Step.s_alloc) | (with_reducible apply Step.s_drew) | (with_reducible apply Step.s_drewN) | (with_reducible refine Step.trans ?_ (by with_reducible assumption))))⟩
  | true =>
    go_wp2_with fail
    refine (canvas.within_any _ _ _ _).mono ?_
    rintro e w' ⟨rfl, rfl⟩
    cases q1 : withinB v.y (-n) n with
    | false =>
      go_wp2
      go_ret
      exact ⟨by simp [Bool.and_true, q0, q1], (by repeat (first | (with_reducible assumption) | (with_reducible exact Step.refl _) | (with_reducible apply Step.s_alloc) | (with_reducible apply Step.s_drew) | (with_reducible apply Step.s_drewN) | (with_reducible refine Step.trans ?_ (by with_reducible assumption))))⟩
    | true =>
      go_wp2
      go_ret
      exact ⟨by simp [Bool.and_true, q0, q1], (by repeat (first | (with_reducible assumption) | (with_reducible exact Step.refl _) | (with_reducible apply Step.s_alloc) | (with_reducible apply Step.s_drew) | (with_reducible apply Step.s_drewN) | (with_reducible refine Step.trans ?_ (by with_reducible assumption))))⟩
theorem windy1_any (v : Vec) (w : World) : Calls Try.prog 111 #[.agg #[.int .i64 v.x, .int .i64 v.y]] w fun e w' => e = .returned (.bool (cornerB v)) ∧ Step w w' := by
  have hcall := Lib.hid (in_any v 10000 (w.alloc (.cells #[.int .i64 v.x, .int .i64 v.y] 40)) (by omega))
  go_enter Try.func111, Try.ntmps111
  go_wp2_with fail
  refine hcall.out.mono ?_
  rintro e w' ⟨rfl, hS⟩
  go_wp2
  go_ret
  exact ⟨rfl, (Step.alloc _ _).trans hS⟩
theorem windy_any (S : Nat → Prop) (l : List Vec) (v : Value) (w : World) (hv : SL S w v l) : Calls Try.prog 100 #[v] w fun e w' => e = .returned (.bool (windB l)) ∧ Step w w' := by
  have hm := hv.len
  have hc := all_vec S l v w 111 #[] (Go.Proofs.enters_of Try.func111 (by kernel_rfl) rfl) cornerB (fun _ W => Step w W) (fun _ => False) (fun _ h => h.elim)
    (fun _ W hW => hv.keep (.of_step hW)) (fun _ _ _ h1 h2 => h1.trans h2) (Step.refl _) (fun i hi W u hW _ hu => by
      subst hu
      refine (windy1_any l[i] W).mono ?_
      rintro e w' ⟨rfl, hs⟩
      exact ⟨rfl, hW.trans hs, hs⟩)
  have HC := Lib.hid hc
  obtain ⟨pv, cv, rfl⟩ := hv.form
  clear hc hv
  go_enter Try.func100, Try.ntmps100
  go_wp2_with fail
  refine (canvas.within_any _ _ _ _).mono ?_
  rintro e w' ⟨rfl, rfl⟩
  cases q0 : withinB (l.length : Int) 1 12 with
  | false =>
    go_wp2
    go_ret
    exact ⟨by simp [windB, q0], Step.refl _⟩
  | true =>
    go_wp2_with fail
    refine HC.out.mono ?_
    rintro e w' ⟨rfl, k, _, _, hS⟩
    go_wp2
    go_ret
    exact ⟨by simp [windB, q0], hS⟩
end Go.Proofs.Ytdcjbbeoocldeaa
/- Walks: tests that clash. -/
namespace Go.Proofs.Ytdcjbbeoocldeaa
set_option linter.unusedSimpArgs false
set_option linter.unusedVariables false
open Go.RowKit Go.BT

theorem tst_wrap {x y : Tst} (hx : tstB x = true) (hy : tstB y = true) : IntKind.i64.wrap (x.force * y.depth) = x.force * y.depth := by
  have := force_bound hx (tst_parts hy).2.1
  rw [IntKind.wrap_i64]; omega
theorem against_any (x y : Tst) (w : World) (hx : tstB x = true) (hy : tstB y = true) :
    Calls Try.prog 102 #[.agg #[.int .i64 x.soil, .int .i64 x.depth, .int .i64 x.force, .bool x.held], .agg #[.int .i64 y.soil, .int .i64 y.depth, .int .i64 y.force, .bool y.held]] w fun e w' => e = .returned (.bool (againstB x y)) ∧ Step w w' := by
  have h1 := tst_wrap hx hy
  have h2 := tst_wrap hy hx
  clear hx hy
  obtain ⟨xs, xd, xf, xh⟩ := x
  obtain ⟨ys, yd, yf, yh⟩ := y
  dsimp only at h1 h2 ⊢
  cases xh with
  | false =>
    go_enter Try.func102, Try.ntmps102
    go_wp2
    go_ret
    exact ⟨by simp [againstB], (by repeat (first | (with_reducible assumption) | (with_reducible exact Step.refl _) | (with_reducible apply Step.s_alloc) | (with_reducible apply Step.s_drew) | (with_reducible apply Step.s_drewN) | (with_reducible refine Step.trans ?_ (by with_reducible assumption))))⟩
  | true =>
    cases yh with
    | true =>
      go_enter Try.func102, Try.ntmps102
      go_wp2
      go_ret
      exact ⟨by simp [againstB], (by repeat (first | (with_reducible assumption) | (with_reducible exact Step.refl _) | (with_reducible apply Step.s_alloc) | (with_reducible apply Step.s_drew) | (with_reducible apply Step.s_drewN) | (with_reducible refine Step.trans ?_ (by with_reducible assumption))))⟩
    | false =>
      by_cases hs : xs = ys
      · have hd : (xs == ys) = true := by simpa using hs
        have HS := Lib.hid hs
        clear hs
        go_enter Try.func102, Try.ntmps102
        go_wp2
        go_ret
        exact ⟨by simp [againstB, HS.out], (by repeat (first | (with_reducible assumption) | (with_reducible exact Step.refl _) | (with_reducible apply Step.s_alloc) | (with_reducible apply Step.s_drew) | (with_reducible apply Step.s_drewN) | (with_reducible refine Step.trans ?_ (by with_reducible assumption))))⟩
      · have hd : (xs == ys) = false := by simpa using hs
        have HS := Lib.hid hs
        clear hs
        go_enter Try.func102, Try.ntmps102
        go_wp2
        go_ret
        exact ⟨by simp [againstB, HS.out], (by repeat (first | (with_reducible assumption) | (with_reducible exact Step.refl _) | (with_reducible apply Step.s_alloc) | (with_reducible apply Step.s_drew) | (with_reducible apply Step.s_drewN) | (with_reducible refine Step.trans ?_ (by with_reducible assumption))))⟩
/-- Where a test first clashes with one of a list, or -1. -/
def idxB (p : Tst → Bool) (l : List Tst) : Int := idxOf p l
set_option maxHeartbeats 1000000 in
theorem indexAgainst_any (S : Nat → Prop) (x : Tst) (l : List Tst) (v : Value) (w : World) (hv : SL S w v l) (hx : tstB x = true) (hl : l.all tstB = true) :
    Calls Try.prog 101 #[v, .func (.func 102) #[.agg #[.int .i64 x.soil, .int .i64 x.depth, .int .i64 x.force, .bool x.held]] #[]] w fun e w' => e = .returned (.int .i64 (idxOf (againstB x) l)) ∧ Step w w' := by
  have hm := hv.len
  obtain ⟨pv, cv, b, o, rfl, _, _, hp, hc, _⟩ := hv.tsts
  have HP := Lib.hid (And.intro hp hc)
  have HL := Lib.hid (And.intro hx hl)
  have HT0 := Lib.hid (Step.refl w)
  clear hp hc hx hl hv
  go_enter Try.func101, Try.ntmps101
  go_wp2
  go_loopw [8] (fun i wr => ∃ k : Nat, k ≤ l.length ∧ i = .int .i64 k ∧ (∀ j (hj : j < k) (hl : j < l.length), againstB x l[j] = false) ∧ Step w wr) (fun i _ => l.length - (intOf i).toNat)
  case atStart => exact ⟨0, Nat.zero_le _, rfl, fun j hj => absurd hj (by omega), HT0.out⟩
  case round =>
    obtain ⟨k, hk, rfl, hno, hT⟩ := hrel
    have HN := Lib.hid hno
    have HT := Lib.hid hT
    clear hno hT
    by_cases hlt : k < l.length
    · obtain rfl := HP.out.1 (by omega)
      obtain ⟨e1, e2, e3, e4⟩ := HP.out.2 k hlt
      have e1 := HT.out.keeps.cell id e1
      have e2 := HT.out.keeps.cell id e2
      have e3 := HT.out.keeps.cell id e3
      have e4 := HT.out.keeps.cell id e4
      have hix : (0 : Int) ≤ (k : Int) ∧ (k : Int) < (l.length : Int) := by omega
      have hcall := Lib.hid (against_any x l[k] wr HL.out.1 (all_get HL.out.2 hlt))
      go_wp2_with fail
      refine hcall.out.mono ?_
      rintro e w' ⟨rfl, hS⟩
      clear hcall e1 e2 e3 e4
      cases hq : againstB x l[k] with
      | true =>
        have HQ := Lib.hid hq
        have HS := Lib.hid hS
        clear hq hS
        go_wp2
        go_ret
        exact ⟨by rw [idxOf_at hlt (fun j hj => HN.out j hj (by omega)) HQ.out]; rfl, HT.out.trans HS.out⟩
      | false =>
        have HQ := Lib.hid hq
        have HS := Lib.hid hS
        clear hq hS
        go_wp2
        go_roundw
        case rel => exact ⟨k + 1, by omega, by go_num, fun j hj hl => if h : j = k then by subst h; exact HQ.out else HN.out j (by omega) hl, HT.out.trans HS.out⟩
        case measure => simp [intOf]; omega
    · go_wp2
      go_ret
      exact ⟨by rw [idxOf_none (fun j hj => HN.out j (by omega) hj)]; rfl, HT.out⟩
/-- A pair that clashes is told, or none. -/
theorem clash_any (S : Nat → Prop) (l : List Tst) (v : Value) (w : World) (hv : SL S w v l) (hl : l.all tstB = true) :
    Calls Try.prog 85 #[v] w fun e w' => ∃ i j : Int, e = .returned (.tuple #[.int .i64 i, .int .i64 j]) ∧ (decide (0 ≤ i) = clashB l) ∧ Step w w' := by
  have hm := hv.len
  have hv0 := hv
  obtain ⟨pv, cv, b, o, rfl, _, _, hp, hc, _⟩ := hv.tsts
  have HP := Lib.hid (And.intro hp hc)
  have HL := Lib.hid hl
  have HV := Lib.hid hv0
  have HT0 := Lib.hid (Step.refl w)
  clear hp hc hl hv hv0
  go_enter Try.func85, Try.ntmps85
  go_wp2
  go_loopw [9] (fun i wr => ∃ k : Nat, k ≤ l.length ∧ i = .int .i64 k ∧ (∀ j (hj : j < k) (hl : j < l.length), l.any (againstB l[j]) = false) ∧ Step w wr) (fun i _ => l.length - (intOf i).toNat)
  case atStart => exact ⟨0, Nat.zero_le _, rfl, fun j hj => absurd hj (by omega), HT0.out⟩
  case round =>
    obtain ⟨k, hk, rfl, hno, hT⟩ := hrel
    have HN := Lib.hid hno
    have HT := Lib.hid hT
    clear hno hT
    by_cases hlt : k < l.length
    · obtain rfl := HP.out.1 (by omega)
      obtain ⟨e1, e2, e3, e4⟩ := HP.out.2 k hlt
      have e1 := HT.out.keeps.cell id e1
      have e2 := HT.out.keeps.cell id e2
      have e3 := HT.out.keeps.cell id e3
      have e4 := HT.out.keeps.cell id e4
      have hix : (0 : Int) ≤ (k : Int) ∧ (k : Int) < (l.length : Int) := by omega
      have hcall := Lib.hid (indexAgainst_any S l[k] l _ (wr.alloc (.cells #[.int .i64 l[k].soil, .int .i64 l[k].depth, .int .i64 l[k].force, .bool l[k].held] 111)) (HV.out.keep (.of_step (HT.out.trans (Step.alloc _ _)))) (all_get HL.out hlt) HL.out)
      go_wp2_with fail
      refine hcall.out.mono ?_
      rintro e w' ⟨rfl, hS⟩
      have hge := idxOf_ge (againstB l[k]) l
      have HS := Lib.hid ((Step.alloc _ _).trans hS)
      clear hcall e1 e2 e3 e4 hS
      cases hq : l.any (againstB l[k]) with
      | true =>
        rw [hq] at hge
        have HQ := Lib.hid (And.intro hge (show clashB l = true from List.any_eq_true.2 ⟨_, List.getElem_mem hlt, hq⟩))
        clear hq
        go_wp2
        go_ret2
        exact ⟨_, _, rfl, by rw [HQ.out.2]; simp, HT.out.trans HS.out⟩
      | false =>
        rw [hq] at hge
        have HQ := Lib.hid hq
        clear hq
        go_wp2
        go_roundw
        case rel => exact ⟨k + 1, by omega, by go_num, fun j hj hl => if h : j = k then by subst h; exact HQ.out else HN.out j (by omega) hl, HT.out.trans HS.out⟩
        case measure => simp [intOf]; omega
    · have HQ := Lib.hid (show clashB l = false by
        unfold clashB
        rw [List.any_eq_false]
        intro y hy
        obtain ⟨j, hj, rfl⟩ := List.getElem_of_mem hy
        rw [HN.out j (by omega) hj]; decide)
      go_wp2
      go_ret2
      exact ⟨_, _, rfl, by rw [HQ.out]; decide, HT.out⟩
theorem sound_any (S : Nat → Prop) (l : List Tst) (v : Value) (w : World) (hv : SL S w v l) (hl : l.all tstB = true) :
    Calls Try.prog 70 #[v] w fun e w' => e = .returned (.int .i64 (soundC l)) ∧ Step w w' := by
  have hcall := Lib.hid (clash_any S l v w hv hl)
  obtain ⟨pv, cv, rfl⟩ := hv.form
  clear hv hl
  go_enter Try.func70, Try.ntmps70
  go_wp2_with fail
  refine hcall.out.mono ?_
  rintro e w' ⟨i, j, rfl, hq, hS⟩
  clear hcall
  cases q : clashB l with
  | true =>
    rw [q] at hq
    have HQ := Lib.hid q
    clear q
    go_wp2
    go_ret
    exact ⟨by simp [soundC, HQ.out], hS⟩
  | false =>
    rw [q] at hq
    have HQ := Lib.hid q
    clear q
    go_wp2
    go_ret
    exact ⟨by simp [soundC, HQ.out], hS⟩
end Go.Proofs.Ytdcjbbeoocldeaa
/- Walks: what a stake holds: the program's way. -/
namespace Go.Proofs.Ytdcjbbeoocldeaa
set_option linter.unusedSimpArgs false
set_option linter.unusedVariables false
open Go.RowKit Go.BT

theorem siRange : SI Try.prog 105 2 := ⟨⟨_, Try.underlying105⟩, by kernel_rfl⟩
theorem quo_wrap {x : Tst} {d : Int} (h : tstB x = true) (hd : 1 ≤ d ∧ d ≤ 3000) : IntKind.i64.wrap (x.force * d) = x.force * d ∧ IntKind.i64.wrap ((x.force * d).tdiv x.depth) = x.force * d / x.depth ∧ ¬ x.depth = 0 := by
  have h1 := force_bound h hd
  have h2 := quo_bound h hd
  obtain ⟨_, h3, _⟩ := tst_parts h
  rw [Int.tdiv_eq_ediv_of_nonneg (by omega), IntKind.wrap_i64, IntKind.wrap_i64]
  omega
theorem top_wrap {x : Tst} {d : Int} (h : tstB x = true) (hd : 1 ≤ d ∧ d ≤ 3000) : IntKind.i64.wrap (x.force * d + x.depth) = x.force * d + x.depth ∧ IntKind.i64.wrap (x.force * d + x.depth - 1) = x.force * d + x.depth - 1 ∧ IntKind.i64.wrap ((x.force * d + x.depth - 1).tdiv x.depth) = (x.force * d + x.depth - 1) / x.depth ∧ IntKind.i64.wrap ((x.force * d + x.depth - 1) / x.depth - 1) = (x.force * d + x.depth - 1) / x.depth - 1 := by
  have h1 := force_bound h hd
  have h2 := top_bound h hd
  obtain ⟨_, h3, _⟩ := tst_parts h
  rw [Int.tdiv_eq_ediv_of_nonneg (by omega), IntKind.wrap_i64, IntKind.wrap_i64, IntKind.wrap_i64, IntKind.wrap_i64]
  omega
theorem step_no {s d : Int} {r : Rng} {x : Tst} (h : ¬ x.soil = s) : stepH s d r x = r := by unfold stepH; rw [if_neg h]
theorem step_held {s d : Int} {r : Rng} {x : Tst} (h : x.soil = s) (hh : x.held = true) : stepH s d r x = ⟨if r.lo < x.force * d / x.depth then x.force * d / x.depth else r.lo, r.hi⟩ := by
  unfold stepH; rw [if_pos h, if_pos hh]; congr 1; omega
theorem step_broke {s d : Int} {r : Rng} {x : Tst} (h : x.soil = s) (hh : x.held = false) : stepH s d r x = ⟨r.lo, if (x.force * d + x.depth - 1) / x.depth - 1 < r.hi then (x.force * d + x.depth - 1) / x.depth - 1 else r.hi⟩ := by
  unfold stepH; rw [if_pos h, if_neg (by rw [hh]; decide)]; congr 1; omega
set_option maxRecDepth 100000 in
set_option maxHeartbeats 4000000 in
theorem holds_any (S : Nat → Prop) (l : List Tst) (s d : Int) (v : Value) (w : World) (hv : SL S w v l) (hl : l.all tstB = true) (hd : 1 ≤ d ∧ d ≤ 3000) :
    Calls Try.prog 84 #[v, .int .i64 s, .int .i64 d] w fun e w' => e = .returned (.agg #[.int .i64 (holdsL l s d).lo, .int .i64 (holdsL l s d).hi]) ∧ Step w w' := by
  have hm := hv.len
  obtain ⟨pv, cv, b, o, rfl, _, _, hp, hc, _⟩ := hv.tsts
  have HP := Lib.hid (And.intro hp hc)
  have HL := Lib.hid hl
  have HD := Lib.hid hd
  obtain ⟨W0, hW0⟩ : ∃ W, W = (w.alloc (.cells #[.int .i64 0, .int .i64 0] 105)).alloc (.cells #[.int .i64 0, .int .i64 10000000] 105) := ⟨_, rfl⟩
  have hb1 : Bx W0 w.heap.size [.int .i64 0, .int .i64 0] 105 := by subst hW0; exact (Bx.new w [_, _] _).alloc _
  have hb2 : Bx W0 (w.heap.size + 1) [.int .i64 0, .int .i64 10000000] 105 := by subst hW0; exact Bx.new' _ [_, _] _ _ (by simp)
  have hS : Step w W0 := by subst hW0; exact (by repeat (first | (with_reducible assumption) | (with_reducible exact Step.refl _) | (with_reducible apply Step.s_alloc) | (with_reducible apply Step.s_drew) | (with_reducible apply Step.s_drewN) | (with_reducible refine Step.trans ?_ (by with_reducible assumption))))
  have HB1 := Lib.hid hb1
  have HB2 := Lib.hid hb2
  have HS := Lib.hid hS
  have HW := Lib.hid hW0
  clear hp hc hl hd hv hb1 hb2 hS hW0
  go_enter Try.func84, Try.ntmps84
  go_wp2
  rw [← HW.out]
  go_loopw [13] (fun i wr => ∃ k : Nat, k ≤ l.length ∧ i = .int .i64 k ∧ Bx wr w.heap.size [.int .i64 0, .int .i64 0] 105 ∧ Bx wr (w.heap.size + 1) [.int .i64 (holdsL (l.take k) s d).lo, .int .i64 (holdsL (l.take k) s d).hi] 105 ∧ Step w wr) (fun i _ => l.length - (intOf i).toNat)
  case atStart => exact ⟨0, Nat.zero_le _, rfl, HB1.out, HB2.out, HS.out⟩
  case round =>
    obtain ⟨k, hk, rfl, hb1, hb2, hT⟩ := hrel
    have HT := Lib.hid hT
    have HB1 := Lib.hid hb1
    have HB2 := Lib.hid hb2
    clear hT hb1 hb2
    obtain ⟨r, hr⟩ : ∃ r, r = holdsL (l.take k) s d := ⟨_, rfl⟩
    rw [← hr] at HB2
    have HR := Lib.hid hr
    clear hr
    have r0 := HB2.out.cell 0
    have r1 := HB2.out.cell 1
    have z0 := HB2.out.frozen 0
    have z1 := HB2.out.frozen 1
    have rl := HB2.out.lt
    simp only [List.getElem?_cons_zero, List.getElem?_cons_succ] at r0 r1
    by_cases hlt : k < l.length
    · obtain rfl := HP.out.1 (by omega)
      obtain ⟨e1, e2, e3, e4⟩ := HP.out.2 k hlt
      have e1 := HT.out.keeps.cell id e1
      have e2 := HT.out.keeps.cell id e2
      have e3 := HT.out.keeps.cell id e3
      have e4 := HT.out.keeps.cell id e4
      have hix : (0 : Int) ≤ (k : Int) ∧ (k : Int) < (l.length : Int) := by omega
      obtain ⟨x, hx⟩ : ∃ x, x = l[k] := ⟨_, rfl⟩
      have htx := all_get HL.out hlt
      rw [← hx] at e1 e2 e3 e4 htx
      have HTK := Lib.hid (show holdsL (l.take (k + 1)) s d = stepH s d r x by rw [holds_take hlt, ← HR.out, ← hx])
      clear hx
      obtain ⟨hw1, hw2, hw3⟩ := quo_wrap htx HD.out
      obtain ⟨hw4, hw5, hw6, hw7⟩ := top_wrap htx HD.out
      clear htx
      by_cases hs : x.soil = s
      · have hd : (x.soil != s) = false := by simpa using hs
        have HSO := Lib.hid hs
        clear hs
        cases hh : x.held with
        | true =>
          rw [hh] at e4
          have HN := Lib.hid (HTK.out.trans (step_held HSO.out hh))
          clear hh
          go_wp2
          go_region
          go_wp2
          go_roundw
          case rel => exact ⟨k + 1, by omega, by go_num, ((HB1.out.setOther (Nat.ne_of_lt (Nat.lt_succ_self _))).alloc _).step (.drew _), by rw [HN.out]; exact ((HB2.out.setCell 0 _).alloc _).step (.drew _), ((HT.out.setNew ⟨w.heap.size + 1, 0, none⟩ _ (by show w.heap.size ≤ w.heap.size + 1; omega)).trans (Step.alloc _ _)).trans (.drew _)⟩
          case measure => simp [intOf]; omega
        | false =>
          rw [hh] at e4
          have HN := Lib.hid (HTK.out.trans (step_broke HSO.out hh))
          clear hh
          go_wp2
          go_region
          go_wp2
          go_roundw
          case rel => exact ⟨k + 1, by omega, by go_num, ((HB1.out.setOther (Nat.ne_of_lt (Nat.lt_succ_self _))).alloc _).step (.drew _), by rw [HN.out]; exact ((HB2.out.setCell 1 _).alloc _).step (.drew _), ((HT.out.setNew ⟨w.heap.size + 1, 1, none⟩ _ (by show w.heap.size ≤ w.heap.size + 1; omega)).trans (Step.alloc _ _)).trans (.drew _)⟩
          case measure => simp [intOf]; omega
      · have hd : (x.soil != s) = true := by simpa using hs
        have HN := Lib.hid (HTK.out.trans (step_no hs))
        clear hs
        go_wp2
        go_roundw
        case rel => exact ⟨k + 1, by omega, by go_num, HB1.out.alloc _, by rw [HN.out]; exact HB2.out.alloc _, HT.out.trans (Step.alloc _ _)⟩
        case measure => simp [intOf]; omega
    · have HN := Lib.hid (show r = holdsL l s d by rw [HR.out, List.take_of_length_le (by omega)])
      have a0 := HB1.out.cell 0
      have a1 := HB1.out.cell 1
      have y0 := HB1.out.frozen 0
      have y1 := HB1.out.frozen 1
      have yl := HB1.out.lt
      simp only [List.getElem?_cons_zero, List.getElem?_cons_succ] at a0 a1
      go_wp2
      have b2 := set2 HB1.out (.int .i64 r.lo) (.int .i64 r.hi)
      exact ret_struct (k := 2) rfl siRange rfl b2.1 rfl rfl ⟨by rw [HN.out], StepX.fresh HT.out b2.2 (fun j hj => by omega)⟩
end Go.Proofs.Ytdcjbbeoocldeaa
/- Walks: what a stake holds, and the length of a pull: the document's way; the program's length. -/
namespace Go.Proofs.Ytdcjbbeoocldeaa
set_option linter.unusedSimpArgs false
set_option linter.unusedVariables false
open Go.RowKit Go.BT

theorem siRRange : SI Try.prog 137 2 := ⟨⟨_, Try.underlying137⟩, by kernel_rfl⟩
theorem back_wrap {x : Tst} {d : Int} (h : tstB x = true) (hd : 1 ≤ d ∧ d ≤ 3000) : IntKind.i64.wrap (x.force * d / x.depth * x.depth) = x.force * d / x.depth * x.depth ∧ IntKind.i64.wrap (x.force * d / x.depth + 1) = x.force * d / x.depth + 1 ∧ IntKind.i64.wrap (x.force * d / x.depth - 1) = x.force * d / x.depth - 1 ∧ IntKind.i64.wrap (x.force * d / x.depth) = x.force * d / x.depth := by
  have h1 := force_bound h hd
  have h2 := quo_bound h hd
  obtain ⟨_, h3, _⟩ := tst_parts h
  have h4 := Int.ediv_mul_le (x.force * d) (show x.depth ≠ 0 by omega)
  have h5 := Int.mul_nonneg h2.1 (show 0 ≤ x.depth by omega)
  rw [IntKind.wrap_i64, IntKind.wrap_i64, IntKind.wrap_i64, IntKind.wrap_i64]
  omega
theorem top_up {x : Tst} {d : Int} (h : tstB x = true) (hd : 1 ≤ d ∧ d ≤ 3000) (hq : x.force * d / x.depth * x.depth < x.force * d) : (x.force * d + x.depth - 1) / x.depth = x.force * d / x.depth + 1 := by
  rw [up_quo (force_bound h hd).1 (tst_parts h).2.1.1, if_pos hq]
theorem top_same {x : Tst} {d : Int} (h : tstB x = true) (hd : 1 ≤ d ∧ d ≤ 3000) (hq : ¬ x.force * d / x.depth * x.depth < x.force * d) : (x.force * d + x.depth - 1) / x.depth = x.force * d / x.depth := by
  rw [up_quo (force_bound h hd).1 (tst_parts h).2.1.1, if_neg hq]
set_option maxRecDepth 100000 in
set_option maxHeartbeats 4000000 in
theorem RHolds_any (S : Nat → Prop) (l : List Tst) (s d : Int) (v : Value) (w : World) (hv : SL S w v l) (hl : l.all tstB = true) (hd : 1 ≤ d ∧ d ≤ 3000) :
    Calls Try.prog 76 #[v, .int .i64 s, .int .i64 d] w fun e w' => e = .returned (.agg #[.int .i64 (holdsL l s d).lo, .int .i64 (holdsL l s d).hi]) ∧ Step w w' := by
  have hm := hv.len
  obtain ⟨pv, cv, b, o, rfl, _, _, hp, hc, _⟩ := hv.tsts
  have HP := Lib.hid (And.intro hp hc)
  have HL := Lib.hid hl
  have HD := Lib.hid hd
  obtain ⟨W0, hW0⟩ : ∃ W, W = (w.alloc (.cells #[.int .i64 0, .int .i64 0] 137)).alloc (.cells #[.int .i64 0, .int .i64 10000000] 137) := ⟨_, rfl⟩
  have hb1 : Bx W0 w.heap.size [.int .i64 0, .int .i64 0] 137 := by subst hW0; exact (Bx.new w [_, _] _).alloc _
  have hb2 : Bx W0 (w.heap.size + 1) [.int .i64 0, .int .i64 10000000] 137 := by subst hW0; exact Bx.new' _ [_, _] _ _ (by simp)
  have hS : Step w W0 := by subst hW0; exact (by repeat (first | (with_reducible assumption) | (with_reducible exact Step.refl _) | (with_reducible apply Step.s_alloc) | (with_reducible apply Step.s_drew) | (with_reducible apply Step.s_drewN) | (with_reducible refine Step.trans ?_ (by with_reducible assumption))))
  have HB1 := Lib.hid hb1
  have HB2 := Lib.hid hb2
  have HS := Lib.hid hS
  have HW := Lib.hid hW0
  clear hp hc hl hd hv hb1 hb2 hS hW0
  go_enter Try.func76, Try.ntmps76
  go_wp2
  rw [← HW.out]
  go_loopw [8] (fun i wr => ∃ k : Nat, k ≤ l.length ∧ i = .int .i64 k ∧ Bx wr w.heap.size [.int .i64 0, .int .i64 0] 137 ∧ Bx wr (w.heap.size + 1) [.int .i64 (holdsL (l.take k) s d).lo, .int .i64 (holdsL (l.take k) s d).hi] 137 ∧ Step w wr) (fun i _ => l.length - (intOf i).toNat)
  case atStart => exact ⟨0, Nat.zero_le _, rfl, HB1.out, HB2.out, HS.out⟩
  case round =>
    obtain ⟨k, hk, rfl, hb1, hb2, hT⟩ := hrel
    have HT := Lib.hid hT
    have HB1 := Lib.hid hb1
    have HB2 := Lib.hid hb2
    clear hT hb1 hb2
    obtain ⟨r, hr⟩ : ∃ r, r = holdsL (l.take k) s d := ⟨_, rfl⟩
    rw [← hr] at HB2
    have HR := Lib.hid hr
    clear hr
    have r0 := HB2.out.cell 0
    have r1 := HB2.out.cell 1
    have z0 := HB2.out.frozen 0
    have z1 := HB2.out.frozen 1
    have rl := HB2.out.lt
    simp only [List.getElem?_cons_zero, List.getElem?_cons_succ] at r0 r1
    by_cases hlt : k < l.length
    · obtain rfl := HP.out.1 (by omega)
      obtain ⟨e1, e2, e3, e4⟩ := HP.out.2 k hlt
      have e1 := HT.out.keeps.cell id e1
      have e2 := HT.out.keeps.cell id e2
      have e3 := HT.out.keeps.cell id e3
      have e4 := HT.out.keeps.cell id e4
      have hix : (0 : Int) ≤ (k : Int) ∧ (k : Int) < (l.length : Int) := by omega
      obtain ⟨x, hx⟩ : ∃ x, x = l[k] := ⟨_, rfl⟩
      have htx := all_get HL.out hlt
      rw [← hx] at e1 e2 e3 e4 htx
      have HTK := Lib.hid (show holdsL (l.take (k + 1)) s d = stepH s d r x by rw [holds_take hlt, ← HR.out, ← hx])
      clear hx
      obtain ⟨hw1, hw2, hw3⟩ := quo_wrap htx HD.out
      obtain ⟨hw4, hw5, hw6, hw7⟩ := back_wrap htx HD.out
      have HX := Lib.hid htx
      clear htx
      by_cases hs : x.soil = s
      · have hd : (x.soil != s) = false := by simpa using hs
        have HSO := Lib.hid hs
        clear hs
        cases hh : x.held with
        | true =>
          rw [hh] at e4
          have HN := Lib.hid (HTK.out.trans (step_held HSO.out hh))
          clear hh
          go_wp2
          go_roundw
          case rel => exact ⟨k + 1, by omega, by go_num, (HB1.out.setOther (Nat.ne_of_lt (Nat.lt_succ_self _))).alloc _, by rw [HN.out]; exact (HB2.out.setCell 0 _).alloc _, (HT.out.setNew ⟨w.heap.size + 1, 0, none⟩ _ (by show w.heap.size ≤ w.heap.size + 1; omega)).trans (Step.alloc _ _)⟩
          case measure => simp [intOf]; omega
        | false =>
          rw [hh] at e4
          have HN := Lib.hid (HTK.out.trans (step_broke HSO.out hh))
          clear hh
          by_cases hq : x.force * d / x.depth * x.depth < x.force * d
          · have hd2 : decide (x.force * d / x.depth * x.depth < x.force * d) = true := by simpa using hq
            have HN := Lib.hid (by have h := HN.out; rw [top_up HX.out HD.out hq, Int.add_sub_cancel] at h; exact h)
            clear hq
            go_wp2
            go_roundw
            case rel => exact ⟨k + 1, by omega, by go_num, (HB1.out.setOther (Nat.ne_of_lt (Nat.lt_succ_self _))).alloc _, by rw [HN.out]; exact (HB2.out.setCell 1 _).alloc _, (HT.out.setNew ⟨w.heap.size + 1, 1, none⟩ _ (by show w.heap.size ≤ w.heap.size + 1; omega)).trans (Step.alloc _ _)⟩
            case measure => simp [intOf]; omega
          · have hd2 : decide (x.force * d / x.depth * x.depth < x.force * d) = false := by simpa using hq
            have HN := Lib.hid (by have h := HN.out; rw [top_same HX.out HD.out hq] at h; exact h)
            clear hq
            go_wp2
            go_roundw
            case rel => exact ⟨k + 1, by omega, by go_num, (HB1.out.setOther (Nat.ne_of_lt (Nat.lt_succ_self _))).alloc _, by rw [HN.out]; exact (HB2.out.setCell 1 _).alloc _, (HT.out.setNew ⟨w.heap.size + 1, 1, none⟩ _ (by show w.heap.size ≤ w.heap.size + 1; omega)).trans (Step.alloc _ _)⟩
            case measure => simp [intOf]; omega
      · have hd : (x.soil != s) = true := by simpa using hs
        have HN := Lib.hid (HTK.out.trans (step_no hs))
        clear hs
        go_wp2
        go_roundw
        case rel => exact ⟨k + 1, by omega, by go_num, HB1.out.alloc _, by rw [HN.out]; exact HB2.out.alloc _, HT.out.trans (Step.alloc _ _)⟩
        case measure => simp [intOf]; omega
    · have HN := Lib.hid (show r = holdsL l s d by rw [HR.out, List.take_of_length_le (by omega)])
      have a0 := HB1.out.cell 0
      have a1 := HB1.out.cell 1
      have y0 := HB1.out.frozen 0
      have y1 := HB1.out.frozen 1
      have yl := HB1.out.lt
      simp only [List.getElem?_cons_zero, List.getElem?_cons_succ] at a0 a1
      go_wp2
      have b2 := set2 HB1.out (.int .i64 r.lo) (.int .i64 r.hi)
      exact ret_struct (k := 2) rfl siRRange rfl b2.1 rfl rfl ⟨by rw [HN.out], StepX.fresh HT.out b2.2 (fun j hj => by omega)⟩
theorem sq_mono {a b : Int} (h0 : 0 ≤ a) (h : a ≤ b) : a * a ≤ b * b := Int.mul_le_mul h h h0 (by omega)
theorem guy_wrap {g : Guy} (h : guyB g = true) : IntKind.i64.wrap (g.x * g.x) = g.x * g.x ∧ IntKind.i64.wrap (g.y * g.y) = g.y * g.y ∧ IntKind.i64.wrap (g.x * g.x + g.y * g.y) = g.x * g.x + g.y * g.y := by
  obtain ⟨hx, hy, _⟩ := guy_parts h
  have a := sq_bound hx
  have b := sq_bound hy
  rw [IntKind.wrap_i64, IntKind.wrap_i64, IntKind.wrap_i64]
  omega
set_option maxHeartbeats 1000000 in
theorem Length_any (g : Guy) (w : World) (hg : guyB g = true) :
    Calls Try.prog 77 #[.agg #[.int .i64 g.x, .int .i64 g.y, .int .i64 g.down, .int .i64 g.soil, .int .i64 g.depth]] w fun e w' => e = .returned (.int .i64 (lenL (g.x * g.x + g.y * g.y))) ∧ Step w w' := by
  obtain ⟨hw1, hw2, hw3⟩ := guy_wrap hg
  have hq := guy_sq hg
  obtain ⟨n, hn⟩ : ∃ n, n = lenL (g.x * g.x + g.y * g.y) := ⟨_, rfl⟩
  have hlen := len_sq hq.1 (by omega)
  rw [← hn] at hlen ⊢
  have HLEN := Lib.hid hlen
  obtain ⟨W0, hW0⟩ : ∃ W, W = w.alloc (.cells #[.int .i64 g.x, .int .i64 g.y, .int .i64 g.down, .int .i64 g.soil, .int .i64 g.depth] 75) := ⟨_, rfl⟩
  have hb : Bx W0 w.heap.size [.int .i64 g.x, .int .i64 g.y, .int .i64 g.down, .int .i64 g.soil, .int .i64 g.depth] 75 := by subst hW0; exact Bx.new w [_, _, _, _, _] _
  have hS : Step w W0 := by subst hW0; exact Step.alloc _ _
  have HB := Lib.hid hb
  have HS := Lib.hid hS
  have HW := Lib.hid hW0
  clear hb hS hW0 hn hlen hq hg
  go_enter Try.func77, Try.ntmps77
  go_wp2
  rw [← HW.out]
  go_loopw [3] (fun i wr => ∃ k : Int, 0 ≤ k ∧ k ≤ n ∧ i = .int .i64 k ∧ Step W0 wr) (fun i _ => (n - intOf i).toNat)
  case atStart => exact ⟨0, by omega, by have := HLEN.out; omega, rfl, Step.refl _⟩
  case round =>
    obtain ⟨k, hk0, hkn, rfl, hT⟩ := hrel
    have HT := Lib.hid hT
    clear hT
    have e0 := (HB.out.step HT.out).cell 0
    have e1 := (HB.out.step HT.out).cell 1
    simp only [List.getElem?_cons_zero, List.getElem?_cons_succ] at e0 e1
    have hk2 := sq_mono hk0 (show k ≤ 10000 by have := HLEN.out; omega)
    have hw4 : IntKind.i64.wrap (k * k) = k * k := by rw [IntKind.wrap_i64]; have := Zono.sq_nonneg k; omega
    have hw5 : IntKind.i64.wrap (k + 1) = k + 1 := by rw [IntKind.wrap_i64]; have := HLEN.out; omega
    by_cases hlt : k * k < g.x * g.x + g.y * g.y
    · have hd : decide (k * k < g.x * g.x + g.y * g.y) = true := by simpa using hlt
      have hkn2 : k < n := by
        refine Int.not_le.1 fun h => ?_
        have := sq_mono (show 0 ≤ n by have := HLEN.out; omega) h
        have := HLEN.out
        omega
      clear hlt hk2
      go_wp2
      go_roundw
      case rel => exact ⟨k + 1, by omega, by omega, rfl, HT.out⟩
      case measure => simp [intOf]; omega
    · have hd : decide (k * k < g.x * g.x + g.y * g.y) = false := by simpa using hlt
      have hkn2 : k = n := by
        refine Int.le_antisymm hkn (Int.not_lt.1 fun h => ?_)
        have := sq_mono hk0 (show k ≤ n - 1 by omega)
        have := HLEN.out
        omega
      have HK := Lib.hid hkn2
      clear hlt hk2 hkn2
      go_wp2
      go_ret
      exact ⟨by rw [← HK.out]; rfl, HS.out.trans HT.out⟩
set_option maxHeartbeats 1000000 in
theorem length_any (g : Guy) (w : World) (hg : guyB g = true) :
    Calls Try.prog 95 #[.agg #[.int .i64 g.x, .int .i64 g.y, .int .i64 g.down, .int .i64 g.soil, .int .i64 g.depth]] w fun e w' => e = .returned (.int .i64 (lenL (g.x * g.x + g.y * g.y))) ∧ Step w w' := by
  obtain ⟨hw1, hw2, hw3⟩ := guy_wrap hg
  have hq := guy_sq hg
  obtain ⟨n, hn⟩ : ∃ n, n = lenL (g.x * g.x + g.y * g.y) := ⟨_, rfl⟩
  have hlen := len_sq hq.1 (by omega)
  rw [← hn] at hlen ⊢
  have HLEN := Lib.hid hlen
  have HS := Lib.hid (Step.alloc w (.cells #[.int .i64 g.x, .int .i64 g.y, .int .i64 g.down, .int .i64 g.soil, .int .i64 g.depth] 91))
  clear hn hlen hq hg
  go_enter Try.func95, Try.ntmps95
  go_wp2
  obtain ⟨q, hq⟩ : ∃ q, q = g.x * g.x + g.y * g.y := ⟨_, rfl⟩
  rw [← hq] at HLEN ⊢
  generalize w.alloc (.cells #[.int .i64 g.x, .int .i64 g.y, .int .i64 g.down, .int .i64 g.soil, .int .i64 g.depth] 91) = W0 at *
  clear hq hw3
  go_loopw [4, 5] (fun i j wr => ∃ a b : Int, 0 ≤ a ∧ a ≤ n ∧ n ≤ b ∧ b ≤ 10000 ∧ i = .int .i64 a ∧ j = .int .i64 b ∧ Step W0 wr) (fun i j _ => (intOf j - intOf i).toNat)
  case atStart => exact ⟨0, 10000, by omega, by have := HLEN.out; omega, by have := HLEN.out; omega, by omega, rfl, rfl, Step.refl _⟩
  case round =>
    obtain ⟨a, b, h0, h1, h2, h3, rfl, rfl, hT⟩ := hrel
    have HT := Lib.hid hT
    clear hT
    by_cases hlt : a < b
    · have hd : decide (a < b) = true := by simpa using hlt
      obtain ⟨m, hm⟩ : ∃ m, m = (a + b) / 2 := ⟨_, rfl⟩
      have hmb : a ≤ m ∧ m < b := by omega
      have hw4 : IntKind.i64.wrap (a + b) = a + b := by rw [IntKind.wrap_i64]; omega
      have hw5 : IntKind.i64.wrap ((a + b).tdiv 2) = m := by rw [Int.tdiv_eq_ediv_of_nonneg (by omega), IntKind.wrap_i64]; omega
      have hk2 := sq_mono (show 0 ≤ m by omega) (show m ≤ 10000 by omega)
      have hw6 : IntKind.i64.wrap (m * m) = m * m := by rw [IntKind.wrap_i64]; have := Zono.sq_nonneg m; omega
      have hw7 : IntKind.i64.wrap (m + 1) = m + 1 := by rw [IntKind.wrap_i64]; omega
      by_cases hge : q ≤ m * m
      · have hd2 : decide (q ≤ m * m) = true := by simpa using hge
        have hmn : n ≤ m := by
          refine Int.not_lt.1 fun h => ?_
          have := sq_mono (show 0 ≤ m by omega) (show m ≤ n - 1 by omega)
          have := HLEN.out
          omega
        clear hk2 hge hm
        go_wp2
        go_roundw
        case rel => exact ⟨a, m, h0, h1, hmn, by omega, rfl, rfl, HT.out⟩
        case measure => simp [intOf]; omega
      · have hd2 : decide (q ≤ m * m) = false := by simpa using hge
        have hmn : m < n := by
          refine Int.not_le.1 fun h => ?_
          have := sq_mono (show 0 ≤ n by have := HLEN.out; omega) h
          have := HLEN.out
          omega
        clear hk2 hge hm
        go_wp2
        go_roundw
        case rel => exact ⟨m + 1, b, by omega, by omega, h2, h3, rfl, rfl, HT.out⟩
        case measure => simp [intOf]; omega
    · have hd : decide (a < b) = false := by simpa using hlt
      have hab : a = n := by omega
      have HK := Lib.hid hab
      clear hab hlt
      go_wp2
      go_ret
      exact ⟨by rw [← HK.out]; rfl, HS.out.trans HT.out⟩
end Go.Proofs.Ytdcjbbeoocldeaa
/- Walks: the part of a guy: the program's way and the document's. -/
namespace Go.Proofs.Ytdcjbbeoocldeaa
set_option linter.unusedSimpArgs false
set_option linter.unusedVariables false
open Go.RowKit Go.BT

theorem field_range (a b : Value) (w : World) : (Instr.field 105 (.agg #[a, b]) 0).run Try.prog w = .ok a w := by kernel_rfl
theorem field_rrange (a b : Value) (w : World) : (Instr.field 137 (.agg #[a, b]) 0).run Try.prog w = .ok a w := by kernel_rfl
attribute [local go_sem] field_range field_rrange
theorem cells5 {w : World} {g : Nat} {c0 c1 c2 c3 c4 : Value} {T : TypeId} (h : Bx w g [c0, c1, c2, c3, c4] T) :
    w.cell? ⟨g, 0, none⟩ = some c0 ∧ w.cell? ⟨g, 1, none⟩ = some c1 ∧ w.cell? ⟨g, 2, none⟩ = some c2 ∧ w.cell? ⟨g, 3, none⟩ = some c3 ∧ w.cell? ⟨g, 4, none⟩ = some c4 :=
  ⟨h.cell 0, h.cell 1, h.cell 2, h.cell 3, h.cell 4⟩
theorem part_wrap {l : List Tst} {g : Guy} (hl : l.all tstB = true) (hg : guyB g = true) : IntKind.i64.wrap (100 * (holdsL l g.soil g.depth).lo) = 100 * (holdsL l g.soil g.depth).lo ∧ IntKind.i64.wrap ((100 * (holdsL l g.soil g.depth).lo).tdiv (lenL (g.x * g.x + g.y * g.y))) = 100 * (holdsL l g.soil g.depth).lo / lenL (g.x * g.x + g.y * g.y) ∧ ¬ lenL (g.x * g.x + g.y * g.y) = 0 := by
  have hb := holds_bound (s := g.soil) hl (guy_parts hg).2.2.2.2.2
  have hs := guy_sq hg
  have hn := len_sq hs.1 (by omega)
  have h1 := Int.ediv_nonneg (show 0 ≤ 100 * (holdsL l g.soil g.depth).lo by omega) (show 0 ≤ lenL (g.x * g.x + g.y * g.y) by omega)
  have h2 := Int.ediv_le_self (lenL (g.x * g.x + g.y * g.y)) (show 0 ≤ 100 * (holdsL l g.soil g.depth).lo by omega)
  rw [Int.tdiv_eq_ediv_of_nonneg (by omega), IntKind.wrap_i64, IntKind.wrap_i64]
  omega
theorem part_if {l : List Tst} {g : Guy} : partL l g = if 100 * (holdsL l g.soil g.depth).lo / lenL (g.x * g.x + g.y * g.y) < 100 then 100 * (holdsL l g.soil g.depth).lo / lenL (g.x * g.x + g.y * g.y) else 100 := by unfold partL; omega
set_option maxRecDepth 100000 in
set_option maxHeartbeats 2000000 in
theorem part_any (S : Nat → Prop) (l : List Tst) (g : Guy) (v : Value) (w : World) (hv : SL S w v l) (hl : l.all tstB = true) (hg : guyB g = true) :
    Calls Try.prog 71 #[.agg #[.int .i64 g.x, .int .i64 g.y, .int .i64 g.down, .int .i64 g.soil, .int .i64 g.depth], v] w fun e w' => e = .returned (.int .i64 (partL l g)) ∧ Step w w' := by
  obtain ⟨hw1, hw2, hw3⟩ := part_wrap hl hg
  have hdp := (guy_parts hg).2.2.2.2.2
  obtain ⟨W0, hW0⟩ : ∃ W, W = w.alloc (.cells #[.int .i64 g.x, .int .i64 g.y, .int .i64 g.down, .int .i64 g.soil, .int .i64 g.depth] 91) := ⟨_, rfl⟩
  have hb : Bx W0 w.heap.size [.int .i64 g.x, .int .i64 g.y, .int .i64 g.down, .int .i64 g.soil, .int .i64 g.depth] 91 := by subst hW0; exact Bx.new w [_, _, _, _, _] _
  have hS : Step w W0 := by subst hW0; exact Step.alloc _ _
  have HV := Lib.hid (hv.keep (.of_step hS))
  obtain ⟨pv, cv, rfl⟩ := hv.form
  have HB := Lib.hid hb
  have HS := Lib.hid hS
  have HW := Lib.hid hW0
  have HL := Lib.hid (And.intro hl (And.intro hg hdp))
  have HT := Lib.hid (Step.refl W0)
  clear hb hS hW0 hl hg hdp hv
  go_enter Try.func71, Try.ntmps71
  go_upto_region 1 with (fail)
  rw [← HW.out]
  refine wp_region_seq (kdOf [5, 9] []) [0, 0, 2, 0, 8, 31, 63, 127, 0, 319, 1023, 2047, 4095] [0, 1, 2, 3, 4, 8, 5, 6, 7, 9, 10, 11, 12] [] (by kernel_rfl) (by kernel_rfl) (fun i T z hi hk => by simp [kdOf] at hk <;> (try (split at hk <;> cases hk))) ?_
  intro Wx hWx
  have HTx := Lib.hid (HT.out.trans hWx)
  clear hWx HT
  have HT := HTx
  clear HTx
  obtain ⟨e0, e1, e2, e3, e4⟩ := cells5 (HB.out.step HT.out)
  repeat (first | (refine run_off rfl rfl (by rfl) ?_; (try simp only [Act.put, List.setIfInBounds_toArray, List.set_cons_zero, List.set_cons_succ])) | (refine run_chain_off rfl rfl (by rfl) (K0_mono _) ?_; (try simp only [Act.put, List.setIfInBounds_toArray, List.set_cons_zero, List.set_cons_succ])) | ((refine run_want rfl rfl (by rfl) ⟨?_, fun W hW => ?_, ?_⟩; rotate_left; (· (have d0 := hW.keeps.cell id e0; have d1 := hW.keeps.cell id e1; have d2 := hW.keeps.cell id e2; have d3 := hW.keeps.cell id e3; have d4 := hW.keeps.cell id e4; go_simp; (try with_reducible rfl)))); (try simp only [Act.put, List.setIfInBounds_toArray, List.set_cons_zero, List.set_cons_succ])))
  refine run_chain rfl rfl (by rfl) (fun Wi hWi K' hK => ?_)
  have HTi := Lib.hid (HT.out.trans hWi)
  have HZW := Lib.hid HTi.out.size
  clear hWi HT
  go_simp
  refine (holds_any S l g.soil g.depth _ _ (HV.out.keep (.of_step HTi.out)) HL.out.1 HL.out.2.2).mono ?_
  rintro e wn ⟨rfl, hSn⟩
  have HT := Lib.hid (HTi.out.trans (StepX.of hSn))
  clear HTi
  refine hK _ _ (StepX.of hSn) ?_
  clear hSn
  (try simp only [Act.put, List.setIfInBounds_toArray, List.set_cons_zero, List.set_cons_succ])
  clear e0 e1 e2 e3 e4
  obtain ⟨e0, e1, e2, e3, e4⟩ := cells5 (HB.out.step HT.out)
  repeat (first | (refine run_off rfl rfl (by rfl) ?_; (try simp only [Act.put, List.setIfInBounds_toArray, List.set_cons_zero, List.set_cons_succ])) | (refine run_chain_off rfl rfl (by rfl) (K0_mono _) ?_; (try simp only [Act.put, List.setIfInBounds_toArray, List.set_cons_zero, List.set_cons_succ])) | ((refine run_want rfl rfl (by rfl) ⟨?_, fun W hW => ?_, ?_⟩; rotate_left; (· (have d0 := hW.keeps.cell id e0; have d1 := hW.keeps.cell id e1; have d2 := hW.keeps.cell id e2; have d3 := hW.keeps.cell id e3; have d4 := hW.keeps.cell id e4; go_simp; (try with_reducible rfl)))); (try simp only [Act.put, List.setIfInBounds_toArray, List.set_cons_zero, List.set_cons_succ])))
  refine run_chain rfl rfl (by rfl) (fun Wi hWi K' hK => ?_)
  have HTi := Lib.hid (HT.out.trans hWi)
  have HZW := Lib.hid HTi.out.size
  clear hWi HT
  go_simp
  refine (length_any g _ HL.out.2.1).mono ?_
  rintro e wn ⟨rfl, hSn⟩
  have HT := Lib.hid (HTi.out.trans (StepX.of hSn))
  clear HTi
  refine hK _ _ (StepX.of hSn) ?_
  clear hSn
  (try simp only [Act.put, List.setIfInBounds_toArray, List.set_cons_zero, List.set_cons_succ])
  repeat (first | (refine run_off rfl rfl (by rfl) ?_; (try simp only [Act.put, List.setIfInBounds_toArray, List.set_cons_zero, List.set_cons_succ])) | (refine run_chain_off rfl rfl (by rfl) (K0_mono _) ?_; (try simp only [Act.put, List.setIfInBounds_toArray, List.set_cons_zero, List.set_cons_succ])) | ((refine run_want rfl rfl (by rfl) ⟨?_, fun W hW => ?_, ?_⟩; rotate_left; (· (skip; go_simp; (try with_reducible rfl)))); (try simp only [Act.put, List.setIfInBounds_toArray, List.set_cons_zero, List.set_cons_succ])))
  refine run_end (L := []) rfl (fun W6 hW6 => ?_)
  have HT6 := Lib.hid (HT.out.trans hW6)
  clear hW6 HT
  have HT := HT6
  clear HT6
  clear hw1 hw2 hw3 e0 e1 e2 e3 e4
  rw [← part_if (l := l) (g := g)]
  go_wp2
  go_ret
  exact ⟨rfl, HS.out.trans HT.out⟩
set_option maxRecDepth 100000 in
set_option maxHeartbeats 2000000 in
theorem Part_any (S : Nat → Prop) (l : List Tst) (g : Guy) (v : Value) (w : World) (hv : SL S w v l) (hl : l.all tstB = true) (hg : guyB g = true) :
    Calls Try.prog 41 #[v, .agg #[.int .i64 g.x, .int .i64 g.y, .int .i64 g.down, .int .i64 g.soil, .int .i64 g.depth]] w fun e w' => e = .returned (.int .i64 (partL l g)) ∧ Step w w' := by
  obtain ⟨hw1, hw2, hw3⟩ := part_wrap hl hg
  have hdp := (guy_parts hg).2.2.2.2.2
  obtain ⟨W0, hW0⟩ : ∃ W, W = w.alloc (.cells #[.int .i64 g.x, .int .i64 g.y, .int .i64 g.down, .int .i64 g.soil, .int .i64 g.depth] 75) := ⟨_, rfl⟩
  have hb : Bx W0 w.heap.size [.int .i64 g.x, .int .i64 g.y, .int .i64 g.down, .int .i64 g.soil, .int .i64 g.depth] 75 := by subst hW0; exact Bx.new w [_, _, _, _, _] _
  have hS : Step w W0 := by subst hW0; exact Step.alloc _ _
  have HV := Lib.hid (hv.keep (.of_step hS))
  obtain ⟨pv, cv, rfl⟩ := hv.form
  have HB := Lib.hid hb
  have HS := Lib.hid hS
  have HW := Lib.hid hW0
  have HL := Lib.hid (And.intro hl (And.intro hg hdp))
  have HT := Lib.hid (Step.refl W0)
  clear hb hS hW0 hl hg hdp hv
  go_enter Try.func41, Try.ntmps41
  go_upto_region 1 with (fail)
  rw [← HW.out]
  refine wp_region_seq (kdOf [5, 9] []) [0, 0, 2, 0, 8, 31, 63, 127, 0, 319, 1023, 2047, 4095] [0, 1, 2, 3, 4, 8, 5, 6, 7, 9, 10, 11, 12] [] (by kernel_rfl) (by kernel_rfl) (fun i T z hi hk => by simp [kdOf] at hk <;> (try (split at hk <;> cases hk))) ?_
  intro Wx hWx
  have HTx := Lib.hid (HT.out.trans hWx)
  clear hWx HT
  have HT := HTx
  clear HTx
  obtain ⟨e0, e1, e2, e3, e4⟩ := cells5 (HB.out.step HT.out)
  repeat (first | (refine run_off rfl rfl (by rfl) ?_; (try simp only [Act.put, List.setIfInBounds_toArray, List.set_cons_zero, List.set_cons_succ])) | (refine run_chain_off rfl rfl (by rfl) (K0_mono _) ?_; (try simp only [Act.put, List.setIfInBounds_toArray, List.set_cons_zero, List.set_cons_succ])) | ((refine run_want rfl rfl (by rfl) ⟨?_, fun W hW => ?_, ?_⟩; rotate_left; (· (have d0 := hW.keeps.cell id e0; have d1 := hW.keeps.cell id e1; have d2 := hW.keeps.cell id e2; have d3 := hW.keeps.cell id e3; have d4 := hW.keeps.cell id e4; go_simp; (try with_reducible rfl)))); (try simp only [Act.put, List.setIfInBounds_toArray, List.set_cons_zero, List.set_cons_succ])))
  refine run_chain rfl rfl (by rfl) (fun Wi hWi K' hK => ?_)
  have HTi := Lib.hid (HT.out.trans hWi)
  have HZW := Lib.hid HTi.out.size
  clear hWi HT
  go_simp
  refine (RHolds_any S l g.soil g.depth _ _ (HV.out.keep (.of_step HTi.out)) HL.out.1 HL.out.2.2).mono ?_
  rintro e wn ⟨rfl, hSn⟩
  have HT := Lib.hid (HTi.out.trans (StepX.of hSn))
  clear HTi
  refine hK _ _ (StepX.of hSn) ?_
  clear hSn
  (try simp only [Act.put, List.setIfInBounds_toArray, List.set_cons_zero, List.set_cons_succ])
  clear e0 e1 e2 e3 e4
  obtain ⟨e0, e1, e2, e3, e4⟩ := cells5 (HB.out.step HT.out)
  repeat (first | (refine run_off rfl rfl (by rfl) ?_; (try simp only [Act.put, List.setIfInBounds_toArray, List.set_cons_zero, List.set_cons_succ])) | (refine run_chain_off rfl rfl (by rfl) (K0_mono _) ?_; (try simp only [Act.put, List.setIfInBounds_toArray, List.set_cons_zero, List.set_cons_succ])) | ((refine run_want rfl rfl (by rfl) ⟨?_, fun W hW => ?_, ?_⟩; rotate_left; (· (have d0 := hW.keeps.cell id e0; have d1 := hW.keeps.cell id e1; have d2 := hW.keeps.cell id e2; have d3 := hW.keeps.cell id e3; have d4 := hW.keeps.cell id e4; go_simp; (try with_reducible rfl)))); (try simp only [Act.put, List.setIfInBounds_toArray, List.set_cons_zero, List.set_cons_succ])))
  refine run_chain rfl rfl (by rfl) (fun Wi hWi K' hK => ?_)
  have HTi := Lib.hid (HT.out.trans hWi)
  have HZW := Lib.hid HTi.out.size
  clear hWi HT
  go_simp
  refine (Length_any g _ HL.out.2.1).mono ?_
  rintro e wn ⟨rfl, hSn⟩
  have HT := Lib.hid (HTi.out.trans (StepX.of hSn))
  clear HTi
  refine hK _ _ (StepX.of hSn) ?_
  clear hSn
  (try simp only [Act.put, List.setIfInBounds_toArray, List.set_cons_zero, List.set_cons_succ])
  repeat (first | (refine run_off rfl rfl (by rfl) ?_; (try simp only [Act.put, List.setIfInBounds_toArray, List.set_cons_zero, List.set_cons_succ])) | (refine run_chain_off rfl rfl (by rfl) (K0_mono _) ?_; (try simp only [Act.put, List.setIfInBounds_toArray, List.set_cons_zero, List.set_cons_succ])) | ((refine run_want rfl rfl (by rfl) ⟨?_, fun W hW => ?_, ?_⟩; rotate_left; (· (skip; go_simp; (try with_reducible rfl)))); (try simp only [Act.put, List.setIfInBounds_toArray, List.set_cons_zero, List.set_cons_succ])))
  refine run_end (L := []) rfl (fun W6 hW6 => ?_)
  have HT6 := Lib.hid (HT.out.trans hW6)
  clear hW6 HT
  have HT := HT6
  clear HT6
  clear hw1 hw2 hw3 e0 e1 e2 e3 e4
  rw [← part_if (l := l) (g := g)]
  go_wp2
  go_ret
  exact ⟨rfl, HS.out.trans HT.out⟩
end Go.Proofs.Ytdcjbbeoocldeaa
/- Walks: the law package's copies of tests, tents and winds; whether there are few. -/
namespace Go.Proofs.Ytdcjbbeoocldeaa
set_option linter.unusedSimpArgs false
set_option linter.unusedVariables false
open Go.RowKit Go.BT

theorem wpl_append1 {P : Program} {ops : Array Oper} {rest : List Oper} {o : Oper} {a : Act} {Q : Exit → Act → World → Prop} {α : Type} [Rep α] {S : Nat → Prop} {base : Nat} {t e : TypeId} {z : Value} {bytes : Nat} {W0 w : World} {v u : Value} {l : List α} {k : Nat} (ei : EI P t e z (Rep.k α) bytes) (hgd : o.guard = none) (s x : Operand)
    (ho : o.op = .call { callee := .builtin .append, args := #[s, x], argTypes := #[t, t] }) (hs : a.eval s = v) (hx : a.eval x = u) (hown : OwnL S base e w v (l.take k)) (hk : k < l.length) (hl : l.length ≤ 1000000) (hby : bytes ≤ 1000000) (hu : SLe (avoid S v) w u [l[k]]) (hB : Below base W0 w) (hbase : base ≤ W0.heap.size)
    (h : ∀ p c w', OwnL S base e w' (.slice p (k + 1) c) (l.take (k + 1)) → Below base W0 w' → w.grownBy w' v.ownBlock → wpList P ops Q rest (a.put o.dst (.slice p (k + 1) c)) w') : wpList P ops Q (o :: rest) a w := by
  have hn : (l.take k).length + [l[k]].length = k + 1 := by simp; omega
  have hb2 : (k + 1) * bytes ≤ 140737488355328 := Nat.le_trans (Nat.mul_le_mul (show k + 1 ≤ 1000000 by omega) hby) (by decide)
  refine wpl_append ei hgd s x ho hs hx hown hu (k + 1) hn (l.take (k + 1)) (List.take_succ_eq_append_getElem hk).symm (by simp only [maxLen]; omega) hb2 (Nat.le_trans hbase hB.size) fun p c w' h1 h2 => h p c w' h1 ?_ h2
  exact hB.grown h2 (Nat.le_trans hbase hB.size) (fun j hj => (hown.lt j hj).1)
theorem infoTest : (Try.prog.info? 111).map (fun i => (i.zero, i.size, i.bytes)) = some (some (.agg #[.int .i64 0, .int .i64 0, .int .i64 0, .bool false]), 4, 32) := by kernel_rfl
theorem eiTests : EI Try.prog 35 111 (.agg #[.int .i64 0, .int .i64 0, .int .i64 0, .bool false]) 4 32 := .mk' Try.underlying35 infoTest rfl
theorem infoVec : (Try.prog.info? 40).map (fun i => (i.zero, i.size, i.bytes)) = some (some (.agg #[.int .i64 0, .int .i64 0]), 2, 16) := by kernel_rfl
theorem eiVecs : EI Try.prog 78 40 (.agg #[.int .i64 0, .int .i64 0]) 2 16 := .mk' Try.underlying78 infoVec rfl
theorem infoRVec : (Try.prog.info? 26).map (fun i => (i.zero, i.size, i.bytes)) = some (some (.agg #[.int .i64 0, .int .i64 0]), 2, 16) := by kernel_rfl
theorem eiRVecs : EI Try.prog 45 26 (.agg #[.int .i64 0, .int .i64 0]) 2 16 := .mk' Try.underlying45 infoRVec rfl
set_option maxRecDepth 100000 in
set_option maxHeartbeats 4000000 in
theorem Tests_any (S : Nat → Prop) (l : List Tst) (v : Value) (w : World) (hv : SL S w v l) (hl : l.length ≤ 1000) :
    Calls Try.prog 18 #[v] w fun e w' => ∃ v', e = .returned v' ∧ SL (Old w) w' v' l ∧ Step w w' := by
  obtain ⟨pv, cv, b, o, rfl, _, hm, hp, hc, _⟩ := hv.tsts
  have HP := Lib.hid (And.intro hp hc)
  clear hp hc hv
  go_enter Try.func18, Try.ntmps18
  go_wp2
  go_loopw [3, 4] (fun out i wr => ∃ k : Nat, k ≤ l.length ∧ i = .int .i64 k ∧ OwnL (Old w) w.heap.size 111 wr out (l.take k) ∧ Below w.heap.size w wr) (fun _ i _ => l.length - (intOf i).toNat)
  case atStart => exact ⟨0, Nat.zero_le _, rfl, OwnL.nil _ _ _ _, Below.refl _ _⟩
  case round =>
    obtain ⟨k, hk, rfl, hown, hB⟩ := hrel
    have HT := Lib.hid (Step.of hB)
    have HO := Lib.hid hown
    have HB := Lib.hid hB
    obtain ⟨LL, hLL⟩ : ∃ L, L = l.take k := ⟨_, rfl⟩
    rw [← hLL] at hown
    obtain ⟨pu, cu, rfl, _⟩ := hown.form
    have HLL := Lib.hid hLL
    clear hown hB hLL
    by_cases hlt : k < l.length
    · obtain rfl := HP.out.1 (by omega)
      obtain ⟨e1, e2, e3, e4⟩ := HP.out.2 k hlt
      have e1 := HT.out.keeps.cell id e1
      have e2 := HT.out.keeps.cell id e2
      have e3 := HT.out.keeps.cell id e3
      have e4 := HT.out.keeps.cell id e4
      have hix : (0 : Int) ≤ (k : Int) ∧ (k : Int) < (l.length : Int) := by omega
      go_upto_region 5 with (fail)
      refine wp_region_seq (kdOf [22] []) (0 :: 0 :: 0 :: 6 :: 14 :: 30 :: 0 :: 0 :: 192 :: 448 :: 960 :: 0 :: 0 :: 6144 :: 14336 :: 30720 :: 0 :: 0 :: 196608 :: 458752 :: 983040 :: 2097150 :: 4194302 :: 8388607 :: 16777215 :: []) [0, 1, 2, 3, 4, 5, 6, 7, 8, 9, 10, 11, 12, 13, 14, 15, 16, 17, 18, 19, 20, 21, 22] [23, 24] (by kernel_rfl) (by kernel_rfl) (fun i T z hi hk => by simp [kdOf] at hk <;> (try (split at hk <;> cases hk))) ?_
      intro W0 hW0
      have e1 := hW0.keeps.cell id e1
      have e2 := hW0.keeps.cell id e2
      have e3 := hW0.keeps.cell id e3
      have e4 := hW0.keeps.cell id e4
      repeat (first | (refine run_off rfl rfl (by rfl) ?_; (try simp only [Act.put, List.setIfInBounds_toArray, List.set_cons_zero, List.set_cons_succ])) | (refine run_chain_off rfl rfl (by rfl) (K0_mono _) ?_; (try simp only [Act.put, List.setIfInBounds_toArray, List.set_cons_zero, List.set_cons_succ])) | ((refine run_want rfl rfl (by rfl) ⟨?_, fun W hW => ?_, ?_⟩; rotate_left; (· (have d0 := hW.keeps.cell id e1; have d1 := hW.keeps.cell id e2; have d2 := hW.keeps.cell id e3; have d3 := hW.keeps.cell id e4; go_simp; (try with_reducible rfl)))); (try simp only [Act.put, List.setIfInBounds_toArray, List.set_cons_zero, List.set_cons_succ])))
      refine run_chain rfl rfl (by rfl) (fun W1 hW1 K' hK' => ?_)
      go_simp
      refine hK' _ _ (.of (Step.alloc _ _)) ?_
      (try simp only [Act.put, List.setIfInBounds_toArray, List.set_cons_zero, List.set_cons_succ])
      refine run_end (L := [_, _]) rfl (fun W2 hW2 => ?_)
      have hown2 := ((HO.out.step (hW0.trans hW1)).alloc (.cells #[.int .i64 l[k].soil, .int .i64 l[k].depth, .int .i64 l[k].force, .bool l[k].held] 111)).step hW2
      have hu := (SLe.one (S := avoid (Old w) (.slice pu LL.length cu)) (w := W1) (cs := [.int .i64 l[k].soil, .int .i64 l[k].depth, .int .i64 l[k].force, .bool l[k].held]) (x := l[k]) 111 rfl).step hW2
      have hB2 := ((HB.out.step (Nat.le_refl _) (hW0.trans hW1)).step (Nat.le_refl _) (Step.alloc _ (.cells #[.int .i64 l[k].soil, .int .i64 l[k].depth, .int .i64 l[k].force, .bool l[k].held] 111))).step (Nat.le_refl _) hW2
      clear hW0 hW1 hW2 hK'
      go_wp2_with (at_builtin; refine wpl_append1 (l := l) (k := k) eiTests rfl _ _ rfl rfl rfl hown2 hlt (by omega) (by decide) hu hB2 (Nat.le_refl _) ?_)
      intro p' c' w2 hown3 hB3 _
      have H3 := Lib.hid (And.intro hown3 hB3)
      clear hown2 hu hB2 hown3 hB3
      go_wp2
      go_roundw
      case rel => exact ⟨k + 1, by omega, by go_num, H3.out.1, H3.out.2⟩
      case measure => simp [intOf]; omega
    · have HN := Lib.hid (show LL = l by rw [HLL.out, List.take_of_length_le (by omega)])
      go_wp2
      go_ret
      refine ⟨_, rfl, ?_, HT.out⟩
      have h := HO.out.fresh
      rw [← HLL.out, HN.out] at h
      rw [HN.out]; exact h
set_option maxHeartbeats 2000000 in
theorem Wind_any (S : Nat → Prop) (l : List Vec) (v : Value) (w : World) (hv : SL S w v l) (hl : l.length ≤ 1000) :
    Calls Try.prog 43 #[v] w fun e w' => ∃ v', e = .returned v' ∧ SL (Old w) w' v' l ∧ Step w w' := by
  obtain ⟨pv, cv, b, o, rfl, _, hm, hp, hc, _⟩ := hv.vecs
  have HP := Lib.hid (And.intro hp hc)
  clear hp hc hv
  go_enter Try.func43, Try.ntmps43
  go_wp2
  go_loopw [3, 4] (fun out i wr => ∃ k : Nat, k ≤ l.length ∧ i = .int .i64 k ∧ OwnL (Old w) w.heap.size 40 wr out (l.take k) ∧ Below w.heap.size w wr) (fun _ i _ => l.length - (intOf i).toNat)
  case atStart => exact ⟨0, Nat.zero_le _, rfl, OwnL.nil _ _ _ _, Below.refl _ _⟩
  case round =>
    obtain ⟨k, hk, rfl, hown, hB⟩ := hrel
    have HT := Lib.hid (Step.of hB)
    have HO := Lib.hid hown
    have HB := Lib.hid hB
    obtain ⟨LL, hLL⟩ : ∃ L, L = l.take k := ⟨_, rfl⟩
    rw [← hLL] at hown
    obtain ⟨pu, cu, rfl, _⟩ := hown.form
    have HLL := Lib.hid hLL
    clear hown hB hLL
    by_cases hlt : k < l.length
    · obtain rfl := HP.out.1 (by omega)
      obtain ⟨e1, e2⟩ := HP.out.2 k hlt
      have e1 := HT.out.keeps.cell id e1
      have e2 := HT.out.keeps.cell id e2
      have hix : (0 : Int) ≤ (k : Int) ∧ (k : Int) < (l.length : Int) := by omega
      have hcall := Lib.hid (Vector_any l[k] wr)
      go_wp2_with fail
      refine hcall.out.mono ?_
      rintro e w1 ⟨rfl, hS⟩
      have hown2 := (HO.out.step hS).alloc (.cells #[.int .i64 l[k].x, .int .i64 l[k].y] 40)
      have hu := SLe.one (S := avoid (Old w) (.slice pu LL.length cu)) (w := w1) (cs := [.int .i64 l[k].x, .int .i64 l[k].y]) (x := l[k]) 40 rfl
      have hB2 := (HB.out.step (Nat.le_refl _) hS).step (Nat.le_refl _) (Step.alloc _ (.cells #[.int .i64 l[k].x, .int .i64 l[k].y] 40))
      clear hS hcall e1 e2
      go_wp2_with (at_builtin; refine wpl_append1 (l := l) (k := k) eiVecs rfl _ _ rfl rfl rfl hown2 hlt (by omega) (by decide) hu hB2 (Nat.le_refl _) ?_)
      intro p' c' w2 hown3 hB3 _
      have H3 := Lib.hid (And.intro hown3 hB3)
      clear hown2 hu hB2 hown3 hB3
      go_wp2
      go_roundw
      case rel => exact ⟨k + 1, by omega, by go_num, H3.out.1, H3.out.2⟩
      case measure => simp [intOf]; omega
    · have HN := Lib.hid (show LL = l by rw [HLL.out, List.take_of_length_le (by omega)])
      go_wp2
      go_ret
      refine ⟨_, rfl, ?_, HT.out⟩
      have h := HO.out.fresh
      rw [← HLL.out, HN.out] at h
      rw [HN.out]; exact h
def fewH (h : Head) : Bool := decide (h.guys.length ≤ 10)
def few (l : List Tst) (t : List Head) : Bool := t.all fewH && decide (l.length ≤ 45) && decide (t.length ≤ 15)
theorem all_miss {α : Type} {l : List α} {p : α → Bool} {k : Nat} (h : k < l.length) (hp : p l[k] = false) : l.all p = false := by
  rw [List.all_eq_false]
  exact ⟨_, List.getElem_mem h, by simp [hp]⟩
theorem all_of {α : Type} {l : List α} {p : α → Bool} (h : ∀ j (hj : j < l.length), p l[j] = true) : l.all p = true := by
  rw [List.all_eq_true]
  intro x hx
  obtain ⟨j, hj, rfl⟩ := List.getElem_of_mem hx
  exact h j hj
set_option maxHeartbeats 2000000 in
theorem Few_any (S : Nat → Prop) (l : List Tst) (t : List Head) (v u : Value) (w : World) (hv : SL S w v l) (hu : SL S w u t) :
    Calls Try.prog 15 #[v, u] w fun e w' => e = .returned (.bool (few l t)) ∧ Step w w' := by
  have hm := hv.len
  obtain ⟨pv, cv, rfl⟩ := hv.form
  obtain ⟨pt, ct, b, o, rfl, _, hm2, hp, hc, _⟩ := hu.heads
  have HP := Lib.hid (And.intro hp hc)
  have HT0 := Lib.hid (Step.refl w)
  clear hp hc hv hu
  go_enter Try.func15, Try.ntmps15
  go_wp2
  go_loopw [5] (fun i wr => ∃ k : Nat, k ≤ t.length ∧ i = .int .i64 k ∧ (∀ j (hj : j < k) (hl : j < t.length), fewH t[j] = true) ∧ Step w wr) (fun i _ => t.length - (intOf i).toNat)
  case atStart => exact ⟨0, Nat.zero_le _, rfl, fun j hj => absurd hj (by omega), HT0.out⟩
  case round =>
    obtain ⟨k, hk, rfl, hno, hT⟩ := hrel
    have HN := Lib.hid hno
    have HT := Lib.hid hT
    clear hno hT
    by_cases hlt : k < t.length
    · obtain rfl := HP.out.1 (by omega)
      obtain ⟨c2, e1, e2, e3, e4⟩ := HP.out.2 k hlt
      have hgl := e4.len
      obtain ⟨pg, cg, rfl⟩ := e4.form
      have e3 := HT.out.keeps.cell id e3
      have hix : (0 : Int) ≤ (k : Int) ∧ (k : Int) < (t.length : Int) := by omega
      clear e1 e2 e4
      by_cases hg : t[k].guys.length ≤ 10
      · have hd : decide ((10 : Int) < (t[k].guys.length : Int)) = false := by simp; omega
        have HG := Lib.hid (show fewH t[k] = true by simp [fewH, hg])
        clear hg
        go_wp2
        go_roundw
        case rel => exact ⟨k + 1, by omega, by go_num, fun j hj hl => if h : j = k then by subst h; exact HG.out else HN.out j (by omega) hl, HT.out⟩
        case measure => simp [intOf]; omega
      · have hd : decide ((10 : Int) < (t[k].guys.length : Int)) = true := by simp; omega
        have HG := Lib.hid (show few l t = false by unfold few; rw [all_miss hlt (by simp [fewH, hg])]; rfl)
        clear hg
        go_wp2
        go_ret
        exact ⟨by rw [HG.out]; rfl, HT.out⟩
    · have HA := Lib.hid (show t.all fewH = true from all_of fun j hj => HN.out j (by omega) hj)
      by_cases h1 : l.length ≤ 45
      · have hd1 : decide ((l.length : Int) ≤ 45) = true := by simp; omega
        have H1 := Lib.hid h1
        clear h1
        by_cases h2 : t.length ≤ 15
        · have hd2 : decide ((t.length : Int) ≤ 15) = true := by simp; omega
          have H2 := Lib.hid h2
          clear h2
          go_wp2
          go_ret
          exact ⟨by unfold few; rw [HA.out]; simp [H1.out, H2.out], HT.out⟩
        · have hd2 : decide ((t.length : Int) ≤ 15) = false := by simp; omega
          have H2 := Lib.hid h2
          clear h2
          go_wp2
          go_ret
          exact ⟨by unfold few; rw [HA.out]; simp [H1.out, H2.out], HT.out⟩
      · have hd1 : decide ((l.length : Int) ≤ 45) = false := by simp; omega
        have H1 := Lib.hid h1
        clear h1
        go_wp2
        go_ret
        exact ⟨by unfold few; rw [HA.out]; simp [H1.out], HT.out⟩
end Go.Proofs.Ytdcjbbeoocldeaa
/- Walks: the forces of a head: the document's way. -/
namespace Go.Proofs.Ytdcjbbeoocldeaa
set_option linter.unusedSimpArgs false
set_option linter.unusedVariables false
open Go.RowKit Go.BT

theorem cells3 {w : World} {g : Nat} {c0 c1 c2 : Value} {T : TypeId} (h : Bx w g [c0, c1, c2] T) : w.cell? ⟨g, 0, none⟩ = some c0 ∧ w.cell? ⟨g, 1, none⟩ = some c1 ∧ w.cell? ⟨g, 2, none⟩ = some c2 := ⟨h.cell 0, h.cell 1, h.cell 2⟩
theorem forces_len (l : List Tst) (gs : List Guy) : (forcesL l gs).length = gs.length := by simp [forcesL]
theorem forces_get {l : List Tst} {gs : List Guy} {k : Nat} (hk : k < (forcesL l gs).length) : (forcesL l gs)[k] = timesV ⟨(gs[k]'(by rw [forces_len] at hk; exact hk)).x, (gs[k]'(by rw [forces_len] at hk; exact hk)).y⟩ (partL l (gs[k]'(by rw [forces_len] at hk; exact hk))) := by simp [forcesL, forceL]
theorem force_wrap {l : List Tst} {g : Guy} (hl : l.all tstB = true) (hg : guyB g = true) : fits (partL l g * g.x) ∧ fits (partL l g * g.y) := by
  have hp := part_bound hl hg
  obtain ⟨hx, hy, _⟩ := guy_parts hg
  have a := part_mul hp hx
  have b := part_mul hp hy
  unfold fits
  omega
set_option maxRecDepth 100000 in
set_option maxHeartbeats 4000000 in
theorem Forces_any (S : Nat → Prop) (l : List Tst) (h : Head) (v u : Value) (w : World) (hv : SL S w v l) (hu : AV S w u h) (hl : l.all tstB = true) (hg : h.guys.all guyB = true) (hn : h.guys.length ≤ 1000) :
    Calls Try.prog 24 #[v, u] w fun e w' => ∃ v', e = .returned v' ∧ SL (Old w) w' v' (forcesL l h.guys) ∧ Step w w' := by
  obtain ⟨c2, rfl, h2⟩ := hu.head
  obtain ⟨W0, hW0⟩ : ∃ W, W = w.alloc (.cells #[.int .i64 h.area, .int .i64 h.bears, c2] 49) := ⟨_, rfl⟩
  obtain ⟨pg, cg, bg, og, rfl, _, hm, hp, hc, _⟩ := h2.guys
  have hb : Bx W0 w.heap.size [.int .i64 h.area, .int .i64 h.bears, .slice pg h.guys.length cg] 49 := by subst hW0; exact Bx.new w [_, _, _] _
  have hS : Step w W0 := by subst hW0; exact Step.alloc _ _
  have HV := Lib.hid (hv.keep (.of_step hS))
  obtain ⟨pv, cv, rfl⟩ := hv.form
  have HBX := Lib.hid hb
  have HS := Lib.hid hS
  have HW := Lib.hid hW0
  have HL := Lib.hid (And.intro hl hg)
  have HP := Lib.hid (And.intro hp hc)
  have HKL := Lib.hid (forces_len l h.guys)
  clear hb hS hW0 hl hg hv h2 hp hc
  go_enter Try.func24, Try.ntmps24
  go_wp2
  rw [← HW.out]
  go_loopw [5, 6] (fun out i wr => ∃ k : Nat, k ≤ h.guys.length ∧ i = .int .i64 k ∧ OwnL (Old W0) W0.heap.size 26 wr out ((forcesL l h.guys).take k) ∧ Below W0.heap.size W0 wr) (fun _ i _ => h.guys.length - (intOf i).toNat)
  case atStart => exact ⟨0, Nat.zero_le _, rfl, OwnL.nil _ _ _ _, Below.refl _ _⟩
  case round =>
    obtain ⟨k, hk, rfl, hown, hB⟩ := hrel
    have HT := Lib.hid (Step.of hB)
    have HO := Lib.hid hown
    have HB := Lib.hid hB
    obtain ⟨LL, hLL⟩ : ∃ L, L = (forcesL l h.guys).take k := ⟨_, rfl⟩
    rw [← hLL] at hown
    obtain ⟨pu, cu, rfl, _⟩ := hown.form
    have HLL := Lib.hid hLL
    clear hown hB hLL
    obtain ⟨f0, f1, f2⟩ := cells3 (HBX.out.step HT.out)
    by_cases hlt : k < h.guys.length
    · obtain rfl := HP.out.1 (by omega)
      obtain ⟨e1, e2, e3, e4, e5⟩ := HP.out.2 k hlt
      have e1 := (HS.out.trans HT.out).keeps.cell id e1
      have e2 := (HS.out.trans HT.out).keeps.cell id e2
      have e3 := (HS.out.trans HT.out).keeps.cell id e3
      have e4 := (HS.out.trans HT.out).keeps.cell id e4
      have e5 := (HS.out.trans HT.out).keeps.cell id e5
      have hix : (0 : Int) ≤ (k : Int) ∧ (k : Int) < (h.guys.length : Int) := by omega
      obtain ⟨g, hgk⟩ : ∃ g, g = h.guys[k] := ⟨_, rfl⟩
      have hgv := all_get HL.out.2 hlt
      rw [← hgk] at e1 e2 e3 e4 e5 hgv
      have hlk : k < (forcesL l h.guys).length := by have := HKL.out; omega
      have HFK := Lib.hid (show (forcesL l h.guys)[k] = timesV ⟨g.x, g.y⟩ (partL l g) by rw [forces_get hlk, hgk])
      have HGV := Lib.hid hgv
      clear hgk hgv
      go_wp2_with fail
      refine (Part_any S l g _ _ (HV.out.keep (.of_step HT.out)) HL.out.1 HGV.out).mono ?_
      rintro e w1 ⟨rfl, hS1⟩
      obtain ⟨p, hp⟩ : ∃ p, p = partL l g := ⟨_, rfl⟩
      have hw := force_wrap HL.out.1 HGV.out
      rw [← hp] at hw HFK ⊢
      have hw1 := hw.1.wrap
      have hw2 := hw.2.wrap
      have HS1 := Lib.hid hS1
      have e1 := hS1.keeps.cell id e1
      have e2 := hS1.keeps.cell id e2
      have f2 := hS1.keeps.cell id f2
      clear hS1 hw hp e3 e4 e5 f0 f1
      go_upto_region 6 with (fail)
      refine wp_region_seq (kdOf [18] []) [0, 0, 0, 4, 0, 28, 60, 124, 254, 0, 0, 1024, 0, 7168, 15360, 31744, 65024, 131070, 262142, 524287, 1048575] [0, 1, 2, 3, 4, 5, 6, 7, 8, 9, 10, 11, 12, 13, 14, 15, 16, 17, 18] [19, 20] (by kernel_rfl) (by kernel_rfl) (fun i T z hi hk => by simp [kdOf] at hk <;> (try (split at hk <;> cases hk))) ?_
      intro Wx hWx
      have hW0 := HS1.out.trans hWx
      have e1 := hWx.keeps.cell id e1
      have e2 := hWx.keeps.cell id e2
      have f2 := hWx.keeps.cell id f2
      clear hWx HS1
      repeat (first | (refine run_off rfl rfl (by rfl) ?_; (try simp only [Act.put, List.setIfInBounds_toArray, List.set_cons_zero, List.set_cons_succ])) | (refine run_chain_off rfl rfl (by rfl) (K0_mono _) ?_; (try simp only [Act.put, List.setIfInBounds_toArray, List.set_cons_zero, List.set_cons_succ])) | ((refine run_want rfl rfl (by rfl) ⟨?_, fun W hW => ?_, ?_⟩; rotate_left; (· (have d0 := hW.keeps.cell id e1; have d1 := hW.keeps.cell id e2; have d2 := hW.keeps.cell id f2; go_simp; (try with_reducible rfl)))); (try simp only [Act.put, List.setIfInBounds_toArray, List.set_cons_zero, List.set_cons_succ])))
      clear e1 e2 f2
      refine run_chain rfl rfl (by rfl) (fun W1 hW1 K' hK' => ?_)
      go_simp
      refine hK' _ _ (.of (Step.alloc _ _)) ?_
      (try simp only [Act.put, List.setIfInBounds_toArray, List.set_cons_zero, List.set_cons_succ])
      refine run_end (L := [_, _]) rfl (fun W2 hW2 => ?_)
      have hown2 := ((HO.out.step (hW0.trans hW1)).alloc (.cells #[.int .i64 (p * g.x), .int .i64 (p * g.y)] 26)).step hW2
      have hu := (SLe.one (S := avoid (Old W0) (.slice pu LL.length cu)) (w := W1) (cs := [.int .i64 (p * g.x), .int .i64 (p * g.y)]) (x := (forcesL l h.guys)[k]) 26 (by rw [HFK.out]; rfl)).step hW2
      have hB2 := ((HB.out.step (Nat.le_refl _) (hW0.trans hW1)).step (Nat.le_refl _) (Step.alloc _ (.cells #[.int .i64 (p * g.x), .int .i64 (p * g.y)] 26))).step (Nat.le_refl _) hW2
      clear hW0 hW1 hW2 hK'
      go_wp2_with (at_builtin; refine wpl_append1 (l := (forcesL l h.guys)) (k := k) eiRVecs rfl _ _ rfl rfl rfl hown2 hlk (by have := HKL.out; omega) (by decide) hu hB2 (Nat.le_refl _) ?_)
      intro p' c' w2 hown3 hB3 _
      have H3 := Lib.hid (And.intro hown3 hB3)
      clear hown2 hu hB2 hown3 hB3
      go_wp2
      go_roundw
      case rel => exact ⟨k + 1, by omega, by go_num, H3.out.1, H3.out.2⟩
      case measure => simp [intOf]; omega
    · have HN := Lib.hid (show LL = forcesL l h.guys by rw [HLL.out, List.take_of_length_le (by have := HKL.out; omega)])
      go_wp2
      go_ret
      refine ⟨_, rfl, ?_, HS.out.trans HT.out⟩
      have h := HO.out.fresh
      rw [← HLL.out, HN.out] at h
      rw [HN.out]; exact h.weak fun j _ hj => by have := HS.out.size; unfold Old at *; omega
end Go.Proofs.Ytdcjbbeoocldeaa
