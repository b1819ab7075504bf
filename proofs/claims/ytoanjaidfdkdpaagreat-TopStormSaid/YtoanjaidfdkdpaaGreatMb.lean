/- Walks and plain laws, part b. -/
import Derived.Test.YtoanjaidfdkdpaaGreatMa
import Derived.Test.YtoanjaidfdkdpaaGreatRows
import Derived.ArgAppend
import Derived.BigQuiet
import Derived.Deep.AppendLies
import Derived.Deep.DeepCutAuto
import Derived.Deep.QuietTactic
import Derived.Deep.RegionHeld3
import Derived.Laws.MakeOwn
import Derived.Laws.Strings
import Derived.Lib.ConvBytes
import Derived.Lib.Hide
import Derived.MapKept
import Derived.Shelf.Abstract
import Derived.WalkKit
import Derived.WalkLawsBesides
import Derived.WalkSmall
/- Walks: 'all', ContainsFunc, IndexFunc at a list of tests, of guys, of heads, of vectors: for whatever predicate. -/
namespace Go.Proofs.YtoanjaidfdkdpaaGreat
set_option linter.unusedSimpArgs false
set_option linter.unusedVariables false
open Go.RowKit Go.BT

/-- Where p first holds, or -1. -/
def idxOf {α : Type} (p : α → Bool) (l : List α) : Int := match l.findIdx? p with | some i => (i : Int) | none => -1
theorem idxOf_at {α : Type} {p : α → Bool} {l : List α} {k : Nat} (hk : k < l.length) (h : ∀ j (hj : j < k), p (l[j]'(by omega)) = false) (hp : p l[k] = true) : idxOf p l = k := by
  have : l.findIdx? p = some k := by
    rw [List.findIdx?_eq_some_iff_getElem]
    exact ⟨hk, hp, fun j hj => by simpa using h j hj⟩
  simp [idxOf, this]
theorem idxOf_none {α : Type} {p : α → Bool} {l : List α} (h : ∀ j (hj : j < l.length), p l[j] = false) : idxOf p l = -1 := by
  have : l.findIdx? p = none := by
    rw [List.findIdx?_eq_none_iff]
    intro x hx
    obtain ⟨j, hj, rfl⟩ := List.getElem_of_mem hx
    exact h j hj
  simp [idxOf, this]
theorem idxOf_ge {α : Type} (p : α → Bool) (l : List α) : decide (0 ≤ idxOf p l) = l.any p := by
  unfold idxOf
  cases h : l.findIdx? p with
  | none =>
    rw [List.findIdx?_eq_none_iff] at h
    simp only [Int.reduceNeg, Int.reduceLE, decide_false]
    symm; rw [List.any_eq_false]; intro x hx; simpa using h x hx
  | some i =>
    rw [List.findIdx?_eq_some_iff_getElem] at h
    obtain ⟨hi, hp, _⟩ := h
    simp only [Int.natCast_nonneg, decide_true]
    symm; rw [List.any_eq_true]; exact ⟨_, List.getElem_mem hi, hp⟩

/-- What is asked of a predicate: called at each element in turn, in a world of its kind J, it gives p, and the world is of the next kind. -/
def PredJ (g : FuncId) (cap : Array Value) {α : Type} (V : World → Value → α → Prop) (p : α → Bool) (l : List α) (J : Nat → World → Prop) : Prop :=
  ∀ i (h : i < l.length) W u, J i W → (∀ j (hj : j < i), p (l[j]'(by omega)) = false) → V W u l[i] → Calls Tryz.prog g (#[u] ++ cap) W fun e W' => e = .returned (.bool (p l[i])) ∧ J (i + 1) W'

/-- What is asked of a predicate that 'all' is handed: it is called at each element in turn, as long as it has held; X: what it may write. -/
def PredA (g : FuncId) (cap : Array Value) {α : Type} (V : World → Value → α → Prop) (p : α → Bool) (l : List α) (J : Nat → World → Prop) (X : Nat → Prop) : Prop :=
  ∀ i (h : i < l.length) W u, J i W → (∀ j (hj : j < i), p (l[j]'(by omega)) = true) → V W u l[i] → Calls Tryz.prog g (#[u] ++ cap) W fun e W' => e = .returned (.bool (p l[i])) ∧ J (i + 1) W' ∧ StepX X W W'

set_option maxHeartbeats 1000000 in
theorem indexFunc_tst (S : Nat → Prop) (l : List Tst) (v : Value) (w : World) (g : FuncId) (cap : Array Value) (eg : ∀ args w, (callFunc g args).run Tryz.prog w = .ok (.enter g args) w) (p : Tst → Bool) (J : Nat → World → Prop) (hJ : ∀ i W, J i W → SL S W v l) (hw : J 0 w)
    (hp : PredJ g cap (fun _ u x => u = .agg #[.int .i64 x.soil, .int .i64 x.depth, .int .i64 x.force, .bool x.held]) p l J) :
    Calls Tryz.prog 78 #[v, .func (.func g) #[] cap] w fun e w' => e = .returned (.int .i64 (idxOf p l)) ∧ ∃ k, k ≤ l.length ∧ (idxOf p l = -1 → k = l.length) ∧ J k w' := by
  obtain ⟨pv, cv, rfl⟩ := (hJ 0 w hw).form
  have hm := (hJ 0 w hw).len
  have Hp := Lib.hid hp
  have HJ := Lib.hid hJ
  clear hp hJ
  go_enter Tryz.func78, Tryz.ntmps78
  go_wp2
  go_loopw [8] (fun i wr => ∃ k : Nat, k ≤ l.length ∧ i = .int .i64 k ∧ (∀ j (hj : j < k) (hl : j < l.length), p l[j] = false) ∧ J k wr) (fun i _ => l.length - (intOf i).toNat)
  case atStart => exact ⟨0, Nat.zero_le _, rfl, fun j hj => absurd hj (by omega), hw⟩
  case round =>
    obtain ⟨k, hk, rfl, hno, hJk⟩ := hrel
    have HN := Lib.hid hno
    clear hno
    by_cases hlt : k < l.length
    · obtain ⟨p', c', b, o, he, _, _, hpp, hc, _⟩ := (HJ.out k wr hJk).tsts
      injection he with he1 he2 he3
      subst he1 he3
      obtain rfl := hpp (by omega)
      obtain ⟨e1, e2, e3, e4⟩ := hc k hlt
      clear hc hpp he2
      have hcall := Lib.hid (Hp.out k hlt wr (.agg #[.int .i64 l[k].soil, .int .i64 l[k].depth, .int .i64 l[k].force, .bool l[k].held]) hJk (fun j hj => HN.out j hj (by omega)) rfl)
      cases hq : p l[k] with
      | true =>
        have hq := Lib.hid hq
        go_wp2_with fail
        refine hcall.out.mono ?_
        rintro e w' ⟨rfl, hJ'⟩
        rw [hq.out]
        go_wp2
        have hi := idxOf_at hlt (fun j hj => HN.out j hj (by omega)) hq.out
        go_ret
        rw [hi]
        exact ⟨rfl, k + 1, by omega, fun h => by omega, hJ'⟩
      | false =>
        have hq := Lib.hid hq
        go_wp2_with fail
        refine hcall.out.mono ?_
        rintro e w' ⟨rfl, hJ'⟩
        rw [hq.out]
        go_wp2
        go_roundw
        case rel => exact ⟨k + 1, by omega, by go_num, fun j hj hl => if h : j = k then by subst h; exact hq.out else HN.out j (by omega) hl, hJ'⟩
        case measure => simp [intOf]; omega
    · go_wp2
      have hi := idxOf_none (fun j hj => HN.out j (by omega) hj)
      go_ret
      rw [hi]
      exact ⟨rfl, k, hk, fun _ => by omega, hJk⟩
set_option maxHeartbeats 1000000 in
theorem containsFunc_tst (S : Nat → Prop) (l : List Tst) (v : Value) (w : World) (g : FuncId) (cap : Array Value) (eg : ∀ args w, (callFunc g args).run Tryz.prog w = .ok (.enter g args) w) (p : Tst → Bool) (J : Nat → World → Prop) (hJ : ∀ i W, J i W → SL S W v l) (hw : J 0 w)
    (hp : PredJ g cap (fun _ u x => u = .agg #[.int .i64 x.soil, .int .i64 x.depth, .int .i64 x.force, .bool x.held]) p l J) :
    Calls Tryz.prog 70 #[v, .func (.func g) #[] cap] w fun e w' => e = .returned (.bool (l.any p)) ∧ ∃ k, k ≤ l.length ∧ (l.any p = false → k = l.length) ∧ J k w' := by
  have hc := indexFunc_tst S l v w g cap eg p J hJ hw hp
  have HC := Lib.hid hc
  clear hc hp hJ eg
  go_enter Tryz.func70, Tryz.ntmps70
  go_wp2_with fail
  refine HC.out.mono ?_
  rintro e w' ⟨rfl, hk⟩
  have HK := Lib.hid hk
  clear hk
  go_wp2
  have hge := idxOf_ge p l
  go_ret
  obtain ⟨k, h1, h2, h3⟩ := HK.out
  refine ⟨by rw [← hge]; rfl, k, h1, fun h => h2 ?_, h3⟩
  rw [← hge, decide_eq_false_iff_not] at h
  unfold idxOf at h ⊢
  split <;> rename_i hh <;> simp [hh] at h ⊢
set_option maxHeartbeats 1000000 in
theorem allNot_tst (l : List Tst) (g : FuncId) (cap : Array Value) (eg : ∀ args w, (callFunc g args).run Tryz.prog w = .ok (.enter g args) w) (p : Tst → Bool) (J : Nat → World → Prop) (X : Nat → Prop) (b : Nat) (hX : ¬ X b)
    (hJs : ∀ i W W', J i W → Step W W' → J i W') (hp : PredA g cap (fun _ u x => u = .agg #[.int .i64 x.soil, .int .i64 x.depth, .int .i64 x.force, .bool x.held]) p l J X) :
    PredJ 71 #[.pointer (some ⟨b, 0, none⟩)] (fun _ u x => u = .agg #[.int .i64 x.soil, .int .i64 x.depth, .int .i64 x.force, .bool x.held]) (fun x => !p x) l (fun i W => J i W ∧ W.cell? ⟨b, 0, none⟩ = some (.func (.func g) #[] cap)) := by
  intro i h W u ⟨hJ, hc⟩ hno hV
  have hb := World.block_lt_of_cell? W _ hc
  have hb' : b < W.heap.size := hb
  obtain rfl := hV
  have hcall := Lib.hid (hp i h (W.alloc (.cells #[.int .i64 l[i].soil, .int .i64 l[i].depth, .int .i64 l[i].force, .bool l[i].held] 102)) (.agg #[.int .i64 l[i].soil, .int .i64 l[i].depth, .int .i64 l[i].force, .bool l[i].held]) (hJs _ _ _ hJ (Step.alloc _ _)) (fun j hj => by simpa using hno j hj) rfl)
  show Calls Tryz.prog 71 #[(.agg #[.int .i64 l[i].soil, .int .i64 l[i].depth, .int .i64 l[i].force, .bool l[i].held]), .pointer (some ⟨b, 0, none⟩)] W _
  have HN := Lib.hid hno
  have HS := Lib.hid hJs
  clear hno hJs hp hJ hb
  go_enter Tryz.func71, Tryz.ntmps71
  go_wp2_with fail
  refine hcall.out.mono ?_
  rintro e w' ⟨rfl, hJ', hst⟩
  have hc' := hst.keeps.cell hX (a := ⟨b, 0, none⟩) (by rw [World.cell?_alloc_lt _ _ _ hb']; exact hc)
  go_wp2
  go_ret
  exact ⟨rfl, hJ', hc'⟩
set_option maxHeartbeats 1000000 in
theorem all_tst (S : Nat → Prop) (l : List Tst) (v : Value) (w : World) (g : FuncId) (cap : Array Value) (eg : ∀ args w, (callFunc g args).run Tryz.prog w = .ok (.enter g args) w) (p : Tst → Bool) (J : Nat → World → Prop) (X : Nat → Prop)
    (hX : ∀ j, X j → j < w.heap.size) (hJ : ∀ i W, J i W → SL S W v l) (hJs : ∀ i W W', J i W → Step W W' → J i W') (hw : J 0 w) (hp : PredA g cap (fun _ u x => u = .agg #[.int .i64 x.soil, .int .i64 x.depth, .int .i64 x.force, .bool x.held]) p l J X) :
    Calls Tryz.prog 47 #[v, .func (.func g) #[] cap] w fun e w' => e = .returned (.bool (l.all p)) ∧ ∃ k, k ≤ l.length ∧ (l.all p = true → k = l.length) ∧ J k w' := by
  have hmf : ∀ (fn : Fn) (first cap : Array Value) (w : World), (Instr.makeFunc fn first cap).run Tryz.prog w = .ok (.func fn first cap) w := fun _ _ _ _ => rfl
  have hc := containsFunc_tst S l v (w.alloc (.cells #[.func (.func g) #[] cap] 128)) 71 #[.pointer (some ⟨w.heap.size, 0, none⟩)] (Go.Proofs.enters_of Tryz.func71 (by kernel_rfl) rfl) (fun x => !p x)
    (fun i W => J i W ∧ W.cell? ⟨w.heap.size, 0, none⟩ = some (.func (.func g) #[] cap)) (fun i W h => hJ i W h.1) ⟨hJs _ _ _ hw (Step.alloc _ _), by rw [World.cell?_alloc_new]; rfl⟩
    (allNot_tst l g cap eg p J X w.heap.size (fun h => by have := hX _ h; omega) hJs hp)
  have HC := Lib.hid hc
  clear hc hp hJ hJs hX eg
  go_enter Tryz.func47, Tryz.ntmps47
  go_wp2_with fail
  refine HC.out.mono ?_
  rintro e w' ⟨rfl, hk⟩
  have HK := Lib.hid hk
  clear hk
  have he : (l.any fun x => !p x) = !(l.all p) := by rw [List.not_all_eq_any_not]
  have HE := Lib.hid he
  clear he
  go_wp2
  go_ret
  obtain ⟨k, h1, h2, h3, _⟩ := HK.out
  rw [HE.out] at h2 ⊢
  exact ⟨by simp, k, h1, fun h => h2 (by simp [h]), h3⟩
set_option maxHeartbeats 1000000 in
theorem indexFunc_guy (S : Nat → Prop) (l : List Guy) (v : Value) (w : World) (g : FuncId) (cap : Array Value) (eg : ∀ args w, (callFunc g args).run Tryz.prog w = .ok (.enter g args) w) (p : Guy → Bool) (J : Nat → World → Prop) (hJ : ∀ i W, J i W → SL S W v l) (hw : J 0 w)
    (hp : PredJ g cap (fun _ u x => u = .agg #[.int .i64 x.x, .int .i64 x.y, .int .i64 x.down, .int .i64 x.soil, .int .i64 x.depth]) p l J) :
    Calls Tryz.prog 111 #[v, .func (.func g) #[] cap] w fun e w' => e = .returned (.int .i64 (idxOf p l)) ∧ ∃ k, k ≤ l.length ∧ (idxOf p l = -1 → k = l.length) ∧ J k w' := by
  obtain ⟨pv, cv, rfl⟩ := (hJ 0 w hw).form
  have hm := (hJ 0 w hw).len
  have Hp := Lib.hid hp
  have HJ := Lib.hid hJ
  clear hp hJ
  go_enter Tryz.func111, Tryz.ntmps111
  go_wp2
  go_loopw [8] (fun i wr => ∃ k : Nat, k ≤ l.length ∧ i = .int .i64 k ∧ (∀ j (hj : j < k) (hl : j < l.length), p l[j] = false) ∧ J k wr) (fun i _ => l.length - (intOf i).toNat)
  case atStart => exact ⟨0, Nat.zero_le _, rfl, fun j hj => absurd hj (by omega), hw⟩
  case round =>
    obtain ⟨k, hk, rfl, hno, hJk⟩ := hrel
    have HN := Lib.hid hno
    clear hno
    by_cases hlt : k < l.length
    · obtain ⟨p', c', b, o, he, _, _, hpp, hc, _⟩ := (HJ.out k wr hJk).guys
      injection he with he1 he2 he3
      subst he1 he3
      obtain rfl := hpp (by omega)
      obtain ⟨e1, e2, e3, e4, e5⟩ := hc k hlt
      clear hc hpp he2
      have hcall := Lib.hid (Hp.out k hlt wr (.agg #[.int .i64 l[k].x, .int .i64 l[k].y, .int .i64 l[k].down, .int .i64 l[k].soil, .int .i64 l[k].depth]) hJk (fun j hj => HN.out j hj (by omega)) rfl)
      cases hq : p l[k] with
      | true =>
        have hq := Lib.hid hq
        go_wp2_with fail
        refine hcall.out.mono ?_
        rintro e w' ⟨rfl, hJ'⟩
        rw [hq.out]
        go_wp2
        have hi := idxOf_at hlt (fun j hj => HN.out j hj (by omega)) hq.out
        go_ret
        rw [hi]
        exact ⟨rfl, k + 1, by omega, fun h => by omega, hJ'⟩
      | false =>
        have hq := Lib.hid hq
        go_wp2_with fail
        refine hcall.out.mono ?_
        rintro e w' ⟨rfl, hJ'⟩
        rw [hq.out]
        go_wp2
        go_roundw
        case rel => exact ⟨k + 1, by omega, by go_num, fun j hj hl => if h : j = k then by subst h; exact hq.out else HN.out j (by omega) hl, hJ'⟩
        case measure => simp [intOf]; omega
    · go_wp2
      have hi := idxOf_none (fun j hj => HN.out j (by omega) hj)
      go_ret
      rw [hi]
      exact ⟨rfl, k, hk, fun _ => by omega, hJk⟩
set_option maxHeartbeats 1000000 in
theorem containsFunc_guy (S : Nat → Prop) (l : List Guy) (v : Value) (w : World) (g : FuncId) (cap : Array Value) (eg : ∀ args w, (callFunc g args).run Tryz.prog w = .ok (.enter g args) w) (p : Guy → Bool) (J : Nat → World → Prop) (hJ : ∀ i W, J i W → SL S W v l) (hw : J 0 w)
    (hp : PredJ g cap (fun _ u x => u = .agg #[.int .i64 x.x, .int .i64 x.y, .int .i64 x.down, .int .i64 x.soil, .int .i64 x.depth]) p l J) :
    Calls Tryz.prog 96 #[v, .func (.func g) #[] cap] w fun e w' => e = .returned (.bool (l.any p)) ∧ ∃ k, k ≤ l.length ∧ (l.any p = false → k = l.length) ∧ J k w' := by
  have hc := indexFunc_guy S l v w g cap eg p J hJ hw hp
  have HC := Lib.hid hc
  clear hc hp hJ eg
  go_enter Tryz.func96, Tryz.ntmps96
  go_wp2_with fail
  refine HC.out.mono ?_
  rintro e w' ⟨rfl, hk⟩
  have HK := Lib.hid hk
  clear hk
  go_wp2
  have hge := idxOf_ge p l
  go_ret
  obtain ⟨k, h1, h2, h3⟩ := HK.out
  refine ⟨by rw [← hge]; rfl, k, h1, fun h => h2 ?_, h3⟩
  rw [← hge, decide_eq_false_iff_not] at h
  unfold idxOf at h ⊢
  split <;> rename_i hh <;> simp [hh] at h ⊢
set_option maxHeartbeats 1000000 in
theorem allNot_guy (l : List Guy) (g : FuncId) (cap : Array Value) (eg : ∀ args w, (callFunc g args).run Tryz.prog w = .ok (.enter g args) w) (p : Guy → Bool) (J : Nat → World → Prop) (X : Nat → Prop) (b : Nat) (hX : ¬ X b)
    (hJs : ∀ i W W', J i W → Step W W' → J i W') (hp : PredA g cap (fun _ u x => u = .agg #[.int .i64 x.x, .int .i64 x.y, .int .i64 x.down, .int .i64 x.soil, .int .i64 x.depth]) p l J X) :
    PredJ 97 #[.pointer (some ⟨b, 0, none⟩)] (fun _ u x => u = .agg #[.int .i64 x.x, .int .i64 x.y, .int .i64 x.down, .int .i64 x.soil, .int .i64 x.depth]) (fun x => !p x) l (fun i W => J i W ∧ W.cell? ⟨b, 0, none⟩ = some (.func (.func g) #[] cap)) := by
  intro i h W u ⟨hJ, hc⟩ hno hV
  have hb := World.block_lt_of_cell? W _ hc
  have hb' : b < W.heap.size := hb
  obtain rfl := hV
  have hcall := Lib.hid (hp i h (W.alloc (.cells #[.int .i64 l[i].x, .int .i64 l[i].y, .int .i64 l[i].down, .int .i64 l[i].soil, .int .i64 l[i].depth] 108)) (.agg #[.int .i64 l[i].x, .int .i64 l[i].y, .int .i64 l[i].down, .int .i64 l[i].soil, .int .i64 l[i].depth]) (hJs _ _ _ hJ (Step.alloc _ _)) (fun j hj => by simpa using hno j hj) rfl)
  show Calls Tryz.prog 97 #[(.agg #[.int .i64 l[i].x, .int .i64 l[i].y, .int .i64 l[i].down, .int .i64 l[i].soil, .int .i64 l[i].depth]), .pointer (some ⟨b, 0, none⟩)] W _
  have HN := Lib.hid hno
  have HS := Lib.hid hJs
  clear hno hJs hp hJ hb
  go_enter Tryz.func97, Tryz.ntmps97
  go_wp2_with fail
  refine hcall.out.mono ?_
  rintro e w' ⟨rfl, hJ', hst⟩
  have hc' := hst.keeps.cell hX (a := ⟨b, 0, none⟩) (by rw [World.cell?_alloc_lt _ _ _ hb']; exact hc)
  go_wp2
  go_ret
  exact ⟨rfl, hJ', hc'⟩
set_option maxHeartbeats 1000000 in
theorem all_guy (S : Nat → Prop) (l : List Guy) (v : Value) (w : World) (g : FuncId) (cap : Array Value) (eg : ∀ args w, (callFunc g args).run Tryz.prog w = .ok (.enter g args) w) (p : Guy → Bool) (J : Nat → World → Prop) (X : Nat → Prop)
    (hX : ∀ j, X j → j < w.heap.size) (hJ : ∀ i W, J i W → SL S W v l) (hJs : ∀ i W W', J i W → Step W W' → J i W') (hw : J 0 w) (hp : PredA g cap (fun _ u x => u = .agg #[.int .i64 x.x, .int .i64 x.y, .int .i64 x.down, .int .i64 x.soil, .int .i64 x.depth]) p l J X) :
    Calls Tryz.prog 74 #[v, .func (.func g) #[] cap] w fun e w' => e = .returned (.bool (l.all p)) ∧ ∃ k, k ≤ l.length ∧ (l.all p = true → k = l.length) ∧ J k w' := by
  have hmf : ∀ (fn : Fn) (first cap : Array Value) (w : World), (Instr.makeFunc fn first cap).run Tryz.prog w = .ok (.func fn first cap) w := fun _ _ _ _ => rfl
  have hc := containsFunc_guy S l v (w.alloc (.cells #[.func (.func g) #[] cap] 151)) 97 #[.pointer (some ⟨w.heap.size, 0, none⟩)] (Go.Proofs.enters_of Tryz.func97 (by kernel_rfl) rfl) (fun x => !p x)
    (fun i W => J i W ∧ W.cell? ⟨w.heap.size, 0, none⟩ = some (.func (.func g) #[] cap)) (fun i W h => hJ i W h.1) ⟨hJs _ _ _ hw (Step.alloc _ _), by rw [World.cell?_alloc_new]; rfl⟩
    (allNot_guy l g cap eg p J X w.heap.size (fun h => by have := hX _ h; omega) hJs hp)
  have HC := Lib.hid hc
  clear hc hp hJ hJs hX eg
  go_enter Tryz.func74, Tryz.ntmps74
  go_wp2_with fail
  refine HC.out.mono ?_
  rintro e w' ⟨rfl, hk⟩
  have HK := Lib.hid hk
  clear hk
  have he : (l.any fun x => !p x) = !(l.all p) := by rw [List.not_all_eq_any_not]
  have HE := Lib.hid he
  clear he
  go_wp2
  go_ret
  obtain ⟨k, h1, h2, h3, _⟩ := HK.out
  rw [HE.out] at h2 ⊢
  exact ⟨by simp, k, h1, fun h => h2 (by simp [h]), h3⟩
set_option maxHeartbeats 1000000 in
theorem indexFunc_vec (S : Nat → Prop) (l : List Vec) (v : Value) (w : World) (g : FuncId) (cap : Array Value) (eg : ∀ args w, (callFunc g args).run Tryz.prog w = .ok (.enter g args) w) (p : Vec → Bool) (J : Nat → World → Prop) (hJ : ∀ i W, J i W → SL S W v l) (hw : J 0 w)
    (hp : PredJ g cap (fun _ u x => u = .agg #[.int .i64 x.x, .int .i64 x.y]) p l J) :
    Calls Tryz.prog 98 #[v, .func (.func g) #[] cap] w fun e w' => e = .returned (.int .i64 (idxOf p l)) ∧ ∃ k, k ≤ l.length ∧ (idxOf p l = -1 → k = l.length) ∧ J k w' := by
  obtain ⟨pv, cv, rfl⟩ := (hJ 0 w hw).form
  have hm := (hJ 0 w hw).len
  have Hp := Lib.hid hp
  have HJ := Lib.hid hJ
  clear hp hJ
  go_enter Tryz.func98, Tryz.ntmps98
  go_wp2
  go_loopw [8] (fun i wr => ∃ k : Nat, k ≤ l.length ∧ i = .int .i64 k ∧ (∀ j (hj : j < k) (hl : j < l.length), p l[j] = false) ∧ J k wr) (fun i _ => l.length - (intOf i).toNat)
  case atStart => exact ⟨0, Nat.zero_le _, rfl, fun j hj => absurd hj (by omega), hw⟩
  case round =>
    obtain ⟨k, hk, rfl, hno, hJk⟩ := hrel
    have HN := Lib.hid hno
    clear hno
    by_cases hlt : k < l.length
    · obtain ⟨p', c', b, o, he, _, _, hpp, hc, _⟩ := (HJ.out k wr hJk).vecs
      injection he with he1 he2 he3
      subst he1 he3
      obtain rfl := hpp (by omega)
      obtain ⟨e1, e2⟩ := hc k hlt
      clear hc hpp he2
      have hcall := Lib.hid (Hp.out k hlt wr (.agg #[.int .i64 l[k].x, .int .i64 l[k].y]) hJk (fun j hj => HN.out j hj (by omega)) rfl)
      cases hq : p l[k] with
      | true =>
        have hq := Lib.hid hq
        go_wp2_with fail
        refine hcall.out.mono ?_
        rintro e w' ⟨rfl, hJ'⟩
        rw [hq.out]
        go_wp2
        have hi := idxOf_at hlt (fun j hj => HN.out j hj (by omega)) hq.out
        go_ret
        rw [hi]
        exact ⟨rfl, k + 1, by omega, fun h => by omega, hJ'⟩
      | false =>
        have hq := Lib.hid hq
        go_wp2_with fail
        refine hcall.out.mono ?_
        rintro e w' ⟨rfl, hJ'⟩
        rw [hq.out]
        go_wp2
        go_roundw
        case rel => exact ⟨k + 1, by omega, by go_num, fun j hj hl => if h : j = k then by subst h; exact hq.out else HN.out j (by omega) hl, hJ'⟩
        case measure => simp [intOf]; omega
    · go_wp2
      have hi := idxOf_none (fun j hj => HN.out j (by omega) hj)
      go_ret
      rw [hi]
      exact ⟨rfl, k, hk, fun _ => by omega, hJk⟩
set_option maxHeartbeats 1000000 in
theorem containsFunc_vec (S : Nat → Prop) (l : List Vec) (v : Value) (w : World) (g : FuncId) (cap : Array Value) (eg : ∀ args w, (callFunc g args).run Tryz.prog w = .ok (.enter g args) w) (p : Vec → Bool) (J : Nat → World → Prop) (hJ : ∀ i W, J i W → SL S W v l) (hw : J 0 w)
    (hp : PredJ g cap (fun _ u x => u = .agg #[.int .i64 x.x, .int .i64 x.y]) p l J) :
    Calls Tryz.prog 76 #[v, .func (.func g) #[] cap] w fun e w' => e = .returned (.bool (l.any p)) ∧ ∃ k, k ≤ l.length ∧ (l.any p = false → k = l.length) ∧ J k w' := by
  have hc := indexFunc_vec S l v w g cap eg p J hJ hw hp
  have HC := Lib.hid hc
  clear hc hp hJ eg
  go_enter Tryz.func76, Tryz.ntmps76
  go_wp2_with fail
  refine HC.out.mono ?_
  rintro e w' ⟨rfl, hk⟩
  have HK := Lib.hid hk
  clear hk
  go_wp2
  have hge := idxOf_ge p l
  go_ret
  obtain ⟨k, h1, h2, h3⟩ := HK.out
  refine ⟨by rw [← hge]; rfl, k, h1, fun h => h2 ?_, h3⟩
  rw [← hge, decide_eq_false_iff_not] at h
  unfold idxOf at h ⊢
  split <;> rename_i hh <;> simp [hh] at h ⊢
set_option maxHeartbeats 1000000 in
theorem allNot_vec (l : List Vec) (g : FuncId) (cap : Array Value) (eg : ∀ args w, (callFunc g args).run Tryz.prog w = .ok (.enter g args) w) (p : Vec → Bool) (J : Nat → World → Prop) (X : Nat → Prop) (b : Nat) (hX : ¬ X b)
    (hJs : ∀ i W W', J i W → Step W W' → J i W') (hp : PredA g cap (fun _ u x => u = .agg #[.int .i64 x.x, .int .i64 x.y]) p l J X) :
    PredJ 108 #[.pointer (some ⟨b, 0, none⟩)] (fun _ u x => u = .agg #[.int .i64 x.x, .int .i64 x.y]) (fun x => !p x) l (fun i W => J i W ∧ W.cell? ⟨b, 0, none⟩ = some (.func (.func g) #[] cap)) := by
  intro i h W u ⟨hJ, hc⟩ hno hV
  have hb := World.block_lt_of_cell? W _ hc
  have hb' : b < W.heap.size := hb
  obtain rfl := hV
  have hcall := Lib.hid (hp i h (W.alloc (.cells #[.int .i64 l[i].x, .int .i64 l[i].y] 70)) (.agg #[.int .i64 l[i].x, .int .i64 l[i].y]) (hJs _ _ _ hJ (Step.alloc _ _)) (fun j hj => by simpa using hno j hj) rfl)
  show Calls Tryz.prog 108 #[(.agg #[.int .i64 l[i].x, .int .i64 l[i].y]), .pointer (some ⟨b, 0, none⟩)] W _
  have HN := Lib.hid hno
  have HS := Lib.hid hJs
  clear hno hJs hp hJ hb
  go_enter Tryz.func108, Tryz.ntmps108
  go_wp2_with fail
  refine hcall.out.mono ?_
  rintro e w' ⟨rfl, hJ', hst⟩
  have hc' := hst.keeps.cell hX (a := ⟨b, 0, none⟩) (by rw [World.cell?_alloc_lt _ _ _ hb']; exact hc)
  go_wp2
  go_ret
  exact ⟨rfl, hJ', hc'⟩
set_option maxHeartbeats 1000000 in
theorem all_vec (S : Nat → Prop) (l : List Vec) (v : Value) (w : World) (g : FuncId) (cap : Array Value) (eg : ∀ args w, (callFunc g args).run Tryz.prog w = .ok (.enter g args) w) (p : Vec → Bool) (J : Nat → World → Prop) (X : Nat → Prop)
    (hX : ∀ j, X j → j < w.heap.size) (hJ : ∀ i W, J i W → SL S W v l) (hJs : ∀ i W W', J i W → Step W W' → J i W') (hw : J 0 w) (hp : PredA g cap (fun _ u x => u = .agg #[.int .i64 x.x, .int .i64 x.y]) p l J X) :
    Calls Tryz.prog 88 #[v, .func (.func g) #[] cap] w fun e w' => e = .returned (.bool (l.all p)) ∧ ∃ k, k ≤ l.length ∧ (l.all p = true → k = l.length) ∧ J k w' := by
  have hmf : ∀ (fn : Fn) (first cap : Array Value) (w : World), (Instr.makeFunc fn first cap).run Tryz.prog w = .ok (.func fn first cap) w := fun _ _ _ _ => rfl
  have hc := containsFunc_vec S l v (w.alloc (.cells #[.func (.func g) #[] cap] 132)) 108 #[.pointer (some ⟨w.heap.size, 0, none⟩)] (Go.Proofs.enters_of Tryz.func108 (by kernel_rfl) rfl) (fun x => !p x)
    (fun i W => J i W ∧ W.cell? ⟨w.heap.size, 0, none⟩ = some (.func (.func g) #[] cap)) (fun i W h => hJ i W h.1) ⟨hJs _ _ _ hw (Step.alloc _ _), by rw [World.cell?_alloc_new]; rfl⟩
    (allNot_vec l g cap eg p J X w.heap.size (fun h => by have := hX _ h; omega) hJs hp)
  have HC := Lib.hid hc
  clear hc hp hJ hJs hX eg
  go_enter Tryz.func88, Tryz.ntmps88
  go_wp2_with fail
  refine HC.out.mono ?_
  rintro e w' ⟨rfl, hk⟩
  have HK := Lib.hid hk
  clear hk
  have he : (l.any fun x => !p x) = !(l.all p) := by rw [List.not_all_eq_any_not]
  have HE := Lib.hid he
  clear he
  go_wp2
  go_ret
  obtain ⟨k, h1, h2, h3, _⟩ := HK.out
  rw [HE.out] at h2 ⊢
  exact ⟨by simp, k, h1, fun h => h2 (by simp [h]), h3⟩
set_option maxHeartbeats 1000000 in
theorem indexFunc_head (S : Nat → Prop) (l : List Head) (v : Value) (w : World) (g : FuncId) (cap : Array Value) (eg : ∀ args w, (callFunc g args).run Tryz.prog w = .ok (.enter g args) w) (p : Head → Bool) (J : Nat → World → Prop) (hJ : ∀ i W, J i W → SL S W v l) (hw : J 0 w)
    (hp : PredJ g cap (fun W u x => AV (fun _ => False) W u x) p l J) :
    Calls Tryz.prog 95 #[v, .func (.func g) #[] cap] w fun e w' => e = .returned (.int .i64 (idxOf p l)) ∧ ∃ k, k ≤ l.length ∧ (idxOf p l = -1 → k = l.length) ∧ J k w' := by
  obtain ⟨pv, cv, rfl⟩ := (hJ 0 w hw).form
  have hm := (hJ 0 w hw).len
  have Hp := Lib.hid hp
  have HJ := Lib.hid hJ
  clear hp hJ
  go_enter Tryz.func95, Tryz.ntmps95
  go_wp2
  go_loopw [8] (fun i wr => ∃ k : Nat, k ≤ l.length ∧ i = .int .i64 k ∧ (∀ j (hj : j < k) (hl : j < l.length), p l[j] = false) ∧ J k wr) (fun i _ => l.length - (intOf i).toNat)
  case atStart => exact ⟨0, Nat.zero_le _, rfl, fun j hj => absurd hj (by omega), hw⟩
  case round =>
    obtain ⟨k, hk, rfl, hno, hJk⟩ := hrel
    have HN := Lib.hid hno
    clear hno
    by_cases hlt : k < l.length
    · obtain ⟨p', c', b, o, he, _, _, hpp, hc, _⟩ := (HJ.out k wr hJk).heads
      injection he with he1 he2 he3
      subst he1 he3
      obtain rfl := hpp (by omega)
      obtain ⟨c2, e1, e2, e3, e4⟩ := hc k hlt; obtain ⟨p2, k2, rfl⟩ := e4.form
      clear hc hpp he2
      have hcall := Lib.hid (Hp.out k hlt wr (.agg #[.int .i64 l[k].area, .int .i64 l[k].bears, .slice p2 l[k].guys.length k2]) hJk (fun j hj => HN.out j hj (by omega)) ⟨_, rfl, _, rfl, e4.weak fun _ _ h => h.elim⟩)
      cases hq : p l[k] with
      | true =>
        have hq := Lib.hid hq
        go_wp2_with fail
        refine hcall.out.mono ?_
        rintro e w' ⟨rfl, hJ'⟩
        rw [hq.out]
        go_wp2
        have hi := idxOf_at hlt (fun j hj => HN.out j hj (by omega)) hq.out
        go_ret
        rw [hi]
        exact ⟨rfl, k + 1, by omega, fun h => by omega, hJ'⟩
      | false =>
        have hq := Lib.hid hq
        go_wp2_with fail
        refine hcall.out.mono ?_
        rintro e w' ⟨rfl, hJ'⟩
        rw [hq.out]
        go_wp2
        go_roundw
        case rel => exact ⟨k + 1, by omega, by go_num, fun j hj hl => if h : j = k then by subst h; exact hq.out else HN.out j (by omega) hl, hJ'⟩
        case measure => simp [intOf]; omega
    · go_wp2
      have hi := idxOf_none (fun j hj => HN.out j (by omega) hj)
      go_ret
      rw [hi]
      exact ⟨rfl, k, hk, fun _ => by omega, hJk⟩
set_option maxHeartbeats 1000000 in
theorem containsFunc_head (S : Nat → Prop) (l : List Head) (v : Value) (w : World) (g : FuncId) (cap : Array Value) (eg : ∀ args w, (callFunc g args).run Tryz.prog w = .ok (.enter g args) w) (p : Head → Bool) (J : Nat → World → Prop) (hJ : ∀ i W, J i W → SL S W v l) (hw : J 0 w)
    (hp : PredJ g cap (fun W u x => AV (fun _ => False) W u x) p l J) :
    Calls Tryz.prog 72 #[v, .func (.func g) #[] cap] w fun e w' => e = .returned (.bool (l.any p)) ∧ ∃ k, k ≤ l.length ∧ (l.any p = false → k = l.length) ∧ J k w' := by
  have hc := indexFunc_head S l v w g cap eg p J hJ hw hp
  have HC := Lib.hid hc
  clear hc hp hJ eg
  go_enter Tryz.func72, Tryz.ntmps72
  go_wp2_with fail
  refine HC.out.mono ?_
  rintro e w' ⟨rfl, hk⟩
  have HK := Lib.hid hk
  clear hk
  go_wp2
  have hge := idxOf_ge p l
  go_ret
  obtain ⟨k, h1, h2, h3⟩ := HK.out
  refine ⟨by rw [← hge]; rfl, k, h1, fun h => h2 ?_, h3⟩
  rw [← hge, decide_eq_false_iff_not] at h
  unfold idxOf at h ⊢
  split <;> rename_i hh <;> simp [hh] at h ⊢
set_option maxHeartbeats 1000000 in
theorem allNot_head (l : List Head) (g : FuncId) (cap : Array Value) (eg : ∀ args w, (callFunc g args).run Tryz.prog w = .ok (.enter g args) w) (p : Head → Bool) (J : Nat → World → Prop) (X : Nat → Prop) (b : Nat) (hX : ¬ X b)
    (hJs : ∀ i W W', J i W → Step W W' → J i W') (hp : PredA g cap (fun W u x => AV (fun _ => False) W u x) p l J X) :
    PredJ 73 #[.pointer (some ⟨b, 0, none⟩)] (fun W u x => AV (fun _ => False) W u x) (fun x => !p x) l (fun i W => J i W ∧ W.cell? ⟨b, 0, none⟩ = some (.func (.func g) #[] cap)) := by
  intro i h W u ⟨hJ, hc⟩ hno hV
  have hb := World.block_lt_of_cell? W _ hc
  have hb' : b < W.heap.size := hb
  obtain ⟨c2, rfl, e4⟩ := AV.head hV; obtain ⟨p2, k2, rfl⟩ := e4.form
  have hcall := Lib.hid (hp i h (W.alloc (.cells #[.int .i64 l[i].area, .int .i64 l[i].bears, .slice p2 l[i].guys.length k2] 105)) (.agg #[.int .i64 l[i].area, .int .i64 l[i].bears, .slice p2 l[i].guys.length k2]) (hJs _ _ _ hJ (Step.alloc _ _)) (fun j hj => by simpa using hno j hj) ⟨_, rfl, _, rfl, e4.keep (.alloc _ _)⟩)
  show Calls Tryz.prog 73 #[(.agg #[.int .i64 l[i].area, .int .i64 l[i].bears, .slice p2 l[i].guys.length k2]), .pointer (some ⟨b, 0, none⟩)] W _
  have HN := Lib.hid hno
  have HS := Lib.hid hJs
  clear hno hJs hp hJ hb
  go_enter Tryz.func73, Tryz.ntmps73
  go_wp2_with fail
  refine hcall.out.mono ?_
  rintro e w' ⟨rfl, hJ', hst⟩
  have hc' := hst.keeps.cell hX (a := ⟨b, 0, none⟩) (by rw [World.cell?_alloc_lt _ _ _ hb']; exact hc)
  go_wp2
  go_ret
  exact ⟨rfl, hJ', hc'⟩
set_option maxHeartbeats 1000000 in
theorem all_head (S : Nat → Prop) (l : List Head) (v : Value) (w : World) (g : FuncId) (cap : Array Value) (eg : ∀ args w, (callFunc g args).run Tryz.prog w = .ok (.enter g args) w) (p : Head → Bool) (J : Nat → World → Prop) (X : Nat → Prop)
    (hX : ∀ j, X j → j < w.heap.size) (hJ : ∀ i W, J i W → SL S W v l) (hJs : ∀ i W W', J i W → Step W W' → J i W') (hw : J 0 w) (hp : PredA g cap (fun W u x => AV (fun _ => False) W u x) p l J X) :
    Calls Tryz.prog 50 #[v, .func (.func g) #[] cap] w fun e w' => e = .returned (.bool (l.all p)) ∧ ∃ k, k ≤ l.length ∧ (l.all p = true → k = l.length) ∧ J k w' := by
  have hmf : ∀ (fn : Fn) (first cap : Array Value) (w : World), (Instr.makeFunc fn first cap).run Tryz.prog w = .ok (.func fn first cap) w := fun _ _ _ _ => rfl
  have hc := containsFunc_head S l v (w.alloc (.cells #[.func (.func g) #[] cap] 130)) 73 #[.pointer (some ⟨w.heap.size, 0, none⟩)] (Go.Proofs.enters_of Tryz.func73 (by kernel_rfl) rfl) (fun x => !p x)
    (fun i W => J i W ∧ W.cell? ⟨w.heap.size, 0, none⟩ = some (.func (.func g) #[] cap)) (fun i W h => hJ i W h.1) ⟨hJs _ _ _ hw (Step.alloc _ _), by rw [World.cell?_alloc_new]; rfl⟩
    (allNot_head l g cap eg p J X w.heap.size (fun h => by have := hX _ h; omega) hJs hp)
  have HC := Lib.hid hc
  clear hc hp hJ hJs hX eg
  go_enter Tryz.func50, Tryz.ntmps50
  go_wp2_with fail
  refine HC.out.mono ?_
  rintro e w' ⟨rfl, hk⟩
  have HK := Lib.hid hk
  clear hk
  have he : (l.any fun x => !p x) = !(l.all p) := by rw [List.not_all_eq_any_not]
  have HE := Lib.hid he
  clear he
  go_wp2
  go_ret
  obtain ⟨k, h1, h2, h3, _⟩ := HK.out
  rw [HE.out] at h2 ⊢
  exact ⟨by simp, k, h1, fun h => h2 (by simp [h]), h3⟩
end Go.Proofs.YtoanjaidfdkdpaaGreat
/- Walks: comparisons of lists; within. -/
namespace Go.Proofs.YtoanjaidfdkdpaaGreat
set_option linter.unusedSimpArgs false
set_option linter.unusedVariables false
open Go.RowKit Go.BT

theorem infoInt : (Tryz.prog.info? 3).map (fun i => (i.zero, i.size, i.bytes)) = some (some (.int .i64 0), 1, 8) := by kernel_rfl
theorem infoInts : (Tryz.prog.info? 39).map (fun i => (i.zero, i.size, i.bytes)) = some (some (.slice none 0 0), 1, 24) := by kernel_rfl

def intsB (a b : List Int) : Bool := decide (a = b)

theorem ints_hit {a b : List Int} {k : Nat} (ha : k < a.length) (hb : k < b.length) (ht : a.take k = b.take k) (h : a[k] = b[k]) : a.take (k + 1) = b.take (k + 1) := by
  rw [List.take_succ_eq_append_getElem ha, List.take_succ_eq_append_getElem hb, ht, h]
theorem ints_miss {a b : List Int} {k : Nat} (ha : k < a.length) (hb : k < b.length) (h : a[k] ≠ b[k]) : intsB a b = false := by
  have : a ≠ b := fun e => h (by subst e; rfl)
  simp [intsB, this]
theorem ints_end {a b : List Int} {k : Nat} (hl : a.length = b.length) (hk : a.length ≤ k) (ht : a.take k = b.take k) : intsB a b = true := by
  rw [List.take_of_length_le hk, List.take_of_length_le (by omega)] at ht
  simp [intsB, ht]

theorem eiInts : EI Tryz.prog 39 3 (.int .i64 0) 1 8 := .mk' Tryz.underlying39 infoInt rfl
theorem ret_bool {a b : Bool} (h : a = b) : Ending.returned (.bool a) = .returned (.bool b) := by rw [h]
theorem ret_int {a b : Int} (h : a = b) : Ending.returned (.int .i64 a) = .returned (.int .i64 b) := by rw [h]

theorem canvas.within_any (n lo hi : Int) (w : World) : Calls Tryz.prog 49 #[.int .i64 n, .int .i64 lo, .int .i64 hi] w fun e w' => e = .returned (.bool (withinB n lo hi)) ∧ w = w' := by
  by_cases h1 : lo ≤ n
  · go_enter Tryz.func49, Tryz.ntmps49
    go_wp2
    go_ret
    exact ⟨by simp [withinB, h1], rfl⟩
  · have hd : decide (lo ≤ n) = false := by simpa using h1
    go_enter Tryz.func49, Tryz.ntmps49
    go_wp2
    go_ret
    exact ⟨by simp [withinB]; omega, rfl⟩
theorem bigtopref01.In_any (n lo hi : Int) (w : World) : Calls Tryz.prog 24 #[.int .i64 n, .int .i64 lo, .int .i64 hi] w fun e w' => e = .returned (.bool (withinB n lo hi)) ∧ w = w' := by
  by_cases h1 : lo ≤ n
  · go_enter Tryz.func24, Tryz.ntmps24
    go_wp2
    go_ret
    exact ⟨by simp [withinB, h1], rfl⟩
  · have hd : decide (lo ≤ n) = false := by simpa using h1
    go_enter Tryz.func24, Tryz.ntmps24
    go_wp2
    go_ret
    exact ⟨by simp [withinB]; omega, rfl⟩

def veq (a b c d : Int) : Bool := a == c && b == d
theorem veq_iff {a b c d : Int} : veq a b c d = true ↔ a = c ∧ b = d := by simp [veq]
theorem veq_self (a b : Int) : veq a b a b = true := by simp [veq]
theorem equal_vec (a b c d : Int) (w : World) : (Op.equal 70 (.agg #[.int .i64 a, .int .i64 b]) (.agg #[.int .i64 c, .int .i64 d])).run Tryz.prog w = .ok (a == c && b == d) w := by
  unfold Op.equal Op.maxDepth
  rw [run_equalIn_agg (w := w) 9999 70 _ _ (by kernel_rfl) (by kernel_rfl)]
  have hf : (Tryz.prog.fieldsOf 70).toList.map (fun f => (f.name, f.type, f.offset)) = [("X", 3, 0), ("Y", 3, 1)] := by kernel_rfl
  obtain ⟨f, g, hfg⟩ : ∃ f g, (Tryz.prog.fieldsOf 70).toList = [f, g] := by
    cases hl : (Tryz.prog.fieldsOf 70).toList with
    | nil => simp [hl] at hf
    | cons f l =>
      cases l with
      | nil => simp [hl] at hf
      | cons g l =>
        cases l with
        | nil => exact ⟨f, g, rfl⟩
        | cons _ _ => simp [hl] at hf
  rw [hfg] at hf ⊢
  simp only [List.map_cons, List.map_nil, List.cons.injEq, Prod.mk.injEq, and_true] at hf
  obtain ⟨⟨n1, t1, o1⟩, n2, t2, o2⟩ := hf
  have hi : Tryz.prog.underlying 3 = some (.int .i64) := by kernel_rfl
  simp [Op.eqFields, n1, n2, t1, t2, o1, o2, hi, part, run_underlying hi]
  have hq : ∀ (a b : Int) (w : World), (Op.equalIn 9999 3 (.int .i64 a) (.int .i64 b)).run Tryz.prog w = .ok (a == b) w := fun a b w => run_equalIn_int (w := w) 9998 _ _ .i64 _ _ hi
  simp only [hq, Result.andThen_ok]
  cases a == c <;> cases b == d <;> simp [Result.andThen]
theorem neq_vec (a b c d : Int) (w : World) : (binOp .neq 70 (.agg #[.int .i64 a, .int .i64 b]) (.agg #[.int .i64 c, .int .i64 d])).run Tryz.prog w = .ok (.bool (!(veq a b c d))) w := by
  have h := equal_vec a b c d w
  unfold Op.equal Op.maxDepth at h
  rw [run_neq_struct, h]
  rfl
theorem eql_vec (a b c d : Int) (w : World) : (binOp .eql 70 (.agg #[.int .i64 a, .int .i64 b]) (.agg #[.int .i64 c, .int .i64 d])).run Tryz.prog w = .ok (.bool (veq a b c d)) w := by
  have h := equal_vec a b c d w
  unfold Op.equal Op.maxDepth at h
  rw [run_eql_struct, h]
  rfl
theorem equal_rvec (a b c d : Int) (w : World) : (Op.equal 82 (.agg #[.int .i64 a, .int .i64 b]) (.agg #[.int .i64 c, .int .i64 d])).run Tryz.prog w = .ok (a == c && b == d) w := by
  unfold Op.equal Op.maxDepth
  rw [run_equalIn_agg (w := w) 9999 82 _ _ (by kernel_rfl) (by kernel_rfl)]
  have hf : (Tryz.prog.fieldsOf 82).toList.map (fun f => (f.name, f.type, f.offset)) = [("X", 3, 0), ("Y", 3, 1)] := by kernel_rfl
  obtain ⟨f, g, hfg⟩ : ∃ f g, (Tryz.prog.fieldsOf 82).toList = [f, g] := by
    cases hl : (Tryz.prog.fieldsOf 82).toList with
    | nil => simp [hl] at hf
    | cons f l =>
      cases l with
      | nil => simp [hl] at hf
      | cons g l =>
        cases l with
        | nil => exact ⟨f, g, rfl⟩
        | cons _ _ => simp [hl] at hf
  rw [hfg] at hf ⊢
  simp only [List.map_cons, List.map_nil, List.cons.injEq, Prod.mk.injEq, and_true] at hf
  obtain ⟨⟨n1, t1, o1⟩, n2, t2, o2⟩ := hf
  have hi : Tryz.prog.underlying 3 = some (.int .i64) := by kernel_rfl
  simp [Op.eqFields, n1, n2, t1, t2, o1, o2, hi, part, run_underlying hi]
  have hq : ∀ (a b : Int) (w : World), (Op.equalIn 9999 3 (.int .i64 a) (.int .i64 b)).run Tryz.prog w = .ok (a == b) w := fun a b w => run_equalIn_int (w := w) 9998 _ _ .i64 _ _ hi
  simp only [hq, Result.andThen_ok]
  cases a == c <;> cases b == d <;> simp [Result.andThen]
theorem neq_rvec (a b c d : Int) (w : World) : (binOp .neq 82 (.agg #[.int .i64 a, .int .i64 b]) (.agg #[.int .i64 c, .int .i64 d])).run Tryz.prog w = .ok (.bool (!(veq a b c d))) w := by
  have h := equal_rvec a b c d w
  unfold Op.equal Op.maxDepth at h
  rw [run_neq_struct, h]
  rfl
theorem eql_rvec (a b c d : Int) (w : World) : (binOp .eql 82 (.agg #[.int .i64 a, .int .i64 b]) (.agg #[.int .i64 c, .int .i64 d])).run Tryz.prog w = .ok (.bool (veq a b c d)) w := by
  have h := equal_rvec a b c d w
  unfold Op.equal Op.maxDepth at h
  rw [run_eql_struct, h]
  rfl
end Go.Proofs.YtoanjaidfdkdpaaGreat
/- The gale chapter in plain words: forecasts, worst winds, sites, limits, plans; and that who keeps a plan stands. -/
namespace Go.BT
open Go
set_option linter.unusedVariables false
/-! ### Forecasts and readings. -/
def rangeB (r : Rng) : Bool := decide (0 ≤ r.lo) && decide (r.lo ≤ r.hi) && decide (r.hi ≤ 1000)
def letterB (c : UInt8) : Bool := decide (97 ≤ c.toNat) && decide (c.toNat ≤ 122)
def digitB (c : UInt8) : Bool := decide (48 ≤ c.toNat) && decide (c.toNat ≤ 57)
def nameB (s : ByteArray) : Bool := decide (1 ≤ s.size) && decide (s.size ≤ 16) && letterB (s.data.getD 0 0) && s.data.toList.all fun c => letterB c || digitB c
def hoursN (l : List Fc) : Nat := match l with | [] => 0 | f :: _ => f.hours.length
def fewFB (l : List Fc) : Bool := decide (1 ≤ l.length) && decide (l.length ≤ 10) && l.all fun f => decide (f.hours.length ≤ 48)
def evenFB (l : List Fc) (f : Fc) : Bool := decide (0 < f.hours.length) && decide (f.hours.length = hoursN l) && f.hours.all rangeB
def namesOf (l : List Fc) : List ByteArray := l.map (·.name)
def forecastsC (l : List Fc) : Int := if fewFB l = true then (if l.all (evenFB l) = true then (if l.all (fun f => nameB f.name) = true then (if (namesOf l).Nodup then 0 else 6) else 5) else 1) else 3
def readingsC (l : List Fc) (rs : List Rdg) : Int := if rs.length ≤ 60 then (if rs.all (fun x => withinB x.hour 0 ((hoursN l : Int) - 1)) = true then (if rs.all (fun x => rangeB ⟨x.lo, x.hi⟩) = true then 0 else 1) else 2) else 3
def readC (l : List Fc) (rs : List Rdg) : Int := if forecastsC l = 0 then readingsC l rs else forecastsC l
def hourAt (f : Fc) (h : Int) : Rng := f.hours.getD h.toNat default
def hitsB (f : Fc) (x : Rdg) : Bool := decide (x.hi < (hourAt f x.hour).lo) || decide ((hourAt f x.hour).hi < x.lo)
/-- Which forecasts are left, up to one. -/
def leftN (l : List Fc) (rs : List Rdg) (k : Nat) : List Nat := (List.range k).filter fun i => match l[i]? with | some f => !rs.any (hitsB f) | none => false
def leftI (l : List Fc) (rs : List Rdg) (k : Nat) : List Int := (leftN l rs k).map fun (i : Nat) => (i : Int)
/-- The worst winds of forecasts. -/
def worstF (l : List Fc) (ids : List Nat) (h : Nat) : Int := ids.foldl (fun n i => match l[i]? with | some f => max n (hourAt f h).hi | none => n) 0
def worstL (l : List Fc) (ids : List Nat) : List Int := (List.range (hoursN l)).map (worstF l ids)
def worstC (l : List Fc) (rs : List Rdg) : Int := if readC l rs = 0 then (if leftN l rs l.length = [] then 7 else 0) else readC l rs
def worstR (l : List Fc) (rs : List Rdg) : List Int := if worstC l rs = 0 then worstL l (leftN l rs l.length) else []
theorem worst_fold {l : List Fc} (h : Nat) (hl : ∀ f ∈ l, (hourAt f h).hi ≤ 1000) : ∀ (ids : List Nat) (n : Int), 0 ≤ n ∧ n ≤ 1000 → let m := ids.foldl (fun n i => match l[i]? with | some f => max n (hourAt f h).hi | none => n) n; n ≤ m ∧ m ≤ 1000
  | [], n, hn => ⟨Int.le_refl _, hn.2⟩
  | i :: ids, n, hn => by
    simp only [List.foldl_cons]
    split
    · rename_i f hf
      have h1 := hl f (List.mem_of_getElem? hf)
      obtain ⟨a, b⟩ := worst_fold h hl ids (max n (hourAt f h).hi) (by omega)
      exact ⟨by omega, b⟩
    · exact worst_fold h hl ids n hn
theorem range_hour {f : Fc} (hf : f.hours.all rangeB = true) (h : Int) : (hourAt f h).hi ≤ 1000 := by
  unfold hourAt
  rw [List.getD_eq_getElem?_getD]
  cases q : f.hours[h.toNat]? with
  | none => decide
  | some r =>
    have := List.all_eq_true.1 hf r (List.mem_of_getElem? q)
    simp only [rangeB, Bool.and_eq_true, decide_eq_true_eq] at this
    exact this.2
theorem forecasts_ok {l : List Fc} (h : forecastsC l = 0) : fewFB l = true ∧ l.all (evenFB l) = true ∧ l.all (fun f => nameB f.name) = true ∧ (namesOf l).Nodup := by
  unfold forecastsC at h
  split at h
  · split at h
    · split at h
      · split at h
        · exact ⟨by assumption, by assumption, by assumption, by assumption⟩
        · simp at h
      · simp at h
    · simp at h
  · simp at h
theorem few_parts {l : List Fc} (h : fewFB l = true) : 1 ≤ l.length ∧ l.length ≤ 10 ∧ ∀ f ∈ l, f.hours.length ≤ 48 := by
  simp only [fewFB, Bool.and_eq_true, decide_eq_true_eq, List.all_eq_true] at h
  exact ⟨h.1.1, h.1.2, h.2⟩
theorem even_parts {l : List Fc} (h : l.all (evenFB l) = true) : ∀ f ∈ l, 0 < f.hours.length ∧ f.hours.length = hoursN l ∧ f.hours.all rangeB = true := by
  intro f hf
  have := List.all_eq_true.1 h f hf
  simp only [evenFB, Bool.and_eq_true, decide_eq_true_eq] at this
  exact ⟨this.1.1, this.1.2, this.2⟩
theorem hoursN_le {l : List Fc} (h : forecastsC l = 0) : 1 ≤ hoursN l ∧ hoursN l ≤ 48 := by
  obtain ⟨h1, h2, _, _⟩ := forecasts_ok h
  obtain ⟨a, _, b⟩ := few_parts h1
  have c := even_parts h2
  cases l with
  | nil => simp at a
  | cons f l =>
    have := b f (by simp)
    have := c f (by simp)
    simp only [hoursN]; omega
def windsB (l : List Int) : Bool := decide (1 ≤ l.length) && decide (l.length ≤ 48) && l.all fun n => withinB n 0 1000
theorem worst_winds {l : List Fc} {ids : List Nat} (h : forecastsC l = 0) : windsB (worstL l ids) = true := by
  have hn := hoursN_le h
  have hl := even_parts (forecasts_ok h).2.1
  simp only [windsB, worstL, List.length_map, List.length_range, Bool.and_eq_true, decide_eq_true_eq, List.all_eq_true, List.mem_map, List.mem_range]
  refine ⟨⟨hn.1, hn.2⟩, ?_⟩
  rintro x ⟨i, hi, rfl⟩
  obtain ⟨a, b⟩ := worst_fold i (fun f hf => range_hour (hl f hf).2.2 i) ids 0 (by omega)
  simp only [withinB, Bool.and_eq_true, decide_eq_true_eq]
  exact ⟨a, b⟩
/-! ### Sites and limits. -/
def baseB (v : Vec) : Bool := withinB v.x (-100) 100 && withinB v.y (-100) 100
def levelB (l : List Lvl) (i : Nat) : Bool := match l[i]? with
  | some x => withinB x.upto 0 1000 && withinB x.push 0 100 && (match i with | 0 => true | j + 1 => match l[j]? with | some y => decide (y.upto < x.upto) && decide (y.push ≤ x.push) | none => true)
  | none => true
def stageB (l : List Stg) (i : Nat) : Bool := match l[i]? with
  | some x => withinB x.cover 1 100 && withinB x.minutes 1 240 && (match i with | 0 => true | j + 1 => match l[j]? with | some y => decide (x.cover < y.cover) | none => true)
  | none => true
def siteB (s : Site) : Bool := withinB s.base.length 1 12 && s.base.all baseB && withinB s.levels.length 1 10 && withinB s.stages.length 2 8 && (List.range s.levels.length).all (levelB s.levels) && (List.range (s.stages.length - 1)).all (stageB s.stages) && decide (s.stages[s.stages.length - 1]? = some ⟨0, 0⟩) && withinB s.openS 0 ((s.stages.length : Int) - 2)
/-- The tent of a stage. -/
def reefA (a c : Int) : Int := (a * c + 99) / 100
def reefH (c : Int) (h : Head) : Head := ⟨reefA h.area c, h.bears, h.guys⟩
def reefL (c : Int) (t : List Head) : List Head := t.map (reefH c)
/-- The wind of a level. -/
def blowL (base : List Vec) (push : Int) : List Vec := base.map fun v => timesV v push
/-- How many levels a tent stands in, from the first one on. -/
def standN (l : List Tst) (t : List Head) (base : List Vec) : List Lvl → Nat
  | [] => 0
  | x :: r => if standB l t (blowL base x.push) = true then standN l t base r + 1 else 0
def uptoN (lv : List Lvl) (n : Nat) : Int := match n with | 0 => -1 | k + 1 => match lv[k]? with | some x => x.upto | none => -1
def limitL (l : List Tst) (t : List Head) (s : Site) (c : Int) : Int := if c = 0 then 1000 else uptoN s.levels (standN l (reefL c t) s.base s.levels)
def limitsL (l : List Tst) (t : List Head) (s : Site) : List Int := s.stages.map fun x => limitL l t s x.cover
def limitedB (s : Site) (l : List Int) : Bool := decide (l.length = s.stages.length) && l.all (fun n => withinB n (-1) 1000) && (List.range (l.length - 1)).all (fun i => decide (l.getD i 0 ≤ l.getD (i + 1) 0)) && decide (l.getD (l.length - 1) 0 = 1000)
theorem stand_reef {l : List Tst} {t : List Head} {wind : List Vec} {c d : Int} (h0 : 0 ≤ c) (hc : c ≤ d) (ha : ∀ h ∈ t, 0 ≤ h.area) (h : standB l (reefL d t) wind = true) : standB l (reefL c t) wind = true := by
  unfold standB reefL at *
  rw [List.all_map, List.all_eq_true] at *
  intro x hx
  have h1 := h x hx
  have h2 := ha x hx
  simp only [Function.comp_apply, standH, List.all_eq_true] at h1 ⊢
  intro v hv
  have h3 := h1 v hv
  have hm : x.area * c ≤ x.area * d := Int.mul_le_mul_of_nonneg_left hc h2
  have hz : 0 ≤ x.area * c := Int.mul_nonneg h2 h0
  exact bal_mono h3 (show 0 ≤ reefA x.area c by unfold reefA; omega) (show reefA x.area c ≤ reefA x.area d by unfold reefA; omega)
theorem standN_mono {l : List Tst} {t : List Head} {base : List Vec} {c d : Int} (h0 : 0 ≤ c) (hc : c ≤ d) (ha : ∀ h ∈ t, 0 ≤ h.area) : ∀ (lv : List Lvl), standN l (reefL d t) base lv ≤ standN l (reefL c t) base lv
  | [] => Nat.le_refl _
  | x :: r => by
    unfold standN
    split
    · rename_i h
      rw [if_pos (stand_reef h0 hc ha h)]
      exact Nat.succ_le_succ (standN_mono h0 hc ha r)
    · exact Nat.zero_le _
theorem standN_le {l : List Tst} {t : List Head} {base : List Vec} : ∀ (lv : List Lvl), standN l t base lv ≤ lv.length
  | [] => Nat.le_refl _
  | x :: r => by
    unfold standN
    split
    · exact Nat.succ_le_succ (standN_le r)
    · exact Nat.zero_le _
theorem standN_at {l : List Tst} {t : List Head} {base : List Vec} : ∀ (lv : List Lvl) (k : Nat) (hk : k < lv.length), k < standN l t base lv → standB l t (blowL base lv[k].push) = true
  | [], k, hk, _ => by simp at hk
  | x :: r, 0, hk, h => by
    unfold standN at h
    split at h
    · assumption
    · omega
  | x :: r, k + 1, hk, h => by
    unfold standN at h
    split at h
    · exact standN_at r k (by simpa using hk) (by omega)
    · omega
theorem standN_end {l : List Tst} {t : List Head} {base : List Vec} : ∀ (lv : List Lvl) (k : Nat) (hk : k < lv.length), k = standN l t base lv → standB l t (blowL base lv[k].push) = false
  | [], k, hk, _ => by simp at hk
  | x :: r, 0, hk, h => by
    unfold standN at h
    split at h
    · omega
    · rename_i q
      simpa using q
  | x :: r, k + 1, hk, h => by
    unfold standN at h
    split at h
    · exact standN_end r k (by simpa using hk) (by omega)
    · omega
structure SiteOk (s : Site) : Prop where
  base : 1 ≤ s.base.length ∧ s.base.length ≤ 12
  corners : s.base.all baseB = true
  nlev : 1 ≤ s.levels.length ∧ s.levels.length ≤ 10
  nst : 2 ≤ s.stages.length ∧ s.stages.length ≤ 8
  lev : ∀ i (h : i < s.levels.length), (0 ≤ s.levels[i].upto ∧ s.levels[i].upto ≤ 1000) ∧ 0 ≤ s.levels[i].push ∧ s.levels[i].push ≤ 100
  rise : ∀ i (h : i + 1 < s.levels.length), s.levels[i].upto < s.levels[i + 1].upto ∧ s.levels[i].push ≤ s.levels[i + 1].push
  st : ∀ i (h : i + 1 < s.stages.length), (1 ≤ s.stages[i].cover ∧ s.stages[i].cover ≤ 100) ∧ 1 ≤ s.stages[i].minutes ∧ s.stages[i].minutes ≤ 240
  fall : ∀ i (h : i + 2 < s.stages.length), s.stages[i + 1].cover < s.stages[i].cover
  last : s.stages[s.stages.length - 1]? = some ⟨0, 0⟩
  opn : 0 ≤ s.openS ∧ s.openS ≤ (s.stages.length : Int) - 2
theorem site_ok {s : Site} (h : siteB s = true) : SiteOk s := by
  simp only [siteB, Bool.and_eq_true, decide_eq_true_eq, List.all_eq_true, List.mem_range, withinB] at h
  obtain ⟨⟨⟨⟨⟨⟨⟨h1, h2⟩, h3⟩, h4⟩, h5⟩, h6⟩, h7⟩, h8⟩ := h
  refine ⟨by omega, List.all_eq_true.2 h2, by omega, by omega, fun i hi => ?_, fun i hi => ?_, fun i hi => ?_, fun i hi => ?_, h7, by omega⟩
  · have := h5 i hi
    simp only [levelB, List.getElem?_eq_getElem hi, Bool.and_eq_true, decide_eq_true_eq, withinB] at this
    omega
  · have := h5 (i + 1) hi
    simp only [levelB, List.getElem?_eq_getElem hi, List.getElem?_eq_getElem (show i < s.levels.length by omega), Bool.and_eq_true, decide_eq_true_eq, withinB] at this
    omega
  · have := h6 i (by omega)
    simp only [stageB, List.getElem?_eq_getElem (show i < s.stages.length by omega), Bool.and_eq_true, decide_eq_true_eq, withinB] at this
    omega
  · have := h6 (i + 1) (by omega)
    simp only [stageB, List.getElem?_eq_getElem (show i < s.stages.length by omega), List.getElem?_eq_getElem (show i + 1 < s.stages.length by omega), Bool.and_eq_true, decide_eq_true_eq, withinB] at this
    omega
theorem uptoN_mono {s : Site} (hs : SiteOk s) : ∀ {m n : Nat}, m ≤ n → n ≤ s.levels.length → uptoN s.levels m ≤ uptoN s.levels n
  | m, 0, h, _ => by
    obtain rfl : m = 0 := by omega
    exact Int.le_refl _
  | m, n + 1, h, hn => by
    by_cases e : m = n + 1
    · subst e; exact Int.le_refl _
    · refine Int.le_trans (uptoN_mono hs (show m ≤ n by omega) (by omega)) ?_
      have h1 := hs.lev n (by omega)
      cases n with
      | zero => simp only [uptoN, List.getElem?_eq_getElem (show 0 < s.levels.length by omega)]; omega
      | succ k =>
        have h2 := hs.rise k (by omega)
        simp only [uptoN, List.getElem?_eq_getElem (show k < s.levels.length by omega), List.getElem?_eq_getElem (show k + 1 < s.levels.length by omega)]; omega
theorem uptoN_bound {s : Site} (hs : SiteOk s) {n : Nat} (hn : n ≤ s.levels.length) : -1 ≤ uptoN s.levels n ∧ uptoN s.levels n ≤ 1000 := by
  cases n with
  | zero => simp [uptoN]
  | succ k =>
    have h1 := hs.lev k (by omega)
    simp only [uptoN, List.getElem?_eq_getElem (show k < s.levels.length by omega)]; omega
theorem limit_bound {l : List Tst} {t : List Head} {s : Site} (hs : SiteOk s) (c : Int) : -1 ≤ limitL l t s c ∧ limitL l t s c ≤ 1000 := by
  unfold limitL
  split
  · omega
  · exact uptoN_bound hs (standN_le _)
theorem limits_limited {l : List Tst} {t : List Head} {s : Site} (hs : siteB s = true) (ha : ∀ h ∈ t, 0 ≤ h.area) : limitedB s (limitsL l t s) = true := by
  have hk := site_ok hs
  have hlen : (limitsL l t s).length = s.stages.length := by simp [limitsL]
  simp only [limitedB, Bool.and_eq_true, decide_eq_true_eq, List.all_eq_true, List.mem_range]
  have hget : ∀ i (hi : i < s.stages.length), (limitsL l t s).getD i 0 = limitL l t s s.stages[i].cover := fun i hi => by
    rw [List.getD_eq_getElem?_getD, limitsL, List.getElem?_map, List.getElem?_eq_getElem hi]; rfl
  refine ⟨⟨⟨hlen, fun x hx => ?_⟩, fun i hi => ?_⟩, ?_⟩
  · simp only [limitsL, List.mem_map] at hx
    obtain ⟨y, _, rfl⟩ := hx
    have := limit_bound (l := l) (t := t) hk y.cover
    simp only [withinB, Bool.and_eq_true, decide_eq_true_eq]; omega
  · rw [hlen] at hi
    rw [hget i (by omega), hget (i + 1) (by omega)]
    have h1 := hk.st i (by omega)
    have hl := hk.last
    by_cases e : i + 2 = s.stages.length
    · have h2 : s.stages[i + 1].cover = 0 := by
        rw [show s.stages.length - 1 = i + 1 by omega, List.getElem?_eq_getElem (by omega)] at hl
        rw [Option.some.inj hl]
      rw [h2]
      have := limit_bound (l := l) (t := t) hk s.stages[i].cover
      have h3 : limitL l t s 0 = 1000 := by simp [limitL]
      omega
    · have h2 := hk.st (i + 1) (by omega)
      have h3 := hk.fall i (by omega)
      unfold limitL
      rw [if_neg (by omega), if_neg (by omega)]
      exact uptoN_mono hk (standN_mono (by omega) (by omega) ha _) (standN_le _)
  · rw [hlen, hget _ (by have := hk.nst; omega)]
    have hl := hk.last
    rw [List.getElem?_eq_getElem (by have := hk.nst; omega)] at hl
    rw [Option.some.inj hl]
    simp [limitL]
end Go.BT
/- Walks: all, ContainsFunc, IndexFunc at the gale chapter's types. -/
namespace Go.Proofs.YtoanjaidfdkdpaaGreat
set_option linter.unusedSimpArgs false
set_option linter.unusedVariables false
open Go.RowKit Go.BT

set_option maxHeartbeats 1000000 in
theorem indexFunc_rng (S : Nat → Prop) (l : List Rng) (v : Value) (w : World) (g : FuncId) (cap : Array Value) (eg : ∀ args w, (callFunc g args).run Tryz.prog w = .ok (.enter g args) w) (p : Rng → Bool) (J : Nat → World → Prop) (hJ : ∀ i W, J i W → SL S W v l) (hw : J 0 w)
    (hp : PredJ g cap (fun _ u x => u = .agg #[.int .i64 x.lo, .int .i64 x.hi]) p l J) :
    Calls Tryz.prog 119 #[v, .func (.func g) #[] cap] w fun e w' => e = .returned (.int .i64 (idxOf p l)) ∧ ∃ k, k ≤ l.length ∧ (idxOf p l = -1 → k = l.length) ∧ J k w' := by
  obtain ⟨pv, cv, rfl⟩ := (hJ 0 w hw).form
  have hm := (hJ 0 w hw).len
  have Hp := Lib.hid hp
  have HJ := Lib.hid hJ
  clear hp hJ
  go_enter Tryz.func119, Tryz.ntmps119
  go_wp2
  go_loopw [8] (fun i wr => ∃ k : Nat, k ≤ l.length ∧ i = .int .i64 k ∧ (∀ j (hj : j < k) (hl : j < l.length), p l[j] = false) ∧ J k wr) (fun i _ => l.length - (intOf i).toNat)
  case atStart => exact ⟨0, Nat.zero_le _, rfl, fun j hj => absurd hj (by omega), hw⟩
  case round =>
    obtain ⟨k, hk, rfl, hno, hJk⟩ := hrel
    have HN := Lib.hid hno
    clear hno
    by_cases hlt : k < l.length
    · obtain ⟨p', c', b, o, he, _, _, hpp, hc, _⟩ := (HJ.out k wr hJk).rngs
      injection he with he1 he2 he3
      subst he1 he3
      obtain rfl := hpp (by omega)
      obtain ⟨e1, e2⟩ := hc k hlt
      clear hc hpp he2
      have hcall := Lib.hid (Hp.out k hlt wr (.agg #[.int .i64 l[k].lo, .int .i64 l[k].hi]) hJk (fun j hj => HN.out j hj (by omega)) rfl)
      cases hq : p l[k] with
      | true =>
        have hq := Lib.hid hq
        go_wp2_with fail
        refine hcall.out.mono ?_
        rintro e w' ⟨rfl, hJ'⟩
        rw [hq.out]
        go_wp2
        have hi := idxOf_at hlt (fun j hj => HN.out j hj (by omega)) hq.out
        go_ret
        rw [hi]
        exact ⟨rfl, k + 1, by omega, fun h => by omega, hJ'⟩
      | false =>
        have hq := Lib.hid hq
        go_wp2_with fail
        refine hcall.out.mono ?_
        rintro e w' ⟨rfl, hJ'⟩
        rw [hq.out]
        go_wp2
        go_roundw
        case rel => exact ⟨k + 1, by omega, by go_num, fun j hj hl => if h : j = k then by subst h; exact hq.out else HN.out j (by omega) hl, hJ'⟩
        case measure => simp [intOf]; omega
    · go_wp2
      have hi := idxOf_none (fun j hj => HN.out j (by omega) hj)
      go_ret
      rw [hi]
      exact ⟨rfl, k, hk, fun _ => by omega, hJk⟩
set_option maxHeartbeats 1000000 in
theorem containsFunc_rng (S : Nat → Prop) (l : List Rng) (v : Value) (w : World) (g : FuncId) (cap : Array Value) (eg : ∀ args w, (callFunc g args).run Tryz.prog w = .ok (.enter g args) w) (p : Rng → Bool) (J : Nat → World → Prop) (hJ : ∀ i W, J i W → SL S W v l) (hw : J 0 w)
    (hp : PredJ g cap (fun _ u x => u = .agg #[.int .i64 x.lo, .int .i64 x.hi]) p l J) :
    Calls Tryz.prog 114 #[v, .func (.func g) #[] cap] w fun e w' => e = .returned (.bool (l.any p)) ∧ ∃ k, k ≤ l.length ∧ (l.any p = false → k = l.length) ∧ J k w' := by
  have hc := indexFunc_rng S l v w g cap eg p J hJ hw hp
  have HC := Lib.hid hc
  clear hc hp hJ eg
  go_enter Tryz.func114, Tryz.ntmps114
  go_wp2_with fail
  refine HC.out.mono ?_
  rintro e w' ⟨rfl, hk⟩
  have HK := Lib.hid hk
  clear hk
  go_wp2
  have hge := idxOf_ge p l
  go_ret
  obtain ⟨k, h1, h2, h3⟩ := HK.out
  refine ⟨by rw [← hge]; rfl, k, h1, fun h => h2 ?_, h3⟩
  rw [← hge, decide_eq_false_iff_not] at h
  unfold idxOf at h ⊢
  split <;> rename_i hh <;> simp [hh] at h ⊢
set_option maxHeartbeats 1000000 in
theorem allNot_rng (l : List Rng) (g : FuncId) (cap : Array Value) (eg : ∀ args w, (callFunc g args).run Tryz.prog w = .ok (.enter g args) w) (p : Rng → Bool) (J : Nat → World → Prop) (X : Nat → Prop) (b : Nat) (hX : ¬ X b)
    (hJs : ∀ i W W', J i W → Step W W' → J i W') (hp : PredA g cap (fun _ u x => u = .agg #[.int .i64 x.lo, .int .i64 x.hi]) p l J X) :
    PredJ 115 #[.pointer (some ⟨b, 0, none⟩)] (fun _ u x => u = .agg #[.int .i64 x.lo, .int .i64 x.hi]) (fun x => !p x) l (fun i W => J i W ∧ W.cell? ⟨b, 0, none⟩ = some (.func (.func g) #[] cap)) := by
  intro i h W u ⟨hJ, hc⟩ hno hV
  have hb := World.block_lt_of_cell? W _ hc
  have hb' : b < W.heap.size := hb
  obtain rfl := hV
  have hcall := Lib.hid (hp i h (W.alloc (.cells #[.int .i64 l[i].lo, .int .i64 l[i].hi] 89)) (.agg #[.int .i64 l[i].lo, .int .i64 l[i].hi]) (hJs _ _ _ hJ (Step.alloc _ _)) (fun j hj => by simpa using hno j hj) rfl)
  show Calls Tryz.prog 115 #[(.agg #[.int .i64 l[i].lo, .int .i64 l[i].hi]), .pointer (some ⟨b, 0, none⟩)] W _
  have HN := Lib.hid hno
  have HS := Lib.hid hJs
  clear hno hJs hp hJ hb
  go_enter Tryz.func115, Tryz.ntmps115
  go_wp2_with fail
  refine hcall.out.mono ?_
  rintro e w' ⟨rfl, hJ', hst⟩
  have hc' := hst.keeps.cell hX (a := ⟨b, 0, none⟩) (by rw [World.cell?_alloc_lt _ _ _ hb']; exact hc)
  go_wp2
  go_ret
  exact ⟨rfl, hJ', hc'⟩
set_option maxHeartbeats 1000000 in
theorem all_rng (S : Nat → Prop) (l : List Rng) (v : Value) (w : World) (g : FuncId) (cap : Array Value) (eg : ∀ args w, (callFunc g args).run Tryz.prog w = .ok (.enter g args) w) (p : Rng → Bool) (J : Nat → World → Prop) (X : Nat → Prop)
    (hX : ∀ j, X j → j < w.heap.size) (hJ : ∀ i W, J i W → SL S W v l) (hJs : ∀ i W W', J i W → Step W W' → J i W') (hw : J 0 w) (hp : PredA g cap (fun _ u x => u = .agg #[.int .i64 x.lo, .int .i64 x.hi]) p l J X) :
    Calls Tryz.prog 102 #[v, .func (.func g) #[] cap] w fun e w' => e = .returned (.bool (l.all p)) ∧ ∃ k, k ≤ l.length ∧ (l.all p = true → k = l.length) ∧ J k w' := by
  have hmf : ∀ (fn : Fn) (first cap : Array Value) (w : World), (Instr.makeFunc fn first cap).run Tryz.prog w = .ok (.func fn first cap) w := fun _ _ _ _ => rfl
  have hc := containsFunc_rng S l v (w.alloc (.cells #[.func (.func g) #[] cap] 167)) 115 #[.pointer (some ⟨w.heap.size, 0, none⟩)] (Go.Proofs.enters_of Tryz.func115 (by kernel_rfl) rfl) (fun x => !p x)
    (fun i W => J i W ∧ W.cell? ⟨w.heap.size, 0, none⟩ = some (.func (.func g) #[] cap)) (fun i W h => hJ i W h.1) ⟨hJs _ _ _ hw (Step.alloc _ _), by rw [World.cell?_alloc_new]; rfl⟩
    (allNot_rng l g cap eg p J X w.heap.size (fun h => by have := hX _ h; omega) hJs hp)
  have HC := Lib.hid hc
  clear hc hp hJ hJs hX eg
  go_enter Tryz.func102, Tryz.ntmps102
  go_wp2_with fail
  refine HC.out.mono ?_
  rintro e w' ⟨rfl, hk⟩
  have HK := Lib.hid hk
  clear hk
  have he : (l.any fun x => !p x) = !(l.all p) := by rw [List.not_all_eq_any_not]
  have HE := Lib.hid he
  clear he
  go_wp2
  go_ret
  obtain ⟨k, h1, h2, h3, _⟩ := HK.out
  rw [HE.out] at h2 ⊢
  exact ⟨by simp, k, h1, fun h => h2 (by simp [h]), h3⟩
set_option maxHeartbeats 1000000 in
theorem indexFunc_rdg (S : Nat → Prop) (l : List Rdg) (v : Value) (w : World) (g : FuncId) (cap : Array Value) (eg : ∀ args w, (callFunc g args).run Tryz.prog w = .ok (.enter g args) w) (p : Rdg → Bool) (J : Nat → World → Prop) (hJ : ∀ i W, J i W → SL S W v l) (hw : J 0 w)
    (hp : PredJ g cap (fun _ u x => u = .agg #[.int .i64 x.hour, .int .i64 x.lo, .int .i64 x.hi]) p l J) :
    Calls Tryz.prog 85 #[v, .func (.func g) #[] cap] w fun e w' => e = .returned (.int .i64 (idxOf p l)) ∧ ∃ k, k ≤ l.length ∧ (idxOf p l = -1 → k = l.length) ∧ J k w' := by
  obtain ⟨pv, cv, rfl⟩ := (hJ 0 w hw).form
  have hm := (hJ 0 w hw).len
  have Hp := Lib.hid hp
  have HJ := Lib.hid hJ
  clear hp hJ
  go_enter Tryz.func85, Tryz.ntmps85
  go_wp2
  go_loopw [8] (fun i wr => ∃ k : Nat, k ≤ l.length ∧ i = .int .i64 k ∧ (∀ j (hj : j < k) (hl : j < l.length), p l[j] = false) ∧ J k wr) (fun i _ => l.length - (intOf i).toNat)
  case atStart => exact ⟨0, Nat.zero_le _, rfl, fun j hj => absurd hj (by omega), hw⟩
  case round =>
    obtain ⟨k, hk, rfl, hno, hJk⟩ := hrel
    have HN := Lib.hid hno
    clear hno
    by_cases hlt : k < l.length
    · obtain ⟨p', c', b, o, he, _, _, hpp, hc, _⟩ := (HJ.out k wr hJk).rdgs
      injection he with he1 he2 he3
      subst he1 he3
      obtain rfl := hpp (by omega)
      obtain ⟨e1, e2, e3⟩ := hc k hlt
      clear hc hpp he2
      have hcall := Lib.hid (Hp.out k hlt wr (.agg #[.int .i64 l[k].hour, .int .i64 l[k].lo, .int .i64 l[k].hi]) hJk (fun j hj => HN.out j hj (by omega)) rfl)
      cases hq : p l[k] with
      | true =>
        have hq := Lib.hid hq
        go_wp2_with fail
        refine hcall.out.mono ?_
        rintro e w' ⟨rfl, hJ'⟩
        rw [hq.out]
        go_wp2
        have hi := idxOf_at hlt (fun j hj => HN.out j hj (by omega)) hq.out
        go_ret
        rw [hi]
        exact ⟨rfl, k + 1, by omega, fun h => by omega, hJ'⟩
      | false =>
        have hq := Lib.hid hq
        go_wp2_with fail
        refine hcall.out.mono ?_
        rintro e w' ⟨rfl, hJ'⟩
        rw [hq.out]
        go_wp2
        go_roundw
        case rel => exact ⟨k + 1, by omega, by go_num, fun j hj hl => if h : j = k then by subst h; exact hq.out else HN.out j (by omega) hl, hJ'⟩
        case measure => simp [intOf]; omega
    · go_wp2
      have hi := idxOf_none (fun j hj => HN.out j (by omega) hj)
      go_ret
      rw [hi]
      exact ⟨rfl, k, hk, fun _ => by omega, hJk⟩
set_option maxHeartbeats 1000000 in
theorem containsFunc_rdg (S : Nat → Prop) (l : List Rdg) (v : Value) (w : World) (g : FuncId) (cap : Array Value) (eg : ∀ args w, (callFunc g args).run Tryz.prog w = .ok (.enter g args) w) (p : Rdg → Bool) (J : Nat → World → Prop) (hJ : ∀ i W, J i W → SL S W v l) (hw : J 0 w)
    (hp : PredJ g cap (fun _ u x => u = .agg #[.int .i64 x.hour, .int .i64 x.lo, .int .i64 x.hi]) p l J) :
    Calls Tryz.prog 105 #[v, .func (.func g) #[] cap] w fun e w' => e = .returned (.bool (l.any p)) ∧ ∃ k, k ≤ l.length ∧ (l.any p = false → k = l.length) ∧ J k w' := by
  have hc := indexFunc_rdg S l v w g cap eg p J hJ hw hp
  have HC := Lib.hid hc
  clear hc hp hJ eg
  go_enter Tryz.func105, Tryz.ntmps105
  go_wp2_with fail
  refine HC.out.mono ?_
  rintro e w' ⟨rfl, hk⟩
  have HK := Lib.hid hk
  clear hk
  go_wp2
  have hge := idxOf_ge p l
  go_ret
  obtain ⟨k, h1, h2, h3⟩ := HK.out
  refine ⟨by rw [← hge]; rfl, k, h1, fun h => h2 ?_, h3⟩
  rw [← hge, decide_eq_false_iff_not] at h
  unfold idxOf at h ⊢
  split <;> rename_i hh <;> simp [hh] at h ⊢
set_option maxHeartbeats 1000000 in
theorem allNot_rdg (l : List Rdg) (g : FuncId) (cap : Array Value) (eg : ∀ args w, (callFunc g args).run Tryz.prog w = .ok (.enter g args) w) (p : Rdg → Bool) (J : Nat → World → Prop) (X : Nat → Prop) (b : Nat) (hX : ¬ X b)
    (hJs : ∀ i W W', J i W → Step W W' → J i W') (hp : PredA g cap (fun _ u x => u = .agg #[.int .i64 x.hour, .int .i64 x.lo, .int .i64 x.hi]) p l J X) :
    PredJ 106 #[.pointer (some ⟨b, 0, none⟩)] (fun _ u x => u = .agg #[.int .i64 x.hour, .int .i64 x.lo, .int .i64 x.hi]) (fun x => !p x) l (fun i W => J i W ∧ W.cell? ⟨b, 0, none⟩ = some (.func (.func g) #[] cap)) := by
  intro i h W u ⟨hJ, hc⟩ hno hV
  have hb := World.block_lt_of_cell? W _ hc
  have hb' : b < W.heap.size := hb
  obtain rfl := hV
  have hcall := Lib.hid (hp i h (W.alloc (.cells #[.int .i64 l[i].hour, .int .i64 l[i].lo, .int .i64 l[i].hi] 115)) (.agg #[.int .i64 l[i].hour, .int .i64 l[i].lo, .int .i64 l[i].hi]) (hJs _ _ _ hJ (Step.alloc _ _)) (fun j hj => by simpa using hno j hj) rfl)
  show Calls Tryz.prog 106 #[(.agg #[.int .i64 l[i].hour, .int .i64 l[i].lo, .int .i64 l[i].hi]), .pointer (some ⟨b, 0, none⟩)] W _
  have HN := Lib.hid hno
  have HS := Lib.hid hJs
  clear hno hJs hp hJ hb
  go_enter Tryz.func106, Tryz.ntmps106
  go_wp2_with fail
  refine hcall.out.mono ?_
  rintro e w' ⟨rfl, hJ', hst⟩
  have hc' := hst.keeps.cell hX (a := ⟨b, 0, none⟩) (by rw [World.cell?_alloc_lt _ _ _ hb']; exact hc)
  go_wp2
  go_ret
  exact ⟨rfl, hJ', hc'⟩
set_option maxHeartbeats 1000000 in
theorem all_rdg (S : Nat → Prop) (l : List Rdg) (v : Value) (w : World) (g : FuncId) (cap : Array Value) (eg : ∀ args w, (callFunc g args).run Tryz.prog w = .ok (.enter g args) w) (p : Rdg → Bool) (J : Nat → World → Prop) (X : Nat → Prop)
    (hX : ∀ j, X j → j < w.heap.size) (hJ : ∀ i W, J i W → SL S W v l) (hJs : ∀ i W W', J i W → Step W W' → J i W') (hw : J 0 w) (hp : PredA g cap (fun _ u x => u = .agg #[.int .i64 x.hour, .int .i64 x.lo, .int .i64 x.hi]) p l J X) :
    Calls Tryz.prog 81 #[v, .func (.func g) #[] cap] w fun e w' => e = .returned (.bool (l.all p)) ∧ ∃ k, k ≤ l.length ∧ (l.all p = true → k = l.length) ∧ J k w' := by
  have hmf : ∀ (fn : Fn) (first cap : Array Value) (w : World), (Instr.makeFunc fn first cap).run Tryz.prog w = .ok (.func fn first cap) w := fun _ _ _ _ => rfl
  have hc := containsFunc_rdg S l v (w.alloc (.cells #[.func (.func g) #[] cap] 155)) 106 #[.pointer (some ⟨w.heap.size, 0, none⟩)] (Go.Proofs.enters_of Tryz.func106 (by kernel_rfl) rfl) (fun x => !p x)
    (fun i W => J i W ∧ W.cell? ⟨w.heap.size, 0, none⟩ = some (.func (.func g) #[] cap)) (fun i W h => hJ i W h.1) ⟨hJs _ _ _ hw (Step.alloc _ _), by rw [World.cell?_alloc_new]; rfl⟩
    (allNot_rdg l g cap eg p J X w.heap.size (fun h => by have := hX _ h; omega) hJs hp)
  have HC := Lib.hid hc
  clear hc hp hJ hJs hX eg
  go_enter Tryz.func81, Tryz.ntmps81
  go_wp2_with fail
  refine HC.out.mono ?_
  rintro e w' ⟨rfl, hk⟩
  have HK := Lib.hid hk
  clear hk
  have he : (l.any fun x => !p x) = !(l.all p) := by rw [List.not_all_eq_any_not]
  have HE := Lib.hid he
  clear he
  go_wp2
  go_ret
  obtain ⟨k, h1, h2, h3, _⟩ := HK.out
  rw [HE.out] at h2 ⊢
  exact ⟨by simp, k, h1, fun h => h2 (by simp [h]), h3⟩
set_option maxHeartbeats 1000000 in
theorem indexFunc_int (S : Nat → Prop) (l : List Int) (v : Value) (w : World) (g : FuncId) (cap : Array Value) (eg : ∀ args w, (callFunc g args).run Tryz.prog w = .ok (.enter g args) w) (p : Int → Bool) (J : Nat → World → Prop) (hJ : ∀ i W, J i W → SL S W v l) (hw : J 0 w)
    (hp : PredJ g cap (fun _ u x => u = .int .i64 x) p l J) :
    Calls Tryz.prog 39 #[v, .func (.func g) #[] cap] w fun e w' => e = .returned (.int .i64 (idxOf p l)) ∧ ∃ k, k ≤ l.length ∧ (idxOf p l = -1 → k = l.length) ∧ J k w' := by
  obtain ⟨pv, cv, rfl⟩ := (hJ 0 w hw).form
  have hm := (hJ 0 w hw).len
  have Hp := Lib.hid hp
  have HJ := Lib.hid hJ
  clear hp hJ
  go_enter Tryz.func39, Tryz.ntmps39
  go_wp2
  go_loopw [8] (fun i wr => ∃ k : Nat, k ≤ l.length ∧ i = .int .i64 k ∧ (∀ j (hj : j < k) (hl : j < l.length), p l[j] = false) ∧ J k wr) (fun i _ => l.length - (intOf i).toNat)
  case atStart => exact ⟨0, Nat.zero_le _, rfl, fun j hj => absurd hj (by omega), hw⟩
  case round =>
    obtain ⟨k, hk, rfl, hno, hJk⟩ := hrel
    have HN := Lib.hid hno
    clear hno
    by_cases hlt : k < l.length
    · obtain ⟨p', c', b, o, he, _, _, hpp, hc, _⟩ := (HJ.out k wr hJk).ints
      injection he with he1 he2 he3
      subst he1 he3
      obtain rfl := hpp (by omega)
      have e1 := hc k hlt
      clear hc hpp he2
      have hcall := Lib.hid (Hp.out k hlt wr (.int .i64 l[k]) hJk (fun j hj => HN.out j hj (by omega)) rfl)
      cases hq : p l[k] with
      | true =>
        have hq := Lib.hid hq
        go_wp2_with fail
        refine hcall.out.mono ?_
        rintro e w' ⟨rfl, hJ'⟩
        rw [hq.out]
        go_wp2
        have hi := idxOf_at hlt (fun j hj => HN.out j hj (by omega)) hq.out
        go_ret
        rw [hi]
        exact ⟨rfl, k + 1, by omega, fun h => by omega, hJ'⟩
      | false =>
        have hq := Lib.hid hq
        go_wp2_with fail
        refine hcall.out.mono ?_
        rintro e w' ⟨rfl, hJ'⟩
        rw [hq.out]
        go_wp2
        go_roundw
        case rel => exact ⟨k + 1, by omega, by go_num, fun j hj hl => if h : j = k then by subst h; exact hq.out else HN.out j (by omega) hl, hJ'⟩
        case measure => simp [intOf]; omega
    · go_wp2
      have hi := idxOf_none (fun j hj => HN.out j (by omega) hj)
      go_ret
      rw [hi]
      exact ⟨rfl, k, hk, fun _ => by omega, hJk⟩
set_option maxHeartbeats 1000000 in
theorem containsFunc_int (S : Nat → Prop) (l : List Int) (v : Value) (w : World) (g : FuncId) (cap : Array Value) (eg : ∀ args w, (callFunc g args).run Tryz.prog w = .ok (.enter g args) w) (p : Int → Bool) (J : Nat → World → Prop) (hJ : ∀ i W, J i W → SL S W v l) (hw : J 0 w)
    (hp : PredJ g cap (fun _ u x => u = .int .i64 x) p l J) :
    Calls Tryz.prog 61 #[v, .func (.func g) #[] cap] w fun e w' => e = .returned (.bool (l.any p)) ∧ ∃ k, k ≤ l.length ∧ (l.any p = false → k = l.length) ∧ J k w' := by
  have hc := indexFunc_int S l v w g cap eg p J hJ hw hp
  have HC := Lib.hid hc
  clear hc hp hJ eg
  go_enter Tryz.func61, Tryz.ntmps61
  go_wp2_with fail
  refine HC.out.mono ?_
  rintro e w' ⟨rfl, hk⟩
  have HK := Lib.hid hk
  clear hk
  go_wp2
  have hge := idxOf_ge p l
  go_ret
  obtain ⟨k, h1, h2, h3⟩ := HK.out
  refine ⟨by rw [← hge]; rfl, k, h1, fun h => h2 ?_, h3⟩
  rw [← hge, decide_eq_false_iff_not] at h
  unfold idxOf at h ⊢
  split <;> rename_i hh <;> simp [hh] at h ⊢
set_option maxHeartbeats 1000000 in
theorem allNot_int (l : List Int) (g : FuncId) (cap : Array Value) (eg : ∀ args w, (callFunc g args).run Tryz.prog w = .ok (.enter g args) w) (p : Int → Bool) (J : Nat → World → Prop) (X : Nat → Prop) (b : Nat) (hX : ¬ X b)
    (hJs : ∀ i W W', J i W → Step W W' → J i W') (hp : PredA g cap (fun _ u x => u = .int .i64 x) p l J X) :
    PredJ 62 #[.pointer (some ⟨b, 0, none⟩)] (fun _ u x => u = .int .i64 x) (fun x => !p x) l (fun i W => J i W ∧ W.cell? ⟨b, 0, none⟩ = some (.func (.func g) #[] cap)) := by
  intro i h W u ⟨hJ, hc⟩ hno hV
  have hb := World.block_lt_of_cell? W _ hc
  have hb' : b < W.heap.size := hb
  obtain rfl := hV
  have hcall := Lib.hid (hp i h W (.int .i64 l[i]) (hJs _ _ _ hJ (Step.refl _)) (fun j hj => by simpa using hno j hj) rfl)
  show Calls Tryz.prog 62 #[(.int .i64 l[i]), .pointer (some ⟨b, 0, none⟩)] W _
  have HN := Lib.hid hno
  have HS := Lib.hid hJs
  clear hno hJs hp hJ hb
  go_enter Tryz.func62, Tryz.ntmps62
  go_wp2_with fail
  refine hcall.out.mono ?_
  rintro e w' ⟨rfl, hJ', hst⟩
  have hc' := hst.keeps.cell hX (a := ⟨b, 0, none⟩) hc
  go_wp2
  go_ret
  exact ⟨rfl, hJ', hc'⟩
set_option maxHeartbeats 1000000 in
theorem all_int (S : Nat → Prop) (l : List Int) (v : Value) (w : World) (g : FuncId) (cap : Array Value) (eg : ∀ args w, (callFunc g args).run Tryz.prog w = .ok (.enter g args) w) (p : Int → Bool) (J : Nat → World → Prop) (X : Nat → Prop)
    (hX : ∀ j, X j → j < w.heap.size) (hJ : ∀ i W, J i W → SL S W v l) (hJs : ∀ i W W', J i W → Step W W' → J i W') (hw : J 0 w) (hp : PredA g cap (fun _ u x => u = .int .i64 x) p l J X) :
    Calls Tryz.prog 37 #[v, .func (.func g) #[] cap] w fun e w' => e = .returned (.bool (l.all p)) ∧ ∃ k, k ≤ l.length ∧ (l.all p = true → k = l.length) ∧ J k w' := by
  have hmf : ∀ (fn : Fn) (first cap : Array Value) (w : World), (Instr.makeFunc fn first cap).run Tryz.prog w = .ok (.func fn first cap) w := fun _ _ _ _ => rfl
  have hc := containsFunc_int S l v (w.alloc (.cells #[.func (.func g) #[] cap] 118)) 62 #[.pointer (some ⟨w.heap.size, 0, none⟩)] (Go.Proofs.enters_of Tryz.func62 (by kernel_rfl) rfl) (fun x => !p x)
    (fun i W => J i W ∧ W.cell? ⟨w.heap.size, 0, none⟩ = some (.func (.func g) #[] cap)) (fun i W h => hJ i W h.1) ⟨hJs _ _ _ hw (Step.alloc _ _), by rw [World.cell?_alloc_new]; rfl⟩
    (allNot_int l g cap eg p J X w.heap.size (fun h => by have := hX _ h; omega) hJs hp)
  have HC := Lib.hid hc
  clear hc hp hJ hJs hX eg
  go_enter Tryz.func37, Tryz.ntmps37
  go_wp2_with fail
  refine HC.out.mono ?_
  rintro e w' ⟨rfl, hk⟩
  have HK := Lib.hid hk
  clear hk
  have he : (l.any fun x => !p x) = !(l.all p) := by rw [List.not_all_eq_any_not]
  have HE := Lib.hid he
  clear he
  go_wp2
  go_ret
  obtain ⟨k, h1, h2, h3, _⟩ := HK.out
  rw [HE.out] at h2 ⊢
  exact ⟨by simp, k, h1, fun h => h2 (by simp [h]), h3⟩
set_option maxHeartbeats 1000000 in
theorem indexFunc_byte (S : Nat → Prop) (l : List UInt8) (v : Value) (w : World) (g : FuncId) (cap : Array Value) (eg : ∀ args w, (callFunc g args).run Tryz.prog w = .ok (.enter g args) w) (p : UInt8 → Bool) (J : Nat → World → Prop) (hJ : ∀ i W, J i W → SL S W v l) (hw : J 0 w)
    (hp : PredJ g cap (fun _ u x => u = .int .u8 (x.toNat : Int)) p l J) :
    Calls Tryz.prog 122 #[v, .func (.func g) #[] cap] w fun e w' => e = .returned (.int .i64 (idxOf p l)) ∧ ∃ k, k ≤ l.length ∧ (idxOf p l = -1 → k = l.length) ∧ J k w' := by
  obtain ⟨pv, cv, rfl⟩ := (hJ 0 w hw).form
  have hm := (hJ 0 w hw).len
  have Hp := Lib.hid hp
  have HJ := Lib.hid hJ
  clear hp hJ
  go_enter Tryz.func122, Tryz.ntmps122
  go_wp2
  go_loopw [8] (fun i wr => ∃ k : Nat, k ≤ l.length ∧ i = .int .i64 k ∧ (∀ j (hj : j < k) (hl : j < l.length), p l[j] = false) ∧ J k wr) (fun i _ => l.length - (intOf i).toNat)
  case atStart => exact ⟨0, Nat.zero_le _, rfl, fun j hj => absurd hj (by omega), hw⟩
  case round =>
    obtain ⟨k, hk, rfl, hno, hJk⟩ := hrel
    have HN := Lib.hid hno
    clear hno
    by_cases hlt : k < l.length
    · obtain ⟨p', c', b, o, he, _, _, hpp, hc, _⟩ := (HJ.out k wr hJk).bytes
      injection he with he1 he2 he3
      subst he1 he3
      obtain rfl := hpp (by omega)
      have e1 := hc k hlt
      clear hc hpp he2
      have hcall := Lib.hid (Hp.out k hlt wr (.int .u8 (l[k].toNat : Int)) hJk (fun j hj => HN.out j hj (by omega)) rfl)
      cases hq : p l[k] with
      | true =>
        have hq := Lib.hid hq
        go_wp2_with fail
        refine hcall.out.mono ?_
        rintro e w' ⟨rfl, hJ'⟩
        rw [hq.out]
        go_wp2
        have hi := idxOf_at hlt (fun j hj => HN.out j hj (by omega)) hq.out
        go_ret
        rw [hi]
        exact ⟨rfl, k + 1, by omega, fun h => by omega, hJ'⟩
      | false =>
        have hq := Lib.hid hq
        go_wp2_with fail
        refine hcall.out.mono ?_
        rintro e w' ⟨rfl, hJ'⟩
        rw [hq.out]
        go_wp2
        go_roundw
        case rel => exact ⟨k + 1, by omega, by go_num, fun j hj hl => if h : j = k then by subst h; exact hq.out else HN.out j (by omega) hl, hJ'⟩
        case measure => simp [intOf]; omega
    · go_wp2
      have hi := idxOf_none (fun j hj => HN.out j (by omega) hj)
      go_ret
      rw [hi]
      exact ⟨rfl, k, hk, fun _ => by omega, hJk⟩
set_option maxHeartbeats 1000000 in
theorem containsFunc_byte (S : Nat → Prop) (l : List UInt8) (v : Value) (w : World) (g : FuncId) (cap : Array Value) (eg : ∀ args w, (callFunc g args).run Tryz.prog w = .ok (.enter g args) w) (p : UInt8 → Bool) (J : Nat → World → Prop) (hJ : ∀ i W, J i W → SL S W v l) (hw : J 0 w)
    (hp : PredJ g cap (fun _ u x => u = .int .u8 (x.toNat : Int)) p l J) :
    Calls Tryz.prog 120 #[v, .func (.func g) #[] cap] w fun e w' => e = .returned (.bool (l.any p)) ∧ ∃ k, k ≤ l.length ∧ (l.any p = false → k = l.length) ∧ J k w' := by
  have hc := indexFunc_byte S l v w g cap eg p J hJ hw hp
  have HC := Lib.hid hc
  clear hc hp hJ eg
  go_enter Tryz.func120, Tryz.ntmps120
  go_wp2_with fail
  refine HC.out.mono ?_
  rintro e w' ⟨rfl, hk⟩
  have HK := Lib.hid hk
  clear hk
  go_wp2
  have hge := idxOf_ge p l
  go_ret
  obtain ⟨k, h1, h2, h3⟩ := HK.out
  refine ⟨by rw [← hge]; rfl, k, h1, fun h => h2 ?_, h3⟩
  rw [← hge, decide_eq_false_iff_not] at h
  unfold idxOf at h ⊢
  split <;> rename_i hh <;> simp [hh] at h ⊢
set_option maxHeartbeats 1000000 in
theorem allNot_byte (l : List UInt8) (g : FuncId) (cap : Array Value) (eg : ∀ args w, (callFunc g args).run Tryz.prog w = .ok (.enter g args) w) (p : UInt8 → Bool) (J : Nat → World → Prop) (X : Nat → Prop) (b : Nat) (hX : ¬ X b)
    (hJs : ∀ i W W', J i W → Step W W' → J i W') (hp : PredA g cap (fun _ u x => u = .int .u8 (x.toNat : Int)) p l J X) :
    PredJ 121 #[.pointer (some ⟨b, 0, none⟩)] (fun _ u x => u = .int .u8 (x.toNat : Int)) (fun x => !p x) l (fun i W => J i W ∧ W.cell? ⟨b, 0, none⟩ = some (.func (.func g) #[] cap)) := by
  intro i h W u ⟨hJ, hc⟩ hno hV
  have hb := World.block_lt_of_cell? W _ hc
  have hb' : b < W.heap.size := hb
  obtain rfl := hV
  have hcall := Lib.hid (hp i h W (.int .u8 (l[i].toNat : Int)) (hJs _ _ _ hJ (Step.refl _)) (fun j hj => by simpa using hno j hj) rfl)
  show Calls Tryz.prog 121 #[(.int .u8 (l[i].toNat : Int)), .pointer (some ⟨b, 0, none⟩)] W _
  have HN := Lib.hid hno
  have HS := Lib.hid hJs
  clear hno hJs hp hJ hb
  go_enter Tryz.func121, Tryz.ntmps121
  go_wp2_with fail
  refine hcall.out.mono ?_
  rintro e w' ⟨rfl, hJ', hst⟩
  have hc' := hst.keeps.cell hX (a := ⟨b, 0, none⟩) hc
  go_wp2
  go_ret
  exact ⟨rfl, hJ', hc'⟩
set_option maxHeartbeats 1000000 in
theorem all_byte (S : Nat → Prop) (l : List UInt8) (v : Value) (w : World) (g : FuncId) (cap : Array Value) (eg : ∀ args w, (callFunc g args).run Tryz.prog w = .ok (.enter g args) w) (p : UInt8 → Bool) (J : Nat → World → Prop) (X : Nat → Prop)
    (hX : ∀ j, X j → j < w.heap.size) (hJ : ∀ i W, J i W → SL S W v l) (hJs : ∀ i W W', J i W → Step W W' → J i W') (hw : J 0 w) (hp : PredA g cap (fun _ u x => u = .int .u8 (x.toNat : Int)) p l J X) :
    Calls Tryz.prog 116 #[v, .func (.func g) #[] cap] w fun e w' => e = .returned (.bool (l.all p)) ∧ ∃ k, k ≤ l.length ∧ (l.all p = true → k = l.length) ∧ J k w' := by
  have hmf : ∀ (fn : Fn) (first cap : Array Value) (w : World), (Instr.makeFunc fn first cap).run Tryz.prog w = .ok (.func fn first cap) w := fun _ _ _ _ => rfl
  have hc := containsFunc_byte S l v (w.alloc (.cells #[.func (.func g) #[] cap] 175)) 121 #[.pointer (some ⟨w.heap.size, 0, none⟩)] (Go.Proofs.enters_of Tryz.func121 (by kernel_rfl) rfl) (fun x => !p x)
    (fun i W => J i W ∧ W.cell? ⟨w.heap.size, 0, none⟩ = some (.func (.func g) #[] cap)) (fun i W h => hJ i W h.1) ⟨hJs _ _ _ hw (Step.alloc _ _), by rw [World.cell?_alloc_new]; rfl⟩
    (allNot_byte l g cap eg p J X w.heap.size (fun h => by have := hX _ h; omega) hJs hp)
  have HC := Lib.hid hc
  clear hc hp hJ hJs hX eg
  go_enter Tryz.func116, Tryz.ntmps116
  go_wp2_with fail
  refine HC.out.mono ?_
  rintro e w' ⟨rfl, hk⟩
  have HK := Lib.hid hk
  clear hk
  have he : (l.any fun x => !p x) = !(l.all p) := by rw [List.not_all_eq_any_not]
  have HE := Lib.hid he
  clear he
  go_wp2
  go_ret
  obtain ⟨k, h1, h2, h3, _⟩ := HK.out
  rw [HE.out] at h2 ⊢
  exact ⟨by simp, k, h1, fun h => h2 (by simp [h]), h3⟩
set_option maxHeartbeats 1000000 in
theorem indexFunc_fc (S : Nat → Prop) (l : List Fc) (v : Value) (w : World) (g : FuncId) (cap : Array Value) (eg : ∀ args w, (callFunc g args).run Tryz.prog w = .ok (.enter g args) w) (p : Fc → Bool) (J : Nat → World → Prop) (hJ : ∀ i W, J i W → SL S W v l) (hw : J 0 w)
    (hp : PredJ g cap (fun W u x => AV (fun _ => False) W u x) p l J) :
    Calls Tryz.prog 118 #[v, .func (.func g) #[] cap] w fun e w' => e = .returned (.int .i64 (idxOf p l)) ∧ ∃ k, k ≤ l.length ∧ (idxOf p l = -1 → k = l.length) ∧ J k w' := by
  obtain ⟨pv, cv, rfl⟩ := (hJ 0 w hw).form
  have hm := (hJ 0 w hw).len
  have Hp := Lib.hid hp
  have HJ := Lib.hid hJ
  clear hp hJ
  go_enter Tryz.func118, Tryz.ntmps118
  go_wp2
  go_loopw [8] (fun i wr => ∃ k : Nat, k ≤ l.length ∧ i = .int .i64 k ∧ (∀ j (hj : j < k) (hl : j < l.length), p l[j] = false) ∧ J k wr) (fun i _ => l.length - (intOf i).toNat)
  case atStart => exact ⟨0, Nat.zero_le _, rfl, fun j hj => absurd hj (by omega), hw⟩
  case round =>
    obtain ⟨k, hk, rfl, hno, hJk⟩ := hrel
    have HN := Lib.hid hno
    clear hno
    by_cases hlt : k < l.length
    · obtain ⟨p', c', b, o, he, _, _, hpp, hc, _⟩ := (HJ.out k wr hJk).fcs
      injection he with he1 he2 he3
      subst he1 he3
      obtain rfl := hpp (by omega)
      obtain ⟨c2, e1, e2, e4, e5⟩ := hc k hlt; obtain ⟨p2, k2, rfl⟩ := e4.form
      clear hc hpp he2
      have hcall := Lib.hid (Hp.out k hlt wr (.agg #[.string l[k].name, .slice p2 l[k].hours.length k2]) hJk (fun j hj => HN.out j hj (by omega)) ⟨_, rfl, _, rfl, e4.weak fun _ _ h => h.elim, e5⟩)
      cases hq : p l[k] with
      | true =>
        have hq := Lib.hid hq
        go_wp2_with fail
        refine hcall.out.mono ?_
        rintro e w' ⟨rfl, hJ'⟩
        rw [hq.out]
        go_wp2
        have hi := idxOf_at hlt (fun j hj => HN.out j hj (by omega)) hq.out
        go_ret
        rw [hi]
        exact ⟨rfl, k + 1, by omega, fun h => by omega, hJ'⟩
      | false =>
        have hq := Lib.hid hq
        go_wp2_with fail
        refine hcall.out.mono ?_
        rintro e w' ⟨rfl, hJ'⟩
        rw [hq.out]
        go_wp2
        go_roundw
        case rel => exact ⟨k + 1, by omega, by go_num, fun j hj hl => if h : j = k then by subst h; exact hq.out else HN.out j (by omega) hl, hJ'⟩
        case measure => simp [intOf]; omega
    · go_wp2
      have hi := idxOf_none (fun j hj => HN.out j (by omega) hj)
      go_ret
      rw [hi]
      exact ⟨rfl, k, hk, fun _ => by omega, hJk⟩
set_option maxHeartbeats 1000000 in
theorem containsFunc_fc (S : Nat → Prop) (l : List Fc) (v : Value) (w : World) (g : FuncId) (cap : Array Value) (eg : ∀ args w, (callFunc g args).run Tryz.prog w = .ok (.enter g args) w) (p : Fc → Bool) (J : Nat → World → Prop) (hJ : ∀ i W, J i W → SL S W v l) (hw : J 0 w)
    (hp : PredJ g cap (fun W u x => AV (fun _ => False) W u x) p l J) :
    Calls Tryz.prog 112 #[v, .func (.func g) #[] cap] w fun e w' => e = .returned (.bool (l.any p)) ∧ ∃ k, k ≤ l.length ∧ (l.any p = false → k = l.length) ∧ J k w' := by
  have hc := indexFunc_fc S l v w g cap eg p J hJ hw hp
  have HC := Lib.hid hc
  clear hc hp hJ eg
  go_enter Tryz.func112, Tryz.ntmps112
  go_wp2_with fail
  refine HC.out.mono ?_
  rintro e w' ⟨rfl, hk⟩
  have HK := Lib.hid hk
  clear hk
  go_wp2
  have hge := idxOf_ge p l
  go_ret
  obtain ⟨k, h1, h2, h3⟩ := HK.out
  refine ⟨by rw [← hge]; rfl, k, h1, fun h => h2 ?_, h3⟩
  rw [← hge, decide_eq_false_iff_not] at h
  unfold idxOf at h ⊢
  split <;> rename_i hh <;> simp [hh] at h ⊢
set_option maxHeartbeats 1000000 in
theorem allNot_fc (l : List Fc) (g : FuncId) (cap : Array Value) (eg : ∀ args w, (callFunc g args).run Tryz.prog w = .ok (.enter g args) w) (p : Fc → Bool) (J : Nat → World → Prop) (X : Nat → Prop) (b : Nat) (hX : ¬ X b)
    (hJs : ∀ i W W', J i W → Step W W' → J i W') (hp : PredA g cap (fun W u x => AV (fun _ => False) W u x) p l J X) :
    PredJ 113 #[.pointer (some ⟨b, 0, none⟩)] (fun W u x => AV (fun _ => False) W u x) (fun x => !p x) l (fun i W => J i W ∧ W.cell? ⟨b, 0, none⟩ = some (.func (.func g) #[] cap)) := by
  intro i h W u ⟨hJ, hc⟩ hno hV
  have hb := World.block_lt_of_cell? W _ hc
  have hb' : b < W.heap.size := hb
  obtain ⟨c2, rfl, e4, e5⟩ := AV.fc hV; obtain ⟨p2, k2, rfl⟩ := e4.form
  have hcall := Lib.hid (hp i h (W.alloc (.cells #[.string l[i].name, .slice p2 l[i].hours.length k2] 92)) (.agg #[.string l[i].name, .slice p2 l[i].hours.length k2]) (hJs _ _ _ hJ (Step.alloc _ _)) (fun j hj => by simpa using hno j hj) ⟨_, rfl, _, rfl, e4.keep (.alloc _ _), e5⟩)
  show Calls Tryz.prog 113 #[(.agg #[.string l[i].name, .slice p2 l[i].hours.length k2]), .pointer (some ⟨b, 0, none⟩)] W _
  have HN := Lib.hid hno
  have HS := Lib.hid hJs
  clear hno hJs hp hJ hb
  go_enter Tryz.func113, Tryz.ntmps113
  go_wp2_with fail
  refine hcall.out.mono ?_
  rintro e w' ⟨rfl, hJ', hst⟩
  have hc' := hst.keeps.cell hX (a := ⟨b, 0, none⟩) (by rw [World.cell?_alloc_lt _ _ _ hb']; exact hc)
  go_wp2
  go_ret
  exact ⟨rfl, hJ', hc'⟩
set_option maxHeartbeats 1000000 in
theorem all_fc (S : Nat → Prop) (l : List Fc) (v : Value) (w : World) (g : FuncId) (cap : Array Value) (eg : ∀ args w, (callFunc g args).run Tryz.prog w = .ok (.enter g args) w) (p : Fc → Bool) (J : Nat → World → Prop) (X : Nat → Prop)
    (hX : ∀ j, X j → j < w.heap.size) (hJ : ∀ i W, J i W → SL S W v l) (hJs : ∀ i W W', J i W → Step W W' → J i W') (hw : J 0 w) (hp : PredA g cap (fun W u x => AV (fun _ => False) W u x) p l J X) :
    Calls Tryz.prog 99 #[v, .func (.func g) #[] cap] w fun e w' => e = .returned (.bool (l.all p)) ∧ ∃ k, k ≤ l.length ∧ (l.all p = true → k = l.length) ∧ J k w' := by
  have hmf : ∀ (fn : Fn) (first cap : Array Value) (w : World), (Instr.makeFunc fn first cap).run Tryz.prog w = .ok (.func fn first cap) w := fun _ _ _ _ => rfl
  have hc := containsFunc_fc S l v (w.alloc (.cells #[.func (.func g) #[] cap] 165)) 113 #[.pointer (some ⟨w.heap.size, 0, none⟩)] (Go.Proofs.enters_of Tryz.func113 (by kernel_rfl) rfl) (fun x => !p x)
    (fun i W => J i W ∧ W.cell? ⟨w.heap.size, 0, none⟩ = some (.func (.func g) #[] cap)) (fun i W h => hJ i W h.1) ⟨hJs _ _ _ hw (Step.alloc _ _), by rw [World.cell?_alloc_new]; rfl⟩
    (allNot_fc l g cap eg p J X w.heap.size (fun h => by have := hX _ h; omega) hJs hp)
  have HC := Lib.hid hc
  clear hc hp hJ hJs hX eg
  go_enter Tryz.func99, Tryz.ntmps99
  go_wp2_with fail
  refine HC.out.mono ?_
  rintro e w' ⟨rfl, hk⟩
  have HK := Lib.hid hk
  clear hk
  have he : (l.any fun x => !p x) = !(l.all p) := by rw [List.not_all_eq_any_not]
  have HE := Lib.hid he
  clear he
  go_wp2
  go_ret
  obtain ⟨k, h1, h2, h3, _⟩ := HK.out
  rw [HE.out] at h2 ⊢
  exact ⟨by simp, k, h1, fun h => h2 (by simp [h]), h3⟩
set_option maxHeartbeats 1000000 in
theorem allNot_gvec (l : List Vec) (g : FuncId) (cap : Array Value) (eg : ∀ args w, (callFunc g args).run Tryz.prog w = .ok (.enter g args) w) (p : Vec → Bool) (J : Nat → World → Prop) (X : Nat → Prop) (b : Nat) (hX : ¬ X b)
    (hJs : ∀ i W W', J i W → Step W W' → J i W') (hp : PredA g cap (fun _ u x => u = .agg #[.int .i64 x.x, .int .i64 x.y]) p l J X) :
    PredJ 77 #[.pointer (some ⟨b, 0, none⟩)] (fun _ u x => u = .agg #[.int .i64 x.x, .int .i64 x.y]) (fun x => !p x) l (fun i W => J i W ∧ W.cell? ⟨b, 0, none⟩ = some (.func (.func g) #[] cap)) := by
  intro i h W u ⟨hJ, hc⟩ hno hV
  have hb := World.block_lt_of_cell? W _ hc
  have hb' : b < W.heap.size := hb
  obtain rfl := hV
  have hcall := Lib.hid (hp i h (W.alloc (.cells #[.int .i64 l[i].x, .int .i64 l[i].y] 70)) (.agg #[.int .i64 l[i].x, .int .i64 l[i].y]) (hJs _ _ _ hJ (Step.alloc _ _)) (fun j hj => by simpa using hno j hj) rfl)
  show Calls Tryz.prog 77 #[(.agg #[.int .i64 l[i].x, .int .i64 l[i].y]), .pointer (some ⟨b, 0, none⟩)] W _
  have HN := Lib.hid hno
  have HS := Lib.hid hJs
  clear hno hJs hp hJ hb
  go_enter Tryz.func77, Tryz.ntmps77
  go_wp2_with fail
  refine hcall.out.mono ?_
  rintro e w' ⟨rfl, hJ', hst⟩
  have hc' := hst.keeps.cell hX (a := ⟨b, 0, none⟩) (by rw [World.cell?_alloc_lt _ _ _ hb']; exact hc)
  go_wp2
  go_ret
  exact ⟨rfl, hJ', hc'⟩
set_option maxHeartbeats 1000000 in
theorem all_gvec (S : Nat → Prop) (l : List Vec) (v : Value) (w : World) (g : FuncId) (cap : Array Value) (eg : ∀ args w, (callFunc g args).run Tryz.prog w = .ok (.enter g args) w) (p : Vec → Bool) (J : Nat → World → Prop) (X : Nat → Prop)
    (hX : ∀ j, X j → j < w.heap.size) (hJ : ∀ i W, J i W → SL S W v l) (hJs : ∀ i W W', J i W → Step W W' → J i W') (hw : J 0 w) (hp : PredA g cap (fun _ u x => u = .agg #[.int .i64 x.x, .int .i64 x.y]) p l J X) :
    Calls Tryz.prog 52 #[v, .func (.func g) #[] cap] w fun e w' => e = .returned (.bool (l.all p)) ∧ ∃ k, k ≤ l.length ∧ (l.all p = true → k = l.length) ∧ J k w' := by
  have hmf : ∀ (fn : Fn) (first cap : Array Value) (w : World), (Instr.makeFunc fn first cap).run Tryz.prog w = .ok (.func fn first cap) w := fun _ _ _ _ => rfl
  have hc := containsFunc_vec S l v (w.alloc (.cells #[.func (.func g) #[] cap] 132)) 77 #[.pointer (some ⟨w.heap.size, 0, none⟩)] (Go.Proofs.enters_of Tryz.func77 (by kernel_rfl) rfl) (fun x => !p x)
    (fun i W => J i W ∧ W.cell? ⟨w.heap.size, 0, none⟩ = some (.func (.func g) #[] cap)) (fun i W h => hJ i W h.1) ⟨hJs _ _ _ hw (Step.alloc _ _), by rw [World.cell?_alloc_new]; rfl⟩
    (allNot_gvec l g cap eg p J X w.heap.size (fun h => by have := hX _ h; omega) hJs hp)
  have HC := Lib.hid hc
  clear hc hp hJ hJs hX eg
  go_enter Tryz.func52, Tryz.ntmps52
  go_wp2_with fail
  refine HC.out.mono ?_
  rintro e w' ⟨rfl, hk⟩
  have HK := Lib.hid hk
  clear hk
  have he : (l.any fun x => !p x) = !(l.all p) := by rw [List.not_all_eq_any_not]
  have HE := Lib.hid he
  clear he
  go_wp2
  go_ret
  obtain ⟨k, h1, h2, h3, _⟩ := HK.out
  rw [HE.out] at h2 ⊢
  exact ⟨by simp, k, h1, fun h => h2 (by simp [h]), h3⟩
end Go.Proofs.YtoanjaidfdkdpaaGreat
/- Plain words for data in memory, going on: a row that 'make' made; a row known whole read as a slice. No program is named here. -/
namespace Go.BT
open Go.RowKit

theorem madeCells_one (z : Value) (n : Nat) (hz : z.cells = #[z]) : madeCells z.cells n = (List.replicate n z).toArray := by
  rw [hz]
  apply Array.ext
  · simp [size_madeCells]
  · intro i h1 h2
    simp [madeCells, Nat.mod_one]

/-- make([]T, n), T of one cell. -/
theorem wpl_make {P : Program} {w : World} {ops : Array Oper} {rest : List Oper} {o : Oper} {a : Act} {Q : Exit → Act → World → Prop} {t e : TypeId} {z : Value} {bytes : Nat} (ei : EI P t e z 1 bytes) (hg : o.guard = none) (l c : Operand) (hop : o.op = Op.makeSlice t l c)
    (hz : z.cells = #[z]) (kl kc : IntKind) (n : Nat) (hl : a.eval l = .int kl n) (hc : a.eval c = .int kc n) (hn : n ≤ 9223372036854775807) (hb : bytes * n ≤ 281474976710656)
    (hK : wpList P ops Q rest (a.put o.dst (.slice (some ⟨w.heap.size, 0, none⟩) n n)) (w.alloc (.cells (List.replicate n z).toArray e))) : wpList P ops Q (o :: rest) a w := by
  obtain ⟨h1, _, i, hi, h2, h3, h4⟩ := ei
  refine wpList_plain hg fun K hK' => ?_
  subst h4
  have hb' : (i.bytes : Int) * (n : Int) ≤ 281474976710656 := by
    have h : ((i.bytes * n : Nat) : Int) ≤ 281474976710656 := by omega
    rwa [Int.natCast_mul] at h
  have hr := run_make (P := P) w t e i z h1 hi h2 kl kc n n (by omega) (Int.le_refl _) hb' (by omega)
  simp only [Int.toNat_natCast, h3, Nat.mul_one, madeCells_one z n hz] at hr
  unfold Oper.wp
  simp [execOp, hop, hl, hc, hr, Result.andThen]
  exact hK' _ _ hK

theorem Bx.new' (w : World) (cs : List Value) (T : TypeId) (n : Nat) (h : w.heap.size = n) : Bx (w.alloc (.cells cs.toArray T)) n cs T := by subst h; exact Bx.new w cs T
/-- A row known whole reads as a list. -/
theorem SL.bx {α : Type} [Rep α] {S : Nat → Prop} {w : World} {g : Nat} {cs : List Value} {T : TypeId} {l : List α} (h : Bx w g cs T) (hs : ¬ S g) (c : Nat) (hc : l.length ≤ c) (hm : l.length ≤ 9223372036854775807)
    (hr : ∀ i (hi : i < l.length), Rep.rep S w ((cs.drop (i * Rep.k α)).take (Rep.k α)) l[i]) : SL S w (.slice (some ⟨g, 0, none⟩) l.length c) l := by
  refine ⟨_, c, g, 0, rfl, hc, hm, fun _ => rfl, fun i hi => ⟨h.lt, hs, _, hr i hi, fun j v hj => ?_⟩⟩
  rw [Nat.zero_add, h.cell]
  rw [List.getElem?_take] at hj
  split at hj
  · rw [List.getElem?_drop] at hj; exact hj
  · cases hj
theorem SL.bx_ints {S : Nat → Prop} {w : World} {g : Nat} {T : TypeId} {l : List Int} (h : Bx w g (l.map (Value.int .i64)) T) (hs : ¬ S g) (c : Nat) (hc : l.length ≤ c) (hm : l.length ≤ 9223372036854775807) : SL S w (.slice (some ⟨g, 0, none⟩) l.length c) l := by
  refine SL.bx h hs c hc hm fun i hi => ?_
  show ((l.map (Value.int .i64)).drop (i * 1)).take 1 = [_]
  rw [Nat.mul_one, List.drop_eq_getElem_cons (by simpa using hi)]
  simp
theorem SL.bx_bools {S : Nat → Prop} {w : World} {g : Nat} {T : TypeId} {l : List Bool} (h : Bx w g (l.map Value.bool) T) (hs : ¬ S g) (c : Nat) (hc : l.length ≤ c) (hm : l.length ≤ 9223372036854775807) : SL S w (.slice (some ⟨g, 0, none⟩) l.length c) l := by
  refine SL.bx h hs c hc hm fun i hi => ?_
  show ((l.map Value.bool).drop (i * 1)).take 1 = [_]
  rw [Nat.mul_one, List.drop_eq_getElem_cons (by simpa using hi)]
  simp

/-- A list of which the first k are turned by f, the rest are 0. -/
def mix (l : List Int) (f : Int → Int) (k : Nat) : List Int := l.mapIdx fun i x => if i < k then f x else 0
theorem mix_len (l : List Int) (f : Int → Int) (k : Nat) : (mix l f k).length = l.length := by simp [mix]
theorem mix_zero (l : List Int) (f : Int → Int) : mix l f 0 = List.replicate l.length 0 := by
  apply List.ext_getElem
  · simp [mix]
  · intro i h1 h2; simp [mix]
theorem mix_full (l : List Int) (f : Int → Int) {k : Nat} (h : l.length ≤ k) : mix l f k = l.map f := by
  apply List.ext_getElem
  · simp [mix]
  · intro i h1 h2
    simp at h2
    simp [mix, show i < k by omega]
theorem mix_set (l : List Int) (f : Int → Int) {k : Nat} (h : k < l.length) : (mix l f k).set k (f l[k]) = mix l f (k + 1) := by
  apply List.ext_getElem
  · simp [mix]
  · intro i h1 h2
    rw [List.getElem_set]
    split
    · subst_vars; simp [mix]
    · simp only [mix, List.getElem_mapIdx]
      by_cases h3 : i < k
      · simp [h3, show i < k + 1 by omega]
      · simp [h3, show ¬ i < k + 1 by omega]
theorem mix_keep (l : List Int) (f : Int → Int) {k : Nat} (h : k < l.length) (h0 : f l[k] = 0) : mix l f k = mix l f (k + 1) := by
  rw [← mix_set l f h, h0]
  apply List.ext_getElem
  · simp
  · intro i h1 h2
    rw [List.getElem_set]
    split
    · subst_vars; simp [mix]
    · rfl

theorem StepX.setCell {X : Nat → Prop} {w0 w : World} (h : StepX X w0 w) (a : Addr) (v : Value) (ha : X a.block) : StepX X w0 (w.setCell a v) :=
  h.trans ⟨rfl, rfl, rfl, by simp, fun j _ hs => Below.heap_setCell w a v j (fun e => hs (e ▸ ha))⟩
theorem StepX.set1 {g : Nat} {w0 w : World} (h : StepX (fun j => j = g) w0 w) (o : Nat) (v : Value) : StepX (fun j => j = g) w0 (w.setCell ⟨g, o, none⟩ v) := h.setCell ⟨g, o, none⟩ v rfl
/-- A row of six cells, written anew. -/
theorem set6 {w : World} {g : Nat} {a0 a1 a2 a3 a4 a5 : Value} {T : TypeId} (h : Bx w g [a0, a1, a2, a3, a4, a5] T) (c0 c1 c2 c3 c4 c5 : Value) :
    Bx ((((((w.setCell ⟨g, 0, none⟩ c0).setCell ⟨g, 1, none⟩ c1).setCell ⟨g, 2, none⟩ c2).setCell ⟨g, 3, none⟩ c3).setCell ⟨g, 4, none⟩ c4).setCell ⟨g, 5, none⟩ c5) g [c0, c1, c2, c3, c4, c5] T ∧
    StepX (fun j => j = g) w ((((((w.setCell ⟨g, 0, none⟩ c0).setCell ⟨g, 1, none⟩ c1).setCell ⟨g, 2, none⟩ c2).setCell ⟨g, 3, none⟩ c3).setCell ⟨g, 4, none⟩ c4).setCell ⟨g, 5, none⟩ c5) :=
  ⟨(((((h.setCell 0 c0).setCell 1 c1).setCell 2 c2).setCell 3 c3).setCell 4 c4).setCell 5 c5,
   ((((((StepX.refl _ w).set1 0 c0).set1 1 c1).set1 2 c2).set1 3 c3).set1 4 c4).set1 5 c5⟩
/-- What wrote into new blocks alone. -/
theorem StepX.fresh {X : Nat → Prop} {w0 w w' : World} (h : Step w0 w) (k : StepX X w w') (hX : ∀ j, X j → w0.heap.size ≤ j) : Step w0 w' :=
  ⟨k.os.trans h.os, k.tape.trans h.tape, k.output.trans h.output, Nat.le_trans h.size k.size, fun j hj _ => (k.block j (Nat.lt_of_lt_of_le hj h.size) (fun hx => by have := hX j hx; omega)).trans (h.block j hj id)⟩

section
variable {P : Program} {fn : Func} {R : Ending → World → Prop} {a : Act} {w : World}
/-- Two results, the first a struct in a variable. -/
theorem ret_struct2 {t u : Tmp} {T T' : TypeId} {k g : Nat} {cs : List Value} (hr : fn.results = #[.cell t T, .tmp u]) (hi : SI P T k)
    (ht : a.tmps.getD t undef = .pointer (some ⟨g, 0, none⟩)) (hb : Bx w g cs T') (hk : cs.length = k) (hd : a.defers = []) (hR : R (.returned (.tuple #[.agg cs.toArray, a.tmps.getD u undef])) w) : bodyPost P fn R .ret a w := by
  refine bodyPost_ret (v := .tuple #[.agg cs.toArray, a.tmps.getD u undef]) ?_ hd hR
  have ht' : a.tmps[t]?.getD undef = .pointer (some ⟨g, 0, none⟩) := by simpa using ht
  simp [results, hr, ht', asAddr, run_loadVar_bx hi hb hk]
theorem ret_struct3 {t u x : Tmp} {T T' : TypeId} {k g : Nat} {cs : List Value} (hr : fn.results = #[.cell t T, .tmp u, .tmp x]) (hi : SI P T k)
    (ht : a.tmps.getD t undef = .pointer (some ⟨g, 0, none⟩)) (hb : Bx w g cs T') (hk : cs.length = k) (hd : a.defers = []) (hR : R (.returned (.tuple #[.agg cs.toArray, a.tmps.getD u undef, a.tmps.getD x undef])) w) : bodyPost P fn R .ret a w := by
  refine bodyPost_ret (v := .tuple #[.agg cs.toArray, a.tmps.getD u undef, a.tmps.getD x undef]) ?_ hd hR
  have ht' : a.tmps[t]?.getD undef = .pointer (some ⟨g, 0, none⟩) := by simpa using ht
  simp [results, hr, ht', asAddr, run_loadVar_bx hi hb hk]
end
end Go.BT
/- Walks: small functions of vectors, and whether tests, guys and vectors are valid. -/
namespace Go.Proofs.YtoanjaidfdkdpaaGreat
set_option linter.unusedSimpArgs false
set_option linter.unusedVariables false
open Go.RowKit Go.BT

def fits (n : Int) : Prop := -9223372036854775808 ≤ n ∧ n ≤ 9223372036854775807
theorem fits.wrap {n : Int} (h : fits n) : IntKind.i64.wrap n = n := by rw [IntKind.wrap_i64]; unfold fits at h; omega
/-- A vector as a value. -/
abbrev vv (v : Vec) : Value := .agg #[.int .i64 v.x, .int .i64 v.y]
theorem siVec : SI Tryz.prog 70 2 := ⟨⟨_, Tryz.underlying70⟩, by kernel_rfl⟩
theorem siRVec : SI Tryz.prog 82 2 := ⟨⟨_, Tryz.underlying82⟩, by kernel_rfl⟩
theorem set2 {w : World} {g : Nat} {a0 a1 : Value} {T : TypeId} (h : Bx w g [a0, a1] T) (c0 c1 : Value) : Bx ((w.setCell ⟨g, 0, none⟩ c0).setCell ⟨g, 1, none⟩ c1) g [c0, c1] T ∧ StepX (fun j => j = g) w ((w.setCell ⟨g, 0, none⟩ c0).setCell ⟨g, 1, none⟩ c1) :=
  ⟨(h.setCell 0 c0).setCell 1 c1, ((StepX.refl _ w).set1 0 c0).set1 1 c1⟩
theorem set4 {w : World} {g : Nat} {a0 a1 a2 a3 : Value} {T : TypeId} (h : Bx w g [a0, a1, a2, a3] T) (c0 c1 c2 c3 : Value) : Bx ((((w.setCell ⟨g, 0, none⟩ c0).setCell ⟨g, 1, none⟩ c1).setCell ⟨g, 2, none⟩ c2).setCell ⟨g, 3, none⟩ c3) g [c0, c1, c2, c3] T ∧ StepX (fun j => j = g) w ((((w.setCell ⟨g, 0, none⟩ c0).setCell ⟨g, 1, none⟩ c1).setCell ⟨g, 2, none⟩ c2).setCell ⟨g, 3, none⟩ c3) :=
  ⟨(((h.setCell 0 c0).setCell 1 c1).setCell 2 c2).setCell 3 c3, ((((StepX.refl _ w).set1 0 c0).set1 1 c1).set1 2 c2).set1 3 c3⟩
theorem set3 {w : World} {g : Nat} {a0 a1 a2 : Value} {T : TypeId} (h : Bx w g [a0, a1, a2] T) (c0 c1 c2 : Value) : Bx (((w.setCell ⟨g, 0, none⟩ c0).setCell ⟨g, 1, none⟩ c1).setCell ⟨g, 2, none⟩ c2) g [c0, c1, c2] T ∧ StepX (fun j => j = g) w (((w.setCell ⟨g, 0, none⟩ c0).setCell ⟨g, 1, none⟩ c1).setCell ⟨g, 2, none⟩ c2) :=
  ⟨((h.setCell 0 c0).setCell 1 c1).setCell 2 c2, (((StepX.refl _ w).set1 0 c0).set1 1 c1).set1 2 c2⟩
theorem times_any (v : Vec) (n : Int) (w : World) (h1 : fits (n * v.x)) (h2 : fits (n * v.y)) :
    Calls Tryz.prog 69 #[.agg #[.int .i64 v.x, .int .i64 v.y], .int .i64 n] w fun e w' => e = .returned (.agg #[.int .i64 (timesV v n).x, .int .i64 (timesV v n).y]) ∧ Step w w' := by
  have h1 := h1.wrap
  have h2 := h2.wrap
  go_enter Tryz.func69, Tryz.ntmps69
  go_wp2
  exact ret_struct (k := 2) rfl siVec rfl (Bx.new' _ [.int .i64 (n * v.x), .int .i64 (n * v.y)] _ _ (by simp)) rfl rfl ⟨rfl, (by repeat (first | (with_reducible assumption) | (with_reducible exact Step.refl _) | (with_reducible apply Step.s_alloc) | (with_reducible apply Step.s_drew) | (with_reducible apply Step.s_drewN) | (with_reducible refine Step.trans ?_ (by with_reducible assumption))))⟩
theorem Times_any (v : Vec) (n : Int) (w : World) (h1 : fits (n * v.x)) (h2 : fits (n * v.y)) :
    Calls Tryz.prog 45 #[.agg #[.int .i64 v.x, .int .i64 v.y], .int .i64 n] w fun e w' => e = .returned (.agg #[.int .i64 (timesV v n).x, .int .i64 (timesV v n).y]) ∧ Step w w' := by
  have h1 := h1.wrap
  have h2 := h2.wrap
  go_enter Tryz.func45, Tryz.ntmps45
  go_wp2
  exact ret_struct (k := 2) rfl siRVec rfl (Bx.new' _ [.int .i64 (n * v.x), .int .i64 (n * v.y)] _ _ (by simp)) rfl rfl ⟨rfl, (by repeat (first | (with_reducible assumption) | (with_reducible exact Step.refl _) | (with_reducible apply Step.s_alloc) | (with_reducible apply Step.s_drew) | (with_reducible apply Step.s_drewN) | (with_reducible refine Step.trans ?_ (by with_reducible assumption))))⟩
theorem dot_any (v o : Vec) (w : World) (h1 : fits (v.x * o.x)) (h2 : fits (v.y * o.y)) (h3 : fits (v.x * o.x + v.y * o.y)) :
    Calls Tryz.prog 93 #[.agg #[.int .i64 v.x, .int .i64 v.y], .agg #[.int .i64 o.x, .int .i64 o.y]] w fun e w' => e = .returned (.int .i64 (dotV v o)) ∧ Step w w' := by
  have h1 := h1.wrap
  have h2 := h2.wrap
  have h3 := h3.wrap
  go_enter Tryz.func93, Tryz.ntmps93
  go_wp2
  go_ret
  exact ⟨rfl, (by repeat (first | (with_reducible assumption) | (with_reducible exact Step.refl _) | (with_reducible apply Step.s_alloc) | (with_reducible apply Step.s_drew) | (with_reducible apply Step.s_drewN) | (with_reducible refine Step.trans ?_ (by with_reducible assumption))))⟩
theorem Vector_any (v : Vec) (w : World) :
    Calls Tryz.prog 44 #[.agg #[.int .i64 v.x, .int .i64 v.y]] w fun e w' => e = .returned (.agg #[.int .i64 v.x, .int .i64 v.y]) ∧ Step w w' := by
  go_enter Tryz.func44, Tryz.ntmps44
  go_wp2
  exact ret_struct (k := 2) rfl siVec rfl (Bx.new' _ [.int .i64 v.x, .int .i64 v.y] _ _ (by simp)) rfl rfl ⟨rfl, (by repeat (first | (with_reducible assumption) | (with_reducible exact Step.refl _) | (with_reducible apply Step.s_alloc) | (with_reducible apply Step.s_drew) | (with_reducible apply Step.s_drewN) | (with_reducible refine Step.trans ?_ (by with_reducible assumption))))⟩
end Go.Proofs.YtoanjaidfdkdpaaGreat
/- Walks: whether tests, guys, heads, tents and winds are valid. -/
namespace Go.Proofs.YtoanjaidfdkdpaaGreat
set_option linter.unusedSimpArgs false
set_option linter.unusedVariables false
open Go.RowKit Go.BT
attribute [local go_sem] neq_vec

theorem headZ (n : Nat) : decide (n ≤ 8) = decide ((n : Int) ≤ 8) := by simp; omega
theorem tvalid_any (x : Tst) (w : World) : Calls Tryz.prog 48 #[.agg #[.int .i64 x.soil, .int .i64 x.depth, .int .i64 x.force, .bool x.held]] w fun e w' => e = .returned (.bool (tstB x)) ∧ Step w w' := by
  go_enter Tryz.func48, Tryz.ntmps48
  go_wp2_with fail
  refine (canvas.within_any _ _ _ _).mono ?_
  rintro e w' ⟨rfl, rfl⟩
  cases q0 : withinB x.soil 0 9 with
  | false =>
    go_wp2
    go_ret
    exact ⟨by simp [tstB, q0], (by repeat (first | (with_reducible assumption) | (with_reducible exact Step.refl _) | (with_reducible apply Step.s_alloc) | (with_reducible apply Step.s_drew) | (with_reducible apply Step.s_drewN) | (with_reducible refine Step.trans ?_ (by with_reducible assumption))))⟩
  | true =>
    go_wp2_with fail
    refine (canvas.within_any _ _ _ _).mono ?_
    rintro e w' ⟨rfl, rfl⟩
    cases q1 : withinB x.depth 1 3000 with
    | false =>
      go_wp2
      go_ret
      exact ⟨by simp [tstB, q0, q1], (by repeat (first | (with_reducible assumption) | (with_reducible exact Step.refl _) | (with_reducible apply Step.s_alloc) | (with_reducible apply Step.s_drew) | (with_reducible apply Step.s_drewN) | (with_reducible refine Step.trans ?_ (by with_reducible assumption))))⟩
    | true =>
      go_wp2_with fail
      refine (canvas.within_any _ _ _ _).mono ?_
      rintro e w' ⟨rfl, rfl⟩
      cases q2 : withinB x.force 1 5000 with
      | false =>
        go_wp2
        go_ret
        exact ⟨by simp [tstB, q0, q1, q2], (by repeat (first | (with_reducible assumption) | (with_reducible exact Step.refl _) | (with_reducible apply Step.s_alloc) | (with_reducible apply Step.s_drew) | (with_reducible apply Step.s_drewN) | (with_reducible refine Step.trans ?_ (by with_reducible assumption))))⟩
      | true =>
        go_wp2
        go_ret
        exact ⟨by simp [tstB, q0, q1, q2], (by repeat (first | (with_reducible assumption) | (with_reducible exact Step.refl _) | (with_reducible apply Step.s_alloc) | (with_reducible apply Step.s_drew) | (with_reducible apply Step.s_drewN) | (with_reducible refine Step.trans ?_ (by with_reducible assumption))))⟩
theorem CheckTests_any (S : Nat → Prop) (l : List Tst) (v : Value) (w : World) (hv : SL S w v l) : Calls Tryz.prog 27 #[v] w fun e w' => e = .returned (.int .i64 (testsC l)) ∧ Step w w' := by
  have hm := hv.len
  have hc := all_tst S l v w 48 #[] (Go.Proofs.enters_of Tryz.func48 (by kernel_rfl) rfl) tstB (fun _ W => Step w W) (fun _ => False) (fun _ h => h.elim)
    (fun _ W hW => hv.keep (.of_step hW)) (fun _ _ _ h1 h2 => h1.trans h2) (Step.refl _) (fun i hi W u hW _ hu => by
      subst hu
      refine (tvalid_any l[i] W).mono ?_
      rintro e w' ⟨rfl, hs⟩
      exact ⟨rfl, hW.trans hs, hs⟩)
  have HC := Lib.hid hc
  obtain ⟨pv, cv, rfl⟩ := hv.form
  clear hc hv
  by_cases hl : 40 < l.length
  · have hd : decide ((40 : Int) < (l.length : Int)) = true := by simp; omega
    go_enter Tryz.func27, Tryz.ntmps27
    go_wp2
    go_ret
    exact ⟨by simp [testsC, hl], Step.refl _⟩
  have hd : decide ((40 : Int) < (l.length : Int)) = false := by simp; omega
  have HL := Lib.hid hl
  clear hl
  go_enter Tryz.func27, Tryz.ntmps27
  go_wp2_with fail
  refine HC.out.mono ?_
  rintro e w' ⟨rfl, hk⟩
  obtain ⟨k, _, _, hS⟩ := hk
  cases q : l.all tstB with
  | true =>
    go_wp2
    go_ret
    exact ⟨by unfold testsC; rw [if_neg HL.out, if_pos q]; rfl, hS⟩
  | false =>
    go_wp2
    go_ret
    exact ⟨by unfold testsC; rw [if_neg HL.out, if_neg (by rw [q]; decide)]; rfl, hS⟩
set_option maxHeartbeats 1000000 in
theorem gvalid_any (x : Guy) (w : World) : Calls Tryz.prog 75 #[.agg #[.int .i64 x.x, .int .i64 x.y, .int .i64 x.down, .int .i64 x.soil, .int .i64 x.depth]] w fun e w' => e = .returned (.bool (guyB x)) ∧ Step w w' := by
  obtain ⟨xx, xy, dn, sl, dp⟩ := x
  dsimp only
  by_cases hx : xx = 0
  · subst hx
    by_cases hy : xy = 0
    · subst hy
      go_enter Tryz.func75, Tryz.ntmps75
      go_wp2_with fail
      refine (canvas.within_any _ _ _ _).mono ?_
      rintro e w' ⟨rfl, rfl⟩
      cases q0 : withinB 0 (-5000) 5000 with
      | false =>
        go_wp2
        go_ret
        exact ⟨by simp [guyB, guyB, q0], (by repeat (first | (with_reducible assumption) | (with_reducible exact Step.refl _) | (with_reducible apply Step.s_alloc) | (with_reducible apply Step.s_drew) | (with_reducible apply Step.s_drewN) | (with_reducible refine Step.trans ?_ (by with_reducible assumption))))⟩
      | true =>
        go_wp2_with fail
        refine (canvas.within_any _ _ _ _).mono ?_
        rintro e w' ⟨rfl, rfl⟩
        cases q1 : withinB 0 (-5000) 5000 with
        | false =>
          go_wp2
          go_ret
          exact ⟨by simp [guyB, guyB, q0, q1], (by repeat (first | (with_reducible assumption) | (with_reducible exact Step.refl _) | (with_reducible apply Step.s_alloc) | (with_reducible apply Step.s_drew) | (with_reducible apply Step.s_drewN) | (with_reducible refine Step.trans ?_ (by with_reducible assumption))))⟩
        | true =>
          go_wp2
          go_ret
          exact ⟨by simp [guyB, guyB, q0, q1], (by repeat (first | (with_reducible assumption) | (with_reducible exact Step.refl _) | (with_reducible apply Step.s_alloc) | (with_reducible apply Step.s_drew) | (with_reducible apply Step.s_drewN) | (with_reducible refine Step.trans ?_ (by with_reducible assumption))))⟩
    · go_enter Tryz.func75, Tryz.ntmps75
      go_wp2_with fail
      refine (canvas.within_any _ _ _ _).mono ?_
      rintro e w' ⟨rfl, rfl⟩
      cases q0 : withinB 0 (-5000) 5000 with
      | false =>
        go_wp2
        go_ret
        exact ⟨by simp [guyB, hy, q0], (by repeat (first | (with_reducible assumption) | (with_reducible exact Step.refl _) | (with_reducible apply Step.s_alloc) | (with_reducible apply Step.s_drew) | (with_reducible apply Step.s_drewN) | (with_reducible refine Step.trans ?_ (by with_reducible assumption))))⟩
      | true =>
        go_wp2_with fail
        refine (canvas.within_any _ _ _ _).mono ?_
        rintro e w' ⟨rfl, rfl⟩
        cases q1 : withinB xy (-5000) 5000 with
        | false =>
          go_wp2
          go_ret
          exact ⟨by simp [guyB, hy, q0, q1], (by repeat (first | (with_reducible assumption) | (with_reducible exact Step.refl _) | (with_reducible apply Step.s_alloc) | (with_reducible apply Step.s_drew) | (with_reducible apply Step.s_drewN) | (with_reducible refine Step.trans ?_ (by with_reducible assumption))))⟩
        | true =>
          go_wp2_with fail
          refine (canvas.within_any _ _ _ _).mono ?_
          rintro e w' ⟨rfl, rfl⟩
          cases q2 : withinB dn 0 5000 with
          | false =>
            go_wp2
            go_ret
            exact ⟨by simp [guyB, hy, q0, q1, q2], (by repeat (first | (with_reducible assumption) | (with_reducible exact Step.refl _) | (with_reducible apply Step.s_alloc) | (with_reducible apply Step.s_drew) | (with_reducible apply Step.s_drewN) | (with_reducible refine Step.trans ?_ (by with_reducible assumption))))⟩
          | true =>
            go_wp2_with fail
            refine (canvas.within_any _ _ _ _).mono ?_
            rintro e w' ⟨rfl, rfl⟩
            cases q3 : withinB sl 0 9 with
            | false =>
              go_wp2
              go_ret
              exact ⟨by simp [guyB, hy, q0, q1, q2, q3], (by repeat (first | (with_reducible assumption) | (with_reducible exact Step.refl _) | (with_reducible apply Step.s_alloc) | (with_reducible apply Step.s_drew) | (with_reducible apply Step.s_drewN) | (with_reducible refine Step.trans ?_ (by with_reducible assumption))))⟩
            | true =>
              go_wp2_with fail
              refine (canvas.within_any _ _ _ _).mono ?_
              rintro e w' ⟨rfl, rfl⟩
              cases q4 : withinB dp 1 3000 with
              | false =>
                go_wp2
                go_ret
                exact ⟨by simp [guyB, hy, q0, q1, q2, q3, q4], (by repeat (first | (with_reducible assumption) | (with_reducible exact Step.refl _) | (with_reducible apply Step.s_alloc) | (with_reducible apply Step.s_drew) | (with_reducible apply Step.s_drewN) | (with_reducible refine Step.trans ?_ (by with_reducible assumption))))⟩
              | true =>
                go_wp2
                go_ret
                exact ⟨by simp [guyB, hy, q0, q1, q2, q3, q4], (by repeat (first | (with_reducible assumption) | (with_reducible exact Step.refl _) | (with_reducible apply Step.s_alloc) | (with_reducible apply Step.s_drew) | (with_reducible apply Step.s_drewN) | (with_reducible refine Step.trans ?_ (by with_reducible assumption))))⟩
  · go_enter Tryz.func75, Tryz.ntmps75
    go_wp2_with fail
    refine (canvas.within_any _ _ _ _).mono ?_
    rintro e w' ⟨rfl, rfl⟩
    cases q0 : withinB xx (-5000) 5000 with
    | false =>
      go_wp2
      go_ret
      exact ⟨by simp [guyB, hx, q0], (by repeat (first | (with_reducible assumption) | (with_reducible exact Step.refl _) | (with_reducible apply Step.s_alloc) | (with_reducible apply Step.s_drew) | (with_reducible apply Step.s_drewN) | (with_reducible refine Step.trans ?_ (by with_reducible assumption))))⟩
    | true =>
      go_wp2_with fail
      refine (canvas.within_any _ _ _ _).mono ?_
      rintro e w' ⟨rfl, rfl⟩
      cases q1 : withinB xy (-5000) 5000 with
      | false =>
        go_wp2
        go_ret
        exact ⟨by simp [guyB, hx, q0, q1], (by repeat (first | (with_reducible assumption) | (with_reducible exact Step.refl _) | (with_reducible apply Step.s_alloc) | (with_reducible apply Step.s_drew) | (with_reducible apply Step.s_drewN) | (with_reducible refine Step.trans ?_ (by with_reducible assumption))))⟩
      | true =>
        go_wp2_with fail
        refine (canvas.within_any _ _ _ _).mono ?_
        rintro e w' ⟨rfl, rfl⟩
        cases q2 : withinB dn 0 5000 with
        | false =>
          go_wp2
          go_ret
          exact ⟨by simp [guyB, hx, q0, q1, q2], (by repeat (first | (with_reducible assumption) | (with_reducible exact Step.refl _) | (with_reducible apply Step.s_alloc) | (with_reducible apply Step.s_drew) | (with_reducible apply Step.s_drewN) | (with_reducible refine Step.trans ?_ (by with_reducible assumption))))⟩
        | true =>
          go_wp2_with fail
          refine (canvas.within_any _ _ _ _).mono ?_
          rintro e w' ⟨rfl, rfl⟩
          cases q3 : withinB sl 0 9 with
          | false =>
            go_wp2
            go_ret
            exact ⟨by simp [guyB, hx, q0, q1, q2, q3], (by repeat (first | (with_reducible assumption) | (with_reducible exact Step.refl _) | (with_reducible apply Step.s_alloc) | (with_reducible apply Step.s_drew) | (with_reducible apply Step.s_drewN) | (with_reducible refine Step.trans ?_ (by with_reducible assumption))))⟩
          | true =>
            go_wp2_with fail
            refine (canvas.within_any _ _ _ _).mono ?_
            rintro e w' ⟨rfl, rfl⟩
            cases q4 : withinB dp 1 3000 with
            | false =>
              go_wp2
              go_ret
              exact ⟨by simp [guyB, hx, q0, q1, q2, q3, q4], (by repeat (first | (with_reducible assumption) | (with_reducible exact Step.refl _) | (with_reducible apply Step.s_alloc) | (with_reducible apply Step.s_drew) | (with_reducible apply Step.s_drewN) | (with_reducible refine Step.trans ?_ (by with_reducible assumption))))⟩
            | true =>
              go_wp2
              go_ret
              exact ⟨by simp [guyB, hx, q0, q1, q2, q3, q4], (by repeat (first | (with_reducible assumption) | (with_reducible exact Step.refl _) | (with_reducible apply Step.s_alloc) | (with_reducible apply Step.s_drew) | (with_reducible apply Step.s_drewN) | (with_reducible refine Step.trans ?_ (by with_reducible assumption))))⟩
theorem guys_all (S : Nat → Prop) (l : List Guy) (v : Value) (w : World) (hv : SL S w v l) : Calls Tryz.prog 74 #[v, .func (.func 75) #[] #[]] w fun e w' => e = .returned (.bool (l.all guyB)) ∧ Step w w' := by
  refine (all_guy S l v w 75 #[] (Go.Proofs.enters_of Tryz.func75 (by kernel_rfl) rfl) guyB (fun _ W => Step w W) (fun _ => False) (fun _ h => h.elim)
    (fun _ W hW => hv.keep (.of_step hW)) (fun _ _ _ h1 h2 => h1.trans h2) (Step.refl _) (fun i hi W u hW _ hu => by
      subst hu
      refine (gvalid_any l[i] W).mono ?_
      rintro e w' ⟨rfl, hs⟩
      exact ⟨rfl, hW.trans hs, hs⟩)).mono ?_
  rintro e w' ⟨rfl, k, _, _, hS⟩
  exact ⟨rfl, hS⟩
set_option maxHeartbeats 1000000 in
theorem hvalid_any (S : Nat → Prop) (x : Head) (v : Value) (w : World) (hv : AV S w v x) : Calls Tryz.prog 51 #[v] w fun e w' => e = .returned (.bool (headB x)) ∧ Step w w' := by
  obtain ⟨c2, rfl, h2⟩ := hv.head
  obtain ⟨p2, k2, rfl⟩ := h2.form
  have hm := h2.len
  have hcall := Lib.hid (guys_all S x.guys (.slice p2 x.guys.length k2) (w.alloc (.cells #[.int .i64 x.area, .int .i64 x.bears, .slice p2 x.guys.length k2] 105)) (h2.keep (.alloc _ _)))
  clear h2
  go_enter Tryz.func51, Tryz.ntmps51
  go_wp2_with fail
  refine (canvas.within_any _ _ _ _).mono ?_
  rintro e w' ⟨rfl, rfl⟩
  cases q0 : withinB x.area 0 1000 with
  | false =>
    go_wp2
    go_ret
    exact ⟨by simp [headB, headZ, q0], (by repeat (first | (with_reducible assumption) | (with_reducible exact Step.refl _) | (with_reducible apply Step.s_alloc) | (with_reducible apply Step.s_drew) | (with_reducible apply Step.s_drewN) | (with_reducible refine Step.trans ?_ (by with_reducible assumption))))⟩
  | true =>
    go_wp2_with fail
    refine (canvas.within_any _ _ _ _).mono ?_
    rintro e w' ⟨rfl, rfl⟩
    cases q1 : withinB x.bears 0 10000000 with
    | false =>
      go_wp2
      go_ret
      exact ⟨by simp [headB, headZ, q0, q1], (by repeat (first | (with_reducible assumption) | (with_reducible exact Step.refl _) | (with_reducible apply Step.s_alloc) | (with_reducible apply Step.s_drew) | (with_reducible apply Step.s_drewN) | (with_reducible refine Step.trans ?_ (by with_reducible assumption))))⟩
    | true =>
      cases q2 : decide ((x.guys.length : Int) ≤ 8) with
      | false =>
        go_wp2
        go_ret
        exact ⟨by simp [headB, headZ, q0, q1, q2], (by repeat (first | (with_reducible assumption) | (with_reducible exact Step.refl _) | (with_reducible apply Step.s_alloc) | (with_reducible apply Step.s_drew) | (with_reducible apply Step.s_drewN) | (with_reducible refine Step.trans ?_ (by with_reducible assumption))))⟩
      | true =>
        go_wp2_with fail
        refine hcall.out.mono ?_
        rintro e w' ⟨rfl, hS⟩
        go_wp2
        go_ret
        exact ⟨by simp [headB, headZ, q0, q1, q2], (Step.alloc _ _).trans hS⟩
theorem heads_all (S : Nat → Prop) (l : List Head) (v : Value) (w : World) (hv : SL S w v l) : Calls Tryz.prog 50 #[v, .func (.func 51) #[] #[]] w fun e w' => e = .returned (.bool (l.all headB)) ∧ Step w w' := by
  refine (all_head S l v w 51 #[] (Go.Proofs.enters_of Tryz.func51 (by kernel_rfl) rfl) headB (fun _ W => Step w W) (fun _ => False) (fun _ h => h.elim)
    (fun _ W hW => hv.keep (.of_step hW)) (fun _ _ _ h1 h2 => h1.trans h2) (Step.refl _) (fun i hi W u hW _ hu => by
      refine (hvalid_any _ l[i] u W hu).mono ?_
      rintro e w' ⟨rfl, hs⟩
      exact ⟨rfl, hW.trans hs, hs⟩)).mono ?_
  rintro e w' ⟨rfl, k, _, _, hS⟩
  exact ⟨rfl, hS⟩
theorem CheckTent_any (S : Nat → Prop) (t : List Head) (v : Value) (w : World) (hv : SL S w v t) : Calls Tryz.prog 28 #[v] w fun e w' => e = .returned (.int .i64 (tentC t)) ∧ Step w w' := by
  have hm := hv.len
  have hcall := Lib.hid (heads_all S t v w hv)
  obtain ⟨pv, cv, rfl⟩ := hv.form
  clear hv
  go_enter Tryz.func28, Tryz.ntmps28
  go_wp2_with fail
  refine (canvas.within_any _ _ _ _).mono ?_
  rintro e w' ⟨rfl, rfl⟩
  cases q0 : withinB (t.length : Int) 1 12 with
  | false =>
    go_wp2
    go_ret
    exact ⟨by simp [tentC, tentB, q0], Step.refl _⟩
  | true =>
    go_wp2_with fail
    refine hcall.out.mono ?_
    rintro e w' ⟨rfl, hS⟩
    cases q1 : t.all headB with
    | false =>
      go_wp2
      go_ret
      exact ⟨by unfold tentC tentB; rw [q0, q1]; rfl, hS⟩
    | true =>
      go_wp2
      go_ret
      exact ⟨by unfold tentC tentB; rw [q0, q1]; rfl, hS⟩
theorem in_any (v : Vec) (n : Int) (w : World) (hn : 0 ≤ n ∧ n ≤ 1000000000) : Calls Tryz.prog 90 #[.agg #[.int .i64 v.x, .int .i64 v.y], .int .i64 n] w fun e w' => e = .returned (.bool (withinB v.x (-n) n && withinB v.y (-n) n)) ∧ Step w w' := by
  have hw : IntKind.i64.wrap (-n) = -n := by rw [IntKind.wrap_i64]; omega
  go_enter Tryz.func90, Tryz.ntmps90
  go_wp2_with fail
  refine (canvas.within_any _ _ _ _).mono ?_
  rintro e w' ⟨rfl, rfl⟩
  cases q0 : withinB v.x (-n) n with
  | false =>
    go_wp2
    go_ret
    exact ⟨by simp [Bool.and_true, q0], (by repeat (first | (with_reducible assumption) | (with_reducible exact Step.refl _) | (with_reducible apply Step.s_alloc) | (with_reducible apply Step.s_drew) | (with_reducible apply Step.s_drewN) | (with_reducible refine Step.trans ?_ (by with_reducible assumption))))⟩
  | true =>
    go_wp2_with fail
    refine (canvas.within_any _ _ _ _).mono ?_
    rintro e w' ⟨rfl, rfl⟩
    cases q1 : withinB v.y (-n) n with
    | false =>
      go_wp2
      go_ret
      exact ⟨by simp [Bool.and_true, q0, q1], (by repeat (first | (with_reducible assumption) | (with_reducible exact Step.refl _) | (with_reducible apply Step.s_alloc) | (with_reducible apply Step.s_drew) | (with_reducible apply Step.s_drewN) | (with_reducible refine Step.trans ?_ (by with_reducible assumption))))⟩
    | true =>
      go_wp2
      go_ret
      exact ⟨by simp [Bool.and_true, q0, q1], (by repeat (first | (with_reducible assumption) | (with_reducible exact Step.refl _) | (with_reducible apply Step.s_alloc) | (with_reducible apply Step.s_drew) | (with_reducible apply Step.s_drewN) | (with_reducible refine Step.trans ?_ (by with_reducible assumption))))⟩
theorem windy1_any (v : Vec) (w : World) : Calls Tryz.prog 89 #[.agg #[.int .i64 v.x, .int .i64 v.y]] w fun e w' => e = .returned (.bool (cornerB v)) ∧ Step w w' := by
  have hcall := Lib.hid (in_any v 10000 (w.alloc (.cells #[.int .i64 v.x, .int .i64 v.y] 70)) (by omega))
  go_enter Tryz.func89, Tryz.ntmps89
  go_wp2_with fail
  refine hcall.out.mono ?_
  rintro e w' ⟨rfl, hS⟩
  go_wp2
  go_ret
  exact ⟨rfl, (Step.alloc _ _).trans hS⟩
theorem windy_any (S : Nat → Prop) (l : List Vec) (v : Value) (w : World) (hv : SL S w v l) : Calls Tryz.prog 65 #[v] w fun e w' => e = .returned (.bool (windB l)) ∧ Step w w' := by
  have hm := hv.len
  have hc := all_vec S l v w 89 #[] (Go.Proofs.enters_of Tryz.func89 (by kernel_rfl) rfl) cornerB (fun _ W => Step w W) (fun _ => False) (fun _ h => h.elim)
    (fun _ W hW => hv.keep (.of_step hW)) (fun _ _ _ h1 h2 => h1.trans h2) (Step.refl _) (fun i hi W u hW _ hu => by
      subst hu
      refine (windy1_any l[i] W).mono ?_
      rintro e w' ⟨rfl, hs⟩
      exact ⟨rfl, hW.trans hs, hs⟩)
  have HC := Lib.hid hc
  obtain ⟨pv, cv, rfl⟩ := hv.form
  clear hc hv
  go_enter Tryz.func65, Tryz.ntmps65
  go_wp2_with fail
  refine (canvas.within_any _ _ _ _).mono ?_
  rintro e w' ⟨rfl, rfl⟩
  cases q0 : withinB (l.length : Int) 1 12 with
  | false =>
    go_wp2
    go_ret
    exact ⟨by simp [windB, q0], Step.refl _⟩
  | true =>
    go_wp2_with fail
    refine HC.out.mono ?_
    rintro e w' ⟨rfl, k, _, _, hS⟩
    go_wp2
    go_ret
    exact ⟨by simp [windB, q0], hS⟩
end Go.Proofs.YtoanjaidfdkdpaaGreat
/- Walks: tests that clash. -/
namespace Go.Proofs.YtoanjaidfdkdpaaGreat
set_option linter.unusedSimpArgs false
set_option linter.unusedVariables false
open Go.RowKit Go.BT

theorem tst_wrap {x y : Tst} (hx : tstB x = true) (hy : tstB y = true) : IntKind.i64.wrap (x.force * y.depth) = x.force * y.depth := by
  have := force_bound hx (tst_parts hy).2.1
  rw [IntKind.wrap_i64]; omega
theorem against_any (x y : Tst) (w : World) (hx : tstB x = true) (hy : tstB y = true) :
    Calls Tryz.prog 79 #[.agg #[.int .i64 x.soil, .int .i64 x.depth, .int .i64 x.force, .bool x.held], .agg #[.int .i64 y.soil, .int .i64 y.depth, .int .i64 y.force, .bool y.held]] w fun e w' => e = .returned (.bool (againstB x y)) ∧ Step w w' := by
  have h1 := tst_wrap hx hy
  have h2 := tst_wrap hy hx
  clear hx hy
  obtain ⟨xs, xd, xf, xh⟩ := x
  obtain ⟨ys, yd, yf, yh⟩ := y
  dsimp only at h1 h2 ⊢
  cases xh with
  | false =>
    go_enter Tryz.func79, Tryz.ntmps79
    go_wp2
    go_ret
    exact ⟨by simp [againstB], (by repeat (first | (with_reducible assumption) | (with_reducible exact Step.refl _) | (with_reducible apply Step.s_alloc) | (with_reducible apply Step.s_drew) | (with_reducible apply Step.s_drewN) | (with_reducible refine Step.trans ?_ (by with_reducible assumption))))⟩
  | true =>
    cases yh with
    | true =>
      go_enter Tryz.func79, Tryz.ntmps79
      go_wp2
      go_ret
      exact ⟨by simp [againstB], (by repeat (first | (with_reducible assumption) | (with_reducible exact Step.refl _) | (with_reducible apply Step.s_alloc) | (with_reducible apply Step.s_drew) | (with_reducible apply Step.s_drewN) | (with_reducible refine Step.trans ?_ (by with_reducible assumption))))⟩
    | false =>
      by_cases hs : xs = ys
      · have hd : (xs == ys) = true := by simpa using hs
        have HS := Lib.hid hs
        clear hs
        go_enter Tryz.func79, Tryz.ntmps79
        go_wp2
        go_ret
        exact ⟨by simp [againstB, HS.out], (by repeat (first | (with_reducible assumption) | (with_reducible exact Step.refl _) | (with_reducible apply Step.s_alloc) | (with_reducible apply Step.s_drew) | (with_reducible apply Step.s_drewN) | (with_reducible refine Step.trans ?_ (by with_reducible assumption))))⟩
      · have hd : (xs == ys) = false := by simpa using hs
        have HS := Lib.hid hs
        clear hs
        go_enter Tryz.func79, Tryz.ntmps79
        go_wp2
        go_ret
        exact ⟨by simp [againstB, HS.out], (by repeat (first | (with_reducible assumption) | (with_reducible exact Step.refl _) | (with_reducible apply Step.s_alloc) | (with_reducible apply Step.s_drew) | (with_reducible apply Step.s_drewN) | (with_reducible refine Step.trans ?_ (by with_reducible assumption))))⟩
/-- Where a test first clashes with one of a list, or -1. -/
def idxB (p : Tst → Bool) (l : List Tst) : Int := idxOf p l
set_option maxHeartbeats 1000000 in
theorem indexAgainst_any (S : Nat → Prop) (x : Tst) (l : List Tst) (v : Value) (w : World) (hv : SL S w v l) (hx : tstB x = true) (hl : l.all tstB = true) :
    Calls Tryz.prog 78 #[v, .func (.func 79) #[.agg #[.int .i64 x.soil, .int .i64 x.depth, .int .i64 x.force, .bool x.held]] #[]] w fun e w' => e = .returned (.int .i64 (idxOf (againstB x) l)) ∧ Step w w' := by
  have hm := hv.len
  obtain ⟨pv, cv, b, o, rfl, _, _, hp, hc, _⟩ := hv.tsts
  have HP := Lib.hid (And.intro hp hc)
  have HL := Lib.hid (And.intro hx hl)
  have HT0 := Lib.hid (Step.refl w)
  clear hp hc hx hl hv
  go_enter Tryz.func78, Tryz.ntmps78
  go_wp2
  go_loopw [8] (fun i wr => ∃ k : Nat, k ≤ l.length ∧ i = .int .i64 k ∧ (∀ j (hj : j < k) (hl : j < l.length), againstB x l[j] = false) ∧ Step w wr) (fun i _ => l.length - (intOf i).toNat)
  case atStart => exact ⟨0, Nat.zero_le _, rfl, fun j hj => absurd hj (by omega), HT0.out⟩
  case round =>
    obtain ⟨k, hk, rfl, hno, hT⟩ := hrel
    have HN := Lib.hid hno
    have HT := Lib.hid hT
    clear hno hT
    by_cases hlt : k < l.length
    · obtain rfl := HP.out.1 (by omega)
      obtain ⟨e1, e2, e3, e4⟩ := HP.out.2 k hlt
      have e1 := HT.out.keeps.cell id e1
      have e2 := HT.out.keeps.cell id e2
      have e3 := HT.out.keeps.cell id e3
      have e4 := HT.out.keeps.cell id e4
      have hix : (0 : Int) ≤ (k : Int) ∧ (k : Int) < (l.length : Int) := by omega
      have hcall := Lib.hid (against_any x l[k] wr HL.out.1 (all_get HL.out.2 hlt))
      go_wp2_with fail
      refine hcall.out.mono ?_
      rintro e w' ⟨rfl, hS⟩
      clear hcall e1 e2 e3 e4
      cases hq : againstB x l[k] with
      | true =>
        have HQ := Lib.hid hq
        have HS := Lib.hid hS
        clear hq hS
        go_wp2
        go_ret
        exact ⟨by rw [idxOf_at hlt (fun j hj => HN.out j hj (by omega)) HQ.out]; rfl, HT.out.trans HS.out⟩
      | false =>
        have HQ := Lib.hid hq
        have HS := Lib.hid hS
        clear hq hS
        go_wp2
        go_roundw
        case rel => exact ⟨k + 1, by omega, by go_num, fun j hj hl => if h : j = k then by subst h; exact HQ.out else HN.out j (by omega) hl, HT.out.trans HS.out⟩
        case measure => simp [intOf]; omega
    · go_wp2
      go_ret
      exact ⟨by rw [idxOf_none (fun j hj => HN.out j (by omega) hj)]; rfl, HT.out⟩
/-- A pair that clashes is told, or none. -/
theorem clash_any (S : Nat → Prop) (l : List Tst) (v : Value) (w : World) (hv : SL S w v l) (hl : l.all tstB = true) :
    Calls Tryz.prog 54 #[v] w fun e w' => ∃ i j : Int, e = .returned (.tuple #[.int .i64 i, .int .i64 j]) ∧ (decide (0 ≤ i) = clashB l) ∧ Step w w' := by
  have hm := hv.len
  have hv0 := hv
  obtain ⟨pv, cv, b, o, rfl, _, _, hp, hc, _⟩ := hv.tsts
  have HP := Lib.hid (And.intro hp hc)
  have HL := Lib.hid hl
  have HV := Lib.hid hv0
  have HT0 := Lib.hid (Step.refl w)
  clear hp hc hl hv hv0
  go_enter Tryz.func54, Tryz.ntmps54
  go_wp2
  go_loopw [9] (fun i wr => ∃ k : Nat, k ≤ l.length ∧ i = .int .i64 k ∧ (∀ j (hj : j < k) (hl : j < l.length), l.any (againstB l[j]) = false) ∧ Step w wr) (fun i _ => l.length - (intOf i).toNat)
  case atStart => exact ⟨0, Nat.zero_le _, rfl, fun j hj => absurd hj (by omega), HT0.out⟩
  case round =>
    obtain ⟨k, hk, rfl, hno, hT⟩ := hrel
    have HN := Lib.hid hno
    have HT := Lib.hid hT
    clear hno hT
    by_cases hlt : k < l.length
    · obtain rfl := HP.out.1 (by omega)
      obtain ⟨e1, e2, e3, e4⟩ := HP.out.2 k hlt
      have e1 := HT.out.keeps.cell id e1
      have e2 := HT.out.keeps.cell id e2
      have e3 := HT.out.keeps.cell id e3
      have e4 := HT.out.keeps.cell id e4
      have hix : (0 : Int) ≤ (k : Int) ∧ (k : Int) < (l.length : Int) := by omega
      have hcall := Lib.hid (indexAgainst_any S l[k] l _ (wr.alloc (.cells #[.int .i64 l[k].soil, .int .i64 l[k].depth, .int .i64 l[k].force, .bool l[k].held] 102)) (HV.out.keep (.of_step (HT.out.trans (Step.alloc _ _)))) (all_get HL.out hlt) HL.out)
      go_wp2_with fail
      refine hcall.out.mono ?_
      rintro e w' ⟨rfl, hS⟩
      have hge := idxOf_ge (againstB l[k]) l
      have HS := Lib.hid ((Step.alloc _ _).trans hS)
      clear hcall e1 e2 e3 e4 hS
      cases hq : l.any (againstB l[k]) with
      | true =>
        rw [hq] at hge
        have HQ := Lib.hid (And.intro hge (show clashB l = true from List.any_eq_true.2 ⟨_, List.getElem_mem hlt, hq⟩))
        clear hq
        go_wp2
        go_ret2
        exact ⟨_, _, rfl, by rw [HQ.out.2]; simp, HT.out.trans HS.out⟩
      | false =>
        rw [hq] at hge
        have HQ := Lib.hid hq
        clear hq
        go_wp2
        go_roundw
        case rel => exact ⟨k + 1, by omega, by go_num, fun j hj hl => if h : j = k then by subst h; exact HQ.out else HN.out j (by omega) hl, HT.out.trans HS.out⟩
        case measure => simp [intOf]; omega
    · have HQ := Lib.hid (show clashB l = false by
        unfold clashB
        rw [List.any_eq_false]
        intro y hy
        obtain ⟨j, hj, rfl⟩ := List.getElem_of_mem hy
        rw [HN.out j (by omega) hj]; decide)
      go_wp2
      go_ret2
      exact ⟨_, _, rfl, by rw [HQ.out]; decide, HT.out⟩
theorem sound_any (S : Nat → Prop) (l : List Tst) (v : Value) (w : World) (hv : SL S w v l) (hl : l.all tstB = true) :
    Calls Tryz.prog 66 #[v] w fun e w' => e = .returned (.int .i64 (soundC l)) ∧ Step w w' := by
  have hcall := Lib.hid (clash_any S l v w hv hl)
  obtain ⟨pv, cv, rfl⟩ := hv.form
  clear hv hl
  go_enter Tryz.func66, Tryz.ntmps66
  go_wp2_with fail
  refine hcall.out.mono ?_
  rintro e w' ⟨i, j, rfl, hq, hS⟩
  clear hcall
  cases q : clashB l with
  | true =>
    rw [q] at hq
    have HQ := Lib.hid q
    clear q
    go_wp2
    go_ret
    exact ⟨by simp [soundC, HQ.out], hS⟩
  | false =>
    rw [q] at hq
    have HQ := Lib.hid q
    clear q
    go_wp2
    go_ret
    exact ⟨by simp [soundC, HQ.out], hS⟩
end Go.Proofs.YtoanjaidfdkdpaaGreat
/- Walks: what a stake holds: the program's way. -/
namespace Go.Proofs.YtoanjaidfdkdpaaGreat
set_option linter.unusedSimpArgs false
set_option linter.unusedVariables false
open Go.RowKit Go.BT

theorem siRange : SI Tryz.prog 168 2 := ⟨⟨_, Tryz.underlying168⟩, by kernel_rfl⟩
theorem quo_wrap {x : Tst} {d : Int} (h : tstB x = true) (hd : 1 ≤ d ∧ d ≤ 3000) : IntKind.i64.wrap (x.force * d) = x.force * d ∧ IntKind.i64.wrap ((x.force * d).tdiv x.depth) = x.force * d / x.depth ∧ ¬ x.depth = 0 := by
  have h1 := force_bound h hd
  have h2 := quo_bound h hd
  obtain ⟨_, h3, _⟩ := tst_parts h
  rw [Int.tdiv_eq_ediv_of_nonneg (by omega), IntKind.wrap_i64, IntKind.wrap_i64]
  omega
theorem top_wrap {x : Tst} {d : Int} (h : tstB x = true) (hd : 1 ≤ d ∧ d ≤ 3000) : IntKind.i64.wrap (x.force * d + x.depth) = x.force * d + x.depth ∧ IntKind.i64.wrap (x.force * d + x.depth - 1) = x.force * d + x.depth - 1 ∧ IntKind.i64.wrap ((x.force * d + x.depth - 1).tdiv x.depth) = (x.force * d + x.depth - 1) / x.depth ∧ IntKind.i64.wrap ((x.force * d + x.depth - 1) / x.depth - 1) = (x.force * d + x.depth - 1) / x.depth - 1 := by
  have h1 := force_bound h hd
  have h2 := top_bound h hd
  obtain ⟨_, h3, _⟩ := tst_parts h
  rw [Int.tdiv_eq_ediv_of_nonneg (by omega), IntKind.wrap_i64, IntKind.wrap_i64, IntKind.wrap_i64, IntKind.wrap_i64]
  omega
theorem step_no {s d : Int} {r : Rng} {x : Tst} (h : ¬ x.soil = s) : stepH s d r x = r := by unfold stepH; rw [if_neg h]
theorem step_held {s d : Int} {r : Rng} {x : Tst} (h : x.soil = s) (hh : x.held = true) : stepH s d r x = ⟨if r.lo < x.force * d / x.depth then x.force * d / x.depth else r.lo, r.hi⟩ := by
  unfold stepH; rw [if_pos h, if_pos hh]; congr 1; omega
theorem step_broke {s d : Int} {r : Rng} {x : Tst} (h : x.soil = s) (hh : x.held = false) : stepH s d r x = ⟨r.lo, if (x.force * d + x.depth - 1) / x.depth - 1 < r.hi then (x.force * d + x.depth - 1) / x.depth - 1 else r.hi⟩ := by
  unfold stepH; rw [if_pos h, if_neg (by rw [hh]; decide)]; congr 1; omega
set_option maxRecDepth 100000 in
set_option maxHeartbeats 4000000 in
theorem holds_any (S : Nat → Prop) (l : List Tst) (s d : Int) (v : Value) (w : World) (hv : SL S w v l) (hl : l.all tstB = true) (hd : 1 ≤ d ∧ d ≤ 3000) :
    Calls Tryz.prog 109 #[v, .int .i64 s, .int .i64 d] w fun e w' => e = .returned (.agg #[.int .i64 (holdsL l s d).lo, .int .i64 (holdsL l s d).hi]) ∧ Step w w' := by
  have hm := hv.len
  obtain ⟨pv, cv, b, o, rfl, _, _, hp, hc, _⟩ := hv.tsts
  have HP := Lib.hid (And.intro hp hc)
  have HL := Lib.hid hl
  have HD := Lib.hid hd
  obtain ⟨W0, hW0⟩ : ∃ W, W = (w.alloc (.cells #[.int .i64 0, .int .i64 0] 168)).alloc (.cells #[.int .i64 0, .int .i64 10000000] 168) := ⟨_, rfl⟩
  have hb1 : Bx W0 w.heap.size [.int .i64 0, .int .i64 0] 168 := by subst hW0; exact (Bx.new w [_, _] _).alloc _
  have hb2 : Bx W0 (w.heap.size + 1) [.int .i64 0, .int .i64 10000000] 168 := by subst hW0; exact Bx.new' _ [_, _] _ _ (by simp)
  have hS : Step w W0 := by subst hW0; exact (by repeat (first | (with_reducible assumption) | (with_reducible exact Step.refl _) | (with_reducible apply Step.s_alloc) | (with_reducible apply Step.s_drew) | (with_reducible apply Step.s_drewN) | (with_reducible refine Step.trans ?_ (by with_reducible assumption))))
  have HB1 := Lib.hid hb1
  have HB2 := Lib.hid hb2
  have HS := Lib.hid hS
  have HW := Lib.hid hW0
  clear hp hc hl hd hv hb1 hb2 hS hW0
  go_enter Tryz.func109, Tryz.ntmps109
  go_wp2
  rw [← HW.out]
  go_loopw [13] (fun i wr => ∃ k : Nat, k ≤ l.length ∧ i = .int .i64 k ∧ Bx wr w.heap.size [.int .i64 0, .int .i64 0] 168 ∧ Bx wr (w.heap.size + 1) [.int .i64 (holdsL (l.take k) s d).lo, .int .i64 (holdsL (l.take k) s d).hi] 168 ∧ Step w wr) (fun i _ => l.length - (intOf i).toNat)
  case atStart => exact ⟨0, Nat.zero_le _, rfl, HB1.out, HB2.out, HS.out⟩
  case round =>
    obtain ⟨k, hk, rfl, hb1, hb2, hT⟩ := hrel
    have HT := Lib.hid hT
    have HB1 := Lib.hid hb1
    have HB2 := Lib.hid hb2
    clear hT hb1 hb2
    obtain ⟨r, hr⟩ : ∃ r, r = holdsL (l.take k) s d := ⟨_, rfl⟩
    rw [← hr] at HB2
    have HR := Lib.hid hr
    clear hr
    have r0 := HB2.out.cell 0
    have r1 := HB2.out.cell 1
    have z0 := HB2.out.frozen 0
    have z1 := HB2.out.frozen 1
    have rl := HB2.out.lt
    simp only [List.getElem?_cons_zero, List.getElem?_cons_succ] at r0 r1
    by_cases hlt : k < l.length
    · obtain rfl := HP.out.1 (by omega)
      obtain ⟨e1, e2, e3, e4⟩ := HP.out.2 k hlt
      have e1 := HT.out.keeps.cell id e1
      have e2 := HT.out.keeps.cell id e2
      have e3 := HT.out.keeps.cell id e3
      have e4 := HT.out.keeps.cell id e4
      have hix : (0 : Int) ≤ (k : Int) ∧ (k : Int) < (l.length : Int) := by omega
      obtain ⟨x, hx⟩ : ∃ x, x = l[k] := ⟨_, rfl⟩
      have htx := all_get HL.out hlt
      rw [← hx] at e1 e2 e3 e4 htx
      have HTK := Lib.hid (show holdsL (l.take (k + 1)) s d = stepH s d r x by rw [holds_take hlt, ← HR.out, ← hx])
      clear hx
      obtain ⟨hw1, hw2, hw3⟩ := quo_wrap htx HD.out
      obtain ⟨hw4, hw5, hw6, hw7⟩ := top_wrap htx HD.out
      clear htx
      by_cases hs : x.soil = s
      · have hd : (x.soil != s) = false := by simpa using hs
        have HSO := Lib.hid hs
        clear hs
        cases hh : x.held with
        | true =>
          rw [hh] at e4
          have HN := Lib.hid (HTK.out.trans (step_held HSO.out hh))
          clear hh
          go_wp2
          go_region
          go_wp2
          go_roundw
          case rel => exact ⟨k + 1, by omega, by go_num, ((HB1.out.setOther (Nat.ne_of_lt (Nat.lt_succ_self _))).alloc _).step (.drew _), by rw [HN.out]; exact ((HB2.out.setCell 0 _).alloc _).step (.drew _), ((HT.out.setNew ⟨w.heap.size + 1, 0, none⟩ _ (by show w.heap.size ≤ w.heap.size + 1; omega)).trans (Step.alloc _ _)).trans (.drew _)⟩
          case measure => simp [intOf]; omega
        | false =>
          rw [hh] at e4
          have HN := Lib.hid (HTK.out.trans (step_broke HSO.out hh))
          clear hh
          go_wp2
          go_region
          go_wp2
          go_roundw
          case rel => exact ⟨k + 1, by omega, by go_num, ((HB1.out.setOther (Nat.ne_of_lt (Nat.lt_succ_self _))).alloc _).step (.drew _), by rw [HN.out]; exact ((HB2.out.setCell 1 _).alloc _).step (.drew _), ((HT.out.setNew ⟨w.heap.size + 1, 1, none⟩ _ (by show w.heap.size ≤ w.heap.size + 1; omega)).trans (Step.alloc _ _)).trans (.drew _)⟩
          case measure => simp [intOf]; omega
      · have hd : (x.soil != s) = true := by simpa using hs
        have HN := Lib.hid (HTK.out.trans (step_no hs))
        clear hs
        go_wp2
        go_roundw
        case rel => exact ⟨k + 1, by omega, by go_num, HB1.out.alloc _, by rw [HN.out]; exact HB2.out.alloc _, HT.out.trans (Step.alloc _ _)⟩
        case measure => simp [intOf]; omega
    · have HN := Lib.hid (show r = holdsL l s d by rw [HR.out, List.take_of_length_le (by omega)])
      have a0 := HB1.out.cell 0
      have a1 := HB1.out.cell 1
      have y0 := HB1.out.frozen 0
      have y1 := HB1.out.frozen 1
      have yl := HB1.out.lt
      simp only [List.getElem?_cons_zero, List.getElem?_cons_succ] at a0 a1
      go_wp2
      have b2 := set2 HB1.out (.int .i64 r.lo) (.int .i64 r.hi)
      exact ret_struct (k := 2) rfl siRange rfl b2.1 rfl rfl ⟨by rw [HN.out], StepX.fresh HT.out b2.2 (fun j hj => by omega)⟩
end Go.Proofs.YtoanjaidfdkdpaaGreat
/- Walks: what a stake holds, and the length of a pull: the document's way; the program's length. -/
namespace Go.Proofs.YtoanjaidfdkdpaaGreat
set_option linter.unusedSimpArgs false
set_option linter.unusedVariables false
open Go.RowKit Go.BT

theorem back_wrap {x : Tst} {d : Int} (h : tstB x = true) (hd : 1 ≤ d ∧ d ≤ 3000) : IntKind.i64.wrap (x.force * d / x.depth * x.depth) = x.force * d / x.depth * x.depth ∧ IntKind.i64.wrap (x.force * d / x.depth + 1) = x.force * d / x.depth + 1 ∧ IntKind.i64.wrap (x.force * d / x.depth - 1) = x.force * d / x.depth - 1 ∧ IntKind.i64.wrap (x.force * d / x.depth) = x.force * d / x.depth := by
  have h1 := force_bound h hd
  have h2 := quo_bound h hd
  obtain ⟨_, h3, _⟩ := tst_parts h
  have h4 := Int.ediv_mul_le (x.force * d) (show x.depth ≠ 0 by omega)
  have h5 := Int.mul_nonneg h2.1 (show 0 ≤ x.depth by omega)
  rw [IntKind.wrap_i64, IntKind.wrap_i64, IntKind.wrap_i64, IntKind.wrap_i64]
  omega
theorem top_up {x : Tst} {d : Int} (h : tstB x = true) (hd : 1 ≤ d ∧ d ≤ 3000) (hq : x.force * d / x.depth * x.depth < x.force * d) : (x.force * d + x.depth - 1) / x.depth = x.force * d / x.depth + 1 := by
  rw [up_quo (force_bound h hd).1 (tst_parts h).2.1.1, if_pos hq]
theorem top_same {x : Tst} {d : Int} (h : tstB x = true) (hd : 1 ≤ d ∧ d ≤ 3000) (hq : ¬ x.force * d / x.depth * x.depth < x.force * d) : (x.force * d + x.depth - 1) / x.depth = x.force * d / x.depth := by
  rw [up_quo (force_bound h hd).1 (tst_parts h).2.1.1, if_neg hq]
theorem sq_mono {a b : Int} (h0 : 0 ≤ a) (h : a ≤ b) : a * a ≤ b * b := Int.mul_le_mul h h h0 (by omega)
theorem guy_wrap {g : Guy} (h : guyB g = true) : IntKind.i64.wrap (g.x * g.x) = g.x * g.x ∧ IntKind.i64.wrap (g.y * g.y) = g.y * g.y ∧ IntKind.i64.wrap (g.x * g.x + g.y * g.y) = g.x * g.x + g.y * g.y := by
  obtain ⟨hx, hy, _⟩ := guy_parts h
  have a := sq_bound hx
  have b := sq_bound hy
  rw [IntKind.wrap_i64, IntKind.wrap_i64, IntKind.wrap_i64]
  omega
set_option maxHeartbeats 1000000 in
theorem length_any (g : Guy) (w : World) (hg : guyB g = true) :
    Calls Tryz.prog 110 #[.agg #[.int .i64 g.x, .int .i64 g.y, .int .i64 g.down, .int .i64 g.soil, .int .i64 g.depth]] w fun e w' => e = .returned (.int .i64 (lenL (g.x * g.x + g.y * g.y))) ∧ Step w w' := by
  obtain ⟨hw1, hw2, hw3⟩ := guy_wrap hg
  have hq := guy_sq hg
  obtain ⟨n, hn⟩ : ∃ n, n = lenL (g.x * g.x + g.y * g.y) := ⟨_, rfl⟩
  have hlen := len_sq hq.1 (by omega)
  rw [← hn] at hlen ⊢
  have HLEN := Lib.hid hlen
  have HS := Lib.hid (Step.alloc w (.cells #[.int .i64 g.x, .int .i64 g.y, .int .i64 g.down, .int .i64 g.soil, .int .i64 g.depth] 108))
  clear hn hlen hq hg
  go_enter Tryz.func110, Tryz.ntmps110
  go_wp2
  obtain ⟨q, hq⟩ : ∃ q, q = g.x * g.x + g.y * g.y := ⟨_, rfl⟩
  rw [← hq] at HLEN ⊢
  generalize w.alloc (.cells #[.int .i64 g.x, .int .i64 g.y, .int .i64 g.down, .int .i64 g.soil, .int .i64 g.depth] 108) = W0 at *
  clear hq hw3
  go_loopw [4, 5] (fun i j wr => ∃ a b : Int, 0 ≤ a ∧ a ≤ n ∧ n ≤ b ∧ b ≤ 10000 ∧ i = .int .i64 a ∧ j = .int .i64 b ∧ Step W0 wr) (fun i j _ => (intOf j - intOf i).toNat)
  case atStart => exact ⟨0, 10000, by omega, by have := HLEN.out; omega, by have := HLEN.out; omega, by omega, rfl, rfl, Step.refl _⟩
  case round =>
    obtain ⟨a, b, h0, h1, h2, h3, rfl, rfl, hT⟩ := hrel
    have HT := Lib.hid hT
    clear hT
    by_cases hlt : a < b
    · have hd : decide (a < b) = true := by simpa using hlt
      obtain ⟨m, hm⟩ : ∃ m, m = (a + b) / 2 := ⟨_, rfl⟩
      have hmb : a ≤ m ∧ m < b := by omega
      have hw4 : IntKind.i64.wrap (a + b) = a + b := by rw [IntKind.wrap_i64]; omega
      have hw5 : IntKind.i64.wrap ((a + b).tdiv 2) = m := by rw [Int.tdiv_eq_ediv_of_nonneg (by omega), IntKind.wrap_i64]; omega
      have hk2 := sq_mono (show 0 ≤ m by omega) (show m ≤ 10000 by omega)
      have hw6 : IntKind.i64.wrap (m * m) = m * m := by rw [IntKind.wrap_i64]; have := Zono.sq_nonneg m; omega
      have hw7 : IntKind.i64.wrap (m + 1) = m + 1 := by rw [IntKind.wrap_i64]; omega
      by_cases hge : q ≤ m * m
      · have hd2 : decide (q ≤ m * m) = true := by simpa using hge
        have hmn : n ≤ m := by
          refine Int.not_lt.1 fun h => ?_
          have := sq_mono (show 0 ≤ m by omega) (show m ≤ n - 1 by omega)
          have := HLEN.out
          omega
        clear hk2 hge hm
        go_wp2
        go_roundw
        case rel => exact ⟨a, m, h0, h1, hmn, by omega, rfl, rfl, HT.out⟩
        case measure => simp [intOf]; omega
      · have hd2 : decide (q ≤ m * m) = false := by simpa using hge
        have hmn : m < n := by
          refine Int.not_le.1 fun h => ?_
          have := sq_mono (show 0 ≤ n by have := HLEN.out; omega) h
          have := HLEN.out
          omega
        clear hk2 hge hm
        go_wp2
        go_roundw
        case rel => exact ⟨m + 1, b, by omega, by omega, h2, h3, rfl, rfl, HT.out⟩
        case measure => simp [intOf]; omega
    · have hd : decide (a < b) = false := by simpa using hlt
      have hab : a = n := by omega
      have HK := Lib.hid hab
      clear hab hlt
      go_wp2
      go_ret
      exact ⟨by rw [← HK.out]; rfl, HS.out.trans HT.out⟩
end Go.Proofs.YtoanjaidfdkdpaaGreat
/- Walks: the part of a guy: the program's way and the document's. -/
namespace Go.Proofs.YtoanjaidfdkdpaaGreat
set_option linter.unusedSimpArgs false
set_option linter.unusedVariables false
open Go.RowKit Go.BT

theorem field_range (a b : Value) (w : World) : (Instr.field 168 (.agg #[a, b]) 0).run Tryz.prog w = .ok a w := by kernel_rfl
attribute [local go_sem] field_range
theorem cells5 {w : World} {g : Nat} {c0 c1 c2 c3 c4 : Value} {T : TypeId} (h : Bx w g [c0, c1, c2, c3, c4] T) :
    w.cell? ⟨g, 0, none⟩ = some c0 ∧ w.cell? ⟨g, 1, none⟩ = some c1 ∧ w.cell? ⟨g, 2, none⟩ = some c2 ∧ w.cell? ⟨g, 3, none⟩ = some c3 ∧ w.cell? ⟨g, 4, none⟩ = some c4 :=
  ⟨h.cell 0, h.cell 1, h.cell 2, h.cell 3, h.cell 4⟩
theorem part_wrap {l : List Tst} {g : Guy} (hl : l.all tstB = true) (hg : guyB g = true) : IntKind.i64.wrap (100 * (holdsL l g.soil g.depth).lo) = 100 * (holdsL l g.soil g.depth).lo ∧ IntKind.i64.wrap ((100 * (holdsL l g.soil g.depth).lo).tdiv (lenL (g.x * g.x + g.y * g.y))) = 100 * (holdsL l g.soil g.depth).lo / lenL (g.x * g.x + g.y * g.y) ∧ ¬ lenL (g.x * g.x + g.y * g.y) = 0 := by
  have hb := holds_bound (s := g.soil) hl (guy_parts hg).2.2.2.2.2
  have hs := guy_sq hg
  have hn := len_sq hs.1 (by omega)
  have h1 := Int.ediv_nonneg (show 0 ≤ 100 * (holdsL l g.soil g.depth).lo by omega) (show 0 ≤ lenL (g.x * g.x + g.y * g.y) by omega)
  have h2 := Int.ediv_le_self (lenL (g.x * g.x + g.y * g.y)) (show 0 ≤ 100 * (holdsL l g.soil g.depth).lo by omega)
  rw [Int.tdiv_eq_ediv_of_nonneg (by omega), IntKind.wrap_i64, IntKind.wrap_i64]
  omega
theorem part_if {l : List Tst} {g : Guy} : partL l g = if 100 * (holdsL l g.soil g.depth).lo / lenL (g.x * g.x + g.y * g.y) < 100 then 100 * (holdsL l g.soil g.depth).lo / lenL (g.x * g.x + g.y * g.y) else 100 := by unfold partL; omega
set_option maxRecDepth 100000 in
set_option maxHeartbeats 2000000 in
theorem part_any (S : Nat → Prop) (l : List Tst) (g : Guy) (v : Value) (w : World) (hv : SL S w v l) (hl : l.all tstB = true) (hg : guyB g = true) :
    Calls Tryz.prog 91 #[.agg #[.int .i64 g.x, .int .i64 g.y, .int .i64 g.down, .int .i64 g.soil, .int .i64 g.depth], v] w fun e w' => e = .returned (.int .i64 (partL l g)) ∧ Step w w' := by
  obtain ⟨hw1, hw2, hw3⟩ := part_wrap hl hg
  have hdp := (guy_parts hg).2.2.2.2.2
  obtain ⟨W0, hW0⟩ : ∃ W, W = w.alloc (.cells #[.int .i64 g.x, .int .i64 g.y, .int .i64 g.down, .int .i64 g.soil, .int .i64 g.depth] 108) := ⟨_, rfl⟩
  have hb : Bx W0 w.heap.size [.int .i64 g.x, .int .i64 g.y, .int .i64 g.down, .int .i64 g.soil, .int .i64 g.depth] 108 := by subst hW0; exact Bx.new w [_, _, _, _, _] _
  have hS : Step w W0 := by subst hW0; exact Step.alloc _ _
  have HV := Lib.hid (hv.keep (.of_step hS))
  obtain ⟨pv, cv, rfl⟩ := hv.form
  have HB := Lib.hid hb
  have HS := Lib.hid hS
  have HW := Lib.hid hW0
  have HL := Lib.hid (And.intro hl (And.intro hg hdp))
  have HT := Lib.hid (Step.refl W0)
  clear hb hS hW0 hl hg hdp hv
  go_enter Tryz.func91, Tryz.ntmps91
  go_upto_region 1 with (fail)
  rw [← HW.out]
  refine wp_region_seq (kdOf [5, 9] []) [0, 0, 2, 0, 8, 31, 63, 127, 0, 319, 1023, 2047, 4095] [0, 1, 2, 3, 4, 8, 5, 6, 7, 9, 10, 11, 12] [] (by kernel_rfl) (by kernel_rfl) (fun i T z hi hk => by simp [kdOf] at hk <;> (try (split at hk <;> cases hk))) ?_
  intro Wx hWx
  have HTx := Lib.hid (HT.out.trans hWx)
  clear hWx HT
  have HT := HTx
  clear HTx
  obtain ⟨e0, e1, e2, e3, e4⟩ := cells5 (HB.out.step HT.out)
  repeat (first | (refine run_off rfl rfl (by rfl) ?_; (try simp only [Act.put, List.setIfInBounds_toArray, List.set_cons_zero, List.set_cons_succ])) | (refine run_chain_off rfl rfl (by rfl) (K0_mono _) ?_; (try simp only [Act.put, List.setIfInBounds_toArray, List.set_cons_zero, List.set_cons_succ])) | ((refine run_want rfl rfl (by rfl) ⟨?_, fun W hW => ?_, ?_⟩; rotate_left; (· (have d0 := hW.keeps.cell id e0; have d1 := hW.keeps.cell id e1; have d2 := hW.keeps.cell id e2; have d3 := hW.keeps.cell id e3; have d4 := hW.keeps.cell id e4; go_simp; (try with_reducible rfl)))); (try simp only [Act.put, List.setIfInBounds_toArray, List.set_cons_zero, List.set_cons_succ])))
  refine run_chain rfl rfl (by rfl) (fun Wi hWi K' hK => ?_)
  have HTi := Lib.hid (HT.out.trans hWi)
  have HZW := Lib.hid HTi.out.size
  clear hWi HT
  go_simp
  refine (holds_any S l g.soil g.depth _ _ (HV.out.keep (.of_step HTi.out)) HL.out.1 HL.out.2.2).mono ?_
  rintro e wn ⟨rfl, hSn⟩
  have HT := Lib.hid (HTi.out.trans (StepX.of hSn))
  clear HTi
  refine hK _ _ (StepX.of hSn) ?_
  clear hSn
  (try simp only [Act.put, List.setIfInBounds_toArray, List.set_cons_zero, List.set_cons_succ])
  clear e0 e1 e2 e3 e4
  obtain ⟨e0, e1, e2, e3, e4⟩ := cells5 (HB.out.step HT.out)
  repeat (first | (refine run_off rfl rfl (by rfl) ?_; (try simp only [Act.put, List.setIfInBounds_toArray, List.set_cons_zero, List.set_cons_succ])) | (refine run_chain_off rfl rfl (by rfl) (K0_mono _) ?_; (try simp only [Act.put, List.setIfInBounds_toArray, List.set_cons_zero, List.set_cons_succ])) | ((refine run_want rfl rfl (by rfl) ⟨?_, fun W hW => ?_, ?_⟩; rotate_left; (· (have d0 := hW.keeps.cell id e0; have d1 := hW.keeps.cell id e1; have d2 := hW.keeps.cell id e2; have d3 := hW.keeps.cell id e3; have d4 := hW.keeps.cell id e4; go_simp; (try with_reducible rfl)))); (try simp only [Act.put, List.setIfInBounds_toArray, List.set_cons_zero, List.set_cons_succ])))
  refine run_chain rfl rfl (by rfl) (fun Wi hWi K' hK => ?_)
  have HTi := Lib.hid (HT.out.trans hWi)
  have HZW := Lib.hid HTi.out.size
  clear hWi HT
  go_simp
  refine (length_any g _ HL.out.2.1).mono ?_
  rintro e wn ⟨rfl, hSn⟩
  have HT := Lib.hid (HTi.out.trans (StepX.of hSn))
  clear HTi
  refine hK _ _ (StepX.of hSn) ?_
  clear hSn
  (try simp only [Act.put, List.setIfInBounds_toArray, List.set_cons_zero, List.set_cons_succ])
  repeat (first | (refine run_off rfl rfl (by rfl) ?_; (try simp only [Act.put, List.setIfInBounds_toArray, List.set_cons_zero, List.set_cons_succ])) | (refine run_chain_off rfl rfl (by rfl) (K0_mono _) ?_; (try simp only [Act.put, List.setIfInBounds_toArray, List.set_cons_zero, List.set_cons_succ])) | ((refine run_want rfl rfl (by rfl) ⟨?_, fun W hW => ?_, ?_⟩; rotate_left; (· (skip; go_simp; (try with_reducible rfl)))); (try simp only [Act.put, List.setIfInBounds_toArray, List.set_cons_zero, List.set_cons_succ])))
  refine run_end (L := []) rfl (fun W6 hW6 => ?_)
  have HT6 := Lib.hid (HT.out.trans hW6)
  clear hW6 HT
  have HT := HT6
  clear HT6
  clear hw1 hw2 hw3 e0 e1 e2 e3 e4
  rw [← part_if (l := l) (g := g)]
  go_wp2
  go_ret
  exact ⟨rfl, HS.out.trans HT.out⟩
end Go.Proofs.YtoanjaidfdkdpaaGreat
/- Walks: ranges of strength, names, corners; the document's names. -/
namespace Go.Proofs.YtoanjaidfdkdpaaGreat
set_option linter.unusedSimpArgs false
set_option linter.unusedVariables false
open Go.RowKit Go.BT

theorem gale.within_any (n lo hi : Int) (w : World) : Calls Tryz.prog 36 #[.int .i64 n, .int .i64 lo, .int .i64 hi] w fun e w' => e = .returned (.bool (withinB n lo hi)) ∧ w = w' := by
  by_cases h1 : lo ≤ n
  · go_enter Tryz.func36, Tryz.ntmps36
    go_wp2
    go_ret
    exact ⟨by simp [withinB, h1], rfl⟩
  · have hd : decide (lo ≤ n) = false := by simpa using h1
    go_enter Tryz.func36, Tryz.ntmps36
    go_wp2
    go_ret
    exact ⟨by simp [withinB]; omega, rfl⟩
theorem strong_any (r : Rng) (w : World) : Calls Tryz.prog 84 #[.agg #[.int .i64 r.lo, .int .i64 r.hi]] w fun e w' => e = .returned (.bool (rangeB r)) ∧ Step w w' := by
  obtain ⟨lo, hi⟩ := r
  dsimp only
  by_cases h1 : 0 ≤ lo
  · have d1 : decide (0 ≤ lo) = true := by simpa using h1
    by_cases h2 : lo ≤ hi
    · have d2 : decide (lo ≤ hi) = true := by simpa using h2
      go_enter Tryz.func84, Tryz.ntmps84
      go_wp2
      go_ret
      exact ⟨by simp [rangeB, h1, h2], (by repeat (first | (with_reducible assumption) | (with_reducible exact Step.refl _) | (with_reducible apply Step.s_alloc) | (with_reducible apply Step.s_drew) | (with_reducible apply Step.s_drewN) | (with_reducible refine Step.trans ?_ (by with_reducible assumption))))⟩
    · have d2 : decide (lo ≤ hi) = false := by simpa using h2
      go_enter Tryz.func84, Tryz.ntmps84
      go_wp2
      go_ret
      exact ⟨by simp [rangeB]; omega, (by repeat (first | (with_reducible assumption) | (with_reducible exact Step.refl _) | (with_reducible apply Step.s_alloc) | (with_reducible apply Step.s_drew) | (with_reducible apply Step.s_drewN) | (with_reducible refine Step.trans ?_ (by with_reducible assumption))))⟩
  · have d1 : decide (0 ≤ lo) = false := by simpa using h1
    go_enter Tryz.func84, Tryz.ntmps84
    go_wp2
    go_ret
    exact ⟨by simp [rangeB]; omega, (by repeat (first | (with_reducible assumption) | (with_reducible exact Step.refl _) | (with_reducible apply Step.s_alloc) | (with_reducible apply Step.s_drew) | (with_reducible apply Step.s_drewN) | (with_reducible refine Step.trans ?_ (by with_reducible assumption))))⟩
theorem Strong_any (r : Rng) (w : World) : Calls Tryz.prog 25 #[.agg #[.int .i64 r.lo, .int .i64 r.hi]] w fun e w' => e = .returned (.bool (rangeB r)) ∧ Step w w' := by
  obtain ⟨lo, hi⟩ := r
  dsimp only
  by_cases h1 : 0 ≤ lo
  · have d1 : decide (0 ≤ lo) = true := by simpa using h1
    by_cases h2 : lo ≤ hi
    · have d2 : decide (lo ≤ hi) = true := by simpa using h2
      go_enter Tryz.func25, Tryz.ntmps25
      go_wp2
      go_ret
      exact ⟨by simp [rangeB, h1, h2], (by repeat (first | (with_reducible assumption) | (with_reducible exact Step.refl _) | (with_reducible apply Step.s_alloc) | (with_reducible apply Step.s_drew) | (with_reducible apply Step.s_drewN) | (with_reducible refine Step.trans ?_ (by with_reducible assumption))))⟩
    · have d2 : decide (lo ≤ hi) = false := by simpa using h2
      go_enter Tryz.func25, Tryz.ntmps25
      go_wp2
      go_ret
      exact ⟨by simp [rangeB]; omega, (by repeat (first | (with_reducible assumption) | (with_reducible exact Step.refl _) | (with_reducible apply Step.s_alloc) | (with_reducible apply Step.s_drew) | (with_reducible apply Step.s_drewN) | (with_reducible refine Step.trans ?_ (by with_reducible assumption))))⟩
  · have d1 : decide (0 ≤ lo) = false := by simpa using h1
    go_enter Tryz.func25, Tryz.ntmps25
    go_wp2
    go_ret
    exact ⟨by simp [rangeB]; omega, (by repeat (first | (with_reducible assumption) | (with_reducible exact Step.refl _) | (with_reducible apply Step.s_alloc) | (with_reducible apply Step.s_drew) | (with_reducible apply Step.s_drewN) | (with_reducible refine Step.trans ?_ (by with_reducible assumption))))⟩
theorem corner_gale (v : Vec) (w : World) : Calls Tryz.prog 53 #[.agg #[.int .i64 v.x, .int .i64 v.y]] w fun e w' => e = .returned (.bool (baseB v)) ∧ Step w w' := by
  obtain ⟨x, y⟩ := v
  dsimp only
  go_enter Tryz.func53, Tryz.ntmps53
  go_wp2_with fail
  refine (gale.within_any _ _ _ _).mono ?_
  rintro e w' ⟨rfl, rfl⟩
  cases q0 : withinB x (-100) 100 with
  | false =>
    go_wp2
    go_ret
    exact ⟨by simp [baseB, q0], (by repeat (first | (with_reducible assumption) | (with_reducible exact Step.refl _) | (with_reducible apply Step.s_alloc) | (with_reducible apply Step.s_drew) | (with_reducible apply Step.s_drewN) | (with_reducible refine Step.trans ?_ (by with_reducible assumption))))⟩
  | true =>
    go_wp2_with fail
    refine (gale.within_any _ _ _ _).mono ?_
    rintro e w' ⟨rfl, rfl⟩
    cases q1 : withinB y (-100) 100 with
    | false =>
      go_wp2
      go_ret
      exact ⟨by simp [baseB, q0, q1], (by repeat (first | (with_reducible assumption) | (with_reducible exact Step.refl _) | (with_reducible apply Step.s_alloc) | (with_reducible apply Step.s_drew) | (with_reducible apply Step.s_drewN) | (with_reducible refine Step.trans ?_ (by with_reducible assumption))))⟩
    | true =>
      go_wp2
      go_ret
      exact ⟨by simp [baseB, q0, q1], (by repeat (first | (with_reducible assumption) | (with_reducible exact Step.refl _) | (with_reducible apply Step.s_alloc) | (with_reducible apply Step.s_drew) | (with_reducible apply Step.s_drewN) | (with_reducible refine Step.trans ?_ (by with_reducible assumption))))⟩
theorem byte_int (c : UInt8) : IntKind.i64.wrap (c.toNat : Int) = (c.toNat : Int) := by
  have := c.toNat_lt
  rw [IntKind.wrap_i64]; omega
theorem named1_any (c : UInt8) (w : World) : Calls Tryz.prog 117 #[.int .u8 (c.toNat : Int)] w fun e w' => e = .returned (.bool (letterB c || digitB c)) ∧ Step w w' := by
  have hb := byte_int c
  go_enter Tryz.func117, Tryz.ntmps117
  go_wp2_with fail
  refine (gale.within_any _ _ _ _).mono ?_
  rintro e w' ⟨rfl, rfl⟩
  have hl : withinB (c.toNat : Int) 97 122 = letterB c := by simp only [withinB, letterB]; congr 1 <;> (apply decide_eq_decide.2; omega)
  have hd : withinB (c.toNat : Int) 48 57 = digitB c := by simp only [withinB, digitB]; congr 1 <;> (apply decide_eq_decide.2; omega)
  rw [hl]
  cases q0 : letterB c with
  | true =>
    go_wp2
    go_ret
    exact ⟨by rw [q0]; rfl, (by repeat (first | (with_reducible assumption) | (with_reducible exact Step.refl _) | (with_reducible apply Step.s_alloc) | (with_reducible apply Step.s_drew) | (with_reducible apply Step.s_drewN) | (with_reducible refine Step.trans ?_ (by with_reducible assumption))))⟩
  | false =>
    go_wp2_with fail
    refine (gale.within_any _ _ _ _).mono ?_
    rintro e w' ⟨rfl, rfl⟩
    rw [hd]
    cases q1 : digitB c with
    | true =>
      go_wp2
      go_ret
      exact ⟨by rw [q0, q1]; rfl, (by repeat (first | (with_reducible assumption) | (with_reducible exact Step.refl _) | (with_reducible apply Step.s_alloc) | (with_reducible apply Step.s_drew) | (with_reducible apply Step.s_drewN) | (with_reducible refine Step.trans ?_ (by with_reducible assumption))))⟩
    | false =>
      go_wp2
      go_ret
      exact ⟨by rw [q0, q1]; rfl, (by repeat (first | (with_reducible assumption) | (with_reducible exact Step.refl _) | (with_reducible apply Step.s_alloc) | (with_reducible apply Step.s_drew) | (with_reducible apply Step.s_drewN) | (with_reducible refine Step.trans ?_ (by with_reducible assumption))))⟩
/-- The byte at a place. -/
def charB (s : ByteArray) (k : Nat) : Bool := letterB (s.data.getD k 0) || (decide (k ≠ 0) && digitB (s.data.getD k 0))
theorem getD_at {s : ByteArray} {k : Nat} (hk : k < s.data.size) : s.data.getD k 0 = s.data[k] := by
  rw [Array.getD_eq_getD_getElem?, Array.getElem?_eq_getElem hk]; rfl
theorem name_chars {s : ByteArray} (h : ∀ j, j < s.size → charB s j = true) : nameB s = (decide (1 ≤ s.size) && decide (s.size ≤ 16)) := by
  have ha : (s.data.toList.all fun c => letterB c || digitB c) = true := by
    rw [List.all_eq_true]
    intro c hc
    obtain ⟨j, hj, rfl⟩ := List.getElem_of_mem hc
    have h1 := h j (by simpa using hj)
    have hj' : j < s.data.size := by simpa using hj
    simp only [charB, getD_at hj'] at h1
    simp only [Array.getElem_toList]
    cases q : letterB s.data[j] with
    | true => rfl
    | false => rw [q] at h1; simp only [Bool.false_or, Bool.and_eq_true] at h1; simpa using h1.2
  by_cases h1 : 1 ≤ s.size
  · have h2 := h 0 (by omega)
    simp only [charB, ne_eq, not_true_eq_false, decide_false, Bool.false_and, Bool.or_false] at h2
    unfold nameB
    rw [ha, h2]; simp
  · unfold nameB; simp [h1]
theorem name_not {s : ByteArray} {k : Nat} (hk : k < s.size) (h : charB s k = false) : nameB s = false := by
  have hk' : k < s.data.size := hk
  simp only [charB, Bool.or_eq_false_iff, Bool.and_eq_false_iff] at h
  obtain ⟨h1, h2⟩ := h
  unfold nameB
  by_cases e : k = 0
  · subst e; rw [h1]; simp
  · have h3 : digitB (s.data.getD k 0) = false := h2.resolve_left (by simpa using e)
    have : (s.data.toList.all fun c => letterB c || digitB c) = false := by
      rw [List.all_eq_false]
      refine ⟨s.data.getD k 0, ?_, by rw [h1, h3]; decide⟩
      rw [getD_at hk', ← Array.getElem_toList]
      exact List.getElem_mem _
    rw [this, Bool.and_false]
theorem bytes_at (s : ByteArray) (k : Nat) (hk : k < s.size) : s[k] = s.data.getD k 0 := by
  have hk' : k < s.data.size := hk
  rw [getD_at hk']; rfl



set_option maxHeartbeats 4000000 in
theorem Name_any (s : ByteArray) (w : World) (hs : s.size ≤ 9223372036854775807) : Calls Tryz.prog 26 #[.string s] w fun e w' => e = .returned (.bool (nameB s)) ∧ Step w w' := by
  go_enter Tryz.func26, Tryz.ntmps26
  go_wp2
  go_loopw [3] (fun i wr => ∃ k : Nat, k ≤ s.size ∧ i = .int .i64 k ∧ (∀ j, j < k → charB s j = true) ∧ Step w wr) (fun i _ => s.size - (intOf i).toNat)
  case atStart => exact ⟨0, Nat.zero_le _, rfl, fun j hj => absurd hj (by omega), Step.refl _⟩
  case round =>
    obtain ⟨k, hk, rfl, hall, hT⟩ := hrel
    have HALL := Lib.hid hall
    have HT := Lib.hid hT
    clear hall hT
    by_cases hlt : k < s.size
    · have hix : (0 : Int) ≤ (k : Int) ∧ (k : Int) < (s.size : Int) := by omega
      have hat := bytes_at s k hlt
      obtain ⟨c, hc⟩ : ∃ c, c = s.data.getD k 0 := ⟨_, rfl⟩
      rw [← hc] at hat
      have HC := Lib.hid (show charB s k = (letterB c || (decide (k ≠ 0) && digitB c)) by unfold charB; rw [← hc])
      clear hc
      have HX := Lib.hid hix
      by_cases a1 : (97 : Int) ≤ (c.toNat : Int)
      · have d1 : decide ((97 : Int) ≤ (c.toNat : Int)) = true := by simpa using a1
        by_cases a2 : (c.toNat : Int) ≤ 122
        · have d2 : decide ((c.toNat : Int) ≤ 122) = true := by simpa using a2
          have HY := Lib.hid (show charB s k = true by rw [HC.out]; unfold letterB; simp; omega)
          clear a1 a2
          go_wp2
          go_roundw
          case rel => exact ⟨k + 1, by omega, by go_num, fun j hj => if e : j = k then by subst e; exact HY.out else HALL.out j (by omega), HT.out⟩
          case measure => simp [intOf]; omega
        · have d2 : decide ((c.toNat : Int) ≤ 122) = false := by simpa using a2
          have d3 : decide ((c.toNat : Int) < 48) = false := by simp; omega
          have d4 : decide ((57 : Int) < (c.toNat : Int)) = true := by simp; omega
          have HN := Lib.hid (show charB s k = false by rw [HC.out]; unfold letterB digitB; simp; omega)
          clear a1 a2
          by_cases k0 : k = 0
          · have dk : ((k : Int) == 0) = true := by simp; omega
            clear k0
            go_wp2
            go_ret
            exact ⟨by rw [name_not hlt HN.out]; rfl, HT.out⟩
          · have dk : ((k : Int) == 0) = false := by simp; omega
            clear k0
            go_wp2
            go_ret
            exact ⟨by rw [name_not hlt HN.out]; rfl, HT.out⟩
      · have d1 : decide ((97 : Int) ≤ (c.toNat : Int)) = false := by simpa using a1
        by_cases a3 : (c.toNat : Int) < 48
        · have d3 : decide ((c.toNat : Int) < 48) = true := by simpa using a3
          have HN := Lib.hid (show charB s k = false by rw [HC.out]; unfold letterB digitB; simp; omega)
          clear a1 a3
          by_cases k0 : k = 0
          · have dk : ((k : Int) == 0) = true := by simp; omega
            clear k0
            go_wp2
            go_ret
            exact ⟨by rw [name_not hlt HN.out]; rfl, HT.out⟩
          · have dk : ((k : Int) == 0) = false := by simp; omega
            clear k0
            go_wp2
            go_ret
            exact ⟨by rw [name_not hlt HN.out]; rfl, HT.out⟩
        · have d3 : decide ((c.toNat : Int) < 48) = false := by simpa using a3
          by_cases a4 : (57 : Int) < (c.toNat : Int)
          · have d4 : decide ((57 : Int) < (c.toNat : Int)) = true := by simpa using a4
            have HN := Lib.hid (show charB s k = false by rw [HC.out]; unfold letterB digitB; simp; omega)
            clear a1 a3 a4
            by_cases k0 : k = 0
            · have dk : ((k : Int) == 0) = true := by simp; omega
              clear k0
              go_wp2
              go_ret
              exact ⟨by rw [name_not hlt HN.out]; rfl, HT.out⟩
            · have dk : ((k : Int) == 0) = false := by simp; omega
              clear k0
              go_wp2
              go_ret
              exact ⟨by rw [name_not hlt HN.out]; rfl, HT.out⟩
          · have d4 : decide ((57 : Int) < (c.toNat : Int)) = false := by simpa using a4
            have H0 := Lib.hid (show k = 0 → charB s k = false from fun e => by rw [HC.out]; unfold letterB; simp [e]; omega)
            have H1 := Lib.hid (show k ≠ 0 → charB s k = true from fun e => by rw [HC.out]; unfold letterB digitB; simp [e]; omega)
            clear a1 a3 a4
            by_cases k0 : k = 0
            · have dk : ((k : Int) == 0) = true := by simp; omega
              have HN := Lib.hid (H0.out k0)
              clear k0
              go_wp2
              go_ret
              exact ⟨by rw [name_not hlt HN.out]; rfl, HT.out⟩
            · have dk : ((k : Int) == 0) = false := by simp; omega
              have HY := Lib.hid (H1.out k0)
              clear k0
              go_wp2
              go_roundw
              case rel => exact ⟨k + 1, by omega, by go_num, fun j hj => if e : j = k then by subst e; exact HY.out else HALL.out j (by omega), HT.out⟩
              case measure => simp [intOf]; omega
    · have HN := Lib.hid (name_chars (s := s) fun j hj => HALL.out j (by omega))
      by_cases b1 : 1 ≤ (s.size : Int)
      · have d1 : decide (1 ≤ (s.size : Int)) = true := by simpa using b1
        by_cases b2 : (s.size : Int) ≤ 16
        · have d2 : decide ((s.size : Int) ≤ 16) = true := by simpa using b2
          have HR := Lib.hid (show nameB s = true by rw [HN.out]; simp; omega)
          clear b1 b2
          go_wp2
          go_ret
          exact ⟨by rw [HR.out]; rfl, HT.out⟩
        · have d2 : decide ((s.size : Int) ≤ 16) = false := by simpa using b2
          have HR := Lib.hid (show nameB s = false by rw [HN.out]; simp; omega)
          clear b1 b2
          go_wp2
          go_ret
          exact ⟨by rw [HR.out]; rfl, HT.out⟩
      · have d1 : decide (1 ≤ (s.size : Int)) = false := by simpa using b1
        have HR := Lib.hid (show nameB s = false by rw [HN.out]; simp; omega)
        clear b1
        go_wp2
        go_ret
        exact ⟨by rw [HR.out]; rfl, HT.out⟩
end Go.Proofs.YtoanjaidfdkdpaaGreat
/- Walks: whether a text is a name, by the program. -/
namespace Go.Proofs.YtoanjaidfdkdpaaGreat
set_option linter.unusedSimpArgs false
set_option linter.unusedVariables false
open Go.RowKit Go.BT

theorem conv_bytes (s : ByteArray) (w : World) : (convert 9 174 (.string s)).run Tryz.prog w = .ok (.slice (some ⟨w.heap.size, 0, none⟩) s.size (grownCap w s.size 0 5)) (Lib.bytesWorld w 5 s) :=
  Lib.run_convert_string_bytes w _ _ _ s (u := .string) (by kernel_rfl) (by kernel_rfl) (by kernel_rfl)
theorem step_bytes (w : World) (e : TypeId) (s : ByteArray) : Step w (Lib.bytesWorld w e s) := by
  have h := (Step.drew w).trans (Step.alloc w.drew (.cells (Lib.bytesCells w e s) e))
  exact ⟨h.os, h.tape, h.output, by rw [Lib.bytesWorld_size]; omega, fun j hj _ => Lib.bytesWorld_at_old w e s j hj⟩
theorem sl_bytes (w : World) (e : TypeId) (s : ByteArray) (hs : s.size ≤ 9223372036854775807) : SL (fun _ => False) (Lib.bytesWorld w e s) (.slice (some ⟨w.heap.size, 0, none⟩) s.size (grownCap w s.size 0 e)) s.data.toList := by
  have hl : s.data.toList.length = s.size := by rw [Array.length_toList]; rfl
  refine ⟨some ⟨w.heap.size, 0, none⟩, grownCap w s.size 0 e, w.heap.size, 0, by rw [hl], by rw [hl]; exact grownCap_ge _ _ _ _, by rw [hl]; exact hs, fun _ => rfl, fun i hi => ?_⟩
  refine ⟨by rw [Lib.bytesWorld_size]; omega, id, [.int .u8 (s.data.toList[i].toNat : Int)], rfl, fun j v hv => ?_⟩
  match j, hv with
  | 0, hv =>
    obtain rfl := Option.some.inj hv
    have := Lib.bytesWorld_cell w e s i (by omega)
    simp only [Rep.k, Nat.zero_add, Nat.mul_one, Nat.add_zero]
    rw [this, List.getD_eq_getElem?_getD, List.getElem?_eq_getElem hi]; rfl
attribute [local go_sem] conv_bytes
set_option maxHeartbeats 2000000 in
theorem named_any (s : ByteArray) (w : World) (hs : s.size ≤ 9223372036854775807) : Calls Tryz.prog 104 #[.string s] w fun e w' => e = .returned (.bool (nameB s)) ∧ Step w w' := by
  go_enter Tryz.func104, Tryz.ntmps104
  go_wp2_with fail
  refine (gale.within_any _ _ _ _).mono ?_
  rintro e w' ⟨rfl, rfl⟩
  by_cases h1 : 1 ≤ s.size ∧ s.size ≤ 16
  rotate_left
  · have hd : withinB (s.size : Int) 1 16 = false := by simp [withinB]; omega
    have HN := Lib.hid (show nameB s = false by unfold nameB; simp; omega)
    rw [hd]
    clear hd h1
    go_wp2
    go_ret
    exact ⟨by rw [HN.out]; rfl, (by repeat (first | (with_reducible assumption) | (with_reducible exact Step.refl _) | (with_reducible apply Step.s_alloc) | (with_reducible apply Step.s_drew) | (with_reducible apply Step.s_drewN) | (with_reducible refine Step.trans ?_ (by with_reducible assumption))))⟩
  have hd : withinB (s.size : Int) 1 16 = true := by simp [withinB]; omega
  rw [hd]
  clear hd
  have h0 : 0 < s.size := by omega
  have hix : (0 : Int) < (s.size : Int) := by omega
  have hat := bytes_at s 0 h0
  obtain ⟨c, hc⟩ : ∃ c, c = s.data.getD 0 0 := ⟨_, rfl⟩
  rw [← hc] at hat
  have hb := byte_int c
  have HNB := Lib.hid (show nameB s = (letterB c && s.data.toList.all fun c => letterB c || digitB c) by unfold nameB; rw [← hc, decide_eq_true h1.1, decide_eq_true h1.2]; simp only [Bool.true_and])
  clear h1 hc
  go_wp2_with fail
  refine (gale.within_any _ _ _ _).mono ?_
  rintro e w' ⟨rfl, rfl⟩
  have hl : withinB (c.toNat : Int) 97 122 = letterB c := by simp only [withinB, letterB]; congr 1 <;> (apply decide_eq_decide.2; omega)
  rw [hl]
  clear hl
  cases q : letterB c with
  | false =>
    have HN := Lib.hid (show nameB s = false by rw [HNB.out, q]; rfl)
    clear q
    go_wp2
    go_ret
    exact ⟨by rw [HN.out]; rfl, (by repeat (first | (with_reducible assumption) | (with_reducible exact Step.refl _) | (with_reducible apply Step.s_alloc) | (with_reducible apply Step.s_drew) | (with_reducible apply Step.s_drewN) | (with_reducible refine Step.trans ?_ (by with_reducible assumption))))⟩
  | true =>
    have HN := Lib.hid (show nameB s = (s.data.toList.all fun c => letterB c || digitB c) by rw [HNB.out, q]; rfl)
    clear q
    have hall := Lib.hid (all_byte (fun _ => False) s.data.toList _ (Lib.bytesWorld w 5 s) 117 #[] (Go.Proofs.enters_of Tryz.func117 (by kernel_rfl) rfl) (fun c => letterB c || digitB c) (fun _ W => Step (Lib.bytesWorld w 5 s) W) (fun _ => False) (fun _ h => h.elim)
      (fun _ W hW => (sl_bytes w 5 s hs).keep (.of_step hW)) (fun _ _ _ h1 h2 => h1.trans h2) (Step.refl _) (fun i hi W u hW _ hu => by
        subst hu
        refine (named1_any _ W).mono ?_
        rintro e w' ⟨rfl, hs⟩
        exact ⟨rfl, hW.trans hs, hs⟩))
    go_wp2_with fail
    refine hall.out.mono ?_
    rintro e w1 ⟨rfl, k, _, _, hS⟩
    rw [← HN.out]
    clear hall
    go_wp2
    go_ret
    exact ⟨by rfl, (step_bytes _ _ _).trans hS⟩
end Go.Proofs.YtoanjaidfdkdpaaGreat
/- A map with texts for keys that a call makes and fills: how many it has. -/
namespace Go.Proofs.YtoanjaidfdkdpaaGreat
set_option linter.unusedSimpArgs false
set_option linter.unusedVariables false
open Go.RowKit Go.BT

instance : LawfulBEq ByteArray where
  eq_of_beq h := (MapKept.bytes_beq _ _).1 h
  rfl := (MapKept.bytes_beq _ _).2 rfl
/-- What a map holds behind keys put in, one after the other. -/
def addN (ks : List ByteArray) (n : ByteArray) : List ByteArray := if n ∈ ks then ks else ks ++ [n]
theorem add_len : ∀ (l ks : List ByteArray), (l.foldl addN ks).length ≤ ks.length + l.length ∧ ((l.foldl addN ks).length = ks.length + l.length ↔ l.Nodup ∧ ∀ x ∈ l, x ∉ ks)
  | [], ks => by simp
  | x :: l, ks => by
    rw [List.foldl_cons]
    by_cases h : x ∈ ks
    · have h1 := add_len l ks
      rw [show addN ks x = ks by unfold addN; rw [if_pos h]]
      simp only [List.length_cons, List.nodup_cons, List.mem_cons]
      refine ⟨by omega, ⟨fun e => by omega, fun e => absurd h (e.2 x (.inl rfl))⟩⟩
    · have h1 := add_len l (ks ++ [x])
      rw [show addN ks x = ks ++ [x] by unfold addN; rw [if_neg h]]
      simp only [List.length_cons, List.nodup_cons, List.mem_cons, List.length_append, List.length_nil, List.mem_append, List.not_mem_nil, or_false] at h1 ⊢
      refine ⟨by omega, ?_⟩
      rw [show ((l.foldl addN (ks ++ [x])).length = ks.length + (l.length + 1)) ↔ ((l.foldl addN (ks ++ [x])).length = ks.length + (0 + 1) + l.length) by omega, h1.2]
      constructor
      · rintro ⟨a, b⟩
        refine ⟨⟨fun hx => b x hx (.inr rfl), a⟩, ?_⟩
        rintro y (rfl | hy)
        · exact h
        · exact fun hk => b y hy (.inl hk)
      · rintro ⟨⟨a, b⟩, c⟩
        refine ⟨b, fun y hy hk => ?_⟩
        rcases hk with hk | rfl
        · exact c y (.inr hy) hk
        · exact a hy
/-- The map at r has these keys. -/
def SM (w : World) (r : Nat) (ks : List ByteArray) : Prop := ∃ es clock, w.heap[r]? = some (.map es clock) ∧ es.toList.map (·.key) = ks.map Value.string
theorem SM.keep {S : Nat → Prop} {w w' : World} {r : Nat} {ks : List ByteArray} (h : SM w r ks) (hs : StepX S w w') (hr : ¬ S r) : SM w' r ks := by
  obtain ⟨es, cl, h1, h2⟩ := h
  exact ⟨es, cl, (hs.block r (Array.getElem?_eq_some_iff.1 h1).1 hr).trans h1, h2⟩
theorem find_str (n : ByteArray) : ∀ (es : List MapEntry) (ks : List ByteArray) (i : Nat), es.map (·.key) = ks.map Value.string →
    (n ∈ ks → ∃ j v, Instr.findNow .string (.string n) es i = some (some (i + j, v)) ∧ ∃ h : j < es.length, es[j].key = .string n) ∧ (n ∉ ks → Instr.findNow .string (.string n) es i = some none)
  | [], ks, i, h => by
    have : ks = [] := by simpa using h.symm
    subst this
    exact ⟨fun h => by simp at h, fun _ => rfl⟩
  | e :: es, ks, i, h => by
    cases ks with
    | nil => simp at h
    | cons k ks =>
      simp only [List.map_cons, List.cons.injEq] at h
      obtain ⟨hk, hr⟩ := h
      obtain ⟨r1, r2⟩ := find_str n es ks (i + 1) hr
      by_cases q : n = k
      · subst q
        refine ⟨fun _ => ⟨0, e.val, ?_, by simp, by simpa using hk⟩, fun hn => absurd List.mem_cons_self hn⟩
        simp [Instr.findNow, hk, Instr.sameNow]
      · have hb : (n == k) = false := by rw [beq_eq_false_iff_ne]; exact q
        have hst : Instr.findNow .string (.string n) (e :: es) i = Instr.findNow .string (.string n) es (i + 1) := by
          simp [Instr.findNow, hk, Instr.sameNow, hb]
        rw [hst]
        refine ⟨fun hm => ?_, fun hm => r2 fun h => hm (List.mem_cons_of_mem _ h)⟩
        obtain ⟨j, v, h1, h2, h3⟩ := r1 ((List.mem_cons.1 hm).resolve_left q)
        exact ⟨j + 1, v, by rw [h1]; congr 2; simp; omega, by simp; omega, by simpa using h3⟩
theorem mapUnderS : Tryz.prog.underlying 163 = some (.map 9 4) := by kernel_rfl
theorem strUnder : Tryz.prog.underlying 9 = some .string := by kernel_rfl
def putS (w : World) (r : Nat) (o : Obj) : World := { w with heap := w.heap.setIfInBounds r o }
theorem putS_at {w : World} {r : Nat} {o : Obj} (h : r < w.heap.size) : (putS w r o).heap[r]? = some o := by simp [putS, h]
theorem putS_wrote (w : World) (r : Nat) (o : Obj) : Wrote r w (putS w r o) := ⟨rfl, rfl, rfl, by simp [putS], fun k hk => by simp [putS, Array.getElem?_setIfInBounds_ne (Ne.symm hk)]⟩
theorem check_str (d : Nat) (n : ByteArray) (em : Bool) (w : World) : (Instr.checkKey em (d + 1) 9 (.string n)).run Tryz.prog w = .ok () w := by
  simp [Instr.checkKey, run_underlying strUnder]
theorem run_mapUpdate_str {w : World} {r : Nat} {ks : List ByteArray} (n : ByteArray) (h : SM w r ks) : ∃ w', (Instr.mapUpdate 163 (.map (some r)) (.string n) (.bool true)).run Tryz.prog w = .ok () w' ∧ SM w' r (addN ks n) ∧ Wrote r w w' := by
  obtain ⟨es, clock, hh, h1⟩ := h
  obtain ⟨r1, r2⟩ := find_str n es.toList ks 0 h1
  have hck : ∀ em, (Instr.checkKey em 10000 9 (.string n)).run Tryz.prog w = .ok () w := fun em => check_str 9999 n em w
  have hgo : (getObj r).run Tryz.prog w = .ok (.map es clock) w := by simp [getObj, Sem.run, hh]
  have hso : ∀ o, (setObj r o).run Tryz.prog w = .ok () (putS w r o) := fun o => by simp [setObj, Sem.run, hh, putS]
  by_cases hx : n ∈ ks
  · obtain ⟨j, v, hj, hjl, hjk⟩ := r1 hx
    have hfk := MapKept.run_findKey (P := Tryz.prog) (w := w) strUnder hj
    have hjs : j < es.size := by simpa using hjl
    have hjk' : es[j]?.map (·.key) = some (.string n) := by
      rw [Array.getElem?_eq_getElem hjs, Option.map_some]
      rw [Array.getElem_toList] at hjk
      rw [hjk]
    have hst : (Instr.keyThatStays (.string n) (.string n)).run Tryz.prog w = .ok (.string n) w := by
      simp [Instr.keyThatStays, Instr.sameBits]
    refine ⟨putS w r (.map (es.modify j fun e => { e with key := .string n, val := .bool true }) clock), ?_, ⟨_, _, putS_at (Array.getElem?_eq_some_iff.1 hh).1, ?_⟩, putS_wrote _ _ _⟩
    · simp [Instr.mapUpdate, run_underlying mapUnderS, hgo, hck, hfk, hjk', hst, hso]
    · rw [show addN ks n = ks by unfold addN; rw [if_pos hx], ← h1, Array.toList_modify]
      refine List.ext_getElem (by simp) fun i h3 h4 => ?_
      simp only [List.getElem_map, List.getElem_modify]
      split
      · rename_i hij
        subst hij
        exact hjk.symm
      · rfl
  · have hfk := MapKept.run_findKey (P := Tryz.prog) (w := w) strUnder (r2 hx)
    refine ⟨putS w r (.map (es.push { key := .string n, val := .bool true, born := clock }) (clock + 1)), ?_, ⟨_, _, putS_at (Array.getElem?_eq_some_iff.1 hh).1, ?_⟩, putS_wrote _ _ _⟩
    · simp [Instr.mapUpdate, run_underlying mapUnderS, hgo, hck, hfk, hso]
    · rw [show addN ks n = ks ++ [n] by unfold addN; rw [if_neg hx], Array.toList_push, List.map_append, List.map_append, h1]
      rfl
set_option maxRecDepth 10000 in
theorem run_len_str {w : World} {r : Nat} {ks : List ByteArray} (ty : TypeId) (h : SM w r ks) : (Builtin.len_ #[163] ty #[.map (some r)]).run Tryz.prog w = .ok (goInt ks.length) w := by
  obtain ⟨es, clock, hh, h1⟩ := h
  have he : es.size = ks.length := by
    have := congrArg List.length h1
    simpa using this
  rw [← he]
  exact run_len_map (P := Tryz.prog) (w := w) _ ty r es clock mapUnderS hh
end Go.Proofs.YtoanjaidfdkdpaaGreat
/- Walks: the errors of forecasts and readings, by the program. -/
namespace Go.Proofs.YtoanjaidfdkdpaaGreat
set_option linter.unusedSimpArgs false
set_option linter.unusedVariables false
open Go.RowKit Go.BT

theorem all_strong (l : List Rng) (v : Value) (w : World) (hv : SL (fun _ => False) w v l) : Calls Tryz.prog 102 #[v, .func (.func 84) #[] #[]] w fun e w' => e = .returned (.bool (l.all rangeB)) ∧ Step w w' :=
  (all_rng (fun _ => False) l v w 84 #[] (Go.Proofs.enters_of Tryz.func84 (by kernel_rfl) rfl) rangeB (fun _ W => Step w W) (fun _ => False) (fun _ h => h.elim)
    (fun _ W hW => hv.keep (.of_step hW)) (fun _ _ _ h1 h2 => h1.trans h2) (Step.refl _) (fun i hi W u hW _ hu => by
      subst hu
      refine (strong_any _ W).mono ?_
      rintro e w' ⟨rfl, hs⟩
      exact ⟨rfl, hW.trans hs, hs⟩)).mono fun e w' ⟨h, k, _, _, hs⟩ => ⟨h, hs⟩
theorem cf1_any (f : Fc) (u : Value) (w : World) (hu : AV (fun _ => False) w u f) : Calls Tryz.prog 100 #[u] w fun e w' => e = .returned (.bool (decide (f.hours.length ≤ 48))) ∧ Step w w' := by
  obtain ⟨c1, rfl, h1, _⟩ := hu.fc
  obtain ⟨p, c, rfl⟩ := h1.form
  have hd : decide ((f.hours.length : Int) ≤ 48) = decide (f.hours.length ≤ 48) := decide_eq_decide.2 (by omega)
  clear hu h1
  go_enter Tryz.func100, Tryz.ntmps100
  go_wp2
  go_ret
  exact ⟨by rw [← hd]; rfl, (by repeat (first | (with_reducible assumption) | (with_reducible exact Step.refl _) | (with_reducible apply Step.s_alloc) | (with_reducible apply Step.s_drew) | (with_reducible apply Step.s_drewN) | (with_reducible refine Step.trans ?_ (by with_reducible assumption))))⟩
theorem cf3_any (f : Fc) (u : Value) (w : World) (hu : AV (fun _ => False) w u f) : Calls Tryz.prog 103 #[u] w fun e w' => e = .returned (.bool (nameB f.name)) ∧ Step w w' := by
  obtain ⟨c1, rfl, h1, h2⟩ := hu.fc
  obtain ⟨p, c, rfl⟩ := h1.form
  have H2 := Lib.hid h2
  clear hu h1 h2
  go_enter Tryz.func103, Tryz.ntmps103
  go_wp2_with fail
  refine (named_any _ _ H2.out).mono ?_
  rintro e w' ⟨rfl, hS⟩
  go_wp2
  go_ret
  exact ⟨rfl, (Step.alloc _ _).trans hS⟩
theorem cells2 {w : World} {g : Nat} {c0 c1 : Value} {T : TypeId} (h : Bx w g [c0, c1] T) : w.cell? ⟨g, 0, none⟩ = some c0 ∧ w.cell? ⟨g, 1, none⟩ = some c1 := ⟨h.cell 0, h.cell 1⟩


set_option maxRecDepth 100000 in
set_option maxHeartbeats 4000000 in
theorem cf2_any (l : List Fc) (vl : Value) (f : Fc) (u : Value) (b : Nat) (w : World) (hl : SL (fun _ => False) w vl l) (h0 : 0 < l.length) (hb : w.cell? ⟨b, 0, none⟩ = some vl) (hu : AV (fun _ => False) w u f) :
    Calls Tryz.prog 101 #[u, .pointer (some ⟨b, 0, none⟩)] w fun e w' => e = .returned (.bool (evenFB l f)) ∧ Step w w' := by
  obtain ⟨c1, rfl, h1, _⟩ := hu.fc
  obtain ⟨p, c, rfl⟩ := h1.form
  obtain ⟨pl, cl, bl, ol, rfl, _, hml, hpl, hcl, _⟩ := hl.fcs
  obtain rfl := hpl h0
  obtain ⟨cx, x1, x2, x3, x4⟩ := hcl 0 h0
  obtain ⟨px, kx, rfl⟩ := x3.form
  have hn : hoursN l = l[0].hours.length := by
    cases l with
    | nil => simp at h0
    | cons a l => rfl
  obtain ⟨W0, hW0⟩ : ∃ W, W = w.alloc (.cells #[.string f.name, .slice p f.hours.length c] 92) := ⟨_, rfl⟩
  have hbx : Bx W0 w.heap.size [.string f.name, .slice p f.hours.length c] 92 := by subst hW0; exact Bx.new w [_, _] _
  have hS : Step w W0 := by subst hW0; exact Step.alloc _ _
  have HB := Lib.hid hbx
  have HS := Lib.hid hS
  have HW := Lib.hid hW0
  have HH := Lib.hid h1
  have HC := Lib.hid (And.intro (hS.keeps.cell id hb) (hS.keeps.cell id x2))
  have HT := Lib.hid (Step.refl W0)
  have hix : (0 : Int) < (l.length : Int) := by omega
  clear hbx hS hW0 h1 hb x1 x2 x3 x4 hcl hpl hu hl
  obtain ⟨n0, hn0⟩ : ∃ n, n = l[0].hours.length := ⟨_, rfl⟩
  rw [← hn0] at hn HC
  rw [Nat.zero_mul, Nat.add_zero] at HC
  have HE := Lib.hid (show evenFB l f = (decide (0 < f.hours.length) && decide (f.hours.length = n0) && f.hours.all rangeB) by unfold evenFB; rw [hn])
  clear hn0 hn
  by_cases a1 : 0 < f.hours.length
  rotate_left
  · have d1 : decide (0 < (f.hours.length : Int)) = false := decide_eq_false (by omega)
    have d0 : decide (0 < f.hours.length) = false := decide_eq_false a1
    have HN := Lib.hid (show evenFB l f = false by rw [HE.out]; simp [a1])
    clear a1
    go_enter Tryz.func101, Tryz.ntmps101
    go_upto_region 1 with (fail)
    rw [← HW.out]
    refine wp_region_seq (kdOf [18] []) [0, 1, 3, 7, 15, 31, 63, 127, 31, 287, 799, 1823, 3871, 8191, 16383, 32767, 65535, 131071, 262143, 524287, 1048575] [0, 1, 2, 3, 4, 5, 6, 7, 8, 9, 10, 11, 12, 13, 14, 15, 16, 17, 18, 19, 20] [] (by kernel_rfl) (by kernel_rfl) (fun i T z hi hk => by simp [kdOf] at hk <;> (try (split at hk <;> cases hk))) ?_
    intro Wx hWx
    have HTx := Lib.hid (HT.out.trans hWx)
    clear hWx HT
    have HT := HTx
    clear HTx
    (try clear y0 y1 z0 z1)
    obtain ⟨y0, y1⟩ := cells2 (HB.out.step HT.out)
    have z0 := HT.out.keeps.cell id HC.out.1
    have z1 := HT.out.keeps.cell id HC.out.2
    repeat (first | (refine run_off rfl rfl (by rfl) ?_; (try simp only [Act.put, List.setIfInBounds_toArray, List.set_cons_zero, List.set_cons_succ])) | (refine run_chain_off rfl rfl (by rfl) (K0_mono _) ?_; (try simp only [Act.put, List.setIfInBounds_toArray, List.set_cons_zero, List.set_cons_succ])) | ((refine run_want rfl rfl (by rfl) ⟨?_, fun W hW => ?_, ?_⟩; rotate_left; (· (have d0 := hW.keeps.cell id y0; have d1 := hW.keeps.cell id y1; have d2 := hW.keeps.cell id z0; have d3 := hW.keeps.cell id z1; go_simp; (try with_reducible rfl)))); (try simp only [Act.put, List.setIfInBounds_toArray, List.set_cons_zero, List.set_cons_succ])))
    clear y0 y1 z0 z1
    refine run_end (L := []) rfl (fun W6 hW6 => ?_)
    have HT6 := Lib.hid (HT.out.trans hW6)
    clear hW6 HT
    have HT := HT6
    clear HT6
    go_wp2
    go_ret
    exact ⟨by rw [HN.out]; rfl, HS.out.trans HT.out⟩
  have d1 : decide (0 < (f.hours.length : Int)) = true := decide_eq_true (by omega)
  have d0 : decide (0 < f.hours.length) = true := decide_eq_true a1
  by_cases a2 : f.hours.length = n0
  rotate_left
  · have d2 : ((f.hours.length : Int) == (n0 : Int)) = false := by simp; omega
    have HN := Lib.hid (show evenFB l f = false by rw [HE.out]; simp [a2])
    clear a1 a2
    go_enter Tryz.func101, Tryz.ntmps101
    go_upto_region 1 with (fail)
    rw [← HW.out]
    refine wp_region_seq (kdOf [18] []) [0, 1, 3, 7, 15, 31, 63, 127, 31, 287, 799, 1823, 3871, 8191, 16383, 32767, 65535, 131071, 262143, 524287, 1048575] [0, 1, 2, 3, 4, 5, 6, 7, 8, 9, 10, 11, 12, 13, 14, 15, 16, 17, 18, 19, 20] [] (by kernel_rfl) (by kernel_rfl) (fun i T z hi hk => by simp [kdOf] at hk <;> (try (split at hk <;> cases hk))) ?_
    intro Wx hWx
    have HTx := Lib.hid (HT.out.trans hWx)
    clear hWx HT
    have HT := HTx
    clear HTx
    (try clear y0 y1 z0 z1)
    obtain ⟨y0, y1⟩ := cells2 (HB.out.step HT.out)
    have z0 := HT.out.keeps.cell id HC.out.1
    have z1 := HT.out.keeps.cell id HC.out.2
    repeat (first | (refine run_off rfl rfl (by rfl) ?_; (try simp only [Act.put, List.setIfInBounds_toArray, List.set_cons_zero, List.set_cons_succ])) | (refine run_chain_off rfl rfl (by rfl) (K0_mono _) ?_; (try simp only [Act.put, List.setIfInBounds_toArray, List.set_cons_zero, List.set_cons_succ])) | ((refine run_want rfl rfl (by rfl) ⟨?_, fun W hW => ?_, ?_⟩; rotate_left; (· (have d0 := hW.keeps.cell id y0; have d1 := hW.keeps.cell id y1; have d2 := hW.keeps.cell id z0; have d3 := hW.keeps.cell id z1; go_simp; (try with_reducible rfl)))); (try simp only [Act.put, List.setIfInBounds_toArray, List.set_cons_zero, List.set_cons_succ])))
    clear y0 y1 z0 z1
    refine run_end (L := []) rfl (fun W6 hW6 => ?_)
    have HT6 := Lib.hid (HT.out.trans hW6)
    clear hW6 HT
    have HT := HT6
    clear HT6
    go_wp2
    go_ret
    exact ⟨by rw [HN.out]; rfl, HS.out.trans HT.out⟩
  have d2 : ((f.hours.length : Int) == (n0 : Int)) = true := by simp; omega
  have HN := Lib.hid (show evenFB l f = f.hours.all rangeB by rw [HE.out]; simp [a1, a2]; omega)
  clear a1 a2
  go_enter Tryz.func101, Tryz.ntmps101
  go_upto_region 1 with (fail)
  rw [← HW.out]
  refine wp_region_seq (kdOf [18] []) [0, 1, 3, 7, 15, 31, 63, 127, 31, 287, 799, 1823, 3871, 8191, 16383, 32767, 65535, 131071, 262143, 524287, 1048575] [0, 1, 2, 3, 4, 5, 6, 7, 8, 9, 10, 11, 12, 13, 14, 15, 16, 17, 18, 19, 20] [] (by kernel_rfl) (by kernel_rfl) (fun i T z hi hk => by simp [kdOf] at hk <;> (try (split at hk <;> cases hk))) ?_
  intro Wx hWx
  have HTx := Lib.hid (HT.out.trans hWx)
  clear hWx HT
  have HT := HTx
  clear HTx
  (try clear y0 y1 z0 z1)
  obtain ⟨y0, y1⟩ := cells2 (HB.out.step HT.out)
  have z0 := HT.out.keeps.cell id HC.out.1
  have z1 := HT.out.keeps.cell id HC.out.2
  repeat (first | (refine run_off rfl rfl (by rfl) ?_; (try simp only [Act.put, List.setIfInBounds_toArray, List.set_cons_zero, List.set_cons_succ])) | (refine run_chain_off rfl rfl (by rfl) (K0_mono _) ?_; (try simp only [Act.put, List.setIfInBounds_toArray, List.set_cons_zero, List.set_cons_succ])) | ((refine run_want rfl rfl (by rfl) ⟨?_, fun W hW => ?_, ?_⟩; rotate_left; (· (have d0 := hW.keeps.cell id y0; have d1 := hW.keeps.cell id y1; have d2 := hW.keeps.cell id z0; have d3 := hW.keeps.cell id z1; go_simp; (try with_reducible rfl)))); (try simp only [Act.put, List.setIfInBounds_toArray, List.set_cons_zero, List.set_cons_succ])))
  clear y0 y1 z0 z1
  refine run_chain rfl rfl (by rfl) (fun Wi hWi K' hK => ?_)
  have HTi := Lib.hid (HT.out.trans hWi)
  have HZW := Lib.hid HTi.out.size
  clear hWi HT
  go_simp
  refine (all_strong f.hours _ _ (HH.out.keep (.of_step (HS.out.trans HTi.out)))).mono ?_
  rintro e wn ⟨rfl, hSn⟩
  have HT := Lib.hid (HTi.out.trans (StepX.of hSn))
  clear HTi
  rw [← HN.out]
  refine hK _ _ (StepX.of hSn) ?_
  clear hSn
  (try simp only [Act.put, List.setIfInBounds_toArray, List.set_cons_zero, List.set_cons_succ])
  (try clear y0 y1 z0 z1)
  obtain ⟨y0, y1⟩ := cells2 (HB.out.step HT.out)
  have z0 := HT.out.keeps.cell id HC.out.1
  have z1 := HT.out.keeps.cell id HC.out.2
  repeat (first | (refine run_off rfl rfl (by rfl) ?_; (try simp only [Act.put, List.setIfInBounds_toArray, List.set_cons_zero, List.set_cons_succ])) | (refine run_chain_off rfl rfl (by rfl) (K0_mono _) ?_; (try simp only [Act.put, List.setIfInBounds_toArray, List.set_cons_zero, List.set_cons_succ])) | ((refine run_want rfl rfl (by rfl) ⟨?_, fun W hW => ?_, ?_⟩; rotate_left; (· (have d0 := hW.keeps.cell id y0; have d1 := hW.keeps.cell id y1; have d2 := hW.keeps.cell id z0; have d3 := hW.keeps.cell id z1; go_simp; (try with_reducible rfl)))); (try simp only [Act.put, List.setIfInBounds_toArray, List.set_cons_zero, List.set_cons_succ])))
  clear y0 y1 z0 z1
  refine run_end (L := []) rfl (fun W6 hW6 => ?_)
  have HT6 := Lib.hid (HT.out.trans hW6)
  clear hW6 HT
  have HT := HT6
  clear HT6
  go_wp2
  go_ret
  exact ⟨rfl, HS.out.trans HT.out⟩
end Go.Proofs.YtoanjaidfdkdpaaGreat
/- Walks: the law package's copies of tests, tents and winds; whether there are few. -/
namespace Go.Proofs.YtoanjaidfdkdpaaGreat
set_option linter.unusedSimpArgs false
set_option linter.unusedVariables false
open Go.RowKit Go.BT

theorem wpl_append1 {P : Program} {ops : Array Oper} {rest : List Oper} {o : Oper} {a : Act} {Q : Exit → Act → World → Prop} {α : Type} [Rep α] {S : Nat → Prop} {base : Nat} {t e : TypeId} {z : Value} {bytes : Nat} {W0 w : World} {v u : Value} {l : List α} {k : Nat} (ei : EI P t e z (Rep.k α) bytes) (hgd : o.guard = none) (s x : Operand)
    (ho : o.op = .call { callee := .builtin .append, args := #[s, x], argTypes := #[t, t] }) (hs : a.eval s = v) (hx : a.eval x = u) (hown : OwnL S base e w v (l.take k)) (hk : k < l.length) (hl : l.length ≤ 1000000) (hby : bytes ≤ 1000000) (hu : SLe (avoid S v) w u [l[k]]) (hB : Below base W0 w) (hbase : base ≤ W0.heap.size)
    (h : ∀ p c w', OwnL S base e w' (.slice p (k + 1) c) (l.take (k + 1)) → Below base W0 w' → w.grownBy w' v.ownBlock → wpList P ops Q rest (a.put o.dst (.slice p (k + 1) c)) w') : wpList P ops Q (o :: rest) a w := by
  have hn : (l.take k).length + [l[k]].length = k + 1 := by simp; omega
  have hb2 : (k + 1) * bytes ≤ 140737488355328 := Nat.le_trans (Nat.mul_le_mul (show k + 1 ≤ 1000000 by omega) hby) (by decide)
  refine wpl_append ei hgd s x ho hs hx hown hu (k + 1) hn (l.take (k + 1)) (List.take_succ_eq_append_getElem hk).symm (by simp only [maxLen]; omega) hb2 (Nat.le_trans hbase hB.size) fun p c w' h1 h2 => h p c w' h1 ?_ h2
  exact hB.grown h2 (Nat.le_trans hbase hB.size) (fun j hj => (hown.lt j hj).1)
theorem infoTest : (Tryz.prog.info? 102).map (fun i => (i.zero, i.size, i.bytes)) = some (some (.agg #[.int .i64 0, .int .i64 0, .int .i64 0, .bool false]), 4, 32) := by kernel_rfl
theorem eiTests : EI Tryz.prog 42 102 (.agg #[.int .i64 0, .int .i64 0, .int .i64 0, .bool false]) 4 32 := .mk' Tryz.underlying42 infoTest rfl
theorem infoVec : (Tryz.prog.info? 70).map (fun i => (i.zero, i.size, i.bytes)) = some (some (.agg #[.int .i64 0, .int .i64 0]), 2, 16) := by kernel_rfl
theorem eiVecs : EI Tryz.prog 47 70 (.agg #[.int .i64 0, .int .i64 0]) 2 16 := .mk' Tryz.underlying47 infoVec rfl
theorem infoRVec : (Tryz.prog.info? 82).map (fun i => (i.zero, i.size, i.bytes)) = some (some (.agg #[.int .i64 0, .int .i64 0]), 2, 16) := by kernel_rfl
theorem eiRVecs : EI Tryz.prog 25 82 (.agg #[.int .i64 0, .int .i64 0]) 2 16 := .mk' Tryz.underlying25 infoRVec rfl
set_option maxRecDepth 100000 in
set_option maxHeartbeats 4000000 in
theorem Tests_any (S : Nat → Prop) (l : List Tst) (v : Value) (w : World) (hv : SL S w v l) (hl : l.length ≤ 1000) :
    Calls Tryz.prog 11 #[v] w fun e w' => ∃ v', e = .returned v' ∧ SL (Old w) w' v' l ∧ Step w w' := by
  obtain ⟨pv, cv, b, o, rfl, _, hm, hp, hc, _⟩ := hv.tsts
  have HP := Lib.hid (And.intro hp hc)
  clear hp hc hv
  go_enter Tryz.func11, Tryz.ntmps11
  go_wp2
  go_loopw [3, 4] (fun out i wr => ∃ k : Nat, k ≤ l.length ∧ i = .int .i64 k ∧ OwnL (Old w) w.heap.size 102 wr out (l.take k) ∧ Below w.heap.size w wr) (fun _ i _ => l.length - (intOf i).toNat)
  case atStart => exact ⟨0, Nat.zero_le _, rfl, OwnL.nil _ _ _ _, Below.refl _ _⟩
  case round =>
    obtain ⟨k, hk, rfl, hown, hB⟩ := hrel
    have HT := Lib.hid (Step.of hB)
    have HO := Lib.hid hown
    have HB := Lib.hid hB
    obtain ⟨LL, hLL⟩ : ∃ L, L = l.take k := ⟨_, rfl⟩
    rw [← hLL] at hown
    obtain ⟨pu, cu, rfl, _⟩ := hown.form
    have HLL := Lib.hid hLL
    clear hown hB hLL
    by_cases hlt : k < l.length
    · obtain rfl := HP.out.1 (by omega)
      obtain ⟨e1, e2, e3, e4⟩ := HP.out.2 k hlt
      have e1 := HT.out.keeps.cell id e1
      have e2 := HT.out.keeps.cell id e2
      have e3 := HT.out.keeps.cell id e3
      have e4 := HT.out.keeps.cell id e4
      have hix : (0 : Int) ≤ (k : Int) ∧ (k : Int) < (l.length : Int) := by omega
      go_upto_region 5 with (fail)
      refine wp_region_seq (kdOf [22] []) (0 :: 0 :: 0 :: 6 :: 14 :: 30 :: 0 :: 0 :: 192 :: 448 :: 960 :: 0 :: 0 :: 6144 :: 14336 :: 30720 :: 0 :: 0 :: 196608 :: 458752 :: 983040 :: 2097150 :: 4194302 :: 8388607 :: 16777215 :: []) [0, 1, 2, 3, 4, 5, 6, 7, 8, 9, 10, 11, 12, 13, 14, 15, 16, 17, 18, 19, 20, 21, 22] [23, 24] (by kernel_rfl) (by kernel_rfl) (fun i T z hi hk => by simp [kdOf] at hk <;> (try (split at hk <;> cases hk))) ?_
      intro W0 hW0
      have e1 := hW0.keeps.cell id e1
      have e2 := hW0.keeps.cell id e2
      have e3 := hW0.keeps.cell id e3
      have e4 := hW0.keeps.cell id e4
      repeat (first | (refine run_off rfl rfl (by rfl) ?_; (try simp only [Act.put, List.setIfInBounds_toArray, List.set_cons_zero, List.set_cons_succ])) | (refine run_chain_off rfl rfl (by rfl) (K0_mono _) ?_; (try simp only [Act.put, List.setIfInBounds_toArray, List.set_cons_zero, List.set_cons_succ])) | ((refine run_want rfl rfl (by rfl) ⟨?_, fun W hW => ?_, ?_⟩; rotate_left; (· (have d0 := hW.keeps.cell id e1; have d1 := hW.keeps.cell id e2; have d2 := hW.keeps.cell id e3; have d3 := hW.keeps.cell id e4; go_simp; (try with_reducible rfl)))); (try simp only [Act.put, List.setIfInBounds_toArray, List.set_cons_zero, List.set_cons_succ])))
      refine run_chain rfl rfl (by rfl) (fun W1 hW1 K' hK' => ?_)
      go_simp
      refine hK' _ _ (.of (Step.alloc _ _)) ?_
      (try simp only [Act.put, List.setIfInBounds_toArray, List.set_cons_zero, List.set_cons_succ])
      refine run_end (L := [_, _]) rfl (fun W2 hW2 => ?_)
      have hown2 := ((HO.out.step (hW0.trans hW1)).alloc (.cells #[.int .i64 l[k].soil, .int .i64 l[k].depth, .int .i64 l[k].force, .bool l[k].held] 102)).step hW2
      have hu := (SLe.one (S := avoid (Old w) (.slice pu LL.length cu)) (w := W1) (cs := [.int .i64 l[k].soil, .int .i64 l[k].depth, .int .i64 l[k].force, .bool l[k].held]) (x := l[k]) 102 rfl).step hW2
      have hB2 := ((HB.out.step (Nat.le_refl _) (hW0.trans hW1)).step (Nat.le_refl _) (Step.alloc _ (.cells #[.int .i64 l[k].soil, .int .i64 l[k].depth, .int .i64 l[k].force, .bool l[k].held] 102))).step (Nat.le_refl _) hW2
      clear hW0 hW1 hW2 hK'
      go_wp2_with (at_builtin; refine wpl_append1 (l := l) (k := k) eiTests rfl _ _ rfl rfl rfl hown2 hlt (by omega) (by decide) hu hB2 (Nat.le_refl _) ?_)
      intro p' c' w2 hown3 hB3 _
      have H3 := Lib.hid (And.intro hown3 hB3)
      clear hown2 hu hB2 hown3 hB3
      go_wp2
      go_roundw
      case rel => exact ⟨k + 1, by omega, by go_num, H3.out.1, H3.out.2⟩
      case measure => simp [intOf]; omega
    · have HN := Lib.hid (show LL = l by rw [HLL.out, List.take_of_length_le (by omega)])
      go_wp2
      go_ret
      refine ⟨_, rfl, ?_, HT.out⟩
      have h := HO.out.fresh
      rw [← HLL.out, HN.out] at h
      rw [HN.out]; exact h
set_option maxHeartbeats 2000000 in
theorem Wind_any (S : Nat → Prop) (l : List Vec) (v : Value) (w : World) (hv : SL S w v l) (hl : l.length ≤ 1000) :
    Calls Tryz.prog 20 #[v] w fun e w' => ∃ v', e = .returned v' ∧ SL (Old w) w' v' l ∧ Step w w' := by
  obtain ⟨pv, cv, b, o, rfl, _, hm, hp, hc, _⟩ := hv.vecs
  have HP := Lib.hid (And.intro hp hc)
  clear hp hc hv
  go_enter Tryz.func20, Tryz.ntmps20
  go_wp2
  go_loopw [3, 4] (fun out i wr => ∃ k : Nat, k ≤ l.length ∧ i = .int .i64 k ∧ OwnL (Old w) w.heap.size 70 wr out (l.take k) ∧ Below w.heap.size w wr) (fun _ i _ => l.length - (intOf i).toNat)
  case atStart => exact ⟨0, Nat.zero_le _, rfl, OwnL.nil _ _ _ _, Below.refl _ _⟩
  case round =>
    obtain ⟨k, hk, rfl, hown, hB⟩ := hrel
    have HT := Lib.hid (Step.of hB)
    have HO := Lib.hid hown
    have HB := Lib.hid hB
    obtain ⟨LL, hLL⟩ : ∃ L, L = l.take k := ⟨_, rfl⟩
    rw [← hLL] at hown
    obtain ⟨pu, cu, rfl, _⟩ := hown.form
    have HLL := Lib.hid hLL
    clear hown hB hLL
    by_cases hlt : k < l.length
    · obtain rfl := HP.out.1 (by omega)
      obtain ⟨e1, e2⟩ := HP.out.2 k hlt
      have e1 := HT.out.keeps.cell id e1
      have e2 := HT.out.keeps.cell id e2
      have hix : (0 : Int) ≤ (k : Int) ∧ (k : Int) < (l.length : Int) := by omega
      have hcall := Lib.hid (Vector_any l[k] wr)
      go_wp2_with fail
      refine hcall.out.mono ?_
      rintro e w1 ⟨rfl, hS⟩
      have hown2 := (HO.out.step hS).alloc (.cells #[.int .i64 l[k].x, .int .i64 l[k].y] 70)
      have hu := SLe.one (S := avoid (Old w) (.slice pu LL.length cu)) (w := w1) (cs := [.int .i64 l[k].x, .int .i64 l[k].y]) (x := l[k]) 70 rfl
      have hB2 := (HB.out.step (Nat.le_refl _) hS).step (Nat.le_refl _) (Step.alloc _ (.cells #[.int .i64 l[k].x, .int .i64 l[k].y] 70))
      clear hS hcall e1 e2
      go_wp2_with (at_builtin; refine wpl_append1 (l := l) (k := k) eiVecs rfl _ _ rfl rfl rfl hown2 hlt (by omega) (by decide) hu hB2 (Nat.le_refl _) ?_)
      intro p' c' w2 hown3 hB3 _
      have H3 := Lib.hid (And.intro hown3 hB3)
      clear hown2 hu hB2 hown3 hB3
      go_wp2
      go_roundw
      case rel => exact ⟨k + 1, by omega, by go_num, H3.out.1, H3.out.2⟩
      case measure => simp [intOf]; omega
    · have HN := Lib.hid (show LL = l by rw [HLL.out, List.take_of_length_le (by omega)])
      go_wp2
      go_ret
      refine ⟨_, rfl, ?_, HT.out⟩
      have h := HO.out.fresh
      rw [← HLL.out, HN.out] at h
      rw [HN.out]; exact h
def fewH (h : Head) : Bool := decide (h.guys.length ≤ 10)
def few (l : List Tst) (t : List Head) : Bool := t.all fewH && decide (l.length ≤ 45) && decide (t.length ≤ 15)
theorem all_miss {α : Type} {l : List α} {p : α → Bool} {k : Nat} (h : k < l.length) (hp : p l[k] = false) : l.all p = false := by
  rw [List.all_eq_false]
  exact ⟨_, List.getElem_mem h, by simp [hp]⟩
theorem all_of {α : Type} {l : List α} {p : α → Bool} (h : ∀ j (hj : j < l.length), p l[j] = true) : l.all p = true := by
  rw [List.all_eq_true]
  intro x hx
  obtain ⟨j, hj, rfl⟩ := List.getElem_of_mem hx
  exact h j hj
set_option maxHeartbeats 2000000 in
theorem Few_any (S : Nat → Prop) (l : List Tst) (t : List Head) (v u : Value) (w : World) (hv : SL S w v l) (hu : SL S w u t) :
    Calls Tryz.prog 4 #[v, u] w fun e w' => e = .returned (.bool (few l t)) ∧ Step w w' := by
  have hm := hv.len
  obtain ⟨pv, cv, rfl⟩ := hv.form
  obtain ⟨pt, ct, b, o, rfl, _, hm2, hp, hc, _⟩ := hu.heads
  have HP := Lib.hid (And.intro hp hc)
  have HT0 := Lib.hid (Step.refl w)
  clear hp hc hv hu
  go_enter Tryz.func4, Tryz.ntmps4
  go_wp2
  go_loopw [5] (fun i wr => ∃ k : Nat, k ≤ t.length ∧ i = .int .i64 k ∧ (∀ j (hj : j < k) (hl : j < t.length), fewH t[j] = true) ∧ Step w wr) (fun i _ => t.length - (intOf i).toNat)
  case atStart => exact ⟨0, Nat.zero_le _, rfl, fun j hj => absurd hj (by omega), HT0.out⟩
  case round =>
    obtain ⟨k, hk, rfl, hno, hT⟩ := hrel
    have HN := Lib.hid hno
    have HT := Lib.hid hT
    clear hno hT
    by_cases hlt : k < t.length
    · obtain rfl := HP.out.1 (by omega)
      obtain ⟨c2, e1, e2, e3, e4⟩ := HP.out.2 k hlt
      have hgl := e4.len
      obtain ⟨pg, cg, rfl⟩ := e4.form
      have e3 := HT.out.keeps.cell id e3
      have hix : (0 : Int) ≤ (k : Int) ∧ (k : Int) < (t.length : Int) := by omega
      clear e1 e2 e4
      by_cases hg : t[k].guys.length ≤ 10
      · have hd : decide ((10 : Int) < (t[k].guys.length : Int)) = false := by simp; omega
        have HG := Lib.hid (show fewH t[k] = true by simp [fewH, hg])
        clear hg
        go_wp2
        go_roundw
        case rel => exact ⟨k + 1, by omega, by go_num, fun j hj hl => if h : j = k then by subst h; exact HG.out else HN.out j (by omega) hl, HT.out⟩
        case measure => simp [intOf]; omega
      · have hd : decide ((10 : Int) < (t[k].guys.length : Int)) = true := by simp; omega
        have HG := Lib.hid (show few l t = false by unfold few; rw [all_miss hlt (by simp [fewH, hg])]; rfl)
        clear hg
        go_wp2
        go_ret
        exact ⟨by rw [HG.out]; rfl, HT.out⟩
    · have HA := Lib.hid (show t.all fewH = true from all_of fun j hj => HN.out j (by omega) hj)
      by_cases h1 : l.length ≤ 45
      · have hd1 : decide ((l.length : Int) ≤ 45) = true := by simp; omega
        have H1 := Lib.hid h1
        clear h1
        by_cases h2 : t.length ≤ 15
        · have hd2 : decide ((t.length : Int) ≤ 15) = true := by simp; omega
          have H2 := Lib.hid h2
          clear h2
          go_wp2
          go_ret
          exact ⟨by unfold few; rw [HA.out]; simp [H1.out, H2.out], HT.out⟩
        · have hd2 : decide ((t.length : Int) ≤ 15) = false := by simp; omega
          have H2 := Lib.hid h2
          clear h2
          go_wp2
          go_ret
          exact ⟨by unfold few; rw [HA.out]; simp [H1.out, H2.out], HT.out⟩
      · have hd1 : decide ((l.length : Int) ≤ 45) = false := by simp; omega
        have H1 := Lib.hid h1
        clear h1
        go_wp2
        go_ret
        exact ⟨by unfold few; rw [HA.out]; simp [H1.out], HT.out⟩
end Go.Proofs.YtoanjaidfdkdpaaGreat
/- Walks: the forces of a head: the document's way. -/
namespace Go.Proofs.YtoanjaidfdkdpaaGreat
set_option linter.unusedSimpArgs false
set_option linter.unusedVariables false
open Go.RowKit Go.BT

theorem cells3 {w : World} {g : Nat} {c0 c1 c2 : Value} {T : TypeId} (h : Bx w g [c0, c1, c2] T) : w.cell? ⟨g, 0, none⟩ = some c0 ∧ w.cell? ⟨g, 1, none⟩ = some c1 ∧ w.cell? ⟨g, 2, none⟩ = some c2 := ⟨h.cell 0, h.cell 1, h.cell 2⟩
theorem forces_len (l : List Tst) (gs : List Guy) : (forcesL l gs).length = gs.length := by simp [forcesL]
theorem forces_get {l : List Tst} {gs : List Guy} {k : Nat} (hk : k < (forcesL l gs).length) : (forcesL l gs)[k] = timesV ⟨(gs[k]'(by rw [forces_len] at hk; exact hk)).x, (gs[k]'(by rw [forces_len] at hk; exact hk)).y⟩ (partL l (gs[k]'(by rw [forces_len] at hk; exact hk))) := by simp [forcesL, forceL]
theorem force_wrap {l : List Tst} {g : Guy} (hl : l.all tstB = true) (hg : guyB g = true) : fits (partL l g * g.x) ∧ fits (partL l g * g.y) := by
  have hp := part_bound hl hg
  obtain ⟨hx, hy, _⟩ := guy_parts hg
  have a := part_mul hp hx
  have b := part_mul hp hy
  unfold fits
  omega
end Go.Proofs.YtoanjaidfdkdpaaGreat
/- Walks: the forces of a head: the program's way. -/
namespace Go.Proofs.YtoanjaidfdkdpaaGreat
set_option linter.unusedSimpArgs false
set_option linter.unusedVariables false
open Go.RowKit Go.BT

theorem _root_.Go.BT.OwnL.slb {α : Type} [Rep α] {S : Nat → Prop} {base : Nat} {e : TypeId} {w : World} {v : Value} {l : List α} (h : OwnL S base e w v l) (hs : ∀ g, v.ownBlock = some g → ¬ S g) : SL S w v l := by
  have hm : l.length ≤ 9223372036854775807 := by obtain ⟨_, _, _, hm, _⟩ := h.form; simp only [maxLen] at hm; omega
  have hlt := h.lt
  obtain ⟨xs, h', hr⟩ := h
  have h := h'.2
  rcases h with ⟨rfl, h0⟩ | ⟨g, cap, cur, rfl, hb, hg, hle, hcap, hsz, htk⟩
  · have : l = [] := List.eq_nil_of_length_eq_zero h0
    subst this; exact SL.nil S w
  · refine ⟨_, cap, g, 0, rfl, hle, hm, fun _ => rfl, fun i hi => ⟨(hlt g rfl).2, hs g rfl, _, Rep.weak (fun j _ hj => .inl hj) (hr i hi), fun j u hj => ?_⟩⟩
    have hj' : (xs.drop (i * Rep.k α))[j]? = some u := by
      rw [List.getElem?_take] at hj; split at hj
      · exact hj
      · cases hj
    rw [List.getElem?_drop] at hj'
    have := h'.cells (g := g) (by simp [Value.ownBlock]) (i * Rep.k α + j) u hj'
    rw [Addr.add_lit] at this
    simpa using this
/-- What wrote into new blocks, and into C. -/
theorem _root_.Go.BT.StepX.over {C X : Nat → Prop} {w0 w w' : World} (h : StepX C w0 w) (k : StepX X w w') (hX : ∀ j, X j → w0.heap.size ≤ j ∨ C j) : StepX C w0 w' :=
  ⟨k.os.trans h.os, k.tape.trans h.tape, k.output.trans h.output, Nat.le_trans h.size k.size, fun j hj hn => (k.block j (Nat.lt_of_lt_of_le hj h.size) (fun hx => (hX j hx).elim (fun h => by omega) hn)).trans (h.block j hj hn)⟩
/-- A head with the forces of its guys, as a value. -/
def MVS (S : Nat → Prop) (w : World) (v : Value) (area : Int) (F : List Vec) : Prop := ∃ (b : Int) (p2 : Option Addr) (n2 k2 : Nat) (p3 : Option Addr) (k3 : Nat), v = .agg #[.int .i64 area, .int .i64 b, .slice p2 n2 k2, .slice p3 F.length k3] ∧ SL S w (.slice p3 F.length k3) F
abbrev MV (w : World) (v : Value) (area : Int) (F : List Vec) : Prop := MVS (fun _ => False) w v area F
theorem MVS.triv {S : Nat → Prop} {w : World} {v : Value} {area : Int} {F : List Vec} (h : MVS S w v area F) : MV w v area F := by
  obtain ⟨b, p2, n2, k2, p3, k3, e, h⟩ := h
  exact ⟨b, p2, n2, k2, p3, k3, e, h.weak fun _ _ h => h.elim⟩
theorem MVS.step {w w' : World} {v : Value} {area : Int} {F : List Vec} (h : MV w v area F) (hs : Step w w') : MV w' v area F := by
  obtain ⟨b, p2, n2, k2, p3, k3, e, h⟩ := h
  exact ⟨b, p2, n2, k2, p3, k3, e, h.keep (.of_step hs)⟩
theorem siMeas : SI Tryz.prog 145 4 := ⟨⟨_, Tryz.underlying145⟩, by kernel_rfl⟩
theorem cells4 {w : World} {g : Nat} {c0 c1 c2 c3 : Value} {T : TypeId} (h : Bx w g [c0, c1, c2, c3] T) : w.cell? ⟨g, 0, none⟩ = some c0 ∧ w.cell? ⟨g, 1, none⟩ = some c1 ∧ w.cell? ⟨g, 2, none⟩ = some c2 ∧ w.cell? ⟨g, 3, none⟩ = some c3 := ⟨h.cell 0, h.cell 1, h.cell 2, h.cell 3⟩
set_option maxRecDepth 100000 in
set_option maxHeartbeats 4000000 in
theorem measure_any (S : Nat → Prop) (l : List Tst) (h : Head) (v u : Value) (w : World) (hv : SL S w v l) (hu : AV S w u h) (hl : l.all tstB = true) (hg : h.guys.all guyB = true) (hn : h.guys.length ≤ 1000) :
    Calls Tryz.prog 67 #[u, v] w fun e w' => ∃ v', e = .returned v' ∧ MVS (Old w) w' v' h.area (forcesL l h.guys) ∧ Step w w' := by
  obtain ⟨c2, rfl, h2⟩ := hu.head
  obtain ⟨pg, cg, bg, og, rfl, _, hm, hp, hc, hbg⟩ := h2.guys
  obtain ⟨W0, hW0⟩ : ∃ W, W = ((w.alloc (.cells #[.int .i64 h.area, .int .i64 h.bears, .slice pg h.guys.length cg] 105)).alloc (.cells #[.int .i64 0, .int .i64 0, .slice none 0 0, .slice none 0 0] 145)).alloc (.cells #[.int .i64 h.area, .int .i64 h.bears, .slice pg h.guys.length cg, .slice none 0 0] 145) := ⟨_, rfl⟩
  have hb1 : Bx W0 w.heap.size [.int .i64 h.area, .int .i64 h.bears, .slice pg h.guys.length cg] 105 := by subst hW0; exact ((Bx.new w [_, _, _] _).alloc _).alloc _
  have hb2 : Bx W0 (w.heap.size + 1) [.int .i64 0, .int .i64 0, .slice none 0 0, .slice none 0 0] 145 := by subst hW0; exact (Bx.new' _ [_, _, _, _] _ _ (by simp)).alloc _
  have hb3 : Bx W0 (w.heap.size + 2) [.int .i64 h.area, .int .i64 h.bears, .slice pg h.guys.length cg, .slice none 0 0] 145 := by subst hW0; exact Bx.new' _ [_, _, _, _] _ _ (by simp)
  have hS : Step w W0 := by subst hW0; exact (by repeat (first | (with_reducible assumption) | (with_reducible exact Step.refl _) | (with_reducible apply Step.s_alloc) | (with_reducible apply Step.s_drew) | (with_reducible apply Step.s_drewN) | (with_reducible refine Step.trans ?_ (by with_reducible assumption))))
  have hz : W0.heap.size = w.heap.size + 3 := by subst hW0; simp
  have hv0 := hv.weak (T := fun j => w.heap.size ≤ j) (fun j h1 h2 => by omega)
  have hbl : 0 < h.guys.length → bg < w.heap.size := fun h0 => (hbg h0).1
  have HV := Lib.hid (hv0.keep (.of_step hS))
  obtain ⟨pv, cv, rfl⟩ := hv.form
  have HB1 := Lib.hid hb1
  have HB2 := Lib.hid hb2
  have HB3 := Lib.hid hb3
  have HS := Lib.hid hS
  have HZ := Lib.hid hz
  have HW := Lib.hid hW0
  have HL := Lib.hid (And.intro hl hg)
  have HP := Lib.hid (And.intro hp (And.intro hc hbl))
  have HKL := Lib.hid (forces_len l h.guys)
  clear hb1 hb2 hb3 hS hz hW0 hl hg hv h2 hp hc hv0 hbl hbg
  go_enter Tryz.func67, Tryz.ntmps67
  go_wp2
  rw [← HW.out]
  go_loopw [13] (fun i wr => ∃ (k : Nat) (q : Value), k ≤ h.guys.length ∧ i = .int .i64 k ∧ Bx wr (w.heap.size + 2) [.int .i64 h.area, .int .i64 h.bears, .slice pg h.guys.length cg, q] 145 ∧ OwnL (Old W0) W0.heap.size 70 wr q ((forcesL l h.guys).take k) ∧ StepX (fun j => j = w.heap.size + 2) W0 wr) (fun i _ => h.guys.length - (intOf i).toNat)
  case atStart => exact ⟨0, _, Nat.zero_le _, rfl, HB3.out, OwnL.nil _ _ _ _, StepX.refl _ _⟩
  case round =>
    obtain ⟨k, q, hk, rfl, hb3, hown, hX⟩ := hrel
    clear HB3
    have HB3 := Lib.hid hb3
    have HX := Lib.hid hX
    have HO := Lib.hid hown
    obtain ⟨LL, hLL⟩ : ∃ L, L = (forcesL l h.guys).take k := ⟨_, rfl⟩
    rw [← hLL] at hown
    obtain ⟨pu, cu, rfl, _⟩ := hown.form
    have HLL := Lib.hid hLL
    have hne : (Value.slice pu LL.length cu).ownBlock ≠ some (w.heap.size + 2) := fun e => by have := (hown.lt _ e).1; have := HZ.out; omega
    have HNE := Lib.hid hne
    clear hown hLL hb3 hX hne
    obtain ⟨m0, m1, m2, m3⟩ := cells4 HB3.out
    have z3 := HB3.out.frozen 3
    have yl := HB3.out.lt
    by_cases hlt : k < h.guys.length
    · have hbl := HP.out.2.2 (by omega)
      obtain rfl := HP.out.1 (by omega)
      obtain ⟨e1, e2, e3, e4, e5⟩ := HP.out.2.1 k hlt
      have hcell : ∀ o u, w.cell? ⟨bg, o, none⟩ = some u → wr.cell? ⟨bg, o, none⟩ = some u := fun o u hu => HX.out.keeps.cell (a := ⟨bg, o, none⟩) (by show ¬ bg = w.heap.size + 2; omega) (HS.out.keeps.cell id hu)
      have e1 := hcell _ _ e1
      have e2 := hcell _ _ e2
      have e3 := hcell _ _ e3
      have e4 := hcell _ _ e4
      have e5 := hcell _ _ e5
      have hix : (0 : Int) ≤ (k : Int) ∧ (k : Int) < (h.guys.length : Int) := by omega
      obtain ⟨g, hgk⟩ : ∃ g, g = h.guys[k] := ⟨_, rfl⟩
      have hgv := all_get HL.out.2 hlt
      rw [← hgk] at e1 e2 e3 e4 e5 hgv
      have hlk : k < (forcesL l h.guys).length := by have := HKL.out; omega
      have HFK := Lib.hid (show (forcesL l h.guys)[k] = timesV ⟨g.x, g.y⟩ (partL l g) by rw [forces_get hlk, hgk])
      have HGV := Lib.hid hgv
      have HVr := Lib.hid (HV.out.keep (HX.out.keeps.mono fun j hj hx => by show w.heap.size ≤ j; omega))
      clear hgk hgv hcell hbl
      go_upto_region 5 with (fail)
      obtain ⟨wa, hwa⟩ : ∃ W, W = wr.alloc (.cells #[.int .i64 g.x, .int .i64 g.y, .int .i64 g.down, .int .i64 g.soil, .int .i64 g.depth] 108) := ⟨_, rfl⟩
      rw [← hwa]
      have hga : Bx wa wr.heap.size [.int .i64 g.x, .int .i64 g.y, .int .i64 g.down, .int .i64 g.soil, .int .i64 g.depth] 108 := by rw [hwa]; exact Bx.new wr [_, _, _, _, _] _
      have hsa : Step wr wa := by rw [hwa]; exact Step.alloc _ _
      have HGA := Lib.hid hga
      have HSA := Lib.hid hsa
      clear hwa hga hsa e1 e2 e3 e4 e5 m0 m1 m2 m3 z3 yl
      refine wp_region_seq (kdOf [9, 10, 11] []) [0, 1, 0, 4, 0, 16, 60, 0, 0, 384, 1020, 2044, 4095, 8191, 16383] [0, 1, 2, 3, 4, 5, 6, 7, 8, 9, 10, 11] [12, 13, 14] (by kernel_rfl) (by kernel_rfl) (fun i T z hi hk => by simp [kdOf] at hk <;> (try (split at hk <;> cases hk))) ?_
      intro Wx hWx
      have HT := Lib.hid hWx
      clear hWx
      obtain ⟨g0, g1, g2, g3, g4⟩ := cells5 (HGA.out.step HT.out)
      obtain ⟨m0, m1, m2, m3⟩ := cells4 (HB3.out.step (HSA.out.trans HT.out))
      repeat (first | (refine run_off rfl rfl (by rfl) ?_; (try simp only [Act.put, List.setIfInBounds_toArray, List.set_cons_zero, List.set_cons_succ])) | (refine run_chain_off rfl rfl (by rfl) (K0_mono _) ?_; (try simp only [Act.put, List.setIfInBounds_toArray, List.set_cons_zero, List.set_cons_succ])) | ((refine run_want rfl rfl (by rfl) ⟨?_, fun W hW => ?_, ?_⟩; rotate_left; (· (have d0 := hW.keeps.cell id g0; have d1 := hW.keeps.cell id g1; have d2 := hW.keeps.cell id g2; have d3 := hW.keeps.cell id g3; have d4 := hW.keeps.cell id g4; have d5 := hW.keeps.cell id m3; go_simp; (try with_reducible rfl)))); (try simp only [Act.put, List.setIfInBounds_toArray, List.set_cons_zero, List.set_cons_succ])))
      refine run_chain rfl rfl (by rfl) (fun Wi hWi K' hK => ?_)
      have HTi := Lib.hid (HT.out.trans hWi)
      have HZW := Lib.hid HTi.out.size
      clear hWi HT
      go_simp
      refine (part_any _ l g _ _ (HVr.out.keep (.of_step (HSA.out.trans HTi.out))) HL.out.1 HGV.out).mono ?_
      rintro e wn ⟨rfl, hSn⟩
      have HT := Lib.hid (HTi.out.trans (StepX.of hSn))
      clear HTi
      refine hK _ _ (StepX.of hSn) ?_
      clear hSn
      (try simp only [Act.put, List.setIfInBounds_toArray, List.set_cons_zero, List.set_cons_succ])
      clear g0 g1 g2 g3 g4 m0 m1 m2 m3
      obtain ⟨p, hp⟩ : ∃ p, p = partL l g := ⟨_, rfl⟩
      have hw := force_wrap HL.out.1 HGV.out
      rw [← hp] at hw HFK ⊢
      clear hp
      obtain ⟨g0, g1, g2, g3, g4⟩ := cells5 (HGA.out.step HT.out)
      obtain ⟨m0, m1, m2, m3⟩ := cells4 (HB3.out.step (HSA.out.trans HT.out))
      repeat (first | (refine run_off rfl rfl (by rfl) ?_; (try simp only [Act.put, List.setIfInBounds_toArray, List.set_cons_zero, List.set_cons_succ])) | (refine run_chain_off rfl rfl (by rfl) (K0_mono _) ?_; (try simp only [Act.put, List.setIfInBounds_toArray, List.set_cons_zero, List.set_cons_succ])) | ((refine run_want rfl rfl (by rfl) ⟨?_, fun W hW => ?_, ?_⟩; rotate_left; (· (have d0 := hW.keeps.cell id g0; have d1 := hW.keeps.cell id g1; have d2 := hW.keeps.cell id g2; have d3 := hW.keeps.cell id g3; have d4 := hW.keeps.cell id g4; have d5 := hW.keeps.cell id m3; go_simp; (try with_reducible rfl)))); (try simp only [Act.put, List.setIfInBounds_toArray, List.set_cons_zero, List.set_cons_succ])))
      refine run_chain rfl rfl (by rfl) (fun Wi hWi K' hK => ?_)
      have HTi := Lib.hid (HT.out.trans hWi)
      have HZW := Lib.hid HTi.out.size
      clear hWi HT
      go_simp
      refine (times_any ⟨g.x, g.y⟩ p _ hw.1 hw.2).mono ?_
      rintro e wn ⟨rfl, hSn⟩
      have HT := Lib.hid (HTi.out.trans (StepX.of hSn))
      clear HTi
      refine hK _ _ (StepX.of hSn) ?_
      clear hSn
      (try simp only [Act.put, List.setIfInBounds_toArray, List.set_cons_zero, List.set_cons_succ])
      clear g0 g1 g2 g3 g4 m0 m1 m2 m3
      repeat (first | (refine run_off rfl rfl (by rfl) ?_; (try simp only [Act.put, List.setIfInBounds_toArray, List.set_cons_zero, List.set_cons_succ])) | (refine run_chain_off rfl rfl (by rfl) (K0_mono _) ?_; (try simp only [Act.put, List.setIfInBounds_toArray, List.set_cons_zero, List.set_cons_succ])) | ((refine run_want rfl rfl (by rfl) ⟨?_, fun W hW => ?_, ?_⟩; rotate_left; (· (skip; go_simp; (try with_reducible rfl)))); (try simp only [Act.put, List.setIfInBounds_toArray, List.set_cons_zero, List.set_cons_succ])))
      refine run_chain rfl rfl (by rfl) (fun W1 hW1 K' hK' => ?_)
      go_simp
      refine hK' _ _ (.of (Step.alloc _ _)) ?_
      (try simp only [Act.put, List.setIfInBounds_toArray, List.set_cons_zero, List.set_cons_succ])
      refine run_end (L := [_, _, _]) rfl (fun W2 hW2 => ?_)
      have hs1 := (HSA.out.trans HT.out).trans hW1
      have hst : Step wr W2 := (hs1.trans (Step.alloc _ (.cells #[.int .i64 (timesV ⟨g.x, g.y⟩ p).x, .int .i64 (timesV ⟨g.x, g.y⟩ p).y] 70))).trans hW2
      have hown2 := HO.out.step hst
      have hu := (SLe.one (S := avoid (Old W0) (.slice pu LL.length cu)) (w := W1) (cs := [.int .i64 (timesV ⟨g.x, g.y⟩ p).x, .int .i64 (timesV ⟨g.x, g.y⟩ p).y]) (x := (forcesL l h.guys)[k]) 70 (by rw [HFK.out]; rfl)).step hW2
      have hsz : W0.heap.size ≤ W2.heap.size := Nat.le_trans HX.out.size hst.size
      have b3 := HB3.out.step hst
      have HX2 := Lib.hid (HX.out.trans (StepX.of hst))
      clear hW1 hW2 hK' hs1 hst hw
      go_wp2_with (at_builtin; refine wpl_append1 (W0 := W2) (l := (forcesL l h.guys)) (k := k) eiVecs rfl _ _ rfl rfl rfl hown2 hlk (by have := HKL.out; omega) (by decide) hu (Below.refl _ _) hsz ?_)
      intro p' c' w3 hown3 _ hg
      have b4 := b3.keep (S := fun j => (Value.slice pu LL.length cu).ownBlock = some j) (.grown hg fun j hj _ => hj) HNE.out
      obtain ⟨m0, m1, m2, m3⟩ := cells4 b4
      have z3 := b4.frozen 3
      have yl := b4.lt
      have hX3 : StepX (fun j => j = w.heap.size + 2) W0 w3 := HX2.out.over (X := fun j => (Value.slice pu LL.length cu).ownBlock = some j) (.grown hg fun j hj _ => hj) fun j hj => .inl (HO.out.lt j hj).1
      have hn3 : (Value.slice p' (k + 1) c').ownBlock ≠ some (w.heap.size + 2) := fun e => by have := (hown3.lt _ e).1; have := HZ.out; omega
      have H3 := Lib.hid (And.intro hown3 (And.intro b4 (And.intro hX3 hn3)))
      clear hown2 hu hown3 hg b3 b4 hX3 hn3 hsz
      go_wp2
      go_roundw
      case rel => exact ⟨k + 1, _, by omega, by go_num, H3.out.2.1.setCell 3 _, H3.out.1.wrote (.setCell _ _ _ _) (show w.heap.size + 2 < W0.heap.size by have := HZ.out; omega) H3.out.2.2.2, H3.out.2.2.1.setCell ⟨w.heap.size + 2, 3, none⟩ _ rfl⟩
      case measure => simp [intOf]; omega
    · have HN := Lib.hid (show LL = forcesL l h.guys by rw [HLL.out, List.take_of_length_le (by have := HKL.out; omega)])
      obtain ⟨a0, a1, a2, a3⟩ := cells4 (HB2.out.keep HX.out.keeps (show ¬ w.heap.size + 1 = w.heap.size + 2 by omega))
      have y0 := (HB2.out.keep HX.out.keeps (show ¬ w.heap.size + 1 = w.heap.size + 2 by omega)).frozen 0
      have y1 := (HB2.out.keep HX.out.keeps (show ¬ w.heap.size + 1 = w.heap.size + 2 by omega)).frozen 1
      have y2 := (HB2.out.keep HX.out.keeps (show ¬ w.heap.size + 1 = w.heap.size + 2 by omega)).frozen 2
      have y3 := (HB2.out.keep HX.out.keeps (show ¬ w.heap.size + 1 = w.heap.size + 2 by omega)).frozen 3
      go_wp2
      have b2 := HB2.out.keep HX.out.keeps (show ¬ w.heap.size + 1 = w.heap.size + 2 by omega)
      have b5 := set4 b2 (.int .i64 h.area) (.int .i64 h.bears) (.slice pg h.guys.length cg) (.slice pu LL.length cu)
      have hx5 : Step w ((((wr.setCell ⟨w.heap.size + 1, 0, none⟩ (.int .i64 h.area)).setCell ⟨w.heap.size + 1, 1, none⟩ (.int .i64 h.bears)).setCell ⟨w.heap.size + 1, 2, none⟩ (.slice pg h.guys.length cg)).setCell ⟨w.heap.size + 1, 3, none⟩ (.slice pu LL.length cu)) :=
        StepX.fresh (StepX.fresh HS.out HX.out (fun j hj => by omega)) b5.2 (fun j hj => by omega)
      have hsl := HO.out.slb fun j hj hs => by have := (HO.out.lt j hj).1; unfold Old at hs; omega
      have hl4 := HLL.out
      rw [HN.out] at hl4
      rw [← HLL.out, HN.out] at hsl
      refine ret_struct (k := 4) rfl siMeas rfl b5.1 rfl rfl ⟨_, rfl, ⟨h.bears, pg, h.guys.length, cg, pu, cu, by rw [HN.out], ?_⟩, hx5⟩
      have hk5 := (hsl.weak (T := fun j => Old w j ∨ j = w.heap.size + 1) (fun j _ hj => by have := HZ.out; unfold Old at *; omega)).keep (b5.2.keeps.mono fun j _ hj => .inr hj)
      exact hk5.weak fun _ _ h => .inl h
end Go.Proofs.YtoanjaidfdkdpaaGreat
/- Walks: the ways of a head. -/
namespace Go.Proofs.YtoanjaidfdkdpaaGreat
set_option linter.unusedSimpArgs false
set_option linter.unusedVariables false
open Go.RowKit Go.BT

theorem _root_.Go.BT.OwnL.flat {α : Type} [Flat α] {S : Nat → Prop} (T : Nat → Prop) {base : Nat} {e : TypeId} {w : World} {v : Value} {l : List α} (h : OwnL S base e w v l) : OwnL T base e w v l := by
  obtain ⟨xs, ho, hr⟩ := h; exact ⟨xs, ho, fun i hi => Flat.flat (hr i hi)⟩
/-- A finished row reads as a list. -/
def cellsV (l : List Vec) : List Value := l.flatMap fun v => [.int .i64 v.x, .int .i64 v.y]
theorem cellsV_cons (v : Vec) (l : List Vec) : cellsV (v :: l) = .int .i64 v.x :: .int .i64 v.y :: cellsV l := rfl
theorem cellsV_len : ∀ l : List Vec, (cellsV l).length = l.length * 2
  | [] => rfl
  | c :: l => by rw [cellsV_cons, List.length_cons, List.length_cons, cellsV_len l, List.length_cons]; omega
theorem cellsV_drop : ∀ (l : List Vec) (i : Nat) (hi : i < l.length), (cellsV l).drop (i * 2) = .int .i64 l[i].x :: .int .i64 l[i].y :: cellsV (l.drop (i + 1))
  | [], i, hi => by simp at hi
  | c :: l, 0, _ => by simp [cellsV_cons]
  | c :: l, i + 1, hi => by
    rw [cellsV_cons, show (i + 1) * 2 = i * 2 + 1 + 1 by omega, List.drop_succ_cons, List.drop_succ_cons, cellsV_drop l i (by simpa using hi)]
    simp
/-- A list of ways that is the call's own, or fills the array of the axes. -/
def OutW (S : Nat → Prop) (base : Nat) (w : World) (v : Value) (l : List Vec) : Prop :=
  OwnL S base 70 w v l ∨ ∃ b, base ≤ b ∧ b < w.heap.size ∧ v = .slice (some ⟨b, 0, none⟩) l.length l.length ∧ 0 < l.length ∧ ∀ j u, (cellsV l)[j]? = some u → w.cell? ⟨b, j, none⟩ = some u
theorem OutW.step {S : Nat → Prop} {base : Nat} {w w' : World} {v : Value} {l : List Vec} (h : OutW S base w v l) (hs : Step w w') : OutW S base w' v l := by
  rcases h with h | ⟨b, h1, h2, h3, h4, h5⟩
  · exact .inl (h.step hs)
  · exact .inr ⟨b, h1, Nat.lt_of_lt_of_le h2 hs.size, h3, h4, fun j u hj => hs.keeps.cell id (h5 j u hj)⟩
theorem OutW.form {S : Nat → Prop} {base : Nat} {w : World} {v : Value} {l : List Vec} (h : OutW S base w v l) : ∃ p c, v = .slice p l.length c := by
  rcases h with h | ⟨b, _, _, h3, _⟩
  · obtain ⟨p, c, e, _⟩ := h.form; exact ⟨p, c, e⟩
  · exact ⟨_, _, h3⟩
theorem OutW.lt {S : Nat → Prop} {base : Nat} {w : World} {v : Value} {l : List Vec} (h : OutW S base w v l) : ∀ g, v.ownBlock = some g → base ≤ g ∧ g < w.heap.size := by
  rcases h with h | ⟨b, h1, h2, rfl, _⟩
  · exact h.lt
  · intro g hg; simp [Value.ownBlock] at hg; subst hg; exact ⟨h1, h2⟩
theorem OutW.sl {S : Nat → Prop} {base : Nat} {w : World} {v : Value} {l : List Vec} (h : OutW S base w v l) (hl : l.length ≤ 1000) (T : Nat → Prop) (hT : ∀ j, T j → j < base) : SL T w v l := by
  rcases h with h | ⟨b, h1, h2, rfl, h4, h5⟩
  · exact (h.flat T).slb fun g hg ht => by have := (h.lt g hg).1; have := hT g ht; omega
  · refine ⟨_, _, b, 0, rfl, Nat.le_refl _, by omega, fun _ => rfl, fun i hi => ⟨h2, fun ht => by have := hT b ht; omega, [.int .i64 l[i].x, .int .i64 l[i].y], rfl, fun j u hj => ?_⟩⟩
    have hd := cellsV_drop l i hi
    show w.cell? ⟨b, 0 + i * 2 + j, none⟩ = some u
    rw [Nat.zero_add]
    refine h5 _ _ ?_
    rw [← List.getElem?_drop, hd]
    match j, hj with
    | 0, hj => exact hj
    | 1, hj => exact hj
    | j + 2, hj => simp at hj
theorem OwnL.of_cellsV {S : Nat → Prop} {base : Nat} {w : World} {v : Value} {l : List Vec} (h : w.ownsRow base 70 2 v l.length (cellsV l)) : OwnL S base 70 w v l :=
  ⟨cellsV l, h, fun i hi => by
    show ((cellsV l).drop (i * 2)).take 2 = _
    rw [cellsV_drop l i hi]; rfl⟩
theorem slV {S : Nat → Prop} {w : World} {u : Value} {m : List Vec} (h : SLe S w u m) (hm : 0 < m.length) : ∃ a c, u = .slice (some a) m.length c ∧ ∀ j x, (cellsV m)[j]? = some x → w.cell? (a.add j) = some x := by
  obtain ⟨p, c, b, o, rfl, hc, hm2, hp, ha⟩ := h
  obtain rfl := hp hm
  refine ⟨⟨b, o, none⟩, c, rfl, fun j x hj => ?_⟩
  have hjl : j < m.length * 2 := by rw [← cellsV_len]; exact (List.getElem?_eq_some_iff.1 hj).1
  obtain ⟨cs, hr, hcs⟩ := ha (j / 2) (by omega)
  have hr' : cs = [.int .i64 (m[j / 2]'(by omega)).x, .int .i64 (m[j / 2]'(by omega)).y] := hr
  subst hr'
  have hd := cellsV_drop m (j / 2) (by omega)
  have hj2 : ((cellsV m).drop (j / 2 * 2))[j % 2]? = some x := by rw [List.getElem?_drop, show j / 2 * 2 + j % 2 = j by omega]; exact hj
  rw [hd] at hj2
  rw [Addr.add_lit, show o + j = o + j / 2 * 2 + j % 2 by omega]
  have h2 : j % 2 = 0 ∨ j % 2 = 1 := by omega
  rcases h2 with h2 | h2 <;> rw [h2] at hj2 ⊢
  · exact hcs 0 x hj2
  · exact hcs 1 x hj2
theorem cellsV_append (l m : List Vec) : cellsV (l ++ m) = cellsV l ++ cellsV m := by simp [cellsV]
theorem cellsV_one {l : List Vec} : ∀ u ∈ cellsV l, u.oneCell' = true := by
  intro u hu
  obtain ⟨v, _, hv⟩ := List.mem_flatMap.1 hu
  simp at hv
  rcases hv with rfl | rfl <;> simp [Value.oneCell']
theorem wpl_append_ways {ops : Array Oper} {rest : List Oper} {o : Oper} {a : Act} {Q : Exit → Act → World → Prop} {S : Nat → Prop} {base : Nat} {w : World} {v u : Value} {l m : List Vec} (hgd : o.guard = none) (s x : Operand)
    (ho : o.op = .call { callee := .builtin .append, args := #[s, x], argTypes := #[47, 47] }) (hs : a.eval s = v) (hx : a.eval x = u) (hv : OutW S base w v l) (hu : SLe (avoid S v) w u m) (hm : 0 < m.length) (hl : l.length + m.length ≤ 1000) (hbase : base ≤ w.heap.size)
    (h : ∀ p c w', OwnL S base 70 w' (.slice p (l.length + m.length) c) (l ++ m) → w.grownBy w' v.ownBlock → wpList Tryz.prog ops Q rest (a.put o.dst (.slice p (l.length + m.length) c)) w') : wpList Tryz.prog ops Q (o :: rest) a w := by
  rcases hv with hv | ⟨b, h1, h2, rfl, h4, h5⟩
  · exact wpl_append eiVecs hgd s x ho hs hx hv hu _ rfl _ rfl (by simp only [maxLen]; omega) (by omega) hbase h
  · obtain ⟨ad, c, rfl, hc⟩ := slV hu hm
    obtain ⟨ht, hzs, i, hi, hz, hsize, hby⟩ := eiVecs
    refine wpList_append_grows w hgd s x _ ho 70 i _ 2 16 ht hi hz hsize hby rfl (by omega) (some ⟨b, 0, none⟩) l.length l.length (cellsV l) hs (by simp) (cellsV_len l) (fun b' hb' j u hj => by
        obtain rfl := Option.some.inj hb'
        rw [Addr.add_lit, Nat.zero_add]; exact h5 j u hj) ad m.length c (cellsV m) hx (cellsV_len m) hc cellsV_one (by omega) (by simp only [maxLen]; omega) (by omega) fun v' w' hr hg => ?_
    rw [← cellsV_append] at hr
    have hr2 : w'.ownsRow base 70 2 v' (l ++ m).length (cellsV (l ++ m)) := by
      rw [List.length_append]
      refine ⟨hr.1, hr.2.imp id fun ⟨g, cap, cur, e, hb, r⟩ => ⟨g, cap, cur, e, Nat.le_trans hbase hb, r⟩⟩
    have hown := OwnL.of_cellsV (S := S) hr2
    obtain ⟨p, c', rfl, _⟩ := hown.form
    rw [List.length_append] at hown ⊢
    exact h p c' w' hown ⟨hg.os, hg.tape, hg.output, hg.size, fun k hk _ => hg.block k hk (by simp)⟩
end Go.Proofs.YtoanjaidfdkdpaaGreat
