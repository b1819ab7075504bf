/- Walks and plain laws, part c. -/
import Derived.Test.YtfhmdpicoccnfaaMA
import Derived.Test.YtfhmdpicoccnfaaMB
import Derived.Test.YtfhmdpicoccnfaaRows
import Derived.ArgAppend
import Derived.BigQuiet
import Derived.BigRegionIn
import Derived.Carry
import Derived.Deep.AppendLies
import Derived.Deep.DeepCutAuto
import Derived.Deep.QuietTactic
import Derived.Deep.RegionHeld3
import Derived.Defers
import Derived.Laws.MakeOwn
import Derived.Laws.OwnMore
import Derived.Laws.Pointers
import Derived.Laws.Strings
import Derived.Laws.StructEq
import Derived.Lib.ConvBytes
import Derived.Lib.Hide
import Derived.LoopIn
import Derived.LoopNIn
import Derived.MapKept
import Derived.OwnWalkIn
import Derived.RangeFuncBound
import Derived.RangeFuncCalls
import Derived.RangeFuncLeaves
import Derived.RangeFuncNested
import Derived.Recover
import Derived.Scope
import Derived.Shelf.Abstract
import Derived.Shelf.RegionOpen
import Derived.TacticsInMore
import Derived.WalkKit
import Derived.WalkLawsBesides
import Derived.WalkMore
import Derived.WalkSmall
import Derived.WalkSpells
import Derived.WideKeyRuns
set_option maxHeartbeats 16000000
set_option maxRecDepth 100000
namespace Go.Proofs.Ytfhmdpicoccnfaa
set_option linter.unusedSimpArgs false
set_option linter.unusedVariables false
open Go.RowKit Go.BT
theorem indexFunc_rng (S : Nat → Prop) (l : List Rng) (v : Value) (w : World) (g : FuncId) (cap : Array Value) (eg : ∀ args w, (callFunc g args).run Try.prog w = .ok (.enter g args) w) (p : Rng → Bool) (J : Nat → World → Prop) (hJ : ∀ i W, J i W → SL S W v l) (hw : J 0 w)
  (hp : PredJ g cap (fun _ u x => u = .agg #[.int .i64 x.lo, .int .i64 x.hi]) p l J) :
  Calls Try.prog 109 #[v, .func (.func g) #[] cap] w fun e w' => e = .returned (.int .i64 (idxOf p l)) ∧ ∃ k, k ≤ l.length ∧ (idxOf p l = -1 → k = l.length) ∧ J k w' := by
 obtain ⟨pv, cv, rfl⟩ := (hJ 0 w hw).form
 have hm := (hJ 0 w hw).len
 have Hp := zH hp
 have HJ := zH hJ
 clear hp hJ
 go_enter Try.func109, Try.ntmps109
 go_wp2
 go_loopw [8] (fun i wr => ∃ k : Nat, k ≤ l.length ∧ i = .int .i64 k ∧ (∀ j (hj : j < k) (hl : j < l.length), p l[j] = false) ∧ J k wr) (fun i _ => l.length - (intOf i).toNat)
 case atStart => exact ⟨0, Nat.zero_le _, rfl, fun j hj => absurd hj (by omega), hw⟩
 case round =>
  obtain ⟨k, hk, rfl, hno, hJk⟩ := hrel
  have HN := zH hno
  clear hno
  by_cases hlt : k < l.length
  ·obtain ⟨p', c', b, o, he, _, _, hpp, hc, _⟩ := (HJ.out k wr hJk).rngs
   injection he with he1 he2 he3
   subst he1 he3
   obtain rfl := hpp (by omega)
   obtain ⟨e1, e2⟩ := hc k hlt
   clear hc hpp he2
   have hcall := zH (Hp.out k hlt wr (.agg #[.int .i64 l[k].lo, .int .i64 l[k].hi]) hJk (fun j hj => HN.out j hj (by omega)) rfl)
   cases hq : p l[k] with
   | true =>
    have hq := zH hq
    go_wp2_with fail
    refine hcall.out.mono ?_
    rintro e w' ⟨rfl, hJ'⟩
    rw [hq.out]
    go_wp2
    have hi := idxOf_at hlt (fun j hj => HN.out j hj (by omega)) hq.out
    go_ret
    rw [hi]
    exact ⟨rfl, k + 1, by omega, fun h => by omega, hJ'⟩
   | false =>
    have hq := zH hq
    go_wp2_with fail
    refine hcall.out.mono ?_
    rintro e w' ⟨rfl, hJ'⟩
    rw [hq.out]
    go_wp2
    go_roundw
    case rel => exact ⟨k + 1, by omega, by go_num, fun j hj hl => if h : j = k then by subst h; exact hq.out else HN.out j (by omega) hl, hJ'⟩
    case measure => simp [intOf]; omega
  ·go_wp2
   have hi := idxOf_none (fun j hj => HN.out j (by omega) hj)
   go_ret
   rw [hi]
   exact ⟨rfl, k, hk, fun _ => by omega, hJk⟩
theorem containsFunc_rng (S : Nat → Prop) (l : List Rng) (v : Value) (w : World) (g : FuncId) (cap : Array Value) (eg : ∀ args w, (callFunc g args).run Try.prog w = .ok (.enter g args) w) (p : Rng → Bool) (J : Nat → World → Prop) (hJ : ∀ i W, J i W → SL S W v l) (hw : J 0 w)
  (hp : PredJ g cap (fun _ u x => u = .agg #[.int .i64 x.lo, .int .i64 x.hi]) p l J) :
  Calls Try.prog 88 #[v, .func (.func g) #[] cap] w fun e w' => e = .returned (.bool (l.any p)) ∧ ∃ k, k ≤ l.length ∧ (l.any p = false → k = l.length) ∧ J k w' := by
 have hc := indexFunc_rng S l v w g cap eg p J hJ hw hp
 have HC := zH hc
 clear hc hp hJ eg
 go_enter Try.func88, Try.ntmps88
 go_wp2_with fail
 refine HC.out.mono ?_
 rintro e w' ⟨rfl, hk⟩
 have HK := zH hk
 clear hk
 go_wp2
 have hge := idxOf_ge p l
 go_ret
 obtain ⟨k, h1, h2, h3⟩ := HK.out
 refine ⟨by rw [← hge]; rfl, k, h1, fun h => h2 ?_, h3⟩
 rw [← hge, decide_eq_false_iff_not] at h
 unfold idxOf at h ⊢
 split <;> rename_i hh <;> simp [hh] at h ⊢
theorem allNot_rng (l : List Rng) (g : FuncId) (cap : Array Value) (eg : ∀ args w, (callFunc g args).run Try.prog w = .ok (.enter g args) w) (p : Rng → Bool) (J : Nat → World → Prop) (X : Nat → Prop) (b : Nat) (hX : ¬ X b)
  (hJs : ∀ i W W', J i W → Step W W' → J i W') (hp : PredA g cap (fun _ u x => u = .agg #[.int .i64 x.lo, .int .i64 x.hi]) p l J X) :
  PredJ 89 #[.pointer (some ⟨b, 0, none⟩)] (fun _ u x => u = .agg #[.int .i64 x.lo, .int .i64 x.hi]) (fun x => !p x) l (fun i W => J i W ∧ W.cell? ⟨b, 0, none⟩ = some (.func (.func g) #[] cap)) := by
 intro i h W u ⟨hJ, hc⟩ hno hV
 have hb := World.block_lt_of_cell? W _ hc
 have hb' : b < W.heap.size := hb
 obtain rfl := hV
 have hcall := zH (hp i h (W.alloc (.cells #[.int .i64 l[i].lo, .int .i64 l[i].hi] 99)) (.agg #[.int .i64 l[i].lo, .int .i64 l[i].hi]) (hJs _ _ _ hJ (Step.alloc _ _)) (fun j hj => by simpa using hno j hj) rfl)
 show Calls Try.prog 89 #[(.agg #[.int .i64 l[i].lo, .int .i64 l[i].hi]), .pointer (some ⟨b, 0, none⟩)] W _
 have HN := zH hno
 have HS := zH hJs
 clear hno hJs hp hJ hb
 go_enter Try.func89, Try.ntmps89
 go_wp2_with fail
 refine hcall.out.mono ?_
 rintro e w' ⟨rfl, hJ', hst⟩
 have hc' := hst.keeps.cell hX (a := ⟨b, 0, none⟩) (by rw [World.cell?_alloc_lt _ _ _ hb']; exact hc)
 go_wp2
 go_ret
 exact ⟨rfl, hJ', hc'⟩
theorem all_rng (S : Nat → Prop) (l : List Rng) (v : Value) (w : World) (g : FuncId) (cap : Array Value) (eg : ∀ args w, (callFunc g args).run Try.prog w = .ok (.enter g args) w) (p : Rng → Bool) (J : Nat → World → Prop) (X : Nat → Prop)
  (hX : ∀ j, X j → j < w.heap.size) (hJ : ∀ i W, J i W → SL S W v l) (hJs : ∀ i W W', J i W → Step W W' → J i W') (hw : J 0 w) (hp : PredA g cap (fun _ u x => u = .agg #[.int .i64 x.lo, .int .i64 x.hi]) p l J X) :
  Calls Try.prog 59 #[v, .func (.func g) #[] cap] w fun e w' => e = .returned (.bool (l.all p)) ∧ ∃ k, k ≤ l.length ∧ (l.all p = true → k = l.length) ∧ J k w' := by
 have hmf : ∀ (fn : Fn) (first cap : Array Value) (w : World), (Instr.makeFunc fn first cap).run Try.prog w = .ok (.func fn first cap) w := fun _ _ _ _ => rfl
 have hc := containsFunc_rng S l v (w.alloc (.cells #[.func (.func g) #[] cap] 126)) 89 #[.pointer (some ⟨w.heap.size, 0, none⟩)] (Go.Proofs.enters_of Try.func89 (by kernel_rfl) rfl) (fun x => !p x)
  (fun i W => J i W ∧ W.cell? ⟨w.heap.size, 0, none⟩ = some (.func (.func g) #[] cap)) (fun i W h => hJ i W h.1) ⟨hJs _ _ _ hw (Step.alloc _ _), by rw [World.cell?_alloc_new]; rfl⟩
  (allNot_rng l g cap eg p J X w.heap.size (fun h => by have := hX _ h; omega) hJs hp)
 have HC := zH hc
 clear hc hp hJ hJs hX eg
 go_enter Try.func59, Try.ntmps59
 go_wp2_with fail
 refine HC.out.mono ?_
 rintro e w' ⟨rfl, hk⟩
 have HK := zH hk
 clear hk
 have he : (l.any fun x => !p x) = !(l.all p) := by rw [List.not_all_eq_any_not]
 have HE := zH he
 clear he
 go_wp2
 go_ret
 obtain ⟨k, h1, h2, h3, _⟩ := HK.out
 rw [HE.out] at h2 ⊢
 exact ⟨by simp, k, h1, fun h => h2 (by simp [h]), h3⟩
theorem indexFunc_rdg (S : Nat → Prop) (l : List Rdg) (v : Value) (w : World) (g : FuncId) (cap : Array Value) (eg : ∀ args w, (callFunc g args).run Try.prog w = .ok (.enter g args) w) (p : Rdg → Bool) (J : Nat → World → Prop) (hJ : ∀ i W, J i W → SL S W v l) (hw : J 0 w)
  (hp : PredJ g cap (fun _ u x => u = .agg #[.int .i64 x.hour, .int .i64 x.lo, .int .i64 x.hi]) p l J) :
  Calls Try.prog 84 #[v, .func (.func g) #[] cap] w fun e w' => e = .returned (.int .i64 (idxOf p l)) ∧ ∃ k, k ≤ l.length ∧ (idxOf p l = -1 → k = l.length) ∧ J k w' := by
 obtain ⟨pv, cv, rfl⟩ := (hJ 0 w hw).form
 have hm := (hJ 0 w hw).len
 have Hp := zH hp
 have HJ := zH hJ
 clear hp hJ
 go_enter Try.func84, Try.ntmps84
 go_wp2
 go_loopw [8] (fun i wr => ∃ k : Nat, k ≤ l.length ∧ i = .int .i64 k ∧ (∀ j (hj : j < k) (hl : j < l.length), p l[j] = false) ∧ J k wr) (fun i _ => l.length - (intOf i).toNat)
 case atStart => exact ⟨0, Nat.zero_le _, rfl, fun j hj => absurd hj (by omega), hw⟩
 case round =>
  obtain ⟨k, hk, rfl, hno, hJk⟩ := hrel
  have HN := zH hno
  clear hno
  by_cases hlt : k < l.length
  ·obtain ⟨p', c', b, o, he, _, _, hpp, hc, _⟩ := (HJ.out k wr hJk).rdgs
   injection he with he1 he2 he3
   subst he1 he3
   obtain rfl := hpp (by omega)
   obtain ⟨e1, e2, e3⟩ := hc k hlt
   clear hc hpp he2
   have hcall := zH (Hp.out k hlt wr (.agg #[.int .i64 l[k].hour, .int .i64 l[k].lo, .int .i64 l[k].hi]) hJk (fun j hj => HN.out j hj (by omega)) rfl)
   cases hq : p l[k] with
   | true =>
    have hq := zH hq
    go_wp2_with fail
    refine hcall.out.mono ?_
    rintro e w' ⟨rfl, hJ'⟩
    rw [hq.out]
    go_wp2
    have hi := idxOf_at hlt (fun j hj => HN.out j hj (by omega)) hq.out
    go_ret
    rw [hi]
    exact ⟨rfl, k + 1, by omega, fun h => by omega, hJ'⟩
   | false =>
    have hq := zH hq
    go_wp2_with fail
    refine hcall.out.mono ?_
    rintro e w' ⟨rfl, hJ'⟩
    rw [hq.out]
    go_wp2
    go_roundw
    case rel => exact ⟨k + 1, by omega, by go_num, fun j hj hl => if h : j = k then by subst h; exact hq.out else HN.out j (by omega) hl, hJ'⟩
    case measure => simp [intOf]; omega
  ·go_wp2
   have hi := idxOf_none (fun j hj => HN.out j (by omega) hj)
   go_ret
   rw [hi]
   exact ⟨rfl, k, hk, fun _ => by omega, hJk⟩
theorem containsFunc_rdg (S : Nat → Prop) (l : List Rdg) (v : Value) (w : World) (g : FuncId) (cap : Array Value) (eg : ∀ args w, (callFunc g args).run Try.prog w = .ok (.enter g args) w) (p : Rdg → Bool) (J : Nat → World → Prop) (hJ : ∀ i W, J i W → SL S W v l) (hw : J 0 w)
  (hp : PredJ g cap (fun _ u x => u = .agg #[.int .i64 x.hour, .int .i64 x.lo, .int .i64 x.hi]) p l J) :
  Calls Try.prog 106 #[v, .func (.func g) #[] cap] w fun e w' => e = .returned (.bool (l.any p)) ∧ ∃ k, k ≤ l.length ∧ (l.any p = false → k = l.length) ∧ J k w' := by
 have hc := indexFunc_rdg S l v w g cap eg p J hJ hw hp
 have HC := zH hc
 clear hc hp hJ eg
 go_enter Try.func106, Try.ntmps106
 go_wp2_with fail
 refine HC.out.mono ?_
 rintro e w' ⟨rfl, hk⟩
 have HK := zH hk
 clear hk
 go_wp2
 have hge := idxOf_ge p l
 go_ret
 obtain ⟨k, h1, h2, h3⟩ := HK.out
 refine ⟨by rw [← hge]; rfl, k, h1, fun h => h2 ?_, h3⟩
 rw [← hge, decide_eq_false_iff_not] at h
 unfold idxOf at h ⊢
 split <;> rename_i hh <;> simp [hh] at h ⊢
theorem allNot_rdg (l : List Rdg) (g : FuncId) (cap : Array Value) (eg : ∀ args w, (callFunc g args).run Try.prog w = .ok (.enter g args) w) (p : Rdg → Bool) (J : Nat → World → Prop) (X : Nat → Prop) (b : Nat) (hX : ¬ X b)
  (hJs : ∀ i W W', J i W → Step W W' → J i W') (hp : PredA g cap (fun _ u x => u = .agg #[.int .i64 x.hour, .int .i64 x.lo, .int .i64 x.hi]) p l J X) :
  PredJ 107 #[.pointer (some ⟨b, 0, none⟩)] (fun _ u x => u = .agg #[.int .i64 x.hour, .int .i64 x.lo, .int .i64 x.hi]) (fun x => !p x) l (fun i W => J i W ∧ W.cell? ⟨b, 0, none⟩ = some (.func (.func g) #[] cap)) := by
 intro i h W u ⟨hJ, hc⟩ hno hV
 have hb := World.block_lt_of_cell? W _ hc
 have hb' : b < W.heap.size := hb
 obtain rfl := hV
 have hcall := zH (hp i h (W.alloc (.cells #[.int .i64 l[i].hour, .int .i64 l[i].lo, .int .i64 l[i].hi] 101)) (.agg #[.int .i64 l[i].hour, .int .i64 l[i].lo, .int .i64 l[i].hi]) (hJs _ _ _ hJ (Step.alloc _ _)) (fun j hj => by simpa using hno j hj) rfl)
 show Calls Try.prog 107 #[(.agg #[.int .i64 l[i].hour, .int .i64 l[i].lo, .int .i64 l[i].hi]), .pointer (some ⟨b, 0, none⟩)] W _
 have HN := zH hno
 have HS := zH hJs
 clear hno hJs hp hJ hb
 go_enter Try.func107, Try.ntmps107
 go_wp2_with fail
 refine hcall.out.mono ?_
 rintro e w' ⟨rfl, hJ', hst⟩
 have hc' := hst.keeps.cell hX (a := ⟨b, 0, none⟩) (by rw [World.cell?_alloc_lt _ _ _ hb']; exact hc)
 go_wp2
 go_ret
 exact ⟨rfl, hJ', hc'⟩
theorem all_rdg (S : Nat → Prop) (l : List Rdg) (v : Value) (w : World) (g : FuncId) (cap : Array Value) (eg : ∀ args w, (callFunc g args).run Try.prog w = .ok (.enter g args) w) (p : Rdg → Bool) (J : Nat → World → Prop) (X : Nat → Prop)
  (hX : ∀ j, X j → j < w.heap.size) (hJ : ∀ i W, J i W → SL S W v l) (hJs : ∀ i W W', J i W → Step W W' → J i W') (hw : J 0 w) (hp : PredA g cap (fun _ u x => u = .agg #[.int .i64 x.hour, .int .i64 x.lo, .int .i64 x.hi]) p l J X) :
  Calls Try.prog 81 #[v, .func (.func g) #[] cap] w fun e w' => e = .returned (.bool (l.all p)) ∧ ∃ k, k ≤ l.length ∧ (l.all p = true → k = l.length) ∧ J k w' := by
 have hmf : ∀ (fn : Fn) (first cap : Array Value) (w : World), (Instr.makeFunc fn first cap).run Try.prog w = .ok (.func fn first cap) w := fun _ _ _ _ => rfl
 have hc := containsFunc_rdg S l v (w.alloc (.cells #[.func (.func g) #[] cap] 154)) 107 #[.pointer (some ⟨w.heap.size, 0, none⟩)] (Go.Proofs.enters_of Try.func107 (by kernel_rfl) rfl) (fun x => !p x)
  (fun i W => J i W ∧ W.cell? ⟨w.heap.size, 0, none⟩ = some (.func (.func g) #[] cap)) (fun i W h => hJ i W h.1) ⟨hJs _ _ _ hw (Step.alloc _ _), by rw [World.cell?_alloc_new]; rfl⟩
  (allNot_rdg l g cap eg p J X w.heap.size (fun h => by have := hX _ h; omega) hJs hp)
 have HC := zH hc
 clear hc hp hJ hJs hX eg
 go_enter Try.func81, Try.ntmps81
 go_wp2_with fail
 refine HC.out.mono ?_
 rintro e w' ⟨rfl, hk⟩
 have HK := zH hk
 clear hk
 have he : (l.any fun x => !p x) = !(l.all p) := by rw [List.not_all_eq_any_not]
 have HE := zH he
 clear he
 go_wp2
 go_ret
 obtain ⟨k, h1, h2, h3, _⟩ := HK.out
 rw [HE.out] at h2 ⊢
 exact ⟨by simp, k, h1, fun h => h2 (by simp [h]), h3⟩
theorem indexFunc_int (S : Nat → Prop) (l : List Int) (v : Value) (w : World) (g : FuncId) (cap : Array Value) (eg : ∀ args w, (callFunc g args).run Try.prog w = .ok (.enter g args) w) (p : Int → Bool) (J : Nat → World → Prop) (hJ : ∀ i W, J i W → SL S W v l) (hw : J 0 w)
  (hp : PredJ g cap (fun _ u x => u = .int .i64 x) p l J) :
  Calls Try.prog 67 #[v, .func (.func g) #[] cap] w fun e w' => e = .returned (.int .i64 (idxOf p l)) ∧ ∃ k, k ≤ l.length ∧ (idxOf p l = -1 → k = l.length) ∧ J k w' := by
 obtain ⟨pv, cv, rfl⟩ := (hJ 0 w hw).form
 have hm := (hJ 0 w hw).len
 have Hp := zH hp
 have HJ := zH hJ
 clear hp hJ
 go_enter Try.func67, Try.ntmps67
 go_wp2
 go_loopw [8] (fun i wr => ∃ k : Nat, k ≤ l.length ∧ i = .int .i64 k ∧ (∀ j (hj : j < k) (hl : j < l.length), p l[j] = false) ∧ J k wr) (fun i _ => l.length - (intOf i).toNat)
 case atStart => exact ⟨0, Nat.zero_le _, rfl, fun j hj => absurd hj (by omega), hw⟩
 case round =>
  obtain ⟨k, hk, rfl, hno, hJk⟩ := hrel
  have HN := zH hno
  clear hno
  by_cases hlt : k < l.length
  ·obtain ⟨p', c', b, o, he, _, _, hpp, hc, _⟩ := (HJ.out k wr hJk).ints
   injection he with he1 he2 he3
   subst he1 he3
   obtain rfl := hpp (by omega)
   have e1 := hc k hlt
   clear hc hpp he2
   have hcall := zH (Hp.out k hlt wr (.int .i64 l[k]) hJk (fun j hj => HN.out j hj (by omega)) rfl)
   cases hq : p l[k] with
   | true =>
    have hq := zH hq
    go_wp2_with fail
    refine hcall.out.mono ?_
    rintro e w' ⟨rfl, hJ'⟩
    rw [hq.out]
    go_wp2
    have hi := idxOf_at hlt (fun j hj => HN.out j hj (by omega)) hq.out
    go_ret
    rw [hi]
    exact ⟨rfl, k + 1, by omega, fun h => by omega, hJ'⟩
   | false =>
    have hq := zH hq
    go_wp2_with fail
    refine hcall.out.mono ?_
    rintro e w' ⟨rfl, hJ'⟩
    rw [hq.out]
    go_wp2
    go_roundw
    case rel => exact ⟨k + 1, by omega, by go_num, fun j hj hl => if h : j = k then by subst h; exact hq.out else HN.out j (by omega) hl, hJ'⟩
    case measure => simp [intOf]; omega
  ·go_wp2
   have hi := idxOf_none (fun j hj => HN.out j (by omega) hj)
   go_ret
   rw [hi]
   exact ⟨rfl, k, hk, fun _ => by omega, hJk⟩
theorem containsFunc_int (S : Nat → Prop) (l : List Int) (v : Value) (w : World) (g : FuncId) (cap : Array Value) (eg : ∀ args w, (callFunc g args).run Try.prog w = .ok (.enter g args) w) (p : Int → Bool) (J : Nat → World → Prop) (hJ : ∀ i W, J i W → SL S W v l) (hw : J 0 w)
  (hp : PredJ g cap (fun _ u x => u = .int .i64 x) p l J) :
  Calls Try.prog 96 #[v, .func (.func g) #[] cap] w fun e w' => e = .returned (.bool (l.any p)) ∧ ∃ k, k ≤ l.length ∧ (l.any p = false → k = l.length) ∧ J k w' := by
 have hc := indexFunc_int S l v w g cap eg p J hJ hw hp
 have HC := zH hc
 clear hc hp hJ eg
 go_enter Try.func96, Try.ntmps96
 go_wp2_with fail
 refine HC.out.mono ?_
 rintro e w' ⟨rfl, hk⟩
 have HK := zH hk
 clear hk
 go_wp2
 have hge := idxOf_ge p l
 go_ret
 obtain ⟨k, h1, h2, h3⟩ := HK.out
 refine ⟨by rw [← hge]; rfl, k, h1, fun h => h2 ?_, h3⟩
 rw [← hge, decide_eq_false_iff_not] at h
 unfold idxOf at h ⊢
 split <;> rename_i hh <;> simp [hh] at h ⊢
theorem allNot_int (l : List Int) (g : FuncId) (cap : Array Value) (eg : ∀ args w, (callFunc g args).run Try.prog w = .ok (.enter g args) w) (p : Int → Bool) (J : Nat → World → Prop) (X : Nat → Prop) (b : Nat) (hX : ¬ X b)
  (hJs : ∀ i W W', J i W → Step W W' → J i W') (hp : PredA g cap (fun _ u x => u = .int .i64 x) p l J X) :
  PredJ 97 #[.pointer (some ⟨b, 0, none⟩)] (fun _ u x => u = .int .i64 x) (fun x => !p x) l (fun i W => J i W ∧ W.cell? ⟨b, 0, none⟩ = some (.func (.func g) #[] cap)) := by
 intro i h W u ⟨hJ, hc⟩ hno hV
 have hb := World.block_lt_of_cell? W _ hc
 have hb' : b < W.heap.size := hb
 obtain rfl := hV
 have hcall := zH (hp i h W (.int .i64 l[i]) (hJs _ _ _ hJ (Step.refl _)) (fun j hj => by simpa using hno j hj) rfl)
 show Calls Try.prog 97 #[(.int .i64 l[i]), .pointer (some ⟨b, 0, none⟩)] W _
 have HN := zH hno
 have HS := zH hJs
 clear hno hJs hp hJ hb
 go_enter Try.func97, Try.ntmps97
 go_wp2_with fail
 refine hcall.out.mono ?_
 rintro e w' ⟨rfl, hJ', hst⟩
 have hc' := hst.keeps.cell hX (a := ⟨b, 0, none⟩) hc
 go_wp2
 go_ret
 exact ⟨rfl, hJ', hc'⟩
theorem all_int (S : Nat → Prop) (l : List Int) (v : Value) (w : World) (g : FuncId) (cap : Array Value) (eg : ∀ args w, (callFunc g args).run Try.prog w = .ok (.enter g args) w) (p : Int → Bool) (J : Nat → World → Prop) (X : Nat → Prop)
  (hX : ∀ j, X j → j < w.heap.size) (hJ : ∀ i W, J i W → SL S W v l) (hJs : ∀ i W W', J i W → Step W W' → J i W') (hw : J 0 w) (hp : PredA g cap (fun _ u x => u = .int .i64 x) p l J X) :
  Calls Try.prog 65 #[v, .func (.func g) #[] cap] w fun e w' => e = .returned (.bool (l.all p)) ∧ ∃ k, k ≤ l.length ∧ (l.all p = true → k = l.length) ∧ J k w' := by
 have hmf : ∀ (fn : Fn) (first cap : Array Value) (w : World), (Instr.makeFunc fn first cap).run Try.prog w = .ok (.func fn first cap) w := fun _ _ _ _ => rfl
 have hc := containsFunc_int S l v (w.alloc (.cells #[.func (.func g) #[] cap] 128)) 97 #[.pointer (some ⟨w.heap.size, 0, none⟩)] (Go.Proofs.enters_of Try.func97 (by kernel_rfl) rfl) (fun x => !p x)
  (fun i W => J i W ∧ W.cell? ⟨w.heap.size, 0, none⟩ = some (.func (.func g) #[] cap)) (fun i W h => hJ i W h.1) ⟨hJs _ _ _ hw (Step.alloc _ _), by rw [World.cell?_alloc_new]; rfl⟩
  (allNot_int l g cap eg p J X w.heap.size (fun h => by have := hX _ h; omega) hJs hp)
 have HC := zH hc
 clear hc hp hJ hJs hX eg
 go_enter Try.func65, Try.ntmps65
 go_wp2_with fail
 refine HC.out.mono ?_
 rintro e w' ⟨rfl, hk⟩
 have HK := zH hk
 clear hk
 have he : (l.any fun x => !p x) = !(l.all p) := by rw [List.not_all_eq_any_not]
 have HE := zH he
 clear he
 go_wp2
 go_ret
 obtain ⟨k, h1, h2, h3, _⟩ := HK.out
 rw [HE.out] at h2 ⊢
 exact ⟨by simp, k, h1, fun h => h2 (by simp [h]), h3⟩
theorem indexFunc_byte (S : Nat → Prop) (l : List UInt8) (v : Value) (w : World) (g : FuncId) (cap : Array Value) (eg : ∀ args w, (callFunc g args).run Try.prog w = .ok (.enter g args) w) (p : UInt8 → Bool) (J : Nat → World → Prop) (hJ : ∀ i W, J i W → SL S W v l) (hw : J 0 w)
  (hp : PredJ g cap (fun _ u x => u = .int .u8 (x.toNat : Int)) p l J) :
  Calls Try.prog 119 #[v, .func (.func g) #[] cap] w fun e w' => e = .returned (.int .i64 (idxOf p l)) ∧ ∃ k, k ≤ l.length ∧ (idxOf p l = -1 → k = l.length) ∧ J k w' := by
 obtain ⟨pv, cv, rfl⟩ := (hJ 0 w hw).form
 have hm := (hJ 0 w hw).len
 have Hp := zH hp
 have HJ := zH hJ
 clear hp hJ
 go_enter Try.func119, Try.ntmps119
 go_wp2
 go_loopw [8] (fun i wr => ∃ k : Nat, k ≤ l.length ∧ i = .int .i64 k ∧ (∀ j (hj : j < k) (hl : j < l.length), p l[j] = false) ∧ J k wr) (fun i _ => l.length - (intOf i).toNat)
 case atStart => exact ⟨0, Nat.zero_le _, rfl, fun j hj => absurd hj (by omega), hw⟩
 case round =>
  obtain ⟨k, hk, rfl, hno, hJk⟩ := hrel
  have HN := zH hno
  clear hno
  by_cases hlt : k < l.length
  ·obtain ⟨p', c', b, o, he, _, _, hpp, hc, _⟩ := (HJ.out k wr hJk).bytes
   injection he with he1 he2 he3
   subst he1 he3
   obtain rfl := hpp (by omega)
   have e1 := hc k hlt
   clear hc hpp he2
   have hcall := zH (Hp.out k hlt wr (.int .u8 (l[k].toNat : Int)) hJk (fun j hj => HN.out j hj (by omega)) rfl)
   cases hq : p l[k] with
   | true =>
    have hq := zH hq
    go_wp2_with fail
    refine hcall.out.mono ?_
    rintro e w' ⟨rfl, hJ'⟩
    rw [hq.out]
    go_wp2
    have hi := idxOf_at hlt (fun j hj => HN.out j hj (by omega)) hq.out
    go_ret
    rw [hi]
    exact ⟨rfl, k + 1, by omega, fun h => by omega, hJ'⟩
   | false =>
    have hq := zH hq
    go_wp2_with fail
    refine hcall.out.mono ?_
    rintro e w' ⟨rfl, hJ'⟩
    rw [hq.out]
    go_wp2
    go_roundw
    case rel => exact ⟨k + 1, by omega, by go_num, fun j hj hl => if h : j = k then by subst h; exact hq.out else HN.out j (by omega) hl, hJ'⟩
    case measure => simp [intOf]; omega
  ·go_wp2
   have hi := idxOf_none (fun j hj => HN.out j (by omega) hj)
   go_ret
   rw [hi]
   exact ⟨rfl, k, hk, fun _ => by omega, hJk⟩
theorem containsFunc_byte (S : Nat → Prop) (l : List UInt8) (v : Value) (w : World) (g : FuncId) (cap : Array Value) (eg : ∀ args w, (callFunc g args).run Try.prog w = .ok (.enter g args) w) (p : UInt8 → Bool) (J : Nat → World → Prop) (hJ : ∀ i W, J i W → SL S W v l) (hw : J 0 w)
  (hp : PredJ g cap (fun _ u x => u = .int .u8 (x.toNat : Int)) p l J) :
  Calls Try.prog 110 #[v, .func (.func g) #[] cap] w fun e w' => e = .returned (.bool (l.any p)) ∧ ∃ k, k ≤ l.length ∧ (l.any p = false → k = l.length) ∧ J k w' := by
 have hc := indexFunc_byte S l v w g cap eg p J hJ hw hp
 have HC := zH hc
 clear hc hp hJ eg
 go_enter Try.func110, Try.ntmps110
 go_wp2_with fail
 refine HC.out.mono ?_
 rintro e w' ⟨rfl, hk⟩
 have HK := zH hk
 clear hk
 go_wp2
 have hge := idxOf_ge p l
 go_ret
 obtain ⟨k, h1, h2, h3⟩ := HK.out
 refine ⟨by rw [← hge]; rfl, k, h1, fun h => h2 ?_, h3⟩
 rw [← hge, decide_eq_false_iff_not] at h
 unfold idxOf at h ⊢
 split <;> rename_i hh <;> simp [hh] at h ⊢
theorem allNot_byte (l : List UInt8) (g : FuncId) (cap : Array Value) (eg : ∀ args w, (callFunc g args).run Try.prog w = .ok (.enter g args) w) (p : UInt8 → Bool) (J : Nat → World → Prop) (X : Nat → Prop) (b : Nat) (hX : ¬ X b)
  (hJs : ∀ i W W', J i W → Step W W' → J i W') (hp : PredA g cap (fun _ u x => u = .int .u8 (x.toNat : Int)) p l J X) :
  PredJ 111 #[.pointer (some ⟨b, 0, none⟩)] (fun _ u x => u = .int .u8 (x.toNat : Int)) (fun x => !p x) l (fun i W => J i W ∧ W.cell? ⟨b, 0, none⟩ = some (.func (.func g) #[] cap)) := by
 intro i h W u ⟨hJ, hc⟩ hno hV
 have hb := World.block_lt_of_cell? W _ hc
 have hb' : b < W.heap.size := hb
 obtain rfl := hV
 have hcall := zH (hp i h W (.int .u8 (l[i].toNat : Int)) (hJs _ _ _ hJ (Step.refl _)) (fun j hj => by simpa using hno j hj) rfl)
 show Calls Try.prog 111 #[(.int .u8 (l[i].toNat : Int)), .pointer (some ⟨b, 0, none⟩)] W _
 have HN := zH hno
 have HS := zH hJs
 clear hno hJs hp hJ hb
 go_enter Try.func111, Try.ntmps111
 go_wp2_with fail
 refine hcall.out.mono ?_
 rintro e w' ⟨rfl, hJ', hst⟩
 have hc' := hst.keeps.cell hX (a := ⟨b, 0, none⟩) hc
 go_wp2
 go_ret
 exact ⟨rfl, hJ', hc'⟩
theorem all_byte (S : Nat → Prop) (l : List UInt8) (v : Value) (w : World) (g : FuncId) (cap : Array Value) (eg : ∀ args w, (callFunc g args).run Try.prog w = .ok (.enter g args) w) (p : UInt8 → Bool) (J : Nat → World → Prop) (X : Nat → Prop)
  (hX : ∀ j, X j → j < w.heap.size) (hJ : ∀ i W, J i W → SL S W v l) (hJs : ∀ i W W', J i W → Step W W' → J i W') (hw : J 0 w) (hp : PredA g cap (fun _ u x => u = .int .u8 (x.toNat : Int)) p l J X) :
  Calls Try.prog 90 #[v, .func (.func g) #[] cap] w fun e w' => e = .returned (.bool (l.all p)) ∧ ∃ k, k ≤ l.length ∧ (l.all p = true → k = l.length) ∧ J k w' := by
 have hmf : ∀ (fn : Fn) (first cap : Array Value) (w : World), (Instr.makeFunc fn first cap).run Try.prog w = .ok (.func fn first cap) w := fun _ _ _ _ => rfl
 have hc := containsFunc_byte S l v (w.alloc (.cells #[.func (.func g) #[] cap] 158)) 111 #[.pointer (some ⟨w.heap.size, 0, none⟩)] (Go.Proofs.enters_of Try.func111 (by kernel_rfl) rfl) (fun x => !p x)
  (fun i W => J i W ∧ W.cell? ⟨w.heap.size, 0, none⟩ = some (.func (.func g) #[] cap)) (fun i W h => hJ i W h.1) ⟨hJs _ _ _ hw (Step.alloc _ _), by rw [World.cell?_alloc_new]; rfl⟩
  (allNot_byte l g cap eg p J X w.heap.size (fun h => by have := hX _ h; omega) hJs hp)
 have HC := zH hc
 clear hc hp hJ hJs hX eg
 go_enter Try.func90, Try.ntmps90
 go_wp2_with fail
 refine HC.out.mono ?_
 rintro e w' ⟨rfl, hk⟩
 have HK := zH hk
 clear hk
 have he : (l.any fun x => !p x) = !(l.all p) := by rw [List.not_all_eq_any_not]
 have HE := zH he
 clear he
 go_wp2
 go_ret
 obtain ⟨k, h1, h2, h3, _⟩ := HK.out
 rw [HE.out] at h2 ⊢
 exact ⟨by simp, k, h1, fun h => h2 (by simp [h]), h3⟩
theorem indexFunc_fc (S : Nat → Prop) (l : List Fc) (v : Value) (w : World) (g : FuncId) (cap : Array Value) (eg : ∀ args w, (callFunc g args).run Try.prog w = .ok (.enter g args) w) (p : Fc → Bool) (J : Nat → World → Prop) (hJ : ∀ i W, J i W → SL S W v l) (hw : J 0 w)
  (hp : PredJ g cap (fun W u x => AV (fun _ => False) W u x) p l J) :
  Calls Try.prog 108 #[v, .func (.func g) #[] cap] w fun e w' => e = .returned (.int .i64 (idxOf p l)) ∧ ∃ k, k ≤ l.length ∧ (idxOf p l = -1 → k = l.length) ∧ J k w' := by
 obtain ⟨pv, cv, rfl⟩ := (hJ 0 w hw).form
 have hm := (hJ 0 w hw).len
 have Hp := zH hp
 have HJ := zH hJ
 clear hp hJ
 go_enter Try.func108, Try.ntmps108
 go_wp2
 go_loopw [8] (fun i wr => ∃ k : Nat, k ≤ l.length ∧ i = .int .i64 k ∧ (∀ j (hj : j < k) (hl : j < l.length), p l[j] = false) ∧ J k wr) (fun i _ => l.length - (intOf i).toNat)
 case atStart => exact ⟨0, Nat.zero_le _, rfl, fun j hj => absurd hj (by omega), hw⟩
 case round =>
  obtain ⟨k, hk, rfl, hno, hJk⟩ := hrel
  have HN := zH hno
  clear hno
  by_cases hlt : k < l.length
  ·obtain ⟨p', c', b, o, he, _, _, hpp, hc, _⟩ := (HJ.out k wr hJk).fcs
   injection he with he1 he2 he3
   subst he1 he3
   obtain rfl := hpp (by omega)
   obtain ⟨c2, e1, e2, e4, e5⟩ := hc k hlt; obtain ⟨p2, k2, rfl⟩ := e4.form
   clear hc hpp he2
   have hcall := zH (Hp.out k hlt wr (.agg #[.string l[k].name, .slice p2 l[k].hours.length k2]) hJk (fun j hj => HN.out j hj (by omega)) ⟨_, rfl, _, rfl, e4.weak fun _ _ h => h.elim, e5⟩)
   cases hq : p l[k] with
   | true =>
    have hq := zH hq
    go_wp2_with fail
    refine hcall.out.mono ?_
    rintro e w' ⟨rfl, hJ'⟩
    rw [hq.out]
    go_wp2
    have hi := idxOf_at hlt (fun j hj => HN.out j hj (by omega)) hq.out
    go_ret
    rw [hi]
    exact ⟨rfl, k + 1, by omega, fun h => by omega, hJ'⟩
   | false =>
    have hq := zH hq
    go_wp2_with fail
    refine hcall.out.mono ?_
    rintro e w' ⟨rfl, hJ'⟩
    rw [hq.out]
    go_wp2
    go_roundw
    case rel => exact ⟨k + 1, by omega, by go_num, fun j hj hl => if h : j = k then by subst h; exact hq.out else HN.out j (by omega) hl, hJ'⟩
    case measure => simp [intOf]; omega
  ·go_wp2
   have hi := idxOf_none (fun j hj => HN.out j (by omega) hj)
   go_ret
   rw [hi]
   exact ⟨rfl, k, hk, fun _ => by omega, hJk⟩
theorem containsFunc_fc (S : Nat → Prop) (l : List Fc) (v : Value) (w : World) (g : FuncId) (cap : Array Value) (eg : ∀ args w, (callFunc g args).run Try.prog w = .ok (.enter g args) w) (p : Fc → Bool) (J : Nat → World → Prop) (hJ : ∀ i W, J i W → SL S W v l) (hw : J 0 w)
  (hp : PredJ g cap (fun W u x => AV (fun _ => False) W u x) p l J) :
  Calls Try.prog 86 #[v, .func (.func g) #[] cap] w fun e w' => e = .returned (.bool (l.any p)) ∧ ∃ k, k ≤ l.length ∧ (l.any p = false → k = l.length) ∧ J k w' := by
 have hc := indexFunc_fc S l v w g cap eg p J hJ hw hp
 have HC := zH hc
 clear hc hp hJ eg
 go_enter Try.func86, Try.ntmps86
 go_wp2_with fail
 refine HC.out.mono ?_
 rintro e w' ⟨rfl, hk⟩
 have HK := zH hk
 clear hk
 go_wp2
 have hge := idxOf_ge p l
 go_ret
 obtain ⟨k, h1, h2, h3⟩ := HK.out
 refine ⟨by rw [← hge]; rfl, k, h1, fun h => h2 ?_, h3⟩
 rw [← hge, decide_eq_false_iff_not] at h
 unfold idxOf at h ⊢
 split <;> rename_i hh <;> simp [hh] at h ⊢
theorem allNot_fc (l : List Fc) (g : FuncId) (cap : Array Value) (eg : ∀ args w, (callFunc g args).run Try.prog w = .ok (.enter g args) w) (p : Fc → Bool) (J : Nat → World → Prop) (X : Nat → Prop) (b : Nat) (hX : ¬ X b)
  (hJs : ∀ i W W', J i W → Step W W' → J i W') (hp : PredA g cap (fun W u x => AV (fun _ => False) W u x) p l J X) :
  PredJ 87 #[.pointer (some ⟨b, 0, none⟩)] (fun W u x => AV (fun _ => False) W u x) (fun x => !p x) l (fun i W => J i W ∧ W.cell? ⟨b, 0, none⟩ = some (.func (.func g) #[] cap)) := by
 intro i h W u ⟨hJ, hc⟩ hno hV
 have hb := World.block_lt_of_cell? W _ hc
 have hb' : b < W.heap.size := hb
 obtain ⟨c2, rfl, e4, e5⟩ := AV.fc hV; obtain ⟨p2, k2, rfl⟩ := e4.form
 have hcall := zH (hp i h (W.alloc (.cells #[.string l[i].name, .slice p2 l[i].hours.length k2] 117)) (.agg #[.string l[i].name, .slice p2 l[i].hours.length k2]) (hJs _ _ _ hJ (Step.alloc _ _)) (fun j hj => by simpa using hno j hj) ⟨_, rfl, _, rfl, e4.keep (.alloc _ _), e5⟩)
 show Calls Try.prog 87 #[(.agg #[.string l[i].name, .slice p2 l[i].hours.length k2]), .pointer (some ⟨b, 0, none⟩)] W _
 have HN := zH hno
 have HS := zH hJs
 clear hno hJs hp hJ hb
 go_enter Try.func87, Try.ntmps87
 go_wp2_with fail
 refine hcall.out.mono ?_
 rintro e w' ⟨rfl, hJ', hst⟩
 have hc' := hst.keeps.cell hX (a := ⟨b, 0, none⟩) (by rw [World.cell?_alloc_lt _ _ _ hb']; exact hc)
 go_wp2
 go_ret
 exact ⟨rfl, hJ', hc'⟩
theorem all_fc (S : Nat → Prop) (l : List Fc) (v : Value) (w : World) (g : FuncId) (cap : Array Value) (eg : ∀ args w, (callFunc g args).run Try.prog w = .ok (.enter g args) w) (p : Fc → Bool) (J : Nat → World → Prop) (X : Nat → Prop)
  (hX : ∀ j, X j → j < w.heap.size) (hJ : ∀ i W, J i W → SL S W v l) (hJs : ∀ i W W', J i W → Step W W' → J i W') (hw : J 0 w) (hp : PredA g cap (fun W u x => AV (fun _ => False) W u x) p l J X) :
  Calls Try.prog 56 #[v, .func (.func g) #[] cap] w fun e w' => e = .returned (.bool (l.all p)) ∧ ∃ k, k ≤ l.length ∧ (l.all p = true → k = l.length) ∧ J k w' := by
 have hmf : ∀ (fn : Fn) (first cap : Array Value) (w : World), (Instr.makeFunc fn first cap).run Try.prog w = .ok (.func fn first cap) w := fun _ _ _ _ => rfl
 have hc := containsFunc_fc S l v (w.alloc (.cells #[.func (.func g) #[] cap] 124)) 87 #[.pointer (some ⟨w.heap.size, 0, none⟩)] (Go.Proofs.enters_of Try.func87 (by kernel_rfl) rfl) (fun x => !p x)
  (fun i W => J i W ∧ W.cell? ⟨w.heap.size, 0, none⟩ = some (.func (.func g) #[] cap)) (fun i W h => hJ i W h.1) ⟨hJs _ _ _ hw (Step.alloc _ _), by rw [World.cell?_alloc_new]; rfl⟩
  (allNot_fc l g cap eg p J X w.heap.size (fun h => by have := hX _ h; omega) hJs hp)
 have HC := zH hc
 clear hc hp hJ hJs hX eg
 go_enter Try.func56, Try.ntmps56
 go_wp2_with fail
 refine HC.out.mono ?_
 rintro e w' ⟨rfl, hk⟩
 have HK := zH hk
 clear hk
 have he : (l.any fun x => !p x) = !(l.all p) := by rw [List.not_all_eq_any_not]
 have HE := zH he
 clear he
 go_wp2
 go_ret
 obtain ⟨k, h1, h2, h3, _⟩ := HK.out
 rw [HE.out] at h2 ⊢
 exact ⟨by simp, k, h1, fun h => h2 (by simp [h]), h3⟩
theorem allNot_gvec (l : List Vec) (g : FuncId) (cap : Array Value) (eg : ∀ args w, (callFunc g args).run Try.prog w = .ok (.enter g args) w) (p : Vec → Bool) (J : Nat → World → Prop) (X : Nat → Prop) (b : Nat) (hX : ¬ X b)
  (hJs : ∀ i W W', J i W → Step W W' → J i W') (hp : PredA g cap (fun _ u x => u = .agg #[.int .i64 x.x, .int .i64 x.y]) p l J X) :
  PredJ 113 #[.pointer (some ⟨b, 0, none⟩)] (fun _ u x => u = .agg #[.int .i64 x.x, .int .i64 x.y]) (fun x => !p x) l (fun i W => J i W ∧ W.cell? ⟨b, 0, none⟩ = some (.func (.func g) #[] cap)) := by
 intro i h W u ⟨hJ, hc⟩ hno hV
 have hb := World.block_lt_of_cell? W _ hc
 have hb' : b < W.heap.size := hb
 obtain rfl := hV
 have hcall := zH (hp i h (W.alloc (.cells #[.int .i64 l[i].x, .int .i64 l[i].y] 152)) (.agg #[.int .i64 l[i].x, .int .i64 l[i].y]) (hJs _ _ _ hJ (Step.alloc _ _)) (fun j hj => by simpa using hno j hj) rfl)
 show Calls Try.prog 113 #[(.agg #[.int .i64 l[i].x, .int .i64 l[i].y]), .pointer (some ⟨b, 0, none⟩)] W _
 have HN := zH hno
 have HS := zH hJs
 clear hno hJs hp hJ hb
 go_enter Try.func113, Try.ntmps113
 go_wp2_with fail
 refine hcall.out.mono ?_
 rintro e w' ⟨rfl, hJ', hst⟩
 have hc' := hst.keeps.cell hX (a := ⟨b, 0, none⟩) (by rw [World.cell?_alloc_lt _ _ _ hb']; exact hc)
 go_wp2
 go_ret
 exact ⟨rfl, hJ', hc'⟩
theorem all_gvec (S : Nat → Prop) (l : List Vec) (v : Value) (w : World) (g : FuncId) (cap : Array Value) (eg : ∀ args w, (callFunc g args).run Try.prog w = .ok (.enter g args) w) (p : Vec → Bool) (J : Nat → World → Prop) (X : Nat → Prop)
  (hX : ∀ j, X j → j < w.heap.size) (hJ : ∀ i W, J i W → SL S W v l) (hJs : ∀ i W W', J i W → Step W W' → J i W') (hw : J 0 w) (hp : PredA g cap (fun _ u x => u = .agg #[.int .i64 x.x, .int .i64 x.y]) p l J X) :
  Calls Try.prog 92 #[v, .func (.func g) #[] cap] w fun e w' => e = .returned (.bool (l.all p)) ∧ ∃ k, k ≤ l.length ∧ (l.all p = true → k = l.length) ∧ J k w' := by
 have hmf : ∀ (fn : Fn) (first cap : Array Value) (w : World), (Instr.makeFunc fn first cap).run Try.prog w = .ok (.func fn first cap) w := fun _ _ _ _ => rfl
 have hc := containsFunc_vec S l v (w.alloc (.cells #[.func (.func g) #[] cap] 160)) 113 #[.pointer (some ⟨w.heap.size, 0, none⟩)] (Go.Proofs.enters_of Try.func113 (by kernel_rfl) rfl) (fun x => !p x)
  (fun i W => J i W ∧ W.cell? ⟨w.heap.size, 0, none⟩ = some (.func (.func g) #[] cap)) (fun i W h => hJ i W h.1) ⟨hJs _ _ _ hw (Step.alloc _ _), by rw [World.cell?_alloc_new]; rfl⟩
  (allNot_gvec l g cap eg p J X w.heap.size (fun h => by have := hX _ h; omega) hJs hp)
 have HC := zH hc
 clear hc hp hJ hJs hX eg
 go_enter Try.func92, Try.ntmps92
 go_wp2_with fail
 refine HC.out.mono ?_
 rintro e w' ⟨rfl, hk⟩
 have HK := zH hk
 clear hk
 have he : (l.any fun x => !p x) = !(l.all p) := by rw [List.not_all_eq_any_not]
 have HE := zH he
 clear he
 go_wp2
 go_ret
 obtain ⟨k, h1, h2, h3, _⟩ := HK.out
 rw [HE.out] at h2 ⊢
 exact ⟨by simp, k, h1, fun h => h2 (by simp [h]), h3⟩
end Go.Proofs.Ytfhmdpicoccnfaa
namespace Go.BT
open Go.RowKit
theorem madeCells_one (z : Value) (n : Nat) (hz : z.cells = #[z]) : madeCells z.cells n = (List.replicate n z).toArray := by
 rw [hz]
 apply Array.ext
 ·simp [size_madeCells]
 ·intro i h1 h2
  simp [madeCells, Nat.mod_one]
theorem wpl_make {P : Program} {w : World} {ops : Array Oper} {rest : List Oper} {o : Oper} {a : Act} {Q : Exit → Act → World → Prop} {t e : TypeId} {z : Value} {bytes : Nat} (ei : EI P t e z 1 bytes) (hg : o.guard = none) (l c : Operand) (hop : o.op = Op.makeSlice t l c)
  (hz : z.cells = #[z]) (kl kc : IntKind) (n : Nat) (hl : a.eval l = .int kl n) (hc : a.eval c = .int kc n) (hn : n ≤ 9223372036854775807) (hb : bytes * n ≤ 281474976710656)
  (hK : wpList P ops Q rest (a.put o.dst (.slice (some ⟨w.heap.size, 0, none⟩) n n)) (w.alloc (.cells (List.replicate n z).toArray e))) : wpList P ops Q (o :: rest) a w := by
 obtain ⟨h1, _, i, hi, h2, h3, h4⟩ := ei
 refine wpList_plain hg fun K hK' => ?_
 subst h4
 have hb' : (i.bytes : Int) * (n : Int) ≤ 281474976710656 := by
  have h : ((i.bytes * n : Nat) : Int) ≤ 281474976710656 := by omega
  rwa [Int.natCast_mul] at h
 have hr := run_make (P := P) w t e i z h1 hi h2 kl kc n n (by omega) (Int.le_refl _) hb' (by omega)
 simp only [Int.toNat_natCast, h3, Nat.mul_one, madeCells_one z n hz] at hr
 unfold Oper.wp
 simp [execOp, hop, hl, hc, hr, Result.andThen]
 exact hK' _ _ hK
theorem Bx.new' (w : World) (cs : List Value) (T : TypeId) (n : Nat) (h : w.heap.size = n) : Bx (w.alloc (.cells cs.toArray T)) n cs T := by subst h; exact Bx.new w cs T
theorem SL.bx {α : Type} [Rep α] {S : Nat → Prop} {w : World} {g : Nat} {cs : List Value} {T : TypeId} {l : List α} (h : Bx w g cs T) (hs : ¬ S g) (c : Nat) (hc : l.length ≤ c) (hm : l.length ≤ 9223372036854775807)
  (hr : ∀ i (hi : i < l.length), Rep.rep S w ((cs.drop (i * Rep.k α)).take (Rep.k α)) l[i]) : SL S w (.slice (some ⟨g, 0, none⟩) l.length c) l := by
 refine ⟨_, c, g, 0, rfl, hc, hm, fun _ => rfl, fun i hi => ⟨h.lt, hs, _, hr i hi, fun j v hj => ?_⟩⟩
 rw [Nat.zero_add, h.cell]
 rw [List.getElem?_take] at hj
 split at hj
 ·rw [List.getElem?_drop] at hj; exact hj
 ·cases hj
theorem SL.bx_ints {S : Nat → Prop} {w : World} {g : Nat} {T : TypeId} {l : List Int} (h : Bx w g (l.map (Value.int .i64)) T) (hs : ¬ S g) (c : Nat) (hc : l.length ≤ c) (hm : l.length ≤ 9223372036854775807) : SL S w (.slice (some ⟨g, 0, none⟩) l.length c) l := by
 refine SL.bx h hs c hc hm fun i hi => ?_
 show ((l.map (Value.int .i64)).drop (i * 1)).take 1 = [_]
 rw [Nat.mul_one, List.drop_eq_getElem_cons (by simpa using hi)]
 simp
theorem StepX.setCell {X : Nat → Prop} {w0 w : World} (h : StepX X w0 w) (a : Addr) (v : Value) (ha : X a.block) : StepX X w0 (w.setCell a v) :=
 h.trans ⟨rfl, rfl, rfl, by simp, fun j _ hs => Below.heap_setCell w a v j (fun e => hs (e ▸ ha))⟩
theorem StepX.set1 {g : Nat} {w0 w : World} (h : StepX (fun j => j = g) w0 w) (o : Nat) (v : Value) : StepX (fun j => j = g) w0 (w.setCell ⟨g, o, none⟩ v) := h.setCell ⟨g, o, none⟩ v rfl
theorem StepX.fresh {X : Nat → Prop} {w0 w w' : World} (h : Step w0 w) (k : StepX X w w') (hX : ∀ j, X j → w0.heap.size ≤ j) : Step w0 w' :=
 ⟨k.os.trans h.os, k.tape.trans h.tape, k.output.trans h.output, Nat.le_trans h.size k.size, fun j hj _ => (k.block j (Nat.lt_of_lt_of_le hj h.size) (fun hx => by have := hX j hx; omega)).trans (h.block j hj id)⟩
section
variable {P : Program} {fn : Func} {R : Ending → World → Prop} {a : Act} {w : World}
end
end Go.BT
namespace Go.Proofs.Ytfhmdpicoccnfaa
set_option linter.unusedSimpArgs false
set_option linter.unusedVariables false
open Go.RowKit Go.BT
def fits (n : Int) : Prop := -9223372036854775808 ≤ n ∧ n ≤ 9223372036854775807
theorem fits.wrap {n : Int} (h : fits n) : IntKind.i64.wrap n = n := by rw [IntKind.wrap_i64]; unfold fits at h; omega
theorem siVec : SI Try.prog 152 2 := ⟨⟨_, Try.underlying152⟩, by kernel_rfl⟩
theorem set4 {w : World} {g : Nat} {a0 a1 a2 a3 : Value} {T : TypeId} (h : Bx w g [a0, a1, a2, a3] T) (c0 c1 c2 c3 : Value) : Bx ((((w.setCell ⟨g, 0, none⟩ c0).setCell ⟨g, 1, none⟩ c1).setCell ⟨g, 2, none⟩ c2).setCell ⟨g, 3, none⟩ c3) g [c0, c1, c2, c3] T ∧ StepX (fun j => j = g) w ((((w.setCell ⟨g, 0, none⟩ c0).setCell ⟨g, 1, none⟩ c1).setCell ⟨g, 2, none⟩ c2).setCell ⟨g, 3, none⟩ c3) :=
 ⟨(((h.setCell 0 c0).setCell 1 c1).setCell 2 c2).setCell 3 c3, ((((StepX.refl _ w).set1 0 c0).set1 1 c1).set1 2 c2).set1 3 c3⟩
theorem Vector_any (v : Vec) (w : World) :
  Calls Try.prog 98 #[.agg #[.int .i64 v.x, .int .i64 v.y]] w fun e w' => e = .returned (.agg #[.int .i64 v.x, .int .i64 v.y]) ∧ Step w w' := by
 go_enter Try.func98, Try.ntmps98
 go_wp2
 exact ret_struct (k := 2) rfl siVec rfl (Bx.new' _ [.int .i64 v.x, .int .i64 v.y] _ _ (by simp)) rfl rfl ⟨rfl, (by with_reducible repeat (first | assumption | exact Step.refl _ | apply Step.s_alloc | apply Step.s_drew | apply Step.s_drewN | refine Step.trans ?_ (by assumption)))⟩
theorem gale.within_any (n lo hi : Int) (w : World) : Calls Try.prog 55 #[.int .i64 n, .int .i64 lo, .int .i64 hi] w fun e w' => e = .returned (.bool (withinB n lo hi)) ∧ w = w' := by
 by_cases h1 : lo ≤ n
 ·go_enter Try.func55, Try.ntmps55
  go_wp2
  go_ret
  exact ⟨by simp [withinB, h1], rfl⟩
 ·have hd : decide (lo ≤ n) = false := by simpa using h1
  go_enter Try.func55, Try.ntmps55
  go_wp2
  go_ret
  exact ⟨by simp [withinB]; omega, rfl⟩
theorem strong_any (r : Rng) (w : World) : Calls Try.prog 60 #[.agg #[.int .i64 r.lo, .int .i64 r.hi]] w fun e w' => e = .returned (.bool (rangeB r)) ∧ Step w w' := by
 obtain ⟨lo, hi⟩ := r
 dsimp only
 by_cases h1 : 0 ≤ lo
 ·have d1 : decide (0 ≤ lo) = true := by simpa using h1
  by_cases h2 : lo ≤ hi
  ·have d2 : decide (lo ≤ hi) = true := by simpa using h2
   go_enter Try.func60, Try.ntmps60
   go_wp2
   go_ret
   exact ⟨by simp [rangeB, h1, h2], (by with_reducible repeat (first | assumption | exact Step.refl _ | apply Step.s_alloc | apply Step.s_drew | apply Step.s_drewN | refine Step.trans ?_ (by assumption)))⟩
  ·have d2 : decide (lo ≤ hi) = false := by simpa using h2
   go_enter Try.func60, Try.ntmps60
   go_wp2
   go_ret
   exact ⟨by simp [rangeB]; omega, (by with_reducible repeat (first | assumption | exact Step.refl _ | apply Step.s_alloc | apply Step.s_drew | apply Step.s_drewN | refine Step.trans ?_ (by assumption)))⟩
 ·have d1 : decide (0 ≤ lo) = false := by simpa using h1
  go_enter Try.func60, Try.ntmps60
  go_wp2
  go_ret
  exact ⟨by simp [rangeB]; omega, (by with_reducible repeat (first | assumption | exact Step.refl _ | apply Step.s_alloc | apply Step.s_drew | apply Step.s_drewN | refine Step.trans ?_ (by assumption)))⟩
theorem corner_gale (v : Vec) (w : World) : Calls Try.prog 93 #[.agg #[.int .i64 v.x, .int .i64 v.y]] w fun e w' => e = .returned (.bool (baseB v)) ∧ Step w w' := by
 obtain ⟨x, y⟩ := v
 dsimp only
 go_enter Try.func93, Try.ntmps93
 go_wp2_with fail
 refine (gale.within_any _ _ _ _).mono ?_
 rintro e w' ⟨rfl, rfl⟩
 cases q0 : withinB x (-100) 100 with
 | false =>
  go_wp2
  go_ret
  exact ⟨by simp [baseB, q0], (by with_reducible repeat (first | assumption | exact Step.refl _ | apply Step.s_alloc | apply Step.s_drew | apply Step.s_drewN | refine Step.trans ?_ (by assumption)))⟩
 | true =>
  go_wp2_with fail
  refine (gale.within_any _ _ _ _).mono ?_
  rintro e w' ⟨rfl, rfl⟩
  cases q1 : withinB y (-100) 100 with
  | false =>
   go_wp2
   go_ret
   exact ⟨by simp [baseB, q0, q1], (by with_reducible repeat (first | assumption | exact Step.refl _ | apply Step.s_alloc | apply Step.s_drew | apply Step.s_drewN | refine Step.trans ?_ (by assumption)))⟩
  | true =>
   go_wp2
   go_ret
   exact ⟨by simp [baseB, q0, q1], (by with_reducible repeat (first | assumption | exact Step.refl _ | apply Step.s_alloc | apply Step.s_drew | apply Step.s_drewN | refine Step.trans ?_ (by assumption)))⟩
theorem byte_int (c : UInt8) : IntKind.i64.wrap (c.toNat : Int) = (c.toNat : Int) := by
 have := c.toNat_lt
 rw [IntKind.wrap_i64]; omega
theorem named1_any (c : UInt8) (w : World) : Calls Try.prog 91 #[.int .u8 (c.toNat : Int)] w fun e w' => e = .returned (.bool (letterB c || digitB c)) ∧ Step w w' := by
 have hb := byte_int c
 go_enter Try.func91, Try.ntmps91
 go_wp2_with fail
 refine (gale.within_any _ _ _ _).mono ?_
 rintro e w' ⟨rfl, rfl⟩
 have hl : withinB (c.toNat : Int) 97 122 = letterB c := by simp only [withinB, letterB]; congr 1 <;> (apply decide_eq_decide.2; omega)
 have hd : withinB (c.toNat : Int) 48 57 = digitB c := by simp only [withinB, digitB]; congr 1 <;> (apply decide_eq_decide.2; omega)
 rw [hl]
 cases q0 : letterB c with
 | true =>
  go_wp2
  go_ret
  exact ⟨by rw [q0]; rfl, (by with_reducible repeat (first | assumption | exact Step.refl _ | apply Step.s_alloc | apply Step.s_drew | apply Step.s_drewN | refine Step.trans ?_ (by assumption)))⟩
 | false =>
  go_wp2_with fail
  refine (gale.within_any _ _ _ _).mono ?_
  rintro e w' ⟨rfl, rfl⟩
  rw [hd]
  cases q1 : digitB c with
  | true =>
   go_wp2
   go_ret
   exact ⟨by rw [q0, q1]; rfl, (by with_reducible repeat (first | assumption | exact Step.refl _ | apply Step.s_alloc | apply Step.s_drew | apply Step.s_drewN | refine Step.trans ?_ (by assumption)))⟩
  | false =>
   go_wp2
   go_ret
   exact ⟨by rw [q0, q1]; rfl, (by with_reducible repeat (first | assumption | exact Step.refl _ | apply Step.s_alloc | apply Step.s_drew | apply Step.s_drewN | refine Step.trans ?_ (by assumption)))⟩
theorem getD_at {s : ByteArray} {k : Nat} (hk : k < s.data.size) : s.data.getD k 0 = s.data[k] := by
 rw [Array.getD_eq_getD_getElem?, Array.getElem?_eq_getElem hk]; rfl
theorem bytes_at (s : ByteArray) (k : Nat) (hk : k < s.size) : s[k] = s.data.getD k 0 := by
 have hk' : k < s.data.size := hk
 rw [getD_at hk']; rfl
theorem hall1_any (p : Int) (w : World) : Calls Try.prog 99 #[.int .i64 p] w fun e w' => e = .returned (.bool (decide (0 ≤ p ∧ p ≤ 5000))) ∧ Step w w' := by
 go_enter Try.func99, Try.ntmps99
 go_wp2_with fail
 refine (gale.within_any _ _ _ _).mono ?_
 rintro e w' ⟨rfl, rfl⟩
 have he : withinB p 0 5000 = decide (0 ≤ p ∧ p ≤ 5000) := by simp [withinB]
 rw [he]
 go_wp2
 go_ret
 exact ⟨by simp, Step.refl _⟩
theorem wyB_parts (n : Nat) (x : Wy) : wyB n x = (withinB x.frm 1 ((n : Int) - 1) && (withinB x.dst 0 ((n : Int) - 1) && (!(x.frm == x.dst) && (withinB x.cap 0 1000 && withinB x.mins 1 15)))) := by
 simp [wyB, withinB, Bool.and_assoc, bne, Bool.beq_eq_decide_eq]
theorem hall2_any (x : Wy) (n g : Nat) (w : World) (hc : w.cell? ⟨g, 0, none⟩ = some (.int .i64 n)) (hn : n ≤ 9223372036854775807) :
  Calls Try.prog 101 #[.agg #[.int .i64 x.frm, .int .i64 x.dst, .int .i64 x.cap, .int .i64 x.mins], .pointer (some ⟨g, 0, none⟩)] w fun e w' => e = .returned (.bool (wyB n x)) ∧ Step w w' := by
 have hc := ((Keeps.alloc (S := fun _ => False) w (.cells #[.int .i64 x.frm, .int .i64 x.dst, .int .i64 x.cap, .int .i64 x.mins] 108)).cell id hc)
 have HE := zH (wyB_parts n x)
 go_enter Try.func101, Try.ntmps101
 go_wp2_with fail
 refine (gale.within_any _ _ _ _).mono ?_
 rintro e w' ⟨rfl, rfl⟩
 cases q0 : withinB x.frm 1 ((n : Int) - 1) with
 | false =>
  go_wp2
  go_ret
  exact ⟨by rw [HE.out, q0]; rfl, Step.alloc _ _⟩
 | true =>
 go_wp2_with fail
 refine (gale.within_any _ _ _ _).mono ?_
 rintro e w' ⟨rfl, rfl⟩
 cases q1 : withinB x.dst 0 ((n : Int) - 1) with
 | false =>
  go_wp2
  go_ret
  exact ⟨by rw [HE.out, q0, q1]; rfl, Step.alloc _ _⟩
 | true =>
 cases q2 : x.frm == x.dst with
 | true =>
  have q2' : (x.frm != x.dst) = false := by simp [bne, q2]
  go_wp2
  go_ret
  exact ⟨by rw [HE.out, q0, q1, q2]; rfl, Step.alloc _ _⟩
 | false =>
 have q2' : (x.frm != x.dst) = true := by simp [bne, q2]
 go_wp2_with fail
 refine (gale.within_any _ _ _ _).mono ?_
 rintro e w' ⟨rfl, rfl⟩
 cases q3 : withinB x.cap 0 1000 with
 | false =>
  go_wp2
  go_ret
  exact ⟨by rw [HE.out, q0, q1, q2, q3]; rfl, Step.alloc _ _⟩
 | true =>
 go_wp2_with fail
 refine (gale.within_any _ _ _ _).mono ?_
 rintro e w' ⟨rfl, rfl⟩
 have HF := zH (show wyB n x = withinB x.mins 1 15 by rw [HE.out, q0, q1, q2, q3]; rfl)
 rw [← HF.out]
 go_wp2
 go_ret
 exact ⟨rfl, Step.alloc _ _⟩
theorem hways_any (S : Nat → Prop) (h : Hall) (c1 : Value) (g : Nat) (w : World) (hc : w.cell? ⟨g, 0, none⟩ = some (.int .i64 h.people.length)) (hv : SL S w c1 h.ways) (hn : h.people.length ≤ 9223372036854775807) :
  Calls Try.prog 100 #[c1, .func (.func 101) #[] #[.pointer (some ⟨g, 0, none⟩)]] w fun e w' => e = .returned (.bool (h.ways.all (wyB h.people.length))) ∧ Step w w' := by
 refine (all_wy S h.ways c1 w 101 #[.pointer (some ⟨g, 0, none⟩)] (Go.Proofs.enters_of Try.func101 (by kernel_rfl) rfl) (wyB h.people.length) (fun _ W => Step w W) (fun _ => False) (fun _ h => h.elim)
  (fun _ W hW => hv.keep (.of_step hW)) (fun _ _ _ h1 h2 => h1.trans h2) (Step.refl _) (fun i hi W u hW _ hu => ?_)).mono ?_
 ·subst hu
  refine (hall2_any h.ways[i] h.people.length g W (hW.kc hc) hn).mono ?_
  rintro e w' ⟨rfl, hS⟩
  exact ⟨rfl, hW.trans hS, hS⟩
 ·rintro e w' ⟨rfl, k, _, _, hS⟩
  exact ⟨rfl, hS⟩
theorem people_any (S : Nat → Prop) (l : List Int) (v : Value) (w : World) (hv : SL S w v l) :
  Calls Try.prog 65 #[v, .func (.func 99) #[] #[]] w fun e w' => e = .returned (.bool (l.all fun p => decide (0 ≤ p ∧ p ≤ 5000))) ∧ Step w w' := by
 refine (all_int S l v w 99 #[] (Go.Proofs.enters_of Try.func99 (by kernel_rfl) rfl) (fun p => decide (0 ≤ p ∧ p ≤ 5000)) (fun _ W => Step w W) (fun _ => False) (fun _ h => h.elim)
  (fun _ W hW => hv.keep (.of_step hW)) (fun _ _ _ h1 h2 => h1.trans h2) (Step.refl _) (fun i hi W u hW _ hu => ?_)).mono ?_
 ·subst hu
  refine (hall1_any l[i] W).mono ?_
  rintro e w' ⟨rfl, hS⟩
  exact ⟨rfl, hW.trans hS, hS⟩
 ·rintro e w' ⟨rfl, k, _, _, hS⟩
  exact ⟨rfl, hS⟩
def hallA (h : Hall) : Bool := decide (h.people.getD 0 0 = 0)
theorem hallB_parts (h : Hall) : hallB h = (withinB h.people.length 2 10 && (hallA h && ((h.people.all fun p => decide (0 ≤ p ∧ p ≤ 5000)) && (decide ((h.ways.length : Int) ≤ 20) && h.ways.all (wyB h.people.length))))) := by
 unfold hallB hallA withinB
 have e1 : decide (2 ≤ h.people.length ∧ h.people.length ≤ 10) = (decide ((2 : Int) ≤ h.people.length) && decide ((h.people.length : Int) ≤ 10)) := by
  rw [← Bool.decide_and]; exact decide_eq_decide.2 (by omega)
 have e2 : decide (h.ways.length ≤ 20) = decide ((h.ways.length : Int) ≤ 20) := decide_eq_decide.2 (by omega)
 rw [e1, e2]
 simp only [Bool.and_assoc]
theorem vhall_any (S : Nat → Prop) (h : Hall) (v : Value) (w : World) (hv : AV S w v h) :
  Calls Try.prog 72 #[v] w fun e w' => e = .returned (.bool (hallB h)) ∧ Step w w' := by
 have hmf : ∀ (fn : Fn) (first cap : Array Value) (w : World), (Instr.makeFunc fn first cap).run Try.prog w = .ok (.func fn first cap) w := fun _ _ _ _ => rfl
 obtain ⟨c0, c1, rfl, h0, h1⟩ := hv.hall
 obtain ⟨p1, k1, rfl⟩ := h1.form
 have hl1 := h1.len
 obtain ⟨p0, k0, b0, o0, rfl, _, hl0, hp0, hc0, _⟩ := h0.ints
 obtain ⟨W0, hW0⟩ : ∃ W, W = (w.alloc (.cells #[.slice p0 h.people.length k0, .slice p1 h.ways.length k1] 78)).alloc (.cells #[.int .i64 h.people.length] 3) := ⟨_, rfl⟩
 have hb : Bx W0 w.heap.size [.slice p0 h.people.length k0, .slice p1 h.ways.length k1] 78 := by subst hW0; exact (Bx.new w [_, _] _).alloc _
 have hbn : Bx W0 (w.heap.size + 1) [.int .i64 h.people.length] 3 := by subst hW0; exact Bx.new' _ [_] _ _ (by simp)
 have hS : Step w W0 := by subst hW0; exact (Step.alloc _ _).trans (Step.alloc _ _)
 have HW := zH hW0
 have HS := zH hS
 have H0 := zH (h0.keep (.of_step hS))
 have H1 := zH (h1.keep (.of_step hS))
 have HB := zH hb
 have HBN := zH hbn
 have HP := zH (hallB_parts h)
 have HC := zH (And.intro hp0 hc0)
 have HT := zH (Step.refl W0)
 have e0 := hb.cell 0
 have e1 := hb.cell 1
 have n0 := hbn.cell 0
 simp only [zD, zE] at e0 e1 n0
 clear hb hbn hW0 hS h0 h1 hv hp0 hc0
 go_enter Try.func72, Try.ntmps72
 go_upto_region 2 with (fail)
 rw [← HW.out]
 go_wp2_with fail
 refine (gale.within_any _ _ _ _).mono ?_
 rintro e w' ⟨rfl, rfl⟩
 cases q0 : withinB h.people.length 2 10 with
 | false =>
  have HF := zH (show hallB h = false by rw [HP.out, q0]; rfl)
  go_wp2
  go_ret
  exact ⟨by rw [HF.out]; rfl, HS.out⟩
 | true =>
 have hn : 0 < h.people.length := by simp [withinB] at q0; omega
 obtain rfl := HC.out.1 hn
 have z0 := HS.out.kc (HC.out.2 0 hn)
 rw [Nat.add_zero] at z0
 have hx : (0 : Int) ≤ 0 ∧ (0 : Int) < (h.people.length : Int) := by omega
 have hz : hallA h = (h.people[0] == 0) := by unfold hallA; simp [List.getD_eq_getElem?_getD, hn]; rfl
 have HZ := zH hz
 have Q0 := zH q0
 clear hz q0
 cases q1 : h.people[0] == 0 with
 | false =>
  have HF := zH (show hallB h = false by rw [HP.out, Q0.out, HZ.out, q1]; rfl)
  go_wp2
  go_ret
  exact ⟨by rw [HF.out]; rfl, HS.out⟩
 | true =>
 go_wp2_with fail
 refine (people_any S h.people _ _ H0.out).mono ?_
 rintro e w2 ⟨rfl, hS2⟩
 have HT := zH hS2
 clear hS2 z0
 cases q2 : (h.people.all fun p => decide (0 ≤ p ∧ p ≤ 5000)) with
 | false =>
  have HF := zH (show hallB h = false by rw [HP.out, Q0.out, HZ.out, q1, q2]; rfl)
  go_wp2
  go_ret
  exact ⟨by rw [HF.out]; rfl, HS.out.trans HT.out⟩
 | true =>
 have e1 := HT.out.kc e1
 cases q3 : decide ((h.ways.length : Int) ≤ 20) with
 | false =>
  have HF := zH (show hallB h = false by rw [HP.out, Q0.out, HZ.out, q1, q2, q3]; rfl)
  go_wp2
  go_ret
  exact ⟨by rw [HF.out]; rfl, HS.out.trans HT.out⟩
 | true =>
 have HF := zH (show hallB h = h.ways.all (wyB h.people.length) by rw [HP.out, Q0.out, HZ.out, q1, q2, q3]; rfl)
 have Q2 := zH (And.intro q1 q2)
 clear q1 q2
 go_wp2_with fail
 refine (hways_any S h _ (w.heap.size + 1) _ ((HBN.out.step HT.out).cell 0) (H1.out.keep (.of_step HT.out)) hl0).mono ?_
 rintro e w3 ⟨rfl, hS3⟩
 rw [← HF.out]
 go_wp2
 go_ret
 exact ⟨rfl, (HS.out.trans HT.out).trans hS3⟩
end Go.Proofs.Ytfhmdpicoccnfaa
namespace Go.BT
theorem sum_take {l : List Int} {k : Nat} (hk : k < l.length) : (l.take (k + 1)).sum = (l.take k).sum + l[k] := by
 rw [List.take_succ_eq_append_getElem hk, List.sum_append]; simp
theorem sum_bd : ∀ {l : List Int}, (∀ x ∈ l, 0 ≤ x ∧ x ≤ 5000) → 0 ≤ l.sum ∧ l.sum ≤ 5000 * (l.length : Int)
 | [], _ => by simp
 | x :: l, h => by
  have h1 := sum_bd (l := l) fun y hy => h y (List.mem_cons_of_mem _ hy)
  have h2 := h x List.mem_cons_self
  rw [List.sum_cons, List.length_cons]; omega
theorem HallOk.mem {h : Hall} (O : HallOk h) : ∀ x ∈ h.people, 0 ≤ x ∧ x ≤ 5000 := fun x hx => by
 obtain ⟨s, hs, rfl⟩ := List.getElem_of_mem hx; exact O.pe s hs
theorem sum_part {h : Hall} (O : HallOk h) (k : Nat) : 0 ≤ (h.people.take k).sum ∧ (h.people.take k).sum ≤ 50000 := by
 have h1 := sum_bd (l := h.people.take k) fun x hx => O.mem x (List.mem_of_mem_take hx)
 have h2 : (h.people.take k).length ≤ 10 := Nat.le_trans (List.length_take_le' _ _) O.n10
 omega
end Go.BT
namespace Go.Proofs.Ytfhmdpicoccnfaa
set_option linter.unusedSimpArgs false
set_option linter.unusedVariables false
open Go.RowKit Go.BT
theorem hall_all (S : Nat → Prop) (h : Hall) (v : Value) (w : World) (hv : AV S w v h) (O : HallOk h) :
  Calls Try.prog 79 #[v] w fun e w' => e = .returned (.int .i64 (allH h)) ∧ Step w w' := by
 obtain ⟨c0, c1, rfl, h0, h1⟩ := hv.hall
 obtain ⟨p1, k1, rfl⟩ := h1.form
 obtain ⟨p0, k0, b0, o0, rfl, _, hl0, hp0, hc0, _⟩ := h0.ints
 obtain ⟨W0, hW0⟩ : ∃ W, W = w.alloc (.cells #[.slice p0 h.people.length k0, .slice p1 h.ways.length k1] 78) := ⟨_, rfl⟩
 have hb : Bx W0 w.heap.size [.slice p0 h.people.length k0, .slice p1 h.ways.length k1] 78 := by subst hW0; exact Bx.new w [_, _] _
 have hS : Step w W0 := by subst hW0; exact Step.alloc _ _
 have HW := zH hW0
 have HS := zH hS
 have HC := zH (And.intro hp0 hc0)
 have HO := zH O
 have e0 := hb.cell 0
 simp only [List.getElem?_cons_zero] at e0
 clear hb hW0 hS h0 h1 hv hp0 hc0 O
 go_enter Try.func79, Try.ntmps79
 go_upto_region 1 with (fail)
 rw [← HW.out]
 go_wp2
 go_loopw [2, 8] (fun n i wr => ∃ k : Nat, k ≤ h.people.length ∧ i = .int .i64 k ∧ n = .int .i64 (h.people.take k).sum ∧ Step w wr) (fun _ i _ => h.people.length - (intOf i).toNat)
 case atStart => exact ⟨0, Nat.zero_le _, rfl, by simp, HS.out⟩
 case round =>
  obtain ⟨k, hk, rfl, rfl, hT⟩ := hrel
  have HT := zH hT
  clear hT
  by_cases hlt : k < h.people.length
  ·obtain rfl := HC.out.1 (by omega)
   have e1 := HT.out.kc (HC.out.2 k hlt)
   have hix : (0 : Int) ≤ (k : Int) ∧ (k : Int) < (h.people.length : Int) := by omega
   have hw : IntKind.i64.wrap ((h.people.take k).sum + h.people[k]) = (h.people.take (k + 1)).sum := by
    have := sum_part HO.out (k + 1)
    rw [sum_take hlt] at this ⊢
    rw [IntKind.wrap_i64]; omega
   go_wp2
   go_roundw
   case rel => exact ⟨k + 1, by omega, by go_num, by first | rfl | rw [hw], HT.out⟩
   case measure => simp [intOf]; omega
  ·have HE := zH (show allH h = (h.people.take k).sum by rw [show k = h.people.length by omega, List.take_length]; rfl)
   go_wp2
   go_ret
   exact ⟨by rw [HE.out]; rfl, HT.out⟩
theorem out1_any (n : Int) (w : World) : Calls Try.prog 105 #[.int .i64 n] w fun e w' => e = .returned (.bool (decide (n = 0))) ∧ Step w w' := by
 go_enter Try.func105, Try.ntmps105
 go_wp2
 go_ret
 exact ⟨by simp [Bool.beq_eq_decide_eq], Step.refl _⟩
def restL (n : Nat) (f : Fs) : List Int := (List.range n).map f.rs
theorem Flt.sl_rest {base : Nat} {w : World} {B : FB} {vp vw vl : Value} {sc : Nat} {h : Hall} {T : Nat} {f : Fs} (F : FT base w B vp vw vl sc h T f) : SL (fun _ => False) w (.slice (some ⟨B.sb, 0, none⟩) h.people.length sc) (restL h.people.length f) := by
 obtain ⟨cs, hb, hl, hc⟩ := F.rs
 have hln : (restL h.people.length f).length = h.people.length := by simp [restL]
 have h1 := SL.bx (S := fun _ => False) (l := restL h.people.length f) hb (fun h => h) sc (by rw [hln]; exact F.sl) (by rw [hln]; exact F.hp.len) fun i hi => ?_
 ·rw [hln] at h1; exact h1
 ·have hi' : i < h.people.length := by rw [← hln]; exact hi
  show (cs.drop (i * 1)).take 1 = [_]
  have h2 := hc i hi'
  have hlt : i < cs.length := by omega
  rw [Nat.mul_one, List.drop_eq_getElem_cons hlt]
  rw [List.getElem?_eq_getElem hlt] at h2
  injection h2 with h2
  simp [h2, restL]
theorem fout_any {base : Nat} {B : FB} {vp vw vl : Value} {sc : Nat} {h : Hall} {T : Nat} {f : Fs} (w : World) (F : FT base w B vp vw vl sc h T f) :
  Calls Try.prog 75 #[.pointer (some ⟨B.fl, 0, none⟩)] w fun e w' => e = .returned (.bool (decide (∀ s, s < h.people.length → f.rs s = 0))) ∧ Step w w' := by
 have hmf : ∀ (fn : Fn) (first cap : Array Value) (w : World), (Instr.makeFunc fn first cap).run Try.prog w = .ok (.func fn first cap) w := fun _ _ _ _ => rfl
 obtain ⟨e0, e1, e2, e3, e4, e5⟩ := F.cells
 have hl := F.fl.lt
 have HE := zH (show ((restL h.people.length f).all fun n => decide (n = 0)) = decide (∀ s, s < h.people.length → f.rs s = 0) by
  rw [Bool.eq_iff_iff]
  simp [restL, List.all_eq_true])
 have hc := zH (all_int (fun _ => False) (restL h.people.length f) _ w 105 #[] (Go.Proofs.enters_of Try.func105 (by kernel_rfl) rfl) (fun n => decide (n = 0)) (fun _ W => Step w W) (fun _ => False) (fun _ h => h.elim)
  (fun _ W hW => F.sl_rest.keep (.of_step hW)) (fun _ _ _ h1 h2 => h1.trans h2) (Step.refl _) (fun i hi W u hW _ hu => by
   subst hu
   refine (out1_any (restL h.people.length f)[i] W).mono ?_
   rintro e w' ⟨rfl, hS⟩
   exact ⟨rfl, hW.trans hS, hS⟩))
 clear F
 go_enter Try.func75, Try.ntmps75
 go_wp2_with fail
 refine hc.out.mono ?_
 rintro e w1 ⟨rfl, k, _, _, hS⟩
 rw [HE.out]
 obtain ⟨q, hq⟩ : ∃ q, q = decide (∀ s, s < h.people.length → f.rs s = 0) := ⟨_, rfl⟩
 rw [← hq]
 have HQ := zH hq
 have HS := zH hS
 clear hq hS hc HE
 go_wp2
 go_ret
 exact ⟨by rw [HQ.out]; rfl, HS.out⟩
theorem conv_bytes (s : ByteArray) (w : World) : (convert 9 157 (.string s)).run Try.prog w = .ok (.slice (some ⟨w.heap.size, 0, none⟩) s.size (grownCap w s.size 0 5)) (Lib.bytesWorld w 5 s) :=
 Lib.run_convert_string_bytes w _ _ _ s (u := .string) (by kernel_rfl) (by kernel_rfl) (by kernel_rfl)
theorem step_bytes (w : World) (e : TypeId) (s : ByteArray) : Step w (Lib.bytesWorld w e s) := by
 have h := (Step.drew w).trans (Step.alloc w.drew (.cells (Lib.bytesCells w e s) e))
 exact ⟨h.os, h.tape, h.output, by rw [Lib.bytesWorld_size]; omega, fun j hj _ => Lib.bytesWorld_at_old w e s j hj⟩
theorem sl_bytes (w : World) (e : TypeId) (s : ByteArray) (hs : s.size ≤ 9223372036854775807) : SL (fun _ => False) (Lib.bytesWorld w e s) (.slice (some ⟨w.heap.size, 0, none⟩) s.size (grownCap w s.size 0 e)) s.data.toList := by
 have hl : s.data.toList.length = s.size := by rw [Array.length_toList]; rfl
 refine ⟨some ⟨w.heap.size, 0, none⟩, grownCap w s.size 0 e, w.heap.size, 0, by rw [hl], by rw [hl]; exact grownCap_ge _ _ _ _, by rw [hl]; exact hs, fun _ => rfl, fun i hi => ?_⟩
 refine ⟨by rw [Lib.bytesWorld_size]; omega, id, [.int .u8 (s.data.toList[i].toNat : Int)], rfl, fun j v hv => ?_⟩
 match j, hv with
 | 0, hv =>
  obtain rfl := Option.some.inj hv
  have := Lib.bytesWorld_cell w e s i (by omega)
  simp only [Rep.k, Nat.zero_add, Nat.mul_one, Nat.add_zero]
  rw [this, List.getD_eq_getElem?_getD, List.getElem?_eq_getElem hi]; rfl
attribute [local go_sem] conv_bytes
theorem named_any (s : ByteArray) (w : World) (hs : s.size ≤ 9223372036854775807) : Calls Try.prog 62 #[.string s] w fun e w' => e = .returned (.bool (nameB s)) ∧ Step w w' := by
 go_enter Try.func62, Try.ntmps62
 go_wp2_with fail
 refine (gale.within_any _ _ _ _).mono ?_
 rintro e w' ⟨rfl, rfl⟩
 by_cases h1 : 1 ≤ s.size ∧ s.size ≤ 16
 rotate_left
 ·have hd : withinB (s.size : Int) 1 16 = false := by simp [withinB]; omega
  have HN := zH (show nameB s = false by unfold nameB; simp; omega)
  rw [hd]
  clear hd h1
  go_wp2
  go_ret
  exact ⟨by rw [HN.out]; rfl, (by with_reducible repeat (first | assumption | exact Step.refl _ | apply Step.s_alloc | apply Step.s_drew | apply Step.s_drewN | refine Step.trans ?_ (by assumption)))⟩
 have hd : withinB (s.size : Int) 1 16 = true := by simp [withinB]; omega
 rw [hd]
 clear hd
 have h0 : 0 < s.size := by omega
 have hix : (0 : Int) < (s.size : Int) := by omega
 have hat := bytes_at s 0 h0
 obtain ⟨c, hc⟩ : ∃ c, c = s.data.getD 0 0 := ⟨_, rfl⟩
 rw [← hc] at hat
 have hb := byte_int c
 have HNB := zH (show nameB s = (letterB c && s.data.toList.all fun c => letterB c || digitB c) by unfold nameB; rw [← hc, decide_eq_true h1.1, decide_eq_true h1.2]; simp only [Bool.true_and])
 clear h1 hc
 go_wp2_with fail
 refine (gale.within_any _ _ _ _).mono ?_
 rintro e w' ⟨rfl, rfl⟩
 have hl : withinB (c.toNat : Int) 97 122 = letterB c := by simp only [withinB, letterB]; congr 1 <;> (apply decide_eq_decide.2; omega)
 rw [hl]
 clear hl
 cases q : letterB c with
 | false =>
  have HN := zH (show nameB s = false by rw [HNB.out, q]; rfl)
  clear q
  go_wp2
  go_ret
  exact ⟨by rw [HN.out]; rfl, (by with_reducible repeat (first | assumption | exact Step.refl _ | apply Step.s_alloc | apply Step.s_drew | apply Step.s_drewN | refine Step.trans ?_ (by assumption)))⟩
 | true =>
  have HN := zH (show nameB s = (s.data.toList.all fun c => letterB c || digitB c) by rw [HNB.out, q]; rfl)
  clear q
  have hall := zH (all_byte (fun _ => False) s.data.toList _ (Lib.bytesWorld w 5 s) 91 #[] (Go.Proofs.enters_of Try.func91 (by kernel_rfl) rfl) (fun c => letterB c || digitB c) (fun _ W => Step (Lib.bytesWorld w 5 s) W) (fun _ => False) (fun _ h => h.elim)
   (fun _ W hW => (sl_bytes w 5 s hs).keep (.of_step hW)) (fun _ _ _ h1 h2 => h1.trans h2) (Step.refl _) (fun i hi W u hW _ hu => by
    subst hu
    refine (named1_any _ W).mono ?_
    rintro e w' ⟨rfl, hs⟩
    exact ⟨rfl, hW.trans hs, hs⟩))
  go_wp2_with fail
  refine hall.out.mono ?_
  rintro e w1 ⟨rfl, k, _, _, hS⟩
  rw [← HN.out]
  clear hall
  go_wp2
  go_ret
  exact ⟨by rfl, (step_bytes _ _ _).trans hS⟩
end Go.Proofs.Ytfhmdpicoccnfaa
namespace Go.Proofs.Ytfhmdpicoccnfaa
set_option linter.unusedSimpArgs false
set_option linter.unusedVariables false
open Go.RowKit Go.BT
instance : LawfulBEq ByteArray where
 eq_of_beq h := (MapKept.bytes_beq _ _).1 h
 rfl := (MapKept.bytes_beq _ _).2 rfl
def addN (ks : List ByteArray) (n : ByteArray) : List ByteArray := if n ∈ ks then ks else ks ++ [n]
theorem add_len : ∀ (l ks : List ByteArray), (l.foldl addN ks).length ≤ ks.length + l.length ∧ ((l.foldl addN ks).length = ks.length + l.length ↔ l.Nodup ∧ ∀ x ∈ l, x ∉ ks)
 | [], ks => by simp
 | x :: l, ks => by
  rw [List.foldl_cons]
  by_cases h : x ∈ ks
  ·have h1 := add_len l ks
   rw [show addN ks x = ks by unfold addN; rw [if_pos h]]
   simp only [List.length_cons, List.nodup_cons, List.mem_cons]
   refine ⟨by omega, ⟨fun e => by omega, fun e => absurd h (e.2 x (.inl rfl))⟩⟩
  ·have h1 := add_len l (ks ++ [x])
   rw [show addN ks x = ks ++ [x] by unfold addN; rw [if_neg h]]
   simp only [List.length_cons, List.nodup_cons, List.mem_cons, List.length_append, List.length_nil, List.mem_append, List.not_mem_nil, or_false] at h1 ⊢
   refine ⟨by omega, ?_⟩
   rw [show ((l.foldl addN (ks ++ [x])).length = ks.length + (l.length + 1)) ↔ ((l.foldl addN (ks ++ [x])).length = ks.length + (0 + 1) + l.length) by omega, h1.2]
   constructor
   ·rintro ⟨a, b⟩
    refine ⟨⟨fun hx => b x hx (.inr rfl), a⟩, ?_⟩
    rintro y (rfl | hy)
    ·exact h
    ·exact fun hk => b y hy (.inl hk)
   ·rintro ⟨⟨a, b⟩, c⟩
    refine ⟨b, fun y hy hk => ?_⟩
    rcases hk with hk | rfl
    ·exact c y (.inr hy) hk
    ·exact a hy
def SM (w : World) (r : Nat) (ks : List ByteArray) : Prop := ∃ es clock, w.heap[r]? = some (.map es clock) ∧ es.toList.map (·.key) = ks.map Value.string
theorem SM.keep {S : Nat → Prop} {w w' : World} {r : Nat} {ks : List ByteArray} (h : SM w r ks) (hs : StepX S w w') (hr : ¬ S r) : SM w' r ks := by
 obtain ⟨es, cl, h1, h2⟩ := h
 exact ⟨es, cl, (hs.block r (Array.getElem?_eq_some_iff.1 h1).1 hr).trans h1, h2⟩
theorem find_str (n : ByteArray) : ∀ (es : List MapEntry) (ks : List ByteArray) (i : Nat), es.map (·.key) = ks.map Value.string →
  (n ∈ ks → ∃ j v, Instr.findNow .string (.string n) es i = some (some (i + j, v)) ∧ ∃ h : j < es.length, es[j].key = .string n) ∧ (n ∉ ks → Instr.findNow .string (.string n) es i = some none)
 | [], ks, i, h => by
  have : ks = [] := by simpa using h.symm
  subst this
  exact ⟨fun h => by simp at h, fun _ => rfl⟩
 | e :: es, ks, i, h => by
  cases ks with
  | nil => simp at h
  | cons k ks =>
   simp only [List.map_cons, List.cons.injEq] at h
   obtain ⟨hk, hr⟩ := h
   obtain ⟨r1, r2⟩ := find_str n es ks (i + 1) hr
   by_cases q : n = k
   ·subst q
    refine ⟨fun _ => ⟨0, e.val, ?_, by simp, by simpa using hk⟩, fun hn => absurd List.mem_cons_self hn⟩
    simp [Instr.findNow, hk, Instr.sameNow]
   ·have hb : (n == k) = false := by rw [beq_eq_false_iff_ne]; exact q
    have hst : Instr.findNow .string (.string n) (e :: es) i = Instr.findNow .string (.string n) es (i + 1) := by
     simp [Instr.findNow, hk, Instr.sameNow, hb]
    rw [hst]
    refine ⟨fun hm => ?_, fun hm => r2 fun h => hm (List.mem_cons_of_mem _ h)⟩
    obtain ⟨j, v, h1, h2, h3⟩ := r1 ((List.mem_cons.1 hm).resolve_left q)
    exact ⟨j + 1, v, by rw [h1]; congr 2; simp; omega, by simp; omega, by simpa using h3⟩
theorem mapUnderS : Try.prog.underlying 122 = some (.map 9 4) := by kernel_rfl
theorem strUnder : Try.prog.underlying 9 = some .string := by kernel_rfl
def putS (w : World) (r : Nat) (o : Obj) : World := { w with heap := w.heap.setIfInBounds r o }
theorem putS_at {w : World} {r : Nat} {o : Obj} (h : r < w.heap.size) : (putS w r o).heap[r]? = some o := by simp [putS, h]
theorem putS_wrote (w : World) (r : Nat) (o : Obj) : Wrote r w (putS w r o) := ⟨rfl, rfl, rfl, by simp [putS], fun k hk => by simp [putS, Array.getElem?_setIfInBounds_ne (Ne.symm hk)]⟩
theorem check_str (d : Nat) (n : ByteArray) (em : Bool) (w : World) : (Instr.checkKey em (d + 1) 9 (.string n)).run Try.prog w = .ok () w := by
 simp [Instr.checkKey, run_underlying strUnder]
theorem run_mapUpdate_str {w : World} {r : Nat} {ks : List ByteArray} (n : ByteArray) (h : SM w r ks) : ∃ w', (Instr.mapUpdate 122 (.map (some r)) (.string n) (.bool true)).run Try.prog w = .ok () w' ∧ SM w' r (addN ks n) ∧ Wrote r w w' := by
 obtain ⟨es, clock, hh, h1⟩ := h
 obtain ⟨r1, r2⟩ := find_str n es.toList ks 0 h1
 have hck : ∀ em, (Instr.checkKey em 10000 9 (.string n)).run Try.prog w = .ok () w := fun em => check_str 9999 n em w
 have hgo : (getObj r).run Try.prog w = .ok (.map es clock) w := by simp [getObj, Sem.run, hh]
 have hso : ∀ o, (setObj r o).run Try.prog w = .ok () (putS w r o) := fun o => by simp [setObj, Sem.run, hh, putS]
 by_cases hx : n ∈ ks
 ·obtain ⟨j, v, hj, hjl, hjk⟩ := r1 hx
  have hfk := MapKept.run_findKey (P := Try.prog) (w := w) strUnder hj
  have hjs : j < es.size := by simpa using hjl
  have hjk' : es[j]?.map (·.key) = some (.string n) := by
   rw [Array.getElem?_eq_getElem hjs, Option.map_some]
   rw [Array.getElem_toList] at hjk
   rw [hjk]
  have hst : (Instr.keyThatStays (.string n) (.string n)).run Try.prog w = .ok (.string n) w := by
   simp [Instr.keyThatStays, Instr.sameBits]
  refine ⟨putS w r (.map (es.modify j fun e => { e with key := .string n, val := .bool true }) clock), ?_, ⟨_, _, putS_at (Array.getElem?_eq_some_iff.1 hh).1, ?_⟩, putS_wrote _ _ _⟩
  ·simp [Instr.mapUpdate, run_underlying mapUnderS, hgo, hck, hfk, hjk', hst, hso]
  ·rw [show addN ks n = ks by unfold addN; rw [if_pos hx], ← h1, Array.toList_modify]
   refine List.ext_getElem (by simp) fun i h3 h4 => ?_
   simp only [List.getElem_map, List.getElem_modify]
   split
   ·rename_i hij
    subst hij
    exact hjk.symm
   ·rfl
 ·have hfk := MapKept.run_findKey (P := Try.prog) (w := w) strUnder (r2 hx)
  refine ⟨putS w r (.map (es.push { key := .string n, val := .bool true, born := clock }) (clock + 1)), ?_, ⟨_, _, putS_at (Array.getElem?_eq_some_iff.1 hh).1, ?_⟩, putS_wrote _ _ _⟩
  ·simp [Instr.mapUpdate, run_underlying mapUnderS, hgo, hck, hfk, hso]
  ·rw [show addN ks n = ks ++ [n] by unfold addN; rw [if_neg hx], Array.toList_push, List.map_append, List.map_append, h1]
   rfl
theorem run_len_str {w : World} {r : Nat} {ks : List ByteArray} (ty : TypeId) (h : SM w r ks) : (Builtin.len_ #[122] ty #[.map (some r)]).run Try.prog w = .ok (goInt ks.length) w := by
 obtain ⟨es, clock, hh, h1⟩ := h
 have he : es.size = ks.length := by
  have := congrArg List.length h1
  simpa using this
 rw [← he]
 exact run_len_map (P := Try.prog) (w := w) _ ty r es clock mapUnderS hh
theorem all_strong (l : List Rng) (v : Value) (w : World) (hv : SL (fun _ => False) w v l) : Calls Try.prog 59 #[v, .func (.func 60) #[] #[]] w fun e w' => e = .returned (.bool (l.all rangeB)) ∧ Step w w' :=
 (all_rng (fun _ => False) l v w 60 #[] (Go.Proofs.enters_of Try.func60 (by kernel_rfl) rfl) rangeB (fun _ W => Step w W) (fun _ => False) (fun _ h => h.elim)
  (fun _ W hW => hv.keep (.of_step hW)) (fun _ _ _ h1 h2 => h1.trans h2) (Step.refl _) (fun i hi W u hW _ hu => by
   subst hu
   refine (strong_any _ W).mono ?_
   rintro e w' ⟨rfl, hs⟩
   exact ⟨rfl, hW.trans hs, hs⟩)).mono fun e w' ⟨h, k, _, _, hs⟩ => ⟨h, hs⟩
theorem cf1_any (f : Fc) (u : Value) (w : World) (hu : AV (fun _ => False) w u f) : Calls Try.prog 57 #[u] w fun e w' => e = .returned (.bool (decide (f.hours.length ≤ 48))) ∧ Step w w' := by
 obtain ⟨c1, rfl, h1, _⟩ := hu.fc
 obtain ⟨p, c, rfl⟩ := h1.form
 have hd : decide ((f.hours.length : Int) ≤ 48) = decide (f.hours.length ≤ 48) := decide_eq_decide.2 (by omega)
 clear hu h1
 go_enter Try.func57, Try.ntmps57
 go_wp2
 go_ret
 exact ⟨by rw [← hd]; rfl, (by with_reducible repeat (first | assumption | exact Step.refl _ | apply Step.s_alloc | apply Step.s_drew | apply Step.s_drewN | refine Step.trans ?_ (by assumption)))⟩
theorem cf3_any (f : Fc) (u : Value) (w : World) (hu : AV (fun _ => False) w u f) : Calls Try.prog 61 #[u] w fun e w' => e = .returned (.bool (nameB f.name)) ∧ Step w w' := by
 obtain ⟨c1, rfl, h1, h2⟩ := hu.fc
 obtain ⟨p, c, rfl⟩ := h1.form
 have H2 := zH h2
 clear hu h1 h2
 go_enter Try.func61, Try.ntmps61
 go_wp2_with fail
 refine (named_any _ _ H2.out).mono ?_
 rintro e w' ⟨rfl, hS⟩
 go_wp2
 go_ret
 exact ⟨rfl, (Step.alloc _ _).trans hS⟩
theorem cells2 {w : World} {g : Nat} {c0 c1 : Value} {T : TypeId} (h : Bx w g [c0, c1] T) : w.cell? ⟨g, 0, none⟩ = some c0 ∧ w.cell? ⟨g, 1, none⟩ = some c1 := ⟨h.cell 0, h.cell 1⟩
theorem cf2_any (l : List Fc) (vl : Value) (f : Fc) (u : Value) (b : Nat) (w : World) (hl : SL (fun _ => False) w vl l) (h0 : 0 < l.length) (hb : w.cell? ⟨b, 0, none⟩ = some vl) (hu : AV (fun _ => False) w u f) :
  Calls Try.prog 58 #[u, .pointer (some ⟨b, 0, none⟩)] w fun e w' => e = .returned (.bool (evenFB l f)) ∧ Step w w' := by
 obtain ⟨c1, rfl, h1, _⟩ := hu.fc
 obtain ⟨p, c, rfl⟩ := h1.form
 obtain ⟨pl, cl, bl, ol, rfl, _, hml, hpl, hcl, _⟩ := hl.fcs
 obtain rfl := hpl h0
 obtain ⟨cx, x1, x2, x3, x4⟩ := hcl 0 h0
 obtain ⟨px, kx, rfl⟩ := x3.form
 have hn : hoursN l = l[0].hours.length := by
  cases l with
  | nil => simp at h0
  | cons a l => rfl
 obtain ⟨W0, hW0⟩ : ∃ W, W = w.alloc (.cells #[.string f.name, .slice p f.hours.length c] 117) := ⟨_, rfl⟩
 have hbx : Bx W0 w.heap.size [.string f.name, .slice p f.hours.length c] 117 := by subst hW0; exact Bx.new w [_, _] _
 have hS : Step w W0 := by subst hW0; exact Step.alloc _ _
 have HB := zH hbx
 have HS := zH hS
 have HW := zH hW0
 have HH := zH h1
 have HC := zH (And.intro (hS.kc hb) (hS.kc x2))
 have HT := zH (Step.refl W0)
 have hix : (0 : Int) < (l.length : Int) := by omega
 clear hbx hS hW0 h1 hb x1 x2 x3 x4 hcl hpl hu hl
 obtain ⟨n0, hn0⟩ : ∃ n, n = l[0].hours.length := ⟨_, rfl⟩
 rw [← hn0] at hn HC
 rw [Nat.zero_mul, Nat.add_zero] at HC
 have HE := zH (show evenFB l f = (decide (0 < f.hours.length) && decide (f.hours.length = n0) && f.hours.all rangeB) by unfold evenFB; rw [hn])
 clear hn0 hn
 by_cases a1 : 0 < f.hours.length
 rotate_left
 ·have d1 : decide (0 < (f.hours.length : Int)) = false := decide_eq_false (by omega)
  have d0 : decide (0 < f.hours.length) = false := decide_eq_false a1
  have HN := zH (show evenFB l f = false by rw [HE.out]; simp [a1])
  clear a1
  go_enter Try.func58, Try.ntmps58
  go_upto_region 1 with (fail)
  rw [← HW.out]
  refine wp_region_seq (kdOf [18] []) [0, 1, 3, 7, 15, 31, 63, 127, 31, 287, 799, 1823, 3871, 8191, 16383, 32767, 65535, 131071, 262143, 524287, 1048575] [0, 1, 2, 3, 4, 5, 6, 7, 8, 9, 10, 11, 12, 13, 14, 15, 16, 17, 18, 19, 20] [] (by kernel_rfl) (by kernel_rfl) (fun i T z hi hk => by simp [kdOf] at hk <;> (try (split at hk <;> cases hk))) ?_
  intro Wx hWx
  have HTx := zH (HT.out.trans hWx)
  clear hWx HT
  have HT := HTx
  clear HTx
  (try clear y0 y1 z0 z1)
  obtain ⟨y0, y1⟩ := cells2 (HB.out.step HT.out)
  have z0 := HT.out.kc HC.out.1
  have z1 := HT.out.kc HC.out.2
  repeat ((first | (refine run_off rfl rfl (by rfl) ?_) | (refine run_chain_off rfl rfl (by rfl) (K0_mono _) ?_) | ((refine run_want rfl rfl (by rfl) ⟨?_, fun W hW => ?_, ?_⟩; rotate_left; (· (have d0 := hW.kc y0; have d1 := hW.kc y1; have d2 := hW.kc z0; have d3 := hW.kc z1; go_simp; (try with_reducible rfl)))))); (try simp only [Act.put, zA, zB, zC]))
  clear y0 y1 z0 z1
  refine run_end (L := []) rfl (fun W6 hW6 => ?_)
  have HT6 := zH (HT.out.trans hW6)
  clear hW6 HT
  have HT := HT6
  clear HT6
  go_wp2
  go_ret
  exact ⟨by rw [HN.out]; rfl, HS.out.trans HT.out⟩
 have d1 : decide (0 < (f.hours.length : Int)) = true := decide_eq_true (by omega)
 have d0 : decide (0 < f.hours.length) = true := decide_eq_true a1
 by_cases a2 : f.hours.length = n0
 rotate_left
 ·have d2 : ((f.hours.length : Int) == (n0 : Int)) = false := by simp; omega
  have HN := zH (show evenFB l f = false by rw [HE.out]; simp [a2])
  clear a1 a2
  go_enter Try.func58, Try.ntmps58
  go_upto_region 1 with (fail)
  rw [← HW.out]
  refine wp_region_seq (kdOf [18] []) [0, 1, 3, 7, 15, 31, 63, 127, 31, 287, 799, 1823, 3871, 8191, 16383, 32767, 65535, 131071, 262143, 524287, 1048575] [0, 1, 2, 3, 4, 5, 6, 7, 8, 9, 10, 11, 12, 13, 14, 15, 16, 17, 18, 19, 20] [] (by kernel_rfl) (by kernel_rfl) (fun i T z hi hk => by simp [kdOf] at hk <;> (try (split at hk <;> cases hk))) ?_
  intro Wx hWx
  have HTx := zH (HT.out.trans hWx)
  clear hWx HT
  have HT := HTx
  clear HTx
  (try clear y0 y1 z0 z1)
  obtain ⟨y0, y1⟩ := cells2 (HB.out.step HT.out)
  have z0 := HT.out.kc HC.out.1
  have z1 := HT.out.kc HC.out.2
  repeat ((first | (refine run_off rfl rfl (by rfl) ?_) | (refine run_chain_off rfl rfl (by rfl) (K0_mono _) ?_) | ((refine run_want rfl rfl (by rfl) ⟨?_, fun W hW => ?_, ?_⟩; rotate_left; (· (have d0 := hW.kc y0; have d1 := hW.kc y1; have d2 := hW.kc z0; have d3 := hW.kc z1; go_simp; (try with_reducible rfl)))))); (try simp only [Act.put, zA, zB, zC]))
  clear y0 y1 z0 z1
  refine run_end (L := []) rfl (fun W6 hW6 => ?_)
  have HT6 := zH (HT.out.trans hW6)
  clear hW6 HT
  have HT := HT6
  clear HT6
  go_wp2
  go_ret
  exact ⟨by rw [HN.out]; rfl, HS.out.trans HT.out⟩
 have d2 : ((f.hours.length : Int) == (n0 : Int)) = true := by simp; omega
 have HN := zH (show evenFB l f = f.hours.all rangeB by rw [HE.out]; simp [a1, a2]; omega)
 clear a1 a2
 go_enter Try.func58, Try.ntmps58
 go_upto_region 1 with (fail)
 rw [← HW.out]
 refine wp_region_seq (kdOf [18] []) [0, 1, 3, 7, 15, 31, 63, 127, 31, 287, 799, 1823, 3871, 8191, 16383, 32767, 65535, 131071, 262143, 524287, 1048575] [0, 1, 2, 3, 4, 5, 6, 7, 8, 9, 10, 11, 12, 13, 14, 15, 16, 17, 18, 19, 20] [] (by kernel_rfl) (by kernel_rfl) (fun i T z hi hk => by simp [kdOf] at hk <;> (try (split at hk <;> cases hk))) ?_
 intro Wx hWx
 have HTx := zH (HT.out.trans hWx)
 clear hWx HT
 have HT := HTx
 clear HTx
 (try clear y0 y1 z0 z1)
 obtain ⟨y0, y1⟩ := cells2 (HB.out.step HT.out)
 have z0 := HT.out.kc HC.out.1
 have z1 := HT.out.kc HC.out.2
 repeat ((first | (refine run_off rfl rfl (by rfl) ?_) | (refine run_chain_off rfl rfl (by rfl) (K0_mono _) ?_) | ((refine run_want rfl rfl (by rfl) ⟨?_, fun W hW => ?_, ?_⟩; rotate_left; (· (have d0 := hW.kc y0; have d1 := hW.kc y1; have d2 := hW.kc z0; have d3 := hW.kc z1; go_simp; (try with_reducible rfl)))))); (try simp only [Act.put, zA, zB, zC]))
 clear y0 y1 z0 z1
 refine run_chain rfl rfl (by rfl) (fun Wi hWi K' hK => ?_)
 have HTi := zH (HT.out.trans hWi)
 have HZW := zH HTi.out.size
 clear hWi HT
 go_simp
 refine (all_strong f.hours _ _ (HH.out.keep (.of_step (HS.out.trans HTi.out)))).mono ?_
 rintro e wn ⟨rfl, hSn⟩
 have HT := zH (HTi.out.trans (StepX.of hSn))
 clear HTi
 rw [← HN.out]
 refine hK _ _ (StepX.of hSn) ?_
 clear hSn
 (try simp only [Act.put, zA, zB, zC])
 (try clear y0 y1 z0 z1)
 obtain ⟨y0, y1⟩ := cells2 (HB.out.step HT.out)
 have z0 := HT.out.kc HC.out.1
 have z1 := HT.out.kc HC.out.2
 repeat ((first | (refine run_off rfl rfl (by rfl) ?_) | (refine run_chain_off rfl rfl (by rfl) (K0_mono _) ?_) | ((refine run_want rfl rfl (by rfl) ⟨?_, fun W hW => ?_, ?_⟩; rotate_left; (· (have d0 := hW.kc y0; have d1 := hW.kc y1; have d2 := hW.kc z0; have d3 := hW.kc z1; go_simp; (try with_reducible rfl)))))); (try simp only [Act.put, zA, zB, zC]))
 clear y0 y1 z0 z1
 refine run_end (L := []) rfl (fun W6 hW6 => ?_)
 have HT6 := zH (HT.out.trans hW6)
 clear hW6 HT
 have HT := HT6
 clear HT6
 go_wp2
 go_ret
 exact ⟨rfl, HS.out.trans HT.out⟩
theorem wpl_append1 {P : Program} {ops : Array Oper} {rest : List Oper} {o : Oper} {a : Act} {Q : Exit → Act → World → Prop} {α : Type} [Rep α] {S : Nat → Prop} {base : Nat} {t e : TypeId} {z : Value} {bytes : Nat} {W0 w : World} {v u : Value} {l : List α} {k : Nat} (ei : EI P t e z (Rep.k α) bytes) (hgd : o.guard = none) (s x : Operand)
  (ho : o.op = .call { callee := .builtin .append, args := #[s, x], argTypes := #[t, t] }) (hs : a.eval s = v) (hx : a.eval x = u) (hown : OwnL S base e w v (l.take k)) (hk : k < l.length) (hl : l.length ≤ 1000000) (hby : bytes ≤ 1000000) (hu : SLe (avoid S v) w u [l[k]]) (hB : Below base W0 w) (hbase : base ≤ W0.heap.size)
  (h : ∀ p c w', OwnL S base e w' (.slice p (k + 1) c) (l.take (k + 1)) → Below base W0 w' → w.grownBy w' v.ownBlock → wpList P ops Q rest (a.put o.dst (.slice p (k + 1) c)) w') : wpList P ops Q (o :: rest) a w := by
 have hn : (l.take k).length + [l[k]].length = k + 1 := by simp; omega
 have hb2 : (k + 1) * bytes ≤ 140737488355328 := Nat.le_trans (Nat.mul_le_mul (show k + 1 ≤ 1000000 by omega) hby) (by decide)
 refine wpl_append ei hgd s x ho hs hx hown hu (k + 1) hn (l.take (k + 1)) (List.take_succ_eq_append_getElem hk).symm (by simp only [maxLen]; omega) hb2 (Nat.le_trans hbase hB.size) fun p c w' h1 h2 => h p c w' h1 ?_ h2
 exact hB.grown h2 (Nat.le_trans hbase hB.size) (fun j hj => (hown.lt j hj).1)
theorem infoVec : (Try.prog.info? 152).map (fun i => (i.zero, i.size, i.bytes)) = some (some (.agg #[.int .i64 0, .int .i64 0]), 2, 16) := by kernel_rfl
theorem eiVecs : EI Try.prog 59 152 (.agg #[.int .i64 0, .int .i64 0]) 2 16 := .mk' Try.underlying59 infoVec rfl
theorem Wind_any (S : Nat → Prop) (l : List Vec) (v : Value) (w : World) (hv : SL S w v l) (hl : l.length ≤ 1000) :
  Calls Try.prog 70 #[v] w fun e w' => ∃ v', e = .returned v' ∧ SL (Old w) w' v' l ∧ Step w w' := by
 obtain ⟨pv, cv, b, o, rfl, _, hm, hp, hc, _⟩ := hv.vecs
 have HP := zH (And.intro hp hc)
 clear hp hc hv
 go_enter Try.func70, Try.ntmps70
 go_wp2
 go_loopw [3, 4] (fun out i wr => ∃ k : Nat, k ≤ l.length ∧ i = .int .i64 k ∧ OwnL (Old w) w.heap.size 152 wr out (l.take k) ∧ Below w.heap.size w wr) (fun _ i _ => l.length - (intOf i).toNat)
 case atStart => exact ⟨0, Nat.zero_le _, rfl, OwnL.nil _ _ _ _, Below.refl _ _⟩
 case round =>
  obtain ⟨k, hk, rfl, hown, hB⟩ := hrel
  have HT := zH (Step.of hB)
  have HO := zH hown
  have HB := zH hB
  obtain ⟨LL, hLL⟩ : ∃ L, L = l.take k := ⟨_, rfl⟩
  rw [← hLL] at hown
  obtain ⟨pu, cu, rfl, _⟩ := hown.form
  have HLL := zH hLL
  clear hown hB hLL
  by_cases hlt : k < l.length
  ·obtain rfl := HP.out.1 (by omega)
   obtain ⟨e1, e2⟩ := HP.out.2 k hlt
   have e1 := HT.out.kc e1
   have e2 := HT.out.kc e2
   have hix : (0 : Int) ≤ (k : Int) ∧ (k : Int) < (l.length : Int) := by omega
   have hcall := zH (Vector_any l[k] wr)
   go_wp2_with fail
   refine hcall.out.mono ?_
   rintro e w1 ⟨rfl, hS⟩
   have hown2 := (HO.out.step hS).alloc (.cells #[.int .i64 l[k].x, .int .i64 l[k].y] 152)
   have hu := SLe.one (S := avoid (Old w) (.slice pu LL.length cu)) (w := w1) (cs := [.int .i64 l[k].x, .int .i64 l[k].y]) (x := l[k]) 152 rfl
   have hB2 := (HB.out.step (Nat.le_refl _) hS).step (Nat.le_refl _) (Step.alloc _ (.cells #[.int .i64 l[k].x, .int .i64 l[k].y] 152))
   clear hS hcall e1 e2
   go_wp2_with (at_builtin; refine wpl_append1 (l := l) (k := k) eiVecs rfl _ _ rfl rfl rfl hown2 hlt (by omega) (by decide) hu hB2 (Nat.le_refl _) ?_)
   intro p' c' w2 hown3 hB3 _
   have H3 := zH (And.intro hown3 hB3)
   clear hown2 hu hB2 hown3 hB3
   go_wp2
   go_roundw
   case rel => exact ⟨k + 1, by omega, by go_num, H3.out.1, H3.out.2⟩
   case measure => simp [intOf]; omega
  ·have HN := zH (show LL = l by rw [HLL.out, List.take_of_length_le (by omega)])
   go_wp2
   go_ret
   refine ⟨_, rfl, ?_, HT.out⟩
   have h := HO.out.fresh
   rw [← HLL.out, HN.out] at h
   rw [HN.out]; exact h
theorem _root_.Go.BT.OwnL.slb {α : Type} [Rep α] {S : Nat → Prop} {base : Nat} {e : TypeId} {w : World} {v : Value} {l : List α} (h : OwnL S base e w v l) (hs : ∀ g, v.ownBlock = some g → ¬ S g) : SL S w v l := by
 have hm : l.length ≤ 9223372036854775807 := by obtain ⟨_, _, _, hm, _⟩ := h.form; simp only [maxLen] at hm; omega
 have hlt := h.lt
 obtain ⟨xs, h', hr⟩ := h
 have h := h'.2
 rcases h with ⟨rfl, h0⟩ | ⟨g, cap, cur, rfl, hb, hg, hle, hcap, hsz, htk⟩
 ·have : l = [] := List.eq_nil_of_length_eq_zero h0
  subst this; exact SL.nil S w
 ·refine ⟨_, cap, g, 0, rfl, hle, hm, fun _ => rfl, fun i hi => ⟨(hlt g rfl).2, hs g rfl, _, Rep.weak (fun j _ hj => .inl hj) (hr i hi), fun j u hj => ?_⟩⟩
  have hj' : (xs.drop (i * Rep.k α))[j]? = some u := by
   rw [List.getElem?_take] at hj; split at hj
   ·exact hj
   ·cases hj
  rw [List.getElem?_drop] at hj'
  have := h'.cells (g := g) (by simp [Value.ownBlock]) (i * Rep.k α + j) u hj'
  rw [Addr.add_lit] at this
  simpa using this
theorem _root_.Go.BT.StepX.over {C X : Nat → Prop} {w0 w w' : World} (h : StepX C w0 w) (k : StepX X w w') (hX : ∀ j, X j → w0.heap.size ≤ j ∨ C j) : StepX C w0 w' :=
 ⟨k.os.trans h.os, k.tape.trans h.tape, k.output.trans h.output, Nat.le_trans h.size k.size, fun j hj hn => (k.block j (Nat.lt_of_lt_of_le hj h.size) (fun hx => (hX j hx).elim (fun h => by omega) hn)).trans (h.block j hj hn)⟩
def MVS (S : Nat → Prop) (w : World) (v : Value) (area : Int) (F : List Vec) : Prop := ∃ (b : Int) (p2 : Option Addr) (n2 k2 : Nat) (p3 : Option Addr) (k3 : Nat), v = .agg #[.int .i64 area, .int .i64 b, .slice p2 n2 k2, .slice p3 F.length k3] ∧ SL S w (.slice p3 F.length k3) F
abbrev MV (w : World) (v : Value) (area : Int) (F : List Vec) : Prop := MVS (fun _ => False) w v area F
theorem MVS.step {w w' : World} {v : Value} {area : Int} {F : List Vec} (h : MV w v area F) (hs : Step w w') : MV w' v area F := by
 obtain ⟨b, p2, n2, k2, p3, k3, e, h⟩ := h
 exact ⟨b, p2, n2, k2, p3, k3, e, h.keep (.of_step hs)⟩
theorem _root_.Go.BT.OwnL.flat {α : Type} [Flat α] {S : Nat → Prop} (T : Nat → Prop) {base : Nat} {e : TypeId} {w : World} {v : Value} {l : List α} (h : OwnL S base e w v l) : OwnL T base e w v l := by
 obtain ⟨xs, ho, hr⟩ := h; exact ⟨xs, ho, fun i hi => Flat.flat (hr i hi)⟩
def cellsV (l : List Vec) : List Value := l.flatMap fun v => [.int .i64 v.x, .int .i64 v.y]
theorem cellsV_cons (v : Vec) (l : List Vec) : cellsV (v :: l) = .int .i64 v.x :: .int .i64 v.y :: cellsV l := rfl
theorem cellsV_drop : ∀ (l : List Vec) (i : Nat) (hi : i < l.length), (cellsV l).drop (i * 2) = .int .i64 l[i].x :: .int .i64 l[i].y :: cellsV (l.drop (i + 1))
 | [], i, hi => by simp at hi
 | c :: l, 0, _ => by simp [cellsV_cons]
 | c :: l, i + 1, hi => by
  rw [cellsV_cons, show (i + 1) * 2 = i * 2 + 1 + 1 by omega, List.drop_succ_cons, List.drop_succ_cons, cellsV_drop l i (by simpa using hi)]
  simp
def OutW (S : Nat → Prop) (base : Nat) (w : World) (v : Value) (l : List Vec) : Prop :=
 OwnL S base 152 w v l ∨ ∃ b, base ≤ b ∧ b < w.heap.size ∧ v = .slice (some ⟨b, 0, none⟩) l.length l.length ∧ 0 < l.length ∧ ∀ j u, (cellsV l)[j]? = some u → w.cell? ⟨b, j, none⟩ = some u
theorem OutW.step {S : Nat → Prop} {base : Nat} {w w' : World} {v : Value} {l : List Vec} (h : OutW S base w v l) (hs : Step w w') : OutW S base w' v l := by
 rcases h with h | ⟨b, h1, h2, h3, h4, h5⟩
 ·exact .inl (h.step hs)
 ·exact .inr ⟨b, h1, Nat.lt_of_lt_of_le h2 hs.size, h3, h4, fun j u hj => hs.kc (h5 j u hj)⟩
theorem OutW.form {S : Nat → Prop} {base : Nat} {w : World} {v : Value} {l : List Vec} (h : OutW S base w v l) : ∃ p c, v = .slice p l.length c := by
 rcases h with h | ⟨b, _, _, h3, _⟩
 ·obtain ⟨p, c, e, _⟩ := h.form; exact ⟨p, c, e⟩
 ·exact ⟨_, _, h3⟩
theorem OutW.lt {S : Nat → Prop} {base : Nat} {w : World} {v : Value} {l : List Vec} (h : OutW S base w v l) : ∀ g, v.ownBlock = some g → base ≤ g ∧ g < w.heap.size := by
 rcases h with h | ⟨b, h1, h2, rfl, _⟩
 ·exact h.lt
 ·intro g hg; simp [Value.ownBlock] at hg; subst hg; exact ⟨h1, h2⟩
theorem OutW.sl {S : Nat → Prop} {base : Nat} {w : World} {v : Value} {l : List Vec} (h : OutW S base w v l) (hl : l.length ≤ 1000) (T : Nat → Prop) (hT : ∀ j, T j → j < base) : SL T w v l := by
 rcases h with h | ⟨b, h1, h2, rfl, h4, h5⟩
 ·exact (h.flat T).slb fun g hg ht => by have := (h.lt g hg).1; have := hT g ht; omega
 ·refine ⟨_, _, b, 0, rfl, Nat.le_refl _, by omega, fun _ => rfl, fun i hi => ⟨h2, fun ht => by have := hT b ht; omega, [.int .i64 l[i].x, .int .i64 l[i].y], rfl, fun j u hj => ?_⟩⟩
  have hd := cellsV_drop l i hi
  show w.cell? ⟨b, 0 + i * 2 + j, none⟩ = some u
  rw [Nat.zero_add]
  refine h5 _ _ ?_
  rw [← List.getElem?_drop, hd]
  match j, hj with
  | 0, hj => exact hj
  | 1, hj => exact hj
  | j + 2, hj => simp at hj
def inV (n : Int) (v : Vec) : Prop := (-n ≤ v.x ∧ v.x ≤ n) ∧ -n ≤ v.y ∧ v.y ≤ n
theorem inV.mono {m n : Int} {v : Vec} (h : inV m v) (hmn : m ≤ n) : inV n v := by unfold inV at *; omega
def Ends (F : List Vec) (q : Vec) (k m : Int) : Prop := 10000 < k + m ∨ balL F (timesV q (k + m)) = false
theorem Ends.more {F : List Vec} {q : Vec} {k m d : Int} (h : Ends F q k m) (hk : 0 ≤ k + m) (hd : 0 ≤ d) : Ends F q (k + d) m := by
 rcases h with h | h
 ·exact .inl (by omega)
 ·refine .inr ?_
  cases hb : balL F (timesV q (k + d + m)) with
  | false => rfl
  | true => rw [bal_mono hb hk (by omega)] at h; exact absurd h (by decide)
end Go.Proofs.Ytfhmdpicoccnfaa
namespace Go.BT
open Go.RowKit
def FW (ro : Option Nat) : Fence := { Fence.wide with round := ro }
@[simp] theorem FW_round (ro : Option Nat) : (FW ro).round = ro := rfl
@[simp] theorem FW_depth (ro : Option Nat) : (FW ro).depth = none := rfl
@[simp] theorem FW_fn (ro : Option Nat) (f : FuncId) : (FW ro).fn f = True := rfl
@[simp] theorem FW_inRound (ro : Option Nat) (l : Nat) : (FW ro).inRound l = FW (some l) := rfl
@[simp] theorem semAt_FW (ρ : Operand → Value) (o : Oper) : Oper.semAt none ρ o = execOp ρ o := rfl
theorem callsIn_FW {ro : Option Nat} {n : Nat} {P : Program} {f : FuncId} {args : Array Value} {w : World} {R : Ending → World → Prop} (h : Calls P f args w R) : CallsIn (FW ro) n P f args w R := by
 have h' : CallsIn Fence.wide n P f args w R := callsIn_wide.2 h
 cases ro with
 | none => exact h'
 | some l => exact CallsIn.inRound l h'
theorem rowsIn_FW {ro : Option Nat} {n : Nat} {P : Program} {row : String} {args : Array Value} {w : World} {R : Value → World → Prop} (h : Rows P row args w R) : RowsIn (FW ro) n P row args w R := fun c cs _ => by
 obtain ⟨v, w', r, s⟩ := h c cs
 exact ⟨v, w', r, (StepsIn.of_steps s).mono fun m _ => fenced_wide P m⟩
section
variable {P : Program} {ops : Array Oper} {X : Nat → Prop} {base : Nat} {kd : Nat → Kd} {ro : Option Nat} {n : Nat}
def noDefer (ops : Array Oper) : Bool := ops.all fun o => match o.op with
 | .defer _ => false
 | _ => true
theorem wpOpIn_of (hnd : noDefer ops = true) {Q : Exit → Act → World → Prop} {j : Nat} {K : Act → World → Prop} {a : Act} {w : World} (h : wpOp P ops QF j K a w) : wpOpIn (FW ro) n P ops Q j K a w := by
 unfold wpOp at h
 unfold wpOpIn
 cases ho : ops[j]? with
 | none => simp only [ho] at h; exact h
 | some o =>
  simp only [ho] at h ⊢
  have hd : ∀ c, o.op ≠ .defer c := fun c hc => by
   have := Array.all_eq_true'.1 hnd o (Array.mem_of_getElem? ho)
   simp [hc] at this
  have hsem : o.semAt (FW ro).round a.eval = execOp a.eval o := by
   unfold Oper.semAt
   cases ro with
   | none => rfl
   | some l =>
    show (match some l, o.op with | some l, .defer c => _ | _, _ => _) = _
    split
    ·rename_i c _ hc; exact (hd _ hc).elim
    ·rfl
  split
  ·rename_i hw
   simp only [hw, if_true] at h
   rcases h with h | ⟨_, a0, w0, hF⟩
   case inr => exact hF.elim
   unfold Oper.wp at h
   refine ⟨fun f _ => trivial, ?_⟩
   rw [hsem]
   generalize (execOp a.eval o).run P w = r at *
   cases r with
   | ok x w' =>
    cases x <;> simp only [Oper.upon, Oper.uponIn] at h ⊢ <;> first
     | exact h
     | exact ⟨fun hs => absurd hs (by simp [FW, Fence.wide]), callsIn_FW (Calls.mono h fun e w'' he => by cases e <;> first | exact he | exact he.elim | (obtain ⟨_, _, hF⟩ := he; exact hF.elim))⟩
     | exact ⟨fun hs => absurd hs (by simp [FW, Fence.wide]), rowsIn_FW h⟩
   | halt x w' => cases x <;> simp only [Oper.upon] at h <;> exact h.elim
  ·rename_i hw
   simp only [hw] at h
   exact ⟨fun f _ => trivial, h⟩
def K0I (P : Program) (ops : Array Oper) (X : Nat → Prop) (ro : Option Nat) (n : Nat) (Q : Exit → Act → World → Prop) (t : List Nat) : Cont := fun _ a w => ∀ W, StepX X w W → wpOpsIn (FW ro) n P ops Q t a W
theorem K0I_mono {Q : Exit → Act → World → Prop} (t : List Nat) : ContMono X (K0I P ops X ro n Q t) := fun _ _ _ _ _ _ hs h W hW => h W (hs.trans hW)
variable {tab : List Nat}
theorem tail_soundI {Q : Exit → Act → World → Prop} : ∀ (fuel : Nat) (t : List Nat) (listed : Array Bool) (a : Act) (w : World),
  t.length ≤ fuel → listed.size = ops.size → (∀ i, i < ops.size → (listed.getD i true = false ↔ i ∈ t)) → (∀ i ∈ t, i < ops.size) → t.Nodup → Closed ops listed →
  okTab tab ops = true → TailOk tab [] t → DepsOk ops listed t → wpOpsIn (FW ro) n P ops Q t a w → wpAnyIn (FW ro) n P .any ops Q fuel listed a w := by
 intro fuel
 induction fuel with
 | zero =>
  intro t listed a w hf hsz hun hin hnd hcl htab htail hdeps h
  have ht : t = [] := List.eq_nil_of_length_eq_zero (by omega)
  subst ht
  refine ⟨?_, by simpa [wpOpsIn] using h⟩
  rw [List.eq_nil_iff_forall_not_mem]
  intro j hj
  obtain ⟨h0, o, ho, _⟩ := mem_ready.1 hj
  have := (hun j (Array.getElem?_eq_some_iff.1 ho).1).1 h0
  simp at this
 | succ fuel ih =>
  intro t listed a w hf hsz hun hin hnd hcl htab htail hdeps h
  refine ⟨fun hr => ?_, fun j hj => ?_⟩
  ·cases t with
   | nil => simpa [wpOpsIn] using h
   | cons x L =>
    exfalso
    obtain ⟨o, ho, hh⟩ := hdeps [] x L rfl
    have hx : x ∈ Region.ready .any ops listed := mem_ready.2 ⟨(hun x (hin x (by simp))).2 (by simp), o, ho, fun e he hb => (hh e he hb).resolve_right (by simp)⟩
    rw [hr] at hx; cases hx
  ·obtain ⟨h0, oj, hoj, hdj⟩ := mem_ready.1 hj
   have hjlt := (Array.getElem?_eq_some_iff.1 hoj).1
   have hjsz : j < listed.size := by omega
   obtain ⟨t1, t2, rfl⟩ := List.append_of_mem ((hun j hjlt).1 h0)
   have ht1 : t1 = [] := by
    rw [List.eq_nil_iff_forall_not_mem]
    intro i hi
    have h1 := anc_listed hsz hcl htab j i oj hoj hdj (htail t1 j t2 rfl i (by simp [hi]))
    have h2 := (hun i (hin i (by simp [hi]))).2 (by simp [hi])
    rw [getD_tf (by rw [hsz]; exact hin i (by simp [hi])), h1] at h2
    cases h2
   subst ht1
   rw [List.nil_append, wpOpsIn_cons] at h
   refine wpOpIn_mono (fun a' w' hk => ?_) h
   have hnd' := nodup_mid hnd
   refine ih t2 _ a' w' (by simp at hf; omega) (by simp [hsz]) (by have := unlisted_drop (L1 := []) (L2 := t2) hjsz hun hnd; simpa using this) (fun i hi => hin i (by simp [hi])) (by simpa using hnd'.2)
    (closed_set hjsz hoj hdj hcl) htab (fun u1 x u2 he y hy => htail (j :: u1) x u2 (by simp [he]) y (by simp at hy ⊢; exact .inr hy)) (by have := depsOk_drop (L1 := []) (L2 := t2) hjsz hdeps; simpa using this) hk
theorem seq_soundI (hX : ∀ j, X j → j < base) {Q : Exit → Act → World → Prop} (hdf : noDefer ops = true) (hsel : Region.noSelect ops = true) : ∀ (fuel : Nat) (l t : List Nat) (listed : Array Bool) (N : Nat → Prop) (a : Act) (w : World),
  l.length + t.length ≤ fuel → listed.size = ops.size → (∀ i, i < ops.size → (listed.getD i true = false ↔ i ∈ l ++ t)) → (∀ i ∈ l ++ t, i < ops.size) → (l ++ t).Nodup → Closed ops listed →
  okTab tab ops = true → okList tab ops kd l = true → (∀ y ∈ l, ∀ x ∈ t, ancB tab y x = true) → TailOk tab [] t → DepsOk ops listed (l ++ t) → okAlloc ops kd l = true → (∀ i T z, i ∈ l → kd i = .alloc T z → Makes P ops i T z) →
  (∀ g, w.heap.size ≤ g → N g) → base ≤ w.heap.size → run P ops X base kd l (K0I P ops X ro n Q t) N a w → wpAnyIn (FW ro) n P .any ops Q fuel listed a w := by
 intro fuel
 induction fuel with
 | zero =>
  intro l t listed N a w hf hsz hun hin hnd hcl htab _ _ htail hdeps _ _ _ _ h
  have hl : l = [] := List.eq_nil_of_length_eq_zero (by omega)
  subst hl
  exact tail_soundI 0 t listed a w (by simpa using hf) hsz hun hin hnd hcl htab htail hdeps (h w (StepX.refl _ w))
 | succ fuel ih =>
  intro l t listed N a w hf hsz hun hin hnd hcl htab hlist hwait htail hdeps halloc hz hN hbase h
  by_cases hl : l = []
  ·subst hl
   exact tail_soundI _ t listed a w (by simpa using hf) hsz hun hin hnd hcl htab htail hdeps (h w (StepX.refl _ w))
  refine ⟨fun hr => ?_, fun j hj => ?_⟩
  ·-- nothing may come up: but something is left
   exfalso
   cases l with
   | nil => exact hl rfl
   | cons x L =>
    obtain ⟨o, ho, hh⟩ := hdeps [] x (L ++ t) (by simp)
    have hx : x ∈ Region.ready .any ops listed := mem_ready.2 ⟨(hun x (hin x (by simp))).2 (by simp), o, ho, fun e he hb => (hh e he hb).resolve_right (by simp)⟩
    rw [hr] at hx; cases hx
  ·obtain ⟨h0, oj, hoj, hdj⟩ := mem_ready.1 hj
   have hjlt := (Array.getElem?_eq_some_iff.1 hoj).1
   have hjsz : j < listed.size := by omega
   have hjm := (hun j hjlt).1 h0
   have hcl' := closed_set hjsz hoj hdj hcl
   have notanc : ∀ i ∈ l ++ t, ancB tab i j = true → False := fun i hi ha => by
    have h1 := anc_listed hsz hcl htab j i oj hoj hdj ha
    have h2 := (hun i (hin i hi)).2 hi
    rw [getD_tf (by rw [hsz]; exact hin i hi), h1] at h2
    cases h2
   rcases List.mem_append.1 hjm with hjl | hjt
   ·-- one of the first part
    obtain ⟨l1, l2, rfl⟩ := List.append_of_mem hjl
    obtain ⟨hlist', hpair⟩ := okList_drop hlist
    have hall : ∀ i ∈ l1, ∃ oi, ops[i]? = some oi ∧ oi.apart ops oj = true ∧ swaps (kd i) (kd j) = true := fun i hi => by
     have hp := hpair i hi
     simp only [okPair, Bool.or_eq_true] at hp
     rcases hp with hp | hp
     ·exact (notanc i (by simp [hi]) hp).elim
     ·cases hoi : ops[i]? with
      | none => simp [hoi] at hp
      | some oi =>
       simp only [hoi, hoj, Bool.and_eq_true] at hp
       exact ⟨oi, rfl, hp.1, hp.2⟩
    have hb := bring hX (K0I_mono t) hsel hoj l1 l2 N a w hall h
    have he : (l1 ++ j :: l2) ++ t = l1 ++ j :: (l2 ++ t) := by simp
    have next : ∀ (N' : Nat → Prop) (a' : Act) (w' : World), (∀ g, w'.heap.size ≤ g → N' g) → w.heap.size ≤ w'.heap.size → run P ops X base kd (l1 ++ l2) (K0I P ops X ro n Q t) N' a' w' → wpAnyIn (FW ro) n P .any ops Q fuel (listed.setIfInBounds j true) a' w' :=
     fun N' a' w' hN' hsz' hr => ih (l1 ++ l2) t _ N' a' w' (by simp at hf ⊢; omega) (by simp [hsz]) (by have := unlisted_drop (L1 := l1) (L2 := l2 ++ t) hjsz (by rw [← he]; exact hun) (by rw [← he]; exact hnd); simpa using this)
      (fun i hi => hin i (by simp only [List.mem_append, List.mem_cons] at hi ⊢; rcases hi with (hi | hi) | hi <;> simp [hi]))
      (by have := (nodup_mid (by rw [← he]; exact hnd)).2; simpa using this) hcl' htab hlist' (fun y hy x hx => hwait y (by simp only [List.mem_append, List.mem_cons] at hy ⊢; rcases hy with hy | hy <;> simp [hy]) x hx) htail
      (by have := depsOk_drop (L1 := l1) (L2 := l2 ++ t) hjsz (by rw [← he]; exact hdeps); simpa using this)
      (by simp only [okAlloc, List.all_eq_true, List.mem_append, List.mem_cons] at halloc ⊢; exact fun x hx => halloc x (hx.elim .inl (fun h => .inr (.inr h))))
      (fun i T z hi => hz i T z (by simp only [List.mem_append, List.mem_cons] at hi ⊢; rcases hi with hi | hi <;> simp [hi])) hN' (by omega) hr
    cases hk : kd j with
    | silent =>
     simp only [go, hk] at hb
     obtain ⟨o, v, ho, hy, hr⟩ := hb
     exact wpOpIn_of hdf (hy.wpOp (Q := QF) ho (StepX.refl _ w) (next N _ w hN (Nat.le_refl _) hr))
    | chain =>
     simp only [go, hk] at hb
     exact wpOpIn_of hdf (wpOp_mono (fun a' w' ⟨hs, hr⟩ => next _ a' w' (fun g hg => ⟨hN g (Nat.le_trans hs.size hg), .inr hg⟩) hs.size hr) (hb w (StepX.refl _ w)))
    | alloc T z =>
     simp only [go, hk] at hb
     have hal := halloc
     simp only [okAlloc, List.all_eq_true] at hal
     have hal := hal j (by simp)
     simp only [hk, hoj, Bool.and_eq_true] at hal
     obtain ⟨hg, hop⟩ := hal
     refine wpOpIn_of hdf (wpOp_alloc (Q := QF) hoj hop (by simpa using hg) (hz j T z (by simp) hk) ?_)
     have hd : (ops[j]?).bind (·.dst) = oj.dst := by rw [hoj]; rfl
     rw [hd] at hb
     exact next _ _ _ (fun g hgg => ⟨hN g (by simp at hgg; omega), by simp at hgg; omega⟩) (by simp) (hb (w.alloc (.cells (madeC z) T)) w.heap.size (.of (Step.alloc _ _)) (heap_alloc_new w _) hbase (hN _ (Nat.le_refl _)))
   ·exfalso
    obtain ⟨t1, t2, rfl⟩ := List.append_of_mem hjt
    cases l with
    | nil => exact hl rfl
    | cons x L => exact notanc x (by simp) (hwait x (by simp) j (by simp))
theorem wpIn_region_seq {id : Nat} {Q : Exit → Act → World → Prop} {a : Act} {w : World} (X : Nat → Prop) (hX : ∀ j, X j → j < w.heap.size) (kd : Nat → Kd) (tab l t : List Nat) (hm : P.follows .mixedOrders = true) (hdf : noDefer ops = true) (hok : okSeq true tab ops kd l t = true)
  (hz : ∀ i T z, i ∈ l → kd i = .alloc T z → Makes P ops i T z)
  (h : ∀ W, StepX X w W → run P ops X w.heap.size kd l (K0I P ops X ro n Q t) (fun _ => True) a W) : (Code.region id ops true).wpIn (FW ro) n P Q a w := by
 simp only [okSeq, Bool.and_eq_true, List.all_eq_true, decide_eq_true_eq, List.mem_range, List.contains_iff_mem] at hok
 obtain ⟨⟨⟨⟨⟨⟨⟨⟨⟨h0, h1⟩, h9⟩, h2⟩, h3⟩, h4⟩, h5⟩, h6⟩, h7⟩, h8⟩ := hok
 refine wpIn_region_any hm ?_
 refine seq_soundI (base := w.heap.size) (kd := kd) hX hdf h5 ops.size l t _ (fun _ => True) a w.drew ?_ (by simp) ?_ h7 h8 ?_ h0 h1 (fun y hy x hx => by have := h9 y hy x hx; simpa [okWait] using this) (tailOk_of h2) ?_ h4 hz (fun _ _ => trivial) (by simp) (h w.drew (.of (Step.drew w)))
 ·-- no more than the region has
  have hsub : (l ++ t).length ≤ (List.range ops.size).length := h8.length_le_of_subset (fun i hi => List.mem_range.2 (h7 i hi))
  simpa using hsub
 ·intro i hi
  simp only [Array.getD_eq_getD_getElem?, Array.getElem?_replicate, hi, if_true, Option.getD_some, true_iff]
  exact h6 i hi
 ·intro x o ho hx
  have hlt := (Array.getElem?_eq_some_iff.1 ho).1
  simp [hlt] at hx
 ·intro L1 x L2 he
  obtain ⟨o, ho, hh⟩ := depsOk_of (listed := Array.replicate ops.size false) h3 L1 x L2 he
  exact ⟨o, ho, by simpa using hh⟩
theorem runI_end {N : Nat → Prop} {a : Act} {w : World} {Q : Exit → Act → World → Prop} {t : List Nat} {L : List Oper} (ht : t.map (fun i => ops.toList[i]?) = L.map some) (h : ∀ W, StepX X w W → wpListIn (FW ro) n P ops Q L a W) : run P ops X base kd [] (K0I P ops X ro n Q t) N a w := by
 intro W hW
 have h' := h W hW
 clear h hW
 show wpOpsIn (FW ro) n P ops Q t a W
 induction t generalizing L a W with
 | nil =>
  cases L with
  | nil => exact h'
  | cons _ _ => simp at ht
 | cons x t ih =>
  cases L with
  | nil => simp at ht
  | cons o L =>
   simp only [List.map_cons, List.cons.injEq, Array.getElem?_toList] at ht
   rw [wpOpsIn_cons]
   unfold wpOpIn
   unfold wpListIn at h'
   simp only [ht.1]
   split
   ·rename_i hw
    rw [if_pos hw] at h'
    exact Oper.wpIn_mono (fun a' w' hh => ih (by simpa using ht.2) w' hh) h'
   ·rename_i hw
    rw [if_neg hw] at h'
    exact ⟨h'.1, ih (by simpa using ht.2) W h'.2⟩
end
section
variable {α : Type} [Rep α] {S : Nat → Prop} {base : Nat} {P : Program} {w : World} {v u : Value} {l m : List α} {t e : TypeId} {z : Value} {bytes : Nat} {ro : Option Nat} {nn : Nat}
end
end Go.BT
namespace Go.Proofs.Ytfhmdpicoccnfaa
set_option linter.unusedSimpArgs false
set_option linter.unusedVariables false
open Go.RowKit Go.BT
attribute [local go_sem] Oper.semAt_some
end Go.Proofs.Ytfhmdpicoccnfaa
namespace Go.Proofs.Ytfhmdpicoccnfaa
set_option linter.unusedSimpArgs false
set_option linter.unusedVariables false
open Go.RowKit Go.BT
def _root_.Go.BT.SLT (S : Nat → Prop) (w : World) (v : Value) (l : List Int) : Prop := SL S w v l ∧ ∀ (b o n c : Nat), v = .slice (some ⟨b, o, none⟩) n c → ∀ i, i < n → w.frozen? ⟨b, o + i, none⟩ = false
theorem _root_.Go.BT.SLT.keep {S : Nat → Prop} {w w' : World} {v : Value} {l : List Int} (h : SLT S w v l) (hk : Keeps S w w') : SLT S w' v l := by
 refine ⟨h.1.keep hk, fun b o n c e i hi => ?_⟩
 have h2 := h.2 b o n c e i hi
 obtain ⟨p, c', b', o', hv, _, _, hp, ha⟩ := h.1
 rw [e] at hv
 injection hv with e1 e2 e3
 have hlt : i < l.length := by omega
 have := hp (by omega)
 rw [← e1] at this
 injection this with this
 injection this with eb eo
 subst eb
 have h3 := ha i hlt
 exact (World.frozen?_of_block (w := w) (hk.2 b h3.1 h3.2.1)).trans h2
theorem _root_.Go.BT.SLT.weak {S T : Nat → Prop} {w : World} {v : Value} {l : List Int} (h : SLT S w v l) (hk : ∀ j, j < w.heap.size → T j → S j) : SLT T w v l := ⟨h.1.weak hk, h.2⟩
theorem _root_.Go.BT.SLT.form {S : Nat → Prop} {w : World} {v : Value} {l : List Int} (h : SLT S w v l) : ∃ p c, v = .slice p l.length c := h.1.form
theorem _root_.Go.BT.SLT.nil (S : Nat → Prop) (w : World) : SLT S w (.slice none 0 0) [] := ⟨SL.nil _ _, fun b o n c e => by cases e⟩
theorem _root_.Go.BT.SLT.bx_ints {S : Nat → Prop} {w : World} {g : Nat} {T : TypeId} {l : List Int} (h : Bx w g (l.map (Value.int .i64)) T) (hs : ¬ S g) (c : Nat) (hc : l.length ≤ c) (hm : l.length ≤ 9223372036854775807) : SLT S w (.slice (some ⟨g, 0, none⟩) l.length c) l :=
 ⟨SL.bx_ints h hs c hc hm, fun b o n c e i _ => by injection e with e _ _; injection e with e; injection e with e1 _; subst e1; exact h.frozen _⟩
def _root_.Go.BT.AVO (S : Nat → Prop) (w : World) (v : Value) (x : Bal) : Prop := ∃ cs, v = .agg cs.toArray ∧ ∃ c1, cs = [.int .i64 x.whole, c1] ∧ SLT S w c1 x.parts
theorem _root_.Go.BT.AVO.av {S : Nat → Prop} {w : World} {v : Value} {x : Bal} (h : AVO S w v x) : AV S w v x := by
 obtain ⟨cs, e, c1, e1, r⟩ := h; exact ⟨cs, e, c1, e1, r.1⟩
theorem _root_.Go.BT.AVO.keep {S : Nat → Prop} {w w' : World} {v : Value} {x : Bal} (h : AVO S w v x) (hk : Keeps S w w') : AVO S w' v x := by
 obtain ⟨cs, e, c1, e1, r⟩ := h; exact ⟨cs, e, c1, e1, r.keep hk⟩
theorem _root_.Go.BT.AVO.weak {S T : Nat → Prop} {w : World} {v : Value} {x : Bal} (h : AVO S w v x) (hk : ∀ j, j < w.heap.size → T j → S j) : AVO T w v x := by
 obtain ⟨cs, e, c1, e1, r⟩ := h; exact ⟨cs, e, c1, e1, r.weak hk⟩
theorem ints_set (l : List Int) (k : Nat) (x : Int) : (l.map (Value.int .i64)).set k (.int .i64 x) = (l.set k x).map (Value.int .i64) := by rw [List.map_set]
theorem ints_cell {w : World} {g : Nat} {l : List Int} {T : TypeId} (h : Bx w g (l.map (Value.int .i64)) T) {k : Nat} (hk : k < l.length) : w.cell? ⟨g, k, none⟩ = some (.int .i64 l[k]) := by
 rw [h.cell k]; simp [hk]
attribute [local go_sem] Oper.semAt_some
end Go.Proofs.Ytfhmdpicoccnfaa
namespace Go.Proofs.Ytfhmdpicoccnfaa
set_option linter.unusedSimpArgs false
set_option linter.unusedVariables false
open Go.RowKit Go.BT
structure HeadV where
 area : Int
 bears : Int
 p : Option Addr
 n : Nat
 c : Nat
abbrev HeadV.val (h : HeadV) : Value := .slice h.p h.n h.c
instance : Rep HeadV where
 k := 3
 rep S w cs x := cs = [.int .i64 x.area, .int .i64 x.bears, .slice x.p x.n x.c] ∧ ∀ g, x.val.ownBlock = some g → g < w.heap.size ∧ ¬ S g
 len h := by rw [h.1]; rfl
 keep hk h := ⟨h.1, fun g hg => ⟨Nat.lt_of_lt_of_le (h.2 g hg).1 hk.1, (h.2 g hg).2⟩⟩
 weak hk h := ⟨h.1, fun g hg => ⟨(h.2 g hg).1, fun ht => (h.2 g hg).2 (hk g (h.2 g hg).1 ht)⟩⟩
 one h := by obtain ⟨rfl, _⟩ := h; simp [Value.oneCell']
 pos := by decide
theorem ownL_flat {α : Type} [Flat α] {S : Nat → Prop} (T : Nat → Prop) {base : Nat} {e : TypeId} {w : World} {v : Value} {l : List α} (h : OwnL S base e w v l) : OwnL T base e w v l := by
 obtain ⟨xs, h1, h2⟩ := h
 exact ⟨xs, h1, fun i hi => Flat.flat (h2 i hi)⟩
theorem ownL_grown {α : Type} [Flat α] {S : Nat → Prop} {base : Nat} {e : TypeId} {w w' : World} {v : Value} {l : List α} {row : Option Nat} (h : OwnL S base e w v l) (hg : w.grownBy w' row) (hne : ∀ g, v.ownBlock = some g → row ≠ some g) : OwnL S base e w' v l := by
 obtain ⟨xs, h1, h2⟩ := h
 refine ⟨xs, h1.kept hg ?_, fun i hi => Flat.flat (h2 i hi)⟩
 cases q : v.ownBlock with
 | none => exact .inl rfl
 | some g => exact .inr fun e => hne g q e.symm
structure Inner (base : Nat) (w : World) (hs : List HeadV) (t : List Head) : Prop where
 len : hs.length = t.length
 at_ : ∀ i (h1 : i < hs.length) (h2 : i < t.length), hs[i].area = t[i].area ∧ hs[i].bears = t[i].bears ∧ OwnL (fun _ => False) base 207 w hs[i].val t[i].guys
 apart : ∀ i j (h1 : i < hs.length) (h2 : j < hs.length), i ≠ j → ∀ g, hs[i].val.ownBlock = some g → hs[j].val.ownBlock ≠ some g
theorem Inner.nil (base : Nat) (w : World) : Inner base w [] [] := ⟨rfl, fun i h => absurd h (by simp), fun i j h => absurd h (by simp)⟩
theorem Inner.grown {base : Nat} {w w' : World} {hs : List HeadV} {t : List Head} {row : Option Nat} (h : Inner base w hs t) (hg : w.grownBy w' row) (hne : ∀ i (h1 : i < hs.length) g, hs[i].val.ownBlock = some g → row ≠ some g) : Inner base w' hs t :=
 ⟨h.len, fun i h1 h2 => ⟨(h.at_ i h1 h2).1, (h.at_ i h1 h2).2.1, ownL_grown (h.at_ i h1 h2).2.2 hg (hne i h1)⟩, h.apart⟩
theorem Inner.step {base : Nat} {w w' : World} {hs : List HeadV} {t : List Head} (h : Inner base w hs t) (k : Step w w') : Inner base w' hs t :=
 ⟨h.len, fun i h1 h2 => ⟨(h.at_ i h1 h2).1, (h.at_ i h1 h2).2.1, (h.at_ i h1 h2).2.2.step k⟩, h.apart⟩
theorem Inner.lt {base : Nat} {w : World} {hs : List HeadV} {t : List Head} (h : Inner base w hs t) {i : Nat} (h1 : i < hs.length) {g : Nat} (hg : hs[i].val.ownBlock = some g) : base ≤ g ∧ g < w.heap.size :=
 (h.at_ i h1 (by have := h.len; omega)).2.2.lt g hg
def TentO (base : Nat) (w : World) (v : Value) (t : List Head) : Prop := ∃ hs : List HeadV, OwnL (fun _ => False) base 204 w v hs ∧ Inner base w hs t
theorem sl_map {α β : Type} [Rep α] [Rep β] (hk : Rep.k α = Rep.k β) {S T : Nat → Prop} {w : World} {v : Value} {l : List α} {m : List β} (h : SL S w v l) (hl : m.length = l.length) (hT : ∀ j, j < w.heap.size → T j → S j)
  (hr : ∀ i (h1 : i < l.length) (h2 : i < m.length) cs, Rep.rep S w cs l[i] → Rep.rep T w cs m[i]) : SL T w v m := by
 obtain ⟨p, c, b, o, hv, hc, hm, hp, ha⟩ := h
 refine ⟨p, c, b, o, by rw [hl]; exact hv, by omega, by omega, fun h0 => hp (by omega), fun i hi => ?_⟩
 obtain ⟨h1, h2, cs, h3, h4⟩ := ha i (by omega)
 exact ⟨h1, fun ht => h2 (hT b h1 ht), cs, hr i (by omega) hi cs h3, by rw [← hk]; exact h4⟩
theorem TentO.own {base : Nat} {w : World} {v : Value} {t : List Head} (h : TentO base w v t) {S : Nat → Prop} (hS : ∀ j, base ≤ j → j < w.heap.size → ¬ S j) : ∃ hs, OwnL S base 204 w v hs ∧ Inner base w hs t := by
 obtain ⟨hs, ⟨xs, h1, h2⟩, hi⟩ := h
 refine ⟨hs, ⟨xs, h1, fun i hx => ⟨(h2 i hx).1, fun g hg => ⟨((h2 i hx).2 g hg).1, fun ha => ?_⟩⟩⟩, hi⟩
 rcases ha with ha | ha
 ·have := hi.lt hx hg
  exact hS g this.1 this.2 ha
 ·exact ((h2 i hx).2 g hg).2 (.inr ha)
theorem TentO.sl {base : Nat} {w : World} {v : Value} {t : List Head} (h : TentO base w v t) {S : Nat → Prop} (hS : ∀ j, base ≤ j → j < w.heap.size → ¬ S j) : SL S w v t := by
 obtain ⟨hs, ho, hi⟩ := h.own hS
 refine sl_map (l := hs) (m := t) (show Rep.k HeadV = Rep.k Head from rfl) (ho.sl hS) hi.len.symm (fun _ _ h => h) fun i h1 h2 cs hr => ?_
 obtain ⟨a1, a2, a3⟩ := hi.at_ i h1 h2
 exact ⟨_, by rw [hr.1, a1, a2], (ownL_flat S a3).slb fun g hg => (hr.2 g hg).2⟩
theorem TentO.step {base : Nat} {w w' : World} {v : Value} {t : List Head} (h : TentO base w v t) (k : Step w w') : TentO base w' v t := by
 obtain ⟨hs, ho, hi⟩ := h
 exact ⟨hs, ho.step k, hi.step k⟩
theorem SL.go {α : Type} [Rep α] {S : Nat → Prop} {w w' : World} {v : Value} {l : List α} (h : SL S w v l) (k : Step w w') : SL (fun _ => False) w' v l := (h.weak fun _ _ h => h.elim).keep (.of_step k)
theorem AV.go {α : Type} [Rep α] {S : Nat → Prop} {w w' : World} {v : Value} {l : α} (h : AV S w v l) (k : Step w w') : AV (fun _ => False) w' v l := (h.weak fun _ _ h => h.elim).keep (.of_step k)
theorem all_cf1 (l : List Fc) (v : Value) (w : World) (hv : SL (fun _ => False) w v l) : Calls Try.prog 56 #[v, .func (.func 57) #[] #[]] w fun e w' => e = .returned (.bool (l.all fun f => decide (f.hours.length ≤ 48))) ∧ Step w w' :=
 (all_fc (fun _ => False) l v w 57 #[] (Go.Proofs.enters_of Try.func57 (by kernel_rfl) rfl) (fun f => decide (f.hours.length ≤ 48)) (fun _ W => Step w W) (fun _ => False) (fun _ h => h.elim)
  (fun _ W hW => hv.keep (.of_step hW)) (fun _ _ _ h1 h2 => h1.trans h2) (Step.refl _) (fun i hi W u hW _ hu => by
   refine (cf1_any _ _ W hu).mono ?_
   rintro e w' ⟨rfl, hs⟩
   exact ⟨rfl, hW.trans hs, hs⟩)).mono fun e w' ⟨h, k, _, _, hs⟩ => ⟨h, hs⟩
theorem all_cf3 (l : List Fc) (v : Value) (w : World) (hv : SL (fun _ => False) w v l) : Calls Try.prog 56 #[v, .func (.func 61) #[] #[]] w fun e w' => e = .returned (.bool (l.all fun f => nameB f.name)) ∧ Step w w' :=
 (all_fc (fun _ => False) l v w 61 #[] (Go.Proofs.enters_of Try.func61 (by kernel_rfl) rfl) (fun f => nameB f.name) (fun _ W => Step w W) (fun _ => False) (fun _ h => h.elim)
  (fun _ W hW => hv.keep (.of_step hW)) (fun _ _ _ h1 h2 => h1.trans h2) (Step.refl _) (fun i hi W u hW _ hu => by
   refine (cf3_any _ _ W hu).mono ?_
   rintro e w' ⟨rfl, hs⟩
   exact ⟨rfl, hW.trans hs, hs⟩)).mono fun e w' ⟨h, k, _, _, hs⟩ => ⟨h, hs⟩
theorem all_cf2 (l : List Fc) (v : Value) (b : Nat) (w : World) (hv : SL (fun _ => False) w v l) (hb : w.cell? ⟨b, 0, none⟩ = some v) : Calls Try.prog 56 #[v, .func (.func 58) #[] #[.pointer (some ⟨b, 0, none⟩)]] w fun e w' => e = .returned (.bool (l.all (evenFB l))) ∧ Step w w' :=
 (all_fc (fun _ => False) l v w 58 #[.pointer (some ⟨b, 0, none⟩)] (Go.Proofs.enters_of Try.func58 (by kernel_rfl) rfl) (evenFB l) (fun _ W => Step w W) (fun _ => False) (fun _ h => h.elim)
  (fun _ W hW => hv.keep (.of_step hW)) (fun _ _ _ h1 h2 => h1.trans h2) (Step.refl _) (fun i hi W u hW _ hu => by
   refine (cf2_any l v _ _ b W (hv.keep (.of_step hW)) (by omega) (hW.kc hb) hu).mono ?_
   rintro e w' ⟨rfl, hs⟩
   exact ⟨rfl, hW.trans hs, hs⟩)).mono fun e w' ⟨h, k, _, _, hs⟩ => ⟨h, hs⟩
theorem names_take {l : List Fc} {k : Nat} (hk : k < l.length) : ((namesOf l).take (k + 1)).foldl addN [] = addN (((namesOf l).take k).foldl addN []) l[k].name := by
 have h : k < (namesOf l).length := by simpa [namesOf] using hk
 rw [List.take_succ_eq_append_getElem h, List.foldl_append]
 simp [namesOf]
attribute [local go_sem] run_len_str
theorem CheckForecasts_any (S : Nat → Prop) (l : List Fc) (v : Value) (w : World) (hv : SL S w v l) : Calls Try.prog 20 #[v] w fun e w' => e = .returned (.int .i64 (forecastsC l)) ∧ Step w w' := by
 have hm := hv.len
 have hv0 := SL.go hv (Step.refl _)
 obtain ⟨pv, cv, bv, ov, rfl, _, _, hpv, hcv, _⟩ := hv0.fcs
 obtain ⟨W0, hW0⟩ : ∃ W, W = (w.alloc (.cells #[.slice pv l.length cv] 31)).alloc (.map #[] 0) := ⟨_, rfl⟩
 have hS : Step w W0 := by subst hW0; exact (by with_reducible repeat (first | assumption | exact Step.refl _ | apply Step.s_alloc | apply Step.s_drew | apply Step.s_drewN | refine Step.trans ?_ (by assumption)))
 have hz : W0.heap.size = w.heap.size + 2 := by subst hW0; simp
 have hbx : Bx W0 w.heap.size [.slice pv l.length cv] 31 := by subst hW0; exact (Bx.new w [_] _).step (Step.alloc _ _)
 have hsm : SM W0 (w.heap.size + 1) [] := by
  subst hW0
  refine ⟨#[], 0, ?_, rfl⟩
  have := heap_alloc_new (w.alloc (.cells #[.slice pv l.length cv] 31)) (.map #[] 0)
  rw [World.size_alloc] at this
  exact this
 have HW := zH hW0
 have HS := zH (And.intro hS hz)
 have HBX := zH hbx
 have HSM := zH hsm
 have HV := zH ((hv0.weak (T := fun j => j = w.heap.size + 1) fun j hj e => by omega).keep (.of_step hS))
 have HC := zH (And.intro hpv hcv)
 clear hv hv0 hpv hcv hW0 hS hz hbx hsm
 have hmm := @run_makeMap Try.prog
 go_enter Try.func20, Try.ntmps20
 go_upto_region 3 with (fail)
 rw [← HW.out]
 go_loopw [9] (fun i wr => ∃ k : Nat, k ≤ l.length ∧ i = .int .i64 k ∧ SM wr (w.heap.size + 1) (((namesOf l).take k).foldl addN []) ∧ StepX (fun j => j = w.heap.size + 1) W0 wr) (fun i _ => l.length - (intOf i).toNat)
 case atStart => exact ⟨0, Nat.zero_le _, rfl, HSM.out, StepX.refl _ _⟩
 case round =>
  obtain ⟨k, hk, rfl, hsm, hX⟩ := hrel
  have HX := zH hX
  have HM := zH hsm
  by_cases hlt : k < l.length
  ·obtain ⟨p', c', b', o', he, _, _, hpp, hc, _⟩ := (HV.out.keep hX.keeps).fcs
   injection he with he1 he2 he3
   subst he1 he3
   obtain rfl := hpp (by omega)
   obtain ⟨c1, e1, e2, e3, _⟩ := hc k hlt
   obtain ⟨p2, k2, rfl⟩ := e3.form
   have hix : (0 : Int) ≤ (k : Int) ∧ (k : Int) < (l.length : Int) := by omega
   have hsm3 : SM (wr.alloc (.cells #[.string l[k].name, .slice p2 l[k].hours.length k2] 117)) (w.heap.size + 1) (((namesOf l).take k).foldl addN []) := hsm.keep (Step.alloc _ _) id
   obtain ⟨w4, hmu, hsm4, hw4⟩ := run_mapUpdate_str l[k].name hsm3
   have HM4 := zH (And.intro hsm4 hw4)
   clear hsm hX hsm3 hsm4 hw4 hc hpp he2 e3 HM
   go_wp2
   go_roundw
   case rel => exact ⟨k + 1, by omega, by go_num, by rw [names_take hlt]; exact HM4.out.1, (HX.out.trans (.of (Step.alloc _ _))).trans (StepX.grown HM4.out.2.grown fun j e _ => by injection e with e; exact e.symm)⟩
   case measure => simp [intOf]; omega
  ·have hke : k = (namesOf l).length := by simp [namesOf]; omega
   rw [hke, List.take_length] at hsm
   obtain ⟨wb, hwb⟩ : ∃ W, W = wr := ⟨_, rfl⟩
   subst hwb
   obtain ⟨ks, hks⟩ : ∃ ks, ks = (namesOf l).foldl addN [] := ⟨_, rfl⟩
   rw [← hks] at hsm
   have hlen := add_len (namesOf l) []
   rw [← hks] at hlen
   have hnl : (namesOf l).length = l.length := by simp [namesOf]
   rw [hnl] at hlen
   simp only [List.length_nil, Nat.zero_add, List.not_mem_nil, not_false_eq_true, implies_true, and_true] at hlen
   have HLEN := zH hlen
   have HSMB := zH hsm
   have HVB := zH (SL.go (HV.out.keep hX.keeps) (Step.refl _))
   have HB0 := zH (hX.keeps.cell (show ¬ w.heap.size = w.heap.size + 1 by omega) (HBX.out.cell 0))
   have HSB := zH (StepX.fresh HS.out.1 hX (fun j hj => by omega))
   have HT := zH (Step.refl wb)
   clear hsm hX HX HM hke hks hlen hnl HV HBX HS HSM hmm
   have HF := zH (show fewFB l = (withinB (l.length : Int) 1 10 && l.all fun f => decide (f.hours.length ≤ 48)) by
    unfold fewFB withinB
    congr 1
    congr 1 <;> (apply decide_eq_decide.2; omega))
   have y0 := HT.out.kc HB0.out
   go_wp2_with fail
   refine (gale.within_any _ _ _ _).mono ?_
   rintro e w' ⟨rfl, rfl⟩
   clear hlt hk
   cases q : withinB (l.length : Int) 1 10 with
   | false =>
    have HR := zH (show forecastsC l = 3 by unfold forecastsC; rw [HF.out, q]; rfl)
    clear q
    go_wp2
    go_ret
    exact ⟨by rw [HR.out]; rfl, HSB.out.trans HT.out⟩
   | true =>
   have HF1 := zH (show fewFB l = l.all fun f => decide (f.hours.length ≤ 48) by rw [HF.out, q]; rfl)
   clear q HF
   have hcall := zH (all_cf1 l _ _ (SL.go HVB.out HT.out))
   go_wp2_with fail
   refine hcall.out.mono ?_
   clear hcall
   rintro e wn ⟨rfl, hSn⟩
   have HTi := zH (HT.out.trans hSn)
   clear hSn HT
   have HT := HTi
   clear HTi
   clear y0
   cases q : l.all fun f => decide (f.hours.length ≤ 48) with
   | false =>
    have HR := zH (show forecastsC l = 3 by unfold forecastsC; rw [HF1.out, q]; rfl)
    clear q
    go_wp2
    go_ret
    exact ⟨by rw [HR.out]; rfl, HSB.out.trans HT.out⟩
   | true =>
   have HF2 := zH (show fewFB l = true by rw [HF1.out, q])
   clear q HF1
   have y0 := HT.out.kc HB0.out
   have hcall := zH (all_cf2 l _ _ _ (SL.go HVB.out HT.out) (HT.out.kc HB0.out))
   go_wp2_with fail
   refine hcall.out.mono ?_
   clear hcall
   rintro e wn ⟨rfl, hSn⟩
   have HTi := zH (HT.out.trans hSn)
   clear hSn HT
   have HT := HTi
   clear HTi
   clear y0
   cases q : l.all (evenFB l) with
   | false =>
    have HR := zH (show forecastsC l = 1 by unfold forecastsC; rw [if_pos HF2.out, q]; rfl)
    clear q
    go_wp2
    go_ret
    exact ⟨by rw [HR.out]; rfl, HSB.out.trans HT.out⟩
   | true =>
   have HF3 := zH q
   clear q
   have y0 := HT.out.kc HB0.out
   have hcall := zH (all_cf3 l _ _ (SL.go HVB.out HT.out))
   go_wp2_with fail
   refine hcall.out.mono ?_
   clear hcall
   rintro e wn ⟨rfl, hSn⟩
   have HTi := zH (HT.out.trans hSn)
   clear hSn HT
   have HT := HTi
   clear HTi
   clear y0
   cases q : l.all (fun f => nameB f.name) with
   | false =>
    have HR := zH (show forecastsC l = 5 by unfold forecastsC; rw [if_pos HF2.out, if_pos HF3.out, q]; rfl)
    clear q
    go_wp2
    go_ret
    exact ⟨by rw [HR.out]; rfl, HSB.out.trans HT.out⟩
   | true =>
   have HF4 := zH q
   clear q
   have y0 := HT.out.kc HB0.out
   have hsm := HSMB.out.keep HT.out id
   have hll := run_len_str 3 hsm
   obtain ⟨kn, hkn⟩ : ∃ n, n = ks.length := ⟨_, rfl⟩
   rw [← hkn] at hll
   have HKN := zH hkn
   clear hkn hsm
   by_cases q : kn < l.length
   ·have hd : decide (kn < l.length) = true := decide_eq_true q
    have HR := zH (show forecastsC l = 6 by
     unfold forecastsC; rw [if_pos HF2.out, if_pos HF3.out, if_pos HF4.out, if_neg]
     intro hn
     have := HLEN.out.2.2 hn
     rw [← HKN.out] at this; omega)
    clear q
    go_wp2
    go_ret
    exact ⟨by rw [HR.out]; rfl, HSB.out.trans HT.out⟩
   ·have hd : decide (kn < l.length) = false := decide_eq_false q
    have HR := zH (show forecastsC l = 0 by
     unfold forecastsC; rw [if_pos HF2.out, if_pos HF3.out, if_pos HF4.out, if_pos]
     refine HLEN.out.2.1 ?_
     have := HLEN.out.1
     rw [← HKN.out] at this ⊢; omega)
    clear q
    go_wp2
    go_ret
    exact ⟨by rw [HR.out]; rfl, HSB.out.trans HT.out⟩
end Go.Proofs.Ytfhmdpicoccnfaa
namespace Go.Proofs.Ytfhmdpicoccnfaa
set_option linter.unusedSimpArgs false
set_option linter.unusedVariables false
open Go.RowKit Go.BT
theorem rd2_any (x : Rdg) (w : World) : Calls Try.prog 83 #[.agg #[.int .i64 x.hour, .int .i64 x.lo, .int .i64 x.hi]] w fun e w' => e = .returned (.bool (rangeB ⟨x.lo, x.hi⟩)) ∧ Step w w' := by
 obtain ⟨a, b, c⟩ := x
 dsimp only
 go_enter Try.func83, Try.ntmps83
 go_wp2_with fail
 refine (strong_any ⟨b, c⟩ _).mono ?_
 rintro e w' ⟨rfl, hS⟩
 go_wp2
 go_ret
 exact ⟨rfl, (Step.alloc _ _).trans hS⟩
theorem rd1_any (l : List Fc) (vl : Value) (x : Rdg) (b : Nat) (w : World) (hl : SL (fun _ => False) w vl l) (h0 : 0 < l.length) (hn : hoursN l ≤ 48) (hb : w.cell? ⟨b, 0, none⟩ = some vl) :
  Calls Try.prog 82 #[.agg #[.int .i64 x.hour, .int .i64 x.lo, .int .i64 x.hi], .pointer (some ⟨b, 0, none⟩)] w fun e w' => e = .returned (.bool (withinB x.hour 0 ((hoursN l : Int) - 1))) ∧ Step w w' := by
 obtain ⟨xa, xb, xc⟩ := x
 dsimp only
 obtain ⟨pl, cl, bl, ol, rfl, _, hml, hpl, hcl, _⟩ := hl.fcs
 obtain rfl := hpl h0
 obtain ⟨cx, x1, x2, x3, x4⟩ := hcl 0 h0
 obtain ⟨px, kx, rfl⟩ := x3.form
 have hh : hoursN l = l[0].hours.length := by
  cases l with
  | nil => simp at h0
  | cons a l => rfl
 rw [hh] at hn ⊢
 obtain ⟨W0, hW0⟩ : ∃ W, W = w.alloc (.cells #[.int .i64 xa, .int .i64 xb, .int .i64 xc] 101) := ⟨_, rfl⟩
 have hbx : Bx W0 w.heap.size [.int .i64 xa, .int .i64 xb, .int .i64 xc] 101 := by subst hW0; exact Bx.new w [_, _, _] _
 have hS : Step w W0 := by subst hW0; exact Step.alloc _ _
 have HB := zH hbx
 have HS := zH hS
 have HW := zH hW0
 have HC := zH (And.intro (hS.kc hb) (hS.kc x2))
 have HT := zH (Step.refl W0)
 have hix : (0 : Int) < (l.length : Int) := by omega
 clear hbx hS hW0 hb x1 x2 x3 x4 hcl hpl hl
 obtain ⟨n0, hn0⟩ : ∃ n, n = l[0].hours.length := ⟨_, rfl⟩
 rw [← hn0] at HC hn ⊢
 rw [Nat.zero_mul, Nat.add_zero] at HC
 have hw1 : IntKind.i64.wrap ((n0 : Int) - 1) = (n0 : Int) - 1 := by rw [IntKind.wrap_i64]; omega
 clear hn0 hh hn
 go_enter Try.func82, Try.ntmps82
 go_upto_region 1 with (fail)
 rw [← HW.out]
 refine wp_region_seq (kdOf [8] []) [0, 1, 0, 4, 12, 28, 60, 124, 255, 511] [0, 1, 2, 3, 4, 5, 6, 7, 8, 9] [] (by kernel_rfl) (by kernel_rfl) (fun i T z hi hk => by simp [kdOf] at hk <;> (try (split at hk <;> cases hk))) ?_
 intro Wx hWx
 have HTx := zH (HT.out.trans hWx)
 clear hWx HT
 have HT := HTx
 clear HTx
 have y0 := (HB.out.step HT.out).cell 0
 have z0 := HT.out.kc HC.out.1
 have z1 := HT.out.kc HC.out.2
 repeat ((first | (refine run_off rfl rfl (by rfl) ?_) | (refine run_chain_off rfl rfl (by rfl) (K0_mono _) ?_) | ((refine run_want rfl rfl (by rfl) ⟨?_, fun W hW => ?_, ?_⟩; rotate_left; (· (have d0 := hW.kc y0; have d1 := hW.kc z0; have d2 := hW.kc z1; go_simp; (try with_reducible rfl)))))); (try simp only [Act.put, zA, zB, zC]))
 clear y0 z0 z1
 refine run_chain rfl rfl (by rfl) (fun Wi hWi K' hK => ?_)
 have HTi := zH (HT.out.trans hWi)
 clear hWi HT
 go_simp
 refine (gale.within_any _ _ _ _).mono ?_
 rintro e wn ⟨rfl, rfl⟩
 have HT := HTi
 clear HTi
 refine hK _ _ (StepX.refl _ _) ?_
 (try simp only [Act.put, zA, zB, zC])
 repeat ((first | (refine run_off rfl rfl (by rfl) ?_) | (refine run_chain_off rfl rfl (by rfl) (K0_mono _) ?_) | ((refine run_want rfl rfl (by rfl) ⟨?_, fun W hW => ?_, ?_⟩; rotate_left; (· (skip; go_simp; (try with_reducible rfl)))))); (try simp only [Act.put, zA, zB, zC]))
 refine run_end (L := []) rfl (fun W6 hW6 => ?_)
 have HT6 := zH (HT.out.trans hW6)
 clear hW6 HT
 have HT := HT6
 clear HT6
 go_wp2
 go_ret
 exact ⟨rfl, HS.out.trans HT.out⟩
theorem all_rd2 (l : List Rdg) (v : Value) (w : World) (hv : SL (fun _ => False) w v l) : Calls Try.prog 81 #[v, .func (.func 83) #[] #[]] w fun e w' => e = .returned (.bool (l.all fun x => rangeB ⟨x.lo, x.hi⟩)) ∧ Step w w' :=
 (all_rdg (fun _ => False) l v w 83 #[] (Go.Proofs.enters_of Try.func83 (by kernel_rfl) rfl) (fun x => rangeB ⟨x.lo, x.hi⟩) (fun _ W => Step w W) (fun _ => False) (fun _ h => h.elim)
  (fun _ W hW => hv.keep (.of_step hW)) (fun _ _ _ h1 h2 => h1.trans h2) (Step.refl _) (fun i hi W u hW _ hu => by
   subst hu
   refine (rd2_any _ W).mono ?_
   rintro e w' ⟨rfl, hs⟩
   exact ⟨rfl, hW.trans hs, hs⟩)).mono fun e w' ⟨h, k, _, _, hs⟩ => ⟨h, hs⟩
theorem all_rd1 (l : List Fc) (vl : Value) (rs : List Rdg) (v : Value) (b : Nat) (w : World) (hl : SL (fun _ => False) w vl l) (h0 : 0 < l.length) (hn : hoursN l ≤ 48) (hb : w.cell? ⟨b, 0, none⟩ = some vl) (hv : SL (fun _ => False) w v rs) :
  Calls Try.prog 81 #[v, .func (.func 82) #[] #[.pointer (some ⟨b, 0, none⟩)]] w fun e w' => e = .returned (.bool (rs.all fun x => withinB x.hour 0 ((hoursN l : Int) - 1))) ∧ Step w w' :=
 (all_rdg (fun _ => False) rs v w 82 #[.pointer (some ⟨b, 0, none⟩)] (Go.Proofs.enters_of Try.func82 (by kernel_rfl) rfl) (fun x => withinB x.hour 0 ((hoursN l : Int) - 1)) (fun _ W => Step w W) (fun _ => False) (fun _ h => h.elim)
  (fun _ W hW => hv.keep (.of_step hW)) (fun _ _ _ h1 h2 => h1.trans h2) (Step.refl _) (fun i hi W u hW _ hu => by
   subst hu
   refine (rd1_any l vl _ b W (hl.keep (.of_step hW)) h0 hn (hW.kc hb)).mono ?_
   rintro e w' ⟨rfl, hs⟩
   exact ⟨rfl, hW.trans hs, hs⟩)).mono fun e w' ⟨h, k, _, _, hs⟩ => ⟨h, hs⟩
theorem read_any (S : Nat → Prop) (l : List Fc) (rs : List Rdg) (v u : Value) (w : World) (hv : SL S w v l) (hu : SL S w u rs) : Calls Try.prog 50 #[v, u] w fun e w' => e = .returned (.int .i64 (readC l rs)) ∧ Step w w' := by
 have hm := hu.len
 obtain ⟨W0, hW0⟩ : ∃ W, W = w.alloc (.cells #[v] 31) := ⟨_, rfl⟩
 have hS : Step w W0 := by subst hW0; exact Step.alloc _ _
 have hbx : Bx W0 w.heap.size [v] 31 := by subst hW0; exact Bx.new w [_] _
 have HW := zH hW0
 have HS := zH hS
 have HB := zH hbx
 have HV := zH (SL.go hv hS)
 have HU := zH (SL.go hu hS)
 have HT := zH (Step.refl W0)
 obtain ⟨pv, cv, rfl⟩ := hv.form
 obtain ⟨pu, cu, rfl⟩ := hu.form
 clear hW0 hS hbx hv hu
 have y0 := (HB.out.step HT.out).cell 0
 simp only [List.getElem?_cons_zero] at y0
 go_enter Try.func50, Try.ntmps50
 go_upto_region 1 with (fail)
 rw [← HW.out]
 have hcall := zH (CheckForecasts_any (fun _ => False) l _ _ (SL.go HV.out HT.out))
 go_wp2_with fail
 refine hcall.out.mono ?_
 clear hcall
 rintro e wn ⟨rfl, hSn⟩
 have HTi := zH (HT.out.trans hSn)
 clear hSn HT
 have HT := HTi
 clear HTi
 clear y0
 obtain ⟨c, hc⟩ : ∃ c, c = forecastsC l := ⟨_, rfl⟩
 rw [← hc]
 by_cases h0 : c = 0
 rotate_left
 ·have hd : (c != 0) = true := by simpa using h0
  have HR := zH (show readC l rs = c by unfold readC; rw [← hc, if_neg h0])
  clear h0 hc
  go_wp2
  go_ret
  exact ⟨by rw [HR.out]; rfl, HS.out.trans HT.out⟩
 subst h0
 have HF := zH hc.symm
 have HN := zH (hoursN_le hc.symm)
 have HL := zH (few_parts (forecasts_ok hc.symm).1)
 have HR0 := zH (show readC l rs = readingsC l rs by unfold readC; rw [← hc, if_pos rfl])
 clear hc
 by_cases a1 : rs.length ≤ 60
 rotate_left
 ·have hd : decide (60 < (rs.length : Int)) = true := decide_eq_true (by omega)
  have HR := zH (show readC l rs = 3 by rw [HR0.out]; unfold readingsC; rw [if_neg a1])
  clear a1
  go_wp2
  go_ret
  exact ⟨by rw [HR.out]; rfl, HS.out.trans HT.out⟩
 have hd : decide (60 < (rs.length : Int)) = false := decide_eq_false (by omega)
 have HA := zH a1
 clear a1
 have hcall := zH (all_rd1 l _ rs _ _ _ (SL.go HV.out HT.out) HL.out.1 HN.out.2 ((HB.out.step HT.out).cell 0) (SL.go HU.out HT.out))
 go_wp2_with fail
 refine hcall.out.mono ?_
 clear hcall
 rintro e wn ⟨rfl, hSn⟩
 have HTi := zH (HT.out.trans hSn)
 clear hSn HT
 have HT := HTi
 clear HTi
 clear hd
 cases q : rs.all fun x => withinB x.hour 0 ((hoursN l : Int) - 1) with
 | false =>
  have HR := zH (show readC l rs = 2 by rw [HR0.out]; unfold readingsC; rw [if_pos HA.out, q]; rfl)
  clear q
  go_wp2
  go_ret
  exact ⟨by rw [HR.out]; rfl, HS.out.trans HT.out⟩
 | true =>
 have HQ := zH q
 clear q
 have hcall := zH (all_rd2 rs _ _ (SL.go HU.out HT.out))
 go_wp2_with fail
 refine hcall.out.mono ?_
 clear hcall
 rintro e wn ⟨rfl, hSn⟩
 have HTi := zH (HT.out.trans hSn)
 clear hSn HT
 have HT := HTi
 clear HTi
 cases q : rs.all fun x => rangeB ⟨x.lo, x.hi⟩ with
 | false =>
  have HR := zH (show readC l rs = 1 by rw [HR0.out]; unfold readingsC; rw [if_pos HA.out, if_pos HQ.out, q]; rfl)
  clear q
  go_wp2
  go_ret
  exact ⟨by rw [HR.out]; rfl, HS.out.trans HT.out⟩
 | true =>
  have HR := zH (show readC l rs = 0 by rw [HR0.out]; unfold readingsC; rw [if_pos HA.out, if_pos HQ.out, q]; rfl)
  clear q
  go_wp2
  go_ret
  exact ⟨by rw [HR.out]; rfl, HS.out.trans HT.out⟩
theorem hit_any (f : Fc) (x : Rdg) (b : Nat) (p : Option Addr) (c : Nat) (w : World) (hb : Bx w b [.string f.name, .slice p f.hours.length c] 117) (hs : SL (fun _ => False) w (.slice p f.hours.length c) f.hours) (hh : 0 ≤ x.hour ∧ x.hour < f.hours.length) :
  Calls Try.prog 85 #[.agg #[.int .i64 x.hour, .int .i64 x.lo, .int .i64 x.hi], .pointer (some ⟨b, 0, none⟩)] w fun e w' => e = .returned (.bool (hitsB f x)) ∧ Step w w' := by
 obtain ⟨xa, xb, xc⟩ := x
 dsimp only at hh ⊢
 obtain ⟨k, rfl⟩ : ∃ k : Nat, xa = k := ⟨xa.toNat, by omega⟩
 have hk : k < f.hours.length := by omega
 obtain ⟨p', c', b', o', he, _, _, hpp, hc, hbl⟩ := hs.rngs
 have zl := (hbl (by omega)).1
 have yl := hb.lt
 injection he with he1 he2 he3
 subst he1 he3
 obtain rfl := hpp (by omega)
 obtain ⟨e1, e2⟩ := hc k hk
 have HR := zH (show hitsB f ⟨(k : Int), xb, xc⟩ = (decide (xc < f.hours[k].lo) || decide (f.hours[k].hi < xb)) by
  unfold hitsB hourAt
  rw [Int.toNat_natCast, List.getD_eq_getElem?_getD, List.getElem?_eq_getElem hk]; rfl)
 obtain ⟨r, hr⟩ : ∃ r, r = f.hours[k] := ⟨_, rfl⟩
 rw [← hr] at e1 e2 HR
 obtain ⟨ra, rb⟩ := r
 dsimp only at e1 e2 HR
 have g1 := hb.cell 1
 simp only [zD, zE] at g1
 clear hr hc hpp he2 hs hb hbl
 by_cases a1 : xc < ra
 ·have d1 : decide (xc < ra) = true := decide_eq_true a1
  have HN := zH (show hitsB f ⟨(k : Int), xb, xc⟩ = true by rw [HR.out, d1]; rfl)
  clear a1
  go_enter Try.func85, Try.ntmps85
  go_wp2
  go_ret
  exact ⟨by rw [HN.out]; rfl, (by with_reducible repeat (first | assumption | exact Step.refl _ | apply Step.s_alloc | apply Step.s_drew | apply Step.s_drewN | refine Step.trans ?_ (by assumption)))⟩
 ·have d1 : decide (xc < ra) = false := decide_eq_false a1
  by_cases a2 : rb < xb
  ·have d2 : decide (rb < xb) = true := decide_eq_true a2
   have HN := zH (show hitsB f ⟨(k : Int), xb, xc⟩ = true by rw [HR.out, d1, d2]; rfl)
   clear a1 a2
   go_enter Try.func85, Try.ntmps85
   go_wp2
   go_ret
   exact ⟨by rw [HN.out]; rfl, (by with_reducible repeat (first | assumption | exact Step.refl _ | apply Step.s_alloc | apply Step.s_drew | apply Step.s_drewN | refine Step.trans ?_ (by assumption)))⟩
  ·have d2 : decide (rb < xb) = false := decide_eq_false a2
   have HN := zH (show hitsB f ⟨(k : Int), xb, xc⟩ = false by rw [HR.out, d1, d2]; rfl)
   clear a1 a2
   go_enter Try.func85, Try.ntmps85
   go_wp2
   go_ret
   exact ⟨by rw [HN.out]; rfl, (by with_reducible repeat (first | assumption | exact Step.refl _ | apply Step.s_alloc | apply Step.s_drew | apply Step.s_drewN | refine Step.trans ?_ (by assumption)))⟩
theorem struck_any (f : Fc) (rs : List Rdg) (u v : Value) (w : World) (hu : AV (fun _ => False) w u f) (hv : SL (fun _ => False) w v rs) (hh : ∀ x ∈ rs, 0 ≤ x.hour ∧ x.hour < f.hours.length) :
  Calls Try.prog 51 #[u, v] w fun e w' => e = .returned (.int .i64 (idxOf (hitsB f) rs)) ∧ Step w w' := by
 obtain ⟨c1, rfl, h1, _⟩ := hu.fc
 obtain ⟨p, c, rfl⟩ := h1.form
 obtain ⟨W0, hW0⟩ : ∃ W, W = w.alloc (.cells #[.string f.name, .slice p f.hours.length c] 117) := ⟨_, rfl⟩
 have hS : Step w W0 := by subst hW0; exact Step.alloc _ _
 have hbx : Bx W0 w.heap.size [.string f.name, .slice p f.hours.length c] 117 := by subst hW0; exact Bx.new w [_, _] _
 have hcall := zH (indexFunc_rdg (fun _ => False) rs v W0 85 #[.pointer (some ⟨w.heap.size, 0, none⟩)] (Go.Proofs.enters_of Try.func85 (by kernel_rfl) rfl) (hitsB f) (fun _ W => Step W0 W)
  (fun _ W hW => SL.go hv (hS.trans hW)) (Step.refl _) (fun i hi W u hW _ hu => by
   subst hu
   refine (hit_any f rs[i] _ p c W (hbx.step hW) (SL.go h1 (hS.trans hW)) (hh _ (List.getElem_mem hi))).mono ?_
   rintro e w' ⟨rfl, hs⟩
   exact ⟨rfl, hW.trans hs⟩))
 have HW := zH hW0
 have HS := zH hS
 obtain ⟨pv, cv, rfl⟩ := hv.form
 clear hW0 hS hbx hu hv h1 hh
 go_enter Try.func51, Try.ntmps51
 go_wp2_with fail
 rw [← HW.out]
 refine hcall.out.mono ?_
 rintro e w1 ⟨rfl, k, _, _, hS1⟩
 clear hcall
 go_wp2
 go_ret
 exact ⟨rfl, HS.out.trans hS1⟩
def strikesTo (l : List Fc) (rs : List Rdg) (k : Nat) : List Vec := (List.range k).filterMap fun (i : Nat) => match l[i]? with
 | some f => if rs.any (hitsB f) then some ⟨(i : Int), idxOf (hitsB f) rs⟩ else none
 | none => none
theorem left_next {l : List Fc} {rs : List Rdg} {k : Nat} (hk : k < l.length) : leftI l rs (k + 1) = leftI l rs k ++ (if rs.any (hitsB l[k]) = true then [] else [(k : Int)]) := by
 unfold leftI leftN
 rw [List.range_succ, List.filter_append, List.map_append]
 congr 1
 cases q : rs.any (hitsB l[k]) <;> simp only [List.filter_cons, List.filter_nil, List.getElem?_eq_getElem hk, q, Bool.not_true, Bool.not_false, if_true, if_false, List.map_cons, List.map_nil, Bool.false_eq_true]
theorem strikes_next {l : List Fc} {rs : List Rdg} {k : Nat} (hk : k < l.length) : strikesTo l rs (k + 1) = strikesTo l rs k ++ (if rs.any (hitsB l[k]) = true then [(⟨(k : Int), idxOf (hitsB l[k]) rs⟩ : Vec)] else []) := by
 unfold strikesTo
 rw [List.range_succ, List.filterMap_append]
 congr 1
 cases q : rs.any (hitsB l[k]) <;> simp only [List.filterMap_cons, List.filterMap_nil, List.getElem?_eq_getElem hk, q, if_true, if_false, Bool.false_eq_true]
theorem left_len (l : List Fc) (rs : List Rdg) (k : Nat) : (leftI l rs k).length ≤ k := by
 unfold leftI leftN
 rw [List.length_map]
 exact Nat.le_trans (List.length_filter_le _ _) (Nat.le_of_eq List.length_range)
theorem strikes_len (l : List Fc) (rs : List Rdg) (k : Nat) : (strikesTo l rs k).length ≤ k := by
 unfold strikesTo
 exact Nat.le_trans (List.length_filterMap_le _ _) (Nat.le_of_eq List.length_range)
theorem infoStrike : (Try.prog.info? 45).map (fun i => (i.zero, i.size, i.bytes)) = some (some (.agg #[.int .i64 0, .int .i64 0]), 2, 16) := by kernel_rfl
theorem eiStrikes : EI Try.prog 27 45 (.agg #[.int .i64 0, .int .i64 0]) 2 16 := .mk' Try.underlying27 infoStrike rfl
theorem own_own {α β : Type} [Rep α] [Rep β] {S S' : Nat → Prop} {base base' : Nat} {e e' : TypeId} {w : World} {v u : Value} {l : List α} {m : List β} (h : OwnL S base e w v l) (h' : OwnL S' base' e' w u m) (hne : e ≠ e') : ∀ g, v.ownBlock = some g → u.ownBlock ≠ some g := by
 obtain ⟨xs, ⟨_, ho⟩, _⟩ := h
 obtain ⟨ys, ⟨_, ho'⟩, _⟩ := h'
 intro g hg hg'
 rcases ho with ⟨rfl, _⟩ | ⟨g1, cap, cur, rfl, _, hb, _⟩
 ·simp [Value.ownBlock] at hg
 rcases ho' with ⟨rfl, _⟩ | ⟨g2, cap', cur', rfl, _, hb', _⟩
 ·simp [Value.ownBlock] at hg'
 simp [Value.ownBlock] at hg hg'
 subst hg hg'
 rw [hb] at hb'
 injection hb' with hb'
 injection hb' with _ h2 _
 exact hne h2
theorem read_hours {l : List Fc} {rs : List Rdg} (h : readC l rs = 0) : forecastsC l = 0 ∧ rs.length ≤ 60 ∧ ∀ k (hk : k < l.length), ∀ x ∈ rs, 0 ≤ x.hour ∧ x.hour < l[k].hours.length := by
 unfold readC at h
 split at h
 ·rename_i h0
  unfold readingsC at h
  split at h
  ·rename_i h1
   split at h
   ·rename_i h2
    refine ⟨h0, h1, fun k hk x hx => ?_⟩
    have := List.all_eq_true.1 h2 x hx
    have he := (even_parts (forecasts_ok h0).2.1 _ (List.getElem_mem hk)).2.1
    simp only [withinB, Bool.and_eq_true, decide_eq_true_eq] at this
    omega
   ·simp at h
  ·simp at h
 ·rename_i h0; exact absurd h h0
end Go.Proofs.Ytfhmdpicoccnfaa
