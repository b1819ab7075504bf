/- Walks and plain laws, part f. -/
import Derived.Test.YtgpiieogiafdoaaMa
import Derived.Test.YtgpiieogiafdoaaMb
import Derived.Test.YtgpiieogiafdoaaMc
import Derived.Test.YtgpiieogiafdoaaMe
import Derived.Test.YtgpiieogiafdoaaRows
import Derived.BigQuiet
import Derived.Deep.AppendLies
import Derived.Deep.DeepCutAuto
import Derived.Deep.QuietTactic
import Derived.Deep.RegionHeld3
import Derived.Defers
import Derived.Laws.MakeOwn
import Derived.Laws.OwnMore
import Derived.Laws.Pointers
import Derived.Laws.StructEq
import Derived.Lib.Hide
import Derived.LoopIn
import Derived.LoopNIn
import Derived.OwnWalkIn
import Derived.RangeFuncBound
import Derived.RangeFuncCalls
import Derived.RangeFuncLeaves
import Derived.RangeFuncNested
import Derived.Recover
import Derived.Shelf.Abstract
import Derived.Shelf.RegionOpen
import Derived.TacticsInMore
import Derived.WalkKit
import Derived.WalkLawsBesides
import Derived.WalkSmall
import Derived.WalkSpells
import Derived.WideKeyRuns
/- Counts: a row of counts in memory; the counts of a book. -/
namespace Go.Proofs.Ytgpiieogiafdoaa
set_option linter.unusedSimpArgs false
set_option linter.unusedVariables false
open Go.RowKit Go.BT

/-- The cells of a row of counts. -/
def cellsC (l : List Count) : List Value := l.flatMap fun c => [.int .i64 c.free, .int .i64 c.sold]
theorem cellsC_cons (c : Count) (l : List Count) : cellsC (c :: l) = .int .i64 c.free :: .int .i64 c.sold :: cellsC l := rfl
theorem cellsC_len : ∀ l : List Count, (cellsC l).length = l.length * 2
  | [] => rfl
  | c :: l => by rw [cellsC_cons, List.length_cons, List.length_cons, cellsC_len l, List.length_cons]; omega
theorem cellsC_drop : ∀ (l : List Count) (i : Nat) (hi : i < l.length), (cellsC l).drop (i * 2) = .int .i64 l[i].free :: .int .i64 l[i].sold :: cellsC (l.drop (i + 1))
  | [], i, hi => by simp at hi
  | c :: l, 0, _ => by simp [cellsC_cons]
  | c :: l, i + 1, hi => by
    rw [cellsC_cons, show (i + 1) * 2 = i * 2 + 1 + 1 by omega, List.drop_succ_cons, List.drop_succ_cons, cellsC_drop l i (by simpa using hi)]
    simp
theorem cellsC_get0 {l : List Count} {i : Nat} (hi : i < l.length) : (cellsC l)[i * 2]? = some (.int .i64 l[i].free) := by
  have := cellsC_drop l i hi
  rw [← List.head?_drop, this]; rfl
theorem cellsC_get1 {l : List Count} {i : Nat} (hi : i < l.length) : (cellsC l)[i * 2 + 1]? = some (.int .i64 l[i].sold) := by
  have := cellsC_drop l i hi
  rw [show (cellsC l)[i * 2 + 1]? = ((cellsC l).drop (i * 2))[1]? by rw [List.getElem?_drop], this]; rfl
theorem cellsC_set0 : ∀ (l : List Count) (i : Nat) (hi : i < l.length) (x : Int), (cellsC l).set (i * 2) (.int .i64 x) = cellsC (l.set i ⟨x, l[i].sold⟩)
  | [], i, hi, _ => by simp at hi
  | c :: l, 0, _, x => by simp [cellsC_cons]
  | c :: l, i + 1, hi, x => by
    rw [cellsC_cons, show (i + 1) * 2 = i * 2 + 1 + 1 by omega, List.set_cons_succ, List.set_cons_succ, cellsC_set0 l i (by simpa using hi) x, List.set_cons_succ, cellsC_cons]
    simp
theorem cellsC_set1 : ∀ (l : List Count) (i : Nat) (hi : i < l.length) (x : Int), (cellsC l).set (i * 2 + 1) (.int .i64 x) = cellsC (l.set i ⟨l[i].free, x⟩)
  | [], i, hi, _ => by simp at hi
  | c :: l, 0, _, x => by simp [cellsC_cons]
  | c :: l, i + 1, hi, x => by
    rw [cellsC_cons, show (i + 1) * 2 + 1 = (i * 2 + 1) + 1 + 1 by omega, List.set_cons_succ, List.set_cons_succ, cellsC_set1 l i (by simpa using hi) x, List.set_cons_succ, cellsC_cons]
    simp
theorem cellsC_zero : ∀ n, cellsC (List.replicate n ⟨0, 0⟩) = List.replicate (n * 2) (.int .i64 0)
  | 0 => rfl
  | n + 1 => by rw [List.replicate_succ, cellsC_cons, cellsC_zero n, show (n + 1) * 2 = n * 2 + 1 + 1 by omega, List.replicate_succ, List.replicate_succ]
theorem madeCells_count (n : Nat) : madeCells (Value.agg #[.int .i64 0, .int .i64 0]).cells (n * 2) = (cellsC (List.replicate n ⟨0, 0⟩)).toArray := by
  rw [cellsC_zero]
  apply Array.ext
  · simp [size_madeCells]
  · intro i h1 h2
    have h3 : i % 2 = 0 ∨ i % 2 = 1 := by omega
    rcases h3 with h3 | h3 <;> simp [madeCells, Value.cells, h3]
theorem _root_.Go.BT.SL.bx_counts {S : Nat → Prop} {w : World} {g : Nat} {T : TypeId} {l : List Count} (h : Bx w g (cellsC l) T) (hs : ¬ S g) (c : Nat) (hc : l.length ≤ c) (hm : l.length ≤ 9223372036854775807) : SL S w (.slice (some ⟨g, 0, none⟩) l.length c) l := by
  refine SL.bx h hs c hc hm fun i hi => ?_
  show ((cellsC l).drop (i * 2)).take 2 = [_, _]
  rw [cellsC_drop l i hi]
  rfl
/-- make([]Count, n). -/
theorem wpl_make2 {P : Program} {w : World} {ops : Array Oper} {rest : List Oper} {o : Oper} {a : Act} {Q : Exit → Act → World → Prop} {t e : TypeId} {bytes : Nat} (ei : EI P t e (.agg #[.int .i64 0, .int .i64 0]) 2 bytes) (hg : o.guard = none) (l c : Operand) (hop : o.op = Op.makeSlice t l c)
    (kl kc : IntKind) (n : Nat) (hl : a.eval l = .int kl n) (hc : a.eval c = .int kc n) (hn : n ≤ 9223372036854775807) (hb : bytes * n ≤ 281474976710656)
    (hK : wpList P ops Q rest (a.put o.dst (.slice (some ⟨w.heap.size, 0, none⟩) n n)) (w.alloc (.cells (cellsC (List.replicate n ⟨0, 0⟩)).toArray e))) : wpList P ops Q (o :: rest) a w := by
  obtain ⟨h1, _, i, hi, h2, h3, h4⟩ := ei
  refine wpList_plain hg fun K hK' => ?_
  subst h4
  have hb' : (i.bytes : Int) * (n : Int) ≤ 281474976710656 := by
    have h : ((i.bytes * n : Nat) : Int) ≤ 281474976710656 := by omega
    rwa [Int.natCast_mul] at h
  have hr := run_make (P := P) w t e i _ h1 hi h2 kl kc n n (by omega) (Int.le_refl _) hb' (by omega)
  simp only [Int.toNat_natCast, h3, madeCells_count n] at hr
  unfold Oper.wp
  simp [execOp, hop, hl, hc, hr, Result.andThen]
  exact hK' _ _ hK

def cntW (b : Book) (s : Int) (p : Int → Bool) (l : List Nat) : Int := ((l.filter fun (k : Nat) => p (seatAt b s k)).length : Int)
def isF (x : Int) : Bool := decide (x = 0)
def isS (x : Int) : Bool := decide (0 < x)
def rowC (h : House) (b : Book) (s : Int) (L : Int → List Nat) : List Count := (List.range h.prices.length).map fun (c : Nat) => ⟨cntW b s isF (L c), cntW b s isS (L c)⟩
def countsL (h : House) (b : Book) : List (List Count) := (List.range h.dates.length).map fun (s : Nat) => rowC h b s (ofL h)
theorem cntW_bound (b : Book) (s : Int) (p : Int → Bool) (l : List Nat) : 0 ≤ cntW b s p l ∧ cntW b s p l ≤ l.length := by
  unfold cntW
  have := List.length_filter_le (fun (k : Nat) => p (seatAt b s k)) l
  omega
theorem cntW_snoc (b : Book) (s : Int) (p : Int → Bool) (l : List Nat) (k : Nat) : cntW b s p (l ++ [k]) = cntW b s p l + if p (seatAt b s k) = true then 1 else 0 := by
  unfold cntW
  rw [List.filter_append, List.length_append]
  by_cases q : p (seatAt b s k) = true <;> simp [q]
theorem rowC_len (h : House) (b : Book) (s : Int) (L : Int → List Nat) : (rowC h b s L).length = h.prices.length := by simp [rowC]
theorem rowC_get {h : House} {b : Book} {s : Int} {L : Int → List Nat} {c : Nat} (hc : c < (rowC h b s L).length) : (rowC h b s L)[c] = ⟨cntW b s isF (L c), cntW b s isS (L c)⟩ := by simp [rowC]
theorem rowC_zero (h : House) (b : Book) (s : Int) : rowC h b s (fun c => ofB h c 0) = List.replicate h.prices.length ⟨0, 0⟩ := by
  apply List.ext_getElem
  · simp [rowC]
  · intro i h1 h2
    rw [rowC_get, List.getElem_replicate]
    rfl
theorem rowC_step {h : House} {b : Book} {s : Int} {k c : Nat} (hk : classL h.sectors k = (c : Int)) (hc : c < h.prices.length) :
    (rowC h b s (fun c => ofB h c k)).set c ⟨cntW b s isF (ofB h c k) + (if isF (seatAt b s k) = true then 1 else 0), cntW b s isS (ofB h c k) + (if isS (seatAt b s k) = true then 1 else 0)⟩ = rowC h b s (fun c => ofB h c (k + 1)) := by
  apply List.ext_getElem
  · simp [rowC]
  · intro i h1 h2
    rw [List.getElem_set, rowC_get]
    split
    · next he =>
      subst he
      rw [rowC_get, ofB_hit hk, cntW_snoc, cntW_snoc]
    · next hne =>
      rw [rowC_get, ofB_miss (h := h) (c := (i : Int)) (k := k) (by rw [hk]; omega)]
theorem rowC_keep {h : House} {b : Book} {s : Int} {k : Nat} (h1 : isF (seatAt b s k) = false) (h2 : isS (seatAt b s k) = false) : rowC h b s (fun c => ofB h c (k + 1)) = rowC h b s (fun c => ofB h c k) := by
  apply List.ext_getElem
  · simp [rowC]
  · intro i h3 h4
    rw [rowC_get, rowC_get]
    by_cases q : classL h.sectors k = (i : Int)
    · rw [ofB_hit q, cntW_snoc, cntW_snoc, h1, h2]; simp
    · rw [ofB_miss q]
end Go.Proofs.Ytgpiieogiafdoaa
/- Ranges over functions within a loop: the marks that they leave among the deferred calls; make within the fence. -/
namespace Go.Proofs.Ytgpiieogiafdoaa
set_option linter.unusedSimpArgs false
set_option linter.unusedVariables false
open Go.RowKit Go.BT

def markD (D : Nat) : Deferred := { target := .collected D, args := #[] }
/-- The marks of finished ranges over functions: their blocks lie at or behind B, each once, with nothing collected. -/
def Marks (B : Nat) (Ds : List Nat) (w : World) : Prop := Ds.Nodup ∧ ∀ D ∈ Ds, B ≤ D ∧ w.heap[D]? = some (.deferred (some []))
theorem Marks.nil (B : Nat) (w : World) : Marks B [] w := ⟨List.nodup_nil, by simp⟩
theorem Marks.cons {B D : Nat} {Ds : List Nat} {w : World} (h : Marks B Ds w) (hD : B ≤ D) (hn : D ∉ Ds) (hw : w.heap[D]? = some (.deferred (some []))) : Marks B (D :: Ds) w :=
  ⟨List.nodup_cons.2 ⟨hn, h.1⟩, fun x hx => by
    rcases List.mem_cons.1 hx with rfl | hx
    · exact ⟨hD, hw⟩
    · exact h.2 x hx⟩
theorem Marks.lt {B : Nat} {Ds : List Nat} {w : World} (h : Marks B Ds w) {D : Nat} (hD : D ∈ Ds) : D < w.heap.size := (Array.getElem?_eq_some_iff.1 (h.2 D hD).2).1
theorem Marks.step {B : Nat} {Ds : List Nat} {w w' : World} (h : Marks B Ds w) (hs : Step w w') : Marks B Ds w' :=
  ⟨h.1, fun D hD => ⟨(h.2 D hD).1, (hs.block D (h.lt hD) id).trans (h.2 D hD).2⟩⟩
theorem Marks.keep {B : Nat} {Ds : List Nat} {w w' : World} {X : Nat → Prop} (h : Marks B Ds w) (hs : StepX X w w') (hX : ∀ D ∈ Ds, ¬ X D) : Marks B Ds w' :=
  ⟨h.1, fun D hD => ⟨(h.2 D hD).1, (hs.block D (h.lt hD) (hX D hD)).trans (h.2 D hD).2⟩⟩
theorem putObj_stepX (w : World) (D : Nat) (o : Obj) : StepX (fun j => j = D) w (w.putObj D o) := by
  have hg := grownBy_putObj' w D o
  exact ⟨hg.os, hg.tape, hg.output, hg.size, fun k hk hn => hg.block k hk (fun e => hn (by cases e; rfl))⟩
/-- A function leaves, with marks alone among its deferred calls. -/
theorem leaves_marks {F : Fence} {n : Nat} {P : Program} {fn : Func} {tmps : Array Value} {R : Ending → World → Prop} {B : Nat} : ∀ (Ds : List Nat) (w : World), Marks B Ds w →
    (∀ w', StepX (fun j => B ≤ j ∧ j ∈ Ds) w w' → ∃ v, (results fn tmps).run P w' = .ok v w' ∧ R (.returned v) w') → LeavesInM F n P fn tmps R (Ds.map markD) .returning w
  | [], w, _, h => h w (StepX.refl _ _)
  | D :: Ds, w, hm, h => by
    obtain ⟨hD, hw⟩ := hm.2 D (by simp)
    have hn := (List.nodup_cons.1 hm.1)
    refine ⟨by simp, .inl ⟨D, _, rfl, run_takeDeferred hw, ?_⟩⟩
    have hp := putObj_stepX w D (.deferred none)
    refine leaves_marks Ds _ ⟨hn.2, fun x hx => ⟨(hm.2 x (by simp [hx])).1, ?_⟩⟩ fun w' hs => h w' ((hp.mono fun j _ hj => ?_).trans (hs.mono fun j _ hj => ?_))
    · exact (hp.block x (hm.lt (by simp [hx])) (fun e => hn.1 (e ▸ hx))).trans (hm.2 x (by simp [hx])).2
    · subst hj; exact ⟨hD, by simp⟩
    · exact ⟨hj.1, by simp [hj.2]⟩
/-- make([]Count, n) within the fence. -/
theorem wplI_make2 {P : Program} {w : World} {ops : Array Oper} {rest : List Oper} {o : Oper} {a : Act} {Q : Exit → Act → World → Prop} {t e : TypeId} {bytes : Nat} {ro : Option Nat} {nn : Nat} (ei : EI P t e (.agg #[.int .i64 0, .int .i64 0]) 2 bytes) (hg : o.guard = none) (l c : Operand) (hop : o.op = Op.makeSlice t l c)
    (kl kc : IntKind) (n : Nat) (hl : a.eval l = .int kl n) (hc : a.eval c = .int kc n) (hn : n ≤ 9223372036854775807) (hb : bytes * n ≤ 281474976710656)
    (hK : wpListIn (FW ro) nn P ops Q rest (a.put o.dst (.slice (some ⟨w.heap.size, 0, none⟩) n n)) (w.alloc (.cells (cellsC (List.replicate n ⟨0, 0⟩)).toArray e))) : wpListIn (FW ro) nn P ops Q (o :: rest) a w := by
  obtain ⟨h1, _, i, hi, h2, h3, h4⟩ := ei
  subst h4
  have hb' : (i.bytes : Int) * (n : Int) ≤ 281474976710656 := by
    have h : ((i.bytes * n : Nat) : Int) ≤ 281474976710656 := by omega
    rwa [Int.natCast_mul] at h
  have hr := run_make (P := P) w t e i _ h1 hi h2 kl kc n n (by omega) (Int.le_refl _) hb' (by omega)
  simp only [Int.toNat_natCast, h3, madeCells_count n] at hr
  have hw : Region.wanted o (yielded ops a.tmps) = true := by simp [Region.wanted, hg]
  have hsem : o.semAt (FW ro).round a.eval = execOp a.eval o := by
    unfold Oper.semAt
    cases ro with
    | none => rfl
    | some l => simp [hop]
  unfold wpListIn
  rw [if_pos hw]
  refine ⟨fun f _ => trivial, ?_⟩
  rw [hsem]
  simp [execOp, hop, hl, hc, hr, Result.andThen]
  exact hK
end Go.Proofs.Ytgpiieogiafdoaa
/- Walks: the program's Counts. (Under way.) -/
namespace Go.Proofs.Ytgpiieogiafdoaa
set_option linter.unusedSimpArgs false
set_option linter.unusedVariables false
open Go.RowKit Go.BT
attribute [local go_sem] Oper.semAt_some

def countsR (h : House) (b : Book) : List (List Count) := if checkR h b = 0 then countsL h b else []
theorem infoCount : (Try.prog.info? 68).map (fun i => (i.zero, i.size, i.bytes)) = some (some (.agg #[.int .i64 0, .int .i64 0]), 2, 16) := by kernel_rfl
theorem eiCount : EI Try.prog 66 68 (.agg #[.int .i64 0, .int .i64 0]) 2 16 := .mk' Try.underlying66 infoCount rfl
theorem infoCounts : (Try.prog.info? 66).map (fun i => (i.zero, i.size, i.bytes)) = some (some (.slice none 0 0), 1, 24) := by kernel_rfl
theorem eiCounts : EI Try.prog 63 66 (.slice none 0 0) 1 24 := .mk' Try.underlying63 infoCounts rfl
theorem prices5 {h : House} (hv : valid h = true) : h.prices.length ≤ 5 := by
  simp only [valid, validA, validB, Bool.and_eq_true, withinB, decide_eq_true_eq] at hv
  omega
def rowP (h : House) (b : Book) (s : Int) (c : Nat) : List Count := (List.range h.prices.length).map fun (i : Nat) => if i < c then ⟨cntW b s isF (ofL h i), cntW b s isS (ofL h i)⟩ else ⟨0, 0⟩
theorem rowP_len (h : House) (b : Book) (s : Int) (c : Nat) : (rowP h b s c).length = h.prices.length := by simp [rowP]
theorem rowP_zero (h : House) (b : Book) (s : Int) : rowP h b s 0 = List.replicate h.prices.length ⟨0, 0⟩ := by
  apply List.ext_getElem
  · simp [rowP]
  · intro i h1 h2; simp [rowP]
theorem rowP_full (h : House) (b : Book) (s : Int) : rowP h b s h.prices.length = rowC h b s (ofL h) := by
  apply List.ext_getElem
  · simp [rowP, rowC]
  · intro i h1 h2
    rw [rowP_len] at h1
    simp [rowP, rowC, h1]
theorem rowP_step (h : House) (b : Book) (s : Int) {c : Nat} (hc : c < h.prices.length) : (rowP h b s c).set c ⟨cntW b s isF (ofL h c), cntW b s isS (ofL h c)⟩ = rowP h b s (c + 1) := by
  apply List.ext_getElem
  · simp [rowP]
  · intro i h1 h2
    rw [List.getElem_set]
    split
    · next he => subst he; simp [rowP]
    · next hne =>
      simp only [rowP, List.getElem_map, List.getElem_range]
      by_cases h3 : i < c
      · rw [if_pos h3, if_pos (by omega)]
      · rw [if_neg h3, if_neg (by omega)]
theorem rowP_same (h : House) (b : Book) (s : Int) {c : Nat} (hc : c < h.prices.length) : (rowP h b s c).set c ⟨0, 0⟩ = rowP h b s c := by
  apply List.ext_getElem
  · simp
  · intro i h1 h2
    rw [List.getElem_set]
    split
    · next he => subst he; simp [rowP]
    · rfl
/-- Between two rounds of the range over the seats of a class. -/
def CountI (w0 : World) (gl : Nat) (R : List Count) (c : Nat) {h : House} (b : Book) (s : Int) (pre : List (SeatNo h)) (W : World) : Prop :=
  Bx W gl (cellsC (R.set c ⟨cntW b s isF (seatsOf pre), cntW b s isS (seatsOf pre)⟩)) 68 ∧ StepX (fun j => j = gl ∨ w0.heap.size ≤ j) w0 W
theorem CountI.own {w0 : World} {gl : Nat} {R : List Count} {c : Nat} {h : House} {b : Book} {s : Int} : OwnFrom w0.heap.size (CountI w0 gl R c (h := h) b s) := by
  intro pre A B row ⟨h1, h3⟩ hg hr
  have h4 : ∀ g, (∃ (cs : Array Value) (T : TypeId) (f : Nat × Nat), A.heap[g]? = some (Obj.cells cs T f)) → B.heap[g]? = A.heap[g]? := fun g hcs => by
    obtain ⟨cs, T, f, hc⟩ := hcs
    refine hg.block g (Array.getElem?_eq_some_iff.1 hc).1 fun e => ?_
    obtain ⟨_, o, ho, hn⟩ := hr g e.symm
    rw [hc] at ho
    obtain rfl := Option.some.inj ho
    simp [Obj.isCells] at hn
  refine ⟨?_, h3.trans ⟨hg.os, hg.tape, hg.output, hg.size, fun k hk hn => hg.block k hk fun e => hn (.inr (hr k e.symm).1)⟩⟩
  unfold Bx at *; rw [h4 gl ⟨_, _, _, h1⟩]; exact h1
theorem cellsC_up0 {R : List Count} {c : Nat} (hc : c < R.length) (x y x' : Int) : (cellsC (R.set c ⟨x, y⟩)).set (c * 2) (.int .i64 x') = cellsC (R.set c ⟨x', y⟩) := by
  rw [cellsC_set0 _ c (by rw [List.length_set]; exact hc)]; simp [List.set_set]
theorem cellsC_up1 {R : List Count} {c : Nat} (hc : c < R.length) (x y y' : Int) : (cellsC (R.set c ⟨x, y⟩)).set (c * 2 + 1) (.int .i64 y') = cellsC (R.set c ⟨x, y'⟩) := by
  rw [cellsC_set1 _ c (by rw [List.length_set]; exact hc)]; simp [List.set_set]
theorem count_free {R : List Count} {c : Nat} {h : House} {b : Book} {s : Int} {pre : List (SeatNo h)} {k : Nat} {hk : (k : Int) < sizeL h.sectors} (hc : c < R.length) (hf : seatAt b s k = 0) :
    (cellsC (R.set c ⟨cntW b s isF (seatsOf pre), cntW b s isS (seatsOf pre)⟩)).set (c * 2) (.int .i64 (cntW b s isF (seatsOf pre) + 1)) = cellsC (R.set c ⟨cntW b s isF (seatsOf (pre ++ [⟨k, hk⟩])), cntW b s isS (seatsOf (pre ++ [⟨k, hk⟩]))⟩) := by
  rw [cellsC_up0 hc, seatsOf_snoc, cntW_snoc, cntW_snoc, hf]; simp [isF, isS]
theorem count_sold {R : List Count} {c : Nat} {h : House} {b : Book} {s : Int} {pre : List (SeatNo h)} {k : Nat} {hk : (k : Int) < sizeL h.sectors} (hc : c < R.length) (hf : 0 < seatAt b s k) :
    (cellsC (R.set c ⟨cntW b s isF (seatsOf pre), cntW b s isS (seatsOf pre)⟩)).set (c * 2 + 1) (.int .i64 (cntW b s isS (seatsOf pre) + 1)) = cellsC (R.set c ⟨cntW b s isF (seatsOf (pre ++ [⟨k, hk⟩])), cntW b s isS (seatsOf (pre ++ [⟨k, hk⟩]))⟩) := by
  have h1 : isF (seatAt b s k) = false := by unfold isF; rw [decide_eq_false_iff_not]; omega
  have h2 : isS (seatAt b s k) = true := by unfold isS; rw [decide_eq_true_eq]; exact hf
  rw [cellsC_up1 hc, seatsOf_snoc, cntW_snoc, cntW_snoc, h1, h2]; simp
theorem count_none {R : List Count} {c : Nat} {h : House} {b : Book} {s : Int} {pre : List (SeatNo h)} {k : Nat} {hk : (k : Int) < sizeL h.sectors} (hf : ¬ seatAt b s k = 0) (hg : ¬ 0 < seatAt b s k) :
    cellsC (R.set c ⟨cntW b s isF (seatsOf pre), cntW b s isS (seatsOf pre)⟩) = cellsC (R.set c ⟨cntW b s isF (seatsOf (pre ++ [⟨k, hk⟩])), cntW b s isS (seatsOf (pre ++ [⟨k, hk⟩]))⟩) := by
  have h1 : isF (seatAt b s k) = false := by unfold isF; rw [decide_eq_false_iff_not]; exact hf
  have h2 : isS (seatAt b s k) = false := by unfold isS; rw [decide_eq_false_iff_not]; exact hg
  rw [seatsOf_snoc, cntW_snoc, cntW_snoc, h1, h2]; simp
theorem _root_.Go.BT.OwnL.unmarked {α : Type} [Rep α] {S : Nat → Prop} {base : Nat} {e : TypeId} {w : World} {v : Value} {l : List α} (h : OwnL S base e w v l) {B : Nat} {ds : List Nat} (hM : Marks B ds w) (g : Nat) (hg : v.ownBlock = some g) : g ∉ ds := fun hs => by
  obtain ⟨xs', hx, _⟩ := h
  rcases hx.2 with ⟨he, _⟩ | ⟨g', cap, cur, he, _, hg', _⟩
  · rw [he] at hg; simp [Value.ownBlock] at hg
  · rw [he] at hg
    simp [Value.ownBlock] at hg
    subst hg
    rw [(hM.2 _ hs).2] at hg'
    simp at hg'
set_option maxRecDepth 100000 in
set_option maxHeartbeats 8000000 in
theorem Counts_any (S : Nat → Prop) (h : House) (b : Book) (v u : Value) (w : World) (hv : AV S w v h) (hu : AV S w u b) :
    Calls Try.prog 18 #[v, u] w fun e w' => ∃ l', e = .returned (.tuple #[l', .int .i64 (checkR h b)]) ∧ SL (Old w) w' l' (countsR h b) ∧ Step w w' := by
  obtain ⟨cs, rfl, hr0⟩ := hv
  have hr := hr0
  obtain ⟨c0, c1, c2, c3, c4, rfl, h0, h1, h2, h3, h4⟩ := hr
  obtain ⟨p0, k0, rfl⟩ := h0.form
  obtain ⟨p1, k1, rfl⟩ := h1.form
  obtain ⟨p2, k2, rfl⟩ := h2.form
  obtain ⟨p3, k3, rfl⟩ := h3.form
  obtain ⟨p4, k4, rfl⟩ := h4.form
  obtain ⟨cs, rfl, hq0⟩ := hu
  have hq := hq0
  obtain ⟨d1, d2, d4, rfl, s1, s2, s4⟩ := hq
  obtain ⟨q1, m1, bs, os, rfl, _, _, hp1, hc1, _⟩ := s1.rows
  obtain ⟨q2, m2, rfl⟩ := s2.form
  obtain ⟨q4, m4, rfl⟩ := s4.form
  obtain ⟨W2, hW2⟩ : ∃ W2, W2 = (w.alloc (.cells #[.slice p0 h.sectors.length k0, .slice p1 h.prices.length k1, .slice p2 h.dates.length k2, .slice p3 h.frm.length k3, .slice p4 h.holds.length k4] 47)).alloc (.cells #[.int .i64 b.agency, .slice q1 b.seats.length m1, .slice q2 b.off.length m2, .int .i64 b.sent, .slice q4 b.took.length m4, .int .i64 b.cash] 39) := ⟨_, rfl⟩
  have hbx : Bx W2 w.heap.size [.slice p0 h.sectors.length k0, .slice p1 h.prices.length k1, .slice p2 h.dates.length k2, .slice p3 h.frm.length k3, .slice p4 h.holds.length k4] 47 := by subst hW2; exact (Bx.new _ _ _).alloc _
  have hb2 : Bx W2 (w.heap.size + 1) [.int .i64 b.agency, .slice q1 b.seats.length m1, .slice q2 b.off.length m2, .int .i64 b.sent, .slice q4 b.took.length m4, .int .i64 b.cash] 39 := by subst hW2; exact Bx.new' _ _ _ _ (by simp)
  have hS : Step w W2 := by subst hW2; exact (by repeat (first | (with_reducible assumption) | (with_reducible exact Step.refl _) | (with_reducible apply Step.s_alloc) | (with_reducible apply Step.s_drew) | (with_reducible apply Step.s_drewN) | (with_reducible refine Step.trans ?_ (by with_reducible assumption))))
  have hz2 : W2.heap.size = w.heap.size + 2 := by subst hW2; simp
  have HB1 := Lib.hid hbx
  have HB2 := Lib.hid hb2
  have HR := Lib.hid (Rep.keep (.of_step hS) hr0)
  have HQ := Lib.hid (Rep.keep (.of_step hS) hq0)
  have HS := Lib.hid hS
  have HZ2 := Lib.hid hz2
  have HP1 := Lib.hid (And.intro hp1 hc1)
  have HT := Lib.hid (Step.refl W2)
  have HW := Lib.hid hW2
  clear hr0 hq0 h0 h1 h2 h3 h4 s1 s2 s4 hp1 hc1 hbx hb2 hS hz2 hW2
  refine callsIn_wide.1 (show CallsIn (FW none) 5 Try.prog 18 _ w _ from ?_)
  refine callsIn_of_wp_marks Try.func18 rfl trivial ?_ rfl
  simp only [Try.ntmps18, List.size_toArray, List.length_cons, List.length_nil, Nat.reduceAdd, Nat.reduceSub, Array.replicate_succ, Array.replicate_zero, List.push_toArray, List.append_toArray, List.nil_append, List.cons_append]
  gi_wp2_with fail
  rw [← HW.out]
  refine (callsIn_FW (check_any S h b _ _ W2 ⟨_, rfl, HR.out⟩ ⟨_, rfl, HQ.out⟩)).mono ?_
  rintro e w1 ⟨rfl, hS1⟩
  have HT := Lib.hid hS1
  clear hS1
  obtain ⟨ck, hck⟩ : ∃ x, x = checkR h b := ⟨_, rfl⟩
  rw [← hck]
  by_cases hc : ck = 0
  rotate_left
  · have hd : (ck != 0) = true := by simpa using hc
    have HF := Lib.hid (show countsR h b = [] by unfold countsR; rw [← hck, if_neg hc])
    have HK := Lib.hid hck
    clear hc hck
    gi_wp2
    refine ⟨_, results_tmp2 rfl _ _ _, _, by rw [← HK.out]; rfl, ?_, HS.out.trans HT.out⟩
    rw [HF.out]; exact SL.nil _ _
  have HF := Lib.hid (show countsR h b = countsL h b by unfold countsR; rw [← hck, if_pos hc])
  have HCK := Lib.hid (hck.symm.trans hc)
  subst hc
  clear hck
  obtain ⟨e0, e1, e2, e3, e4⟩ := cells5 (HB1.out.step HT.out)
  obtain ⟨f0, f1, f2, f3, f4, f5⟩ := cells6 (HB2.out.step HT.out)
  gi_wp2_with fail
  clear e0 e1 e2 e3 e4 f0 f1 f2 f3 f4 f5
  have HBT := Lib.hid (show Below W2.heap.size W2 w1 from HT.out.below)
  have hOD := (okDesk_of HCK.out).1
  obtain ⟨z, hz⟩ : ∃ z : Nat, sizeL h.sectors = z := ⟨(sizeL h.sectors).toNat, by have := size_pos hOD.1; omega⟩
  have hbv := bounds_valid hOD.1
  have hz100 : z ≤ 100 := by omega
  have hz0 : 0 < z := by have := size_pos hOD.1; omega
  have hpl : h.prices.length ≤ 5 := prices5 hOD.1
  have hn1 : 1 ≤ h.dates.length ∧ h.dates.length ≤ 6 := by omega
  have HSL := Lib.hid hOD.2.2.1
  have HO := Lib.hid hOD
  have HZ := Lib.hid hz
  clear hOD hz hbv
  refine wpIn_loop (fun a' wr => ∃ (ds : List Nat) (u0 u1 u4 u5 u6 u7 u8 u9 u10 u11 u12 u13 u14 u15 u16 u17 u18 u19 u22 u23 u24 u25 u26 u27 u28 u29 u30 u31 u32 u33 u34 u35 u36 u37 u38 u39 u40 u41 u42 u43 u44 u45 u46 u47 u48 u49 u50 u51 u52 u53 u54 u55 u56 u57 u58 u59 u60 u61 u62 u63 u64 u65 u66 u67 u68 u69 u70 u71 u72 u73 : Value), (∃ s : Nat, s ≤ h.dates.length ∧ u22 = .int .i64 s ∧ OwnL (fun j => Old W2 j ∨ j ∈ ds) W2.heap.size 66 wr u7 ((countsL h b).take s) ∧ Below W2.heap.size W2 wr ∧ Marks W2.heap.size ds wr) ∧ a' = { tmps := #[u0, u1, .pointer (some ⟨w.heap.size, 0, none⟩), .pointer (some ⟨w.heap.size + 1, 0, none⟩), u4, u5, u6, u7, u8, u9, u10, u11, u12, u13, u14, u15, u16, u17, u18, u19, .slice q1 b.seats.length m1, .int .i64 b.seats.length, u22, u23, u24, u25, u26, u27, u28, u29, u30, u31, u32, u33, u34, u35, u36, u37, u38, u39, u40, u41, u42, u43, u44, u45, u46, u47, u48, u49, u50, u51, u52, u53, u54, u55, u56, u57, u58, u59, u60, u61, u62, u63, u64, u65, u66, u67, u68, u69, u70, u71, u72, u73], defers := ds.map markD }) (fun a' _ => h.dates.length - (intOf (a'.tmps.getD 22 undef)).toNat) ?atStart ?round
  case atStart =>
    refine ⟨[], ?_⟩
    (repeat apply Exists.intro)
    refine ⟨?_, rfl⟩
    exact ⟨0, Nat.zero_le _, rfl, OwnL.nil _ _ _ _, HBT.out, Marks.nil _ _⟩
  case round =>
    intro a' wr hinv
    obtain ⟨ds, u0, u1, u4, u5, u6, u7, u8, u9, u10, u11, u12, u13, u14, u15, u16, u17, u18, u19, u22, u23, u24, u25, u26, u27, u28, u29, u30, u31, u32, u33, u34, u35, u36, u37, u38, u39, u40, u41, u42, u43, u44, u45, u46, u47, u48, u49, u50, u51, u52, u53, u54, u55, u56, u57, u58, u59, u60, u61, u62, u63, u64, u65, u66, u67, u68, u69, u70, u71, u72, u73, ⟨s, hs, rfl, hown, hB, hM⟩, rfl⟩ := hinv
    dsimp only
    obtain ⟨LL, hLL⟩ : ∃ L, L = (countsL h b).take s := ⟨_, rfl⟩
    rw [← hLL] at hown
    have HLL := Lib.hid hLL
    clear hLL
    clear HT HBT
    have HT := Lib.hid (Step.of hB)
    have HO2 := Lib.hid hown
    have HBL := Lib.hid hB
    have HM := Lib.hid hM
    obtain ⟨pu, cu, rfl, _⟩ := hown.form
    clear hown hB hM
    by_cases hlt : s < h.dates.length
    · have his : s < b.seats.length := by have := HSL.out; omega
      have hrow : b.seats[s].length = z := by have := HO.out.2.2.2.1 s his; have := HZ.out; omega
      obtain rfl := HP1.out.1 (by omega)
      obtain ⟨ur, hr1, hr2⟩ := HP1.out.2 s his
      obtain ⟨pr, cr, br, orr, rfl, _, _, hpr, hcr, hbb⟩ := hr2.ints
      have HBRL := Lib.hid ((hbb (by rw [hrow]; exact hz0)).1)
      clear hbb
      obtain rfl := hpr (by rw [hrow]; exact hz0)
      have hcr2 : ∀ j, j < z → w.cell? ⟨br, orr + j, none⟩ = some (.int .i64 (seatAt b s j)) := fun j hjz => by
        rw [hcr j (by rw [hrow]; exact hjz)]
        simp [seatAt, List.getD_eq_getElem?_getD, his, show j < b.seats[s].length by rw [hrow]; exact hjz]
      rw [hrow] at hr1
      have HROW := Lib.hid (And.intro hr1 hcr2)
      have hx2 : (0 : Int) ≤ (s : Int) ∧ (s : Int) < (b.seats.length : Int) := by omega
      clear hrow hr1 hr2 hpr hcr hcr2
      obtain ⟨e0, e1, e2, e3, e4⟩ := cells5 (HB1.out.step HT.out)
      have r1 := (HS.out.trans HT.out).keeps.cell id HROW.out.1
      have y1 := (HB1.out.step HT.out).lt
      gi_wp2_with (gi_at_make; refine wplI_make2 eiCount rfl _ _ rfl .i64 .i64 h.prices.length rfl rfl (by omega) (by omega) ?_)
      clear e0 e1 e2 e3 e4 r1 y1
      obtain ⟨wo, hwo⟩ : ∃ W, W = wr := ⟨_, rfl⟩
      subst hwo
      have HW5 := Lib.hid (show Step wo (((wo.alloc (.cells #[.slice (some ⟨br, orr, none⟩) z cr] 23)).alloc (.cells (cellsC (List.replicate h.prices.length ⟨0, 0⟩)).toArray 68)).alloc (.cells #[.slice (some ⟨wo.heap.size + 1, 0, none⟩) h.prices.length h.prices.length] 66)) from (by repeat (first | (with_reducible assumption) | (with_reducible exact Step.refl _) | (with_reducible apply Step.s_alloc) | (with_reducible apply Step.s_drew) | (with_reducible apply Step.s_drewN) | (with_reducible refine Step.trans ?_ (by with_reducible assumption)))))
      gi_wp2_with fail
      refine wpIn_loop (fun a' wr => ∃ (ds : List Nat) (u0 u1 u4 u5 u6 u8 u11 u12 u13 u14 u15 u16 u17 u18 u19 u23 u24 u25 u26 u27 u28 u29 u32 u33 u34 u35 u36 u37 u38 u39 u40 u41 u42 u43 u44 u45 u46 u47 u48 u49 u50 u51 u52 u53 u54 u55 u56 u57 u58 u59 u60 u61 u62 u63 u64 u65 u66 u67 u68 u69 u70 u71 u72 u73 : Value), (∃ c : Nat, c ≤ h.prices.length ∧ u32 = .int .i64 c ∧ Bx wr (wo.heap.size + 1) (cellsC (rowP h b s c)) 68 ∧ Bx wr wo.heap.size [.slice (some ⟨br, orr, none⟩) z cr] 23 ∧ Bx wr (wo.heap.size + 2) [.slice (some ⟨wo.heap.size + 1, 0, none⟩) h.prices.length h.prices.length] 66 ∧ Step wo wr ∧ Marks W2.heap.size ds wr ∧ OwnL (fun j => Old W2 j ∨ j ∈ ds ∨ j = wo.heap.size + 1) W2.heap.size 66 wr (.slice pu LL.length cu) LL) ∧ a' = { tmps := #[u0, u1, .pointer (some ⟨w.heap.size, 0, none⟩), .pointer (some ⟨w.heap.size + 1, 0, none⟩), u4, u5, u6, .slice pu LL.length cu, u8, .pointer (some ⟨wo.heap.size, 0, none⟩), .pointer (some ⟨wo.heap.size + 2, 0, none⟩), u11, u12, u13, u14, u15, u16, u17, u18, u19, .slice (some ⟨bs, os, none⟩) b.seats.length m1, .int .i64 b.seats.length, .int .i64 s, u23, u24, u25, u26, u27, u28, u29, .slice (some ⟨wo.heap.size + 1, 0, none⟩) h.prices.length h.prices.length, .int .i64 h.prices.length, u32, u33, u34, u35, u36, u37, u38, u39, u40, u41, u42, u43, u44, u45, u46, u47, u48, u49, u50, u51, u52, u53, u54, u55, u56, u57, u58, u59, u60, u61, u62, u63, u64, u65, u66, u67, u68, u69, u70, u71, u72, u73], defers := ds.map markD }) (fun a' _ => h.prices.length - (intOf (a'.tmps.getD 32 undef)).toNat) ?atStart ?round
      case atStart =>
        refine ⟨ds, ?_⟩
        (repeat apply Exists.intro)
        refine ⟨?_, rfl⟩
        exact ⟨0, Nat.zero_le _, rfl, by rw [rowP_zero]; exact (Bx.new' _ _ _ _ (by simp)).alloc _, ((Bx.new _ [_] _).alloc _).alloc _, Bx.new' _ [_] _ _ (by simp), HW5.out, HM.out.step HW5.out, (HO2.out.weak fun j hj hs => hs.elim .inl fun hs => hs.elim .inr fun hs => absurd hj (by omega)).step HW5.out⟩
      case round =>
        clear HM
        intro a' wr hinv
        obtain ⟨ds, u0, u1, u4, u5, u6, u8, u11, u12, u13, u14, u15, u16, u17, u18, u19, u23, u24, u25, u26, u27, u28, u29, u32, u33, u34, u35, u36, u37, u38, u39, u40, u41, u42, u43, u44, u45, u46, u47, u48, u49, u50, u51, u52, u53, u54, u55, u56, u57, u58, u59, u60, u61, u62, u63, u64, u65, u66, u67, u68, u69, u70, u71, u72, u73, ⟨c, hc, rfl, hbl, hb9, hb10, hS, hM, hown⟩, rfl⟩ := hinv
        dsimp only
        have HBLC := Lib.hid hbl
        have HB9 := Lib.hid hb9
        have HB10 := Lib.hid hb10
        have HSI := Lib.hid hS
        have HM := Lib.hid hM
        have HOWN := Lib.hid hown
        have HTI := Lib.hid (HT.out.trans hS)
        have HZO := Lib.hid (And.intro HT.out.size (And.intro hS.size hb10.lt))
        clear hbl hb9 hb10 hS hM hown
        have f9 := HB9.out.cell 0
        have f10 := HB10.out.cell 0
        simp only [List.getElem?_cons_zero] at f9 f10
        by_cases hltc : c < h.prices.length
        · obtain ⟨e0, e1, e2, e3, e4⟩ := cells5 (HB1.out.step HTI.out)
          have y1 := (HB1.out.step HTI.out).lt
          obtain ⟨w1, hw1⟩ : ∃ W, W = wr.alloc (.cells #[.int .i64 c] 3) := ⟨_, rfl⟩
          have HW1 := Lib.hid hw1
          have hz1 : w1.heap.size = wr.heap.size + 1 := by rw [hw1]; simp
          have hs1 : Step wr w1 := by rw [hw1]; exact Step.alloc _ _
          have hcb : Bx w1 wr.heap.size [.int .i64 c] 3 := by rw [hw1]; exact Bx.new _ [_] _
          have hrw := Rep.weak (T := fun j => W2.heap.size ≤ j) (fun j h1 h2 => by omega) HR.out
          have hcall := Lib.hid (of_any (fun j => W2.heap.size ≤ j) h (.agg #[.slice p0 h.sectors.length k0, .slice p1 h.prices.length k1, .slice p2 h.dates.length k2, .slice p3 h.frm.length k3, .slice p4 h.holds.length k4]) c w1 ⟨_, rfl, Rep.keep (.of_step (HTI.out.trans hs1)) hrw⟩)
          have HZ1 := Lib.hid hz1
          have HS1 := Lib.hid hs1
          have HCB := Lib.hid hcb
          clear hw1 hz1 hs1 hcb hrw
          gi_wp2_with fail
          rw [← HW1.out]
          refine (callsIn_FW hcall.out).mono ?_
          rintro e w2 ⟨x0, x1, x2, x3, x4, rfl, hbh, hrh, hbc, hS2, hz2⟩
          have HBH := Lib.hid hbh
          have HRH := Lib.hid hrh
          have HBC := Lib.hid hbc
          have HT2 := Lib.hid (HS1.out.trans hS2)
          have HCB2 := Lib.hid (HCB.out.step hS2)
          have hz1 := HZ1.out
          have hzo := HZO.out
          have HZZ := Lib.hid (And.intro hz1 (And.intro hz2 hzo))
          clear hcall e0 e1 e2 e3 e4 y1 f9 f10 hbh hrh hbc hS2 hz1 hz2 hzo HCB HW1
          gi_wp2_with fail
          have hseq := Lib.hid (of1_stops 4 (by omega) (fun j => W2.heap.size ≤ j) (fun j => j = wo.heap.size + 1 ∨ w2.heap.size ≤ j) h c w1.heap.size (w1.heap.size + 1) x0 x1 x2 x3 x4 w2 HBH.out HRH.out (HBC.out.cell 0) (by have := HZZ.out; omega) (by have := HZZ.out; omega)
            (fun j hj => by have := HZZ.out; omega) (okSec_valid HO.out.1) (by have := (bounds_valid HO.out.1).2.2.2.2.2.2.2.1; omega))
          have h00 : CountI w2 (wo.heap.size + 1) (rowP h b s c) c (h := h) b s [] w2 := ⟨by
            show Bx w2 _ (cellsC ((rowP h b s c).set c ⟨0, 0⟩)) _
            rw [rowP_same h b s hltc]
            exact HBLC.out.step HT2.out, StepX.refl _ _⟩
          refine wpIn_rangeFunc_ownG rfl (by omega) rfl trivial (Go.Proofs.enters_of Try.func69 (by kernel_rfl) rfl) hseq.out (fun h1 h2 => h1.trans h2) (stepX_b (fun j hj => .inr hj)) (Below.refl _ _) (fun _ => rfl)
            (CountI w2 (wo.heap.size + 1) (rowP h b s c) c (h := h) b s) (fun _ _ _ => False) CountI.own (fun _ _ _ _ _ hf _ _ => hf) h00 ?a1 ?assign ?body ?done ?stop
          case assign =>
            intro l x W K hK
            rw [FW_inRound]
            gi_wp2
            exact hK
          case stop => exact fun _ _ _ _ _ _ hf _ => hf.elim
          case done =>
            intro D ys W hDl hys hI hK
            obtain ⟨hbl, hX⟩ := hI
            rw [show seatsOf ys = ofL h c from hys, rowP_step h b s hltc] at hbl
            have hsz := HZZ.out
            have k9 := (HB9.out.step HT2.out).keep hX.keeps (show ¬ (wo.heap.size = wo.heap.size + 1 ∨ w2.heap.size ≤ wo.heap.size) by omega)
            have k10 := (HB10.out.step HT2.out).keep hX.keeps (show ¬ (wo.heap.size + 2 = wo.heap.size + 1 ∨ w2.heap.size ≤ wo.heap.size + 2) by omega)
            have kS : Step wo W := StepX.fresh (HSI.out.trans HT2.out) hX (fun j hj => by omega)
            have hnd : ∀ d ∈ ds, ¬ (d = wo.heap.size + 1 ∨ w2.heap.size ≤ d) := fun d hd hx => by
              rcases hx with hx | hx
              · have := (HM.out.2 d hd).2
                rw [hx] at this
                have h9 := HBLC.out
                unfold Bx at h9
                rw [h9] at this
                simp at this
              · have := HM.out.lt hd; have := HT2.out.size; omega
            have kM : Marks W2.heap.size (D :: ds) W := ((HM.out.step HT2.out).keep hX hnd).cons (by omega) (fun hd => hnd D hd (.inr hDl)) hK
            have kO : OwnL (fun j => Old W2 j ∨ j ∈ D :: ds ∨ j = wo.heap.size + 1) W2.heap.size 66 W (.slice pu LL.length cu) LL := by
              have o1 := (HOWN.out.step HT2.out).weak (T := fun j => (Old W2 j ∨ j ∈ ds) ∨ (j = wo.heap.size + 1 ∨ w2.heap.size ≤ j)) fun j hj hs => by
                rcases hs with (hs | hs) | hs | hs
                · exact .inl hs
                · exact .inr (.inl hs)
                · exact .inr (.inr hs)
                · omega
              have o2 := o1.kept (hX.keeps.mono fun j _ hj => .inr hj) fun g hg => hX.block g (o1.lt g hg).2 fun hx => by
                have := (HO2.out.lt g hg).2
                have := (o1.lt g hg).2
                omega
              exact o2.weak fun j hj hs => by
                rcases hs with hs | hs | hs
                · exact .inl (.inl hs)
                · rcases List.mem_cons.1 hs with rfl | hs
                  · exact .inr (.inr hDl)
                  · exact .inl (.inr hs)
                · exact .inr (.inl hs)
            have HK := Lib.hid (And.intro hbl (And.intro k9 (And.intro k10 (And.intro kS (And.intro kM kO)))))
            clear hys hbl hX hK hsz k9 k10 kS hnd kM kO hDl
            gi_wp2
            refine ⟨⟨D :: ds, ?_⟩, ?_⟩
            · (repeat apply Exists.intro)
              refine ⟨?_, ?_⟩
              rotate_left
              · first | rfl | (refine ⟨?_, rfl⟩; repeat (first | refine ⟨rfl, ?_⟩ | exact rfl)) | (repeat (first | refine ⟨rfl, ?_⟩ | exact rfl))
              obtain ⟨g1, g2, g3, g4, g5, g6⟩ := HK.out
              exact ⟨c + 1, by omega, by go_num, g1, g2, g3, g4, g5, g6⟩
            · simp [intOf]; omega
          case body =>
            intro l pre x W hI hlen
            rw [FW_inRound]
            obtain ⟨xk, hxk⟩ := x
            obtain ⟨hbl, hX⟩ := hI
            have hkz : xk < z := by have := HZ.out; omega
            have hsz := HZZ.out
            have hcell : ∀ b o u, w2.cell? ⟨b, o, none⟩ = some u → ¬ (b = wo.heap.size + 1 ∨ w2.heap.size ≤ b) → W.cell? ⟨b, o, none⟩ = some u := fun b o u hu hn => hX.keeps.cell (a := ⟨b, o, none⟩) hn hu
            have r2 := (HS.out.trans (HTI.out.trans HT2.out)).keeps.cell id (HROW.out.2 xk hkz)
            have hbr : br < w.heap.size := HBRL.out
            have hwz : W2.heap.size = w.heap.size + 2 := HZ2.out
            have y0 := hcell wo.heap.size 0 _ ((HB9.out.step HT2.out).cell 0) (by omega)
            have y1 := hcell (wo.heap.size + 2) 0 _ ((HB10.out.step HT2.out).cell 0) (by omega)
            have y2 := hcell wr.heap.size 0 _ (HCB2.out.cell 0) (by omega)
            have y3 := hcell br _ _ r2 (by omega)
            have hcR : c < ((rowP h b s c).set c ⟨cntW b s isF (seatsOf pre), cntW b s isS (seatsOf pre)⟩).length := by rw [List.length_set, rowP_len]; exact hltc
            have n0 := hbl.cell (c * 2)
            have n1 := hbl.cell (c * 2 + 1)
            rw [cellsC_get0 hcR] at n0
            rw [cellsC_get1 hcR] at n1
            simp only [List.getElem_set_self] at n0 n1
            have z0 := hbl.frozen (c * 2)
            have z1 := hbl.frozen (c * 2 + 1)
            have b0 := cntW_bound b s isF (seatsOf pre)
            have b1 := cntW_bound b s isS (seatsOf pre)
            rw [seatsOf_len] at b0 b1
            have hmn := manyN_eq
            obtain ⟨m0, hm0⟩ : ∃ y, y = cntW b s isF (seatsOf pre) := ⟨_, rfl⟩
            obtain ⟨m1, hm1⟩ : ∃ y, y = cntW b s isS (seatsOf pre) := ⟨_, rfl⟩
            rw [← hm0] at n0 b0
            rw [← hm1] at n1 b1
            have hw0 : IntKind.i64.wrap (m0 + 1) = m0 + 1 := by rw [IntKind.wrap_i64]; omega
            have hw1 : IntKind.i64.wrap (m1 + 1) = m1 + 1 := by rw [IntKind.wrap_i64]; omega
            obtain ⟨x, hx⟩ : ∃ x, x = seatAt b s xk := ⟨_, rfl⟩
            rw [← hx] at y3
            have HX := Lib.hid hX
            have HBV := Lib.hid hbl
            have HMM := Lib.hid (And.intro hm0 hm1)
            have HSE := Lib.hid hx
            have hix : (0 : Int) ≤ (xk : Int) ∧ (xk : Int) < (z : Int) := by omega
            have hic : (0 : Int) ≤ (c : Int) ∧ (c : Int) < (h.prices.length : Int) := by omega
            have hlc := HZZ.out
            clear hcell r2 hbr hwz hcR b0 b1 hmn hm0 hm1 hx hX hbl hsz hlen hlc
            by_cases q1 : x = 0
            · have hd : (x == 0) = true := by simpa using q1
              have HN := Lib.hid (count_free (R := rowP h b s c) (c := c) (h := h) (pre := pre) (k := xk) (hk := hxk) (by rw [rowP_len]; exact hltc) (HSE.out.symm.trans q1))
              clear q1
              gi_wp2
              obtain ⟨em0, em1⟩ := HMM.out
              subst em0 em1
              have hX6 : StepX (fun j => j = wo.heap.size + 1 ∨ w2.heap.size ≤ j) W (W.setCell ⟨wo.heap.size + 1, c * 2, none⟩ (.int .i64 (cntW b s isF (seatsOf pre) + 1))) := StepX.setCell (StepX.refl _ _) ⟨wo.heap.size + 1, c * 2, none⟩ _ (.inl rfl)
              have h8 := HBV.out.setCell (c * 2) (.int .i64 (cntW b s isF (seatsOf pre) + 1))
              rw [HN.out] at h8
              exact ⟨(KeepsOthers.setCell _ _ _).from _, hX6, h8, HX.out.trans hX6⟩
            have hd : (x == 0) = false := by simpa using q1
            by_cases q2 : 0 < x
            · have hd2 : decide (0 < x) = true := by simpa using q2
              have HN := Lib.hid (count_sold (R := rowP h b s c) (c := c) (h := h) (pre := pre) (k := xk) (hk := hxk) (by rw [rowP_len]; exact hltc) (show 0 < seatAt b s xk by rw [← HSE.out]; exact q2))
              clear q1 q2
              gi_wp2
              obtain ⟨em0, em1⟩ := HMM.out
              subst em0 em1
              have hX6 : StepX (fun j => j = wo.heap.size + 1 ∨ w2.heap.size ≤ j) W (W.setCell ⟨wo.heap.size + 1, c * 2 + 1, none⟩ (.int .i64 (cntW b s isS (seatsOf pre) + 1))) := StepX.setCell (StepX.refl _ _) ⟨wo.heap.size + 1, c * 2 + 1, none⟩ _ (.inl rfl)
              have h8 := HBV.out.setCell (c * 2 + 1) (.int .i64 (cntW b s isS (seatsOf pre) + 1))
              rw [HN.out] at h8
              exact ⟨(KeepsOthers.setCell _ _ _).from _, hX6, h8, HX.out.trans hX6⟩
            have hd2 : decide (0 < x) = false := by simpa using q2
            have HN := Lib.hid (count_none (R := rowP h b s c) (c := c) (h := h) (pre := pre) (k := xk) (hk := hxk) (show ¬ seatAt b s xk = 0 by rw [← HSE.out]; exact q1) (show ¬ 0 < seatAt b s xk by rw [← HSE.out]; exact q2))
            clear q1 q2
            gi_wp2
            have h8 := HBV.out
            rw [HN.out] at h8
            exact ⟨keepsFrom_step _ (Step.refl _), StepX.refl _ _, h8, HX.out⟩
        · obtain rfl : c = h.prices.length := by omega
          have hbl := HBLC.out
          rw [rowP_full] at hbl
          have hOW := HOWN.out.weak (T := fun j => Old W2 j ∨ j ∈ ds) fun j _ hs => by
            rcases hs with hs | hs
            · exact .inl hs
            · exact .inr (.inl hs)
          have x1 : ¬ avoid (fun j => Old W2 j ∨ j ∈ ds) (.slice pu LL.length cu) (wo.heap.size + 1) := fun e => by
            rcases e with (e | e) | e
            · unfold Old at e; have := HZO.out.1; omega
            · have h8 := (HM.out.2 _ e).2
              have h9 := HBLC.out
              unfold Bx at h9
              rw [h9] at h8
              simp at h8
            · have := (HO2.out.lt _ e).2; omega
          have hrow : SL (avoid (fun j => Old W2 j ∨ j ∈ ds) (.slice pu LL.length cu)) wr (.slice (some ⟨wo.heap.size + 1, 0, none⟩) (rowC h b s (ofL h)).length h.prices.length) (rowC h b s (ofL h)) := SL.bx_counts hbl x1 _ (by rw [rowC_len]; omega) (by rw [rowC_len]; omega)
          rw [rowC_len] at hrow
          have hue := SLe.one (S := avoid (fun j => Old W2 j ∨ j ∈ ds) (.slice pu LL.length cu)) (w := wr) (cs := [.slice (some ⟨wo.heap.size + 1, 0, none⟩) h.prices.length h.prices.length]) (x := rowC h b s (ofL h)) 66 ⟨_, rfl, hrow⟩
          have hown2 := hOW.alloc (.cells #[.slice (some ⟨wo.heap.size + 1, 0, none⟩) h.prices.length h.prices.length] 66)
          have hkl : (countsL h b).length = h.dates.length := by simp [countsL]
          have hkl2 : s < (countsL h b).length := by omega
          have hn1 : LL.length + [rowC h b s (ofL h)].length = s + 1 := by rw [HLL.out]; simp; omega
          have hn2 : s + 1 ≤ maxLen := by simp only [maxLen]; omega
          have hB3 := HBL.out.trans (HSI.out.below.mono HBL.out.size)
          have hn3 : W2.heap.size ≤ (wr.alloc (.cells #[.slice (some ⟨wo.heap.size + 1, 0, none⟩) h.prices.length h.prices.length] 66)).heap.size := by have := hB3.size; simp; omega
          have hn4 : LL ++ [rowC h b s (ofL h)] = (countsL h b).take (s + 1) := by
            rw [HLL.out, List.take_succ_eq_append_getElem hkl2]; simp [countsL]
          have HB3 := Lib.hid hB3
          have HO3 := Lib.hid hown2
          clear hrow hbl hkl hkl2 hB3 hOW
          gi_wp2_with (gi_at_builtin; refine wplI_append (α := List Count) (S := fun j => Old W2 j ∨ j ∈ ds) (base := W2.heap.size) (v := .slice pu LL.length cu) (l := LL) (m := [rowC h b s (ofL h)]) eiCounts rfl _ _ rfl rfl rfl hown2 hue (s + 1) hn1 ((countsL h b).take (s + 1)) hn4 hn2 (by omega) hn3 ?_)
          intro p' c' w2 hown3 hg
          have hB4 := (HB3.out.alloc HB3.out.size (.cells #[.slice (some ⟨wo.heap.size + 1, 0, none⟩) h.prices.length h.prices.length] 66)).grown hg hn3 (fun g hg => (HO2.out.lt g hg).1)
          have hM4 := (HM.out.step (Step.alloc wr (.cells #[.slice (some ⟨wo.heap.size + 1, 0, none⟩) h.prices.length h.prices.length] 66))).keep (StepX.grown (X := fun j => (Value.slice pu LL.length cu).ownBlock = some j) hg fun j hj _ => hj) (fun d hd hx => HO3.out.unmarked (HM.out.step (Step.alloc wr _)) d hx hd)
          have H7 := Lib.hid (And.intro hown3 (And.intro hB4 hM4))
          clear hown2 hue hn1 hn2 hn3 hn4 hown3 hg hB4 hM4 x1
          gi_wp2
          refine ⟨⟨ds, ?_⟩, ?_⟩
          · (repeat apply Exists.intro)
            refine ⟨?_, ?_⟩
            rotate_left
            · first | rfl | (refine ⟨?_, rfl⟩; repeat (first | refine ⟨rfl, ?_⟩ | exact rfl)) | (repeat (first | refine ⟨rfl, ?_⟩ | exact rfl))
            exact ⟨s + 1, by omega, by go_num, H7.out.1, H7.out.2.1, H7.out.2.2⟩
          · simp [intOf]; omega
    · have hlt2 : ¬ s < b.seats.length := by have := HSL.out; omega
      have hts : LL = countsL h b := by rw [HLL.out]; exact List.take_of_length_le (by simp [countsL]; omega)
      have HTS := Lib.hid hts
      clear hts
      gi_wp2
      refine leaves_marks ds _ HM.out ?_
      intro w' hs
      refine ⟨_, results_tmp2 rfl _ _ _, _, by rw [HCK.out]; rfl, ?_, StepX.fresh (HS.out.trans HT.out) hs (fun j hj => by have := HZ2.out; omega)⟩
      rw [HF.out, ← HTS.out]
      have hz2 := HZ2.out
      have hsl := OwnL.slb HO2.out fun g hg hs => by
        rcases hs with hs | hs
        · have := (HO2.out.lt g hg).1; unfold Old at hs; omega
        · obtain ⟨xs', hx, _⟩ := HO2.out
          rcases hx.2 with ⟨he, _⟩ | ⟨g', cap, cur, he, _, hg', _⟩
          · rw [he] at hg; simp [Value.ownBlock] at hg
          · rw [he] at hg
            simp [Value.ownBlock] at hg
            subst hg
            rw [(HM.out.2 _ hs).2] at hg'
            simp at hg'
      exact (hsl.keep (hs.keeps.mono fun j _ hj => .inr hj.2)).weak fun j _ hj => .inl (by unfold Old at *; omega)
end Go.Proofs.Ytgpiieogiafdoaa
/- Plain: what the law TicketMoney asks: the cash of a book by its counts, a seat that is sold and refunded, what a lost show pays back. -/
namespace Go.Proofs.Ytgpiieogiafdoaa
set_option linter.unusedSimpArgs false
set_option linter.unusedVariables false
open Go.RowKit Go.BT
/-- What the sold seats of the first k classes of a show cost. -/
def soldTo (h : House) (b : Book) (s : Nat) (L : Int → List Nat) : Nat → Int
  | 0 => 0
  | k + 1 => soldTo h b s L k + cntW b s isS (L k) * h.prices.getD k 0
def moneyTo (h : House) (b : Book) : Nat → Int
  | 0 => 0
  | s + 1 => moneyTo h b s + soldTo h b s (ofL h) h.prices.length
theorem soldTo_same {h : House} {b : Book} {s : Nat} {L M : Int → List Nat} {x : Nat} (hq : ∀ k : Nat, cntW b s isS (M k) = cntW b s isS (L k)) : ∀ k, soldTo h b s M k = soldTo h b s L k
  | 0 => rfl
  | k + 1 => by unfold soldTo; rw [soldTo_same (x := x) hq k, hq k]
theorem soldTo_one {h : House} {b : Book} {s : Nat} {L M : Int → List Nat} {x : Nat} (hq : ∀ k : Nat, cntW b s isS (M k) = cntW b s isS (L k) + if k = x then 1 else 0) : ∀ k, soldTo h b s M k = soldTo h b s L k + if x < k then h.prices.getD x 0 else 0
  | 0 => by simp [soldTo]
  | k + 1 => by
    unfold soldTo
    rw [soldTo_one hq k, hq k]
    by_cases e : k = x
    · subst e; simp; rw [Int.add_mul]; omega
    · by_cases g : x < k
      · simp [e, g, show x < k + 1 by omega]; omega
      · simp [e, g, show ¬ x < k + 1 by omega]
theorem soldTo_zero {h : House} {b : Book} {s : Nat} : ∀ k, soldTo h b s (fun c => ofB h c 0) k = 0
  | 0 => rfl
  | k + 1 => by unfold soldTo; rw [soldTo_zero k]; simp [ofB, cntW]
theorem soldTo_row {h : House} (hv : valid h = true) {b : Book} {s : Nat} : ∀ n : Nat, (n : Int) ≤ sizeL h.sectors → soldTo h b s (fun c => ofB h c n) h.prices.length = rowCash h (b.seats.getD s []) n
  | 0, _ => by rw [soldTo_zero]; rfl
  | n + 1, hn => by
    obtain ⟨c, hc, hcl, hp, _⟩ := class_valid hv (n := (n : Int)) (by omega) (by omega)
    have ih := soldTo_row hv (b := b) (s := s) n (by omega)
    rw [rowCash_succ, ← ih]
    have hx : seatAt b s n = (b.seats.getD s []).getD n 0 := by simp [seatAt]
    by_cases hy : 0 < seatAt b s n
    · rw [soldTo_one (L := fun c => ofB h c n) (x := c), if_pos hcl, if_pos (by rw [← hx]; exact hy), hp]
      · simp [List.getD_eq_getElem?_getD, hcl]
      · intro k
        by_cases e : k = c
        · subst e
          rw [if_pos rfl]
          show cntW b s isS (ofB h k (n + 1)) = _
          rw [ofB_hit hc, cntW_snoc, if_pos (by simp [isS, hy])]
        · rw [if_neg e]
          show cntW b s isS (ofB h k (n + 1)) = _
          rw [ofB_miss (by rw [hc]; omega)]; simp
    · rw [soldTo_same (L := fun c => ofB h c n) (x := c), if_neg (by rw [← hx]; exact hy)]
      · simp
      · intro k
        show cntW b s isS (ofB h k (n + 1)) = _
        by_cases e : classL h.sectors n = k
        · rw [ofB_hit e, cntW_snoc, if_neg (by simp [isS]; omega)]; simp
        · rw [ofB_miss e]
theorem soldTo_full {h : House} (hv : valid h = true) {b : Book} {s : Nat} : soldTo h b s (ofL h) h.prices.length = rowCash h (b.seats.getD s []) (sizeL h.sectors).toNat := by
  have := bounds_valid hv
  exact soldTo_row hv _ (by omega)
/-- The cash of a valid book is that of its counts. -/
theorem money_full {h : House} {b : Book} (hv : valid h = true) (hb : bookB h b = true) : moneyTo h b h.dates.length = b.cash := by
  have hO := (okDesk_book hv hb).1
  have hl : b.seats.length = h.dates.length := hO.2.2.1
  rw [(book_iff.1 hb).2.2.1]
  unfold cashL
  rw [hl]
  have : ∀ s, s ≤ b.seats.length → moneyTo h b s = cashTo h b.seats s := by
    intro s
    induction s with
    | zero => intro _; rfl
    | succ s ih =>
      intro hs
      unfold moneyTo cashTo
      rw [ih (by omega), soldTo_full hv]
      have := rows_len hv hb (show s < b.seats.length by omega)
      congr 2
      simp [List.getD_eq_getElem?_getD, show s < b.seats.length by omega]
      omega
  exact this _ (by omega)
theorem price_in {h : House} (hv : valid h = true) {k : Nat} (hk : k < h.prices.length) : 0 ≤ h.prices[k] ∧ h.prices[k] ≤ 10000 := by
  simp only [valid, validB, Bool.and_eq_true] at hv
  have hp := hv.2.1.1.1.1.2
  have := List.all_eq_true.1 hp _ (List.getElem_mem hk)
  simp [withinB] at this
  exact this
theorem soldTo_bound {h : House} (hv : valid h = true) (b : Book) (s : Nat) : ∀ k : Nat, k ≤ h.prices.length → 0 ≤ soldTo h b s (ofL h) k ∧ soldTo h b s (ofL h) k ≤ 1000000 * k
  | 0, _ => by simp [soldTo]
  | k + 1, hk => by
    have ih := soldTo_bound hv b s k (by omega)
    have hp := price_in hv (show k < h.prices.length by omega)
    have hc := cntW_bound b s isS (ofL h k)
    have hl := ofB_len h k (sizeL h.sectors).toNat
    have hz := bounds_valid hv
    have hc2 : cntW b s isS (ofL h k) ≤ 100 := by unfold ofL at hc ⊢; omega
    have hq : h.prices.getD k 0 = h.prices[k] := by simp [List.getD_eq_getElem?_getD, show k < h.prices.length by omega]
    unfold soldTo
    rw [hq]
    have h1 : 0 ≤ cntW b s isS (ofL h k) * h.prices[k] := Int.mul_nonneg hc.1 hp.1
    have h2 : cntW b s isS (ofL h k) * h.prices[k] ≤ 100 * 10000 := Int.mul_le_mul hc2 hp.2 hp.1 (by decide)
    omega
theorem moneyTo_bound {h : House} (hv : valid h = true) (b : Book) : ∀ s : Nat, s ≤ h.dates.length → 0 ≤ moneyTo h b s ∧ moneyTo h b s ≤ 5000000 * s
  | 0, _ => by simp [moneyTo]
  | s + 1, hs => by
    have ih := moneyTo_bound hv b s (by omega)
    have h1 := soldTo_bound hv b s h.prices.length (Nat.le_refl _)
    have h2 := prices5 hv
    unfold moneyTo
    omega
theorem seat_ge {h : House} {b : Book} (hb : bookB h b = true) (s j : Int) : -1 ≤ seatAt b s j := by
  unfold seatAt
  rcases Nat.lt_or_ge s.toNat b.seats.length with h1 | h1
  · rcases Nat.lt_or_ge j.toNat b.seats[s.toNat].length with h2 | h2
    · have := seat_low hb h1 h2
      simpa [List.getD_eq_getElem?_getD, h1, h2] using this
    · simp [List.getD_eq_getElem?_getD, h1, List.getElem?_eq_none h2]
  · simp [List.getD_eq_getElem?_getD, List.getElem?_eq_none h1]
/-- A seat that is sold and refunded leaves the book as it was. -/
theorem sell_back {h : House} {b b' : Book} {s n y d : Int} (hv : valid h = true) (hb : bookB h b = true) (hr : sellD h b s n y d = .ok b') :
    ∃ c : Nat, classR h n = ((c : Int), 0) ∧ ∃ hc : c < h.prices.length, b'.cash = b.cash + h.prices[c] ∧ refundD h b' s n = .ok b := by
  unfold sellD at hr
  split at hr
  rotate_left
  · cases hr
  rename_i he
  injection hr with hr
  obtain ⟨h1, h2, h3, h4, h5, h6, h7, h8⟩ := sellE_ok he
  have hn := h2
  simp only [withinB, Bool.and_eq_true, decide_eq_true_eq] at hn h3
  obtain ⟨c, hc, hcl, hp, _⟩ := class_valid hv (n := n) hn.1 (by omega)
  obtain ⟨i, rfl, hi⟩ := nat_of h1
  obtain ⟨j, rfl, hj⟩ := nat_of h2
  obtain ⟨g1, g2⟩ := row_at hv hb hi hj
  have h0 : seatAt b i j = 0 := by have := seat_ge hb i j; omega
  refine ⟨c, by simp [classR, hv, h2, hc], hcl, by rw [← hr, ← hp]; rfl, ?_⟩
  have hs : seatAt b' i j = y := by
    rw [← hr]
    exact seatAt_putI (b := b) g1 g2
  have hE : refundE h b' i j = 0 := by
    unfold refundE
    rw [if_neg (by simp [h1]), if_neg (by simp [h2]), if_pos (by rw [hs]; omega)]
  rw [refundD_yes hE, ← hr]
  congr 1
  have h0' : (b.seats[i])[j] = 0 := by simpa [seatAt, List.getD_eq_getElem?_getD, g1, g2] using h0
  have hset : (b.seats[i].set j y).set j 0 = b.seats[i] := by
    rw [List.set_set, ← h0']; exact List.set_getElem_self _
  unfold refundP sellP putSeat
  simp only [Int.toNat_natCast]
  have e1 : (b.seats.set i ((b.seats.getD i []).set j y)).getD i [] = (b.seats[i]).set j y := by
    simp [List.getD_eq_getElem?_getD, g1]
  rw [e1, hset]
  cases b with
  | mk a se of st tk ca =>
    have e2 : (se.set i ((se.getD i []).set j y)).set i se[i] = se := by
      rw [List.set_set]; exact List.set_getElem_self _
    rw [Book.mk.injEq]
    exact ⟨rfl, e2, rfl, rfl, rfl, by show ca + _ - _ = ca; omega⟩
def noMove : BT.Move := ⟨0, 0, 0⟩
/-- What goes back for the first k moves. -/
def paidTo (h : House) (l : List BT.Move) : Nat → Int
  | 0 => 0
  | k + 1 => paidTo h l k + if (l.getD k noMove).shw < 0 then priceL h (l.getD k noMove).seat else 0
theorem paidTo_app {h : House} {l : List BT.Move} {m : BT.Move} : ∀ k, k ≤ l.length → paidTo h (l ++ [m]) k = paidTo h l k
  | 0, _ => rfl
  | k + 1, hk => by
    unfold paidTo
    rw [paidTo_app k (by omega)]
    simp [List.getD_eq_getElem?_getD, List.getElem?_append_left (show k < l.length by omega)]
theorem paidTo_snoc {h : House} {l : List BT.Move} {m : BT.Move} : paidTo h (l ++ [m]) (l ++ [m]).length = paidTo h l l.length + if m.shw < 0 then priceL h m.seat else 0 := by
  rw [List.length_append]
  show paidTo h (l ++ [m]) l.length + (if ((l ++ [m]).getD l.length noMove).shw < 0 then priceL h ((l ++ [m]).getD l.length noMove).seat else 0) = _
  rw [paidTo_app _ (Nat.le_refl _)]
  simp [List.getD_eq_getElem?_getD]
theorem lose_paid {h : House} (i : Nat) (d : Int) (b : Book) : ∀ k, (loseTo h b i d k).1.cash = b.cash - paidTo h (loseTo h b i d k).2 (loseTo h b i d k).2.length ∧ (loseTo h b i d k).2.length ≤ k ∧ ∀ m ∈ (loseTo h b i d k).2, 0 ≤ m.seat ∧ m.seat < k
  | 0 => by simp [loseTo, paidTo]
  | k + 1 => by
    obtain ⟨a1, a2, a3⟩ := lose_paid i d b k
    by_cases hy : 0 < seatAt (loseTo h b i d k).1 i k
    · rw [loseTo_yes hy]
      refine ⟨?_, by simp; omega, ?_⟩
      · rw [paidTo_snoc]
        unfold loseOne
        split
        · rename_i p q _
          have : ¬ ((p : Nat) : Int) < 0 := by omega
          simp only [if_neg this]
          show (loseTo h b i d k).1.cash = _
          omega
        · simp only [show ((-1 : Int) < 0) from by decide, if_true]
          show (loseTo h b i d k).1.cash - priceL h k = _
          omega
      · intro m hm
        rcases List.mem_append.1 hm with hm | hm
        · have := a3 m hm; omega
        · have hm := List.mem_singleton.1 hm
          have : m.seat = k := by rw [hm]; unfold loseOne; split <;> rfl
          omega
    · rw [loseTo_no hy]
      exact ⟨a1, by omega, fun m hm => by have := a3 m hm; omega⟩
theorem loseD_ok {h : House} {b b' : Book} {s d : Int} {l : List BT.Move} (hr : loseD h b s d = .ok (b', l)) : ∃ i : Nat, s = i ∧ (i : Int) ≤ h.dates.length - 1 ∧ withinB d 0 1000 = true ∧ offAt b s = false ∧ loseTo h (offBook b i) i d (b.seats.getD i []).length = (b', l) := by
  unfold loseD at hr
  split at hr
  rotate_left
  · cases hr
  rename_i he
  injection hr with hr
  unfold loseE at he
  split at he
  · omega
  split at he
  · omega
  split at he
  · omega
  rename_i q1 q2 q3
  obtain ⟨i, rfl, hi⟩ := nat_of (show withinB s 0 (h.dates.length - 1) = true by simpa using q1)
  exact ⟨i, rfl, hi, by simpa using q2, by simpa using q3, by simpa using hr⟩
/-- A lost show takes from the cash what goes back. -/
theorem lose_money {h : House} {b b' : Book} {s d : Int} {l : List BT.Move} (hv : valid h = true) (hb : bookB h b = true) (hr : loseD h b s d = .ok (b', l)) :
    b'.cash = b.cash - paidTo h l l.length ∧ l.length ≤ 100 ∧ ∀ m ∈ l, ∃ c : Nat, classR h m.seat = ((c : Int), 0) ∧ ∃ hc : c < h.prices.length, priceL h m.seat = h.prices[c] := by
  obtain ⟨i, rfl, hi, _, _, hl⟩ := loseD_ok hr
  have hO := (okDesk_book hv hb).1
  have hil : i < b.seats.length := by have := hO.2.2.1; omega
  have hz := rows_len hv hb hil
  have hbv := bounds_valid hv
  have hn : ((b.seats.getD i []).length : Int) = sizeL h.sectors := by simpa [List.getD_eq_getElem?_getD, hil] using hz
  have hp := lose_paid (h := h) i d (offBook b i) (b.seats.getD i []).length
  rw [hl] at hp
  refine ⟨hp.1, by have := hp.2.1; simp only at this; omega, fun m hm => ?_⟩
  have h3 := hp.2.2 m hm
  obtain ⟨c, hc, hcl, hpc, _⟩ := class_valid hv (n := m.seat) h3.1 (by omega)
  refine ⟨c, ?_, hcl, hpc⟩
  have : withinB m.seat 0 (sizeL h.sectors - 1) = true := by simp [withinB]; omega
  simp [classR, hv, this, hc]
theorem paidTo_bound {h : House} (hv : valid h = true) {l : List BT.Move} (hl : ∀ m ∈ l, ∃ c : Nat, classR h m.seat = ((c : Int), 0) ∧ ∃ hc : c < h.prices.length, priceL h m.seat = h.prices[c]) : ∀ k : Nat, k ≤ l.length → 0 ≤ paidTo h l k ∧ paidTo h l k ≤ 10000 * k
  | 0, _ => by simp [paidTo]
  | k + 1, hk => by
    have ih := paidTo_bound hv hl k (by omega)
    have hm : l.getD k noMove = l[k] := by simp [List.getD_eq_getElem?_getD, show k < l.length by omega]
    obtain ⟨c, _, hc, hp⟩ := hl l[k] (List.getElem_mem _)
    have := price_in hv hc
    unfold paidTo
    rw [hm, hp]
    split <;> omega
end Go.Proofs.Ytgpiieogiafdoaa
/- Plain: what an act with a valid house and a valid book is. -/
namespace Go.Proofs.Ytgpiieogiafdoaa
set_option linter.unusedSimpArgs false
set_option linter.unusedVariables false
open Go.RowKit Go.BT
theorem act_code {h : House} {b : Book} {r : Except Int Book} (hv : valid h = true) (hb : bookB h b = true) : actR (doneR h b r) = actR r := by
  simp [doneR, checkR, hv, hb]
theorem sell_ok {h : House} {b : Book} {s n y d : Int} (h0 : (actR (sellD h b s n y d)).2 = 0) : sellD h b s n y d = .ok (actR (sellD h b s n y d)).1 := by
  cases hr : sellD h b s n y d with
  | ok p => rfl
  | error c =>
    rw [hr] at h0
    have h0 : c = 0 := h0
    unfold sellD at hr
    split at hr
    · cases hr
    · rename_i hne
      injection hr with hr
      exact absurd (hr.trans h0) hne
theorem lose_code {h : House} {b : Book} {s d : Int} (hv : valid h = true) (hb : bookB h b = true) : actR (bookOf (gate h b (loseD h b s d))) = actR (bookOf (loseD h b s d)) ∧ restOf [] (gate h b (loseD h b s d)) = restOf [] (loseD h b s d) := by
  rw [gate_ok hv hb]; exact ⟨rfl, rfl⟩
theorem lose_yes {h : House} {b : Book} {s d : Int} (h0 : (actR (bookOf (loseD h b s d))).2 = 0) : loseD h b s d = .ok ((actR (bookOf (loseD h b s d))).1, restOf [] (loseD h b s d)) := by
  cases hr : loseD h b s d with
  | ok p => rfl
  | error c =>
    rw [hr] at h0
    have h0 : c = 0 := h0
    unfold loseD at hr
    split at hr
    · cases hr
    · rename_i hne
      injection hr with hr
      exact absurd (hr.trans h0) hne
theorem lose_no {h : House} {b : Book} {s d : Int} (h0 : (actR (bookOf (loseD h b s d))).2 ≠ 0) : (actR (bookOf (loseD h b s d))).1 = noBook ∧ restOf [] (loseD h b s d) = [] := by
  cases hr : loseD h b s d with
  | ok p => rw [hr] at h0; exact absurd rfl h0
  | error c => exact ⟨rfl, rfl⟩
theorem money_bound {h : House} {b : Book} (hv : valid h = true) (hb : bookB h b = true) : 0 ≤ b.cash ∧ b.cash ≤ 30000000 := by
  have h1 := moneyTo_bound hv b h.dates.length (Nat.le_refl _)
  have h2 := bounds_valid hv
  rw [money_full hv hb] at h1
  omega
end Go.Proofs.Ytgpiieogiafdoaa
/- Plain: a slice of counts, laid open. -/
namespace Go.Proofs.Ytgpiieogiafdoaa
set_option linter.unusedSimpArgs false
set_option linter.unusedVariables false
open Go.RowKit Go.BT
theorem _root_.Go.BT.SL.counts {S : Nat → Prop} {w : World} {v : Value} {l : List Count} (h : SL S w v l) :
    ∃ p c b o, v = .slice p l.length c ∧ l.length ≤ c ∧ l.length ≤ 9223372036854775807 ∧ (0 < l.length → p = some ⟨b, o, none⟩) ∧
      (∀ i (h : i < l.length), w.cell? ⟨b, o + i * 2, none⟩ = some (.int .i64 l[i].free) ∧ w.cell? ⟨b, o + i * 2 + 1, none⟩ = some (.int .i64 l[i].sold)) ∧ (0 < l.length → b < w.heap.size ∧ ¬ S b) := by
  obtain ⟨p, c, b, o, hv, hc, hm, hp, ha⟩ := h
  refine ⟨p, c, b, o, hv, hc, hm, hp, fun i hi => ?_, fun h0 => ⟨(ha 0 h0).1, (ha 0 h0).2.1⟩⟩
  obtain ⟨_, _, cs, hr, hcs⟩ := ha i hi
  have hr' : cs = [.int .i64 l[i].free, .int .i64 l[i].sold] := hr
  subst hr'
  exact ⟨hcs 0 _ rfl, hcs 1 _ rfl⟩
end Go.Proofs.Ytgpiieogiafdoaa
/- Walks: the law's Tent. -/
namespace Go.Proofs.Ytgpiieogiafdoaa
set_option linter.unusedSimpArgs false
set_option linter.unusedVariables false
open Go.RowKit Go.BT

def tentH : House := ⟨[⟨0, 2⟩, ⟨1, 3⟩], [50, 20], [10, 20], [[0, 5], [0, 5]], [[0, 0, 0, 0, 0], [0, 1, 0, 1, 1]]⟩
set_option maxHeartbeats 2000000 in
theorem Tent_any (w : World) : Calls Try.prog 25 #[] w fun e w' => ∃ v', e = .returned v' ∧ AV (Old w) w' v' tentH ∧ Step w w' := by
  go_enter Try.func25, Try.ntmps25
  go_wp2
  refine ret_struct (k := 5) (g := w.heap.size) (T' := 47) (cs := [.slice (some ⟨w.heap.size + 1, 0, none⟩) 2 2, .slice (some ⟨w.heap.size + 2, 0, none⟩) 2 2, .slice (some ⟨w.heap.size + 3, 0, none⟩) 2 2, .slice (some ⟨w.heap.size + 6, 0, none⟩) 2 2, .slice (some ⟨w.heap.size + 9, 0, none⟩) 2 2]) rfl siHouse rfl ?_ rfl rfl ⟨_, rfl, ⟨_, rfl, ⟨_, _, _, _, _, rfl, ?_, ?_, ?_, ?_, ?_⟩⟩, ?_⟩
  · repeat (first | exact Bx.new _ _ _ | apply Bx.alloc)
  · refine SL.bx (g := w.heap.size + 1) (T := 97) (cs := [.int .i64 0, .int .i64 2, .int .i64 1, .int .i64 3]) (l := tentH.sectors) ?_ (by unfold Old; omega) 2 (by decide) (by decide) (fun i hi => ?_)
    · repeat (first | (with_reducible refine Bx.new' _ _ _ _ ?_; simp; done) | (with_reducible apply Bx.alloc))
    · have hi2 : i = 0 ∨ i = 1 := by simp [tentH] at hi; omega
      rcases hi2 with rfl | rfl <;> rfl
  · refine SL.bx_ints (g := w.heap.size + 2) (T := 3) (l := tentH.prices) ?_ (by unfold Old; omega) 2 (by decide) (by decide)
    show Bx _ _ [.int .i64 50, .int .i64 20] _
    repeat (first | (with_reducible refine Bx.new' _ _ _ _ ?_; simp; done) | (with_reducible apply Bx.alloc))
  · refine SL.bx_ints (g := w.heap.size + 3) (T := 3) (l := tentH.dates) ?_ (by unfold Old; omega) 2 (by decide) (by decide)
    show Bx _ _ [.int .i64 10, .int .i64 20] _
    repeat (first | (with_reducible refine Bx.new' _ _ _ _ ?_; simp; done) | (with_reducible apply Bx.alloc))
  · refine SL.bx (g := w.heap.size + 6) (T := 23) (cs := [.slice (some ⟨w.heap.size + 4, 0, none⟩) 2 2, .slice (some ⟨w.heap.size + 5, 0, none⟩) 2 2]) (l := tentH.frm) ?_ (by unfold Old; omega) 2 (by decide) (by decide) (fun i hi => ?_)
    · repeat (first | (with_reducible refine Bx.new' _ _ _ _ ?_; simp; done) | (with_reducible apply Bx.alloc))
    · have hi2 : i = 0 ∨ i = 1 := by simp [tentH] at hi; omega
      rcases hi2 with rfl | rfl
      · refine ⟨_, rfl, SL.bx_ints (g := w.heap.size + 4) (T := 3) (l := [0, 5]) ?_ (by unfold Old; omega) 2 (by decide) (by decide)⟩
        show Bx _ _ [.int .i64 0, .int .i64 5] _
        repeat (first | (with_reducible refine Bx.new' _ _ _ _ ?_; simp; done) | (with_reducible apply Bx.alloc))
      · refine ⟨_, rfl, SL.bx_ints (g := w.heap.size + 5) (T := 3) (l := [0, 5]) ?_ (by unfold Old; omega) 2 (by decide) (by decide)⟩
        show Bx _ _ [.int .i64 0, .int .i64 5] _
        repeat (first | (with_reducible refine Bx.new' _ _ _ _ ?_; simp; done) | (with_reducible apply Bx.alloc))
  · refine SL.bx (g := w.heap.size + 9) (T := 23) (cs := [.slice (some ⟨w.heap.size + 7, 0, none⟩) 5 5, .slice (some ⟨w.heap.size + 8, 0, none⟩) 5 5]) (l := tentH.holds) ?_ (by unfold Old; omega) 2 (by decide) (by decide) (fun i hi => ?_)
    · repeat (first | (with_reducible refine Bx.new' _ _ _ _ ?_; simp; done) | (with_reducible apply Bx.alloc))
    · have hi2 : i = 0 ∨ i = 1 := by simp [tentH] at hi; omega
      rcases hi2 with rfl | rfl
      · refine ⟨_, rfl, SL.bx_ints (g := w.heap.size + 7) (T := 3) (l := [0, 0, 0, 0, 0]) ?_ (by unfold Old; omega) 5 (by decide) (by decide)⟩
        show Bx _ _ [.int .i64 0, .int .i64 0, .int .i64 0, .int .i64 0, .int .i64 0] _
        repeat (first | (with_reducible refine Bx.new' _ _ _ _ ?_; simp; done) | (with_reducible apply Bx.alloc))
      · refine ⟨_, rfl, SL.bx_ints (g := w.heap.size + 8) (T := 3) (l := [0, 1, 0, 1, 1]) ?_ (by unfold Old; omega) 5 (by decide) (by decide)⟩
        show Bx _ _ [.int .i64 0, .int .i64 1, .int .i64 0, .int .i64 1, .int .i64 1] _
        repeat (first | (with_reducible refine Bx.new' _ _ _ _ ?_; simp; done) | (with_reducible apply Bx.alloc))
  · exact (by repeat (first | (with_reducible assumption) | (with_reducible exact Step.refl _) | (with_reducible apply Step.s_alloc) | (with_reducible apply Step.s_drew) | (with_reducible apply Step.s_drewN) | (with_reducible refine Step.trans ?_ (by with_reducible assumption))))
end Go.Proofs.Ytgpiieogiafdoaa
/- The plain facts of the law's awake: what the program's functions come to at the chapter's tent. -/
namespace Go.Proofs.Ytgpiieogiafdoaa
set_option linter.unusedSimpArgs false
set_option linter.unusedVariables false
open Go.RowKit Go.BT

def tentB : Book := ⟨0, [[0, 0, 0, 0, 0], [0, -1, 0, -1, -1]], [false, false], 0, [], 0⟩
def tentC : Book := ⟨0, [[0, 0, 7, 0, 0], [0, -1, 0, -1, -1]], [false, false], 0, [], 20⟩
def tentD : Book := ⟨0, [[0, 0, 0, 0, 0], [0, -1, 7, -1, -1]], [true, false], 0, [], 20⟩
def tentE : Book := ⟨0, [[0, 0, 0, -1, -1], [0, -1, 0, -1, -1]], [false, false], 1, [], 0⟩
theorem tent_class : classR tentH 2 = (1, 0) := by kernel_rfl
theorem tent_open : openR tentH 0 = (tentB, 0) := by kernel_rfl
theorem tent_sell : actR (doneR tentH tentB (sellD tentH tentB 0 2 7 3)) = (tentC, 0) := by kernel_rfl
theorem tent_lose : gate tentH tentC (loseD tentH tentC 0 4) = .ok (tentD, [⟨2, 1, 2⟩]) := by kernel_rfl
theorem tent_give : gate tentH tentB (giveD tentH tentB 1 0 [3, 4]) = .ok (tentE, ⟨0, 1, 1, 0, [3, 4]⟩) := by kernel_rfl
end Go.Proofs.Ytgpiieogiafdoaa
/- Walks: message, alike: comparisons. -/
namespace Go.Proofs.Ytgpiieogiafdoaa
set_option linter.unusedSimpArgs false
set_option linter.unusedVariables false
open Go.RowKit Go.BT

def messB (a b : BT.Message) : Bool := decide (a = b)
theorem mess_ne {f1 f2 d1 d2 n1 n2 s1 s2 : Int} {l1 l2 : List Int} (h : f1 ≠ f2 ∨ d1 ≠ d2 ∨ n1 ≠ n2 ∨ s1 ≠ s2) : messB ⟨f1, d1, n1, s1, l1⟩ ⟨f2, d2, n2, s2, l2⟩ = false := by
  simp only [messB, decide_eq_false_iff_not, BT.Message.mk.injEq]
  rintro ⟨rfl, rfl, rfl, rfl, _⟩
  simp at h
theorem mess_eq {f1 d1 n1 s1 : Int} {l1 l2 : List Int} : messB ⟨f1, d1, n1, s1, l1⟩ ⟨f1, d1, n1, s1, l2⟩ = intsB l1 l2 := by
  simp [messB, intsB]

set_option maxHeartbeats 2000000 in
theorem message_core (S : Nat → Prop) (f1 f2 d1 d2 n1 n2 s1 s2 : Int) (l1 l2 : List Int) (v1 v2 : Value) (w : World) (hv : SL S w v1 l1) (hu : SL S w v2 l2) :
    Calls Try.prog 28 #[.agg #[.int .i64 f1, .int .i64 d1, .int .i64 n1, .int .i64 s1, v1], .agg #[.int .i64 f2, .int .i64 d2, .int .i64 n2, .int .i64 s2, v2]] w fun e w' => e = .returned (.bool (messB ⟨f1, d1, n1, s1, l1⟩ ⟨f2, d2, n2, s2, l2⟩)) ∧ Step w w' := by
  obtain ⟨p1, k1, rfl⟩ := hv.form
  obtain ⟨p2, k2, rfl⟩ := hu.form
  obtain ⟨W0, hW0⟩ : ∃ W0, W0 = (w.alloc (.cells #[.int .i64 f1, .int .i64 d1, .int .i64 n1, .int .i64 s1, .slice p1 l1.length k1] 41)).alloc (.cells #[.int .i64 f2, .int .i64 d2, .int .i64 n2, .int .i64 s2, .slice p2 l2.length k2] 82) := ⟨_, rfl⟩
  have hS : Step w W0 := by subst hW0; exact (by repeat (first | (with_reducible assumption) | (with_reducible exact Step.refl _) | (with_reducible apply Step.s_alloc) | (with_reducible apply Step.s_drew) | (with_reducible apply Step.s_drewN) | (with_reducible refine Step.trans ?_ (by with_reducible assumption))))
  have hcall := Lib.hid (ints_any S l1 l2 _ _ W0 (hv.keep (.of_step hS)) (hu.keep (.of_step hS)))
  have HS := Lib.hid hS
  clear hS hv hu
  by_cases q0 : f1 = f2
  rotate_left
  · have HF := Lib.hid (mess_ne (f1 := f1) (f2 := f2) (d1 := d1) (d2 := d2) (n1 := n1) (n2 := n2) (s1 := s1) (s2 := s2) (l1 := l1) (l2 := l2) (.inl q0))
    clear hcall
    have HW := Lib.hid hW0
    clear hW0
    go_enter Try.func28, Try.ntmps28
    go_wp2
    go_ret
    exact ⟨by rw [HF.out]; rfl, by rw [HW.out] at HS; exact HS.out⟩
  subst q0
  by_cases q1 : d1 = d2
  rotate_left
  · have HF := Lib.hid (mess_ne (f1 := f1) (f2 := f1) (d1 := d1) (d2 := d2) (n1 := n1) (n2 := n2) (s1 := s1) (s2 := s2) (l1 := l1) (l2 := l2) (.inr (.inl q1)))
    clear hcall
    have HW := Lib.hid hW0
    clear hW0
    go_enter Try.func28, Try.ntmps28
    go_wp2
    go_ret
    exact ⟨by rw [HF.out]; rfl, by rw [HW.out] at HS; exact HS.out⟩
  subst q1
  by_cases q2 : n1 = n2
  rotate_left
  · have HF := Lib.hid (mess_ne (f1 := f1) (f2 := f1) (d1 := d1) (d2 := d1) (n1 := n1) (n2 := n2) (s1 := s1) (s2 := s2) (l1 := l1) (l2 := l2) (.inr (.inr (.inl q2))))
    clear hcall
    have HW := Lib.hid hW0
    clear hW0
    go_enter Try.func28, Try.ntmps28
    go_wp2
    go_ret
    exact ⟨by rw [HF.out]; rfl, by rw [HW.out] at HS; exact HS.out⟩
  subst q2
  by_cases q3 : s1 = s2
  rotate_left
  · have HF := Lib.hid (mess_ne (f1 := f1) (f2 := f1) (d1 := d1) (d2 := d1) (n1 := n1) (n2 := n1) (s1 := s1) (s2 := s2) (l1 := l1) (l2 := l2) (.inr (.inr (.inr q3))))
    clear hcall
    have HW := Lib.hid hW0
    clear hW0
    go_enter Try.func28, Try.ntmps28
    go_wp2
    go_ret
    exact ⟨by rw [HF.out]; rfl, by rw [HW.out] at HS; exact HS.out⟩
  subst q3
  have HF := Lib.hid (mess_eq (f1 := f1) (d1 := d1) (n1 := n1) (s1 := s1) (l1 := l1) (l2 := l2))
  subst hW0
  go_enter Try.func28, Try.ntmps28
  go_wp2_with fail
  refine hcall.out.mono ?_
  rintro e wn ⟨rfl, hSn⟩
  go_wp2
  go_ret
  exact ⟨by rw [HF.out]; rfl, HS.out.trans hSn⟩
theorem message_any (S : Nat → Prop) (a b : BT.Message) (va vb : Value) (w : World) (ha : AV S w va a) (hb : AV S w vb b) :
    Calls Try.prog 28 #[va, vb] w fun e w' => e = .returned (.bool (messB a b)) ∧ Step w w' := by
  obtain ⟨c, rfl, h1⟩ := ha.message
  obtain ⟨d, rfl, h2⟩ := hb.message
  exact message_core S _ _ _ _ _ _ _ _ _ _ _ _ _ h1 h2
end Go.Proofs.Ytgpiieogiafdoaa
/- Walks: alike: two books of the program. -/
namespace Go.Proofs.Ytgpiieogiafdoaa
set_option linter.unusedSimpArgs false
set_option linter.unusedVariables false
open Go.RowKit Go.BT

def alikeB (a b : Book) : Bool := decide (a = b)
theorem alike_ne {a b : Book} (h : a.agency ≠ b.agency ∨ a.seats ≠ b.seats ∨ a.off ≠ b.off ∨ a.sent ≠ b.sent ∨ a.took ≠ b.took ∨ a.cash ≠ b.cash) : alikeB a b = false := by
  simp only [alikeB, decide_eq_false_iff_not]
  rintro rfl
  simp at h
theorem ne_len {α : Type} {a b : List α} (h : a.length ≠ b.length) : a ≠ b := fun e => h (by rw [e])
theorem ne_at {α : Type} {a b : List α} {k : Nat} (ha : k < a.length) (hb : k < b.length) (h : a[k] ≠ b[k]) : a ≠ b := fun e => h (by subst e; rfl)
theorem take_hit {α : Type} {a b : List α} {k : Nat} (ha : k < a.length) (hb : k < b.length) (ht : a.take k = b.take k) (h : a[k] = b[k]) : a.take (k + 1) = b.take (k + 1) := by
  rw [List.take_succ_eq_append_getElem ha, List.take_succ_eq_append_getElem hb, ht, h]
theorem take_end {α : Type} {a b : List α} {k : Nat} (hl : a.length = b.length) (hk : ¬ k < a.length) (ht : a.take k = b.take k) : a = b := by
  rwa [List.take_of_length_le (by omega), List.take_of_length_le (by omega)] at ht

theorem neq_key (a b c d : Int) (w : World) : (binOp .neq 111 (.agg #[.int .i64 a, .int .i64 b]) (.agg #[.int .i64 c, .int .i64 d])).run Try.prog w = .ok (.bool (!(a == c && b == d))) w := by
  have h := equal_key ⟨a, b⟩ ⟨c, d⟩ w
  unfold Op.equal Op.maxDepth kv at h
  have e : decide ((⟨a, b⟩ : Key) = ⟨c, d⟩) = (a == c && b == d) := by simp [Bool.beq_eq_decide_eq]
  rw [e] at h
  rw [run_neq_struct, h]
  rfl
attribute [local go_sem] neq_key
set_option maxHeartbeats 4000000 in
theorem alike_core (S : Nat → Prop) (a1 a2 : Int) (s1 s2 : List (List Int)) (o1 o2 : List Bool) (n1 n2 : Int) (t1 t2 : List Key) (c1 c2 : Int) (x1 x2 x4 y1 y2 y4 : Value) (w : World) (hx1 : SL S w x1 s1) (hx2 : SL S w x2 o1) (hx4 : SL S w x4 t1) (hy1 : SL S w y1 s2) (hy2 : SL S w y2 o2) (hy4 : SL S w y4 t2) :
    Calls Try.prog 22 #[.agg #[.int .i64 a1, x1, x2, .int .i64 n1, x4, .int .i64 c1], .agg #[.int .i64 a2, y1, y2, .int .i64 n2, y4, .int .i64 c2]] w fun e w' => e = .returned (.bool (alikeB ⟨a1, s1, o1, n1, t1, c1⟩ ⟨a2, s2, o2, n2, t2, c2⟩)) ∧ Step w w' := by
  obtain ⟨px1, kx1, bx1, ox1, rfl, _, mx1, hpx1, hcx1, _⟩ := hx1.rows
  obtain ⟨px2, kx2, bx2, ox2, rfl, _, mx2, hpx2, hcx2, _⟩ := hx2.bools
  obtain ⟨px4, kx4, bx4, ox4, rfl, _, mx4, hpx4, hcx4, _⟩ := hx4.keys
  obtain ⟨py1, ky1, by1, oy1, rfl, _, my1, hpy1, hcy1, _⟩ := hy1.rows
  obtain ⟨py2, ky2, by2, oy2, rfl, _, my2, hpy2, hcy2, _⟩ := hy2.bools
  obtain ⟨py4, ky4, by4, oy4, rfl, _, my4, hpy4, hcy4, _⟩ := hy4.keys
  obtain ⟨W0, hW0⟩ : ∃ W0, W0 = (w.alloc (.cells #[.int .i64 a1, .slice px1 s1.length kx1, .slice px2 o1.length kx2, .int .i64 n1, .slice px4 t1.length kx4, .int .i64 c1] 39)).alloc (.cells #[.int .i64 a2, .slice py1 s2.length ky1, .slice py2 o2.length ky2, .int .i64 n2, .slice py4 t2.length ky4, .int .i64 c2] 39) := ⟨_, rfl⟩
  have hb1 : Bx W0 w.heap.size [.int .i64 a1, .slice px1 s1.length kx1, .slice px2 o1.length kx2, .int .i64 n1, .slice px4 t1.length kx4, .int .i64 c1] 39 := by subst hW0; exact (Bx.new _ _ _).alloc _
  have hb2 : Bx W0 (w.heap.size + 1) [.int .i64 a2, .slice py1 s2.length ky1, .slice py2 o2.length ky2, .int .i64 n2, .slice py4 t2.length ky4, .int .i64 c2] 39 := by subst hW0; exact Bx.new' _ _ _ _ (by simp)
  have hS : Step w W0 := by subst hW0; exact (by repeat (first | (with_reducible assumption) | (with_reducible exact Step.refl _) | (with_reducible apply Step.s_alloc) | (with_reducible apply Step.s_drew) | (with_reducible apply Step.s_drewN) | (with_reducible refine Step.trans ?_ (by with_reducible assumption))))
  have HB1 := Lib.hid hb1
  have HB2 := Lib.hid hb2
  have HS := Lib.hid hS
  have HX1 := Lib.hid (And.intro hpx1 hcx1)
  have HX2 := Lib.hid (And.intro hpx2 hcx2)
  have HX4 := Lib.hid (And.intro hpx4 hcx4)
  have HY1 := Lib.hid (And.intro hpy1 hcy1)
  have HY2 := Lib.hid (And.intro hpy2 hcy2)
  have HY4 := Lib.hid (And.intro hpy4 hcy4)
  have HW := Lib.hid hW0
  clear hx1 hx2 hx4 hy1 hy2 hy4 hpx1 hpx2 hpx4 hpy1 hpy2 hpy4 hcx1 hcx2 hcx4 hcy1 hcy2 hcy4 hb1 hb2 hS hW0
  by_cases qa : a1 = a2
  rotate_left
  · have HF := Lib.hid (alike_ne (a := ⟨a1, s1, o1, n1, t1, c1⟩) (b := ⟨a2, s2, o2, n2, t2, c2⟩) (.inl qa))
    clear HB1 HB2 HX1 HX2 HX4 HY1 HY2 HY4
    go_enter Try.func22, Try.ntmps22
    go_wp2
    go_ret
    exact ⟨by rw [HF.out]; rfl, by rw [HW.out] at HS; exact HS.out⟩
  subst qa
  by_cases qs : s1.length = s2.length
  rotate_left
  · have qsd : ((s1.length : Int) != (s2.length : Int)) = true := by simp; omega
    have qs := Lib.hid qs
    have HF := Lib.hid (alike_ne (a := ⟨a1, s1, o1, n1, t1, c1⟩) (b := ⟨a1, s2, o2, n2, t2, c2⟩) (.inr (.inl (ne_len qs.out))))
    clear HB1 HB2 HX1 HX2 HX4 HY1 HY2 HY4
    go_enter Try.func22, Try.ntmps22
    go_wp2
    go_ret
    exact ⟨by rw [HF.out]; rfl, by rw [HW.out] at HS; exact HS.out⟩
  have qsd : ((s1.length : Int) != (s2.length : Int)) = false := by simp; omega
  have Hqs := Lib.hid qs
  clear qs
  by_cases qo : o1.length = o2.length
  rotate_left
  · have qod : ((o1.length : Int) != (o2.length : Int)) = true := by simp; omega
    have qo := Lib.hid qo
    have HF := Lib.hid (alike_ne (a := ⟨a1, s1, o1, n1, t1, c1⟩) (b := ⟨a1, s2, o2, n2, t2, c2⟩) (.inr (.inr (.inl (ne_len qo.out)))))
    clear HB1 HB2 HX1 HX2 HX4 HY1 HY2 HY4
    go_enter Try.func22, Try.ntmps22
    go_wp2
    go_ret
    exact ⟨by rw [HF.out]; rfl, by rw [HW.out] at HS; exact HS.out⟩
  have qod : ((o1.length : Int) != (o2.length : Int)) = false := by simp; omega
  have Hqo := Lib.hid qo
  clear qo
  by_cases qn : n1 = n2
  rotate_left
  · have HF := Lib.hid (alike_ne (a := ⟨a1, s1, o1, n1, t1, c1⟩) (b := ⟨a1, s2, o2, n2, t2, c2⟩) (.inr (.inr (.inr (.inl qn)))))
    clear HB1 HB2 HX1 HX2 HX4 HY1 HY2 HY4
    go_enter Try.func22, Try.ntmps22
    go_wp2
    go_ret
    exact ⟨by rw [HF.out]; rfl, by rw [HW.out] at HS; exact HS.out⟩
  subst qn
  by_cases qt : t1.length = t2.length
  rotate_left
  · have qtd : ((t1.length : Int) != (t2.length : Int)) = true := by simp; omega
    have qt := Lib.hid qt
    have HF := Lib.hid (alike_ne (a := ⟨a1, s1, o1, n1, t1, c1⟩) (b := ⟨a1, s2, o2, n1, t2, c2⟩) (.inr (.inr (.inr (.inr (.inl (ne_len qt.out)))))))
    clear HB1 HB2 HX1 HX2 HX4 HY1 HY2 HY4
    go_enter Try.func22, Try.ntmps22
    go_wp2
    go_ret
    exact ⟨by rw [HF.out]; rfl, by rw [HW.out] at HS; exact HS.out⟩
  have qtd : ((t1.length : Int) != (t2.length : Int)) = false := by simp; omega
  have Hqt := Lib.hid qt
  clear qt
  by_cases qc : c1 = c2
  rotate_left
  · have HF := Lib.hid (alike_ne (a := ⟨a1, s1, o1, n1, t1, c1⟩) (b := ⟨a1, s2, o2, n1, t2, c2⟩) (.inr (.inr (.inr (.inr (.inr qc))))))
    clear HB1 HB2 HX1 HX2 HX4 HY1 HY2 HY4
    go_enter Try.func22, Try.ntmps22
    go_wp2
    go_ret
    exact ⟨by rw [HF.out]; rfl, by rw [HW.out] at HS; exact HS.out⟩
  subst qc
  go_enter Try.func22, Try.ntmps22
  go_wp2
  go_loopw [5] (fun i wr => ∃ k : Nat, k ≤ s1.length ∧ i = .int .i64 k ∧ s1.take k = s2.take k ∧ Step W0 wr) (fun i _ => s1.length - (intOf i).toNat)
  case atStart => exact ⟨0, Nat.zero_le _, rfl, rfl, by rw [HW.out]; exact Step.refl _⟩
  case round =>
    obtain ⟨k, hk, rfl, ht, hT⟩ := hrel
    have HA := Lib.hid ht
    have HT := Lib.hid hT
    clear ht hT qsd qod qtd
    obtain ⟨e0, e1, e2, e3, e4, e5⟩ := cells6 (HB1.out.step HT.out)
    obtain ⟨f0, f1, f2, f3, f4, f5⟩ := cells6 (HB2.out.step HT.out)
    by_cases hlt : k < s1.length
    · have hlt2 : k < s2.length := by have := Hqs.out; omega
      obtain rfl := HX1.out.1 (by omega)
      obtain rfl := HY1.out.1 (by omega)
      obtain ⟨u1, g1, hu1⟩ := HX1.out.2 k hlt
      obtain ⟨u2, g2, hu2⟩ := HY1.out.2 k hlt2
      have g1 := (HS.out.trans HT.out).keeps.cell id g1
      have g2 := (HS.out.trans HT.out).keeps.cell id g2
      have HU := Lib.hid (And.intro hu1 hu2)
      clear hu1 hu2
      have hix1 : (0 : Int) ≤ (k : Int) ∧ (k : Int) < (s1.length : Int) := by omega
      have hix2 : (0 : Int) ≤ (k : Int) ∧ (k : Int) < (s2.length : Int) := by omega
      go_upto_region 6 with fail
      refine wp_region_seq (kdOf [10] []) [0, 1, 0, 7, 15, 0, 32, 0, 224, 480, 1023, 2047] [0, 1, 2, 3, 4, 5, 6, 7, 8, 9, 10, 11] [] (by kernel_rfl) (by kernel_rfl) (fun i T z hi hk => by simp [kdOf] at hk <;> (try (split at hk <;> cases hk))) ?_
      intro Wx hWx
      have HTx := Lib.hid (HT.out.trans hWx)
      have g1 := hWx.keeps.cell id g1
      have g2 := hWx.keeps.cell id g2
      clear hWx e0 e1 e2 e3 e4 e5 f0 f1 f2 f3 f4 f5
      obtain ⟨e0, e1, e2, e3, e4, e5⟩ := cells6 (HB1.out.step HTx.out)
      obtain ⟨f0, f1, f2, f3, f4, f5⟩ := cells6 (HB2.out.step HTx.out)
      clear HT
      have HT := HTx
      clear HTx
      repeat (first | (refine run_off rfl rfl (by rfl) ?_; (try simp only [Act.put, List.setIfInBounds_toArray, List.set_cons_zero, List.set_cons_succ])) | (refine run_chain_off rfl rfl (by rfl) (K0_mono _) ?_; (try simp only [Act.put, List.setIfInBounds_toArray, List.set_cons_zero, List.set_cons_succ])) | ((refine run_want rfl rfl (by rfl) ⟨?_, fun W hW => ?_, ?_⟩; rotate_left; (· (have d0 := hW.keeps.cell id e1; have d1 := hW.keeps.cell id f1; have d2 := hW.keeps.cell id g1; have d3 := hW.keeps.cell id g2; go_simp; (try with_reducible rfl)))); (try simp only [Act.put, List.setIfInBounds_toArray, List.set_cons_zero, List.set_cons_succ])))
      refine run_chain rfl rfl (by rfl) (fun Wi hWi K' hK => ?_)
      have HTi := Lib.hid (HT.out.trans hWi)
      have HZW := Lib.hid HTi.out.size
      clear hWi HT
      go_simp
      refine (ints_any S s1[k] s2[k] _ _ _ (HU.out.1.keep (.of_step (HS.out.trans HTi.out))) (HU.out.2.keep (.of_step (HS.out.trans HTi.out)))).mono ?_
      rintro e wn ⟨rfl, hSn⟩
      have HT := Lib.hid (HTi.out.trans (StepX.of hSn))
      clear HTi
      cases q : intsB s1[k] s2[k] with
      | false =>
        have HF := Lib.hid (alike_ne (a := ⟨a1, s1, o1, n1, t1, c1⟩) (b := ⟨a1, s2, o2, n1, t2, c1⟩) (.inr (.inl (ne_at hlt hlt2 (by simpa [intsB] using q)))))
        clear q
        refine hK _ _ (StepX.of hSn) ?_
        clear hSn
        (try simp only [Act.put, List.setIfInBounds_toArray, List.set_cons_zero, List.set_cons_succ])
        repeat (first | (refine run_off rfl rfl (by rfl) ?_; (try simp only [Act.put, List.setIfInBounds_toArray, List.set_cons_zero, List.set_cons_succ])) | (refine run_chain_off rfl rfl (by rfl) (K0_mono _) ?_; (try simp only [Act.put, List.setIfInBounds_toArray, List.set_cons_zero, List.set_cons_succ])) | ((refine run_want rfl rfl (by rfl) ⟨?_, fun W hW => ?_, ?_⟩; rotate_left; (· (obtain ⟨hc'', hf''⟩ := hW.cells; go_simp; (try with_reducible rfl)))); (try simp only [Act.put, List.setIfInBounds_toArray, List.set_cons_zero, List.set_cons_succ])))
        refine run_end (L := []) rfl (fun W6 hW6 => ?_)
        have HT6 := Lib.hid (HT.out.trans hW6)
        clear hW6 HT
        have HT := HT6
        clear HT6
        go_wp2
        go_ret
        exact ⟨by rw [HF.out]; rfl, HS.out.trans HT.out⟩
      | true =>
        have HQ := Lib.hid (show s1[k] = s2[k] by simpa [intsB] using q)
        clear q
        refine hK _ _ (StepX.of hSn) ?_
        clear hSn
        (try simp only [Act.put, List.setIfInBounds_toArray, List.set_cons_zero, List.set_cons_succ])
        repeat (first | (refine run_off rfl rfl (by rfl) ?_; (try simp only [Act.put, List.setIfInBounds_toArray, List.set_cons_zero, List.set_cons_succ])) | (refine run_chain_off rfl rfl (by rfl) (K0_mono _) ?_; (try simp only [Act.put, List.setIfInBounds_toArray, List.set_cons_zero, List.set_cons_succ])) | ((refine run_want rfl rfl (by rfl) ⟨?_, fun W hW => ?_, ?_⟩; rotate_left; (· (obtain ⟨hc'', hf''⟩ := hW.cells; go_simp; (try with_reducible rfl)))); (try simp only [Act.put, List.setIfInBounds_toArray, List.set_cons_zero, List.set_cons_succ])))
        refine run_end (L := []) rfl (fun W6 hW6 => ?_)
        have HT6 := Lib.hid (HT.out.trans hW6)
        clear hW6 HT
        have HT := HT6
        clear HT6
        go_wp2
        go_roundw
        case rel => exact ⟨k + 1, by omega, by go_num, take_hit hlt hlt2 HA.out HQ.out, HT.out⟩
        case measure => simp [intOf]; omega
    · have HE1 := Lib.hid (take_end Hqs.out hlt HA.out)
      clear HA
      go_wp2
      obtain ⟨wo, hwo⟩ : ∃ W, W = wr := ⟨_, rfl⟩
      subst hwo
      clear e0 e1 e2 e3 e4 e5 f0 f1 f2 f3 f4 f5
      go_loopw [6] (fun i wr => ∃ k : Nat, k ≤ o1.length ∧ i = .int .i64 k ∧ o1.take k = o2.take k ∧ Step W0 wr) (fun i _ => o1.length - (intOf i).toNat)
      case atStart => exact ⟨0, Nat.zero_le _, rfl, rfl, HT.out⟩
      case round =>
        obtain ⟨k, hk, rfl, ht, hT⟩ := hrel
        have HA := Lib.hid ht
        have HT := Lib.hid hT
        clear ht hT
        obtain ⟨e0, e1, e2, e3, e4, e5⟩ := cells6 (HB1.out.step HT.out)
        obtain ⟨f0, f1, f2, f3, f4, f5⟩ := cells6 (HB2.out.step HT.out)
        by_cases hlt : k < o1.length
        · have hlt2 : k < o2.length := by have := Hqo.out; omega
          obtain rfl := HX2.out.1 (by omega)
          obtain rfl := HY2.out.1 (by omega)
          have g1 := (HS.out.trans HT.out).keeps.cell id (HX2.out.2 k hlt)
          have g2 := (HS.out.trans HT.out).keeps.cell id (HY2.out.2 k hlt2)
          have hix1 : (0 : Int) ≤ (k : Int) ∧ (k : Int) < (o1.length : Int) := by omega
          have hix2 : (0 : Int) ≤ (k : Int) ∧ (k : Int) < (o2.length : Int) := by omega
          have HQ := Lib.hid (show ∃ x y, o1[k] = x ∧ o2[k] = y from ⟨_, _, rfl, rfl⟩)
          obtain ⟨x, y, hx, hy⟩ := HQ.out
          rw [hx] at g1
          rw [hy] at g2
          have HX := Lib.hid hx
          have HY := Lib.hid hy
          clear HQ hx hy
          by_cases q : x = y
          · have HQ := Lib.hid (HX.out.trans (q.trans HY.out.symm))
            subst q
            go_wp2
            go_quiet (fail)
            go_wp2
            go_roundw
            case rel => exact ⟨k + 1, by omega, by go_num, take_hit hlt hlt2 HA.out HQ.out, HT.out.trans (Step.drewN _ _)⟩
            case measure => simp [intOf]; omega
          · have HF := Lib.hid (alike_ne (a := ⟨a1, s1, o1, n1, t1, c1⟩) (b := ⟨a1, s2, o2, n1, t2, c1⟩) (.inr (.inr (.inl (ne_at hlt hlt2 (by rw [HX.out, HY.out]; exact q))))))
            obtain rfl : x = !y := by cases x <;> cases y <;> simp at q ⊢
            clear q
            cases y
            all_goals
              go_wp2
              go_quiet (fail)
              go_wp2
              go_ret
              exact ⟨by rw [HF.out]; rfl, HS.out.trans (HT.out.trans (Step.drewN _ _))⟩
        · have HE2 := Lib.hid (take_end Hqo.out hlt HA.out)
          clear HA
          go_wp2
          obtain ⟨wo, hwo⟩ : ∃ W, W = wr := ⟨_, rfl⟩
          subst hwo
          clear e0 e1 e2 e3 e4 e5 f0 f1 f2 f3 f4 f5
          go_loopw [7] (fun i wr => ∃ k : Nat, k ≤ t1.length ∧ i = .int .i64 k ∧ t1.take k = t2.take k ∧ Step W0 wr) (fun i _ => t1.length - (intOf i).toNat)
          case atStart => exact ⟨0, Nat.zero_le _, rfl, rfl, HT.out⟩
          case round =>
            obtain ⟨k, hk, rfl, ht, hT⟩ := hrel
            have HA := Lib.hid ht
            have HT := Lib.hid hT
            clear ht hT
            obtain ⟨e0, e1, e2, e3, e4, e5⟩ := cells6 (HB1.out.step HT.out)
            obtain ⟨f0, f1, f2, f3, f4, f5⟩ := cells6 (HB2.out.step HT.out)
            by_cases hlt : k < t1.length
            · have hlt2 : k < t2.length := by have := Hqt.out; omega
              obtain rfl := HX4.out.1 (by omega)
              obtain rfl := HY4.out.1 (by omega)
              obtain ⟨g1, g3⟩ := HX4.out.2 k hlt
              obtain ⟨g2, g4⟩ := HY4.out.2 k hlt2
              have g1 := (HS.out.trans HT.out).keeps.cell id g1
              have g2 := (HS.out.trans HT.out).keeps.cell id g2
              have g3 := (HS.out.trans HT.out).keeps.cell id g3
              have g4 := (HS.out.trans HT.out).keeps.cell id g4
              have hix1 : (0 : Int) ≤ (k : Int) ∧ (k : Int) < (t1.length : Int) := by omega
              have hix2 : (0 : Int) ≤ (k : Int) ∧ (k : Int) < (t2.length : Int) := by omega
              obtain ⟨x, y, hx, hy⟩ := (show ∃ x y, t1[k] = x ∧ t2[k] = y from ⟨_, _, rfl, rfl⟩)
              rw [hx] at g1 g3
              rw [hy] at g2 g4
              have HX := Lib.hid hx
              have HY := Lib.hid hy
              clear hx hy
              obtain ⟨xf, xn⟩ := x
              obtain ⟨yf, yn⟩ := y
              dsimp only at g1 g2 g3 g4
              by_cases q1 : xf = yf
              · subst q1
                by_cases q2 : xn = yn
                · have HQ := Lib.hid (HX.out.trans ((show (⟨xf, xn⟩ : Key) = ⟨xf, yn⟩ by rw [q2]).trans HY.out.symm))
                  subst q2
                  go_wp2
                  go_quiet (fail)
                  go_wp2
                  go_roundw
                  case rel => exact ⟨k + 1, by omega, by go_num, take_hit hlt hlt2 HA.out HQ.out, HT.out.trans (Step.drewN _ _)⟩
                  case measure => simp [intOf]; omega
                · have HF := Lib.hid (alike_ne (a := ⟨a1, s1, o1, n1, t1, c1⟩) (b := ⟨a1, s2, o2, n1, t2, c1⟩) (.inr (.inr (.inr (.inr (.inl (ne_at hlt hlt2 (by rw [HX.out, HY.out]; simpa using q2))))))))
                  go_wp2
                  go_quiet (fail)
                  go_wp2
                  go_ret
                  exact ⟨by rw [HF.out]; rfl, HS.out.trans (HT.out.trans (Step.drewN _ _))⟩
              · have HF := Lib.hid (alike_ne (a := ⟨a1, s1, o1, n1, t1, c1⟩) (b := ⟨a1, s2, o2, n1, t2, c1⟩) (.inr (.inr (.inr (.inr (.inl (ne_at hlt hlt2 (by rw [HX.out, HY.out]; simp [q1]))))))))
                go_wp2
                go_quiet (fail)
                go_wp2
                go_ret
                exact ⟨by rw [HF.out]; rfl, HS.out.trans (HT.out.trans (Step.drewN _ _))⟩
            · have HE3 := Lib.hid (take_end Hqt.out hlt HA.out)
              go_wp2
              go_ret
              exact ⟨by rw [HE1.out, HE2.out, HE3.out]; simp [alikeB], HS.out.trans HT.out⟩
theorem alike_any (S : Nat → Prop) (a b : Book) (va vb : Value) (w : World) (ha : AV S w va a) (hb : AV S w vb b) :
    Calls Try.prog 22 #[va, vb] w fun e w' => e = .returned (.bool (alikeB a b)) ∧ Step w w' := by
  obtain ⟨x1, x2, x4, rfl, h1, h2, h4⟩ := ha.book
  obtain ⟨y1, y2, y4, rfl, k1, k2, k4⟩ := hb.book
  exact alike_core S _ _ _ _ _ _ _ _ _ _ _ _ _ _ _ _ _ _ _ h1 h2 h4 k1 k2 k4
end Go.Proofs.Ytgpiieogiafdoaa
/- Walks: the law's awake: it is true. -/
namespace Go.Proofs.Ytgpiieogiafdoaa
set_option linter.unusedSimpArgs false
set_option linter.unusedVariables false
open Go.RowKit Go.BT

theorem tentB_av {S : Nat → Prop} {w : World} {v : Value} (h : AV S w v tentB) : ∃ p1 c1 bb oo v1 p2 c2 p4 c4, v = .agg #[.int .i64 0, .slice (some ⟨bb, oo, none⟩) 2 c1, .slice p2 2 c2, .int .i64 0, .slice p4 0 c4, .int .i64 0] ∧ w.cell? ⟨bb, oo + 1, none⟩ = some (.slice p1 5 v1) ∧ SL S w (.slice p1 5 v1) [0, -1, 0, -1, -1] ∧ AV S w v tentB := by
  obtain ⟨d1, d2, d4, hv, s1, s2, s4⟩ := h.book
  obtain ⟨p1, k1, bb, oo, rfl, _, _, hp, hc, _⟩ := s1.rows
  obtain ⟨p2, k2, rfl⟩ := s2.form
  obtain ⟨p4, k4, rfl⟩ := s4.form
  obtain rfl := hp (by decide)
  obtain ⟨u, hu, hu2⟩ := hc 1 (by decide)
  obtain ⟨pu, cu, rfl⟩ := hu2.form
  exact ⟨pu, k1, bb, oo, cu, p2, k2, p4, k4, hv, hu, hu2, h⟩
theorem _root_.Go.BT.SL.moves {S : Nat → Prop} {w : World} {v : Value} {l : List BT.Move} (h : SL S w v l) :
    ∃ p c b o, v = .slice p l.length c ∧ l.length ≤ c ∧ l.length ≤ 9223372036854775807 ∧ (0 < l.length → p = some ⟨b, o, none⟩) ∧
      (∀ i (h : i < l.length), w.cell? ⟨b, o + i * 3, none⟩ = some (.int .i64 l[i].seat) ∧ w.cell? ⟨b, o + i * 3 + 1, none⟩ = some (.int .i64 l[i].shw) ∧ w.cell? ⟨b, o + i * 3 + 2, none⟩ = some (.int .i64 l[i].at_)) ∧ (0 < l.length → b < w.heap.size ∧ ¬ S b) := by
  obtain ⟨p, c, b, o, hv, hc, hm, hp, ha⟩ := h
  refine ⟨p, c, b, o, hv, hc, hm, hp, fun i hi => ?_, fun h0 => ⟨(ha 0 h0).1, (ha 0 h0).2.1⟩⟩
  obtain ⟨_, _, cs, hr, hcs⟩ := ha i hi
  have hr' : cs = [.int .i64 l[i].seat, .int .i64 l[i].shw, .int .i64 l[i].at_] := hr
  subst hr'
  exact ⟨hcs 0 _ rfl, hcs 1 _ rfl, hcs 2 _ rfl⟩
theorem AV.triv {α : Type} [Rep α] {S : Nat → Prop} {w : World} {v : Value} {x : α} (h : AV S w v x) : AV (fun _ => False) w v x := h.weak fun _ _ h => h.elim
theorem AV.later {α : Type} [Rep α] {S : Nat → Prop} {W w1 w' : World} {v : Value} {x : α} (h : AV (Old W) w1 v x) (hs : ∀ j, j < w1.heap.size → S j → j < W.heap.size) (hk : Keeps S w1 w') : AV S w' v x :=
  (h.weak hs).keep hk
set_option maxRecDepth 100000 in
set_option maxHeartbeats 4000000 in
theorem awake_any (w : World) : Calls Try.prog 7 #[] w fun e w' => e = .returned (.bool true) ∧ Step w w' := by
  go_enter Try.func7, Try.ntmps7
  have HT := Lib.hid (Step.refl w)
  go_wp2_with fail
  refine (Tent_any _).mono ?_
  rintro e wn ⟨v1, rfl, hv1, hSn⟩
  have HTi := Lib.hid (HT.out.trans hSn)
  clear hSn HT
  have HT := HTi
  clear HTi
  go_wp2_with fail
  refine (Class_any _ tentH 2 _ _ hv1).mono ?_
  rintro e wn ⟨rfl, hSn⟩
  have HTi := Lib.hid (HT.out.trans hSn)
  clear hSn HT
  have HT := HTi
  clear HTi
  rw [tent_class]
  clear hv1
  go_wp2_with fail
  refine (Tent_any _).mono ?_
  rintro e wn ⟨v1, rfl, hv1, hSn⟩
  have HTi := Lib.hid (HT.out.trans hSn)
  clear hSn HT
  have HT := HTi
  clear HTi
  go_wp2_with fail
  refine (Open_any _ tentH 0 _ _ hv1).mono ?_
  rintro e wn ⟨v2, rfl, hv2, hSn⟩
  have HTi := Lib.hid (HT.out.trans hSn)
  clear hSn HT
  have HT := HTi
  clear HTi
  rw [tent_open] at hv2 ⊢
  dsimp only at hv2
  clear hv1
  obtain ⟨p1, c1, bb, oo, k1, p2, c2, p4, c4, rfl, g1, g2, hb⟩ := tentB_av hv2
  have HG := Lib.hid (And.intro g1 (And.intro g2 hb))
  clear g1 g2 hb hv2
  go_upto_region 3 with (fail)
  have hbB := Bx.new wn [.int .i64 0, .slice (some ⟨bb, oo, none⟩) 2 c1, .slice p2 2 c2, .int .i64 0, .slice p4 0 c4, .int .i64 0] 39
  have hST := HT.out.trans (Step.alloc wn (.cells #[.int .i64 0, .slice (some ⟨bb, oo, none⟩) 2 c1, .slice p2 2 c2, .int .i64 0, .slice p4 0 c4, .int .i64 0] 39))
  have hav := AV.triv (HG.out.2.2.keep (.of_step (Step.alloc wn (.cells #[.int .i64 0, .slice (some ⟨bb, oo, none⟩) 2 c1, .slice p2 2 c2, .int .i64 0, .slice p4 0 c4, .int .i64 0] 39))))
  have hsl := SL.weak (T := fun _ => False) (fun _ _ h => h.elim) (HG.out.2.1.keep (.of_step (Step.alloc wn (.cells #[.int .i64 0, .slice (some ⟨bb, oo, none⟩) 2 c1, .slice p2 2 c2, .int .i64 0, .slice p4 0 c4, .int .i64 0] 39))))
  have g1 := (Step.alloc wn (.cells #[.int .i64 0, .slice (some ⟨bb, oo, none⟩) 2 c1, .slice p2 2 c2, .int .i64 0, .slice p4 0 c4, .int .i64 0] 39)).keeps.cell id HG.out.1
  clear HG HT
  generalize wn.alloc (.cells #[.int .i64 0, .slice (some ⟨bb, oo, none⟩) 2 c1, .slice p2 2 c2, .int .i64 0, .slice p4 0 c4, .int .i64 0] 39) = W0 at *
  generalize wn.heap.size = gB at *
  have HT := Lib.hid hST
  have HB := Lib.hid hbB
  have HAB := Lib.hid hav
  have HSL := Lib.hid hsl
  obtain ⟨f0, f1, f2, f3, f4, f5⟩ := cells6 HB.out
  have hix : (0 : Int) ≤ 1 ∧ (1 : Int) < 2 := by omega
  clear hST hbB hav hsl
  go_wp2_with fail
  refine (ints_any _ [0, -1, 0, -1, -1] [0, -1, 0, -1, -1] _ _ _ (HSL.out.keep (.alloc _ _)) (SL.bx_ints (l := [0, -1, 0, -1, -1]) (Bx.new _ _ _) (fun h => h) 5 (by decide) (by decide))).mono ?_
  rintro e wm ⟨rfl, hSm⟩
  rw [show intsB [0, -1, 0, -1, -1] [0, -1, 0, -1, -1] = true from by decide]
  have HTi := Lib.hid ((HT.out.trans (Step.alloc _ _)).trans hSm)
  have HTB := Lib.hid ((Step.alloc _ _).trans hSm)
  clear hSm
  have HZM := Lib.hid (show w.heap.size ≤ wm.heap.size ∧ W0.heap.size ≤ wm.heap.size from ⟨HTi.out.size, HTB.out.size⟩)
  clear HT f0 f1 f2 f3 f4 f5 g1 HSL
  have HT := HTi
  clear HTi
  go_upto_region 5 with (fail)
  clear hix
  refine wp_region_seqM (fun c d v a w h => by cases d <;> exact h) (kdOf [0, 2] [(6, 39, .agg #[.int .i64 0, .slice none 0 0, .slice none 0 0, .int .i64 0, .slice none 0 0, .int .i64 0])]) [0, 0, 3, 7, 15, 15, 0, 95, 255] [1, 0, 2, 3, 4, 5, 6] [7, 8] (by kernel_rfl) (by kernel_rfl) (fun i T z hi hk => by simp only [List.mem_cons, List.not_mem_nil, or_false] at hi; rcases hi with rfl | rfl | rfl | rfl | rfl | rfl | rfl <;> simp [kdOf] at hk <;> (obtain ⟨rfl, rfl⟩ := hk; first | (show Option.bind _ _ = some _; kernel_rfl) | (refine ⟨_, rfl, fun _ _ => ?_⟩; go_simp))) ?_
  intro Wx hWx
  have HTx := Lib.hid (HT.out.trans hWx)
  have HTBx := Lib.hid (HTB.out.trans hWx)
  clear hWx HT HTB
  have HT := HTx
  have HTB := HTBx
  clear HTx HTBx
  obtain ⟨f0, f1, f2, f3, f4, f5⟩ := cells6 (HB.out.step HTB.out)
  repeat (first | (refine run_off rfl rfl (by rfl) ?_; (try simp only [Act.put, List.setIfInBounds_toArray, List.set_cons_zero, List.set_cons_succ])) | (refine run_chain_off rfl rfl (by rfl) (K0_mono _) ?_; (try simp only [Act.put, List.setIfInBounds_toArray, List.set_cons_zero, List.set_cons_succ])) | ((refine run_want rfl rfl (by rfl) ⟨?_, fun W hW => ?_, ?_⟩; rotate_left; (· (have d0 := hW.keeps.cell id f0; have d1 := hW.keeps.cell id f1; have d2 := hW.keeps.cell id f2; have d3 := hW.keeps.cell id f3; have d4 := hW.keeps.cell id f4; have d5 := hW.keeps.cell id f5; go_simp; (try with_reducible rfl)))); (try simp only [Act.put, List.setIfInBounds_toArray, List.set_cons_zero, List.set_cons_succ])))
  clear f0 f1 f2 f3 f4 f5
  refine run_chain rfl rfl (by rfl) (fun Wi hWi K' hK => ?_)
  have HTi := Lib.hid (HT.out.trans hWi)
  have HTBi := Lib.hid (HTB.out.trans hWi)
  clear hWi HT HTB
  go_simp
  refine (Tent_any _).mono ?_
  rintro e w5 ⟨v5, rfl, hv5, hS5⟩
  have HV5 := Lib.hid (AV.triv hv5)
  have HT := Lib.hid (HTi.out.trans hS5)
  have HTB := Lib.hid (HTBi.out.trans hS5)
  clear hv5 HTi HTBi
  refine hK _ _ hS5 ?_
  clear hS5 hK
  (try simp only [Act.put, List.setIfInBounds_toArray, List.set_cons_zero, List.set_cons_succ])
  repeat (first | (refine run_off rfl rfl (by rfl) ?_; (try simp only [Act.put, List.setIfInBounds_toArray, List.set_cons_zero, List.set_cons_succ])) | (refine run_chain_off rfl rfl (by rfl) (K0_mono _) ?_; (try simp only [Act.put, List.setIfInBounds_toArray, List.set_cons_zero, List.set_cons_succ])) | ((refine run_want rfl rfl (by rfl) ⟨?_, fun W hW => ?_, ?_⟩; rotate_left; (· (skip; go_simp; (try with_reducible rfl)))); (try simp only [Act.put, List.setIfInBounds_toArray, List.set_cons_zero, List.set_cons_succ])))
  refine run_chain rfl rfl (by rfl) (fun Wi hWi K' hK => ?_)
  have HTi := Lib.hid (HT.out.trans hWi)
  have HTBi := Lib.hid (HTB.out.trans hWi)
  have HV6 := Lib.hid (HV5.out.keep (.of_step hWi))
  clear hWi HT HTB HV5
  go_simp
  refine (Sell_any _ tentH tentB _ _ 0 2 7 3 _ HV6.out (HAB.out.keep (.of_step HTBi.out))).mono ?_
  rintro e w6 ⟨v6, rfl, hv6, hS6⟩
  rw [tent_sell] at hv6 ⊢
  dsimp only at hv6
  obtain ⟨x1, x2, x4, rfl, s1, s2, s4⟩ := hv6.book
  obtain ⟨q1, m1, rfl⟩ := s1.form
  obtain ⟨q2, m2, rfl⟩ := s2.form
  obtain ⟨q4, m4, rfl⟩ := s4.form
  have HV6 := Lib.hid hv6
  have HT := Lib.hid (HTi.out.trans hS6)
  have HTB := Lib.hid (HTBi.out.trans hS6)
  clear s1 s2 s4 hv6 HTi HTBi
  refine hK _ _ hS6 ?_
  clear hS6 hK
  (try simp only [Act.put, List.setIfInBounds_toArray, List.set_cons_zero, List.set_cons_succ])
  repeat (first | (refine run_off rfl rfl (by rfl) ?_; (try simp only [Act.put, List.setIfInBounds_toArray, List.set_cons_zero, List.set_cons_succ])) | (refine run_chain_off rfl rfl (by rfl) (K0_mono _) ?_; (try simp only [Act.put, List.setIfInBounds_toArray, List.set_cons_zero, List.set_cons_succ])) | ((refine run_want rfl rfl (by rfl) ⟨?_, fun W hW => ?_, ?_⟩; rotate_left; (· (skip; go_simp; (try with_reducible rfl)))); (try simp only [Act.put, List.setIfInBounds_toArray, List.set_cons_zero, List.set_cons_succ])))
  refine run_alloc rfl rfl (fun W5 g hW5 hg hgb hgN => ?_)
  (try simp only [Act.put, List.setIfInBounds_toArray, List.set_cons_zero, List.set_cons_succ])
  refine run_end (L := [_, _]) rfl (fun W6 hW6 => ?_)
  have hb6 := Bx.step (w := W5) (cs := [_, _, _, _, _, _]) hg hW6
  refine wpl_store (v := .agg #[.int .i64 tentC.agency, .slice q1 tentC.seats.length m1, .slice q2 tentC.off.length m2, .int .i64 tentC.sent, .slice q4 tentC.took.length m4, .int .i64 tentC.cash]) rfl _ _ _ rfl rfl rfl hb6 (by kernel_rfl) (by simp [Value.cells]) (by simp [Value.cells, Value.oneCell']) [.int .i64 tentC.agency, .slice q1 tentC.seats.length m1, .slice q2 tentC.off.length m2, .int .i64 tentC.sent, .slice q4 tentC.took.length m4, .int .i64 tentC.cash] rfl (fun w7 hb7 hw7 => ?_)
  have hg0 := HZM.out
  have HVC := Lib.hid (AV.triv (AV.later (S := fun j => j = g) (w' := w7) HV6.out (fun j hj hs => by omega) ((Keeps.of_step (hW5.trans hW6)).trans (.wrote hw7 rfl))))
  have HTx := Lib.hid (Step.wrote ((HT.out.trans hW5).trans hW6) hw7 (by omega))
  have HTBx := Lib.hid (Step.wrote ((HTB.out.trans hW5).trans hW6) hw7 (by omega))
  have HC := Lib.hid hb7
  have HZM7 := Lib.hid (show w.heap.size ≤ w7.heap.size ∧ W0.heap.size ≤ w7.heap.size by have := hb7.lt; omega)
  clear hW5 hg hgb hgN hW6 hb6 hb7 hw7 HV6 HT HTB hg0 HZM
  have HT := HTx
  have HTB := HTBx
  clear HTx HTBx
  go_upto_region 6 with (fail)
  refine wp_region_seqM (fun c d v a w h => by cases d <;> exact h) (kdOf [0, 2] [(7, 39, .agg #[.int .i64 0, .slice none 0 0, .slice none 0 0, .int .i64 0, .slice none 0 0, .int .i64 0])]) [0, 0, 3, 7, 15, 15, 15, 0, 159, 447, 1023] [1, 0, 2, 3, 4, 5, 6, 7] [8, 9, 10] (by kernel_rfl) (by kernel_rfl) (fun i T z hi hk => by simp only [List.mem_cons, List.not_mem_nil, or_false] at hi; rcases hi with rfl | rfl | rfl | rfl | rfl | rfl | rfl | rfl <;> simp [kdOf] at hk <;> (obtain ⟨rfl, rfl⟩ := hk; first | (show Option.bind _ _ = some _; kernel_rfl) | (refine ⟨_, rfl, fun _ _ => ?_⟩; go_simp))) ?_
  intro Wx hWx
  have HTx := Lib.hid (HT.out.trans hWx)
  have HTBx := Lib.hid (HTB.out.trans hWx)
  have HWX := Lib.hid hWx
  clear hWx HT HTB
  have HT := HTx
  have HTB := HTBx
  clear HTx HTBx
  obtain ⟨f0, f1, f2, f3, f4, f5⟩ := cells6 (HC.out.step HWX.out)
  repeat (first | (refine run_off rfl rfl (by rfl) ?_; (try simp only [Act.put, List.setIfInBounds_toArray, List.set_cons_zero, List.set_cons_succ])) | (refine run_chain_off rfl rfl (by rfl) (K0_mono _) ?_; (try simp only [Act.put, List.setIfInBounds_toArray, List.set_cons_zero, List.set_cons_succ])) | ((refine run_want rfl rfl (by rfl) ⟨?_, fun W hW => ?_, ?_⟩; rotate_left; (· (have d0 := hW.keeps.cell id f0; have d1 := hW.keeps.cell id f1; have d2 := hW.keeps.cell id f2; have d3 := hW.keeps.cell id f3; have d4 := hW.keeps.cell id f4; have d5 := hW.keeps.cell id f5; go_simp; (try with_reducible rfl)))); (try simp only [Act.put, List.setIfInBounds_toArray, List.set_cons_zero, List.set_cons_succ])))
  clear f0 f1 f2 f3 f4 f5
  have HVC6 := Lib.hid (HVC.out.keep (.of_step HWX.out))
  have HTC := Lib.hid (Step.refl Wx)
  refine run_chain rfl rfl (by rfl) (fun Wi hWi K' hK => ?_)
  have HTi := Lib.hid (HT.out.trans hWi)
  have HTCi := Lib.hid (HTC.out.trans hWi)
  have HTBi := Lib.hid (HTB.out.trans hWi)
  clear hWi HT HTB HTC
  go_simp
  refine (Tent_any _).mono ?_
  rintro e w8 ⟨v8, rfl, hv5, hS5⟩
  have HV5 := Lib.hid (AV.triv hv5)
  have HT := Lib.hid (HTi.out.trans hS5)
  have HTB := Lib.hid (HTBi.out.trans hS5)
  have HTC := Lib.hid (HTCi.out.trans hS5)
  clear hv5 HTi HTBi HTCi
  refine hK _ _ hS5 ?_
  clear hS5 hK
  (try simp only [Act.put, List.setIfInBounds_toArray, List.set_cons_zero, List.set_cons_succ])
  repeat (first | (refine run_off rfl rfl (by rfl) ?_; (try simp only [Act.put, List.setIfInBounds_toArray, List.set_cons_zero, List.set_cons_succ])) | (refine run_chain_off rfl rfl (by rfl) (K0_mono _) ?_; (try simp only [Act.put, List.setIfInBounds_toArray, List.set_cons_zero, List.set_cons_succ])) | ((refine run_want rfl rfl (by rfl) ⟨?_, fun W hW => ?_, ?_⟩; rotate_left; (· (skip; go_simp; (try with_reducible rfl)))); (try simp only [Act.put, List.setIfInBounds_toArray, List.set_cons_zero, List.set_cons_succ])))
  refine run_chain rfl rfl (by rfl) (fun Wi hWi K' hK => ?_)
  have HTi := Lib.hid (HT.out.trans hWi)
  have HTBi := Lib.hid (HTB.out.trans hWi)
  have HTCi := Lib.hid (HTC.out.trans hWi)
  have HV6 := Lib.hid (HV5.out.keep (.of_step hWi))
  clear hWi HT HTB HV5 HTC
  go_simp
  refine (Lose_any _ tentH tentC _ _ 0 4 _ HV6.out (HVC6.out.keep (.of_step HTCi.out))).mono ?_
  rintro e w9 ⟨v9, l9, rfl, hv6, hl9, hS6⟩
  rw [tent_lose] at hv6 hl9 ⊢
  dsimp only [bookOf, actR, restOf] at hv6 hl9
  simp only [bookOf, actR]
  obtain ⟨x1, x2, x4, rfl, s1, s2, s4⟩ := hv6.book
  obtain ⟨q1', m1', rfl⟩ := s1.form
  obtain ⟨q2', m2', rfl⟩ := s2.form
  obtain ⟨q4', m4', rfl⟩ := s4.form
  obtain ⟨pl, cl, bl, ol, rfl, _, _, hpl, hcl, hbl⟩ := hl9.moves
  obtain rfl := hpl (by decide)
  have hcl := hcl 0 (by decide)
  have hbl := hbl (by decide)
  have HCL := Lib.hid (And.intro hcl hbl)
  have HT := Lib.hid (HTi.out.trans hS6)
  have HTB := Lib.hid (HTBi.out.trans hS6)
  have HTC := Lib.hid (HTCi.out.trans hS6)
  clear s1 s2 s4 hv6 HTi HTBi HTCi hcl hbl hpl hl9
  refine hK _ _ hS6 ?_
  clear hS6 hK
  (try simp only [Act.put, List.setIfInBounds_toArray, List.set_cons_zero, List.set_cons_succ])
  repeat (first | (refine run_off rfl rfl (by rfl) ?_; (try simp only [Act.put, List.setIfInBounds_toArray, List.set_cons_zero, List.set_cons_succ])) | (refine run_chain_off rfl rfl (by rfl) (K0_mono _) ?_; (try simp only [Act.put, List.setIfInBounds_toArray, List.set_cons_zero, List.set_cons_succ])) | ((refine run_want rfl rfl (by rfl) ⟨?_, fun W hW => ?_, ?_⟩; rotate_left; (· (skip; go_simp; (try with_reducible rfl)))); (try simp only [Act.put, List.setIfInBounds_toArray, List.set_cons_zero, List.set_cons_succ])))
  refine run_alloc rfl rfl (fun W5 g2 hW5 hg hgb hgN => ?_)
  (try simp only [Act.put, List.setIfInBounds_toArray, List.set_cons_zero, List.set_cons_succ])
  refine run_end (L := [_, _, _]) rfl (fun W6 hW6 => ?_)
  have hb6 := Bx.step (w := W5) (cs := [_, _, _, _, _, _]) hg hW6
  refine wpl_store (v := .agg #[.int .i64 tentD.agency, .slice q1' tentD.seats.length m1', .slice q2' tentD.off.length m2', .int .i64 tentD.sent, .slice q4' tentD.took.length m4', .int .i64 tentD.cash]) rfl _ _ _ rfl rfl rfl hb6 (by kernel_rfl) (by simp [Value.cells]) (by simp [Value.cells, Value.oneCell']) [.int .i64 tentD.agency, .slice q1' tentD.seats.length m1', .slice q2' tentD.off.length m2', .int .i64 tentD.sent, .slice q4' tentD.took.length m4', .int .i64 tentD.cash] rfl (fun w10 hb10 hw10 => ?_)
  have hg0 := HZM7.out
  have hcl := HCL.out.1
  have hbl := HCL.out.2
  have hk10 : Keeps (fun j => j = g2) w9 w10 := (Keeps.of_step (hW5.trans hW6)).trans (.wrote hw10 rfl)
  have hne : ¬ bl = g2 := by
    have h1 := hbl.1
    have h2 := hbl.2
    unfold Old at h2
    intro e
    rw [e] at h1 h2
    omega
  have HM := Lib.hid (And.intro (hk10.cell hne hcl.1) (And.intro (hk10.cell hne hcl.2.1) (hk10.cell hne hcl.2.2)))
  have hgC : g ≠ g2 := by have := HC.out.lt; omega
  have HTx := Lib.hid (Step.wrote ((HT.out.trans hW5).trans hW6) hw10 (by omega))
  have HTBx := Lib.hid (Step.wrote ((HTB.out.trans hW5).trans hW6) hw10 (by omega))
  have HTCx := Lib.hid (HC.out.keep ((Keeps.of_step ((HWX.out.trans HTC.out).trans (hW5.trans hW6))).trans (.wrote hw10 (S := fun j => j = g2) rfl)) hgC)
  have HD := Lib.hid hb10
  have HZM10 := Lib.hid (show w.heap.size ≤ w10.heap.size ∧ W0.heap.size ≤ w10.heap.size by have := hb10.lt; omega)
  clear hW5 hg hgb hgN hW6 hb6 hb10 hw10 HV6 HT HTB hg0 hcl hbl hk10 hne hgC HCL HC HTC HWX HVC HVC6
  have HT := HTx
  have HTB := HTBx
  have HC := HTCx
  clear HTx HTBx HTCx
  go_upto_region 7 with (fail)
  refine wp_region_seqM (fun c d v a w h => by cases d <;> exact h) (kdOf [0, 3] [(2, 3, .tuple #[.int IntKind.i64 3, .int IntKind.i64 4]), (8, 39, .agg #[.int .i64 0, .slice none 0 0, .slice none 0 0, .int .i64 0, .slice none 0 0, .int .i64 0]), (9, 41, .agg #[.int .i64 0, .int .i64 0, .int .i64 0, .int .i64 0, .slice none 0 0])]) [0, 0, 0, 7, 15, 31, 31, 31, 0, 0, 831, 1919, 4095] [1, 0, 2, 3, 4, 5, 6, 7, 8, 9] [10, 11, 12] (by kernel_rfl) (by kernel_rfl) (fun i T z hi hk => by simp only [List.mem_cons, List.not_mem_nil, or_false] at hi; rcases hi with rfl | rfl | rfl | rfl | rfl | rfl | rfl | rfl | rfl | rfl <;> simp [kdOf] at hk <;> (obtain ⟨rfl, rfl⟩ := hk; first | (show Option.bind _ _ = some _; kernel_rfl) | (refine ⟨_, rfl, fun _ _ => ?_⟩; go_simp))) ?_
  intro Wx hWx
  have HTx := Lib.hid (HT.out.trans hWx)
  have HTBx := Lib.hid (HTB.out.trans hWx)
  have HTX := Lib.hid hWx
  clear hWx HT HTB
  have HT := HTx
  have HTB := HTBx
  clear HTx HTBx
  obtain ⟨f0, f1, f2, f3, f4, f5⟩ := cells6 (HB.out.step HTB.out)
  repeat (first | (refine run_off rfl rfl (by rfl) ?_; (try simp only [Act.put, List.setIfInBounds_toArray, List.set_cons_zero, List.set_cons_succ])) | (refine run_chain_off rfl rfl (by rfl) (K0_mono _) ?_; (try simp only [Act.put, List.setIfInBounds_toArray, List.set_cons_zero, List.set_cons_succ])) | ((refine run_want rfl rfl (by rfl) ⟨?_, fun W hW => ?_, ?_⟩; rotate_left; (· (have d0 := hW.keeps.cell id f0; have d1 := hW.keeps.cell id f1; have d2 := hW.keeps.cell id f2; have d3 := hW.keeps.cell id f3; have d4 := hW.keeps.cell id f4; have d5 := hW.keeps.cell id f5; go_simp; (try with_reducible rfl)))); (try simp only [Act.put, List.setIfInBounds_toArray, List.set_cons_zero, List.set_cons_succ])))
  clear f0 f1 f2 f3 f4 f5
  refine run_chain rfl rfl (by rfl) (fun Wi hWi K' hK => ?_)
  have HTi := Lib.hid (HT.out.trans hWi)
  have HTBi := Lib.hid (HTB.out.trans hWi)
  have HTXi := Lib.hid (HTX.out.trans hWi)
  clear hWi HT HTB HTX
  go_simp
  refine (Tent_any _).mono ?_
  rintro e w11 ⟨v11, rfl, hv5, hS5⟩
  have HV5 := Lib.hid (AV.triv hv5)
  have HT := Lib.hid (HTi.out.trans hS5)
  have HTB := Lib.hid (HTBi.out.trans hS5)
  have HTX := Lib.hid (HTXi.out.trans hS5)
  clear hv5 HTi HTBi HTXi
  refine hK _ _ hS5 ?_
  clear hS5 hK
  (try simp only [Act.put, List.setIfInBounds_toArray, List.set_cons_zero, List.set_cons_succ])
  repeat (first | (refine run_off rfl rfl (by rfl) ?_; (try simp only [Act.put, List.setIfInBounds_toArray, List.set_cons_zero, List.set_cons_succ])) | (refine run_chain_off rfl rfl (by rfl) (K0_mono _) ?_; (try simp only [Act.put, List.setIfInBounds_toArray, List.set_cons_zero, List.set_cons_succ])) | ((refine run_want rfl rfl (by rfl) ⟨?_, fun W hW => ?_, ?_⟩; rotate_left; (· (skip; go_simp; (try with_reducible rfl)))); (try simp only [Act.put, List.setIfInBounds_toArray, List.set_cons_zero, List.set_cons_succ])))
  refine run_consts rfl rfl (fun Wk gS hWk hgS hgSb hgSN => ?_)
  have HSL := Lib.hid (SL.bx_ints (S := fun _ => False) (l := [3, 4]) (show Bx Wk gS [.int .i64 3, .int .i64 4] 3 from hgS) (fun h => h) 2 (by decide) (by decide))
  have HTi := Lib.hid (HT.out.trans hWk)
  have HTBi := Lib.hid (HTB.out.trans hWk)
  have HTXi := Lib.hid (HTX.out.trans hWk)
  have HV6 := Lib.hid (HV5.out.keep (.of_step hWk))
  clear hWk hgS hgSb hgSN HT HTB HTX HV5
  (try simp only [Act.put, List.setIfInBounds_toArray, List.set_cons_zero, List.set_cons_succ])
  repeat (first | (refine run_off rfl rfl (by rfl) ?_; (try simp only [Act.put, List.setIfInBounds_toArray, List.set_cons_zero, List.set_cons_succ])) | (refine run_chain_off rfl rfl (by rfl) (K0_mono _) ?_; (try simp only [Act.put, List.setIfInBounds_toArray, List.set_cons_zero, List.set_cons_succ])) | ((refine run_want rfl rfl (by rfl) ⟨?_, fun W hW => ?_, ?_⟩; rotate_left; (· (skip; go_simp; (try with_reducible rfl)))); (try simp only [Act.put, List.setIfInBounds_toArray, List.set_cons_zero, List.set_cons_succ])))
  refine run_chain rfl rfl (by rfl) (fun Wi hWi K' hK => ?_)
  have HT := Lib.hid (HTi.out.trans hWi)
  have HTB := Lib.hid (HTBi.out.trans hWi)
  have HTX := Lib.hid (HTXi.out.trans hWi)
  have HV7 := Lib.hid (HV6.out.keep (.of_step hWi))
  have HSL2 := Lib.hid (HSL.out.keep (.of_step hWi))
  clear hWi HTi HTBi HTXi HV6 HSL
  go_simp
  refine (Give_any _ _ tentH tentB _ _ _ 1 0 [3, 4] _ HV7.out (HAB.out.keep (.of_step HTB.out)) HSL2.out (by decide)).mono ?_
  rintro e w12 ⟨v12, m12, rfl, hv6, hm6, hS6⟩
  rw [tent_give] at hv6 hm6 ⊢
  dsimp only [bookOf, actR, restOf] at hv6 hm6
  simp only [bookOf, actR]
  obtain ⟨x1, x2, x4, rfl, s1, s2, s4⟩ := hv6.book
  obtain ⟨q1x, m1x, rfl⟩ := s1.form
  obtain ⟨q2x, m2x, rfl⟩ := s2.form
  obtain ⟨q4x, m4x, rfl⟩ := s4.form
  obtain ⟨y4, rfl, t4⟩ := hm6.message
  obtain ⟨qm, km, rfl⟩ := t4.form
  have HMM := Lib.hid hm6
  have HTi := Lib.hid (HT.out.trans hS6)
  have HTBi := Lib.hid (HTB.out.trans hS6)
  have HTXi := Lib.hid (HTX.out.trans hS6)
  clear s1 s2 s4 t4 hv6 hm6 HT HTB HTX
  refine hK _ _ hS6 ?_
  clear hS6 hK
  (try simp only [Act.put, List.setIfInBounds_toArray, List.set_cons_zero, List.set_cons_succ])
  repeat (first | (refine run_off rfl rfl (by rfl) ?_; (try simp only [Act.put, List.setIfInBounds_toArray, List.set_cons_zero, List.set_cons_succ])) | (refine run_chain_off rfl rfl (by rfl) (K0_mono _) ?_; (try simp only [Act.put, List.setIfInBounds_toArray, List.set_cons_zero, List.set_cons_succ])) | ((refine run_want rfl rfl (by rfl) ⟨?_, fun W hW => ?_, ?_⟩; rotate_left; (· (skip; go_simp; (try with_reducible rfl)))); (try simp only [Act.put, List.setIfInBounds_toArray, List.set_cons_zero, List.set_cons_succ])))
  refine run_alloc rfl rfl (fun W5 g3 hW5 hg hgb hgN => ?_)
  (try simp only [Act.put, List.setIfInBounds_toArray, List.set_cons_zero, List.set_cons_succ])
  refine run_alloc rfl rfl (fun W6 g4 hW6 hg' hgb' hgN' => ?_)
  (try simp only [Act.put, List.setIfInBounds_toArray, List.set_cons_zero, List.set_cons_succ])
  refine run_end (L := [_, _, _]) rfl (fun W7 hW7 => ?_)
  have hb3 : Bx W7 g3 [_, _, _, _, _, _] 39 := Bx.step (w := W5) (cs := [_, _, _, _, _, _]) hg (hW6.trans hW7)
  have hb4 : Bx W7 g4 [_, _, _, _, _] 41 := Bx.step (w := W6) (cs := [_, _, _, _, _]) hg' hW7
  refine wpl_store (v := .agg #[.int .i64 tentE.agency, .slice q1x tentE.seats.length m1x, .slice q2x tentE.off.length m2x, .int .i64 tentE.sent, .slice q4x tentE.took.length m4x, .int .i64 tentE.cash]) rfl _ _ _ rfl rfl rfl hb3 (by kernel_rfl) (by simp [Value.cells]) (by simp [Value.cells, Value.oneCell']) [.int .i64 tentE.agency, .slice q1x tentE.seats.length m1x, .slice q2x tentE.off.length m2x, .int .i64 tentE.sent, .slice q4x tentE.took.length m4x, .int .i64 tentE.cash] rfl (fun w13 hb13 hw13 => ?_)
  have hne : g4 ≠ g3 := hgN'.2
  have hb4' := hb4.keep hw13.keeps hne
  refine wpl_store (v := .agg #[.int .i64 0, .int .i64 1, .int .i64 1, .int .i64 0, .slice qm 2 km]) rfl _ _ _ rfl rfl rfl hb4' (by kernel_rfl) (by simp [Value.cells]) (by simp [Value.cells, Value.oneCell']) [.int .i64 0, .int .i64 1, .int .i64 1, .int .i64 0, .slice qm 2 km] rfl (fun w14 hb14 hw14 => ?_)
  have hk14 : Keeps (fun j => j = g3 ∨ j = g4) w12 w14 := ((Keeps.of_step ((hW5.trans hW6).trans hW7)).trans (.wrote hw13 (.inl rfl))).trans (.wrote hw14 (.inr rfl))
  have hm14 := Lib.hid (AV.triv (AV.later (S := fun j => j = g3 ∨ j = g4) (w' := w14) HMM.out (fun j hj hs => by omega) hk14))
  have hg0 := HZM10.out
  have HTx := Lib.hid (Step.wrote (Step.wrote (((HTi.out.trans hW5).trans hW6).trans hW7) hw13 (by omega)) hw14 (by omega))
  have hX10 : Keeps (fun j => j = g3 ∨ j = g4) w10 w14 := (Keeps.of_step HTXi.out).trans hk14
  have hc5 := (HC.out.keep hX10 (by have := HC.out.lt; omega)).cell 5
  have hd5 := (HD.out.keep hX10 (by have := HD.out.lt; omega)).cell 5
  have hbl : bl < w10.heap.size := World.block_lt_of_cell? w10 ⟨bl, _, none⟩ HM.out.1
  have m0 := hX10.cell (by show ¬ (bl = g3 ∨ bl = g4); omega) HM.out.1
  have m1 := hX10.cell (by show ¬ (bl = g3 ∨ bl = g4); omega) HM.out.2.1
  have m2 := hX10.cell (by show ¬ (bl = g3 ∨ bl = g4); omega) HM.out.2.2
  obtain ⟨e0, e1, e2, e3, e4⟩ := cells5 hb14
  change w14.cell? ⟨g, 5, none⟩ = some (.int .i64 20) at hc5
  change w14.cell? ⟨g2, 5, none⟩ = some (.int .i64 20) at hd5
  change w14.cell? ⟨bl, ol, none⟩ = some (.int .i64 2) at m0
  change w14.cell? ⟨bl, ol + 1, none⟩ = some (.int .i64 1) at m1
  change w14.cell? ⟨bl, ol + 2, none⟩ = some (.int .i64 2) at m2
  have hmv : ∀ w, (binOp .eql 59 (.agg #[.int .i64 2, .int .i64 1, .int .i64 2]) (.agg #[.int .i64 2, .int .i64 1, .int .i64 2])).run Try.prog w = .ok (.bool true) w := fun _ => by kernel_rfl
  have hix0 : (0 : Int) ≤ 0 ∧ (0 : Int) < 1 := by omega
  clear hW5 hg hgb hgN hW6 hg' hgb' hgN' hW7 hb3 hb4 hb13 hw13 hne hb4' hb14 hw14 hk14 hX10 hbl hg0 HTi HTBi HTXi HMM HD HC HM HV7 HSL2 HZM10 HZM7 HB HAB
  have HT := HTx
  clear HTx
  go_wp2_with fail
  refine (message_any (fun _ => False) ⟨0, 1, 1, 0, [3, 4]⟩ ⟨0, 1, 1, 0, [3, 4]⟩ _ _ _ (hm14.out.keep (.alloc _ _)) ⟨_, rfl, _, rfl, SL.bx_ints (l := [3, 4]) (Bx.new _ _ _) (fun h => h) 2 (by decide) (by decide)⟩).mono ?_
  rintro e w15 ⟨rfl, hSm⟩
  rw [show messB ⟨0, 1, 1, 0, [3, 4]⟩ ⟨0, 1, 1, 0, [3, 4]⟩ = true from by decide]
  go_wp2
  go_ret
  exact ⟨rfl, (HT.out.trans (Step.alloc _ _)).trans hSm⟩
end Go.Proofs.Ytgpiieogiafdoaa
