/- The deletion of a guy, and the spare guys by the document and by the program, are walked. -/
import Derived.Test.YtdcjbbeoocldeaaM3
import Derived.Test.YtdcjbbeoocldeaaMs
import Derived.Test.YtdcjbbeoocldeaaRows
import Derived.Deep.RegionLaw
import Derived.Laws.IdiomCopy
import Derived.Lib.SliceRun
/- Walks: slices.Delete of one guy, in a row of its own. -/
namespace Go.Proofs.Ytdcjbbeoocldeaa
set_option linter.unusedSimpArgs false
set_option linter.unusedVariables false
open Go.RowKit Go.BT

def zeroG : List Value := [.int .i64 0, .int .i64 0, .int .i64 0, .int .i64 0, .int .i64 0]
theorem zero_guy (w : World) : (zeroValue 91).run Try.prog w = .ok (.agg zeroG.toArray) w := by kernel_rfl
theorem clear_guy (w : World) (ty : TypeId) (b o c : Nat) (hc : ∀ j, j < 5 → (w.cell? ⟨b, o + j, none⟩).isSome = true) (hf : ∀ j, j < 5 → w.frozen? ⟨b, o + j, none⟩ = false) :
    (Builtin.clear_ #[87] ty #[.slice (some ⟨b, o, none⟩) 1 c]).run Try.prog w = .ok (.tuple #[]) (w.setCells b o zeroG) := by
  have hzc : (Builtin.zeroCells (Value.agg #[Value.int IntKind.i64 0, Value.int IntKind.i64 0, Value.int IntKind.i64 0, Value.int IntKind.i64 0, Value.int IntKind.i64 0]).cells 1).toList = zeroG := by kernel_rfl
  have hst := run_storeCells_cells (P := Try.prog) b o zeroG 0 w (by simpa [zeroG] using hc) (by simpa [zeroG] using hf) (by intro v hv'; simp [zeroG] at hv'; subst hv'; rfl)
  simp only [Nat.add_zero] at hst
  have ht : Try.prog.underlying 87 = some (.slice 91) := Try.underlying87
  simp [Builtin.clear_, run_underlying ht, zero_guy, hzc, hst]
theorem wrote_cells (b : Nat) : ∀ (vs : List Value) (o : Nat) (w : World), StepX (fun j => j = b) w (w.setCells b o vs)
  | [], _, _ => StepX.refl _ _
  | v :: r, o, w => by
    rw [World.setCells]
    have h := Wrote.setCell w b o v
    exact (show StepX (fun j => j = b) w _ from ⟨h.os, h.tape, h.output, Nat.le_of_eq h.size.symm, fun j _ hj => h.block j hj⟩).trans (wrote_cells b r (o + 1) _)
theorem isSome_cells (b : Nat) : ∀ (vs : List Value) (o : Nat) (w : World) (q : Addr), (w.cell? q).isSome = true → ((w.setCells b o vs).cell? q).isSome = true
  | [], _, _, _, h => h
  | v :: r, o, w, q, h => by
    rw [World.setCells]
    refine isSome_cells b r (o + 1) _ q ?_
    by_cases e : (⟨b, o, none⟩ : Addr) = q
    · subst e
      obtain ⟨u, hu⟩ := Option.isSome_iff_exists.1 h
      rw [World.cell?_setCell_same _ _ _ hu]; rfl
    · rw [World.cell?_setCell_other _ _ _ _ e]; exact h
theorem cells_one {l : List Guy} {f : Nat → Value} (hr : ∀ i (h : i < l.length), f (i * 5) = .int .i64 l[i].x ∧ f (i * 5 + 1) = .int .i64 l[i].y ∧ f (i * 5 + 2) = .int .i64 l[i].down ∧ f (i * 5 + 3) = .int .i64 l[i].soil ∧ f (i * 5 + 4) = .int .i64 l[i].depth) (o : Nat) (ho : o < l.length * 5) : (f o).oneCell' = true := by
  obtain ⟨q, r, hr5, e⟩ : ∃ q r, r < 5 ∧ o = q * 5 + r := ⟨o / 5, o % 5, Nat.mod_lt _ (by decide), by omega⟩
  subst e
  obtain ⟨r0, r1, r2, r3, r4⟩ := hr q (by omega)
  match r, hr5 with
  | 0, _ => rw [Nat.add_zero, r0]; rfl
  | 1, _ => rw [r1]; rfl
  | 2, _ => rw [r2]; rfl
  | 3, _ => rw [r3]; rfl
  | 4, _ => rw [r4]; rfl
/-- The cells of a row of guys, behind the deletion of one. -/
theorem deleted {S : Nat → Prop} {w w1 w2 : World} {b cb : Nat} {l : List Guy} {k : Nat} (hS : ¬ S b) (hk : k < l.length) (hm : l.length ≤ 9223372036854775807) (hcb : l.length ≤ cb) (hlt : b < w.heap.size) {f : Nat → Value}
    (hc : ∀ o, o < l.length * 5 → w.cell? ⟨b, o, none⟩ = some (f o)) (hr : ∀ i (h : i < l.length), f (i * 5) = .int .i64 l[i].x ∧ f (i * 5 + 1) = .int .i64 l[i].y ∧ f (i * 5 + 2) = .int .i64 l[i].down ∧ f (i * 5 + 3) = .int .i64 l[i].soil ∧ f (i * 5 + 4) = .int .i64 l[i].depth)
    (hw1 : w1 = w.setCells b (k * 5) ((List.range ((l.length - (k + 1)) * 5)).map fun t => f ((k + 1) * 5 + t))) (hw2 : w2 = w1.setCells b ((l.length - 1) * 5) zeroG) :
    SL S w2 (.slice (some ⟨b, 0, none⟩) (l.length - 1) cb) (l.take k ++ l.drop (k + 1)) := by
  have hln : (l.take k ++ l.drop (k + 1)).length = l.length - 1 := by simp [List.length_take, List.length_drop]; omega
  have hs1 : StepX (fun j => j = b) w w1 := by subst hw1; exact wrote_cells _ _ _ _
  have hs2 : StepX (fun j => j = b) w1 w2 := by subst hw2; exact wrote_cells _ _ _ _
  have hcell : ∀ o, o < (l.length - 1) * 5 → w2.cell? ⟨b, o, none⟩ = some (if o < k * 5 then f o else f (o + 5)) := fun o ho => by
    rw [hw2, World.cell?_setCells_out _ _ _ _ _ (fun _ _ => .inl ho), hw1]
    by_cases q : o < k * 5
    · rw [World.cell?_setCells_out _ _ _ _ _ (fun _ _ => .inl q), if_pos q]
      exact hc o (by omega)
    · have h1 := World.cell?_setCells_in b ((List.range ((l.length - (k + 1)) * 5)).map fun t => f ((k + 1) * 5 + t)) (k * 5) w (fun j hj => by
        have hj' : j < (l.length - (k + 1)) * 5 := by simpa using hj
        rw [hc _ (by omega)]; rfl) (o - k * 5) (by simp; omega)
      rw [show k * 5 + (o - k * 5) = o by omega] at h1
      rw [h1, if_neg q]
      simp only [List.getElem_map, List.getElem_range]
      rw [show (k + 1) * 5 + (o - k * 5) = o + 5 by omega]
  refine ⟨_, cb, b, 0, by rw [hln], by omega, by omega, fun _ => rfl, fun i hi => ?_⟩
  rw [hln] at hi
  have hlt2 : b < w2.heap.size := Nat.lt_of_lt_of_le hlt (Nat.le_trans hs1.size hs2.size)
  have k5 : Rep.k Guy = 5 := rfl
  rw [k5]
  refine ⟨hlt2, hS, [.int .i64 (l.take k ++ l.drop (k + 1))[i].x, .int .i64 (l.take k ++ l.drop (k + 1))[i].y, .int .i64 (l.take k ++ l.drop (k + 1))[i].down, .int .i64 (l.take k ++ l.drop (k + 1))[i].soil, .int .i64 (l.take k ++ l.drop (k + 1))[i].depth], rfl, fun u v hu => ?_⟩
  have hul : u < 5 := by have := (List.getElem?_eq_some_iff.1 hu).1; simpa using this
  rw [Nat.zero_add, hcell _ (by omega)]
  by_cases q : i < k
  · have e : (l.take k ++ l.drop (k + 1))[i]'(by rw [hln]; exact hi) = l[i] := by rw [List.getElem_append_left (by simp; omega), List.getElem_take]
    obtain ⟨r0, r1, r2, r3, r4⟩ := hr i (by omega)
    rw [if_pos (by omega), ← hu, e]
    match u, hul with
    | 0, _ => simpa using r0
    | 1, _ => simpa using r1
    | 2, _ => simpa using r2
    | 3, _ => simpa using r3
    | 4, _ => simpa using r4
  · have e : (l.take k ++ l.drop (k + 1))[i]'(by rw [hln]; exact hi) = l[i + 1] := by
      rw [List.getElem_append_right (by simp; omega), List.getElem_drop]
      congr 1
      simp [List.length_take]; omega
    obtain ⟨r0, r1, r2, r3, r4⟩ := hr (i + 1) (by omega)
    rw [if_neg (by omega), ← hu, e, show i * 5 + u + 5 = (i + 1) * 5 + u by omega]
    match u, hul with
    | 0, _ => simpa using r0
    | 1, _ => simpa using r1
    | 2, _ => simpa using r2
    | 3, _ => simpa using r3
    | 4, _ => simpa using r4
set_option maxRecDepth 100000 in
set_option maxHeartbeats 4000000 in
theorem Delete_any (S : Nat → Prop) (l : List Guy) (k : Nat) (b cb : Nat) (w : World) (hS : ¬ S b) (hk : k < l.length) (hm : l.length ≤ 1000000) (hcb : l.length ≤ cb) (hlt : b < w.heap.size) (f : Nat → Value)
    (hc : ∀ o, o < l.length * 5 → w.cell? ⟨b, o, none⟩ = some (f o)) (hf : ∀ o, w.frozen? ⟨b, o, none⟩ = false) (hr : ∀ i (h : i < l.length), f (i * 5) = .int .i64 l[i].x ∧ f (i * 5 + 1) = .int .i64 l[i].y ∧ f (i * 5 + 2) = .int .i64 l[i].down ∧ f (i * 5 + 3) = .int .i64 l[i].soil ∧ f (i * 5 + 4) = .int .i64 l[i].depth) :
    Calls Try.prog 82 #[.slice (some ⟨b, 0, none⟩) l.length cb, .int .i64 k, .int .i64 ((k : Int) + 1)] w fun e w' => e = .returned (.slice (some ⟨b, 0, none⟩) (l.length - 1) cb) ∧ SL S w' (.slice (some ⟨b, 0, none⟩) (l.length - 1) cb) (l.take k ++ l.drop (k + 1)) ∧ StepX (fun j => j = b) w w' := by
  have HC := Lib.hid hc
  have HFZ := Lib.hid hf
  have HR := Lib.hid hr
  have HLT := Lib.hid hlt
  clear hc hf hr hlt
  have hne : ((k : Int) == (k : Int) + 1) = false := by simp; omega
  have hne2 : ¬ (k : Int) = (k : Int) + 1 := by omega
  have htn : ((k : Int) + 1).toNat = k + 1 := by omega
  have h1 : (0 : Int) ≤ (k : Int) ∧ (k : Int) ≤ (k : Int) + 1 ∧ (k : Int) + 1 ≤ (l.length : Int) ∧ (l.length : Int) ≤ (cb : Int) := by omega
  go_enter Try.func82, Try.ntmps82
  go_upto_region 5 with (fail)
  have hin1 : (0 : Int) ≤ (k : Int) ∧ (k : Int) ≤ (cb : Int) := by omega
  have hin2 : (0 : Int) ≤ (k : Int) + 1 ∧ (k : Int) + 1 ≤ (l.length : Int) := by omega
  have hin3 : (l.length : Int) ≤ (cb : Int) := by omega
  obtain ⟨i0, hi0, hz1⟩ : ∃ i, Try.prog.info? 91 = some i ∧ i.size = 5 := by
    have h := infoGuy
    cases q : Try.prog.info? 91 with
    | none => rw [q] at h; simp at h
    | some i => rw [q] at h; simp at h; exact ⟨i, rfl, h.2.1⟩
  have HI := Lib.hid (And.intro hi0 hz1)
  clear hi0 hz1
  obtain ⟨news, hnews⟩ : ∃ n, n = (List.range ((l.length - (k + 1)) * 5)).map fun t => f ((k + 1) * 5 + t) := ⟨_, rfl⟩
  have HNW := Lib.hid hnews
  clear hnews
  refine Late.wp_region_late (fun j => j = b) (fun c d v a w h => by cases d <;> exact h) (kdOf [] []) [0, 0, 3, 0, 0, 24, 63, 127] [0, 1, 2, 3, 4, 5] 6 [7] (by kernel_rfl) (by kernel_rfl) (fun i T z hi hk => by simp [kdOf] at hk <;> (try (split at hk <;> cases hk))) ?_
  intro Wx hWx
  have HT := Lib.hid hWx
  clear hWx
  repeat (first | (refine Late.run_off rfl rfl (by rfl) ?_; (try simp only [Act.put, List.setIfInBounds_toArray, List.set_cons_zero, List.set_cons_succ])) | ((refine Late.run_want rfl rfl (by rfl) ⟨?_, fun W hW => ?_, ?_⟩; rotate_left; (· (skip; go_simp; (try with_reducible rfl)))); (try simp only [Act.put, List.setIfInBounds_toArray, List.set_cons_zero, List.set_cons_succ])))
  refine Late.run_end rfl rfl (L := [_]) rfl (fun W6 hW6 K6 hK6 => ?_)
  have HT6 := Lib.hid (HT.out.trans hW6)
  clear hW6 HT
  have hln : news.length = (l.length - (k + 1)) * 5 := by rw [HNW.out]; simp
  have hcell6 : ∀ o, o < l.length * 5 → W6.cell? ⟨b, o, none⟩ = some (f o) := fun o ho => (HT6.out.cells.1 b o HLT.out).trans (HC.out o ho)
  have hfz6 : ∀ o, W6.frozen? ⟨b, o, none⟩ = false := fun o => (HT6.out.cells.2 b o HLT.out).trans (HFZ.out o)
  have hget : ∀ j, j < news.length → news[j]? = some (f ((k + 1) * 5 + j)) := fun j hj => by
    rw [hln] at hj
    rw [HNW.out]
    simp [hj]
  obtain ⟨A, hA, hsrc⟩ : ∃ A : Addr, (if cb = k + 1 then (some ⟨b, 0, none⟩ : Option Addr) else some ⟨b, (k + 1) * 5, none⟩) = some A ∧ ∀ j u, news[j]? = some u → W6.cell? (A.add j) = some u := by
    by_cases q : cb = k + 1
    · refine ⟨⟨b, 0, none⟩, by simp [q], fun j u hu => ?_⟩
      have h0 : news.length = 0 := by rw [hln]; omega
      rw [List.length_eq_zero_iff.1 h0] at hu
      simp at hu
    · refine ⟨⟨b, (k + 1) * 5, none⟩, by simp [q], fun j u hu => ?_⟩
      have hj := (List.getElem?_eq_some_iff.1 hu).1
      rw [hget j hj] at hu
      injection hu with hu
      subst hu
      rw [hln] at hj
      rw [Addr.add_lit]
      exact hcell6 ((k + 1) * 5 + j) (by omega)
  have h1c : ∀ u ∈ news, u.oneCell' = true := fun u hu => by
    obtain ⟨j, hj, rfl⟩ := List.getElem_of_mem hu
    have h2 := hget j hj
    rw [List.getElem?_eq_getElem hj] at h2
    injection h2 with h2
    rw [h2]
    rw [hln] at hj
    exact cells_one HR.out _ (by omega)
  obtain ⟨w1, hw1⟩ : ∃ w1, w1 = W6.setCells b (k * 5) news := ⟨_, rfl⟩
  have hst1 : StepX (fun j => j = b) W6 w1 := by subst hw1; exact wrote_cells _ _ _ _
  have hs1 : ∀ o, o < l.length * 5 → (w1.cell? ⟨b, o, none⟩).isSome = true := fun o ho => by
    rw [hw1]
    exact isSome_cells b _ _ _ _ (by rw [hcell6 o ho]; rfl)
  have hz1 : ∀ o, w1.frozen? ⟨b, o, none⟩ = false := fun o => by rw [hw1, World.frozen?_setCells]; exact hfz6 o
  have hcl : ∀ ty c, (Builtin.clear_ #[87] ty #[.slice (some ⟨b, (l.length - 1) * 5, none⟩) 1 c]).run Try.prog w1 = .ok (.tuple #[]) (w1.setCells b ((l.length - 1) * 5) zeroG) := fun ty c => clear_guy w1 ty b _ c (fun j hj => hs1 _ (by omega)) (fun j hj => hz1 _)
  refine Eq.mp (if_pos (by rfl)) (step_append_room (E := True) (ops := #[]) rfl (.tmp 22) (.tmp 25) 87 rfl 91 i0 5 Try.underlying87 HI.out.1 HI.out.2 b 0 k cb rfl A (l.length - (k + 1)) (cb - (k + 1)) news (by rw [← hA]; rfl) hln hsrc h1c (by omega) (fun j hj => by rw [hln] at hj; exact ⟨by rw [Nat.zero_add, hcell6 _ (by omega)]; rfl, hfz6 _⟩) ?_)
  refine hK6 _ _ (by rw [Nat.zero_add, ← hw1]; exact hst1) ?_
  rw [Nat.zero_add, ← hw1]
  have HF := Lib.hid (And.intro (deleted (S := S) (w1 := w1) hS hk (by omega) hcb (Nat.lt_of_lt_of_le HLT.out HT6.out.size) hcell6 HR.out (by rw [hw1, HNW.out]) rfl) (((StepX.of (X := fun j => j = b) HT6.out).trans hst1).trans (wrote_cells b zeroG ((l.length - 1) * 5) w1)))
  rw [hA]
  clear hK6 hw1 hs1 hz1 hst1 h1c hsrc hA hget hfz6 hcell6 hln HNW HI HT6 HC HFZ HR HLT
  (try simp only [Act.put, List.setIfInBounds_toArray, List.set_cons_zero, List.set_cons_succ])
  have hkn : k + (l.length - (k + 1)) = l.length - 1 := by omega
  rw [hkn]
  have hin4 : (0 : Int) ≤ ((l.length - 1 : Nat) : Int) ∧ ((l.length - 1 : Nat) : Int) ≤ (l.length : Int) ∧ (l.length : Int) ≤ (cb : Int) := by omega
  have hln1 : l.length - (l.length - 1) = 1 := by omega
  have hcz : ¬ cb = l.length - 1 := by omega
  have hcz2 : ¬ cb - (l.length - 1) = 0 := by omega
  go_wp2
  go_ret
  exact ⟨rfl, HF.out.1, HF.out.2⟩
end Go.Proofs.Ytdcjbbeoocldeaa
/- The spare guys in plain words; walks: the document's Spares. -/
namespace Go.Proofs.Ytdcjbbeoocldeaa
set_option linter.unusedSimpArgs false
set_option linter.unusedVariables false
open Go.RowKit Go.BT

theorem infoPair : (Try.prog.info? 102).map (fun i => (i.zero, i.size, i.bytes)) = some (some (.agg #[.int .i64 0, .int .i64 0]), 2, 16) := by kernel_rfl
theorem eiPairs : EI Try.prog 97 102 (.agg #[.int .i64 0, .int .i64 0]) 2 16 := .mk' Try.underlying97 infoPair rfl
def spareB (l : List Tst) (t : List Head) (wind : List Vec) (i k : Nat) : Bool := standB l (withoutL t i k) wind
/-- The spare guys of a head, up to one. -/
def rowTo (l : List Tst) (t : List Head) (wind : List Vec) (i k : Nat) : List Vec := (List.range k).filterMap fun k => if spareB l t wind i k then some ⟨(i : Int), (k : Int)⟩ else none
def guysN (t : List Head) (i : Nat) : Nat := match t[i]? with
  | some h => h.guys.length
  | none => 0
/-- The spare guys of a tent, up to a head. -/
def sparesTo (l : List Tst) (t : List Head) (wind : List Vec) (i : Nat) : List Vec := (List.range i).flatMap fun i => rowTo l t wind i (guysN t i)
theorem row_zero (l : List Tst) (t : List Head) (wind : List Vec) (i : Nat) : rowTo l t wind i 0 = [] := rfl
theorem row_succ (l : List Tst) (t : List Head) (wind : List Vec) (i k : Nat) : rowTo l t wind i (k + 1) = rowTo l t wind i k ++ (if spareB l t wind i k then [(⟨(i : Int), (k : Int)⟩ : Vec)] else []) := by
  unfold rowTo
  rw [List.range_succ, List.filterMap_append]
  congr 1
  by_cases h : spareB l t wind i k = true
  · simp [h]
  · simp [h]
theorem row_len (l : List Tst) (t : List Head) (wind : List Vec) (i k : Nat) : (rowTo l t wind i k).length ≤ k := by
  unfold rowTo
  exact Nat.le_trans (List.length_filterMap_le _ _) (by simp)
theorem spares_zero (l : List Tst) (t : List Head) (wind : List Vec) : sparesTo l t wind 0 = [] := rfl
theorem spares_succ (l : List Tst) (t : List Head) (wind : List Vec) (i : Nat) : sparesTo l t wind (i + 1) = sparesTo l t wind i ++ rowTo l t wind i (guysN t i) := by
  unfold sparesTo
  rw [List.range_succ, List.flatMap_append]; simp
theorem guysN_at {t : List Head} {i : Nat} (hi : i < t.length) : guysN t i = t[i].guys.length := by
  unfold guysN; rw [List.getElem?_eq_getElem hi]
theorem spares_len (l : List Tst) (t : List Head) (wind : List Vec) (hn : fewT t) : ∀ i, i ≤ t.length → (sparesTo l t wind i).length ≤ i * 10
  | 0, _ => by simp [spares_zero]
  | i + 1, h => by
    have ih := spares_len l t wind hn i (by omega)
    have h1 := row_len l t wind i (guysN t i)
    have h2 := hn.2 i (by omega)
    rw [spares_succ, List.length_append]
    rw [guysN_at (by omega)] at h1 ⊢
    omega
theorem less_head {h : Head} (hh : headB h = true) (k : Nat) : headB (lessH h k) = true := by
  obtain ⟨h1, h2, h3, h4⟩ := head_parts hh
  unfold headB lessH
  simp only [Bool.and_eq_true, within_iff, decide_eq_true_eq]
  refine ⟨⟨⟨h1, h2⟩, by simp only [List.length_append, List.length_take, List.length_drop]; omega⟩, ?_⟩
  rw [List.all_append, Bool.and_eq_true, List.all_eq_true, List.all_eq_true]
  rw [List.all_eq_true] at h4
  exact ⟨fun x hx => h4 x (List.mem_of_mem_take hx), fun x hx => h4 x (List.mem_of_mem_drop hx)⟩
theorem without_all {t : List Head} (ht : t.all headB = true) {i : Nat} (hi : i < t.length) (k : Nat) : (withoutL t i k).all headB = true := by
  rw [without_get hi, List.all_eq_true]
  intro x hx
  rcases List.mem_or_eq_of_mem_set hx with hx | rfl
  · exact List.all_eq_true.1 ht x hx
  · exact less_head (all_get ht hi) k
set_option maxRecDepth 100000 in
set_option maxHeartbeats 4000000 in
theorem RSpares_any (l : List Tst) (t : List Head) (wind : List Vec) (v u x : Value) (w : World) (hv : SL (fun _ => False) w v l) (hu : SL (fun _ => False) w u t) (hx : SL (fun _ => False) w x wind) (hl : l.all tstB = true) (ht : t.all headB = true) (hw : wind.all cornerB = true) (hn : fewT t) :
    Calls Try.prog 50 #[v, u, x] w fun e w' => ∃ v', e = .returned v' ∧ SL (fun _ => False) w' v' (sparesTo l t wind t.length) ∧ Step w w' := by
  have HV := Lib.hid hv
  have HU := Lib.hid hu
  have HX := Lib.hid hx
  have HK := Lib.hid (And.intro hl (And.intro ht hw))
  have HN := Lib.hid hn
  obtain ⟨pv, cv, rfl⟩ := hv.form
  obtain ⟨pu, cu, b, o, rfl, _, hmu, hp, hc, _⟩ := hu.heads
  obtain ⟨px, cx, rfl⟩ := hx.form
  have HP := Lib.hid (And.intro hp hc)
  clear hv hu hx hl ht hw hn hp hc
  go_enter Try.func50, Try.ntmps50
  go_wp2
  go_loopw [7, 8] (fun out i wr => ∃ k : Nat, k ≤ t.length ∧ i = .int .i64 k ∧ OwnL (fun _ => False) w.heap.size 102 wr out (sparesTo l t wind k) ∧ Below w.heap.size w wr) (fun _ i _ => t.length - (intOf i).toNat)
  case atStart => exact ⟨0, Nat.zero_le _, rfl, OwnL.nil _ _ _ _, Below.refl _ _⟩
  case round =>
    obtain ⟨i, hi, rfl, hown, hB⟩ := hrel
    have HO := Lib.hid hown
    have HB := Lib.hid hB
    by_cases hlt : i < t.length
    · obtain ⟨wo, hwo⟩ : ∃ W, W = wr := ⟨_, rfl⟩
      subst hwo
      clear hown hB
      go_wp2
      go_loopw [7, 9] (fun out j wr => ∃ k : Nat, k ≤ t[i].guys.length ∧ j = .int .i64 k ∧ OwnL (fun _ => False) w.heap.size 102 wr out (sparesTo l t wind i ++ rowTo l t wind i k) ∧ Below w.heap.size w wr) (fun _ j _ => t[i].guys.length - (intOf j).toNat)
      case atStart => exact ⟨0, Nat.zero_le _, rfl, by rw [row_zero, List.append_nil]; exact HO.out, HB.out⟩
      case round =>
        obtain ⟨k, hk, rfl, hown, hB⟩ := hrel
        have HO2 := Lib.hid hown
        have HB2 := Lib.hid hB
        have HT := Lib.hid (Step.of hB)
        obtain ⟨LL, hLL⟩ : ∃ L, L = sparesTo l t wind i ++ rowTo l t wind i k := ⟨_, rfl⟩
        rw [← hLL] at hown
        have HLN := Lib.hid (show LL.length ≤ 160 by
          have h1 := spares_len l t wind HN.out i (by omega)
          have h2 := row_len l t wind i k
          have h3 := HN.out.2 i hlt
          have h4 := HN.out.1
          rw [hLL, List.length_append]; omega)
        obtain ⟨po, co, rfl, _⟩ := hown.form
        rw [← hLL] at HO2
        have HLL := Lib.hid hLL
        clear hown hB hLL HO HB
        obtain rfl := HP.out.1 (by omega)
        obtain ⟨c2, _, _, e3, e4⟩ := HP.out.2 i hlt
        obtain ⟨pg, cg, rfl⟩ := e4.form
        have e3 := HT.out.keeps.cell id e3
        have hix : (0 : Int) ≤ (i : Int) ∧ (i : Int) < (t.length : Int) := by omega
        clear e4
        by_cases hltk : k < t[i].guys.length
        · have hg10 := HN.out.2 i hlt
          have hwk1 : wrap64 ((k : Int) + 1) = (k : Int) + 1 := by unfold wrap64; omega
          have hwk2 : IntKind.i64.wrap ((k : Int) + 1) = (k : Int) + 1 := by rw [IntKind.wrap_i64]; omega
          go_wp2_with fail
          refine (Without_any t i k _ _ (SL.go HU.out HT.out) hlt hltk HN.out).mono ?_
          rintro e w3 ⟨v3, rfl, hv3, hS3⟩
          have HT3 := Lib.hid (HT.out.trans hS3)
          have HS3 := Lib.hid hS3
          have HV3 := Lib.hid hv3
          clear hS3 hv3 HT e3
          go_wp2_with fail
          refine (RWeakest_any (fun _ => False) l (withoutL t i k) wind _ _ _ _ (SL.go HV.out HT3.out) HV3.out (SL.go HX.out HT3.out) HK.out.1 (without_all HK.out.2.1 hlt k) HK.out.2.2).mono ?_
          rintro e w4 ⟨rfl, hS4⟩
          have HS4 := Lib.hid (HS3.out.trans hS4)
          clear hS4 HS3 HV3 HT3
          cases qs : spareB l t wind i k with
          | true =>
            have HR := Lib.hid (show sparesTo l t wind i ++ rowTo l t wind i (k + 1) = LL ++ [(⟨(i : Int), (k : Int)⟩ : Vec)] by rw [row_succ, qs, if_pos rfl, ← List.append_assoc, ← HLL.out])
            have hwk := weakP_iff.2 (show standB l (withoutL t i k) wind = true from qs)
            rw [hwk]
            clear hwk qs
            have hown4 := (HO2.out.step HS4.out).alloc (.cells #[.int .i64 (i : Int), .int .i64 (k : Int)] 102)
            have hu := SLe.one (S := avoid (fun _ => False) (.slice po LL.length co)) (w := w4) (cs := [.int .i64 (i : Int), .int .i64 (k : Int)]) (x := (⟨(i : Int), (k : Int)⟩ : Vec)) 102 rfl
            have hB4 := (HB2.out.step (Nat.le_refl _) HS4.out).step (Nat.le_refl _) (Step.alloc w4 (.cells #[.int .i64 (i : Int), .int .i64 (k : Int)] 102))
            have hbz := hB4.size
            have hl1 := HLN.out
            have HB4 := Lib.hid hB4
            clear hB4
            go_wp2_with (at_builtin; refine wpl_append (α := Vec) (S := fun _ => False) (base := w.heap.size) (v := .slice po LL.length co) (l := LL) (m := [⟨(i : Int), (k : Int)⟩]) eiPairs rfl _ _ rfl rfl rfl hown4 hu (LL.length + 1) (by simp) _ rfl (by simp only [maxLen]; omega) (by omega) hbz ?_)
            intro p' c' w5 hown5 hg
            have HF := Lib.hid (And.intro hown5 (HB4.out.grown hg hbz (fun j hj => (hown4.lt j hj).1)))
            clear hown4 hu hown5 hg hbz hl1
            go_wp2
            go_roundw
            case rel => exact ⟨k + 1, by omega, by go_num, by rw [HR.out]; exact HF.out.1, HF.out.2⟩
            case measure => simp [intOf]; omega
          | false =>
            have HR := Lib.hid (show sparesTo l t wind i ++ rowTo l t wind i (k + 1) = LL by rw [row_succ, qs, if_neg (by decide), List.append_nil, ← HLL.out])
            obtain ⟨j, j2, _, _, hwk⟩ := weakP_some (l := l) (t := withoutL t i k) (wind := wind) qs
            rw [hwk]
            have hng : decide ((j : Int) < 0) = false := decide_eq_false (by omega)
            clear hwk qs
            have HF := Lib.hid (And.intro (HO2.out.step HS4.out) (HB2.out.step (Nat.le_refl _) HS4.out))
            go_wp2
            go_roundw
            case rel => exact ⟨k + 1, by omega, by go_num, by rw [HR.out]; exact HF.out.1, HF.out.2⟩
            case measure => simp [intOf]; omega
        · have HR := Lib.hid (show sparesTo l t wind (i + 1) = LL by rw [spares_succ, guysN_at hlt, HLL.out, show k = t[i].guys.length by omega])
          go_wp2
          go_roundw
          case rel => exact ⟨i + 1, by omega, by go_num, by rw [HR.out]; exact HO2.out, HB2.out⟩
          case measure => simp [intOf]; omega
    · have he : i = t.length := by omega
      subst he
      obtain ⟨po, co, rfl, _⟩ := hown.form
      clear hown hB
      go_wp2
      go_ret
      exact ⟨_, rfl, HO.out.sl (fun _ _ _ h => h), .of HB.out⟩
end Go.Proofs.Ytdcjbbeoocldeaa
/- Walks: the program's Spares. -/
namespace Go.Proofs.Ytdcjbbeoocldeaa
set_option linter.unusedSimpArgs false
set_option linter.unusedVariables false
open Go.RowKit Go.BT

/-- A row of guys of the call's own, by its cells. -/
theorem OwnL.row_guys {S : Nat → Prop} {base : Nat} {e : TypeId} {w : World} {v : Value} {l : List Guy} (h : OwnL S base e w v l) (h0 : 0 < l.length) :
    ∃ b cb, v = .slice (some ⟨b, 0, none⟩) l.length cb ∧ l.length ≤ cb ∧ base ≤ b ∧ b < w.heap.size ∧ (∀ o, w.frozen? ⟨b, o, none⟩ = false) ∧ ∃ f : Nat → Value, (∀ o, o < l.length * 5 → w.cell? ⟨b, o, none⟩ = some (f o)) ∧
      ∀ i (hi : i < l.length), f (i * 5) = .int .i64 l[i].x ∧ f (i * 5 + 1) = .int .i64 l[i].y ∧ f (i * 5 + 2) = .int .i64 l[i].down ∧ f (i * 5 + 3) = .int .i64 l[i].soil ∧ f (i * 5 + 4) = .int .i64 l[i].depth := by
  obtain ⟨xs, ⟨hx, ho⟩, hr⟩ := h
  rcases ho with ⟨_, e⟩ | ⟨b, cap, cur, rfl, hb, hg, hle, hcap, hsz, hcur⟩
  · omega
  have k5 : Rep.k Guy = 5 := rfl
  rw [k5] at hsz hcur hx
  have hfull : ∀ o, o < l.length * 5 → cur[o]? = some (xs.getD o undef) := fun o ho => by
    have h2 : xs[o]? = cur.toList[o]? := by rw [← hcur, List.getElem?_take_of_lt ho]
    rw [List.getD_eq_getElem?_getD, h2, Array.getElem?_toList]
    rw [Array.getElem?_eq_getElem (by have := Nat.mul_le_mul_right 5 hle; omega)]
    rfl
  refine ⟨b, cap, rfl, hle, hb, (Array.getElem?_eq_some_iff.1 hg).1, fun o => by simp [World.frozen?, hg], fun o => xs.getD o undef, fun o ho => ?_, fun i hi => ?_⟩
  · simp only [World.cell?, hg]
    simpa using hfull o ho
  · have hri : (xs.drop (i * 5)).take 5 = [.int .i64 l[i].x, .int .i64 l[i].y, .int .i64 l[i].down, .int .i64 l[i].soil, .int .i64 l[i].depth] := hr i hi
    have hj : ∀ j, j < 5 → xs.getD (i * 5 + j) undef = ((xs.drop (i * 5)).take 5).getD j undef := fun j hj => by
      rw [List.getD_eq_getElem?_getD, List.getD_eq_getElem?_getD, List.getElem?_take_of_lt hj, List.getElem?_drop]
    refine ⟨?_, ?_, ?_, ?_, ?_⟩
    · have := hj 0 (by omega); rw [hri] at this; exact this
    · have := hj 1 (by omega); rw [hri] at this; exact this
    · have := hj 2 (by omega); rw [hri] at this; exact this
    · have := hj 3 (by omega); rw [hri] at this; exact this
    · have := hj 4 (by omega); rw [hri] at this; exact this
/-- A head's guys written anew. -/
theorem tent_put {w : World} {g c : Nat} {t : List Head} {i : Nat} (hi : i < t.length) (hlt : g < w.heap.size) (hc : t.length ≤ c) (hm : t.length ≤ 9223372036854775807)
    (h : ∀ j (hj : j < t.length), ∃ q, w.cell? ⟨g, j * 3, none⟩ = some (.int .i64 t[j].area) ∧ w.cell? ⟨g, j * 3 + 1, none⟩ = some (.int .i64 t[j].bears) ∧ w.cell? ⟨g, j * 3 + 2, none⟩ = some q ∧ SL (fun j => j = g) w q t[j].guys)
    {q : Value} {gs : List Guy} (hq : SL (fun j => j = g) w q gs) :
    SL (fun _ => False) (w.setCell ⟨g, i * 3 + 2, none⟩ q) (.slice (some ⟨g, 0, none⟩) t.length c) (t.set i ⟨t[i].area, t[i].bears, gs⟩) := by
  have hk : Keeps (fun j => j = g) w (w.setCell ⟨g, i * 3 + 2, none⟩ q) := Keeps.wrote (S := fun j => j = g) (Wrote.setCell _ _ _ _) rfl
  have far : ∀ (o o' : Nat) (v : Value), o ≠ o' → (w.setCell ⟨g, o, none⟩ v).cell? ⟨g, o', none⟩ = w.cell? ⟨g, o', none⟩ := fun o o' v hne => World.cell?_setCell_other _ _ _ _ (by intro e; injection e with _ e _; exact hne e)
  rw [show t.length = (t.set i ⟨t[i].area, t[i].bears, gs⟩).length by simp]
  refine tent_sl (Nat.lt_of_lt_of_le hlt hk.1) (by simpa using hc) (by simpa using hm) fun j hj => ?_
  have hj' : j < t.length := by simpa using hj
  obtain ⟨q', c1, c2, c3, hs⟩ := h j hj'
  by_cases r : i = j
  · subst r
    refine ⟨q, ?_, ?_, ?_, ?_⟩
    · rw [far _ _ _ (by omega), c1]; simp
    · rw [far _ _ _ (by omega), c2]; simp
    · rw [World.cell?_setCell_same _ _ _ c3]
    · simpa using (hq.keep hk).weak (T := fun _ => False) (fun _ _ h => h.elim)
  · refine ⟨q', ?_, ?_, ?_, ?_⟩
    · rw [far _ _ _ (by omega), c1]; simp [List.getElem_set, r]
    · rw [far _ _ _ (by omega), c2]; simp [List.getElem_set, r]
    · rw [far _ _ _ (by omega), c3]
    · simpa [List.getElem_set, r] using (hs.keep hk).weak (T := fun _ => False) (fun _ _ h => h.elim)
/-- The code of Spares. -/
def spareC (l : List Tst) (t : List Head) (wind : List Vec) : Int := if blownC l t wind = 0 then (if standB l t wind = true then 0 else 7) else blownC l t wind
set_option maxRecDepth 100000 in
set_option maxHeartbeats 8000000 in
theorem Spares_any (l : List Tst) (t : List Head) (wind : List Vec) (v u x : Value) (w : World) (hv : SL (fun _ => False) w v l) (hu : SL (fun _ => False) w u t) (hx : SL (fun _ => False) w x wind) (hn : fewT t) :
    Calls Try.prog 48 #[v, u, x] w fun e w' => ∃ v', e = .returned (.tuple #[v', .int .i64 (spareC l t wind)]) ∧ (spareC l t wind = 0 → SL (fun _ => False) w' v' (sparesTo l t wind t.length)) ∧ (spareC l t wind ≠ 0 → v' = .slice none 0 0) ∧ Step w w' := by
  have HV := Lib.hid hv
  have HU := Lib.hid hu
  have HX := Lib.hid hx
  have HN := Lib.hid hn
  have HT := Lib.hid (Step.refl w)
  obtain ⟨pv, cv, rfl⟩ := hv.form
  obtain ⟨pu, cu, bu, ou, rfl, _, hmu, hp, hc, _⟩ := hu.heads
  obtain ⟨px, cx, rfl⟩ := hx.form
  have HP := Lib.hid (And.intro hp hc)
  clear hv hu hx hn hp hc
  go_enter Try.func48, Try.ntmps48
  go_wp2_with fail
  refine (blown_any (fun _ => False) l t wind _ _ _ _ (SL.go HV.out HT.out) (SL.go HU.out HT.out) (SL.go HX.out HT.out)).mono ?_
  rintro e wn ⟨rfl, hSn⟩
  have HTi := Lib.hid (HT.out.trans hSn)
  clear hSn HT
  have HT := HTi
  clear HTi
  obtain ⟨c, hc⟩ : ∃ c, c = blownC l t wind := ⟨_, rfl⟩
  rw [← hc]
  by_cases h0 : c = 0
  rotate_left
  · have hd : (c != 0) = true := by simpa using h0
    have hs : spareC l t wind = c := by unfold spareC; rw [← hc, if_neg h0]
    have HSC := Lib.hid (And.intro hs h0)
    clear h0 hs hc
    go_wp2
    go_ret2
    exact ⟨_, by rw [HSC.out.1]; rfl, fun h => absurd (HSC.out.1.symm.trans h) HSC.out.2, fun _ => rfl, HT.out⟩
  subst h0
  obtain ⟨k1, k2, k3, k4⟩ := blown_ok hc.symm
  have HK := Lib.hid (And.intro k1 (And.intro (tent_parts k2) (wind_all k3).1))
  have HC := Lib.hid hc.symm
  clear hc k1 k2 k3 k4
  go_wp2_with fail
  refine (weakest_any (fun _ => False) l t wind _ _ _ _ (SL.go HV.out HT.out) (SL.go HU.out HT.out) (SL.go HX.out HT.out) HK.out.1 HK.out.2.1.2 HK.out.2.2).mono ?_
  rintro e wn ⟨a, b, rfl, _, _, hSn⟩
  have HTi := Lib.hid (HT.out.trans hSn)
  clear hSn HT
  have HT := HTi
  clear HTi
  cases qs : standB l t wind with
  | false =>
    obtain ⟨j, j2, _, _, hwk⟩ := weakP_some (l := l) (t := t) (wind := wind) qs
    have hs : spareC l t wind = 7 := by unfold spareC; rw [HC.out, if_pos rfl, qs]; rfl
    rw [hwk]
    have hng : decide ((0 : Int) ≤ (j : Int)) = true := decide_eq_true (by omega)
    have HSC := Lib.hid hs
    clear hwk qs hs
    have HTa := Lib.hid (HT.out.trans (Step.alloc wn (.cells #[.int .i64 a, .int .i64 b] 40)))
    go_wp2
    go_ret2
    exact ⟨_, by rw [HSC.out]; rfl, fun h => absurd (HSC.out.symm.trans h) (by decide), fun _ => rfl, HTa.out⟩
  | true =>
    have hwk := weakP_iff.2 qs
    have hs : spareC l t wind = 0 := by unfold spareC; rw [HC.out, if_pos rfl, qs]; rfl
    rw [hwk]
    have HSC := Lib.hid hs
    clear hwk qs hs
    obtain ⟨w1, hw1⟩ : ∃ W, W = wn.alloc (.cells #[.int .i64 a, .int .i64 b] 40) := ⟨_, rfl⟩
    have HT1 := Lib.hid (show Step w w1 by rw [hw1]; exact HT.out.trans (Step.alloc _ _))
    have HW1 := Lib.hid hw1
    clear hw1 HT
    go_upto_region 9 with (fail)
    rw [← HW1.out]
    clear HW1
    go_loopw [12, 39] (fun out i wr => ∃ k : Nat, k ≤ t.length ∧ i = .int .i64 k ∧ OwnL (fun _ => False) w.heap.size 102 wr out (sparesTo l t wind k) ∧ Below w.heap.size w wr) (fun _ i _ => t.length - (intOf i).toNat)
    case atStart => exact ⟨0, Nat.zero_le _, rfl, OwnL.nil _ _ _ _, HT1.out.below⟩
    case round =>
      obtain ⟨i, hi, rfl, hown, hB⟩ := hrel
      have HO := Lib.hid hown
      have HB := Lib.hid hB
      by_cases hlt : i < t.length
      · obtain ⟨wo, hwo⟩ : ∃ W, W = wr := ⟨_, rfl⟩
        subst hwo
        clear hown hB
        have HT := Lib.hid (Step.of HB.out)
        obtain rfl := HP.out.1 (by omega)
        obtain ⟨c2, e1, e2, e3, e4⟩ := HP.out.2 i hlt
        obtain ⟨pg, cg, rfl⟩ := e4.form
        have HE4 := Lib.hid e4
        have e1 := HT.out.keeps.cell id e1
        have e2 := HT.out.keeps.cell id e2
        have e3 := HT.out.keeps.cell id e3
        have hix : (0 : Int) ≤ (i : Int) ∧ (i : Int) < (t.length : Int) := by omega
        clear e4
        obtain ⟨wb, hwb⟩ : ∃ W, W = wo.alloc (.cells #[.int .i64 t[i].area, .int .i64 t[i].bears, .slice pg t[i].guys.length cg] 89) := ⟨_, rfl⟩
        have HBH := Lib.hid (show Bx wb wo.heap.size [.int .i64 t[i].area, .int .i64 t[i].bears, .slice pg t[i].guys.length cg] 89 by rw [hwb]; exact Bx.new wo [_, _, _] _)
        have HSB := Lib.hid (show Step wo wb by rw [hwb]; exact Step.alloc _ _)
        have HGH := Lib.hid HT.out.size
        have HWB := Lib.hid hwb
        clear hwb
        go_upto_region 11 with (fail)
        rw [← HWB.out]
        clear HWB
        generalize wo.heap.size = gh at *
        have hb2 := HBH.out.cell 2
        have hbl := HBH.out.lt
        simp only [List.getElem?_cons_zero, List.getElem?_cons_succ] at hb2
        go_wp2
        clear hb2 hbl e1 e2 e3
        go_loopw [12, 47] (fun out j wr => ∃ k : Nat, k ≤ t[i].guys.length ∧ j = .int .i64 k ∧ OwnL (fun _ => False) w.heap.size 102 wr out (sparesTo l t wind i ++ rowTo l t wind i k) ∧ Below w.heap.size w wr ∧ Bx wr gh [.int .i64 t[i].area, .int .i64 t[i].bears, .slice pg t[i].guys.length cg] 89) (fun _ j _ => t[i].guys.length - (intOf j).toNat)
        case atStart => exact ⟨0, Nat.zero_le _, rfl, by rw [row_zero, List.append_nil]; exact HO.out.step HSB.out, HB.out.step (Nat.le_refl _) HSB.out, HBH.out⟩
        case round =>
          obtain ⟨k, hk, rfl, hown, hB, hbh⟩ := hrel
          have HO2 := Lib.hid hown
          have HB2 := Lib.hid hB
          have HBK := Lib.hid hbh
          have HT2 := Lib.hid (Step.of hB)
          obtain ⟨LL, hLL⟩ : ∃ L, L = sparesTo l t wind i ++ rowTo l t wind i k := ⟨_, rfl⟩
          rw [← hLL] at hown HO2
          have HLN := Lib.hid (show LL.length ≤ 160 by
            have h1 := spares_len l t wind HN.out i (by omega)
            have h2 := row_len l t wind i k
            have h3 := HN.out.2 i hlt
            have h4 := HN.out.1
            rw [hLL, List.length_append]; omega)
          obtain ⟨po, co, rfl, _⟩ := hown.form
          have HLL := Lib.hid hLL
          clear hown hB hbh hLL HO HB HT
          by_cases hltk : k < t[i].guys.length
          · have hg10 := HN.out.2 i hlt
            have hwk1 : wrap64 ((k : Int) + 1) = (k : Int) + 1 := by unfold wrap64; omega
            have hwk2 : IntKind.i64.wrap ((k : Int) + 1) = (k : Int) + 1 := by rw [IntKind.wrap_i64]; omega
            go_wp2_with fail
            refine (clone_heads t _ _ (SL.go HU.out HT2.out) (by have := HN.out.1; omega)).mono ?_
            rintro e w3 ⟨v3, rfl, hv3, hS3⟩
            obtain ⟨g, cl, rfl, g1, g2, g3, g4, g5⟩ := OwnL.opened hv3 (by omega)
            have HG := Lib.hid (And.intro g1 (And.intro g2 (And.intro g3 (And.intro g4 g5))))
            have HS3 := Lib.hid hS3
            have hb2 := (HBK.out.step hS3).cell 2
            simp only [List.getElem?_cons_zero, List.getElem?_cons_succ] at hb2
            clear hv3 g1 g2 g3 g4 g5 hS3
            go_wp2_with fail
            refine (clone_guys (fun _ => False) t[i].guys _ _ (SL.go HE4.out (HT2.out.trans HS3.out)) (by omega)).mono ?_
            rintro e w4 ⟨v4, rfl, hv4, hS4⟩
            obtain ⟨b, cb, rfl, b1, b2, b3, b4, f, b5, b6⟩ := OwnL.row_guys hv4 (by omega)
            have HS4 := Lib.hid hS4
            obtain ⟨cs, hbg⟩ := HG.out.2.2.2.1
            have hgb : ¬ b = g := by have := hbg.lt; omega
            clear hv4 hS4 hb2
            go_wp2_with fail
            refine (Delete_any (fun j => j = g) t[i].guys k b cb _ hgb hltk (by omega) b1 b3 f b5 b4 b6).mono ?_
            rintro e w5 ⟨rfl, hq5, hX5⟩
            have hs5 : Step w3 w5 := StepX.fresh HS4.out hX5 (fun j hj => by rw [hj]; exact b2)
            obtain ⟨qq, m1, m2, m3, _⟩ := HG.out.2.2.2.2 i hlt
            have m3 := hs5.keeps.cell id m3
            have z3 := (hbg.step hs5).frozen (i * 3 + 2)
            have gl := (hbg.step hs5).lt
            have hput := tent_put hlt gl HG.out.1 HG.out.2.1 (fun j hj => by
              obtain ⟨qj, x1, x2, x3, x4⟩ := HG.out.2.2.2.2 j hj
              exact ⟨qj, hs5.keeps.cell id x1, hs5.keeps.cell id x2, hs5.keeps.cell id x3, x4.keep (.of_step hs5)⟩) hq5
            have hst6 := Step.setNew (HS3.out.trans hs5) ⟨g, i * 3 + 2, none⟩ (.slice (some ⟨b, 0, none⟩) (t[i].guys.length - 1) cb) HG.out.2.2.1
            have HPUT := Lib.hid (show SL (fun _ => False) (w5.setCell ⟨g, i * 3 + 2, none⟩ (.slice (some ⟨b, 0, none⟩) (t[i].guys.length - 1) cb)) (.slice (some ⟨g, 0, none⟩) t.length cl) (withoutL t i k) by rw [without_get hlt]; exact hput)
            have HST6 := Lib.hid hst6
            clear hput hst6 hs5 hq5 hX5 b1 b2 b3 b4 b5 b6 hbg m1 m2 hgb
            go_upto_region 16 with (fail)
            generalize w5.setCell ⟨g, i * 3 + 2, none⟩ (.slice (some ⟨b, 0, none⟩) (t[i].guys.length - 1) cb) = w6 at *
            clear m3 z3 gl
            have HT6 := Lib.hid (HT2.out.trans HST6.out)
            go_wp2_with fail
            refine (weakest_any (fun _ => False) l (withoutL t i k) wind _ _ _ _ (SL.go HV.out HT6.out) HPUT.out (SL.go HX.out HT6.out) HK.out.1 (without_all HK.out.2.1.2 hlt k) HK.out.2.2).mono ?_
            rintro e w7 ⟨a', b', rfl, _, _, hS7⟩
            have HS7 := Lib.hid ((HST6.out.trans hS7).trans (Step.alloc w7 (.cells #[.int .i64 a', .int .i64 b'] 40)))
            clear hS7 HT6 HST6
            obtain ⟨w8, hw8⟩ : ∃ W, W = w7.alloc (.cells #[.int .i64 a', .int .i64 b'] 40) := ⟨_, rfl⟩
            rw [← hw8] at HS7
            have HW8 := Lib.hid hw8
            clear hw8
            cases qs : spareB l t wind i k with
            | true =>
              have HR := Lib.hid (show sparesTo l t wind i ++ rowTo l t wind i (k + 1) = LL ++ [(⟨(i : Int), (k : Int)⟩ : Vec)] by rw [row_succ, qs, if_pos rfl, ← List.append_assoc, ← HLL.out])
              have hwk := weakP_iff.2 (show standB l (withoutL t i k) wind = true from qs)
              rw [hwk]
              clear hwk qs
              go_upto_region 18 with (fail)
              rw [← HW8.out]
              have hown4 := (HO2.out.step HS7.out).alloc (.cells #[.int .i64 (i : Int), .int .i64 (k : Int)] 102)
              have hu := SLe.one (S := avoid (fun _ => False) (.slice po LL.length co)) (w := w8) (cs := [.int .i64 (i : Int), .int .i64 (k : Int)]) (x := (⟨(i : Int), (k : Int)⟩ : Vec)) 102 rfl
              have hB4 := (HB2.out.step (Nat.le_refl _) HS7.out).step (Nat.le_refl _) (Step.alloc w8 (.cells #[.int .i64 (i : Int), .int .i64 (k : Int)] 102))
              have hbz := hB4.size
              have hl1 := HLN.out
              have HB4 := Lib.hid hB4
              have hbk := (HBK.out.step HS7.out).alloc (.cells #[.int .i64 (i : Int), .int .i64 (k : Int)] 102)
              have hna : (Value.slice po LL.length co).ownBlock ≠ some gh := own_apart hown4 hbk (by decide)
              have HBK4 := Lib.hid hbk
              clear hB4 hbk
              go_wp2_with (at_builtin; refine wpl_append (α := Vec) (S := fun _ => False) (base := w.heap.size) (v := .slice po LL.length co) (l := LL) (m := [⟨(i : Int), (k : Int)⟩]) eiPairs rfl _ _ rfl rfl rfl hown4 hu (LL.length + 1) (by simp) _ rfl (by simp only [maxLen]; omega) (by omega) hbz ?_)
              intro p' c' w9 hown5 hg
              have HF := Lib.hid (And.intro hown5 (And.intro (HB4.out.grown hg hbz (fun j hj => (hown4.lt j hj).1)) (HBK4.out.keep (S := fun j => (Value.slice po LL.length co).ownBlock = some j) (.grown hg fun j hj _ => hj) hna)))
              clear hown4 hu hown5 hg hbz hl1 hna
              go_wp2
              go_roundw
              case rel => exact ⟨k + 1, by omega, by go_num, by rw [HR.out]; exact HF.out.1, HF.out.2.1, HF.out.2.2⟩
              case measure => simp [intOf]; omega
            | false =>
              have HR := Lib.hid (show sparesTo l t wind i ++ rowTo l t wind i (k + 1) = LL by rw [row_succ, qs, if_neg (by decide), List.append_nil, ← HLL.out])
              obtain ⟨j, j2, _, _, hwk⟩ := weakP_some (l := l) (t := withoutL t i k) (wind := wind) qs
              rw [hwk]
              have hng : decide ((j : Int) < 0) = false := decide_eq_false (by omega)
              clear hwk qs
              have HF := Lib.hid (And.intro (HO2.out.step HS7.out) (And.intro (HB2.out.step (Nat.le_refl _) HS7.out) (HBK.out.step HS7.out)))
              go_upto_region 17 with (fail)
              rw [← HW8.out]
              go_wp2
              go_roundw
              case rel => exact ⟨k + 1, by omega, by go_num, by rw [HR.out]; exact HF.out.1, HF.out.2.1, HF.out.2.2⟩
              case measure => simp [intOf]; omega
          · have HR := Lib.hid (show sparesTo l t wind (i + 1) = LL by rw [spares_succ, guysN_at hlt, HLL.out, show k = t[i].guys.length by omega])
            go_wp2
            go_roundw
            case rel => exact ⟨i + 1, by omega, by go_num, by rw [HR.out]; exact HO2.out, HB2.out⟩
            case measure => simp [intOf]; omega
      · have he : i = t.length := by omega
        subst he
        obtain ⟨po, co, rfl, _⟩ := hown.form
        clear hown hB
        go_wp2
        go_ret2
        exact ⟨_, by rw [HSC.out]; rfl, fun _ => HO.out.sl (fun _ _ _ h => h), fun h => absurd HSC.out h, .of HB.out⟩
end Go.Proofs.Ytdcjbbeoocldeaa
