/- Walks and plain laws, part j. -/
import Derived.Test.YtgpiieogiafdoaaGreatMu
import Derived.Test.YtgpiieogiafdoaaGreatMv
import Derived.Test.YtgpiieogiafdoaaGreatMw
import Derived.Test.YtgpiieogiafdoaaGreatMx
import Derived.Test.YtgpiieogiafdoaaGreatMy
import Derived.Test.YtgpiieogiafdoaaGreatRows
import Derived.BigQuiet
import Derived.Deep.AppendLies
import Derived.Deep.DeepCutAuto
import Derived.Deep.QuietTactic
import Derived.Deep.RegionHeld3
import Derived.Defers
import Derived.Laws.MakeOwn
import Derived.Laws.OwnMore
import Derived.Laws.Pointers
import Derived.Laws.StructEq
import Derived.Lib.Hide
import Derived.LoopIn
import Derived.LoopNIn
import Derived.MapKept
import Derived.OwnWalkIn
import Derived.RangeFuncBound
import Derived.RangeFuncCalls
import Derived.RangeFuncLeaves
import Derived.RangeFuncNested
import Derived.Recover
import Derived.Shelf.Abstract
import Derived.Shelf.RegionOpen
import Derived.TacticsInMore
import Derived.WalkKit
import Derived.WalkLawsBesides
import Derived.WalkSmall
import Derived.WalkSpells
import Derived.WideKeyRuns
set_option maxHeartbeats 16000000
set_option maxRecDepth 100000
namespace Go.Proofs.YtgpiieogiafdoaaGreat
set_option linter.unusedSimpArgs false
set_option linter.unusedVariables false
open Go.RowKit Go.BT
structure KeyT (tk : TypeId) {K : Type} (kf : K → Value) : Prop where
 inj : ∀ {a b : K}, kf a = kf b → a = b
 check : ∀ (x : K) (em : Bool) (w : World), (Instr.checkKey em 10000 tk (kf x)).run Tryz.prog w = .ok () w
 bits : ∀ (x : K) (w : World), (Instr.keyThatStays (kf x) (kf x)).run Tryz.prog w = .ok (kf x) w
 find : ∀ (x : K) (w : World) (es : List MapEntry), (∀ e ∈ es, ∃ y, e.key = kf y) →
  (∃ j, ∃ h : j < es.length, es[j].key = kf x ∧ (Instr.findKey tk (kf x) es).run Tryz.prog w = .ok (some (j, es[j].val)) w) ∨ ((∀ e ∈ es, e.key ≠ kf x) ∧ (Instr.findKey tk (kf x) es).run Tryz.prog w = .ok none w)
def MF {K : Type} (kf : K → Value) (w : World) (r : Nat) (f : K → Option Int) : Prop :=
 ∃ es clock, w.heap[r]? = some (.map es clock) ∧ (∀ e ∈ es.toList, ∃ x n, f x = some n ∧ e.key = kf x ∧ e.val = .int .i64 n) ∧ (∀ x n, f x = some n → ∃ e ∈ es.toList, e.key = kf x) ∧
  (∀ (i j : Nat) (hi : i < es.toList.length) (hj : j < es.toList.length), (es.toList[i]).key = (es.toList[j]).key → i = j)
theorem MF.keep {K : Type} {kf : K → Value} {S : Nat → Prop} {w w' : World} {r : Nat} {f : K → Option Int} (h : MF kf w r f) (hs : Keeps S w w') (hr : ¬ S r) : MF kf w' r f := by
 obtain ⟨es, cl, h1, h2⟩ := h
 exact ⟨es, cl, (hs.2 r (Array.getElem?_eq_some_iff.1 h1).1 hr).trans h1, h2⟩
theorem MF.lt {K : Type} {kf : K → Value} {w : World} {r : Nat} {f : K → Option Int} (h : MF kf w r f) : r < w.heap.size := by
 obtain ⟨es, cl, h1, h2⟩ := h
 exact (Array.getElem?_eq_some_iff.1 h1).1
theorem MF.nob {K : Type} {kf : K → Value} {w : World} {r g : Nat} {f : K → Option Int} {l : List Value} {t : TypeId} (h : MF kf w r f) (hb : Bx w g l t) : g ≠ r := by
 obtain ⟨es, cl, h1, h2⟩ := h
 intro e; subst e; unfold Bx at hb; rw [hb] at h1; cases h1
theorem MF.new {K : Type} (kf : K → Value) (w : World) (r clock : Nat) (h : w.heap[r]? = some (.map #[] clock)) : MF kf w r (fun _ => none) :=
 ⟨#[], clock, h, by simp, by simp, by simp⟩
theorem zeroInt (w : World) : (zeroValue 3).run Tryz.prog w = .ok (.int .i64 0) w := by kernel_rfl
theorem run_lookup_mf {tm tk : TypeId} (hm : Tryz.prog.underlying tm = some (.map tk 3)) {K : Type} {kf : K → Value} (ht : KeyT tk kf) {w : World} {r : Nat} {f : K → Option Int} (x : K) (h : MF kf w r f) (ok : Bool) :
  (Instr.lookup tm (.map (some r)) (kf x) ok).run Tryz.prog w = .ok (if ok then .tuple #[.int .i64 ((f x).getD 0), .bool (f x).isSome] else .int .i64 ((f x).getD 0)) w := by
 obtain ⟨es, clock, hh, h1, h2, h3⟩ := h
 have hck := fun em => ht.check x em w
 have hgo : (getObj r).run Tryz.prog w = .ok (.map es clock) w := by simp [getObj, Sem.run, hh]
 rcases ht.find x w es.toList (fun e he => by obtain ⟨y, _, _, hk, _⟩ := h1 e he; exact ⟨y, hk⟩) with ⟨j, hj, hk, hf⟩ | ⟨hn, hf⟩
 ·obtain ⟨y, n, hy, hky, hv⟩ := h1 _ (List.getElem_mem hj)
  have : x = y := ht.inj (by rw [← hky, hk])
  subst this
  cases ok <;> simp [Instr.lookup, run_underlying hm, hgo, hck, hf, hy] <;> simpa using hv
 ·have hx : f x = none := by
   cases q : f x with
   | none => rfl
   | some n => obtain ⟨e, he, hk⟩ := h2 x n q; exact absurd hk (hn e he)
  cases ok <;> simp [Instr.lookup, run_underlying hm, hgo, hck, hf, hx, zeroInt]
theorem run_mapUpdate_mf {tm tk : TypeId} (hm : Tryz.prog.underlying tm = some (.map tk 3)) {K : Type} [DecidableEq K] {kf : K → Value} (ht : KeyT tk kf) {w : World} {r : Nat} {f : K → Option Int} (x : K) (n : Int) (h : MF kf w r f) :
  ∃ w', (Instr.mapUpdate tm (.map (some r)) (kf x) (.int .i64 n)).run Tryz.prog w = .ok () w' ∧ MF kf w' r (fun y => if y = x then some n else f y) ∧ Wrote r w w' := by
 obtain ⟨es, clock, hh, h1, h2, h3⟩ := h
 have hck := fun em => ht.check x em w
 have hgo : (getObj r).run Tryz.prog w = .ok (.map es clock) w := by simp [getObj, Sem.run, hh]
 have hso : ∀ o, (setObj r o).run Tryz.prog w = .ok () (putM w r o) := fun o => by simp [setObj, Sem.run, hh, putM]
 have hst := ht.bits x w
 rcases ht.find x w es.toList (fun e he => by obtain ⟨y, _, _, hk, _⟩ := h1 e he; exact ⟨y, hk⟩) with ⟨j, hj, hk, hf⟩ | ⟨hn, hf⟩
 ·have hjs : j < es.size := by simpa using hj
  have hjk' : es[j]?.map (·.key) = some (kf x) := by
   rw [Array.getElem?_eq_getElem hjs, Option.map_some]
   rw [Array.getElem_toList] at hk
   rw [hk]
  refine ⟨putM w r (.map (es.modify j fun e => { e with key := kf x, val := .int .i64 n }) clock), ?_, ⟨_, _, putM_at (Array.getElem?_eq_some_iff.1 hh).1, ?_, ?_, ?_⟩, putM_wrote _ _ _⟩
  ·simp [Instr.mapUpdate, run_underlying hm, hgo, hck, hf, hjk', hst, hso]
  ·intro e he
   rw [Array.toList_modify] at he
   obtain ⟨i, hi, rfl⟩ := List.getElem_of_mem he
   rw [List.getElem_modify]
   have hi' : i < es.toList.length := by simpa using hi
   split
   ·exact ⟨x, n, by simp, rfl, rfl⟩
   ·rename_i hne
    obtain ⟨y, m, hy, hky, hv⟩ := h1 _ (List.getElem_mem hi')
    refine ⟨y, m, ?_, hky, hv⟩
    have : y ≠ x := fun e => hne (h3 j i hj hi' (by rw [hk, hky, e]))
    simp [this, hy]
  ·intro y m hy
   have hkey : ∀ i (hi : i < es.toList.length), ∃ e ∈ (es.modify j fun e => { e with key := kf x, val := .int .i64 n }).toList, e.key = (es.toList[i]).key := by
    intro i hi
    refine ⟨(es.modify j fun e => { e with key := kf x, val := .int .i64 n }).toList[i]'(by simpa using hi), List.getElem_mem _, ?_⟩
    simp only [Array.toList_modify, List.getElem_modify]
    split
    ·rename_i hij
     subst hij
     exact hk.symm
    ·rfl
   by_cases q : y = x
   ·obtain ⟨e, he, hke⟩ := hkey j hj
    exact ⟨e, he, by rw [hke, hk, q]⟩
   ·simp only [q, if_false] at hy
    obtain ⟨e, he, hke⟩ := h2 y m hy
    obtain ⟨i, hi, rfl⟩ := List.getElem_of_mem he
    obtain ⟨e', he', hk'⟩ := hkey i hi
    exact ⟨e', he', by rw [hk', hke]⟩
  ·intro a b ha hb hab
   have hkey : ∀ i (hi : i < (es.modify j fun e => { e with key := kf x, val := .int .i64 n }).toList.length), ((es.modify j fun e => { e with key := kf x, val := .int .i64 n }).toList[i]).key = (es.toList[i]'(by simpa using hi)).key := by
    intro i hi
    simp only [Array.toList_modify, List.getElem_modify]
    split
    ·rename_i hij
     subst hij
     exact hk.symm
    ·rfl
   rw [hkey a ha, hkey b hb] at hab
   exact h3 a b _ _ hab
 ·refine ⟨putM w r (.map (es.push { key := kf x, val := .int .i64 n, born := clock }) (clock + 1)), ?_, ⟨_, _, putM_at (Array.getElem?_eq_some_iff.1 hh).1, ?_, ?_, ?_⟩, putM_wrote _ _ _⟩
  ·simp [Instr.mapUpdate, run_underlying hm, hgo, hck, hf, hso]
  ·intro e he
   simp only [Array.toList_push, List.mem_append, List.mem_singleton] at he
   rcases he with he | rfl
   ·obtain ⟨y, m, hy, hky, hv⟩ := h1 e he
    refine ⟨y, m, ?_, hky, hv⟩
    have : y ≠ x := fun e' => hn e he (by rw [hky, e'])
    simp [this, hy]
   ·exact ⟨x, n, by simp, rfl, rfl⟩
  ·intro y m hy
   by_cases q : y = x
   ·exact ⟨{ key := kf x, val := .int .i64 n, born := clock }, by simp, by rw [q]⟩
   ·simp only [q, if_false] at hy
    obtain ⟨e, he, hke⟩ := h2 y m hy
    exact ⟨e, by simp [he], hke⟩
  ·intro a b ha hb hab
   simp only [Array.toList_push, List.length_append, List.length_cons, List.length_nil] at ha hb
   simp only [Array.toList_push, List.getElem_append] at hab
   by_cases qa : a < es.toList.length <;> by_cases qb : b < es.toList.length
   ·simp only [qa, qb, dite_true] at hab
    exact h3 a b qa qb hab
   ·simp only [qa, qb, dite_true, dite_false, List.getElem_singleton] at hab
    exact absurd hab (hn _ (List.getElem_mem qa))
   ·simp only [qa, qb, dite_true, dite_false, List.getElem_singleton] at hab
    exact absurd hab.symm (hn _ (List.getElem_mem qb))
   ·omega
def iv (n : Int) : Value := .int .i64 n
theorem intUnder : Tryz.prog.underlying 3 = some (.int .i64) := by kernel_rfl
theorem find_int (n : Int) : ∀ (es : List MapEntry) (i : Nat), (∀ e ∈ es, ∃ y, e.key = iv y) →
  (∃ j, ∃ h : j < es.length, es[j].key = iv n ∧ Instr.findNow (.int .i64) (iv n) es i = some (some (i + j, es[j].val))) ∨ ((∀ e ∈ es, e.key ≠ iv n) ∧ Instr.findNow (.int .i64) (iv n) es i = some none)
 | [], i, _ => .inr ⟨by simp, rfl⟩
 | e :: es, i, h => by
  obtain ⟨y, hy⟩ := h e List.mem_cons_self
  by_cases q : n = y
  ·subst q
   refine .inl ⟨0, by simp, by simpa using hy, ?_⟩
   simp [Instr.findNow, hy, Instr.sameNow, iv]
  ·have hst : Instr.findNow (.int .i64) (iv n) (e :: es) i = Instr.findNow (.int .i64) (iv n) es (i + 1) := by
    have hb : (n == y) = false := by simpa using q
    simp [Instr.findNow, hy, Instr.sameNow, iv, hb]
   rcases find_int n es (i + 1) (fun e he => h e (List.mem_cons_of_mem _ he)) with ⟨j, h1, h2, h3⟩ | ⟨h1, h2⟩
   ·refine .inl ⟨j + 1, by simp; omega, by simpa using h2, ?_⟩
    rw [hst, h3]
    congr 2
    simp
    omega
   ·refine .inr ⟨?_, by rw [hst, h2]⟩
    intro e' he'
    rcases List.mem_cons.1 he' with rfl | he'
    ·rw [hy]; unfold iv; intro hh; injection hh with _ hh; exact q hh.symm
    ·exact h1 e' he'
theorem keyT_int : KeyT 3 iv where
 inj := by intro a b h; unfold iv at h; injection h
 check := fun x em w => check_int 9999 x em w
 bits := fun x w => by simp [iv, Instr.keyThatStays, Instr.sameBits]
 find := fun x w es h => by
  rcases find_int x es 0 h with ⟨j, h1, h2, h3⟩ | ⟨h1, h2⟩
  ·exact .inl ⟨j, h1, h2, by have := MapKept.run_findKey (P := Tryz.prog) (w := w) intUnder h3; rw [this]; simp⟩
  ·exact .inr ⟨h1, MapKept.run_findKey (P := Tryz.prog) (w := w) intUnder h2⟩
theorem ask_key (x : Key) (w : World) : ∀ (es : List MapEntry) (i : Nat), (∀ e ∈ es, ∃ y, e.key = kv y) →
  (∃ j, ∃ h : j < es.length, es[j].key = kv x ∧ (Instr.findAsking 172 (kv x) es i).run Tryz.prog w = .ok (some (i + j, es[j].val)) w) ∨ ((∀ e ∈ es, e.key ≠ kv x) ∧ (Instr.findAsking 172 (kv x) es i).run Tryz.prog w = .ok none w)
 | [], i, _ => .inr ⟨by simp, by simp [Instr.findAsking]⟩
 | e :: es, i, h => by
  obtain ⟨y, hy⟩ := h e List.mem_cons_self
  by_cases q : x = y
  ·subst q
   exact .inl ⟨0, by simp, by simpa using hy, by simp [Instr.findAsking, hy, equal_key]⟩
  ·have hst : (Instr.findAsking 172 (kv x) (e :: es) i).run Tryz.prog w = (Instr.findAsking 172 (kv x) es (i + 1)).run Tryz.prog w := by
    simp [Instr.findAsking, hy, equal_key, q]
   rcases ask_key x w es (i + 1) (fun e he => h e (List.mem_cons_of_mem _ he)) with ⟨j, h1, h2, h3⟩ | ⟨h1, h2⟩
   ·refine .inl ⟨j + 1, by simp; omega, by simpa using h2, ?_⟩
    rw [hst, h3]
    rw [show i + 1 + j = i + (j + 1) by omega]
    rfl
   ·refine .inr ⟨?_, by rw [hst, h2]⟩
    intro e' he'
    rcases List.mem_cons.1 he' with rfl | he'
    ·rw [hy]; exact fun hh => q (kv_inj hh.symm)
    ·exact h1 e' he'
theorem bits_key (x : Key) (w : World) : (Instr.keyThatStays (kv x) (kv x)).run Tryz.prog w = .ok (kv x) w := by
 have h := sameBits_kv x 9999
 simp only [Instr.keyThatStays, h, if_true, Sem.run_pure]
theorem keyT_key : KeyT 172 kv where
 inj := kv_inj
 check := fun x em w => check_key x em w
 bits := bits_key
 find := fun x w es h => by
  have hfk : (Instr.findKey 172 (kv x) es).run Tryz.prog w = (Instr.findAsking 172 (kv x) es).run Tryz.prog w := run_findKey_eq w (by rw [Tryz.underlying172]) _ _
  rw [hfk]
  rcases ask_key x w es 0 h with ⟨j, h1, h2, h3⟩ | ⟨h1, h2⟩
  ·exact .inl ⟨j, h1, h2, by rw [h3]; simp⟩
  ·exact .inr ⟨h1, h2⟩
theorem mapUnderI : Tryz.prog.underlying 173 = some (.map 3 3) := by kernel_rfl
theorem mapUnderK : Tryz.prog.underlying 174 = some (.map 172 3) := by kernel_rfl
theorem counted1_any (f : Key → Option Int) (x : Key) (a : Int) (m r gb : Nat) (w : World) (hm : w.cell? ⟨m, 0, none⟩ = some (.map (some r))) (hk : MF kv w r f) (hgb : w.cell? ⟨gb, 0, none⟩ = some (.int .i64 a)) :
  Calls Tryz.prog 108 #[kv x, .pointer (some ⟨m, 0, none⟩), .pointer (some ⟨gb, 0, none⟩)] w fun e w' => e = .returned (.bool (decide (f x = some a))) ∧ Step w w' := by
 unfold kv
 have hS := Step.alloc w (.cells #[.int .i64 x.frm, .int .i64 x.number] 172)
 have hlk := run_lookup_mf mapUnderK keyT_key x (hk.keep hS.keeps id) true
 have a1 := hS.kc hm
 have a2 := hS.kc hgb
 have HS := zH hS
 unfold kv at hlk
 rw [if_pos rfl] at hlk
 clear hS hk hm hgb
 cases q : f x with
 | none =>
  rw [q] at hlk
  have HF := zH (show decide (f x = some a) = false by simp [q])
  rw [show (none : Option Int).isSome = false from rfl, show (none : Option Int).getD 0 = 0 from rfl] at hlk
  clear q
  go_enter Tryz.func108, Tryz.ntmps108
  go_wp2
  go_ret
  exact ⟨by first | rw [HF.out] | simp [HF.out], by first | exact HS.out | exact HS.out.trans (Step.refl _)⟩
 | some n =>
  rw [q] at hlk
  have HF := zH (show decide (f x = some a) = (n == a) by rw [q]; by_cases e : n = a <;> simp [e])
  rw [show (some n : Option Int).isSome = true from rfl, show (some n : Option Int).getD 0 = n from rfl] at hlk
  clear q
  go_enter Tryz.func108, Tryz.ntmps108
  go_wp2
  go_ret
  exact ⟨by first | rw [HF.out] | (simp [HF.out]; by_cases e : n = a <;> simp [e]), by first | exact HS.out | exact HS.out.trans (Step.refl _)⟩
theorem known_any (S : Nat → Prop) (f : Key → Option Int) (l : List Key) (a : Int) (v : Value) (m r gb : Nat) (W : World) (hv : SL S W v l) (hm : W.cell? ⟨m, 0, none⟩ = some (.map (some r))) (hk : MF kv W r f) (hgb : W.cell? ⟨gb, 0, none⟩ = some (.int .i64 a)) :
  Calls Tryz.prog 107 #[v, .func (.func 108) #[] #[.pointer (some ⟨m, 0, none⟩), .pointer (some ⟨gb, 0, none⟩)]] W fun e W' => e = .returned (.bool (l.all fun x => decide (f x = some a))) ∧ Step W W' := by
 have hall : ((idxKeys l).all fun x => decide (f (toKey x) = some a)) = l.all fun x => decide (f x = some a) := by
  have h1 : (idxKeys l).map toKey = l := by
   refine List.ext_getElem (by simp [idxKeys_len]) fun i h1 h2 => ?_
   have hx : (idxKeys l)[i]'(by simpa using h1) = ⟨i, l[i].frm, l[i].number⟩ := by simp [idxKeys]
   rw [List.getElem_map, hx]; rfl
  conv => rhs; rw [← h1]
  rw [List.all_map]
  rfl
 refine (all_ikey S (idxKeys l) v W 108 #[.pointer (some ⟨m, 0, none⟩), .pointer (some ⟨gb, 0, none⟩)] (Go.Proofs.enters_of Tryz.func108 (by kernel_rfl) rfl) (fun x => decide (f (toKey x) = some a))
  (fun k W' => Step W W') (fun _ => False) (fun j hj => hj.elim) (fun _ W' hW' => (hv.keep (.of_step hW')).idx)
  (fun _ _ _ h1 h2 => h1.trans h2) (Step.refl _) (fun i hi W1 u hW _ hu => ?_)).mono ?_
 ·subst hu
  refine (counted1_any f (toKey (idxKeys l)[i]) a m r gb W1 (hW.kc hm) (hk.keep hW.keeps id) (hW.kc hgb)).mono ?_
  rintro e w' ⟨rfl, hS⟩
  exact ⟨rfl, hW.trans hS, .of hS⟩
 ·rintro e w' ⟨rfl, k, _, _, hS⟩
  exact ⟨by rw [hall], hS⟩
theorem all1_mess (S T : Nat → Prop) (h : House) (m : BT.Message) (hv u : Value) (b : Nat) (w : World) (hh : AV S w hv h) (hm : AV T w u m) (hok : valid h = true) (hb : w.cell? ⟨b, 0, none⟩ = some (.func (.func 103) #[hv] #[])) :
  Calls Tryz.prog 134 #[u, .pointer (some ⟨b, 0, none⟩)] w fun e w' => e = .returned (.bool (!messV h m)) ∧ Step w w' := by
 obtain ⟨c4, rfl, s4⟩ := hm.message
 obtain ⟨p, k, rfl⟩ := s4.form
 obtain ⟨W0, hW0⟩ : ∃ z9, z9 = w.alloc (.cells #[.int .i64 m.frm, .int .i64 m.dst, .int .i64 m.number, .int .i64 m.shw, .slice p m.seats.length k] 86) := ⟨_, rfl⟩
 have hS : Step w W0 := by subst hW0; exact Step.alloc _ _
 have hb1 : Bx W0 w.heap.size [.int .i64 m.frm, .int .i64 m.dst, .int .i64 m.number, .int .i64 m.shw, .slice p m.seats.length k] 86 := by subst hW0; exact Bx.new _ [_, _, _, _, _] _
 have hbb := hS.kc hb
 have HM := zH (hm.keep (.of_step hS))
 have HH := zH (hh.keep (.of_step hS))
 have HS := zH hS
 have HW := zH hW0
 obtain ⟨m0, m1, m2, m3, m4⟩ := cells5 hb1
 have HCALL := zH (vmess_any S T h m _ _ W0 HH.out HM.out hok)
 clear s4 hS hb1 hW0 hb hh hm
 go_enter Tryz.func134, Tryz.ntmps134
 go_upto_region 1 with (fail)
 rw [← HW.out]
 clear HW
 go_wp2_with fail
 refine HCALL.out.mono ?_
 rintro e wn ⟨rfl, hSn⟩
 have HT := zH (HS.out.trans hSn)
 clear hSn
 go_wp2
 go_ret
 exact ⟨rfl, HT.out⟩
theorem index_mess (S T : Nat → Prop) (h : House) (l : List BT.Message) (hv v : Value) (b : Nat) (w : World) (hh : AV S w hv h) (hl : SL T w v l) (hok : valid h = true) (hb : w.cell? ⟨b, 0, none⟩ = some (.func (.func 103) #[hv] #[])) :
  Calls Tryz.prog 148 #[v, .func (.func 134) #[] #[.pointer (some ⟨b, 0, none⟩)]] w fun e w' => ∃ q : Int, e = .returned (.int .i64 q) ∧ (0 ≤ q ↔ l.all (messV h) = false) ∧ Step w w' := by
 obtain ⟨px, kx, bx, ox, rfl, _, mx, hpx, hcx, _⟩ := hl.mess
 have HX := zH (And.intro hpx hcx)
 have HH := zH hh
 have HB := zH hb
 have HOK := zH hok
 clear hl hh hb hok hpx hcx
 go_enter Tryz.func148, Tryz.ntmps148
 go_wp2
 go_loopw [8] (fun i wr => ∃ k : Nat, k ≤ l.length ∧ i = .int .i64 k ∧ (l.take k).all (messV h) = true ∧ Step w wr) (fun i _ => l.length - (intOf i).toNat)
 case atStart => exact ⟨0, Nat.zero_le _, rfl, by simp, Step.refl _⟩
 case round =>
  obtain ⟨k, hk, rfl, ht, hT⟩ := hrel
  have HA := zH ht
  have HT := zH hT
  clear ht hT
  by_cases hlt : k < l.length
  ·obtain rfl := HX.out.1 (by omega)
   obtain ⟨c4, ⟨g0, g1, g2, g3, g4⟩, s4⟩ := HX.out.2 k hlt
   obtain ⟨p4, k4, e4⟩ := s4.form
   subst e4
   have HM := zH (show AV T w (.agg #[.int .i64 l[k].frm, .int .i64 l[k].dst, .int .i64 l[k].number, .int .i64 l[k].shw, .slice p4 l[k].seats.length k4]) l[k] from ⟨_, rfl, _, rfl, s4⟩)
   have g0 := (HT.out).kc g0; have g1 := (HT.out).kc g1; have g2 := (HT.out).kc g2; have g3 := (HT.out).kc g3; have g4 := (HT.out).kc g4
   have hix1 : (0 : Int) ≤ (k : Int) ∧ (k : Int) < (l.length : Int) := by omega
   have HTK := zH (List.take_succ_eq_append_getElem hlt)
   clear s4
   have hcall := zH (all1_mess S T h l[k] hv _ b wr (HH.out.keep (.of_step HT.out)) (HM.out.keep (.of_step HT.out)) HOK.out (HT.out.kc HB.out))
   go_wp2_with fail
   refine hcall.out.mono ?_
   clear hcall
   rintro e wn ⟨rfl, hSn⟩
   have HTn := zH (HT.out.trans hSn)
   clear hSn g0 g1 g2 g3 g4 HM
   cases q1 : messV h l[k] with
   | false =>
    have HQ := zH (show l.all (messV h) = false by rw [List.all_eq_false]; exact ⟨l[k], List.getElem_mem hlt, by simp [q1]⟩)
    clear q1
    go_wp2
    go_ret
    exact ⟨k, rfl, by simpa using HQ.out, HTn.out⟩
   | true =>
    have HF := zH (show (l.take (k + 1)).all (messV h) = true by rw [HTK.out, List.all_append, HA.out]; simp [q1])
    clear q1
    go_wp2
    go_roundw
    case rel => exact ⟨k + 1, by omega, by go_num, HF.out, HTn.out⟩
    case measure => simp [intOf]; omega
  ·have HE := zH (show l.all (messV h) = true by have := HA.out; rwa [List.take_of_length_le (by omega)] at this)
   clear HA
   go_wp2
   go_ret
   exact ⟨-1, rfl, by simp [HE.out], HT.out⟩
theorem contains_mess (S T : Nat → Prop) (h : House) (l : List BT.Message) (hv v : Value) (b : Nat) (w : World) (hh : AV S w hv h) (hl : SL T w v l) (hok : valid h = true) (hb : w.cell? ⟨b, 0, none⟩ = some (.func (.func 103) #[hv] #[])) :
  Calls Tryz.prog 133 #[v, .func (.func 134) #[] #[.pointer (some ⟨b, 0, none⟩)]] w fun e w' => e = .returned (.bool (!l.all (messV h))) ∧ Step w w' := by
 have HC := zH (index_mess S T h l hv v b w hh hl hok hb)
 obtain ⟨p, c, rfl⟩ := hl.form
 clear hl hh hb
 go_enter Tryz.func133, Tryz.ntmps133
 go_wp2_with fail
 refine HC.out.mono ?_
 rintro e wn ⟨q, rfl, hn, hSn⟩
 have HF := zH (show (!l.all (messV h)) = decide (0 ≤ q) by
  by_cases z : 0 ≤ q
  ·rw [decide_eq_true z, hn.1 z]; rfl
  ·rw [decide_eq_false z]
   cases hz : l.all (messV h) with
   | true => rfl
   | false => exact absurd (hn.2 hz) z)
 have HT := zH hSn
 clear hSn hn HC
 go_wp2
 go_ret
 exact ⟨by rw [HF.out]; rfl, HT.out⟩
theorem all_mess (S T : Nat → Prop) (h : House) (l : List BT.Message) (hv v : Value) (w : World) (hh : AV S w hv h) (hl : SL T w v l) (hok : valid h = true) :
  Calls Tryz.prog 102 #[v, .func (.func 103) #[hv] #[]] w fun e w' => e = .returned (.bool (l.all (messV h))) ∧ Step w w' := by
 have hmf : ∀ (fn : Fn) (first cap : Array Value) (w : World), (Instr.makeFunc fn first cap).run Tryz.prog w = .ok (.func fn first cap) w := fun _ _ _ _ => rfl
 have hS := Step.alloc w (.cells #[.func (.func 103) #[hv] #[]] 169)
 have hc := contains_mess S T h l hv v w.heap.size _ (hh.keep (.of_step hS)) (hl.keep (.of_step hS)) hok (by rw [World.cell?_alloc_new]; rfl)
 obtain ⟨cs, rfl, hr⟩ := hh
 have HC := zH hc
 have HS := zH hS
 obtain ⟨p, c, rfl⟩ := hl.form
 clear hc hS hl hr
 go_enter Tryz.func102, Tryz.ntmps102
 go_wp2_with fail
 refine HC.out.mono ?_
 rintro e wn ⟨rfl, hSn⟩
 have HT := zH (HS.out.trans hSn)
 clear hSn HC
 go_wp2
 go_ret
 exact ⟨by simp, HT.out⟩
def bk (W : Wd) (a : Nat) : Book := W.books.getD a noBook
def ms (W : Wd) (k : Nat) : BT.Message := W.msgs.getD k noMsg
def Holds (W : Wd) (s i : Nat) (a : Nat) : Prop := a < W.books.length ∧ seatAt (bk W a) s i ≠ -1
def Carries (W : Wd) (s i : Nat) (k : Nat) : Prop := k < W.msgs.length ∧ (ms W k).shw = s ∧ (i : Int) ∈ (ms W k).seats ∧ keyOf (ms W k) ∉ (bk W (ms W k).dst.toNat).took
def OnePlace (W : Wd) (s i : Nat) : Prop :=
 (∃ a, Holds W s i a ∧ (∀ b, Holds W s i b → b = a) ∧ ∀ k, ¬ Carries W s i k) ∨ (∃ k, Carries W s i k ∧ (∀ q, Carries W s i q → q = k) ∧ ∀ a, ¬ Holds W s i a)
def sentTo (W : Wd) (a : Int) (k : Nat) : Nat := ((W.msgs.take k).filter fun m => decide (m.frm = a)).length
structure WdInv (h : House) (W : Wd) : Prop where
 ok : WdOk h W
 one : ∀ s i : Nat, s < h.dates.length → (i : Int) < sizeL h.sectors → OnePlace W s i
 num : ∀ k, k < W.msgs.length → (ms W k).number = sentTo W (ms W k).frm k + 1
 sent : ∀ a, a < W.books.length → (bk W a).sent = sentTo W a W.msgs.length
 took : ∀ a, a < W.books.length → ∀ x ∈ (bk W a).took, ∃ k, k < W.msgs.length ∧ keyOf (ms W k) = x ∧ (ms W k).dst = a
theorem sentTo_mono (W : Wd) (a : Int) {k q : Nat} (h : k ≤ q) : sentTo W a k ≤ sentTo W a q := by
 unfold sentTo
 obtain ⟨d, rfl⟩ : ∃ d, q = k + d := ⟨q - k, by omega⟩
 rw [List.take_add, List.filter_append, List.length_append]
 omega
theorem sentTo_succ (W : Wd) (a : Int) {k : Nat} (h : k < W.msgs.length) : sentTo W a (k + 1) = sentTo W a k + if (ms W k).frm = a then 1 else 0 := by
 unfold sentTo ms
 rw [List.take_succ_eq_append_getElem h, List.filter_append, List.length_append]
 have : W.msgs.getD k noMsg = W.msgs[k] := by simp [List.getD_eq_getElem?_getD, h]
 rw [this]
 congr 1
 by_cases e : W.msgs[k].frm = a <;> simp [e]
theorem bk_at {W : Wd} {a : Nat} (h : a < W.books.length) : bk W a = W.books[a] := by simp [bk, List.getD_eq_getElem?_getD, h]
theorem ms_at {W : Wd} {k : Nat} (h : k < W.msgs.length) : ms W k = W.msgs[k] := by simp [ms, List.getD_eq_getElem?_getD, h]
def okA (h : House) (W : Wd) (a : Nat) : Bool := decide ((bk W a).agency = a) && bookB h (bk W a)
def worldB (h : House) (W : Wd) : Bool := valid h && (decide (W.books.length = agN h) && (W.msgs.all (messV h) && (List.range W.books.length).all (okA h W)))
theorem okA_step {h : House} {W : Wd} {k : Nat} (h1 : (List.range k).all (okA h W) = true) (h2 : okA h W k = true) : (List.range (k + 1)).all (okA h W) = true := by
 rw [List.range_succ, List.all_append, h1]; simp [h2]
theorem okA_bad {h : House} {W : Wd} {k n : Nat} (hk : k < n) (h2 : okA h W k = false) : (List.range n).all (okA h W) = false := by
 rw [List.all_eq_false]
 exact ⟨k, List.mem_range.2 hk, by simp [h2]⟩
theorem world_any (S T : Nat → Prop) (h : House) (W : Wd) (v u : Value) (w : World) (hv : AV S w v h) (hu : AV T w u W) :
  Calls Tryz.prog 52 #[v, u] w fun e w' => e = .returned (.bool (worldB h W)) ∧ Step w w' := by
 have hmf : ∀ (fn : Fn) (first cap : Array Value) (w : World), (Instr.makeFunc fn first cap).run Tryz.prog w = .ok (.func fn first cap) w := fun _ _ _ _ => rfl
 have HH0 := zH hv
 obtain ⟨c0, c1, c2, c3, c4, rfl, h0, h1, h2, h3, h4⟩ := hv.house
 obtain ⟨p0, k0, rfl⟩ := h0.form
 obtain ⟨p1, k1, rfl⟩ := h1.form
 obtain ⟨p2, k2, rfl⟩ := h2.form
 obtain ⟨p3, k3, rfl⟩ := h3.form
 obtain ⟨p4, k4, rfl⟩ := h4.form
 obtain ⟨b0, b1, rfl, s0, s1⟩ := hu.wd
 obtain ⟨pb, kb, bb, bo, rfl, _, _, hpb, hcb, _⟩ := s0.books
 obtain ⟨pm, km, rfl⟩ := s1.form
 obtain ⟨W0, hW0⟩ : ∃ z9, z9 = (w.alloc (.cells #[.slice p0 h.sectors.length k0, .slice p1 h.prices.length k1, .slice p2 h.dates.length k2, .slice p3 h.frm.length k3, .slice p4 h.holds.length k4] 41)).alloc (.cells #[.slice pb W.books.length kb, .slice pm W.msgs.length km] 34) := ⟨_, rfl⟩
 have hS : Step w W0 := by subst hW0; exact (by with_reducible repeat (first | assumption | exact Step.refl _ | apply Step.s_alloc | apply Step.s_drew | apply Step.s_drewN | refine Step.trans ?_ (by assumption)))
 have hb0 : Bx W0 w.heap.size [.slice p0 h.sectors.length k0, .slice p1 h.prices.length k1, .slice p2 h.dates.length k2, .slice p3 h.frm.length k3, .slice p4 h.holds.length k4] 41 := by subst hW0; exact (Bx.new _ [_, _, _, _, _] _).alloc _
 have hb1 : Bx W0 (w.heap.size + 1) [.slice pb W.books.length kb, .slice pm W.msgs.length km] 34 := by subst hW0; exact Bx.new' _ [_, _] _ _ (by simp)
 have HS := zH hS
 have HB := zH hb0
 have HB1 := zH hb1
 have HC := zH (And.intro hpb hcb)
 have HM := zH s1
 have HW := zH hW0
 clear hv hu h0 h1 h2 h3 h4 s0 s1 hpb hcb hS hb0 hb1 hW0
 go_enter Tryz.func52, Tryz.ntmps52
 go_upto_region 1 with (fail)
 rw [← HW.out]
 clear HW
 obtain ⟨e0, e1, e2, e3, e4⟩ := cells5 HB.out
 obtain ⟨u0, u1⟩ : _ ∧ _ := ⟨HB1.out.cell 0, HB1.out.cell 1⟩
 simp only [zD, zE] at u0 u1
 refine wp_region_seqM (fun c d v a w h => by cases d <;> exact h) (kdOf [1, 8, 16] []) [0, 1, 3, 7, 15, 31, 63, 15, 143, 511, 1023, 2047, 4095, 8191, 4095, 20479, 65535, 131071, 262143] [0, 1, 2, 3, 4, 5, 6, 7, 8, 9, 10, 11, 12, 13, 14, 15, 16, 17, 18] [] (by kernel_rfl) (by kernel_rfl) (fun i T z hi hk => by simp [kdOf] at hk <;> (try (split at hk <;> cases hk))) ?_
 intro Wx hWx
 have e0 := (hWx).kc e0; have e1 := (hWx).kc e1; have e2 := (hWx).kc e2; have e3 := (hWx).kc e3; have e4 := (hWx).kc e4; have u0 := (hWx).kc u0; have u1 := (hWx).kc u1
 repeat ((first | (refine run_off rfl rfl (by rfl) ?_) | (refine run_chain_off rfl rfl (by rfl) (K0_mono _) ?_) | ((refine run_want rfl rfl (by rfl) ⟨?_, fun W hW => ?_, ?_⟩; rotate_left; (· (have d0 := hW.kc e0; have d1 := hW.kc e1; have d2 := hW.kc e2; have d3 := hW.kc e3; have d4 := hW.kc e4; have d5 := hW.kc u0; have d6 := hW.kc u1; go_simp; (try with_reducible rfl)))))); (try simp only [Act.put, zA, zB, zC]))
 refine run_chain rfl rfl (by rfl) (fun Wi hWi K' hK => ?_)
 have HTi := zH (hWx.trans hWi)
 clear hWx
 go_simp
 refine (valid_any S h _ _ (HH0.out.keep (.of_step (HS.out.trans HTi.out)))).mono ?_
 rintro e wn ⟨rfl, hSn⟩
 refine hK _ _ (StepX.of hSn) ?_
 have HT := zH (HTi.out.trans hSn)
 have e0 := (hWi.trans hSn).kc e0; have e1 := (hWi.trans hSn).kc e1; have e2 := (hWi.trans hSn).kc e2; have e3 := (hWi.trans hSn).kc e3; have e4 := (hWi.trans hSn).kc e4; have u0 := (hWi.trans hSn).kc u0; have u1 := (hWi.trans hSn).kc u1
 clear hSn hK HTi hWi
 cases qv : valid h with
 | false =>
  have HF := zH (show worldB h W = false by simp [worldB, qv])
  clear qv
  (try simp only [Act.put, zA, zB, zC])
  repeat ((first | (refine run_off rfl rfl (by rfl) ?_) | (refine run_chain_off rfl rfl (by rfl) (K0_mono _) ?_) | ((refine run_want rfl rfl (by rfl) ⟨?_, fun W hW => ?_, ?_⟩; rotate_left; (· (have d0 := hW.kc e0; have d1 := hW.kc e1; have d2 := hW.kc e2; have d3 := hW.kc e3; have d4 := hW.kc e4; have d5 := hW.kc u0; have d6 := hW.kc u1; go_simp; (try with_reducible rfl)))))); (try simp only [Act.put, zA, zB, zC]))
  refine run_end (L := []) rfl (fun Wy hWy => ?_)
  go_wp2
  go_ret
  exact ⟨by rw [HF.out]; rfl, HS.out.trans (HT.out.trans hWy)⟩
 | true =>
 have HV := zH qv
 clear qv
 (try simp only [Act.put, zA, zB, zC])
 repeat ((first | (refine run_off rfl rfl (by rfl) ?_) | (refine run_chain_off rfl rfl (by rfl) (K0_mono _) ?_) | ((refine run_want rfl rfl (by rfl) ⟨?_, fun W hW => ?_, ?_⟩; rotate_left; (· (have d0 := hW.kc e0; have d1 := hW.kc e1; have d2 := hW.kc e2; have d3 := hW.kc e3; have d4 := hW.kc e4; have d5 := hW.kc u0; have d6 := hW.kc u1; go_simp; (try with_reducible rfl)))))); (try simp only [Act.put, zA, zB, zC]))
 refine run_chain rfl rfl (by rfl) (fun Wi hWi K' hK => ?_)
 have HTi := zH (HT.out.trans hWi)
 have hcall := agencies_any S h _ Wi (HH0.out.keep (.of_step (HS.out.trans HTi.out))) (by have := bounds_valid HV.out; omega)
 rw [agN_eq] at hcall
 have HCALL := zH hcall
 clear HT hcall
 go_simp
 refine HCALL.out.mono ?_
 rintro e wn2 ⟨rfl, hSn⟩
 clear HCALL
 refine hK _ _ (StepX.of hSn) ?_
 have HT := zH (HTi.out.trans hSn)
 have e0 := (hWi.trans hSn).kc e0; have e1 := (hWi.trans hSn).kc e1; have e2 := (hWi.trans hSn).kc e2; have e3 := (hWi.trans hSn).kc e3; have e4 := (hWi.trans hSn).kc e4; have u0 := (hWi.trans hSn).kc u0; have u1 := (hWi.trans hSn).kc u1
 clear hSn hK HTi hWi
 by_cases ql : W.books.length = agN h
 rotate_left
 ·have d1 : ((W.books.length : Int) != (agN h : Int)) = true := by rw [bne_iff_ne]; omega
  have HF := zH (show worldB h W = false by simp [worldB, ql])
  clear ql
  (try simp only [Act.put, zA, zB, zC])
  repeat ((first | (refine run_off rfl rfl (by rfl) ?_) | (refine run_chain_off rfl rfl (by rfl) (K0_mono _) ?_) | ((refine run_want rfl rfl (by rfl) ⟨?_, fun W hW => ?_, ?_⟩; rotate_left; (· (have d0 := hW.kc e0; have d1 := hW.kc e1; have d2 := hW.kc e2; have d3 := hW.kc e3; have d4 := hW.kc e4; have d5 := hW.kc u0; have d6 := hW.kc u1; go_simp; (try with_reducible rfl)))))); (try simp only [Act.put, zA, zB, zC]))
  refine run_end (L := []) rfl (fun Wy hWy => ?_)
  go_wp2
  go_ret
  exact ⟨by rw [HF.out]; rfl, HS.out.trans (HT.out.trans hWy)⟩
 have d1 : ((W.books.length : Int) != (agN h : Int)) = false := by rw [ql]; simp
 have HL := zH ql
 clear ql
 (try simp only [Act.put, zA, zB, zC])
 repeat ((first | (refine run_off rfl rfl (by rfl) ?_) | (refine run_chain_off rfl rfl (by rfl) (K0_mono _) ?_) | ((refine run_want rfl rfl (by rfl) ⟨?_, fun W hW => ?_, ?_⟩; rotate_left; (· (have d0 := hW.kc e0; have d1 := hW.kc e1; have d2 := hW.kc e2; have d3 := hW.kc e3; have d4 := hW.kc e4; have d5 := hW.kc u0; have d6 := hW.kc u1; go_simp; (try with_reducible rfl)))))); (try simp only [Act.put, zA, zB, zC]))
 refine run_chain rfl rfl (by rfl) (fun Wi hWi K' hK => ?_)
 have HTi := zH (HT.out.trans hWi)
 clear HT
 go_simp
 refine (all_mess S T h W.msgs _ _ _ (HH0.out.keep (.of_step (HS.out.trans HTi.out))) (HM.out.keep (.of_step (HS.out.trans HTi.out))) HV.out).mono ?_
 rintro e wn3 ⟨rfl, hSn⟩
 refine hK _ _ (StepX.of hSn) ?_
 have HT := zH (HTi.out.trans hSn)
 clear hSn hK HTi hWi e0 e1 e2 e3 e4 u0 u1 d1
 cases qm : W.msgs.all (messV h) with
 | false =>
  have HF := zH (show worldB h W = false by simp only [worldB, qm]; simp)
  clear qm
  (try simp only [Act.put, zA, zB, zC])
  repeat ((first | (refine run_off rfl rfl (by rfl) ?_) | (refine run_chain_off rfl rfl (by rfl) (K0_mono _) ?_) | ((refine run_want rfl rfl (by rfl) ⟨?_, fun W hW => ?_, ?_⟩; rotate_left; (· (skip; go_simp; (try with_reducible rfl)))))); (try simp only [Act.put, zA, zB, zC]))
  refine run_end (L := []) rfl (fun Wy hWy => ?_)
  go_wp2
  go_ret
  exact ⟨by rw [HF.out]; rfl, HS.out.trans (HT.out.trans hWy)⟩
 | true =>
 have HMS := zH qm
 clear qm
 (try simp only [Act.put, zA, zB, zC])
 repeat ((first | (refine run_off rfl rfl (by rfl) ?_) | (refine run_chain_off rfl rfl (by rfl) (K0_mono _) ?_) | ((refine run_want rfl rfl (by rfl) ⟨?_, fun W hW => ?_, ?_⟩; rotate_left; (· (skip; go_simp; (try with_reducible rfl)))))); (try simp only [Act.put, zA, zB, zC]))
 refine run_end (L := []) rfl (fun Wy hWy => ?_)
 have HTy := zH (HT.out.trans hWy)
 clear hWy HT
 have u0 := (HB1.out.step HTy.out).cell 0
 simp only [List.getElem?_cons_zero] at u0
 go_upto_region 4 with (fail)
 clear u0
 have hl6 : W.books.length ≤ 6 := by have := bounds_valid HV.out; have := HL.out; omega
 go_loopw [29] (fun iv wr => ∃ k : Nat, k ≤ W.books.length ∧ iv = .int .i64 k ∧ (List.range k).all (okA h W) = true ∧ Step W0 wr) (fun iv _ => W.books.length - (intOf iv).toNat)
 case atStart => exact ⟨0, Nat.zero_le _, rfl, by simp, HTy.out⟩
 case round =>
  obtain ⟨k, hk, rfl, ht, hT⟩ := hrel
  have HA := zH ht
  have HT := zH hT
  clear ht hT
  by_cases hlt : k < W.books.length
  ·obtain rfl := HC.out.1 (by omega)
   obtain ⟨z1, z2, z4, ⟨f0, f1, f2, f3, f4, f5⟩, t1, t2, t4⟩ := HC.out.2 k hlt
   obtain ⟨b, hb⟩ : ∃ b, b = W.books[k] := ⟨_, rfl⟩
   have hbq : bk W k = b := by rw [hb]; exact bk_at hlt
   rw [← hb] at f0 f3 f5 t1 t2 t4
   obtain ⟨r1, n1, e1⟩ := t1.form
   obtain ⟨r2, n2, e2⟩ := t2.form
   obtain ⟨r4, n4, e4⟩ := t4.form
   subst e1 e2 e4
   have HX := zH (show AV T w (.agg #[.int .i64 b.agency, .slice r1 b.seats.length n1, .slice r2 b.off.length n2, .int .i64 b.sent, .slice r4 b.took.length n4, .int .i64 b.cash]) b from ⟨_, rfl, _, _, _, rfl, t1, t2, t4⟩)
   have HBQ := zH hbq
   have f0 := (HS.out.trans HT.out).kc f0; have f1 := (HS.out.trans HT.out).kc f1; have f2 := (HS.out.trans HT.out).kc f2; have f3 := (HS.out.trans HT.out).kc f3; have f4 := (HS.out.trans HT.out).kc f4; have f5 := (HS.out.trans HT.out).kc f5
   clear t1 t2 t4 hb hbq
   have hix : (0 : Int) ≤ (k : Int) ∧ (k : Int) < (W.books.length : Int) := by omega
   go_upto_region 6 with (fail)
   obtain ⟨W5, hW5⟩ : ∃ z9, z9 = wr.alloc (.cells #[.int .i64 b.agency, .slice r1 b.seats.length n1, .slice r2 b.off.length n2, .int .i64 b.sent, .slice r4 b.took.length n4, .int .i64 b.cash] 77) := ⟨_, rfl⟩
   have hb5 : Bx W5 wr.heap.size [.int .i64 b.agency, .slice r1 b.seats.length n1, .slice r2 b.off.length n2, .int .i64 b.sent, .slice r4 b.took.length n4, .int .i64 b.cash] 77 := by subst hW5; exact Bx.new _ [_, _, _, _, _, _] _
   have hS5 : Step wr W5 := by subst hW5; exact Step.alloc _ _
   rw [← hW5]
   obtain ⟨g9, hg9⟩ : ∃ g, g = wr.heap.size := ⟨_, rfl⟩
   rw [← hg9] at hb5 ⊢
   have HT5 := zH (HT.out.trans hS5)
   clear f0 f1 f2 f3 f4 f5
   obtain ⟨f0, f1, f2, f3, f4, f5⟩ := cells6 hb5
   clear hW5 hb5 hS5 hg9
   by_cases qa : b.agency = k
   rotate_left
   ·have d1 : (b.agency != (k : Int)) = true := by rw [bne_iff_ne]; exact qa
    have HF := zH (show worldB h W = false by
     have := okA_bad (h := h) (W := W) hlt (by simp [okA, HBQ.out, qa])
     simp only [worldB, this]; simp)
    clear qa
    go_wp2
    go_ret
    exact ⟨by rw [HF.out]; rfl, HS.out.trans HT5.out⟩
   have d1 : (b.agency != (k : Int)) = false := by rw [qa]; simp
   have HQA := zH qa
   clear qa
   obtain ⟨e0, e1, e2, e3, e4⟩ := cells5 (HB.out.step HT5.out)
   go_wp2_with fail
   refine (book_any (fun _ => False) h b _ _ _ (AV.weak (fun _ _ h => h.elim) (HH0.out.keep (.of_step (HS.out.trans HT5.out)))) (AV.weak (fun _ _ h => h.elim) (HX.out.keep (.of_step (HS.out.trans HT5.out)))) HV.out).mono ?_
   rintro e wn ⟨rfl, hSn⟩
   have HTn := zH (HT5.out.trans hSn)
   clear hSn e0 e1 e2 e3 e4 f0 f1 f2 f3 f4 f5 d1
   cases qb : bookB h b with
   | false =>
    have HF := zH (show worldB h W = false by
     have := okA_bad (h := h) (W := W) hlt (by simp [okA, HBQ.out, qb])
     simp only [worldB, this]; simp)
    clear qb
    go_wp2
    go_ret
    exact ⟨by rw [HF.out]; rfl, HS.out.trans HTn.out⟩
   | true =>
    have HF := zH (okA_step HA.out (show okA h W k = true by simp [okA, HBQ.out, HQA.out, qb]))
    clear qb
    go_wp2
    go_roundw
    case rel => exact ⟨k + 1, by omega, by go_num, HF.out, HTn.out⟩
    case measure => simp [intOf]; omega
  ·have hkl : k = W.books.length := by omega
   have HF := zH (show worldB h W = true by simp only [worldB, HV.out, HL.out, HMS.out]; have := HA.out; rw [hkl, HL.out] at this; simp [this])
   clear hkl
   go_wp2
   go_ret
   exact ⟨by rw [HF.out]; rfl, HS.out.trans HT.out⟩
def stepS (f : Int → Option Int) (m : BT.Message) : Int → Option Int := fun y => if y = m.frm then some ((f m.frm).getD 0 + 1) else f y
def stepT (f : Key → Option Int) (m : BT.Message) : Key → Option Int := fun y => if y = keyOf m then some m.dst else f y
def sentF (l : List BT.Message) : Int → Option Int := l.foldl stepS (fun _ => none)
def toF (l : List BT.Message) : Key → Option Int := l.foldl stepT (fun _ => none)
def mgAt (l : List BT.Message) (i : Nat) : BT.Message := l[i]?.getD ⟨0, 0, 0, 0, []⟩
theorem mgAt_at {l : List BT.Message} {i : Nat} (h : i < l.length) : mgAt l i = l[i] := by simp [mgAt, h]
def numA (l : List BT.Message) (i : Nat) : Bool := decide ((mgAt l i).number = ((sentF (l.take i)) (mgAt l i).frm).getD 0 + 1)
def numOk (l : List BT.Message) : Bool := (List.range l.length).all (numA l)
def knowB (W : Wd) (a : Nat) : Bool := decide ((bk W a).sent = (sentF W.msgs a).getD 0) && (bk W a).took.all (fun x => decide (toF W.msgs x = some (a : Int)))
def countedB (W : Wd) : Bool := numOk W.msgs && (List.range W.books.length).all (knowB W)
theorem sentF_bound : ∀ (l : List BT.Message) (f : Int → Option Int) (n : Nat) (y : Int), (∀ z, 0 ≤ (f z).getD 0 ∧ (f z).getD 0 ≤ n) → 0 ≤ ((l.foldl stepS f) y).getD 0 ∧ ((l.foldl stepS f) y).getD 0 ≤ (n + l.length : Nat)
 | [], f, n, y, h => by have := h y; simpa using this
 | m :: l, f, n, y, h => by
  rw [List.foldl_cons]
  have := sentF_bound l (stepS f m) (n + 1) y (fun z => by
   have h1 := h z
   have h2 := h m.frm
   unfold stepS
   split
   ·simp; omega
   ·omega)
  simp only [List.length_cons]
  omega
theorem sentF_le (l : List BT.Message) (y : Int) : 0 ≤ ((sentF l) y).getD 0 ∧ ((sentF l) y).getD 0 ≤ l.length := by
 have := sentF_bound l (fun _ => none) 0 y (by simp)
 simpa [sentF] using this
theorem sentF_next {l : List BT.Message} {k : Nat} (h : k < l.length) : sentF (l.take (k + 1)) = fun y => if y = l[k].frm then some ((sentF (l.take k) l[k].frm).getD 0 + 1) else sentF (l.take k) y := by
 unfold sentF
 rw [List.take_succ_eq_append_getElem h, List.foldl_append]; rfl
theorem toF_next {l : List BT.Message} {k : Nat} (h : k < l.length) : toF (l.take (k + 1)) = fun y => if y = keyOf l[k] then some l[k].dst else toF (l.take k) y := by
 unfold toF
 rw [List.take_succ_eq_append_getElem h, List.foldl_append]; rfl
theorem all_step {p : Nat → Bool} {k : Nat} (h1 : (List.range k).all p = true) (h2 : p k = true) : (List.range (k + 1)).all p = true := by
 rw [List.range_succ, List.all_append, h1]; simp [h2]
theorem all_bad {p : Nat → Bool} {k n : Nat} (hk : k < n) (h2 : p k = false) : (List.range n).all p = false := by
 rw [List.all_eq_false]
 exact ⟨k, List.mem_range.2 hk, by simp [h2]⟩
theorem counted_any (T : Nat → Prop) (W : Wd) (u : Value) (w : World) (hu : AV T w u W) :
  Calls Tryz.prog 58 #[u] w fun e w' => e = .returned (.bool (countedB W)) ∧ Step w w' := by
 have hmf : ∀ (fn : Fn) (first cap : Array Value) (w : World), (Instr.makeFunc fn first cap).run Tryz.prog w = .ok (.func fn first cap) w := fun _ _ _ _ => rfl
 obtain ⟨b0, b1, rfl, s0, s1⟩ := hu.wd
 have H0 := zH s0
 have H1 := zH s1
 obtain ⟨pb, kb, bb, bo, rfl, _, hlb, hpb, hcb, _⟩ := s0.books
 have HLB := zH hlb
 obtain ⟨pm, km, bm, mo, rfl, _, hlm, hpm, hcm, _⟩ := s1.mess
 have HCB := zH (And.intro hpb hcb)
 have HCM := zH (And.intro hpm hcm)
 have HLM := zH hlm
 clear s0 s1 hu hpb hcb hpm hcm hlm hlb
 obtain ⟨W0, hW0⟩ : ∃ z9, z9 = w.alloc (.cells #[.slice pb W.books.length kb, .slice pm W.msgs.length km] 34) := ⟨_, rfl⟩
 have hS : Step w W0 := by subst hW0; exact (by with_reducible repeat (first | assumption | exact Step.refl _ | apply Step.s_alloc | apply Step.s_drew | apply Step.s_drewN | refine Step.trans ?_ (by assumption)))
 have hb0 : Bx W0 w.heap.size [.slice pb W.books.length kb, .slice pm W.msgs.length km] 34 := by subst hW0; exact Bx.new _ [_, _] _
 have hz0 : W0.heap.size = w.heap.size + 1 := by subst hW0; simp
 have HS := zH hS
 have HB := zH hb0
 have HZ := zH hz0
 have HW := zH hW0
 clear hS hb0 hW0 hz0
 go_enter Tryz.func58, Tryz.ntmps58
 go_upto_region 1 with (fail)
 rw [← HW.out]
 clear HW
 have hmm := @run_makeMap Tryz.prog
 go_upto_region 2 with (fail)
 clear hmm
 obtain ⟨V1, hV1⟩ : ∃ z9, z9 = ((W0.alloc (.map #[] 0)).alloc (.map #[] 0)).alloc (.cells #[.map (some (W0.heap.size + 1))] 174) := ⟨_, rfl⟩
 have hS1 : Step W0 V1 := by subst hV1; exact ((Step.alloc _ _).trans (Step.alloc _ _)).trans (Step.alloc _ _)
 have hms : MF iv V1 W0.heap.size (sentF []) := by
  subst hV1
  exact ((MF.new iv (W0.alloc (.map #[] 0)) W0.heap.size 0 (heap_alloc_new W0 _)).keep (Step.alloc _ _).keeps id).keep (Step.alloc _ _).keeps id
 have hmt : MF kv V1 (W0.heap.size + 1) (toF []) := by
  subst hV1
  exact (MF.new kv ((W0.alloc (.map #[] 0)).alloc (.map #[] 0)) (W0.heap.size + 1) 0 (by have := heap_alloc_new (W0.alloc (.map #[] 0)) (.map #[] 0); simpa using this)).keep (Step.alloc _ _).keeps id
 have hct : Bx V1 (W0.heap.size + 1 + 1) [.map (some (W0.heap.size + 1))] 174 := by subst hV1; exact Bx.new' _ [_] _ _ (by simp)
 rw [← hV1]
 obtain ⟨r, hr⟩ : ∃ r, r = W0.heap.size := ⟨_, rfl⟩
 have hwr : w.heap.size + 1 = r := by rw [hr]; exact HZ.out.symm
 rw [← hr] at hms hmt hct ⊢
 have HR := zH hwr
 have HS1 := zH (HS.out.trans hS1)
 have HB1 := zH (HB.out.step hS1)
 have HCT := zH hct
 have HMS := zH hms
 have HMT := zH hmt
 have HX : Hid (∀ j, (j = r ∨ j = r + 1) → w.heap.size ≤ j) := zH (fun j hj => by omega)
 clear hS1 hms hmt hct hV1 hr hwr HS HB HZ
 have u1 := HB1.out.cell 1
 simp only [zD, zE] at u1
 go_upto_region 3 with (fail)
 clear u1
 go_loopw [14] (fun i wr => ∃ k : Nat, k ≤ W.msgs.length ∧ i = .int .i64 k ∧ (List.range k).all (numA W.msgs) = true ∧ MF iv wr r (sentF (W.msgs.take k)) ∧ MF kv wr (r + 1) (toF (W.msgs.take k)) ∧ StepX (fun j => j = r ∨ j = r + 1) V1 wr) (fun i _ => W.msgs.length - (intOf i).toNat)
 case atStart => exact ⟨0, Nat.zero_le _, rfl, by simp, HMS.out, HMT.out, StepX.refl _ _⟩
 case round =>
  obtain ⟨k, hk, rfl, ht, hms, hmt, hT⟩ := hrel
  have HA := zH ht
  have HT := zH hT
  have HMS' := zH hms
  have HMT' := zH hmt
  have HTW := zH (StepX.fresh HS1.out hT HX.out)
  clear ht hT hms hmt HMS HMT
  by_cases hlt : k < W.msgs.length
  ·obtain rfl := HCM.out.1 (by omega)
   obtain ⟨c4, ⟨g0, g1, g2, g3, g4⟩, s4⟩ := HCM.out.2 k hlt
   obtain ⟨m, hm⟩ : ∃ m, m = W.msgs[k] := ⟨_, rfl⟩
   rw [← hm] at g0 g1 g2 g3 s4
   obtain ⟨p4, k4, e4⟩ := s4.form
   subst e4
   have HM := zH (show AV T w (.agg #[.int .i64 m.frm, .int .i64 m.dst, .int .i64 m.number, .int .i64 m.shw, .slice p4 m.seats.length k4]) m from ⟨_, rfl, _, rfl, s4⟩)
   have HME := zH hm
   have g0 := (HTW.out).kc g0; have g1 := (HTW.out).kc g1; have g2 := (HTW.out).kc g2; have g3 := (HTW.out).kc g3; have g4 := (HTW.out).kc g4
   have hix : (0 : Int) ≤ (k : Int) ∧ (k : Int) < (W.msgs.length : Int) := by omega
   clear s4 hm
   go_upto_region 5 with (fail)
   obtain ⟨W5, hW5⟩ : ∃ z9, z9 = wr.alloc (.cells #[.int .i64 m.frm, .int .i64 m.dst, .int .i64 m.number, .int .i64 m.shw, .slice p4 m.seats.length k4] 86) := ⟨_, rfl⟩
   have hb5 : Bx W5 wr.heap.size [.int .i64 m.frm, .int .i64 m.dst, .int .i64 m.number, .int .i64 m.shw, .slice p4 m.seats.length k4] 86 := by subst hW5; exact Bx.new _ [_, _, _, _, _] _
   have hS5 : Step wr W5 := by subst hW5; exact Step.alloc _ _
   rw [← hW5]
   obtain ⟨g9, hg9⟩ : ∃ g, g = wr.heap.size := ⟨_, rfl⟩
   rw [← hg9] at hb5 ⊢
   clear g0 g1 g2 g3 g4 hg9 hW5
   have HT5 := zH (HT.out.trans (StepX.of hS5))
   have h5s := HMS'.out.keep hS5.keeps id
   have h5t := HMT'.out.keep hS5.keeps id
   have hn5 : g9 ≠ r := h5s.nob hb5
   have hn6 : g9 ≠ r + 1 := h5t.nob hb5
   obtain ⟨v, hv⟩ : ∃ v, v = (sentF (W.msgs.take k) m.frm).getD 0 := ⟨_, rfl⟩
   have hlk := run_lookup_mf mapUnderI keyT_int m.frm h5s false
   rw [← hv] at hlk
   have hvb := sentF_le (W.msgs.take k) m.frm
   rw [← hv] at hvb
   have hwr : IntKind.i64.wrap (v + 1) = v + 1 := by
    have := HLM.out
    have h3 : (W.msgs.take k).length ≤ k := by rw [List.length_take]; exact Nat.min_le_left _ _
    rw [IntKind.wrap_i64]; omega
   obtain ⟨w6, hmu, h6s, hw6⟩ := run_mapUpdate_mf mapUnderI keyT_int m.frm (v + 1) h5s
   unfold iv at hlk hmu
   simp only [Bool.false_eq_true, if_false] at hlk
   have h6t : MF kv w6 (r + 1) (toF (W.msgs.take k)) := h5t.keep hw6.keeps (by omega)
   have hb6 := hb5.keep hw6.keeps hn5
   have HB5 := zH hb5
   have HB6 := zH hb6
   have H6S := zH h6s
   have H6T := zH h6t
   have H56 : Hid (StepX (fun j => j = r ∨ j = r + 1) W5 w6) := zH ⟨hw6.os, hw6.tape, hw6.output, Nat.le_of_eq hw6.size.symm, fun k _ hk => hw6.block k (fun e => hk (.inl e))⟩
   have HV := zH hv
   have HN := zH (And.intro hn5 hn6)
   clear hb5 hS5 h5s h5t hn5 hn6 hv hvb h6s hw6 h6t hb6
   obtain ⟨m0, m1, m2, m3, m4⟩ := cells5 HB5.out
   go_upto_region 6 with (fail)
   clear m0 m1 m2 m3 m4 hlk hmu
   obtain ⟨m0, m1, m2, m3, m4⟩ := cells5 HB6.out
   have hlk := run_lookup_mf mapUnderI keyT_int m.frm H6S.out false
   simp only [Bool.false_eq_true, if_false, if_true, Option.getD_some] at hlk
   unfold iv at hlk
   have HT6 := zH (HT5.out.trans H56.out)
   clear HT5 H56
   by_cases qn : m.number = v + 1
   rotate_left
   ·have d1 : (m.number != v + 1) = true := by rw [bne_iff_ne]; exact qn
    have HF := zH (show countedB W = false by
     have h1 : numOk W.msgs = false := all_bad hlt (by unfold numA; rw [mgAt_at hlt, ← HME.out, ← HV.out]; simp [qn])
     simp [countedB, h1])
    clear qn
    go_wp2
    go_ret
    exact ⟨by rw [HF.out]; rfl, StepX.fresh HS1.out HT6.out HX.out⟩
   have d1 : (m.number != v + 1) = false := by rw [qn]; simp
   have HQ := zH (show numA W.msgs k = true by unfold numA; rw [mgAt_at hlt, ← HME.out, ← HV.out]; simp [qn])
   clear qn
   go_upto_region 8 with (fail)
   clear hlk d1 m0 m1 m2 m3 m4
   refine wp_region_seqM (fun c d v a w h => by cases d <;> exact h) (kdOf [2] []) [0, 0, 2, 0, 8, 31] [0, 1, 3, 4, 2] [5] (by kernel_rfl) (by kernel_rfl) (fun i T z hi hk => by simp [kdOf] at hk <;> (try (split at hk <;> cases hk))) ?_
   intro Wx hWx
   have u0 := (HCT.out.keep HT6.out.keeps (by have := HX.out; omega)).cell 0
   simp only [List.getElem?_cons_zero] at u0
   obtain ⟨m0, m1, m2, m3, m4⟩ := cells5 HB6.out
   have u0 := (hWx).kc u0; have m0 := (hWx).kc m0; have m1 := (hWx).kc m1; have m2 := (hWx).kc m2; have m3 := (hWx).kc m3; have m4 := (hWx).kc m4
   repeat ((first | (refine run_off rfl rfl (by rfl) ?_) | (refine run_chain_off rfl rfl (by rfl) (K0_mono _) ?_) | ((refine run_want rfl rfl (by rfl) ⟨?_, fun W hW => ?_, ?_⟩; rotate_left; (· (have d0 := hW.kc u0; have d1 := hW.kc m0; have d2 := hW.kc m1; have d3 := hW.kc m2; have d4 := hW.kc m3; have d5 := hW.kc m4; go_simp; (try with_reducible rfl)))))); (try simp only [Act.put, zA, zB, zC]))
   refine run_chain rfl rfl (by rfl) (fun Wi hWi K' hK => ?_)
   have HTi := zH (hWx.trans hWi)
   clear hWx
   have hcall := zH (key_any T m (.agg #[.int .i64 m.frm, .int .i64 m.dst, .int .i64 m.number, .int .i64 m.shw, .slice p4 m.seats.length k4]) Wi (HM.out.keep (.of_step ((StepX.fresh HS1.out HT6.out HX.out).trans HTi.out))))
   go_simp
   refine hcall.out.mono ?_
   clear hcall
   rintro e wn ⟨rfl, hSn⟩
   refine hK _ _ (StepX.of hSn) ?_
   have HTn := zH (HTi.out.trans hSn)
   clear hSn hK HTi hWi u0 m0 m1 m2 m3 m4
   (try simp only [Act.put, zA, zB, zC])
   refine run_end (L := [_]) rfl (fun Wy hWy => ?_)
   have HTy := zH (HTn.out.trans hWy)
   clear hWy HTn
   have h8t := H6T.out.keep HTy.out.keeps id
   have h8s := H6S.out.keep HTy.out.keeps id
   obtain ⟨w8, hmu, h9t, hw8⟩ := run_mapUpdate_mf mapUnderK keyT_key (keyOf m) m.dst h8t
   unfold kv keyOf at hmu
   dsimp only at hmu
   have h9s := h8s.keep hw8.keeps (by omega)
   have H9S := zH h9s
   have H9T := zH h9t
   have H8 : Hid (StepX (fun j => j = r ∨ j = r + 1) Wy w8) := zH ⟨hw8.os, hw8.tape, hw8.output, Nat.le_of_eq hw8.size.symm, fun k _ hk => hw8.block k (fun e => hk (.inr e))⟩
   clear h8t h8s h9s h9t hw8
   have hl9 := HLM.out
   go_wp2
   go_roundw
   case rel => exact ⟨k + 1, by omega, by go_num, all_step HA.out HQ.out, by rw [sentF_next hlt, ← HME.out, ← HV.out]; exact H9S.out, by rw [toF_next hlt, ← HME.out]; exact H9T.out, (HT6.out.trans (StepX.of HTy.out)).trans H8.out⟩
   case measure => simp [intOf]; omega
  ·have HAA := zH (show numOk W.msgs = true by have h1 : k = W.msgs.length := (by omega); subst h1; exact HA.out)
   have HES := zH (show MF iv wr r (sentF W.msgs) by have := HMS'.out; rwa [List.take_of_length_le (by omega)] at this)
   have HET := zH (show MF kv wr (r + 1) (toF W.msgs) by have := HMT'.out; rwa [List.take_of_length_le (by omega)] at this)
   have HBB := zH (HB1.out.keep HT.out.keeps (by have := HR.out; omega))
   have HCC := zH (HCT.out.keep HT.out.keeps (by omega))
   clear HA HMS' HMT' HT
   generalize wr = wq at *
   have u0 := HBB.out.cell 0
   simp only [List.getElem?_cons_zero] at u0
   go_upto_region 11 with (fail)
   clear u0
   go_loopw [39] (fun i w2 => ∃ k : Nat, k ≤ W.books.length ∧ i = .int .i64 k ∧ (List.range k).all (knowB W) = true ∧ Step wq w2) (fun i _ => W.books.length - (intOf i).toNat)
   case atStart => exact ⟨0, Nat.zero_le _, rfl, by simp, Step.refl _⟩
   case round =>
    obtain ⟨k, hk, rfl, ht, hT⟩ := hrel
    have HA := zH ht
    have HT := zH hT
    have HTW2 := zH (HTW.out.trans hT)
    clear ht hT
    by_cases hlt : k < W.books.length
    ·obtain rfl := HCB.out.1 (by omega)
     obtain ⟨z1, z2, z4, ⟨f0, f1, f2, f3, f4, f5⟩, t1, t2, t4⟩ := HCB.out.2 k hlt
     obtain ⟨b, hb⟩ : ∃ b, b = W.books[k] := ⟨_, rfl⟩
     have hbq : bk W k = b := by rw [hb]; exact bk_at hlt
     rw [← hb] at f0 f3 f5 t1 t2 t4
     obtain ⟨r1, n1, e1⟩ := t1.form
     obtain ⟨r2, n2, e2⟩ := t2.form
     obtain ⟨r4, n4, e4⟩ := t4.form
     subst e1 e2 e4
     have HX4 := zH t4
     have HBQ := zH hbq
     have f0 := (HTW2.out).kc f0; have f1 := (HTW2.out).kc f1; have f2 := (HTW2.out).kc f2; have f3 := (HTW2.out).kc f3; have f4 := (HTW2.out).kc f4; have f5 := (HTW2.out).kc f5
     clear t1 t2 t4 hb hbq
     have hix : (0 : Int) ≤ (k : Int) ∧ (k : Int) < (W.books.length : Int) := by omega
     go_upto_region 13 with (fail)
     obtain ⟨W7, hW7⟩ : ∃ z9, z9 = (wr.alloc (.cells #[.int .i64 k] 3)).alloc (.cells #[.int .i64 b.agency, .slice r1 b.seats.length n1, .slice r2 b.off.length n2, .int .i64 b.sent, .slice r4 b.took.length n4, .int .i64 b.cash] 77) := ⟨_, rfl⟩
     have hb7 : Bx W7 (wr.heap.size + 1) [.int .i64 b.agency, .slice r1 b.seats.length n1, .slice r2 b.off.length n2, .int .i64 b.sent, .slice r4 b.took.length n4, .int .i64 b.cash] 77 := by subst hW7; exact Bx.new' _ [_, _, _, _, _, _] _ _ (by simp)
     have hi7 : Bx W7 wr.heap.size [.int .i64 k] 3 := by subst hW7; exact (Bx.new _ [_] _).alloc _
     have hS7 : Step wr W7 := by subst hW7; exact (Step.alloc _ _).trans (Step.alloc _ _)
     rw [← hW7]
     obtain ⟨g9, hg9⟩ : ∃ g, g = wr.heap.size := ⟨_, rfl⟩
     rw [← hg9] at hb7 hi7 ⊢
     have HT7 := zH (HT.out.trans hS7)
     have HTW7 := zH (HTW2.out.trans hS7)
     clear f0 f1 f2 f3 f4 f5 hW7 hS7 hg9
     obtain ⟨f0, f1, f2, f3, f4, f5⟩ := cells6 hb7
     have i0 := hi7.cell 0
     simp only [List.getElem?_cons_zero] at i0
     clear hb7 hi7
     have hlk := run_lookup_mf mapUnderI keyT_int (k : Int) (HES.out.keep HT7.out.keeps id) false
     obtain ⟨v, hv⟩ : ∃ v, v = (sentF W.msgs k).getD 0 := ⟨_, rfl⟩
     rw [← hv] at hlk
     unfold iv at hlk
     simp only [Bool.false_eq_true, if_false] at hlk
     have HV := zH hv
     clear hv
     by_cases qs : b.sent = v
     rotate_left
     ·have d1 : (b.sent != v) = true := by rw [bne_iff_ne]; exact qs
      have HF := zH (show countedB W = false by
       have := all_bad (p := knowB W) hlt (by unfold knowB; rw [HBQ.out, ← HV.out]; simp [qs])
       simp [countedB, this])
      clear qs
      go_wp2
      go_ret
      exact ⟨by rw [HF.out]; rfl, HTW7.out⟩
     have d1 : (b.sent != v) = false := by rw [qs]; simp
     have HQS := zH qs
     clear qs
     have hcall := zH (known_any T (toF W.msgs) b.took k (.slice r4 b.took.length n4) (r + 1 + 1) (r + 1) g9 W7 (HX4.out.keep (.of_step HTW7.out)) ((HCC.out.step HT7.out).cell 0) (HET.out.keep HT7.out.keeps id) i0)
     go_wp2_with fail
     refine hcall.out.mono ?_
     clear hcall
     rintro e wn ⟨rfl, hSn⟩
     have HTn := zH (HT7.out.trans hSn)
     have HTWn := zH (HTW7.out.trans hSn)
     clear hSn f0 f1 f2 f3 f4 f5 i0 hlk d1
     cases qk : b.took.all (fun x => decide (toF W.msgs x = some (k : Int))) with
     | false =>
      have HF := zH (show countedB W = false by
       have := all_bad (p := knowB W) hlt (by unfold knowB; rw [HBQ.out, qk]; simp)
       simp [countedB, this])
      clear qk
      go_wp2
      go_ret
      exact ⟨by rw [HF.out]; rfl, HTWn.out⟩
     | true =>
      have HF := zH (show knowB W k = true by unfold knowB; rw [HBQ.out, ← HV.out, qk]; simp [HQS.out])
      clear qk
      have hl9 : W.books.length ≤ 9223372036854775807 := HLB.out
      go_wp2
      go_roundw
      case rel => exact ⟨k + 1, by omega, by go_num, all_step HA.out HF.out, HTn.out⟩
      case measure => simp [intOf]; omega
    ·have HF := zH (show countedB W = true by
      have h1 : k = W.books.length := by omega
      subst h1
      unfold countedB
      rw [HAA.out, HA.out]; rfl)
     clear HA HAA
     go_wp2
     go_ret
     exact ⟨by rw [HF.out]; rfl, HTW2.out⟩
theorem index_int (S : Nat → Prop) (l : List Int) (n : Int) (v : Value) (w : World) (hv : SL S w v l) :
  Calls Tryz.prog 149 #[v, .int .i64 n] w fun e w' => ∃ q : Int, e = .returned (.int .i64 q) ∧ (0 ≤ q ↔ n ∈ l) ∧ Step w w' := by
 obtain ⟨px, kx, bx, ox, rfl, _, mx, hpx, hcx, _⟩ := hv.ints
 have HX := zH (And.intro hpx hcx)
 clear hv hpx hcx
 go_enter Tryz.func149, Tryz.ntmps149
 go_wp2
 go_loopw [8] (fun i wr => ∃ k : Nat, k ≤ l.length ∧ i = .int .i64 k ∧ n ∉ l.take k ∧ Step w wr) (fun i _ => l.length - (intOf i).toNat)
 case atStart => exact ⟨0, Nat.zero_le _, rfl, by simp, Step.refl _⟩
 case round =>
  obtain ⟨k, hk, rfl, ht, hT⟩ := hrel
  have HA := zH ht
  have HT := zH hT
  clear ht hT
  by_cases hlt : k < l.length
  ·obtain rfl := HX.out.1 (by omega)
   have g1 := HX.out.2 k hlt
   have g1 := HT.out.kc g1
   have hix1 : (0 : Int) ≤ (k : Int) ∧ (k : Int) < (l.length : Int) := by omega
   obtain ⟨x, hx⟩ := (show ∃ x, l[k] = x from ⟨_, rfl⟩)
   rw [hx] at g1
   have HK := zH hx
   clear hx
   by_cases q1 : n = x
   ·have d1 : (n == x) = true := by rw [q1]; simp
    have HQ := zH (show n ∈ l by rw [q1, ← HK.out]; exact List.getElem_mem hlt)
    clear q1
    go_wp2
    go_ret
    exact ⟨k, rfl, by simpa using HQ.out, HT.out⟩
   ·have d1 : (n == x) = false := by rw [beq_eq_false_iff_ne]; exact q1
    have HF := zH (not_take hlt HA.out (show n ≠ l[k] by rw [HK.out]; exact q1))
    clear q1
    go_wp2
    go_roundw
    case rel => exact ⟨k + 1, by omega, by go_num, HF.out, HT.out⟩
    case measure => simp [intOf]; omega
  ·have HE := zH (show n ∉ l by have := HA.out; rwa [List.take_of_length_le (by omega)] at this)
   clear HA
   go_wp2
   go_ret
   exact ⟨-1, rfl, by simp [HE.out], HT.out⟩
theorem contains_int (S : Nat → Prop) (l : List Int) (n : Int) (v : Value) (w : World) (hv : SL S w v l) :
  Calls Tryz.prog 138 #[v, .int .i64 n] w fun e w' => e = .returned (.bool (decide (n ∈ l))) ∧ Step w w' := by
 have HC := zH (index_int S l n v _ hv)
 obtain ⟨p, c, rfl⟩ := hv.form
 clear hv
 go_enter Tryz.func138, Tryz.ntmps138
 go_wp2_with fail
 refine HC.out.mono ?_
 rintro e wn ⟨q, rfl, hn, hSn⟩
 have HF := zH (show decide (n ∈ l) = decide (0 ≤ q) by
  by_cases z : 0 ≤ q
  ·rw [decide_eq_true z, decide_eq_true (hn.1 z)]
  ·rw [decide_eq_false z, decide_eq_false (fun h => z (hn.2 h))])
 have HT := zH hSn
 clear hSn hn HC
 go_wp2
 go_ret
 exact ⟨by rw [HF.out]; rfl, HT.out⟩
def carriesB (W : Wd) (m : BT.Message) (s n : Int) : Bool := decide (m.shw = s) && (decide (n ∈ m.seats) && !hasK (bk W m.dst.toNat).took (keyOf m))
theorem carries_any (S T : Nat → Prop) (W : Wd) (m : BT.Message) (s n : Int) (u v : Value) (w : World) (hu : AV S w u W) (hv : AV T w v m) (hd : 0 ≤ m.dst ∧ m.dst < W.books.length) :
  Calls Tryz.prog 105 #[u, v, .int .i64 s, .int .i64 n] w fun e w' => e = .returned (.bool (carriesB W m s n)) ∧ Step w w' := by
 obtain ⟨b0, b1, rfl, s0, s1⟩ := hu.wd
 obtain ⟨pb, kb, bb, bo, rfl, _, _, hpb, hcb, _⟩ := s0.books
 obtain ⟨pm, km, rfl⟩ := s1.form
 have HV0 := zH hv
 obtain ⟨c4, rfl, s4⟩ := hv.message
 obtain ⟨px, kx, rfl⟩ := s4.form
 obtain ⟨W0, hW0⟩ : ∃ z9, z9 = (w.alloc (.cells #[.slice pb W.books.length kb, .slice pm W.msgs.length km] 34)).alloc (.cells #[.int .i64 m.frm, .int .i64 m.dst, .int .i64 m.number, .int .i64 m.shw, .slice px m.seats.length kx] 86) := ⟨_, rfl⟩
 have hS : Step w W0 := by subst hW0; exact (by with_reducible repeat (first | assumption | exact Step.refl _ | apply Step.s_alloc | apply Step.s_drew | apply Step.s_drewN | refine Step.trans ?_ (by assumption)))
 have hb0 : Bx W0 w.heap.size [.slice pb W.books.length kb, .slice pm W.msgs.length km] 34 := by subst hW0; exact (Bx.new _ [_, _] _).alloc _
 have hb1 : Bx W0 (w.heap.size + 1) [.int .i64 m.frm, .int .i64 m.dst, .int .i64 m.number, .int .i64 m.shw, .slice px m.seats.length kx] 86 := by subst hW0; exact Bx.new' _ [_, _, _, _, _] _ _ (by simp)
 have HM := zH s4
 have HS := zH hS
 have HB0 := zH hb0
 have HB1 := zH hb1
 have HW := zH hW0
 obtain ⟨d, hdd⟩ : ∃ d : Nat, m.dst = d := ⟨m.dst.toNat, by omega⟩
 have hdl : d < W.books.length := by omega
 obtain rfl := hpb (by omega)
 obtain ⟨z1, z2, z4, ⟨f0, f1, f2, f3, f4, f5⟩, t1, t2, t4⟩ := hcb d hdl
 have hbk : bk W m.dst.toNat = W.books[d] := by rw [hdd, Int.toNat_natCast]; exact bk_at hdl
 obtain ⟨b, hb⟩ : ∃ b, b = W.books[d] := ⟨_, rfl⟩
 rw [← hb] at t4 hbk
 obtain ⟨p4, k4, hf4⟩ := t4.form
 subst hf4
 have HT4 := zH t4
 have HBK := zH hbk
 have HF4 := zH f4
 have HD := zH (And.intro hdd hdl)
 clear hu hv s0 s1 s4 hpb hcb hS hb0 hb1 hW0 f0 f1 f2 f3 f4 f5 t1 t2 t4 hb hbk hdd hd
 go_enter Tryz.func105, Tryz.ntmps105
 go_upto_region 1 with (fail)
 rw [← HW.out]
 clear HW
 obtain ⟨m0, m1, m2, m3, m4⟩ := cells5 HB1.out
 obtain ⟨u0, u1⟩ : _ ∧ _ := ⟨HB0.out.cell 0, HB0.out.cell 1⟩
 simp only [zD, zE] at u0 u1
 have f4 := HS.out.kc HF4.out
 have hd := HD.out
 have hrg : (0 : Int) ≤ m.dst ∧ m.dst < (W.books.length : Int) := by omega
 have htn : m.dst.toNat = d := by omega
 clear hd
 by_cases q1 : m.shw = s
 rotate_left
 ·have d1 : (m.shw == s) = false := by rw [beq_eq_false_iff_ne]; exact q1
  have HF := zH (show carriesB W m s n = false by simp [carriesB, q1])
  clear q1
  refine wp_region_seqM (fun c d v a w h => by cases d <;> exact h) (kdOf [8, 19, 20] []) [0, 1, 0, 7, 15, 31, 63, 31, 255, 511, 1023, 2047, 4095, 2047, 10239, 32767, 65535, 131071, 2047, 264191, 1048575, 2097151, 4194303, 8388607] [0, 1, 2, 3, 4, 5, 6, 7, 8, 9, 10, 11, 12, 13, 14, 15, 16, 17, 18, 19, 20, 21, 22, 23] [] (by kernel_rfl) (by kernel_rfl) (fun i T z hi hk => by simp [kdOf] at hk <;> (try (split at hk <;> cases hk))) ?_
  intro Wx hWx
  have m0 := (hWx).kc m0; have m1 := (hWx).kc m1; have m2 := (hWx).kc m2; have m3 := (hWx).kc m3; have m4 := (hWx).kc m4; have u0 := (hWx).kc u0; have u1 := (hWx).kc u1; have f4 := (hWx).kc f4
  repeat ((first | (refine run_off rfl rfl (by rfl) ?_) | (refine run_chain_off rfl rfl (by rfl) (K0_mono _) ?_) | ((refine run_want rfl rfl (by rfl) ⟨?_, fun W hW => ?_, ?_⟩; rotate_left; (· (have d0 := hW.kc m0; have d1 := hW.kc m1; have d2 := hW.kc m2; have d3 := hW.kc m3; have d4 := hW.kc m4; have d5 := hW.kc u0; have d6 := hW.kc u1; have d7 := hW.kc f4; go_simp; (try with_reducible rfl)))))); (try simp only [Act.put, zA, zB, zC]))
  refine run_end (L := []) rfl (fun Wy hWy => ?_)
  go_wp2
  go_ret
  exact ⟨by rw [HF.out]; rfl, HS.out.trans (hWx.trans hWy)⟩
 have d1 : (m.shw == s) = true := by rw [q1]; simp
 have HQ1 := zH q1
 clear q1
 refine wp_region_seqM (fun c d v a w h => by cases d <;> exact h) (kdOf [8, 19, 20] []) [0, 1, 0, 7, 15, 31, 63, 31, 255, 511, 1023, 2047, 4095, 2047, 10239, 32767, 65535, 131071, 2047, 264191, 1048575, 2097151, 4194303, 8388607] [0, 1, 2, 3, 4, 5, 6, 7, 8, 9, 10, 11, 12, 13, 14, 15, 16, 17, 18, 19, 20, 21, 22, 23] [] (by kernel_rfl) (by kernel_rfl) (fun i T z hi hk => by simp [kdOf] at hk <;> (try (split at hk <;> cases hk))) ?_
 intro Wx hWx
 have m0 := (hWx).kc m0; have m1 := (hWx).kc m1; have m2 := (hWx).kc m2; have m3 := (hWx).kc m3; have m4 := (hWx).kc m4; have u0 := (hWx).kc u0; have u1 := (hWx).kc u1; have f4 := (hWx).kc f4
 repeat ((first | (refine run_off rfl rfl (by rfl) ?_) | (refine run_chain_off rfl rfl (by rfl) (K0_mono _) ?_) | ((refine run_want rfl rfl (by rfl) ⟨?_, fun W hW => ?_, ?_⟩; rotate_left; (· (have d0 := hW.kc m0; have d1 := hW.kc m1; have d2 := hW.kc m2; have d3 := hW.kc m3; have d4 := hW.kc m4; have d5 := hW.kc u0; have d6 := hW.kc u1; have d7 := hW.kc f4; go_simp; (try with_reducible rfl)))))); (try simp only [Act.put, zA, zB, zC]))
 refine run_chain rfl rfl (by rfl) (fun Wi hWi K' hK => ?_)
 have HTi := zH (hWx.trans hWi)
 clear hWx
 go_simp
 refine (contains_int T m.seats n _ _ (HM.out.keep (.of_step (HS.out.trans HTi.out)))).mono ?_
 rintro e wn ⟨rfl, hSn⟩
 refine hK _ _ (StepX.of hSn) ?_
 have HT2 := zH (HTi.out.trans hSn)
 have m0 := (hWi.trans hSn).kc m0; have m1 := (hWi.trans hSn).kc m1; have m2 := (hWi.trans hSn).kc m2; have m3 := (hWi.trans hSn).kc m3; have m4 := (hWi.trans hSn).kc m4; have u0 := (hWi.trans hSn).kc u0; have u1 := (hWi.trans hSn).kc u1; have f4 := (hWi.trans hSn).kc f4
 clear hSn hK HTi hWi
 by_cases q2 : n ∈ m.seats
 rotate_left
 ·rw [decide_eq_false q2]
  have HF := zH (show carriesB W m s n = false by simp [carriesB, q2])
  clear q2
  (try simp only [Act.put, zA, zB, zC])
  repeat ((first | (refine run_off rfl rfl (by rfl) ?_) | (refine run_chain_off rfl rfl (by rfl) (K0_mono _) ?_) | ((refine run_want rfl rfl (by rfl) ⟨?_, fun W hW => ?_, ?_⟩; rotate_left; (· (have d0 := hW.kc m0; have d1 := hW.kc m1; have d2 := hW.kc m2; have d3 := hW.kc m3; have d4 := hW.kc m4; have d5 := hW.kc u0; have d6 := hW.kc u1; have d7 := hW.kc f4; go_simp; (try with_reducible rfl)))))); (try simp only [Act.put, zA, zB, zC]))
  refine run_end (L := []) rfl (fun Wy hWy => ?_)
  go_wp2
  go_ret
  exact ⟨by rw [HF.out]; rfl, HS.out.trans (HT2.out.trans hWy)⟩
 rw [decide_eq_true q2]
 have HQ2 := zH q2
 clear q2
 (try simp only [Act.put, zA, zB, zC])
 repeat ((first | (refine run_off rfl rfl (by rfl) ?_) | (refine run_chain_off rfl rfl (by rfl) (K0_mono _) ?_) | ((refine run_want rfl rfl (by rfl) ⟨?_, fun W hW => ?_, ?_⟩; rotate_left; (· (have d0 := hW.kc m0; have d1 := hW.kc m1; have d2 := hW.kc m2; have d3 := hW.kc m3; have d4 := hW.kc m4; have d5 := hW.kc u0; have d6 := hW.kc u1; have d7 := hW.kc f4; go_simp; (try with_reducible rfl)))))); (try simp only [Act.put, zA, zB, zC]))
 refine run_chain rfl rfl (by rfl) (fun Wi hWi K' hK => ?_)
 have HTi := zH (HT2.out.trans hWi)
 clear hWi
 go_simp
 refine (key_any T m _ _ (HV0.out.keep (.of_step (HS.out.trans HTi.out)))).mono ?_
 rintro e wn2 ⟨rfl, hSn⟩
 refine hK _ _ (StepX.of hSn) ?_
 have HT3 := zH (HTi.out.trans hSn)
 clear hSn hK HTi
 (try simp only [Act.put, zA, zB, zC])
 repeat ((first | (refine run_off rfl rfl (by rfl) ?_) | (refine run_chain_off rfl rfl (by rfl) (K0_mono _) ?_) | ((refine run_want rfl rfl (by rfl) ⟨?_, fun W hW => ?_, ?_⟩; rotate_left; (· (skip; go_simp; (try with_reducible rfl)))))); (try simp only [Act.put, zA, zB, zC]))
 refine run_chain rfl rfl (by rfl) (fun Wi hWi K' hK => ?_)
 have HTi := zH (HT3.out.trans hWi)
 clear hWi
 go_simp
 refine (contains_key S b.took m.frm m.number _ _ (HT4.out.keep (.of_step (HS.out.trans HTi.out)))).mono ?_
 rintro e wn3 ⟨rfl, hSn⟩
 have HF := zH (show carriesB W m s n = !hasK b.took ⟨m.frm, m.number⟩ by simp [carriesB, HQ1.out, HQ2.out, HBK.out, keyOf])
 obtain ⟨qq, hqq⟩ : ∃ z9, z9 = hasK b.took ⟨m.frm, m.number⟩ := ⟨_, rfl⟩
 rw [← hqq] at HF ⊢
 refine hK _ _ (StepX.of hSn) ?_
 have HT4 := zH (HTi.out.trans hSn)
 clear hSn hK HTi hqq
 (try simp only [Act.put, zA, zB, zC])
 repeat ((first | (refine run_off rfl rfl (by rfl) ?_) | (refine run_chain_off rfl rfl (by rfl) (K0_mono _) ?_) | ((refine run_want rfl rfl (by rfl) ⟨?_, fun W hW => ?_, ?_⟩; rotate_left; (· (skip; go_simp; (try with_reducible rfl)))))); (try simp only [Act.put, zA, zB, zC]))
 refine run_end (L := []) rfl (fun Wy hWy => ?_)
 go_wp2
 go_ret
 exact ⟨by rw [HF.out]; rfl, HS.out.trans (HT4.out.trans hWy)⟩
def numsB (p : Nat → Bool) (k : Nat) : List Int := ((List.range k).filter p).map fun (a : Nat) => (a : Int)
theorem numsB_yes {p : Nat → Bool} {k : Nat} (h : p k = true) : numsB p (k + 1) = numsB p k ++ [(k : Int)] := by simp [numsB, List.range_succ, List.filter_append, h]
theorem numsB_no {p : Nat → Bool} {k : Nat} (h : p k = false) : numsB p (k + 1) = numsB p k := by simp [numsB, List.range_succ, List.filter_append, h]
theorem numsB_zero (p : Nat → Bool) : numsB p 0 = [] := by simp [numsB]
theorem numsB_len (p : Nat → Bool) (k : Nat) : (numsB p k).length ≤ k := by
 have := List.length_filter_le p (List.range k)
 simpa [numsB] using this
def agsP (W : Wd) (s n : Int) (a : Nat) : Bool := decide (seatAt (bk W a) s n ≠ -1)
def mgsP (W : Wd) (s n : Int) (k : Nat) : Bool := carriesB W (ms W k) s n
theorem _root_.Go.BT.SL.seat {S : Nat → Prop} {w : World} {v : Value} {b : Book} (h : SL S w v b.seats) {i j : Nat} (hi : i < b.seats.length) (hj : j < b.seats[i].length) :
  ∃ rb ro rk qb qo qk, v = .slice (some ⟨rb, ro, none⟩) b.seats.length rk ∧ w.cell? ⟨rb, ro + i, none⟩ = some (.slice (some ⟨qb, qo, none⟩) b.seats[i].length qk) ∧ w.cell? ⟨qb, qo + j, none⟩ = some (.int .i64 (seatAt b i j)) := by
 obtain ⟨p, c, rb, ro, rfl, _, _, hp, hc, _⟩ := h.rows
 obtain ⟨u, h1, h2⟩ := hc i hi
 obtain ⟨p2, c2, qb, qo, rfl, _, _, hp2, hc2, _⟩ := h2.ints
 rw [hp2 (by omega)] at h1
 refine ⟨rb, ro, c, qb, qo, c2, by rw [hp (by omega)], h1, ?_⟩
 rw [hc2 j hj]
 simp [seatAt, List.getD_eq_getElem?_getD, hi, hj]
theorem places_any (S : Nat → Prop) (W : Wd) (i j : Nat) (u : Value) (w : World) (hu : AV S w u W) (hbk : ∀ a (ha : a < W.books.length), ∃ hi : i < W.books[a].seats.length, j < W.books[a].seats[i].length) (hms : ∀ k (hk : k < W.msgs.length), 0 ≤ W.msgs[k].dst ∧ W.msgs[k].dst < W.books.length) (hl1 : W.books.length ≤ 1000000) (hl2 : W.msgs.length ≤ 1000000) :
  Calls Tryz.prog 55 #[u, .int .i64 i, .int .i64 j] w fun e w' => ∃ va vm, e = .returned (.tuple #[va, vm]) ∧ SL (Old w) w' va (numsB (agsP W i j) W.books.length) ∧ SL (Old w) w' vm (numsB (mgsP W i j) W.msgs.length) ∧ Step w w' := by
 have HU := zH hu
 obtain ⟨b0, b1, rfl, s0, s1⟩ := hu.wd
 obtain ⟨pb, kb, bb, bo, rfl, _, _, hpb, hcb, _⟩ := s0.books
 obtain ⟨pm, km, mb, mo, rfl, _, _, hpm, hcm, _⟩ := s1.mess
 obtain ⟨W0, hW0⟩ : ∃ z9, z9 = w.alloc (.cells #[.slice pb W.books.length kb, .slice pm W.msgs.length km] 34) := ⟨_, rfl⟩
 have hS : Step w W0 := by subst hW0; exact Step.alloc _ _
 have hb0 : Bx W0 w.heap.size [.slice pb W.books.length kb, .slice pm W.msgs.length km] 34 := by subst hW0; exact Bx.new _ [_, _] _
 have HS := zH hS
 have HB := zH hb0
 have HC := zH (And.intro (And.intro hpb hcb) (And.intro hpm hcm))
 have HP := zH (And.intro hbk hms)
 have HW := zH hW0
 have hl1' := hl1
 have hl2' := hl2
 clear hu s0 s1 hpb hcb hpm hcm hS hb0 hbk hms hW0 hl1 hl2
 go_enter Tryz.func55, Tryz.ntmps55
 go_upto_region 1 with (fail)
 rw [← HW.out]
 clear HW
 have u0 := HB.out.cell 0
 simp only [List.getElem?_cons_zero] at u0
 have HT0 := zH (Step.refl W0)
 go_upto_region 2 with (fail)
 clear u0
 go_loopw [6, 15] (fun v6 iv wr => ∃ k : Nat, k ≤ W.books.length ∧ iv = .int .i64 k ∧ OwnL (fun _ => False) W0.heap.size 3 wr v6 (numsB (agsP W i j) k) ∧ Step W0 wr) (fun _ iv _ => W.books.length - (intOf iv).toNat)
 case atStart => exact ⟨0, Nat.zero_le _, rfl, by rw [numsB_zero]; exact OwnL.nil _ _ _ _, HT0.out⟩
 case round =>
  obtain ⟨k, hk, rfl, hown, hT⟩ := hrel
  have HT := zH hT
  have HOW := zH hown
  clear hT
  obtain ⟨p6, c6, rfl⟩ : ∃ p c, u6 = .slice p (numsB (agsP W i j) k).length c := by obtain ⟨p, c, e, _, _⟩ := hown.form; exact ⟨p, c, e⟩
  clear hown
  have hnl := numsB_len (agsP W i j) k
  by_cases hlt : k < W.books.length
  ·obtain rfl := HC.out.1.1 (by omega)
   obtain ⟨z1, z2, z4, ⟨f0, f1, f2, f3, f4, f5⟩, t1, t2, t4⟩ := HC.out.1.2 k hlt
   obtain ⟨hi, hj⟩ := HP.out.1 k hlt
   have hbq : bk W k = W.books[k] := bk_at hlt
   obtain ⟨b, hb⟩ : ∃ b, b = W.books[k] := ⟨_, rfl⟩
   obtain ⟨x, hx⟩ : ∃ x, x = seatAt b i j := ⟨_, rfl⟩
   have hpq : agsP W i j k = decide (x ≠ -1) := by rw [agsP, hbq, ← hb, hx]
   rw [← hb] at f0 f3 f5 t1 t2 t4
   have hi' : i < b.seats.length := by rw [hb]; exact hi
   have hj' : j < b.seats[i].length := by subst hb; exact hj
   obtain ⟨rb, ro, rk, qb, qo, qk, e1, r0, r1⟩ := t1.seat hi' hj'
   subst e1
   obtain ⟨p2, k2, e2⟩ := t2.form
   obtain ⟨p4, k4, e4⟩ := t4.form
   subst e2 e4
   rw [← hx] at r1
   obtain ⟨nr, hnr⟩ : ∃ n, n = b.seats[i].length := ⟨_, rfl⟩
   rw [← hnr] at r0 hj'
   have HPQ := zH hpq
   clear hb hx hbq hpq hnr t1 t2 t4 hi hj
   have f0 := (HS.out.trans HT.out).kc f0; have f1 := (HS.out.trans HT.out).kc f1; have f2 := (HS.out.trans HT.out).kc f2; have f3 := (HS.out.trans HT.out).kc f3; have f4 := (HS.out.trans HT.out).kc f4; have f5 := (HS.out.trans HT.out).kc f5; have r0 := (HS.out.trans HT.out).kc r0; have r1 := (HS.out.trans HT.out).kc r1
   have hix : (0 : Int) ≤ (k : Int) ∧ (k : Int) < (W.books.length : Int) := by omega
   have hiy : (0 : Int) ≤ (i : Int) ∧ (i : Int) < (b.seats.length : Int) := by omega
   have hjy : (0 : Int) ≤ (j : Int) ∧ (j : Int) < (nr : Int) := by omega
   go_upto_region 4 with (fail)
   obtain ⟨W5, hW5⟩ : ∃ z9, z9 = wr.alloc (.cells #[.int .i64 b.agency, .slice (some ⟨rb, ro, none⟩) b.seats.length rk, .slice p2 b.off.length k2, .int .i64 b.sent, .slice p4 b.took.length k4, .int .i64 b.cash] 77) := ⟨_, rfl⟩
   have hb5 : Bx W5 wr.heap.size [.int .i64 b.agency, .slice (some ⟨rb, ro, none⟩) b.seats.length rk, .slice p2 b.off.length k2, .int .i64 b.sent, .slice p4 b.took.length k4, .int .i64 b.cash] 77 := by subst hW5; exact Bx.new _ [_, _, _, _, _, _] _
   have hS5 : Step wr W5 := by subst hW5; exact Step.alloc _ _
   rw [← hW5]
   obtain ⟨g9, hg9⟩ : ∃ g, g = wr.heap.size := ⟨_, rfl⟩
   rw [← hg9] at hb5 ⊢
   have y1 := hb5.cell 1
   simp only [zD, zE] at y1
   have r0 := (hS5).kc r0; have r1 := (hS5).kc r1
   have hown5 := HOW.out.step hS5
   have HT5 := zH (HT.out.trans hS5)
   clear hW5 hb5 hS5 hg9 HOW f0 f1 f2 f3 f4 f5
   by_cases q : x = -1
   ·have d1 : (x != -1) = false := by rw [q]; rfl
    have hq : agsP W i j k = false := by rw [HPQ.out, q]; rfl
    have HN := zH (numsB_no hq)
    have HO := zH hown5
    clear q hq hown5
    go_wp2
    go_roundw
    case rel => exact ⟨k + 1, by omega, by go_num, by rw [HN.out]; exact HO.out, HT5.out⟩
    case measure => simp [intOf]; omega
   ·have d1 : (x != -1) = true := by rw [bne_iff_ne]; exact q
    have hq : agsP W i j k = true := by rw [HPQ.out]; exact decide_eq_true q
    clear q
    have hbase : W0.heap.size ≤ (W5.alloc (.cells #[.int .i64 (k : Int)] 3)).heap.size := by have := HT5.out.size; simp; omega
    go_wp2_with (at_builtin; refine wpl_append (α := Int) (S := fun _ => False) (base := W0.heap.size) (v := .slice p6 (numsB (agsP W i j) k).length c6) (l := numsB (agsP W i j) k) (m := [(k : Int)]) eiInts rfl _ _ rfl rfl rfl (hown5.step (Step.alloc _ _)) (SLe.one 3 rfl) ((numsB (agsP W i j) k).length + 1) (by simp) (numsB (agsP W i j) (k + 1)) (numsB_yes hq).symm (by simp only [maxLen]; omega) (by omega) hbase ?_)
    intro p' c' w7 hown7 hg7
    have hal := Step.alloc W5 (.cells #[.int .i64 (k : Int)] 3)
    have hlt7 := (hown5.step hal).lt
    have HT7 := zH (show Step W0 w7 from StepX.fresh (HT5.out.trans hal) (StepX.grown (X := fun j' => (Value.slice p6 (numsB (agsP W i j) k).length c6).ownBlock = some j') hg7 fun j' hj _ => hj) (fun j' hj => (hlt7 j' hj).1))
    have HO7 := zH hown7
    clear hown5 hown7 hg7 hal hlt7 hbase
    go_wp2
    go_roundw
    case rel => exact ⟨k + 1, by omega, by go_num, HO7.out, HT7.out⟩
    case measure => simp [intOf]; omega
  ·have hkl : k = W.books.length := by omega
   subst hkl
   have HA := zH ((HOW.out.flat (Old w)).slb fun g hg e => by have := (HOW.out.lt g hg).1; have := HS.out.size; unfold Old at e; omega)
   have u1 := (HB.out.step HT.out).cell 1
   simp only [zD, zE] at u1
   obtain ⟨wo, hwo⟩ : ∃ z9, z9 = wr := ⟨_, rfl⟩
   subst hwo
   have HTo := zH (Step.refl wo)
   go_upto_region 8 with (fail)
   clear u1 HOW
   go_loopw [7, 37] (fun v7 iv wr => ∃ k : Nat, k ≤ W.msgs.length ∧ iv = .int .i64 k ∧ OwnL (fun _ => False) wo.heap.size 3 wr v7 (numsB (mgsP W i j) k) ∧ Step wo wr) (fun _ iv _ => W.msgs.length - (intOf iv).toNat)
   case atStart => exact ⟨0, Nat.zero_le _, rfl, by rw [numsB_zero]; exact OwnL.nil _ _ _ _, HTo.out⟩
   case round =>
    obtain ⟨k, hk, rfl, hown, hT⟩ := hrel
    have HTr := zH hT
    have HOW := zH hown
    clear hT
    obtain ⟨p7, c7, rfl⟩ : ∃ p c, u7 = .slice p (numsB (mgsP W i j) k).length c := by obtain ⟨p, c, e, _, _⟩ := hown.form; exact ⟨p, c, e⟩
    clear hown
    have hnl := numsB_len (mgsP W i j) k
    by_cases hlt : k < W.msgs.length
    ·obtain rfl := HC.out.2.1 (by omega)
     obtain ⟨z4, ⟨f0, f1, f2, f3, f4⟩, t4⟩ := HC.out.2.2 k hlt
     obtain ⟨m, hm⟩ : ∃ b, b = W.msgs[k] := ⟨_, rfl⟩
     have hmq : ms W k = m := by rw [hm]; exact ms_at hlt
     have hmd := HP.out.2 k hlt
     rw [← hm] at f0 f1 f2 f3 t4 hmd
     obtain ⟨p4, k4, e4⟩ := t4.form
     subst e4
     have HMV := zH (show AV S w (.agg #[.int .i64 m.frm, .int .i64 m.dst, .int .i64 m.number, .int .i64 m.shw, .slice p4 m.seats.length k4]) m from ⟨_, rfl, _, rfl, t4⟩)
     have HMQ := zH (And.intro hmq hmd)
     clear hm hmq hmd t4
     have f0 := ((HS.out.trans HT.out).trans HTr.out).kc f0; have f1 := ((HS.out.trans HT.out).trans HTr.out).kc f1; have f2 := ((HS.out.trans HT.out).trans HTr.out).kc f2; have f3 := ((HS.out.trans HT.out).trans HTr.out).kc f3; have f4 := ((HS.out.trans HT.out).trans HTr.out).kc f4
     have hix : (0 : Int) ≤ (k : Int) ∧ (k : Int) < (W.msgs.length : Int) := by omega
     go_upto_region 10 with (fail)
     obtain ⟨W5, hW5⟩ : ∃ z9, z9 = wr.alloc (.cells #[.int .i64 m.frm, .int .i64 m.dst, .int .i64 m.number, .int .i64 m.shw, .slice p4 m.seats.length k4] 86) := ⟨_, rfl⟩
     have hb5 : Bx W5 wr.heap.size [.int .i64 m.frm, .int .i64 m.dst, .int .i64 m.number, .int .i64 m.shw, .slice p4 m.seats.length k4] 86 := by subst hW5; exact Bx.new _ [_, _, _, _, _] _
     have hS5 : Step wr W5 := by subst hW5; exact Step.alloc _ _
     rw [← hW5]
     obtain ⟨g9, hg9⟩ : ∃ g, g = wr.heap.size := ⟨_, rfl⟩
     rw [← hg9] at hb5 ⊢
     obtain ⟨m0, m1, m2, m3, m4⟩ := cells5 hb5
     have HT5 := zH (HTr.out.trans hS5)
     have hown5 := HOW.out.step hS5
     have HO5 := zH hown5
     clear hW5 hb5 hS5 hg9 HOW f0 f1 f2 f3 f4 hown5
     obtain ⟨u0, u1⟩ : _ ∧ _ := ⟨(HB.out.step (HT.out.trans HT5.out)).cell 0, (HB.out.step (HT.out.trans HT5.out)).cell 1⟩
     simp only [zD, zE] at u0 u1
     go_wp2_with fail
     refine (carries_any S S W m i j _ _ _ (HU.out.keep (.of_step ((HS.out.trans HT.out).trans HT5.out))) (HMV.out.keep (.of_step ((HS.out.trans HT.out).trans HT5.out))) HMQ.out.2).mono ?_
     rintro e wn ⟨rfl, hSn⟩
     have HTn := zH (HT5.out.trans hSn)
     have hown5 := HO5.out.step hSn
     clear hSn HT5 HO5 u0 u1 m0 m1 m2 m3 m4
     cases hq : mgsP W i j k with
     | false =>
      rw [show carriesB W m i j = false by rw [← hq, mgsP, HMQ.out.1]]
      have HN := zH (numsB_no hq)
      have HO := zH hown5
      clear hq hown5
      go_wp2
      go_roundw
      case rel => exact ⟨k + 1, by omega, by go_num, by rw [HN.out]; exact HO.out, HTn.out⟩
      case measure => simp [intOf]; omega
     | true =>
      rw [show carriesB W m i j = true by rw [← hq, mgsP, HMQ.out.1]]
      have hbase : wo.heap.size ≤ (wn.alloc (.cells #[.int .i64 (k : Int)] 3)).heap.size := by have := HTn.out.size; simp; omega
      go_wp2_with (at_builtin; refine wpl_append (α := Int) (S := fun _ => False) (base := wo.heap.size) (v := .slice p7 (numsB (mgsP W i j) k).length c7) (l := numsB (mgsP W i j) k) (m := [(k : Int)]) eiInts rfl _ _ rfl rfl rfl (hown5.step (Step.alloc _ _)) (SLe.one 3 rfl) ((numsB (mgsP W i j) k).length + 1) (by simp) (numsB (mgsP W i j) (k + 1)) (numsB_yes hq).symm (by simp only [maxLen]; omega) (by omega) hbase ?_)
      intro p' c' w7 hown7 hg7
      have hal := Step.alloc wn (.cells #[.int .i64 (k : Int)] 3)
      have hlt7 := (hown5.step hal).lt
      have HT7 := zH (show Step wo w7 from StepX.fresh (HTn.out.trans hal) (StepX.grown (X := fun j' => (Value.slice p7 (numsB (mgsP W i j) k).length c7).ownBlock = some j') hg7 fun j' hj _ => hj) (fun j' hj => (hlt7 j' hj).1))
      have HO7 := zH hown7
      clear hown5 hown7 hg7 hal hlt7 hbase hq
      go_wp2
      go_roundw
      case rel => exact ⟨k + 1, by omega, by go_num, HO7.out, HT7.out⟩
      case measure => simp [intOf]; omega
    ·have hkl : k = W.msgs.length := by omega
     subst hkl
     have HB2 := zH ((HOW.out.flat (Old w)).slb fun g hg e => by have := (HOW.out.lt g hg).1; have := HS.out.size; have := HT.out.size; unfold Old at e; omega)
     go_wp2
     go_ret2
     exact ⟨_, _, rfl, HA.out.keep (.of_step HTr.out), HB2.out, (HS.out.trans HT.out).trans HTr.out⟩
theorem dst_in {h : House} {W : Wd} (hl : W.books.length = agN h) {m : BT.Message} (hm : messV h m = true) : ∃ d : Nat, m.dst = d ∧ d < W.books.length ∧ m.frm ≠ m.dst ∧ ∃ f : Nat, m.frm = f ∧ f < W.books.length := by
 unfold messV at hm
 simp only [Bool.and_eq_true, decide_eq_true_eq] at hm
 obtain ⟨⟨⟨⟨⟨m1, m2⟩, m3⟩, _⟩, _⟩, _⟩ := hm
 obtain ⟨d, e1, e2⟩ := nat_of m2
 obtain ⟨f, e3, e4⟩ := nat_of m1
 exact ⟨d, e1, by omega, m3, f, e3, by omega⟩
structure WB (h : House) (W : Wd) : Prop where
 val : valid h = true
 len : W.books.length = agN h
 msg : ∀ k (hk : k < W.msgs.length), messV h W.msgs[k] = true
 book : ∀ a (ha : a < W.books.length), W.books[a].agency = a ∧ bookB h W.books[a] = true
theorem worldB_parts {h : House} {W : Wd} (hw : worldB h W = true) : WB h W := by
 simp only [worldB, Bool.and_eq_true, decide_eq_true_eq, List.all_eq_true, List.mem_range] at hw
 obtain ⟨h1, h2, h3, h4⟩ := hw
 refine ⟨h1, h2, fun k hk => h3 _ (List.getElem_mem hk), fun a ha => ?_⟩
 have := h4 a ha
 simp only [okA, Bool.and_eq_true, decide_eq_true_eq, bk_at ha] at this
 exact this
theorem WB.rows {h : House} {W : Wd} (F : WB h W) {i j : Nat} (hi : i < h.dates.length) (hj : (j : Int) < sizeL h.sectors) (a : Nat) (ha : a < W.books.length) : ∃ hi : i < W.books[a].seats.length, j < W.books[a].seats[i].length := by
 have P := bookB_parts (F.book a ha).2
 have hi' : i < W.books[a].seats.length := by rw [P.seats]; exact hi
 refine ⟨hi', ?_⟩
 have := List.all_eq_true.1 P.rows _ (List.getElem_mem hi')
 simp only [rowB, Bool.and_eq_true, decide_eq_true_eq] at this
 have := this.1
 omega
theorem WB.dst {h : House} {W : Wd} (F : WB h W) (k : Nat) (hk : k < W.msgs.length) : 0 ≤ W.msgs[k].dst ∧ W.msgs[k].dst < W.books.length := by
 obtain ⟨d, h1, h2, _⟩ := dst_in F.len (F.msg k hk)
 omega
def inB (h : House) (s i : Int) : Bool := withinB s 0 (h.dates.length - 1) && withinB i 0 (sizeL h.sectors - 1)
def whereL (l m : List Int) : Int × Int × Int := match l, m with
 | a :: _, _ => (a, -1, 0)
 | [], k :: _ => (-1, k, 0)
 | [], [] => (0, 0, 7)
def whereR (h : House) (W : Wd) (s i : Int) : Int × Int × Int :=
 if worldB h W = false then (0, 0, 1) else if inB h s i = false then (0, 0, 2) else whereL (numsB (agsP W s i) W.books.length) (numsB (mgsP W s i) W.msgs.length)
theorem Where_any (S T : Nat → Prop) (h : House) (W : Wd) (s i : Int) (v u : Value) (w : World) (hv : AV S w v h) (hu : AV T w u W) (hm : W.msgs.length ≤ 1000000) :
  Calls Tryz.prog 18 #[v, u, .int .i64 s, .int .i64 i] w fun e w' => e = .returned (.tuple #[.int .i64 (whereR h W s i).1, .int .i64 (whereR h W s i).2.1, .int .i64 (whereR h W s i).2.2]) ∧ Step w w' := by
 have HH0 := zH hv
 have HU0 := zH hu
 obtain ⟨c0, c1, c2, c3, c4, rfl, h0, h1, h2, h3, h4⟩ := hv.house
 obtain ⟨p0, k0, rfl⟩ := h0.form
 obtain ⟨p1, k1, rfl⟩ := h1.form
 obtain ⟨p2, k2, rfl⟩ := h2.form
 obtain ⟨p3, k3, rfl⟩ := h3.form
 obtain ⟨p4, k4, rfl⟩ := h4.form
 obtain ⟨b0, b1, rfl, s0, s1⟩ := hu.wd
 obtain ⟨pb, kb, rfl⟩ := s0.form
 obtain ⟨pm, km, rfl⟩ := s1.form
 obtain ⟨W0, hW0⟩ : ∃ z9, z9 = (w.alloc (.cells #[.slice p0 h.sectors.length k0, .slice p1 h.prices.length k1, .slice p2 h.dates.length k2, .slice p3 h.frm.length k3, .slice p4 h.holds.length k4] 41)).alloc (.cells #[.slice pb W.books.length kb, .slice pm W.msgs.length km] 34) := ⟨_, rfl⟩
 have hS : Step w W0 := by subst hW0; exact (by with_reducible repeat (first | assumption | exact Step.refl _ | apply Step.s_alloc | apply Step.s_drew | apply Step.s_drewN | refine Step.trans ?_ (by assumption)))
 have hb0 : Bx W0 w.heap.size [.slice p0 h.sectors.length k0, .slice p1 h.prices.length k1, .slice p2 h.dates.length k2, .slice p3 h.frm.length k3, .slice p4 h.holds.length k4] 41 := by subst hW0; exact (Bx.new _ [_, _, _, _, _] _).alloc _
 have hb1 : Bx W0 (w.heap.size + 1) [.slice pb W.books.length kb, .slice pm W.msgs.length km] 34 := by subst hW0; exact Bx.new' _ [_, _] _ _ (by simp)
 have HS := zH hS
 have HB := zH hb0
 have HB1 := zH hb1
 have HW := zH hW0
 have HM := zH hm
 have HC1 := zH (world_any S T h W _ _ W0 (HH0.out.keep (.of_step hS)) (HU0.out.keep (.of_step hS)))
 clear hv hu h0 h1 h2 h3 h4 s0 s1 hS hb0 hb1 hW0 hm
 go_enter Tryz.func18, Tryz.ntmps18
 go_upto_region 1 with (fail)
 rw [← HW.out]
 clear HW
 obtain ⟨e0, e1, e2, e3, e4⟩ := cells5 HB.out
 obtain ⟨u0, u1⟩ : _ ∧ _ := ⟨HB1.out.cell 0, HB1.out.cell 1⟩
 simp only [zD, zE] at u0 u1
 go_wp2_with fail
 refine HC1.out.mono ?_
 rintro e wn ⟨rfl, hSn⟩
 have HT := zH hSn
 clear HC1 hSn e0 e1 e2 e3 e4 u0 u1
 cases qw : worldB h W with
 | false =>
  have HF := zH (show whereR h W s i = (0, 0, 1) by simp [whereR, qw])
  clear qw
  go_wp2
  go_ret3
  exact ⟨by rw [HF.out]; rfl, HS.out.trans HT.out⟩
 | true =>
 have HQ := zH qw
 have HP := zH (worldB_parts qw)
 clear qw
 obtain ⟨e0, e1, e2, e3, e4⟩ := cells5 (HB.out.step HT.out)
 obtain ⟨u0, u1⟩ : _ ∧ _ := ⟨(HB1.out.step HT.out).cell 0, (HB1.out.step HT.out).cell 1⟩
 simp only [zD, zE] at u0 u1
 have hd6 : h.dates.length ≤ 6 := by have := bounds_valid HP.out.val; omega
 go_wp2_with fail
 refine (ticket.within_any _ _ _ _).mono ?_
 rintro e wn2 ⟨rfl, rfl⟩
 cases q1 : withinB s 0 ((h.dates.length : Int) - 1) with
 | false =>
  have HF := zH (show whereR h W s i = (0, 0, 2) by simp [whereR, HQ.out, inB, q1])
  clear q1
  go_wp2
  go_ret3
  exact ⟨by rw [HF.out]; rfl, HS.out.trans HT.out⟩
 | true =>
 have HQ1 := zH q1
 clear q1
 go_wp2_with fail
 refine (size_any S h _ _ (HH0.out.keep (.of_step (HS.out.trans HT.out))) (okSec_valid HP.out.val)).mono ?_
 rintro e wn3 ⟨rfl, hSn⟩
 have HT3 := zH (HT.out.trans hSn)
 clear HT hSn e0 e1 e2 e3 e4 u0 u1
 have HT := HT3
 clear HT3
 obtain ⟨e0, e1, e2, e3, e4⟩ := cells5 (HB.out.step HT.out)
 obtain ⟨u0, u1⟩ : _ ∧ _ := ⟨(HB1.out.step HT.out).cell 0, (HB1.out.step HT.out).cell 1⟩
 simp only [zD, zE] at u0 u1
 have hd7 : 0 ≤ sizeL h.sectors ∧ sizeL h.sectors ≤ 100 := by have := bounds_valid HP.out.val; omega
 go_wp2_with fail
 refine (ticket.within_any _ _ _ _).mono ?_
 rintro e wn4 ⟨rfl, rfl⟩
 cases q2 : withinB i 0 (sizeL h.sectors - 1) with
 | false =>
  have HF := zH (show whereR h W s i = (0, 0, 2) by simp [whereR, HQ.out, inB, q2])
  clear q2
  go_wp2
  go_ret3
  exact ⟨by rw [HF.out]; rfl, HS.out.trans HT.out⟩
 | true =>
 have HF := zH (show whereR h W s i = whereL (numsB (agsP W s i) W.books.length) (numsB (mgsP W s i) W.msgs.length) by simp [whereR, HQ.out, inB, q2, HQ1.out])
 have q1 := HQ1.out
 simp only [withinB, decide_eq_true_eq] at q1 q2
 obtain ⟨sn, rfl⟩ : ∃ n : Nat, s = n := ⟨s.toNat, by omega⟩
 obtain ⟨jn, rfl⟩ : ∃ n : Nat, i = n := ⟨i.toNat, by omega⟩
 have hcall := zH (places_any T W sn jn _ wn3 (HU0.out.keep (.of_step (HS.out.trans HT.out))) (HP.out.rows (by omega) (by omega)) (fun k hk => HP.out.dst k hk) (by have := bounds_valid HP.out.val; have := HP.out.len; omega) HM.out)
 clear q1 q2 hd6 hd7 HQ1 e0 e1 e2 e3 e4
 go_wp2_with fail
 refine hcall.out.mono ?_
 rintro e wn5 ⟨va, vm, rfl, hva, hvm, hSn⟩
 have HT5 := zH (HT.out.trans hSn)
 clear HT hSn hcall u0 u1
 generalize hgl : numsB (agsP W sn jn) W.books.length = la at *
 generalize hgm : numsB (mgsP W sn jn) W.msgs.length = lm at *
 clear hgl hgm
 obtain ⟨pa, ka, ba, oa, rfl, _, _, hpa, hca, _⟩ := hva.ints
 obtain ⟨pk, kk, bk', ok', rfl, _, _, hpk, hck, _⟩ := hvm.ints
 have HK := zH hck
 have HKP := zH hpk
 have HA := zH hca
 have HAP := zH hpa
 clear hva hvm hpa hca hpk hck
 cases la with
 | cons a l =>
  obtain rfl := HAP.out (by simp)
  have a0 := HA.out 0 (by simp)
  simp only [List.getElem_cons_zero, Nat.add_zero] at a0
  have hl : (0 : Int) < ((a :: l).length : Int) := by simp
  clear HAP HA HK HKP
  go_wp2
  go_ret3
  exact ⟨by rw [HF.out]; rfl, HS.out.trans HT5.out⟩
 | nil =>
  clear HA HAP
  cases lm with
  | nil =>
   clear HK HKP
   go_wp2
   go_ret3
   exact ⟨by rw [HF.out]; rfl, HS.out.trans HT5.out⟩
  | cons a l =>
   obtain rfl := HKP.out (by simp)
   have a0 := HK.out 0 (by simp)
   simp only [List.getElem_cons_zero, Nat.add_zero] at a0
   have hl : (0 : Int) < ((a :: l).length : Int) := by simp
   clear HK HKP
   go_upto_region 9 with (fail)
   go_quiet (fail)
   go_wp2
   go_ret3
   exact ⟨by rw [HF.out]; rfl, (HS.out.trans HT5.out).trans (Step.drewN _ _)⟩
def onePl (W : Wd) (s i : Nat) : Bool := decide ((numsB (agsP W s i) W.books.length).length + (numsB (mgsP W s i) W.msgs.length).length = 1)
def oneRow (h : House) (W : Wd) (s : Nat) : Bool := (List.range (sizeL h.sectors).toNat).all (onePl W s)
def soundB (h : House) (W : Wd) : Bool := worldB h W && (countedB W && (List.range h.dates.length).all (oneRow h W))
theorem Sound_any (S T : Nat → Prop) (h : House) (W : Wd) (v u : Value) (w : World) (hv : AV S w v h) (hu : AV T w u W) (hm : W.msgs.length ≤ 1000000) :
  Calls Tryz.prog 20 #[v, u] w fun e w' => e = .returned (.bool (soundB h W)) ∧ Step w w' := by
 have HH0 := zH hv
 have HU0 := zH hu
 obtain ⟨c0, c1, c2, c3, c4, rfl, h0, h1, h2, h3, h4⟩ := hv.house
 obtain ⟨p0, k0, rfl⟩ := h0.form
 obtain ⟨p1, k1, rfl⟩ := h1.form
 obtain ⟨p2, k2, rfl⟩ := h2.form
 obtain ⟨p3, k3, rfl⟩ := h3.form
 obtain ⟨p4, k4, rfl⟩ := h4.form
 obtain ⟨b0, b1, rfl, s0, s1⟩ := hu.wd
 obtain ⟨pb, kb, rfl⟩ := s0.form
 obtain ⟨pm, km, rfl⟩ := s1.form
 obtain ⟨W0, hW0⟩ : ∃ z9, z9 = (w.alloc (.cells #[.slice p0 h.sectors.length k0, .slice p1 h.prices.length k1, .slice p2 h.dates.length k2, .slice p3 h.frm.length k3, .slice p4 h.holds.length k4] 41)).alloc (.cells #[.slice pb W.books.length kb, .slice pm W.msgs.length km] 34) := ⟨_, rfl⟩
 have hS : Step w W0 := by subst hW0; exact (by with_reducible repeat (first | assumption | exact Step.refl _ | apply Step.s_alloc | apply Step.s_drew | apply Step.s_drewN | refine Step.trans ?_ (by assumption)))
 have hb0 : Bx W0 w.heap.size [.slice p0 h.sectors.length k0, .slice p1 h.prices.length k1, .slice p2 h.dates.length k2, .slice p3 h.frm.length k3, .slice p4 h.holds.length k4] 41 := by subst hW0; exact (Bx.new _ [_, _, _, _, _] _).alloc _
 have hb1 : Bx W0 (w.heap.size + 1) [.slice pb W.books.length kb, .slice pm W.msgs.length km] 34 := by subst hW0; exact Bx.new' _ [_, _] _ _ (by simp)
 have HS := zH hS
 have HB := zH hb0
 have HB1 := zH hb1
 have HW := zH hW0
 have HM := zH hm
 have HC1 := zH (world_any S T h W _ _ W0 (HH0.out.keep (.of_step hS)) (HU0.out.keep (.of_step hS)))
 clear hv hu h0 h1 h2 h3 h4 s0 s1 hS hb0 hb1 hW0 hm
 go_enter Tryz.func20, Tryz.ntmps20
 go_upto_region 1 with (fail)
 rw [← HW.out]
 clear HW
 obtain ⟨e0, e1, e2, e3, e4⟩ := cells5 HB.out
 obtain ⟨u0, u1⟩ : _ ∧ _ := ⟨HB1.out.cell 0, HB1.out.cell 1⟩
 simp only [zD, zE] at u0 u1
 go_wp2_with fail
 refine HC1.out.mono ?_
 rintro e wn ⟨rfl, hSn⟩
 have HT := zH hSn
 clear HC1 hSn e0 e1 e2 e3 e4 u0 u1
 cases qw : worldB h W with
 | false =>
  have HF := zH (show soundB h W = false by simp [soundB, qw])
  clear qw
  go_wp2
  go_ret
  exact ⟨by rw [HF.out]; rfl, HS.out.trans HT.out⟩
 | true =>
 have HQ := zH qw
 have HP := zH (worldB_parts qw)
 clear qw
 obtain ⟨e0, e1, e2, e3, e4⟩ := cells5 (HB.out.step HT.out)
 obtain ⟨u0, u1⟩ : _ ∧ _ := ⟨(HB1.out.step HT.out).cell 0, (HB1.out.step HT.out).cell 1⟩
 simp only [zD, zE] at u0 u1
 go_wp2_with fail
 refine (counted_any T W _ _ (HU0.out.keep (.of_step (HS.out.trans HT.out)))).mono ?_
 rintro e wn2 ⟨rfl, hSn⟩
 have HTn := zH (HT.out.trans hSn)
 clear hSn HT e0 e1 e2 e3 e4 u0 u1
 have HT := HTn
 clear HTn
 cases qc : countedB W with
 | false =>
  have HF := zH (show soundB h W = false by simp [soundB, qc])
  clear qc
  go_wp2
  go_ret
  exact ⟨by rw [HF.out]; rfl, HS.out.trans HT.out⟩
 | true =>
 have HF := zH (show soundB h W = (List.range h.dates.length).all (oneRow h W) by simp only [soundB, HQ.out, qc, Bool.true_and])
 clear qc
 obtain ⟨e0, e1, e2, e3, e4⟩ := cells5 (HB.out.step HT.out)
 have hd6 : h.dates.length ≤ 6 := by have := bounds_valid HP.out.val; omega
 have hd7 : 0 ≤ sizeL h.sectors ∧ sizeL h.sectors ≤ 100 := by have := bounds_valid HP.out.val; omega
 obtain ⟨nz, hnz⟩ : ∃ n : Nat, sizeL h.sectors = n := ⟨(sizeL h.sectors).toNat, by omega⟩
 have hz1 : nz ≤ 100 := by omega
 have HNZ := zH hnz
 clear hd7 hnz
 go_upto_region 4 with (fail)
 clear e0 e1 e2 e3 e4
 go_loopw [21] (fun iv wr => ∃ k : Nat, k ≤ h.dates.length ∧ iv = .int .i64 k ∧ (List.range k).all (oneRow h W) = true ∧ Step W0 wr) (fun iv _ => h.dates.length - (intOf iv).toNat)
 case atStart => exact ⟨0, Nat.zero_le _, rfl, by simp, HT.out⟩
 case round =>
  obtain ⟨k, hk, rfl, ht, hT⟩ := hrel
  have HA := zH ht
  have HT := zH hT
  clear ht hT
  by_cases hlt : k < h.dates.length
  ·obtain ⟨e0, e1, e2, e3, e4⟩ := cells5 (HB.out.step HT.out)
   go_wp2_with fail
   refine (size_any S h _ _ (HH0.out.keep (.of_step (HS.out.trans HT.out))) (okSec_valid HP.out.val)).mono ?_
   rintro e wn3 ⟨rfl, hSn⟩
   rw [HNZ.out]
   have HTn := zH (HT.out.trans hSn)
   clear hSn HT e0 e1 e2 e3 e4
   go_upto_region 7 with (fail)
   go_loopw [26] (fun iv w2 => ∃ j : Nat, j ≤ nz ∧ iv = .int .i64 j ∧ (List.range j).all (onePl W k) = true ∧ Step W0 w2) (fun iv _ => nz - (intOf iv).toNat)
   case atStart => exact ⟨0, Nat.zero_le _, rfl, by simp, HTn.out⟩
   case round =>
    obtain ⟨j, hj, rfl, ht, hT⟩ := hrel
    have HA2 := zH ht
    have HT := zH hT
    clear ht hT HTn
    by_cases hjt : j < nz
    ·obtain ⟨u0, u1⟩ : _ ∧ _ := ⟨(HB1.out.step HT.out).cell 0, (HB1.out.step HT.out).cell 1⟩
     simp only [zD, zE] at u0 u1
     have hcall := zH (places_any T W k j _ wr (HU0.out.keep (.of_step (HS.out.trans HT.out))) (HP.out.rows hlt (by have := HNZ.out; omega)) (fun k hk => HP.out.dst k hk) (by have := bounds_valid HP.out.val; have := HP.out.len; omega) HM.out)
     go_wp2_with fail
     refine hcall.out.mono ?_
     rintro e wn5 ⟨va, vm, rfl, hva, hvm, hSn⟩
     have HT5 := zH (HT.out.trans hSn)
     clear HT hSn hcall u0 u1
     obtain ⟨la, hla⟩ : ∃ n : Nat, n = (numsB (agsP W k j) W.books.length).length := ⟨_, rfl⟩
     obtain ⟨lm, hlm⟩ : ∃ n : Nat, n = (numsB (mgsP W k j) W.msgs.length).length := ⟨_, rfl⟩
     obtain ⟨pa, ka, ea⟩ := hva.form
     obtain ⟨pk, kk, ek⟩ := hvm.form
     rw [← hla] at ea
     rw [← hlm] at ek
     subst ea ek
     have hba : la ≤ 1000000 := by have := numsB_len (agsP W k j) W.books.length; have := bounds_valid HP.out.val; have := HP.out.len; omega
     have hbm : lm ≤ 1000000 := by have := numsB_len (mgsP W k j) W.msgs.length; have := HM.out; omega
     have HL := zH (And.intro hla hlm)
     clear hva hvm hla hlm
     by_cases q1 : la + lm = 1
     ·have d1 : ((la : Int) + (lm : Int) != 1) = false := by simp; omega
      have HN := zH (all_step HA2.out (show onePl W k j = true by unfold onePl; rw [← HL.out.1, ← HL.out.2]; simp [q1]))
      clear q1
      go_wp2
      go_roundw
      case rel => exact ⟨j + 1, by omega, by go_num, HN.out, HT5.out⟩
      case measure => simp [intOf]; omega
     ·have d1 : ((la : Int) + (lm : Int) != 1) = true := by rw [bne_iff_ne]; omega
      have HN := zH (show (List.range h.dates.length).all (oneRow h W) = false from all_bad hlt (by
       have : onePl W k j = false := by unfold onePl; rw [← HL.out.1, ← HL.out.2]; simp [q1]
       unfold oneRow
       rw [show (sizeL h.sectors).toNat = nz by rw [HNZ.out]; simp]
       exact all_bad hjt this))
      clear q1
      go_wp2
      go_ret
      exact ⟨by rw [HF.out, HN.out]; rfl, HS.out.trans HT5.out⟩
    ·have HN := zH (all_step HA.out (show oneRow h W k = true by
      unfold oneRow
      rw [show (sizeL h.sectors).toNat = nz by rw [HNZ.out]; simp]
      have e : j = nz := by omega
      rw [← e]; exact HA2.out))
     go_wp2
     go_roundw
     case rel => exact ⟨k + 1, by omega, by go_num, HN.out, HT.out⟩
     case measure => simp [intOf]; omega
  ·have HN := zH (show (List.range h.dates.length).all (oneRow h W) = true by
    have e : k = h.dates.length := by omega
    rw [← e]; exact HA.out)
   go_wp2
   go_ret
   exact ⟨by rw [HF.out, HN.out]; rfl, HS.out.trans HT.out⟩
theorem sentF_cnt : ∀ (l : List BT.Message) (f : Int → Option Int) (y : Int), ((l.foldl stepS f) y).getD 0 = (f y).getD 0 + ((l.filter fun m => decide (m.frm = y)).length : Int)
 | [], f, y => by simp
 | m :: l, f, y => by
  rw [List.foldl_cons, sentF_cnt l (stepS f m) y]
  unfold stepS
  by_cases e : m.frm = y
  ·subst e
   simp only [if_true, Option.getD_some, List.filter_cons, decide_true, List.length_cons]
   omega
  ·have e' : ¬ y = m.frm := fun h => e h.symm
   simp only [e', if_false, List.filter_cons, e, decide_false, Bool.false_eq_true]
theorem sentF_to (W : Wd) (k : Nat) (a : Int) : ((sentF (W.msgs.take k)) a).getD 0 = sentTo W a k := by
 have := sentF_cnt (W.msgs.take k) (fun _ => none) a
 simpa [sentF, sentTo] using this
theorem toF_to (x : Key) (a : Int) : ∀ (l : List BT.Message) (f : Key → Option Int), (∀ m ∈ l, keyOf m = x → m.dst = a) → ((∃ m ∈ l, keyOf m = x) ∨ f x = some a) → (l.foldl stepT f) x = some a
 | [], f, _, h => by simpa using h
 | m :: l, f, h1, h2 => by
  rw [List.foldl_cons]
  refine toF_to x a l (stepT f m) (fun m' hm' => h1 m' (List.mem_cons_of_mem _ hm')) ?_
  by_cases e : keyOf m = x
  ·right
   unfold stepT
   rw [if_pos e.symm, h1 m List.mem_cons_self e]
  ·rcases h2 with ⟨m', hm', he⟩ | h2
   ·rcases List.mem_cons.1 hm' with rfl | hm'
    ·exact absurd he e
    ·exact .inl ⟨m', hm', he⟩
   ·right
    unfold stepT
    rw [if_neg (fun h => e h.symm), h2]
def tentH : House := ⟨[⟨0, 2⟩, ⟨1, 3⟩], [50, 20], [10, 20], [[0, 5], [0, 5]], [[0, 0, 0, 0, 0], [0, 1, 0, 1, 1]]⟩
theorem Tent_any (w : World) : Calls Tryz.prog 31 #[] w fun e w' => ∃ v', e = .returned v' ∧ AV (Old w) w' v' tentH ∧ Step w w' := by
 go_enter Tryz.func31, Tryz.ntmps31
 go_wp2
 refine ret_struct (k := 5) (g := w.heap.size) (T' := 41) (cs := [.slice (some ⟨w.heap.size + 1, 0, none⟩) 2 2, .slice (some ⟨w.heap.size + 2, 0, none⟩) 2 2, .slice (some ⟨w.heap.size + 3, 0, none⟩) 2 2, .slice (some ⟨w.heap.size + 6, 0, none⟩) 2 2, .slice (some ⟨w.heap.size + 9, 0, none⟩) 2 2]) rfl siHouse rfl ?_ rfl rfl ⟨_, rfl, ⟨_, rfl, ⟨_, _, _, _, _, rfl, ?_, ?_, ?_, ?_, ?_⟩⟩, ?_⟩
 ·repeat (first | exact Bx.new _ _ _ | apply Bx.alloc)
 ·refine SL.bx (g := w.heap.size + 1) (T := 117) (cs := [.int .i64 0, .int .i64 2, .int .i64 1, .int .i64 3]) (l := tentH.sectors) ?_ (by unfold Old; omega) 2 (by decide) (by decide) (fun i hi => ?_)
  ·repeat (first | (with_reducible refine Bx.new' _ _ _ _ ?_; simp; done) | (with_reducible apply Bx.alloc))
  ·have hi2 : i = 0 ∨ i = 1 := by simp [tentH] at hi; omega
   rcases hi2 with rfl | rfl <;> rfl
 ·refine SL.bx_ints (g := w.heap.size + 2) (T := 3) (l := tentH.prices) ?_ (by unfold Old; omega) 2 (by decide) (by decide)
  show Bx _ _ [.int .i64 50, .int .i64 20] _
  repeat (first | (with_reducible refine Bx.new' _ _ _ _ ?_; simp; done) | (with_reducible apply Bx.alloc))
 ·refine SL.bx_ints (g := w.heap.size + 3) (T := 3) (l := tentH.dates) ?_ (by unfold Old; omega) 2 (by decide) (by decide)
  show Bx _ _ [.int .i64 10, .int .i64 20] _
  repeat (first | (with_reducible refine Bx.new' _ _ _ _ ?_; simp; done) | (with_reducible apply Bx.alloc))
 ·refine SL.bx (g := w.heap.size + 6) (T := 23) (cs := [.slice (some ⟨w.heap.size + 4, 0, none⟩) 2 2, .slice (some ⟨w.heap.size + 5, 0, none⟩) 2 2]) (l := tentH.frm) ?_ (by unfold Old; omega) 2 (by decide) (by decide) (fun i hi => ?_)
  ·repeat (first | (with_reducible refine Bx.new' _ _ _ _ ?_; simp; done) | (with_reducible apply Bx.alloc))
  ·have hi2 : i = 0 ∨ i = 1 := by simp [tentH] at hi; omega
   rcases hi2 with rfl | rfl
   ·refine ⟨_, rfl, SL.bx_ints (g := w.heap.size + 4) (T := 3) (l := [0, 5]) ?_ (by unfold Old; omega) 2 (by decide) (by decide)⟩
    show Bx _ _ [.int .i64 0, .int .i64 5] _
    repeat (first | (with_reducible refine Bx.new' _ _ _ _ ?_; simp; done) | (with_reducible apply Bx.alloc))
   ·refine ⟨_, rfl, SL.bx_ints (g := w.heap.size + 5) (T := 3) (l := [0, 5]) ?_ (by unfold Old; omega) 2 (by decide) (by decide)⟩
    show Bx _ _ [.int .i64 0, .int .i64 5] _
    repeat (first | (with_reducible refine Bx.new' _ _ _ _ ?_; simp; done) | (with_reducible apply Bx.alloc))
 ·refine SL.bx (g := w.heap.size + 9) (T := 23) (cs := [.slice (some ⟨w.heap.size + 7, 0, none⟩) 5 5, .slice (some ⟨w.heap.size + 8, 0, none⟩) 5 5]) (l := tentH.holds) ?_ (by unfold Old; omega) 2 (by decide) (by decide) (fun i hi => ?_)
  ·repeat (first | (with_reducible refine Bx.new' _ _ _ _ ?_; simp; done) | (with_reducible apply Bx.alloc))
  ·have hi2 : i = 0 ∨ i = 1 := by simp [tentH] at hi; omega
   rcases hi2 with rfl | rfl
   ·refine ⟨_, rfl, SL.bx_ints (g := w.heap.size + 7) (T := 3) (l := [0, 0, 0, 0, 0]) ?_ (by unfold Old; omega) 5 (by decide) (by decide)⟩
    show Bx _ _ [.int .i64 0, .int .i64 0, .int .i64 0, .int .i64 0, .int .i64 0] _
    repeat (first | (with_reducible refine Bx.new' _ _ _ _ ?_; simp; done) | (with_reducible apply Bx.alloc))
   ·refine ⟨_, rfl, SL.bx_ints (g := w.heap.size + 8) (T := 3) (l := [0, 1, 0, 1, 1]) ?_ (by unfold Old; omega) 5 (by decide) (by decide)⟩
    show Bx _ _ [.int .i64 0, .int .i64 1, .int .i64 0, .int .i64 1, .int .i64 1] _
    repeat (first | (with_reducible refine Bx.new' _ _ _ _ ?_; simp; done) | (with_reducible apply Bx.alloc))
 ·exact (by with_reducible repeat (first | assumption | exact Step.refl _ | apply Step.s_alloc | apply Step.s_drew | apply Step.s_drewN | refine Step.trans ?_ (by assumption)))
def tentB : Book := ⟨0, [[0, 0, 0, 0, 0], [0, -1, 0, -1, -1]], [false, false], 0, [], 0⟩
def tentC : Book := ⟨0, [[0, 0, 7, 0, 0], [0, -1, 0, -1, -1]], [false, false], 0, [], 20⟩
def tentD : Book := ⟨0, [[0, 0, 0, 0, 0], [0, -1, 7, -1, -1]], [true, false], 0, [], 20⟩
def tentE : Book := ⟨0, [[0, 0, 0, -1, -1], [0, -1, 0, -1, -1]], [false, false], 1, [], 0⟩
theorem tent_class : classR tentH 2 = (1, 0) := by kernel_rfl
theorem tent_open : openR tentH 0 = (tentB, 0) := by kernel_rfl
theorem tent_sell : actR (doneR tentH tentB (sellD tentH tentB 0 2 7 3)) = (tentC, 0) := by kernel_rfl
theorem tent_lose : gate tentH tentC (loseD tentH tentC 0 4) = .ok (tentD, [⟨2, 1, 2⟩]) := by kernel_rfl
theorem tent_give : gate tentH tentB (giveD tentH tentB 1 0 [3, 4]) = .ok (tentE, ⟨0, 1, 1, 0, [3, 4]⟩) := by kernel_rfl
def messB (a b : BT.Message) : Bool := decide (a = b)
theorem mess_ne {f1 f2 d1 d2 n1 n2 s1 s2 : Int} {l1 l2 : List Int} (h : f1 ≠ f2 ∨ d1 ≠ d2 ∨ n1 ≠ n2 ∨ s1 ≠ s2) : messB ⟨f1, d1, n1, s1, l1⟩ ⟨f2, d2, n2, s2, l2⟩ = false := by
 simp only [messB, decide_eq_false_iff_not, BT.Message.mk.injEq]
 rintro ⟨rfl, rfl, rfl, rfl, _⟩
 simp at h
theorem mess_eq {f1 d1 n1 s1 : Int} {l1 l2 : List Int} : messB ⟨f1, d1, n1, s1, l1⟩ ⟨f1, d1, n1, s1, l2⟩ = intsB l1 l2 := by
 simp [messB, intsB]
theorem message_core (S : Nat → Prop) (f1 f2 d1 d2 n1 n2 s1 s2 : Int) (l1 l2 : List Int) (v1 v2 : Value) (w : World) (hv : SL S w v1 l1) (hu : SL S w v2 l2) :
  Calls Tryz.prog 42 #[.agg #[.int .i64 f1, .int .i64 d1, .int .i64 n1, .int .i64 s1, v1], .agg #[.int .i64 f2, .int .i64 d2, .int .i64 n2, .int .i64 s2, v2]] w fun e w' => e = .returned (.bool (messB ⟨f1, d1, n1, s1, l1⟩ ⟨f2, d2, n2, s2, l2⟩)) ∧ Step w w' := by
 obtain ⟨p1, k1, rfl⟩ := hv.form
 obtain ⟨p2, k2, rfl⟩ := hu.form
 obtain ⟨W0, hW0⟩ : ∃ W0, W0 = (w.alloc (.cells #[.int .i64 f1, .int .i64 d1, .int .i64 n1, .int .i64 s1, .slice p1 l1.length k1] 86)).alloc (.cells #[.int .i64 f2, .int .i64 d2, .int .i64 n2, .int .i64 s2, .slice p2 l2.length k2] 58) := ⟨_, rfl⟩
 have hS : Step w W0 := by subst hW0; exact (by with_reducible repeat (first | assumption | exact Step.refl _ | apply Step.s_alloc | apply Step.s_drew | apply Step.s_drewN | refine Step.trans ?_ (by assumption)))
 have hcall := zH (ints_any S l1 l2 _ _ W0 (hv.keep (.of_step hS)) (hu.keep (.of_step hS)))
 have HS := zH hS
 clear hS hv hu
 by_cases q0 : f1 = f2
 rotate_left
 ·have HF := zH (mess_ne (f1 := f1) (f2 := f2) (d1 := d1) (d2 := d2) (n1 := n1) (n2 := n2) (s1 := s1) (s2 := s2) (l1 := l1) (l2 := l2) (.inl q0))
  clear hcall
  have HW := zH hW0
  clear hW0
  go_enter Tryz.func42, Tryz.ntmps42
  go_wp2
  go_ret
  exact ⟨by rw [HF.out]; rfl, by rw [HW.out] at HS; exact HS.out⟩
 subst q0
 by_cases q1 : d1 = d2
 rotate_left
 ·have HF := zH (mess_ne (f1 := f1) (f2 := f1) (d1 := d1) (d2 := d2) (n1 := n1) (n2 := n2) (s1 := s1) (s2 := s2) (l1 := l1) (l2 := l2) (.inr (.inl q1)))
  clear hcall
  have HW := zH hW0
  clear hW0
  go_enter Tryz.func42, Tryz.ntmps42
  go_wp2
  go_ret
  exact ⟨by rw [HF.out]; rfl, by rw [HW.out] at HS; exact HS.out⟩
 subst q1
 by_cases q2 : n1 = n2
 rotate_left
 ·have HF := zH (mess_ne (f1 := f1) (f2 := f1) (d1 := d1) (d2 := d1) (n1 := n1) (n2 := n2) (s1 := s1) (s2 := s2) (l1 := l1) (l2 := l2) (.inr (.inr (.inl q2))))
  clear hcall
  have HW := zH hW0
  clear hW0
  go_enter Tryz.func42, Tryz.ntmps42
  go_wp2
  go_ret
  exact ⟨by rw [HF.out]; rfl, by rw [HW.out] at HS; exact HS.out⟩
 subst q2
 by_cases q3 : s1 = s2
 rotate_left
 ·have HF := zH (mess_ne (f1 := f1) (f2 := f1) (d1 := d1) (d2 := d1) (n1 := n1) (n2 := n1) (s1 := s1) (s2 := s2) (l1 := l1) (l2 := l2) (.inr (.inr (.inr q3))))
  clear hcall
  have HW := zH hW0
  clear hW0
  go_enter Tryz.func42, Tryz.ntmps42
  go_wp2
  go_ret
  exact ⟨by rw [HF.out]; rfl, by rw [HW.out] at HS; exact HS.out⟩
 subst q3
 have HF := zH (mess_eq (f1 := f1) (d1 := d1) (n1 := n1) (s1 := s1) (l1 := l1) (l2 := l2))
 subst hW0
 go_enter Tryz.func42, Tryz.ntmps42
 go_wp2_with fail
 refine hcall.out.mono ?_
 rintro e wn ⟨rfl, hSn⟩
 go_wp2
 go_ret
 exact ⟨by rw [HF.out]; rfl, HS.out.trans hSn⟩
theorem message_any (S : Nat → Prop) (a b : BT.Message) (va vb : Value) (w : World) (ha : AV S w va a) (hb : AV S w vb b) :
  Calls Tryz.prog 42 #[va, vb] w fun e w' => e = .returned (.bool (messB a b)) ∧ Step w w' := by
 obtain ⟨c, rfl, h1⟩ := ha.message
 obtain ⟨d, rfl, h2⟩ := hb.message
 exact message_core S _ _ _ _ _ _ _ _ _ _ _ _ _ h1 h2
theorem tentB_av {S : Nat → Prop} {w : World} {v : Value} (h : AV S w v tentB) : ∃ p1 c1 bb oo v1 p2 c2 p4 c4, v = .agg #[.int .i64 0, .slice (some ⟨bb, oo, none⟩) 2 c1, .slice p2 2 c2, .int .i64 0, .slice p4 0 c4, .int .i64 0] ∧ w.cell? ⟨bb, oo + 1, none⟩ = some (.slice p1 5 v1) ∧ SL S w (.slice p1 5 v1) [0, -1, 0, -1, -1] ∧ AV S w v tentB := by
 obtain ⟨d1, d2, d4, hv, s1, s2, s4⟩ := h.book
 obtain ⟨p1, k1, bb, oo, rfl, _, _, hp, hc, _⟩ := s1.rows
 obtain ⟨p2, k2, rfl⟩ := s2.form
 obtain ⟨p4, k4, rfl⟩ := s4.form
 obtain rfl := hp (by decide)
 obtain ⟨u, hu, hu2⟩ := hc 1 (by decide)
 obtain ⟨pu, cu, rfl⟩ := hu2.form
 exact ⟨pu, k1, bb, oo, cu, p2, k2, p4, k4, hv, hu, hu2, h⟩
theorem _root_.Go.BT.SL.moves {S : Nat → Prop} {w : World} {v : Value} {l : List BT.Move} (h : SL S w v l) :
  ∃ p c b o, v = .slice p l.length c ∧ l.length ≤ c ∧ l.length ≤ 9223372036854775807 ∧ (0 < l.length → p = some ⟨b, o, none⟩) ∧
   (∀ i (h : i < l.length), w.cell? ⟨b, o + i * 3, none⟩ = some (.int .i64 l[i].seat) ∧ w.cell? ⟨b, o + i * 3 + 1, none⟩ = some (.int .i64 l[i].shw) ∧ w.cell? ⟨b, o + i * 3 + 2, none⟩ = some (.int .i64 l[i].at_)) ∧ (0 < l.length → b < w.heap.size ∧ ¬ S b) := by
 obtain ⟨p, c, b, o, hv, hc, hm, hp, ha⟩ := h
 refine ⟨p, c, b, o, hv, hc, hm, hp, fun i hi => ?_, fun h0 => ⟨(ha 0 h0).1, (ha 0 h0).2.1⟩⟩
 obtain ⟨_, _, cs, hr, hcs⟩ := ha i hi
 have hr' : cs = [.int .i64 l[i].seat, .int .i64 l[i].shw, .int .i64 l[i].at_] := hr
 subst hr'
 exact ⟨hcs 0 _ rfl, hcs 1 _ rfl, hcs 2 _ rfl⟩
theorem AV.triv {α : Type} [Rep α] {S : Nat → Prop} {w : World} {v : Value} {x : α} (h : AV S w v x) : AV (fun _ => False) w v x := h.weak fun _ _ h => h.elim
theorem AV.later {α : Type} [Rep α] {S : Nat → Prop} {W w1 w' : World} {v : Value} {x : α} (h : AV (Old W) w1 v x) (hs : ∀ j, j < w1.heap.size → S j → j < W.heap.size) (hk : Keeps S w1 w') : AV S w' v x :=
 (h.weak hs).keep hk
theorem awake_any (w : World) : Calls Tryz.prog 10 #[] w fun e w' => e = .returned (.bool true) ∧ Step w w' := by
 go_enter Tryz.func10, Tryz.ntmps10
 have HT := zH (Step.refl w)
 go_wp2_with fail
 refine (Tent_any _).mono ?_
 rintro e wn ⟨v1, rfl, hv1, hSn⟩
 have HTi := zH (HT.out.trans hSn)
 clear hSn HT
 have HT := HTi
 clear HTi
 go_wp2_with fail
 refine (Class_any _ tentH 2 _ _ hv1).mono ?_
 rintro e wn ⟨rfl, hSn⟩
 have HTi := zH (HT.out.trans hSn)
 clear hSn HT
 have HT := HTi
 clear HTi
 rw [tent_class]
 clear hv1
 go_wp2_with fail
 refine (Tent_any _).mono ?_
 rintro e wn ⟨v1, rfl, hv1, hSn⟩
 have HTi := zH (HT.out.trans hSn)
 clear hSn HT
 have HT := HTi
 clear HTi
 go_wp2_with fail
 refine (Open_any _ tentH 0 _ _ hv1).mono ?_
 rintro e wn ⟨v2, rfl, hv2, hSn⟩
 have HTi := zH (HT.out.trans hSn)
 clear hSn HT
 have HT := HTi
 clear HTi
 rw [tent_open] at hv2 ⊢
 dsimp only at hv2
 clear hv1
 obtain ⟨p1, c1, bb, oo, k1, p2, c2, p4, c4, rfl, g1, g2, hb⟩ := tentB_av hv2
 have HG := zH (And.intro g1 (And.intro g2 hb))
 clear g1 g2 hb hv2
 go_upto_region 3 with (fail)
 have hbB := Bx.new wn [.int .i64 0, .slice (some ⟨bb, oo, none⟩) 2 c1, .slice p2 2 c2, .int .i64 0, .slice p4 0 c4, .int .i64 0] 77
 have hST := HT.out.trans (Step.alloc wn (.cells #[.int .i64 0, .slice (some ⟨bb, oo, none⟩) 2 c1, .slice p2 2 c2, .int .i64 0, .slice p4 0 c4, .int .i64 0] 77))
 have hav := AV.triv (HG.out.2.2.keep (.of_step (Step.alloc wn (.cells #[.int .i64 0, .slice (some ⟨bb, oo, none⟩) 2 c1, .slice p2 2 c2, .int .i64 0, .slice p4 0 c4, .int .i64 0] 77))))
 have hsl := SL.weak (T := fun _ => False) (fun _ _ h => h.elim) (HG.out.2.1.keep (.of_step (Step.alloc wn (.cells #[.int .i64 0, .slice (some ⟨bb, oo, none⟩) 2 c1, .slice p2 2 c2, .int .i64 0, .slice p4 0 c4, .int .i64 0] 77))))
 have g1 := (Step.alloc wn (.cells #[.int .i64 0, .slice (some ⟨bb, oo, none⟩) 2 c1, .slice p2 2 c2, .int .i64 0, .slice p4 0 c4, .int .i64 0] 77)).kc HG.out.1
 clear HG HT
 generalize wn.alloc (.cells #[.int .i64 0, .slice (some ⟨bb, oo, none⟩) 2 c1, .slice p2 2 c2, .int .i64 0, .slice p4 0 c4, .int .i64 0] 77) = W0 at *
 generalize wn.heap.size = gB at *
 have HT := zH hST
 have HB := zH hbB
 have HAB := zH hav
 have HSL := zH hsl
 obtain ⟨f0, f1, f2, f3, f4, f5⟩ := cells6 HB.out
 have hix : (0 : Int) ≤ 1 ∧ (1 : Int) < 2 := by omega
 clear hST hbB hav hsl
 go_wp2_with fail
 refine (ints_any _ [0, -1, 0, -1, -1] [0, -1, 0, -1, -1] _ _ _ (HSL.out.keep (.alloc _ _)) (SL.bx_ints (l := [0, -1, 0, -1, -1]) (Bx.new _ _ _) (fun h => h) 5 (by decide) (by decide))).mono ?_
 rintro e wm ⟨rfl, hSm⟩
 rw [show intsB [0, -1, 0, -1, -1] [0, -1, 0, -1, -1] = true from by decide]
 have HTi := zH ((HT.out.trans (Step.alloc _ _)).trans hSm)
 have HTB := zH ((Step.alloc _ _).trans hSm)
 clear hSm
 have HZM := zH (show w.heap.size ≤ wm.heap.size ∧ W0.heap.size ≤ wm.heap.size from ⟨HTi.out.size, HTB.out.size⟩)
 clear HT f0 f1 f2 f3 f4 f5 g1 HSL
 have HT := HTi
 clear HTi
 go_upto_region 5 with (fail)
 clear hix
 refine wp_region_seqM (fun c d v a w h => by cases d <;> exact h) (kdOf [0, 2] [(6, 77, .agg #[.int .i64 0, .slice none 0 0, .slice none 0 0, .int .i64 0, .slice none 0 0, .int .i64 0])]) [0, 0, 3, 7, 15, 15, 0, 95, 255] [1, 0, 2, 3, 4, 5, 6] [7, 8] (by kernel_rfl) (by kernel_rfl) (fun i T z hi hk => by simp only [List.mem_cons, List.not_mem_nil, or_false] at hi; rcases hi with rfl | rfl | rfl | rfl | rfl | rfl | rfl <;> simp [kdOf] at hk <;> (obtain ⟨rfl, rfl⟩ := hk; first | (show Option.bind _ _ = some _; kernel_rfl) | (refine ⟨_, rfl, fun _ _ => ?_⟩; go_simp))) ?_
 intro Wx hWx
 have HTx := zH (HT.out.trans hWx)
 have HTBx := zH (HTB.out.trans hWx)
 clear hWx HT HTB
 have HT := HTx
 have HTB := HTBx
 clear HTx HTBx
 obtain ⟨f0, f1, f2, f3, f4, f5⟩ := cells6 (HB.out.step HTB.out)
 repeat ((first | (refine run_off rfl rfl (by rfl) ?_) | (refine run_chain_off rfl rfl (by rfl) (K0_mono _) ?_) | ((refine run_want rfl rfl (by rfl) ⟨?_, fun W hW => ?_, ?_⟩; rotate_left; (· (have d0 := hW.kc f0; have d1 := hW.kc f1; have d2 := hW.kc f2; have d3 := hW.kc f3; have d4 := hW.kc f4; have d5 := hW.kc f5; go_simp; (try with_reducible rfl)))))); (try simp only [Act.put, zA, zB, zC]))
 clear f0 f1 f2 f3 f4 f5
 refine run_chain rfl rfl (by rfl) (fun Wi hWi K' hK => ?_)
 have HTi := zH (HT.out.trans hWi)
 have HTBi := zH (HTB.out.trans hWi)
 clear hWi HT HTB
 go_simp
 refine (Tent_any _).mono ?_
 rintro e w5 ⟨v5, rfl, hv5, hS5⟩
 have HV5 := zH (AV.triv hv5)
 have HT := zH (HTi.out.trans hS5)
 have HTB := zH (HTBi.out.trans hS5)
 clear hv5 HTi HTBi
 refine hK _ _ hS5 ?_
 clear hS5 hK
 (try simp only [Act.put, zA, zB, zC])
 repeat ((first | (refine run_off rfl rfl (by rfl) ?_) | (refine run_chain_off rfl rfl (by rfl) (K0_mono _) ?_) | ((refine run_want rfl rfl (by rfl) ⟨?_, fun W hW => ?_, ?_⟩; rotate_left; (· (skip; go_simp; (try with_reducible rfl)))))); (try simp only [Act.put, zA, zB, zC]))
 refine run_chain rfl rfl (by rfl) (fun Wi hWi K' hK => ?_)
 have HTi := zH (HT.out.trans hWi)
 have HTBi := zH (HTB.out.trans hWi)
 have HV6 := zH (HV5.out.keep (.of_step hWi))
 clear hWi HT HTB HV5
 go_simp
 refine (Sell_any _ tentH tentB _ _ 0 2 7 3 _ HV6.out (HAB.out.keep (.of_step HTBi.out))).mono ?_
 rintro e w6 ⟨v6, rfl, hv6, hS6⟩
 rw [tent_sell] at hv6 ⊢
 dsimp only at hv6
 obtain ⟨x1, x2, x4, rfl, s1, s2, s4⟩ := hv6.book
 obtain ⟨q1, m1, rfl⟩ := s1.form
 obtain ⟨q2, m2, rfl⟩ := s2.form
 obtain ⟨q4, m4, rfl⟩ := s4.form
 have HV6 := zH hv6
 have HT := zH (HTi.out.trans hS6)
 have HTB := zH (HTBi.out.trans hS6)
 clear s1 s2 s4 hv6 HTi HTBi
 refine hK _ _ hS6 ?_
 clear hS6 hK
 (try simp only [Act.put, zA, zB, zC])
 repeat ((first | (refine run_off rfl rfl (by rfl) ?_) | (refine run_chain_off rfl rfl (by rfl) (K0_mono _) ?_) | ((refine run_want rfl rfl (by rfl) ⟨?_, fun W hW => ?_, ?_⟩; rotate_left; (· (skip; go_simp; (try with_reducible rfl)))))); (try simp only [Act.put, zA, zB, zC]))
 refine run_alloc rfl rfl (fun W5 g hW5 hg hgb hgN => ?_)
 (try simp only [Act.put, zA, zB, zC])
 refine run_end (L := [_, _]) rfl (fun W6 hW6 => ?_)
 have hb6 := Bx.step (w := W5) (cs := [_, _, _, _, _, _]) hg hW6
 refine wpl_store (v := .agg #[.int .i64 tentC.agency, .slice q1 tentC.seats.length m1, .slice q2 tentC.off.length m2, .int .i64 tentC.sent, .slice q4 tentC.took.length m4, .int .i64 tentC.cash]) rfl _ _ _ rfl rfl rfl hb6 (by kernel_rfl) (by simp [Value.cells]) (by simp [Value.cells, Value.oneCell']) [.int .i64 tentC.agency, .slice q1 tentC.seats.length m1, .slice q2 tentC.off.length m2, .int .i64 tentC.sent, .slice q4 tentC.took.length m4, .int .i64 tentC.cash] rfl (fun w7 hb7 hw7 => ?_)
 have hg0 := HZM.out
 have HVC := zH (AV.triv (AV.later (S := fun j => j = g) (w' := w7) HV6.out (fun j hj hs => by omega) ((Keeps.of_step (hW5.trans hW6)).trans (.wrote hw7 rfl))))
 have HTx := zH (Step.wrote ((HT.out.trans hW5).trans hW6) hw7 (by omega))
 have HTBx := zH (Step.wrote ((HTB.out.trans hW5).trans hW6) hw7 (by omega))
 have HC := zH hb7
 have HZM7 := zH (show w.heap.size ≤ w7.heap.size ∧ W0.heap.size ≤ w7.heap.size by have := hb7.lt; omega)
 clear hW5 hg hgb hgN hW6 hb6 hb7 hw7 HV6 HT HTB hg0 HZM
 have HT := HTx
 have HTB := HTBx
 clear HTx HTBx
 go_upto_region 6 with (fail)
 refine wp_region_seqM (fun c d v a w h => by cases d <;> exact h) (kdOf [0, 2] [(7, 77, .agg #[.int .i64 0, .slice none 0 0, .slice none 0 0, .int .i64 0, .slice none 0 0, .int .i64 0])]) [0, 0, 3, 7, 15, 15, 15, 0, 159, 447, 1023] [1, 0, 2, 3, 4, 5, 6, 7] [8, 9, 10] (by kernel_rfl) (by kernel_rfl) (fun i T z hi hk => by simp only [List.mem_cons, List.not_mem_nil, or_false] at hi; rcases hi with rfl | rfl | rfl | rfl | rfl | rfl | rfl | rfl <;> simp [kdOf] at hk <;> (obtain ⟨rfl, rfl⟩ := hk; first | (show Option.bind _ _ = some _; kernel_rfl) | (refine ⟨_, rfl, fun _ _ => ?_⟩; go_simp))) ?_
 intro Wx hWx
 have HTx := zH (HT.out.trans hWx)
 have HTBx := zH (HTB.out.trans hWx)
 have HWX := zH hWx
 clear hWx HT HTB
 have HT := HTx
 have HTB := HTBx
 clear HTx HTBx
 obtain ⟨f0, f1, f2, f3, f4, f5⟩ := cells6 (HC.out.step HWX.out)
 repeat ((first | (refine run_off rfl rfl (by rfl) ?_) | (refine run_chain_off rfl rfl (by rfl) (K0_mono _) ?_) | ((refine run_want rfl rfl (by rfl) ⟨?_, fun W hW => ?_, ?_⟩; rotate_left; (· (have d0 := hW.kc f0; have d1 := hW.kc f1; have d2 := hW.kc f2; have d3 := hW.kc f3; have d4 := hW.kc f4; have d5 := hW.kc f5; go_simp; (try with_reducible rfl)))))); (try simp only [Act.put, zA, zB, zC]))
 clear f0 f1 f2 f3 f4 f5
 have HVC6 := zH (HVC.out.keep (.of_step HWX.out))
 have HTC := zH (Step.refl Wx)
 refine run_chain rfl rfl (by rfl) (fun Wi hWi K' hK => ?_)
 have HTi := zH (HT.out.trans hWi)
 have HTCi := zH (HTC.out.trans hWi)
 have HTBi := zH (HTB.out.trans hWi)
 clear hWi HT HTB HTC
 go_simp
 refine (Tent_any _).mono ?_
 rintro e w8 ⟨v8, rfl, hv5, hS5⟩
 have HV5 := zH (AV.triv hv5)
 have HT := zH (HTi.out.trans hS5)
 have HTB := zH (HTBi.out.trans hS5)
 have HTC := zH (HTCi.out.trans hS5)
 clear hv5 HTi HTBi HTCi
 refine hK _ _ hS5 ?_
 clear hS5 hK
 (try simp only [Act.put, zA, zB, zC])
 repeat ((first | (refine run_off rfl rfl (by rfl) ?_) | (refine run_chain_off rfl rfl (by rfl) (K0_mono _) ?_) | ((refine run_want rfl rfl (by rfl) ⟨?_, fun W hW => ?_, ?_⟩; rotate_left; (· (skip; go_simp; (try with_reducible rfl)))))); (try simp only [Act.put, zA, zB, zC]))
 refine run_chain rfl rfl (by rfl) (fun Wi hWi K' hK => ?_)
 have HTi := zH (HT.out.trans hWi)
 have HTBi := zH (HTB.out.trans hWi)
 have HTCi := zH (HTC.out.trans hWi)
 have HV6 := zH (HV5.out.keep (.of_step hWi))
 clear hWi HT HTB HV5 HTC
 go_simp
 refine (Lose_any _ tentH tentC _ _ 0 4 _ HV6.out (HVC6.out.keep (.of_step HTCi.out))).mono ?_
 rintro e w9 ⟨v9, l9, rfl, hv6, hl9, hS6⟩
 rw [tent_lose] at hv6 hl9 ⊢
 dsimp only [bookOf, actR, restOf] at hv6 hl9
 simp only [bookOf, actR]
 obtain ⟨x1, x2, x4, rfl, s1, s2, s4⟩ := hv6.book
 obtain ⟨q1', m1', rfl⟩ := s1.form
 obtain ⟨q2', m2', rfl⟩ := s2.form
 obtain ⟨q4', m4', rfl⟩ := s4.form
 obtain ⟨pl, cl, bl, ol, rfl, _, _, hpl, hcl, hbl⟩ := hl9.moves
 obtain rfl := hpl (by decide)
 have hcl := hcl 0 (by decide)
 have hbl := hbl (by decide)
 have HCL := zH (And.intro hcl hbl)
 have HT := zH (HTi.out.trans hS6)
 have HTB := zH (HTBi.out.trans hS6)
 have HTC := zH (HTCi.out.trans hS6)
 clear s1 s2 s4 hv6 HTi HTBi HTCi hcl hbl hpl hl9
 refine hK _ _ hS6 ?_
 clear hS6 hK
 (try simp only [Act.put, zA, zB, zC])
 repeat ((first | (refine run_off rfl rfl (by rfl) ?_) | (refine run_chain_off rfl rfl (by rfl) (K0_mono _) ?_) | ((refine run_want rfl rfl (by rfl) ⟨?_, fun W hW => ?_, ?_⟩; rotate_left; (· (skip; go_simp; (try with_reducible rfl)))))); (try simp only [Act.put, zA, zB, zC]))
 refine run_alloc rfl rfl (fun W5 g2 hW5 hg hgb hgN => ?_)
 (try simp only [Act.put, zA, zB, zC])
 refine run_end (L := [_, _, _]) rfl (fun W6 hW6 => ?_)
 have hb6 := Bx.step (w := W5) (cs := [_, _, _, _, _, _]) hg hW6
 refine wpl_store (v := .agg #[.int .i64 tentD.agency, .slice q1' tentD.seats.length m1', .slice q2' tentD.off.length m2', .int .i64 tentD.sent, .slice q4' tentD.took.length m4', .int .i64 tentD.cash]) rfl _ _ _ rfl rfl rfl hb6 (by kernel_rfl) (by simp [Value.cells]) (by simp [Value.cells, Value.oneCell']) [.int .i64 tentD.agency, .slice q1' tentD.seats.length m1', .slice q2' tentD.off.length m2', .int .i64 tentD.sent, .slice q4' tentD.took.length m4', .int .i64 tentD.cash] rfl (fun w10 hb10 hw10 => ?_)
 have hg0 := HZM7.out
 have hcl := HCL.out.1
 have hbl := HCL.out.2
 have hk10 : Keeps (fun j => j = g2) w9 w10 := (Keeps.of_step (hW5.trans hW6)).trans (.wrote hw10 rfl)
 have hne : ¬ bl = g2 := by
  have h1 := hbl.1
  have h2 := hbl.2
  unfold Old at h2
  intro e
  rw [e] at h1 h2
  omega
 have HM := zH (And.intro (hk10.cell hne hcl.1) (And.intro (hk10.cell hne hcl.2.1) (hk10.cell hne hcl.2.2)))
 have hgC : g ≠ g2 := by have := HC.out.lt; omega
 have HTx := zH (Step.wrote ((HT.out.trans hW5).trans hW6) hw10 (by omega))
 have HTBx := zH (Step.wrote ((HTB.out.trans hW5).trans hW6) hw10 (by omega))
 have HTCx := zH (HC.out.keep ((Keeps.of_step ((HWX.out.trans HTC.out).trans (hW5.trans hW6))).trans (.wrote hw10 (S := fun j => j = g2) rfl)) hgC)
 have HD := zH hb10
 have HZM10 := zH (show w.heap.size ≤ w10.heap.size ∧ W0.heap.size ≤ w10.heap.size by have := hb10.lt; omega)
 clear hW5 hg hgb hgN hW6 hb6 hb10 hw10 HV6 HT HTB hg0 hcl hbl hk10 hne hgC HCL HC HTC HWX HVC HVC6
 have HT := HTx
 have HTB := HTBx
 have HC := HTCx
 clear HTx HTBx HTCx
 go_upto_region 7 with (fail)
 refine wp_region_seqM (fun c d v a w h => by cases d <;> exact h) (kdOf [0, 3] [(2, 3, .tuple #[.int IntKind.i64 3, .int IntKind.i64 4]), (8, 77, .agg #[.int .i64 0, .slice none 0 0, .slice none 0 0, .int .i64 0, .slice none 0 0, .int .i64 0]), (9, 86, .agg #[.int .i64 0, .int .i64 0, .int .i64 0, .int .i64 0, .slice none 0 0])]) [0, 0, 0, 7, 15, 31, 31, 31, 0, 0, 831, 1919, 4095] [1, 0, 2, 3, 4, 5, 6, 7, 8, 9] [10, 11, 12] (by kernel_rfl) (by kernel_rfl) (fun i T z hi hk => by simp only [List.mem_cons, List.not_mem_nil, or_false] at hi; rcases hi with rfl | rfl | rfl | rfl | rfl | rfl | rfl | rfl | rfl | rfl <;> simp [kdOf] at hk <;> (obtain ⟨rfl, rfl⟩ := hk; first | (show Option.bind _ _ = some _; kernel_rfl) | (refine ⟨_, rfl, fun _ _ => ?_⟩; go_simp))) ?_
 intro Wx hWx
 have HTx := zH (HT.out.trans hWx)
 have HTBx := zH (HTB.out.trans hWx)
 have HTX := zH hWx
 clear hWx HT HTB
 have HT := HTx
 have HTB := HTBx
 clear HTx HTBx
 obtain ⟨f0, f1, f2, f3, f4, f5⟩ := cells6 (HB.out.step HTB.out)
 repeat ((first | (refine run_off rfl rfl (by rfl) ?_) | (refine run_chain_off rfl rfl (by rfl) (K0_mono _) ?_) | ((refine run_want rfl rfl (by rfl) ⟨?_, fun W hW => ?_, ?_⟩; rotate_left; (· (have d0 := hW.kc f0; have d1 := hW.kc f1; have d2 := hW.kc f2; have d3 := hW.kc f3; have d4 := hW.kc f4; have d5 := hW.kc f5; go_simp; (try with_reducible rfl)))))); (try simp only [Act.put, zA, zB, zC]))
 clear f0 f1 f2 f3 f4 f5
 refine run_chain rfl rfl (by rfl) (fun Wi hWi K' hK => ?_)
 have HTi := zH (HT.out.trans hWi)
 have HTBi := zH (HTB.out.trans hWi)
 have HTXi := zH (HTX.out.trans hWi)
 clear hWi HT HTB HTX
 go_simp
 refine (Tent_any _).mono ?_
 rintro e w11 ⟨v11, rfl, hv5, hS5⟩
 have HV5 := zH (AV.triv hv5)
 have HT := zH (HTi.out.trans hS5)
 have HTB := zH (HTBi.out.trans hS5)
 have HTX := zH (HTXi.out.trans hS5)
 clear hv5 HTi HTBi HTXi
 refine hK _ _ hS5 ?_
 clear hS5 hK
 (try simp only [Act.put, zA, zB, zC])
 repeat ((first | (refine run_off rfl rfl (by rfl) ?_) | (refine run_chain_off rfl rfl (by rfl) (K0_mono _) ?_) | ((refine run_want rfl rfl (by rfl) ⟨?_, fun W hW => ?_, ?_⟩; rotate_left; (· (skip; go_simp; (try with_reducible rfl)))))); (try simp only [Act.put, zA, zB, zC]))
 refine run_consts rfl rfl (fun Wk gS hWk hgS hgSb hgSN => ?_)
 have HSL := zH (SL.bx_ints (S := fun _ => False) (l := [3, 4]) (show Bx Wk gS [.int .i64 3, .int .i64 4] 3 from hgS) (fun h => h) 2 (by decide) (by decide))
 have HTi := zH (HT.out.trans hWk)
 have HTBi := zH (HTB.out.trans hWk)
 have HTXi := zH (HTX.out.trans hWk)
 have HV6 := zH (HV5.out.keep (.of_step hWk))
 clear hWk hgS hgSb hgSN HT HTB HTX HV5
 (try simp only [Act.put, zA, zB, zC])
 repeat ((first | (refine run_off rfl rfl (by rfl) ?_) | (refine run_chain_off rfl rfl (by rfl) (K0_mono _) ?_) | ((refine run_want rfl rfl (by rfl) ⟨?_, fun W hW => ?_, ?_⟩; rotate_left; (· (skip; go_simp; (try with_reducible rfl)))))); (try simp only [Act.put, zA, zB, zC]))
 refine run_chain rfl rfl (by rfl) (fun Wi hWi K' hK => ?_)
 have HT := zH (HTi.out.trans hWi)
 have HTB := zH (HTBi.out.trans hWi)
 have HTX := zH (HTXi.out.trans hWi)
 have HV7 := zH (HV6.out.keep (.of_step hWi))
 have HSL2 := zH (HSL.out.keep (.of_step hWi))
 clear hWi HTi HTBi HTXi HV6 HSL
 go_simp
 refine (Give_any _ _ tentH tentB _ _ _ 1 0 [3, 4] _ HV7.out (HAB.out.keep (.of_step HTB.out)) HSL2.out (by decide)).mono ?_
 rintro e w12 ⟨v12, m12, rfl, hv6, hm6, hS6⟩
 rw [tent_give] at hv6 hm6 ⊢
 dsimp only [bookOf, actR, restOf] at hv6 hm6
 simp only [bookOf, actR]
 obtain ⟨x1, x2, x4, rfl, s1, s2, s4⟩ := hv6.book
 obtain ⟨q1x, m1x, rfl⟩ := s1.form
 obtain ⟨q2x, m2x, rfl⟩ := s2.form
 obtain ⟨q4x, m4x, rfl⟩ := s4.form
 obtain ⟨y4, rfl, t4⟩ := hm6.message
 obtain ⟨qm, km, rfl⟩ := t4.form
 have HMM := zH hm6
 have HTi := zH (HT.out.trans hS6)
 have HTBi := zH (HTB.out.trans hS6)
 have HTXi := zH (HTX.out.trans hS6)
 clear s1 s2 s4 t4 hv6 hm6 HT HTB HTX
 refine hK _ _ hS6 ?_
 clear hS6 hK
 (try simp only [Act.put, zA, zB, zC])
 repeat ((first | (refine run_off rfl rfl (by rfl) ?_) | (refine run_chain_off rfl rfl (by rfl) (K0_mono _) ?_) | ((refine run_want rfl rfl (by rfl) ⟨?_, fun W hW => ?_, ?_⟩; rotate_left; (· (skip; go_simp; (try with_reducible rfl)))))); (try simp only [Act.put, zA, zB, zC]))
 refine run_alloc rfl rfl (fun W5 g3 hW5 hg hgb hgN => ?_)
 (try simp only [Act.put, zA, zB, zC])
 refine run_alloc rfl rfl (fun W6 g4 hW6 hg' hgb' hgN' => ?_)
 (try simp only [Act.put, zA, zB, zC])
 refine run_end (L := [_, _, _]) rfl (fun W7 hW7 => ?_)
 have hb3 : Bx W7 g3 [_, _, _, _, _, _] 77 := Bx.step (w := W5) (cs := [_, _, _, _, _, _]) hg (hW6.trans hW7)
 have hb4 : Bx W7 g4 [_, _, _, _, _] 86 := Bx.step (w := W6) (cs := [_, _, _, _, _]) hg' hW7
 refine wpl_store (v := .agg #[.int .i64 tentE.agency, .slice q1x tentE.seats.length m1x, .slice q2x tentE.off.length m2x, .int .i64 tentE.sent, .slice q4x tentE.took.length m4x, .int .i64 tentE.cash]) rfl _ _ _ rfl rfl rfl hb3 (by kernel_rfl) (by simp [Value.cells]) (by simp [Value.cells, Value.oneCell']) [.int .i64 tentE.agency, .slice q1x tentE.seats.length m1x, .slice q2x tentE.off.length m2x, .int .i64 tentE.sent, .slice q4x tentE.took.length m4x, .int .i64 tentE.cash] rfl (fun w13 hb13 hw13 => ?_)
 have hne : g4 ≠ g3 := hgN'.2
 have hb4' := hb4.keep hw13.keeps hne
 refine wpl_store (v := .agg #[.int .i64 0, .int .i64 1, .int .i64 1, .int .i64 0, .slice qm 2 km]) rfl _ _ _ rfl rfl rfl hb4' (by kernel_rfl) (by simp [Value.cells]) (by simp [Value.cells, Value.oneCell']) [.int .i64 0, .int .i64 1, .int .i64 1, .int .i64 0, .slice qm 2 km] rfl (fun w14 hb14 hw14 => ?_)
 have hk14 : Keeps (fun j => j = g3 ∨ j = g4) w12 w14 := ((Keeps.of_step ((hW5.trans hW6).trans hW7)).trans (.wrote hw13 (.inl rfl))).trans (.wrote hw14 (.inr rfl))
 have hm14 := zH (AV.triv (AV.later (S := fun j => j = g3 ∨ j = g4) (w' := w14) HMM.out (fun j hj hs => by omega) hk14))
 have hg0 := HZM10.out
 have HTx := zH (Step.wrote (Step.wrote (((HTi.out.trans hW5).trans hW6).trans hW7) hw13 (by omega)) hw14 (by omega))
 have hX10 : Keeps (fun j => j = g3 ∨ j = g4) w10 w14 := (Keeps.of_step HTXi.out).trans hk14
 have hc5 := (HC.out.keep hX10 (by have := HC.out.lt; omega)).cell 5
 have hd5 := (HD.out.keep hX10 (by have := HD.out.lt; omega)).cell 5
 have hbl : bl < w10.heap.size := World.block_lt_of_cell? w10 ⟨bl, _, none⟩ HM.out.1
 have m0 := hX10.cell (by show ¬ (bl = g3 ∨ bl = g4); omega) HM.out.1
 have m1 := hX10.cell (by show ¬ (bl = g3 ∨ bl = g4); omega) HM.out.2.1
 have m2 := hX10.cell (by show ¬ (bl = g3 ∨ bl = g4); omega) HM.out.2.2
 obtain ⟨e0, e1, e2, e3, e4⟩ := cells5 hb14
 change w14.cell? ⟨g, 5, none⟩ = some (.int .i64 20) at hc5
 change w14.cell? ⟨g2, 5, none⟩ = some (.int .i64 20) at hd5
 change w14.cell? ⟨bl, ol, none⟩ = some (.int .i64 2) at m0
 change w14.cell? ⟨bl, ol + 1, none⟩ = some (.int .i64 1) at m1
 change w14.cell? ⟨bl, ol + 2, none⟩ = some (.int .i64 2) at m2
 have hmv : ∀ w, (binOp .eql 97 (.agg #[.int .i64 2, .int .i64 1, .int .i64 2]) (.agg #[.int .i64 2, .int .i64 1, .int .i64 2])).run Tryz.prog w = .ok (.bool true) w := fun _ => by kernel_rfl
 have hix0 : (0 : Int) ≤ 0 ∧ (0 : Int) < 1 := by omega
 clear hW5 hg hgb hgN hW6 hg' hgb' hgN' hW7 hb3 hb4 hb13 hw13 hne hb4' hb14 hw14 hk14 hX10 hbl hg0 HTi HTBi HTXi HMM HD HC HM HV7 HSL2 HZM10 HZM7 HB HAB
 have HT := HTx
 clear HTx
 go_wp2_with fail
 refine (message_any (fun _ => False) ⟨0, 1, 1, 0, [3, 4]⟩ ⟨0, 1, 1, 0, [3, 4]⟩ _ _ _ (hm14.out.keep (.alloc _ _)) ⟨_, rfl, _, rfl, SL.bx_ints (l := [3, 4]) (Bx.new _ _ _) (fun h => h) 2 (by decide) (by decide)⟩).mono ?_
 rintro e w15 ⟨rfl, hSm⟩
 rw [show messB ⟨0, 1, 1, 0, [3, 4]⟩ ⟨0, 1, 1, 0, [3, 4]⟩ = true from by decide]
 go_wp2
 go_ret
 exact ⟨rfl, (HT.out.trans (Step.alloc _ _)).trans hSm⟩
theorem fewB_of {h : House} (hf : few h = true) : fewB h := by
 simp only [few, fewA, Bool.and_eq_true, decide_eq_true_eq] at hf
 obtain ⟨⟨⟨h1, h2⟩, h3⟩, ⟨⟨⟨h4, h5⟩, h6⟩, h7⟩, h8⟩ := hf
 refine ⟨by omega, by omega, by omega, by omega, by omega, fun i hi => ?_, fun i hi => ?_⟩
 ·have := all_at h3 hi; simp at this; omega
 ·have := all_at h2 hi; simp at this; omega
theorem thinP_of {b : Book} (hf : thin b = true) : thinP b := by
 simp only [thin, thinA, Bool.and_eq_true, Bool.or_eq_true, decide_eq_true_eq] at hf
 obtain ⟨h1, ⟨h2, h3⟩, h4⟩ := hf
 refine ⟨by omega, fun i hi => ?_, by omega, by omega⟩
 have := all_at h1 hi; simp at this; omega
end Go.Proofs.YtgpiieogiafdoaaGreat
