/- Walks and plain laws, part j. -/
import Derived.Test.YtgpiieogiafdoaaGreatMa
import Derived.Test.YtgpiieogiafdoaaGreatMb
import Derived.Test.YtgpiieogiafdoaaGreatMc
import Derived.Test.YtgpiieogiafdoaaGreatMd
import Derived.Test.YtgpiieogiafdoaaGreatMm
import Derived.Test.YtgpiieogiafdoaaGreatRows
import Derived.BigQuiet
import Derived.Deep.AppendLies
import Derived.Deep.DeepCutAuto
import Derived.Deep.QuietTactic
import Derived.Deep.RegionHeld3
import Derived.Defers
import Derived.Laws.MakeOwn
import Derived.Laws.OwnMore
import Derived.Laws.Pointers
import Derived.Laws.StructEq
import Derived.Lib.Hide
import Derived.LoopIn
import Derived.LoopNIn
import Derived.MapKept
import Derived.OwnWalkIn
import Derived.RangeFuncBound
import Derived.RangeFuncCalls
import Derived.RangeFuncLeaves
import Derived.RangeFuncNested
import Derived.Recover
import Derived.Shelf.Abstract
import Derived.Shelf.RegionOpen
import Derived.TacticsInMore
import Derived.WalkKit
import Derived.WalkLawsBesides
import Derived.WalkSmall
import Derived.WalkSpells
import Derived.WideKeyRuns
namespace Go.Proofs.YtgpiieogiafdoaaGreat
set_option linter.unusedSimpArgs false
set_option linter.unusedVariables false
open Go.RowKit Go.BT
structure KeyT (tk : TypeId) {K : Type} (kf : K → Value) : Prop where
 inj : ∀ {a b : K}, kf a = kf b → a = b
 check : ∀ (x : K) (em : Bool) (w : World), (Instr.checkKey em 10000 tk (kf x)).run Tryz.prog w = .ok () w
 bits : ∀ (x : K) (w : World), (Instr.keyThatStays (kf x) (kf x)).run Tryz.prog w = .ok (kf x) w
 find : ∀ (x : K) (w : World) (es : List MapEntry), (∀ e ∈ es, ∃ y, e.key = kf y) →
  (∃ j, ∃ h : j < es.length, es[j].key = kf x ∧ (Instr.findKey tk (kf x) es).run Tryz.prog w = .ok (some (j, es[j].val)) w) ∨ ((∀ e ∈ es, e.key ≠ kf x) ∧ (Instr.findKey tk (kf x) es).run Tryz.prog w = .ok none w)
def MF {K : Type} (kf : K → Value) (w : World) (r : Nat) (f : K → Option Int) : Prop :=
 ∃ es clock, w.heap[r]? = some (.map es clock) ∧ (∀ e ∈ es.toList, ∃ x n, f x = some n ∧ e.key = kf x ∧ e.val = .int .i64 n) ∧ (∀ x n, f x = some n → ∃ e ∈ es.toList, e.key = kf x) ∧
  (∀ (i j : Nat) (hi : i < es.toList.length) (hj : j < es.toList.length), (es.toList[i]).key = (es.toList[j]).key → i = j)
theorem MF.keep {K : Type} {kf : K → Value} {S : Nat → Prop} {w w' : World} {r : Nat} {f : K → Option Int} (h : MF kf w r f) (hs : Keeps S w w') (hr : ¬ S r) : MF kf w' r f := by
 obtain ⟨es, cl, h1, h2⟩ := h
 exact ⟨es, cl, (hs.2 r (Array.getElem?_eq_some_iff.1 h1).1 hr).trans h1, h2⟩
theorem MF.lt {K : Type} {kf : K → Value} {w : World} {r : Nat} {f : K → Option Int} (h : MF kf w r f) : r < w.heap.size := by
 obtain ⟨es, cl, h1, h2⟩ := h
 exact (Array.getElem?_eq_some_iff.1 h1).1
theorem MF.nob {K : Type} {kf : K → Value} {w : World} {r g : Nat} {f : K → Option Int} {l : List Value} {t : TypeId} (h : MF kf w r f) (hb : Bx w g l t) : g ≠ r := by
 obtain ⟨es, cl, h1, h2⟩ := h
 intro e; subst e; unfold Bx at hb; rw [hb] at h1; cases h1
theorem MF.new {K : Type} (kf : K → Value) (w : World) (r clock : Nat) (h : w.heap[r]? = some (.map #[] clock)) : MF kf w r (fun _ => none) :=
 ⟨#[], clock, h, by simp, by simp, by simp⟩
theorem zeroInt (w : World) : (zeroValue 3).run Tryz.prog w = .ok (.int .i64 0) w := by kernel_rfl
theorem run_lookup_mf {tm tk : TypeId} (hm : Tryz.prog.underlying tm = some (.map tk 3)) {K : Type} {kf : K → Value} (ht : KeyT tk kf) {w : World} {r : Nat} {f : K → Option Int} (x : K) (h : MF kf w r f) (ok : Bool) :
  (Instr.lookup tm (.map (some r)) (kf x) ok).run Tryz.prog w = .ok (if ok then .tuple #[.int .i64 ((f x).getD 0), .bool (f x).isSome] else .int .i64 ((f x).getD 0)) w := by
 obtain ⟨es, clock, hh, h1, h2, h3⟩ := h
 have hck := fun em => ht.check x em w
 have hgo : (getObj r).run Tryz.prog w = .ok (.map es clock) w := by simp [getObj, Sem.run, hh]
 rcases ht.find x w es.toList (fun e he => by obtain ⟨y, _, _, hk, _⟩ := h1 e he; exact ⟨y, hk⟩) with ⟨j, hj, hk, hf⟩ | ⟨hn, hf⟩
 ·obtain ⟨y, n, hy, hky, hv⟩ := h1 _ (List.getElem_mem hj)
  have : x = y := ht.inj (by rw [← hky, hk])
  subst this
  cases ok <;> simp [Instr.lookup, run_underlying hm, hgo, hck, hf, hy] <;> simpa using hv
 ·have hx : f x = none := by
   cases q : f x with
   | none => rfl
   | some n => obtain ⟨e, he, hk⟩ := h2 x n q; exact absurd hk (hn e he)
  cases ok <;> simp [Instr.lookup, run_underlying hm, hgo, hck, hf, hx, zeroInt]
theorem run_mapUpdate_mf {tm tk : TypeId} (hm : Tryz.prog.underlying tm = some (.map tk 3)) {K : Type} [DecidableEq K] {kf : K → Value} (ht : KeyT tk kf) {w : World} {r : Nat} {f : K → Option Int} (x : K) (n : Int) (h : MF kf w r f) :
  ∃ w', (Instr.mapUpdate tm (.map (some r)) (kf x) (.int .i64 n)).run Tryz.prog w = .ok () w' ∧ MF kf w' r (fun y => if y = x then some n else f y) ∧ Wrote r w w' := by
 obtain ⟨es, clock, hh, h1, h2, h3⟩ := h
 have hck := fun em => ht.check x em w
 have hgo : (getObj r).run Tryz.prog w = .ok (.map es clock) w := by simp [getObj, Sem.run, hh]
 have hso : ∀ o, (setObj r o).run Tryz.prog w = .ok () (putM w r o) := fun o => by simp [setObj, Sem.run, hh, putM]
 have hst := ht.bits x w
 rcases ht.find x w es.toList (fun e he => by obtain ⟨y, _, _, hk, _⟩ := h1 e he; exact ⟨y, hk⟩) with ⟨j, hj, hk, hf⟩ | ⟨hn, hf⟩
 ·have hjs : j < es.size := by simpa using hj
  have hjk' : es[j]?.map (·.key) = some (kf x) := by
   rw [Array.getElem?_eq_getElem hjs, Option.map_some]
   rw [Array.getElem_toList] at hk
   rw [hk]
  refine ⟨putM w r (.map (es.modify j fun e => { e with key := kf x, val := .int .i64 n }) clock), ?_, ⟨_, _, putM_at (Array.getElem?_eq_some_iff.1 hh).1, ?_, ?_, ?_⟩, putM_wrote _ _ _⟩
  ·simp [Instr.mapUpdate, run_underlying hm, hgo, hck, hf, hjk', hst, hso]
  ·intro e he
   rw [Array.toList_modify] at he
   obtain ⟨i, hi, rfl⟩ := List.getElem_of_mem he
   rw [List.getElem_modify]
   have hi' : i < es.toList.length := by simpa using hi
   split
   ·exact ⟨x, n, by simp, rfl, rfl⟩
   ·rename_i hne
    obtain ⟨y, m, hy, hky, hv⟩ := h1 _ (List.getElem_mem hi')
    refine ⟨y, m, ?_, hky, hv⟩
    have : y ≠ x := fun e => hne (h3 j i hj hi' (by rw [hk, hky, e]))
    simp [this, hy]
  ·intro y m hy
   have hkey : ∀ i (hi : i < es.toList.length), ∃ e ∈ (es.modify j fun e => { e with key := kf x, val := .int .i64 n }).toList, e.key = (es.toList[i]).key := by
    intro i hi
    refine ⟨(es.modify j fun e => { e with key := kf x, val := .int .i64 n }).toList[i]'(by simpa using hi), List.getElem_mem _, ?_⟩
    simp only [Array.toList_modify, List.getElem_modify]
    split
    ·rename_i hij
     subst hij
     exact hk.symm
    ·rfl
   by_cases q : y = x
   ·obtain ⟨e, he, hke⟩ := hkey j hj
    exact ⟨e, he, by rw [hke, hk, q]⟩
   ·simp only [q, if_false] at hy
    obtain ⟨e, he, hke⟩ := h2 y m hy
    obtain ⟨i, hi, rfl⟩ := List.getElem_of_mem he
    obtain ⟨e', he', hk'⟩ := hkey i hi
    exact ⟨e', he', by rw [hk', hke]⟩
  ·intro a b ha hb hab
   have hkey : ∀ i (hi : i < (es.modify j fun e => { e with key := kf x, val := .int .i64 n }).toList.length), ((es.modify j fun e => { e with key := kf x, val := .int .i64 n }).toList[i]).key = (es.toList[i]'(by simpa using hi)).key := by
    intro i hi
    simp only [Array.toList_modify, List.getElem_modify]
    split
    ·rename_i hij
     subst hij
     exact hk.symm
    ·rfl
   rw [hkey a ha, hkey b hb] at hab
   exact h3 a b _ _ hab
 ·refine ⟨putM w r (.map (es.push { key := kf x, val := .int .i64 n, born := clock }) (clock + 1)), ?_, ⟨_, _, putM_at (Array.getElem?_eq_some_iff.1 hh).1, ?_, ?_, ?_⟩, putM_wrote _ _ _⟩
  ·simp [Instr.mapUpdate, run_underlying hm, hgo, hck, hf, hso]
  ·intro e he
   simp only [Array.toList_push, List.mem_append, List.mem_singleton] at he
   rcases he with he | rfl
   ·obtain ⟨y, m, hy, hky, hv⟩ := h1 e he
    refine ⟨y, m, ?_, hky, hv⟩
    have : y ≠ x := fun e' => hn e he (by rw [hky, e'])
    simp [this, hy]
   ·exact ⟨x, n, by simp, rfl, rfl⟩
  ·intro y m hy
   by_cases q : y = x
   ·exact ⟨{ key := kf x, val := .int .i64 n, born := clock }, by simp, by rw [q]⟩
   ·simp only [q, if_false] at hy
    obtain ⟨e, he, hke⟩ := h2 y m hy
    exact ⟨e, by simp [he], hke⟩
  ·intro a b ha hb hab
   simp only [Array.toList_push, List.length_append, List.length_cons, List.length_nil] at ha hb
   simp only [Array.toList_push, List.getElem_append] at hab
   by_cases qa : a < es.toList.length <;> by_cases qb : b < es.toList.length
   ·simp only [qa, qb, dite_true] at hab
    exact h3 a b qa qb hab
   ·simp only [qa, qb, dite_true, dite_false, List.getElem_singleton] at hab
    exact absurd hab (hn _ (List.getElem_mem qa))
   ·simp only [qa, qb, dite_true, dite_false, List.getElem_singleton] at hab
    exact absurd hab.symm (hn _ (List.getElem_mem qb))
   ·omega
def iv (n : Int) : Value := .int .i64 n
theorem intUnder : Tryz.prog.underlying 3 = some (.int .i64) := by kernel_rfl
theorem find_int (n : Int) : ∀ (es : List MapEntry) (i : Nat), (∀ e ∈ es, ∃ y, e.key = iv y) →
  (∃ j, ∃ h : j < es.length, es[j].key = iv n ∧ Instr.findNow (.int .i64) (iv n) es i = some (some (i + j, es[j].val))) ∨ ((∀ e ∈ es, e.key ≠ iv n) ∧ Instr.findNow (.int .i64) (iv n) es i = some none)
 | [], i, _ => .inr ⟨by simp, rfl⟩
 | e :: es, i, h => by
  obtain ⟨y, hy⟩ := h e List.mem_cons_self
  by_cases q : n = y
  ·subst q
   refine .inl ⟨0, by simp, by simpa using hy, ?_⟩
   simp [Instr.findNow, hy, Instr.sameNow, iv]
  ·have hst : Instr.findNow (.int .i64) (iv n) (e :: es) i = Instr.findNow (.int .i64) (iv n) es (i + 1) := by
    have hb : (n == y) = false := by simpa using q
    simp [Instr.findNow, hy, Instr.sameNow, iv, hb]
   rcases find_int n es (i + 1) (fun e he => h e (List.mem_cons_of_mem _ he)) with ⟨j, h1, h2, h3⟩ | ⟨h1, h2⟩
   ·refine .inl ⟨j + 1, by simp; omega, by simpa using h2, ?_⟩
    rw [hst, h3]
    congr 2
    simp
    omega
   ·refine .inr ⟨?_, by rw [hst, h2]⟩
    intro e' he'
    rcases List.mem_cons.1 he' with rfl | he'
    ·rw [hy]; unfold iv; intro hh; injection hh with _ hh; exact q hh.symm
    ·exact h1 e' he'
theorem keyT_int : KeyT 3 iv where
 inj := by intro a b h; unfold iv at h; injection h
 check := fun x em w => check_int 9999 x em w
 bits := fun x w => by simp [iv, Instr.keyThatStays, Instr.sameBits]
 find := fun x w es h => by
  rcases find_int x es 0 h with ⟨j, h1, h2, h3⟩ | ⟨h1, h2⟩
  ·exact .inl ⟨j, h1, h2, by have := MapKept.run_findKey (P := Tryz.prog) (w := w) intUnder h3; rw [this]; simp⟩
  ·exact .inr ⟨h1, MapKept.run_findKey (P := Tryz.prog) (w := w) intUnder h2⟩
theorem ask_key (x : Key) (w : World) : ∀ (es : List MapEntry) (i : Nat), (∀ e ∈ es, ∃ y, e.key = kv y) →
  (∃ j, ∃ h : j < es.length, es[j].key = kv x ∧ (Instr.findAsking 172 (kv x) es i).run Tryz.prog w = .ok (some (i + j, es[j].val)) w) ∨ ((∀ e ∈ es, e.key ≠ kv x) ∧ (Instr.findAsking 172 (kv x) es i).run Tryz.prog w = .ok none w)
 | [], i, _ => .inr ⟨by simp, by simp [Instr.findAsking]⟩
 | e :: es, i, h => by
  obtain ⟨y, hy⟩ := h e List.mem_cons_self
  by_cases q : x = y
  ·subst q
   exact .inl ⟨0, by simp, by simpa using hy, by simp [Instr.findAsking, hy, equal_key]⟩
  ·have hst : (Instr.findAsking 172 (kv x) (e :: es) i).run Tryz.prog w = (Instr.findAsking 172 (kv x) es (i + 1)).run Tryz.prog w := by
    simp [Instr.findAsking, hy, equal_key, q]
   rcases ask_key x w es (i + 1) (fun e he => h e (List.mem_cons_of_mem _ he)) with ⟨j, h1, h2, h3⟩ | ⟨h1, h2⟩
   ·refine .inl ⟨j + 1, by simp; omega, by simpa using h2, ?_⟩
    rw [hst, h3]
    rw [show i + 1 + j = i + (j + 1) by omega]
    rfl
   ·refine .inr ⟨?_, by rw [hst, h2]⟩
    intro e' he'
    rcases List.mem_cons.1 he' with rfl | he'
    ·rw [hy]; exact fun hh => q (kv_inj hh.symm)
    ·exact h1 e' he'
theorem bits_key (x : Key) (w : World) : (Instr.keyThatStays (kv x) (kv x)).run Tryz.prog w = .ok (kv x) w := by
 have h := sameBits_kv x 9999
 simp only [Instr.keyThatStays, h, if_true, Sem.run_pure]
theorem keyT_key : KeyT 172 kv where
 inj := kv_inj
 check := fun x em w => check_key x em w
 bits := bits_key
 find := fun x w es h => by
  have hfk : (Instr.findKey 172 (kv x) es).run Tryz.prog w = (Instr.findAsking 172 (kv x) es).run Tryz.prog w := run_findKey_eq w (by rw [Tryz.underlying172]) _ _
  rw [hfk]
  rcases ask_key x w es 0 h with ⟨j, h1, h2, h3⟩ | ⟨h1, h2⟩
  ·exact .inl ⟨j, h1, h2, by rw [h3]; simp⟩
  ·exact .inr ⟨h1, h2⟩
theorem mapUnderI : Tryz.prog.underlying 173 = some (.map 3 3) := by kernel_rfl
theorem mapUnderK : Tryz.prog.underlying 174 = some (.map 172 3) := by kernel_rfl
set_option maxHeartbeats 1000000 in
theorem counted1_any (f : Key → Option Int) (x : Key) (a : Int) (m r gb : Nat) (w : World) (hm : w.cell? ⟨m, 0, none⟩ = some (.map (some r))) (hk : MF kv w r f) (hgb : w.cell? ⟨gb, 0, none⟩ = some (.int .i64 a)) :
  Calls Tryz.prog 108 #[kv x, .pointer (some ⟨m, 0, none⟩), .pointer (some ⟨gb, 0, none⟩)] w fun e w' => e = .returned (.bool (decide (f x = some a))) ∧ Step w w' := by
 unfold kv
 have hS := Step.alloc w (.cells #[.int .i64 x.frm, .int .i64 x.number] 172)
 have hlk := run_lookup_mf mapUnderK keyT_key x (hk.keep hS.keeps id) true
 have a1 := hS.kc hm
 have a2 := hS.kc hgb
 have HS := Lib.hid hS
 unfold kv at hlk
 rw [if_pos rfl] at hlk
 clear hS hk hm hgb
 cases q : f x with
 | none =>
  rw [q] at hlk
  have HF := Lib.hid (show decide (f x = some a) = false by simp [q])
  rw [show (none : Option Int).isSome = false from rfl, show (none : Option Int).getD 0 = 0 from rfl] at hlk
  clear q
  go_enter Tryz.func108, Tryz.ntmps108
  go_wp2
  go_ret
  exact ⟨by first | rw [HF.out] | simp [HF.out], by first | exact HS.out | exact HS.out.trans (Step.refl _)⟩
 | some n =>
  rw [q] at hlk
  have HF := Lib.hid (show decide (f x = some a) = (n == a) by rw [q]; by_cases e : n = a <;> simp [e])
  rw [show (some n : Option Int).isSome = true from rfl, show (some n : Option Int).getD 0 = n from rfl] at hlk
  clear q
  go_enter Tryz.func108, Tryz.ntmps108
  go_wp2
  go_ret
  exact ⟨by first | rw [HF.out] | (simp [HF.out]; by_cases e : n = a <;> simp [e]), by first | exact HS.out | exact HS.out.trans (Step.refl _)⟩
theorem known_any (S : Nat → Prop) (f : Key → Option Int) (l : List Key) (a : Int) (v : Value) (m r gb : Nat) (W : World) (hv : SL S W v l) (hm : W.cell? ⟨m, 0, none⟩ = some (.map (some r))) (hk : MF kv W r f) (hgb : W.cell? ⟨gb, 0, none⟩ = some (.int .i64 a)) :
  Calls Tryz.prog 107 #[v, .func (.func 108) #[] #[.pointer (some ⟨m, 0, none⟩), .pointer (some ⟨gb, 0, none⟩)]] W fun e W' => e = .returned (.bool (l.all fun x => decide (f x = some a))) ∧ Step W W' := by
 have hall : ((idxKeys l).all fun x => decide (f (toKey x) = some a)) = l.all fun x => decide (f x = some a) := by
  have h1 : (idxKeys l).map toKey = l := by
   refine List.ext_getElem (by simp [idxKeys_len]) fun i h1 h2 => ?_
   have hx : (idxKeys l)[i]'(by simpa using h1) = ⟨i, l[i].frm, l[i].number⟩ := by simp [idxKeys]
   rw [List.getElem_map, hx]; rfl
  conv => rhs; rw [← h1]
  rw [List.all_map]
  rfl
 refine (all_ikey S (idxKeys l) v W 108 #[.pointer (some ⟨m, 0, none⟩), .pointer (some ⟨gb, 0, none⟩)] (Go.Proofs.enters_of Tryz.func108 (by kernel_rfl) rfl) (fun x => decide (f (toKey x) = some a))
  (fun k W' => Step W W') (fun _ => False) (fun j hj => hj.elim) (fun _ W' hW' => (hv.keep (.of_step hW')).idx)
  (fun _ _ _ h1 h2 => h1.trans h2) (Step.refl _) (fun i hi W1 u hW _ hu => ?_)).mono ?_
 ·subst hu
  refine (counted1_any f (toKey (idxKeys l)[i]) a m r gb W1 (hW.kc hm) (hk.keep hW.keeps id) (hW.kc hgb)).mono ?_
  rintro e w' ⟨rfl, hS⟩
  exact ⟨rfl, hW.trans hS, .of hS⟩
 ·rintro e w' ⟨rfl, k, _, _, hS⟩
  exact ⟨by rw [hall], hS⟩
set_option maxHeartbeats 2000000 in
theorem all1_mess (S T : Nat → Prop) (h : House) (m : BT.Message) (hv u : Value) (b : Nat) (w : World) (hh : AV S w hv h) (hm : AV T w u m) (hok : valid h = true) (hb : w.cell? ⟨b, 0, none⟩ = some (.func (.func 103) #[hv] #[])) :
  Calls Tryz.prog 134 #[u, .pointer (some ⟨b, 0, none⟩)] w fun e w' => e = .returned (.bool (!messV h m)) ∧ Step w w' := by
 obtain ⟨c4, rfl, s4⟩ := hm.message
 obtain ⟨p, k, rfl⟩ := s4.form
 obtain ⟨W0, hW0⟩ : ∃ z9, z9 = w.alloc (.cells #[.int .i64 m.frm, .int .i64 m.dst, .int .i64 m.number, .int .i64 m.shw, .slice p m.seats.length k] 86) := ⟨_, rfl⟩
 have hS : Step w W0 := by subst hW0; exact Step.alloc _ _
 have hb1 : Bx W0 w.heap.size [.int .i64 m.frm, .int .i64 m.dst, .int .i64 m.number, .int .i64 m.shw, .slice p m.seats.length k] 86 := by subst hW0; exact Bx.new _ [_, _, _, _, _] _
 have hbb := hS.kc hb
 have HM := Lib.hid (hm.keep (.of_step hS))
 have HH := Lib.hid (hh.keep (.of_step hS))
 have HS := Lib.hid hS
 have HW := Lib.hid hW0
 obtain ⟨m0, m1, m2, m3, m4⟩ := cells5 hb1
 have HCALL := Lib.hid (vmess_any S T h m _ _ W0 HH.out HM.out hok)
 clear s4 hS hb1 hW0 hb hh hm
 go_enter Tryz.func134, Tryz.ntmps134
 go_upto_region 1 with (fail)
 rw [← HW.out]
 clear HW
 go_wp2_with fail
 refine HCALL.out.mono ?_
 rintro e wn ⟨rfl, hSn⟩
 have HT := Lib.hid (HS.out.trans hSn)
 clear hSn
 go_wp2
 go_ret
 exact ⟨rfl, HT.out⟩
set_option maxHeartbeats 2000000 in
theorem index_mess (S T : Nat → Prop) (h : House) (l : List BT.Message) (hv v : Value) (b : Nat) (w : World) (hh : AV S w hv h) (hl : SL T w v l) (hok : valid h = true) (hb : w.cell? ⟨b, 0, none⟩ = some (.func (.func 103) #[hv] #[])) :
  Calls Tryz.prog 148 #[v, .func (.func 134) #[] #[.pointer (some ⟨b, 0, none⟩)]] w fun e w' => ∃ q : Int, e = .returned (.int .i64 q) ∧ (0 ≤ q ↔ l.all (messV h) = false) ∧ Step w w' := by
 obtain ⟨px, kx, bx, ox, rfl, _, mx, hpx, hcx, _⟩ := hl.mess
 have HX := Lib.hid (And.intro hpx hcx)
 have HH := Lib.hid hh
 have HB := Lib.hid hb
 have HOK := Lib.hid hok
 clear hl hh hb hok hpx hcx
 go_enter Tryz.func148, Tryz.ntmps148
 go_wp2
 go_loopw [8] (fun i wr => ∃ k : Nat, k ≤ l.length ∧ i = .int .i64 k ∧ (l.take k).all (messV h) = true ∧ Step w wr) (fun i _ => l.length - (intOf i).toNat)
 case atStart => exact ⟨0, Nat.zero_le _, rfl, by simp, Step.refl _⟩
 case round =>
  obtain ⟨k, hk, rfl, ht, hT⟩ := hrel
  have HA := Lib.hid ht
  have HT := Lib.hid hT
  clear ht hT
  by_cases hlt : k < l.length
  ·obtain rfl := HX.out.1 (by omega)
   obtain ⟨c4, ⟨g0, g1, g2, g3, g4⟩, s4⟩ := HX.out.2 k hlt
   obtain ⟨p4, k4, e4⟩ := s4.form
   subst e4
   have HM := Lib.hid (show AV T w (.agg #[.int .i64 l[k].frm, .int .i64 l[k].dst, .int .i64 l[k].number, .int .i64 l[k].shw, .slice p4 l[k].seats.length k4]) l[k] from ⟨_, rfl, _, rfl, s4⟩)
   have g0 := (HT.out).kc g0; have g1 := (HT.out).kc g1; have g2 := (HT.out).kc g2; have g3 := (HT.out).kc g3; have g4 := (HT.out).kc g4
   have hix1 : (0 : Int) ≤ (k : Int) ∧ (k : Int) < (l.length : Int) := by omega
   have HTK := Lib.hid (List.take_succ_eq_append_getElem hlt)
   clear s4
   have hcall := Lib.hid (all1_mess S T h l[k] hv _ b wr (HH.out.keep (.of_step HT.out)) (HM.out.keep (.of_step HT.out)) HOK.out (HT.out.kc HB.out))
   go_wp2_with fail
   refine hcall.out.mono ?_
   clear hcall
   rintro e wn ⟨rfl, hSn⟩
   have HTn := Lib.hid (HT.out.trans hSn)
   clear hSn g0 g1 g2 g3 g4 HM
   cases q1 : messV h l[k] with
   | false =>
    have HQ := Lib.hid (show l.all (messV h) = false by rw [List.all_eq_false]; exact ⟨l[k], List.getElem_mem hlt, by simp [q1]⟩)
    clear q1
    go_wp2
    go_ret
    exact ⟨k, rfl, by simpa using HQ.out, HTn.out⟩
   | true =>
    have HF := Lib.hid (show (l.take (k + 1)).all (messV h) = true by rw [HTK.out, List.all_append, HA.out]; simp [q1])
    clear q1
    go_wp2
    go_roundw
    case rel => exact ⟨k + 1, by omega, by go_num, HF.out, HTn.out⟩
    case measure => simp [intOf]; omega
  ·have HE := Lib.hid (show l.all (messV h) = true by have := HA.out; rwa [List.take_of_length_le (by omega)] at this)
   clear HA
   go_wp2
   go_ret
   exact ⟨-1, rfl, by simp [HE.out], HT.out⟩
set_option maxHeartbeats 1000000 in
theorem contains_mess (S T : Nat → Prop) (h : House) (l : List BT.Message) (hv v : Value) (b : Nat) (w : World) (hh : AV S w hv h) (hl : SL T w v l) (hok : valid h = true) (hb : w.cell? ⟨b, 0, none⟩ = some (.func (.func 103) #[hv] #[])) :
  Calls Tryz.prog 133 #[v, .func (.func 134) #[] #[.pointer (some ⟨b, 0, none⟩)]] w fun e w' => e = .returned (.bool (!l.all (messV h))) ∧ Step w w' := by
 have HC := Lib.hid (index_mess S T h l hv v b w hh hl hok hb)
 obtain ⟨p, c, rfl⟩ := hl.form
 clear hl hh hb
 go_enter Tryz.func133, Tryz.ntmps133
 go_wp2_with fail
 refine HC.out.mono ?_
 rintro e wn ⟨q, rfl, hn, hSn⟩
 have HF := Lib.hid (show (!l.all (messV h)) = decide (0 ≤ q) by
  by_cases z : 0 ≤ q
  ·rw [decide_eq_true z, hn.1 z]; rfl
  ·rw [decide_eq_false z]
   cases hz : l.all (messV h) with
   | true => rfl
   | false => exact absurd (hn.2 hz) z)
 have HT := Lib.hid hSn
 clear hSn hn HC
 go_wp2
 go_ret
 exact ⟨by rw [HF.out]; rfl, HT.out⟩
set_option maxHeartbeats 2000000 in
theorem all_mess (S T : Nat → Prop) (h : House) (l : List BT.Message) (hv v : Value) (w : World) (hh : AV S w hv h) (hl : SL T w v l) (hok : valid h = true) :
  Calls Tryz.prog 102 #[v, .func (.func 103) #[hv] #[]] w fun e w' => e = .returned (.bool (l.all (messV h))) ∧ Step w w' := by
 have hmf : ∀ (fn : Fn) (first cap : Array Value) (w : World), (Instr.makeFunc fn first cap).run Tryz.prog w = .ok (.func fn first cap) w := fun _ _ _ _ => rfl
 have hS := Step.alloc w (.cells #[.func (.func 103) #[hv] #[]] 169)
 have hc := contains_mess S T h l hv v w.heap.size _ (hh.keep (.of_step hS)) (hl.keep (.of_step hS)) hok (by rw [World.cell?_alloc_new]; rfl)
 obtain ⟨cs, rfl, hr⟩ := hh
 have HC := Lib.hid hc
 have HS := Lib.hid hS
 obtain ⟨p, c, rfl⟩ := hl.form
 clear hc hS hl hr
 go_enter Tryz.func102, Tryz.ntmps102
 go_wp2_with fail
 refine HC.out.mono ?_
 rintro e wn ⟨rfl, hSn⟩
 have HT := Lib.hid (HS.out.trans hSn)
 clear hSn HC
 go_wp2
 go_ret
 exact ⟨by simp, HT.out⟩
def bk (W : Wd) (a : Nat) : Book := W.books.getD a noBook
def ms (W : Wd) (k : Nat) : BT.Message := W.msgs.getD k noMsg
def Holds (W : Wd) (s i : Nat) (a : Nat) : Prop := a < W.books.length ∧ seatAt (bk W a) s i ≠ -1
def Carries (W : Wd) (s i : Nat) (k : Nat) : Prop := k < W.msgs.length ∧ (ms W k).shw = s ∧ (i : Int) ∈ (ms W k).seats ∧ keyOf (ms W k) ∉ (bk W (ms W k).dst.toNat).took
def OnePlace (W : Wd) (s i : Nat) : Prop :=
 (∃ a, Holds W s i a ∧ (∀ b, Holds W s i b → b = a) ∧ ∀ k, ¬ Carries W s i k) ∨ (∃ k, Carries W s i k ∧ (∀ q, Carries W s i q → q = k) ∧ ∀ a, ¬ Holds W s i a)
def sentTo (W : Wd) (a : Int) (k : Nat) : Nat := ((W.msgs.take k).filter fun m => decide (m.frm = a)).length
structure WdInv (h : House) (W : Wd) : Prop where
 ok : WdOk h W
 one : ∀ s i : Nat, s < h.dates.length → (i : Int) < sizeL h.sectors → OnePlace W s i
 num : ∀ k, k < W.msgs.length → (ms W k).number = sentTo W (ms W k).frm k + 1
 sent : ∀ a, a < W.books.length → (bk W a).sent = sentTo W a W.msgs.length
 took : ∀ a, a < W.books.length → ∀ x ∈ (bk W a).took, ∃ k, k < W.msgs.length ∧ keyOf (ms W k) = x ∧ (ms W k).dst = a
theorem sentTo_mono (W : Wd) (a : Int) {k q : Nat} (h : k ≤ q) : sentTo W a k ≤ sentTo W a q := by
 unfold sentTo
 obtain ⟨d, rfl⟩ : ∃ d, q = k + d := ⟨q - k, by omega⟩
 rw [List.take_add, List.filter_append, List.length_append]
 omega
theorem sentTo_succ (W : Wd) (a : Int) {k : Nat} (h : k < W.msgs.length) : sentTo W a (k + 1) = sentTo W a k + if (ms W k).frm = a then 1 else 0 := by
 unfold sentTo ms
 rw [List.take_succ_eq_append_getElem h, List.filter_append, List.length_append]
 have : W.msgs.getD k noMsg = W.msgs[k] := by simp [List.getD_eq_getElem?_getD, h]
 rw [this]
 congr 1
 by_cases e : W.msgs[k].frm = a <;> simp [e]
theorem key_ne {h : House} {W : Wd} (I : WdInv h W) {k q : Nat} (hk : k < W.msgs.length) (hq : q < W.msgs.length) (he : keyOf (ms W k) = keyOf (ms W q)) : k = q := by
 have e1 : (ms W k).frm = (ms W q).frm := by unfold keyOf at he; injection he
 have e2 : (ms W k).number = (ms W q).number := by unfold keyOf at he; injection he
 rw [I.num k hk, I.num q hq, e1] at e2
 have e2 : sentTo W (ms W q).frm k = sentTo W (ms W q).frm q := by omega
 rcases Nat.lt_trichotomy k q with hlt | hlt | hlt
 ·have h1 := sentTo_succ W (ms W q).frm hk
  rw [if_pos e1] at h1
  have := sentTo_mono W (ms W q).frm (show k + 1 ≤ q by omega)
  omega
 ·exact hlt
 ·have h1 := sentTo_succ W (ms W q).frm hq
  rw [if_pos rfl] at h1
  have := sentTo_mono W (ms W q).frm (show q + 1 ≤ k by omega)
  omega
theorem bk_at {W : Wd} {a : Nat} (h : a < W.books.length) : bk W a = W.books[a] := by simp [bk, List.getD_eq_getElem?_getD, h]
theorem ms_at {W : Wd} {k : Nat} (h : k < W.msgs.length) : ms W k = W.msgs[k] := by simp [ms, List.getD_eq_getElem?_getD, h]
theorem ms_ok {h : House} {W : Wd} (I : WdInv h W) {k : Nat} (hk : k < W.msgs.length) : messV h (ms W k) = true := by
 rw [ms_at hk]; exact I.ok.msg _ (List.getElem_mem hk)
theorem bk_set (W : Wd) (i : Nat) (b : Book) (l : List BT.Message) (a : Nat) (hi : i < W.books.length) : bk ⟨W.books.set i b, l⟩ a = if a = i then b else bk W a := by
 unfold bk
 by_cases e : a = i
 ·subst e; simp [List.getD_eq_getElem?_getD, hi]
 ·rw [if_neg e]
  simp [List.getD_eq_getElem?_getD, List.getElem?_set, Ne.symm e]
theorem one_same {h : House} {W : Wd} {i : Nat} {b : Book} (hi : i < W.books.length) (hs : ∀ s j : Nat, s < h.dates.length → (j : Int) < sizeL h.sectors → (seatAt b s j = -1 ↔ seatAt (bk W i) s j = -1)) (ht : b.took = (bk W i).took) {s j : Nat} (h1 : s < h.dates.length) (h2 : (j : Int) < sizeL h.sectors) (ho : OnePlace W s j) :
  OnePlace ⟨W.books.set i b, W.msgs⟩ s j := by
 have hh : ∀ a, Holds ⟨W.books.set i b, W.msgs⟩ s j a ↔ Holds W s j a := by
  intro a
  unfold Holds
  rw [bk_set W i b W.msgs a hi]
  simp only [List.length_set]
  by_cases e : a = i
  ·subst e; rw [if_pos rfl]; exact and_congr_right fun _ => not_congr (hs s j h1 h2)
  ·rw [if_neg e]
 have hc : ∀ k, Carries ⟨W.books.set i b, W.msgs⟩ s j k ↔ Carries W s j k := by
  intro k
  have hm : ms ⟨W.books.set i b, W.msgs⟩ k = ms W k := rfl
  unfold Carries
  rw [hm, bk_set W i b W.msgs _ hi]
  by_cases e : (ms W k).dst.toNat = i
  ·rw [if_pos e, ht, e]
  ·rw [if_neg e]
 rcases ho with ⟨a, g1, g2, g3⟩ | ⟨k, g1, g2, g3⟩
 ·exact .inl ⟨a, (hh a).2 g1, fun b hb => g2 b ((hh b).1 hb), fun k hk => g3 k ((hc k).1 hk)⟩
 ·exact .inr ⟨k, (hc k).2 g1, fun q hq => g2 q ((hc q).1 hq), fun a ha => g3 a ((hh a).1 ha)⟩
theorem inv_same {h : House} {W : Wd} (I : WdInv h W) {i : Nat} {b : Book} (hi : i < W.books.length) (hok : WdOk h ⟨W.books.set i b, W.msgs⟩) (hs : ∀ s j : Nat, s < h.dates.length → (j : Int) < sizeL h.sectors → (seatAt b s j = -1 ↔ seatAt (bk W i) s j = -1)) (ht : b.took = (bk W i).took) (he : b.sent = (bk W i).sent) : WdInv h ⟨W.books.set i b, W.msgs⟩ := by
 refine ⟨hok, fun s j h1 h2 => one_same hi hs ht h1 h2 (I.one s j h1 h2), I.num, fun a ha => ?_, fun a ha x hx => ?_⟩
 ·rw [bk_set W i b W.msgs a hi]
  have ha' : a < W.books.length := by simpa using ha
  by_cases e : a = i
  ·subst e; rw [if_pos rfl, he]; exact I.sent a ha'
  ·rw [if_neg e]; exact I.sent a ha'
 ·rw [bk_set W i b W.msgs a hi] at hx
  have ha' : a < W.books.length := by simpa using ha
  by_cases e : a = i
  ·subst e; rw [if_pos rfl, ht] at hx; exact I.took a ha' x hx
  ·rw [if_neg e] at hx; exact I.took a ha' x hx
def okA (h : House) (W : Wd) (a : Nat) : Bool := decide ((bk W a).agency = a) && bookB h (bk W a)
def worldB (h : House) (W : Wd) : Bool := valid h && (decide (W.books.length = agN h) && (W.msgs.all (messV h) && (List.range W.books.length).all (okA h W)))
theorem okA_step {h : House} {W : Wd} {k : Nat} (h1 : (List.range k).all (okA h W) = true) (h2 : okA h W k = true) : (List.range (k + 1)).all (okA h W) = true := by
 rw [List.range_succ, List.all_append, h1]; simp [h2]
theorem okA_bad {h : House} {W : Wd} {k n : Nat} (hk : k < n) (h2 : okA h W k = false) : (List.range n).all (okA h W) = false := by
 rw [List.all_eq_false]
 exact ⟨k, List.mem_range.2 hk, by simp [h2]⟩
set_option maxRecDepth 100000 in
set_option maxHeartbeats 4000000 in
theorem world_any (S T : Nat → Prop) (h : House) (W : Wd) (v u : Value) (w : World) (hv : AV S w v h) (hu : AV T w u W) :
  Calls Tryz.prog 52 #[v, u] w fun e w' => e = .returned (.bool (worldB h W)) ∧ Step w w' := by
 have hmf : ∀ (fn : Fn) (first cap : Array Value) (w : World), (Instr.makeFunc fn first cap).run Tryz.prog w = .ok (.func fn first cap) w := fun _ _ _ _ => rfl
 have HH0 := Lib.hid hv
 obtain ⟨c0, c1, c2, c3, c4, rfl, h0, h1, h2, h3, h4⟩ := hv.house
 obtain ⟨p0, k0, rfl⟩ := h0.form
 obtain ⟨p1, k1, rfl⟩ := h1.form
 obtain ⟨p2, k2, rfl⟩ := h2.form
 obtain ⟨p3, k3, rfl⟩ := h3.form
 obtain ⟨p4, k4, rfl⟩ := h4.form
 obtain ⟨b0, b1, rfl, s0, s1⟩ := hu.wd
 obtain ⟨pb, kb, bb, bo, rfl, _, _, hpb, hcb, _⟩ := s0.books
 obtain ⟨pm, km, rfl⟩ := s1.form
 obtain ⟨W0, hW0⟩ : ∃ z9, z9 = (w.alloc (.cells #[.slice p0 h.sectors.length k0, .slice p1 h.prices.length k1, .slice p2 h.dates.length k2, .slice p3 h.frm.length k3, .slice p4 h.holds.length k4] 41)).alloc (.cells #[.slice pb W.books.length kb, .slice pm W.msgs.length km] 34) := ⟨_, rfl⟩
 have hS : Step w W0 := by subst hW0; exact (by repeat (first | (with_reducible assumption) | (with_reducible exact Step.refl _) | (with_reducible apply Step.s_alloc) | (with_reducible apply Step.s_drew) | (with_reducible apply Step.s_drewN) | (with_reducible refine Step.trans ?_ (by with_reducible assumption))))
 have hb0 : Bx W0 w.heap.size [.slice p0 h.sectors.length k0, .slice p1 h.prices.length k1, .slice p2 h.dates.length k2, .slice p3 h.frm.length k3, .slice p4 h.holds.length k4] 41 := by subst hW0; exact (Bx.new _ [_, _, _, _, _] _).alloc _
 have hb1 : Bx W0 (w.heap.size + 1) [.slice pb W.books.length kb, .slice pm W.msgs.length km] 34 := by subst hW0; exact Bx.new' _ [_, _] _ _ (by simp)
 have HS := Lib.hid hS
 have HB := Lib.hid hb0
 have HB1 := Lib.hid hb1
 have HC := Lib.hid (And.intro hpb hcb)
 have HM := Lib.hid s1
 have HW := Lib.hid hW0
 clear hv hu h0 h1 h2 h3 h4 s0 s1 hpb hcb hS hb0 hb1 hW0
 go_enter Tryz.func52, Tryz.ntmps52
 go_upto_region 1 with (fail)
 rw [← HW.out]
 clear HW
 obtain ⟨e0, e1, e2, e3, e4⟩ := cells5 HB.out
 obtain ⟨u0, u1⟩ : _ ∧ _ := ⟨HB1.out.cell 0, HB1.out.cell 1⟩
 simp only [zD, zE] at u0 u1
 refine wp_region_seqM (fun c d v a w h => by cases d <;> exact h) (kdOf [1, 8, 16] []) [0, 1, 3, 7, 15, 31, 63, 15, 143, 511, 1023, 2047, 4095, 8191, 4095, 20479, 65535, 131071, 262143] [0, 1, 2, 3, 4, 5, 6, 7, 8, 9, 10, 11, 12, 13, 14, 15, 16, 17, 18] [] (by kernel_rfl) (by kernel_rfl) (fun i T z hi hk => by simp [kdOf] at hk <;> (try (split at hk <;> cases hk))) ?_
 intro Wx hWx
 have e0 := (hWx).kc e0; have e1 := (hWx).kc e1; have e2 := (hWx).kc e2; have e3 := (hWx).kc e3; have e4 := (hWx).kc e4; have u0 := (hWx).kc u0; have u1 := (hWx).kc u1
 repeat (first | (refine run_off rfl rfl (by rfl) ?_; (try simp only [Act.put, zA, zB, zC])) | (refine run_chain_off rfl rfl (by rfl) (K0_mono _) ?_; (try simp only [Act.put, zA, zB, zC])) | ((refine run_want rfl rfl (by rfl) ⟨?_, fun W hW => ?_, ?_⟩; rotate_left; (· (have d0 := hW.kc e0; have d1 := hW.kc e1; have d2 := hW.kc e2; have d3 := hW.kc e3; have d4 := hW.kc e4; have d5 := hW.kc u0; have d6 := hW.kc u1; go_simp; (try with_reducible rfl)))); (try simp only [Act.put, zA, zB, zC])))
 refine run_chain rfl rfl (by rfl) (fun Wi hWi K' hK => ?_)
 have HTi := Lib.hid (hWx.trans hWi)
 clear hWx
 go_simp
 refine (valid_any S h _ _ (HH0.out.keep (.of_step (HS.out.trans HTi.out)))).mono ?_
 rintro e wn ⟨rfl, hSn⟩
 refine hK _ _ (StepX.of hSn) ?_
 have HT := Lib.hid (HTi.out.trans hSn)
 have e0 := (hWi.trans hSn).kc e0; have e1 := (hWi.trans hSn).kc e1; have e2 := (hWi.trans hSn).kc e2; have e3 := (hWi.trans hSn).kc e3; have e4 := (hWi.trans hSn).kc e4; have u0 := (hWi.trans hSn).kc u0; have u1 := (hWi.trans hSn).kc u1
 clear hSn hK HTi hWi
 cases qv : valid h with
 | false =>
  have HF := Lib.hid (show worldB h W = false by simp [worldB, qv])
  clear qv
  (try simp only [Act.put, zA, zB, zC])
  repeat (first | (refine run_off rfl rfl (by rfl) ?_; (try simp only [Act.put, zA, zB, zC])) | (refine run_chain_off rfl rfl (by rfl) (K0_mono _) ?_; (try simp only [Act.put, zA, zB, zC])) | ((refine run_want rfl rfl (by rfl) ⟨?_, fun W hW => ?_, ?_⟩; rotate_left; (· (have d0 := hW.kc e0; have d1 := hW.kc e1; have d2 := hW.kc e2; have d3 := hW.kc e3; have d4 := hW.kc e4; have d5 := hW.kc u0; have d6 := hW.kc u1; go_simp; (try with_reducible rfl)))); (try simp only [Act.put, zA, zB, zC])))
  refine run_end (L := []) rfl (fun Wy hWy => ?_)
  go_wp2
  go_ret
  exact ⟨by rw [HF.out]; rfl, HS.out.trans (HT.out.trans hWy)⟩
 | true =>
 have HV := Lib.hid qv
 clear qv
 (try simp only [Act.put, zA, zB, zC])
 repeat (first | (refine run_off rfl rfl (by rfl) ?_; (try simp only [Act.put, zA, zB, zC])) | (refine run_chain_off rfl rfl (by rfl) (K0_mono _) ?_; (try simp only [Act.put, zA, zB, zC])) | ((refine run_want rfl rfl (by rfl) ⟨?_, fun W hW => ?_, ?_⟩; rotate_left; (· (have d0 := hW.kc e0; have d1 := hW.kc e1; have d2 := hW.kc e2; have d3 := hW.kc e3; have d4 := hW.kc e4; have d5 := hW.kc u0; have d6 := hW.kc u1; go_simp; (try with_reducible rfl)))); (try simp only [Act.put, zA, zB, zC])))
 refine run_chain rfl rfl (by rfl) (fun Wi hWi K' hK => ?_)
 have HTi := Lib.hid (HT.out.trans hWi)
 have hcall := agencies_any S h _ Wi (HH0.out.keep (.of_step (HS.out.trans HTi.out))) (by have := bounds_valid HV.out; omega)
 rw [agN_eq] at hcall
 have HCALL := Lib.hid hcall
 clear HT hcall
 go_simp
 refine HCALL.out.mono ?_
 rintro e wn2 ⟨rfl, hSn⟩
 clear HCALL
 refine hK _ _ (StepX.of hSn) ?_
 have HT := Lib.hid (HTi.out.trans hSn)
 have e0 := (hWi.trans hSn).kc e0; have e1 := (hWi.trans hSn).kc e1; have e2 := (hWi.trans hSn).kc e2; have e3 := (hWi.trans hSn).kc e3; have e4 := (hWi.trans hSn).kc e4; have u0 := (hWi.trans hSn).kc u0; have u1 := (hWi.trans hSn).kc u1
 clear hSn hK HTi hWi
 by_cases ql : W.books.length = agN h
 rotate_left
 ·have d1 : ((W.books.length : Int) != (agN h : Int)) = true := by rw [bne_iff_ne]; omega
  have HF := Lib.hid (show worldB h W = false by simp [worldB, ql])
  clear ql
  (try simp only [Act.put, zA, zB, zC])
  repeat (first | (refine run_off rfl rfl (by rfl) ?_; (try simp only [Act.put, zA, zB, zC])) | (refine run_chain_off rfl rfl (by rfl) (K0_mono _) ?_; (try simp only [Act.put, zA, zB, zC])) | ((refine run_want rfl rfl (by rfl) ⟨?_, fun W hW => ?_, ?_⟩; rotate_left; (· (have d0 := hW.kc e0; have d1 := hW.kc e1; have d2 := hW.kc e2; have d3 := hW.kc e3; have d4 := hW.kc e4; have d5 := hW.kc u0; have d6 := hW.kc u1; go_simp; (try with_reducible rfl)))); (try simp only [Act.put, zA, zB, zC])))
  refine run_end (L := []) rfl (fun Wy hWy => ?_)
  go_wp2
  go_ret
  exact ⟨by rw [HF.out]; rfl, HS.out.trans (HT.out.trans hWy)⟩
 have d1 : ((W.books.length : Int) != (agN h : Int)) = false := by rw [ql]; simp
 have HL := Lib.hid ql
 clear ql
 (try simp only [Act.put, zA, zB, zC])
 repeat (first | (refine run_off rfl rfl (by rfl) ?_; (try simp only [Act.put, zA, zB, zC])) | (refine run_chain_off rfl rfl (by rfl) (K0_mono _) ?_; (try simp only [Act.put, zA, zB, zC])) | ((refine run_want rfl rfl (by rfl) ⟨?_, fun W hW => ?_, ?_⟩; rotate_left; (· (have d0 := hW.kc e0; have d1 := hW.kc e1; have d2 := hW.kc e2; have d3 := hW.kc e3; have d4 := hW.kc e4; have d5 := hW.kc u0; have d6 := hW.kc u1; go_simp; (try with_reducible rfl)))); (try simp only [Act.put, zA, zB, zC])))
 refine run_chain rfl rfl (by rfl) (fun Wi hWi K' hK => ?_)
 have HTi := Lib.hid (HT.out.trans hWi)
 clear HT
 go_simp
 refine (all_mess S T h W.msgs _ _ _ (HH0.out.keep (.of_step (HS.out.trans HTi.out))) (HM.out.keep (.of_step (HS.out.trans HTi.out))) HV.out).mono ?_
 rintro e wn3 ⟨rfl, hSn⟩
 refine hK _ _ (StepX.of hSn) ?_
 have HT := Lib.hid (HTi.out.trans hSn)
 clear hSn hK HTi hWi e0 e1 e2 e3 e4 u0 u1 d1
 cases qm : W.msgs.all (messV h) with
 | false =>
  have HF := Lib.hid (show worldB h W = false by simp only [worldB, qm]; simp)
  clear qm
  (try simp only [Act.put, zA, zB, zC])
  repeat (first | (refine run_off rfl rfl (by rfl) ?_; (try simp only [Act.put, zA, zB, zC])) | (refine run_chain_off rfl rfl (by rfl) (K0_mono _) ?_; (try simp only [Act.put, zA, zB, zC])) | ((refine run_want rfl rfl (by rfl) ⟨?_, fun W hW => ?_, ?_⟩; rotate_left; (· (skip; go_simp; (try with_reducible rfl)))); (try simp only [Act.put, zA, zB, zC])))
  refine run_end (L := []) rfl (fun Wy hWy => ?_)
  go_wp2
  go_ret
  exact ⟨by rw [HF.out]; rfl, HS.out.trans (HT.out.trans hWy)⟩
 | true =>
 have HMS := Lib.hid qm
 clear qm
 (try simp only [Act.put, zA, zB, zC])
 repeat (first | (refine run_off rfl rfl (by rfl) ?_; (try simp only [Act.put, zA, zB, zC])) | (refine run_chain_off rfl rfl (by rfl) (K0_mono _) ?_; (try simp only [Act.put, zA, zB, zC])) | ((refine run_want rfl rfl (by rfl) ⟨?_, fun W hW => ?_, ?_⟩; rotate_left; (· (skip; go_simp; (try with_reducible rfl)))); (try simp only [Act.put, zA, zB, zC])))
 refine run_end (L := []) rfl (fun Wy hWy => ?_)
 have HTy := Lib.hid (HT.out.trans hWy)
 clear hWy HT
 have u0 := (HB1.out.step HTy.out).cell 0
 simp only [List.getElem?_cons_zero] at u0
 go_upto_region 4 with (fail)
 clear u0
 have hl6 : W.books.length ≤ 6 := by have := bounds_valid HV.out; have := HL.out; omega
 go_loopw [29] (fun iv wr => ∃ k : Nat, k ≤ W.books.length ∧ iv = .int .i64 k ∧ (List.range k).all (okA h W) = true ∧ Step W0 wr) (fun iv _ => W.books.length - (intOf iv).toNat)
 case atStart => exact ⟨0, Nat.zero_le _, rfl, by simp, HTy.out⟩
 case round =>
  obtain ⟨k, hk, rfl, ht, hT⟩ := hrel
  have HA := Lib.hid ht
  have HT := Lib.hid hT
  clear ht hT
  by_cases hlt : k < W.books.length
  ·obtain rfl := HC.out.1 (by omega)
   obtain ⟨z1, z2, z4, ⟨f0, f1, f2, f3, f4, f5⟩, t1, t2, t4⟩ := HC.out.2 k hlt
   obtain ⟨b, hb⟩ : ∃ b, b = W.books[k] := ⟨_, rfl⟩
   have hbq : bk W k = b := by rw [hb]; exact bk_at hlt
   rw [← hb] at f0 f3 f5 t1 t2 t4
   obtain ⟨r1, n1, e1⟩ := t1.form
   obtain ⟨r2, n2, e2⟩ := t2.form
   obtain ⟨r4, n4, e4⟩ := t4.form
   subst e1 e2 e4
   have HX := Lib.hid (show AV T w (.agg #[.int .i64 b.agency, .slice r1 b.seats.length n1, .slice r2 b.off.length n2, .int .i64 b.sent, .slice r4 b.took.length n4, .int .i64 b.cash]) b from ⟨_, rfl, _, _, _, rfl, t1, t2, t4⟩)
   have HBQ := Lib.hid hbq
   have f0 := (HS.out.trans HT.out).kc f0; have f1 := (HS.out.trans HT.out).kc f1; have f2 := (HS.out.trans HT.out).kc f2; have f3 := (HS.out.trans HT.out).kc f3; have f4 := (HS.out.trans HT.out).kc f4; have f5 := (HS.out.trans HT.out).kc f5
   clear t1 t2 t4 hb hbq
   have hix : (0 : Int) ≤ (k : Int) ∧ (k : Int) < (W.books.length : Int) := by omega
   go_upto_region 6 with (fail)
   obtain ⟨W5, hW5⟩ : ∃ z9, z9 = wr.alloc (.cells #[.int .i64 b.agency, .slice r1 b.seats.length n1, .slice r2 b.off.length n2, .int .i64 b.sent, .slice r4 b.took.length n4, .int .i64 b.cash] 77) := ⟨_, rfl⟩
   have hb5 : Bx W5 wr.heap.size [.int .i64 b.agency, .slice r1 b.seats.length n1, .slice r2 b.off.length n2, .int .i64 b.sent, .slice r4 b.took.length n4, .int .i64 b.cash] 77 := by subst hW5; exact Bx.new _ [_, _, _, _, _, _] _
   have hS5 : Step wr W5 := by subst hW5; exact Step.alloc _ _
   rw [← hW5]
   obtain ⟨g9, hg9⟩ : ∃ g, g = wr.heap.size := ⟨_, rfl⟩
   rw [← hg9] at hb5 ⊢
   have HT5 := Lib.hid (HT.out.trans hS5)
   clear f0 f1 f2 f3 f4 f5
   obtain ⟨f0, f1, f2, f3, f4, f5⟩ := cells6 hb5
   clear hW5 hb5 hS5 hg9
   by_cases qa : b.agency = k
   rotate_left
   ·have d1 : (b.agency != (k : Int)) = true := by rw [bne_iff_ne]; exact qa
    have HF := Lib.hid (show worldB h W = false by
     have := okA_bad (h := h) (W := W) hlt (by simp [okA, HBQ.out, qa])
     simp only [worldB, this]; simp)
    clear qa
    go_wp2
    go_ret
    exact ⟨by rw [HF.out]; rfl, HS.out.trans HT5.out⟩
   have d1 : (b.agency != (k : Int)) = false := by rw [qa]; simp
   have HQA := Lib.hid qa
   clear qa
   obtain ⟨e0, e1, e2, e3, e4⟩ := cells5 (HB.out.step HT5.out)
   go_wp2_with fail
   refine (book_any (fun _ => False) h b _ _ _ (AV.weak (fun _ _ h => h.elim) (HH0.out.keep (.of_step (HS.out.trans HT5.out)))) (AV.weak (fun _ _ h => h.elim) (HX.out.keep (.of_step (HS.out.trans HT5.out)))) HV.out).mono ?_
   rintro e wn ⟨rfl, hSn⟩
   have HTn := Lib.hid (HT5.out.trans hSn)
   clear hSn e0 e1 e2 e3 e4 f0 f1 f2 f3 f4 f5 d1
   cases qb : bookB h b with
   | false =>
    have HF := Lib.hid (show worldB h W = false by
     have := okA_bad (h := h) (W := W) hlt (by simp [okA, HBQ.out, qb])
     simp only [worldB, this]; simp)
    clear qb
    go_wp2
    go_ret
    exact ⟨by rw [HF.out]; rfl, HS.out.trans HTn.out⟩
   | true =>
    have HF := Lib.hid (okA_step HA.out (show okA h W k = true by simp [okA, HBQ.out, HQA.out, qb]))
    clear qb
    go_wp2
    go_roundw
    case rel => exact ⟨k + 1, by omega, by go_num, HF.out, HTn.out⟩
    case measure => simp [intOf]; omega
  ·have hkl : k = W.books.length := by omega
   have HF := Lib.hid (show worldB h W = true by simp only [worldB, HV.out, HL.out, HMS.out]; have := HA.out; rw [hkl, HL.out] at this; simp [this])
   clear hkl
   go_wp2
   go_ret
   exact ⟨by rw [HF.out]; rfl, HS.out.trans HT.out⟩
def stepS (f : Int → Option Int) (m : BT.Message) : Int → Option Int := fun y => if y = m.frm then some ((f m.frm).getD 0 + 1) else f y
def stepT (f : Key → Option Int) (m : BT.Message) : Key → Option Int := fun y => if y = keyOf m then some m.dst else f y
def sentF (l : List BT.Message) : Int → Option Int := l.foldl stepS (fun _ => none)
def toF (l : List BT.Message) : Key → Option Int := l.foldl stepT (fun _ => none)
def mgAt (l : List BT.Message) (i : Nat) : BT.Message := l[i]?.getD ⟨0, 0, 0, 0, []⟩
theorem mgAt_at {l : List BT.Message} {i : Nat} (h : i < l.length) : mgAt l i = l[i] := by simp [mgAt, h]
def numA (l : List BT.Message) (i : Nat) : Bool := decide ((mgAt l i).number = ((sentF (l.take i)) (mgAt l i).frm).getD 0 + 1)
def numOk (l : List BT.Message) : Bool := (List.range l.length).all (numA l)
def knowB (W : Wd) (a : Nat) : Bool := decide ((bk W a).sent = (sentF W.msgs a).getD 0) && (bk W a).took.all (fun x => decide (toF W.msgs x = some (a : Int)))
def countedB (W : Wd) : Bool := numOk W.msgs && (List.range W.books.length).all (knowB W)
theorem sentF_bound : ∀ (l : List BT.Message) (f : Int → Option Int) (n : Nat) (y : Int), (∀ z, 0 ≤ (f z).getD 0 ∧ (f z).getD 0 ≤ n) → 0 ≤ ((l.foldl stepS f) y).getD 0 ∧ ((l.foldl stepS f) y).getD 0 ≤ (n + l.length : Nat)
 | [], f, n, y, h => by have := h y; simpa using this
 | m :: l, f, n, y, h => by
  rw [List.foldl_cons]
  have := sentF_bound l (stepS f m) (n + 1) y (fun z => by
   have h1 := h z
   have h2 := h m.frm
   unfold stepS
   split
   ·simp; omega
   ·omega)
  simp only [List.length_cons]
  omega
theorem sentF_le (l : List BT.Message) (y : Int) : 0 ≤ ((sentF l) y).getD 0 ∧ ((sentF l) y).getD 0 ≤ l.length := by
 have := sentF_bound l (fun _ => none) 0 y (by simp)
 simpa [sentF] using this
theorem sentF_next {l : List BT.Message} {k : Nat} (h : k < l.length) : sentF (l.take (k + 1)) = fun y => if y = l[k].frm then some ((sentF (l.take k) l[k].frm).getD 0 + 1) else sentF (l.take k) y := by
 unfold sentF
 rw [List.take_succ_eq_append_getElem h, List.foldl_append]; rfl
theorem toF_next {l : List BT.Message} {k : Nat} (h : k < l.length) : toF (l.take (k + 1)) = fun y => if y = keyOf l[k] then some l[k].dst else toF (l.take k) y := by
 unfold toF
 rw [List.take_succ_eq_append_getElem h, List.foldl_append]; rfl
theorem all_step {p : Nat → Bool} {k : Nat} (h1 : (List.range k).all p = true) (h2 : p k = true) : (List.range (k + 1)).all p = true := by
 rw [List.range_succ, List.all_append, h1]; simp [h2]
theorem all_bad {p : Nat → Bool} {k n : Nat} (hk : k < n) (h2 : p k = false) : (List.range n).all p = false := by
 rw [List.all_eq_false]
 exact ⟨k, List.mem_range.2 hk, by simp [h2]⟩
set_option maxRecDepth 100000 in
set_option maxHeartbeats 4000000 in
theorem counted_any (T : Nat → Prop) (W : Wd) (u : Value) (w : World) (hu : AV T w u W) :
    Calls Tryz.prog 58 #[u] w fun e w' => e = .returned (.bool (countedB W)) ∧ Step w w' := by
  have hmf : ∀ (fn : Fn) (first cap : Array Value) (w : World), (Instr.makeFunc fn first cap).run Tryz.prog w = .ok (.func fn first cap) w := fun _ _ _ _ => rfl
  obtain ⟨b0, b1, rfl, s0, s1⟩ := hu.wd
  have H0 := Lib.hid s0
  have H1 := Lib.hid s1
  obtain ⟨pb, kb, bb, bo, rfl, _, hlb, hpb, hcb, _⟩ := s0.books
  have HLB := Lib.hid hlb
  obtain ⟨pm, km, bm, mo, rfl, _, hlm, hpm, hcm, _⟩ := s1.mess
  have HCB := Lib.hid (And.intro hpb hcb)
  have HCM := Lib.hid (And.intro hpm hcm)
  have HLM := Lib.hid hlm
  clear s0 s1 hu hpb hcb hpm hcm hlm hlb
  obtain ⟨W0, hW0⟩ : ∃ z9, z9 = w.alloc (.cells #[.slice pb W.books.length kb, .slice pm W.msgs.length km] 34) := ⟨_, rfl⟩
  have hS : Step w W0 := by subst hW0; exact (by repeat (first | (with_reducible assumption) | (with_reducible exact Step.refl _) | (with_reducible apply Step.s_alloc) | (with_reducible apply Step.s_drew) | (with_reducible apply Step.s_drewN) | (with_reducible refine Step.trans ?_ (by with_reducible assumption))))
  have hb0 : Bx W0 w.heap.size [.slice pb W.books.length kb, .slice pm W.msgs.length km] 34 := by subst hW0; exact Bx.new _ [_, _] _
  have hz0 : W0.heap.size = w.heap.size + 1 := by subst hW0; simp
  have HS := Lib.hid hS
  have HB := Lib.hid hb0
  have HZ := Lib.hid hz0
  have HW := Lib.hid hW0
  clear hS hb0 hW0 hz0
  go_enter Tryz.func58, Tryz.ntmps58
  go_upto_region 1 with (fail)
  rw [← HW.out]
  clear HW
  have hmm := @run_makeMap Tryz.prog
  go_upto_region 2 with (fail)
  clear hmm
  obtain ⟨V1, hV1⟩ : ∃ z9, z9 = ((W0.alloc (.map #[] 0)).alloc (.map #[] 0)).alloc (.cells #[.map (some (W0.heap.size + 1))] 174) := ⟨_, rfl⟩
  have hS1 : Step W0 V1 := by subst hV1; exact ((Step.alloc _ _).trans (Step.alloc _ _)).trans (Step.alloc _ _)
  have hms : MF iv V1 W0.heap.size (sentF []) := by
    subst hV1
    exact ((MF.new iv (W0.alloc (.map #[] 0)) W0.heap.size 0 (heap_alloc_new W0 _)).keep (Step.alloc _ _).keeps id).keep (Step.alloc _ _).keeps id
  have hmt : MF kv V1 (W0.heap.size + 1) (toF []) := by
    subst hV1
    exact (MF.new kv ((W0.alloc (.map #[] 0)).alloc (.map #[] 0)) (W0.heap.size + 1) 0 (by have := heap_alloc_new (W0.alloc (.map #[] 0)) (.map #[] 0); simpa using this)).keep (Step.alloc _ _).keeps id
  have hct : Bx V1 (W0.heap.size + 1 + 1) [.map (some (W0.heap.size + 1))] 174 := by subst hV1; exact Bx.new' _ [_] _ _ (by simp)
  rw [← hV1]
  obtain ⟨r, hr⟩ : ∃ r, r = W0.heap.size := ⟨_, rfl⟩
  have hwr : w.heap.size + 1 = r := by rw [hr]; exact HZ.out.symm
  rw [← hr] at hms hmt hct ⊢
  have HR := Lib.hid hwr
  have HS1 := Lib.hid (HS.out.trans hS1)
  have HB1 := Lib.hid (HB.out.step hS1)
  have HCT := Lib.hid hct
  have HMS := Lib.hid hms
  have HMT := Lib.hid hmt
  have HX : Hid (∀ j, (j = r ∨ j = r + 1) → w.heap.size ≤ j) := Lib.hid (fun j hj => by omega)
  clear hS1 hms hmt hct hV1 hr hwr HS HB HZ
  have u1 := HB1.out.cell 1
  simp only [zD, zE] at u1
  go_upto_region 3 with (fail)
  clear u1
  go_loopw [14] (fun i wr => ∃ k : Nat, k ≤ W.msgs.length ∧ i = .int .i64 k ∧ (List.range k).all (numA W.msgs) = true ∧ MF iv wr r (sentF (W.msgs.take k)) ∧ MF kv wr (r + 1) (toF (W.msgs.take k)) ∧ StepX (fun j => j = r ∨ j = r + 1) V1 wr) (fun i _ => W.msgs.length - (intOf i).toNat)
  case atStart => exact ⟨0, Nat.zero_le _, rfl, by simp, HMS.out, HMT.out, StepX.refl _ _⟩
  case round =>
    obtain ⟨k, hk, rfl, ht, hms, hmt, hT⟩ := hrel
    have HA := Lib.hid ht
    have HT := Lib.hid hT
    have HMS' := Lib.hid hms
    have HMT' := Lib.hid hmt
    have HTW := Lib.hid (StepX.fresh HS1.out hT HX.out)
    clear ht hT hms hmt HMS HMT
    by_cases hlt : k < W.msgs.length
    · obtain rfl := HCM.out.1 (by omega)
      obtain ⟨c4, ⟨g0, g1, g2, g3, g4⟩, s4⟩ := HCM.out.2 k hlt
      obtain ⟨m, hm⟩ : ∃ m, m = W.msgs[k] := ⟨_, rfl⟩
      rw [← hm] at g0 g1 g2 g3 s4
      obtain ⟨p4, k4, e4⟩ := s4.form
      subst e4
      have HM := Lib.hid (show AV T w (.agg #[.int .i64 m.frm, .int .i64 m.dst, .int .i64 m.number, .int .i64 m.shw, .slice p4 m.seats.length k4]) m from ⟨_, rfl, _, rfl, s4⟩)
      have HME := Lib.hid hm
      have g0 := (HTW.out).kc g0; have g1 := (HTW.out).kc g1; have g2 := (HTW.out).kc g2; have g3 := (HTW.out).kc g3; have g4 := (HTW.out).kc g4
      have hix : (0 : Int) ≤ (k : Int) ∧ (k : Int) < (W.msgs.length : Int) := by omega
      clear s4 hm
      go_upto_region 5 with (fail)
      obtain ⟨W5, hW5⟩ : ∃ z9, z9 = wr.alloc (.cells #[.int .i64 m.frm, .int .i64 m.dst, .int .i64 m.number, .int .i64 m.shw, .slice p4 m.seats.length k4] 86) := ⟨_, rfl⟩
      have hb5 : Bx W5 wr.heap.size [.int .i64 m.frm, .int .i64 m.dst, .int .i64 m.number, .int .i64 m.shw, .slice p4 m.seats.length k4] 86 := by subst hW5; exact Bx.new _ [_, _, _, _, _] _
      have hS5 : Step wr W5 := by subst hW5; exact Step.alloc _ _
      rw [← hW5]
      obtain ⟨g9, hg9⟩ : ∃ g, g = wr.heap.size := ⟨_, rfl⟩
      rw [← hg9] at hb5 ⊢
      clear g0 g1 g2 g3 g4 hg9 hW5
      have HT5 := Lib.hid (HT.out.trans (StepX.of hS5))
      have h5s := HMS'.out.keep hS5.keeps id
      have h5t := HMT'.out.keep hS5.keeps id
      have hn5 : g9 ≠ r := h5s.nob hb5
      have hn6 : g9 ≠ r + 1 := h5t.nob hb5
      obtain ⟨v, hv⟩ : ∃ v, v = (sentF (W.msgs.take k) m.frm).getD 0 := ⟨_, rfl⟩
      have hlk := run_lookup_mf mapUnderI keyT_int m.frm h5s false
      rw [← hv] at hlk
      have hvb := sentF_le (W.msgs.take k) m.frm
      rw [← hv] at hvb
      have hwr : IntKind.i64.wrap (v + 1) = v + 1 := by
        have := HLM.out
        have h3 : (W.msgs.take k).length ≤ k := by rw [List.length_take]; exact Nat.min_le_left _ _
        rw [IntKind.wrap_i64]; omega
      obtain ⟨w6, hmu, h6s, hw6⟩ := run_mapUpdate_mf mapUnderI keyT_int m.frm (v + 1) h5s
      unfold iv at hlk hmu
      simp only [Bool.false_eq_true, if_false] at hlk
      have h6t : MF kv w6 (r + 1) (toF (W.msgs.take k)) := h5t.keep hw6.keeps (by omega)
      have hb6 := hb5.keep hw6.keeps hn5
      have HB5 := Lib.hid hb5
      have HB6 := Lib.hid hb6
      have H6S := Lib.hid h6s
      have H6T := Lib.hid h6t
      have H56 : Hid (StepX (fun j => j = r ∨ j = r + 1) W5 w6) := Lib.hid ⟨hw6.os, hw6.tape, hw6.output, Nat.le_of_eq hw6.size.symm, fun k _ hk => hw6.block k (fun e => hk (.inl e))⟩
      have HV := Lib.hid hv
      have HN := Lib.hid (And.intro hn5 hn6)
      clear hb5 hS5 h5s h5t hn5 hn6 hv hvb h6s hw6 h6t hb6
      obtain ⟨m0, m1, m2, m3, m4⟩ := cells5 HB5.out
      go_upto_region 6 with (fail)
      clear m0 m1 m2 m3 m4 hlk hmu
      obtain ⟨m0, m1, m2, m3, m4⟩ := cells5 HB6.out
      have hlk := run_lookup_mf mapUnderI keyT_int m.frm H6S.out false
      simp only [Bool.false_eq_true, if_false, if_true, Option.getD_some] at hlk
      unfold iv at hlk
      have HT6 := Lib.hid (HT5.out.trans H56.out)
      clear HT5 H56
      by_cases qn : m.number = v + 1
      rotate_left
      · have d1 : (m.number != v + 1) = true := by rw [bne_iff_ne]; exact qn
        have HF := Lib.hid (show countedB W = false by
          have h1 : numOk W.msgs = false := all_bad hlt (by unfold numA; rw [mgAt_at hlt, ← HME.out, ← HV.out]; simp [qn])
          simp [countedB, h1])
        clear qn
        go_wp2
        go_ret
        exact ⟨by rw [HF.out]; rfl, StepX.fresh HS1.out HT6.out HX.out⟩
      have d1 : (m.number != v + 1) = false := by rw [qn]; simp
      have HQ := Lib.hid (show numA W.msgs k = true by unfold numA; rw [mgAt_at hlt, ← HME.out, ← HV.out]; simp [qn])
      clear qn
      go_upto_region 8 with (fail)
      clear hlk d1 m0 m1 m2 m3 m4
      refine wp_region_seqM (fun c d v a w h => by cases d <;> exact h) (kdOf [2] []) [0, 0, 2, 0, 8, 31] [0, 1, 3, 4, 2] [5] (by kernel_rfl) (by kernel_rfl) (fun i T z hi hk => by simp [kdOf] at hk <;> (try (split at hk <;> cases hk))) ?_
      intro Wx hWx
      have u0 := (HCT.out.keep HT6.out.keeps (by have := HX.out; omega)).cell 0
      simp only [List.getElem?_cons_zero] at u0
      obtain ⟨m0, m1, m2, m3, m4⟩ := cells5 HB6.out
      have u0 := (hWx).kc u0; have m0 := (hWx).kc m0; have m1 := (hWx).kc m1; have m2 := (hWx).kc m2; have m3 := (hWx).kc m3; have m4 := (hWx).kc m4
      repeat (first | (refine run_off rfl rfl (by rfl) ?_; (try simp only [Act.put, zA, zB, zC])) | (refine run_chain_off rfl rfl (by rfl) (K0_mono _) ?_; (try simp only [Act.put, zA, zB, zC])) | ((refine run_want rfl rfl (by rfl) ⟨?_, fun W hW => ?_, ?_⟩; rotate_left; (· (have d0 := hW.kc u0; have d1 := hW.kc m0; have d2 := hW.kc m1; have d3 := hW.kc m2; have d4 := hW.kc m3; have d5 := hW.kc m4; go_simp; (try with_reducible rfl)))); (try simp only [Act.put, zA, zB, zC])))
      refine run_chain rfl rfl (by rfl) (fun Wi hWi K' hK => ?_)
      have HTi := Lib.hid (hWx.trans hWi)
      clear hWx
      have hcall := Lib.hid (key_any T m (.agg #[.int .i64 m.frm, .int .i64 m.dst, .int .i64 m.number, .int .i64 m.shw, .slice p4 m.seats.length k4]) Wi (HM.out.keep (.of_step ((StepX.fresh HS1.out HT6.out HX.out).trans HTi.out))))
      go_simp
      refine hcall.out.mono ?_
      clear hcall
      rintro e wn ⟨rfl, hSn⟩
      refine hK _ _ (StepX.of hSn) ?_
      have HTn := Lib.hid (HTi.out.trans hSn)
      clear hSn hK HTi hWi u0 m0 m1 m2 m3 m4
      (try simp only [Act.put, zA, zB, zC])
      refine run_end (L := [_]) rfl (fun Wy hWy => ?_)
      have HTy := Lib.hid (HTn.out.trans hWy)
      clear hWy HTn
      have h8t := H6T.out.keep HTy.out.keeps id
      have h8s := H6S.out.keep HTy.out.keeps id
      obtain ⟨w8, hmu, h9t, hw8⟩ := run_mapUpdate_mf mapUnderK keyT_key (keyOf m) m.dst h8t
      unfold kv keyOf at hmu
      dsimp only at hmu
      have h9s := h8s.keep hw8.keeps (by omega)
      have H9S := Lib.hid h9s
      have H9T := Lib.hid h9t
      have H8 : Hid (StepX (fun j => j = r ∨ j = r + 1) Wy w8) := Lib.hid ⟨hw8.os, hw8.tape, hw8.output, Nat.le_of_eq hw8.size.symm, fun k _ hk => hw8.block k (fun e => hk (.inr e))⟩
      clear h8t h8s h9s h9t hw8
      have hl9 := HLM.out
      go_wp2
      go_roundw
      case rel => exact ⟨k + 1, by omega, by go_num, all_step HA.out HQ.out, by rw [sentF_next hlt, ← HME.out, ← HV.out]; exact H9S.out, by rw [toF_next hlt, ← HME.out]; exact H9T.out, (HT6.out.trans (StepX.of HTy.out)).trans H8.out⟩
      case measure => simp [intOf]; omega
    · have HAA := Lib.hid (show numOk W.msgs = true by have h1 : k = W.msgs.length := by omega
                                                       subst h1; exact HA.out)
      have HES := Lib.hid (show MF iv wr r (sentF W.msgs) by have := HMS'.out; rwa [List.take_of_length_le (by omega)] at this)
      have HET := Lib.hid (show MF kv wr (r + 1) (toF W.msgs) by have := HMT'.out; rwa [List.take_of_length_le (by omega)] at this)
      have HBB := Lib.hid (HB1.out.keep HT.out.keeps (by have := HR.out; omega))
      have HCC := Lib.hid (HCT.out.keep HT.out.keeps (by omega))
      clear HA HMS' HMT' HT
      generalize wr = wq at *
      have u0 := HBB.out.cell 0
      simp only [List.getElem?_cons_zero] at u0
      go_upto_region 11 with (fail)
      clear u0
      go_loopw [39] (fun i w2 => ∃ k : Nat, k ≤ W.books.length ∧ i = .int .i64 k ∧ (List.range k).all (knowB W) = true ∧ Step wq w2) (fun i _ => W.books.length - (intOf i).toNat)
      case atStart => exact ⟨0, Nat.zero_le _, rfl, by simp, Step.refl _⟩
      case round =>
        obtain ⟨k, hk, rfl, ht, hT⟩ := hrel
        have HA := Lib.hid ht
        have HT := Lib.hid hT
        have HTW2 := Lib.hid (HTW.out.trans hT)
        clear ht hT
        by_cases hlt : k < W.books.length
        · obtain rfl := HCB.out.1 (by omega)
          obtain ⟨z1, z2, z4, ⟨f0, f1, f2, f3, f4, f5⟩, t1, t2, t4⟩ := HCB.out.2 k hlt
          obtain ⟨b, hb⟩ : ∃ b, b = W.books[k] := ⟨_, rfl⟩
          have hbq : bk W k = b := by rw [hb]; exact bk_at hlt
          rw [← hb] at f0 f3 f5 t1 t2 t4
          obtain ⟨r1, n1, e1⟩ := t1.form
          obtain ⟨r2, n2, e2⟩ := t2.form
          obtain ⟨r4, n4, e4⟩ := t4.form
          subst e1 e2 e4
          have HX4 := Lib.hid t4
          have HBQ := Lib.hid hbq
          have f0 := (HTW2.out).kc f0; have f1 := (HTW2.out).kc f1; have f2 := (HTW2.out).kc f2; have f3 := (HTW2.out).kc f3; have f4 := (HTW2.out).kc f4; have f5 := (HTW2.out).kc f5
          clear t1 t2 t4 hb hbq
          have hix : (0 : Int) ≤ (k : Int) ∧ (k : Int) < (W.books.length : Int) := by omega
          go_upto_region 13 with (fail)
          obtain ⟨W7, hW7⟩ : ∃ z9, z9 = (wr.alloc (.cells #[.int .i64 k] 3)).alloc (.cells #[.int .i64 b.agency, .slice r1 b.seats.length n1, .slice r2 b.off.length n2, .int .i64 b.sent, .slice r4 b.took.length n4, .int .i64 b.cash] 77) := ⟨_, rfl⟩
          have hb7 : Bx W7 (wr.heap.size + 1) [.int .i64 b.agency, .slice r1 b.seats.length n1, .slice r2 b.off.length n2, .int .i64 b.sent, .slice r4 b.took.length n4, .int .i64 b.cash] 77 := by subst hW7; exact Bx.new' _ [_, _, _, _, _, _] _ _ (by simp)
          have hi7 : Bx W7 wr.heap.size [.int .i64 k] 3 := by subst hW7; exact (Bx.new _ [_] _).alloc _
          have hS7 : Step wr W7 := by subst hW7; exact (Step.alloc _ _).trans (Step.alloc _ _)
          rw [← hW7]
          obtain ⟨g9, hg9⟩ : ∃ g, g = wr.heap.size := ⟨_, rfl⟩
          rw [← hg9] at hb7 hi7 ⊢
          have HT7 := Lib.hid (HT.out.trans hS7)
          have HTW7 := Lib.hid (HTW2.out.trans hS7)
          clear f0 f1 f2 f3 f4 f5 hW7 hS7 hg9
          obtain ⟨f0, f1, f2, f3, f4, f5⟩ := cells6 hb7
          have i0 := hi7.cell 0
          simp only [List.getElem?_cons_zero] at i0
          clear hb7 hi7
          have hlk := run_lookup_mf mapUnderI keyT_int (k : Int) (HES.out.keep HT7.out.keeps id) false
          obtain ⟨v, hv⟩ : ∃ v, v = (sentF W.msgs k).getD 0 := ⟨_, rfl⟩
          rw [← hv] at hlk
          unfold iv at hlk
          simp only [Bool.false_eq_true, if_false] at hlk
          have HV := Lib.hid hv
          clear hv
          by_cases qs : b.sent = v
          rotate_left
          · have d1 : (b.sent != v) = true := by rw [bne_iff_ne]; exact qs
            have HF := Lib.hid (show countedB W = false by
              have := all_bad (p := knowB W) hlt (by unfold knowB; rw [HBQ.out, ← HV.out]; simp [qs])
              simp [countedB, this])
            clear qs
            go_wp2
            go_ret
            exact ⟨by rw [HF.out]; rfl, HTW7.out⟩
          have d1 : (b.sent != v) = false := by rw [qs]; simp
          have HQS := Lib.hid qs
          clear qs
          have hcall := Lib.hid (known_any T (toF W.msgs) b.took k (.slice r4 b.took.length n4) (r + 1 + 1) (r + 1) g9 W7 (HX4.out.keep (.of_step HTW7.out)) ((HCC.out.step HT7.out).cell 0) (HET.out.keep HT7.out.keeps id) i0)
          go_wp2_with fail
          refine hcall.out.mono ?_
          clear hcall
          rintro e wn ⟨rfl, hSn⟩
          have HTn := Lib.hid (HT7.out.trans hSn)
          have HTWn := Lib.hid (HTW7.out.trans hSn)
          clear hSn f0 f1 f2 f3 f4 f5 i0 hlk d1
          cases qk : b.took.all (fun x => decide (toF W.msgs x = some (k : Int))) with
          | false =>
            have HF := Lib.hid (show countedB W = false by
              have := all_bad (p := knowB W) hlt (by unfold knowB; rw [HBQ.out, qk]; simp)
              simp [countedB, this])
            clear qk
            go_wp2
            go_ret
            exact ⟨by rw [HF.out]; rfl, HTWn.out⟩
          | true =>
            have HF := Lib.hid (show knowB W k = true by unfold knowB; rw [HBQ.out, ← HV.out, qk]; simp [HQS.out])
            clear qk
            have hl9 : W.books.length ≤ 9223372036854775807 := HLB.out
            go_wp2
            go_roundw
            case rel => exact ⟨k + 1, by omega, by go_num, all_step HA.out HF.out, HTn.out⟩
            case measure => simp [intOf]; omega
        · have HF := Lib.hid (show countedB W = true by
            have h1 : k = W.books.length := by omega
            subst h1
            unfold countedB
            rw [HAA.out, HA.out]; rfl)
          clear HA HAA
          go_wp2
          go_ret
          exact ⟨by rw [HF.out]; rfl, HTW2.out⟩
set_option maxHeartbeats 2000000 in
theorem index_int (S : Nat → Prop) (l : List Int) (n : Int) (v : Value) (w : World) (hv : SL S w v l) :
  Calls Tryz.prog 149 #[v, .int .i64 n] w fun e w' => ∃ q : Int, e = .returned (.int .i64 q) ∧ (0 ≤ q ↔ n ∈ l) ∧ Step w w' := by
 obtain ⟨px, kx, bx, ox, rfl, _, mx, hpx, hcx, _⟩ := hv.ints
 have HX := Lib.hid (And.intro hpx hcx)
 clear hv hpx hcx
 go_enter Tryz.func149, Tryz.ntmps149
 go_wp2
 go_loopw [8] (fun i wr => ∃ k : Nat, k ≤ l.length ∧ i = .int .i64 k ∧ n ∉ l.take k ∧ Step w wr) (fun i _ => l.length - (intOf i).toNat)
 case atStart => exact ⟨0, Nat.zero_le _, rfl, by simp, Step.refl _⟩
 case round =>
  obtain ⟨k, hk, rfl, ht, hT⟩ := hrel
  have HA := Lib.hid ht
  have HT := Lib.hid hT
  clear ht hT
  by_cases hlt : k < l.length
  ·obtain rfl := HX.out.1 (by omega)
   have g1 := HX.out.2 k hlt
   have g1 := HT.out.kc g1
   have hix1 : (0 : Int) ≤ (k : Int) ∧ (k : Int) < (l.length : Int) := by omega
   obtain ⟨x, hx⟩ := (show ∃ x, l[k] = x from ⟨_, rfl⟩)
   rw [hx] at g1
   have HK := Lib.hid hx
   clear hx
   by_cases q1 : n = x
   ·have d1 : (n == x) = true := by rw [q1]; simp
    have HQ := Lib.hid (show n ∈ l by rw [q1, ← HK.out]; exact List.getElem_mem hlt)
    clear q1
    go_wp2
    go_ret
    exact ⟨k, rfl, by simpa using HQ.out, HT.out⟩
   ·have d1 : (n == x) = false := by rw [beq_eq_false_iff_ne]; exact q1
    have HF := Lib.hid (not_take hlt HA.out (show n ≠ l[k] by rw [HK.out]; exact q1))
    clear q1
    go_wp2
    go_roundw
    case rel => exact ⟨k + 1, by omega, by go_num, HF.out, HT.out⟩
    case measure => simp [intOf]; omega
  ·have HE := Lib.hid (show n ∉ l by have := HA.out; rwa [List.take_of_length_le (by omega)] at this)
   clear HA
   go_wp2
   go_ret
   exact ⟨-1, rfl, by simp [HE.out], HT.out⟩
set_option maxHeartbeats 1000000 in
theorem contains_int (S : Nat → Prop) (l : List Int) (n : Int) (v : Value) (w : World) (hv : SL S w v l) :
  Calls Tryz.prog 138 #[v, .int .i64 n] w fun e w' => e = .returned (.bool (decide (n ∈ l))) ∧ Step w w' := by
 have HC := Lib.hid (index_int S l n v _ hv)
 obtain ⟨p, c, rfl⟩ := hv.form
 clear hv
 go_enter Tryz.func138, Tryz.ntmps138
 go_wp2_with fail
 refine HC.out.mono ?_
 rintro e wn ⟨q, rfl, hn, hSn⟩
 have HF := Lib.hid (show decide (n ∈ l) = decide (0 ≤ q) by
  by_cases z : 0 ≤ q
  ·rw [decide_eq_true z, decide_eq_true (hn.1 z)]
  ·rw [decide_eq_false z, decide_eq_false (fun h => z (hn.2 h))])
 have HT := Lib.hid hSn
 clear hSn hn HC
 go_wp2
 go_ret
 exact ⟨by rw [HF.out]; rfl, HT.out⟩
def carriesB (W : Wd) (m : BT.Message) (s n : Int) : Bool := decide (m.shw = s) && (decide (n ∈ m.seats) && !hasK (bk W m.dst.toNat).took (keyOf m))
set_option maxRecDepth 100000 in
set_option maxHeartbeats 2000000 in
theorem carries_any (S T : Nat → Prop) (W : Wd) (m : BT.Message) (s n : Int) (u v : Value) (w : World) (hu : AV S w u W) (hv : AV T w v m) (hd : 0 ≤ m.dst ∧ m.dst < W.books.length) :
  Calls Tryz.prog 105 #[u, v, .int .i64 s, .int .i64 n] w fun e w' => e = .returned (.bool (carriesB W m s n)) ∧ Step w w' := by
 obtain ⟨b0, b1, rfl, s0, s1⟩ := hu.wd
 obtain ⟨pb, kb, bb, bo, rfl, _, _, hpb, hcb, _⟩ := s0.books
 obtain ⟨pm, km, rfl⟩ := s1.form
 have HV0 := Lib.hid hv
 obtain ⟨c4, rfl, s4⟩ := hv.message
 obtain ⟨px, kx, rfl⟩ := s4.form
 obtain ⟨W0, hW0⟩ : ∃ z9, z9 = (w.alloc (.cells #[.slice pb W.books.length kb, .slice pm W.msgs.length km] 34)).alloc (.cells #[.int .i64 m.frm, .int .i64 m.dst, .int .i64 m.number, .int .i64 m.shw, .slice px m.seats.length kx] 86) := ⟨_, rfl⟩
 have hS : Step w W0 := by subst hW0; exact (by repeat (first | (with_reducible assumption) | (with_reducible exact Step.refl _) | (with_reducible apply Step.s_alloc) | (with_reducible apply Step.s_drew) | (with_reducible apply Step.s_drewN) | (with_reducible refine Step.trans ?_ (by with_reducible assumption))))
 have hb0 : Bx W0 w.heap.size [.slice pb W.books.length kb, .slice pm W.msgs.length km] 34 := by subst hW0; exact (Bx.new _ [_, _] _).alloc _
 have hb1 : Bx W0 (w.heap.size + 1) [.int .i64 m.frm, .int .i64 m.dst, .int .i64 m.number, .int .i64 m.shw, .slice px m.seats.length kx] 86 := by subst hW0; exact Bx.new' _ [_, _, _, _, _] _ _ (by simp)
 have HM := Lib.hid s4
 have HS := Lib.hid hS
 have HB0 := Lib.hid hb0
 have HB1 := Lib.hid hb1
 have HW := Lib.hid hW0
 obtain ⟨d, hdd⟩ : ∃ d : Nat, m.dst = d := ⟨m.dst.toNat, by omega⟩
 have hdl : d < W.books.length := by omega
 obtain rfl := hpb (by omega)
 obtain ⟨z1, z2, z4, ⟨f0, f1, f2, f3, f4, f5⟩, t1, t2, t4⟩ := hcb d hdl
 have hbk : bk W m.dst.toNat = W.books[d] := by rw [hdd, Int.toNat_natCast]; exact bk_at hdl
 obtain ⟨b, hb⟩ : ∃ b, b = W.books[d] := ⟨_, rfl⟩
 rw [← hb] at t4 hbk
 obtain ⟨p4, k4, hf4⟩ := t4.form
 subst hf4
 have HT4 := Lib.hid t4
 have HBK := Lib.hid hbk
 have HF4 := Lib.hid f4
 have HD := Lib.hid (And.intro hdd hdl)
 clear hu hv s0 s1 s4 hpb hcb hS hb0 hb1 hW0 f0 f1 f2 f3 f4 f5 t1 t2 t4 hb hbk hdd hd
 go_enter Tryz.func105, Tryz.ntmps105
 go_upto_region 1 with (fail)
 rw [← HW.out]
 clear HW
 obtain ⟨m0, m1, m2, m3, m4⟩ := cells5 HB1.out
 obtain ⟨u0, u1⟩ : _ ∧ _ := ⟨HB0.out.cell 0, HB0.out.cell 1⟩
 simp only [zD, zE] at u0 u1
 have f4 := HS.out.kc HF4.out
 have hd := HD.out
 have hrg : (0 : Int) ≤ m.dst ∧ m.dst < (W.books.length : Int) := by omega
 have htn : m.dst.toNat = d := by omega
 clear hd
 by_cases q1 : m.shw = s
 rotate_left
 ·have d1 : (m.shw == s) = false := by rw [beq_eq_false_iff_ne]; exact q1
  have HF := Lib.hid (show carriesB W m s n = false by simp [carriesB, q1])
  clear q1
  refine wp_region_seqM (fun c d v a w h => by cases d <;> exact h) (kdOf [8, 19, 20] []) [0, 1, 0, 7, 15, 31, 63, 31, 255, 511, 1023, 2047, 4095, 2047, 10239, 32767, 65535, 131071, 2047, 264191, 1048575, 2097151, 4194303, 8388607] [0, 1, 2, 3, 4, 5, 6, 7, 8, 9, 10, 11, 12, 13, 14, 15, 16, 17, 18, 19, 20, 21, 22, 23] [] (by kernel_rfl) (by kernel_rfl) (fun i T z hi hk => by simp [kdOf] at hk <;> (try (split at hk <;> cases hk))) ?_
  intro Wx hWx
  have m0 := (hWx).kc m0; have m1 := (hWx).kc m1; have m2 := (hWx).kc m2; have m3 := (hWx).kc m3; have m4 := (hWx).kc m4; have u0 := (hWx).kc u0; have u1 := (hWx).kc u1; have f4 := (hWx).kc f4
  repeat (first | (refine run_off rfl rfl (by rfl) ?_; (try simp only [Act.put, zA, zB, zC])) | (refine run_chain_off rfl rfl (by rfl) (K0_mono _) ?_; (try simp only [Act.put, zA, zB, zC])) | ((refine run_want rfl rfl (by rfl) ⟨?_, fun W hW => ?_, ?_⟩; rotate_left; (· (have d0 := hW.kc m0; have d1 := hW.kc m1; have d2 := hW.kc m2; have d3 := hW.kc m3; have d4 := hW.kc m4; have d5 := hW.kc u0; have d6 := hW.kc u1; have d7 := hW.kc f4; go_simp; (try with_reducible rfl)))); (try simp only [Act.put, zA, zB, zC])))
  refine run_end (L := []) rfl (fun Wy hWy => ?_)
  go_wp2
  go_ret
  exact ⟨by rw [HF.out]; rfl, HS.out.trans (hWx.trans hWy)⟩
 have d1 : (m.shw == s) = true := by rw [q1]; simp
 have HQ1 := Lib.hid q1
 clear q1
 refine wp_region_seqM (fun c d v a w h => by cases d <;> exact h) (kdOf [8, 19, 20] []) [0, 1, 0, 7, 15, 31, 63, 31, 255, 511, 1023, 2047, 4095, 2047, 10239, 32767, 65535, 131071, 2047, 264191, 1048575, 2097151, 4194303, 8388607] [0, 1, 2, 3, 4, 5, 6, 7, 8, 9, 10, 11, 12, 13, 14, 15, 16, 17, 18, 19, 20, 21, 22, 23] [] (by kernel_rfl) (by kernel_rfl) (fun i T z hi hk => by simp [kdOf] at hk <;> (try (split at hk <;> cases hk))) ?_
 intro Wx hWx
 have m0 := (hWx).kc m0; have m1 := (hWx).kc m1; have m2 := (hWx).kc m2; have m3 := (hWx).kc m3; have m4 := (hWx).kc m4; have u0 := (hWx).kc u0; have u1 := (hWx).kc u1; have f4 := (hWx).kc f4
 repeat (first | (refine run_off rfl rfl (by rfl) ?_; (try simp only [Act.put, zA, zB, zC])) | (refine run_chain_off rfl rfl (by rfl) (K0_mono _) ?_; (try simp only [Act.put, zA, zB, zC])) | ((refine run_want rfl rfl (by rfl) ⟨?_, fun W hW => ?_, ?_⟩; rotate_left; (· (have d0 := hW.kc m0; have d1 := hW.kc m1; have d2 := hW.kc m2; have d3 := hW.kc m3; have d4 := hW.kc m4; have d5 := hW.kc u0; have d6 := hW.kc u1; have d7 := hW.kc f4; go_simp; (try with_reducible rfl)))); (try simp only [Act.put, zA, zB, zC])))
 refine run_chain rfl rfl (by rfl) (fun Wi hWi K' hK => ?_)
 have HTi := Lib.hid (hWx.trans hWi)
 clear hWx
 go_simp
 refine (contains_int T m.seats n _ _ (HM.out.keep (.of_step (HS.out.trans HTi.out)))).mono ?_
 rintro e wn ⟨rfl, hSn⟩
 refine hK _ _ (StepX.of hSn) ?_
 have HT2 := Lib.hid (HTi.out.trans hSn)
 have m0 := (hWi.trans hSn).kc m0; have m1 := (hWi.trans hSn).kc m1; have m2 := (hWi.trans hSn).kc m2; have m3 := (hWi.trans hSn).kc m3; have m4 := (hWi.trans hSn).kc m4; have u0 := (hWi.trans hSn).kc u0; have u1 := (hWi.trans hSn).kc u1; have f4 := (hWi.trans hSn).kc f4
 clear hSn hK HTi hWi
 by_cases q2 : n ∈ m.seats
 rotate_left
 ·rw [decide_eq_false q2]
  have HF := Lib.hid (show carriesB W m s n = false by simp [carriesB, q2])
  clear q2
  (try simp only [Act.put, zA, zB, zC])
  repeat (first | (refine run_off rfl rfl (by rfl) ?_; (try simp only [Act.put, zA, zB, zC])) | (refine run_chain_off rfl rfl (by rfl) (K0_mono _) ?_; (try simp only [Act.put, zA, zB, zC])) | ((refine run_want rfl rfl (by rfl) ⟨?_, fun W hW => ?_, ?_⟩; rotate_left; (· (have d0 := hW.kc m0; have d1 := hW.kc m1; have d2 := hW.kc m2; have d3 := hW.kc m3; have d4 := hW.kc m4; have d5 := hW.kc u0; have d6 := hW.kc u1; have d7 := hW.kc f4; go_simp; (try with_reducible rfl)))); (try simp only [Act.put, zA, zB, zC])))
  refine run_end (L := []) rfl (fun Wy hWy => ?_)
  go_wp2
  go_ret
  exact ⟨by rw [HF.out]; rfl, HS.out.trans (HT2.out.trans hWy)⟩
 rw [decide_eq_true q2]
 have HQ2 := Lib.hid q2
 clear q2
 (try simp only [Act.put, zA, zB, zC])
 repeat (first | (refine run_off rfl rfl (by rfl) ?_; (try simp only [Act.put, zA, zB, zC])) | (refine run_chain_off rfl rfl (by rfl) (K0_mono _) ?_; (try simp only [Act.put, zA, zB, zC])) | ((refine run_want rfl rfl (by rfl) ⟨?_, fun W hW => ?_, ?_⟩; rotate_left; (· (have d0 := hW.kc m0; have d1 := hW.kc m1; have d2 := hW.kc m2; have d3 := hW.kc m3; have d4 := hW.kc m4; have d5 := hW.kc u0; have d6 := hW.kc u1; have d7 := hW.kc f4; go_simp; (try with_reducible rfl)))); (try simp only [Act.put, zA, zB, zC])))
 refine run_chain rfl rfl (by rfl) (fun Wi hWi K' hK => ?_)
 have HTi := Lib.hid (HT2.out.trans hWi)
 clear hWi
 go_simp
 refine (key_any T m _ _ (HV0.out.keep (.of_step (HS.out.trans HTi.out)))).mono ?_
 rintro e wn2 ⟨rfl, hSn⟩
 refine hK _ _ (StepX.of hSn) ?_
 have HT3 := Lib.hid (HTi.out.trans hSn)
 clear hSn hK HTi
 (try simp only [Act.put, zA, zB, zC])
 repeat (first | (refine run_off rfl rfl (by rfl) ?_; (try simp only [Act.put, zA, zB, zC])) | (refine run_chain_off rfl rfl (by rfl) (K0_mono _) ?_; (try simp only [Act.put, zA, zB, zC])) | ((refine run_want rfl rfl (by rfl) ⟨?_, fun W hW => ?_, ?_⟩; rotate_left; (· (skip; go_simp; (try with_reducible rfl)))); (try simp only [Act.put, zA, zB, zC])))
 refine run_chain rfl rfl (by rfl) (fun Wi hWi K' hK => ?_)
 have HTi := Lib.hid (HT3.out.trans hWi)
 clear hWi
 go_simp
 refine (contains_key S b.took m.frm m.number _ _ (HT4.out.keep (.of_step (HS.out.trans HTi.out)))).mono ?_
 rintro e wn3 ⟨rfl, hSn⟩
 have HF := Lib.hid (show carriesB W m s n = !hasK b.took ⟨m.frm, m.number⟩ by simp [carriesB, HQ1.out, HQ2.out, HBK.out, keyOf])
 obtain ⟨qq, hqq⟩ : ∃ z9, z9 = hasK b.took ⟨m.frm, m.number⟩ := ⟨_, rfl⟩
 rw [← hqq] at HF ⊢
 refine hK _ _ (StepX.of hSn) ?_
 have HT4 := Lib.hid (HTi.out.trans hSn)
 clear hSn hK HTi hqq
 (try simp only [Act.put, zA, zB, zC])
 repeat (first | (refine run_off rfl rfl (by rfl) ?_; (try simp only [Act.put, zA, zB, zC])) | (refine run_chain_off rfl rfl (by rfl) (K0_mono _) ?_; (try simp only [Act.put, zA, zB, zC])) | ((refine run_want rfl rfl (by rfl) ⟨?_, fun W hW => ?_, ?_⟩; rotate_left; (· (skip; go_simp; (try with_reducible rfl)))); (try simp only [Act.put, zA, zB, zC])))
 refine run_end (L := []) rfl (fun Wy hWy => ?_)
 go_wp2
 go_ret
 exact ⟨by rw [HF.out]; rfl, HS.out.trans (HT4.out.trans hWy)⟩
def numsB (p : Nat → Bool) (k : Nat) : List Int := ((List.range k).filter p).map fun (a : Nat) => (a : Int)
theorem numsB_yes {p : Nat → Bool} {k : Nat} (h : p k = true) : numsB p (k + 1) = numsB p k ++ [(k : Int)] := by simp [numsB, List.range_succ, List.filter_append, h]
theorem numsB_no {p : Nat → Bool} {k : Nat} (h : p k = false) : numsB p (k + 1) = numsB p k := by simp [numsB, List.range_succ, List.filter_append, h]
theorem numsB_zero (p : Nat → Bool) : numsB p 0 = [] := by simp [numsB]
theorem numsB_len (p : Nat → Bool) (k : Nat) : (numsB p k).length ≤ k := by
 have := List.length_filter_le p (List.range k)
 simpa [numsB] using this
def agsP (W : Wd) (s n : Int) (a : Nat) : Bool := decide (seatAt (bk W a) s n ≠ -1)
def mgsP (W : Wd) (s n : Int) (k : Nat) : Bool := carriesB W (ms W k) s n
theorem _root_.Go.BT.SL.seat {S : Nat → Prop} {w : World} {v : Value} {b : Book} (h : SL S w v b.seats) {i j : Nat} (hi : i < b.seats.length) (hj : j < b.seats[i].length) :
  ∃ rb ro rk qb qo qk, v = .slice (some ⟨rb, ro, none⟩) b.seats.length rk ∧ w.cell? ⟨rb, ro + i, none⟩ = some (.slice (some ⟨qb, qo, none⟩) b.seats[i].length qk) ∧ w.cell? ⟨qb, qo + j, none⟩ = some (.int .i64 (seatAt b i j)) := by
 obtain ⟨p, c, rb, ro, rfl, _, _, hp, hc, _⟩ := h.rows
 obtain ⟨u, h1, h2⟩ := hc i hi
 obtain ⟨p2, c2, qb, qo, rfl, _, _, hp2, hc2, _⟩ := h2.ints
 rw [hp2 (by omega)] at h1
 refine ⟨rb, ro, c, qb, qo, c2, by rw [hp (by omega)], h1, ?_⟩
 rw [hc2 j hj]
 simp [seatAt, List.getD_eq_getElem?_getD, hi, hj]
set_option maxRecDepth 100000 in
set_option maxHeartbeats 4000000 in
theorem places_any (S : Nat → Prop) (W : Wd) (i j : Nat) (u : Value) (w : World) (hu : AV S w u W) (hbk : ∀ a (ha : a < W.books.length), ∃ hi : i < W.books[a].seats.length, j < W.books[a].seats[i].length) (hms : ∀ k (hk : k < W.msgs.length), 0 ≤ W.msgs[k].dst ∧ W.msgs[k].dst < W.books.length) (hl1 : W.books.length ≤ 1000000) (hl2 : W.msgs.length ≤ 1000000) :
  Calls Tryz.prog 55 #[u, .int .i64 i, .int .i64 j] w fun e w' => ∃ va vm, e = .returned (.tuple #[va, vm]) ∧ SL (Old w) w' va (numsB (agsP W i j) W.books.length) ∧ SL (Old w) w' vm (numsB (mgsP W i j) W.msgs.length) ∧ Step w w' := by
 have HU := Lib.hid hu
 obtain ⟨b0, b1, rfl, s0, s1⟩ := hu.wd
 obtain ⟨pb, kb, bb, bo, rfl, _, _, hpb, hcb, _⟩ := s0.books
 obtain ⟨pm, km, mb, mo, rfl, _, _, hpm, hcm, _⟩ := s1.mess
 obtain ⟨W0, hW0⟩ : ∃ z9, z9 = w.alloc (.cells #[.slice pb W.books.length kb, .slice pm W.msgs.length km] 34) := ⟨_, rfl⟩
 have hS : Step w W0 := by subst hW0; exact Step.alloc _ _
 have hb0 : Bx W0 w.heap.size [.slice pb W.books.length kb, .slice pm W.msgs.length km] 34 := by subst hW0; exact Bx.new _ [_, _] _
 have HS := Lib.hid hS
 have HB := Lib.hid hb0
 have HC := Lib.hid (And.intro (And.intro hpb hcb) (And.intro hpm hcm))
 have HP := Lib.hid (And.intro hbk hms)
 have HW := Lib.hid hW0
 have hl1' := hl1
 have hl2' := hl2
 clear hu s0 s1 hpb hcb hpm hcm hS hb0 hbk hms hW0 hl1 hl2
 go_enter Tryz.func55, Tryz.ntmps55
 go_upto_region 1 with (fail)
 rw [← HW.out]
 clear HW
 have u0 := HB.out.cell 0
 simp only [List.getElem?_cons_zero] at u0
 have HT0 := Lib.hid (Step.refl W0)
 go_upto_region 2 with (fail)
 clear u0
 go_loopw [6, 15] (fun v6 iv wr => ∃ k : Nat, k ≤ W.books.length ∧ iv = .int .i64 k ∧ OwnL (fun _ => False) W0.heap.size 3 wr v6 (numsB (agsP W i j) k) ∧ Step W0 wr) (fun _ iv _ => W.books.length - (intOf iv).toNat)
 case atStart => exact ⟨0, Nat.zero_le _, rfl, by rw [numsB_zero]; exact OwnL.nil _ _ _ _, HT0.out⟩
 case round =>
  obtain ⟨k, hk, rfl, hown, hT⟩ := hrel
  have HT := Lib.hid hT
  have HOW := Lib.hid hown
  clear hT
  obtain ⟨p6, c6, rfl⟩ : ∃ p c, u6 = .slice p (numsB (agsP W i j) k).length c := by obtain ⟨p, c, e, _, _⟩ := hown.form; exact ⟨p, c, e⟩
  clear hown
  have hnl := numsB_len (agsP W i j) k
  by_cases hlt : k < W.books.length
  ·obtain rfl := HC.out.1.1 (by omega)
   obtain ⟨z1, z2, z4, ⟨f0, f1, f2, f3, f4, f5⟩, t1, t2, t4⟩ := HC.out.1.2 k hlt
   obtain ⟨hi, hj⟩ := HP.out.1 k hlt
   have hbq : bk W k = W.books[k] := bk_at hlt
   obtain ⟨b, hb⟩ : ∃ b, b = W.books[k] := ⟨_, rfl⟩
   obtain ⟨x, hx⟩ : ∃ x, x = seatAt b i j := ⟨_, rfl⟩
   have hpq : agsP W i j k = decide (x ≠ -1) := by rw [agsP, hbq, ← hb, hx]
   rw [← hb] at f0 f3 f5 t1 t2 t4
   have hi' : i < b.seats.length := by rw [hb]; exact hi
   have hj' : j < b.seats[i].length := by subst hb; exact hj
   obtain ⟨rb, ro, rk, qb, qo, qk, e1, r0, r1⟩ := t1.seat hi' hj'
   subst e1
   obtain ⟨p2, k2, e2⟩ := t2.form
   obtain ⟨p4, k4, e4⟩ := t4.form
   subst e2 e4
   rw [← hx] at r1
   obtain ⟨nr, hnr⟩ : ∃ n, n = b.seats[i].length := ⟨_, rfl⟩
   rw [← hnr] at r0 hj'
   have HPQ := Lib.hid hpq
   clear hb hx hbq hpq hnr t1 t2 t4 hi hj
   have f0 := (HS.out.trans HT.out).kc f0; have f1 := (HS.out.trans HT.out).kc f1; have f2 := (HS.out.trans HT.out).kc f2; have f3 := (HS.out.trans HT.out).kc f3; have f4 := (HS.out.trans HT.out).kc f4; have f5 := (HS.out.trans HT.out).kc f5; have r0 := (HS.out.trans HT.out).kc r0; have r1 := (HS.out.trans HT.out).kc r1
   have hix : (0 : Int) ≤ (k : Int) ∧ (k : Int) < (W.books.length : Int) := by omega
   have hiy : (0 : Int) ≤ (i : Int) ∧ (i : Int) < (b.seats.length : Int) := by omega
   have hjy : (0 : Int) ≤ (j : Int) ∧ (j : Int) < (nr : Int) := by omega
   go_upto_region 4 with (fail)
   obtain ⟨W5, hW5⟩ : ∃ z9, z9 = wr.alloc (.cells #[.int .i64 b.agency, .slice (some ⟨rb, ro, none⟩) b.seats.length rk, .slice p2 b.off.length k2, .int .i64 b.sent, .slice p4 b.took.length k4, .int .i64 b.cash] 77) := ⟨_, rfl⟩
   have hb5 : Bx W5 wr.heap.size [.int .i64 b.agency, .slice (some ⟨rb, ro, none⟩) b.seats.length rk, .slice p2 b.off.length k2, .int .i64 b.sent, .slice p4 b.took.length k4, .int .i64 b.cash] 77 := by subst hW5; exact Bx.new _ [_, _, _, _, _, _] _
   have hS5 : Step wr W5 := by subst hW5; exact Step.alloc _ _
   rw [← hW5]
   obtain ⟨g9, hg9⟩ : ∃ g, g = wr.heap.size := ⟨_, rfl⟩
   rw [← hg9] at hb5 ⊢
   have y1 := hb5.cell 1
   simp only [zD, zE] at y1
   have r0 := (hS5).kc r0; have r1 := (hS5).kc r1
   have hown5 := HOW.out.step hS5
   have HT5 := Lib.hid (HT.out.trans hS5)
   clear hW5 hb5 hS5 hg9 HOW f0 f1 f2 f3 f4 f5
   by_cases q : x = -1
   ·have d1 : (x != -1) = false := by rw [q]; rfl
    have hq : agsP W i j k = false := by rw [HPQ.out, q]; rfl
    have HN := Lib.hid (numsB_no hq)
    have HO := Lib.hid hown5
    clear q hq hown5
    go_wp2
    go_roundw
    case rel => exact ⟨k + 1, by omega, by go_num, by rw [HN.out]; exact HO.out, HT5.out⟩
    case measure => simp [intOf]; omega
   ·have d1 : (x != -1) = true := by rw [bne_iff_ne]; exact q
    have hq : agsP W i j k = true := by rw [HPQ.out]; exact decide_eq_true q
    clear q
    have hbase : W0.heap.size ≤ (W5.alloc (.cells #[.int .i64 (k : Int)] 3)).heap.size := by have := HT5.out.size; simp; omega
    go_wp2_with (at_builtin; refine wpl_append (α := Int) (S := fun _ => False) (base := W0.heap.size) (v := .slice p6 (numsB (agsP W i j) k).length c6) (l := numsB (agsP W i j) k) (m := [(k : Int)]) eiInts rfl _ _ rfl rfl rfl (hown5.step (Step.alloc _ _)) (SLe.one 3 rfl) ((numsB (agsP W i j) k).length + 1) (by simp) (numsB (agsP W i j) (k + 1)) (numsB_yes hq).symm (by simp only [maxLen]; omega) (by omega) hbase ?_)
    intro p' c' w7 hown7 hg7
    have hal := Step.alloc W5 (.cells #[.int .i64 (k : Int)] 3)
    have hlt7 := (hown5.step hal).lt
    have HT7 := Lib.hid (show Step W0 w7 from StepX.fresh (HT5.out.trans hal) (StepX.grown (X := fun j' => (Value.slice p6 (numsB (agsP W i j) k).length c6).ownBlock = some j') hg7 fun j' hj _ => hj) (fun j' hj => (hlt7 j' hj).1))
    have HO7 := Lib.hid hown7
    clear hown5 hown7 hg7 hal hlt7 hbase
    go_wp2
    go_roundw
    case rel => exact ⟨k + 1, by omega, by go_num, HO7.out, HT7.out⟩
    case measure => simp [intOf]; omega
  ·have hkl : k = W.books.length := by omega
   subst hkl
   have HA := Lib.hid ((HOW.out.flat (Old w)).slb fun g hg e => by have := (HOW.out.lt g hg).1; have := HS.out.size; unfold Old at e; omega)
   have u1 := (HB.out.step HT.out).cell 1
   simp only [zD, zE] at u1
   obtain ⟨wo, hwo⟩ : ∃ z9, z9 = wr := ⟨_, rfl⟩
   subst hwo
   have HTo := Lib.hid (Step.refl wo)
   go_upto_region 8 with (fail)
   clear u1 HOW
   go_loopw [7, 37] (fun v7 iv wr => ∃ k : Nat, k ≤ W.msgs.length ∧ iv = .int .i64 k ∧ OwnL (fun _ => False) wo.heap.size 3 wr v7 (numsB (mgsP W i j) k) ∧ Step wo wr) (fun _ iv _ => W.msgs.length - (intOf iv).toNat)
   case atStart => exact ⟨0, Nat.zero_le _, rfl, by rw [numsB_zero]; exact OwnL.nil _ _ _ _, HTo.out⟩
   case round =>
    obtain ⟨k, hk, rfl, hown, hT⟩ := hrel
    have HTr := Lib.hid hT
    have HOW := Lib.hid hown
    clear hT
    obtain ⟨p7, c7, rfl⟩ : ∃ p c, u7 = .slice p (numsB (mgsP W i j) k).length c := by obtain ⟨p, c, e, _, _⟩ := hown.form; exact ⟨p, c, e⟩
    clear hown
    have hnl := numsB_len (mgsP W i j) k
    by_cases hlt : k < W.msgs.length
    ·obtain rfl := HC.out.2.1 (by omega)
     obtain ⟨z4, ⟨f0, f1, f2, f3, f4⟩, t4⟩ := HC.out.2.2 k hlt
     obtain ⟨m, hm⟩ : ∃ b, b = W.msgs[k] := ⟨_, rfl⟩
     have hmq : ms W k = m := by rw [hm]; exact ms_at hlt
     have hmd := HP.out.2 k hlt
     rw [← hm] at f0 f1 f2 f3 t4 hmd
     obtain ⟨p4, k4, e4⟩ := t4.form
     subst e4
     have HMV := Lib.hid (show AV S w (.agg #[.int .i64 m.frm, .int .i64 m.dst, .int .i64 m.number, .int .i64 m.shw, .slice p4 m.seats.length k4]) m from ⟨_, rfl, _, rfl, t4⟩)
     have HMQ := Lib.hid (And.intro hmq hmd)
     clear hm hmq hmd t4
     have f0 := ((HS.out.trans HT.out).trans HTr.out).kc f0; have f1 := ((HS.out.trans HT.out).trans HTr.out).kc f1; have f2 := ((HS.out.trans HT.out).trans HTr.out).kc f2; have f3 := ((HS.out.trans HT.out).trans HTr.out).kc f3; have f4 := ((HS.out.trans HT.out).trans HTr.out).kc f4
     have hix : (0 : Int) ≤ (k : Int) ∧ (k : Int) < (W.msgs.length : Int) := by omega
     go_upto_region 10 with (fail)
     obtain ⟨W5, hW5⟩ : ∃ z9, z9 = wr.alloc (.cells #[.int .i64 m.frm, .int .i64 m.dst, .int .i64 m.number, .int .i64 m.shw, .slice p4 m.seats.length k4] 86) := ⟨_, rfl⟩
     have hb5 : Bx W5 wr.heap.size [.int .i64 m.frm, .int .i64 m.dst, .int .i64 m.number, .int .i64 m.shw, .slice p4 m.seats.length k4] 86 := by subst hW5; exact Bx.new _ [_, _, _, _, _] _
     have hS5 : Step wr W5 := by subst hW5; exact Step.alloc _ _
     rw [← hW5]
     obtain ⟨g9, hg9⟩ : ∃ g, g = wr.heap.size := ⟨_, rfl⟩
     rw [← hg9] at hb5 ⊢
     obtain ⟨m0, m1, m2, m3, m4⟩ := cells5 hb5
     have HT5 := Lib.hid (HTr.out.trans hS5)
     have hown5 := HOW.out.step hS5
     have HO5 := Lib.hid hown5
     clear hW5 hb5 hS5 hg9 HOW f0 f1 f2 f3 f4 hown5
     obtain ⟨u0, u1⟩ : _ ∧ _ := ⟨(HB.out.step (HT.out.trans HT5.out)).cell 0, (HB.out.step (HT.out.trans HT5.out)).cell 1⟩
     simp only [zD, zE] at u0 u1
     go_wp2_with fail
     refine (carries_any S S W m i j _ _ _ (HU.out.keep (.of_step ((HS.out.trans HT.out).trans HT5.out))) (HMV.out.keep (.of_step ((HS.out.trans HT.out).trans HT5.out))) HMQ.out.2).mono ?_
     rintro e wn ⟨rfl, hSn⟩
     have HTn := Lib.hid (HT5.out.trans hSn)
     have hown5 := HO5.out.step hSn
     clear hSn HT5 HO5 u0 u1 m0 m1 m2 m3 m4
     cases hq : mgsP W i j k with
     | false =>
      rw [show carriesB W m i j = false by rw [← hq, mgsP, HMQ.out.1]]
      have HN := Lib.hid (numsB_no hq)
      have HO := Lib.hid hown5
      clear hq hown5
      go_wp2
      go_roundw
      case rel => exact ⟨k + 1, by omega, by go_num, by rw [HN.out]; exact HO.out, HTn.out⟩
      case measure => simp [intOf]; omega
     | true =>
      rw [show carriesB W m i j = true by rw [← hq, mgsP, HMQ.out.1]]
      have hbase : wo.heap.size ≤ (wn.alloc (.cells #[.int .i64 (k : Int)] 3)).heap.size := by have := HTn.out.size; simp; omega
      go_wp2_with (at_builtin; refine wpl_append (α := Int) (S := fun _ => False) (base := wo.heap.size) (v := .slice p7 (numsB (mgsP W i j) k).length c7) (l := numsB (mgsP W i j) k) (m := [(k : Int)]) eiInts rfl _ _ rfl rfl rfl (hown5.step (Step.alloc _ _)) (SLe.one 3 rfl) ((numsB (mgsP W i j) k).length + 1) (by simp) (numsB (mgsP W i j) (k + 1)) (numsB_yes hq).symm (by simp only [maxLen]; omega) (by omega) hbase ?_)
      intro p' c' w7 hown7 hg7
      have hal := Step.alloc wn (.cells #[.int .i64 (k : Int)] 3)
      have hlt7 := (hown5.step hal).lt
      have HT7 := Lib.hid (show Step wo w7 from StepX.fresh (HTn.out.trans hal) (StepX.grown (X := fun j' => (Value.slice p7 (numsB (mgsP W i j) k).length c7).ownBlock = some j') hg7 fun j' hj _ => hj) (fun j' hj => (hlt7 j' hj).1))
      have HO7 := Lib.hid hown7
      clear hown5 hown7 hg7 hal hlt7 hbase hq
      go_wp2
      go_roundw
      case rel => exact ⟨k + 1, by omega, by go_num, HO7.out, HT7.out⟩
      case measure => simp [intOf]; omega
    ·have hkl : k = W.msgs.length := by omega
     subst hkl
     have HB2 := Lib.hid ((HOW.out.flat (Old w)).slb fun g hg e => by have := (HOW.out.lt g hg).1; have := HS.out.size; have := HT.out.size; unfold Old at e; omega)
     go_wp2
     go_ret2
     exact ⟨_, _, rfl, HA.out.keep (.of_step HTr.out), HB2.out, (HS.out.trans HT.out).trans HTr.out⟩
theorem put_out {b : Book} {i j : Nat} {x : Int} (h : ¬ (∃ hi : i < b.seats.length, j < b.seats[i].length)) (s q : Nat) : seatAt (putSeat b i j x) s q = seatAt b s q := by
 by_cases e : i ≠ s ∨ j ≠ q
 ·exact seatAt_put_ne e
 ·have e1 : i = s := by omega
  have e2 : j = q := by omega
  subst e1 e2
  unfold putSeat seatAt
  by_cases hi : i < b.seats.length
  ·have hj : ¬ j < b.seats[i].length := fun hj => h ⟨hi, hj⟩
   have hg : b.seats.getD i [] = b.seats[i] := by simp [List.getD_eq_getElem?_getD, hi]
   have hs1 : b.seats[i].set j x = b.seats[i] := List.set_eq_of_length_le (by omega)
   rw [hg, hs1, List.set_getElem_self]
  ·rw [List.set_eq_of_length_le (by omega)]
theorem put_abs {b : Book} {i j : Nat} {x : Int} (hx : x ≠ -1) (hb : seatAt b i j ≠ -1) (s q : Nat) : seatAt (putSeat b i j x) s q = -1 ↔ seatAt b s q = -1 := by
 by_cases h : ∃ hi : i < b.seats.length, j < b.seats[i].length
 ·obtain ⟨hi, hj⟩ := h
  by_cases e : i ≠ s ∨ j ≠ q
  ·rw [seatAt_put_ne e]
  ·have e1 : i = s := by omega
   have e2 : j = q := by omega
   subst e1 e2
   rw [seatAt_putI hi hj]
   exact ⟨fun e => absurd e hx, fun e => absurd e hb⟩
 ·rw [put_out h]
theorem sell_abs {h : House} {b b' : Book} {s n y d : Int} (hr : sellD h b s n y d = .ok b') (s' q : Nat) : (seatAt b' s' q = -1 ↔ seatAt b s' q = -1) ∧ b'.took = b.took ∧ b'.sent = b.sent := by
 unfold sellD at hr
 split at hr
 rotate_left
 ·cases hr
 rename_i he
 injection hr with hr
 obtain ⟨h1, h2, h3, _, _, _, h7, _⟩ := sellE_ok he
 obtain ⟨i, rfl, hi⟩ := nat_of h1
 obtain ⟨j, rfl, hj⟩ := nat_of h2
 simp [withinB] at h3
 subst hr
 exact ⟨put_abs (b := b) (i := i) (j := j) (x := y) (by omega) h7 s' q, rfl, rfl⟩
theorem refund_abs {h : House} {b b' : Book} {s n : Int} (hr : refundD h b s n = .ok b') (s' q : Nat) : (seatAt b' s' q = -1 ↔ seatAt b s' q = -1) ∧ b'.took = b.took ∧ b'.sent = b.sent := by
 unfold refundD at hr
 split at hr
 rotate_left
 ·cases hr
 rename_i he
 injection hr with hr
 obtain ⟨h1, h2, h3⟩ := refundE_ok he
 obtain ⟨i, rfl, hi⟩ := nat_of h1
 obtain ⟨j, rfl, hj⟩ := nat_of h2
 subst hr
 exact ⟨put_abs (b := b) (i := i) (j := j) (x := 0) (by omega) (by omega) s' q, rfl, rfl⟩
theorem place_free {h : House} {b : Book} {c d : Int} : ∀ (m s : Nat) {p : Nat} {k : Int}, placeL h b c d s m = some (p, k) → 0 ≤ k ∧ seatAt b p k = 0
 | 0, s, p, k, hh => by simp [placeL] at hh
 | m + 1, s, p, k, hh => by
  cases ho : openL h b s c d with
  | nil => rw [placeL_skip ho] at hh; exact place_free m (s + 1) hh
  | cons k' l =>
   rw [placeL_hit ho] at hh
   injection hh with hh
   injection hh with h1 h2
   subst h1 h2
   have := freeL_mem (h := h) (b := b) (s := s) (c := c) (d := d) (k := k') (by rw [ho]; simp)
   exact ⟨this.1, this.2.2⟩
theorem lose_abs {h : House} (i : Nat) (d : Int) (b : Book) : ∀ (k : Nat) (s q : Nat), seatAt (loseTo h b i d k).1 s q = -1 ↔ seatAt b s q = -1
 | 0, s, q => Iff.rfl
 | k + 1, s, q => by
  have ih := lose_abs (h := h) i d b k s q
  unfold loseTo
  split
  rotate_left
  ·exact ih
  ·rename_i hy
   refine Iff.trans ?_ ih
   unfold loseOne
   split
   ·rename_i p k' hp
    obtain ⟨h0, h1⟩ := place_free _ _ hp
    obtain ⟨n, rfl⟩ : ∃ n : Nat, k' = n := ⟨k'.toNat, by omega⟩
    have a1 := put_abs (b := (loseTo h b i d k).1) (i := p) (j := n) (x := seatAt (loseTo h b i d k).1 i k) (by omega) (by omega)
    refine Iff.trans (put_abs (b := putSeat (loseTo h b i d k).1 p n (seatAt (loseTo h b i d k).1 i k)) (i := i) (j := k) (x := 0) (by decide) ?_ s q) (a1 s q)
    intro e
    have := (a1 i k).1 e
    omega
   ·exact put_abs (b := (loseTo h b i d k).1) (i := i) (j := k) (x := 0) (by decide) (by omega) s q
theorem loseD_abs {h : House} {b b' : Book} {s d : Int} (hv : valid h = true) (hb : bookB h b = true) (hr : bookOf (loseD h b s d) = .ok b') (s' q : Nat) : (seatAt b' s' q = -1 ↔ seatAt b s' q = -1) ∧ b'.took = b.took ∧ b'.sent = b.sent := by
 unfold loseD at hr
 split at hr
 rotate_left
 ·cases hr
 rename_i he
 have hs : withinB s 0 (h.dates.length - 1) = true := by
  unfold loseE at he
  split at he
  ·omega
  ·rename_i q; simpa using q
 obtain ⟨i, rfl, hi⟩ := nat_of hs
 have hbo := off_valid hb i
 obtain ⟨hO2, hc2, hc0, _⟩ := okDesk_book hv hbo
 have hO := (okDesk_book hv hb).1
 have hil : i < b.seats.length := by have := hO.2.2.1; omega
 have hlen := rows_len hv hb hil
 have hk : (((offBook b i).seats.getD i []).length : Int) ≤ sizeL h.sectors := by
  simp [offBook, List.getD_eq_getElem?_getD, hil, hlen]
 have hL := like_to hO2 hc0 i d _ hk
 have hK := lose_keep i d _ (book_iff.1 hbo).2.1 ((offBook b i).seats.getD i []).length
 rw [Int.toNat_natCast] at hr
 have hr2 : (loseTo h (offBook b i) i d ((offBook b i).seats.getD i []).length).1 = b' := by
  have : bookOf (.ok (loseTo h (offBook b i) i d (b.seats.getD i []).length)) = Except.ok (loseTo h (offBook b i) i d (b.seats.getD i []).length).1 := rfl
  rw [this] at hr
  injection hr
 subst hr2
 exact ⟨lose_abs i d (offBook b i) _ s' q, hK.2.1, hL.sent⟩
theorem seat_open {h : House} (hv : valid h = true) (a : Nat) {s i : Nat} (hs : s < h.dates.length) (hi : (i : Int) < sizeL h.sectors) : seatAt (openP h a) s i = heldV a ((h.holds.getD s []).getD i 0) := by
 have hb := bounds_valid hv
 have h1 : s < h.holds.length := by omega
 have h2 := hb.2.2.2.2.2.2.2.2.1 s h1
 have h3 : i < h.holds[s].length := by omega
 unfold seatAt openP
 simp [List.getD_eq_getElem?_getD, h1, h3]
theorem held_in {h : House} (hv : valid h = true) {s i : Nat} (hs : s < h.dates.length) (hi : (i : Int) < sizeL h.sectors) : 0 ≤ (h.holds.getD s []).getD i 0 ∧ (h.holds.getD s []).getD i 0 < agN h := by
 have hb := bounds_valid hv
 have h1 : s < h.holds.length := by omega
 have h2 := hb.2.2.2.2.2.2.2.2.1 s h1
 have h3 : i < h.holds[s].length := by omega
 have hg : (h.holds.getD s []).getD i 0 = h.holds[s][i] := by simp [List.getD_eq_getElem?_getD, h1, h3]
 rw [hg]
 simp only [valid, validB, Bool.and_eq_true] at hv
 have := List.all_eq_true.1 hv.2.2 _ (List.getElem_mem h1)
 simp only [holdsB, Bool.and_eq_true] at this
 have := List.all_eq_true.1 this.2 _ (List.getElem_mem h3)
 simp [withinB] at this
 omega
theorem start_inv {h : House} (hv : valid h = true) : WdInv h (startD h) := by
 have hl : (startD h).books.length = agN h := by simp [startD]
 have hb : ∀ a, a < agN h → bk (startD h) a = openP h a := fun a ha => by simp [bk, startD, List.getD_eq_getElem?_getD, ha]
 refine ⟨start_ok hv, fun s i hs hi => ?_, fun k hk => absurd hk (by simp [startD]), fun a ha => ?_, fun a ha x hx => ?_⟩
 ·have hr := held_in hv hs hi
  obtain ⟨n, hn⟩ : ∃ n : Nat, (h.holds.getD s []).getD i 0 = n := ⟨((h.holds.getD s []).getD i 0).toNat, by omega⟩
  rw [hn] at hr
  refine .inl ⟨n, ⟨by rw [hl]; omega, ?_⟩, fun b hb' => ?_, fun k hk => absurd hk.1 (by simp [startD])⟩
  ·rw [hb n (by omega), seat_open hv n hs hi, hn]
   simp [heldV]
  ·have h1 : b < agN h := by have := hb'.1; omega
   have h2 := hb'.2
   rw [hb b h1, seat_open hv b hs hi, hn] at h2
   unfold heldV at h2
   split at h2
   ·rename_i e; omega
   ·exact absurd rfl h2
 ·have h1 : a < agN h := by omega
  rw [hb a h1]
  simp [openP, sentTo, startD]
 ·have h1 : a < agN h := by omega
  rw [hb a h1] at hx
  simp [openP] at hx
theorem putAll_at (i : Nat) (x : Int) : ∀ (l : List Int) (b : Book) (hi : i < b.seats.length), (∀ j ∈ l, 0 ≤ j ∧ j < b.seats[i].length) → ∀ s q : Nat, seatAt (putAll b i x l) s q = if s = i ∧ (q : Int) ∈ l then x else seatAt b s q
 | [], b, hi, hl, s, q => by simp [putAll]
 | j :: l, b, hi, hl, s, q => by
  obtain ⟨h0, h1⟩ := hl j List.mem_cons_self
  obtain ⟨n, rfl⟩ : ∃ n : Nat, j = n := ⟨j.toNat, by omega⟩
  have hj : n < b.seats[i].length := by omega
  have hi' : i < (putSeat b i n x).seats.length := by simpa [putSeat] using hi
  have ih := putAll_at i x l (putSeat b i n x) hi' (fun j hj => by rw [putSeat_len hi hi']; exact hl j (List.mem_cons_of_mem _ hj)) s q
  simp only [putAll, List.foldl_cons, Int.toNat_natCast] at ih ⊢
  rw [ih]
  by_cases e1 : s = i
  ·subst e1
   by_cases e2 : (q : Int) ∈ l
   ·rw [if_pos ⟨rfl, e2⟩, if_pos ⟨rfl, List.mem_cons_of_mem _ e2⟩]
   ·rw [if_neg (fun hh => e2 hh.2)]
    by_cases e3 : q = n
    ·subst e3
     rw [seatAt_putI hi hj, if_pos ⟨rfl, List.mem_cons_self⟩]
    ·rw [seatAt_put_ne (.inr (Ne.symm e3)), if_neg]
     rintro ⟨_, hh⟩
     rcases List.mem_cons.1 hh with hh | hh
     ·exact e3 (by exact_mod_cast hh)
     ·exact e2 hh
  ·rw [if_neg (fun hh => e1 hh.1), if_neg (fun hh => e1 hh.1), seatAt_put_ne (.inl (Ne.symm e1))]
theorem ms_more (W : Wd) (B : List Book) (m : BT.Message) (k : Nat) : ms ⟨B, W.msgs ++ [m]⟩ k = if k = W.msgs.length then m else ms W k := by
 unfold ms
 by_cases e : k = W.msgs.length
 ·subst e; simp [List.getD_eq_getElem?_getD]
 ·rw [if_neg e]
  rcases Nat.lt_or_ge k W.msgs.length with hk | hk
  ·simp [List.getD_eq_getElem?_getD, List.getElem?_append_left hk]
  ·rw [List.getD_eq_getElem?_getD, List.getD_eq_getElem?_getD, List.getElem?_eq_none (by simp; omega), List.getElem?_eq_none hk]
theorem sentTo_more (W : Wd) (B : List Book) (m : BT.Message) (a : Int) {k : Nat} (hk : k ≤ W.msgs.length) : sentTo ⟨B, W.msgs ++ [m]⟩ a k = sentTo W a k := by
 unfold sentTo
 rw [List.take_append_of_le_length hk]
theorem book_agency {h : House} {W : Wd} (I : WdInv h W) {i : Nat} (hi : i < W.books.length) : (bk W i).agency = i := by rw [bk_at hi]; exact (I.ok.book i hi).2
theorem book_valid {h : House} {W : Wd} (I : WdInv h W) {i : Nat} (hi : i < W.books.length) : bookB h (bk W i) = true := by rw [bk_at hi]; exact (I.ok.book i hi).1
theorem dst_in {h : House} {W : Wd} (hl : W.books.length = agN h) {m : BT.Message} (hm : messV h m = true) : ∃ d : Nat, m.dst = d ∧ d < W.books.length ∧ m.frm ≠ m.dst ∧ ∃ f : Nat, m.frm = f ∧ f < W.books.length := by
 unfold messV at hm
 simp only [Bool.and_eq_true, decide_eq_true_eq] at hm
 obtain ⟨⟨⟨⟨⟨m1, m2⟩, m3⟩, _⟩, _⟩, _⟩ := hm
 obtain ⟨d, e1, e2⟩ := nat_of m2
 obtain ⟨f, e3, e4⟩ := nat_of m1
 exact ⟨d, e1, by omega, m3, f, e3, by omega⟩
theorem give_inv {h : House} {W : Wd} (hv : valid h = true) (I : WdInv h W) {i : Nat} (hi : i < W.books.length) {t s : Int} {l : List Int} {b' : Book} {m : BT.Message} (hr : giveD h (bk W i) t s l = .ok (b', m)) (hok : WdOk h ⟨W.books.set i b', W.msgs ++ [m]⟩) : WdInv h ⟨W.books.set i b', W.msgs ++ [m]⟩ := by
 have hbv := book_valid I hi
 have hmv : messV h m = true := (give_valid hv hbv hr).2.2.1
 unfold giveD at hr
 split at hr
 rotate_left
 ·cases hr
 rename_i he
 injection hr with hr
 obtain ⟨h1, h2, h3, h4, h5, h6, h7, h8⟩ := giveE_ok he
 obtain ⟨s0, rfl, hs0⟩ := nat_of h3
 have hO := (okDesk_book hv hbv).1
 have hil : s0 < (bk W i).seats.length := by have := hO.2.2.1; omega
 have hlen := rows_len hv hbv hil
 have hk := putAll_keep s0 (-1) l (bk W i)
 have hat := putAll_at s0 (-1) l (bk W i) hil (fun j hj => ⟨(seats_ok h4 j hj).1, by have := (seats_ok h4 j hj).2; omega⟩)
 unfold giveP at hr
 rw [giveTo_all, Int.toNat_natCast] at hr
 injection hr with hr1 hr2
 have hseat : ∀ s q : Nat, seatAt b' s q = if s = s0 ∧ (q : Int) ∈ l then -1 else seatAt (bk W i) s q := fun s q => by rw [← hr1]; exact hat s q
 have htook : b'.took = (bk W i).took := by rw [← hr1]; exact hk.2.2.2.2.1
 have hsent : b'.sent = (bk W i).sent + 1 := by rw [← hr1]
 have hag := book_agency I hi
 have mf : m.frm = i := by rw [← hr2]; exact hag
 have mn : m.number = (bk W i).sent + 1 := by rw [← hr2]
 have msw : m.shw = s0 := by rw [← hr2]
 have mse : m.seats = l := by rw [← hr2]
 clear hr1 hr2 hat
 have htk : ∀ a, (bk ⟨W.books.set i b', W.msgs ++ [m]⟩ a).took = (bk W a).took := fun a => by
  rw [bk_set W i b' _ a hi]
  split
  ·rename_i e; subst e; exact htook
  ·rfl
 obtain ⟨d, hd, hdl, _, _⟩ := dst_in I.ok.len hmv
 have hnew : keyOf m ∉ (bk W d).took := fun hx => by
  obtain ⟨k, g1, g2, g3⟩ := I.took d hdl _ hx
  unfold keyOf at g2
  injection g2 with g4 g5
  have n1 := I.num k g1
  have n2 := sentTo_succ W (ms W k).frm g1
  rw [if_pos rfl] at n2
  have n3 := sentTo_mono W (ms W k).frm (show k + 1 ≤ W.msgs.length by omega)
  have n4 := I.sent i hi
  rw [g4, mf] at n1 n2 n3
  rw [g5, mn] at n1
  omega
 have hcar : ∀ s q k, k ≠ W.msgs.length → (Carries ⟨W.books.set i b', W.msgs ++ [m]⟩ s q k ↔ Carries W s q k) := fun s q k hk' => by
  unfold Carries
  rw [ms_more W _ m k, if_neg hk', htk]
  simp only [List.length_append, List.length_cons, List.length_nil]
  exact and_congr_left fun _ => by omega
 have hcn : ∀ s q : Nat, Carries ⟨W.books.set i b', W.msgs ++ [m]⟩ s q W.msgs.length ↔ s = s0 ∧ (q : Int) ∈ l := fun s q => by
  unfold Carries
  rw [ms_more W _ m _, if_pos rfl, htk, msw, mse, hd, Int.toNat_natCast]
  simp only [List.length_append, List.length_cons, List.length_nil]
  exact ⟨fun ⟨_, a, b, _⟩ => ⟨by omega, b⟩, fun ⟨a, b⟩ => ⟨by omega, by omega, b, hnew⟩⟩
 have hhd : ∀ s q a, Holds ⟨W.books.set i b', W.msgs ++ [m]⟩ s q a ↔ Holds W s q a ∧ ¬ (a = i ∧ s = s0 ∧ (q : Int) ∈ l) := fun s q a => by
  unfold Holds
  rw [bk_set W i b' _ a hi]
  simp only [List.length_set]
  by_cases e : a = i
  ·subst e
   rw [if_pos rfl, hseat]
   by_cases e2 : s = s0 ∧ (q : Int) ∈ l
   ·rw [if_pos e2]; exact ⟨fun hh => absurd rfl hh.2, fun hh => absurd ⟨rfl, e2⟩ hh.2⟩
   ·rw [if_neg e2]; exact ⟨fun hh => ⟨hh, fun q => e2 q.2⟩, fun hh => hh.1⟩
  ·rw [if_neg e]; exact ⟨fun hh => ⟨hh, fun q => e q.1⟩, fun hh => hh.1⟩
 refine ⟨hok, fun s q hs hq => ?_, fun k hk' => ?_, fun a ha => ?_, fun a ha x hx => ?_⟩
 ·have ho := I.one s q hs hq
  by_cases e2 : s = s0 ∧ (q : Int) ∈ l
  ·have hhi : Holds W s q i := ⟨hi, by rw [e2.1]; exact h6 q e2.2⟩
   rcases ho with ⟨a, g1, g2, g3⟩ | ⟨k, g1, g2, g3⟩
   ·have ha := g2 i hhi
    subst ha
    refine .inr ⟨W.msgs.length, (hcn s q).2 e2, fun k hk' => ?_, fun b hb => ?_⟩
    ·by_cases e3 : k = W.msgs.length
     ·exact e3
     ·exact absurd ((hcar s q k e3).1 hk') (g3 k)
    ·have hb := (hhd s q b).1 hb
     exact hb.2 ⟨g2 b hb.1, e2⟩
   ·exact absurd hhi (g3 i)
  ·have hn : ¬ Carries ⟨W.books.set i b', W.msgs ++ [m]⟩ s q W.msgs.length := fun hh => e2 ((hcn s q).1 hh)
   have hh2 : ∀ a, Holds ⟨W.books.set i b', W.msgs ++ [m]⟩ s q a ↔ Holds W s q a := fun a => (hhd s q a).trans ⟨fun x => x.1, fun x => ⟨x, fun y => e2 y.2⟩⟩
   have hc2 : ∀ k, Carries ⟨W.books.set i b', W.msgs ++ [m]⟩ s q k ↔ Carries W s q k := fun k => by
    by_cases e3 : k = W.msgs.length
    ·subst e3; exact ⟨fun hh => absurd hh hn, fun hh => absurd hh.1 (by omega)⟩
    ·exact hcar s q k e3
   rcases ho with ⟨a, g1, g2, g3⟩ | ⟨k, g1, g2, g3⟩
   ·exact .inl ⟨a, (hh2 a).2 g1, fun b hb => g2 b ((hh2 b).1 hb), fun k hk' => g3 k ((hc2 k).1 hk')⟩
   ·exact .inr ⟨k, (hc2 k).2 g1, fun b hb => g2 b ((hc2 b).1 hb), fun a ha => g3 a ((hh2 a).1 ha)⟩
 ·have hk2 : k ≤ W.msgs.length := by simp at hk'; omega
  rw [ms_more W _ m k, sentTo_more W _ m _ hk2]
  by_cases e3 : k = W.msgs.length
  ·rw [if_pos e3, mn, mf, I.sent i hi, e3]
  ·rw [if_neg e3]; exact I.num k (by omega)
 ·have ha' : a < W.books.length := by simpa using ha
  have hl1 : (W.msgs ++ [m]).length = W.msgs.length + 1 := by simp
  have hs1 := sentTo_succ ⟨W.books.set i b', W.msgs ++ [m]⟩ a (k := W.msgs.length) (by simp)
  rw [ms_more W _ m _, if_pos rfl, sentTo_more W _ m _ (Nat.le_refl _), mf] at hs1
  show (bk ⟨W.books.set i b', W.msgs ++ [m]⟩ a).sent = sentTo ⟨W.books.set i b', W.msgs ++ [m]⟩ a (W.msgs ++ [m]).length
  rw [hl1, hs1, bk_set W i b' _ a hi]
  by_cases e : a = i
  ·subst e; rw [if_pos rfl, if_pos rfl, hsent, I.sent a ha']; omega
  ·rw [if_neg e, if_neg (by omega), I.sent a ha']; omega
 ·have ha' : a < W.books.length := by simpa using ha
  rw [htk] at hx
  obtain ⟨k, g1, g2, g3⟩ := I.took a ha' x hx
  refine ⟨k, by simp; omega, ?_⟩
  rw [ms_more W _ m k, if_neg (by omega)]
  exact ⟨g2, g3⟩
structure WB (h : House) (W : Wd) : Prop where
 val : valid h = true
 len : W.books.length = agN h
 msg : ∀ k (hk : k < W.msgs.length), messV h W.msgs[k] = true
 book : ∀ a (ha : a < W.books.length), W.books[a].agency = a ∧ bookB h W.books[a] = true
theorem worldB_parts {h : House} {W : Wd} (hw : worldB h W = true) : WB h W := by
 simp only [worldB, Bool.and_eq_true, decide_eq_true_eq, List.all_eq_true, List.mem_range] at hw
 obtain ⟨h1, h2, h3, h4⟩ := hw
 refine ⟨h1, h2, fun k hk => h3 _ (List.getElem_mem hk), fun a ha => ?_⟩
 have := h4 a ha
 simp only [okA, Bool.and_eq_true, decide_eq_true_eq, bk_at ha] at this
 exact this
theorem WB.rows {h : House} {W : Wd} (F : WB h W) {i j : Nat} (hi : i < h.dates.length) (hj : (j : Int) < sizeL h.sectors) (a : Nat) (ha : a < W.books.length) : ∃ hi : i < W.books[a].seats.length, j < W.books[a].seats[i].length := by
 have P := bookB_parts (F.book a ha).2
 have hi' : i < W.books[a].seats.length := by rw [P.seats]; exact hi
 refine ⟨hi', ?_⟩
 have := List.all_eq_true.1 P.rows _ (List.getElem_mem hi')
 simp only [rowB, Bool.and_eq_true, decide_eq_true_eq] at this
 have := this.1
 omega
theorem WB.dst {h : House} {W : Wd} (F : WB h W) (k : Nat) (hk : k < W.msgs.length) : 0 ≤ W.msgs[k].dst ∧ W.msgs[k].dst < W.books.length := by
 obtain ⟨d, h1, h2, _⟩ := dst_in F.len (F.msg k hk)
 omega
def onePl (W : Wd) (s i : Nat) : Bool := decide ((numsB (agsP W s i) W.books.length).length + (numsB (mgsP W s i) W.msgs.length).length = 1)
def oneRow (h : House) (W : Wd) (s : Nat) : Bool := (List.range (sizeL h.sectors).toNat).all (onePl W s)
def soundB (h : House) (W : Wd) : Bool := worldB h W && (countedB W && (List.range h.dates.length).all (oneRow h W))
set_option maxRecDepth 100000 in
set_option maxHeartbeats 4000000 in
theorem Sound_any (S T : Nat → Prop) (h : House) (W : Wd) (v u : Value) (w : World) (hv : AV S w v h) (hu : AV T w u W) (hm : W.msgs.length ≤ 1000000) :
  Calls Tryz.prog 20 #[v, u] w fun e w' => e = .returned (.bool (soundB h W)) ∧ Step w w' := by
 have HH0 := Lib.hid hv
 have HU0 := Lib.hid hu
 obtain ⟨c0, c1, c2, c3, c4, rfl, h0, h1, h2, h3, h4⟩ := hv.house
 obtain ⟨p0, k0, rfl⟩ := h0.form
 obtain ⟨p1, k1, rfl⟩ := h1.form
 obtain ⟨p2, k2, rfl⟩ := h2.form
 obtain ⟨p3, k3, rfl⟩ := h3.form
 obtain ⟨p4, k4, rfl⟩ := h4.form
 obtain ⟨b0, b1, rfl, s0, s1⟩ := hu.wd
 obtain ⟨pb, kb, rfl⟩ := s0.form
 obtain ⟨pm, km, rfl⟩ := s1.form
 obtain ⟨W0, hW0⟩ : ∃ z9, z9 = (w.alloc (.cells #[.slice p0 h.sectors.length k0, .slice p1 h.prices.length k1, .slice p2 h.dates.length k2, .slice p3 h.frm.length k3, .slice p4 h.holds.length k4] 41)).alloc (.cells #[.slice pb W.books.length kb, .slice pm W.msgs.length km] 34) := ⟨_, rfl⟩
 have hS : Step w W0 := by subst hW0; exact (by repeat (first | (with_reducible assumption) | (with_reducible exact Step.refl _) | (with_reducible apply Step.s_alloc) | (with_reducible apply Step.s_drew) | (with_reducible apply Step.s_drewN) | (with_reducible refine Step.trans ?_ (by with_reducible assumption))))
 have hb0 : Bx W0 w.heap.size [.slice p0 h.sectors.length k0, .slice p1 h.prices.length k1, .slice p2 h.dates.length k2, .slice p3 h.frm.length k3, .slice p4 h.holds.length k4] 41 := by subst hW0; exact (Bx.new _ [_, _, _, _, _] _).alloc _
 have hb1 : Bx W0 (w.heap.size + 1) [.slice pb W.books.length kb, .slice pm W.msgs.length km] 34 := by subst hW0; exact Bx.new' _ [_, _] _ _ (by simp)
 have HS := Lib.hid hS
 have HB := Lib.hid hb0
 have HB1 := Lib.hid hb1
 have HW := Lib.hid hW0
 have HM := Lib.hid hm
 have HC1 := Lib.hid (world_any S T h W _ _ W0 (HH0.out.keep (.of_step hS)) (HU0.out.keep (.of_step hS)))
 clear hv hu h0 h1 h2 h3 h4 s0 s1 hS hb0 hb1 hW0 hm
 go_enter Tryz.func20, Tryz.ntmps20
 go_upto_region 1 with (fail)
 rw [← HW.out]
 clear HW
 obtain ⟨e0, e1, e2, e3, e4⟩ := cells5 HB.out
 obtain ⟨u0, u1⟩ : _ ∧ _ := ⟨HB1.out.cell 0, HB1.out.cell 1⟩
 simp only [zD, zE] at u0 u1
 go_wp2_with fail
 refine HC1.out.mono ?_
 rintro e wn ⟨rfl, hSn⟩
 have HT := Lib.hid hSn
 clear HC1 hSn e0 e1 e2 e3 e4 u0 u1
 cases qw : worldB h W with
 | false =>
  have HF := Lib.hid (show soundB h W = false by simp [soundB, qw])
  clear qw
  go_wp2
  go_ret
  exact ⟨by rw [HF.out]; rfl, HS.out.trans HT.out⟩
 | true =>
 have HQ := Lib.hid qw
 have HP := Lib.hid (worldB_parts qw)
 clear qw
 obtain ⟨e0, e1, e2, e3, e4⟩ := cells5 (HB.out.step HT.out)
 obtain ⟨u0, u1⟩ : _ ∧ _ := ⟨(HB1.out.step HT.out).cell 0, (HB1.out.step HT.out).cell 1⟩
 simp only [zD, zE] at u0 u1
 go_wp2_with fail
 refine (counted_any T W _ _ (HU0.out.keep (.of_step (HS.out.trans HT.out)))).mono ?_
 rintro e wn2 ⟨rfl, hSn⟩
 have HTn := Lib.hid (HT.out.trans hSn)
 clear hSn HT e0 e1 e2 e3 e4 u0 u1
 have HT := HTn
 clear HTn
 cases qc : countedB W with
 | false =>
  have HF := Lib.hid (show soundB h W = false by simp [soundB, qc])
  clear qc
  go_wp2
  go_ret
  exact ⟨by rw [HF.out]; rfl, HS.out.trans HT.out⟩
 | true =>
 have HF := Lib.hid (show soundB h W = (List.range h.dates.length).all (oneRow h W) by simp only [soundB, HQ.out, qc, Bool.true_and])
 clear qc
 obtain ⟨e0, e1, e2, e3, e4⟩ := cells5 (HB.out.step HT.out)
 have hd6 : h.dates.length ≤ 6 := by have := bounds_valid HP.out.val; omega
 have hd7 : 0 ≤ sizeL h.sectors ∧ sizeL h.sectors ≤ 100 := by have := bounds_valid HP.out.val; omega
 obtain ⟨nz, hnz⟩ : ∃ n : Nat, sizeL h.sectors = n := ⟨(sizeL h.sectors).toNat, by omega⟩
 have hz1 : nz ≤ 100 := by omega
 have HNZ := Lib.hid hnz
 clear hd7 hnz
 go_upto_region 4 with (fail)
 clear e0 e1 e2 e3 e4
 go_loopw [21] (fun iv wr => ∃ k : Nat, k ≤ h.dates.length ∧ iv = .int .i64 k ∧ (List.range k).all (oneRow h W) = true ∧ Step W0 wr) (fun iv _ => h.dates.length - (intOf iv).toNat)
 case atStart => exact ⟨0, Nat.zero_le _, rfl, by simp, HT.out⟩
 case round =>
  obtain ⟨k, hk, rfl, ht, hT⟩ := hrel
  have HA := Lib.hid ht
  have HT := Lib.hid hT
  clear ht hT
  by_cases hlt : k < h.dates.length
  ·obtain ⟨e0, e1, e2, e3, e4⟩ := cells5 (HB.out.step HT.out)
   go_wp2_with fail
   refine (size_any S h _ _ (HH0.out.keep (.of_step (HS.out.trans HT.out))) (okSec_valid HP.out.val)).mono ?_
   rintro e wn3 ⟨rfl, hSn⟩
   rw [HNZ.out]
   have HTn := Lib.hid (HT.out.trans hSn)
   clear hSn HT e0 e1 e2 e3 e4
   go_upto_region 7 with (fail)
   go_loopw [26] (fun iv w2 => ∃ j : Nat, j ≤ nz ∧ iv = .int .i64 j ∧ (List.range j).all (onePl W k) = true ∧ Step W0 w2) (fun iv _ => nz - (intOf iv).toNat)
   case atStart => exact ⟨0, Nat.zero_le _, rfl, by simp, HTn.out⟩
   case round =>
    obtain ⟨j, hj, rfl, ht, hT⟩ := hrel
    have HA2 := Lib.hid ht
    have HT := Lib.hid hT
    clear ht hT HTn
    by_cases hjt : j < nz
    ·obtain ⟨u0, u1⟩ : _ ∧ _ := ⟨(HB1.out.step HT.out).cell 0, (HB1.out.step HT.out).cell 1⟩
     simp only [zD, zE] at u0 u1
     have hcall := Lib.hid (places_any T W k j _ wr (HU0.out.keep (.of_step (HS.out.trans HT.out))) (HP.out.rows hlt (by have := HNZ.out; omega)) (fun k hk => HP.out.dst k hk) (by have := bounds_valid HP.out.val; have := HP.out.len; omega) HM.out)
     go_wp2_with fail
     refine hcall.out.mono ?_
     rintro e wn5 ⟨va, vm, rfl, hva, hvm, hSn⟩
     have HT5 := Lib.hid (HT.out.trans hSn)
     clear HT hSn hcall u0 u1
     obtain ⟨la, hla⟩ : ∃ n : Nat, n = (numsB (agsP W k j) W.books.length).length := ⟨_, rfl⟩
     obtain ⟨lm, hlm⟩ : ∃ n : Nat, n = (numsB (mgsP W k j) W.msgs.length).length := ⟨_, rfl⟩
     obtain ⟨pa, ka, ea⟩ := hva.form
     obtain ⟨pk, kk, ek⟩ := hvm.form
     rw [← hla] at ea
     rw [← hlm] at ek
     subst ea ek
     have hba : la ≤ 1000000 := by have := numsB_len (agsP W k j) W.books.length; have := bounds_valid HP.out.val; have := HP.out.len; omega
     have hbm : lm ≤ 1000000 := by have := numsB_len (mgsP W k j) W.msgs.length; have := HM.out; omega
     have HL := Lib.hid (And.intro hla hlm)
     clear hva hvm hla hlm
     by_cases q1 : la + lm = 1
     ·have d1 : ((la : Int) + (lm : Int) != 1) = false := by simp; omega
      have HN := Lib.hid (all_step HA2.out (show onePl W k j = true by unfold onePl; rw [← HL.out.1, ← HL.out.2]; simp [q1]))
      clear q1
      go_wp2
      go_roundw
      case rel => exact ⟨j + 1, by omega, by go_num, HN.out, HT5.out⟩
      case measure => simp [intOf]; omega
     ·have d1 : ((la : Int) + (lm : Int) != 1) = true := by rw [bne_iff_ne]; omega
      have HN := Lib.hid (show (List.range h.dates.length).all (oneRow h W) = false from all_bad hlt (by
       have : onePl W k j = false := by unfold onePl; rw [← HL.out.1, ← HL.out.2]; simp [q1]
       unfold oneRow
       rw [show (sizeL h.sectors).toNat = nz by rw [HNZ.out]; simp]
       exact all_bad hjt this))
      clear q1
      go_wp2
      go_ret
      exact ⟨by rw [HF.out, HN.out]; rfl, HS.out.trans HT5.out⟩
    ·have HN := Lib.hid (all_step HA.out (show oneRow h W k = true by
      unfold oneRow
      rw [show (sizeL h.sectors).toNat = nz by rw [HNZ.out]; simp]
      have e : j = nz := by omega
      rw [← e]; exact HA2.out))
     go_wp2
     go_roundw
     case rel => exact ⟨k + 1, by omega, by go_num, HN.out, HT.out⟩
     case measure => simp [intOf]; omega
  ·have HN := Lib.hid (show (List.range h.dates.length).all (oneRow h W) = true by
    have e : k = h.dates.length := by omega
    rw [← e]; exact HA.out)
   go_wp2
   go_ret
   exact ⟨by rw [HF.out, HN.out]; rfl, HS.out.trans HT.out⟩
theorem sentF_cnt : ∀ (l : List BT.Message) (f : Int → Option Int) (y : Int), ((l.foldl stepS f) y).getD 0 = (f y).getD 0 + ((l.filter fun m => decide (m.frm = y)).length : Int)
 | [], f, y => by simp
 | m :: l, f, y => by
  rw [List.foldl_cons, sentF_cnt l (stepS f m) y]
  unfold stepS
  by_cases e : m.frm = y
  ·subst e
   simp only [if_true, Option.getD_some, List.filter_cons, decide_true, List.length_cons]
   omega
  ·have e' : ¬ y = m.frm := fun h => e h.symm
   simp only [e', if_false, List.filter_cons, e, decide_false, Bool.false_eq_true]
theorem sentF_to (W : Wd) (k : Nat) (a : Int) : ((sentF (W.msgs.take k)) a).getD 0 = sentTo W a k := by
 have := sentF_cnt (W.msgs.take k) (fun _ => none) a
 simpa [sentF, sentTo] using this
theorem toF_to (x : Key) (a : Int) : ∀ (l : List BT.Message) (f : Key → Option Int), (∀ m ∈ l, keyOf m = x → m.dst = a) → ((∃ m ∈ l, keyOf m = x) ∨ f x = some a) → (l.foldl stepT f) x = some a
 | [], f, _, h => by simpa using h
 | m :: l, f, h1, h2 => by
  rw [List.foldl_cons]
  refine toF_to x a l (stepT f m) (fun m' hm' => h1 m' (List.mem_cons_of_mem _ hm')) ?_
  by_cases e : keyOf m = x
  ·right
   unfold stepT
   rw [if_pos e.symm, h1 m List.mem_cons_self e]
  ·rcases h2 with ⟨m', hm', he⟩ | h2
   ·rcases List.mem_cons.1 hm' with rfl | hm'
    ·exact absurd he e
    ·exact .inl ⟨m', hm', he⟩
   ·right
    unfold stepT
    rw [if_neg (fun h => e h.symm), h2]
theorem inv_world {h : House} {W : Wd} (hv : valid h = true) (I : WdInv h W) : worldB h W = true := by
 simp only [worldB, Bool.and_eq_true, decide_eq_true_eq, List.all_eq_true, List.mem_range]
 refine ⟨hv, I.ok.len, I.ok.msg, fun a ha => ?_⟩
 have := I.ok.book a ha
 simp only [okA, Bool.and_eq_true, decide_eq_true_eq, bk_at ha]
 exact ⟨this.2, this.1⟩
theorem inv_counted {h : House} {W : Wd} (I : WdInv h W) : countedB W = true := by
 simp only [countedB, Bool.and_eq_true, numOk, List.all_eq_true, List.mem_range]
 refine ⟨fun k hk => ?_, fun a ha => ?_⟩
 ·unfold numA
  rw [mgAt_at hk, ← ms_at hk, sentF_to, I.num k hk]
  simp
 ·unfold knowB
  have hs := sentF_to W W.msgs.length a
  rw [List.take_length] at hs
  rw [hs, I.sent a ha]
  simp only [decide_true, Bool.true_and, List.all_eq_true, decide_eq_true_eq]
  intro x hx
  obtain ⟨k, hk, he, hd⟩ := I.took a ha x hx
  refine toF_to x a W.msgs (fun _ => none) (fun m hm hme => ?_) (.inl ⟨ms W k, by rw [ms_at hk]; exact List.getElem_mem hk, he⟩)
  obtain ⟨q, hq, rfl⟩ := List.getElem_of_mem hm
  have : q = k := key_ne I hq hk (by rw [ms_at hq, hme, he])
  subst this
  rw [← ms_at hq]; exact hd
theorem filter_none {p : Nat → Bool} : ∀ {n : Nat}, (∀ b, b < n → p b = false) → (List.range n).filter p = [] := by
 intro n h
 rw [List.filter_eq_nil_iff]
 intro b hb
 simp [h b (List.mem_range.1 hb)]
theorem filter_one {p : Nat → Bool} {a : Nat} (ha : p a = true) : ∀ {n : Nat}, a < n → (∀ b, b < n → p b = true → b = a) → (List.range n).filter p = [a]
 | 0, h, _ => by omega
 | n + 1, h, hu => by
  rw [List.range_succ, List.filter_append]
  by_cases e : a = n
  ·subst e
   rw [filter_none (fun b hb => by
    cases q : p b with
    | false => rfl
    | true => have := hu b (by omega) q; omega)]
   simp [ha]
  ·rw [filter_one ha (by omega) (fun b hb => hu b (by omega))]
   have : p n = false := by
    cases q : p n with
    | false => rfl
    | true => exact absurd (hu n (by omega) q).symm e
   simp [this]
theorem carries_iff {W : Wd} {s i k : Nat} (hk : k < W.msgs.length) : mgsP W s i k = true ↔ Carries W s i k := by
 unfold mgsP carriesB Carries hasK
 simp [hk]
theorem holds_iff {W : Wd} {s i a : Nat} (ha : a < W.books.length) : agsP W s i a = true ↔ Holds W s i a := by
 unfold agsP Holds
 simp [ha]
theorem one_lists {W : Wd} {s i : Nat} (h : OnePlace W s i) :
  (∃ a : Nat, a < W.books.length ∧ agsP W s i a = true ∧ (∀ b, b < W.books.length → agsP W s i b = true → b = a) ∧ numsB (agsP W s i) W.books.length = [(a : Int)] ∧ numsB (mgsP W s i) W.msgs.length = []) ∨
  (∃ k : Nat, k < W.msgs.length ∧ (∀ b, b < W.books.length → agsP W s i b = false) ∧ numsB (agsP W s i) W.books.length = [] ∧ numsB (mgsP W s i) W.msgs.length = [(k : Int)]) := by
 rcases h with ⟨a, h1, h2, h3⟩ | ⟨k, h1, h2, h3⟩
 ·have hu : ∀ b, b < W.books.length → agsP W s i b = true → b = a := fun b hb hq => h2 b ((holds_iff hb).1 hq)
  refine .inl ⟨a, h1.1, (holds_iff h1.1).2 h1, hu, ?_, ?_⟩
  ·unfold numsB
   rw [filter_one ((holds_iff h1.1).2 h1) h1.1 hu]; rfl
  ·unfold numsB
   rw [filter_none (fun b hb => by
    cases q : mgsP W s i b with
    | false => rfl
    | true => exact absurd ((carries_iff hb).1 q) (h3 b))]; rfl
 ·have hn : ∀ b, b < W.books.length → agsP W s i b = false := fun b hb => by
   cases q : agsP W s i b with
   | false => rfl
   | true => exact absurd ((holds_iff hb).1 q) (h3 b)
  refine .inr ⟨k, h1.1, hn, ?_, ?_⟩
  ·unfold numsB
   rw [filter_none hn]; rfl
  ·unfold numsB
   rw [filter_one ((carries_iff h1.1).2 h1) h1.1 (fun b hb hq => h2 b ((carries_iff hb).1 hq))]; rfl
theorem inv_sound {h : House} {W : Wd} (hv : valid h = true) (I : WdInv h W) : soundB h W = true := by
 unfold soundB
 rw [inv_world hv I, inv_counted I]
 simp only [Bool.true_and, List.all_eq_true, List.mem_range]
 intro s hs
 simp only [oneRow, List.all_eq_true, List.mem_range]
 intro i hi
 have hi' : (i : Int) < sizeL h.sectors := by omega
 unfold onePl
 rcases one_lists (I.one s i hs hi') with ⟨a, _, _, _, h1, h2⟩ | ⟨k, _, _, h1, h2⟩
 ·rw [h1, h2]; rfl
 ·rw [h1, h2]; rfl
theorem take_inv {h : House} {W : Wd} (hv : valid h = true) (I : WdInv h W) {i : Nat} (hi : i < W.books.length) {k0 : Nat} (hk0 : k0 < W.msgs.length) {b' : Book} (hr : takeD h (bk W i) (ms W k0) = .ok b') (hok : WdOk h ⟨W.books.set i b', W.msgs⟩) : WdInv h ⟨W.books.set i b', W.msgs⟩ := by
 have hbv := book_valid I hi
 have hmv := ms_ok I hk0
 unfold takeD at hr
 split at hr
 rotate_left
 ·cases hr
 rename_i he
 injection hr with hr
 obtain ⟨h1, h2, h3, h4, h5⟩ := takeE_ok he
 obtain ⟨m, hm⟩ : ∃ m, m = ms W k0 := ⟨_, rfl⟩
 rw [← hm] at hr h1 h2 h3 h4 hmv
 have hmv2 := hmv
 unfold messV at hmv2
 simp only [Bool.and_eq_true, decide_eq_true_eq] at hmv2
 obtain ⟨⟨⟨⟨⟨m1, m2⟩, m3⟩, m4⟩, m5⟩, m6⟩ := hmv2
 obtain ⟨s0, hs, hs0⟩ := nat_of m5
 have hO := (okDesk_book hv hbv).1
 have hil : s0 < (bk W i).seats.length := by have := hO.2.2.1; omega
 have hlen := rows_len hv hbv hil
 have hk := putAll_keep s0 0 m.seats (bk W i)
 have hat := putAll_at s0 0 m.seats (bk W i) hil (fun j hj => ⟨(seats_ok m6 j hj).1, by have := (seats_ok m6 j hj).2; omega⟩)
 unfold takeP at hr
 rw [takeTo_all, hs, Int.toNat_natCast] at hr
 have hseat : ∀ s q : Nat, seatAt b' s q = if s = s0 ∧ (q : Int) ∈ m.seats then 0 else seatAt (bk W i) s q := fun s q => by rw [← hr]; exact hat s q
 have htook : b'.took = (bk W i).took ++ [keyOf m] := by rw [← hr]
 have hsent : b'.sent = (bk W i).sent := by rw [← hr]; exact hk.2.2.2.1
 have hag := book_agency I hi
 have hdst : m.dst = i := by rw [h2, hag]
 have hnot : keyOf m ∉ (bk W i).took := by simpa [hasK] using h3
 clear hr hat
 have hcar : ∀ s q k, Carries ⟨W.books.set i b', W.msgs⟩ s q k ↔ Carries W s q k ∧ k ≠ k0 := fun s q k => by
  have hmm : ms ⟨W.books.set i b', W.msgs⟩ k = ms W k := rfl
  unfold Carries
  rw [hmm, bk_set W i b' W.msgs _ hi]
  by_cases e : (ms W k).dst.toNat = i
  ·rw [if_pos e, htook, e]
   simp only [List.mem_append, List.mem_singleton, not_or]
   constructor
   ·rintro ⟨a1, a2, a3, a4, a5⟩
    exact ⟨⟨a1, a2, a3, a4⟩, fun e2 => a5 (by rw [e2, hm])⟩
   ·rintro ⟨⟨a1, a2, a3, a4⟩, a5⟩
    exact ⟨a1, a2, a3, a4, fun e2 => a5 (key_ne I a1 hk0 (by rw [e2, hm]))⟩
  ·rw [if_neg e]
   exact ⟨fun a => ⟨a, fun e2 => e (by rw [e2, ← hm, hdst, Int.toNat_natCast])⟩, fun a => a.1⟩
 have hhd : ∀ s q a, Holds ⟨W.books.set i b', W.msgs⟩ s q a ↔ Holds W s q a ∨ (a = i ∧ s = s0 ∧ (q : Int) ∈ m.seats) := fun s q a => by
  unfold Holds
  rw [bk_set W i b' _ a hi]
  simp only [List.length_set]
  by_cases e : a = i
  ·subst e
   rw [if_pos rfl, hseat]
   by_cases e2 : s = s0 ∧ (q : Int) ∈ m.seats
   ·rw [if_pos e2]; exact ⟨fun _ => .inr ⟨rfl, e2⟩, fun _ => ⟨hi, by decide⟩⟩
   ·rw [if_neg e2]; exact ⟨.inl, fun hh => hh.elim id (fun q => absurd q.2 e2)⟩
  ·rw [if_neg e]; exact ⟨.inl, fun hh => hh.elim id (fun q => absurd q.1 e)⟩
 have hck : ∀ s q : Nat, s = s0 ∧ (q : Int) ∈ m.seats → Carries W s q k0 := fun s q e => by
  refine ⟨hk0, ?_, ?_, ?_⟩
  ·rw [← hm, hs, e.1]
  ·rw [← hm]; exact e.2
  ·rw [← hm, hdst, Int.toNat_natCast]; exact hnot
 refine ⟨hok, fun s q hs' hq => ?_, I.num, fun a ha => ?_, fun a ha x hx => ?_⟩
 ·have ho := I.one s q hs' hq
  by_cases e2 : s = s0 ∧ (q : Int) ∈ m.seats
  ·rcases ho with ⟨a, g1, g2, g3⟩ | ⟨k, g1, g2, g3⟩
   ·exact absurd (hck s q e2) (g3 k0)
   ·have hkk := g2 k0 (hck s q e2)
    subst hkk
    refine .inl ⟨i, (hhd s q i).2 (.inr ⟨rfl, e2⟩), fun b hb => ?_, fun k hk' => ?_⟩
    ·rcases (hhd s q b).1 hb with hb | hb
     ·exact absurd hb (g3 b)
     ·exact hb.1
    ·have := (hcar s q k).1 hk'
     exact this.2 (g2 k this.1)
  ·have hh2 : ∀ a, Holds ⟨W.books.set i b', W.msgs⟩ s q a ↔ Holds W s q a := fun a => (hhd s q a).trans ⟨fun x => x.elim id (fun y => absurd y.2 e2), .inl⟩
   have hc2 : ∀ k, Carries ⟨W.books.set i b', W.msgs⟩ s q k ↔ Carries W s q k := fun k => (hcar s q k).trans ⟨fun x => x.1, fun x => ⟨x, fun e3 => e2 (by
    subst e3
    obtain ⟨_, a2, a3, _⟩ := x
    rw [← hm] at a2 a3
    exact ⟨by omega, a3⟩)⟩⟩
   rcases ho with ⟨a, g1, g2, g3⟩ | ⟨k, g1, g2, g3⟩
   ·exact .inl ⟨a, (hh2 a).2 g1, fun b hb => g2 b ((hh2 b).1 hb), fun k hk' => g3 k ((hc2 k).1 hk')⟩
   ·exact .inr ⟨k, (hc2 k).2 g1, fun b hb => g2 b ((hc2 b).1 hb), fun a ha => g3 a ((hh2 a).1 ha)⟩
 ·have ha' : a < W.books.length := by simpa using ha
  rw [bk_set W i b' W.msgs a hi]
  by_cases e : a = i
  ·subst e; rw [if_pos rfl, hsent]; exact I.sent a ha'
  ·rw [if_neg e]; exact I.sent a ha'
 ·have ha' : a < W.books.length := by simpa using ha
  rw [bk_set W i b' W.msgs a hi] at hx
  by_cases e : a = i
  ·subst e
   rw [if_pos rfl, htook, List.mem_append, List.mem_singleton] at hx
   rcases hx with hx | hx
   ·exact I.took a ha' x hx
   ·exact ⟨k0, hk0, by rw [hx, hm]; rfl, by show (ms W k0).dst = _; rw [← hm]; exact hdst⟩
  ·rw [if_neg e] at hx; exact I.took a ha' x hx
theorem withNone_ok {r : Except Int Book} {b' : Book} {l : List BT.Message} (hr : withNone r = .ok (b', l)) : r = .ok b' ∧ l = [] := by
 cases r with
 | ok c => injection hr with hr; injection hr with h1 h2; subst h1 h2; exact ⟨rfl, rfl⟩
 | error c => cases hr
theorem act_inv {h : House} {W : Wd} (hv : valid h = true) (I : WdInv h W) (x : ActT) : WdInv h (actD h W x).1 := by
 have hok := (act_ok hv I.ok x).1
 unfold actD at hok ⊢
 split
 rotate_left
 ·exact I
 rename_i he
 rw [if_pos he] at hok
 obtain ⟨k1, k5, h3, h4⟩ := actE_ok he
 obtain ⟨i, hia, hi⟩ := nat_of h3
 rw [hia, Int.toNat_natCast] at hok ⊢
 have hi' : i < W.books.length := by omega
 have hbv := book_valid I hi'
 have hg : W.books.getD i noBook = bk W i := rfl
 rw [hg, gate_ok hv hbv] at hok ⊢
 generalize hr : deskD h W (bk W i) x = r at hok ⊢
 cases r with
 | error c => exact I
 | ok p =>
  obtain ⟨b', l⟩ := p
  simp only [putBook] at hok ⊢
  unfold deskD at hr
  split at hr
  ·obtain ⟨hq, rfl⟩ := withNone_ok hr
   rw [List.append_nil] at hok ⊢
   exact inv_same I hi' hok (fun s j _ _ => (sell_abs hq s j).1) (sell_abs hq 0 0).2.1 (sell_abs hq 0 0).2.2
  split at hr
  ·obtain ⟨hq, rfl⟩ := withNone_ok hr
   rw [List.append_nil] at hok ⊢
   exact inv_same I hi' hok (fun s j _ _ => (refund_abs hq s j).1) (refund_abs hq 0 0).2.1 (refund_abs hq 0 0).2.2
  split at hr
  ·generalize hg : giveD h (bk W i) x.dst x.shw x.seats = r at hr
   cases r with
   | error c => cases hr
   | ok p =>
    obtain ⟨c, m⟩ := p
    injection hr with hr
    injection hr with h1 h2
    subst h1 h2
    exact give_inv hv I hi' hg hok
  split at hr
  ·rename_i hk4
   obtain ⟨hq, rfl⟩ := withNone_ok hr
   rw [List.append_nil] at hok ⊢
   obtain ⟨k0, hxm, hk0⟩ := nat_of (h4 hk4)
   rw [hxm, Int.toNat_natCast] at hq
   exact take_inv hv I hi' (k0 := k0) (by omega) hq hok
  ·obtain ⟨hq, rfl⟩ := withNone_ok hr
   rw [List.append_nil] at hok ⊢
   exact inv_same I hi' hok (fun s j _ _ => (loseD_abs hv hbv hq s j).1) (loseD_abs hv hbv hq 0 0).2.1 (loseD_abs hv hbv hq 0 0).2.2
theorem world_inv {h : House} (hv : valid h = true) (l : List ActT) : ∀ k, WdInv h (worldAt h l k)
 | 0 => start_inv hv
 | k + 1 => act_inv hv (world_inv hv l k) _
def tentH : House := ⟨[⟨0, 2⟩, ⟨1, 3⟩], [50, 20], [10, 20], [[0, 5], [0, 5]], [[0, 0, 0, 0, 0], [0, 1, 0, 1, 1]]⟩
set_option maxHeartbeats 2000000 in
theorem Tent_any (w : World) : Calls Tryz.prog 31 #[] w fun e w' => ∃ v', e = .returned v' ∧ AV (Old w) w' v' tentH ∧ Step w w' := by
 go_enter Tryz.func31, Tryz.ntmps31
 go_wp2
 refine ret_struct (k := 5) (g := w.heap.size) (T' := 41) (cs := [.slice (some ⟨w.heap.size + 1, 0, none⟩) 2 2, .slice (some ⟨w.heap.size + 2, 0, none⟩) 2 2, .slice (some ⟨w.heap.size + 3, 0, none⟩) 2 2, .slice (some ⟨w.heap.size + 6, 0, none⟩) 2 2, .slice (some ⟨w.heap.size + 9, 0, none⟩) 2 2]) rfl siHouse rfl ?_ rfl rfl ⟨_, rfl, ⟨_, rfl, ⟨_, _, _, _, _, rfl, ?_, ?_, ?_, ?_, ?_⟩⟩, ?_⟩
 ·repeat (first | exact Bx.new _ _ _ | apply Bx.alloc)
 ·refine SL.bx (g := w.heap.size + 1) (T := 117) (cs := [.int .i64 0, .int .i64 2, .int .i64 1, .int .i64 3]) (l := tentH.sectors) ?_ (by unfold Old; omega) 2 (by decide) (by decide) (fun i hi => ?_)
  ·repeat (first | (with_reducible refine Bx.new' _ _ _ _ ?_; simp; done) | (with_reducible apply Bx.alloc))
  ·have hi2 : i = 0 ∨ i = 1 := by simp [tentH] at hi; omega
   rcases hi2 with rfl | rfl <;> rfl
 ·refine SL.bx_ints (g := w.heap.size + 2) (T := 3) (l := tentH.prices) ?_ (by unfold Old; omega) 2 (by decide) (by decide)
  show Bx _ _ [.int .i64 50, .int .i64 20] _
  repeat (first | (with_reducible refine Bx.new' _ _ _ _ ?_; simp; done) | (with_reducible apply Bx.alloc))
 ·refine SL.bx_ints (g := w.heap.size + 3) (T := 3) (l := tentH.dates) ?_ (by unfold Old; omega) 2 (by decide) (by decide)
  show Bx _ _ [.int .i64 10, .int .i64 20] _
  repeat (first | (with_reducible refine Bx.new' _ _ _ _ ?_; simp; done) | (with_reducible apply Bx.alloc))
 ·refine SL.bx (g := w.heap.size + 6) (T := 23) (cs := [.slice (some ⟨w.heap.size + 4, 0, none⟩) 2 2, .slice (some ⟨w.heap.size + 5, 0, none⟩) 2 2]) (l := tentH.frm) ?_ (by unfold Old; omega) 2 (by decide) (by decide) (fun i hi => ?_)
  ·repeat (first | (with_reducible refine Bx.new' _ _ _ _ ?_; simp; done) | (with_reducible apply Bx.alloc))
  ·have hi2 : i = 0 ∨ i = 1 := by simp [tentH] at hi; omega
   rcases hi2 with rfl | rfl
   ·refine ⟨_, rfl, SL.bx_ints (g := w.heap.size + 4) (T := 3) (l := [0, 5]) ?_ (by unfold Old; omega) 2 (by decide) (by decide)⟩
    show Bx _ _ [.int .i64 0, .int .i64 5] _
    repeat (first | (with_reducible refine Bx.new' _ _ _ _ ?_; simp; done) | (with_reducible apply Bx.alloc))
   ·refine ⟨_, rfl, SL.bx_ints (g := w.heap.size + 5) (T := 3) (l := [0, 5]) ?_ (by unfold Old; omega) 2 (by decide) (by decide)⟩
    show Bx _ _ [.int .i64 0, .int .i64 5] _
    repeat (first | (with_reducible refine Bx.new' _ _ _ _ ?_; simp; done) | (with_reducible apply Bx.alloc))
 ·refine SL.bx (g := w.heap.size + 9) (T := 23) (cs := [.slice (some ⟨w.heap.size + 7, 0, none⟩) 5 5, .slice (some ⟨w.heap.size + 8, 0, none⟩) 5 5]) (l := tentH.holds) ?_ (by unfold Old; omega) 2 (by decide) (by decide) (fun i hi => ?_)
  ·repeat (first | (with_reducible refine Bx.new' _ _ _ _ ?_; simp; done) | (with_reducible apply Bx.alloc))
  ·have hi2 : i = 0 ∨ i = 1 := by simp [tentH] at hi; omega
   rcases hi2 with rfl | rfl
   ·refine ⟨_, rfl, SL.bx_ints (g := w.heap.size + 7) (T := 3) (l := [0, 0, 0, 0, 0]) ?_ (by unfold Old; omega) 5 (by decide) (by decide)⟩
    show Bx _ _ [.int .i64 0, .int .i64 0, .int .i64 0, .int .i64 0, .int .i64 0] _
    repeat (first | (with_reducible refine Bx.new' _ _ _ _ ?_; simp; done) | (with_reducible apply Bx.alloc))
   ·refine ⟨_, rfl, SL.bx_ints (g := w.heap.size + 8) (T := 3) (l := [0, 1, 0, 1, 1]) ?_ (by unfold Old; omega) 5 (by decide) (by decide)⟩
    show Bx _ _ [.int .i64 0, .int .i64 1, .int .i64 0, .int .i64 1, .int .i64 1] _
    repeat (first | (with_reducible refine Bx.new' _ _ _ _ ?_; simp; done) | (with_reducible apply Bx.alloc))
 ·exact (by repeat (first | (with_reducible assumption) | (with_reducible exact Step.refl _) | (with_reducible apply Step.s_alloc) | (with_reducible apply Step.s_drew) | (with_reducible apply Step.s_drewN) | (with_reducible refine Step.trans ?_ (by with_reducible assumption))))
def tentB : Book := ⟨0, [[0, 0, 0, 0, 0], [0, -1, 0, -1, -1]], [false, false], 0, [], 0⟩
def tentC : Book := ⟨0, [[0, 0, 7, 0, 0], [0, -1, 0, -1, -1]], [false, false], 0, [], 20⟩
def tentD : Book := ⟨0, [[0, 0, 0, 0, 0], [0, -1, 7, -1, -1]], [true, false], 0, [], 20⟩
def tentE : Book := ⟨0, [[0, 0, 0, -1, -1], [0, -1, 0, -1, -1]], [false, false], 1, [], 0⟩
theorem tent_class : classR tentH 2 = (1, 0) := by kernel_rfl
theorem tent_open : openR tentH 0 = (tentB, 0) := by kernel_rfl
theorem tent_sell : actR (doneR tentH tentB (sellD tentH tentB 0 2 7 3)) = (tentC, 0) := by kernel_rfl
theorem tent_lose : gate tentH tentC (loseD tentH tentC 0 4) = .ok (tentD, [⟨2, 1, 2⟩]) := by kernel_rfl
theorem tent_give : gate tentH tentB (giveD tentH tentB 1 0 [3, 4]) = .ok (tentE, ⟨0, 1, 1, 0, [3, 4]⟩) := by kernel_rfl
def messB (a b : BT.Message) : Bool := decide (a = b)
theorem mess_ne {f1 f2 d1 d2 n1 n2 s1 s2 : Int} {l1 l2 : List Int} (h : f1 ≠ f2 ∨ d1 ≠ d2 ∨ n1 ≠ n2 ∨ s1 ≠ s2) : messB ⟨f1, d1, n1, s1, l1⟩ ⟨f2, d2, n2, s2, l2⟩ = false := by
 simp only [messB, decide_eq_false_iff_not, BT.Message.mk.injEq]
 rintro ⟨rfl, rfl, rfl, rfl, _⟩
 simp at h
theorem mess_eq {f1 d1 n1 s1 : Int} {l1 l2 : List Int} : messB ⟨f1, d1, n1, s1, l1⟩ ⟨f1, d1, n1, s1, l2⟩ = intsB l1 l2 := by
 simp [messB, intsB]
set_option maxHeartbeats 2000000 in
theorem message_core (S : Nat → Prop) (f1 f2 d1 d2 n1 n2 s1 s2 : Int) (l1 l2 : List Int) (v1 v2 : Value) (w : World) (hv : SL S w v1 l1) (hu : SL S w v2 l2) :
  Calls Tryz.prog 42 #[.agg #[.int .i64 f1, .int .i64 d1, .int .i64 n1, .int .i64 s1, v1], .agg #[.int .i64 f2, .int .i64 d2, .int .i64 n2, .int .i64 s2, v2]] w fun e w' => e = .returned (.bool (messB ⟨f1, d1, n1, s1, l1⟩ ⟨f2, d2, n2, s2, l2⟩)) ∧ Step w w' := by
 obtain ⟨p1, k1, rfl⟩ := hv.form
 obtain ⟨p2, k2, rfl⟩ := hu.form
 obtain ⟨W0, hW0⟩ : ∃ W0, W0 = (w.alloc (.cells #[.int .i64 f1, .int .i64 d1, .int .i64 n1, .int .i64 s1, .slice p1 l1.length k1] 86)).alloc (.cells #[.int .i64 f2, .int .i64 d2, .int .i64 n2, .int .i64 s2, .slice p2 l2.length k2] 58) := ⟨_, rfl⟩
 have hS : Step w W0 := by subst hW0; exact (by repeat (first | (with_reducible assumption) | (with_reducible exact Step.refl _) | (with_reducible apply Step.s_alloc) | (with_reducible apply Step.s_drew) | (with_reducible apply Step.s_drewN) | (with_reducible refine Step.trans ?_ (by with_reducible assumption))))
 have hcall := Lib.hid (ints_any S l1 l2 _ _ W0 (hv.keep (.of_step hS)) (hu.keep (.of_step hS)))
 have HS := Lib.hid hS
 clear hS hv hu
 by_cases q0 : f1 = f2
 rotate_left
 ·have HF := Lib.hid (mess_ne (f1 := f1) (f2 := f2) (d1 := d1) (d2 := d2) (n1 := n1) (n2 := n2) (s1 := s1) (s2 := s2) (l1 := l1) (l2 := l2) (.inl q0))
  clear hcall
  have HW := Lib.hid hW0
  clear hW0
  go_enter Tryz.func42, Tryz.ntmps42
  go_wp2
  go_ret
  exact ⟨by rw [HF.out]; rfl, by rw [HW.out] at HS; exact HS.out⟩
 subst q0
 by_cases q1 : d1 = d2
 rotate_left
 ·have HF := Lib.hid (mess_ne (f1 := f1) (f2 := f1) (d1 := d1) (d2 := d2) (n1 := n1) (n2 := n2) (s1 := s1) (s2 := s2) (l1 := l1) (l2 := l2) (.inr (.inl q1)))
  clear hcall
  have HW := Lib.hid hW0
  clear hW0
  go_enter Tryz.func42, Tryz.ntmps42
  go_wp2
  go_ret
  exact ⟨by rw [HF.out]; rfl, by rw [HW.out] at HS; exact HS.out⟩
 subst q1
 by_cases q2 : n1 = n2
 rotate_left
 ·have HF := Lib.hid (mess_ne (f1 := f1) (f2 := f1) (d1 := d1) (d2 := d1) (n1 := n1) (n2 := n2) (s1 := s1) (s2 := s2) (l1 := l1) (l2 := l2) (.inr (.inr (.inl q2))))
  clear hcall
  have HW := Lib.hid hW0
  clear hW0
  go_enter Tryz.func42, Tryz.ntmps42
  go_wp2
  go_ret
  exact ⟨by rw [HF.out]; rfl, by rw [HW.out] at HS; exact HS.out⟩
 subst q2
 by_cases q3 : s1 = s2
 rotate_left
 ·have HF := Lib.hid (mess_ne (f1 := f1) (f2 := f1) (d1 := d1) (d2 := d1) (n1 := n1) (n2 := n1) (s1 := s1) (s2 := s2) (l1 := l1) (l2 := l2) (.inr (.inr (.inr q3))))
  clear hcall
  have HW := Lib.hid hW0
  clear hW0
  go_enter Tryz.func42, Tryz.ntmps42
  go_wp2
  go_ret
  exact ⟨by rw [HF.out]; rfl, by rw [HW.out] at HS; exact HS.out⟩
 subst q3
 have HF := Lib.hid (mess_eq (f1 := f1) (d1 := d1) (n1 := n1) (s1 := s1) (l1 := l1) (l2 := l2))
 subst hW0
 go_enter Tryz.func42, Tryz.ntmps42
 go_wp2_with fail
 refine hcall.out.mono ?_
 rintro e wn ⟨rfl, hSn⟩
 go_wp2
 go_ret
 exact ⟨by rw [HF.out]; rfl, HS.out.trans hSn⟩
theorem message_any (S : Nat → Prop) (a b : BT.Message) (va vb : Value) (w : World) (ha : AV S w va a) (hb : AV S w vb b) :
  Calls Tryz.prog 42 #[va, vb] w fun e w' => e = .returned (.bool (messB a b)) ∧ Step w w' := by
 obtain ⟨c, rfl, h1⟩ := ha.message
 obtain ⟨d, rfl, h2⟩ := hb.message
 exact message_core S _ _ _ _ _ _ _ _ _ _ _ _ _ h1 h2
theorem tentB_av {S : Nat → Prop} {w : World} {v : Value} (h : AV S w v tentB) : ∃ p1 c1 bb oo v1 p2 c2 p4 c4, v = .agg #[.int .i64 0, .slice (some ⟨bb, oo, none⟩) 2 c1, .slice p2 2 c2, .int .i64 0, .slice p4 0 c4, .int .i64 0] ∧ w.cell? ⟨bb, oo + 1, none⟩ = some (.slice p1 5 v1) ∧ SL S w (.slice p1 5 v1) [0, -1, 0, -1, -1] ∧ AV S w v tentB := by
 obtain ⟨d1, d2, d4, hv, s1, s2, s4⟩ := h.book
 obtain ⟨p1, k1, bb, oo, rfl, _, _, hp, hc, _⟩ := s1.rows
 obtain ⟨p2, k2, rfl⟩ := s2.form
 obtain ⟨p4, k4, rfl⟩ := s4.form
 obtain rfl := hp (by decide)
 obtain ⟨u, hu, hu2⟩ := hc 1 (by decide)
 obtain ⟨pu, cu, rfl⟩ := hu2.form
 exact ⟨pu, k1, bb, oo, cu, p2, k2, p4, k4, hv, hu, hu2, h⟩
theorem _root_.Go.BT.SL.moves {S : Nat → Prop} {w : World} {v : Value} {l : List BT.Move} (h : SL S w v l) :
  ∃ p c b o, v = .slice p l.length c ∧ l.length ≤ c ∧ l.length ≤ 9223372036854775807 ∧ (0 < l.length → p = some ⟨b, o, none⟩) ∧
   (∀ i (h : i < l.length), w.cell? ⟨b, o + i * 3, none⟩ = some (.int .i64 l[i].seat) ∧ w.cell? ⟨b, o + i * 3 + 1, none⟩ = some (.int .i64 l[i].shw) ∧ w.cell? ⟨b, o + i * 3 + 2, none⟩ = some (.int .i64 l[i].at_)) ∧ (0 < l.length → b < w.heap.size ∧ ¬ S b) := by
 obtain ⟨p, c, b, o, hv, hc, hm, hp, ha⟩ := h
 refine ⟨p, c, b, o, hv, hc, hm, hp, fun i hi => ?_, fun h0 => ⟨(ha 0 h0).1, (ha 0 h0).2.1⟩⟩
 obtain ⟨_, _, cs, hr, hcs⟩ := ha i hi
 have hr' : cs = [.int .i64 l[i].seat, .int .i64 l[i].shw, .int .i64 l[i].at_] := hr
 subst hr'
 exact ⟨hcs 0 _ rfl, hcs 1 _ rfl, hcs 2 _ rfl⟩
theorem AV.triv {α : Type} [Rep α] {S : Nat → Prop} {w : World} {v : Value} {x : α} (h : AV S w v x) : AV (fun _ => False) w v x := h.weak fun _ _ h => h.elim
theorem AV.later {α : Type} [Rep α] {S : Nat → Prop} {W w1 w' : World} {v : Value} {x : α} (h : AV (Old W) w1 v x) (hs : ∀ j, j < w1.heap.size → S j → j < W.heap.size) (hk : Keeps S w1 w') : AV S w' v x :=
 (h.weak hs).keep hk
set_option maxRecDepth 100000 in
set_option maxHeartbeats 4000000 in
theorem awake_any (w : World) : Calls Tryz.prog 10 #[] w fun e w' => e = .returned (.bool true) ∧ Step w w' := by
 go_enter Tryz.func10, Tryz.ntmps10
 have HT := Lib.hid (Step.refl w)
 go_wp2_with fail
 refine (Tent_any _).mono ?_
 rintro e wn ⟨v1, rfl, hv1, hSn⟩
 have HTi := Lib.hid (HT.out.trans hSn)
 clear hSn HT
 have HT := HTi
 clear HTi
 go_wp2_with fail
 refine (Class_any _ tentH 2 _ _ hv1).mono ?_
 rintro e wn ⟨rfl, hSn⟩
 have HTi := Lib.hid (HT.out.trans hSn)
 clear hSn HT
 have HT := HTi
 clear HTi
 rw [tent_class]
 clear hv1
 go_wp2_with fail
 refine (Tent_any _).mono ?_
 rintro e wn ⟨v1, rfl, hv1, hSn⟩
 have HTi := Lib.hid (HT.out.trans hSn)
 clear hSn HT
 have HT := HTi
 clear HTi
 go_wp2_with fail
 refine (Open_any _ tentH 0 _ _ hv1).mono ?_
 rintro e wn ⟨v2, rfl, hv2, hSn⟩
 have HTi := Lib.hid (HT.out.trans hSn)
 clear hSn HT
 have HT := HTi
 clear HTi
 rw [tent_open] at hv2 ⊢
 dsimp only at hv2
 clear hv1
 obtain ⟨p1, c1, bb, oo, k1, p2, c2, p4, c4, rfl, g1, g2, hb⟩ := tentB_av hv2
 have HG := Lib.hid (And.intro g1 (And.intro g2 hb))
 clear g1 g2 hb hv2
 go_upto_region 3 with (fail)
 have hbB := Bx.new wn [.int .i64 0, .slice (some ⟨bb, oo, none⟩) 2 c1, .slice p2 2 c2, .int .i64 0, .slice p4 0 c4, .int .i64 0] 77
 have hST := HT.out.trans (Step.alloc wn (.cells #[.int .i64 0, .slice (some ⟨bb, oo, none⟩) 2 c1, .slice p2 2 c2, .int .i64 0, .slice p4 0 c4, .int .i64 0] 77))
 have hav := AV.triv (HG.out.2.2.keep (.of_step (Step.alloc wn (.cells #[.int .i64 0, .slice (some ⟨bb, oo, none⟩) 2 c1, .slice p2 2 c2, .int .i64 0, .slice p4 0 c4, .int .i64 0] 77))))
 have hsl := SL.weak (T := fun _ => False) (fun _ _ h => h.elim) (HG.out.2.1.keep (.of_step (Step.alloc wn (.cells #[.int .i64 0, .slice (some ⟨bb, oo, none⟩) 2 c1, .slice p2 2 c2, .int .i64 0, .slice p4 0 c4, .int .i64 0] 77))))
 have g1 := (Step.alloc wn (.cells #[.int .i64 0, .slice (some ⟨bb, oo, none⟩) 2 c1, .slice p2 2 c2, .int .i64 0, .slice p4 0 c4, .int .i64 0] 77)).kc HG.out.1
 clear HG HT
 generalize wn.alloc (.cells #[.int .i64 0, .slice (some ⟨bb, oo, none⟩) 2 c1, .slice p2 2 c2, .int .i64 0, .slice p4 0 c4, .int .i64 0] 77) = W0 at *
 generalize wn.heap.size = gB at *
 have HT := Lib.hid hST
 have HB := Lib.hid hbB
 have HAB := Lib.hid hav
 have HSL := Lib.hid hsl
 obtain ⟨f0, f1, f2, f3, f4, f5⟩ := cells6 HB.out
 have hix : (0 : Int) ≤ 1 ∧ (1 : Int) < 2 := by omega
 clear hST hbB hav hsl
 go_wp2_with fail
 refine (ints_any _ [0, -1, 0, -1, -1] [0, -1, 0, -1, -1] _ _ _ (HSL.out.keep (.alloc _ _)) (SL.bx_ints (l := [0, -1, 0, -1, -1]) (Bx.new _ _ _) (fun h => h) 5 (by decide) (by decide))).mono ?_
 rintro e wm ⟨rfl, hSm⟩
 rw [show intsB [0, -1, 0, -1, -1] [0, -1, 0, -1, -1] = true from by decide]
 have HTi := Lib.hid ((HT.out.trans (Step.alloc _ _)).trans hSm)
 have HTB := Lib.hid ((Step.alloc _ _).trans hSm)
 clear hSm
 have HZM := Lib.hid (show w.heap.size ≤ wm.heap.size ∧ W0.heap.size ≤ wm.heap.size from ⟨HTi.out.size, HTB.out.size⟩)
 clear HT f0 f1 f2 f3 f4 f5 g1 HSL
 have HT := HTi
 clear HTi
 go_upto_region 5 with (fail)
 clear hix
 refine wp_region_seqM (fun c d v a w h => by cases d <;> exact h) (kdOf [0, 2] [(6, 77, .agg #[.int .i64 0, .slice none 0 0, .slice none 0 0, .int .i64 0, .slice none 0 0, .int .i64 0])]) [0, 0, 3, 7, 15, 15, 0, 95, 255] [1, 0, 2, 3, 4, 5, 6] [7, 8] (by kernel_rfl) (by kernel_rfl) (fun i T z hi hk => by simp only [List.mem_cons, List.not_mem_nil, or_false] at hi; rcases hi with rfl | rfl | rfl | rfl | rfl | rfl | rfl <;> simp [kdOf] at hk <;> (obtain ⟨rfl, rfl⟩ := hk; first | (show Option.bind _ _ = some _; kernel_rfl) | (refine ⟨_, rfl, fun _ _ => ?_⟩; go_simp))) ?_
 intro Wx hWx
 have HTx := Lib.hid (HT.out.trans hWx)
 have HTBx := Lib.hid (HTB.out.trans hWx)
 clear hWx HT HTB
 have HT := HTx
 have HTB := HTBx
 clear HTx HTBx
 obtain ⟨f0, f1, f2, f3, f4, f5⟩ := cells6 (HB.out.step HTB.out)
 repeat (first | (refine run_off rfl rfl (by rfl) ?_; (try simp only [Act.put, zA, zB, zC])) | (refine run_chain_off rfl rfl (by rfl) (K0_mono _) ?_; (try simp only [Act.put, zA, zB, zC])) | ((refine run_want rfl rfl (by rfl) ⟨?_, fun W hW => ?_, ?_⟩; rotate_left; (· (have d0 := hW.kc f0; have d1 := hW.kc f1; have d2 := hW.kc f2; have d3 := hW.kc f3; have d4 := hW.kc f4; have d5 := hW.kc f5; go_simp; (try with_reducible rfl)))); (try simp only [Act.put, zA, zB, zC])))
 clear f0 f1 f2 f3 f4 f5
 refine run_chain rfl rfl (by rfl) (fun Wi hWi K' hK => ?_)
 have HTi := Lib.hid (HT.out.trans hWi)
 have HTBi := Lib.hid (HTB.out.trans hWi)
 clear hWi HT HTB
 go_simp
 refine (Tent_any _).mono ?_
 rintro e w5 ⟨v5, rfl, hv5, hS5⟩
 have HV5 := Lib.hid (AV.triv hv5)
 have HT := Lib.hid (HTi.out.trans hS5)
 have HTB := Lib.hid (HTBi.out.trans hS5)
 clear hv5 HTi HTBi
 refine hK _ _ hS5 ?_
 clear hS5 hK
 (try simp only [Act.put, zA, zB, zC])
 repeat (first | (refine run_off rfl rfl (by rfl) ?_; (try simp only [Act.put, zA, zB, zC])) | (refine run_chain_off rfl rfl (by rfl) (K0_mono _) ?_; (try simp only [Act.put, zA, zB, zC])) | ((refine run_want rfl rfl (by rfl) ⟨?_, fun W hW => ?_, ?_⟩; rotate_left; (· (skip; go_simp; (try with_reducible rfl)))); (try simp only [Act.put, zA, zB, zC])))
 refine run_chain rfl rfl (by rfl) (fun Wi hWi K' hK => ?_)
 have HTi := Lib.hid (HT.out.trans hWi)
 have HTBi := Lib.hid (HTB.out.trans hWi)
 have HV6 := Lib.hid (HV5.out.keep (.of_step hWi))
 clear hWi HT HTB HV5
 go_simp
 refine (Sell_any _ tentH tentB _ _ 0 2 7 3 _ HV6.out (HAB.out.keep (.of_step HTBi.out))).mono ?_
 rintro e w6 ⟨v6, rfl, hv6, hS6⟩
 rw [tent_sell] at hv6 ⊢
 dsimp only at hv6
 obtain ⟨x1, x2, x4, rfl, s1, s2, s4⟩ := hv6.book
 obtain ⟨q1, m1, rfl⟩ := s1.form
 obtain ⟨q2, m2, rfl⟩ := s2.form
 obtain ⟨q4, m4, rfl⟩ := s4.form
 have HV6 := Lib.hid hv6
 have HT := Lib.hid (HTi.out.trans hS6)
 have HTB := Lib.hid (HTBi.out.trans hS6)
 clear s1 s2 s4 hv6 HTi HTBi
 refine hK _ _ hS6 ?_
 clear hS6 hK
 (try simp only [Act.put, zA, zB, zC])
 repeat (first | (refine run_off rfl rfl (by rfl) ?_; (try simp only [Act.put, zA, zB, zC])) | (refine run_chain_off rfl rfl (by rfl) (K0_mono _) ?_; (try simp only [Act.put, zA, zB, zC])) | ((refine run_want rfl rfl (by rfl) ⟨?_, fun W hW => ?_, ?_⟩; rotate_left; (· (skip; go_simp; (try with_reducible rfl)))); (try simp only [Act.put, zA, zB, zC])))
 refine run_alloc rfl rfl (fun W5 g hW5 hg hgb hgN => ?_)
 (try simp only [Act.put, zA, zB, zC])
 refine run_end (L := [_, _]) rfl (fun W6 hW6 => ?_)
 have hb6 := Bx.step (w := W5) (cs := [_, _, _, _, _, _]) hg hW6
 refine wpl_store (v := .agg #[.int .i64 tentC.agency, .slice q1 tentC.seats.length m1, .slice q2 tentC.off.length m2, .int .i64 tentC.sent, .slice q4 tentC.took.length m4, .int .i64 tentC.cash]) rfl _ _ _ rfl rfl rfl hb6 (by kernel_rfl) (by simp [Value.cells]) (by simp [Value.cells, Value.oneCell']) [.int .i64 tentC.agency, .slice q1 tentC.seats.length m1, .slice q2 tentC.off.length m2, .int .i64 tentC.sent, .slice q4 tentC.took.length m4, .int .i64 tentC.cash] rfl (fun w7 hb7 hw7 => ?_)
 have hg0 := HZM.out
 have HVC := Lib.hid (AV.triv (AV.later (S := fun j => j = g) (w' := w7) HV6.out (fun j hj hs => by omega) ((Keeps.of_step (hW5.trans hW6)).trans (.wrote hw7 rfl))))
 have HTx := Lib.hid (Step.wrote ((HT.out.trans hW5).trans hW6) hw7 (by omega))
 have HTBx := Lib.hid (Step.wrote ((HTB.out.trans hW5).trans hW6) hw7 (by omega))
 have HC := Lib.hid hb7
 have HZM7 := Lib.hid (show w.heap.size ≤ w7.heap.size ∧ W0.heap.size ≤ w7.heap.size by have := hb7.lt; omega)
 clear hW5 hg hgb hgN hW6 hb6 hb7 hw7 HV6 HT HTB hg0 HZM
 have HT := HTx
 have HTB := HTBx
 clear HTx HTBx
 go_upto_region 6 with (fail)
 refine wp_region_seqM (fun c d v a w h => by cases d <;> exact h) (kdOf [0, 2] [(7, 77, .agg #[.int .i64 0, .slice none 0 0, .slice none 0 0, .int .i64 0, .slice none 0 0, .int .i64 0])]) [0, 0, 3, 7, 15, 15, 15, 0, 159, 447, 1023] [1, 0, 2, 3, 4, 5, 6, 7] [8, 9, 10] (by kernel_rfl) (by kernel_rfl) (fun i T z hi hk => by simp only [List.mem_cons, List.not_mem_nil, or_false] at hi; rcases hi with rfl | rfl | rfl | rfl | rfl | rfl | rfl | rfl <;> simp [kdOf] at hk <;> (obtain ⟨rfl, rfl⟩ := hk; first | (show Option.bind _ _ = some _; kernel_rfl) | (refine ⟨_, rfl, fun _ _ => ?_⟩; go_simp))) ?_
 intro Wx hWx
 have HTx := Lib.hid (HT.out.trans hWx)
 have HTBx := Lib.hid (HTB.out.trans hWx)
 have HWX := Lib.hid hWx
 clear hWx HT HTB
 have HT := HTx
 have HTB := HTBx
 clear HTx HTBx
 obtain ⟨f0, f1, f2, f3, f4, f5⟩ := cells6 (HC.out.step HWX.out)
 repeat (first | (refine run_off rfl rfl (by rfl) ?_; (try simp only [Act.put, zA, zB, zC])) | (refine run_chain_off rfl rfl (by rfl) (K0_mono _) ?_; (try simp only [Act.put, zA, zB, zC])) | ((refine run_want rfl rfl (by rfl) ⟨?_, fun W hW => ?_, ?_⟩; rotate_left; (· (have d0 := hW.kc f0; have d1 := hW.kc f1; have d2 := hW.kc f2; have d3 := hW.kc f3; have d4 := hW.kc f4; have d5 := hW.kc f5; go_simp; (try with_reducible rfl)))); (try simp only [Act.put, zA, zB, zC])))
 clear f0 f1 f2 f3 f4 f5
 have HVC6 := Lib.hid (HVC.out.keep (.of_step HWX.out))
 have HTC := Lib.hid (Step.refl Wx)
 refine run_chain rfl rfl (by rfl) (fun Wi hWi K' hK => ?_)
 have HTi := Lib.hid (HT.out.trans hWi)
 have HTCi := Lib.hid (HTC.out.trans hWi)
 have HTBi := Lib.hid (HTB.out.trans hWi)
 clear hWi HT HTB HTC
 go_simp
 refine (Tent_any _).mono ?_
 rintro e w8 ⟨v8, rfl, hv5, hS5⟩
 have HV5 := Lib.hid (AV.triv hv5)
 have HT := Lib.hid (HTi.out.trans hS5)
 have HTB := Lib.hid (HTBi.out.trans hS5)
 have HTC := Lib.hid (HTCi.out.trans hS5)
 clear hv5 HTi HTBi HTCi
 refine hK _ _ hS5 ?_
 clear hS5 hK
 (try simp only [Act.put, zA, zB, zC])
 repeat (first | (refine run_off rfl rfl (by rfl) ?_; (try simp only [Act.put, zA, zB, zC])) | (refine run_chain_off rfl rfl (by rfl) (K0_mono _) ?_; (try simp only [Act.put, zA, zB, zC])) | ((refine run_want rfl rfl (by rfl) ⟨?_, fun W hW => ?_, ?_⟩; rotate_left; (· (skip; go_simp; (try with_reducible rfl)))); (try simp only [Act.put, zA, zB, zC])))
 refine run_chain rfl rfl (by rfl) (fun Wi hWi K' hK => ?_)
 have HTi := Lib.hid (HT.out.trans hWi)
 have HTBi := Lib.hid (HTB.out.trans hWi)
 have HTCi := Lib.hid (HTC.out.trans hWi)
 have HV6 := Lib.hid (HV5.out.keep (.of_step hWi))
 clear hWi HT HTB HV5 HTC
 go_simp
 refine (Lose_any _ tentH tentC _ _ 0 4 _ HV6.out (HVC6.out.keep (.of_step HTCi.out))).mono ?_
 rintro e w9 ⟨v9, l9, rfl, hv6, hl9, hS6⟩
 rw [tent_lose] at hv6 hl9 ⊢
 dsimp only [bookOf, actR, restOf] at hv6 hl9
 simp only [bookOf, actR]
 obtain ⟨x1, x2, x4, rfl, s1, s2, s4⟩ := hv6.book
 obtain ⟨q1', m1', rfl⟩ := s1.form
 obtain ⟨q2', m2', rfl⟩ := s2.form
 obtain ⟨q4', m4', rfl⟩ := s4.form
 obtain ⟨pl, cl, bl, ol, rfl, _, _, hpl, hcl, hbl⟩ := hl9.moves
 obtain rfl := hpl (by decide)
 have hcl := hcl 0 (by decide)
 have hbl := hbl (by decide)
 have HCL := Lib.hid (And.intro hcl hbl)
 have HT := Lib.hid (HTi.out.trans hS6)
 have HTB := Lib.hid (HTBi.out.trans hS6)
 have HTC := Lib.hid (HTCi.out.trans hS6)
 clear s1 s2 s4 hv6 HTi HTBi HTCi hcl hbl hpl hl9
 refine hK _ _ hS6 ?_
 clear hS6 hK
 (try simp only [Act.put, zA, zB, zC])
 repeat (first | (refine run_off rfl rfl (by rfl) ?_; (try simp only [Act.put, zA, zB, zC])) | (refine run_chain_off rfl rfl (by rfl) (K0_mono _) ?_; (try simp only [Act.put, zA, zB, zC])) | ((refine run_want rfl rfl (by rfl) ⟨?_, fun W hW => ?_, ?_⟩; rotate_left; (· (skip; go_simp; (try with_reducible rfl)))); (try simp only [Act.put, zA, zB, zC])))
 refine run_alloc rfl rfl (fun W5 g2 hW5 hg hgb hgN => ?_)
 (try simp only [Act.put, zA, zB, zC])
 refine run_end (L := [_, _, _]) rfl (fun W6 hW6 => ?_)
 have hb6 := Bx.step (w := W5) (cs := [_, _, _, _, _, _]) hg hW6
 refine wpl_store (v := .agg #[.int .i64 tentD.agency, .slice q1' tentD.seats.length m1', .slice q2' tentD.off.length m2', .int .i64 tentD.sent, .slice q4' tentD.took.length m4', .int .i64 tentD.cash]) rfl _ _ _ rfl rfl rfl hb6 (by kernel_rfl) (by simp [Value.cells]) (by simp [Value.cells, Value.oneCell']) [.int .i64 tentD.agency, .slice q1' tentD.seats.length m1', .slice q2' tentD.off.length m2', .int .i64 tentD.sent, .slice q4' tentD.took.length m4', .int .i64 tentD.cash] rfl (fun w10 hb10 hw10 => ?_)
 have hg0 := HZM7.out
 have hcl := HCL.out.1
 have hbl := HCL.out.2
 have hk10 : Keeps (fun j => j = g2) w9 w10 := (Keeps.of_step (hW5.trans hW6)).trans (.wrote hw10 rfl)
 have hne : ¬ bl = g2 := by
  have h1 := hbl.1
  have h2 := hbl.2
  unfold Old at h2
  intro e
  rw [e] at h1 h2
  omega
 have HM := Lib.hid (And.intro (hk10.cell hne hcl.1) (And.intro (hk10.cell hne hcl.2.1) (hk10.cell hne hcl.2.2)))
 have hgC : g ≠ g2 := by have := HC.out.lt; omega
 have HTx := Lib.hid (Step.wrote ((HT.out.trans hW5).trans hW6) hw10 (by omega))
 have HTBx := Lib.hid (Step.wrote ((HTB.out.trans hW5).trans hW6) hw10 (by omega))
 have HTCx := Lib.hid (HC.out.keep ((Keeps.of_step ((HWX.out.trans HTC.out).trans (hW5.trans hW6))).trans (.wrote hw10 (S := fun j => j = g2) rfl)) hgC)
 have HD := Lib.hid hb10
 have HZM10 := Lib.hid (show w.heap.size ≤ w10.heap.size ∧ W0.heap.size ≤ w10.heap.size by have := hb10.lt; omega)
 clear hW5 hg hgb hgN hW6 hb6 hb10 hw10 HV6 HT HTB hg0 hcl hbl hk10 hne hgC HCL HC HTC HWX HVC HVC6
 have HT := HTx
 have HTB := HTBx
 have HC := HTCx
 clear HTx HTBx HTCx
 go_upto_region 7 with (fail)
 refine wp_region_seqM (fun c d v a w h => by cases d <;> exact h) (kdOf [0, 3] [(2, 3, .tuple #[.int IntKind.i64 3, .int IntKind.i64 4]), (8, 77, .agg #[.int .i64 0, .slice none 0 0, .slice none 0 0, .int .i64 0, .slice none 0 0, .int .i64 0]), (9, 86, .agg #[.int .i64 0, .int .i64 0, .int .i64 0, .int .i64 0, .slice none 0 0])]) [0, 0, 0, 7, 15, 31, 31, 31, 0, 0, 831, 1919, 4095] [1, 0, 2, 3, 4, 5, 6, 7, 8, 9] [10, 11, 12] (by kernel_rfl) (by kernel_rfl) (fun i T z hi hk => by simp only [List.mem_cons, List.not_mem_nil, or_false] at hi; rcases hi with rfl | rfl | rfl | rfl | rfl | rfl | rfl | rfl | rfl | rfl <;> simp [kdOf] at hk <;> (obtain ⟨rfl, rfl⟩ := hk; first | (show Option.bind _ _ = some _; kernel_rfl) | (refine ⟨_, rfl, fun _ _ => ?_⟩; go_simp))) ?_
 intro Wx hWx
 have HTx := Lib.hid (HT.out.trans hWx)
 have HTBx := Lib.hid (HTB.out.trans hWx)
 have HTX := Lib.hid hWx
 clear hWx HT HTB
 have HT := HTx
 have HTB := HTBx
 clear HTx HTBx
 obtain ⟨f0, f1, f2, f3, f4, f5⟩ := cells6 (HB.out.step HTB.out)
 repeat (first | (refine run_off rfl rfl (by rfl) ?_; (try simp only [Act.put, zA, zB, zC])) | (refine run_chain_off rfl rfl (by rfl) (K0_mono _) ?_; (try simp only [Act.put, zA, zB, zC])) | ((refine run_want rfl rfl (by rfl) ⟨?_, fun W hW => ?_, ?_⟩; rotate_left; (· (have d0 := hW.kc f0; have d1 := hW.kc f1; have d2 := hW.kc f2; have d3 := hW.kc f3; have d4 := hW.kc f4; have d5 := hW.kc f5; go_simp; (try with_reducible rfl)))); (try simp only [Act.put, zA, zB, zC])))
 clear f0 f1 f2 f3 f4 f5
 refine run_chain rfl rfl (by rfl) (fun Wi hWi K' hK => ?_)
 have HTi := Lib.hid (HT.out.trans hWi)
 have HTBi := Lib.hid (HTB.out.trans hWi)
 have HTXi := Lib.hid (HTX.out.trans hWi)
 clear hWi HT HTB HTX
 go_simp
 refine (Tent_any _).mono ?_
 rintro e w11 ⟨v11, rfl, hv5, hS5⟩
 have HV5 := Lib.hid (AV.triv hv5)
 have HT := Lib.hid (HTi.out.trans hS5)
 have HTB := Lib.hid (HTBi.out.trans hS5)
 have HTX := Lib.hid (HTXi.out.trans hS5)
 clear hv5 HTi HTBi HTXi
 refine hK _ _ hS5 ?_
 clear hS5 hK
 (try simp only [Act.put, zA, zB, zC])
 repeat (first | (refine run_off rfl rfl (by rfl) ?_; (try simp only [Act.put, zA, zB, zC])) | (refine run_chain_off rfl rfl (by rfl) (K0_mono _) ?_; (try simp only [Act.put, zA, zB, zC])) | ((refine run_want rfl rfl (by rfl) ⟨?_, fun W hW => ?_, ?_⟩; rotate_left; (· (skip; go_simp; (try with_reducible rfl)))); (try simp only [Act.put, zA, zB, zC])))
 refine run_consts rfl rfl (fun Wk gS hWk hgS hgSb hgSN => ?_)
 have HSL := Lib.hid (SL.bx_ints (S := fun _ => False) (l := [3, 4]) (show Bx Wk gS [.int .i64 3, .int .i64 4] 3 from hgS) (fun h => h) 2 (by decide) (by decide))
 have HTi := Lib.hid (HT.out.trans hWk)
 have HTBi := Lib.hid (HTB.out.trans hWk)
 have HTXi := Lib.hid (HTX.out.trans hWk)
 have HV6 := Lib.hid (HV5.out.keep (.of_step hWk))
 clear hWk hgS hgSb hgSN HT HTB HTX HV5
 (try simp only [Act.put, zA, zB, zC])
 repeat (first | (refine run_off rfl rfl (by rfl) ?_; (try simp only [Act.put, zA, zB, zC])) | (refine run_chain_off rfl rfl (by rfl) (K0_mono _) ?_; (try simp only [Act.put, zA, zB, zC])) | ((refine run_want rfl rfl (by rfl) ⟨?_, fun W hW => ?_, ?_⟩; rotate_left; (· (skip; go_simp; (try with_reducible rfl)))); (try simp only [Act.put, zA, zB, zC])))
 refine run_chain rfl rfl (by rfl) (fun Wi hWi K' hK => ?_)
 have HT := Lib.hid (HTi.out.trans hWi)
 have HTB := Lib.hid (HTBi.out.trans hWi)
 have HTX := Lib.hid (HTXi.out.trans hWi)
 have HV7 := Lib.hid (HV6.out.keep (.of_step hWi))
 have HSL2 := Lib.hid (HSL.out.keep (.of_step hWi))
 clear hWi HTi HTBi HTXi HV6 HSL
 go_simp
 refine (Give_any _ _ tentH tentB _ _ _ 1 0 [3, 4] _ HV7.out (HAB.out.keep (.of_step HTB.out)) HSL2.out (by decide)).mono ?_
 rintro e w12 ⟨v12, m12, rfl, hv6, hm6, hS6⟩
 rw [tent_give] at hv6 hm6 ⊢
 dsimp only [bookOf, actR, restOf] at hv6 hm6
 simp only [bookOf, actR]
 obtain ⟨x1, x2, x4, rfl, s1, s2, s4⟩ := hv6.book
 obtain ⟨q1x, m1x, rfl⟩ := s1.form
 obtain ⟨q2x, m2x, rfl⟩ := s2.form
 obtain ⟨q4x, m4x, rfl⟩ := s4.form
 obtain ⟨y4, rfl, t4⟩ := hm6.message
 obtain ⟨qm, km, rfl⟩ := t4.form
 have HMM := Lib.hid hm6
 have HTi := Lib.hid (HT.out.trans hS6)
 have HTBi := Lib.hid (HTB.out.trans hS6)
 have HTXi := Lib.hid (HTX.out.trans hS6)
 clear s1 s2 s4 t4 hv6 hm6 HT HTB HTX
 refine hK _ _ hS6 ?_
 clear hS6 hK
 (try simp only [Act.put, zA, zB, zC])
 repeat (first | (refine run_off rfl rfl (by rfl) ?_; (try simp only [Act.put, zA, zB, zC])) | (refine run_chain_off rfl rfl (by rfl) (K0_mono _) ?_; (try simp only [Act.put, zA, zB, zC])) | ((refine run_want rfl rfl (by rfl) ⟨?_, fun W hW => ?_, ?_⟩; rotate_left; (· (skip; go_simp; (try with_reducible rfl)))); (try simp only [Act.put, zA, zB, zC])))
 refine run_alloc rfl rfl (fun W5 g3 hW5 hg hgb hgN => ?_)
 (try simp only [Act.put, zA, zB, zC])
 refine run_alloc rfl rfl (fun W6 g4 hW6 hg' hgb' hgN' => ?_)
 (try simp only [Act.put, zA, zB, zC])
 refine run_end (L := [_, _, _]) rfl (fun W7 hW7 => ?_)
 have hb3 : Bx W7 g3 [_, _, _, _, _, _] 77 := Bx.step (w := W5) (cs := [_, _, _, _, _, _]) hg (hW6.trans hW7)
 have hb4 : Bx W7 g4 [_, _, _, _, _] 86 := Bx.step (w := W6) (cs := [_, _, _, _, _]) hg' hW7
 refine wpl_store (v := .agg #[.int .i64 tentE.agency, .slice q1x tentE.seats.length m1x, .slice q2x tentE.off.length m2x, .int .i64 tentE.sent, .slice q4x tentE.took.length m4x, .int .i64 tentE.cash]) rfl _ _ _ rfl rfl rfl hb3 (by kernel_rfl) (by simp [Value.cells]) (by simp [Value.cells, Value.oneCell']) [.int .i64 tentE.agency, .slice q1x tentE.seats.length m1x, .slice q2x tentE.off.length m2x, .int .i64 tentE.sent, .slice q4x tentE.took.length m4x, .int .i64 tentE.cash] rfl (fun w13 hb13 hw13 => ?_)
 have hne : g4 ≠ g3 := hgN'.2
 have hb4' := hb4.keep hw13.keeps hne
 refine wpl_store (v := .agg #[.int .i64 0, .int .i64 1, .int .i64 1, .int .i64 0, .slice qm 2 km]) rfl _ _ _ rfl rfl rfl hb4' (by kernel_rfl) (by simp [Value.cells]) (by simp [Value.cells, Value.oneCell']) [.int .i64 0, .int .i64 1, .int .i64 1, .int .i64 0, .slice qm 2 km] rfl (fun w14 hb14 hw14 => ?_)
 have hk14 : Keeps (fun j => j = g3 ∨ j = g4) w12 w14 := ((Keeps.of_step ((hW5.trans hW6).trans hW7)).trans (.wrote hw13 (.inl rfl))).trans (.wrote hw14 (.inr rfl))
 have hm14 := Lib.hid (AV.triv (AV.later (S := fun j => j = g3 ∨ j = g4) (w' := w14) HMM.out (fun j hj hs => by omega) hk14))
 have hg0 := HZM10.out
 have HTx := Lib.hid (Step.wrote (Step.wrote (((HTi.out.trans hW5).trans hW6).trans hW7) hw13 (by omega)) hw14 (by omega))
 have hX10 : Keeps (fun j => j = g3 ∨ j = g4) w10 w14 := (Keeps.of_step HTXi.out).trans hk14
 have hc5 := (HC.out.keep hX10 (by have := HC.out.lt; omega)).cell 5
 have hd5 := (HD.out.keep hX10 (by have := HD.out.lt; omega)).cell 5
 have hbl : bl < w10.heap.size := World.block_lt_of_cell? w10 ⟨bl, _, none⟩ HM.out.1
 have m0 := hX10.cell (by show ¬ (bl = g3 ∨ bl = g4); omega) HM.out.1
 have m1 := hX10.cell (by show ¬ (bl = g3 ∨ bl = g4); omega) HM.out.2.1
 have m2 := hX10.cell (by show ¬ (bl = g3 ∨ bl = g4); omega) HM.out.2.2
 obtain ⟨e0, e1, e2, e3, e4⟩ := cells5 hb14
 change w14.cell? ⟨g, 5, none⟩ = some (.int .i64 20) at hc5
 change w14.cell? ⟨g2, 5, none⟩ = some (.int .i64 20) at hd5
 change w14.cell? ⟨bl, ol, none⟩ = some (.int .i64 2) at m0
 change w14.cell? ⟨bl, ol + 1, none⟩ = some (.int .i64 1) at m1
 change w14.cell? ⟨bl, ol + 2, none⟩ = some (.int .i64 2) at m2
 have hmv : ∀ w, (binOp .eql 97 (.agg #[.int .i64 2, .int .i64 1, .int .i64 2]) (.agg #[.int .i64 2, .int .i64 1, .int .i64 2])).run Tryz.prog w = .ok (.bool true) w := fun _ => by kernel_rfl
 have hix0 : (0 : Int) ≤ 0 ∧ (0 : Int) < 1 := by omega
 clear hW5 hg hgb hgN hW6 hg' hgb' hgN' hW7 hb3 hb4 hb13 hw13 hne hb4' hb14 hw14 hk14 hX10 hbl hg0 HTi HTBi HTXi HMM HD HC HM HV7 HSL2 HZM10 HZM7 HB HAB
 have HT := HTx
 clear HTx
 go_wp2_with fail
 refine (message_any (fun _ => False) ⟨0, 1, 1, 0, [3, 4]⟩ ⟨0, 1, 1, 0, [3, 4]⟩ _ _ _ (hm14.out.keep (.alloc _ _)) ⟨_, rfl, _, rfl, SL.bx_ints (l := [3, 4]) (Bx.new _ _ _) (fun h => h) 2 (by decide) (by decide)⟩).mono ?_
 rintro e w15 ⟨rfl, hSm⟩
 rw [show messB ⟨0, 1, 1, 0, [3, 4]⟩ ⟨0, 1, 1, 0, [3, 4]⟩ = true from by decide]
 go_wp2
 go_ret
 exact ⟨rfl, (HT.out.trans (Step.alloc _ _)).trans hSm⟩
end Go.Proofs.YtgpiieogiafdoaaGreat
namespace Go.BT.Mk
open Go.BT
open Go.RowKit
inductive Kd where
 | silent | chain | alloc (T : TypeId) (z : Value) | make (T : TypeId) (n : Nat) (xs : Array Value) | pure
def madeV (z : Value) (g : Nat) : Value := match z with
 | .tuple xs => .slice (some ⟨g, 0, none⟩) xs.size xs.size
 | _ => .pointer (some ⟨g, 0, none⟩)
def madeC (z : Value) : Array Value := match z with
 | .tuple xs => xs
 | z => z.cells
def isTup (z : Value) : Bool := match z with
 | .tuple _ => true
 | _ => false
def Makes (P : Program) (ops : Array Oper) (i : Nat) (T : TypeId) (z : Value) : Prop := match z with
 | .tuple xs => ∃ o, ops[i]? = some o ∧ ∀ (a : Act) (w : World), (execOp a.eval o).run P w = .ok (.value (.slice (some ⟨w.heap.size, 0, none⟩) xs.size xs.size)) (w.alloc (.cells xs T))
 | z => (P.info? T).bind (·.zero) = some z
def MakesAt (P : Program) (ops : Array Oper) (i : Nat) (T : TypeId) (n : Nat) (xs : Array Value) (a : Act) : Prop :=
 ∃ o, ops[i]? = some o ∧ Region.wanted o (yielded ops a.tmps) = true ∧ ∀ w : World, (execOp a.eval o).run P w = .ok (.value (.slice (some ⟨w.heap.size, 0, none⟩) n n)) (w.alloc (.cells xs T))
def QF : Exit → Act → World → Prop := fun _ _ _ => False
abbrev Cont := (Nat → Prop) → Act → World → Prop
def ContMono (X : Nat → Prop) (K : Cont) : Prop := ∀ (N N' : Nat → Prop) a w w', (∀ g, N' g → N g) → StepX X w w' → K N a w → K N' a w'
section
variable (P : Program) (ops : Array Oper) (X : Nat → Prop) (base : Nat) (kd : Nat → Kd)
def go (i : Nat) (K : Cont) : Cont := fun N a w =>
 match kd i with
 | .silent => ∃ o v, ops[i]? = some o ∧ YieldsIf P ops (StepX X w) o v a ∧ K N (a.put o.dst v) w
 | .chain => ∀ W, StepX X w W → wpOp P ops QF i (fun a' w' => StepX X W w' ∧ K (fun g => N g ∧ (g < W.heap.size ∨ w'.heap.size ≤ g)) a' w') a W
 | .alloc T z => ∀ W g, StepX X w W → W.heap[g]? = some (.cells (madeC z) T (0, 0)) → base ≤ g → N g → K (fun x => N x ∧ x ≠ g) (a.put ((ops[i]?).bind (·.dst)) (madeV z g)) W
 | .make T n xs => MakesAt P ops i T n xs a ∧ ∀ W g, StepX X w W → W.heap[g]? = some (.cells xs T (0, 0)) → base ≤ g → N g → K (fun x => N x ∧ x ≠ g) (a.put ((ops[i]?).bind (·.dst)) (.slice (some ⟨g, 0, none⟩) n n)) W
 | .pure => ∃ o v, ops[i]? = some o ∧ YieldsIf P ops (fun _ => True) o v a ∧ K N (a.put o.dst v) w
def run (l : List Nat) (K : Cont) : Cont := l.foldr (fun i K => go P ops X base kd i K) K
variable {P ops X base kd}
theorem YieldsIf.step {o : Oper} {v : Value} {a : Act} {w w' : World} (h : YieldsIf P ops (StepX X w) o v a) (hs : StepX X w w') : YieldsIf P ops (StepX X w') o v a :=
 h.imp (fun ⟨hw, hv⟩ => ⟨hw, fun W hW => hv W (hs.trans hW)⟩) id
theorem go_cong {i : Nat} {K K' : Cont} (h : ∀ N a w, K N a w → K' N a w) {N : Nat → Prop} {a : Act} {w : World} (hg : go P ops X base kd i K N a w) : go P ops X base kd i K' N a w := by
 unfold go at *
 split at hg
 ·obtain ⟨o, v, ho, hy, hk⟩ := hg; exact ⟨o, v, ho, hy, h _ _ _ hk⟩
 ·exact fun W hW => wpOp_mono (fun a' w' ⟨hs, hk⟩ => ⟨hs, h _ _ _ hk⟩) (hg W hW)
 ·exact fun W g h1 h2 h3 h4 => h _ _ _ (hg W g h1 h2 h3 h4)
 ·exact ⟨hg.1, fun W g h1 h2 h3 h4 => h _ _ _ (hg.2 W g h1 h2 h3 h4)⟩
 ·obtain ⟨o, v, ho, hy, hk⟩ := hg; exact ⟨o, v, ho, hy, h _ _ _ hk⟩
theorem go_mono {i : Nat} {K : Cont} (hK : ContMono X K) : ContMono X (go P ops X base kd i K) := by
 intro N N' a w w' hN hs hg
 unfold go at *
 split at hg
 ·obtain ⟨o, v, ho, hy, hk⟩ := hg; exact ⟨o, v, ho, YieldsIf.step hy hs, hK _ _ _ _ _ hN hs hk⟩
 ·exact fun W hW => wpOp_mono (fun a' w' ⟨hs', hk⟩ => ⟨hs', hK _ _ _ _ _ (fun g ⟨h1, h2⟩ => ⟨hN g h1, h2⟩) (StepX.refl _ _) hk⟩) (hg W (hs.trans hW))
 ·exact fun W g h1 h2 h3 h4 => hK _ _ _ _ _ (fun x ⟨h5, h6⟩ => ⟨hN x h5, h6⟩) (StepX.refl _ _) (hg W g (hs.trans h1) h2 h3 (hN g h4))
 ·exact ⟨hg.1, fun W g h1 h2 h3 h4 => hK _ _ _ _ _ (fun x ⟨h5, h6⟩ => ⟨hN x h5, h6⟩) (StepX.refl _ _) (hg.2 W g (hs.trans h1) h2 h3 (hN g h4))⟩
 ·obtain ⟨o, v, ho, hy, hk⟩ := hg; exact ⟨o, v, ho, hy, hK _ _ _ _ _ hN hs hk⟩
theorem run_mono {K : Cont} (hK : ContMono X K) : ∀ l, ContMono X (run P ops X base kd l K)
 | [] => hK
 | _ :: l => go_mono (run_mono hK l)
theorem wpOp_under {j : Nat} {oj : Oper} {dst : Option Tmp} {v : Value} (hj : ops[j]? = some oj) (h1 : ∀ d, dst = some d → d ∉ oj.looksAt ops) (h2 : ∀ d, dst = some d → oj.dst ≠ some d)
  (hsj : ∀ cs b, oj.op ≠ .select cs b) {K : Act → World → Prop} {a : Act} {w : World} (h : wpOp P ops QF j K a w) :
  wpOp P ops QF j (fun a' w' => ∃ a0, a' = a0.put dst v ∧ K a0 w') (a.put dst v) w := by
 unfold wpOp at *
 simp only [hj] at *
 rw [wanted_put oj a dst v h1]
 split
 ·rename_i hw
  simp only [hw, if_true] at h
  rcases h with h | ⟨_, a0, w0, hF⟩
  case inr => exact hF.elim
  refine .inl ?_
  unfold Oper.wp at *
  rw [execOp_put oj hsj a dst v h1]
  generalize (execOp a.eval oj).run P w = r at *
  cases r with
  | ok n w' =>
   cases n <;> simp only [Oper.upon] at h ⊢
   case value u => exact ⟨_, (Act.put_comm a v u h2), h⟩
   case skip => exact ⟨_, (Act.put_comm a v undef h2), h⟩
   case defer d => exact ⟨_, (by rw [← Act.put_comm _ v undef h2]; cases dst <;> rfl), h⟩
   case enter f args =>
    refine Calls.mono h fun e w'' he => ?_
    cases e with
    | returned u => exact ⟨_, (Act.put_comm a v u h2), he⟩
    | panicked c => exact he.elim
    | outgrown => exact he
   case row row args => exact Rows.mono h fun u w'' he => ⟨_, (Act.put_comm a v u h2), he⟩
  | halt x w' =>
   cases x <;> simp only [Oper.upon] at h ⊢
   case panic u => exact h.elim
 ·rename_i hw
  simp only [hw] at h
  exact ⟨_, (Act.put_comm a v undef h2), h⟩
theorem calls_ex {f : FuncId} {args : Array Value} {w : World} {R : Ending → World → Prop} (h : Calls P f args w R) : ∃ e w', R e w' := by
 obtain ⟨e, w', _, hR, _⟩ := h []
 exact ⟨e, w', hR⟩
theorem wpOp_pure {i : Nat} {oi : Oper} (hi : ops[i]? = some oi) {Φ : Act → Prop} (hΦ : ∀ a v, Φ (a.put oi.dst v) → Φ a) (hD : ∀ (a : Act) (d : Deferred), Φ { a with defers := d :: a.defers } → Φ a) {K : Act → World → Prop} {a : Act} {w : World} (h : wpOp P ops QF i K a w) (hK : ∀ a' w', K a' w' → Φ a') : Φ a := by
 unfold wpOp at h
 simp only [hi] at h
 split at h
 ·rcases h with h | ⟨_, a0, w0, hF⟩
  case inr => exact hF.elim
  unfold Oper.wp at h
  generalize (execOp a.eval oi).run P w = r at h
  cases r with
  | ok n w' =>
   cases n <;> simp only [Oper.upon] at h
   case value u => exact hΦ a u (hK _ _ h)
   case skip => exact hΦ a undef (hK _ _ h)
   case defer d => exact hD a d (hΦ _ undef (hK _ _ h))
   case enter f args =>
    obtain ⟨e, w'', he⟩ := calls_ex h
    cases e with
    | returned u => exact hΦ a u (hK _ _ he)
    | panicked c => exact he.elim
    | outgrown => obtain ⟨_, _, hF⟩ := he; exact hF.elim
   case row row args =>
    obtain ⟨u, w'', he, _⟩ := h (Frame.enter P 0 #[] .normal) []
    exact hΦ a u (hK _ _ he)
   all_goals exact h.elim
  | halt x w' => cases x <;> simp only [Oper.upon] at h <;> exact h.elim
 ·exact hΦ a undef (hK _ _ h)
theorem wpOp_keep {i : Nat} {oi : Oper} (hi : ops[i]? = some oi) {Φ : Act → Prop} (hΦ : ∀ a v, Φ a → Φ (a.put oi.dst v)) (hD : ∀ (a : Act) (d : Deferred), Φ a → Φ { a with defers := d :: a.defers }) {K : Act → World → Prop} {a : Act} {w : World} (h : wpOp P ops QF i K a w) (ha : Φ a) : wpOp P ops QF i (fun a' w' => K a' w' ∧ Φ a') a w := by
 unfold wpOp at *
 simp only [hi] at *
 split
 ·rename_i hw
  simp only [hw, if_true] at h
  rcases h with h | ⟨_, a0, w0, hF⟩
  case inr => exact hF.elim
  refine .inl ?_
  unfold Oper.wp at *
  generalize (execOp a.eval oi).run P w = r at *
  cases r with
  | ok n w' =>
   cases n <;> simp only [Oper.upon] at h ⊢
   case value u => exact ⟨h, hΦ _ _ ha⟩
   case skip => exact ⟨h, hΦ _ _ ha⟩
   case defer d => exact ⟨h, hΦ _ _ (hD _ _ ha)⟩
   case enter f args =>
    refine Calls.mono h fun e w'' he => ?_
    cases e with
    | returned u => exact ⟨he, hΦ _ _ ha⟩
    | panicked c => exact he.elim
    | outgrown => exact he
   case row row args => exact Rows.mono h fun u w'' he => ⟨he, hΦ _ _ ha⟩
  | halt x w' =>
   cases x <;> simp only [Oper.upon] at h ⊢
   case panic u => exact h.elim
 ·rename_i hw
  simp only [hw] at h
  exact ⟨h, hΦ _ _ ha⟩
theorem YieldsIf.same {o : Oper} {v v' : Value} {a : Act} (h : YieldsIf P ops (fun _ => True) o v a) (h' : YieldsIf P ops (fun _ => True) o v' a) (w : World) : v = v' := by
 rcases h with ⟨h1, h2⟩ | ⟨h1, h2⟩ <;> rcases h' with ⟨k1, k2⟩ | ⟨k1, k2⟩
 ·have e := (h2 w trivial).symm.trans (k2 w trivial)
  injection e with e
  injection e
 ·rw [h1] at k1; cases k1
 ·rw [h1] at k1; cases k1
 ·rw [h2, k2]
def swaps : Kd → Kd → Bool
 | .silent, _ => true
 | .pure, _ => true
 | .chain, .pure => true
 | .chain, .alloc _ _ => true
 | .alloc _ _, .alloc _ _ => true
 | .chain, .make _ _ _ => true
 | .make _ _ _, .alloc _ _ => true
 | _, _ => false
theorem exch {i j : Nat} {oi oj : Oper} (hi : ops[i]? = some oi) (hj : ops[j]? = some oj) (hap : oi.apart ops oj = true)
  (hsi : ∀ cs b, oi.op ≠ .select cs b) (hsj : ∀ cs b, oj.op ≠ .select cs b) (hsw : swaps (kd i) (kd j) = true) (hX : ∀ j, X j → j < base) {K : Cont} (hK : ContMono X K) {N : Nat → Prop} {a : Act} {w : World}
  (h : go P ops X base kd i (go P ops X base kd j K) N a w) : go P ops X base kd j (go P ops X base kd i K) N a w := by
 obtain ⟨h1, h2, h3⟩ := Oper.apart_spec hap
 have keepI : ∀ {S : World → Prop} {v : Value} {a : Act} (u : Value), YieldsIf P ops S oi v a → YieldsIf P ops S oi v (a.put oj.dst u) := fun {S v a} u hy =>
  hy.of_same (execOp_put oi hsi a oj.dst u h3) (wanted_put oi a oj.dst u h3)
 have backJ : ∀ {S : World → Prop} {v u : Value} {a : Act}, YieldsIf P ops S oj v (a.put oi.dst u) → YieldsIf P ops S oj v a := fun {S v u a} hy =>
  hy.of_same (execOp_put oj hsj a oi.dst u h1).symm (wanted_put oj a oi.dst u h1).symm
 have hdi : (ops[i]?).bind (·.dst) = oi.dst := by rw [hi]; rfl
 have hdj : (ops[j]?).bind (·.dst) = oj.dst := by rw [hj]; rfl
 have hsome : ∀ {w w' : World} {g : Nat} {o : Obj}, StepX X w w' → base ≤ g → w.heap[g]? = some o → w'.heap[g]? = some o := fun {w w' g o} hs hb hg => by
  rw [hs.block g (Array.getElem?_eq_some_iff.1 hg).1 (fun hx => by have := hX g hx; omega)]; exact hg
 have makesBack : ∀ {T : TypeId} {n : Nat} {xs : Array Value} {a : Act} {v : Value}, MakesAt P ops j T n xs (a.put oi.dst v) → MakesAt P ops j T n xs a := fun {T n xs a v} ⟨o, ho, hg, hr⟩ => by
  obtain rfl : oj = o := by rw [hj] at ho; exact Option.some.inj ho
  exact ⟨oj, hj, by rw [← wanted_put oj a oi.dst v h1]; exact hg, fun w => by rw [← execOp_put oj hsj a oi.dst v h1]; exact hr w⟩
 have makesKeep : ∀ {T : TypeId} {n : Nat} {xs : Array Value} {a : Act} {v : Value}, MakesAt P ops i T n xs a → MakesAt P ops i T n xs (a.put oj.dst v) := fun {T n xs a v} ⟨o, ho, hg, hr⟩ => by
  obtain rfl : oi = o := by rw [hi] at ho; exact Option.some.inj ho
  exact ⟨oi, hi, by rw [wanted_put oi a oj.dst v h3]; exact hg, fun w => by rw [execOp_put oi hsi a oj.dst v h3]; exact hr w⟩
 cases hki : kd i with
 | make T n xs =>
  cases hkj : kd j with
  | silent => simp [hki, hkj, swaps] at hsw
  | chain => simp [hki, hkj, swaps] at hsw
  | make T' n' xs' => simp [hki, hkj, swaps] at hsw
  | pure => simp [hki, hkj, swaps] at hsw
  | alloc T' z' =>
   simp only [go, hki, hkj] at h ⊢
   intro W' g' hs' hb' hg' hN'
   refine ⟨by rw [hdj]; exact makesKeep h.1, ?_⟩
   intro W g hs hb hg ⟨hN, hne⟩
   have h := h.2
   rw [hdi, hdj] at *
   rw [← Act.put_comm a _ _ h2]
   exact hK _ _ _ _ _ (fun x ⟨⟨q1, q2⟩, q3⟩ => ⟨⟨q1, q3⟩, q2⟩) (StepX.refl _ _) (h W g (hs'.trans hs) hb hg hN W g' (StepX.refl _ _) (hsome hs hg' hb') hg' ⟨hN', fun e => hne e.symm⟩)
 | silent =>
  cases hkj : kd j with
  | make T n xs =>
   simp only [go, hki, hkj] at h ⊢
   obtain ⟨o, v, ho, hy, hm, hk⟩ := h
   obtain rfl : oi = o := by rw [hi] at ho; exact Option.some.inj ho
   refine ⟨makesBack hm, fun W g hs hb hg hN => ⟨_, v, hi, ?_, ?_⟩⟩
   ·rw [hdj]; exact keepI _ (YieldsIf.step hy hs)
   ·rw [hdj, ← Act.put_comm a v _ h2, ← hdj]
    exact hk W g hs hb hg hN
  | silent =>
   simp only [go, hki, hkj] at h ⊢
   obtain ⟨o, v, ho, hy, o', v', ho', hy', hk⟩ := h
   obtain rfl : oi = o := by rw [hi] at ho; exact Option.some.inj ho
   obtain rfl : oj = o' := by rw [hj] at ho'; exact Option.some.inj ho'
   exact ⟨_, v', hj, backJ hy', _, v, hi, keepI _ hy, by rw [← Act.put_comm a v v' h2]; exact hk⟩
  | chain =>
   simp only [go, hki, hkj] at h ⊢
   obtain ⟨o, v, ho, hy, hk⟩ := h
   obtain rfl : oi = o := by rw [hi] at ho; exact Option.some.inj ho
   intro W hW
   refine wpOp_mono (fun a' w' hh => ?_) (wpOp_putIf (S := StepX X w) hj hap hsi hsj (fun _ _ _ hq => hq) hy (hk W hW))
   obtain ⟨hy', hs, hk'⟩ := hh
   exact ⟨hs, _, v, hi, YieldsIf.step hy' (hW.trans hs), hk'⟩
  | alloc T z =>
   simp only [go, hki, hkj] at h ⊢
   obtain ⟨o, v, ho, hy, hk⟩ := h
   obtain rfl : oi = o := by rw [hi] at ho; exact Option.some.inj ho
   refine fun W g hs hb hg hN => ⟨_, v, hi, ?_, ?_⟩
   ·rw [hdj]; exact keepI _ (YieldsIf.step hy hs)
   ·rw [hdj, ← Act.put_comm a v _ h2, ← hdj]
    exact hk W g hs hb hg hN
  | pure =>
   simp only [go, hki, hkj] at h ⊢
   obtain ⟨o, v, ho, hy, o', v', ho', hy', hk⟩ := h
   obtain rfl : oi = o := by rw [hi] at ho; exact Option.some.inj ho
   obtain rfl : oj = o' := by rw [hj] at ho'; exact Option.some.inj ho'
   exact ⟨_, v', hj, backJ hy', _, v, hi, keepI _ hy, by rw [← Act.put_comm a v v' h2]; exact hk⟩
 | pure =>
  cases hkj : kd j with
  | make T n xs =>
   simp only [go, hki, hkj] at h ⊢
   obtain ⟨o, v, ho, hy, hm, hk⟩ := h
   obtain rfl : oi = o := by rw [hi] at ho; exact Option.some.inj ho
   refine ⟨makesBack hm, fun W g hs hb hg hN => ⟨_, v, hi, ?_, ?_⟩⟩
   ·rw [hdj]; exact keepI _ hy
   ·rw [hdj, ← Act.put_comm a v _ h2, ← hdj]
    exact hk W g hs hb hg hN
  | silent =>
   simp only [go, hki, hkj] at h ⊢
   obtain ⟨o, v, ho, hy, o', v', ho', hy', hk⟩ := h
   obtain rfl : oi = o := by rw [hi] at ho; exact Option.some.inj ho
   obtain rfl : oj = o' := by rw [hj] at ho'; exact Option.some.inj ho'
   exact ⟨_, v', hj, backJ hy', _, v, hi, keepI _ hy, by rw [← Act.put_comm a v v' h2]; exact hk⟩
  | chain =>
   simp only [go, hki, hkj] at h ⊢
   obtain ⟨o, v, ho, hy, hk⟩ := h
   obtain rfl : oi = o := by rw [hi] at ho; exact Option.some.inj ho
   intro W hW
   refine wpOp_mono (fun a' w' hh => ?_) (wpOp_putIf (S := fun _ => True) hj hap hsi hsj (fun _ _ _ hq => hq) hy (hk W hW))
   obtain ⟨hy', hs, hk'⟩ := hh
   exact ⟨hs, _, v, hi, hy', hk'⟩
  | alloc T z =>
   simp only [go, hki, hkj] at h ⊢
   obtain ⟨o, v, ho, hy, hk⟩ := h
   obtain rfl : oi = o := by rw [hi] at ho; exact Option.some.inj ho
   refine fun W g hs hb hg hN => ⟨_, v, hi, ?_, ?_⟩
   ·rw [hdj]; exact keepI _ hy
   ·rw [hdj, ← Act.put_comm a v _ h2, ← hdj]
    exact hk W g hs hb hg hN
  | pure =>
   simp only [go, hki, hkj] at h ⊢
   obtain ⟨o, v, ho, hy, o', v', ho', hy', hk⟩ := h
   obtain rfl : oi = o := by rw [hi] at ho; exact Option.some.inj ho
   obtain rfl : oj = o' := by rw [hj] at ho'; exact Option.some.inj ho'
   exact ⟨_, v', hj, backJ hy', _, v, hi, keepI _ hy, by rw [← Act.put_comm a v v' h2]; exact hk⟩
 | chain =>
  cases hkj : kd j with
  | silent => simp [hki, hkj, swaps] at hsw
  | chain => simp [hki, hkj, swaps] at hsw
  | pure =>
   simp only [go, hki, hkj] at h ⊢
   obtain ⟨v, hv⟩ : ∃ v, YieldsIf P ops (fun _ => True) oj v a := wpOp_pure hi (Φ := fun a => ∃ v, YieldsIf P ops (fun _ => True) oj v a) (fun a u ⟨v, hm⟩ => ⟨v, backJ hm⟩) (fun a d ⟨v, hm⟩ => ⟨v, hm.of_same rfl rfl⟩) (h w (StepX.refl _ _)) (fun a' w' hh => by
    obtain ⟨_, o, v, ho, hy, _⟩ := hh
    obtain rfl : oj = o := by rw [hj] at ho; exact Option.some.inj ho
    exact ⟨v, hy⟩)
   refine ⟨_, v, hj, hv, fun W hW => ?_⟩
   have hkeep := wpOp_keep hi (Φ := fun a => YieldsIf P ops (fun _ => True) oj v a) (fun a u hm => hm.of_same (execOp_put oj hsj a oi.dst u h1) (wanted_put oj a oi.dst u h1)) (fun a d hm => hm.of_same rfl rfl) (h W hW) hv
   refine wpOp_mono (fun a' w' hh => ?_) (wpOp_under (dst := oj.dst) (v := v) hi h3 (fun d hd he => h2 d he hd) hsi hkeep)
   obtain ⟨a0, rfl, ⟨hs, o, v', ho, hy, hk⟩, hv0⟩ := hh
   obtain rfl : oj = o := by rw [hj] at ho; exact Option.some.inj ho
   obtain rfl := YieldsIf.same hv0 hy w'
   exact ⟨hs, hk⟩
  | make T n xs =>
   simp only [go, hki, hkj] at h ⊢
   have hmk : MakesAt P ops j T n xs a := wpOp_pure hi (Φ := MakesAt P ops j T n xs) (fun a v hm => makesBack hm) (fun a d hm => hm) (h w (StepX.refl _ _)) (fun a' w' hh => hh.2.1)
   refine ⟨hmk, ?_⟩
   intro W0 g hs0 hb hg hN W hW
   refine wpOp_mono (fun a' w' hh => ?_) (wpOp_under (dst := (ops[j]?).bind (·.dst)) (v := .slice (some ⟨g, 0, none⟩) n n) hi (by rw [hdj]; exact h3) (by rw [hdj]; exact fun d hd he => h2 d he hd) hsi (h W (hs0.trans hW)))
   obtain ⟨a0, rfl, hs, hk⟩ := hh
   have hlt : g < W.heap.size := Nat.lt_of_lt_of_le (Array.getElem?_eq_some_iff.1 hb).1 hW.size
   exact ⟨hs, hK _ _ _ _ _ (fun x ⟨⟨q1, q2⟩, q3⟩ => ⟨⟨q1, q3⟩, q2⟩) (StepX.refl _ _) (hk.2 w' g (StepX.refl _ _) (hsome (hW.trans hs) hg hb) hg ⟨hN, .inl hlt⟩)⟩
  | alloc T z =>
   simp only [go, hki, hkj] at h ⊢
   intro W0 g hs0 hb hg hN W hW
   refine wpOp_mono (fun a' w' hh => ?_) (wpOp_under (dst := (ops[j]?).bind (·.dst)) (v := madeV z g) hi (by rw [hdj]; exact h3) (by rw [hdj]; exact fun d hd he => h2 d he hd) hsi (h W (hs0.trans hW)))
   obtain ⟨a0, rfl, hs, hk⟩ := hh
   have hlt : g < W.heap.size := Nat.lt_of_lt_of_le (Array.getElem?_eq_some_iff.1 hb).1 hW.size
   exact ⟨hs, hK _ _ _ _ _ (fun x ⟨⟨q1, q2⟩, q3⟩ => ⟨⟨q1, q3⟩, q2⟩) (StepX.refl _ _) (hk w' g (StepX.refl _ _) (hsome (hW.trans hs) hg hb) hg ⟨hN, .inl hlt⟩)⟩
 | alloc T z =>
  cases hkj : kd j with
  | silent => simp [hki, hkj, swaps] at hsw
  | chain => simp [hki, hkj, swaps] at hsw
  | make T' n' xs' => simp [hki, hkj, swaps] at hsw
  | pure => simp [hki, hkj, swaps] at hsw
  | alloc T' z' =>
   simp only [go, hki, hkj] at h ⊢
   intro W' g' hs' hb' hg' hN' W g hs hb hg ⟨hN, hne⟩
   rw [hdi, hdj] at *
   rw [← Act.put_comm a _ _ h2]
   exact hK _ _ _ _ _ (fun x ⟨⟨q1, q2⟩, q3⟩ => ⟨⟨q1, q3⟩, q2⟩) (StepX.refl _ _) (h W g (hs'.trans hs) hb hg hN W g' (StepX.refl _ _) (hsome hs hg' hb') hg' ⟨hN', fun e => hne e.symm⟩)
def bitsOf (tab : List Nat) (j : Nat) (l : List Edge) : Nat := l.foldl (fun acc e => if Region.binds .any e && decide (e.on < j) then acc ||| (2 ^ e.on ||| tab.getD e.on 0) else acc) 0
def okTab (tab : List Nat) (ops : Array Oper) : Bool := (List.range ops.size).all fun j => match ops[j]? with
 | none => true
 | some o => tab.getD j 0 == bitsOf tab j o.after.toList
def ancB (tab : List Nat) (i j : Nat) : Bool := (tab.getD j 0).testBit i
theorem bits_of {tab : List Nat} {j i : Nat} : ∀ {l : List Edge} {acc : Nat}, (l.foldl (fun acc e => if Region.binds .any e && decide (e.on < j) then acc ||| (2 ^ e.on ||| tab.getD e.on 0) else acc) acc).testBit i = true →
  acc.testBit i = true ∨ ∃ e ∈ l, Region.binds .any e = true ∧ e.on < j ∧ (e.on = i ∨ ancB tab i e.on = true) := by
 intro l
 induction l with
 | nil => intro acc h; exact .inl h
 | cons x l ih =>
  intro acc h
  rw [List.foldl_cons] at h
  rcases ih h with h1 | ⟨e, he, h2⟩
  ·split at h1
   ·rename_i hx
    simp only [Bool.and_eq_true, decide_eq_true_eq] at hx
    rw [Nat.testBit_or, Nat.testBit_or, Nat.testBit_two_pow, Bool.or_eq_true, Bool.or_eq_true, decide_eq_true_eq] at h1
    rcases h1 with h1 | h1
    ·exact .inl h1
    ·exact .inr ⟨x, List.mem_cons_self, hx.1, hx.2, h1⟩
   ·exact .inl h1
  ·exact .inr ⟨e, List.mem_cons_of_mem _ he, h2⟩
def okPair (tab : List Nat) (ops : Array Oper) (kd : Nat → Kd) (i j : Nat) : Bool :=
 ancB tab i j || match ops[i]?, ops[j]? with
  | some oi, some oj => oi.apart ops oj && swaps (kd i) (kd j)
  | _, _ => false
def okList (tab : List Nat) (ops : Array Oper) (kd : Nat → Kd) : List Nat → Bool
 | [] => true
 | i :: l => l.all (okPair tab ops kd i) && okList tab ops kd l
def okTail (tab : List Nat) (before : List Nat) : List Nat → Bool
 | [] => true
 | x :: t => before.all (fun y => ancB tab y x) && okTail tab (before ++ [x]) t
def isSil : Kd → Bool
 | .silent => true
 | _ => false
def isMove (ops : Array Oper) (i : Nat) : Bool := match ops[i]? with
 | some o => (match o.op with | .move _ => true | .extract _ _ => true | _ => false)
 | none => false
def okWait (strict : Bool) (tab : List Nat) (ops : Array Oper) (kd : Nat → Kd) (y x : Nat) : Bool :=
 ancB tab y x || (!strict && isSil (kd y) && isMove ops y && match ops[y]?, ops[x]? with
  | some oy, some ox => oy.apart ops ox
  | _, _ => false)
def okDeps (ops : Array Oper) (seen : List Nat) : List Nat → Bool
 | [] => true
 | x :: l => (match ops[x]? with
  | none => false
  | some o => o.after.all fun e => !Region.binds .any e || seen.contains e.on) && okDeps ops (seen ++ [x]) l
def okAlloc (ops : Array Oper) (kd : Nat → Kd) (l : List Nat) : Bool :=
 l.all fun i => match kd i, ops[i]? with
  | .alloc T z, some o => o.guard.isNone && (isTup z || match o.op with | .alloc T' => T == T' | _ => false)
  | .alloc _ _, none => false
  | _, _ => true
def okSeq (strict : Bool) (tab : List Nat) (ops : Array Oper) (kd : Nat → Kd) (l t : List Nat) : Bool :=
 okTab tab ops && okList tab ops kd l && (l.all fun y => t.all fun x => okWait strict tab ops kd y x) && okTail tab [] t && okDeps ops [] (l ++ t) && okAlloc ops kd l && Region.noSelect ops && (List.range ops.size).all (fun i => (l ++ t).contains i) && (l ++ t).all (fun i => decide (i < ops.size)) && decide (l ++ t).Nodup
def Closed (ops : Array Oper) (listed : Array Bool) : Prop :=
 ∀ x o, ops[x]? = some o → listed.getD x true = true → ∀ e ∈ o.after, Region.binds .any e = true → listed.getD e.on false = true
theorem getD_tf' {listed : Array Bool} {i : Nat} (h : i < listed.size) (hl : listed.getD i false = true) : listed.getD i true = true := by
 simp [h] at hl ⊢; exact hl
variable {tab : List Nat}
theorem anc_listed {listed : Array Bool} (hsz : listed.size = ops.size) (hc : Closed ops listed) (ht : okTab tab ops = true) : ∀ j i o, ops[j]? = some o → (∀ e ∈ o.after, Region.binds .any e = true → listed.getD e.on false = true) →
  ancB tab i j = true → listed.getD i false = true := by
 intro j
 induction j using Nat.strongRecOn with
 | _ j ih =>
  intro i o ho hd h
  have hj : j < ops.size := (Array.getElem?_eq_some_iff.1 ho).1
  have h1 := List.all_eq_true.1 ht j (List.mem_range.2 hj)
  simp only [ho, beq_iff_eq] at h1
  unfold ancB at h
  rw [h1] at h
  rcases bits_of h with h2 | ⟨e, he, hb, hlt, h2⟩
  ·simp at h2
  ·have hl := hd e (by simpa using he) hb
   rcases h2 with rfl | h2
   ·exact hl
   ·have hej : e.on < ops.size := by omega
    exact ih e.on hlt i ops[e.on] (Array.getElem?_eq_getElem hej) (hc e.on _ (Array.getElem?_eq_getElem hej) (getD_tf' (by omega) hl)) h2
theorem bring (hX : ∀ j, X j → j < base) {K : Cont} (hK : ContMono X K) (hsel : Region.noSelect ops = true) {j : Nat} {oj : Oper} (hj : ops[j]? = some oj) : ∀ (l1 l2 : List Nat) (N : Nat → Prop) (a : Act) (w : World),
  (∀ i ∈ l1, ∃ oi, ops[i]? = some oi ∧ oi.apart ops oj = true ∧ swaps (kd i) (kd j) = true) → run P ops X base kd (l1 ++ j :: l2) K N a w → go P ops X base kd j (run P ops X base kd (l1 ++ l2) K) N a w := by
 intro l1
 induction l1 with
 | nil => intro l2 N a w _ h; exact h
 | cons i l1 ih =>
  intro l2 N a w hall h
  obtain ⟨oi, hi, hap, hsw⟩ := hall i (by simp)
  have h' : go P ops X base kd i (go P ops X base kd j (run P ops X base kd (l1 ++ l2) K)) N a w :=
   go_cong (fun N a w hh => ih l2 N a w (fun k hk => hall k (by simp [hk])) hh) h
  exact exch hi hj hap (Region.noSelect_spec hsel i oi · · hi) (Region.noSelect_spec hsel j oj · · hj) hsw hX (run_mono hK _) h'
theorem okList_drop {l1 l2 : List Nat} {j : Nat} (h : okList tab ops kd (l1 ++ j :: l2) = true) : okList tab ops kd (l1 ++ l2) = true ∧ ∀ i ∈ l1, okPair tab ops kd i j = true := by
 induction l1 with
 | nil => simp only [List.nil_append, okList, Bool.and_eq_true] at h; exact ⟨h.2, by simp⟩
 | cons i l1 ih =>
  simp only [List.cons_append, okList, Bool.and_eq_true, List.all_eq_true] at h ⊢
  obtain ⟨h1, h2⟩ := ih h.2
  refine ⟨⟨fun x hx => h.1 x ?_, h1⟩, fun x hx => ?_⟩
  ·simp only [List.mem_append, List.mem_cons] at hx ⊢; rcases hx with hx | hx <;> simp [hx]
  ·rcases List.mem_cons.1 hx with rfl | hx
   ·exact h.1 j (by simp)
   ·exact h2 x hx
def TailOk (tab : List Nat) (l t : List Nat) : Prop := ∀ t1 x t2, t = t1 ++ x :: t2 → ∀ y ∈ l ++ t1, ancB tab y x = true
def DepsOk (ops : Array Oper) (listed : Array Bool) (L : List Nat) : Prop := ∀ L1 x L2, L = L1 ++ x :: L2 → ∃ o, ops[x]? = some o ∧ ∀ e ∈ o.after, Region.binds .any e = true → listed.getD e.on false = true ∨ e.on ∈ L1
theorem tailOk_of {t : List Nat} : ∀ {b : List Nat}, okTail tab b t = true → TailOk tab b t := by
 induction t with
 | nil => intro b _ t1 x t2 h; exact absurd h (by simp)
 | cons z t ih =>
  intro b h t1 x t2 he y hy
  simp only [okTail, Bool.and_eq_true, List.all_eq_true] at h
  cases t1 with
  | nil =>
   simp only [List.nil_append, List.cons.injEq] at he
   obtain ⟨rfl, rfl⟩ := he
   exact h.1 y (by simpa using hy)
  | cons z' t1 =>
   simp only [List.cons_append, List.cons.injEq] at he
   obtain ⟨rfl, rfl⟩ := he
   exact ih h.2 t1 x t2 rfl y (by simpa using hy)
theorem depsOk_of {listed : Array Bool} {L : List Nat} : ∀ {seen : List Nat}, okDeps ops seen L = true → ∀ L1 x L2, L = L1 ++ x :: L2 → ∃ o, ops[x]? = some o ∧ ∀ e ∈ o.after, Region.binds .any e = true → listed.getD e.on false = true ∨ e.on ∈ seen ++ L1 := by
 induction L with
 | nil => intro b _ t1 x t2 h; exact absurd h (by simp)
 | cons z t ih =>
  intro b h t1 x t2 he
  simp only [okDeps, Bool.and_eq_true] at h
  cases t1 with
  | nil =>
   simp only [List.nil_append, List.cons.injEq] at he
   obtain ⟨rfl, rfl⟩ := he
   cases ho : ops[z]? with
   | none => simp [ho] at h
   | some o =>
    simp only [ho, Array.all_eq_true_iff_forall_mem, Bool.or_eq_true, Bool.not_eq_true', List.contains_iff_mem] at h
    exact ⟨o, rfl, fun e he hb => .inr (by have := (h.1 e he).resolve_left (by simp [hb]); simpa using this)⟩
  | cons z' t1 =>
   simp only [List.cons_append, List.cons.injEq] at he
   obtain ⟨rfl, rfl⟩ := he
   obtain ⟨o, ho, hh⟩ := ih h.2 t1 x t2 rfl
   exact ⟨o, ho, fun e he hb => (hh e he hb).imp id (by simp)⟩
def K0 (P : Program) (ops : Array Oper) (X : Nat → Prop) (Q : Exit → Act → World → Prop) (t : List Nat) : Cont := fun _ a w => ∀ W, StepX X w W → wpOps P ops Q t a W
theorem K0_mono {Q : Exit → Act → World → Prop} (t : List Nat) : ContMono X (K0 P ops X Q t) := fun _ _ _ _ _ _ hs h W hW => h W (hs.trans hW)
theorem wpOp_any {Q : Exit → Act → World → Prop} {i : Nat} {K : Act → World → Prop} {a : Act} {w : World} (h : wpOp P ops QF i K a w) : wpOp P ops Q i K a w := by
 unfold wpOp at *
 cases ho : ops[i]? with
 | none => simp only [ho] at h; exact h
 | some o =>
  simp only [ho] at h ⊢
  split
  ·rename_i hw
   simp only [hw, if_true] at h
   rcases h with h | ⟨_, a0, w0, hF⟩
   case inr => exact hF.elim
   refine .inl ?_
   unfold Oper.wp at *
   generalize (execOp a.eval o).run P w = r at *
   cases r with
   | ok n w' =>
    cases n <;> simp only [Oper.upon] at h ⊢ <;> first
     | exact h
     | exact Calls.mono h (fun e w'' he => by cases e <;> first | exact he | exact he.elim | (obtain ⟨_, _, hF⟩ := he; exact hF.elim))
   | halt x w' => cases x <;> simp only [Oper.upon] at h ⊢ <;> exact h.elim
  ·rename_i hw
   simp only [hw] at h
   exact h
theorem wpOp_alloc {Q : Exit → Act → World → Prop} {i : Nat} {o : Oper} {T : TypeId} {z : Value} {K : Act → World → Prop} {a : Act} {w : World} (ho : ops[i]? = some o) (hop : (isTup z || match o.op with | .alloc T' => T == T' | _ => false) = true) (hg : o.guard = none)
  (hz : Makes P ops i T z) (h : K (a.put o.dst (madeV z w.heap.size)) (w.alloc (.cells (madeC z) T))) : wpOp P ops Q i K a w := by
 unfold wpOp
 simp only [ho, Region.wanted, hg, if_true]
 refine .inl ?_
 unfold Oper.wp
 have hr : (execOp a.eval o).run P w = .ok (.value (madeV z w.heap.size)) (w.alloc (.cells (madeC z) T)) := by
  by_cases ht : ∃ xs, z = .tuple xs
  ·obtain ⟨xs, rfl⟩ := ht
   obtain ⟨o', ho', hrun⟩ := hz
   obtain rfl : o = o' := by rw [ho] at ho'; exact Option.some.inj ho'
   exact hrun _ _
  ·have h1 : isTup z = false := by cases z <;> simp [isTup] at ht ⊢
   have h2 : madeV z w.heap.size = .pointer (some ⟨w.heap.size, 0, none⟩) := by cases z <;> simp [isTup] at h1 <;> rfl
   have h3 : madeC z = z.cells := by cases z <;> simp [isTup] at h1 <;> rfl
   have h4 : (P.info? T).bind (·.zero) = some z := by cases z <;> simp [isTup] at h1 <;> exact hz
   rw [h1, Bool.false_or] at hop
   have hop' : o.op = .alloc T := by
    cases hopp : o.op <;> simp [hopp] at hop
    rw [hop]
   obtain ⟨inf, hi, hzz⟩ := Option.bind_eq_some_iff.1 h4
   rw [h2, h3]
   simp [execOp, hop', Instr.alloc, zeroValue, typeInfo, hi, hzz, newVar, newRow, newObj, Result.andThen]
   rfl
 rw [hr]
 exact h
theorem getD_tf {listed : Array Bool} {i : Nat} (h : i < listed.size) : listed.getD i true = listed.getD i false := by simp [h]
theorem getD_set {listed : Array Bool} {i j : Nat} (hi : i < listed.size) : (listed.setIfInBounds i true).getD j true = (listed.getD j true || decide (i = j)) := by
 by_cases hij : i = j
 ·subst hij; simp [hi]
 ·rw [getD_set_ne true hij]; simp [hij]
theorem depsOk_drop {listed : Array Bool} {L1 L2 : List Nat} {j : Nat} (hj : j < listed.size) (h : DepsOk ops listed (L1 ++ j :: L2)) : DepsOk ops (listed.setIfInBounds j true) (L1 ++ L2) := by
 intro M1 x M2 he
 have keep : ∀ {k}, listed.getD k false = true → (listed.setIfInBounds j true).getD k false = true := fun {k} hk => getD_set_true hk
 rcases List.append_eq_append_iff.1 he with ⟨r, h1, h2⟩ | ⟨r, h1, h2⟩
 ·-- M1 = L1 ++ r, L2 = r ++ x :: M2
  subst h1 h2
  obtain ⟨o, ho, hh⟩ := h (L1 ++ j :: r) x M2 (by simp)
  refine ⟨o, ho, fun e hee hb => ?_⟩
  rcases hh e hee hb with hl | hm
  ·exact .inl (keep hl)
  ·simp only [List.mem_append, List.mem_cons] at hm ⊢
   rcases hm with hm | rfl | hm
   ·exact .inr (.inl hm)
   ·exact .inl (by simp [hj])
   ·exact .inr (.inr hm)
 ·-- L1 = M1 ++ r, x :: M2 = r ++ L2
  cases r with
  | nil =>
   simp only [List.append_nil, List.nil_append] at h1 h2
   subst h1
   obtain ⟨o, ho, hh⟩ := h (L1 ++ [j]) x M2 (by simp [h2])
   refine ⟨o, ho, fun e hee hb => ?_⟩
   rcases hh e hee hb with hl | hm
   ·exact .inl (keep hl)
   ·simp only [List.mem_append, List.mem_singleton] at hm
    rcases hm with hm | rfl
    ·exact .inr hm
    ·exact .inl (by simp [hj])
  | cons y r =>
   simp only [List.cons_append, List.cons.injEq] at h2
   obtain ⟨rfl, rfl⟩ := h2
   subst h1
   obtain ⟨o, ho, hh⟩ := h M1 x (r ++ j :: L2) (by simp)
   exact ⟨o, ho, fun e hee hb => (hh e hee hb).imp keep id⟩
theorem nodup_mid {L1 L2 : List Nat} {j : Nat} (h : (L1 ++ j :: L2).Nodup) : j ∉ L1 ++ L2 ∧ (L1 ++ L2).Nodup := by
 rw [List.nodup_append] at h
 obtain ⟨h1, h2, h3⟩ := h
 rw [List.nodup_cons] at h2
 refine ⟨?_, ?_⟩
 ·rw [List.mem_append]
  rintro (hj | hj)
  ·exact h3 j hj j (by simp) rfl
  ·exact h2.1 hj
 ·rw [List.nodup_append]
  exact ⟨h1, h2.2, fun a ha b hb => h3 a ha b (by simp [hb])⟩
theorem unlisted_drop {listed : Array Bool} {j : Nat} {L1 L2 : List Nat} (hsz : j < listed.size) (hun : ∀ i, i < ops.size → (listed.getD i true = false ↔ i ∈ L1 ++ j :: L2)) (hnd : (L1 ++ j :: L2).Nodup) :
  ∀ i, i < ops.size → ((listed.setIfInBounds j true).getD i true = false ↔ i ∈ L1 ++ L2) := by
 intro i hi
 rw [getD_set hsz, Bool.or_eq_false_iff, decide_eq_false_iff_not, hun i hi]
 obtain ⟨h1, _⟩ := nodup_mid hnd
 simp only [List.mem_append, List.mem_cons] at h1 ⊢
 constructor
 ·rintro ⟨h2 | h2 | h2, h3⟩
  ·exact .inl h2
  ·exact absurd h2.symm h3
  ·exact .inr h2
 ·intro h2
  refine ⟨h2.elim .inl (fun h => .inr (.inr h)), fun e => ?_⟩
  subst e; exact h1 h2
theorem closed_set {listed : Array Bool} {j : Nat} {oj : Oper} (hsz : j < listed.size) (hoj : ops[j]? = some oj) (hdj : ∀ e ∈ oj.after, Region.binds .any e = true → listed.getD e.on false = true) (hcl : Closed ops listed) :
  Closed ops (listed.setIfInBounds j true) := fun x o ho hx e he hb => by
 rw [getD_set hsz, Bool.or_eq_true, decide_eq_true_eq] at hx
 rcases hx with hx | rfl
 ·exact getD_set_true (hcl x o ho hx e he hb)
 ·rw [hoj] at ho; obtain rfl := Option.some.inj ho; exact getD_set_true (hdj e he hb)
theorem tail_sound {Q : Exit → Act → World → Prop} : ∀ (fuel : Nat) (t : List Nat) (listed : Array Bool) (a : Act) (w : World),
  t.length ≤ fuel → listed.size = ops.size → (∀ i, i < ops.size → (listed.getD i true = false ↔ i ∈ t)) → (∀ i ∈ t, i < ops.size) → t.Nodup → Closed ops listed →
  okTab tab ops = true → TailOk tab [] t → DepsOk ops listed t → wpOps P ops Q t a w → wpAny P .any ops Q fuel listed a w := by
 intro fuel
 induction fuel with
 | zero =>
  intro t listed a w hf hsz hun hin hnd hcl htab htail hdeps h
  have ht : t = [] := List.eq_nil_of_length_eq_zero (by omega)
  subst ht
  refine ⟨?_, by simpa [wpOps] using h⟩
  rw [List.eq_nil_iff_forall_not_mem]
  intro j hj
  obtain ⟨h0, o, ho, _⟩ := mem_ready.1 hj
  have := (hun j (Array.getElem?_eq_some_iff.1 ho).1).1 h0
  simp at this
 | succ fuel ih =>
  intro t listed a w hf hsz hun hin hnd hcl htab htail hdeps h
  refine ⟨fun hr => ?_, fun j hj => ?_⟩
  ·cases t with
   | nil => simpa [wpOps] using h
   | cons x L =>
    exfalso
    obtain ⟨o, ho, hh⟩ := hdeps [] x L rfl
    have hx : x ∈ Region.ready .any ops listed := mem_ready.2 ⟨(hun x (hin x (by simp))).2 (by simp), o, ho, fun e he hb => (hh e he hb).resolve_right (by simp)⟩
    rw [hr] at hx; cases hx
  ·obtain ⟨h0, oj, hoj, hdj⟩ := mem_ready.1 hj
   have hjlt := (Array.getElem?_eq_some_iff.1 hoj).1
   have hjsz : j < listed.size := by omega
   obtain ⟨t1, t2, rfl⟩ := List.append_of_mem ((hun j hjlt).1 h0)
   have ht1 : t1 = [] := by
    rw [List.eq_nil_iff_forall_not_mem]
    intro i hi
    have h1 := anc_listed hsz hcl htab j i oj hoj hdj (htail t1 j t2 rfl i (by simp [hi]))
    have h2 := (hun i (hin i (by simp [hi]))).2 (by simp [hi])
    rw [getD_tf (by rw [hsz]; exact hin i (by simp [hi])), h1] at h2
    cases h2
   subst ht1
   rw [List.nil_append, wpOps_cons] at h
   refine wpOp_mono (fun a' w' hk => ?_) h
   have hnd' := nodup_mid hnd
   refine ih t2 _ a' w' (by simp at hf; omega) (by simp [hsz]) (by have := unlisted_drop (L1 := []) (L2 := t2) hjsz hun hnd; simpa using this) (fun i hi => hin i (by simp [hi])) (by simpa using hnd'.2)
    (closed_set hjsz hoj hdj hcl) htab (fun u1 x u2 he y hy => htail (j :: u1) x u2 (by simp [he]) y (by simp at hy ⊢; exact .inr hy)) (by have := depsOk_drop (L1 := []) (L2 := t2) hjsz hdeps; simpa using this) hk
def runM (P : Program) (ops : Array Oper) : List Nat → (Act → Prop) → Act → Prop
 | [], K, a => K a
 | i :: l, K, a => ∃ o v, ops[i]? = some o ∧ YieldsIf P ops (fun _ => True) o v a ∧ runM P ops l K (a.put o.dst v)
theorem runM_mono {K K' : Act → Prop} (h : ∀ a, K a → K' a) : ∀ {l : List Nat} {a : Act}, runM P ops l K a → runM P ops l K' a
 | [], _, hr => h _ hr
 | _ :: _, _, ⟨o, v, ho, hy, hr⟩ => ⟨o, v, ho, hy, runM_mono h hr⟩
theorem move_yields {S : World → Prop} {o : Oper} {v : Value} {a : Act} {w : World} {i : Nat} (ho : ops[i]? = some o) (hm : isMove ops i = true) (hs : S w) (h : YieldsIf P ops S o v a) : YieldsIf P ops (fun _ => True) o v a := by
 rcases h with ⟨hw, hv⟩ | h
 ·refine .inl ⟨hw, fun W _ => ?_⟩
  have h1 := hv w hs
  unfold isMove at hm
  rw [ho] at hm
  simp only at hm
  cases hop : o.op <;> simp [hop] at hm
  ·simp [execOp, hop] at h1 ⊢
   exact h1
  ·rename_i x ix
   have h2 : ∀ (u : Value) (n : Nat), (∃ y, Instr.extract u n = pure y) ∨ ∃ t, Instr.extract u n = stuck t := fun u n => by
    unfold Instr.extract
    split
    ·split
     ·exact .inl ⟨_, rfl⟩
     ·exact .inr ⟨_, rfl⟩
    ·exact .inr ⟨_, rfl⟩
   rcases h2 (a.eval x) ix with ⟨y, h3⟩ | ⟨t, h3⟩
   ·simp [execOp, hop, h3] at h1 ⊢
    exact h1
   ·simp [execOp, hop, h3] at h1
 ·exact .inr h
theorem runM_of_run {Q : Exit → Act → World → Prop} {t : List Nat} {w : World} : ∀ {l : List Nat} {N : Nat → Prop} {a : Act}, (∀ y ∈ l, isSil (kd y) = true ∧ isMove ops y = true) → run P ops X base kd l (K0 P ops X Q t) N a w → runM P ops l (fun a => wpOps P ops Q t a w) a := by
 intro l
 induction l with
 | nil => intro N a _ h; exact h w (StepX.refl _ w)
 | cons i l ih =>
  intro N a hl h
  obtain ⟨h1, h2⟩ := hl i (by simp)
  have h' : go P ops X base kd i (run P ops X base kd l (K0 P ops X Q t)) N a w := h
  unfold go at h'
  cases hk : kd i <;> simp [hk, isSil] at h1
  rw [hk] at h'
  obtain ⟨o, v, ho, hy, hr⟩ := h'
  exact ⟨o, v, ho, move_yields ho h2 (StepX.refl _ w) hy, ih (fun y hy => hl y (by simp [hy])) hr⟩
theorem bringM (hsel : Region.noSelect ops = true) {K : Act → Prop} {j : Nat} {oj : Oper} (hj : ops[j]? = some oj) : ∀ {l1 l2 : List Nat} {a : Act}, (∀ i ∈ l1, ∃ oi, ops[i]? = some oi ∧ oi.apart ops oj = true) → runM P ops (l1 ++ j :: l2) K a →
  ∃ v, YieldsIf P ops (fun _ => True) oj v a ∧ runM P ops (l1 ++ l2) K (a.put oj.dst v) := by
 intro l1
 induction l1 with
 | nil =>
  intro l2 a _ h
  obtain ⟨o, v, ho, hy, hr⟩ := h
  obtain rfl : oj = o := by rw [hj] at ho; exact Option.some.inj ho
  exact ⟨v, hy, hr⟩
 | cons i l1 ih =>
  intro l2 a hall h
  obtain ⟨oi', hi', hap⟩ := hall i (by simp)
  obtain ⟨oi, vi, hi, hyi, hr⟩ := h
  obtain rfl : oi' = oi := by rw [hi] at hi'; exact (Option.some.inj hi').symm
  obtain ⟨v, hyj, hr2⟩ := ih (fun k hk => hall k (by simp [hk])) hr
  obtain ⟨h1, h2, h3⟩ := Oper.apart_spec hap
  have hsi := (Region.noSelect_spec hsel i oi' · · hi)
  have hsj := (Region.noSelect_spec hsel j oj · · hj)
  refine ⟨v, hyj.of_same (execOp_put oj hsj a oi'.dst vi h1).symm (wanted_put oj a oi'.dst vi h1).symm, oi', vi, hi, hyi.of_same (execOp_put oi' hsi a oj.dst v h3) (wanted_put oi' a oj.dst v h3), ?_⟩
  rw [← Act.put_comm a vi v h2]
  exact hr2
theorem tailM (hsel : Region.noSelect ops = true) {Q : Exit → Act → World → Prop} (hQ : ∀ c d v a w, Q (.panic c) (Act.put a d v) w → Q (.panic c) a w) {j : Nat} {oj : Oper} (hj : ops[j]? = some oj) {K : Act → World → Prop} {w : World} : ∀ {l : List Nat} {a : Act},
  (∀ i ∈ l, ∃ oi, ops[i]? = some oi ∧ oi.apart ops oj = true) → runM P ops l (fun a => wpOp P ops Q j K a w) a → wpOp P ops Q j (fun a' w' => runM P ops l (fun a => K a w') a') a w := by
 intro l
 induction l with
 | nil => intro a _ h; exact h
 | cons i l ih =>
  intro a hall h
  obtain ⟨oi', hi', hap⟩ := hall i (by simp)
  obtain ⟨oi, vi, hi, hyi, hr⟩ := h
  obtain rfl : oi' = oi := by rw [hi] at hi'; exact (Option.some.inj hi').symm
  have h1 := ih (fun k hk => hall k (by simp [hk])) hr
  refine wpOp_mono (fun a' w' hh => ?_) (wpOp_putIf (S := fun _ => True) hj hap (Region.noSelect_spec hsel i oi' · · hi) (Region.noSelect_spec hsel j oj · · hj) (fun c a w => hQ c _ _ a w) hyi h1)
  exact ⟨oi', vi, hi, hh.1, hh.2⟩
theorem mixed_sound {Q : Exit → Act → World → Prop} (hsel : Region.noSelect ops = true) (hQ : ∀ c d v a w, Q (.panic c) (Act.put a d v) w → Q (.panic c) a w) : ∀ (fuel : Nat) (l t : List Nat) (listed : Array Bool) (a : Act) (w : World),
  l.length + t.length ≤ fuel → listed.size = ops.size → (∀ i, i < ops.size → (listed.getD i true = false ↔ i ∈ l ++ t)) → (∀ i ∈ l ++ t, i < ops.size) → (l ++ t).Nodup → Closed ops listed →
  okTab tab ops = true → okList tab ops kd l = true → (∀ y ∈ l, ∀ x ∈ t, ancB tab y x = true ∨ ∃ oy ox, ops[y]? = some oy ∧ ops[x]? = some ox ∧ oy.apart ops ox = true) → TailOk tab [] t → DepsOk ops listed (l ++ t) →
  runM P ops l (fun a => wpOps P ops Q t a w) a → wpAny P .any ops Q fuel listed a w := by
 intro fuel
 induction fuel with
 | zero =>
  intro l t listed a w hf hsz hun hin hnd hcl htab _ _ htail hdeps h
  have hl : l = [] := List.eq_nil_of_length_eq_zero (by omega)
  subst hl
  exact tail_sound 0 t listed a w (by simpa using hf) hsz hun hin hnd hcl htab htail hdeps h
 | succ fuel ih =>
  intro l t listed a w hf hsz hun hin hnd hcl htab hlist hwait htail hdeps h
  by_cases hl : l = []
  ·subst hl
   exact tail_sound _ t listed a w (by simpa using hf) hsz hun hin hnd hcl htab htail hdeps h
  refine ⟨fun hr => ?_, fun j hj => ?_⟩
  ·exfalso
   cases l with
   | nil => exact hl rfl
   | cons x L =>
    obtain ⟨o, ho, hh⟩ := hdeps [] x (L ++ t) (by simp)
    have hx : x ∈ Region.ready .any ops listed := mem_ready.2 ⟨(hun x (hin x (by simp))).2 (by simp), o, ho, fun e he hb => (hh e he hb).resolve_right (by simp)⟩
    rw [hr] at hx; cases hx
  ·obtain ⟨h0, oj, hoj, hdj⟩ := mem_ready.1 hj
   have hjlt := (Array.getElem?_eq_some_iff.1 hoj).1
   have hjsz : j < listed.size := by omega
   have hjm := (hun j hjlt).1 h0
   have hcl' := closed_set hjsz hoj hdj hcl
   have notanc : ∀ i ∈ l ++ t, ancB tab i j = true → False := fun i hi ha => by
    have h1 := anc_listed hsz hcl htab j i oj hoj hdj ha
    have h2 := (hun i (hin i hi)).2 hi
    rw [getD_tf (by rw [hsz]; exact hin i hi), h1] at h2
    cases h2
   rcases List.mem_append.1 hjm with hjl | hjt
   ·obtain ⟨l1, l2, rfl⟩ := List.append_of_mem hjl
    obtain ⟨hlist', hpair⟩ := okList_drop hlist
    have hall : ∀ i ∈ l1, ∃ oi, ops[i]? = some oi ∧ oi.apart ops oj = true := fun i hi => by
     have hp := hpair i hi
     simp only [okPair, Bool.or_eq_true] at hp
     rcases hp with hp | hp
     ·exact (notanc i (by simp [hi]) hp).elim
     ·cases hoi : ops[i]? with
      | none => simp [hoi] at hp
      | some oi =>
       simp only [hoi, hoj, Bool.and_eq_true] at hp
       exact ⟨oi, rfl, hp.1⟩
    obtain ⟨v, hy, hr⟩ := bringM hsel hoj hall h
    have he : (l1 ++ j :: l2) ++ t = l1 ++ j :: (l2 ++ t) := by simp
    refine hy.wpOp hoj trivial (ih (l1 ++ l2) t _ _ w (by simp at hf ⊢; omega) (by simp [hsz]) (by have := unlisted_drop (L1 := l1) (L2 := l2 ++ t) hjsz (by rw [← he]; exact hun) (by rw [← he]; exact hnd); simpa using this)
     (fun i hi => hin i (by simp only [List.mem_append, List.mem_cons] at hi ⊢; rcases hi with (hi | hi) | hi <;> simp [hi]))
     (by have := (nodup_mid (by rw [← he]; exact hnd)).2; simpa using this) hcl' htab hlist' (fun y hy x hx => hwait y (by simp only [List.mem_append, List.mem_cons] at hy ⊢; rcases hy with hy | hy <;> simp [hy]) x hx) htail
     (by have := depsOk_drop (L1 := l1) (L2 := l2 ++ t) hjsz (by rw [← he]; exact hdeps); simpa using this) hr)
   ·obtain ⟨t1, t2, rfl⟩ := List.append_of_mem hjt
    have ht1 : t1 = [] := by
     rw [List.eq_nil_iff_forall_not_mem]
     intro i hi
     exact notanc i (by simp [hi]) (htail t1 j t2 rfl i (by simp [hi]))
    subst ht1
    have hall : ∀ i ∈ l, ∃ oi, ops[i]? = some oi ∧ oi.apart ops oj = true := fun i hi => by
     rcases hwait i hi j (by simp) with h1 | ⟨oy, ox, h1, h2, h3⟩
     ·exact (notanc i (by simp [hi]) h1).elim
     ·obtain rfl : oj = ox := by rw [hoj] at h2; exact Option.some.inj h2
      exact ⟨oy, h1, h3⟩
    have h' : runM P ops l (fun a => wpOp P ops Q j (wpOps P ops Q t2) a w) a := runM_mono (fun a hh => by rw [List.nil_append, wpOps_cons] at hh; exact hh) h
    have he : l ++ ([] ++ j :: t2) = l ++ j :: t2 := by simp
    refine wpOp_mono (fun a' w' hk => ?_) (tailM hsel hQ hoj hall h')
    exact ih l t2 _ a' w' (by simp at hf; omega) (by simp [hsz]) (by have := unlisted_drop (L1 := l) (L2 := t2) hjsz (by rw [← he]; exact hun) (by rw [← he]; exact hnd); simpa using this)
     (fun i hi => hin i (by simp only [List.mem_append, List.nil_append, List.mem_cons] at hi ⊢; rcases hi with hi | hi <;> simp [hi])) (by have := (nodup_mid (by rw [← he]; exact hnd)).2; simpa using this) hcl' htab hlist
     (fun y hy x hx => hwait y hy x (by simp [hx])) (fun u1 x u2 hu y hy => htail (j :: u1) x u2 (by simp [hu]) y (by simp at hy ⊢; exact .inr hy)) (by have := depsOk_drop (L1 := l) (L2 := t2) hjsz (by rw [← he]; exact hdeps); simpa using this) hk
theorem seq_sound (hX : ∀ j, X j → j < base) {Q : Exit → Act → World → Prop} (hsel : Region.noSelect ops = true) {strict : Bool} (hQ : strict = true ∨ ∀ c d v a w, Q (.panic c) (Act.put a d v) w → Q (.panic c) a w) : ∀ (fuel : Nat) (l t : List Nat) (listed : Array Bool) (N : Nat → Prop) (a : Act) (w : World),
  l.length + t.length ≤ fuel → listed.size = ops.size → (∀ i, i < ops.size → (listed.getD i true = false ↔ i ∈ l ++ t)) → (∀ i ∈ l ++ t, i < ops.size) → (l ++ t).Nodup → Closed ops listed →
  okTab tab ops = true → okList tab ops kd l = true → (∀ y ∈ l, ∀ x ∈ t, okWait strict tab ops kd y x = true) → TailOk tab [] t → DepsOk ops listed (l ++ t) → okAlloc ops kd l = true → (∀ i T z, i ∈ l → kd i = .alloc T z → Makes P ops i T z) →
  (∀ g, w.heap.size ≤ g → N g) → base ≤ w.heap.size → run P ops X base kd l (K0 P ops X Q t) N a w → wpAny P .any ops Q fuel listed a w := by
 intro fuel
 induction fuel with
 | zero =>
  intro l t listed N a w hf hsz hun hin hnd hcl htab _ _ htail hdeps _ _ _ _ h
  have hl : l = [] := List.eq_nil_of_length_eq_zero (by omega)
  subst hl
  exact tail_sound 0 t listed a w (by simpa using hf) hsz hun hin hnd hcl htab htail hdeps (h w (StepX.refl _ w))
 | succ fuel ih =>
  intro l t listed N a w hf hsz hun hin hnd hcl htab hlist hwait htail hdeps halloc hz hN hbase h
  by_cases hl : l = []
  ·subst hl
   exact tail_sound _ t listed a w (by simpa using hf) hsz hun hin hnd hcl htab htail hdeps (h w (StepX.refl _ w))
  refine ⟨fun hr => ?_, fun j hj => ?_⟩
  ·-- nothing may come up: but something is left
   exfalso
   cases l with
   | nil => exact hl rfl
   | cons x L =>
    obtain ⟨o, ho, hh⟩ := hdeps [] x (L ++ t) (by simp)
    have hx : x ∈ Region.ready .any ops listed := mem_ready.2 ⟨(hun x (hin x (by simp))).2 (by simp), o, ho, fun e he hb => (hh e he hb).resolve_right (by simp)⟩
    rw [hr] at hx; cases hx
  ·obtain ⟨h0, oj, hoj, hdj⟩ := mem_ready.1 hj
   have hjlt := (Array.getElem?_eq_some_iff.1 hoj).1
   have hjsz : j < listed.size := by omega
   have hjm := (hun j hjlt).1 h0
   have hcl' := closed_set hjsz hoj hdj hcl
   have notanc : ∀ i ∈ l ++ t, ancB tab i j = true → False := fun i hi ha => by
    have h1 := anc_listed hsz hcl htab j i oj hoj hdj ha
    have h2 := (hun i (hin i hi)).2 hi
    rw [getD_tf (by rw [hsz]; exact hin i hi), h1] at h2
    cases h2
   rcases List.mem_append.1 hjm with hjl | hjt
   ·-- one of the first part
    obtain ⟨l1, l2, rfl⟩ := List.append_of_mem hjl
    obtain ⟨hlist', hpair⟩ := okList_drop hlist
    have hall : ∀ i ∈ l1, ∃ oi, ops[i]? = some oi ∧ oi.apart ops oj = true ∧ swaps (kd i) (kd j) = true := fun i hi => by
     have hp := hpair i hi
     simp only [okPair, Bool.or_eq_true] at hp
     rcases hp with hp | hp
     ·exact (notanc i (by simp [hi]) hp).elim
     ·cases hoi : ops[i]? with
      | none => simp [hoi] at hp
      | some oi =>
       simp only [hoi, hoj, Bool.and_eq_true] at hp
       exact ⟨oi, rfl, hp.1, hp.2⟩
    have hb := bring hX (K0_mono t) hsel hoj l1 l2 N a w hall h
    have he : (l1 ++ j :: l2) ++ t = l1 ++ j :: (l2 ++ t) := by simp
    have next : ∀ (N' : Nat → Prop) (a' : Act) (w' : World), (∀ g, w'.heap.size ≤ g → N' g) → w.heap.size ≤ w'.heap.size → run P ops X base kd (l1 ++ l2) (K0 P ops X Q t) N' a' w' → wpAny P .any ops Q fuel (listed.setIfInBounds j true) a' w' :=
     fun N' a' w' hN' hsz' hr => ih (l1 ++ l2) t _ N' a' w' (by simp at hf ⊢; omega) (by simp [hsz]) (by have := unlisted_drop (L1 := l1) (L2 := l2 ++ t) hjsz (by rw [← he]; exact hun) (by rw [← he]; exact hnd); simpa using this)
      (fun i hi => hin i (by simp only [List.mem_append, List.mem_cons] at hi ⊢; rcases hi with (hi | hi) | hi <;> simp [hi]))
      (by have := (nodup_mid (by rw [← he]; exact hnd)).2; simpa using this) hcl' htab hlist' (fun y hy x hx => hwait y (by simp only [List.mem_append, List.mem_cons] at hy ⊢; rcases hy with hy | hy <;> simp [hy]) x hx) htail
      (by have := depsOk_drop (L1 := l1) (L2 := l2 ++ t) hjsz (by rw [← he]; exact hdeps); simpa using this)
      (by simp only [okAlloc, List.all_eq_true, List.mem_append, List.mem_cons] at halloc ⊢; exact fun x hx => halloc x (hx.elim .inl (fun h => .inr (.inr h))))
      (fun i T z hi => hz i T z (by simp only [List.mem_append, List.mem_cons] at hi ⊢; rcases hi with hi | hi <;> simp [hi])) hN' (by omega) hr
    cases hk : kd j with
    | silent =>
     simp only [go, hk] at hb
     obtain ⟨o, v, ho, hy, hr⟩ := hb
     exact hy.wpOp ho (StepX.refl _ w) (next N _ w hN (Nat.le_refl _) hr)
    | pure =>
     simp only [go, hk] at hb
     obtain ⟨o, v, ho, hy, hr⟩ := hb
     exact hy.wpOp ho trivial (next N _ w hN (Nat.le_refl _) hr)
    | chain =>
     simp only [go, hk] at hb
     exact wpOp_any (wpOp_mono (fun a' w' ⟨hs, hr⟩ => next _ a' w' (fun g hg => ⟨hN g (Nat.le_trans hs.size hg), .inr hg⟩) hs.size hr) (hb w (StepX.refl _ w)))
    | alloc T z =>
     simp only [go, hk] at hb
     have hal := halloc
     simp only [okAlloc, List.all_eq_true] at hal
     have hal := hal j (by simp)
     simp only [hk, hoj, Bool.and_eq_true] at hal
     obtain ⟨hg, hop⟩ := hal
     refine wpOp_alloc hoj hop (by simpa using hg) (hz j T z (by simp) hk) ?_
     have hd : (ops[j]?).bind (·.dst) = oj.dst := by rw [hoj]; rfl
     rw [hd] at hb
     exact next _ _ _ (fun g hgg => ⟨hN g (by simp at hgg; omega), by simp at hgg; omega⟩) (by simp) (hb (w.alloc (.cells (madeC z) T)) w.heap.size (.of (Step.alloc _ _)) (heap_alloc_new w _) hbase (hN _ (Nat.le_refl _)))
    | make T n xs =>
     simp only [go, hk] at hb
     obtain ⟨⟨o, ho, hg, hrun⟩, hb⟩ := hb
     obtain rfl : oj = o := by rw [hoj] at ho; exact Option.some.inj ho
     have hd : (ops[j]?).bind (·.dst) = oj.dst := by rw [hoj]; rfl
     rw [hd] at hb
     unfold wpOp
     simp only [hoj, hg, if_true]
     refine .inl ?_
     unfold Oper.wp
     rw [hrun w]
     exact next _ _ _ (fun g hgg => ⟨hN g (by simp at hgg; omega), by simp at hgg; omega⟩) (by simp) (hb (w.alloc (.cells xs T)) w.heap.size (.of (Step.alloc _ _)) (heap_alloc_new w _) hbase (hN _ (Nat.le_refl _)))
   ·-- the tail waits, but for moves
    have hw1 : ∀ y ∈ l, ancB tab y j = true ∨ (strict = false ∧ isSil (kd y) = true ∧ isMove ops y = true ∧ ∃ oy, ops[y]? = some oy ∧ oy.apart ops oj = true) := fun y hy => by
     have := hwait y hy j hjt
     simp only [okWait, Bool.or_eq_true, Bool.and_eq_true, Bool.not_eq_true'] at this
     rcases this with h1 | ⟨⟨⟨h1, h2⟩, h3⟩, h4⟩
     ·exact .inl h1
     ·cases hoy : ops[y]? with
      | none => simp [hoy] at h4
      | some oy => simp only [hoy, hoj] at h4; exact .inr ⟨h1, h2, h3, oy, rfl, h4⟩
    have hw2 : ∀ y ∈ l, strict = false ∧ isSil (kd y) = true ∧ isMove ops y = true := fun y hy => by
     rcases hw1 y hy with h1 | ⟨h1, h2, h3, _⟩
     ·exact (notanc y (by simp [hy]) h1).elim
     ·exact ⟨h1, h2, h3⟩
    have hst : strict = false := by
     cases l with
     | nil => exact (hl rfl).elim
     | cons x L => exact (hw2 x (by simp)).1
    have hQ' := hQ.resolve_left (by rw [hst]; decide)
    have hm := mixed_sound hsel hQ' (fuel + 1) l t listed a w hf hsz hun hin hnd hcl htab hlist (fun y hy x hx => by
     have := hwait y hy x hx
     simp only [okWait, Bool.or_eq_true, Bool.and_eq_true, Bool.not_eq_true'] at this
     rcases this with h1 | ⟨_, h4⟩
     ·exact .inl h1
     ·cases hoy : ops[y]? with
      | none => simp [hoy] at h4
      | some oy =>
       cases hox : ops[x]? with
       | none => simp [hoy, hox] at h4
       | some ox => simp only [hoy, hox] at h4; exact .inr ⟨oy, ox, rfl, rfl, h4⟩) htail hdeps (runM_of_run (fun y hy => (hw2 y hy).2) h)
    exact hm.2 j hj
theorem wp_region_seqG {id : Nat} {Q : Exit → Act → World → Prop} {a : Act} {w : World} (X : Nat → Prop) (hX : ∀ j, X j → j < w.heap.size) (kd : Nat → Kd) (strict : Bool) (hQ : strict = true ∨ ∀ c d v a w, Q (.panic c) (Act.put a d v) w → Q (.panic c) a w) (tab l t : List Nat) (hm : P.follows .mixedOrders = true) (hok : okSeq strict tab ops kd l t = true)
  (hz : ∀ i T z, i ∈ l → kd i = .alloc T z → Makes P ops i T z)
  (h : ∀ W, StepX X w W → run P ops X w.heap.size kd l (K0 P ops X Q t) (fun _ => True) a W) : (Code.region id ops true).wp P Q a w := by
 simp only [okSeq, Bool.and_eq_true, List.all_eq_true, decide_eq_true_eq, List.mem_range, List.contains_iff_mem] at hok
 obtain ⟨⟨⟨⟨⟨⟨⟨⟨⟨h0, h1⟩, h9⟩, h2⟩, h3⟩, h4⟩, h5⟩, h6⟩, h7⟩, h8⟩ := hok
 refine wp_region_any hm ?_
 refine seq_sound (base := w.heap.size) (kd := kd) hX h5 hQ ops.size l t _ (fun _ => True) a w.drew ?_ (by simp) ?_ h7 h8 ?_ h0 h1 h9 (tailOk_of h2) ?_ h4 hz (fun _ _ => trivial) (by simp) (h w.drew (.of (Step.drew w)))
 ·-- no more than the region has
  have hsub : (l ++ t).length ≤ (List.range ops.size).length := h8.length_le_of_subset (fun i hi => List.mem_range.2 (h7 i hi))
  simpa using hsub
 ·intro i hi
  simp only [Array.getD_eq_getD_getElem?, Array.getElem?_replicate, hi, if_true, Option.getD_some, true_iff]
  exact h6 i hi
 ·intro x o ho hx
  have hlt := (Array.getElem?_eq_some_iff.1 ho).1
  simp [hlt] at hx
 ·intro L1 x L2 he
  obtain ⟨o, ho, hh⟩ := depsOk_of (listed := Array.replicate ops.size false) h3 L1 x L2 he
  exact ⟨o, ho, by simpa using hh⟩
theorem wp_region_seqM {id : Nat} {Q : Exit → Act → World → Prop} {a : Act} {w : World} (hQ : ∀ c d v a w, Q (.panic c) (Act.put a d v) w → Q (.panic c) a w) (kd : Nat → Kd) (tab l t : List Nat) (hm : P.follows .mixedOrders = true) (hok : okSeq false tab ops kd l t = true)
  (hz : ∀ i T z, i ∈ l → kd i = .alloc T z → Makes P ops i T z)
  (h : ∀ W, Step w W → run P ops (fun _ => False) w.heap.size kd l (K0 P ops (fun _ => False) Q t) (fun _ => True) a W) : (Code.region id ops true).wp P Q a w :=
 wp_region_seqG (fun _ => False) (fun _ h => h.elim) kd false (.inr hQ) tab l t hm hok hz h
def kdOf (calls : List Nat) (allocs : List (Nat × TypeId × Value)) (makes : List (Nat × TypeId × Nat × Array Value)) (i : Nat) : Kd :=
 if calls.contains i then .chain else match makes.find? (fun x => x.1 == i) with
  | some (_, T, n, xs) => .make T n xs
  | none => match allocs.find? (fun x => x.1 == i) with
   | some (_, T, z) => .alloc T z
   | none => .silent
def kdP (pures : List Nat) (kd : Nat → Kd) (i : Nat) : Kd := if pures.contains i then .pure else kd i
section
variable {K : Cont} {N : Nat → Prop} {a : Act} {w : World} {i : Nat} {l : List Nat} {o : Oper}
theorem run_pure (hk : kd i = .pure) (ho : ops.toList[i]? = some o) (hw : Region.wanted o (yielded ops a.tmps) = true) (h : ∃ v, (∀ W, (execOp a.eval o).run P W = .ok (.value v) W) ∧ run P ops X base kd l K N (a.put o.dst v) w) : run P ops X base kd (i :: l) K N a w := by
 obtain ⟨v, h1, h2⟩ := h
 show go P ops X base kd i _ N a w
 unfold go; rw [hk]; exact ⟨o, v, by simpa using ho, .inl ⟨hw, fun W _ => h1 W⟩, h2⟩
theorem run_silent {v : Value} (hk : kd i = .silent) (ho : ops.toList[i]? = some o) (hy : YieldsIf P ops (StepX X w) o v a) (h : run P ops X base kd l K N (a.put o.dst v) w) : run P ops X base kd (i :: l) K N a w := by
 show go P ops X base kd i _ N a w
 unfold go; rw [hk]; exact ⟨o, v, by simpa using ho, hy, h⟩
theorem run_want (hk : kd i = .silent) (ho : ops.toList[i]? = some o) (hw : Region.wanted o (yielded ops a.tmps) = true) (h : ∃ v, (∀ W, StepX X w W → (execOp a.eval o).run P W = .ok (.value v) W) ∧ run P ops X base kd l K N (a.put o.dst v) w) :
  run P ops X base kd (i :: l) K N a w := by
 obtain ⟨v, h1, h2⟩ := h
 exact run_silent hk ho (.inl ⟨hw, h1⟩) h2
theorem run_off (hk : kd i = .silent) (ho : ops.toList[i]? = some o) (hw : Region.wanted o (yielded ops a.tmps) = false) (h : run P ops X base kd l K N (a.put o.dst undef) w) : run P ops X base kd (i :: l) K N a w :=
 run_silent hk ho (.inr ⟨hw, rfl⟩) h
theorem run_chain (hk : kd i = .chain) (ho : ops.toList[i]? = some o) (hw : Region.wanted o (yielded ops a.tmps) = true)
  (h : ∀ W, StepX X w W → ∀ K' : Act → World → Prop, (∀ a' w', StepX X W w' → run P ops X base kd l K (fun g => N g ∧ (g < W.heap.size ∨ w'.heap.size ≤ g)) a' w' → K' a' w') → o.wp P a W K' QF) : run P ops X base kd (i :: l) K N a w := by
 show go P ops X base kd i _ N a w
 have ho : ops[i]? = some o := by simpa using ho
 unfold go; rw [hk]
 intro W hW
 unfold wpOp; simp only [ho, hw, if_true]
 exact .inl (h W hW _ (fun a' w' hs hr => ⟨hs, hr⟩))
theorem run_chain_off (hk : kd i = .chain) (ho : ops.toList[i]? = some o) (hw : Region.wanted o (yielded ops a.tmps) = false) (hK : ContMono X K)
  (h : run P ops X base kd l K N (a.put o.dst undef) w) : run P ops X base kd (i :: l) K N a w := by
 show go P ops X base kd i _ N a w
 have ho : ops[i]? = some o := by simpa using ho
 unfold go; rw [hk]
 intro W hW
 unfold wpOp; simp only [ho, hw]
 exact ⟨StepX.refl _ _, run_mono hK l _ _ _ _ _ (fun g hg => hg.1) hW h⟩
theorem run_alloc {T : TypeId} {z : Value} (hk : kd i = .alloc T z) (ho : ops.toList[i]? = some o)
  (h : ∀ W g, StepX X w W → W.heap[g]? = some (.cells z.cells T (0, 0)) → base ≤ g → N g → run P ops X base kd l K (fun x => N x ∧ x ≠ g) (a.put o.dst (.pointer (some ⟨g, 0, none⟩))) W)
  (hv : ∀ g, madeV z g = .pointer (some ⟨g, 0, none⟩) := by exact fun _ => rfl) (hc : madeC z = z.cells := by exact rfl) : run P ops X base kd (i :: l) K N a w := by
 show go P ops X base kd i _ N a w
 have ho : ops[i]? = some o := by simpa using ho
 unfold go; rw [hk, ho]
 intro W g h1 h2 h3 h4
 rw [hc] at h2
 rw [hv]
 exact h W g h1 h2 h3 h4
theorem run_consts {T : TypeId} {xs : Array Value} (hk : kd i = .alloc T (.tuple xs)) (ho : ops.toList[i]? = some o)
  (h : ∀ W g, StepX X w W → W.heap[g]? = some (.cells xs T (0, 0)) → base ≤ g → N g → run P ops X base kd l K (fun x => N x ∧ x ≠ g) (a.put o.dst (.slice (some ⟨g, 0, none⟩) xs.size xs.size)) W) : run P ops X base kd (i :: l) K N a w := by
 show go P ops X base kd i _ N a w
 have ho : ops[i]? = some o := by simpa using ho
 unfold go; rw [hk, ho]; exact h
theorem run_end {Q : Exit → Act → World → Prop} {t : List Nat} {L : List Oper} (ht : t.map (fun i => ops.toList[i]?) = L.map some) (h : ∀ W, StepX X w W → wpList P ops Q L a W) : run P ops X base kd [] (K0 P ops X Q t) N a w := by
 intro W hW
 have h' := h W hW
 clear h hW
 show wpOps P ops Q t a W
 induction t generalizing L a W with
 | nil =>
  cases L with
  | nil => exact h'
  | cons _ _ => simp at ht
 | cons x t ih =>
  cases L with
  | nil => simp at ht
  | cons o L =>
   simp only [List.map_cons, List.cons.injEq, Array.getElem?_toList] at ht
   rw [wpOps_cons]
   unfold wpOp
   unfold wpList at h'
   simp only [ht.1]
   split
   ·rename_i hw
    rw [if_pos hw] at h'
    exact h'.imp (Oper.wp_mono fun a' w' hh => ih (by simpa using ht.2) w' hh) id
   ·rename_i hw
    rw [if_neg hw] at h'
    exact ih (by simpa using ht.2) W h'
end
end
end Go.BT.Mk
