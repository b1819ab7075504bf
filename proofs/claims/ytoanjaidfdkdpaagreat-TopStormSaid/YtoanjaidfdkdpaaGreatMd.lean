/- Walks and plain laws, part d. -/
import Derived.Test.YtoanjaidfdkdpaaGreatMa
import Derived.Test.YtoanjaidfdkdpaaGreatMb
import Derived.Test.YtoanjaidfdkdpaaGreatMc
import Derived.Test.YtoanjaidfdkdpaaGreatRows
import Derived.BigQuiet
import Derived.Deep.AppendLies
import Derived.Deep.DeepCutAuto
import Derived.Deep.QuietTactic
import Derived.Deep.RegionHeld3
import Derived.Lib.Hide
import Derived.WalkKit
import Derived.WalkLawsBesides
import Derived.WalkSmall
/- A tent whose memory is all its own, opened, and changed in place: a lesser area, a deeper stake, one more guy. -/
namespace Go.Proofs.YtoanjaidfdkdpaaGreat
set_option linter.unusedSimpArgs false
set_option linter.unusedVariables false
open Go.RowKit Go.BT

structure TentK (base : Nat) (w : World) (g c : Nat) (hs : List HeadV) (t : List Head) : Prop where
  cap : t.length ≤ c
  max : t.length ≤ 9223372036854775807
  ge : base ≤ g
  bx : ∃ cs, Bx w g cs 105
  inner : Inner base w hs t
  cells : ∀ i (h1 : i < hs.length), w.cell? ⟨g, i * 3, none⟩ = some (.int .i64 hs[i].area) ∧ w.cell? ⟨g, i * 3 + 1, none⟩ = some (.int .i64 hs[i].bears) ∧ w.cell? ⟨g, i * 3 + 2, none⟩ = some hs[i].val
theorem TentO.k {base : Nat} {w : World} {v : Value} {t : List Head} (h : TentO base w v t) (ht : 0 < t.length) : ∃ g c hs, v = .slice (some ⟨g, 0, none⟩) t.length c ∧ TentK base w g c hs t := by
  obtain ⟨hs, ho, hi⟩ := h
  have hsl := ho.sl (fun _ _ _ h => h)
  obtain ⟨xs, ⟨hx, ho⟩, hr⟩ := ho
  have hl := hi.len
  rcases ho with ⟨_, h0⟩ | ⟨g, cap, cur, rfl, hb, hg, hle, hcap, hsz, hcur⟩
  · omega
  obtain ⟨p, c', b, o, hv, h1, h2, hp, hc⟩ := hsl
  have hbo := hp (by omega)
  injection hv with e1 e2 e3
  rw [← e1] at hbo
  injection hbo with hbo
  injection hbo with hbo1 hbo2
  subst hbo1 hbo2
  refine ⟨g, cap, hs, by rw [hl], by omega, by omega, hb, ⟨cur.toList, by unfold Bx; simpa using hg⟩, hi, fun i h1 => ?_⟩
  obtain ⟨_, _, cs, ⟨hr1, _⟩, hcs⟩ := hc i h1
  subst hr1
  have k3 : Rep.k HeadV = 3 := rfl
  rw [k3] at hcs
  exact ⟨by have := hcs 0 _ rfl; simpa using this, by have := hcs 1 _ rfl; simpa using this, by have := hcs 2 _ rfl; simpa using this⟩
theorem TentK.lt {base : Nat} {w : World} {g c : Nat} {hs : List HeadV} {t : List Head} (h : TentK base w g c hs t) : g < w.heap.size := by obtain ⟨cs, hb⟩ := h.bx; exact hb.lt
theorem TentK.fz {base : Nat} {w : World} {g c : Nat} {hs : List HeadV} {t : List Head} (h : TentK base w g c hs t) (o : Nat) : w.frozen? ⟨g, o, none⟩ = false := by obtain ⟨cs, hb⟩ := h.bx; exact hb.frozen o
theorem TentK.ne {base : Nat} {w : World} {g c : Nat} {hs : List HeadV} {t : List Head} (h : TentK base w g c hs t) {i : Nat} (h1 : i < hs.length) : hs[i].val.ownBlock ≠ some g := by
  obtain ⟨cs, hb⟩ := h.bx
  exact own_apart (h.inner.at_ i h1 (by have := h.inner.len; omega)).2.2 hb (by decide)
theorem TentK.step {base : Nat} {w w' : World} {g c : Nat} {hs : List HeadV} {t : List Head} (h : TentK base w g c hs t) (k : Step w w') : TentK base w' g c hs t :=
  ⟨h.cap, h.max, h.ge, by obtain ⟨cs, hb⟩ := h.bx; exact ⟨cs, hb.step k⟩, h.inner.step k, fun i h1 => ⟨k.keeps.cell id (h.cells i h1).1, k.keeps.cell id (h.cells i h1).2.1, k.keeps.cell id (h.cells i h1).2.2⟩⟩
/-- A tent read anew. -/
theorem tent_sl {w : World} {g c : Nat} {t : List Head} (hg : g < w.heap.size) (hc : t.length ≤ c) (hm : t.length ≤ 9223372036854775807) (h : ∀ i (hi : i < t.length), ∃ q, w.cell? ⟨g, i * 3, none⟩ = some (.int .i64 t[i].area) ∧ w.cell? ⟨g, i * 3 + 1, none⟩ = some (.int .i64 t[i].bears) ∧ w.cell? ⟨g, i * 3 + 2, none⟩ = some q ∧ SL (fun _ => False) w q t[i].guys) : SL (fun _ => False) w (.slice (some ⟨g, 0, none⟩) t.length c) t := by
  refine ⟨_, c, g, 0, rfl, hc, hm, fun _ => rfl, fun i hi => ?_⟩
  obtain ⟨q, h1, h2, h3, h4⟩ := h i hi
  have k3 : Rep.k Head = 3 := rfl
  refine ⟨hg, id, [.int .i64 t[i].area, .int .i64 t[i].bears, q], ⟨q, rfl, h4⟩, fun j v hj => ?_⟩
  rw [k3]
  match j, hj with
  | 0, hj => injection hj with e; subst e; simpa using h1
  | 1, hj => injection hj with e; subst e; simpa using h2
  | 2, hj => injection hj with e; subst e; simpa using h3
  | (n + 3), hj => simp at hj
/-- The guys of a head, where a row other than theirs is written. -/
theorem TentK.guys {base : Nat} {w w' : World} {g c : Nat} {hs : List HeadV} {t : List Head} (h : TentK base w g c hs t) {i : Nat} (h1 : i < hs.length) (h2 : i < t.length) {b : Nat} (hb : hs[i].val.ownBlock ≠ some b) (hk : Keeps (fun j => j = b) w w') : SL (fun _ => False) w' hs[i].val t[i].guys :=
  (((ownL_flat (fun j => j = b) (h.inner.at_ i h1 h2).2.2).slb (fun g' hg' e => by subst e; exact hb hg')).keep hk).weak (fun _ _ h => h.elim)
theorem TentK.area {base : Nat} {w : World} {g c : Nat} {hs : List HeadV} {t : List Head} (h : TentK base w g c hs t) {k : Nat} (hk : k < t.length) (x : Int) : SL (fun _ => False) (w.setCell ⟨g, k * 3, none⟩ (.int .i64 x)) (.slice (some ⟨g, 0, none⟩) t.length c) (t.set k ⟨x, t[k].bears, t[k].guys⟩) := by
  have hl := h.inner.len
  have hw := Wrote.setCell w g (k * 3) (.int .i64 x)
  rw [show t.length = (t.set k ⟨x, t[k].bears, t[k].guys⟩).length by simp]
  refine tent_sl (by rw [hw.size]; exact h.lt) (by simpa using h.cap) (by simpa using h.max) fun i hi => ?_
  have hi' : i < t.length := by simpa using hi
  have h1 : i < hs.length := by omega
  obtain ⟨c1, c2, c3⟩ := h.cells i h1
  obtain ⟨a1, a2, _⟩ := h.inner.at_ i h1 hi'
  have hg := h.guys h1 hi' (h.ne h1) hw.keeps
  refine ⟨hs[i].val, ?_, ?_, ?_, ?_⟩
  · by_cases q : k = i
    · subst q
      rw [World.cell?_setCell_same _ _ _ c1]; simp
    · rw [World.cell?_setCell_other _ _ _ _ (by intro e; injection e with _ e _; omega), c1, a1]
      simp [List.getElem_set, q]
  · rw [World.cell?_setCell_other _ _ _ _ (by intro e; injection e with _ e _; omega), c2, a2]
    by_cases q : k = i
    · subst q; simp
    · simp [List.getElem_set, q]
  · rw [World.cell?_setCell_other _ _ _ _ (by intro e; injection e with _ e _; omega), c3]
  · by_cases q : k = i
    · subst q; simpa using hg
    · simpa [List.getElem_set, q] using hg
theorem TentK.row {base : Nat} {w : World} {g c : Nat} {hs : List HeadV} {t : List Head} (h : TentK base w g c hs t) {k : Nat} (h1 : k < hs.length) (h2 : k < t.length) (h0 : 0 < t[k].guys.length) :
    ∃ b cb, hs[k].val = .slice (some ⟨b, 0, none⟩) t[k].guys.length cb ∧ t[k].guys.length ≤ cb ∧ b ≠ g ∧ base ≤ b ∧ b < w.heap.size ∧ (∀ o, w.frozen? ⟨b, o, none⟩ = false) ∧
      ∀ i (hi : i < t[k].guys.length), w.cell? ⟨b, i * 5, none⟩ = some (.int .i64 t[k].guys[i].x) ∧ w.cell? ⟨b, i * 5 + 1, none⟩ = some (.int .i64 t[k].guys[i].y) ∧ w.cell? ⟨b, i * 5 + 2, none⟩ = some (.int .i64 t[k].guys[i].down) ∧ w.cell? ⟨b, i * 5 + 3, none⟩ = some (.int .i64 t[k].guys[i].soil) ∧ w.cell? ⟨b, i * 5 + 4, none⟩ = some (.int .i64 t[k].guys[i].depth) := by
  have ho := (h.inner.at_ k h1 h2).2.2
  have hne := h.ne h1
  have hsl := ho.slb (S := fun _ => False) (fun _ _ h => h)
  obtain ⟨xs, ⟨hx, ho⟩, hr⟩ := ho
  rcases ho with ⟨_, e⟩ | ⟨b, cap, cur, hv, hb, hg, hle, hcap, hsz, hcur⟩
  · omega
  obtain ⟨p, c', b', o, hv', _, _, hp, hc, _⟩ := hsl.guys
  obtain rfl := hp h0
  rw [hv] at hv' hne
  injection hv' with e1 e2 e3
  injection e1 with e1
  injection e1 with e1 e4
  subst e1 e4
  refine ⟨b, cap, hv, hle, fun e => hne (by rw [e]; rfl), hb, (Array.getElem?_eq_some_iff.1 hg).1, fun o => by simp [World.frozen?, hg], fun i hi => ?_⟩
  have := hc i hi
  simpa using this
theorem TentK.depth {base : Nat} {w : World} {g c : Nat} {hs : List HeadV} {t : List Head} (h : TentK base w g c hs t) {k : Nat} (h1 : k < hs.length) (h2 : k < t.length) {b cb : Nat} (hv : hs[k].val = .slice (some ⟨b, 0, none⟩) t[k].guys.length cb) (hcb : t[k].guys.length ≤ cb) (hne : b ≠ g) (hlt : b < w.heap.size)
    (hc : ∀ i (hi : i < t[k].guys.length), w.cell? ⟨b, i * 5, none⟩ = some (.int .i64 t[k].guys[i].x) ∧ w.cell? ⟨b, i * 5 + 1, none⟩ = some (.int .i64 t[k].guys[i].y) ∧ w.cell? ⟨b, i * 5 + 2, none⟩ = some (.int .i64 t[k].guys[i].down) ∧ w.cell? ⟨b, i * 5 + 3, none⟩ = some (.int .i64 t[k].guys[i].soil) ∧ w.cell? ⟨b, i * 5 + 4, none⟩ = some (.int .i64 t[k].guys[i].depth))
    {j : Nat} (hj : j < t[k].guys.length) (d : Int) : SL (fun _ => False) (w.setCell ⟨b, j * 5 + 4, none⟩ (.int .i64 d)) (.slice (some ⟨g, 0, none⟩) t.length c) (t.set k ⟨t[k].area, t[k].bears, t[k].guys.set j ⟨t[k].guys[j].x, t[k].guys[j].y, t[k].guys[j].down, t[k].guys[j].soil, d⟩⟩) := by
  have hl := h.inner.len
  have hw := Wrote.setCell w b (j * 5 + 4) (.int .i64 d)
  obtain ⟨cs, hbx⟩ := h.bx
  have hgl : t[k].guys.length ≤ 9223372036854775807 := by
    obtain ⟨_, _, _, _, _, _, hm, _⟩ := ((h.inner.at_ k h1 h2).2.2.slb (S := fun _ => False) (fun _ _ h => h)).guys
    exact hm
  rw [show t.length = (t.set k ⟨t[k].area, t[k].bears, t[k].guys.set j ⟨t[k].guys[j].x, t[k].guys[j].y, t[k].guys[j].down, t[k].guys[j].soil, d⟩⟩).length by simp]
  refine tent_sl (by rw [hw.size]; exact h.lt) (by simpa using h.cap) (by simpa using h.max) fun i hi => ?_
  have hi' : i < t.length := by simpa using hi
  have hih : i < hs.length := by omega
  obtain ⟨c1, c2, c3⟩ := h.cells i hih
  obtain ⟨a1, a2, _⟩ := h.inner.at_ i hih hi'
  have far : ∀ o, (w.setCell ⟨b, j * 5 + 4, none⟩ (.int .i64 d)).cell? ⟨g, o, none⟩ = w.cell? ⟨g, o, none⟩ := fun o => World.cell?_setCell_other _ _ _ _ (by intro e; injection e with e _ _; exact hne e)
  refine ⟨hs[i].val, ?_, ?_, ?_, ?_⟩
  · rw [far, c1, a1]
    by_cases q : k = i
    · subst q; simp
    · simp [List.getElem_set, q]
  · rw [far, c2, a2]
    by_cases q : k = i
    · subst q; simp
    · simp [List.getElem_set, q]
  · rw [far, c3]
  · by_cases q : k = i
    · subst q
      rw [hv]
      simp only [List.getElem_set_self]
      refine ⟨_, cb, b, 0, by rw [List.length_set], by simpa using hcb, by simpa using hgl, fun _ => rfl, fun m hm => ?_⟩
      have hm' : m < t[k].guys.length := by simpa using hm
      obtain ⟨d1, d2, d3, d4, d5⟩ := hc m hm'
      have k5 : Rep.k Guy = 5 := rfl
      rw [k5]
      by_cases r : j = m
      · subst r
        simp only [List.getElem_set_self]
        refine ⟨by rw [hw.size]; exact hlt, id, _, rfl, fun u v hu => ?_⟩
        match u, hu with
        | 0, hu => injection hu with e; subst e; rw [World.cell?_setCell_other _ _ _ _ (by intro e; injection e with _ e _; omega)]; simpa using d1
        | 1, hu => injection hu with e; subst e; rw [World.cell?_setCell_other _ _ _ _ (by intro e; injection e with _ e _; omega)]; simpa using d2
        | 2, hu => injection hu with e; subst e; rw [World.cell?_setCell_other _ _ _ _ (by intro e; injection e with _ e _; omega)]; simpa using d3
        | 3, hu => injection hu with e; subst e; rw [World.cell?_setCell_other _ _ _ _ (by intro e; injection e with _ e _; omega)]; simpa using d4
        | 4, hu => injection hu with e; subst e; simpa using World.cell?_setCell_same _ _ _ d5
        | (n + 5), hu => simp at hu
      · rw [List.getElem_set_ne r]
        refine ⟨by rw [hw.size]; exact hlt, id, _, rfl, fun u v hu => ?_⟩
        have hul : u < 5 := by have := (List.getElem?_eq_some_iff.1 hu).1; simpa using this
        rw [World.cell?_setCell_other _ _ _ _ (by intro e; injection e with _ e _; omega)]
        match u, hu with
        | 0, hu => injection hu with e; subst e; simpa using d1
        | 1, hu => injection hu with e; subst e; simpa using d2
        | 2, hu => injection hu with e; subst e; simpa using d3
        | 3, hu => injection hu with e; subst e; simpa using d4
        | 4, hu => injection hu with e; subst e; simpa using d5
        | (n + 5), hu => simp at hu
    · have hg := h.guys hih hi' (b := b) (h.inner.apart k i h1 hih q b (by rw [hv]; rfl)) hw.keeps
      simpa [List.getElem_set, q] using hg
theorem TentK.more {base base' : Nat} {w w1 : World} {g c : Nat} {hs : List HeadV} {t : List Head} (h : TentK base w g c hs t) {k : Nat} (h1 : k < hs.length) (h2 : k < t.length) {p : Option Addr} {c1 : Nat} {gs : List Guy} (hown : OwnL (fun _ => False) base' 108 w1 (.slice p gs.length c1) gs) (hgr : w.grownBy w1 hs[k].val.ownBlock) :
    SL (fun _ => False) (w1.setCell ⟨g, k * 3 + 2, none⟩ (.slice p gs.length c1)) (.slice (some ⟨g, 0, none⟩) t.length c) (t.set k ⟨t[k].area, t[k].bears, gs⟩) := by
  have hl := h.inner.len
  obtain ⟨cs, hbx⟩ := h.bx
  have hlt := h.lt
  have hgs : w.heap.size ≤ w1.heap.size := hgr.size
  have hbk : w1.heap[g]? = w.heap[g]? := hgr.block g hlt (fun e => h.ne h1 e.symm)
  have hbx1 : Bx w1 g cs 105 := by unfold Bx at *; rw [hbk]; exact hbx
  have hc1 : ∀ o, w1.cell? ⟨g, o, none⟩ = w.cell? ⟨g, o, none⟩ := fun o => by rw [hbx1.cell, hbx.cell]
  have hw := Wrote.setCell w1 g (k * 3 + 2) (.slice p gs.length c1)
  rw [show t.length = (t.set k ⟨t[k].area, t[k].bears, gs⟩).length by simp]
  refine tent_sl (by rw [hw.size]; omega) (by simpa using h.cap) (by simpa using h.max) fun i hi => ?_
  have hi' : i < t.length := by simpa using hi
  have hih : i < hs.length := by omega
  obtain ⟨d1, d2, d3⟩ := h.cells i hih
  rw [← hc1] at d1 d2 d3
  obtain ⟨a1, a2, a3⟩ := h.inner.at_ i hih hi'
  by_cases q : k = i
  · subst q
    have hne := own_apart hown hbx1 (by decide)
    refine ⟨.slice p gs.length c1, ?_, ?_, ?_, ?_⟩
    · rw [World.cell?_setCell_other _ _ _ _ (by intro e; injection e with _ e _; omega), d1, a1]; simp
    · rw [World.cell?_setCell_other _ _ _ _ (by intro e; injection e with _ e _; omega), d2, a2]; simp
    · rw [World.cell?_setCell_same _ _ _ d3]
    · simp only [List.getElem_set_self]
      exact (((ownL_flat (fun j => j = g) hown).slb (fun g' hg' e => by subst e; exact hne hg')).keep hw.keeps).weak (fun _ _ h => h.elim)
  · have hap := h.inner.apart k i h1 hih q
    have ho := ownL_grown a3 hgr (fun g' hg' e => hap g' e hg')
    have hne := own_apart ho hbx1 (by decide)
    have hgd := (((ownL_flat (fun j => j = g) ho).slb (fun g' hg' e => by subst e; exact hne hg')).keep hw.keeps).weak (T := fun _ => False) (fun _ _ h => h.elim)
    refine ⟨hs[i].val, ?_, ?_, ?_, ?_⟩
    · rw [World.cell?_setCell_other _ _ _ _ (by intro e; injection e with _ e _; omega), d1, a1]; simp [List.getElem_set, q]
    · rw [World.cell?_setCell_other _ _ _ _ (by intro e; injection e with _ e _; omega), d2, a2]; simp [List.getElem_set, q]
    · rw [World.cell?_setCell_other _ _ _ _ (by intro e; injection e with _ e _; omega), d3]
    · simpa [List.getElem_set, q] using hgd
end Go.Proofs.YtoanjaidfdkdpaaGreat
/- Walks: the guys and the heads of a tent are cloned. -/
namespace Go.Proofs.YtoanjaidfdkdpaaGreat
set_option linter.unusedSimpArgs false
set_option linter.unusedVariables false
open Go.RowKit Go.BT

/-- What a list leads to is there; so nothing of it lies in what is made later. -/
theorem SL_avoid {α : Type} [Rep α] {S : Nat → Prop} {w : World} {v : Value} {l : List α} (h : SL S w v l) (g : Nat) (hg : w.heap.size ≤ g) (p : Option Addr) (n c : Nat) (hp : (Value.slice p n c).ownBlock = some g) : SL (avoid S (.slice p n c)) w v l :=
  h.weak fun j hj ht => ht.elim id fun e => by rw [hp] at e; injection e with e; omega
set_option maxHeartbeats 1000000 in
theorem clone_guys (S : Nat → Prop) (l : List Guy) (v : Value) (w : World) (h : SL S w v l) (hl : l.length ≤ 1000000) :
    Calls Tryz.prog 56 #[v] w fun e w' => ∃ v', e = .returned v' ∧ OwnL (Old w) w.heap.size 108 w' v' l ∧ Step w w' := by
  have hq : ∀ (w : World) (a : Option Addr) (n c n' c' : Nat), (binOp .eql 103 (.slice a n c) (.slice none n' c')).run Tryz.prog w = .ok (.bool a.isNone) w := fun w a n c n' c' => Lib.run_eql_slice_nil w _ _ a n c n' c' Tryz.underlying103
  obtain ⟨p, c, rfl⟩ := h.form
  cases p with
  | none =>
    have h0 : l = [] := by
      obtain ⟨p', c', b, o, he, _, _, hp, _⟩ := h
      injection he with he _ _
      cases l with
      | nil => rfl
      | cons x l => rw [← he] at hp; have := hp (by simp); cases this
    subst h0
    have hc : (none : Option Addr).isNone = true := rfl
    go_enter Tryz.func56, Tryz.ntmps56
    go_wp2
    go_ret
    exact ⟨_, rfl, OwnL.nil _ _ _ _, Step.refl _⟩
  | some a =>
    have hc : (some a : Option Addr).isNone = false := rfl
    go_enter Tryz.func56, Tryz.ntmps56
    go_wp2_with (at_builtin; refine wpl_append (α := Guy) (S := Old w) (base := w.heap.size) (v := .slice (some ⟨w.heap.size, 0, none⟩) 0 0) (l := []) (m := l) eiGuys rfl _ _ rfl rfl rfl ⟨[], World.ownsRow_lit w #[] 0 (Nat.le_refl _) (by simp [maxLen]) (by simp), fun i h => absurd h (by simp)⟩ (SL.flat _ (h.keep (.alloc _ _))) l.length (by simp) l rfl ?_ ?_ ?_ ?_)
    · simp only [maxLen]; omega
    · omega
    · simp
    intro p' c' w' hown hg
    go_wp2
    go_ret
    exact ⟨_, rfl, hown, .of (((Below.refl _ w).alloc (Nat.le_refl _) _).grown hg (by simp) (by simp [Value.ownBlock]))⟩
end Go.Proofs.YtoanjaidfdkdpaaGreat
/- Walks: the first head and corner that are too weak, by the program; the errors of a wind. -/
namespace Go.BT
open Go.RowKit
section
variable {P : Program} {fn : Func} {R : Ending → World → Prop} {a : Act} {w : World}
/-- Three results, the last a struct in a variable. -/
theorem ret_ttc {t u x : Tmp} {T T' : TypeId} {k g : Nat} {cs : List Value} (hr : fn.results = #[.tmp u, .tmp x, .cell t T]) (hi : SI P T k)
    (ht : a.tmps.getD t undef = .pointer (some ⟨g, 0, none⟩)) (hb : Bx w g cs T') (hk : cs.length = k) (hd : a.defers = []) (hR : R (.returned (.tuple #[a.tmps.getD u undef, a.tmps.getD x undef, .agg cs.toArray])) w) : bodyPost P fn R .ret a w := by
  refine bodyPost_ret (v := .tuple #[a.tmps.getD u undef, a.tmps.getD x undef, .agg cs.toArray]) ?_ hd hR
  have ht' : a.tmps[t]?.getD undef = .pointer (some ⟨g, 0, none⟩) := by simpa using ht
  simp [results, hr, ht', asAddr, run_loadVar_bx hi hb hk]
/-- Four results, the third a struct in a variable. -/
theorem ret_ttct {t u x y : Tmp} {T T' : TypeId} {k g : Nat} {cs : List Value} (hr : fn.results = #[.tmp u, .tmp x, .cell t T, .tmp y]) (hi : SI P T k)
    (ht : a.tmps.getD t undef = .pointer (some ⟨g, 0, none⟩)) (hb : Bx w g cs T') (hk : cs.length = k) (hd : a.defers = []) (hR : R (.returned (.tuple #[a.tmps.getD u undef, a.tmps.getD x undef, .agg cs.toArray, a.tmps.getD y undef])) w) : bodyPost P fn R .ret a w := by
  refine bodyPost_ret (v := .tuple #[a.tmps.getD u undef, a.tmps.getD x undef, .agg cs.toArray, a.tmps.getD y undef]) ?_ hd hR
  have ht' : a.tmps[t]?.getD undef = .pointer (some ⟨g, 0, none⟩) := by simpa using ht
  simp [results, hr, ht', asAddr, run_loadVar_bx hi hb hk]
end
theorem weakK_some {F : List Vec} {area : Int} {wind : List Vec} {j : Nat} (hj : j < wind.length) (h1 : ∀ i (hi : i < j) (hl : i < wind.length), balL F (timesV wind[i] area) = true) (h2 : balL F (timesV wind[j] area) = false) : weakK F area wind = some j := by
  unfold weakK
  rw [List.findIdx?_eq_some_iff_getElem]
  exact ⟨hj, by simp [h2], fun i hi => by simp [h1 i hi (by omega)]⟩
theorem weakK_no {F : List Vec} {area : Int} {wind : List Vec} (h1 : ∀ i (hl : i < wind.length), balL F (timesV wind[i] area) = true) : weakK F area wind = none := by
  rw [weakK_none, List.all_eq_true]
  intro c hc
  obtain ⟨i, hi, rfl⟩ := List.getElem_of_mem hc
  exact h1 i hi
/-- A direction in which what is pushed is more than all can hold. -/
def TooWeak (l : List Tst) (t : List Head) (wind : List Vec) (i k x y : Int) : Prop := ∀ (a b : Nat) (ha : a < t.length) (hb : b < wind.length), i = a → k = b → helpL (forcesL l t[a].guys) ⟨x, y⟩ < dotV ⟨x, y⟩ (timesV wind[b] t[a].area) ∧ (-500000 ≤ x ∧ x ≤ 500000) ∧ -500000 ≤ y ∧ y ≤ 500000
end Go.BT
namespace Go.Proofs.YtoanjaidfdkdpaaGreat
set_option linter.unusedSimpArgs false
set_option linter.unusedVariables false
open Go.RowKit Go.BT

set_option maxRecDepth 100000 in
set_option maxHeartbeats 8000000 in
theorem weakest_any (S : Nat → Prop) (l : List Tst) (t : List Head) (wind : List Vec) (v u x : Value) (w : World) (hv : SL S w v l) (hu : SL S w u t) (hx : SL S w x wind) (hl : l.all tstB = true) (ht : t.all headB = true) (hw : wind.all cornerB = true) :
    Calls Tryz.prog 43 #[u, v, x] w fun e w' => ∃ a b : Int, e = .returned (.tuple #[.int .i64 (weakP l t wind).1, .int .i64 (weakP l t wind).2, .agg #[.int .i64 a, .int .i64 b]]) ∧ (standB l t wind = true → a = 0 ∧ b = 0) ∧ TooWeak l t wind (weakP l t wind).1 (weakP l t wind).2 a b ∧ Step w w' := by
  have hmt := hu.len
  have hmw := hx.len
  obtain ⟨W0, hW0⟩ : ∃ W, W = w.alloc (.cells #[.int .i64 0, .int .i64 0] 70) := ⟨_, rfl⟩
  have hb : Bx W0 w.heap.size [.int .i64 0, .int .i64 0] 70 := by subst hW0; exact Bx.new w [_, _] _
  have hS : Step w W0 := by subst hW0; exact Step.alloc _ _
  have HV := Lib.hid (SL.go hv hS)
  obtain ⟨pu, cu, bu, ou, rfl, _, _, hpu, hcu, _⟩ := (SL.go hu hS).heads
  obtain ⟨px, cx, bx, ox, rfl, _, _, hpx, hcx, _⟩ := (SL.go hx hS).vecs
  have HB := Lib.hid hb
  have HS := Lib.hid hS
  have HW := Lib.hid hW0
  have HPU := Lib.hid (And.intro hpu hcu)
  have HPX := Lib.hid (And.intro hpx hcx)
  have HL := Lib.hid (And.intro hl (And.intro ht hw))
  obtain ⟨pv, cv, rfl⟩ := hv.form
  clear hb hS hW0 hv hu hx hpu hcu hpx hcx hl ht hw
  go_enter Tryz.func43, Tryz.ntmps43
  go_wp2
  rw [← HW.out]
  go_loopw [18] (fun i wr => ∃ k : Nat, k ≤ t.length ∧ i = .int .i64 k ∧ weakFrom l wind (t.drop k) k = weakP l t wind ∧ Step W0 wr) (fun i _ => t.length - (intOf i).toNat)
  case atStart => exact ⟨0, Nat.zero_le _, rfl, rfl, Step.refl _⟩
  case round =>
    obtain ⟨k, hk, rfl, hwk, hT⟩ := hrel
    have HWK := Lib.hid hwk
    have HT := Lib.hid hT
    clear hwk hT
    by_cases hlt : k < t.length
    · obtain rfl := HPU.out.1 (by omega)
      obtain ⟨c2, e1, e2, e3, e4⟩ := HPU.out.2 k hlt
      have e1 := HT.out.keeps.cell id e1
      have e2 := HT.out.keeps.cell id e2
      have e3 := HT.out.keeps.cell id e3
      have hix : (0 : Int) ≤ (k : Int) ∧ (k : Int) < (t.length : Int) := by omega
      have hhd := head_parts (all_get HL.out.2.1 hlt)
      have HST := Lib.hid (weakFrom_step (l := l) (wind := wind) hlt)
      obtain ⟨h, hh⟩ : ∃ h, h = t[k] := ⟨_, rfl⟩
      rw [← hh] at e1 e2 e4 hhd HST
      have HH := Lib.hid hh
      obtain ⟨pg, cg, rfl⟩ := e4.form
      have HHV := Lib.hid (show AV (fun _ => False) wr (.agg #[.int .i64 h.area, .int .i64 h.bears, .slice pg h.guys.length cg]) h from ⟨_, rfl, _, rfl, SL.go e4 HT.out⟩)
      have HHD := Lib.hid hhd
      have HSM := Lib.hid (forces_small HL.out.1 hhd.2.2.2)
      have HFL := Lib.hid (show (forcesL l h.guys).length ≤ 8 by rw [forces_len]; exact hhd.2.2.1)
      have hsa := Step.alloc wr (.cells #[.int .i64 h.area, .int .i64 h.bears, .slice pg h.guys.length cg] 105)
      have hcall := Lib.hid (measure_any (fun _ => False) l h (.slice pv l.length cv) (.agg #[.int .i64 h.area, .int .i64 h.bears, .slice pg h.guys.length cg]) _ (SL.go HV.out (HT.out.trans hsa)) (AV.go HHV.out hsa) HL.out.1 hhd.2.2.2 (by omega))
      clear hh e4 hhd hsa
      go_wp2_with fail
      refine hcall.out.mono ?_
      rintro e wm ⟨vm, rfl, hmv, hSm⟩
      obtain ⟨F, hF⟩ : ∃ F, F = forcesL l h.guys := ⟨_, rfl⟩
      rw [← hF] at hmv HSM HFL HST
      have HFE := Lib.hid hF
      have hmv := hmv.triv
      have hmv0 := hmv
      obtain ⟨b, p2, n2, q2, p3, q3, rfl, hsl⟩ := hmv
      obtain ⟨wl, hwl⟩ : ∃ W, W = wm.alloc (.cells #[.int .i64 h.area, .int .i64 b, .slice p2 n2 q2, .slice p3 F.length q3] 145) := ⟨_, rfl⟩
      have hbm : Bx wl wm.heap.size [.int .i64 h.area, .int .i64 b, .slice p2 n2 q2, .slice p3 F.length q3] 145 := by rw [hwl]; exact Bx.new wm [_, _, _, _] _
      have hsl2 : Step wm wl := by rw [hwl]; exact Step.alloc _ _
      have HBM := Lib.hid hbm
      have HMV := Lib.hid (hmv0.step hsl2)
      have HTl := Lib.hid (HT.out.trans ((Step.alloc _ _).trans (hSm.trans hsl2)))
      have HWL := Lib.hid hwl
      clear hcall hF hmv0 hsl hwl hbm hsl2 hSm e1 e2 e3 HT HHV
      go_wp2
      rw [← HWL.out]
      go_loopw [28] (fun i wr => ∃ j : Nat, j ≤ wind.length ∧ i = .int .i64 j ∧ (∀ i' (hi : i' < j) (hl : i' < wind.length), balL F (timesV wind[i'] h.area) = true) ∧ Step wl wr) (fun i _ => wind.length - (intOf i).toNat)
      case atStart => exact ⟨0, Nat.zero_le _, rfl, fun i hi => absurd hi (by omega), Step.refl _⟩
      case round =>
        obtain ⟨j, hj, rfl, hall, hT⟩ := hrel
        have HALL := Lib.hid hall
        have HT := Lib.hid hT
        clear hall hT
        by_cases hltj : j < wind.length
        · obtain rfl := HPX.out.1 (by omega)
          obtain ⟨x1, x2⟩ := HPX.out.2 j hltj
          have x1 := (HTl.out.trans HT.out).keeps.cell id x1
          have x2 := (HTl.out.trans HT.out).keeps.cell id x2
          have hjx : (0 : Int) ≤ (j : Int) ∧ (j : Int) < (wind.length : Int) := by omega
          have hcn := corner_in (all_get HL.out.2.2 hltj)
          have HNX := Lib.hid (weakK_some (F := F) (area := h.area) hltj HALL.out)
          have HSO := Lib.hid (show ∀ i' (hi : i' < j + 1) (hl : i' < wind.length), balL F (timesV wind[j] h.area) = true → balL F (timesV wind[i'] h.area) = true from fun i' hi hl q => if e : i' = j then by subst e; exact q else HALL.out i' (by omega) hl)
          obtain ⟨cn, hcj⟩ : ∃ c, c = wind[j] := ⟨_, rfl⟩
          rw [← hcj] at x1 x2 hcn HNX
          simp only [← hcj] at HSO
          have HCJ := Lib.hid hcj
          obtain ⟨q, hq⟩ : ∃ q, q = timesV cn h.area := ⟨_, rfl⟩
          have hqi : inV 10000000 q := by rw [hq]; exact times_in (N := 1000) hcn HHD.out.1
          have hqf := in_fits hqi (by decide)
          have HQF := Lib.hid (show fits (h.area * cn.x) ∧ fits (h.area * cn.y) by rw [hq] at hqf; exact hqf)
          have HQ := Lib.hid (And.intro hq hqi)
          rw [← hq] at HNX
          simp only [← hq] at HSO
          clear hcj hq hqi hqf hcn
          go_upto_region 8 with (fail)
          obtain ⟨wa, hwa⟩ : ∃ W, W = wr.alloc (.cells #[.int .i64 cn.x, .int .i64 cn.y] 70) := ⟨_, rfl⟩
          rw [← hwa]
          have HGA := Lib.hid (show Bx wa wr.heap.size [.int .i64 cn.x, .int .i64 cn.y] 70 by rw [hwa]; exact Bx.new wr [_, _] _)
          have hsa : Step wl wa := by rw [hwa]; exact HT.out.trans (Step.alloc _ _)
          have HSA := Lib.hid hsa
          clear hwa hsa x1 x2 HT
          have HT := Lib.hid (Step.refl wa)
          have HSZ0 := Lib.hid HT.out.size
          refine wp_region_seqM (fun c d v a w h => by cases d <;> exact h) (kdOf [5, 6] [(10, 70, .agg #[.int .i64 0, .int .i64 0])]) [0, 0, 0, 4, 12, 30, 63, 127, 255, 255, 0, 1535, 4095] [0, 1, 2, 3, 4, 5, 6, 7, 8, 9, 10] [11, 12] (by kernel_rfl) (by kernel_rfl) (fun i T z hi hk => by simp only [List.mem_cons, List.not_mem_nil, or_false] at hi; rcases hi with rfl | rfl | rfl | rfl | rfl | rfl | rfl | rfl | rfl | rfl | rfl <;> simp [kdOf] at hk <;> (obtain ⟨rfl, rfl⟩ := hk; first | (show Option.bind _ _ = some _; kernel_rfl) | (refine ⟨_, rfl, fun _ _ => ?_⟩; go_simp))) ?_
          intro Wx hWx
          have HTx := Lib.hid (HT.out.trans hWx)
          clear hWx HT
          have HT := HTx
          clear HTx
          (try clear m0 m1 m2 m3 n0 n1)
          obtain ⟨m0, m1, m2, m3⟩ := cells4 (HBM.out.step (HSA.out.trans HT.out))
          have n0 := (HGA.out.step HT.out).cell 0
          have n1 := (HGA.out.step HT.out).cell 1
          simp only [List.getElem?_cons_zero, List.getElem?_cons_succ] at n0 n1
          repeat (first | (refine run_off rfl rfl (by rfl) ?_; (try simp only [Act.put, List.setIfInBounds_toArray, List.set_cons_zero, List.set_cons_succ])) | (refine run_chain_off rfl rfl (by rfl) (K0_mono _) ?_; (try simp only [Act.put, List.setIfInBounds_toArray, List.set_cons_zero, List.set_cons_succ])) | ((refine run_want rfl rfl (by rfl) ⟨?_, fun W hW => ?_, ?_⟩; rotate_left; (· (have d0 := hW.keeps.cell id m0; have d1 := hW.keeps.cell id m1; have d2 := hW.keeps.cell id m2; have d3 := hW.keeps.cell id m3; have d4 := hW.keeps.cell id n0; have d5 := hW.keeps.cell id n1; go_simp; (try with_reducible rfl)))); (try simp only [Act.put, List.setIfInBounds_toArray, List.set_cons_zero, List.set_cons_succ])))
          clear m0 m1 m2 m3 n0 n1
          refine run_chain rfl rfl (by rfl) (fun Wi hWi K' hK => ?_)
          have HTi := Lib.hid (HT.out.trans hWi)
          have HZW := Lib.hid HTi.out.size
          clear hWi HT
          go_simp
          refine (times_any cn h.area _ HQF.out.1 HQF.out.2).mono ?_
          rintro e wn ⟨rfl, hSn⟩
          have HT := Lib.hid (HTi.out.trans (StepX.of hSn))
          clear HTi
          rw [← HQ.out.1]
          refine hK _ _ (StepX.of hSn) ?_
          clear hSn
          (try simp only [Act.put, List.setIfInBounds_toArray, List.set_cons_zero, List.set_cons_succ])
          (try clear m0 m1 m2 m3 n0 n1)
          obtain ⟨m0, m1, m2, m3⟩ := cells4 (HBM.out.step (HSA.out.trans HT.out))
          have n0 := (HGA.out.step HT.out).cell 0
          have n1 := (HGA.out.step HT.out).cell 1
          simp only [List.getElem?_cons_zero, List.getElem?_cons_succ] at n0 n1
          repeat (first | (refine run_off rfl rfl (by rfl) ?_; (try simp only [Act.put, List.setIfInBounds_toArray, List.set_cons_zero, List.set_cons_succ])) | (refine run_chain_off rfl rfl (by rfl) (K0_mono _) ?_; (try simp only [Act.put, List.setIfInBounds_toArray, List.set_cons_zero, List.set_cons_succ])) | ((refine run_want rfl rfl (by rfl) ⟨?_, fun W hW => ?_, ?_⟩; rotate_left; (· (have d0 := hW.keeps.cell id m0; have d1 := hW.keeps.cell id m1; have d2 := hW.keeps.cell id m2; have d3 := hW.keeps.cell id m3; have d4 := hW.keeps.cell id n0; have d5 := hW.keeps.cell id n1; go_simp; (try with_reducible rfl)))); (try simp only [Act.put, List.setIfInBounds_toArray, List.set_cons_zero, List.set_cons_succ])))
          clear m0 m1 m2 m3 n0 n1
          refine run_chain rfl rfl (by rfl) (fun Wi hWi K' hK => ?_)
          have HTi := Lib.hid (HT.out.trans hWi)
          clear hWi HT
          go_simp
          refine (weak_any F h.area q _ _ (HMV.out.step (HSA.out.trans HTi.out)) HSM.out HFL.out (HQ.out.2.mono (by decide))).mono ?_
          rintro e wn ⟨zx, zy, rfl, _, hzw, hSn⟩
          have HZW := Lib.hid hzw
          have HT := Lib.hid (HTi.out.trans hSn)
          refine hK _ _ (StepX.of hSn) ?_
          clear HTi hSn hK hzw
          (try simp only [Act.put, List.setIfInBounds_toArray, List.set_cons_zero, List.set_cons_succ])
          repeat (first | (refine run_off rfl rfl (by rfl) ?_; (try simp only [Act.put, List.setIfInBounds_toArray, List.set_cons_zero, List.set_cons_succ])) | (refine run_chain_off rfl rfl (by rfl) (K0_mono _) ?_; (try simp only [Act.put, List.setIfInBounds_toArray, List.set_cons_zero, List.set_cons_succ])) | ((refine run_want rfl rfl (by rfl) ⟨?_, fun W hW => ?_, ?_⟩; rotate_left; (· (skip; go_simp; (try with_reducible rfl)))); (try simp only [Act.put, List.setIfInBounds_toArray, List.set_cons_zero, List.set_cons_succ])))
          refine run_alloc rfl rfl (fun W5 g hW5 hg hgb hgN => ?_)
          (try simp only [Act.put, List.setIfInBounds_toArray, List.set_cons_zero, List.set_cons_succ])
          refine run_end (L := [_, _]) rfl (fun W6 hW6 => ?_)
          have hb6 := Bx.step (w := W5) (cs := [_, _]) hg hW6
          refine wpl_store (v := .agg #[.int .i64 zx, .int .i64 zy]) rfl _ _ _ rfl rfl rfl hb6 (by kernel_rfl) (by simp [Value.cells]) (by simp [Value.cells, Value.oneCell']) [.int .i64 zx, .int .i64 zy] rfl (fun w7 hb7 hw7 => ?_)
          have hg0 := HSZ0.out
          have HTx := Lib.hid (HSA.out.trans (Step.wrote ((HT.out.trans hW5).trans hW6) hw7 (by omega)))
          have HBG := Lib.hid hb7
          clear hW5 hg hgb hgN hW6 hb6 hb7 hw7 HT hg0 HSZ0
          cases hbl : balL F q with
          | true =>
            have HB2 := Lib.hid hbl
            clear hbl
            go_wp2
            go_roundw
            case rel => exact ⟨j + 1, by omega, by go_num, fun i' hi hl => HSO.out i' hi hl HB2.out, HTx.out⟩
            case measure => simp [intOf]; omega
          | false =>
            have hwp : weakP l t wind = ((k : Int), (j : Int)) := by rw [← HWK.out, HST.out, HNX.out hbl]
            have hzz := HZW.out hbl
            have HST2 := Lib.hid (show standB l t wind = true → False from fun hs => by have := weakP_iff.1.2 hs; rw [hwp] at this; simp at this; omega)
            have HTW := Lib.hid (show TooWeak l t wind k j zx zy from fun a b ha hb e1 e2 => by
              obtain rfl : k = a := by omega
              obtain rfl : j = b := by omega
              rw [← HH.out, ← HFE.out, ← HCJ.out, ← HQ.out.1]
              exact hzz)
            have HWP := Lib.hid hwp
            clear hwp hzz hbl
            have hbr := HB.out.step (HTl.out.trans HTx.out)
            have z0 := hbr.frozen 0
            have z1 := hbr.frozen 1
            have y0 := hbr.cell 0
            have y1 := hbr.cell 1
            have g0 := HBG.out.cell 0
            have g1 := HBG.out.cell 1
            simp only [List.getElem?_cons_zero, List.getElem?_cons_succ] at y0 y1 g0 g1
            have HBR := Lib.hid hbr
            have hlt1 := hbr.lt
            have hlt2 := HBG.out.lt
            clear hbr
            go_upto_region 10 with (fail)
            refine wp_region_seqM (fun c d v a w h => by cases d <;> exact h) (kdOf [] []) [0, 0, 0, 1, 11, 31] [0, 1, 2, 3, 4] [5] (by kernel_rfl) (by kernel_rfl) (fun i T z hi hk => by simp [kdOf] at hk <;> (try (split at hk <;> cases hk))) ?_
            intro Wx hWx
            have HX := Lib.hid hWx
            have g0 := hWx.keeps.cell id g0
            have g1 := hWx.keeps.cell id g1
            clear hWx y0 y1 z0 z1
            repeat (first | (refine run_off rfl rfl (by rfl) ?_; (try simp only [Act.put, List.setIfInBounds_toArray, List.set_cons_zero, List.set_cons_succ])) | (refine run_chain_off rfl rfl (by rfl) (K0_mono _) ?_; (try simp only [Act.put, List.setIfInBounds_toArray, List.set_cons_zero, List.set_cons_succ])) | ((refine run_want rfl rfl (by rfl) ⟨?_, fun W hW => ?_, ?_⟩; rotate_left; (· (have d0 := hW.keeps.cell id g0; have d1 := hW.keeps.cell id g1; go_simp; (try with_reducible rfl)))); (try simp only [Act.put, List.setIfInBounds_toArray, List.set_cons_zero, List.set_cons_succ])))
            refine run_end (L := [_]) rfl (fun W8 hW8 => ?_)
            have hb8 := (HBR.out.step HX.out).step hW8
            refine wpl_store (v := .agg #[.int .i64 zx, .int .i64 zy]) rfl _ _ _ rfl rfl rfl hb8 (by kernel_rfl) (by simp [Value.cells]) (by simp [Value.cells, Value.oneCell']) [.int .i64 zx, .int .i64 zy] rfl (fun w9 hb9 hw9 => ?_)
            have HB9 := Lib.hid hb9
            have HS9 := Lib.hid (Step.wrote ((HS.out.trans (HTl.out.trans HTx.out)).trans (HX.out.trans hW8)) hw9 (Nat.le_refl _))
            clear g0 g1 hb8 hb9 hw9 hW8 hlt1 hlt2
            go_wp2
            exact ret_ttc (k := 2) rfl siVec rfl HB9.out rfl rfl ⟨zx, zy, by rw [HWP.out]; rfl, fun hs => (HST2.out hs).elim, by rw [HWP.out]; exact HTW.out, HS9.out⟩
        · have HNN := Lib.hid (show weakFrom l wind (t.drop (k + 1)) (k + 1) = weakP l t wind by rw [← HWK.out, HST.out, weakK_no (fun i' hl => HALL.out i' (by omega) hl)])
          go_wp2
          go_roundw
          case rel => exact ⟨k + 1, by omega, by go_num, HNN.out, HTl.out.trans HT.out⟩
          case measure => simp [intOf]; omega
    · have hwp : weakP l t wind = (-1, -1) := by rw [← HWK.out, List.drop_of_length_le (by omega)]; rfl
      have HTW := Lib.hid (show TooWeak l t wind (-1) (-1) 0 0 from fun a b ha hb e1 e2 => by omega)
      have HWP := Lib.hid hwp
      have hbr := HB.out.step HT.out
      have z0 := hbr.frozen 0
      have z1 := hbr.frozen 1
      have y0 := hbr.cell 0
      have y1 := hbr.cell 1
      simp only [List.getElem?_cons_zero, List.getElem?_cons_succ] at y0 y1
      have HBR := Lib.hid hbr
      clear hbr hwp
      go_wp2
      have b2 := set2 HBR.out (.int .i64 0) (.int .i64 0)
      exact ret_ttc (k := 2) rfl siVec rfl b2.1 rfl rfl ⟨0, 0, by rw [HWP.out]; rfl, fun _ => ⟨rfl, rfl⟩, by rw [HWP.out]; exact HTW.out, StepX.fresh (HS.out.trans HT.out) b2.2 (fun j hj => by omega)⟩
end Go.Proofs.YtoanjaidfdkdpaaGreat
/- Walks: whether a list is a wind, by the document; the errors of a tent in a wind; the first head and corner that are too weak, of whatever is handed in, and by the document. -/
namespace Go.Proofs.YtoanjaidfdkdpaaGreat
set_option linter.unusedSimpArgs false
set_option linter.unusedVariables false
open Go.RowKit Go.BT

/-- The error of tests, a tent and a wind. -/
def blownC (l : List Tst) (t : List Head) (wind : List Vec) : Int := if readyC l t = 0 then (if windB wind = true then soundC l else 1) else readyC l t
theorem blown_ok {l : List Tst} {t : List Head} {wind : List Vec} (h : blownC l t wind = 0) : l.all tstB = true ∧ tentB t = true ∧ windB wind = true ∧ readyC l t = 0 := by
  unfold blownC at h
  split at h
  · rename_i h1
    obtain ⟨a, b⟩ := ready_ok h1
    split at h
    · rename_i h2; exact ⟨a, b, h2, h1⟩
    · simp at h
  · rename_i h1; exact absurd h h1
theorem wind_all {wind : List Vec} (h : windB wind = true) : wind.all cornerB = true ∧ 1 ≤ wind.length ∧ wind.length ≤ 12 := by
  unfold windB at h
  rw [Bool.and_eq_true] at h
  have := within_iff.1 h.1
  exact ⟨h.2, by omega, by omega⟩
theorem blown_any (S : Nat → Prop) (l : List Tst) (t : List Head) (wind : List Vec) (v u x : Value) (w : World) (hv : SL S w v l) (hu : SL S w u t) (hx : SL S w x wind) :
    Calls Tryz.prog 42 #[v, u, x] w fun e w' => e = .returned (.int .i64 (blownC l t wind)) ∧ Step w w' := by
  have HV := Lib.hid hv
  have HX := Lib.hid hx
  have hcall := Lib.hid (ready_any S l t v u w hv hu)
  obtain ⟨pv, cv, rfl⟩ := hv.form
  obtain ⟨pu, cu, rfl⟩ := hu.form
  obtain ⟨px, cx, rfl⟩ := hx.form
  clear hv hu hx
  go_enter Tryz.func42, Tryz.ntmps42
  go_wp2_with fail
  refine hcall.out.mono ?_
  rintro e w1 ⟨rfl, hS⟩
  have HS := Lib.hid hS
  obtain ⟨c, hc⟩ : ∃ c, c = readyC l t := ⟨_, rfl⟩
  rw [← hc]
  have HC := Lib.hid hc
  clear hcall hc hS
  by_cases h0 : c = 0
  · subst h0
    go_wp2_with fail
    refine (windy_any S wind _ _ (HX.out.keep (.of_step HS.out))).mono ?_
    rintro e w2 ⟨rfl, hS2⟩
    have HS2 := Lib.hid (HS.out.trans hS2)
    clear hS2
    cases q : windB wind with
    | false =>
      have HQ := Lib.hid (show blownC l t wind = 1 by unfold blownC; rw [if_pos HC.out.symm, q, if_neg (by decide)])
      clear q
      go_wp2
      go_ret
      exact ⟨by rw [HQ.out]; rfl, HS2.out⟩
    | true =>
      have HQ := Lib.hid (show blownC l t wind = soundC l by unfold blownC; rw [if_pos HC.out.symm, q, if_pos rfl])
      clear q
      go_wp2_with fail
      refine (sound_any S l _ _ (HV.out.keep (.of_step HS2.out)) (ready_ok HC.out.symm).1).mono ?_
      rintro e w3 ⟨rfl, hS3⟩
      go_wp2
      go_ret
      exact ⟨by rw [HQ.out]; rfl, HS2.out.trans hS3⟩
  · have hd : (c != 0) = true := by simpa using h0
    have HQ := Lib.hid (show blownC l t wind = c by unfold blownC; rw [← HC.out, if_neg h0])
    clear h0
    go_wp2
    go_ret
    exact ⟨by rw [HQ.out]; rfl, HS.out⟩
end Go.Proofs.YtoanjaidfdkdpaaGreat
/- Walks: the first head and corner that are too weak, with errors; by the document; whether a tent stands. -/
namespace Go.Proofs.YtoanjaidfdkdpaaGreat
set_option linter.unusedSimpArgs false
set_option linter.unusedVariables false
open Go.RowKit Go.BT

def weakR (l : List Tst) (t : List Head) (wind : List Vec) : Int × Int := if blownC l t wind = 0 then weakP l t wind else (0, 0)
set_option maxRecDepth 100000 in
set_option maxHeartbeats 8000000 in
theorem Weakest_any (S : Nat → Prop) (l : List Tst) (t : List Head) (wind : List Vec) (v u x : Value) (w : World) (hv : SL S w v l) (hu : SL S w u t) (hx : SL S w x wind) :
    Calls Tryz.prog 19 #[v, u, x] w fun e w' => ∃ a b : Int, e = .returned (.tuple #[.int .i64 (weakR l t wind).1, .int .i64 (weakR l t wind).2, .agg #[.int .i64 a, .int .i64 b], .int .i64 (blownC l t wind)]) ∧ (blownC l t wind ≠ 0 → a = 0 ∧ b = 0) ∧ (blownC l t wind = 0 → (standB l t wind = true → a = 0 ∧ b = 0) ∧ TooWeak l t wind (weakP l t wind).1 (weakP l t wind).2 a b) ∧ Step w w' := by
  obtain ⟨W0, hW0⟩ : ∃ W, W = w.alloc (.cells #[.int .i64 0, .int .i64 0] 70) := ⟨_, rfl⟩
  have hb : Bx W0 w.heap.size [.int .i64 0, .int .i64 0] 70 := by subst hW0; exact Bx.new w [_, _] _
  have hS : Step w W0 := by subst hW0; exact Step.alloc _ _
  have HV := Lib.hid (SL.go hv hS)
  have HU := Lib.hid (SL.go hu hS)
  have HX := Lib.hid (SL.go hx hS)
  have HB := Lib.hid hb
  have HS := Lib.hid hS
  have HW := Lib.hid hW0
  obtain ⟨pv, cv, rfl⟩ := hv.form
  obtain ⟨pu, cu, rfl⟩ := hu.form
  obtain ⟨px, cx, rfl⟩ := hx.form
  clear hb hS hW0 hv hu hx
  go_enter Tryz.func19, Tryz.ntmps19
  go_wp2_with fail
  rw [← HW.out]
  refine (blown_any (fun _ => False) l t wind _ _ _ _ HV.out HU.out HX.out).mono ?_
  rintro e w1 ⟨rfl, hS1⟩
  have HT := Lib.hid hS1
  obtain ⟨c, hc⟩ : ∃ c, c = blownC l t wind := ⟨_, rfl⟩
  rw [← hc]
  have HC := Lib.hid hc
  clear hS1
  by_cases h0 : c = 0
  rotate_left
  · have hd : (c != 0) = true := by simpa using h0
    have HR := Lib.hid (show weakR l t wind = (0, 0) by unfold weakR; rw [← hc, if_neg h0])
    have H0 := Lib.hid h0
    have hbr := HB.out.step HT.out
    have z0 := hbr.frozen 0
    have z1 := hbr.frozen 1
    have y0 := hbr.cell 0
    have y1 := hbr.cell 1
    simp only [List.getElem?_cons_zero, List.getElem?_cons_succ] at y0 y1
    have HBR := Lib.hid hbr
    clear hbr h0 hc
    go_wp2
    have b2 := set2 HBR.out (.int .i64 0) (.int .i64 0)
    exact ret_ttct (k := 2) rfl siVec rfl b2.1 rfl rfl ⟨0, 0, by rw [HR.out, ← HC.out]; rfl, fun _ => ⟨rfl, rfl⟩, fun h => (H0.out (HC.out.trans h)).elim, StepX.fresh (HS.out.trans HT.out) b2.2 (fun j hj => by omega)⟩
  subst h0
  obtain ⟨k1, k2, k3, k4⟩ := blown_ok hc.symm
  have HK := Lib.hid (And.intro k1 (And.intro (tent_parts k2).2 (wind_all k3).1))
  have HR := Lib.hid (show weakR l t wind = weakP l t wind by unfold weakR; rw [← hc, if_pos rfl])
  clear k1 k2 k3 k4 hc
  go_wp2_with fail
  refine (weakest_any (fun _ => False) l t wind _ _ _ _ (SL.go HV.out HT.out) (SL.go HU.out HT.out) (SL.go HX.out HT.out) HK.out.1 HK.out.2.1 HK.out.2.2).mono ?_
  rintro e w2 ⟨a, b, rfl, hst, htw, hS2⟩
  have HTW := Lib.hid (And.intro hst htw)
  have HT2 := Lib.hid (HT.out.trans hS2)
  clear hst htw hS2 HT
  have hbr := HB.out.step HT2.out
  have z0 := hbr.frozen 0
  have z1 := hbr.frozen 1
  have y0 := hbr.cell 0
  have y1 := hbr.cell 1
  have yl := hbr.lt
  simp only [List.getElem?_cons_zero, List.getElem?_cons_succ] at y0 y1
  have HBR := Lib.hid hbr
  clear hbr
  go_upto_region 5 with (fail)
  have b2 := set2 HBR.out (.int .i64 a) (.int .i64 b)
  have hS5 := StepX.fresh (HS.out.trans HT2.out) b2.2 (fun j hj => by omega)
  obtain ⟨W5, hW5⟩ : ∃ W, W = (w2.setCell ⟨w.heap.size, 0, none⟩ (.int .i64 a)).setCell ⟨w.heap.size, 1, none⟩ (.int .i64 b) := ⟨_, rfl⟩
  rw [← hW5] at b2 hS5 ⊢
  have HB5 := Lib.hid b2.1
  have HS5 := Lib.hid hS5
  clear b2 hS5 hW5 z0 z1 y0 y1 yl
  refine wp_region_seqM (fun c d v a w h => by cases d <;> exact h) (kdOf [] []) [0, 0, 0, 1, 11, 31, 63] [0, 1, 2, 3, 4] [5, 6] (by kernel_rfl) (by kernel_rfl) (fun i T z hi hk => by simp [kdOf] at hk <;> (try (split at hk <;> cases hk))) ?_
  intro Wx hWx
  have HXx := Lib.hid hWx
  have g0 := (HB5.out.step hWx).cell 0
  have g1 := (HB5.out.step hWx).cell 1
  simp only [List.getElem?_cons_zero, List.getElem?_cons_succ] at g0 g1
  clear hWx
  repeat (first | (refine run_off rfl rfl (by rfl) ?_; (try simp only [Act.put, List.setIfInBounds_toArray, List.set_cons_zero, List.set_cons_succ])) | (refine run_chain_off rfl rfl (by rfl) (K0_mono _) ?_; (try simp only [Act.put, List.setIfInBounds_toArray, List.set_cons_zero, List.set_cons_succ])) | ((refine run_want rfl rfl (by rfl) ⟨?_, fun W hW => ?_, ?_⟩; rotate_left; (· (have d0 := hW.keeps.cell id g0; have d1 := hW.keeps.cell id g1; go_simp; (try with_reducible rfl)))); (try simp only [Act.put, List.setIfInBounds_toArray, List.set_cons_zero, List.set_cons_succ])))
  refine run_end (L := [_, _]) rfl (fun W8 hW8 => ?_)
  have hb8 := (HB5.out.step HXx.out).step hW8
  refine wpl_store (v := .agg #[.int .i64 a, .int .i64 b]) rfl _ _ _ rfl rfl rfl hb8 (by kernel_rfl) (by simp [Value.cells]) (by simp [Value.cells, Value.oneCell']) [.int .i64 a, .int .i64 b] rfl (fun w9 hb9 hw9 => ?_)
  have HB9 := Lib.hid hb9
  have HS9 := Lib.hid (Step.wrote (HS5.out.trans (HXx.out.trans hW8)) hw9 (Nat.le_refl _))
  clear g0 g1 hb8 hb9 hw9 hW8
  go_wp2
  exact ret_ttct (k := 2) rfl siVec rfl HB9.out rfl rfl ⟨a, b, by rw [HR.out, ← HC.out]; rfl, fun h => (h HC.out.symm).elim, fun _ => HTW.out, HS9.out⟩
/-- The errors apart, and whether it stands. -/
def standsL (l : List Tst) (t : List Head) (wind : List Vec) : Bool := decide (blownC l t wind = 0) && standB l t wind
end Go.Proofs.YtoanjaidfdkdpaaGreat
/- Walks: the tent of a stage, the wind of a level, by the program. -/
namespace Go.Proofs.YtoanjaidfdkdpaaGreat
set_option linter.unusedSimpArgs false
set_option linter.unusedVariables false
open Go.RowKit Go.BT

theorem reef_take {t : List Head} {c : Int} {k : Nat} (hk : k < t.length) : reefL c (t.take (k + 1)) = reefL c (t.take k) ++ [reefH c t[k]] := by
  unfold reefL
  rw [List.take_succ_eq_append_getElem hk, List.map_append]; rfl
set_option maxRecDepth 100000 in
set_option maxHeartbeats 8000000 in
theorem reefed_any (x : Stg) (t : List Head) (v : Value) (w : World) (hv : SL (fun _ => False) w v t) (hc : 0 ≤ x.cover ∧ x.cover ≤ 100) (ht : tentB t = true) :
    Calls Tryz.prog 32 #[.agg #[.int .i64 x.cover, .int .i64 x.minutes], v] w fun e w' => ∃ v', e = .returned v' ∧ SL (Old w) w' v' (reefL x.cover t) ∧ Step w w' := by
  obtain ⟨xc, xm⟩ := x
  dsimp only at hc ⊢
  obtain ⟨W0, hW0⟩ : ∃ W, W = w.alloc (.cells #[.int .i64 xc, .int .i64 xm] 98) := ⟨_, rfl⟩
  have hbx : Bx W0 w.heap.size [.int .i64 xc, .int .i64 xm] 98 := by subst hW0; exact Bx.new w [_, _] _
  have hS : Step w W0 := by subst hW0; exact Step.alloc _ _
  obtain ⟨pv, cv, bv, ov, rfl, _, hm, hp, hcl, _⟩ := (SL.go hv hS).heads
  have hlen : t.length ≤ 12 ∧ t.all headB = true := by
    unfold tentB at ht; simp only [Bool.and_eq_true, withinB, decide_eq_true_eq] at ht; exact ⟨by omega, ht.2⟩
  have HW := Lib.hid hW0
  have HB := Lib.hid hbx
  have HS := Lib.hid hS
  have HC := Lib.hid (And.intro hc hlen)
  have HP := Lib.hid (And.intro hp hcl)
  clear hW0 hbx hS hv ht hp hcl hc hlen
  go_enter Tryz.func32, Tryz.ntmps32
  go_wp2
  rw [← HW.out]
  go_loopw [4, 9] (fun out i wr => ∃ k : Nat, k ≤ t.length ∧ i = .int .i64 k ∧ OwnL (Old W0) W0.heap.size 105 wr out (reefL xc (t.take k)) ∧ Below W0.heap.size W0 wr) (fun _ i _ => t.length - (intOf i).toNat)
  case atStart => exact ⟨0, Nat.zero_le _, rfl, OwnL.nil _ _ _ _, Below.refl _ _⟩
  case round =>
    obtain ⟨k, hk, rfl, hown, hBe⟩ := hrel
    have HO := Lib.hid hown
    have HBe := Lib.hid hBe
    have HT := Lib.hid (Step.of hBe)
    obtain ⟨LL, hLL⟩ : ∃ L, L = reefL xc (t.take k) := ⟨_, rfl⟩
    rw [← hLL] at hown HO
    have HLK := Lib.hid (show LL.length = k by rw [hLL]; simp [reefL]; omega)
    obtain ⟨po, co, rfl, _⟩ := hown.form
    by_cases hlt : k < t.length
    · obtain rfl := HP.out.1 (by omega)
      obtain ⟨c2, e0, e1, e2, e3⟩ := HP.out.2 k hlt
      obtain ⟨pg, cg, rfl⟩ := e3.form
      have e0 := HT.out.keeps.cell id e0
      have e1 := HT.out.keeps.cell id e1
      have e2 := HT.out.keeps.cell id e2
      have HSL := Lib.hid (SL.go e3 HT.out)
      have hix : (0 : Int) ≤ (k : Int) ∧ (k : Int) < (t.length : Int) := by omega
      have HR := Lib.hid (show reefL xc (t.take (k + 1)) = LL ++ [reefH xc t[k]] by rw [reef_take hlt, hLL])
      have hhb := head_parts (all_get HC.out.2.2 hlt)
      obtain ⟨h, hh⟩ : ∃ h, h = t[k] := ⟨_, rfl⟩
      rw [← hh] at e0 e1 e2 HSL HR hhb
      have hmul := Int.mul_nonneg hhb.1.1 HC.out.1.1
      have hmul2 := Int.mul_le_mul hhb.1.2 HC.out.1.2 HC.out.1.1 (by decide)
      have hw1 : IntKind.i64.wrap (h.area * xc) = h.area * xc := by rw [IntKind.wrap_i64]; omega
      have hw2 : IntKind.i64.wrap (h.area * xc + 99) = h.area * xc + 99 := by rw [IntKind.wrap_i64]; omega
      have hw3 : IntKind.i64.wrap ((h.area * xc + 99).tdiv 100) = reefA h.area xc := by
        rw [Int.tdiv_eq_ediv_of_nonneg (by omega), IntKind.wrap_i64]; unfold reefA; omega
      have hg := hhb.2.2.1
      have f0 := (HB.out.step HT.out).cell 0
      have f1 := (HB.out.step HT.out).cell 1
      have fl := (HB.out.step HT.out).lt
      simp only [List.getElem?_cons_zero, List.getElem?_cons_succ] at f0 f1
      clear hown hBe hLL hh hhb hmul hmul2 e3
      go_upto_region 5 with (fail)
      obtain ⟨W2, hW2⟩ : ∃ W, W = wr.alloc (.cells #[.int .i64 (reefA h.area xc), .int .i64 h.bears, .slice pg h.guys.length cg] 105) := ⟨_, rfl⟩
      rw [← hW2]
      have hb2 : Bx W2 wr.heap.size [.int .i64 (reefA h.area xc), .int .i64 h.bears, .slice pg h.guys.length cg] 105 := by
        rw [hW2]
        exact Bx.new wr [_, _, _] _
      have hs2 : Step wr W2 := by rw [hW2]; exact Step.alloc _ _
      have HB2 := Lib.hid hb2
      have HS2 := Lib.hid hs2
      clear hW2 hb2 hs2 hw1 hw2 hw3 e0 e1 e2 f0 f1 fl
      have y0 := HB2.out.cell 0
      have y1 := HB2.out.cell 1
      have y2 := HB2.out.cell 2
      have yl := HB2.out.lt
      simp only [List.getElem?_cons_zero, List.getElem?_cons_succ] at y0 y1 y2
      have HG := Lib.hid hg
      clear hg
      go_wp2_with fail
      refine (clone_guys (fun _ => False) h.guys _ _ (SL.go HSL.out HS2.out) (by have := HG.out; omega)).mono ?_
      rintro e w3 ⟨v3, rfl, hown3, hS3⟩
      have hb3 := HB2.out.step hS3
      have HO3 := Lib.hid hown3
      have HS3 := Lib.hid (HS2.out.trans hS3)
      have HB3 := Lib.hid hb3
      clear y0 y1 y2 yl
      have y0 := hb3.cell 0
      have y1 := hb3.cell 1
      have y2 := hb3.cell 2
      have z2 := hb3.frozen 2
      have yl := hb3.lt
      simp only [List.getElem?_cons_zero, List.getElem?_cons_succ] at y0 y1 y2
      obtain ⟨p3, c3, rfl, _⟩ := hown3.form
      clear hb3 hown3 hS3
      go_upto_region 6 with (fail)
      clear y0 y1 y2 z2
      obtain ⟨W4, hW4⟩ : ∃ W, W = w3.setCell ⟨wr.heap.size, 2, none⟩ (.slice p3 h.guys.length c3) := ⟨_, rfl⟩
      rw [← hW4]
      have hwr4 : Wrote wr.heap.size w3 W4 := by rw [hW4]; exact .setCell _ _ _ _
      have hb4 : Bx W4 wr.heap.size [.int .i64 (reefA h.area xc), .int .i64 h.bears, .slice p3 h.guys.length c3] 105 := by rw [hW4]; exact HB3.out.setCell 2 _
      have hs4 : Step wr W4 := Step.wrote HS3.out hwr4 (Nat.le_refl _)
      have hg4 := (ownL_flat (fun j => j = wr.heap.size ∨ avoid (Old W0) (.slice po LL.length co) j) HO3.out).wrote hwr4 (.inl rfl) (fun e => by have := (HO3.out.lt _ e).1; have := HB2.out.lt; omega)
      have hgs := hg4.slb (fun g e h => by
        have h1 := (HO3.out.lt _ e).1
        have h2 := HB2.out.lt
        rcases h with h | h | h
        · omega
        · have := HT.out.size; unfold Old at h; omega
        · have := (HO.out.lt _ h).2; omega)
      have HGS := Lib.hid (hgs.weak (T := avoid (Old W0) (.slice po LL.length co)) fun j _ h => .inr h)
      have y0 := hb4.cell 0
      have y1 := hb4.cell 1
      have y2 := hb4.cell 2
      have yl4 := hb4.lt
      simp only [List.getElem?_cons_zero, List.getElem?_cons_succ] at y0 y1 y2
      have hown4 := (HO.out.step hs4).alloc (.cells #[.int .i64 (reefA h.area xc), .int .i64 h.bears, .slice p3 h.guys.length c3] 105)
      have hBl := (HBe.out.step (Nat.le_refl _) hs4).step (Nat.le_refl _) (Step.alloc W4 (.cells #[.int .i64 (reefA h.area xc), .int .i64 h.bears, .slice p3 h.guys.length c3] 105))
      have hbz := hBl.size
      have HBl := Lib.hid hBl
      have HLL := Lib.hid (show LL.length ≤ 12 by have := HC.out.2.1; have := HLK.out; omega)
      have hl1 := HLL.out
      have hu := SLe.one (S := avoid (Old W0) (.slice po LL.length co)) (w := W4) (cs := [.int .i64 (reefA h.area xc), .int .i64 h.bears, .slice p3 h.guys.length c3]) (x := reefH xc h) 105 ⟨_, rfl, HGS.out⟩
      clear hW4 hwr4 hb4 hs4 hg4 hgs hBl yl
      go_wp2_with (at_builtin; refine wpl_append (α := Head) (S := Old W0) (base := W0.heap.size) (v := .slice po LL.length co) (l := LL) (m := [reefH xc h]) eiHeads rfl _ _ rfl rfl rfl hown4 hu (LL.length + 1) (by simp) _ rfl (by simp only [maxLen]; omega) (by omega) hbz ?_)
      intro p5 c5 w5 hown5 hg5
      have HF := Lib.hid (And.intro hown5 (HBl.out.grown hg5 hbz (fun j hj => (hown4.lt j hj).1)))
      clear hown4 hu hown5 hg5 hbz hl1 y0 y1 y2 yl4
      go_wp2
      go_roundw
      case rel => exact ⟨k + 1, by omega, by go_num, by rw [HR.out]; exact HF.out.1, HF.out.2⟩
      case measure => simp [intOf]; omega
    · have hke : k = t.length := by omega
      subst hke
      rw [List.take_length] at hLL
      have HF := Lib.hid (show SL (Old w) wr (.slice po LL.length co) (reefL xc t) by
        rw [← hLL]
        exact (HO.out.sl (S := Old W0) fun g h1 _ h2 => by unfold Old at h2; omega).weak fun j _ h => by have := HS.out.size; unfold Old at h ⊢; omega)
      clear hown hBe hLL
      go_wp2
      go_ret
      exact ⟨_, rfl, HF.out, HS.out.trans HT.out⟩
end Go.Proofs.YtoanjaidfdkdpaaGreat
/- Walks: the first pair of tests that clash, and the least depth that holds a force, by the program. -/
namespace Go.Proofs.YtoanjaidfdkdpaaGreat
set_option linter.unusedSimpArgs false
set_option linter.unusedVariables false
open Go.RowKit Go.BT

attribute [local go_sem] field_range
def clashI (l : List Tst) : Int := idxOf (fun x => l.any (againstB x)) l
def clashJ (l : List Tst) : Int := if clashI l < 0 then -1 else match l[(clashI l).toNat]? with
  | some x => idxOf (againstB x) l
  | none => -1
theorem clash_at {l : List Tst} {k : Nat} (hk : k < l.length) (h : ∀ j (hj : j < k) (hl : j < l.length), l.any (againstB l[j]) = false) (hp : l.any (againstB l[k]) = true) : clashI l = k ∧ clashJ l = idxOf (againstB l[k]) l := by
  have h1 : clashI l = k := idxOf_at (p := fun x => l.any (againstB x)) hk (fun j hj => h j hj (by omega)) hp
  refine ⟨h1, ?_⟩
  unfold clashJ
  rw [h1, if_neg (by omega), Int.toNat_natCast, List.getElem?_eq_getElem hk]
theorem clash_no {l : List Tst} (h : ∀ j (hl : j < l.length), l.any (againstB l[j]) = false) : clashI l = -1 ∧ clashJ l = -1 := by
  have h1 : clashI l = -1 := idxOf_none (p := fun x => l.any (againstB x)) fun j hj => h j hj
  refine ⟨h1, ?_⟩
  unfold clashJ
  rw [h1, if_pos (by decide)]
theorem clash_pair (S : Nat → Prop) (l : List Tst) (v : Value) (w : World) (hv : SL S w v l) (hl : l.all tstB = true) :
    Calls Tryz.prog 54 #[v] w fun e w' => e = .returned (.tuple #[.int .i64 (clashI l), .int .i64 (clashJ l)]) ∧ Step w w' := by
  have hm := hv.len
  have hv0 := hv
  obtain ⟨pv, cv, b, o, rfl, _, _, hp, hc, _⟩ := hv.tsts
  have HP := Lib.hid (And.intro hp hc)
  have HL := Lib.hid hl
  have HV := Lib.hid hv0
  have HT0 := Lib.hid (Step.refl w)
  clear hp hc hl hv hv0
  go_enter Tryz.func54, Tryz.ntmps54
  go_wp2
  go_loopw [9] (fun i wr => ∃ k : Nat, k ≤ l.length ∧ i = .int .i64 k ∧ (∀ j (hj : j < k) (hl : j < l.length), l.any (againstB l[j]) = false) ∧ Step w wr) (fun i _ => l.length - (intOf i).toNat)
  case atStart => exact ⟨0, Nat.zero_le _, rfl, fun j hj => absurd hj (by omega), HT0.out⟩
  case round =>
    obtain ⟨k, hk, rfl, hno, hT⟩ := hrel
    have HN := Lib.hid hno
    have HT := Lib.hid hT
    clear hno hT
    by_cases hlt : k < l.length
    · obtain rfl := HP.out.1 (by omega)
      obtain ⟨e1, e2, e3, e4⟩ := HP.out.2 k hlt
      have e1 := HT.out.keeps.cell id e1
      have e2 := HT.out.keeps.cell id e2
      have e3 := HT.out.keeps.cell id e3
      have e4 := HT.out.keeps.cell id e4
      have hix : (0 : Int) ≤ (k : Int) ∧ (k : Int) < (l.length : Int) := by omega
      have hcall := Lib.hid (indexAgainst_any S l[k] l _ (wr.alloc (.cells #[.int .i64 l[k].soil, .int .i64 l[k].depth, .int .i64 l[k].force, .bool l[k].held] 102)) (HV.out.keep (.of_step (HT.out.trans (Step.alloc _ _)))) (all_get HL.out hlt) HL.out)
      go_wp2_with fail
      refine hcall.out.mono ?_
      rintro e w' ⟨rfl, hS⟩
      have hge := idxOf_ge (againstB l[k]) l
      have HS := Lib.hid ((Step.alloc _ _).trans hS)
      clear hcall e1 e2 e3 e4 hS
      cases hq : l.any (againstB l[k]) with
      | true =>
        rw [hq] at hge
        have HQ := Lib.hid (clash_at hlt HN.out hq)
        clear hq
        go_wp2
        go_ret2
        exact ⟨by rw [HQ.out.1, HQ.out.2]; rfl, HT.out.trans HS.out⟩
      | false =>
        rw [hq] at hge
        have HQ := Lib.hid hq
        clear hq
        go_wp2
        go_roundw
        case rel => exact ⟨k + 1, by omega, by go_num, fun j hj hl => if h : j = k then by subst h; exact HQ.out else HN.out j (by omega) hl, HT.out.trans HS.out⟩
        case measure => simp [intOf]; omega
    · have HQ := Lib.hid (clash_no (l := l) fun j hj => HN.out j (by omega) hj)
      go_wp2
      go_ret2
      exact ⟨by rw [HQ.out.1, HQ.out.2]; rfl, HT.out⟩
def clashC (l : List Tst) : Int := if testsC l = 0 then (if clashI l < 0 then 7 else 0) else testsC l
def clashA (l : List Tst) : Int × Int := if clashC l = 0 then (clashI l, clashJ l) else (0, 0)
theorem ClashP_any (S : Nat → Prop) (l : List Tst) (v : Value) (w : World) (hv : SL S w v l) :
    Calls Tryz.prog 30 #[v] w fun e w' => e = .returned (.tuple #[.int .i64 (clashA l).1, .int .i64 (clashA l).2, .int .i64 (clashC l)]) ∧ Step w w' := by
  have HV := Lib.hid hv
  have hcall := Lib.hid (CheckTests_any S l v w hv)
  obtain ⟨pv, cv, rfl⟩ := hv.form
  clear hv
  go_enter Tryz.func30, Tryz.ntmps30
  go_wp2_with fail
  refine hcall.out.mono ?_
  rintro e w1 ⟨rfl, hS⟩
  have HS := Lib.hid hS
  obtain ⟨c, hc⟩ : ∃ c, c = testsC l := ⟨_, rfl⟩
  rw [← hc]
  have HC := Lib.hid hc
  clear hcall hc hS
  by_cases h0 : c = 0
  rotate_left
  · have hd : (c != 0) = true := by simpa using h0
    have HR := Lib.hid (show clashC l = c by unfold clashC; rw [← HC.out, if_neg h0])
    have HR2 := Lib.hid (show clashA l = (0, 0) by unfold clashA; rw [HR.out, if_neg h0])
    clear h0
    go_wp2
    go_ret3
    exact ⟨by rw [HR.out, HR2.out]; rfl, HS.out⟩
  subst h0
  go_wp2_with fail
  refine (clash_pair S l _ _ (HV.out.keep (.of_step HS.out)) (tests_ok HC.out.symm)).mono ?_
  rintro e w2 ⟨rfl, hS2⟩
  have HS2 := Lib.hid (HS.out.trans hS2)
  obtain ⟨i, hi⟩ : ∃ c, c = clashI l := ⟨_, rfl⟩
  obtain ⟨j, hj⟩ : ∃ c, c = clashJ l := ⟨_, rfl⟩
  rw [← hi, ← hj]
  have HI := Lib.hid (And.intro hi hj)
  clear hS2 hi hj
  by_cases h0 : i < 0
  · have HR := Lib.hid (show clashC l = 7 by unfold clashC; rw [← HC.out, if_pos rfl, ← HI.out.1, if_pos h0])
    have HR2 := Lib.hid (show clashA l = (0, 0) by unfold clashA; rw [HR.out, if_neg (by decide)])
    have hd : decide (i < 0) = true := by simpa using h0
    clear h0
    go_wp2
    go_ret3
    exact ⟨by rw [HR.out, HR2.out]; rfl, HS2.out⟩
  · have HR := Lib.hid (show clashC l = 0 by unfold clashC; rw [← HC.out, if_pos rfl, ← HI.out.1, if_neg h0])
    have HR2 := Lib.hid (show clashA l = (i, j) by unfold clashA; rw [HR.out, if_pos rfl, ← HI.out.1, ← HI.out.2])
    have hd : decide (i < 0) = false := by simpa using h0
    clear h0
    go_wp2
    go_ret3
    exact ⟨by rw [HR.out, HR2.out]; rfl, HS2.out⟩
/-- The least depth, and whether there is none. -/
def deepF (l : List Tst) (s f : Int) : Option Nat := (List.range 3000).find? fun d => decide (f ≤ (holdsL l s (d + 1)).lo)
def deepL (l : List Tst) (s f : Int) : Int × Int := match deepF l s f with
  | some d => ((d : Int) + 1, 0)
  | none => (0, 7)
theorem deep_some {l : List Tst} {s f : Int} {k : Nat} (hk : k < 3000) (h : ∀ j : Nat, j < k → (holdsL l s (j + 1)).lo < f) (hp : f ≤ (holdsL l s (k + 1)).lo) : deepL l s f = ((k : Int) + 1, 0) := by
  have : deepF l s f = some k := by
    unfold deepF
    rw [List.find?_range_eq_some]
    exact ⟨by simpa using hp, by simpa using hk, fun j hj => by simpa using h j hj⟩
  unfold deepL; rw [this]
theorem deep_none {l : List Tst} {s f : Int} (h : ∀ j : Nat, j < 3000 → (holdsL l s (j + 1)).lo < f) : deepL l s f = (0, 7) := by
  have : deepF l s f = none := by
    unfold deepF
    rw [List.find?_eq_none]
    intro x hx
    simpa using h x (by simpa using hx)
  unfold deepL; rw [this]
end Go.Proofs.YtoanjaidfdkdpaaGreat
/- Walks: the wind of a level, and the limit of a stage, by the program. -/
namespace Go.BT
theorem standN_is {l : List Tst} {t : List Head} {base : List Vec} : ∀ (lv : List Lvl) (k : Nat), k ≤ lv.length → (∀ j (_ : j < k) (hl : j < lv.length), standB l t (blowL base lv[j].push) = true) → (∀ (hl : k < lv.length), standB l t (blowL base lv[k].push) = false) → standN l t base lv = k
  | [], k, hk, _, _ => by simp at hk; subst hk; rfl
  | x :: r, 0, hk, _, h2 => by
    have := h2 (by simp)
    unfold standN
    rw [if_neg]
    simp only [List.getElem_cons_zero] at this
    rw [this]; decide
  | x :: r, k + 1, hk, h1, h2 => by
    have h0 := h1 0 (by omega) (by simp)
    simp only [List.getElem_cons_zero] at h0
    unfold standN
    rw [if_pos h0, standN_is r k (by simpa using hk) (fun j hj hl => h1 (j + 1) (by omega) (by simpa using hl)) (fun hl => h2 (by simpa using hl))]
theorem blow_wind {s : Site} (hs : SiteOk s) {k : Nat} (hk : k < s.levels.length) : windB (blowL s.base s.levels[k].push) = true := by
  have h1 := hs.base
  have h2 := (hs.lev k hk).2
  unfold windB blowL
  rw [Bool.and_eq_true, List.length_map]
  refine ⟨by simp only [withinB, Bool.and_eq_true, decide_eq_true_eq]; omega, ?_⟩
  rw [List.all_map, List.all_eq_true]
  intro v hv
  have h3 := List.all_eq_true.1 hs.corners v hv
  simp only [baseB, withinB, Bool.and_eq_true, decide_eq_true_eq] at h3
  have a1 : -10000 ≤ s.levels[k].push * v.x ∧ s.levels[k].push * v.x ≤ 10000 := by
    have b1 := Int.mul_le_mul_of_nonneg_left h3.1.2 h2.1
    have b2 := Int.mul_le_mul_of_nonneg_left h3.1.1 h2.1
    omega
  have a2 : -10000 ≤ s.levels[k].push * v.y ∧ s.levels[k].push * v.y ≤ 10000 := by
    have b1 := Int.mul_le_mul_of_nonneg_left h3.2.2 h2.1
    have b2 := Int.mul_le_mul_of_nonneg_left h3.2.1 h2.1
    omega
  simp only [Function.comp_apply, cornerB, withinB, Bool.and_eq_true, decide_eq_true_eq, timesV]
  omega
theorem reef_tent {t : List Head} {c : Int} (h0 : 0 ≤ c ∧ c ≤ 100) (ht : tentB t = true) : tentB (reefL c t) = true := by
  unfold tentB at ht ⊢
  simp only [Bool.and_eq_true] at ht ⊢
  refine ⟨by simpa [reefL] using ht.1, ?_⟩
  unfold reefL
  rw [List.all_map, List.all_eq_true]
  intro h hh
  have h1 := List.all_eq_true.1 ht.2 h hh
  show headB (reefH c h) = true
  unfold headB at h1 ⊢
  simp only [Bool.and_eq_true] at h1 ⊢
  have ha := h1.1.1.1
  simp only [withinB, Bool.and_eq_true, decide_eq_true_eq] at ha
  have b1 := Int.mul_nonneg ha.1 h0.1
  have b2 := Int.mul_le_mul ha.2 h0.2 h0.1 (by decide)
  refine ⟨⟨⟨?_, h1.1.1.2⟩, h1.1.2⟩, h1.2⟩
  have hr : 0 ≤ reefA h.area c ∧ reefA h.area c ≤ 1000 := by unfold reefA; omega
  simp [withinB, reefH, hr.1, hr.2]
end Go.BT
namespace Go.Proofs.YtoanjaidfdkdpaaGreat
set_option linter.unusedSimpArgs false
set_option linter.unusedVariables false
open Go.RowKit Go.BT

theorem blow_take {base : List Vec} {p : Int} {k : Nat} (hk : k < base.length) : blowL (base.take (k + 1)) p = blowL (base.take k) p ++ [timesV base[k] p] := by
  unfold blowL
  rw [List.take_succ_eq_append_getElem hk, List.map_append]; rfl
set_option maxRecDepth 100000 in
set_option maxHeartbeats 8000000 in
theorem wind_any (s : Site) (x : Lvl) (u : Value) (w : World) (hu : AV (fun _ => False) w u s) (hb : s.base.all baseB = true) (hx : 0 ≤ x.push ∧ x.push ≤ 100) (hn : s.base.length ≤ 12) :
    Calls Tryz.prog 55 #[u, .agg #[.int .i64 x.upto, .int .i64 x.push]] w fun e w' => ∃ v', e = .returned v' ∧ SL (Old w) w' v' (blowL s.base x.push) ∧ Step w w' := by
  obtain ⟨xa, xp⟩ := x
  dsimp only at hx ⊢
  obtain ⟨c0, c1, c2, rfl, h0, h1, h2⟩ := hu.site
  obtain ⟨p1, k1, rfl⟩ := h1.form
  obtain ⟨p2, k2, rfl⟩ := h2.form
  obtain ⟨p0, k0, rfl⟩ := h0.form
  obtain ⟨W0, hW0⟩ : ∃ W, W = (w.alloc (.cells #[.slice p0 s.base.length k0, .slice p1 s.levels.length k1, .slice p2 s.stages.length k2, .int .i64 s.openS] 51)).alloc (.cells #[.int .i64 xa, .int .i64 xp] 109) := ⟨_, rfl⟩
  have hbx : Bx W0 w.heap.size [.slice p0 s.base.length k0, .slice p1 s.levels.length k1, .slice p2 s.stages.length k2, .int .i64 s.openS] 51 := by subst hW0; exact (Bx.new w [_, _, _, _] _).step (Step.alloc _ _)
  have hbl : Bx W0 (w.heap.size + 1) [.int .i64 xa, .int .i64 xp] 109 := by subst hW0; exact Bx.new' _ [_, _] _ _ (by simp)
  have hS : Step w W0 := by subst hW0; exact (by repeat (first | (with_reducible assumption) | (with_reducible exact Step.refl _) | (with_reducible apply Step.s_alloc) | (with_reducible apply Step.s_drew) | (with_reducible apply Step.s_drewN) | (with_reducible refine Step.trans ?_ (by with_reducible assumption))))
  obtain ⟨q, d, bv, ov, he, _, hm, hp, hcl, _⟩ := (SL.go h0 hS).vecs
  injection he with he1 _ he3
  subst he1 he3
  have HW := Lib.hid hW0
  have HB := Lib.hid hbx
  have HBL := Lib.hid hbl
  have HS := Lib.hid hS
  have HC := Lib.hid (And.intro hb (And.intro hx hn))
  have HP := Lib.hid (And.intro hp hcl)
  have b0 := hbx.cell 0
  simp only [List.getElem?_cons_zero] at b0
  clear hW0 hbx hbl hS hu h0 h1 h2 hb hx hp hcl
  go_enter Tryz.func55, Tryz.ntmps55
  go_upto_region 2 with (fail)
  rw [← HW.out]
  clear b0 hn
  go_loopw [4, 10] (fun out i wr => ∃ k : Nat, k ≤ s.base.length ∧ i = .int .i64 k ∧ OwnL (Old W0) W0.heap.size 70 wr out (blowL (s.base.take k) xp) ∧ Below W0.heap.size W0 wr) (fun _ i _ => s.base.length - (intOf i).toNat)
  case atStart => exact ⟨0, Nat.zero_le _, rfl, OwnL.nil _ _ _ _, Below.refl _ _⟩
  case round =>
    obtain ⟨k, hk, rfl, hown, hBe⟩ := hrel
    have HO := Lib.hid hown
    have HBe := Lib.hid hBe
    obtain ⟨LL, hLL⟩ : ∃ L, L = blowL (s.base.take k) xp := ⟨_, rfl⟩
    rw [← hLL] at hown HO
    have HLK := Lib.hid (show LL.length = k by rw [hLL]; simp [blowL]; omega)
    obtain ⟨po, co, rfl, _⟩ := hown.form
    have HT := Lib.hid (Step.of hBe)
    by_cases hlt : k < s.base.length
    · obtain rfl := HP.out.1 (by omega)
      obtain ⟨e0, e1⟩ := HP.out.2 k hlt
      have e0 := HT.out.keeps.cell id e0
      have e1 := HT.out.keeps.cell id e1
      have hix : (0 : Int) ≤ (k : Int) ∧ (k : Int) < (s.base.length : Int) := by omega
      have HR := Lib.hid (show blowL (s.base.take (k + 1)) xp = LL ++ [timesV s.base[k] xp] by rw [blow_take hlt, hLL])
      have hc := all_get HC.out.1 hlt
      simp only [baseB, withinB, Bool.and_eq_true, decide_eq_true_eq] at hc
      obtain ⟨v, hv⟩ : ∃ v, v = s.base[k] := ⟨_, rfl⟩
      rw [← hv] at e0 e1 HR hc
      obtain ⟨va, vb⟩ := v
      dsimp only at e0 e1 hc
      have hxp := HC.out.2.1
      have m1 := Int.mul_le_mul_of_nonneg_left hc.1.2 hxp.1
      have m2 := Int.mul_le_mul_of_nonneg_left hc.1.1 hxp.1
      have m3 := Int.mul_le_mul_of_nonneg_left hc.2.2 hxp.1
      have m4 := Int.mul_le_mul_of_nonneg_left hc.2.1 hxp.1
      have c1 : va * xp = xp * va := Int.mul_comm _ _
      have c2 : vb * xp = xp * vb := Int.mul_comm _ _
      have hw1 : IntKind.i64.wrap (va * xp) = xp * va := by rw [c1, IntKind.wrap_i64]; omega
      have hw2 : IntKind.i64.wrap (vb * xp) = xp * vb := by rw [c2, IntKind.wrap_i64]; omega
      have l0 := (HBL.out.step HT.out).cell 0
      have l1 := (HBL.out.step HT.out).cell 1
      have ll := (HBL.out.step HT.out).lt
      simp only [List.getElem?_cons_zero, List.getElem?_cons_succ] at l0 l1
      have hBl0 := (HBe.out.step (Nat.le_refl _) (Step.alloc wr (.cells #[.int .i64 va, .int .i64 vb] 70))).step (Nat.le_refl _) (Step.alloc _ (.cells #[.int .i64 (xp * va), .int .i64 (xp * vb)] 70))
      have hown4 := (HO.out.alloc (.cells #[.int .i64 va, .int .i64 vb] 70)).alloc (.cells #[.int .i64 (xp * va), .int .i64 (xp * vb)] 70)
      have hu := SLe.one (S := avoid (Old W0) (.slice po LL.length co)) (w := wr.alloc (.cells #[.int .i64 va, .int .i64 vb] 70)) (cs := [.int .i64 (xp * va), .int .i64 (xp * vb)]) (x := timesV ⟨va, vb⟩ xp) 70 rfl
      rw [World.size_alloc] at hu
      have hbz := hBl0.size
      have HBl := Lib.hid hBl0
      have hl1 : LL.length ≤ 12 := by have := HC.out.2.2; have := HLK.out; omega
      clear hown hBe hLL hc hv m1 m2 m3 m4 c1 c2 hBl0 hxp
      go_wp2_with (at_builtin; refine wpl_append (α := Vec) (S := Old W0) (base := W0.heap.size) (v := .slice po LL.length co) (l := LL) (m := [timesV ⟨va, vb⟩ xp]) eiVecs rfl _ _ rfl rfl rfl hown4 hu (LL.length + 1) (by simp) _ rfl (by simp only [maxLen]; omega) (by omega) hbz ?_)
      intro p5 c5 w5 hown5 hg5
      have HF := Lib.hid (And.intro hown5 (HBl.out.grown hg5 hbz (fun j hj => (hown4.lt j hj).1)))
      clear hown4 hu hown5 hg5 hbz hl1 e0 e1 l0 l1 ll hw1 hw2
      go_wp2
      go_roundw
      case rel => exact ⟨k + 1, by omega, by go_num, by rw [HR.out]; exact HF.out.1, HF.out.2⟩
      case measure => simp [intOf]; omega
    · have hke : k = s.base.length := by omega
      subst hke
      rw [List.take_length] at hLL
      have HF := Lib.hid (show SL (Old w) wr (.slice po LL.length co) (blowL s.base xp) by
        rw [← hLL]
        exact (HO.out.sl (S := Old W0) fun g h1 _ h2 => by unfold Old at h2; omega).weak fun j _ h => by have := HS.out.size; unfold Old at h ⊢; omega)
      clear hown hBe hLL
      go_wp2
      go_ret
      exact ⟨_, rfl, HF.out, HS.out.trans HT.out⟩
end Go.Proofs.YtoanjaidfdkdpaaGreat
/- Walks: the document's wind at a level, and the law's copies of ranges and readings. -/
namespace Go.Proofs.YtoanjaidfdkdpaaGreat
set_option linter.unusedSimpArgs false
set_option linter.unusedVariables false
open Go.RowKit Go.BT

theorem siGRange : SI Tryz.prog 89 2 := ⟨⟨_, Tryz.underlying89⟩, by kernel_rfl⟩
theorem infoGReading : (Tryz.prog.info? 115).map (fun i => (i.zero, i.size, i.bytes)) = some (some (.agg #[.int .i64 0, .int .i64 0, .int .i64 0]), 3, 24) := by kernel_rfl
theorem eiGReadings : EI Tryz.prog 56 115 (.agg #[.int .i64 0, .int .i64 0, .int .i64 0]) 3 24 := .mk' Tryz.underlying56 infoGReading rfl
theorem Range_any (a b : Int) (w : World) :
    Calls Tryz.prog 34 #[.agg #[.int .i64 a, .int .i64 b]] w fun e w' => e = .returned (.agg #[.int .i64 a, .int .i64 b]) ∧ Step w w' := by
  go_enter Tryz.func34, Tryz.ntmps34
  go_wp2
  exact ret_struct (k := 2) rfl siGRange rfl (Bx.new' _ [.int .i64 a, .int .i64 b] _ _ (by simp)) rfl rfl ⟨rfl, (by repeat (first | (with_reducible assumption) | (with_reducible exact Step.refl _) | (with_reducible apply Step.s_alloc) | (with_reducible apply Step.s_drew) | (with_reducible apply Step.s_drewN) | (with_reducible refine Step.trans ?_ (by with_reducible assumption))))⟩


set_option maxRecDepth 100000 in
set_option maxHeartbeats 8000000 in
theorem Readings_any (S : Nat → Prop) (l : List Rdg) (v : Value) (w : World) (hv : SL S w v l) (hl : l.length ≤ 1000) :
    Calls Tryz.prog 16 #[v] w fun e w' => ∃ v', e = .returned v' ∧ SL (Old w) w' v' l ∧ Step w w' := by
  obtain ⟨pv, cv, b, o, rfl, _, hm, hp, hc, _⟩ := hv.rdgs
  have HP := Lib.hid (And.intro hp hc)
  clear hp hc hv
  go_enter Tryz.func16, Tryz.ntmps16
  go_wp2
  go_loopw [3, 4] (fun out i wr => ∃ k : Nat, k ≤ l.length ∧ i = .int .i64 k ∧ OwnL (Old w) w.heap.size 115 wr out (l.take k) ∧ Below w.heap.size w wr) (fun _ i _ => l.length - (intOf i).toNat)
  case atStart => exact ⟨0, Nat.zero_le _, rfl, OwnL.nil _ _ _ _, Below.refl _ _⟩
  case round =>
    obtain ⟨k, hk, rfl, hown, hB⟩ := hrel
    have HTB := Lib.hid (Step.of hB)
    have HO := Lib.hid hown
    have HB := Lib.hid hB
    obtain ⟨LL, hLL⟩ : ∃ L, L = l.take k := ⟨_, rfl⟩
    rw [← hLL] at hown
    obtain ⟨pu, cu, rfl, _⟩ := hown.form
    have HLL := Lib.hid hLL
    clear hown hB hLL
    by_cases hlt : k < l.length
    · obtain rfl := HP.out.1 (by omega)
      obtain ⟨e1, e2, e3⟩ := HP.out.2 k hlt
      have e1 := HTB.out.keeps.cell id e1
      have e2 := HTB.out.keeps.cell id e2
      have e3 := HTB.out.keeps.cell id e3
      have hix : (0 : Int) ≤ (k : Int) ∧ (k : Int) < (l.length : Int) := by omega
      have HE := Lib.hid (And.intro e1 (And.intro e2 e3))
      go_upto_region 5 with (fail)
      clear e1 e2 e3
      refine wp_region_seq (kdOf [11, 13] []) [0, 0, 0, 6, 14, 30, 0, 0, 192, 448, 960, 1984, 4094, 8190, 16383, 32767] [0, 1, 2, 3, 4, 5, 6, 7, 8, 9, 10, 11, 12, 13] [14, 15] (by kernel_rfl) (by kernel_rfl) (fun i T z hi hk => by simp [kdOf] at hk <;> (try (split at hk <;> cases hk))) ?_
      intro Wx hWx
      have HT := Lib.hid ((Step.refl wr).trans hWx)
      clear hWx
      have e1 := HT.out.keeps.cell id HE.out.1
      have e2 := HT.out.keeps.cell id HE.out.2.1
      have e3 := HT.out.keeps.cell id HE.out.2.2
      repeat (first | (refine run_off rfl rfl (by rfl) ?_; (try simp only [Act.put, List.setIfInBounds_toArray, List.set_cons_zero, List.set_cons_succ])) | (refine run_chain_off rfl rfl (by rfl) (K0_mono _) ?_; (try simp only [Act.put, List.setIfInBounds_toArray, List.set_cons_zero, List.set_cons_succ])) | ((refine run_want rfl rfl (by rfl) ⟨?_, fun W hW => ?_, ?_⟩; rotate_left; (· (have d0 := hW.keeps.cell id e1; have d1 := hW.keeps.cell id e2; have d2 := hW.keeps.cell id e3; go_simp; (try with_reducible rfl)))); (try simp only [Act.put, List.setIfInBounds_toArray, List.set_cons_zero, List.set_cons_succ])))
      clear e1 e2 e3
      refine run_chain rfl rfl (by rfl) (fun Wi hWi K' hK => ?_)
      have HTi := Lib.hid (HT.out.trans hWi)
      have HZW := Lib.hid HTi.out.size
      clear hWi HT
      go_simp
      refine (Range_any _ _ _).mono ?_
      rintro e wn ⟨rfl, hSn⟩
      have HT := Lib.hid (HTi.out.trans (StepX.of hSn))
      clear HTi
      refine hK _ _ (StepX.of hSn) ?_
      clear hSn
      (try simp only [Act.put, List.setIfInBounds_toArray, List.set_cons_zero, List.set_cons_succ])
      have e1 := HT.out.keeps.cell id HE.out.1
      have e2 := HT.out.keeps.cell id HE.out.2.1
      have e3 := HT.out.keeps.cell id HE.out.2.2
      repeat (first | (refine run_off rfl rfl (by rfl) ?_; (try simp only [Act.put, List.setIfInBounds_toArray, List.set_cons_zero, List.set_cons_succ])) | (refine run_chain_off rfl rfl (by rfl) (K0_mono _) ?_; (try simp only [Act.put, List.setIfInBounds_toArray, List.set_cons_zero, List.set_cons_succ])) | ((refine run_want rfl rfl (by rfl) ⟨?_, fun W hW => ?_, ?_⟩; rotate_left; (· (have d0 := hW.keeps.cell id e1; have d1 := hW.keeps.cell id e2; have d2 := hW.keeps.cell id e3; go_simp; (try with_reducible rfl)))); (try simp only [Act.put, List.setIfInBounds_toArray, List.set_cons_zero, List.set_cons_succ])))
      clear e1 e2 e3
      refine run_chain rfl rfl (by rfl) (fun W1 hW1 K' hK' => ?_)
      go_simp
      refine hK' _ _ (.of (Step.alloc _ _)) ?_
      (try simp only [Act.put, List.setIfInBounds_toArray, List.set_cons_zero, List.set_cons_succ])
      refine run_end (L := [_, _]) rfl (fun W2 hW2 => ?_)
      have hST := HT.out.trans hW1
      have hown2 := ((HO.out.step hST).alloc (.cells #[.int .i64 l[k].hour, .int .i64 l[k].lo, .int .i64 l[k].hi] 115)).step hW2
      have hu := (SLe.one (S := avoid (Old w) (.slice pu LL.length cu)) (w := W1) (cs := [.int .i64 l[k].hour, .int .i64 l[k].lo, .int .i64 l[k].hi]) (x := l[k]) 115 rfl).step hW2
      have hB2 := ((HB.out.step (Nat.le_refl _) hST).step (Nat.le_refl _) (Step.alloc _ (.cells #[.int .i64 l[k].hour, .int .i64 l[k].lo, .int .i64 l[k].hi] 115))).step (Nat.le_refl _) hW2
      clear hW1 hW2 hK' hST
      go_wp2_with (at_builtin; refine wpl_append1 (l := l) (k := k) eiGReadings rfl _ _ rfl rfl rfl hown2 hlt (by omega) (by decide) hu hB2 (Nat.le_refl _) ?_)
      intro p' c' w2 hown3 hB3 _
      have H3 := Lib.hid (And.intro hown3 hB3)
      clear hown2 hu hB2 hown3 hB3
      go_wp2
      go_roundw
      case rel => exact ⟨k + 1, by omega, by go_num, H3.out.1, H3.out.2⟩
      case measure => simp [intOf]; omega
    · have HN := Lib.hid (show LL = l by rw [HLL.out, List.take_of_length_le (by omega)])
      go_wp2
      go_ret
      refine ⟨_, rfl, ?_, HTB.out⟩
      have h := HO.out.fresh
      rw [← HLL.out, HN.out] at h
      rw [HN.out]; exact h
set_option maxRecDepth 100000 in
set_option maxHeartbeats 8000000 in
theorem RWindS_any (s : Site) (n : Nat) (hn : n < s.levels.length) (u : Value) (w : World) (hu : AV (fun _ => False) w u s) (hb : s.base.all baseB = true) (hx : 0 ≤ s.levels[n].push ∧ s.levels[n].push ≤ 100) (hl : s.base.length ≤ 12) :
    Calls Tryz.prog 21 #[u, .int .i64 n] w fun e w' => ∃ v', e = .returned v' ∧ SL (Old w) w' v' (blowL s.base s.levels[n].push) ∧ Step w w' := by
  obtain ⟨c0, c1, c2, rfl, h0, h1, h2⟩ := hu.site
  obtain ⟨p2, k2, rfl⟩ := h2.form
  obtain ⟨W0, hW0⟩ : ∃ W, W = w.alloc (.cells #[c0, c1, .slice p2 s.stages.length k2, .int .i64 s.openS] 29) := ⟨_, rfl⟩
  have hS : Step w W0 := by subst hW0; exact Step.alloc _ _
  obtain ⟨q, d, bv, ov, rfl, _, hm, hp, hcl, _⟩ := (SL.go h0 hS).vecs
  obtain ⟨q1, d1, b1, o1, rfl, _, hm1, hp1, hcl1, _⟩ := (SL.go h1 hS).lvls
  have hbx : Bx W0 w.heap.size [.slice q s.base.length d, .slice q1 s.levels.length d1, .slice p2 s.stages.length k2, .int .i64 s.openS] 29 := by subst hW0; exact Bx.new w [_, _, _, _] _
  have HW := Lib.hid hW0
  have HBX := Lib.hid hbx
  have HS := Lib.hid hS
  have HC := Lib.hid (And.intro hb hx)
  have HP := Lib.hid (And.intro hp hcl)
  obtain rfl := hp1 (by omega)
  have HL := Lib.hid (hcl1 n hn).2
  have hnx : (0 : Int) ≤ (n : Int) ∧ (n : Int) < (s.levels.length : Int) := by omega
  have b0 := hbx.cell 0
  simp only [List.getElem?_cons_zero] at b0
  obtain ⟨xp, hxp⟩ : ∃ x, x = s.levels[n].push := ⟨_, rfl⟩
  rw [← hxp] at HC HL
  rw [← hxp]
  clear hW0 hbx hS hu h0 h1 h2 hb hx hp hcl hp1 hcl1 hxp
  go_enter Tryz.func21, Tryz.ntmps21
  go_upto_region 3 with (fail)
  rw [← HW.out]
  clear b0
  go_loopw [5, 6] (fun out i wr => ∃ k : Nat, k ≤ s.base.length ∧ i = .int .i64 k ∧ OwnL (Old w) W0.heap.size 82 wr out ((blowL s.base xp).take k) ∧ Below W0.heap.size W0 wr) (fun _ i _ => s.base.length - (intOf i).toNat)
  case atStart => exact ⟨0, Nat.zero_le _, rfl, OwnL.nil _ _ _ _, Below.refl _ _⟩
  case round =>
    obtain ⟨k, hk, rfl, hown, hB⟩ := hrel
    have HTB := Lib.hid (Step.of hB)
    have HO := Lib.hid hown
    have HB := Lib.hid hB
    obtain ⟨LL, hLL⟩ : ∃ L, L = (blowL s.base xp).take k := ⟨_, rfl⟩
    rw [← hLL] at hown
    obtain ⟨pu, cu, rfl, _⟩ := hown.form
    have HLL := Lib.hid hLL
    clear hown hB hLL
    have b0 := (HBX.out.step HTB.out).cell 0
    simp only [List.getElem?_cons_zero] at b0
    by_cases hlt : k < s.base.length
    · obtain rfl := HP.out.1 (by omega)
      obtain ⟨e1, e2⟩ := HP.out.2 k hlt
      have e1 := HTB.out.keeps.cell id e1
      have e2 := HTB.out.keeps.cell id e2
      have b1 := (HBX.out.step HTB.out).cell 1
      simp only [List.getElem?_cons_zero, List.getElem?_cons_succ] at b1
      have hix : (0 : Int) ≤ (k : Int) ∧ (k : Int) < (s.base.length : Int) := by omega
      have hc := all_get HC.out.1 hlt
      simp only [baseB, withinB, Bool.and_eq_true, decide_eq_true_eq] at hc
      have hblt : k < (blowL s.base xp).length := by simp [blowL]; exact hlt
      have HX := Lib.hid (show (blowL s.base xp)[k] = timesV s.base[k] xp by simp [blowL])
      obtain ⟨v, hv⟩ : ∃ v, v = s.base[k] := ⟨_, rfl⟩
      rw [← hv] at e1 e2 HX hc
      obtain ⟨va, vb⟩ := v
      dsimp only at e1 e2 hc
      have hxp := HC.out.2
      have m1 := Int.mul_le_mul_of_nonneg_left hc.1.2 hxp.1
      have m2 := Int.mul_le_mul_of_nonneg_left hc.1.1 hxp.1
      have m3 := Int.mul_le_mul_of_nonneg_left hc.2.2 hxp.1
      have m4 := Int.mul_le_mul_of_nonneg_left hc.2.1 hxp.1
      have hf := Lib.hid (And.intro (show fits (xp * va) by unfold fits; omega) (show fits (xp * vb) by unfold fits; omega))
      have HBL := Lib.hid (show (blowL s.base xp).length ≤ 12 by simp [blowL]; exact hl)
      have HE := Lib.hid (And.intro e1 (And.intro e2 (And.intro (HTB.out.keeps.cell id HL.out) (And.intro b0 b1))))
      clear hc m1 m2 m3 m4 hv hxp
      go_upto_region 5 with (fail)
      clear e1 e2 b0 b1
      refine wp_region_seq (kdOf [12, 13] []) [0, 0, 2, 0, 14, 30, 0, 64, 0, 448, 960, 1984, 4094, 8190, 16383, 32767] [0, 1, 2, 3, 4, 5, 6, 7, 8, 9, 10, 11, 12, 13] [14, 15] (by kernel_rfl) (by kernel_rfl) (fun i T z hi hk => by simp [kdOf] at hk <;> (try (split at hk <;> cases hk))) ?_
      intro Wx hWx
      have HT := Lib.hid ((Step.refl wr).trans hWx)
      clear hWx
      have e1 := HT.out.keeps.cell id HE.out.1
      have e2 := HT.out.keeps.cell id HE.out.2.1
      have e3 := HT.out.keeps.cell id HE.out.2.2.1
      have e4 := HT.out.keeps.cell id HE.out.2.2.2.1
      have e5 := HT.out.keeps.cell id HE.out.2.2.2.2
      repeat (first | (refine run_off rfl rfl (by rfl) ?_; (try simp only [Act.put, List.setIfInBounds_toArray, List.set_cons_zero, List.set_cons_succ])) | (refine run_chain_off rfl rfl (by rfl) (K0_mono _) ?_; (try simp only [Act.put, List.setIfInBounds_toArray, List.set_cons_zero, List.set_cons_succ])) | ((refine run_want rfl rfl (by rfl) ⟨?_, fun W hW => ?_, ?_⟩; rotate_left; (· (have d0 := hW.keeps.cell id e1; have d1 := hW.keeps.cell id e2; have d2 := hW.keeps.cell id e3; have d3 := hW.keeps.cell id e4; have d4 := hW.keeps.cell id e5; go_simp; (try with_reducible rfl)))); (try simp only [Act.put, List.setIfInBounds_toArray, List.set_cons_zero, List.set_cons_succ])))
      clear e1 e2 e3 e4 e5
      refine run_chain rfl rfl (by rfl) (fun Wi hWi K' hK => ?_)
      have HTi := Lib.hid (HT.out.trans hWi)
      have HZW := Lib.hid HTi.out.size
      clear hWi HT
      go_simp
      refine (Times_any ⟨va, vb⟩ xp _ hf.out.1 hf.out.2).mono ?_
      rintro e wn ⟨rfl, hSn⟩
      have HT := Lib.hid (HTi.out.trans (StepX.of hSn))
      clear HTi
      refine hK _ _ (StepX.of hSn) ?_
      clear hSn
      (try simp only [Act.put, List.setIfInBounds_toArray, List.set_cons_zero, List.set_cons_succ])
      have hlt := hblt
      have hl := HBL.out
      clear HC HE
      refine run_chain rfl rfl (by rfl) (fun W1 hW1 K' hK' => ?_)
      go_simp
      refine hK' _ _ (.of (Step.alloc _ _)) ?_
      (try simp only [Act.put, List.setIfInBounds_toArray, List.set_cons_zero, List.set_cons_succ])
      refine run_end (L := [_, _]) rfl (fun W2 hW2 => ?_)
      have hST := HT.out.trans hW1
      have hown2 := ((HO.out.step hST).alloc (.cells #[.int .i64 (timesV ⟨va, vb⟩ xp).x, .int .i64 (timesV ⟨va, vb⟩ xp).y] 82)).step hW2
      have hu := (SLe.one (S := avoid (Old w) (.slice pu LL.length cu)) (w := W1) (cs := [.int .i64 (timesV ⟨va, vb⟩ xp).x, .int .i64 (timesV ⟨va, vb⟩ xp).y]) (x := (blowL s.base xp)[k]) 82 (by rw [HX.out]; rfl)).step hW2
      have hB2 := ((HB.out.step (Nat.le_refl _) hST).step (Nat.le_refl _) (Step.alloc _ (.cells #[.int .i64 (timesV ⟨va, vb⟩ xp).x, .int .i64 (timesV ⟨va, vb⟩ xp).y] 82))).step (Nat.le_refl _) hW2
      clear hW1 hW2 hK' hST
      go_wp2_with (at_builtin; refine wpl_append1 (l := (blowL s.base xp)) (k := k) eiRVecs rfl _ _ rfl rfl rfl hown2 hlt (by omega) (by decide) hu hB2 (Nat.le_refl _) ?_)
      intro p' c' w2 hown3 hB3 _
      have H3 := Lib.hid (And.intro hown3 hB3)
      clear hown2 hu hB2 hown3 hB3
      go_wp2
      go_roundw
      case rel => exact ⟨k + 1, by omega, by go_num, H3.out.1, H3.out.2⟩
      case measure => simp [intOf]; omega
    · have HN := Lib.hid (show LL = blowL s.base xp by rw [HLL.out, List.take_of_length_le (by simp [blowL]; omega)])
      have HF := Lib.hid (show SL (Old w) wr (.slice pu LL.length cu) (blowL s.base xp) by
        have h := HO.out.sl (S := Old w) fun g h1 _ h2 => by have := HS.out.size; unfold Old at h2; omega
        rw [← HLL.out, HN.out] at h
        rw [HN.out]; exact h)
      go_wp2
      go_ret
      exact ⟨_, rfl, HF.out, HS.out.trans HTB.out⟩
end Go.Proofs.YtoanjaidfdkdpaaGreat
/- Walks: the law's copy of forecasts. -/
namespace Go.Proofs.YtoanjaidfdkdpaaGreat
set_option linter.unusedSimpArgs false
set_option linter.unusedVariables false
open Go.RowKit Go.BT

theorem infoFcG : (Tryz.prog.info? 92).map (fun i => (i.zero, i.size, i.bytes)) = some (some (.agg #[.string ⟨#[]⟩, .slice none 0 0]), 2, 40) := by kernel_rfl
theorem eiFcs : EI Tryz.prog 54 92 (.agg #[.string ⟨#[]⟩, .slice none 0 0]) 2 40 := .mk' Tryz.underlying54 infoFcG rfl
theorem infoRngG : (Tryz.prog.info? 89).map (fun i => (i.zero, i.size, i.bytes)) = some (some (.agg #[.int .i64 0, .int .i64 0]), 2, 16) := by kernel_rfl
theorem eiRngs : EI Tryz.prog 90 89 (.agg #[.int .i64 0, .int .i64 0]) 2 16 := .mk' Tryz.underlying90 infoRngG rfl

set_option maxRecDepth 100000 in
set_option maxHeartbeats 8000000 in
theorem Forecasts_any (S : Nat → Prop) (l : List Fc) (v : Value) (w : World) (hv : SL S w v l) (hl : l.length ≤ 1000) (hh : ∀ i (h : i < l.length), l[i].hours.length ≤ 1000) :
    Calls Tryz.prog 15 #[v] w fun e w' => ∃ v', e = .returned v' ∧ SL (Old w) w' v' l ∧ Step w w' := by
  obtain ⟨pv, cv, b, o, rfl, _, hm, hp, hc, _⟩ := hv.fcs
  have HP := Lib.hid (And.intro hp hc)
  have HN := Lib.hid hh
  clear hp hc hv hh
  go_enter Tryz.func15, Tryz.ntmps15
  go_wp2
  go_loopw [3, 4] (fun out i wr => ∃ k : Nat, k ≤ l.length ∧ i = .int .i64 k ∧ OwnL (Old w) w.heap.size 92 wr out (l.take k) ∧ Below w.heap.size w wr) (fun _ i _ => l.length - (intOf i).toNat)
  case atStart => exact ⟨0, Nat.zero_le _, rfl, OwnL.nil _ _ _ _, Below.refl _ _⟩
  case round =>
    obtain ⟨k, hk, rfl, hown, hB⟩ := hrel
    obtain ⟨LO, hLO⟩ : ∃ L, L = l.take k := ⟨_, rfl⟩
    rw [← hLO] at hown
    obtain ⟨po, co, rfl, _⟩ := hown.form
    have HO := Lib.hid hown
    have HB := Lib.hid hB
    have HTB := Lib.hid (Step.of hB)
    have HLO := Lib.hid hLO
    have HL := Lib.hid (show LO.length = k by rw [hLO, List.length_take]; omega)
    clear hown hB hLO
    by_cases hlt : k < l.length
    · obtain rfl := HP.out.1 (by omega)
      obtain ⟨c2, e1, e3, e4, _⟩ := HP.out.2 k hlt
      have e1 := HTB.out.keeps.cell id e1
      have hix : (0 : Int) ≤ (k : Int) ∧ (k : Int) < (l.length : Int) := by omega
      have hg10 := HN.out k hlt
      obtain ⟨h, hh⟩ : ∃ h, h = l[k] := ⟨_, rfl⟩
      rw [← hh] at e1 e4 hg10
      have HH := Lib.hid hh
      have HSZ := Lib.hid (show h.name.size ≤ 9223372036854775807 by
        obtain ⟨_, _, _, _, hz⟩ := HP.out.2 k hlt
        rw [hh]; exact hz)
      obtain ⟨pg, cg, bg, og, rfl, _, _, hpg, hcg, _⟩ := e4.rngs
      have HG := Lib.hid (And.intro hpg hcg)
      have e3 := HTB.out.keeps.cell id e3
      have HE3 := Lib.hid e3
      clear hh e4 hpg hcg
      obtain ⟨wo, hwo⟩ : ∃ W, W = wr := ⟨_, rfl⟩
      subst hwo
      obtain ⟨W3, hW3⟩ : ∃ W, W = wo.alloc (.cells #[.string h.name, .slice none 0 0] 92) := ⟨_, rfl⟩
      have HB7 := Lib.hid (show Bx W3 wo.heap.size [.string h.name, .slice none 0 0] 92 by subst hW3; exact Bx.new wo [_, _] _)
      have HS7 := Lib.hid (show Step wo W3 by subst hW3; exact Step.alloc _ _)
      have HW3 := Lib.hid hW3
      clear hW3
      go_upto_region 6 with (fail)
      rw [← HW3.out]
      obtain ⟨g, hg⟩ : ∃ g, g = wo.heap.size := ⟨_, rfl⟩
      rw [← hg] at HB7 ⊢
      have HGB := Lib.hid hg
      clear hg e1 e3
      go_upto_region 7 with (fail)
      go_loopw [6] (fun i wr => ∃ (j : Nat) (q : Value), j ≤ h.hours.length ∧ i = .int .i64 j ∧ Bx wr g [.string h.name, q] 92 ∧ OwnL (fun _ => False) W3.heap.size 89 wr q (h.hours.take j) ∧ StepX (fun x => x = g) W3 wr) (fun i _ => h.hours.length - (intOf i).toNat)
      case atStart => exact ⟨0, _, Nat.zero_le _, rfl, HB7.out, OwnL.nil _ _ _ _, StepX.refl _ _⟩
      case round =>
        obtain ⟨j, q, hj, rfl, hbj, hoj, hX⟩ := hrel
        have HBJ := Lib.hid hbj
        have HOJ := Lib.hid hoj
        have HX := Lib.hid hX
        obtain ⟨LL, hLL⟩ : ∃ L, L = h.hours.take j := ⟨_, rfl⟩
        rw [← hLL] at hoj
        obtain ⟨pq, cq, rfl, _⟩ := hoj.form
        have HGL := Lib.hid HB7.out.lt
        have HNE := Lib.hid (show (Value.slice pq LL.length cq).ownBlock ≠ some g from fun e => by have := (hoj.lt _ e).1; have := HGL.out; omega)
        have HLL := Lib.hid hLL
        clear hbj hoj hX hLL
        have hcell : ∀ b o u, wo.cell? ⟨b, o, none⟩ = some u → wr.cell? ⟨b, o, none⟩ = some u := fun b o u hu => HX.out.keeps.cell (a := ⟨b, o, none⟩) (by have := World.block_lt_of_cell? wo _ hu; have := HGB.out; show ¬ b = g; dsimp only at *; omega) (HS7.out.keeps.cell id hu)
        have e3 := hcell _ _ _ HE3.out
        have yl := HBJ.out.lt
        have m0 := HBJ.out.cell 0
        have m1 := HBJ.out.cell 1
        simp only [List.getElem?_cons_zero, List.getElem?_cons_succ] at m0 m1
        by_cases hltj : j < h.hours.length
        · obtain rfl := HG.out.1 (by omega)
          obtain ⟨g1, g2⟩ := HG.out.2 j hltj
          have g1 := hcell _ _ _ (HTB.out.keeps.cell id g1)
          have g2 := hcell _ _ _ (HTB.out.keeps.cell id g2)
          have hjx : (0 : Int) ≤ (j : Int) ∧ (j : Int) < (h.hours.length : Int) := by omega
          obtain ⟨y, hy⟩ : ∃ y, y = h.hours[j] := ⟨_, rfl⟩
          rw [← hy] at g1 g2
          have HY := Lib.hid hy
          have HE := Lib.hid (And.intro e3 (And.intro g1 (And.intro g2 m1)))
          clear hcell hy
          go_upto_region 9 with (fail)
          clear e3 g1 g2 m0 m1 yl
          refine wp_region_seq (kdOf [10, 11] []) [0, 1, 0, 0, 12, 28, 60, 0, 252, 508, 1020, 2044, 4095, 8191, 16383] [0, 1, 2, 3, 4, 5, 6, 7, 8, 9, 10, 11] [12, 13, 14] (by kernel_rfl) (by kernel_rfl) (fun i T z hi hk => by simp [kdOf] at hk <;> (try (split at hk <;> cases hk))) ?_
          intro Wx hWx
          have HT := Lib.hid ((Step.refl wr).trans hWx)
          clear hWx
          have e3 := HT.out.keeps.cell id HE.out.1
          have g1 := HT.out.keeps.cell id HE.out.2.1
          have g2 := HT.out.keeps.cell id HE.out.2.2.1
          have m1 := HT.out.keeps.cell id HE.out.2.2.2
          repeat (first | (refine run_off rfl rfl (by rfl) ?_; (try simp only [Act.put, List.setIfInBounds_toArray, List.set_cons_zero, List.set_cons_succ])) | (refine run_chain_off rfl rfl (by rfl) (K0_mono _) ?_; (try simp only [Act.put, List.setIfInBounds_toArray, List.set_cons_zero, List.set_cons_succ])) | ((refine run_want rfl rfl (by rfl) ⟨?_, fun W hW => ?_, ?_⟩; rotate_left; (· (have d0 := hW.keeps.cell id e3; have d1 := hW.keeps.cell id g1; have d2 := hW.keeps.cell id g2; have d3 := hW.keeps.cell id m1; go_simp; (try with_reducible rfl)))); (try simp only [Act.put, List.setIfInBounds_toArray, List.set_cons_zero, List.set_cons_succ])))
          clear e3 g1 g2 m1
          refine run_chain rfl rfl (by rfl) (fun Wi hWi K' hK => ?_)
          have HTi := Lib.hid (HT.out.trans hWi)
          have HZW := Lib.hid HTi.out.size
          clear hWi HT
          go_simp
          refine (Range_any _ _ _).mono ?_
          rintro e wn ⟨rfl, hSn⟩
          have HT := Lib.hid (HTi.out.trans (StepX.of hSn))
          clear HTi
          refine hK _ _ (StepX.of hSn) ?_
          clear hSn
          (try simp only [Act.put, List.setIfInBounds_toArray, List.set_cons_zero, List.set_cons_succ])
          have e3 := HT.out.keeps.cell id HE.out.1
          have g1 := HT.out.keeps.cell id HE.out.2.1
          have g2 := HT.out.keeps.cell id HE.out.2.2.1
          have m1 := HT.out.keeps.cell id HE.out.2.2.2
          repeat (first | (refine run_off rfl rfl (by rfl) ?_; (try simp only [Act.put, List.setIfInBounds_toArray, List.set_cons_zero, List.set_cons_succ])) | (refine run_chain_off rfl rfl (by rfl) (K0_mono _) ?_; (try simp only [Act.put, List.setIfInBounds_toArray, List.set_cons_zero, List.set_cons_succ])) | ((refine run_want rfl rfl (by rfl) ⟨?_, fun W hW => ?_, ?_⟩; rotate_left; (· (have d0 := hW.keeps.cell id e3; have d1 := hW.keeps.cell id g1; have d2 := hW.keeps.cell id g2; have d3 := hW.keeps.cell id m1; go_simp; (try with_reducible rfl)))); (try simp only [Act.put, List.setIfInBounds_toArray, List.set_cons_zero, List.set_cons_succ])))
          clear e3 g1 g2 m1
          refine run_chain rfl rfl (by rfl) (fun W1 hW1 K' hK' => ?_)
          go_simp
          refine hK' _ _ (.of (Step.alloc _ _)) ?_
          (try simp only [Act.put, List.setIfInBounds_toArray, List.set_cons_zero, List.set_cons_succ])
          refine run_end (L := [_, _, _]) rfl (fun W2 hW2 => ?_)
          have hST := HT.out.trans hW1
          have hown2 := ((HOJ.out.step hST).alloc (.cells #[.int .i64 y.lo, .int .i64 y.hi] 89)).step hW2
          have hu := (SLe.one (S := avoid (fun _ => False) (.slice pq LL.length cq)) (w := W1) (cs := [.int .i64 y.lo, .int .i64 y.hi]) (x := y) 89 rfl).step hW2
          rw [show [y] = [h.hours[j]] by rw [HY.out]] at hu
          have b3 := ((HBJ.out.step hST).alloc (.cells #[.int .i64 y.lo, .int .i64 y.hi] 89)).step hW2
          have hX2 := ((HX.out.trans (.of hST)).alloc' (.cells #[.int .i64 y.lo, .int .i64 y.hi] 89)).trans (.of hW2)
          clear hW1 hW2 hK' hST
          go_wp2_with (at_builtin; refine wpl_append1 (W0 := W2) (l := h.hours) (k := j) eiRngs rfl _ _ rfl rfl rfl hown2 hltj (by omega) (by decide) hu (Below.refl _ _) hX2.size ?_)
          intro p' c' w3 hown3 _ hg
          have b4 := b3.keep (S := fun j => (Value.slice pq LL.length cq).ownBlock = some j) (.grown hg fun j hj _ => hj) HNE.out
          have m0 := b4.cell 0
          have m1 := b4.cell 1
          simp only [List.getElem?_cons_zero, List.getElem?_cons_succ] at m0 m1
          have z1 := b4.frozen 1
          have yl := b4.lt
          have hX3 : StepX (fun x => x = g) W3 w3 := hX2.over (X := fun j => (Value.slice pq LL.length cq).ownBlock = some j) (.grown hg fun j hj _ => hj) fun j hj => .inl (HOJ.out.lt j hj).1
          have hn3 : (Value.slice p' (j + 1) c').ownBlock ≠ some g := fun e => by have := (hown3.lt _ e).1; have := HGL.out; omega
          have H3 := Lib.hid (And.intro hown3 (And.intro b4 (And.intro hX3 hn3)))
          clear hown2 hu b3 hX2 hown3 hg b4 hX3 hn3
          go_wp2
          go_roundw
          case rel => exact ⟨j + 1, _, by omega, by go_num, H3.out.2.1.setCell 1 _, ownL_flat _ ((ownL_flat (fun j => j = g) H3.out.1).wrote (.setCell _ _ _ _) rfl H3.out.2.2.2), H3.out.2.2.1.setCell ⟨g, 1, none⟩ _ rfl⟩
          case measure => simp [intOf]; omega
        · have HN2 := Lib.hid (show LL = h.hours by rw [HLL.out, List.take_of_length_le (by omega)])
          have hst := StepX.fresh HS7.out HX.out (fun j hj => by have := HGB.out; omega)
          have ho2 := HO.out.step hst
          have hB2 := HB.out.step (Nat.le_refl _) hst
          have hog := HOJ.out
          rw [← HLL.out, HN2.out] at hog
          rw [HN2.out] at m1
          have hrep : Rep.rep (avoid (Old w) (.slice po LO.length co)) wr [.string h.name, .slice pq h.hours.length cq] h := ⟨_, rfl, (ownL_flat (avoid (Old w) (.slice po LO.length co)) hog).sl fun g' h1 h2 ha => by
            have h3 := HS7.out.size
            rcases ha with ha | ha
            · have h4 := HB.out.size
              unfold Old at ha; omega
            · have h5 := (HO.out.lt g' ha).2
              omega, HSZ.out⟩
          have hu := SLe.one (S := avoid (Old w) (.slice po LO.length co)) (w := wr) 92 hrep
          have ho3 := ho2.alloc (.cells #[.string h.name, .slice pq h.hours.length cq] 92)
          have hB3 := hB2.step (Nat.le_refl _) (Step.alloc wr (.cells #[.string h.name, .slice pq h.hours.length cq] 92))
          have hbz : w.heap.size ≤ (wr.alloc (.cells #[.string h.name, .slice pq h.hours.length cq] 92)).heap.size := by have := hB2.size; simp; omega
          clear hst ho2 hB2 hog hcell hrep
          go_wp2_with (at_builtin; refine wpl_append (S := Old w) (base := w.heap.size) (v := .slice po LO.length co) (l := LO) (m := [h]) eiFcs rfl _ _ rfl rfl rfl ho3 hu (LO.length + 1) (by simp) _ rfl (by have := HL.out; simp only [maxLen]; omega) (by have := HL.out; omega) hbz ?_)
          intro p' c' w5 hown3 hg
          have HF := Lib.hid (And.intro hown3 (hB3.grown hg hbz (fun j hj => (ho3.lt j hj).1)))
          clear ho3 hu hbz hown3 hg m0 m1 yl e3 hB3
          go_wp2
          go_roundw
          case rel =>
            refine ⟨k + 1, by omega, by go_num, ?_, HF.out.2⟩
            have h1 := HF.out.1
            rw [List.take_succ_eq_append_getElem hlt, ← HLO.out, ← HH.out]
            simpa using h1
          case measure => simp [intOf]; omega
    · have HN2 := Lib.hid (show LO = l by rw [HLO.out, List.take_of_length_le (by omega)])
      go_wp2
      go_ret
      refine ⟨_, rfl, ?_, HTB.out⟩
      have h := HO.out.fresh
      rw [HN2.out] at h ⊢
      exact h
end Go.Proofs.YtoanjaidfdkdpaaGreat
/- Walks: the law's copy of a site. -/
namespace Go.Proofs.YtoanjaidfdkdpaaGreat
set_option linter.unusedSimpArgs false
set_option linter.unusedVariables false
open Go.RowKit Go.BT

theorem siGSite : SI Tryz.prog 51 4 := ⟨⟨_, Tryz.underlying51⟩, by kernel_rfl⟩
theorem infoLvlG : (Tryz.prog.info? 109).map (fun i => (i.zero, i.size, i.bytes)) = some (some (.agg #[.int .i64 0, .int .i64 0]), 2, 16) := by kernel_rfl
theorem eiLvls : EI Tryz.prog 48 109 (.agg #[.int .i64 0, .int .i64 0]) 2 16 := .mk' Tryz.underlying48 infoLvlG rfl
theorem infoStgG : (Tryz.prog.info? 98).map (fun i => (i.zero, i.size, i.bytes)) = some (some (.agg #[.int .i64 0, .int .i64 0]), 2, 16) := by kernel_rfl
theorem eiStgs : EI Tryz.prog 49 98 (.agg #[.int .i64 0, .int .i64 0]) 2 16 := .mk' Tryz.underlying49 infoStgG rfl

set_option maxRecDepth 100000 in
set_option maxHeartbeats 8000000 in
theorem SiteL_any (S : Nat → Prop) (s : Site) (v : Value) (w : World) (hv : AV S w v s) (f0 : s.base.length ≤ 1000) (f1 : s.levels.length ≤ 1000) (f2 : s.stages.length ≤ 1000) :
    Calls Tryz.prog 13 #[v] w fun e w' => ∃ v', e = .returned v' ∧ AV (Old w) w' v' s ∧ Step w w' := by
  obtain ⟨c0, c1, c2, rfl, h0, h1, h2⟩ := hv.site
  obtain ⟨p0, k0, rfl⟩ := h0.form
  obtain ⟨p1, k1, b1, o1, rfl, _, m1, hp1, hc1, _⟩ := h1.lvls
  obtain ⟨p2, k2, b2, o2, rfl, _, m2, hp2, hc2, _⟩ := h2.stgs
  obtain ⟨W0, hW0⟩ : ∃ W, W = (w.alloc (.cells #[.slice p0 s.base.length k0, .slice p1 s.levels.length k1, .slice p2 s.stages.length k2, .int .i64 s.openS] 29)).alloc (.cells #[.slice none 0 0, .slice none 0 0, .slice none 0 0, .int .i64 0] 51) := ⟨_, rfl⟩
  have hS : Step w W0 := by subst hW0; exact (by repeat (first | (with_reducible assumption) | (with_reducible exact Step.refl _) | (with_reducible apply Step.s_alloc) | (with_reducible apply Step.s_drew) | (with_reducible apply Step.s_drewN) | (with_reducible refine Step.trans ?_ (by with_reducible assumption))))
  have HBX := Lib.hid (show Bx W0 w.heap.size [.slice p0 s.base.length k0, .slice p1 s.levels.length k1, .slice p2 s.stages.length k2, .int .i64 s.openS] 29 by subst hW0; exact (Bx.new w [_, _, _, _] _).step (Step.alloc _ _))
  have HBR := Lib.hid (show Bx W0 (w.heap.size + 1) [.slice none 0 0, .slice none 0 0, .slice none 0 0, .int .i64 0] 51 by subst hW0; exact Bx.new' _ [_, _, _, _] _ _ (by simp))
  have HZ := Lib.hid (show W0.heap.size = w.heap.size + 2 by subst hW0; simp)
  have HW := Lib.hid hW0
  have HS := Lib.hid hS
  have HV0 := Lib.hid (h0.keep (Keeps.of_step hS))
  have H1 := Lib.hid (And.intro hp1 hc1)
  have H2 := Lib.hid (And.intro hp2 hc2)
  clear hv h0 h1 h2 hp1 hc1 hp2 hc2 hW0 hS
  go_enter Tryz.func13, Tryz.ntmps13
  go_upto_region 1 with (fail)
  rw [← HW.out]
  go_cut [3] (fun s3 wx => ∃ g q0, s3 = .pointer (some ⟨g, 0, none⟩) ∧ w.heap.size + 2 ≤ g ∧ Bx wx g [q0, .slice none 0 0, .slice none 0 0, .int .i64 s.openS] 51 ∧ SL (fun j => j < w.heap.size + 2 ∨ j = g) wx q0 s.base ∧ Step W0 wx)
  case first =>
    refine wp_region_seq (kdOf [2] [(6, 51, .agg #[.slice none 0 0, .slice none 0 0, .slice none 0 0, .int .i64 0])]) [0, 1, 3, 0, 8, 31, 0, 127] [0, 1, 3, 4, 2, 5, 6] [7] (by kernel_rfl) (by kernel_rfl) (fun i T z hi hk => by simp only [List.mem_cons, List.not_mem_nil, or_false] at hi; rcases hi with rfl | rfl | rfl | rfl | rfl | rfl | rfl <;> simp [kdOf] at hk <;> (obtain ⟨rfl, rfl⟩ := hk; first | (show Option.bind _ _ = some _; kernel_rfl) | (refine ⟨_, rfl, fun _ _ => ?_⟩; go_simp))) ?_
    intro Wx hWx
    have HT := Lib.hid ((Step.refl W0).trans hWx)
    clear hWx
    have b0 := (HBX.out.step HT.out).cell 0
    have b3 := (HBX.out.step HT.out).cell 3
    simp only [List.getElem?_cons_zero, List.getElem?_cons_succ] at b0 b3
    repeat (first | (refine run_off rfl rfl (by rfl) ?_; (try simp only [Act.put, List.setIfInBounds_toArray, List.set_cons_zero, List.set_cons_succ])) | (refine run_chain_off rfl rfl (by rfl) (K0_mono _) ?_; (try simp only [Act.put, List.setIfInBounds_toArray, List.set_cons_zero, List.set_cons_succ])) | ((refine run_want rfl rfl (by rfl) ⟨?_, fun W hW => ?_, ?_⟩; rotate_left; (· (have d0 := hW.keeps.cell id b0; have d1 := hW.keeps.cell id b3; go_simp; (try with_reducible rfl)))); (try simp only [Act.put, List.setIfInBounds_toArray, List.set_cons_zero, List.set_cons_succ])))
    clear b0 b3
    refine run_chain rfl rfl (by rfl) (fun W1 hW1 K' hK => ?_)
    have HT1 := Lib.hid (HT.out.trans hW1)
    have HV1 := Lib.hid (HV0.out.keep (Keeps.of_step (HT.out.trans hW1)))
    clear hW1 HT
    go_simp
    refine (Wind_any _ _ _ _ HV1.out f0).mono ?_
    rintro e w1 ⟨v1, rfl, hv1, hSn⟩
    obtain ⟨r1, n1, rfl⟩ := hv1.form
    have HQ := Lib.hid (And.intro hv1 hSn)
    have HT := Lib.hid (HT1.out.trans hSn)
    refine hK _ _ hSn ?_
    clear hv1 hSn
    (try simp only [Act.put, List.setIfInBounds_toArray, List.set_cons_zero, List.set_cons_succ])
    have b0 := (HBX.out.step HT.out).cell 0
    have b3 := (HBX.out.step HT.out).cell 3
    simp only [List.getElem?_cons_zero, List.getElem?_cons_succ] at b0 b3
    repeat (first | (refine run_off rfl rfl (by rfl) ?_; (try simp only [Act.put, List.setIfInBounds_toArray, List.set_cons_zero, List.set_cons_succ])) | (refine run_chain_off rfl rfl (by rfl) (K0_mono _) ?_; (try simp only [Act.put, List.setIfInBounds_toArray, List.set_cons_zero, List.set_cons_succ])) | ((refine run_want rfl rfl (by rfl) ⟨?_, fun W hW => ?_, ?_⟩; rotate_left; (· (have d0 := hW.keeps.cell id b0; have d1 := hW.keeps.cell id b3; go_simp; (try with_reducible rfl)))); (try simp only [Act.put, List.setIfInBounds_toArray, List.set_cons_zero, List.set_cons_succ])))
    clear b0 b3
    refine run_alloc rfl rfl (fun W5 g hW5 hg hgb hgN => ?_)
    (try simp only [Act.put, List.setIfInBounds_toArray, List.set_cons_zero, List.set_cons_succ])
    refine run_end (L := [_]) rfl (fun W6 hW6 => ?_)
    have hb6 := Bx.step (w := W5) (cs := [_, _, _, _]) hg hW6
    refine wpl_store (v := .agg #[.slice r1 s.base.length n1, .slice none 0 0, .slice none 0 0, .int .i64 s.openS]) rfl _ _ _ rfl rfl rfl hb6 (by kernel_rfl) (by simp [Value.cells]) (by simp [Value.cells, Value.oneCell']) [.slice r1 s.base.length n1, .slice none 0 0, .slice none 0 0, .int .i64 s.openS] rfl (fun w7 hb7 hw7 => ?_)
    have n2 := hgN.2
    have z0 := HZ.out
    have z1 := HT1.out.size
    have z2 := HQ.out.2.size
    have z5 := hW5.size
    have q1 := SL.later (S := fun j => j < w.heap.size + 2 ∨ j = g) (w' := w7) HQ.out.1 (fun j hj hs => by omega) ((Keeps.of_step (hW5.trans hW6)).trans (Keeps.wrote hw7 (.inr rfl)))
    have q5 := Step.wrote (HT.out.trans (hW5.trans hW6)) hw7 hgb
    have HF := Lib.hid (And.intro hb7 (And.intro q1 (And.intro q5 hgb)))
    clear hb6 hb7 hw7 q1 q5 hW5 hW6 hg hgN n2 hgb
    go_wp2_with fail
    go_meet
    exact ⟨g, _, rfl, by have := HF.out.2.2.2; omega, HF.out.1, HF.out.2.1, HF.out.2.2.1⟩
  case rest =>
    obtain ⟨g, q0, rfl, hg2, hbg, hq0, htc⟩ := hcut
    obtain ⟨r0, n0, rfl⟩ := hq0.form
    have HG := Lib.hid hg2
    have HBG := Lib.hid hbg
    have HQ0 := Lib.hid hq0
    have HTC := Lib.hid htc
    clear hg2 hbg hq0 htc
    go_upto_region 3 with (fail)
    go_loopw [4] (fun i wr => ∃ (k : Nat) (q : Value), k ≤ s.levels.length ∧ i = .int .i64 k ∧ Bx wr g [.slice r0 s.base.length n0, q, .slice none 0 0, .int .i64 s.openS] 51 ∧ OwnL (fun _ => False) wc.heap.size 109 wr q (s.levels.take k) ∧ StepX (fun x => x = g) wc wr) (fun i _ => s.levels.length - (intOf i).toNat)
    case atStart => exact ⟨0, _, Nat.zero_le _, rfl, HBG.out, OwnL.nil _ _ _ _, StepX.refl _ _⟩
    case round =>
      obtain ⟨k, q, hk, rfl, hbj, hoj, hX⟩ := hrel
      have HBJ := Lib.hid hbj
      have HOJ := Lib.hid hoj
      have HX := Lib.hid hX
      obtain ⟨LL, hLL⟩ : ∃ L, L = s.levels.take k := ⟨_, rfl⟩
      rw [← hLL] at hoj
      obtain ⟨pq, cq, rfl, _⟩ := hoj.form
      have HNE := Lib.hid (show (Value.slice pq LL.length cq).ownBlock ≠ some g from fun e => by have := (hoj.lt _ e).1; have := HBG.out.lt; omega)
      have HLL := Lib.hid hLL
      clear hbj hoj hX hLL
      have hcell : ∀ b o u, W0.cell? ⟨b, o, none⟩ = some u → wr.cell? ⟨b, o, none⟩ = some u := fun b o u hu => HX.out.keeps.cell (a := ⟨b, o, none⟩) (by have := World.block_lt_of_cell? W0 _ hu; have := HG.out; have := HZ.out; show ¬ b = g; dsimp only at *; omega) (HTC.out.keeps.cell id hu)
      have x1 := HBX.out.cell 1
      simp only [List.getElem?_cons_zero, List.getElem?_cons_succ] at x1
      have x1 := hcell _ _ _ x1
      by_cases hlt : k < s.levels.length
      · obtain rfl := H1.out.1 (by omega)
        obtain ⟨g1, g2⟩ := H1.out.2 k hlt
        have g1 := hcell _ _ _ (HS.out.keeps.cell id g1)
        have g2 := hcell _ _ _ (HS.out.keeps.cell id g2)
        have m := HBJ.out.cell 1
        simp only [List.getElem?_cons_zero, List.getElem?_cons_succ] at m
        have hjx : (0 : Int) ≤ (k : Int) ∧ (k : Int) < (s.levels.length : Int) := by omega
        obtain ⟨y, hy⟩ : ∃ y, y = s.levels[k] := ⟨_, rfl⟩
        rw [← hy] at g1 g2
        have HY := Lib.hid hy
        have HE := Lib.hid (And.intro x1 (And.intro g1 (And.intro g2 m)))
        clear hcell hy
        go_upto_region 5 with (fail)
        clear x1 g1 g2 m
        refine wp_region_seq (kdOf [15] []) [0, 1, 0, 4, 0, 28, 60, 124, 0, 256, 0, 1792, 3840, 7936, 16380, 32764, 65535, 131071, 262143] [0, 1, 2, 3, 4, 5, 6, 7, 8, 9, 10, 11, 12, 13, 14, 15] [16, 17, 18] (by kernel_rfl) (by kernel_rfl) (fun i T z hi hk => by simp [kdOf] at hk <;> (try (split at hk <;> cases hk))) ?_
        intro Wx hWx
        have HT := Lib.hid ((Step.refl wr).trans hWx)
        clear hWx
        have x1 := HT.out.keeps.cell id HE.out.1
        have g1 := HT.out.keeps.cell id HE.out.2.1
        have g2 := HT.out.keeps.cell id HE.out.2.2.1
        have m := HT.out.keeps.cell id HE.out.2.2.2
        repeat (first | (refine run_off rfl rfl (by rfl) ?_; (try simp only [Act.put, List.setIfInBounds_toArray, List.set_cons_zero, List.set_cons_succ])) | (refine run_chain_off rfl rfl (by rfl) (K0_mono _) ?_; (try simp only [Act.put, List.setIfInBounds_toArray, List.set_cons_zero, List.set_cons_succ])) | ((refine run_want rfl rfl (by rfl) ⟨?_, fun W hW => ?_, ?_⟩; rotate_left; (· (have d0 := hW.keeps.cell id x1; have d1 := hW.keeps.cell id g1; have d2 := hW.keeps.cell id g2; have d3 := hW.keeps.cell id m; go_simp; (try with_reducible rfl)))); (try simp only [Act.put, List.setIfInBounds_toArray, List.set_cons_zero, List.set_cons_succ])))
        clear x1 g1 g2 m
        refine run_chain rfl rfl (by rfl) (fun W1 hW1 K' hK' => ?_)
        go_simp
        refine hK' _ _ (.of (Step.alloc _ _)) ?_
        (try simp only [Act.put, List.setIfInBounds_toArray, List.set_cons_zero, List.set_cons_succ])
        refine run_end (L := [_, _, _]) rfl (fun W2 hW2 => ?_)
        have hST := HT.out.trans hW1
        have hown2 := ((HOJ.out.step hST).alloc (.cells #[.int .i64 y.upto, .int .i64 y.push] 109)).step hW2
        have hu := (SLe.one (S := avoid (fun _ => False) (.slice pq LL.length cq)) (w := W1) (cs := [.int .i64 y.upto, .int .i64 y.push]) (x := y) 109 rfl).step hW2
        rw [show [y] = [s.levels[k]] by rw [HY.out]] at hu
        have b3 := ((HBJ.out.step hST).alloc (.cells #[.int .i64 y.upto, .int .i64 y.push] 109)).step hW2
        have hX2 := ((HX.out.trans (.of hST)).alloc' (.cells #[.int .i64 y.upto, .int .i64 y.push] 109)).trans (.of hW2)
        clear hW1 hW2 hK' hST
        go_wp2_with (at_builtin; refine wpl_append1 (W0 := W2) (l := s.levels) (k := k) eiLvls rfl _ _ rfl rfl rfl hown2 hlt (by omega) (by decide) hu (Below.refl _ _) hX2.size ?_)
        intro p' c' w3 hown3 _ hg
        have b4 := b3.keep (S := fun j => (Value.slice pq LL.length cq).ownBlock = some j) (.grown hg fun j hj _ => hj) HNE.out
        have m := b4.cell 1
        simp only [List.getElem?_cons_zero, List.getElem?_cons_succ] at m
        have z1 := b4.frozen 1
        have yl := b4.lt
        have hX3 : StepX (fun x => x = g) wc w3 := hX2.over (X := fun j => (Value.slice pq LL.length cq).ownBlock = some j) (.grown hg fun j hj _ => hj) fun j hj => .inl (HOJ.out.lt j hj).1
        have hn3 : (Value.slice p' (k + 1) c').ownBlock ≠ some g := fun e => by have := (hown3.lt _ e).1; have := HBG.out.lt; omega
        have H3 := Lib.hid (And.intro hown3 (And.intro b4 (And.intro hX3 hn3)))
        clear hown2 hu b3 hX2 hown3 hg b4 hX3 hn3
        go_wp2
        go_roundw
        case rel => exact ⟨k + 1, _, by omega, by go_num, H3.out.2.1.setCell 1 _, ownL_flat _ ((ownL_flat (fun j => j = g) H3.out.1).wrote (.setCell _ _ _ _) rfl H3.out.2.2.2), H3.out.2.2.1.setCell ⟨g, 1, none⟩ _ rfl⟩
        case measure => simp [intOf]; omega
      · have HN2 := Lib.hid (show LL = s.levels by rw [HLL.out, List.take_of_length_le (by omega)])
        have hst := HX.out
        have hog := HOJ.out
        rw [← HLL.out, HN2.out] at hog
        have hbg := HBJ.out
        rw [HN2.out] at hbg
        have hq0 := HQ0.out.keep (HX.out.keeps.mono fun j _ hj => .inr hj)
        have hq1 := (ownL_flat (fun j => j < w.heap.size + 2 ∨ j = g) hog).sl (S := fun j => j < w.heap.size + 2 ∨ j = g) fun g' h1 h2 ha => by have := HBG.out.lt; have := HTC.out.size; have := HZ.out; omega
        have htw : StepX (fun x => x = g) W0 wr := (StepX.of HTC.out).trans HX.out
        clear HBG HQ0 HTC
        have HBG := Lib.hid hbg
        have HQ0 := Lib.hid hq0
        have HQ1 := Lib.hid hq1
        have HTC := Lib.hid htw
        obtain ⟨wd, hwd⟩ : ∃ W, W = wr := ⟨_, rfl⟩
        subst hwd
        clear hst hog hbg hq0 hq1 htw HX HBJ HOJ HNE hcell
        go_upto_region 7 with (fail)
        clear hlt hk x1
        go_loopw [5] (fun i wr => ∃ (k : Nat) (q : Value), k ≤ s.stages.length ∧ i = .int .i64 k ∧ Bx wr g [.slice r0 s.base.length n0, .slice pq s.levels.length cq, q, .int .i64 s.openS] 51 ∧ OwnL (fun _ => False) wd.heap.size 98 wr q (s.stages.take k) ∧ StepX (fun x => x = g) wd wr) (fun i _ => s.stages.length - (intOf i).toNat)
        case atStart => exact ⟨0, _, Nat.zero_le _, rfl, HBG.out, OwnL.nil _ _ _ _, StepX.refl _ _⟩
        case round =>
          obtain ⟨k, q, hk, rfl, hbj, hoj, hX⟩ := hrel
          have HBJ := Lib.hid hbj
          have HOJ := Lib.hid hoj
          have HX := Lib.hid hX
          obtain ⟨LL, hLL⟩ : ∃ L, L = s.stages.take k := ⟨_, rfl⟩
          rw [← hLL] at hoj
          obtain ⟨pu, cu, rfl, _⟩ := hoj.form
          have HNE := Lib.hid (show (Value.slice pu LL.length cu).ownBlock ≠ some g from fun e => by have := (hoj.lt _ e).1; have := HBG.out.lt; omega)
          have HLL := Lib.hid hLL
          clear hbj hoj hX hLL
          have hcell : ∀ b o u, W0.cell? ⟨b, o, none⟩ = some u → wr.cell? ⟨b, o, none⟩ = some u := fun b o u hu => HX.out.keeps.cell (a := ⟨b, o, none⟩) (by have := World.block_lt_of_cell? W0 _ hu; have := HG.out; have := HZ.out; show ¬ b = g; dsimp only at *; omega) (HTC.out.keeps.cell (a := ⟨b, o, none⟩) (by have := World.block_lt_of_cell? W0 _ hu; have := HG.out; have := HZ.out; show ¬ b = g; dsimp only at *; omega) hu)
          have x1 := HBX.out.cell 2
          simp only [List.getElem?_cons_zero, List.getElem?_cons_succ] at x1
          have x1 := hcell _ _ _ x1
          by_cases hlt : k < s.stages.length
          · obtain rfl := H2.out.1 (by omega)
            obtain ⟨g1, g2⟩ := H2.out.2 k hlt
            have g1 := hcell _ _ _ (HS.out.keeps.cell id g1)
            have g2 := hcell _ _ _ (HS.out.keeps.cell id g2)
            have m := HBJ.out.cell 2
            simp only [List.getElem?_cons_zero, List.getElem?_cons_succ] at m
            have hjx : (0 : Int) ≤ (k : Int) ∧ (k : Int) < (s.stages.length : Int) := by omega
            obtain ⟨y, hy⟩ : ∃ y, y = s.stages[k] := ⟨_, rfl⟩
            rw [← hy] at g1 g2
            have HY := Lib.hid hy
            have HE := Lib.hid (And.intro x1 (And.intro g1 (And.intro g2 m)))
            clear hcell hy
            go_upto_region 9 with (fail)
            clear x1 g1 g2 m
            refine wp_region_seq (kdOf [15] []) [0, 1, 0, 4, 0, 28, 60, 124, 0, 256, 0, 1792, 3840, 7936, 16380, 32764, 65535, 131071, 262143] [0, 1, 2, 3, 4, 5, 6, 7, 8, 9, 10, 11, 12, 13, 14, 15] [16, 17, 18] (by kernel_rfl) (by kernel_rfl) (fun i T z hi hk => by simp [kdOf] at hk <;> (try (split at hk <;> cases hk))) ?_
            intro Wx hWx
            have HT := Lib.hid ((Step.refl wr).trans hWx)
            clear hWx
            have x1 := HT.out.keeps.cell id HE.out.1
            have g1 := HT.out.keeps.cell id HE.out.2.1
            have g2 := HT.out.keeps.cell id HE.out.2.2.1
            have m := HT.out.keeps.cell id HE.out.2.2.2
            repeat (first | (refine run_off rfl rfl (by rfl) ?_; (try simp only [Act.put, List.setIfInBounds_toArray, List.set_cons_zero, List.set_cons_succ])) | (refine run_chain_off rfl rfl (by rfl) (K0_mono _) ?_; (try simp only [Act.put, List.setIfInBounds_toArray, List.set_cons_zero, List.set_cons_succ])) | ((refine run_want rfl rfl (by rfl) ⟨?_, fun W hW => ?_, ?_⟩; rotate_left; (· (have d0 := hW.keeps.cell id x1; have d1 := hW.keeps.cell id g1; have d2 := hW.keeps.cell id g2; have d3 := hW.keeps.cell id m; go_simp; (try with_reducible rfl)))); (try simp only [Act.put, List.setIfInBounds_toArray, List.set_cons_zero, List.set_cons_succ])))
            clear x1 g1 g2 m
            refine run_chain rfl rfl (by rfl) (fun W1 hW1 K' hK' => ?_)
            go_simp
            refine hK' _ _ (.of (Step.alloc _ _)) ?_
            (try simp only [Act.put, List.setIfInBounds_toArray, List.set_cons_zero, List.set_cons_succ])
            refine run_end (L := [_, _, _]) rfl (fun W2 hW2 => ?_)
            have hST := HT.out.trans hW1
            have hown2 := ((HOJ.out.step hST).alloc (.cells #[.int .i64 y.cover, .int .i64 y.minutes] 98)).step hW2
            have hu := (SLe.one (S := avoid (fun _ => False) (.slice pu LL.length cu)) (w := W1) (cs := [.int .i64 y.cover, .int .i64 y.minutes]) (x := y) 98 rfl).step hW2
            rw [show [y] = [s.stages[k]] by rw [HY.out]] at hu
            have b3 := ((HBJ.out.step hST).alloc (.cells #[.int .i64 y.cover, .int .i64 y.minutes] 98)).step hW2
            have hX2 := ((HX.out.trans (.of hST)).alloc' (.cells #[.int .i64 y.cover, .int .i64 y.minutes] 98)).trans (.of hW2)
            clear hW1 hW2 hK' hST
            go_wp2_with (at_builtin; refine wpl_append1 (W0 := W2) (l := s.stages) (k := k) eiStgs rfl _ _ rfl rfl rfl hown2 hlt (by omega) (by decide) hu (Below.refl _ _) hX2.size ?_)
            intro p' c' w3 hown3 _ hg
            have b4 := b3.keep (S := fun j => (Value.slice pu LL.length cu).ownBlock = some j) (.grown hg fun j hj _ => hj) HNE.out
            have m := b4.cell 2
            simp only [List.getElem?_cons_zero, List.getElem?_cons_succ] at m
            have z1 := b4.frozen 2
            have yl := b4.lt
            have hX3 : StepX (fun x => x = g) wd w3 := hX2.over (X := fun j => (Value.slice pu LL.length cu).ownBlock = some j) (.grown hg fun j hj _ => hj) fun j hj => .inl (HOJ.out.lt j hj).1
            have hn3 : (Value.slice p' (k + 1) c').ownBlock ≠ some g := fun e => by have := (hown3.lt _ e).1; have := HBG.out.lt; omega
            have H3 := Lib.hid (And.intro hown3 (And.intro b4 (And.intro hX3 hn3)))
            clear hown2 hu b3 hX2 hown3 hg b4 hX3 hn3
            go_wp2
            go_roundw
            case rel => exact ⟨k + 1, _, by omega, by go_num, H3.out.2.1.setCell 2 _, ownL_flat _ ((ownL_flat (fun j => j = g) H3.out.1).wrote (.setCell _ _ _ _) rfl H3.out.2.2.2), H3.out.2.2.1.setCell ⟨g, 2, none⟩ _ rfl⟩
            case measure => simp [intOf]; omega
          · have HN2 := Lib.hid (show LL = s.stages by rw [HLL.out, List.take_of_length_le (by omega)])
            have hog := HOJ.out
            rw [← HLL.out, HN2.out] at hog
            have hbg := HBJ.out
            rw [HN2.out] at hbg
            have hq0 := HQ0.out.keep (HX.out.keeps.mono fun j _ hj => .inr hj)
            have hq1 := HQ1.out.keep (HX.out.keeps.mono fun j _ hj => .inr hj)
            have hq2 := (ownL_flat (fun j => j < w.heap.size + 2 ∨ j = g) hog).sl (S := fun j => j < w.heap.size + 2 ∨ j = g) fun g' h1 h2 ha => by have := HBG.out.lt; have := HTC.out.size; have := HZ.out; omega
            have htw : StepX (fun x => x = g) W0 wr := HTC.out.trans HX.out
            have hbr := HBR.out.keep htw.keeps (by have := HG.out; show ¬ _ = g; omega)
            have hsw : Step w wr := StepX.fresh HS.out htw (fun j hj => by have := HG.out; omega)
            have HE := Lib.hid (And.intro hq0 (And.intro hq1 (And.intro hq2 (And.intro hbr hsw))))
            have m0 := hbg.cell 0
            have m1 := hbg.cell 1
            have m2 := hbg.cell 2
            have m3 := hbg.cell 3
            have t0 := hbr.cell 0
            have t1 := hbr.cell 1
            have t2 := hbr.cell 2
            have t3 := hbr.cell 3
            simp only [List.getElem?_cons_zero, List.getElem?_cons_succ] at m0 m1 m2 m3 t0 t1 t2 t3
            have tf0 := hbr.frozen 0
            have tf1 := hbr.frozen 1
            have tf2 := hbr.frozen 2
            have tf3 := hbr.frozen 3
            have yl := hbg.lt
            have yr := hbr.lt
            clear hog hbg hq0 hq1 hq2 htw hbr hsw HX HBJ HOJ HNE hcell
            go_wp2
            have b5 := set4 HE.out.2.2.2.1 (.slice r0 s.base.length n0) (.slice pq s.levels.length cq) (.slice pu s.stages.length cu) (.int .i64 s.openS)
            have hk5 := b5.2.keeps.mono (T := fun j => j < w.heap.size + 2 ∨ j = g) fun j _ hj => .inl (by omega)
            refine ret_struct (k := 4) rfl siGSite rfl b5.1 rfl rfl ⟨_, rfl, ⟨_, rfl, _, _, _, rfl, ?_, ?_, ?_⟩, StepX.fresh HE.out.2.2.2.2 b5.2 (fun j hj => by omega)⟩
            · exact (HE.out.1.keep hk5).weak fun j _ hj => by unfold Old at hj; omega
            · exact (HE.out.2.1.keep hk5).weak fun j _ hj => by unfold Old at hj; omega
            · exact (HE.out.2.2.1.keep hk5).weak fun j _ hj => by unfold Old at hj; omega
    end Go.Proofs.YtoanjaidfdkdpaaGreat
/- Walks: what the storm's law asks of the worst wind at the end. -/
namespace Go.BT
def blowF : List Fc := [⟨⟨#[97]⟩, [⟨3, 7⟩]⟩]
theorem blowF_c : worstC blowF [] = 0 := by rfl
theorem blowF_r : worstR blowF [] = [7] := by rfl
end Go.BT
namespace Go.Proofs.YtoanjaidfdkdpaaGreat
set_option linter.unusedSimpArgs false
set_option linter.unusedVariables false
open Go.RowKit Go.BT

theorem SL.new1 {α : Type} [Rep α] {w : World} {cs : List Value} {x : α} (ty : TypeId) (h : Rep.rep (fun _ => False) w cs x) :
    SL (fun _ => False) (w.alloc (.cells cs.toArray ty)) (.slice (some ⟨w.heap.size, 0, none⟩) 1 1) [x] := by
  refine ⟨_, 1, w.heap.size, 0, rfl, Nat.le_refl _, by simp, fun _ => rfl, fun i hi => ?_⟩
  obtain rfl : i = 0 := by simpa using hi
  refine ⟨by simp, id, cs, Rep.keep (.alloc _ _) h, fun j u hj => ?_⟩
  simp only [Nat.zero_mul, Nat.zero_add, Nat.add_zero]
  rw [World.cell?_alloc_new]
  simpa using hj
set_option maxRecDepth 100000 in
set_option maxHeartbeats 4000000 in
theorem Sblows_any (w : World) : Calls Tryz.prog 9 #[] w fun e w' => e = .returned (.bool true) ∧ Step w w' := by
  have hr := SL.new1 (w := w) (cs := [.int .i64 3, .int .i64 7]) (x := (⟨3, 7⟩ : Rng)) 89 rfl
  have hf := SL.new1 (w := w.alloc (.cells #[.int .i64 3, .int .i64 7] 89)) (cs := [.string ⟨#[97]⟩, .slice (some ⟨w.heap.size, 0, none⟩) 1 1]) (x := (⟨⟨#[97]⟩, [⟨3, 7⟩]⟩ : Fc)) 92 ⟨_, rfl, hr, by decide⟩
  have hcall := Worst_any (fun _ => False) blowF [] (.slice (some ⟨w.heap.size + 1, 0, none⟩) 1 1) (.slice none 0 0) _ (by have := hf; rw [World.size_alloc] at this; exact this) (SL.nil _ _)
  rw [blowF_c, blowF_r] at hcall
  have HC := Lib.hid hcall
  clear hr hf hcall
  go_enter Tryz.func9, Tryz.ntmps9
  go_wp2_with fail
  refine HC.out.mono ?_
  rintro e w1 ⟨v', rfl, hv, hS⟩
  obtain ⟨p, c, b, o, rfl, _, _, hp, hc, _⟩ := hv.ints
  obtain rfl := hp (by simp)
  have e1 := hc 0 (by simp)
  have HS := Lib.hid (Step.trans (show Step w ((w.alloc (.cells #[.int .i64 3, .int .i64 7] 89)).alloc (.cells #[.string ⟨#[97]⟩, .slice (some ⟨w.heap.size, 0, none⟩) 1 1] 92)) from (Step.alloc _ _).trans (Step.alloc _ _)) hS)
  simp only [List.getElem_cons_zero, Nat.add_zero] at e1
  clear hp hc hv hS HC
  go_wp2
  go_ret
  exact ⟨rfl, HS.out⟩
end Go.Proofs.YtoanjaidfdkdpaaGreat
/- Walks: the limit of a stage, by the program. -/
namespace Go.Proofs.YtoanjaidfdkdpaaGreat
set_option linter.unusedSimpArgs false
set_option linter.unusedVariables false
open Go.RowKit Go.BT

theorem weakR_ok {l : List Tst} {t : List Head} {wind : List Vec} (h : blownC l t wind = 0) : decide (0 ≤ (weakR l t wind).1) = !standB l t wind := by
  unfold weakR
  rw [if_pos h]
  have := (weakP_iff (l := l) (t := t) (wind := wind)).1
  cases q : standB l t wind with
  | true => simp; exact this.2 q
  | false =>
    simp only [Bool.not_false, decide_eq_true_eq]
    have : ¬ (weakP l t wind).1 < 0 := fun h => by rw [q] at this; exact absurd (this.1 h) (by decide)
    omega
theorem blown_zero {l : List Tst} {t : List Head} {wind : List Vec} (h1 : testsC l = 0) (h2 : soundC l = 0) (h3 : tentB t = true) (h4 : windB wind = true) : blownC l t wind = 0 := by
  have ht : tentC t = 0 := by unfold tentC; rw [if_pos h3]
  unfold blownC readyC
  rw [if_pos h1, ht, if_pos rfl, if_pos h4, h2]
set_option maxRecDepth 100000 in
set_option maxHeartbeats 8000000 in
theorem limit_any (s : Site) (l : List Tst) (t : List Head) (u v x : Value) (w : World) (hu : AV (fun _ => False) w u s) (hv : SL (fun _ => False) w v l) (hx : SL (fun _ => False) w x t) (hs : siteB s = true) (h1 : testsC l = 0) (h2 : soundC l = 0) (h3 : tentB t = true) :
    Calls Tryz.prog 31 #[u, v, x] w fun e w' => e = .returned (.int .i64 (uptoN s.levels (standN l t s.base s.levels))) ∧ Step w w' := by
  obtain ⟨c0, c1, c2, rfl, q0, q1, q2⟩ := hu.site
  have hm1 := q1.len
  obtain ⟨p1, k1, rfl⟩ := q1.form
  obtain ⟨p2, k2, rfl⟩ := q2.form
  obtain ⟨p0, k0, rfl⟩ := q0.form
  have hok := site_ok hs
  obtain ⟨W0, hW0⟩ : ∃ W, W = w.alloc (.cells #[.slice p0 s.base.length k0, .slice p1 s.levels.length k1, .slice p2 s.stages.length k2, .int .i64 s.openS] 51) := ⟨_, rfl⟩
  have hbx : Bx W0 w.heap.size [.slice p0 s.base.length k0, .slice p1 s.levels.length k1, .slice p2 s.stages.length k2, .int .i64 s.openS] 51 := by subst hW0; exact Bx.new w [_, _, _, _] _
  have hS : Step w W0 := by subst hW0; exact Step.alloc _ _
  obtain ⟨pv, cv, rfl⟩ := hv.form
  obtain ⟨px, cx, rfl⟩ := hx.form
  have HW := Lib.hid hW0
  have HB := Lib.hid hbx
  have HS := Lib.hid hS
  have HV := Lib.hid (SL.go hv hS)
  have HX := Lib.hid (SL.go hx hS)
  have HAV := Lib.hid (AV.go hu hS)
  have HV1 := Lib.hid (SL.go q1 hS)
  have HOK := Lib.hid hok
  have HZ := Lib.hid (And.intro h1 (And.intro h2 h3))
  have b1 := hbx.cell 1
  simp only [List.getElem?_cons_zero, List.getElem?_cons_succ] at b1
  clear hW0 hbx hS hu hv hx q0 q1 q2 hok h1 h2 h3 hs
  go_enter Tryz.func31, Tryz.ntmps31
  go_upto_region 3 with (fail)
  rw [← HW.out]
  clear b1
  go_loopw [7, 17] (fun best i wr => ∃ k : Nat, k ≤ s.levels.length ∧ i = .int .i64 k ∧ best = .int .i64 (uptoN s.levels k) ∧ (∀ j (hj : j < k) (hl : j < s.levels.length), standB l t (blowL s.base s.levels[j].push) = true) ∧ Step W0 wr) (fun _ i _ => s.levels.length - (intOf i).toNat)
  case atStart => exact ⟨0, Nat.zero_le _, rfl, rfl, fun j hj => absurd hj (by omega), Step.refl _⟩
  case round =>
    obtain ⟨k, hk, rfl, rfl, hall, hT⟩ := hrel
    have HA := Lib.hid hall
    have HTR := Lib.hid hT
    clear hall hT
    by_cases hlt : k < s.levels.length
    · obtain ⟨qq, dd, bb, oo, he, _, _, hp, hc, _⟩ := (SL.go HV1.out HTR.out).lvls
      injection he with he1 _ he3
      subst he1 he3
      obtain rfl := hp (by omega)
      obtain ⟨e1, e2⟩ := hc k hlt
      have hix : (0 : Int) ≤ (k : Int) ∧ (k : Int) < (s.levels.length : Int) := by omega
      have hlv := HOK.out.lev k hlt
      have HWB := Lib.hid (blow_wind HOK.out hlt)
      have HUP := Lib.hid (show uptoN s.levels (k + 1) = s.levels[k].upto by simp only [uptoN, List.getElem?_eq_getElem hlt])
      obtain ⟨y, hy⟩ : ∃ y, y = s.levels[k] := ⟨_, rfl⟩
      rw [← hy] at e1 e2 hlv HWB HUP
      have HY := Lib.hid hy
      have HLV := Lib.hid hlv
      obtain ⟨W3, hW3⟩ : ∃ W, W = wr.alloc (.cells #[.int .i64 y.upto, .int .i64 y.push] 109) := ⟨_, rfl⟩
      have HB3 := Lib.hid (show Bx W3 wr.heap.size [.int .i64 y.upto, .int .i64 y.push] 109 by subst hW3; exact Bx.new wr [_, _] _)
      have HS3 := Lib.hid (show Step wr W3 by subst hW3; exact Step.alloc _ _)
      have HW3 := Lib.hid hW3
      have HT := Lib.hid (HTR.out.trans HS3.out)
      clear hp hc hy hlv hW3
      go_upto_region 5 with (fail)
      rw [← HW3.out]
      clear e1 e2
      have x0 := HB3.out.cell 0
      have x1 := HB3.out.cell 1
      have xl := HB3.out.lt
      have g0 := (HB.out.step HT.out).cell 0
      have g1 := (HB.out.step HT.out).cell 1
      have g2 := (HB.out.step HT.out).cell 2
      have g3 := (HB.out.step HT.out).cell 3
      simp only [List.getElem?_cons_zero, List.getElem?_cons_succ] at x0 x1 g0 g1 g2 g3
      go_wp2_with fail
      refine (wind_any s y _ _ (AV.go HAV.out HT.out) HOK.out.corners HLV.out.2 HOK.out.base.2).mono ?_
      rintro e w4 ⟨v4, rfl, hv4, hS4⟩
      clear g0 g1 g2 g3 x0 x1 xl
      have HV4 := Lib.hid (SL.go hv4 (Step.refl _))
      have HT4 := Lib.hid (HT.out.trans hS4)
      have HS4 := Lib.hid hS4
      clear hS4 hv4
      go_wp2_with fail
      refine (Weakest_any (fun _ => False) l t (blowL s.base y.push) _ _ _ _ (SL.go HV.out HT4.out) (SL.go HX.out HT4.out) HV4.out).mono ?_
      rintro e w5 ⟨a, b, rfl, _, _, hS5⟩
      have hbz := blown_zero HZ.out.1 HZ.out.2.1 HZ.out.2.2 HWB.out
      have hwk := weakR_ok hbz
      obtain ⟨r1, hr1⟩ : ∃ r, r = (weakR l t (blowL s.base y.push)).1 := ⟨_, rfl⟩
      rw [← hr1] at hwk ⊢
      have HT5 := Lib.hid (HT4.out.trans hS5)
      have HB5 := Lib.hid ((HB3.out.step HS4.out).step hS5)
      clear hbz hr1 hS5 HV4
      cases q : standB l t (blowL s.base y.push) with
      | true =>
        rw [q] at hwk
        simp only [Bool.not_true] at hwk
        have HQ := Lib.hid q
        clear q
        have x0 := HB5.out.cell 0
        have xl := HB5.out.lt
        simp only [List.getElem?_cons_zero] at x0
        go_wp2
        go_roundw
        case rel => exact ⟨k + 1, by omega, by go_num, by rw [HUP.out], fun j hj hl => if e : j = k then by subst e; rw [← HY.out]; exact HQ.out else HA.out j (by omega) hl, HT5.out.trans (Step.alloc _ _)⟩
        case measure => simp [intOf]; omega
      | false =>
        rw [q] at hwk
        simp only [Bool.not_false] at hwk
        have HQ := Lib.hid (standN_is s.levels k hk HA.out fun _ => by rw [← HY.out]; exact q)
        clear q
        go_wp2
        go_ret
        exact ⟨by rw [HQ.out]; rfl, HS.out.trans (HT5.out.trans (Step.alloc _ _))⟩
    · have HQ := Lib.hid (standN_is s.levels k hk HA.out fun h => absurd h hlt)
      go_wp2
      go_ret
      exact ⟨by rw [HQ.out]; rfl, HS.out.trans HTR.out⟩
end Go.Proofs.YtoanjaidfdkdpaaGreat
/- Walks: the limits of all stages, the tent of a stage, by the program. -/
namespace Go.Proofs.YtoanjaidfdkdpaaGreat
set_option linter.unusedSimpArgs false
set_option linter.unusedVariables false
open Go.RowKit Go.BT

theorem clash_code {l : List Tst} (h : testsC l = 0) : (clashC l == 0) = clashB l := by
  have hg := idxOf_ge (fun x => l.any (againstB x)) l
  have hb : clashB l = decide (0 ≤ clashI l) := by unfold clashI; rw [hg]; rfl
  rw [hb]
  unfold clashC
  rw [if_pos h]
  by_cases q : clashI l < 0
  · rw [if_pos q, decide_eq_false (by omega)]; rfl
  · rw [if_neg q, decide_eq_true (by omega)]; rfl
theorem limits_take {l : List Tst} {t : List Head} {s : Site} {k : Nat} (hk : k < s.stages.length) : (limitsL l t s).take (k + 1) = (limitsL l t s).take k ++ [limitL l t s s.stages[k].cover] := by
  have h : k < (limitsL l t s).length := by simpa [limitsL] using hk
  rw [List.take_succ_eq_append_getElem h]
  simp [limitsL]
set_option maxRecDepth 100000 in
set_option maxHeartbeats 8000000 in
theorem Limits_any (s : Site) (l : List Tst) (t : List Head) (v x u : Value) (w : World) (hv : SL (fun _ => False) w v l) (hx : SL (fun _ => False) w x t) (hu : AV (fun _ => False) w u s) (hs : siteB s = true) (h1 : testsC l = 0) (h3 : tentB t = true) :
    Calls Tryz.prog 10 #[v, x, u] w fun e w' => ∃ v', e = .returned (.tuple #[v', .int .i64 (soundC l)]) ∧ (soundC l = 0 → SL (fun _ => False) w' v' (limitsL l t s)) ∧ Step w w' := by
  obtain ⟨c0, c1, c2, rfl, q0, q1, q2⟩ := hu.site
  obtain ⟨p1, k1, rfl⟩ := q1.form
  obtain ⟨p2, k2, rfl⟩ := q2.form
  obtain ⟨p0, k0, rfl⟩ := q0.form
  have hok := site_ok hs
  obtain ⟨W0, hW0⟩ : ∃ W, W = w.alloc (.cells #[.slice p0 s.base.length k0, .slice p1 s.levels.length k1, .slice p2 s.stages.length k2, .int .i64 s.openS] 51) := ⟨_, rfl⟩
  have hbx : Bx W0 w.heap.size [.slice p0 s.base.length k0, .slice p1 s.levels.length k1, .slice p2 s.stages.length k2, .int .i64 s.openS] 51 := by subst hW0; exact Bx.new w [_, _, _, _] _
  have hS : Step w W0 := by subst hW0; exact Step.alloc _ _
  obtain ⟨pv, cv, rfl⟩ := hv.form
  obtain ⟨px, cx, rfl⟩ := hx.form
  have HW := Lib.hid hW0
  have HB := Lib.hid hbx
  have HS := Lib.hid hS
  have HV := Lib.hid (SL.go hv hS)
  have HX := Lib.hid (SL.go hx hS)
  have HAV := Lib.hid (AV.go hu hS)
  have HV2 := Lib.hid (SL.go q2 hS)
  have HOK := Lib.hid hok
  have HZ := Lib.hid (And.intro h1 (And.intro h3 hs))
  have HT := Lib.hid (Step.refl W0)
  have htc : tentC t = 0 := by unfold tentC; rw [if_pos h3]
  have HTC := Lib.hid htc
  clear hW0 hbx hS hu hv hx q0 q1 q2 hok h1 h3 hs htc
  go_enter Tryz.func10, Tryz.ntmps10
  go_upto_region 1 with (fail)
  rw [← HW.out]
  have hcall := Lib.hid (CheckTests_any (fun _ => False) l _ _ (SL.go HV.out HT.out))
  go_wp2_with fail
  refine hcall.out.mono ?_
  clear hcall
  rintro e wn ⟨rfl, hSn⟩
  have HTi := Lib.hid (HT.out.trans hSn)
  clear hSn HT
  have HT := HTi
  clear HTi
  rw [HZ.out.1]
  have hcall := Lib.hid (CheckTent_any (fun _ => False) t _ _ (SL.go HX.out HT.out))
  go_wp2_with fail
  refine hcall.out.mono ?_
  clear hcall
  rintro e wn ⟨rfl, hSn⟩
  have HTi := Lib.hid (HT.out.trans hSn)
  clear hSn HT
  have HT := HTi
  clear HTi
  rw [HTC.out]
  have g0 := (HB.out.step HT.out).cell 0
  have g1 := (HB.out.step HT.out).cell 1
  have g2 := (HB.out.step HT.out).cell 2
  have g3 := (HB.out.step HT.out).cell 3
  simp only [List.getElem?_cons_zero, List.getElem?_cons_succ] at g0 g1 g2 g3
  have hcall := Lib.hid (valid_ok s _ _ (AV.go HAV.out HT.out) HZ.out.2.2)
  go_wp2_with fail
  refine hcall.out.mono ?_
  clear hcall
  rintro e wn ⟨rfl, hSn⟩
  have HTi := Lib.hid (HT.out.trans hSn)
  clear hSn HT
  have HT := HTi
  clear HTi
  clear g0 g1 g2 g3
  have hcall := Lib.hid (ClashP_any (fun _ => False) l _ _ (SL.go HV.out HT.out))
  go_wp2_with fail
  refine hcall.out.mono ?_
  clear hcall
  rintro e wn ⟨rfl, hSn⟩
  have HTi := Lib.hid (HT.out.trans hSn)
  clear hSn HT
  have HT := HTi
  clear HTi
  have hcc := clash_code HZ.out.1
  obtain ⟨cc, hc0⟩ : ∃ c, c = clashC l := ⟨_, rfl⟩
  rw [← hc0] at hcc ⊢
  clear hc0
  cases q : clashB l with
  | true =>
    rw [q] at hcc
    have HSD := Lib.hid (show soundC l = 9 by unfold soundC; rw [q]; rfl)
    clear q
    go_wp2
    go_ret2
    exact ⟨_, by rw [HSD.out]; rfl, fun h => by rw [HSD.out] at h; exact absurd h (by decide), HS.out.trans HT.out⟩
  | false =>
  rw [q] at hcc
  have HSD := Lib.hid (show soundC l = 0 by unfold soundC; rw [q]; rfl)
  clear q
  have g0 := (HB.out.step HT.out).cell 0
  have g1 := (HB.out.step HT.out).cell 1
  have g2 := (HB.out.step HT.out).cell 2
  have g3 := (HB.out.step HT.out).cell 3
  simp only [List.getElem?_cons_zero, List.getElem?_cons_succ] at g0 g1 g2 g3
  go_upto_region 15 with (fail)
  clear g0 g1 g2 g3 hcc
  obtain ⟨wb, hwb⟩ : ∃ W, W = wn := ⟨_, rfl⟩
  subst hwb
  go_loopw [13, 43] (fun out i wr => ∃ k : Nat, k ≤ s.stages.length ∧ i = .int .i64 k ∧ OwnL (fun _ => False) wb.heap.size 3 wr out ((limitsL l t s).take k) ∧ Below wb.heap.size wb wr) (fun _ i _ => s.stages.length - (intOf i).toNat)
  case atStart => exact ⟨0, Nat.zero_le _, rfl, OwnL.nil _ _ _ _, Below.refl _ _⟩
  case round =>
    obtain ⟨k, hk, rfl, hown, hBe⟩ := hrel
    have HO := Lib.hid hown
    have HBe := Lib.hid hBe
    have HTR := Lib.hid (HT.out.trans (Step.of hBe))
    obtain ⟨LL, hLL⟩ : ∃ L, L = (limitsL l t s).take k := ⟨_, rfl⟩
    rw [← hLL] at hown HO
    have HLK := Lib.hid (show LL.length = k by rw [hLL]; simp [limitsL]; omega)
    obtain ⟨po, co, rfl, _⟩ := hown.form
    by_cases hlt : k < s.stages.length
    · obtain ⟨qq, dd, bb, oo, he, _, _, hp, hc, _⟩ := (SL.go HV2.out HTR.out).stgs
      injection he with he1 _ he3
      subst he1 he3
      obtain rfl := hp (by omega)
      obtain ⟨e1, e2⟩ := hc k hlt
      have hix : (0 : Int) ≤ (k : Int) ∧ (k : Int) < (s.stages.length : Int) := by omega
      have HR := Lib.hid (show (limitsL l t s).take (k + 1) = LL ++ [limitL l t s s.stages[k].cover] by rw [limits_take hlt, hLL])
      have HCV := Lib.hid (show 0 ≤ s.stages[k].cover ∧ s.stages[k].cover ≤ 100 by
        by_cases e : k + 1 < s.stages.length
        · have := HOK.out.st k e; omega
        · have h := HOK.out.last
          rw [show s.stages.length - 1 = k by omega, List.getElem?_eq_getElem hlt] at h
          rw [Option.some.inj h]; decide)
      obtain ⟨y, hy⟩ : ∃ y, y = s.stages[k] := ⟨_, rfl⟩
      rw [← hy] at e1 e2 HR HCV
      obtain ⟨yc, ym⟩ := y
      dsimp only at e1 e2 HR HCV
      have HLL := Lib.hid (show LL.length ≤ 8 by have := HLK.out; have := HOK.out.nst; omega)
      obtain ⟨W3, hW3⟩ : ∃ W, W = wr.alloc (.cells #[.int .i64 yc, .int .i64 ym] 98) := ⟨_, rfl⟩
      have HB3 := Lib.hid (show Bx W3 wr.heap.size [.int .i64 yc, .int .i64 ym] 98 by subst hW3; exact Bx.new wr [_, _] _)
      have HS3 := Lib.hid (show Step wr W3 by subst hW3; exact Step.alloc _ _)
      have HW3 := Lib.hid hW3
      clear hp hc hy hW3 hown hBe hLL
      go_upto_region 17 with (fail)
      rw [← HW3.out]
      clear e1 e2
      have x0 := HB3.out.cell 0
      have x1 := HB3.out.cell 1
      have xl := HB3.out.lt
      simp only [List.getElem?_cons_zero, List.getElem?_cons_succ] at x0 x1
      by_cases hz : yc = 0
      · subst hz
        have HLZ := Lib.hid (show limitL l t s 0 = 1000 by unfold limitL; rw [if_pos rfl])
        have hown4 := (HO.out.step HS3.out).alloc (.cells #[.int .i64 1000] 3)
        have hBl := (HBe.out.step (Nat.le_refl _) HS3.out).step (Nat.le_refl _) (Step.alloc W3 (.cells #[.int .i64 1000] 3))
        have hu := SLe.one (S := avoid (fun _ => False) (.slice po LL.length co)) (w := W3) (cs := [.int .i64 1000]) (x := (1000 : Int)) 3 rfl
        have hbz := hBl.size
        have HBl := Lib.hid hBl
        have hl1 := HLL.out
        clear hBl
        go_wp2_with (at_builtin; refine wpl_append (α := Int) (S := fun _ => False) (base := wb.heap.size) (v := .slice po LL.length co) (l := LL) (m := [1000]) eiInts rfl _ _ rfl rfl rfl hown4 hu (LL.length + 1) (by simp) _ rfl (by simp only [maxLen]; omega) (by omega) hbz ?_)
        intro p5 c5 w5 hown5 hg5
        have HF := Lib.hid (And.intro hown5 (HBl.out.grown hg5 hbz (fun j hj => (hown4.lt j hj).1)))
        clear hown4 hu hown5 hg5 hbz hl1 x0 x1 xl
        go_wp2
        go_roundw
        case rel => exact ⟨k + 1, by omega, by go_num, by rw [HR.out, HLZ.out]; exact HF.out.1, HF.out.2⟩
        case measure => simp [intOf]; omega
      · have hd : (yc == 0) = false := beq_eq_false_iff_ne.2 hz
        have HLZ := Lib.hid (show limitL l t s yc = uptoN s.levels (standN l (reefL yc t) s.base s.levels) by unfold limitL; rw [if_neg hz])
        have HT3 := Lib.hid (HTR.out.trans HS3.out)
        clear hz
        go_wp2_with fail
        refine (reefed_any ⟨yc, ym⟩ t _ _ (SL.go HX.out HT3.out) HCV.out HZ.out.2.1).mono ?_
        rintro e w4 ⟨v4, rfl, hv4, hS4⟩
        have HV4 := Lib.hid (SL.go hv4 (Step.refl _))
        have HS4 := Lib.hid (HS3.out.trans hS4)
        have HT4 := Lib.hid (HT3.out.trans hS4)
        clear x0 x1 xl hv4 hS4
        go_wp2_with fail
        refine (limit_any s l (reefL yc t) _ _ _ _ (AV.go HAV.out HT4.out) (SL.go HV.out HT4.out) HV4.out HZ.out.2.2 HZ.out.1 HSD.out (reef_tent HCV.out HZ.out.2.1)).mono ?_
        rintro e w5 ⟨rfl, hS5⟩
        rw [← HLZ.out]
        obtain ⟨lm, hlm⟩ : ∃ x, x = limitL l t s yc := ⟨_, rfl⟩
        rw [← hlm] at HR ⊢
        have HS5 := Lib.hid (HS4.out.trans hS5)
        clear hS5 hlm HV4 HLZ
        have hown4 := (HO.out.step HS5.out).alloc (.cells #[.int .i64 lm] 3)
        have hBl := (HBe.out.step (Nat.le_refl _) HS5.out).step (Nat.le_refl _) (Step.alloc w5 (.cells #[.int .i64 lm] 3))
        have hu := SLe.one (S := avoid (fun _ => False) (.slice po LL.length co)) (w := w5) (cs := [.int .i64 lm]) (x := lm) 3 rfl
        have hbz := hBl.size
        have HBl := Lib.hid hBl
        have hl1 := HLL.out
        clear hBl
        go_wp2_with (at_builtin; refine wpl_append (α := Int) (S := fun _ => False) (base := wb.heap.size) (v := .slice po LL.length co) (l := LL) (m := [lm]) eiInts rfl _ _ rfl rfl rfl hown4 hu (LL.length + 1) (by simp) _ rfl (by simp only [maxLen]; omega) (by omega) hbz ?_)
        intro p5 c5 w6 hown5 hg5
        have HF := Lib.hid (And.intro hown5 (HBl.out.grown hg5 hbz (fun j hj => (hown4.lt j hj).1)))
        clear hown4 hu hown5 hg5 hbz hl1
        go_wp2
        go_roundw
        case rel => exact ⟨k + 1, by omega, by go_num, by rw [HR.out]; exact HF.out.1, HF.out.2⟩
        case measure => simp [intOf]; omega
    · have hke : k = s.stages.length := by omega
      subst hke
      rw [show (limitsL l t s).take s.stages.length = limitsL l t s by rw [List.take_of_length_le (by simp [limitsL])]] at hLL
      have HF := Lib.hid (show SL (fun _ => False) wr (.slice po LL.length co) (limitsL l t s) by rw [← hLL]; exact HO.out.sl (fun _ _ _ h => h))
      clear hown hBe hLL
      go_wp2
      go_ret2
      exact ⟨_, by rw [HSD.out]; rfl, fun _ => HF.out, HS.out.trans HTR.out⟩
set_option maxRecDepth 100000 in
set_option maxHeartbeats 8000000 in
theorem Reefed_any (s : Site) (t : List Head) (i : Nat) (x u : Value) (w : World) (hx : SL (fun _ => False) w x t) (hu : AV (fun _ => False) w u s) (hs : siteB s = true) (h3 : tentB t = true) (hi : i < s.stages.length) :
    Calls Tryz.prog 18 #[x, u, .int .i64 i] w fun e w' => ∃ v', e = .returned (.tuple #[v', .int .i64 0]) ∧ SL (fun _ => False) w' v' (reefL s.stages[i].cover t) ∧ Step w w' := by
  obtain ⟨c0, c1, c2, rfl, q0, q1, q2⟩ := hu.site
  obtain ⟨p1, k1, rfl⟩ := q1.form
  obtain ⟨p2, k2, rfl⟩ := q2.form
  obtain ⟨p0, k0, rfl⟩ := q0.form
  have hok := site_ok hs
  obtain ⟨W0, hW0⟩ : ∃ W, W = w.alloc (.cells #[.slice p0 s.base.length k0, .slice p1 s.levels.length k1, .slice p2 s.stages.length k2, .int .i64 s.openS] 51) := ⟨_, rfl⟩
  have hbx : Bx W0 w.heap.size [.slice p0 s.base.length k0, .slice p1 s.levels.length k1, .slice p2 s.stages.length k2, .int .i64 s.openS] 51 := by subst hW0; exact Bx.new w [_, _, _, _] _
  have hS : Step w W0 := by subst hW0; exact Step.alloc _ _
  obtain ⟨px, cx, rfl⟩ := hx.form
  have htc : tentC t = 0 := by unfold tentC; rw [if_pos h3]
  have HW := Lib.hid hW0
  have HB := Lib.hid hbx
  have HS := Lib.hid hS
  have HX := Lib.hid (SL.go hx hS)
  have HAV := Lib.hid (AV.go hu hS)
  have HV2 := Lib.hid (SL.go q2 hS)
  have HZ := Lib.hid (And.intro htc (And.intro h3 hs))
  have HT := Lib.hid (Step.refl W0)
  have hnst := hok.nst
  have HCV := Lib.hid (show 0 ≤ s.stages[i].cover ∧ s.stages[i].cover ≤ 100 by
    by_cases e : i + 1 < s.stages.length
    · have := hok.st i e; omega
    · have h := hok.last
      rw [show s.stages.length - 1 = i by omega, List.getElem?_eq_getElem hi] at h
      rw [Option.some.inj h]; decide)
  have hwl : IntKind.i64.wrap ((s.stages.length : Int) - 1) = (s.stages.length : Int) - 1 := by rw [IntKind.wrap_i64]; omega
  have HWI := Lib.hid (show withinB (i : Int) 0 ((s.stages.length : Int) - 1) = true by simp [withinB]; omega)
  have hix : (0 : Int) ≤ (i : Int) ∧ (i : Int) < (s.stages.length : Int) := by omega
  clear hW0 hbx hS hu hx q0 q1 q2 hok h3 hs htc hnst
  go_enter Tryz.func18, Tryz.ntmps18
  go_upto_region 1 with (fail)
  rw [← HW.out]
  have hcall := Lib.hid (CheckTent_any (fun _ => False) t _ _ (SL.go HX.out HT.out))
  go_wp2_with fail
  refine hcall.out.mono ?_
  clear hcall
  rintro e wn ⟨rfl, hSn⟩
  have HTi := Lib.hid (HT.out.trans hSn)
  clear hSn HT
  have HT := HTi
  clear HTi
  rw [HZ.out.1]
  have g0 := (HB.out.step HT.out).cell 0
  have g1 := (HB.out.step HT.out).cell 1
  have g2 := (HB.out.step HT.out).cell 2
  have g3 := (HB.out.step HT.out).cell 3
  simp only [List.getElem?_cons_zero, List.getElem?_cons_succ] at g0 g1 g2 g3
  have hcall := Lib.hid (valid_ok s _ _ (AV.go HAV.out HT.out) HZ.out.2.2)
  go_wp2_with fail
  refine hcall.out.mono ?_
  clear hcall
  rintro e wn ⟨rfl, hSn⟩
  have HTi := Lib.hid (HT.out.trans hSn)
  clear hSn HT
  have HT := HTi
  clear HTi
  clear g0 g1 g2 g3
  have g2 := (HB.out.step HT.out).cell 2
  simp only [List.getElem?_cons_zero, List.getElem?_cons_succ] at g2
  obtain ⟨qq, dd, bb, oo, he, _, _, hp, hc, _⟩ := (SL.go HV2.out HT.out).stgs
  injection he with he1 _ he3
  subst he1 he3
  obtain rfl := hp (by omega)
  obtain ⟨e1, e2⟩ := hc i hi
  obtain ⟨y, hy⟩ : ∃ y, y = s.stages[i] := ⟨_, rfl⟩
  rw [← hy] at e1 e2 HCV
  have HY := Lib.hid hy
  clear hp hc hy
  go_wp2_with fail
  refine (gale.within_any _ _ _ _).mono ?_
  rintro e wx ⟨rfl, rfl⟩
  rw [HWI.out]
  go_wp2_with fail
  refine (reefed_any y t _ _ (SL.go HX.out HT.out) HCV.out HZ.out.2.1).mono ?_
  rintro e w4 ⟨v4, rfl, hv4, hS4⟩
  have HV4 := Lib.hid (SL.go hv4 (Step.refl _))
  have HT4 := Lib.hid (HT.out.trans hS4)
  clear hv4 hS4 e1 e2 g2
  go_wp2
  go_ret2
  exact ⟨_, rfl, by rw [← HY.out]; exact HV4.out, HS.out.trans HT4.out⟩
end Go.Proofs.YtoanjaidfdkdpaaGreat
/- The gale chapter in plain words: plans, and that who keeps a plan stands. -/
namespace Go.BT
open Go
set_option linter.unusedVariables false
/-- The first hour that is above a limit. -/
def deadI (worst : List Int) (lim : Int) : Option Nat := worst.findIdx? fun n => decide (lim < n)
structure PlanS where
  begin_ : List Int
  next : Int
  call : Int
def minutesAt (s : Site) (i : Nat) : Int := match s.stages[i]? with | some x => x.minutes | none => 0
def leftAt (s : Site) (st : PlanS) (i h : Nat) : Int := min (60 * (h : Int)) st.next - minutesAt s i
def planStep (s : Site) (limits worst : List Int) (out : Int) (i : Nat) (st : PlanS) : Option PlanS := match deadI worst (limits.getD i 0) with
  | none => some st
  | some h => if leftAt s st i h < 0 ∨ ((i : Int) = s.openS ∧ leftAt s st i h - out < 0) then none else some ⟨st.begin_.set i (leftAt s st i h), leftAt s st i h, if (i : Int) = s.openS then leftAt s st i h - out else st.call⟩
/-- The plan of the last stages. -/
def planTo (s : Site) (limits worst : List Int) (out : Int) : Nat → Option PlanS
  | 0 => some ⟨List.replicate s.stages.length (-1), 2880, -1⟩
  | k + 1 => match planTo s limits worst out k with
    | none => none
    | some st => planStep s limits worst out (s.stages.length - 1 - k) st
def askedB (s : Site) (limits worst : List Int) (now out : Int) : Bool := limitedB s limits && windsB worst && withinB now 0 ((s.stages.length : Int) - 1) && withinB out 0 60
def planR (s : Site) (limits worst : List Int) (now out : Int) : Option PlanS := planTo s limits worst out (s.stages.length - now.toNat)
def planC (s : Site) (limits worst : List Int) (now out : Int) : Int := if siteB s = true then (if askedB s limits worst now out = true then (match planR s limits worst now out with | none => 11 | some _ => 0) else 2) else 1
def planB (s : Site) (limits worst : List Int) (now out : Int) : List Int := if planC s limits worst now out = 0 then (match planR s limits worst now out with | none => [] | some st => st.begin_) else []
def planCall (s : Site) (limits worst : List Int) (now out : Int) : Int := if planC s limits worst now out = 0 then (match planR s limits worst now out with | none => 0 | some st => st.call) else 0
/-- What a begin of a plan says of its stage. -/
def BeginOk (s : Site) (limits worst : List Int) (i : Nat) (b : Int) : Prop := match deadI worst (limits.getD i 0) with
  | none => b = -1
  | some h => 0 ≤ b ∧ b + minutesAt s i ≤ 60 * (h : Int)
theorem plan_begin {s : Site} {limits worst : List Int} {out : Int} : ∀ (k : Nat) (hk : k ≤ s.stages.length) (st : PlanS), planTo s limits worst out k = some st →
    st.begin_.length = s.stages.length ∧ (∀ i, i < s.stages.length - k → st.begin_.getD i 0 = -1) ∧ ∀ i, s.stages.length - k ≤ i → i < s.stages.length → BeginOk s limits worst i (st.begin_.getD i 0)
  | 0, hk, st, h => by
    unfold planTo at h
    obtain rfl := Option.some.inj h
    refine ⟨by simp, fun i hi => ?_, fun i h1 h2 => by omega⟩
    simp only [List.getD_eq_getElem?_getD, List.getElem?_replicate]
    rw [if_pos (by omega)]; rfl
  | k + 1, hk, st, h => by
    unfold planTo at h
    cases hp : planTo s limits worst out k with
    | none => rw [hp] at h; simp at h
    | some st0 =>
      rw [hp] at h
      obtain ⟨h1, h2, h3⟩ := plan_begin k (by omega) st0 hp
      simp only [planStep] at h
      cases hd : deadI worst (limits.getD (s.stages.length - 1 - k) 0) with
      | none =>
        rw [hd] at h
        obtain rfl := Option.some.inj h
        refine ⟨h1, fun i hi => h2 i (by omega), fun i h4 h5 => ?_⟩
        by_cases e : i = s.stages.length - 1 - k
        · subst e
          unfold BeginOk
          rw [hd]
          exact h2 _ (by omega)
        · exact h3 i (by omega) h5
      | some d =>
        rw [hd] at h
        simp only at h
        split at h
        · simp at h
        · rename_i hn
          obtain rfl := Option.some.inj h
          refine ⟨by simpa using h1, fun i hi => ?_, fun i h4 h5 => ?_⟩
          · have := h2 i (by omega)
            simp only [List.getD_eq_getElem?_getD, List.getElem?_set] at this ⊢
            rw [if_neg (by omega)]; exact this
          · by_cases e : i = s.stages.length - 1 - k
            · subst e
              simp only [List.getD_eq_getElem?_getD, List.getElem?_set]
              rw [if_pos trivial, if_pos (by omega)]
              unfold BeginOk
              rw [hd]
              simp only [Option.getD_some]
              have : ¬ leftAt s st0 (s.stages.length - 1 - k) d < 0 := fun q => hn (.inl q)
              refine ⟨by omega, ?_⟩
              unfold leftAt; omega
            · have := h3 i (by omega) h5
              simp only [List.getD_eq_getElem?_getD, List.getElem?_set] at this ⊢
              rw [if_neg (by omega)]; exact this
theorem dead_none {worst : List Int} {lim : Int} (h : deadI worst lim = none) {k : Nat} (hk : k < worst.length) : worst[k] ≤ lim := by
  unfold deadI at h
  rw [List.findIdx?_eq_none_iff] at h
  have := h _ (List.getElem_mem hk)
  simp only [decide_eq_false_iff_not] at this
  omega
theorem dead_some {worst : List Int} {lim : Int} {d : Nat} (h : deadI worst lim = some d) {k : Nat} (hk : k < worst.length) (hd : k < d) : worst[k] ≤ lim := by
  unfold deadI at h
  rw [List.findIdx?_eq_some_iff_getElem] at h
  obtain ⟨_, _, h2⟩ := h
  have := h2 k hd
  simp only [decide_eq_true_eq] at this
  omega
/-- A stage that is not left is one whose limit the hour's wind does not exceed. -/
theorem begin_hour {s : Site} {limits worst : List Int} {i : Nat} {b : Int} (h : BeginOk s limits worst i b) {k : Nat} (hk : k < worst.length) (hb : ¬ (0 ≤ b ∧ b + minutesAt s i ≤ 60 * (k : Int))) : worst[k] ≤ limits.getD i 0 := by
  unfold BeginOk at h
  split at h
  · rename_i hd
    exact dead_none hd hk
  · rename_i d hd
    exact dead_some hd hk (by omega)
theorem upto_lt {s : Site} (hs : SiteOk s) : ∀ {m n : Nat} (hn : n < s.levels.length) (hm : m ≤ n), s.levels[m].upto ≤ s.levels[n].upto
  | m, 0, hn, hm => by
    obtain rfl : m = 0 := by omega
    exact Int.le_refl _
  | m, n + 1, hn, hm => by
    by_cases e : m = n + 1
    · subst e; exact Int.le_refl _
    · have := upto_lt hs (m := m) (show n < s.levels.length by omega) (by omega)
      have := hs.rise n hn
      omega
/-- In a wind up to a limit the stage's tent stands. -/
theorem limit_stands {l : List Tst} {t : List Head} {s : Site} (hs : SiteOk s) {c w : Int} (hc : c ≠ 0) (h0 : 0 ≤ w) (hw : w ≤ limitL l t s c) :
    (∀ k (hk : k < s.levels.length), (∀ j (hj : j + 1 = k), s.levels[j].upto < w) → standB l (reefL c t) (blowL s.base s.levels[k].push) = true) ∧ ∀ j (hj : j + 1 = s.levels.length), w ≤ s.levels[j].upto := by
  unfold limitL at hw
  rw [if_neg hc] at hw
  have hle := standN_le (l := l) (t := reefL c t) (base := s.base) s.levels
  obtain ⟨n, hn⟩ : ∃ n, n = standN l (reefL c t) s.base s.levels := ⟨_, rfl⟩
  rw [← hn] at hw hle
  cases n with
  | zero => simp only [uptoN] at hw; omega
  | succ n =>
    simp only [uptoN, List.getElem?_eq_getElem (show n < s.levels.length by omega)] at hw
    refine ⟨fun k hk hj => standN_at s.levels k hk ?_, fun j hj => ?_⟩
    · rw [← hn]
      cases k with
      | zero => omega
      | succ k =>
        have h1 := hj k rfl
        by_cases q : k + 1 < n + 1
        · exact q
        · have := upto_lt hs (m := n) (n := k) (by omega) (by omega)
          omega
    · have := upto_lt hs (m := n) (n := j) (by omega) (by omega)
      omega
end Go.BT
/- Walks: whether numbers are limits of a site; the least of two numbers; the first hour above a limit. -/
namespace Go.Proofs.YtoanjaidfdkdpaaGreat
set_option linter.unusedSimpArgs false
set_option linter.unusedVariables false
open Go.RowKit Go.BT

theorem isNaN_any (a : Int) (w : World) : Calls Tryz.prog 107 #[.int .i64 a] w fun e w' => e = .returned (.bool false) ∧ w = w' := by
  have h : (a != a) = false := by simp
  go_enter Tryz.func107, Tryz.ntmps107
  go_wp2
  go_ret
  exact ⟨by simp, rfl⟩
theorem Less_any (a b : Int) (w : World) : Calls Tryz.prog 87 #[.int .i64 a, .int .i64 b] w fun e w' => e = .returned (.bool (decide (a < b))) ∧ w = w' := by
  go_enter Tryz.func87, Tryz.ntmps87
  go_wp2_with fail
  refine (isNaN_any _ _).mono ?_
  rintro e w' ⟨rfl, rfl⟩
  go_wp2
  go_ret
  exact ⟨by simp, rfl⟩
set_option maxRecDepth 100000 in
set_option maxHeartbeats 4000000 in
theorem IsSorted_ok (l : List Int) (v : Value) (w : World) (hv : SL (fun _ => False) w v l) (h0 : 1 ≤ l.length) (hs : ∀ j (hj : j + 1 < l.length), l[j] ≤ l[j + 1]) : Calls Tryz.prog 60 #[v] w fun e w' => e = .returned (.bool true) ∧ Step w w' := by
  have hm := hv.len
  obtain ⟨pv, cv, bv, ov, rfl, _, _, hp, hc, _⟩ := hv.ints
  obtain rfl := hp (by omega)
  have HC := Lib.hid hc
  have HS := Lib.hid hs
  have hw1 : IntKind.i64.wrap ((l.length : Int) - 1) = ((l.length - 1 : Nat) : Int) := by rw [IntKind.wrap_i64]; omega
  clear hv hp hc hs
  go_enter Tryz.func60, Tryz.ntmps60
  go_wp2
  go_loopw [3] (fun i wr => ∃ k : Nat, k < l.length ∧ i = .int .i64 k ∧ Step w wr) (fun i _ => (intOf i).toNat)
  case atStart => exact ⟨l.length - 1, by omega, by first | rfl | (rw [← hw1]), Step.refl _⟩
  case round =>
    obtain ⟨k, hk, rfl, hT⟩ := hrel
    have HT := Lib.hid hT
    clear hT hw1
    cases k with
    | zero =>
      have d0 : decide ((0 : Int) < ((0 : Nat) : Int)) = false := by decide
      go_wp2
      go_ret
      exact ⟨rfl, HT.out⟩
    | succ j =>
      have d0 : decide ((0 : Int) < ((j + 1 : Nat) : Int)) = true := decide_eq_true (by omega)
      have hjx : (0 : Int) ≤ (j : Int) ∧ (j : Int) < (l.length : Int) := by omega
      have hix : (0 : Int) ≤ ((j + 1 : Nat) : Int) ∧ ((j + 1 : Nat) : Int) < (l.length : Int) := by omega
      have hix2 : (0 : Int) ≤ (j : Int) + 1 ∧ (j : Int) + 1 < (l.length : Int) := by omega
      have htn : ((j : Int) + 1).toNat = j + 1 := by omega
      have hwj : IntKind.i64.wrap (j : Int) = (j : Int) := by rw [IntKind.wrap_i64]; omega
      have HLE := Lib.hid (HS.out j hk)
      have HE := Lib.hid (And.intro (HC.out (j + 1) hk) (HC.out j (by omega)))
      obtain ⟨a, ha⟩ : ∃ a, a = l[j + 1] := ⟨_, rfl⟩
      obtain ⟨b, hb⟩ : ∃ b, b = l[j]'(by omega) := ⟨_, rfl⟩
      rw [← ha, ← hb] at HE HLE
      have hd : decide (a < b) = false := decide_eq_false (by have := HLE.out; omega)
      clear ha hb
      go_upto_region 4 with (fail)
      obtain ⟨wo, hwo⟩ : ∃ W, W = wr := ⟨_, rfl⟩
      subst hwo
      have HTR := HT
      clear HT
      have HT := Lib.hid (Step.refl wo)
      refine wp_region_seq (kdOf [9] []) [0, 0, 3, 7, 0, 0, 32, 112, 240, 511] [0, 1, 2, 3, 4, 5, 6, 7, 8, 9] [] (by kernel_rfl) (by kernel_rfl) (fun i T z hi hk => by simp [kdOf] at hk <;> (try (split at hk <;> cases hk))) ?_
      intro Wx hWx
      have HTx := Lib.hid (HT.out.trans hWx)
      clear hWx HT
      have HT := HTx
      clear HTx
      have x0 := (HTR.out.trans HT.out).keeps.cell id HE.out.1
      have x1 := (HTR.out.trans HT.out).keeps.cell id HE.out.2
      repeat (first | (refine run_off rfl rfl (by rfl) ?_; (try simp only [Act.put, List.setIfInBounds_toArray, List.set_cons_zero, List.set_cons_succ])) | (refine run_chain_off rfl rfl (by rfl) (K0_mono _) ?_; (try simp only [Act.put, List.setIfInBounds_toArray, List.set_cons_zero, List.set_cons_succ])) | ((refine run_want rfl rfl (by rfl) ⟨?_, fun W hW => ?_, ?_⟩; rotate_left; (· (have d0 := hW.keeps.cell id x0; have d1 := hW.keeps.cell id x1; go_simp; (try with_reducible rfl)))); (try simp only [Act.put, List.setIfInBounds_toArray, List.set_cons_zero, List.set_cons_succ])))
      clear x0 x1
      refine run_chain rfl rfl (by rfl) (fun Wi hWi K' hK => ?_)
      have HTi := Lib.hid (HT.out.trans hWi)
      clear hWi HT
      go_simp
      refine (Less_any _ _ _).mono ?_
      rintro e wn ⟨rfl, rfl⟩
      rw [hd]
      have HT := HTi
      clear HTi
      refine hK _ _ (StepX.refl _ _) ?_
      (try simp only [Act.put, List.setIfInBounds_toArray, List.set_cons_zero, List.set_cons_succ])
      repeat (first | (refine run_off rfl rfl (by rfl) ?_; (try simp only [Act.put, List.setIfInBounds_toArray, List.set_cons_zero, List.set_cons_succ])) | (refine run_chain_off rfl rfl (by rfl) (K0_mono _) ?_; (try simp only [Act.put, List.setIfInBounds_toArray, List.set_cons_zero, List.set_cons_succ])) | ((refine run_want rfl rfl (by rfl) ⟨?_, fun W hW => ?_, ?_⟩; rotate_left; (· (skip; go_simp; (try with_reducible rfl)))); (try simp only [Act.put, List.setIfInBounds_toArray, List.set_cons_zero, List.set_cons_succ])))
      refine run_end (L := []) rfl (fun W6 hW6 => ?_)
      have HT6 := Lib.hid (HT.out.trans hW6)
      clear hW6 HT
      have HT := HT6
      clear HT6
      go_wp2
      go_roundw
      case rel => exact ⟨j, by omega, by go_num, HTR.out.trans HT.out⟩
      case measure => simp [intOf]
theorem least_any (a b : Int) (v : Value) (w : World) (hv : SL (fun _ => False) w v [a, b]) : Calls Tryz.prog 41 #[v] w fun e w' => e = .returned (.int .i64 (min a b)) ∧ Step w w' := by
  obtain ⟨pv, cv, bv, ov, rfl, _, _, hp, hc, _⟩ := hv.ints
  obtain rfl := hp (by simp)
  have e0 := hc 0 (by simp)
  have e1 := hc 1 (by simp)
  simp only [List.getElem_cons_zero, List.getElem_cons_succ, Nat.add_zero] at e0 e1
  have hlen : ([a, b] : List Int).length = 2 := rfl
  rw [hlen]
  have hmin : Calls Tryz.prog 63 #[.slice (some ⟨bv, ov, none⟩) 2 cv] w fun e w' => e = .returned (.int .i64 (min a b)) ∧ Step w w' := by
    clear hp hc hv hlen
    go_enter Tryz.func63, Tryz.ntmps63
    go_wp2
    go_loopw [3, 4] (fun m i wr => ((i = .int .i64 1 ∧ m = .int .i64 a) ∨ (i = .int .i64 2 ∧ m = .int .i64 (min a b))) ∧ Step w wr) (fun _ i _ => 2 - (intOf i).toNat)
    case atStart => exact ⟨.inl ⟨rfl, rfl⟩, Step.refl _⟩
    case round =>
      obtain ⟨hr, hT⟩ := hrel
      have HT := Lib.hid hT
      have e1 := HT.out.keeps.cell id e1
      clear hT
      rcases hr with ⟨rfl, rfl⟩ | ⟨rfl, rfl⟩
      · have hq : (if b < a then b else a) = min a b := by omega
        go_wp2
        go_roundw
        case rel => exact ⟨.inr ⟨rfl, by first | rfl | (rw [hq]) | (rw [← hq])⟩, HT.out⟩
        case measure => simp [intOf]
      · go_wp2
        go_ret
        exact ⟨rfl, HT.out⟩
  have HM := Lib.hid hmin
  clear hp hc hv hmin e0 e1
  go_enter Tryz.func41, Tryz.ntmps41
  go_wp2_with fail
  refine HM.out.mono ?_
  rintro e w' ⟨rfl, hS⟩
  go_wp2
  go_ret
  exact ⟨rfl, hS⟩
theorem lim1_any (n : Int) (w : World) : Calls Tryz.prog 59 #[.int .i64 n] w fun e w' => e = .returned (.bool (withinB n (-1) 1000)) ∧ Step w w' := by
  go_enter Tryz.func59, Tryz.ntmps59
  go_wp2_with fail
  refine (gale.within_any _ _ _ _).mono ?_
  rintro e w' ⟨rfl, rfl⟩
  go_wp2
  go_ret
  exact ⟨rfl, Step.refl _⟩
theorem plan1_any (n : Int) (w : World) : Calls Tryz.prog 38 #[.int .i64 n] w fun e w' => e = .returned (.bool (withinB n 0 1000)) ∧ Step w w' := by
  go_enter Tryz.func38, Tryz.ntmps38
  go_wp2_with fail
  refine (gale.within_any _ _ _ _).mono ?_
  rintro e w' ⟨rfl, rfl⟩
  go_wp2
  go_ret
  exact ⟨rfl, Step.refl _⟩
theorem all_lim1 (l : List Int) (v : Value) (w : World) (hv : SL (fun _ => False) w v l) : Calls Tryz.prog 37 #[v, .func (.func 59) #[] #[]] w fun e w' => e = .returned (.bool (l.all (fun n => withinB n (-1) 1000))) ∧ Step w w' :=
  (all_int (fun _ => False) l v w 59 #[] (Go.Proofs.enters_of Tryz.func59 (by kernel_rfl) rfl) (fun n => withinB n (-1) 1000) (fun _ W => Step w W) (fun _ => False) (fun _ h => h.elim)
    (fun _ W hW => hv.keep (.of_step hW)) (fun _ _ _ h1 h2 => h1.trans h2) (Step.refl _) (fun i hi W u hW _ hu => by
      subst hu
      refine (lim1_any _ W).mono ?_
      rintro e w' ⟨rfl, hs⟩
      exact ⟨rfl, hW.trans hs, hs⟩)).mono fun e w' ⟨h, k, _, _, hs⟩ => ⟨h, hs⟩
theorem all_plan1 (l : List Int) (v : Value) (w : World) (hv : SL (fun _ => False) w v l) : Calls Tryz.prog 37 #[v, .func (.func 38) #[] #[]] w fun e w' => e = .returned (.bool (l.all (fun n => withinB n 0 1000))) ∧ Step w w' :=
  (all_int (fun _ => False) l v w 38 #[] (Go.Proofs.enters_of Tryz.func38 (by kernel_rfl) rfl) (fun n => withinB n 0 1000) (fun _ W => Step w W) (fun _ => False) (fun _ h => h.elim)
    (fun _ W hW => hv.keep (.of_step hW)) (fun _ _ _ h1 h2 => h1.trans h2) (Step.refl _) (fun i hi W u hW _ hu => by
      subst hu
      refine (plan1_any _ W).mono ?_
      rintro e w' ⟨rfl, hs⟩
      exact ⟨rfl, hW.trans hs, hs⟩)).mono fun e w' ⟨h, k, _, _, hs⟩ => ⟨h, hs⟩
end Go.Proofs.YtoanjaidfdkdpaaGreat
/- As Seq, and a slice whose elements are read in the region may be made in it beside the calls: a region that draws its order, walked in one order: what is silent (it reads, and leaves the world) may come whenever its operands are there; the calls wait for one another; the making of a variable may come whenever; the stores come last. -/
namespace Go.BT.Mk
open Go.BT
open Go.RowKit

inductive Kd where
  | silent | chain | alloc (T : TypeId) (z : Value) | make (T : TypeId) (n : Nat) (xs : Array Value) | pure


/-- What is made: a variable (z: its zero), or a slice of constants (z: the tuple of its cells). -/
def madeV (z : Value) (g : Nat) : Value := match z with
  | .tuple xs => .slice (some ⟨g, 0, none⟩) xs.size xs.size
  | _ => .pointer (some ⟨g, 0, none⟩)
def madeC (z : Value) : Array Value := match z with
  | .tuple xs => xs
  | z => z.cells
def isTup (z : Value) : Bool := match z with
  | .tuple _ => true
  | _ => false
def Makes (P : Program) (ops : Array Oper) (i : Nat) (T : TypeId) (z : Value) : Prop := match z with
  | .tuple xs => ∃ o, ops[i]? = some o ∧ ∀ (a : Act) (w : World), (execOp a.eval o).run P w = .ok (.value (.slice (some ⟨w.heap.size, 0, none⟩) xs.size xs.size)) (w.alloc (.cells xs T))
  | z => (P.info? T).bind (·.zero) = some z
/-- What a slice is made of, by the frame as it is. -/
def MakesAt (P : Program) (ops : Array Oper) (i : Nat) (T : TypeId) (n : Nat) (xs : Array Value) (a : Act) : Prop :=
  ∃ o, ops[i]? = some o ∧ Region.wanted o (yielded ops a.tmps) = true ∧ ∀ w : World, (execOp a.eval o).run P w = .ok (.value (.slice (some ⟨w.heap.size, 0, none⟩) n n)) (w.alloc (.cells xs T))
/-- No way out but the ordinary one. -/
def QF : Exit → Act → World → Prop := fun _ _ _ => False
abbrev Cont := (Nat → Prop) → Act → World → Prop
def ContMono (X : Nat → Prop) (K : Cont) : Prop := ∀ (N N' : Nat → Prop) a w w', (∀ g, N' g → N g) → StepX X w w' → K N a w → K N' a w'

section
variable (P : Program) (ops : Array Oper) (X : Nat → Prop) (base : Nat) (kd : Nat → Kd)

/-- One operation. N: what is known of the number of a block that was made at whatever time. -/
def go (i : Nat) (K : Cont) : Cont := fun N a w =>
  match kd i with
  | .silent => ∃ o v, ops[i]? = some o ∧ YieldsIf P ops (StepX X w) o v a ∧ K N (a.put o.dst v) w
  | .chain => ∀ W, StepX X w W → wpOp P ops QF i (fun a' w' => StepX X W w' ∧ K (fun g => N g ∧ (g < W.heap.size ∨ w'.heap.size ≤ g)) a' w') a W
  | .alloc T z => ∀ W g, StepX X w W → W.heap[g]? = some (.cells (madeC z) T (0, 0)) → base ≤ g → N g → K (fun x => N x ∧ x ≠ g) (a.put ((ops[i]?).bind (·.dst)) (madeV z g)) W
  | .make T n xs => MakesAt P ops i T n xs a ∧ ∀ W g, StepX X w W → W.heap[g]? = some (.cells xs T (0, 0)) → base ≤ g → N g → K (fun x => N x ∧ x ≠ g) (a.put ((ops[i]?).bind (·.dst)) (.slice (some ⟨g, 0, none⟩) n n)) W
  | .pure => ∃ o v, ops[i]? = some o ∧ YieldsIf P ops (fun _ => True) o v a ∧ K N (a.put o.dst v) w

def run (l : List Nat) (K : Cont) : Cont := l.foldr (fun i K => go P ops X base kd i K) K

variable {P ops X base kd}

theorem YieldsIf.step {o : Oper} {v : Value} {a : Act} {w w' : World} (h : YieldsIf P ops (StepX X w) o v a) (hs : StepX X w w') : YieldsIf P ops (StepX X w') o v a :=
  h.imp (fun ⟨hw, hv⟩ => ⟨hw, fun W hW => hv W (hs.trans hW)⟩) id

theorem go_cong {i : Nat} {K K' : Cont} (h : ∀ N a w, K N a w → K' N a w) {N : Nat → Prop} {a : Act} {w : World} (hg : go P ops X base kd i K N a w) : go P ops X base kd i K' N a w := by
  unfold go at *
  split at hg
  · obtain ⟨o, v, ho, hy, hk⟩ := hg; exact ⟨o, v, ho, hy, h _ _ _ hk⟩
  · exact fun W hW => wpOp_mono (fun a' w' ⟨hs, hk⟩ => ⟨hs, h _ _ _ hk⟩) (hg W hW)
  · exact fun W g h1 h2 h3 h4 => h _ _ _ (hg W g h1 h2 h3 h4)
  · exact ⟨hg.1, fun W g h1 h2 h3 h4 => h _ _ _ (hg.2 W g h1 h2 h3 h4)⟩
  · obtain ⟨o, v, ho, hy, hk⟩ := hg; exact ⟨o, v, ho, hy, h _ _ _ hk⟩

theorem go_mono {i : Nat} {K : Cont} (hK : ContMono X K) : ContMono X (go P ops X base kd i K) := by
  intro N N' a w w' hN hs hg
  unfold go at *
  split at hg
  · obtain ⟨o, v, ho, hy, hk⟩ := hg; exact ⟨o, v, ho, YieldsIf.step hy hs, hK _ _ _ _ _ hN hs hk⟩
  · exact fun W hW => wpOp_mono (fun a' w' ⟨hs', hk⟩ => ⟨hs', hK _ _ _ _ _ (fun g ⟨h1, h2⟩ => ⟨hN g h1, h2⟩) (StepX.refl _ _) hk⟩) (hg W (hs.trans hW))
  · exact fun W g h1 h2 h3 h4 => hK _ _ _ _ _ (fun x ⟨h5, h6⟩ => ⟨hN x h5, h6⟩) (StepX.refl _ _) (hg W g (hs.trans h1) h2 h3 (hN g h4))
  · exact ⟨hg.1, fun W g h1 h2 h3 h4 => hK _ _ _ _ _ (fun x ⟨h5, h6⟩ => ⟨hN x h5, h6⟩) (StepX.refl _ _) (hg.2 W g (hs.trans h1) h2 h3 (hN g h4))⟩
  · obtain ⟨o, v, ho, hy, hk⟩ := hg; exact ⟨o, v, ho, hy, hK _ _ _ _ _ hN hs hk⟩

theorem run_mono {K : Cont} (hK : ContMono X K) : ∀ l, ContMono X (run P ops X base kd l K)
  | [] => hK
  | _ :: l => go_mono (run_mono hK l)

/-- A temporary that an operation does not look at may have been written before it. -/
theorem wpOp_under {j : Nat} {oj : Oper} {dst : Option Tmp} {v : Value} (hj : ops[j]? = some oj) (h1 : ∀ d, dst = some d → d ∉ oj.looksAt ops) (h2 : ∀ d, dst = some d → oj.dst ≠ some d)
    (hsj : ∀ cs b, oj.op ≠ .select cs b) {K : Act → World → Prop} {a : Act} {w : World} (h : wpOp P ops QF j K a w) :
    wpOp P ops QF j (fun a' w' => ∃ a0, a' = a0.put dst v ∧ K a0 w') (a.put dst v) w := by
  unfold wpOp at *
  simp only [hj] at *
  rw [wanted_put oj a dst v h1]
  split
  · rename_i hw
    simp only [hw, if_true] at h
    rcases h with h | ⟨_, a0, w0, hF⟩
    case inr => exact hF.elim
    refine .inl ?_
    unfold Oper.wp at *
    rw [execOp_put oj hsj a dst v h1]
    generalize (execOp a.eval oj).run P w = r at *
    cases r with
    | ok n w' =>
      cases n <;> simp only [Oper.upon] at h ⊢
      case value u => exact ⟨_, (Act.put_comm a v u h2), h⟩
      case skip => exact ⟨_, (Act.put_comm a v undef h2), h⟩
      case defer d => exact ⟨_, (by rw [← Act.put_comm _ v undef h2]; cases dst <;> rfl), h⟩
      case enter f args =>
        refine Calls.mono h fun e w'' he => ?_
        cases e with
        | returned u => exact ⟨_, (Act.put_comm a v u h2), he⟩
        | panicked c => exact he.elim
        | outgrown => exact he
      case row row args => exact Rows.mono h fun u w'' he => ⟨_, (Act.put_comm a v u h2), he⟩
    | halt x w' =>
      cases x <;> simp only [Oper.upon] at h ⊢
      case panic u => exact h.elim
  · rename_i hw
    simp only [hw] at h
    exact ⟨_, (Act.put_comm a v undef h2), h⟩

theorem calls_ex {f : FuncId} {args : Array Value} {w : World} {R : Ending → World → Prop} (h : Calls P f args w R) : ∃ e w', R e w' := by
  obtain ⟨e, w', _, hR, _⟩ := h []
  exact ⟨e, w', hR⟩
/-- What holds of the frame behind an operation, and does not look at what the operation wrote, held ahead of it. -/
theorem wpOp_pure {i : Nat} {oi : Oper} (hi : ops[i]? = some oi) {Φ : Act → Prop} (hΦ : ∀ a v, Φ (a.put oi.dst v) → Φ a) (hD : ∀ (a : Act) (d : Deferred), Φ { a with defers := d :: a.defers } → Φ a) {K : Act → World → Prop} {a : Act} {w : World} (h : wpOp P ops QF i K a w) (hK : ∀ a' w', K a' w' → Φ a') : Φ a := by
  unfold wpOp at h
  simp only [hi] at h
  split at h
  · rcases h with h | ⟨_, a0, w0, hF⟩
    case inr => exact hF.elim
    unfold Oper.wp at h
    generalize (execOp a.eval oi).run P w = r at h
    cases r with
    | ok n w' =>
      cases n <;> simp only [Oper.upon] at h
      case value u => exact hΦ a u (hK _ _ h)
      case skip => exact hΦ a undef (hK _ _ h)
      case defer d => exact hD a d (hΦ _ undef (hK _ _ h))
      case enter f args =>
        obtain ⟨e, w'', he⟩ := calls_ex h
        cases e with
        | returned u => exact hΦ a u (hK _ _ he)
        | panicked c => exact he.elim
        | outgrown => obtain ⟨_, _, hF⟩ := he; exact hF.elim
      case row row args =>
        obtain ⟨u, w'', he, _⟩ := h (Frame.enter P 0 #[] .normal) []
        exact hΦ a u (hK _ _ he)
      all_goals exact h.elim
    | halt x w' => cases x <;> simp only [Oper.upon] at h <;> exact h.elim
  · exact hΦ a undef (hK _ _ h)

/-- What holds of the frame ahead of an operation, and does not look at what the operation writes, holds behind it. -/
theorem wpOp_keep {i : Nat} {oi : Oper} (hi : ops[i]? = some oi) {Φ : Act → Prop} (hΦ : ∀ a v, Φ a → Φ (a.put oi.dst v)) (hD : ∀ (a : Act) (d : Deferred), Φ a → Φ { a with defers := d :: a.defers }) {K : Act → World → Prop} {a : Act} {w : World} (h : wpOp P ops QF i K a w) (ha : Φ a) : wpOp P ops QF i (fun a' w' => K a' w' ∧ Φ a') a w := by
  unfold wpOp at *
  simp only [hi] at *
  split
  · rename_i hw
    simp only [hw, if_true] at h
    rcases h with h | ⟨_, a0, w0, hF⟩
    case inr => exact hF.elim
    refine .inl ?_
    unfold Oper.wp at *
    generalize (execOp a.eval oi).run P w = r at *
    cases r with
    | ok n w' =>
      cases n <;> simp only [Oper.upon] at h ⊢
      case value u => exact ⟨h, hΦ _ _ ha⟩
      case skip => exact ⟨h, hΦ _ _ ha⟩
      case defer d => exact ⟨h, hΦ _ _ (hD _ _ ha)⟩
      case enter f args =>
        refine Calls.mono h fun e w'' he => ?_
        cases e with
        | returned u => exact ⟨he, hΦ _ _ ha⟩
        | panicked c => exact he.elim
        | outgrown => exact he
      case row row args => exact Rows.mono h fun u w'' he => ⟨he, hΦ _ _ ha⟩
    | halt x w' =>
      cases x <;> simp only [Oper.upon] at h ⊢
      case panic u => exact h.elim
  · rename_i hw
    simp only [hw] at h
    exact ⟨h, hΦ _ _ ha⟩
theorem YieldsIf.same {o : Oper} {v v' : Value} {a : Act} (h : YieldsIf P ops (fun _ => True) o v a) (h' : YieldsIf P ops (fun _ => True) o v' a) (w : World) : v = v' := by
  rcases h with ⟨h1, h2⟩ | ⟨h1, h2⟩ <;> rcases h' with ⟨k1, k2⟩ | ⟨k1, k2⟩
  · have e := (h2 w trivial).symm.trans (k2 w trivial)
    injection e with e
    injection e
  · rw [h1] at k1; cases k1
  · rw [h1] at k1; cases k1
  · rw [h2, k2]

/-- Which may change places: what is silent with anything; a variable's making with a call before it, or with another making. -/
def swaps : Kd → Kd → Bool
  | .silent, _ => true
  | .pure, _ => true
  | .chain, .pure => true
  | .chain, .alloc _ _ => true
  | .alloc _ _, .alloc _ _ => true
  | .chain, .make _ _ _ => true
  | .make _ _ _, .alloc _ _ => true
  | _, _ => false

theorem exch {i j : Nat} {oi oj : Oper} (hi : ops[i]? = some oi) (hj : ops[j]? = some oj) (hap : oi.apart ops oj = true)
    (hsi : ∀ cs b, oi.op ≠ .select cs b) (hsj : ∀ cs b, oj.op ≠ .select cs b) (hsw : swaps (kd i) (kd j) = true) (hX : ∀ j, X j → j < base) {K : Cont} (hK : ContMono X K) {N : Nat → Prop} {a : Act} {w : World}
    (h : go P ops X base kd i (go P ops X base kd j K) N a w) : go P ops X base kd j (go P ops X base kd i K) N a w := by
  obtain ⟨h1, h2, h3⟩ := Oper.apart_spec hap
  have keepI : ∀ {S : World → Prop} {v : Value} {a : Act} (u : Value), YieldsIf P ops S oi v a → YieldsIf P ops S oi v (a.put oj.dst u) := fun {S v a} u hy =>
    hy.of_same (execOp_put oi hsi a oj.dst u h3) (wanted_put oi a oj.dst u h3)
  have backJ : ∀ {S : World → Prop} {v u : Value} {a : Act}, YieldsIf P ops S oj v (a.put oi.dst u) → YieldsIf P ops S oj v a := fun {S v u a} hy =>
    hy.of_same (execOp_put oj hsj a oi.dst u h1).symm (wanted_put oj a oi.dst u h1).symm
  have hdi : (ops[i]?).bind (·.dst) = oi.dst := by rw [hi]; rfl
  have hdj : (ops[j]?).bind (·.dst) = oj.dst := by rw [hj]; rfl
  have hsome : ∀ {w w' : World} {g : Nat} {o : Obj}, StepX X w w' → base ≤ g → w.heap[g]? = some o → w'.heap[g]? = some o := fun {w w' g o} hs hb hg => by
    rw [hs.block g (Array.getElem?_eq_some_iff.1 hg).1 (fun hx => by have := hX g hx; omega)]; exact hg
  have makesBack : ∀ {T : TypeId} {n : Nat} {xs : Array Value} {a : Act} {v : Value}, MakesAt P ops j T n xs (a.put oi.dst v) → MakesAt P ops j T n xs a := fun {T n xs a v} ⟨o, ho, hg, hr⟩ => by
    obtain rfl : oj = o := by rw [hj] at ho; exact Option.some.inj ho
    exact ⟨oj, hj, by rw [← wanted_put oj a oi.dst v h1]; exact hg, fun w => by rw [← execOp_put oj hsj a oi.dst v h1]; exact hr w⟩
  have makesKeep : ∀ {T : TypeId} {n : Nat} {xs : Array Value} {a : Act} {v : Value}, MakesAt P ops i T n xs a → MakesAt P ops i T n xs (a.put oj.dst v) := fun {T n xs a v} ⟨o, ho, hg, hr⟩ => by
    obtain rfl : oi = o := by rw [hi] at ho; exact Option.some.inj ho
    exact ⟨oi, hi, by rw [wanted_put oi a oj.dst v h3]; exact hg, fun w => by rw [execOp_put oi hsi a oj.dst v h3]; exact hr w⟩
  cases hki : kd i with
  | make T n xs =>
    cases hkj : kd j with
    | silent => simp [hki, hkj, swaps] at hsw
    | chain => simp [hki, hkj, swaps] at hsw
    | make T' n' xs' => simp [hki, hkj, swaps] at hsw
    | pure => simp [hki, hkj, swaps] at hsw
    | alloc T' z' =>
      simp only [go, hki, hkj] at h ⊢
      intro W' g' hs' hb' hg' hN'
      refine ⟨by rw [hdj]; exact makesKeep h.1, ?_⟩
      intro W g hs hb hg ⟨hN, hne⟩
      have h := h.2
      rw [hdi, hdj] at *
      rw [← Act.put_comm a _ _ h2]
      exact hK _ _ _ _ _ (fun x ⟨⟨q1, q2⟩, q3⟩ => ⟨⟨q1, q3⟩, q2⟩) (StepX.refl _ _) (h W g (hs'.trans hs) hb hg hN W g' (StepX.refl _ _) (hsome hs hg' hb') hg' ⟨hN', fun e => hne e.symm⟩)
  | silent =>
    cases hkj : kd j with
    | make T n xs =>
      simp only [go, hki, hkj] at h ⊢
      obtain ⟨o, v, ho, hy, hm, hk⟩ := h
      obtain rfl : oi = o := by rw [hi] at ho; exact Option.some.inj ho
      refine ⟨makesBack hm, fun W g hs hb hg hN => ⟨_, v, hi, ?_, ?_⟩⟩
      · rw [hdj]; exact keepI _ (YieldsIf.step hy hs)
      · rw [hdj, ← Act.put_comm a v _ h2, ← hdj]
        exact hk W g hs hb hg hN
    | silent =>
      simp only [go, hki, hkj] at h ⊢
      obtain ⟨o, v, ho, hy, o', v', ho', hy', hk⟩ := h
      obtain rfl : oi = o := by rw [hi] at ho; exact Option.some.inj ho
      obtain rfl : oj = o' := by rw [hj] at ho'; exact Option.some.inj ho'
      exact ⟨_, v', hj, backJ hy', _, v, hi, keepI _ hy, by rw [← Act.put_comm a v v' h2]; exact hk⟩
    | chain =>
      simp only [go, hki, hkj] at h ⊢
      obtain ⟨o, v, ho, hy, hk⟩ := h
      obtain rfl : oi = o := by rw [hi] at ho; exact Option.some.inj ho
      intro W hW
      refine wpOp_mono (fun a' w' hh => ?_) (wpOp_putIf (S := StepX X w) hj hap hsi hsj (fun _ _ _ hq => hq) hy (hk W hW))
      obtain ⟨hy', hs, hk'⟩ := hh
      exact ⟨hs, _, v, hi, YieldsIf.step hy' (hW.trans hs), hk'⟩
    | alloc T z =>
      simp only [go, hki, hkj] at h ⊢
      obtain ⟨o, v, ho, hy, hk⟩ := h
      obtain rfl : oi = o := by rw [hi] at ho; exact Option.some.inj ho
      refine fun W g hs hb hg hN => ⟨_, v, hi, ?_, ?_⟩
      · rw [hdj]; exact keepI _ (YieldsIf.step hy hs)
      · rw [hdj, ← Act.put_comm a v _ h2, ← hdj]
        exact hk W g hs hb hg hN
    | pure =>
      simp only [go, hki, hkj] at h ⊢
      obtain ⟨o, v, ho, hy, o', v', ho', hy', hk⟩ := h
      obtain rfl : oi = o := by rw [hi] at ho; exact Option.some.inj ho
      obtain rfl : oj = o' := by rw [hj] at ho'; exact Option.some.inj ho'
      exact ⟨_, v', hj, backJ hy', _, v, hi, keepI _ hy, by rw [← Act.put_comm a v v' h2]; exact hk⟩
  | pure =>
    cases hkj : kd j with
    | make T n xs =>
      simp only [go, hki, hkj] at h ⊢
      obtain ⟨o, v, ho, hy, hm, hk⟩ := h
      obtain rfl : oi = o := by rw [hi] at ho; exact Option.some.inj ho
      refine ⟨makesBack hm, fun W g hs hb hg hN => ⟨_, v, hi, ?_, ?_⟩⟩
      · rw [hdj]; exact keepI _ hy
      · rw [hdj, ← Act.put_comm a v _ h2, ← hdj]
        exact hk W g hs hb hg hN
    | silent =>
      simp only [go, hki, hkj] at h ⊢
      obtain ⟨o, v, ho, hy, o', v', ho', hy', hk⟩ := h
      obtain rfl : oi = o := by rw [hi] at ho; exact Option.some.inj ho
      obtain rfl : oj = o' := by rw [hj] at ho'; exact Option.some.inj ho'
      exact ⟨_, v', hj, backJ hy', _, v, hi, keepI _ hy, by rw [← Act.put_comm a v v' h2]; exact hk⟩
    | chain =>
      simp only [go, hki, hkj] at h ⊢
      obtain ⟨o, v, ho, hy, hk⟩ := h
      obtain rfl : oi = o := by rw [hi] at ho; exact Option.some.inj ho
      intro W hW
      refine wpOp_mono (fun a' w' hh => ?_) (wpOp_putIf (S := fun _ => True) hj hap hsi hsj (fun _ _ _ hq => hq) hy (hk W hW))
      obtain ⟨hy', hs, hk'⟩ := hh
      exact ⟨hs, _, v, hi, hy', hk'⟩
    | alloc T z =>
      simp only [go, hki, hkj] at h ⊢
      obtain ⟨o, v, ho, hy, hk⟩ := h
      obtain rfl : oi = o := by rw [hi] at ho; exact Option.some.inj ho
      refine fun W g hs hb hg hN => ⟨_, v, hi, ?_, ?_⟩
      · rw [hdj]; exact keepI _ hy
      · rw [hdj, ← Act.put_comm a v _ h2, ← hdj]
        exact hk W g hs hb hg hN
    | pure =>
      simp only [go, hki, hkj] at h ⊢
      obtain ⟨o, v, ho, hy, o', v', ho', hy', hk⟩ := h
      obtain rfl : oi = o := by rw [hi] at ho; exact Option.some.inj ho
      obtain rfl : oj = o' := by rw [hj] at ho'; exact Option.some.inj ho'
      exact ⟨_, v', hj, backJ hy', _, v, hi, keepI _ hy, by rw [← Act.put_comm a v v' h2]; exact hk⟩
  | chain =>
    cases hkj : kd j with
    | silent => simp [hki, hkj, swaps] at hsw
    | chain => simp [hki, hkj, swaps] at hsw
    | pure =>
      simp only [go, hki, hkj] at h ⊢
      obtain ⟨v, hv⟩ : ∃ v, YieldsIf P ops (fun _ => True) oj v a := wpOp_pure hi (Φ := fun a => ∃ v, YieldsIf P ops (fun _ => True) oj v a) (fun a u ⟨v, hm⟩ => ⟨v, backJ hm⟩) (fun a d ⟨v, hm⟩ => ⟨v, hm.of_same rfl rfl⟩) (h w (StepX.refl _ _)) (fun a' w' hh => by
        obtain ⟨_, o, v, ho, hy, _⟩ := hh
        obtain rfl : oj = o := by rw [hj] at ho; exact Option.some.inj ho
        exact ⟨v, hy⟩)
      refine ⟨_, v, hj, hv, fun W hW => ?_⟩
      have hkeep := wpOp_keep hi (Φ := fun a => YieldsIf P ops (fun _ => True) oj v a) (fun a u hm => hm.of_same (execOp_put oj hsj a oi.dst u h1) (wanted_put oj a oi.dst u h1)) (fun a d hm => hm.of_same rfl rfl) (h W hW) hv
      refine wpOp_mono (fun a' w' hh => ?_) (wpOp_under (dst := oj.dst) (v := v) hi h3 (fun d hd he => h2 d he hd) hsi hkeep)
      obtain ⟨a0, rfl, ⟨hs, o, v', ho, hy, hk⟩, hv0⟩ := hh
      obtain rfl : oj = o := by rw [hj] at ho; exact Option.some.inj ho
      obtain rfl := YieldsIf.same hv0 hy w'
      exact ⟨hs, hk⟩
    | make T n xs =>
      simp only [go, hki, hkj] at h ⊢
      have hmk : MakesAt P ops j T n xs a := wpOp_pure hi (Φ := MakesAt P ops j T n xs) (fun a v hm => makesBack hm) (fun a d hm => hm) (h w (StepX.refl _ _)) (fun a' w' hh => hh.2.1)
      refine ⟨hmk, ?_⟩
      intro W0 g hs0 hb hg hN W hW
      refine wpOp_mono (fun a' w' hh => ?_) (wpOp_under (dst := (ops[j]?).bind (·.dst)) (v := .slice (some ⟨g, 0, none⟩) n n) hi (by rw [hdj]; exact h3) (by rw [hdj]; exact fun d hd he => h2 d he hd) hsi (h W (hs0.trans hW)))
      obtain ⟨a0, rfl, hs, hk⟩ := hh
      have hlt : g < W.heap.size := Nat.lt_of_lt_of_le (Array.getElem?_eq_some_iff.1 hb).1 hW.size
      exact ⟨hs, hK _ _ _ _ _ (fun x ⟨⟨q1, q2⟩, q3⟩ => ⟨⟨q1, q3⟩, q2⟩) (StepX.refl _ _) (hk.2 w' g (StepX.refl _ _) (hsome (hW.trans hs) hg hb) hg ⟨hN, .inl hlt⟩)⟩
    | alloc T z =>
      simp only [go, hki, hkj] at h ⊢
      intro W0 g hs0 hb hg hN W hW
      refine wpOp_mono (fun a' w' hh => ?_) (wpOp_under (dst := (ops[j]?).bind (·.dst)) (v := madeV z g) hi (by rw [hdj]; exact h3) (by rw [hdj]; exact fun d hd he => h2 d he hd) hsi (h W (hs0.trans hW)))
      obtain ⟨a0, rfl, hs, hk⟩ := hh
      have hlt : g < W.heap.size := Nat.lt_of_lt_of_le (Array.getElem?_eq_some_iff.1 hb).1 hW.size
      exact ⟨hs, hK _ _ _ _ _ (fun x ⟨⟨q1, q2⟩, q3⟩ => ⟨⟨q1, q3⟩, q2⟩) (StepX.refl _ _) (hk w' g (StepX.refl _ _) (hsome (hW.trans hs) hg hb) hg ⟨hN, .inl hlt⟩)⟩
  | alloc T z =>
    cases hkj : kd j with
    | silent => simp [hki, hkj, swaps] at hsw
    | chain => simp [hki, hkj, swaps] at hsw
    | make T' n' xs' => simp [hki, hkj, swaps] at hsw
    | pure => simp [hki, hkj, swaps] at hsw
    | alloc T' z' =>
      simp only [go, hki, hkj] at h ⊢
      intro W' g' hs' hb' hg' hN' W g hs hb hg ⟨hN, hne⟩
      rw [hdi, hdj] at *
      rw [← Act.put_comm a _ _ h2]
      exact hK _ _ _ _ _ (fun x ⟨⟨q1, q2⟩, q3⟩ => ⟨⟨q1, q3⟩, q2⟩) (StepX.refl _ _) (h W g (hs'.trans hs) hb hg hN W g' (StepX.refl _ _) (hsome hs hg' hb') hg' ⟨hN', fun e => hne e.symm⟩)

/-- tab: of each operation the set of those that stand before it by the region's own edges, as bits. -/
def bitsOf (tab : List Nat) (j : Nat) (l : List Edge) : Nat := l.foldl (fun acc e => if Region.binds .any e && decide (e.on < j) then acc ||| (2 ^ e.on ||| tab.getD e.on 0) else acc) 0
def okTab (tab : List Nat) (ops : Array Oper) : Bool := (List.range ops.size).all fun j => match ops[j]? with
  | none => true
  | some o => tab.getD j 0 == bitsOf tab j o.after.toList
def ancB (tab : List Nat) (i j : Nat) : Bool := (tab.getD j 0).testBit i
theorem bits_of {tab : List Nat} {j i : Nat} : ∀ {l : List Edge} {acc : Nat}, (l.foldl (fun acc e => if Region.binds .any e && decide (e.on < j) then acc ||| (2 ^ e.on ||| tab.getD e.on 0) else acc) acc).testBit i = true →
    acc.testBit i = true ∨ ∃ e ∈ l, Region.binds .any e = true ∧ e.on < j ∧ (e.on = i ∨ ancB tab i e.on = true) := by
  intro l
  induction l with
  | nil => intro acc h; exact .inl h
  | cons x l ih =>
    intro acc h
    rw [List.foldl_cons] at h
    rcases ih h with h1 | ⟨e, he, h2⟩
    · split at h1
      · rename_i hx
        simp only [Bool.and_eq_true, decide_eq_true_eq] at hx
        rw [Nat.testBit_or, Nat.testBit_or, Nat.testBit_two_pow, Bool.or_eq_true, Bool.or_eq_true, decide_eq_true_eq] at h1
        rcases h1 with h1 | h1
        · exact .inl h1
        · exact .inr ⟨x, List.mem_cons_self, hx.1, hx.2, h1⟩
      · exact .inl h1
    · exact .inr ⟨e, List.mem_cons_of_mem _ he, h2⟩
def okPair (tab : List Nat) (ops : Array Oper) (kd : Nat → Kd) (i j : Nat) : Bool :=
  ancB tab i j || match ops[i]?, ops[j]? with
    | some oi, some oj => oi.apart ops oj && swaps (kd i) (kd j)
    | _, _ => false
def okList (tab : List Nat) (ops : Array Oper) (kd : Nat → Kd) : List Nat → Bool
  | [] => true
  | i :: l => l.all (okPair tab ops kd i) && okList tab ops kd l
def okTail (tab : List Nat) (before : List Nat) : List Nat → Bool
  | [] => true
  | x :: t => before.all (fun y => ancB tab y x) && okTail tab (before ++ [x]) t
def isSil : Kd → Bool
  | .silent => true
  | _ => false
def isMove (ops : Array Oper) (i : Nat) : Bool := match ops[i]? with
  | some o => (match o.op with | .move _ => true | .extract _ _ => true | _ => false)
  | none => false
/-- May y wait till x of the tail has been carried out? -/
def okWait (strict : Bool) (tab : List Nat) (ops : Array Oper) (kd : Nat → Kd) (y x : Nat) : Bool :=
  ancB tab y x || (!strict && isSil (kd y) && isMove ops y && match ops[y]?, ops[x]? with
    | some oy, some ox => oy.apart ops ox
    | _, _ => false)
def okDeps (ops : Array Oper) (seen : List Nat) : List Nat → Bool
  | [] => true
  | x :: l => (match ops[x]? with
    | none => false
    | some o => o.after.all fun e => !Region.binds .any e || seen.contains e.on) && okDeps ops (seen ++ [x]) l
def okAlloc (ops : Array Oper) (kd : Nat → Kd) (l : List Nat) : Bool :=
  l.all fun i => match kd i, ops[i]? with
    | .alloc T z, some o => o.guard.isNone && (isTup z || match o.op with | .alloc T' => T == T' | _ => false)
    | .alloc _ _, none => false
    | _, _ => true
def okSeq (strict : Bool) (tab : List Nat) (ops : Array Oper) (kd : Nat → Kd) (l t : List Nat) : Bool :=
  okTab tab ops && okList tab ops kd l && (l.all fun y => t.all fun x => okWait strict tab ops kd y x) && okTail tab [] t && okDeps ops [] (l ++ t) && okAlloc ops kd l && Region.noSelect ops && (List.range ops.size).all (fun i => (l ++ t).contains i) && (l ++ t).all (fun i => decide (i < ops.size)) && decide (l ++ t).Nodup

def Closed (ops : Array Oper) (listed : Array Bool) : Prop :=
  ∀ x o, ops[x]? = some o → listed.getD x true = true → ∀ e ∈ o.after, Region.binds .any e = true → listed.getD e.on false = true

theorem getD_tf' {listed : Array Bool} {i : Nat} (h : i < listed.size) (hl : listed.getD i false = true) : listed.getD i true = true := by
  simp [h] at hl ⊢; exact hl
variable {tab : List Nat}
theorem anc_listed {listed : Array Bool} (hsz : listed.size = ops.size) (hc : Closed ops listed) (ht : okTab tab ops = true) : ∀ j i o, ops[j]? = some o → (∀ e ∈ o.after, Region.binds .any e = true → listed.getD e.on false = true) →
    ancB tab i j = true → listed.getD i false = true := by
  intro j
  induction j using Nat.strongRecOn with
  | _ j ih =>
    intro i o ho hd h
    have hj : j < ops.size := (Array.getElem?_eq_some_iff.1 ho).1
    have h1 := List.all_eq_true.1 ht j (List.mem_range.2 hj)
    simp only [ho, beq_iff_eq] at h1
    unfold ancB at h
    rw [h1] at h
    rcases bits_of h with h2 | ⟨e, he, hb, hlt, h2⟩
    · simp at h2
    · have hl := hd e (by simpa using he) hb
      rcases h2 with rfl | h2
      · exact hl
      · have hej : e.on < ops.size := by omega
        exact ih e.on hlt i ops[e.on] (Array.getElem?_eq_getElem hej) (hc e.on _ (Array.getElem?_eq_getElem hej) (getD_tf' (by omega) hl)) h2

theorem bring (hX : ∀ j, X j → j < base) {K : Cont} (hK : ContMono X K) (hsel : Region.noSelect ops = true) {j : Nat} {oj : Oper} (hj : ops[j]? = some oj) : ∀ (l1 l2 : List Nat) (N : Nat → Prop) (a : Act) (w : World),
    (∀ i ∈ l1, ∃ oi, ops[i]? = some oi ∧ oi.apart ops oj = true ∧ swaps (kd i) (kd j) = true) → run P ops X base kd (l1 ++ j :: l2) K N a w → go P ops X base kd j (run P ops X base kd (l1 ++ l2) K) N a w := by
  intro l1
  induction l1 with
  | nil => intro l2 N a w _ h; exact h
  | cons i l1 ih =>
    intro l2 N a w hall h
    obtain ⟨oi, hi, hap, hsw⟩ := hall i (by simp)
    have h' : go P ops X base kd i (go P ops X base kd j (run P ops X base kd (l1 ++ l2) K)) N a w :=
      go_cong (fun N a w hh => ih l2 N a w (fun k hk => hall k (by simp [hk])) hh) h
    exact exch hi hj hap (Region.noSelect_spec hsel i oi · · hi) (Region.noSelect_spec hsel j oj · · hj) hsw hX (run_mono hK _) h'

theorem okList_drop {l1 l2 : List Nat} {j : Nat} (h : okList tab ops kd (l1 ++ j :: l2) = true) : okList tab ops kd (l1 ++ l2) = true ∧ ∀ i ∈ l1, okPair tab ops kd i j = true := by
  induction l1 with
  | nil => simp only [List.nil_append, okList, Bool.and_eq_true] at h; exact ⟨h.2, by simp⟩
  | cons i l1 ih =>
    simp only [List.cons_append, okList, Bool.and_eq_true, List.all_eq_true] at h ⊢
    obtain ⟨h1, h2⟩ := ih h.2
    refine ⟨⟨fun x hx => h.1 x ?_, h1⟩, fun x hx => ?_⟩
    · simp only [List.mem_append, List.mem_cons] at hx ⊢; rcases hx with hx | hx <;> simp [hx]
    · rcases List.mem_cons.1 hx with rfl | hx
      · exact h.1 j (by simp)
      · exact h2 x hx

def TailOk (tab : List Nat) (l t : List Nat) : Prop := ∀ t1 x t2, t = t1 ++ x :: t2 → ∀ y ∈ l ++ t1, ancB tab y x = true
def DepsOk (ops : Array Oper) (listed : Array Bool) (L : List Nat) : Prop := ∀ L1 x L2, L = L1 ++ x :: L2 → ∃ o, ops[x]? = some o ∧ ∀ e ∈ o.after, Region.binds .any e = true → listed.getD e.on false = true ∨ e.on ∈ L1

theorem tailOk_of {t : List Nat} : ∀ {b : List Nat}, okTail tab b t = true → TailOk tab b t := by
  induction t with
  | nil => intro b _ t1 x t2 h; exact absurd h (by simp)
  | cons z t ih =>
    intro b h t1 x t2 he y hy
    simp only [okTail, Bool.and_eq_true, List.all_eq_true] at h
    cases t1 with
    | nil =>
      simp only [List.nil_append, List.cons.injEq] at he
      obtain ⟨rfl, rfl⟩ := he
      exact h.1 y (by simpa using hy)
    | cons z' t1 =>
      simp only [List.cons_append, List.cons.injEq] at he
      obtain ⟨rfl, rfl⟩ := he
      exact ih h.2 t1 x t2 rfl y (by simpa using hy)

theorem depsOk_of {listed : Array Bool} {L : List Nat} : ∀ {seen : List Nat}, okDeps ops seen L = true → ∀ L1 x L2, L = L1 ++ x :: L2 → ∃ o, ops[x]? = some o ∧ ∀ e ∈ o.after, Region.binds .any e = true → listed.getD e.on false = true ∨ e.on ∈ seen ++ L1 := by
  induction L with
  | nil => intro b _ t1 x t2 h; exact absurd h (by simp)
  | cons z t ih =>
    intro b h t1 x t2 he
    simp only [okDeps, Bool.and_eq_true] at h
    cases t1 with
    | nil =>
      simp only [List.nil_append, List.cons.injEq] at he
      obtain ⟨rfl, rfl⟩ := he
      cases ho : ops[z]? with
      | none => simp [ho] at h
      | some o =>
        simp only [ho, Array.all_eq_true_iff_forall_mem, Bool.or_eq_true, Bool.not_eq_true', List.contains_iff_mem] at h
        exact ⟨o, rfl, fun e he hb => .inr (by have := (h.1 e he).resolve_left (by simp [hb]); simpa using this)⟩
    | cons z' t1 =>
      simp only [List.cons_append, List.cons.injEq] at he
      obtain ⟨rfl, rfl⟩ := he
      obtain ⟨o, ho, hh⟩ := ih h.2 t1 x t2 rfl
      exact ⟨o, ho, fun e he hb => (hh e he hb).imp id (by simp)⟩

def K0 (P : Program) (ops : Array Oper) (X : Nat → Prop) (Q : Exit → Act → World → Prop) (t : List Nat) : Cont := fun _ a w => ∀ W, StepX X w W → wpOps P ops Q t a W
theorem K0_mono {Q : Exit → Act → World → Prop} (t : List Nat) : ContMono X (K0 P ops X Q t) := fun _ _ _ _ _ _ hs h W hW => h W (hs.trans hW)

theorem wpOp_any {Q : Exit → Act → World → Prop} {i : Nat} {K : Act → World → Prop} {a : Act} {w : World} (h : wpOp P ops QF i K a w) : wpOp P ops Q i K a w := by
  unfold wpOp at *
  cases ho : ops[i]? with
  | none => simp only [ho] at h; exact h
  | some o =>
    simp only [ho] at h ⊢
    split
    · rename_i hw
      simp only [hw, if_true] at h
      rcases h with h | ⟨_, a0, w0, hF⟩
      case inr => exact hF.elim
      refine .inl ?_
      unfold Oper.wp at *
      generalize (execOp a.eval o).run P w = r at *
      cases r with
      | ok n w' =>
        cases n <;> simp only [Oper.upon] at h ⊢ <;> first
          | exact h
          | exact Calls.mono h (fun e w'' he => by cases e <;> first | exact he | exact he.elim | (obtain ⟨_, _, hF⟩ := he; exact hF.elim))
      | halt x w' => cases x <;> simp only [Oper.upon] at h ⊢ <;> exact h.elim
    · rename_i hw
      simp only [hw] at h
      exact h

theorem wpOp_alloc {Q : Exit → Act → World → Prop} {i : Nat} {o : Oper} {T : TypeId} {z : Value} {K : Act → World → Prop} {a : Act} {w : World} (ho : ops[i]? = some o) (hop : (isTup z || match o.op with | .alloc T' => T == T' | _ => false) = true) (hg : o.guard = none)
    (hz : Makes P ops i T z) (h : K (a.put o.dst (madeV z w.heap.size)) (w.alloc (.cells (madeC z) T))) : wpOp P ops Q i K a w := by
  unfold wpOp
  simp only [ho, Region.wanted, hg, if_true]
  refine .inl ?_
  unfold Oper.wp
  have hr : (execOp a.eval o).run P w = .ok (.value (madeV z w.heap.size)) (w.alloc (.cells (madeC z) T)) := by
    by_cases ht : ∃ xs, z = .tuple xs
    · obtain ⟨xs, rfl⟩ := ht
      obtain ⟨o', ho', hrun⟩ := hz
      obtain rfl : o = o' := by rw [ho] at ho'; exact Option.some.inj ho'
      exact hrun _ _
    · have h1 : isTup z = false := by cases z <;> simp [isTup] at ht ⊢
      have h2 : madeV z w.heap.size = .pointer (some ⟨w.heap.size, 0, none⟩) := by cases z <;> simp [isTup] at h1 <;> rfl
      have h3 : madeC z = z.cells := by cases z <;> simp [isTup] at h1 <;> rfl
      have h4 : (P.info? T).bind (·.zero) = some z := by cases z <;> simp [isTup] at h1 <;> exact hz
      rw [h1, Bool.false_or] at hop
      have hop' : o.op = .alloc T := by
        cases hopp : o.op <;> simp [hopp] at hop
        rw [hop]
      obtain ⟨inf, hi, hzz⟩ := Option.bind_eq_some_iff.1 h4
      rw [h2, h3]
      simp [execOp, hop', Instr.alloc, zeroValue, typeInfo, hi, hzz, newVar, newRow, newObj, Result.andThen]
      rfl
  rw [hr]
  exact h

theorem getD_tf {listed : Array Bool} {i : Nat} (h : i < listed.size) : listed.getD i true = listed.getD i false := by simp [h]
theorem getD_set {listed : Array Bool} {i j : Nat} (hi : i < listed.size) : (listed.setIfInBounds i true).getD j true = (listed.getD j true || decide (i = j)) := by
  by_cases hij : i = j
  · subst hij; simp [hi]
  · rw [getD_set_ne true hij]; simp [hij]

theorem depsOk_drop {listed : Array Bool} {L1 L2 : List Nat} {j : Nat} (hj : j < listed.size) (h : DepsOk ops listed (L1 ++ j :: L2)) : DepsOk ops (listed.setIfInBounds j true) (L1 ++ L2) := by
  intro M1 x M2 he
  have keep : ∀ {k}, listed.getD k false = true → (listed.setIfInBounds j true).getD k false = true := fun {k} hk => getD_set_true hk
  rcases List.append_eq_append_iff.1 he with ⟨r, h1, h2⟩ | ⟨r, h1, h2⟩
  · -- M1 = L1 ++ r, L2 = r ++ x :: M2
    subst h1 h2
    obtain ⟨o, ho, hh⟩ := h (L1 ++ j :: r) x M2 (by simp)
    refine ⟨o, ho, fun e hee hb => ?_⟩
    rcases hh e hee hb with hl | hm
    · exact .inl (keep hl)
    · simp only [List.mem_append, List.mem_cons] at hm ⊢
      rcases hm with hm | rfl | hm
      · exact .inr (.inl hm)
      · exact .inl (by simp [hj])
      · exact .inr (.inr hm)
  · -- L1 = M1 ++ r, x :: M2 = r ++ L2
    cases r with
    | nil =>
      simp only [List.append_nil, List.nil_append] at h1 h2
      subst h1
      obtain ⟨o, ho, hh⟩ := h (L1 ++ [j]) x M2 (by simp [h2])
      refine ⟨o, ho, fun e hee hb => ?_⟩
      rcases hh e hee hb with hl | hm
      · exact .inl (keep hl)
      · simp only [List.mem_append, List.mem_singleton] at hm
        rcases hm with hm | rfl
        · exact .inr hm
        · exact .inl (by simp [hj])
    | cons y r =>
      simp only [List.cons_append, List.cons.injEq] at h2
      obtain ⟨rfl, rfl⟩ := h2
      subst h1
      obtain ⟨o, ho, hh⟩ := h M1 x (r ++ j :: L2) (by simp)
      exact ⟨o, ho, fun e hee hb => (hh e hee hb).imp keep id⟩

theorem tailOk_drop {l1 l2 t : List Nat} {j : Nat} (h : TailOk tab (l1 ++ j :: l2) t) : TailOk tab (l1 ++ l2) t := fun t1 x t2 he y hy =>
  h t1 x t2 he y (by simp only [List.mem_append, List.mem_cons] at hy ⊢; rcases hy with (hy | hy) | hy <;> simp [hy])

theorem nodup_mid {L1 L2 : List Nat} {j : Nat} (h : (L1 ++ j :: L2).Nodup) : j ∉ L1 ++ L2 ∧ (L1 ++ L2).Nodup := by
  rw [List.nodup_append] at h
  obtain ⟨h1, h2, h3⟩ := h
  rw [List.nodup_cons] at h2
  refine ⟨?_, ?_⟩
  · rw [List.mem_append]
    rintro (hj | hj)
    · exact h3 j hj j (by simp) rfl
    · exact h2.1 hj
  · rw [List.nodup_append]
    exact ⟨h1, h2.2, fun a ha b hb => h3 a ha b (by simp [hb])⟩

/-- What is left of the state when operation j of L1 ++ j :: L2 has come up. -/
theorem unlisted_drop {listed : Array Bool} {j : Nat} {L1 L2 : List Nat} (hsz : j < listed.size) (hun : ∀ i, i < ops.size → (listed.getD i true = false ↔ i ∈ L1 ++ j :: L2)) (hnd : (L1 ++ j :: L2).Nodup) :
    ∀ i, i < ops.size → ((listed.setIfInBounds j true).getD i true = false ↔ i ∈ L1 ++ L2) := by
  intro i hi
  rw [getD_set hsz, Bool.or_eq_false_iff, decide_eq_false_iff_not, hun i hi]
  obtain ⟨h1, _⟩ := nodup_mid hnd
  simp only [List.mem_append, List.mem_cons] at h1 ⊢
  constructor
  · rintro ⟨h2 | h2 | h2, h3⟩
    · exact .inl h2
    · exact absurd h2.symm h3
    · exact .inr h2
  · intro h2
    refine ⟨h2.elim .inl (fun h => .inr (.inr h)), fun e => ?_⟩
    subst e; exact h1 h2
theorem closed_set {listed : Array Bool} {j : Nat} {oj : Oper} (hsz : j < listed.size) (hoj : ops[j]? = some oj) (hdj : ∀ e ∈ oj.after, Region.binds .any e = true → listed.getD e.on false = true) (hcl : Closed ops listed) :
    Closed ops (listed.setIfInBounds j true) := fun x o ho hx e he hb => by
  rw [getD_set hsz, Bool.or_eq_true, decide_eq_true_eq] at hx
  rcases hx with hx | rfl
  · exact getD_set_true (hcl x o ho hx e he hb)
  · rw [hoj] at ho; obtain rfl := Option.some.inj ho; exact getD_set_true (hdj e he hb)

theorem tail_sound {Q : Exit → Act → World → Prop} : ∀ (fuel : Nat) (t : List Nat) (listed : Array Bool) (a : Act) (w : World),
    t.length ≤ fuel → listed.size = ops.size → (∀ i, i < ops.size → (listed.getD i true = false ↔ i ∈ t)) → (∀ i ∈ t, i < ops.size) → t.Nodup → Closed ops listed →
    okTab tab ops = true → TailOk tab [] t → DepsOk ops listed t → wpOps P ops Q t a w → wpAny P .any ops Q fuel listed a w := by
  intro fuel
  induction fuel with
  | zero =>
    intro t listed a w hf hsz hun hin hnd hcl htab htail hdeps h
    have ht : t = [] := List.eq_nil_of_length_eq_zero (by omega)
    subst ht
    refine ⟨?_, by simpa [wpOps] using h⟩
    rw [List.eq_nil_iff_forall_not_mem]
    intro j hj
    obtain ⟨h0, o, ho, _⟩ := mem_ready.1 hj
    have := (hun j (Array.getElem?_eq_some_iff.1 ho).1).1 h0
    simp at this
  | succ fuel ih =>
    intro t listed a w hf hsz hun hin hnd hcl htab htail hdeps h
    refine ⟨fun hr => ?_, fun j hj => ?_⟩
    · cases t with
      | nil => simpa [wpOps] using h
      | cons x L =>
        exfalso
        obtain ⟨o, ho, hh⟩ := hdeps [] x L rfl
        have hx : x ∈ Region.ready .any ops listed := mem_ready.2 ⟨(hun x (hin x (by simp))).2 (by simp), o, ho, fun e he hb => (hh e he hb).resolve_right (by simp)⟩
        rw [hr] at hx; cases hx
    · obtain ⟨h0, oj, hoj, hdj⟩ := mem_ready.1 hj
      have hjlt := (Array.getElem?_eq_some_iff.1 hoj).1
      have hjsz : j < listed.size := by omega
      obtain ⟨t1, t2, rfl⟩ := List.append_of_mem ((hun j hjlt).1 h0)
      have ht1 : t1 = [] := by
        rw [List.eq_nil_iff_forall_not_mem]
        intro i hi
        have h1 := anc_listed hsz hcl htab j i oj hoj hdj (htail t1 j t2 rfl i (by simp [hi]))
        have h2 := (hun i (hin i (by simp [hi]))).2 (by simp [hi])
        rw [getD_tf (by rw [hsz]; exact hin i (by simp [hi])), h1] at h2
        cases h2
      subst ht1
      rw [List.nil_append, wpOps_cons] at h
      refine wpOp_mono (fun a' w' hk => ?_) h
      have hnd' := nodup_mid hnd
      refine ih t2 _ a' w' (by simp at hf; omega) (by simp [hsz]) (by have := unlisted_drop (L1 := []) (L2 := t2) hjsz hun hnd; simpa using this) (fun i hi => hin i (by simp [hi])) (by simpa using hnd'.2)
        (closed_set hjsz hoj hdj hcl) htab (fun u1 x u2 he y hy => htail (j :: u1) x u2 (by simp [he]) y (by simp at hy ⊢; exact .inr hy)) (by have := depsOk_drop (L1 := []) (L2 := t2) hjsz hdeps; simpa using this) hk

def runM (P : Program) (ops : Array Oper) : List Nat → (Act → Prop) → Act → Prop
  | [], K, a => K a
  | i :: l, K, a => ∃ o v, ops[i]? = some o ∧ YieldsIf P ops (fun _ => True) o v a ∧ runM P ops l K (a.put o.dst v)
theorem runM_mono {K K' : Act → Prop} (h : ∀ a, K a → K' a) : ∀ {l : List Nat} {a : Act}, runM P ops l K a → runM P ops l K' a
  | [], _, hr => h _ hr
  | _ :: _, _, ⟨o, v, ho, hy, hr⟩ => ⟨o, v, ho, hy, runM_mono h hr⟩
theorem move_yields {S : World → Prop} {o : Oper} {v : Value} {a : Act} {w : World} {i : Nat} (ho : ops[i]? = some o) (hm : isMove ops i = true) (hs : S w) (h : YieldsIf P ops S o v a) : YieldsIf P ops (fun _ => True) o v a := by
  rcases h with ⟨hw, hv⟩ | h
  · refine .inl ⟨hw, fun W _ => ?_⟩
    have h1 := hv w hs
    unfold isMove at hm
    rw [ho] at hm
    simp only at hm
    cases hop : o.op <;> simp [hop] at hm
    · simp [execOp, hop] at h1 ⊢
      exact h1
    · rename_i x ix
      have h2 : ∀ (u : Value) (n : Nat), (∃ y, Instr.extract u n = pure y) ∨ ∃ t, Instr.extract u n = stuck t := fun u n => by
        unfold Instr.extract
        split
        · split
          · exact .inl ⟨_, rfl⟩
          · exact .inr ⟨_, rfl⟩
        · exact .inr ⟨_, rfl⟩
      rcases h2 (a.eval x) ix with ⟨y, h3⟩ | ⟨t, h3⟩
      · simp [execOp, hop, h3] at h1 ⊢
        exact h1
      · simp [execOp, hop, h3] at h1
  · exact .inr h
theorem runM_of_run {Q : Exit → Act → World → Prop} {t : List Nat} {w : World} : ∀ {l : List Nat} {N : Nat → Prop} {a : Act}, (∀ y ∈ l, isSil (kd y) = true ∧ isMove ops y = true) → run P ops X base kd l (K0 P ops X Q t) N a w → runM P ops l (fun a => wpOps P ops Q t a w) a := by
  intro l
  induction l with
  | nil => intro N a _ h; exact h w (StepX.refl _ w)
  | cons i l ih =>
    intro N a hl h
    obtain ⟨h1, h2⟩ := hl i (by simp)
    have h' : go P ops X base kd i (run P ops X base kd l (K0 P ops X Q t)) N a w := h
    unfold go at h'
    cases hk : kd i <;> simp [hk, isSil] at h1
    rw [hk] at h'
    obtain ⟨o, v, ho, hy, hr⟩ := h'
    exact ⟨o, v, ho, move_yields ho h2 (StepX.refl _ w) hy, ih (fun y hy => hl y (by simp [hy])) hr⟩
theorem bringM (hsel : Region.noSelect ops = true) {K : Act → Prop} {j : Nat} {oj : Oper} (hj : ops[j]? = some oj) : ∀ {l1 l2 : List Nat} {a : Act}, (∀ i ∈ l1, ∃ oi, ops[i]? = some oi ∧ oi.apart ops oj = true) → runM P ops (l1 ++ j :: l2) K a →
    ∃ v, YieldsIf P ops (fun _ => True) oj v a ∧ runM P ops (l1 ++ l2) K (a.put oj.dst v) := by
  intro l1
  induction l1 with
  | nil =>
    intro l2 a _ h
    obtain ⟨o, v, ho, hy, hr⟩ := h
    obtain rfl : oj = o := by rw [hj] at ho; exact Option.some.inj ho
    exact ⟨v, hy, hr⟩
  | cons i l1 ih =>
    intro l2 a hall h
    obtain ⟨oi', hi', hap⟩ := hall i (by simp)
    obtain ⟨oi, vi, hi, hyi, hr⟩ := h
    obtain rfl : oi' = oi := by rw [hi] at hi'; exact (Option.some.inj hi').symm
    obtain ⟨v, hyj, hr2⟩ := ih (fun k hk => hall k (by simp [hk])) hr
    obtain ⟨h1, h2, h3⟩ := Oper.apart_spec hap
    have hsi := (Region.noSelect_spec hsel i oi' · · hi)
    have hsj := (Region.noSelect_spec hsel j oj · · hj)
    refine ⟨v, hyj.of_same (execOp_put oj hsj a oi'.dst vi h1).symm (wanted_put oj a oi'.dst vi h1).symm, oi', vi, hi, hyi.of_same (execOp_put oi' hsi a oj.dst v h3) (wanted_put oi' a oj.dst v h3), ?_⟩
    rw [← Act.put_comm a vi v h2]
    exact hr2
theorem tailM (hsel : Region.noSelect ops = true) {Q : Exit → Act → World → Prop} (hQ : ∀ c d v a w, Q (.panic c) (Act.put a d v) w → Q (.panic c) a w) {j : Nat} {oj : Oper} (hj : ops[j]? = some oj) {K : Act → World → Prop} {w : World} : ∀ {l : List Nat} {a : Act},
    (∀ i ∈ l, ∃ oi, ops[i]? = some oi ∧ oi.apart ops oj = true) → runM P ops l (fun a => wpOp P ops Q j K a w) a → wpOp P ops Q j (fun a' w' => runM P ops l (fun a => K a w') a') a w := by
  intro l
  induction l with
  | nil => intro a _ h; exact h
  | cons i l ih =>
    intro a hall h
    obtain ⟨oi', hi', hap⟩ := hall i (by simp)
    obtain ⟨oi, vi, hi, hyi, hr⟩ := h
    obtain rfl : oi' = oi := by rw [hi] at hi'; exact (Option.some.inj hi').symm
    have h1 := ih (fun k hk => hall k (by simp [hk])) hr
    refine wpOp_mono (fun a' w' hh => ?_) (wpOp_putIf (S := fun _ => True) hj hap (Region.noSelect_spec hsel i oi' · · hi) (Region.noSelect_spec hsel j oj · · hj) (fun c a w => hQ c _ _ a w) hyi h1)
    exact ⟨oi', vi, hi, hh.1, hh.2⟩
theorem mixed_sound {Q : Exit → Act → World → Prop} (hsel : Region.noSelect ops = true) (hQ : ∀ c d v a w, Q (.panic c) (Act.put a d v) w → Q (.panic c) a w) : ∀ (fuel : Nat) (l t : List Nat) (listed : Array Bool) (a : Act) (w : World),
    l.length + t.length ≤ fuel → listed.size = ops.size → (∀ i, i < ops.size → (listed.getD i true = false ↔ i ∈ l ++ t)) → (∀ i ∈ l ++ t, i < ops.size) → (l ++ t).Nodup → Closed ops listed →
    okTab tab ops = true → okList tab ops kd l = true → (∀ y ∈ l, ∀ x ∈ t, ancB tab y x = true ∨ ∃ oy ox, ops[y]? = some oy ∧ ops[x]? = some ox ∧ oy.apart ops ox = true) → TailOk tab [] t → DepsOk ops listed (l ++ t) →
    runM P ops l (fun a => wpOps P ops Q t a w) a → wpAny P .any ops Q fuel listed a w := by
  intro fuel
  induction fuel with
  | zero =>
    intro l t listed a w hf hsz hun hin hnd hcl htab _ _ htail hdeps h
    have hl : l = [] := List.eq_nil_of_length_eq_zero (by omega)
    subst hl
    exact tail_sound 0 t listed a w (by simpa using hf) hsz hun hin hnd hcl htab htail hdeps h
  | succ fuel ih =>
    intro l t listed a w hf hsz hun hin hnd hcl htab hlist hwait htail hdeps h
    by_cases hl : l = []
    · subst hl
      exact tail_sound _ t listed a w (by simpa using hf) hsz hun hin hnd hcl htab htail hdeps h
    refine ⟨fun hr => ?_, fun j hj => ?_⟩
    · exfalso
      cases l with
      | nil => exact hl rfl
      | cons x L =>
        obtain ⟨o, ho, hh⟩ := hdeps [] x (L ++ t) (by simp)
        have hx : x ∈ Region.ready .any ops listed := mem_ready.2 ⟨(hun x (hin x (by simp))).2 (by simp), o, ho, fun e he hb => (hh e he hb).resolve_right (by simp)⟩
        rw [hr] at hx; cases hx
    · obtain ⟨h0, oj, hoj, hdj⟩ := mem_ready.1 hj
      have hjlt := (Array.getElem?_eq_some_iff.1 hoj).1
      have hjsz : j < listed.size := by omega
      have hjm := (hun j hjlt).1 h0
      have hcl' := closed_set hjsz hoj hdj hcl
      have notanc : ∀ i ∈ l ++ t, ancB tab i j = true → False := fun i hi ha => by
        have h1 := anc_listed hsz hcl htab j i oj hoj hdj ha
        have h2 := (hun i (hin i hi)).2 hi
        rw [getD_tf (by rw [hsz]; exact hin i hi), h1] at h2
        cases h2
      rcases List.mem_append.1 hjm with hjl | hjt
      · obtain ⟨l1, l2, rfl⟩ := List.append_of_mem hjl
        obtain ⟨hlist', hpair⟩ := okList_drop hlist
        have hall : ∀ i ∈ l1, ∃ oi, ops[i]? = some oi ∧ oi.apart ops oj = true := fun i hi => by
          have hp := hpair i hi
          simp only [okPair, Bool.or_eq_true] at hp
          rcases hp with hp | hp
          · exact (notanc i (by simp [hi]) hp).elim
          · cases hoi : ops[i]? with
            | none => simp [hoi] at hp
            | some oi =>
              simp only [hoi, hoj, Bool.and_eq_true] at hp
              exact ⟨oi, rfl, hp.1⟩
        obtain ⟨v, hy, hr⟩ := bringM hsel hoj hall h
        have he : (l1 ++ j :: l2) ++ t = l1 ++ j :: (l2 ++ t) := by simp
        refine hy.wpOp hoj trivial (ih (l1 ++ l2) t _ _ w (by simp at hf ⊢; omega) (by simp [hsz]) (by have := unlisted_drop (L1 := l1) (L2 := l2 ++ t) hjsz (by rw [← he]; exact hun) (by rw [← he]; exact hnd); simpa using this)
          (fun i hi => hin i (by simp only [List.mem_append, List.mem_cons] at hi ⊢; rcases hi with (hi | hi) | hi <;> simp [hi]))
          (by have := (nodup_mid (by rw [← he]; exact hnd)).2; simpa using this) hcl' htab hlist' (fun y hy x hx => hwait y (by simp only [List.mem_append, List.mem_cons] at hy ⊢; rcases hy with hy | hy <;> simp [hy]) x hx) htail
          (by have := depsOk_drop (L1 := l1) (L2 := l2 ++ t) hjsz (by rw [← he]; exact hdeps); simpa using this) hr)
      · obtain ⟨t1, t2, rfl⟩ := List.append_of_mem hjt
        have ht1 : t1 = [] := by
          rw [List.eq_nil_iff_forall_not_mem]
          intro i hi
          exact notanc i (by simp [hi]) (htail t1 j t2 rfl i (by simp [hi]))
        subst ht1
        have hall : ∀ i ∈ l, ∃ oi, ops[i]? = some oi ∧ oi.apart ops oj = true := fun i hi => by
          rcases hwait i hi j (by simp) with h1 | ⟨oy, ox, h1, h2, h3⟩
          · exact (notanc i (by simp [hi]) h1).elim
          · obtain rfl : oj = ox := by rw [hoj] at h2; exact Option.some.inj h2
            exact ⟨oy, h1, h3⟩
        have h' : runM P ops l (fun a => wpOp P ops Q j (wpOps P ops Q t2) a w) a := runM_mono (fun a hh => by rw [List.nil_append, wpOps_cons] at hh; exact hh) h
        have he : l ++ ([] ++ j :: t2) = l ++ j :: t2 := by simp
        refine wpOp_mono (fun a' w' hk => ?_) (tailM hsel hQ hoj hall h')
        exact ih l t2 _ a' w' (by simp at hf; omega) (by simp [hsz]) (by have := unlisted_drop (L1 := l) (L2 := t2) hjsz (by rw [← he]; exact hun) (by rw [← he]; exact hnd); simpa using this)
          (fun i hi => hin i (by simp only [List.mem_append, List.nil_append, List.mem_cons] at hi ⊢; rcases hi with hi | hi <;> simp [hi])) (by have := (nodup_mid (by rw [← he]; exact hnd)).2; simpa using this) hcl' htab hlist
          (fun y hy x hx => hwait y hy x (by simp [hx])) (fun u1 x u2 hu y hy => htail (j :: u1) x u2 (by simp [hu]) y (by simp at hy ⊢; exact .inr hy)) (by have := depsOk_drop (L1 := l) (L2 := t2) hjsz (by rw [← he]; exact hdeps); simpa using this) hk

theorem seq_sound (hX : ∀ j, X j → j < base) {Q : Exit → Act → World → Prop} (hsel : Region.noSelect ops = true) {strict : Bool} (hQ : strict = true ∨ ∀ c d v a w, Q (.panic c) (Act.put a d v) w → Q (.panic c) a w) : ∀ (fuel : Nat) (l t : List Nat) (listed : Array Bool) (N : Nat → Prop) (a : Act) (w : World),
    l.length + t.length ≤ fuel → listed.size = ops.size → (∀ i, i < ops.size → (listed.getD i true = false ↔ i ∈ l ++ t)) → (∀ i ∈ l ++ t, i < ops.size) → (l ++ t).Nodup → Closed ops listed →
    okTab tab ops = true → okList tab ops kd l = true → (∀ y ∈ l, ∀ x ∈ t, okWait strict tab ops kd y x = true) → TailOk tab [] t → DepsOk ops listed (l ++ t) → okAlloc ops kd l = true → (∀ i T z, i ∈ l → kd i = .alloc T z → Makes P ops i T z) →
    (∀ g, w.heap.size ≤ g → N g) → base ≤ w.heap.size → run P ops X base kd l (K0 P ops X Q t) N a w → wpAny P .any ops Q fuel listed a w := by
  intro fuel
  induction fuel with
  | zero =>
    intro l t listed N a w hf hsz hun hin hnd hcl htab _ _ htail hdeps _ _ _ _ h
    have hl : l = [] := List.eq_nil_of_length_eq_zero (by omega)
    subst hl
    exact tail_sound 0 t listed a w (by simpa using hf) hsz hun hin hnd hcl htab htail hdeps (h w (StepX.refl _ w))
  | succ fuel ih =>
    intro l t listed N a w hf hsz hun hin hnd hcl htab hlist hwait htail hdeps halloc hz hN hbase h
    by_cases hl : l = []
    · subst hl
      exact tail_sound _ t listed a w (by simpa using hf) hsz hun hin hnd hcl htab htail hdeps (h w (StepX.refl _ w))
    refine ⟨fun hr => ?_, fun j hj => ?_⟩
    · -- nothing may come up: but something is left
      exfalso
      cases l with
      | nil => exact hl rfl
      | cons x L =>
        obtain ⟨o, ho, hh⟩ := hdeps [] x (L ++ t) (by simp)
        have hx : x ∈ Region.ready .any ops listed := mem_ready.2 ⟨(hun x (hin x (by simp))).2 (by simp), o, ho, fun e he hb => (hh e he hb).resolve_right (by simp)⟩
        rw [hr] at hx; cases hx
    · obtain ⟨h0, oj, hoj, hdj⟩ := mem_ready.1 hj
      have hjlt := (Array.getElem?_eq_some_iff.1 hoj).1
      have hjsz : j < listed.size := by omega
      have hjm := (hun j hjlt).1 h0
      have hcl' := closed_set hjsz hoj hdj hcl
      have notanc : ∀ i ∈ l ++ t, ancB tab i j = true → False := fun i hi ha => by
        have h1 := anc_listed hsz hcl htab j i oj hoj hdj ha
        have h2 := (hun i (hin i hi)).2 hi
        rw [getD_tf (by rw [hsz]; exact hin i hi), h1] at h2
        cases h2
      rcases List.mem_append.1 hjm with hjl | hjt
      · -- one of the first part
        obtain ⟨l1, l2, rfl⟩ := List.append_of_mem hjl
        obtain ⟨hlist', hpair⟩ := okList_drop hlist
        have hall : ∀ i ∈ l1, ∃ oi, ops[i]? = some oi ∧ oi.apart ops oj = true ∧ swaps (kd i) (kd j) = true := fun i hi => by
          have hp := hpair i hi
          simp only [okPair, Bool.or_eq_true] at hp
          rcases hp with hp | hp
          · exact (notanc i (by simp [hi]) hp).elim
          · cases hoi : ops[i]? with
            | none => simp [hoi] at hp
            | some oi =>
              simp only [hoi, hoj, Bool.and_eq_true] at hp
              exact ⟨oi, rfl, hp.1, hp.2⟩
        have hb := bring hX (K0_mono t) hsel hoj l1 l2 N a w hall h
        have he : (l1 ++ j :: l2) ++ t = l1 ++ j :: (l2 ++ t) := by simp
        have next : ∀ (N' : Nat → Prop) (a' : Act) (w' : World), (∀ g, w'.heap.size ≤ g → N' g) → w.heap.size ≤ w'.heap.size → run P ops X base kd (l1 ++ l2) (K0 P ops X Q t) N' a' w' → wpAny P .any ops Q fuel (listed.setIfInBounds j true) a' w' :=
          fun N' a' w' hN' hsz' hr => ih (l1 ++ l2) t _ N' a' w' (by simp at hf ⊢; omega) (by simp [hsz]) (by have := unlisted_drop (L1 := l1) (L2 := l2 ++ t) hjsz (by rw [← he]; exact hun) (by rw [← he]; exact hnd); simpa using this)
            (fun i hi => hin i (by simp only [List.mem_append, List.mem_cons] at hi ⊢; rcases hi with (hi | hi) | hi <;> simp [hi]))
            (by have := (nodup_mid (by rw [← he]; exact hnd)).2; simpa using this) hcl' htab hlist' (fun y hy x hx => hwait y (by simp only [List.mem_append, List.mem_cons] at hy ⊢; rcases hy with hy | hy <;> simp [hy]) x hx) htail
            (by have := depsOk_drop (L1 := l1) (L2 := l2 ++ t) hjsz (by rw [← he]; exact hdeps); simpa using this)
            (by simp only [okAlloc, List.all_eq_true, List.mem_append, List.mem_cons] at halloc ⊢; exact fun x hx => halloc x (hx.elim .inl (fun h => .inr (.inr h))))
            (fun i T z hi => hz i T z (by simp only [List.mem_append, List.mem_cons] at hi ⊢; rcases hi with hi | hi <;> simp [hi])) hN' (by omega) hr
        cases hk : kd j with
        | silent =>
          simp only [go, hk] at hb
          obtain ⟨o, v, ho, hy, hr⟩ := hb
          exact hy.wpOp ho (StepX.refl _ w) (next N _ w hN (Nat.le_refl _) hr)
        | pure =>
          simp only [go, hk] at hb
          obtain ⟨o, v, ho, hy, hr⟩ := hb
          exact hy.wpOp ho trivial (next N _ w hN (Nat.le_refl _) hr)
        | chain =>
          simp only [go, hk] at hb
          exact wpOp_any (wpOp_mono (fun a' w' ⟨hs, hr⟩ => next _ a' w' (fun g hg => ⟨hN g (Nat.le_trans hs.size hg), .inr hg⟩) hs.size hr) (hb w (StepX.refl _ w)))
        | alloc T z =>
          simp only [go, hk] at hb
          have hal := halloc
          simp only [okAlloc, List.all_eq_true] at hal
          have hal := hal j (by simp)
          simp only [hk, hoj, Bool.and_eq_true] at hal
          obtain ⟨hg, hop⟩ := hal
          refine wpOp_alloc hoj hop (by simpa using hg) (hz j T z (by simp) hk) ?_
          have hd : (ops[j]?).bind (·.dst) = oj.dst := by rw [hoj]; rfl
          rw [hd] at hb
          exact next _ _ _ (fun g hgg => ⟨hN g (by simp at hgg; omega), by simp at hgg; omega⟩) (by simp) (hb (w.alloc (.cells (madeC z) T)) w.heap.size (.of (Step.alloc _ _)) (heap_alloc_new w _) hbase (hN _ (Nat.le_refl _)))
        | make T n xs =>
          simp only [go, hk] at hb
          obtain ⟨⟨o, ho, hg, hrun⟩, hb⟩ := hb
          obtain rfl : oj = o := by rw [hoj] at ho; exact Option.some.inj ho
          have hd : (ops[j]?).bind (·.dst) = oj.dst := by rw [hoj]; rfl
          rw [hd] at hb
          unfold wpOp
          simp only [hoj, hg, if_true]
          refine .inl ?_
          unfold Oper.wp
          rw [hrun w]
          exact next _ _ _ (fun g hgg => ⟨hN g (by simp at hgg; omega), by simp at hgg; omega⟩) (by simp) (hb (w.alloc (.cells xs T)) w.heap.size (.of (Step.alloc _ _)) (heap_alloc_new w _) hbase (hN _ (Nat.le_refl _)))
      · -- the tail waits, but for moves
        have hw1 : ∀ y ∈ l, ancB tab y j = true ∨ (strict = false ∧ isSil (kd y) = true ∧ isMove ops y = true ∧ ∃ oy, ops[y]? = some oy ∧ oy.apart ops oj = true) := fun y hy => by
          have := hwait y hy j hjt
          simp only [okWait, Bool.or_eq_true, Bool.and_eq_true, Bool.not_eq_true'] at this
          rcases this with h1 | ⟨⟨⟨h1, h2⟩, h3⟩, h4⟩
          · exact .inl h1
          · cases hoy : ops[y]? with
            | none => simp [hoy] at h4
            | some oy => simp only [hoy, hoj] at h4; exact .inr ⟨h1, h2, h3, oy, rfl, h4⟩
        have hw2 : ∀ y ∈ l, strict = false ∧ isSil (kd y) = true ∧ isMove ops y = true := fun y hy => by
          rcases hw1 y hy with h1 | ⟨h1, h2, h3, _⟩
          · exact (notanc y (by simp [hy]) h1).elim
          · exact ⟨h1, h2, h3⟩
        have hst : strict = false := by
          cases l with
          | nil => exact (hl rfl).elim
          | cons x L => exact (hw2 x (by simp)).1
        have hQ' := hQ.resolve_left (by rw [hst]; decide)
        have hm := mixed_sound hsel hQ' (fuel + 1) l t listed a w hf hsz hun hin hnd hcl htab hlist (fun y hy x hx => by
          have := hwait y hy x hx
          simp only [okWait, Bool.or_eq_true, Bool.and_eq_true, Bool.not_eq_true'] at this
          rcases this with h1 | ⟨_, h4⟩
          · exact .inl h1
          · cases hoy : ops[y]? with
            | none => simp [hoy] at h4
            | some oy =>
              cases hox : ops[x]? with
              | none => simp [hoy, hox] at h4
              | some ox => simp only [hoy, hox] at h4; exact .inr ⟨oy, ox, rfl, rfl, h4⟩) htail hdeps (runM_of_run (fun y hy => (hw2 y hy).2) h)
        exact hm.2 j hj

/-- **The law.** l: the operations ahead of the stores, in an order of the prover's choosing; t: the stores, in theirs. -/
theorem wp_region_seqG {id : Nat} {Q : Exit → Act → World → Prop} {a : Act} {w : World} (X : Nat → Prop) (hX : ∀ j, X j → j < w.heap.size) (kd : Nat → Kd) (strict : Bool) (hQ : strict = true ∨ ∀ c d v a w, Q (.panic c) (Act.put a d v) w → Q (.panic c) a w) (tab l t : List Nat) (hm : P.follows .mixedOrders = true) (hok : okSeq strict tab ops kd l t = true)
    (hz : ∀ i T z, i ∈ l → kd i = .alloc T z → Makes P ops i T z)
    (h : ∀ W, StepX X w W → run P ops X w.heap.size kd l (K0 P ops X Q t) (fun _ => True) a W) : (Code.region id ops true).wp P Q a w := by
  simp only [okSeq, Bool.and_eq_true, List.all_eq_true, decide_eq_true_eq, List.mem_range, List.contains_iff_mem] at hok
  obtain ⟨⟨⟨⟨⟨⟨⟨⟨⟨h0, h1⟩, h9⟩, h2⟩, h3⟩, h4⟩, h5⟩, h6⟩, h7⟩, h8⟩ := hok
  refine wp_region_any hm ?_
  refine seq_sound (base := w.heap.size) (kd := kd) hX h5 hQ ops.size l t _ (fun _ => True) a w.drew ?_ (by simp) ?_ h7 h8 ?_ h0 h1 h9 (tailOk_of h2) ?_ h4 hz (fun _ _ => trivial) (by simp) (h w.drew (.of (Step.drew w)))
  · -- no more than the region has
    have hsub : (l ++ t).length ≤ (List.range ops.size).length := h8.length_le_of_subset (fun i hi => List.mem_range.2 (h7 i hi))
    simpa using hsub
  · intro i hi
    simp only [Array.getD_eq_getD_getElem?, Array.getElem?_replicate, hi, if_true, Option.getD_some, true_iff]
    exact h6 i hi
  · intro x o ho hx
    have hlt := (Array.getElem?_eq_some_iff.1 ho).1
    simp [hlt] at hx
  · intro L1 x L2 he
    obtain ⟨o, ho, hh⟩ := depsOk_of (listed := Array.replicate ops.size false) h3 L1 x L2 he
    exact ⟨o, ho, by simpa using hh⟩

theorem wp_region_seqX {id : Nat} {Q : Exit → Act → World → Prop} {a : Act} {w : World} (X : Nat → Prop) (hX : ∀ j, X j → j < w.heap.size) (kd : Nat → Kd) (tab l t : List Nat) (hm : P.follows .mixedOrders = true) (hok : okSeq true tab ops kd l t = true)
    (hz : ∀ i T z, i ∈ l → kd i = .alloc T z → Makes P ops i T z)
    (h : ∀ W, StepX X w W → run P ops X w.heap.size kd l (K0 P ops X Q t) (fun _ => True) a W) : (Code.region id ops true).wp P Q a w :=
  wp_region_seqG X hX kd true (.inl rfl) tab l t hm hok hz h
theorem wp_region_seq {id : Nat} {Q : Exit → Act → World → Prop} {a : Act} {w : World} (kd : Nat → Kd) (tab l t : List Nat) (hm : P.follows .mixedOrders = true) (hok : okSeq true tab ops kd l t = true)
    (hz : ∀ i T z, i ∈ l → kd i = .alloc T z → Makes P ops i T z)
    (h : ∀ W, Step w W → run P ops (fun _ => False) w.heap.size kd l (K0 P ops (fun _ => False) Q t) (fun _ => True) a W) : (Code.region id ops true).wp P Q a w :=
  wp_region_seqX (fun _ => False) (fun _ h => h.elim) kd tab l t hm hok hz h
/-- The same, where moves may wait till the tail has been carried out. -/
theorem wp_region_seqM {id : Nat} {Q : Exit → Act → World → Prop} {a : Act} {w : World} (hQ : ∀ c d v a w, Q (.panic c) (Act.put a d v) w → Q (.panic c) a w) (kd : Nat → Kd) (tab l t : List Nat) (hm : P.follows .mixedOrders = true) (hok : okSeq false tab ops kd l t = true)
    (hz : ∀ i T z, i ∈ l → kd i = .alloc T z → Makes P ops i T z)
    (h : ∀ W, Step w W → run P ops (fun _ => False) w.heap.size kd l (K0 P ops (fun _ => False) Q t) (fun _ => True) a W) : (Code.region id ops true).wp P Q a w :=
  wp_region_seqG (fun _ => False) (fun _ h => h.elim) kd false (.inr hQ) tab l t hm hok hz h

/-- Which operations are calls (they wait for one another), which make variables; all else is silent. -/
def kdOf (calls : List Nat) (allocs : List (Nat × TypeId × Value)) (makes : List (Nat × TypeId × Nat × Array Value)) (i : Nat) : Kd :=
  if calls.contains i then .chain else match makes.find? (fun x => x.1 == i) with
    | some (_, T, n, xs) => .make T n xs
    | none => match allocs.find? (fun x => x.1 == i) with
      | some (_, T, z) => .alloc T z
      | none => .silent

/-- Those that look at no memory. -/
def kdP (pures : List Nat) (kd : Nat → Kd) (i : Nat) : Kd := if pures.contains i then .pure else kd i

section
variable {K : Cont} {N : Nat → Prop} {a : Act} {w : World} {i : Nat} {l : List Nat} {o : Oper}
theorem run_pure (hk : kd i = .pure) (ho : ops.toList[i]? = some o) (hw : Region.wanted o (yielded ops a.tmps) = true) (h : ∃ v, (∀ W, (execOp a.eval o).run P W = .ok (.value v) W) ∧ run P ops X base kd l K N (a.put o.dst v) w) : run P ops X base kd (i :: l) K N a w := by
  obtain ⟨v, h1, h2⟩ := h
  show go P ops X base kd i _ N a w
  unfold go; rw [hk]; exact ⟨o, v, by simpa using ho, .inl ⟨hw, fun W _ => h1 W⟩, h2⟩
theorem run_silent {v : Value} (hk : kd i = .silent) (ho : ops.toList[i]? = some o) (hy : YieldsIf P ops (StepX X w) o v a) (h : run P ops X base kd l K N (a.put o.dst v) w) : run P ops X base kd (i :: l) K N a w := by
  show go P ops X base kd i _ N a w
  unfold go; rw [hk]; exact ⟨o, v, by simpa using ho, hy, h⟩
theorem run_want (hk : kd i = .silent) (ho : ops.toList[i]? = some o) (hw : Region.wanted o (yielded ops a.tmps) = true) (h : ∃ v, (∀ W, StepX X w W → (execOp a.eval o).run P W = .ok (.value v) W) ∧ run P ops X base kd l K N (a.put o.dst v) w) :
    run P ops X base kd (i :: l) K N a w := by
  obtain ⟨v, h1, h2⟩ := h
  exact run_silent hk ho (.inl ⟨hw, h1⟩) h2
theorem run_off (hk : kd i = .silent) (ho : ops.toList[i]? = some o) (hw : Region.wanted o (yielded ops a.tmps) = false) (h : run P ops X base kd l K N (a.put o.dst undef) w) : run P ops X base kd (i :: l) K N a w :=
  run_silent hk ho (.inr ⟨hw, rfl⟩) h
theorem run_chain (hk : kd i = .chain) (ho : ops.toList[i]? = some o) (hw : Region.wanted o (yielded ops a.tmps) = true)
    (h : ∀ W, StepX X w W → ∀ K' : Act → World → Prop, (∀ a' w', StepX X W w' → run P ops X base kd l K (fun g => N g ∧ (g < W.heap.size ∨ w'.heap.size ≤ g)) a' w' → K' a' w') → o.wp P a W K' QF) : run P ops X base kd (i :: l) K N a w := by
  show go P ops X base kd i _ N a w
  have ho : ops[i]? = some o := by simpa using ho
  unfold go; rw [hk]
  intro W hW
  unfold wpOp; simp only [ho, hw, if_true]
  exact .inl (h W hW _ (fun a' w' hs hr => ⟨hs, hr⟩))
theorem run_chain_off (hk : kd i = .chain) (ho : ops.toList[i]? = some o) (hw : Region.wanted o (yielded ops a.tmps) = false) (hK : ContMono X K)
    (h : run P ops X base kd l K N (a.put o.dst undef) w) : run P ops X base kd (i :: l) K N a w := by
  show go P ops X base kd i _ N a w
  have ho : ops[i]? = some o := by simpa using ho
  unfold go; rw [hk]
  intro W hW
  unfold wpOp; simp only [ho, hw]
  exact ⟨StepX.refl _ _, run_mono hK l _ _ _ _ _ (fun g hg => hg.1) hW h⟩
theorem run_alloc {T : TypeId} {z : Value} (hk : kd i = .alloc T z) (ho : ops.toList[i]? = some o)
    (h : ∀ W g, StepX X w W → W.heap[g]? = some (.cells z.cells T (0, 0)) → base ≤ g → N g → run P ops X base kd l K (fun x => N x ∧ x ≠ g) (a.put o.dst (.pointer (some ⟨g, 0, none⟩))) W)
    (hv : ∀ g, madeV z g = .pointer (some ⟨g, 0, none⟩) := by exact fun _ => rfl) (hc : madeC z = z.cells := by exact rfl) : run P ops X base kd (i :: l) K N a w := by
  show go P ops X base kd i _ N a w
  have ho : ops[i]? = some o := by simpa using ho
  unfold go; rw [hk, ho]
  intro W g h1 h2 h3 h4
  rw [hc] at h2
  rw [hv]
  exact h W g h1 h2 h3 h4
/-- A slice of constants. -/
theorem run_consts {T : TypeId} {xs : Array Value} (hk : kd i = .alloc T (.tuple xs)) (ho : ops.toList[i]? = some o)
    (h : ∀ W g, StepX X w W → W.heap[g]? = some (.cells xs T (0, 0)) → base ≤ g → N g → run P ops X base kd l K (fun x => N x ∧ x ≠ g) (a.put o.dst (.slice (some ⟨g, 0, none⟩) xs.size xs.size)) W) : run P ops X base kd (i :: l) K N a w := by
  show go P ops X base kd i _ N a w
  have ho : ops[i]? = some o := by simpa using ho
  unfold go; rw [hk, ho]; exact h
/-- A slice of what the frame holds. -/
theorem run_make {T : TypeId} {n : Nat} {xs : Array Value} (hk : kd i = .make T n xs) (ho : ops.toList[i]? = some o) (hg : Region.wanted o (yielded ops a.tmps) = true) (hm : ∀ w : World, (execOp a.eval o).run P w = .ok (.value (.slice (some ⟨w.heap.size, 0, none⟩) n n)) (w.alloc (.cells xs T)))
    (h : ∀ W g, StepX X w W → W.heap[g]? = some (.cells xs T (0, 0)) → base ≤ g → N g → run P ops X base kd l K (fun x => N x ∧ x ≠ g) (a.put o.dst (.slice (some ⟨g, 0, none⟩) n n)) W) : run P ops X base kd (i :: l) K N a w := by
  show go P ops X base kd i _ N a w
  have ho : ops[i]? = some o := by simpa using ho
  unfold go
  simp only [hk]
  refine ⟨⟨o, ho, hg, hm⟩, fun W g h1 h2 h3 h4 => ?_⟩
  rw [ho]
  exact h W g h1 h2 h3 h4
theorem run_end {Q : Exit → Act → World → Prop} {t : List Nat} {L : List Oper} (ht : t.map (fun i => ops.toList[i]?) = L.map some) (h : ∀ W, StepX X w W → wpList P ops Q L a W) : run P ops X base kd [] (K0 P ops X Q t) N a w := by
  intro W hW
  have h' := h W hW
  clear h hW
  show wpOps P ops Q t a W
  induction t generalizing L a W with
  | nil =>
    cases L with
    | nil => exact h'
    | cons _ _ => simp at ht
  | cons x t ih =>
    cases L with
    | nil => simp at ht
    | cons o L =>
      simp only [List.map_cons, List.cons.injEq, Array.getElem?_toList] at ht
      rw [wpOps_cons]
      unfold wpOp
      unfold wpList at h'
      simp only [ht.1]
      split
      · rename_i hw
        rw [if_pos hw] at h'
        exact h'.imp (Oper.wp_mono fun a' w' hh => ih (by simpa using ht.2) w' hh) id
      · rename_i hw
        rw [if_neg hw] at h'
        exact ih (by simpa using ht.2) W h'
end
end
end Go.BT.Mk
/- Walks: the plan of a site, by the program. -/
namespace Go.BT
theorem limited_parts {s : Site} {l : List Int} (h : limitedB s l = true) : l.length = s.stages.length ∧ (l.all fun n => withinB n (-1) 1000) = true ∧ (∀ j (hj : j + 1 < l.length), l[j] ≤ l[j + 1]) ∧ l.getD (l.length - 1) 0 = 1000 := by
  simp only [limitedB, Bool.and_eq_true, decide_eq_true_eq] at h
  refine ⟨h.1.1.1, h.1.1.2, fun j hj => ?_, h.2⟩
  have := List.all_eq_true.1 h.1.2 j (List.mem_range.2 (by omega))
  simp only [decide_eq_true_eq, List.getD_eq_getElem?_getD, List.getElem?_eq_getElem (show j < l.length by omega), List.getElem?_eq_getElem hj, Option.getD_some] at this
  exact this
theorem minutes_ok {s : Site} (hs : SiteOk s) {i : Nat} (hi : i < s.stages.length) : minutesAt s i = s.stages[i].minutes ∧ 0 ≤ s.stages[i].minutes ∧ s.stages[i].minutes ≤ 240 := by
  refine ⟨by unfold minutesAt; rw [List.getElem?_eq_getElem hi], ?_⟩
  by_cases e : i + 1 < s.stages.length
  · have := hs.st i e; omega
  · have h := hs.last
    rw [show s.stages.length - 1 = i by omega, List.getElem?_eq_getElem hi] at h
    rw [Option.some.inj h]; decide
theorem plan_next {s : Site} {limits worst : List Int} {out : Int} (hs : SiteOk s) : ∀ (k : Nat) (_ : k ≤ s.stages.length) (st : PlanS), planTo s limits worst out k = some st → (0 ≤ st.next ∧ st.next ≤ 2880) ∧ st.begin_.length = s.stages.length
  | 0, _, st, h => by
    unfold planTo at h
    obtain rfl := Option.some.inj h
    simp
  | k + 1, hk, st, h => by
    unfold planTo at h
    cases hp : planTo s limits worst out k with
    | none => rw [hp] at h; simp at h
    | some st0 =>
      rw [hp] at h
      have ih := plan_next hs k (by omega) st0 hp
      simp only [planStep] at h
      cases hd : deadI worst (limits.getD (s.stages.length - 1 - k) 0) with
      | none => rw [hd] at h; obtain rfl := Option.some.inj h; exact ih
      | some d =>
        rw [hd] at h
        simp only at h
        split at h
        · simp at h
        · rename_i hn
          obtain rfl := Option.some.inj h
          have h1 : ¬ leftAt s st0 (s.stages.length - 1 - k) d < 0 := fun q => hn (.inl q)
          have h2 := minutes_ok hs (show s.stages.length - 1 - k < s.stages.length by omega)
          refine ⟨?_, by simpa using ih.2⟩
          simp only [leftAt] at h1 ⊢
          omega
end Go.BT
namespace Go.Proofs.YtoanjaidfdkdpaaGreat
set_option linter.unusedSimpArgs false
set_option linter.unusedVariables false
open Go.RowKit Go.BT

theorem dead_idx (worst : List Int) (lim : Int) : idxOf (fun n => decide (lim < n)) worst = match deadI worst lim with | some h => (h : Int) | none => -1 := rfl
set_option maxRecDepth 100000 in
set_option maxHeartbeats 4000000 in
theorem limited_ok (s : Site) (l : List Int) (u v : Value) (w : World) (hu : AV (fun _ => False) w u s) (hv : SL (fun _ => False) w v l) (h : limitedB s l = true) (hn : 1 ≤ s.stages.length) : Calls Tryz.prog 35 #[u, v] w fun e w' => e = .returned (.bool true) ∧ Step w w' := by
  obtain ⟨a1, a2, a3, a4⟩ := limited_parts h
  have hm := hv.len
  obtain ⟨c0, c1, c2, rfl, q0, q1, q2⟩ := hu.site
  obtain ⟨p1, k1, rfl⟩ := q1.form
  obtain ⟨p2, k2, rfl⟩ := q2.form
  obtain ⟨p0, k0, rfl⟩ := q0.form
  obtain ⟨W0, hW0⟩ : ∃ W, W = w.alloc (.cells #[.slice p0 s.base.length k0, .slice p1 s.levels.length k1, .slice p2 s.stages.length k2, .int .i64 s.openS] 51) := ⟨_, rfl⟩
  have hbx : Bx W0 w.heap.size [.slice p0 s.base.length k0, .slice p1 s.levels.length k1, .slice p2 s.stages.length k2, .int .i64 s.openS] 51 := by subst hW0; exact Bx.new w [_, _, _, _] _
  have hS : Step w W0 := by subst hW0; exact Step.alloc _ _
  have hv0 := SL.go hv hS
  obtain ⟨pv, cv, bv, ov, rfl, _, _, hp, hc, _⟩ := hv0.ints
  obtain rfl := hp (by omega)
  have HW := Lib.hid hW0
  have HS := Lib.hid hS
  have HV := Lib.hid hv0
  have HA := Lib.hid (And.intro a2 a3)
  have HT := Lib.hid (Step.refl W0)
  have HLN := Lib.hid (show 1 ≤ l.length by omega)
  have hlast : l[l.length - 1]'(by omega) = 1000 := by
    rw [List.getD_eq_getElem?_getD, List.getElem?_eq_getElem (by omega)] at a4
    exact a4
  have HE := Lib.hid (show W0.cell? ⟨bv, ov + (l.length - 1), none⟩ = some (.int .i64 1000) by rw [hc (l.length - 1) (by omega), hlast])
  have hq : ((l.length : Int) == (s.stages.length : Int)) = true := by rw [a1]; simp
  have g2 := hbx.cell 2
  simp only [List.getElem?_cons_zero, List.getElem?_cons_succ] at g2
  have hw1 : IntKind.i64.wrap ((l.length : Int) - 1) = (l.length : Int) - 1 := by rw [IntKind.wrap_i64]; omega
  have hx2 : (0 : Int) ≤ (l.length : Int) - 1 ∧ (l.length : Int) - 1 < (l.length : Int) := by omega
  have htn : ((l.length : Int) - 1).toNat = l.length - 1 := by omega
  have h1s : (1 : Int) ≤ (l.length : Int) := by omega
  have h1n : 1 ≤ l.length := by omega
  clear hW0 hbx hS hu hv q0 q1 q2 hv0 hp hc hlast a1 a2 a3 a4 h hn
  go_enter Tryz.func35, Tryz.ntmps35
  go_wp2_with fail
  rw [← HW.out]
  refine (all_lim1 l _ _ (SL.go HV.out HT.out)).mono ?_
  rintro e wn ⟨rfl, hSn⟩
  rw [HA.out.1]
  have HTi := Lib.hid (HT.out.trans hSn)
  clear HT hSn g2
  have HT := HTi
  clear HTi
  go_wp2_with fail
  refine (IsSorted_ok l _ _ (SL.go HV.out HT.out) HLN.out HA.out.2).mono ?_
  rintro e wm ⟨rfl, hSn⟩
  have HTi := Lib.hid (HT.out.trans hSn)
  clear HT hSn
  have HT := HTi
  clear HTi
  have e0 := HT.out.keeps.cell id HE.out
  go_wp2
  go_ret
  exact ⟨rfl, HS.out.trans HT.out⟩
end Go.Proofs.YtoanjaidfdkdpaaGreat
