/- A tent whose memory is all its own, changed in place; the law CanvasSafer is walked. -/
import Derived.Test.YtdcjbbeoocldeaaMe
import Derived.Test.YtdcjbbeoocldeaaMj
import Derived.Test.YtdcjbbeoocldeaaMq
import Derived.Test.YtdcjbbeoocldeaaMx
import Derived.Test.YtdcjbbeoocldeaaMz
import Derived.Test.YtdcjbbeoocldeaaRows
/- A tent whose memory is all its own, opened, and changed in place: a lesser area, a deeper stake, one more guy. -/
namespace Go.Proofs.Ytdcjbbeoocldeaa
set_option linter.unusedSimpArgs false
set_option linter.unusedVariables false
open Go.RowKit Go.BT

structure TentK (base : Nat) (w : World) (g c : Nat) (hs : List HeadV) (t : List Head) : Prop where
  cap : t.length ≤ c
  max : t.length ≤ 9223372036854775807
  ge : base ≤ g
  bx : ∃ cs, Bx w g cs 89
  inner : Inner base w hs t
  cells : ∀ i (h1 : i < hs.length), w.cell? ⟨g, i * 3, none⟩ = some (.int .i64 hs[i].area) ∧ w.cell? ⟨g, i * 3 + 1, none⟩ = some (.int .i64 hs[i].bears) ∧ w.cell? ⟨g, i * 3 + 2, none⟩ = some hs[i].val
theorem TentO.k {base : Nat} {w : World} {v : Value} {t : List Head} (h : TentO base w v t) (ht : 0 < t.length) : ∃ g c hs, v = .slice (some ⟨g, 0, none⟩) t.length c ∧ TentK base w g c hs t := by
  obtain ⟨hs, ho, hi⟩ := h
  have hsl := ho.sl (fun _ _ _ h => h)
  obtain ⟨xs, ⟨hx, ho⟩, hr⟩ := ho
  have hl := hi.len
  rcases ho with ⟨_, h0⟩ | ⟨g, cap, cur, rfl, hb, hg, hle, hcap, hsz, hcur⟩
  · omega
  obtain ⟨p, c', b, o, hv, h1, h2, hp, hc⟩ := hsl
  have hbo := hp (by omega)
  injection hv with e1 e2 e3
  rw [← e1] at hbo
  injection hbo with hbo
  injection hbo with hbo1 hbo2
  subst hbo1 hbo2
  refine ⟨g, cap, hs, by rw [hl], by omega, by omega, hb, ⟨cur.toList, by unfold Bx; simpa using hg⟩, hi, fun i h1 => ?_⟩
  obtain ⟨_, _, cs, ⟨hr1, _⟩, hcs⟩ := hc i h1
  subst hr1
  have k3 : Rep.k HeadV = 3 := rfl
  rw [k3] at hcs
  exact ⟨by have := hcs 0 _ rfl; simpa using this, by have := hcs 1 _ rfl; simpa using this, by have := hcs 2 _ rfl; simpa using this⟩
theorem TentK.lt {base : Nat} {w : World} {g c : Nat} {hs : List HeadV} {t : List Head} (h : TentK base w g c hs t) : g < w.heap.size := by obtain ⟨cs, hb⟩ := h.bx; exact hb.lt
theorem TentK.fz {base : Nat} {w : World} {g c : Nat} {hs : List HeadV} {t : List Head} (h : TentK base w g c hs t) (o : Nat) : w.frozen? ⟨g, o, none⟩ = false := by obtain ⟨cs, hb⟩ := h.bx; exact hb.frozen o
theorem TentK.ne {base : Nat} {w : World} {g c : Nat} {hs : List HeadV} {t : List Head} (h : TentK base w g c hs t) {i : Nat} (h1 : i < hs.length) : hs[i].val.ownBlock ≠ some g := by
  obtain ⟨cs, hb⟩ := h.bx
  exact own_apart (h.inner.at_ i h1 (by have := h.inner.len; omega)).2.2 hb (by decide)
theorem TentK.step {base : Nat} {w w' : World} {g c : Nat} {hs : List HeadV} {t : List Head} (h : TentK base w g c hs t) (k : Step w w') : TentK base w' g c hs t :=
  ⟨h.cap, h.max, h.ge, by obtain ⟨cs, hb⟩ := h.bx; exact ⟨cs, hb.step k⟩, h.inner.step k, fun i h1 => ⟨k.keeps.cell id (h.cells i h1).1, k.keeps.cell id (h.cells i h1).2.1, k.keeps.cell id (h.cells i h1).2.2⟩⟩
/-- A tent read anew. -/
theorem tent_sl {w : World} {g c : Nat} {t : List Head} (hg : g < w.heap.size) (hc : t.length ≤ c) (hm : t.length ≤ 9223372036854775807) (h : ∀ i (hi : i < t.length), ∃ q, w.cell? ⟨g, i * 3, none⟩ = some (.int .i64 t[i].area) ∧ w.cell? ⟨g, i * 3 + 1, none⟩ = some (.int .i64 t[i].bears) ∧ w.cell? ⟨g, i * 3 + 2, none⟩ = some q ∧ SL (fun _ => False) w q t[i].guys) : SL (fun _ => False) w (.slice (some ⟨g, 0, none⟩) t.length c) t := by
  refine ⟨_, c, g, 0, rfl, hc, hm, fun _ => rfl, fun i hi => ?_⟩
  obtain ⟨q, h1, h2, h3, h4⟩ := h i hi
  have k3 : Rep.k Head = 3 := rfl
  refine ⟨hg, id, [.int .i64 t[i].area, .int .i64 t[i].bears, q], ⟨q, rfl, h4⟩, fun j v hj => ?_⟩
  rw [k3]
  match j, hj with
  | 0, hj => injection hj with e; subst e; simpa using h1
  | 1, hj => injection hj with e; subst e; simpa using h2
  | 2, hj => injection hj with e; subst e; simpa using h3
  | (n + 3), hj => simp at hj
/-- The guys of a head, where a row other than theirs is written. -/
theorem TentK.guys {base : Nat} {w w' : World} {g c : Nat} {hs : List HeadV} {t : List Head} (h : TentK base w g c hs t) {i : Nat} (h1 : i < hs.length) (h2 : i < t.length) {b : Nat} (hb : hs[i].val.ownBlock ≠ some b) (hk : Keeps (fun j => j = b) w w') : SL (fun _ => False) w' hs[i].val t[i].guys :=
  (((ownL_flat (fun j => j = b) (h.inner.at_ i h1 h2).2.2).slb (fun g' hg' e => by subst e; exact hb hg')).keep hk).weak (fun _ _ h => h.elim)
theorem TentK.area {base : Nat} {w : World} {g c : Nat} {hs : List HeadV} {t : List Head} (h : TentK base w g c hs t) {k : Nat} (hk : k < t.length) (x : Int) : SL (fun _ => False) (w.setCell ⟨g, k * 3, none⟩ (.int .i64 x)) (.slice (some ⟨g, 0, none⟩) t.length c) (t.set k ⟨x, t[k].bears, t[k].guys⟩) := by
  have hl := h.inner.len
  have hw := Wrote.setCell w g (k * 3) (.int .i64 x)
  rw [show t.length = (t.set k ⟨x, t[k].bears, t[k].guys⟩).length by simp]
  refine tent_sl (by rw [hw.size]; exact h.lt) (by simpa using h.cap) (by simpa using h.max) fun i hi => ?_
  have hi' : i < t.length := by simpa using hi
  have h1 : i < hs.length := by omega
  obtain ⟨c1, c2, c3⟩ := h.cells i h1
  obtain ⟨a1, a2, _⟩ := h.inner.at_ i h1 hi'
  have hg := h.guys h1 hi' (h.ne h1) hw.keeps
  refine ⟨hs[i].val, ?_, ?_, ?_, ?_⟩
  · by_cases q : k = i
    · subst q
      rw [World.cell?_setCell_same _ _ _ c1]; simp
    · rw [World.cell?_setCell_other _ _ _ _ (by intro e; injection e with _ e _; omega), c1, a1]
      simp [List.getElem_set, q]
  · rw [World.cell?_setCell_other _ _ _ _ (by intro e; injection e with _ e _; omega), c2, a2]
    by_cases q : k = i
    · subst q; simp
    · simp [List.getElem_set, q]
  · rw [World.cell?_setCell_other _ _ _ _ (by intro e; injection e with _ e _; omega), c3]
  · by_cases q : k = i
    · subst q; simpa using hg
    · simpa [List.getElem_set, q] using hg
theorem TentK.row {base : Nat} {w : World} {g c : Nat} {hs : List HeadV} {t : List Head} (h : TentK base w g c hs t) {k : Nat} (h1 : k < hs.length) (h2 : k < t.length) (h0 : 0 < t[k].guys.length) :
    ∃ b cb, hs[k].val = .slice (some ⟨b, 0, none⟩) t[k].guys.length cb ∧ t[k].guys.length ≤ cb ∧ b ≠ g ∧ base ≤ b ∧ b < w.heap.size ∧ (∀ o, w.frozen? ⟨b, o, none⟩ = false) ∧
      ∀ i (hi : i < t[k].guys.length), w.cell? ⟨b, i * 5, none⟩ = some (.int .i64 t[k].guys[i].x) ∧ w.cell? ⟨b, i * 5 + 1, none⟩ = some (.int .i64 t[k].guys[i].y) ∧ w.cell? ⟨b, i * 5 + 2, none⟩ = some (.int .i64 t[k].guys[i].down) ∧ w.cell? ⟨b, i * 5 + 3, none⟩ = some (.int .i64 t[k].guys[i].soil) ∧ w.cell? ⟨b, i * 5 + 4, none⟩ = some (.int .i64 t[k].guys[i].depth) := by
  have ho := (h.inner.at_ k h1 h2).2.2
  have hne := h.ne h1
  have hsl := ho.slb (S := fun _ => False) (fun _ _ h => h)
  obtain ⟨xs, ⟨hx, ho⟩, hr⟩ := ho
  rcases ho with ⟨_, e⟩ | ⟨b, cap, cur, hv, hb, hg, hle, hcap, hsz, hcur⟩
  · omega
  obtain ⟨p, c', b', o, hv', _, _, hp, hc, _⟩ := hsl.guys
  obtain rfl := hp h0
  rw [hv] at hv' hne
  injection hv' with e1 e2 e3
  injection e1 with e1
  injection e1 with e1 e4
  subst e1 e4
  refine ⟨b, cap, hv, hle, fun e => hne (by rw [e]; rfl), hb, (Array.getElem?_eq_some_iff.1 hg).1, fun o => by simp [World.frozen?, hg], fun i hi => ?_⟩
  have := hc i hi
  simpa using this
theorem TentK.depth {base : Nat} {w : World} {g c : Nat} {hs : List HeadV} {t : List Head} (h : TentK base w g c hs t) {k : Nat} (h1 : k < hs.length) (h2 : k < t.length) {b cb : Nat} (hv : hs[k].val = .slice (some ⟨b, 0, none⟩) t[k].guys.length cb) (hcb : t[k].guys.length ≤ cb) (hne : b ≠ g) (hlt : b < w.heap.size)
    (hc : ∀ i (hi : i < t[k].guys.length), w.cell? ⟨b, i * 5, none⟩ = some (.int .i64 t[k].guys[i].x) ∧ w.cell? ⟨b, i * 5 + 1, none⟩ = some (.int .i64 t[k].guys[i].y) ∧ w.cell? ⟨b, i * 5 + 2, none⟩ = some (.int .i64 t[k].guys[i].down) ∧ w.cell? ⟨b, i * 5 + 3, none⟩ = some (.int .i64 t[k].guys[i].soil) ∧ w.cell? ⟨b, i * 5 + 4, none⟩ = some (.int .i64 t[k].guys[i].depth))
    {j : Nat} (hj : j < t[k].guys.length) (d : Int) : SL (fun _ => False) (w.setCell ⟨b, j * 5 + 4, none⟩ (.int .i64 d)) (.slice (some ⟨g, 0, none⟩) t.length c) (t.set k ⟨t[k].area, t[k].bears, t[k].guys.set j ⟨t[k].guys[j].x, t[k].guys[j].y, t[k].guys[j].down, t[k].guys[j].soil, d⟩⟩) := by
  have hl := h.inner.len
  have hw := Wrote.setCell w b (j * 5 + 4) (.int .i64 d)
  obtain ⟨cs, hbx⟩ := h.bx
  have hgl : t[k].guys.length ≤ 9223372036854775807 := by
    obtain ⟨_, _, _, _, _, _, hm, _⟩ := ((h.inner.at_ k h1 h2).2.2.slb (S := fun _ => False) (fun _ _ h => h)).guys
    exact hm
  rw [show t.length = (t.set k ⟨t[k].area, t[k].bears, t[k].guys.set j ⟨t[k].guys[j].x, t[k].guys[j].y, t[k].guys[j].down, t[k].guys[j].soil, d⟩⟩).length by simp]
  refine tent_sl (by rw [hw.size]; exact h.lt) (by simpa using h.cap) (by simpa using h.max) fun i hi => ?_
  have hi' : i < t.length := by simpa using hi
  have hih : i < hs.length := by omega
  obtain ⟨c1, c2, c3⟩ := h.cells i hih
  obtain ⟨a1, a2, _⟩ := h.inner.at_ i hih hi'
  have far : ∀ o, (w.setCell ⟨b, j * 5 + 4, none⟩ (.int .i64 d)).cell? ⟨g, o, none⟩ = w.cell? ⟨g, o, none⟩ := fun o => World.cell?_setCell_other _ _ _ _ (by intro e; injection e with e _ _; exact hne e)
  refine ⟨hs[i].val, ?_, ?_, ?_, ?_⟩
  · rw [far, c1, a1]
    by_cases q : k = i
    · subst q; simp
    · simp [List.getElem_set, q]
  · rw [far, c2, a2]
    by_cases q : k = i
    · subst q; simp
    · simp [List.getElem_set, q]
  · rw [far, c3]
  · by_cases q : k = i
    · subst q
      rw [hv]
      simp only [List.getElem_set_self]
      refine ⟨_, cb, b, 0, by rw [List.length_set], by simpa using hcb, by simpa using hgl, fun _ => rfl, fun m hm => ?_⟩
      have hm' : m < t[k].guys.length := by simpa using hm
      obtain ⟨d1, d2, d3, d4, d5⟩ := hc m hm'
      have k5 : Rep.k Guy = 5 := rfl
      rw [k5]
      by_cases r : j = m
      · subst r
        simp only [List.getElem_set_self]
        refine ⟨by rw [hw.size]; exact hlt, id, _, rfl, fun u v hu => ?_⟩
        match u, hu with
        | 0, hu => injection hu with e; subst e; rw [World.cell?_setCell_other _ _ _ _ (by intro e; injection e with _ e _; omega)]; simpa using d1
        | 1, hu => injection hu with e; subst e; rw [World.cell?_setCell_other _ _ _ _ (by intro e; injection e with _ e _; omega)]; simpa using d2
        | 2, hu => injection hu with e; subst e; rw [World.cell?_setCell_other _ _ _ _ (by intro e; injection e with _ e _; omega)]; simpa using d3
        | 3, hu => injection hu with e; subst e; rw [World.cell?_setCell_other _ _ _ _ (by intro e; injection e with _ e _; omega)]; simpa using d4
        | 4, hu => injection hu with e; subst e; simpa using World.cell?_setCell_same _ _ _ d5
        | (n + 5), hu => simp at hu
      · rw [List.getElem_set_ne r]
        refine ⟨by rw [hw.size]; exact hlt, id, _, rfl, fun u v hu => ?_⟩
        have hul : u < 5 := by have := (List.getElem?_eq_some_iff.1 hu).1; simpa using this
        rw [World.cell?_setCell_other _ _ _ _ (by intro e; injection e with _ e _; omega)]
        match u, hu with
        | 0, hu => injection hu with e; subst e; simpa using d1
        | 1, hu => injection hu with e; subst e; simpa using d2
        | 2, hu => injection hu with e; subst e; simpa using d3
        | 3, hu => injection hu with e; subst e; simpa using d4
        | 4, hu => injection hu with e; subst e; simpa using d5
        | (n + 5), hu => simp at hu
    · have hg := h.guys hih hi' (b := b) (h.inner.apart k i h1 hih q b (by rw [hv]; rfl)) hw.keeps
      simpa [List.getElem_set, q] using hg
theorem TentK.more {base base' : Nat} {w w1 : World} {g c : Nat} {hs : List HeadV} {t : List Head} (h : TentK base w g c hs t) {k : Nat} (h1 : k < hs.length) (h2 : k < t.length) {p : Option Addr} {c1 : Nat} {gs : List Guy} (hown : OwnL (fun _ => False) base' 91 w1 (.slice p gs.length c1) gs) (hgr : w.grownBy w1 hs[k].val.ownBlock) :
    SL (fun _ => False) (w1.setCell ⟨g, k * 3 + 2, none⟩ (.slice p gs.length c1)) (.slice (some ⟨g, 0, none⟩) t.length c) (t.set k ⟨t[k].area, t[k].bears, gs⟩) := by
  have hl := h.inner.len
  obtain ⟨cs, hbx⟩ := h.bx
  have hlt := h.lt
  have hgs : w.heap.size ≤ w1.heap.size := hgr.size
  have hbk : w1.heap[g]? = w.heap[g]? := hgr.block g hlt (fun e => h.ne h1 e.symm)
  have hbx1 : Bx w1 g cs 89 := by unfold Bx at *; rw [hbk]; exact hbx
  have hc1 : ∀ o, w1.cell? ⟨g, o, none⟩ = w.cell? ⟨g, o, none⟩ := fun o => by rw [hbx1.cell, hbx.cell]
  have hw := Wrote.setCell w1 g (k * 3 + 2) (.slice p gs.length c1)
  rw [show t.length = (t.set k ⟨t[k].area, t[k].bears, gs⟩).length by simp]
  refine tent_sl (by rw [hw.size]; omega) (by simpa using h.cap) (by simpa using h.max) fun i hi => ?_
  have hi' : i < t.length := by simpa using hi
  have hih : i < hs.length := by omega
  obtain ⟨d1, d2, d3⟩ := h.cells i hih
  rw [← hc1] at d1 d2 d3
  obtain ⟨a1, a2, a3⟩ := h.inner.at_ i hih hi'
  by_cases q : k = i
  · subst q
    have hne := own_apart hown hbx1 (by decide)
    refine ⟨.slice p gs.length c1, ?_, ?_, ?_, ?_⟩
    · rw [World.cell?_setCell_other _ _ _ _ (by intro e; injection e with _ e _; omega), d1, a1]; simp
    · rw [World.cell?_setCell_other _ _ _ _ (by intro e; injection e with _ e _; omega), d2, a2]; simp
    · rw [World.cell?_setCell_same _ _ _ d3]
    · simp only [List.getElem_set_self]
      exact (((ownL_flat (fun j => j = g) hown).slb (fun g' hg' e => by subst e; exact hne hg')).keep hw.keeps).weak (fun _ _ h => h.elim)
  · have hap := h.inner.apart k i h1 hih q
    have ho := ownL_grown a3 hgr (fun g' hg' e => hap g' e hg')
    have hne := own_apart ho hbx1 (by decide)
    have hgd := (((ownL_flat (fun j => j = g) ho).slb (fun g' hg' e => by subst e; exact hne hg')).keep hw.keeps).weak (T := fun _ => False) (fun _ _ h => h.elim)
    refine ⟨hs[i].val, ?_, ?_, ?_, ?_⟩
    · rw [World.cell?_setCell_other _ _ _ _ (by intro e; injection e with _ e _; omega), d1, a1]; simp [List.getElem_set, q]
    · rw [World.cell?_setCell_other _ _ _ _ (by intro e; injection e with _ e _; omega), d2, a2]; simp [List.getElem_set, q]
    · rw [World.cell?_setCell_other _ _ _ _ (by intro e; injection e with _ e _; omega), d3]
    · simpa [List.getElem_set, q] using hgd
end Go.Proofs.Ytdcjbbeoocldeaa
/- Walks: the law CanvasSafer: it answers true. -/
namespace Go.Proofs.Ytdcjbbeoocldeaa
set_option linter.unusedSimpArgs false
set_option linter.unusedVariables false
open Go.RowKit Go.BT

theorem blown_set {l : List Tst} {t : List Head} {wind : List Vec} (h : blownC l t wind = 0) {k : Nat} {h' : Head} (hb : headB h' = true) : blownC l (t.set k h') wind = 0 := by
  obtain ⟨h1, h2, h3, h4⟩ := blown_ok h
  have hs : soundC l = 0 := by
    unfold blownC at h
    rw [if_pos h4, if_pos h3] at h
    exact h
  have ht : tentB (t.set k h') = true := by
    have := tent_parts h2
    unfold tentB
    rw [Bool.and_eq_true]
    refine ⟨by rw [List.length_set]; unfold tentB at h2; rw [Bool.and_eq_true] at h2; exact h2.1, ?_⟩
    rw [List.all_eq_true]
    intro x hx
    rcases List.mem_or_eq_of_mem_set hx with hx | rfl
    · exact List.all_eq_true.1 this.2 x hx
    · exact hb
  have hr : readyC l (t.set k h') = 0 := by
    have ht1 : testsC l = 0 := by unfold readyC at h4; split at h4 <;> assumption
    unfold readyC tentC
    rw [if_pos ht1, if_pos ht]
  unfold blownC
  rw [if_pos hr, if_pos h3, hs]
theorem stand_set {l : List Tst} {t : List Head} {wind : List Vec} (h : standB l t wind = true) {k : Nat} (hk : k < t.length) {h' : Head} (hs : standH l wind t[k] = true → standH l wind h' = true) : standB l (t.set k h') wind = true := by
  unfold standB at *
  rw [List.all_eq_true] at *
  intro x hx
  rcases List.mem_or_eq_of_mem_set hx with hx | rfl
  · exact h x hx
  · exact hs (h _ (List.getElem_mem hk))
theorem stands_of {l : List Tst} {t : List Head} {wind : List Vec} (h1 : blownC l t wind = 0) (h2 : standB l t wind = true) : standsL l t wind = true := by
  unfold standsL; rw [h1, h2]; rfl
theorem stand_less {l : List Tst} {wind : List Vec} {h : Head} {a : Int} (h0 : 0 ≤ a) (ha : a ≤ h.area) (hs : standH l wind h = true) : standH l wind ⟨a, h.bears, h.guys⟩ = true := by
  unfold standH at *
  rw [List.all_eq_true] at *
  exact fun c hc => bal_mono (hs c hc) h0 ha
theorem help_set {l : List Tst} {w : Vec} {x : Guy} : ∀ {gs : List Guy} {j : Nat} (hj : j < gs.length), max 0 (-(dotV w (forceL l gs[j]))) ≤ max 0 (-(dotV w (forceL l x))) → helpL (forcesL l gs) w ≤ helpL (forcesL l (gs.set j x)) w
  | [], j, hj, _ => absurd hj (by simp)
  | g :: gs, 0, _, h => by
    unfold helpL forcesL
    simp only [List.set_cons_zero, List.map_cons, List.sum_cons]
    simp only [List.getElem_cons_zero] at h
    omega
  | g :: gs, j + 1, hj, h => by
    have ih := help_set (l := l) (w := w) (x := x) (gs := gs) (j := j) (by simpa using hj) (by simpa using h)
    unfold helpL forcesL at *
    simp only [List.set_cons_succ, List.map_cons, List.sum_cons]
    omega
theorem stand_deeper {l : List Tst} {wind : List Vec} {h : Head} (hl : l.all tstB = true) (hg : h.guys.all guyB = true) {j : Nat} (hj : j < h.guys.length) {d : Int} (hd : h.guys[j].depth ≤ d) (hs : standH l wind h = true) : standH l wind ⟨h.area, h.bears, h.guys.set j ⟨h.guys[j].x, h.guys[j].y, h.guys[j].down, h.guys[j].soil, d⟩⟩ = true := by
  unfold standH at *
  rw [List.all_eq_true] at hs ⊢
  intro c hc
  have := balL_iff.1 (hs c hc)
  refine balL_iff.2 fun w => Int.le_trans (this w) (help_set hj ?_)
  have hp := part_deeper (g' := ⟨h.guys[j].x, h.guys[j].y, h.guys[j].down, h.guys[j].soil, d⟩) hl (all_get hg hj) ⟨rfl, rfl, rfl⟩ hd
  have h0 := (part_bound hl (all_get hg hj)).1
  exact help_scale (f := ⟨0, 0⟩) (v := ⟨h.guys[j].x, h.guys[j].y⟩) h0 hp
theorem stand_more {l : List Tst} {wind : List Vec} {h : Head} (x : Guy) (hs : standH l wind h = true) : standH l wind ⟨h.area, h.bears, h.guys ++ [x]⟩ = true := by
  unfold standH at *
  rw [List.all_eq_true] at *
  intro c hc
  have := hs c hc
  unfold forcesL at *
  rw [List.map_append]
  exact bal_more this
theorem head_of {h : Head} (h1 : 0 ≤ h.area ∧ h.area ≤ 1000) (h2 : 0 ≤ h.bears ∧ h.bears ≤ 10000000) (h3 : h.guys.length ≤ 8) (h4 : h.guys.all guyB = true) : headB h = true := by
  unfold headB
  simp only [Bool.and_eq_true, within_iff, decide_eq_true_eq]
  exact ⟨⟨⟨h1, h2⟩, h3⟩, h4⟩
theorem step_grown {w0 w w' : World} {row : Option Nat} (h : Step w0 w) (hg : w.grownBy w' row) (hr : ∀ k, row = some k → w0.heap.size ≤ k) : Step w0 w' := .of (h.below.grown hg h.size hr)
theorem guys_more {gs : List Guy} (h : gs.all guyB = true) {x : Guy} (hx : guyB x = true) : (gs ++ [x]).all guyB = true := by
  rw [List.all_append, h]; simp [hx]
theorem guys_set {gs : List Guy} (h : gs.all guyB = true) {j : Nat} (hj : j < gs.length) {d : Int} (hd : 1 ≤ d ∧ d ≤ 3000) : (gs.set j ⟨gs[j].x, gs[j].y, gs[j].down, gs[j].soil, d⟩).all guyB = true := by
  have hg := all_get h hj
  rw [List.all_eq_true] at *
  intro x hx
  rcases List.mem_or_eq_of_mem_set hx with hx | rfl
  · exact h x hx
  · unfold guyB at *
    simp only [Bool.and_eq_true, within_iff] at *
    exact ⟨hg.1, hd⟩
set_option maxRecDepth 100000 in
set_option maxHeartbeats 8000000 in
theorem CanvasSafer_any (l : List Tst) (t : List Head) (wind : List Vec) (i0 k0 e0 d0 : Int) (mo : Guy) (v u x : Value) (w : World) (hv : SL (fun _ => False) w v l) (hu : SL (fun _ => False) w u t) (hx : SL (fun _ => False) w x wind) (hi : (Lit.int .u8 i0).wf = true) (hk : (Lit.int .u8 k0).wf = true) (he : (Lit.int .u16 e0).wf = true) (hd0 : (Lit.int .u16 d0).wf = true) :
    Calls Try.prog 9 #[v, u, x, .int .u8 i0, .int .u8 k0, .int .u16 e0, .int .u16 d0, .agg #[.int .i64 mo.x, .int .i64 mo.y, .int .i64 mo.down, .int .i64 mo.soil, .int .i64 mo.depth]] w fun e w' => e = .returned (.bool true) ∧ Step w w' := by
  have HIK := Lib.hid (And.intro (u8_of hi) (u8_of hk))
  have HED := Lib.hid (And.intro (u16_of he) (u16_of hd0))
  clear hi hk he hd0
  obtain ⟨W0, hW0⟩ : ∃ W, W = w.alloc (.cells #[.int .i64 mo.x, .int .i64 mo.y, .int .i64 mo.down, .int .i64 mo.soil, .int .i64 mo.depth] 75) := ⟨_, rfl⟩
  have hb : Bx W0 w.heap.size [.int .i64 mo.x, .int .i64 mo.y, .int .i64 mo.down, .int .i64 mo.soil, .int .i64 mo.depth] 75 := by subst hW0; exact Bx.new w [_, _, _, _, _] _
  have hS : Step w W0 := by subst hW0; exact (by repeat (first | (with_reducible assumption) | (with_reducible exact Step.refl _) | (with_reducible apply Step.s_alloc) | (with_reducible apply Step.s_drew) | (with_reducible apply Step.s_drewN) | (with_reducible refine Step.trans ?_ (by with_reducible assumption))))
  have HB := Lib.hid hb
  have HV := Lib.hid (SL.go hv hS)
  have HU := Lib.hid (SL.go hu hS)
  have HX := Lib.hid (SL.go hx hS)
  have HS := Lib.hid hS
  have HT := Lib.hid (Step.refl W0)
  have HW := Lib.hid hW0
  have hmx := hx.len
  obtain ⟨pv, cv, rfl⟩ := hv.form
  obtain ⟨pu, cu, rfl⟩ := hu.form
  obtain ⟨px, cx, rfl⟩ := hx.form
  clear hb hS hW0 hv hu hx
  go_enter Try.func9, Try.ntmps9
  go_upto_region 1 with (fail)
  rw [← HW.out]
  clear HW
  go_wp2_with fail
  refine (Few_any (fun _ => False) l t _ _ _ (HV.out.keep (.of_step HT.out)) (HU.out.keep (.of_step HT.out))).mono ?_
  rintro e wn ⟨rfl, hSn⟩
  have HTi := Lib.hid (HT.out.trans hSn)
  clear hSn HT
  have HT := HTi
  clear HTi
  cases qf : few l t with
  | false =>
    clear qf
    go_wp2_with fail
    refine (wakes_any _).mono ?_
    rintro e wz ⟨rfl, hSz⟩
    go_wp2
    go_ret
    exact ⟨rfl, HS.out.trans (HT.out.trans hSz)⟩
  | true =>
  have HFEW := Lib.hid (few_of qf)
  clear qf
  by_cases h12 : 12 < (wind.length : Int)
  · have hd : decide (12 < (wind.length : Int)) = true := by simpa using h12
    go_wp2_with fail
    refine (wakes_any _).mono ?_
    rintro e wz ⟨rfl, hSz⟩
    go_wp2
    go_ret
    exact ⟨rfl, HS.out.trans (HT.out.trans hSz)⟩
  have hd : decide (12 < (wind.length : Int)) = false := by simpa using h12
  have HL12 := Lib.hid (show wind.length ≤ 12 by omega)
  clear h12
  go_wp2_with fail
  refine (LBlown_any (fun _ => False) l t wind _ _ _ _ (SL.go HV.out HT.out) (SL.go HU.out HT.out) (SL.go HX.out HT.out)).mono ?_
  rintro e wn ⟨rfl, hSn⟩
  have HTi := Lib.hid (HT.out.trans hSn)
  clear hSn HT
  have HT := HTi
  clear HTi
  clear hd
  obtain ⟨c, hc⟩ : ∃ c, c = blownC l t wind := ⟨_, rfl⟩
  rw [← hc]
  by_cases h0 : c = 0
  rotate_left
  · have hd : (c != 0) = true := by simpa using h0
    clear h0 hc
    go_wp2_with fail
    refine (wakes_any _).mono ?_
    rintro e wz ⟨rfl, hSz⟩
    go_wp2
    go_ret
    exact ⟨rfl, HS.out.trans (HT.out.trans hSz)⟩
  subst h0
  have HC := Lib.hid hc.symm
  have HKW := Lib.hid (blown_ok hc.symm)
  clear hc
  go_wp2_with fail
  refine (Tests_any _ l _ _ (SL.go HV.out HT.out) (by have := HFEW.out.1; omega)).mono ?_
  rintro e wn ⟨v1, rfl, hv1, hSn⟩
  have HTi := Lib.hid (HT.out.trans hSn)
  clear hSn HT
  have HT := HTi
  clear HTi
  have HV1 := Lib.hid (SL.go hv1 (Step.refl _))
  clear hv1
  go_wp2_with fail
  refine (Tent_any _ t _ _ (SL.go HU.out HT.out) HFEW.out.2).mono ?_
  rintro e wm ⟨v2, rfl, hv2, hSn⟩
  have HTm := Lib.hid (HT.out.trans hSn)
  have HV1m := Lib.hid (SL.go HV1.out hSn)
  have HV2 := Lib.hid (SL.go hv2 (Step.refl _))
  clear hSn HT HV1 hv2
  go_wp2_with fail
  refine (Wind_any _ wind _ _ (SL.go HX.out HTm.out) (by have := HL12.out; omega)).mono ?_
  rintro e wn ⟨v3, rfl, hv3, hSn⟩
  have HTn := Lib.hid (HTm.out.trans hSn)
  have HV1n := Lib.hid (SL.go HV1m.out hSn)
  have HV2n := Lib.hid (SL.go HV2.out hSn)
  have HV3 := Lib.hid (SL.go hv3 (Step.refl _))
  clear hSn HTm HV1m HV2 hv3
  go_wp2_with fail
  refine (stands_any (fun _ => False) l t wind _ _ _ _ HV1n.out HV2n.out HV3.out).mono ?_
  rintro e wz ⟨rfl, hSn⟩
  have HT := Lib.hid (HTn.out.trans hSn)
  clear hSn HTn HV1n HV2n HV3
  obtain ⟨st, hst⟩ : ∃ b, b = standsL l t wind := ⟨_, rfl⟩
  rw [← hst]
  cases st with
  | false =>
    clear hst
    go_wp2_with fail
    refine (wakes_any _).mono ?_
    rintro e wz ⟨rfl, hSz⟩
    go_wp2
    go_ret
    exact ⟨rfl, HS.out.trans (HT.out.trans hSz)⟩
  | true =>
  have hstb : standB l t wind = true := by
    unfold standsL at hst
    cases q : standB l t wind with
    | true => rfl
    | false => rw [q, Bool.and_false] at hst; exact absurd hst (by decide)
  have HST := Lib.hid hstb
  clear hst hstb
  have htp := (tent_parts HKW.out.2.1)
  have hik := HIK.out
  obtain ⟨kk, hkk, hklt⟩ := rem_index (n := t.length) hik.1.1 (by omega)
  have htp1 := htp.1
  have HHD := Lib.hid (head_parts (all_get htp.2 hklt))
  have HKT := Lib.hid (And.intro hklt htp1)
  have hw1 : IntKind.i64.wrap i0 = i0 := by rw [IntKind.wrap_i64]; omega
  have hne : (t.length : Int) ≠ 0 := by omega
  have hne3 : ¬ t.length = 0 := by omega
  clear htp hik htp1
  go_upto_region 4 with (fail)
  clear hw1 hne hne3 hkk
  go_wp2_with fail
  refine (TentO_any _ t _ _ (SL.go HU.out HT.out) HFEW.out.2).mono ?_
  have HZ0 := Lib.hid HT.out.size
  rintro e wx ⟨v2, rfl, hv2, hSn⟩
  have HTi := Lib.hid (HT.out.trans hSn)
  clear hSn HT
  have HT := HTi
  clear HTi
  obtain ⟨g, cg, hs, rfl, htk⟩ := hv2.k (by omega)
  have htl := htk.inner.len
  have hkh : kk < hs.length := by omega
  obtain ⟨c1, c2, c3⟩ := htk.cells kk hkh
  have a1 := (htk.inner.at_ kk hkh hklt).1
  rw [a1] at c1
  have gf := htk.fz
  have glt := htk.lt
  have hcap := htk.cap
  have HTK := Lib.hid htk
  have hed := HED.out
  have hhd := HHD.out
  have hix : (0 : Int) ≤ (kk : Int) ∧ (kk : Int) < (t.length : Int) := by omega
  obtain ⟨ar, har⟩ : ∃ a, a = t[kk].area := ⟨_, rfl⟩
  rw [← har] at c1 hhd
  have hw1 : IntKind.i64.wrap e0 = e0 := by rw [IntKind.wrap_i64]; omega
  have hw2 : IntKind.i64.wrap (ar - e0) = ar - e0 := by rw [IntKind.wrap_i64]; omega
  have hw3 : wrap64 (ar - e0) = ar - e0 := by unfold wrap64; omega
  have z0 := gf (kk * 3)
  have HAR := Lib.hid har
  clear hv2 htk c2 c3 a1 gf hed hhd har
  go_upto_region 6 with (fail)
  clear c1 z0 hw1 hw2 hw3 glt hcap
  obtain ⟨na, hna⟩ : ∃ n, n = (if e0 < ar then ar - e0 else 0) := ⟨_, rfl⟩
  rw [← hna]
  have hnb : 0 ≤ na ∧ na ≤ t[kk].area := by
    have h1 := HHD.out.1
    have h2 := HED.out.1
    have h3 := HAR.out
    subst hna
    split <;> omega
  have HXT := Lib.hid (HTK.out.area hklt na)
  have HST1 := Lib.hid (stands_of (blown_set (k := kk) HC.out (head_of (h := ⟨na, t[kk].bears, t[kk].guys⟩) (by have := HHD.out.1; dsimp only; omega) HHD.out.2.1 HHD.out.2.2.1 HHD.out.2.2.2)) (stand_set HST.out hklt (stand_less hnb.1 hnb.2)))
  have hty := Step.setNew HT.out ⟨g, kk * 3, none⟩ (.int .i64 na) (by have h1 := HTK.out.ge; have h2 := HZ0.out; show _ ≤ g; omega)
  obtain ⟨wy, hwy⟩ : ∃ W, W = wx.setCell ⟨g, kk * 3, none⟩ (.int .i64 na) := ⟨_, rfl⟩
  rw [← hwy] at HXT hty ⊢
  clear HT hna hwy hnb HTK htl hkh HAR HZ0
  have HT := Lib.hid hty
  clear hty
  have q1 := Lib.hid (HS.out.trans HT.out)
  have q2 := Lib.hid (SL.go HV.out HT.out)
  have q3 := Lib.hid (SL.go HU.out HT.out)
  have q4 := Lib.hid (SL.go HX.out HT.out)
  have q5 := Lib.hid (HB.out.step HT.out)
  clear HS HV HU HX HB HT
  have HS := q1
  have HV := q2
  have HU := q3
  have HX := q4
  have HB := q5
  clear q1 q2 q3 q4 q5
  have HT := Lib.hid (Step.refl wy)
  go_wp2_with fail
  refine (Tests_any _ l _ _ (SL.go HV.out HT.out) (by have := HFEW.out.1; omega)).mono ?_
  rintro e wn ⟨v1, rfl, hv1, hSn⟩
  have HTi := Lib.hid (HT.out.trans hSn)
  clear hSn HT
  have HT := HTi
  clear HTi
  have HV1 := Lib.hid (SL.go hv1 (Step.refl _))
  clear hv1
  go_wp2_with fail
  refine (Wind_any _ wind _ _ (SL.go HX.out HT.out) (by have := HL12.out; omega)).mono ?_
  rintro e wn ⟨v3, rfl, hv3, hSn⟩
  have HTn := Lib.hid (HT.out.trans hSn)
  have HV1n := Lib.hid (SL.go HV1.out hSn)
  have HV3 := Lib.hid (SL.go hv3 (Step.refl _))
  clear hSn HT HV1 hv3
  go_wp2_with fail
  refine (stands_any (fun _ => False) l (t.set kk ⟨na, t[kk].bears, t[kk].guys⟩) wind _ _ _ _ HV1n.out (SL.go HXT.out HTn.out) HV3.out).mono ?_
  rintro e wz ⟨rfl, hSn⟩
  have HT := Lib.hid (HTn.out.trans hSn)
  clear hSn HTn HV1n HV3
  rw [HST1.out]
  clear HXT HST1
  have HZ0 := Lib.hid HT.out.size
  go_wp2_with fail
  refine (TentO_any _ t _ _ (SL.go HU.out HT.out) HFEW.out.2).mono ?_
  rintro e wx ⟨v2, rfl, hv2, hSn⟩
  have HTi := Lib.hid (HT.out.trans hSn)
  clear hSn HT
  have HT := HTi
  clear HTi
  obtain ⟨g, cg, hs, rfl, htk⟩ := hv2.k (by omega)
  have htl := htk.inner.len
  have hkh : kk < hs.length := by omega
  obtain ⟨c1, c2, c3⟩ := htk.cells kk hkh
  have hcap := htk.cap
  have HTK := Lib.hid htk
  obtain ⟨vg, hvg⟩ : ∃ v, v = hs[kk].val := ⟨_, rfl⟩
  rw [← hvg] at c3
  have HVG := Lib.hid hvg
  obtain ⟨pg, qg, hgf, hq1, hq2⟩ := (htk.inner.at_ kk hkh hklt).2.2.form
  rw [← hvg] at hgf
  subst hgf
  have HQ := Lib.hid (And.intro hq1 hq2)
  clear hv2 htk c1 c2 hvg hq1 hq2
  go_upto_region 10 with (fail)
  clear hcap
  by_cases h0 : 0 < (t[kk].guys.length : Int)
  rotate_left
  · have hd : decide (0 < (t[kk].guys.length : Int)) = false := by simpa using h0
    have hd2 : decide (0 < t[kk].guys.length) = false := decide_eq_false (by omega)
    clear h0 c3
    go_upto_region 15 with (fail)
    clear hd hd2 HVG HQ HTK htl hkh HZ0
    skip
    have q1 := Lib.hid (HS.out.trans HT.out)
    have q2 := Lib.hid (SL.go HV.out HT.out)
    have q3 := Lib.hid (SL.go HU.out HT.out)
    have q4 := Lib.hid (SL.go HX.out HT.out)
    have q5 := Lib.hid (HB.out.step HT.out)
    clear HS HV HU HX HB HT
    have HS := q1
    have HV := q2
    have HU := q3
    have HX := q4
    have HB := q5
    clear q1 q2 q3 q4 q5
    have HT := Lib.hid (Step.refl wx)
    have HZB := Lib.hid HS.out.size
    go_wp2_with fail
    refine (TentO_any _ t _ _ (SL.go HU.out HT.out) HFEW.out.2).mono ?_
    rintro e wx ⟨v2, rfl, hv2, hSn⟩
    have HTi := Lib.hid (HT.out.trans hSn)
    clear hSn HT
    have HT := HTi
    clear HTi
    obtain ⟨g, cg, hs, rfl, htk⟩ := hv2.k (by omega)
    have htl := htk.inner.len
    have hkh : kk < hs.length := by omega
    obtain ⟨c1, c2, c3⟩ := htk.cells kk hkh
    have hcap := htk.cap
    have HTK := Lib.hid htk
    obtain ⟨vg, hvg⟩ : ∃ v, v = hs[kk].val := ⟨_, rfl⟩
    rw [← hvg] at c3
    have HVG := Lib.hid hvg
    obtain ⟨pg, qg, hgf, hq1, hq2⟩ := (htk.inner.at_ kk hkh hklt).2.2.form
    rw [← hvg] at hgf
    subst hgf
    have HQ := Lib.hid (And.intro hq1 hq2)
    have HXT := Lib.hid (hv2.sl (S := fun _ => False) (fun _ _ _ h => h))
    have HST1 := Lib.hid (stands_of HC.out HST.out)
    clear hv2 htk c1 c2 hvg hq1 hq2
    go_upto_region 16 with (fail)
    obtain ⟨wq, hwq⟩ : ∃ W, W = wx := ⟨_, rfl⟩
    subst hwq
    by_cases h8 : (t[kk].guys.length : Int) < 8
    rotate_left
    · have hd : decide ((t[kk].guys.length : Int) < 8) = false := by simpa using h8
      have hd2 : decide (t[kk].guys.length < 8) = false := decide_eq_false (by omega)
      clear h8
      go_upto_region 18 with (fail)
      clear hd hd2 c3 hcap
      have q1 := Lib.hid (HS.out.trans HT.out)
      have q2 := Lib.hid (SL.go HV.out HT.out)
      have q3 := Lib.hid (SL.go HU.out HT.out)
      have q4 := Lib.hid (SL.go HX.out HT.out)
      have q5 := Lib.hid (HB.out.step HT.out)
      clear HS HV HU HX HB HT
      have HS := q1
      have HV := q2
      have HU := q3
      have HX := q4
      have HB := q5
      clear q1 q2 q3 q4 q5
      have HT := Lib.hid (Step.refl wq)
      go_wp2_with fail
      refine (Tests_any _ l _ _ (SL.go HV.out HT.out) (by have := HFEW.out.1; omega)).mono ?_
      rintro e wn ⟨v1, rfl, hv1, hSn⟩
      have HTi := Lib.hid (HT.out.trans hSn)
      clear hSn HT
      have HT := HTi
      clear HTi
      have HV1 := Lib.hid (SL.go hv1 (Step.refl _))
      clear hv1
      go_wp2_with fail
      refine (Wind_any _ wind _ _ (SL.go HX.out HT.out) (by have := HL12.out; omega)).mono ?_
      rintro e wn ⟨v3, rfl, hv3, hSn⟩
      have HTn := Lib.hid (HT.out.trans hSn)
      have HV1n := Lib.hid (SL.go HV1.out hSn)
      have HV3 := Lib.hid (SL.go hv3 (Step.refl _))
      clear hSn HT HV1 hv3
      go_wp2_with fail
      refine (stands_any (fun _ => False) l (t) wind _ _ _ _ HV1n.out (SL.go HXT.out HTn.out) HV3.out).mono ?_
      rintro e wz ⟨rfl, hSn⟩
      have HT := Lib.hid (HTn.out.trans hSn)
      clear hSn HTn HV1n HV3
      rw [HST1.out]
      go_wp2_with fail
      refine (wakes_any _).mono ?_
      rintro e wz ⟨rfl, hSz⟩
      go_wp2
      go_ret
      exact ⟨rfl, HS.out.trans (HT.out.trans hSz)⟩
    have hd : decide ((t[kk].guys.length : Int) < 8) = true := by simpa using h8
    have hd2 : decide (t[kk].guys.length < 8) = true := decide_eq_true (by omega)
    have HC3 := Lib.hid c3
    have H8 := Lib.hid (show t[kk].guys.length < 8 by omega)
    clear h8
    obtain ⟨r0, r1, r2, r3, r4⟩ := cells5 (HB.out.step HT.out)
    go_wp2_with fail
    refine (RightGuy_any mo _).mono ?_
    rintro e wn ⟨rfl, hSn⟩
    have HTKn := Lib.hid (HTK.out.step hSn)
    have HC3n := Lib.hid (hSn.keeps.cell id HC3.out)
    have HXTn := Lib.hid (SL.go HXT.out hSn)
    have HTi := Lib.hid (HT.out.trans hSn)
    clear hSn HT HTK HC3 HXT
    have HT := HTi
    have HXT := HXTn
    clear HTi HXTn
    clear r0 r1 r2 r3 r4 hd hd2
    cases qg : guyB mo with
    | false =>
      clear qg c3 hcap
      go_upto_region 18 with (fail)
      have q1 := Lib.hid (HS.out.trans HT.out)
      have q2 := Lib.hid (SL.go HV.out HT.out)
      have q3 := Lib.hid (SL.go HU.out HT.out)
      have q4 := Lib.hid (SL.go HX.out HT.out)
      have q5 := Lib.hid (HB.out.step HT.out)
      clear HS HV HU HX HB HT
      have HS := q1
      have HV := q2
      have HU := q3
      have HX := q4
      have HB := q5
      clear q1 q2 q3 q4 q5
      have HT := Lib.hid (Step.refl wn)
      go_wp2_with fail
      refine (Tests_any _ l _ _ (SL.go HV.out HT.out) (by have := HFEW.out.1; omega)).mono ?_
      rintro e wn ⟨v1, rfl, hv1, hSn⟩
      have HTi := Lib.hid (HT.out.trans hSn)
      clear hSn HT
      have HT := HTi
      clear HTi
      have HV1 := Lib.hid (SL.go hv1 (Step.refl _))
      clear hv1
      go_wp2_with fail
      refine (Wind_any _ wind _ _ (SL.go HX.out HT.out) (by have := HL12.out; omega)).mono ?_
      rintro e wn ⟨v3, rfl, hv3, hSn⟩
      have HTn := Lib.hid (HT.out.trans hSn)
      have HV1n := Lib.hid (SL.go HV1.out hSn)
      have HV3 := Lib.hid (SL.go hv3 (Step.refl _))
      clear hSn HT HV1 hv3
      go_wp2_with fail
      refine (stands_any (fun _ => False) l (t) wind _ _ _ _ HV1n.out (SL.go HXT.out HTn.out) HV3.out).mono ?_
      rintro e wz ⟨rfl, hSn⟩
      have HT := Lib.hid (HTn.out.trans hSn)
      clear hSn HTn HV1n HV3
      rw [HST1.out]
      go_wp2_with fail
      refine (wakes_any _).mono ?_
      rintro e wz ⟨rfl, hSz⟩
      go_wp2
      go_ret
      exact ⟨rfl, HS.out.trans (HT.out.trans hSz)⟩
    | true =>
    have HMO := Lib.hid qg
    clear qg c3 hcap HXT HST1
    go_upto_region 17 with (fail)
    have hnxg : ¬ (Value.slice pg t[kk].guys.length qg).ownBlock = some g := by rw [HVG.out]; exact HTKn.out.ne hkh
    have hnxb : ¬ (Value.slice pg t[kk].guys.length qg).ownBlock = some w.heap.size := by rw [HVG.out]; exact own_apart (HTKn.out.inner.at_ kk hkh hklt).2.2 (HB.out.step HT.out) (by decide)
    have HTC := Lib.hid HT.out
    clear HT
    refine Late.wp_region_late (fun j => (Value.slice pg t[kk].guys.length qg).ownBlock = some j) (fun c d v a w h => by cases d <;> exact h) (kdOf [18] []) [0, 0, 0, 0, 12, 28, 60, 0, 128, 0, 512, 0, 2048, 0, 8192, 0, 32768, 130944, 262016, 524284, 1048575, 2097151, 4194303] [0, 1, 2, 3, 4, 5, 6, 7, 8, 9, 10, 11, 12, 13, 14, 15, 16, 17, 18] 19 [20, 21, 22] (by kernel_rfl) (by kernel_rfl) (fun i T z hi hk => by simp [kdOf] at hk <;> (try (split at hk <;> cases hk))) ?_
    intro Wx hWx
    have HT := Lib.hid hWx
    clear hWx
    have c3 := HT.out.keeps.cell id HC3n.out
    obtain ⟨r0, r1, r2, r3, r4⟩ := cells5 (HB.out.step (HTC.out.trans HT.out))
    repeat (first | (refine Late.run_off rfl rfl (by rfl) ?_; (try simp only [Act.put, List.setIfInBounds_toArray, List.set_cons_zero, List.set_cons_succ])) | ((refine Late.run_want rfl rfl (by rfl) ⟨?_, fun W hW => ?_, ?_⟩; rotate_left; (· (have d0 := hW.keeps.cell hnxg c3; have d1 := hW.keeps.cell hnxb r0; have d2 := hW.keeps.cell hnxb r1; have d3 := hW.keeps.cell hnxb r2; have d4 := hW.keeps.cell hnxb r3; have d5 := hW.keeps.cell hnxb r4; go_simp; (try with_reducible rfl)))); (try simp only [Act.put, List.setIfInBounds_toArray, List.set_cons_zero, List.set_cons_succ])))
    refine Late.run_chain rfl rfl (by rfl) (fun Wj hWj K'' hK'' => ?_)
    go_simp
    refine hK'' _ _ (.of (Step.alloc _ _)) ?_
    (try simp only [Act.put, List.setIfInBounds_toArray, List.set_cons_zero, List.set_cons_succ])
    clear c3 r0 r1 r2 r3 r4
    refine Late.run_end rfl rfl (L := [_, _, _]) rfl (fun W6 hW6 K6 hK6 => ?_)
    have hu := (SLe.one (S := avoid (fun _ => False) (.slice pg t[kk].guys.length qg)) (w := Wj) (cs := [.int .i64 mo.x, .int .i64 mo.y, .int .i64 mo.down, .int .i64 mo.soil, .int .i64 mo.depth]) (x := mo) 91 rfl).step hW6
    have HT6 := Lib.hid (HT.out.trans ((hWj.trans (Step.alloc _ _)).trans hW6))
    have htk6 := HTKn.out.step HT6.out
    have hown : OwnL (fun _ => False) wx.heap.size 91 W6 (.slice pg t[kk].guys.length qg) t[kk].guys := by rw [HVG.out]; exact (htk6.inner.at_ kk hkh hklt).2.2
    obtain ⟨nn, hnn⟩ : ∃ n, n = (t[kk].guys ++ [mo]).length := ⟨_, rfl⟩
    have hn1 : t[kk].guys.length + [mo].length = nn := by rw [hnn]; simp
    have hn2 : nn ≤ maxLen := by have := H8.out; rw [hnn]; simp only [List.length_append, List.length_singleton, maxLen]; omega
    have hn4 : nn * 40 ≤ 140737488355328 := by have := H8.out; rw [hnn]; simp only [List.length_append, List.length_singleton]; omega
    have hn3 : wx.heap.size ≤ W6.heap.size := by have h1 := htk6.ge; have h2 := htk6.lt; omega
    have HTK6 := Lib.hid htk6
    clear hWj hW6 HT htk6
    refine wp_append_L (α := Guy) (S := fun _ => False) (base := wx.heap.size) (v := .slice pg t[kk].guys.length qg) (l := t[kk].guys) (m := [mo]) eiGuys _ _ rfl rfl rfl hown hu nn hn1 (t[kk].guys ++ [mo]) rfl hn2 hn4 hn3 ?_
    intro p2 c2 w2 hown4 hg4
    have hrow : ∀ j, (Value.slice pg t[kk].guys.length qg).ownBlock = some j → wx.heap.size ≤ j := fun j hj => (hown.lt j hj).1
    have hbg := hg4.block g HTK6.out.lt (fun e => hnxg e.symm)
    have c9 : w2.cell? ⟨g, kk * 3 + 2, none⟩ = some (.slice pg t[kk].guys.length qg) := (World.cell?_of_block (a := ⟨g, kk * 3 + 2, none⟩) hbg).trans (by rw [HVG.out]; exact (HTK6.out.cells kk hkh).2.2)
    have z9 : w2.frozen? ⟨g, kk * 3 + 2, none⟩ = false := (World.frozen?_of_block (a := ⟨g, kk * 3 + 2, none⟩) hbg).trans (HTK6.out.fz _)
    have g9 : g < w2.heap.size := Nat.lt_of_lt_of_le HTK6.out.lt hg4.size
    have hmore := HTK6.out.more hkh hklt (by rw [hnn] at hown4; exact hown4) (by rw [← HVG.out]; exact hg4)
    rw [← hnn] at hmore
    have hst2 : Step wx w2 := step_grown (HTC.out.trans HT6.out) hg4 hrow
    have hst9 := Step.setNew hst2 ⟨g, kk * 3 + 2, none⟩ (.slice p2 nn c2) HTK6.out.ge
    have HXT := Lib.hid hmore
    have HST9 := Lib.hid hst9
    refine hK6 _ _ (StepX.grown hg4 fun j hj _ => hj) ?_
    clear hown hu hown4 hg4 hn1 hn2 hn3 hn4 hnn hrow hbg hmore hst2 hst9 hnxg hnxb hK'' hK6
    (try simp only [Act.put, List.setIfInBounds_toArray, List.set_cons_zero, List.set_cons_succ])
    go_upto_region 18 with (fail)
    obtain ⟨w9, hw9⟩ : ∃ W, W = w2.setCell ⟨g, kk * 3 + 2, none⟩ (.slice p2 nn c2) := ⟨_, rfl⟩
    rw [← hw9] at HXT HST9 ⊢
    clear hw9 c9 z9 g9 HTKn HC3n HTK6 HVG HQ HTC HT6 htl hkh
    have HT := HST9
    clear HST9
    have HST1 := Lib.hid (stands_of (blown_set (k := kk) HC.out (head_of (h := ⟨t[kk].area, t[kk].bears, t[kk].guys ++ [mo]⟩) HHD.out.1 HHD.out.2.1 (by have := H8.out; simp only [List.length_append, List.length_singleton]; omega) (guys_more HHD.out.2.2.2 HMO.out))) (stand_set HST.out hklt (stand_more mo)))
    have q1 := Lib.hid (HS.out.trans HT.out)
    have q2 := Lib.hid (SL.go HV.out HT.out)
    have q3 := Lib.hid (SL.go HU.out HT.out)
    have q4 := Lib.hid (SL.go HX.out HT.out)
    have q5 := Lib.hid (HB.out.step HT.out)
    clear HS HV HU HX HB HT
    have HS := q1
    have HV := q2
    have HU := q3
    have HX := q4
    have HB := q5
    clear q1 q2 q3 q4 q5
    have HT := Lib.hid (Step.refl w9)
    go_wp2_with fail
    refine (Tests_any _ l _ _ (SL.go HV.out HT.out) (by have := HFEW.out.1; omega)).mono ?_
    rintro e wn ⟨v1, rfl, hv1, hSn⟩
    have HTi := Lib.hid (HT.out.trans hSn)
    clear hSn HT
    have HT := HTi
    clear HTi
    have HV1 := Lib.hid (SL.go hv1 (Step.refl _))
    clear hv1
    go_wp2_with fail
    refine (Wind_any _ wind _ _ (SL.go HX.out HT.out) (by have := HL12.out; omega)).mono ?_
    rintro e wn ⟨v3, rfl, hv3, hSn⟩
    have HTn := Lib.hid (HT.out.trans hSn)
    have HV1n := Lib.hid (SL.go HV1.out hSn)
    have HV3 := Lib.hid (SL.go hv3 (Step.refl _))
    clear hSn HT HV1 hv3
    go_wp2_with fail
    refine (stands_any (fun _ => False) l (t.set kk ⟨t[kk].area, t[kk].bears, t[kk].guys ++ [mo]⟩) wind _ _ _ _ HV1n.out (SL.go HXT.out HTn.out) HV3.out).mono ?_
    rintro e wz ⟨rfl, hSn⟩
    have HT := Lib.hid (HTn.out.trans hSn)
    clear hSn HTn HV1n HV3
    rw [HST1.out]
    clear HXT HST1
    go_wp2_with fail
    refine (wakes_any _).mono ?_
    rintro e wz ⟨rfl, hSz⟩
    go_wp2
    go_ret
    exact ⟨rfl, HS.out.trans (HT.out.trans hSz)⟩
  have hd : decide (0 < (t[kk].guys.length : Int)) = true := by simpa using h0
  have hd2 : decide (0 < t[kk].guys.length) = true := decide_eq_true (by omega)
  obtain ⟨b, cb, hv, hcb, hbg, hbb, hblt, hbf, hbc⟩ := HTK.out.row hkh hklt (by omega)
  have e := HVG.out.trans hv
  injection e with e1 _ e3
  subst e1 e3
  obtain ⟨jj, hjj, hjlt⟩ := rem_index (n := t[kk].guys.length) HIK.out.2.1 (by omega)
  have HROW := Lib.hid (And.intro hv (And.intro hcb (And.intro hbg (And.intro hbb (And.intro hblt hbc)))))
  obtain ⟨dp, hdp⟩ : ∃ a, a = t[kk].guys[jj].depth := ⟨_, rfl⟩
  have d5 := (hbc jj hjlt).2.2.2.2
  rw [← hdp] at d5
  have hgp := guy_parts (all_get HHD.out.2.2.2 hjlt)
  rw [← hdp] at hgp
  have HDP := Lib.hid (And.intro hdp hgp.2.2.2.2.2)
  have hed := HED.out
  have hik := HIK.out
  have hw1 : IntKind.i64.wrap k0 = k0 := by rw [IntKind.wrap_i64]; omega
  have hw2 : IntKind.i64.wrap d0 = d0 := by rw [IntKind.wrap_i64]; omega
  have hw3 : IntKind.i64.wrap (dp + d0) = dp + d0 := by rw [IntKind.wrap_i64]; omega
  have hw4 : wrap64 (dp + d0) = dp + d0 := by unfold wrap64; omega
  have hne : (t[kk].guys.length : Int) ≠ 0 := by omega
  have hne3 : ¬ t[kk].guys.length = 0 := by omega
  have hjx : (0 : Int) ≤ (jj : Int) ∧ (jj : Int) < (t[kk].guys.length : Int) := by omega
  have z4 := hbf (jj * 5 + 4)
  clear hv hcb hbg hbb hbf hbc hdp hgp hed hik h0
  go_upto_region 11 with (fail)
  clear hd hd2
  obtain ⟨wq, hwq⟩ : ∃ W, W = wx := ⟨_, rfl⟩
  subst hwq
  have HC3 := Lib.hid c3
  clear c3
  have HTC := Lib.hid HT.out
  clear HT
  have HT := Lib.hid (Step.refl wq)
  refine wp_region_seq (kdOf [] []) [0, 0, 3, 7, 15, 0, 32, 0, 224, 511, 1023] [0, 1, 2, 3, 4, 5, 6, 7, 8, 9, 10] [] (by kernel_rfl) (by kernel_rfl) (fun i T z hi hk => by simp [kdOf] at hk <;> (try (split at hk <;> cases hk))) ?_
  intro Wx hWx
  have HTx := Lib.hid (HT.out.trans hWx)
  clear hWx HT
  have HT := HTx
  clear HTx
  have c3 := HT.out.keeps.cell id HC3.out
  repeat (first | (refine run_off rfl rfl (by rfl) ?_; (try simp only [Act.put, List.setIfInBounds_toArray, List.set_cons_zero, List.set_cons_succ])) | (refine run_chain_off rfl rfl (by rfl) (K0_mono _) ?_; (try simp only [Act.put, List.setIfInBounds_toArray, List.set_cons_zero, List.set_cons_succ])) | ((refine run_want rfl rfl (by rfl) ⟨?_, fun W hW => ?_, ?_⟩; rotate_left; (· (have d0 := hW.keeps.cell id c3; go_simp; (try with_reducible rfl)))); (try simp only [Act.put, List.setIfInBounds_toArray, List.set_cons_zero, List.set_cons_succ])))
  refine run_end (L := []) rfl (fun W6 hW6 => ?_)
  have HT6 := Lib.hid (HT.out.trans hW6)
  clear hW6 HT
  have HT := HT6
  clear HT6
  have q5 := HT.out.keeps.cell id d5
  have z5 : W6.frozen? ⟨b, jj * 5 + 4, none⟩ = false := (World.frozen?_of_block (w := wq) (HT.out.below.block b hblt)).trans z4
  have hbl : b < W6.heap.size := Nat.lt_of_lt_of_le hblt HT.out.size
  clear c3 d5 z4 hblt
  go_upto_region 13 with (fail)
  obtain ⟨nd, hnd⟩ : ∃ n, n = (if dp + d0 < 3000 then dp + d0 else 3000) := ⟨_, rfl⟩
  rw [← hnd]
  have hnb : 1 ≤ nd ∧ nd ≤ 3000 ∧ t[kk].guys[jj].depth ≤ nd := by
    have h1 := HDP.out
    have h2 := HED.out.2
    have h3 := h1.1
    subst hnd
    split <;> omega
  have hXT := (HTK.out.step HT.out).depth hkh hklt HROW.out.1 HROW.out.2.1 HROW.out.2.2.1 hbl (fun i hi => by
    obtain ⟨x1, x2, x3, x4, x5⟩ := HROW.out.2.2.2.2.2 i hi
    exact ⟨HT.out.keeps.cell id x1, HT.out.keeps.cell id x2, HT.out.keeps.cell id x3, HT.out.keeps.cell id x4, HT.out.keeps.cell id x5⟩) hjlt nd
  have HXT := Lib.hid hXT
  have HST1 := Lib.hid (stands_of (blown_set (k := kk) HC.out (head_of (h := ⟨t[kk].area, t[kk].bears, t[kk].guys.set jj ⟨t[kk].guys[jj].x, t[kk].guys[jj].y, t[kk].guys[jj].down, t[kk].guys[jj].soil, nd⟩⟩) HHD.out.1 HHD.out.2.1 (by rw [List.length_set]; exact HHD.out.2.2.1) (guys_set HHD.out.2.2.2 hjlt ⟨hnb.1, hnb.2.1⟩))) (stand_set HST.out hklt (stand_deeper HKW.out.1 HHD.out.2.2.2 hjlt hnb.2.2)))
  have hty := Step.setNew (HTC.out.trans HT.out) ⟨b, jj * 5 + 4, none⟩ (.int .i64 nd) (by have h1 := HROW.out.2.2.2.1; have h2 := HZ0.out; show _ ≤ b; omega)
  obtain ⟨wu, hwu⟩ : ∃ W, W = W6.setCell ⟨b, jj * 5 + 4, none⟩ (.int .i64 nd) := ⟨_, rfl⟩
  rw [← hwu] at HXT hty ⊢
  clear HT hXT hnd hwu hnb HTK htl hkh HZ0 HTC q5 z5 hbl HC3 HROW HVG HQ HDP
  clear hw1 hw2 hw3 hw4 hne hne3 hjx
  have HT := Lib.hid hty
  clear hty
  have q1 := Lib.hid (HS.out.trans HT.out)
  have q2 := Lib.hid (SL.go HV.out HT.out)
  have q3 := Lib.hid (SL.go HU.out HT.out)
  have q4 := Lib.hid (SL.go HX.out HT.out)
  have q5 := Lib.hid (HB.out.step HT.out)
  clear HS HV HU HX HB HT
  have HS := q1
  have HV := q2
  have HU := q3
  have HX := q4
  have HB := q5
  clear q1 q2 q3 q4 q5
  have HT := Lib.hid (Step.refl wu)
  go_wp2_with fail
  refine (Tests_any _ l _ _ (SL.go HV.out HT.out) (by have := HFEW.out.1; omega)).mono ?_
  rintro e wn ⟨v1, rfl, hv1, hSn⟩
  have HTi := Lib.hid (HT.out.trans hSn)
  clear hSn HT
  have HT := HTi
  clear HTi
  have HV1 := Lib.hid (SL.go hv1 (Step.refl _))
  clear hv1
  go_wp2_with fail
  refine (Wind_any _ wind _ _ (SL.go HX.out HT.out) (by have := HL12.out; omega)).mono ?_
  rintro e wn ⟨v3, rfl, hv3, hSn⟩
  have HTn := Lib.hid (HT.out.trans hSn)
  have HV1n := Lib.hid (SL.go HV1.out hSn)
  have HV3 := Lib.hid (SL.go hv3 (Step.refl _))
  clear hSn HT HV1 hv3
  go_wp2_with fail
  refine (stands_any (fun _ => False) l (t.set kk ⟨t[kk].area, t[kk].bears, t[kk].guys.set jj ⟨t[kk].guys[jj].x, t[kk].guys[jj].y, t[kk].guys[jj].down, t[kk].guys[jj].soil, nd⟩⟩) wind _ _ _ _ HV1n.out (SL.go HXT.out HTn.out) HV3.out).mono ?_
  rintro e wz ⟨rfl, hSn⟩
  have HT := Lib.hid (HTn.out.trans hSn)
  clear hSn HTn HV1n HV3
  rw [HST1.out]
  clear HXT HST1
  go_upto_region 15 with (fail)
  skip
  have q1 := Lib.hid (HS.out.trans HT.out)
  have q2 := Lib.hid (SL.go HV.out HT.out)
  have q3 := Lib.hid (SL.go HU.out HT.out)
  have q4 := Lib.hid (SL.go HX.out HT.out)
  have q5 := Lib.hid (HB.out.step HT.out)
  clear HS HV HU HX HB HT
  have HS := q1
  have HV := q2
  have HU := q3
  have HX := q4
  have HB := q5
  clear q1 q2 q3 q4 q5
  have HT := Lib.hid (Step.refl wz)
  have HZB := Lib.hid HS.out.size
  go_wp2_with fail
  refine (TentO_any _ t _ _ (SL.go HU.out HT.out) HFEW.out.2).mono ?_
  rintro e wx ⟨v2, rfl, hv2, hSn⟩
  have HTi := Lib.hid (HT.out.trans hSn)
  clear hSn HT
  have HT := HTi
  clear HTi
  obtain ⟨g, cg, hs, rfl, htk⟩ := hv2.k (by omega)
  have htl := htk.inner.len
  have hkh : kk < hs.length := by omega
  obtain ⟨c1, c2, c3⟩ := htk.cells kk hkh
  have hcap := htk.cap
  have HTK := Lib.hid htk
  obtain ⟨vg, hvg⟩ : ∃ v, v = hs[kk].val := ⟨_, rfl⟩
  rw [← hvg] at c3
  have HVG := Lib.hid hvg
  obtain ⟨pg, qg, hgf, hq1, hq2⟩ := (htk.inner.at_ kk hkh hklt).2.2.form
  rw [← hvg] at hgf
  subst hgf
  have HQ := Lib.hid (And.intro hq1 hq2)
  have HXT := Lib.hid (hv2.sl (S := fun _ => False) (fun _ _ _ h => h))
  have HST1 := Lib.hid (stands_of HC.out HST.out)
  clear hv2 htk c1 c2 hvg hq1 hq2
  go_upto_region 16 with (fail)
  obtain ⟨wq, hwq⟩ : ∃ W, W = wx := ⟨_, rfl⟩
  subst hwq
  by_cases h8 : (t[kk].guys.length : Int) < 8
  rotate_left
  · have hd : decide ((t[kk].guys.length : Int) < 8) = false := by simpa using h8
    have hd2 : decide (t[kk].guys.length < 8) = false := decide_eq_false (by omega)
    clear h8
    go_upto_region 18 with (fail)
    clear hd hd2 c3 hcap
    have q1 := Lib.hid (HS.out.trans HT.out)
    have q2 := Lib.hid (SL.go HV.out HT.out)
    have q3 := Lib.hid (SL.go HU.out HT.out)
    have q4 := Lib.hid (SL.go HX.out HT.out)
    have q5 := Lib.hid (HB.out.step HT.out)
    clear HS HV HU HX HB HT
    have HS := q1
    have HV := q2
    have HU := q3
    have HX := q4
    have HB := q5
    clear q1 q2 q3 q4 q5
    have HT := Lib.hid (Step.refl wq)
    go_wp2_with fail
    refine (Tests_any _ l _ _ (SL.go HV.out HT.out) (by have := HFEW.out.1; omega)).mono ?_
    rintro e wn ⟨v1, rfl, hv1, hSn⟩
    have HTi := Lib.hid (HT.out.trans hSn)
    clear hSn HT
    have HT := HTi
    clear HTi
    have HV1 := Lib.hid (SL.go hv1 (Step.refl _))
    clear hv1
    go_wp2_with fail
    refine (Wind_any _ wind _ _ (SL.go HX.out HT.out) (by have := HL12.out; omega)).mono ?_
    rintro e wn ⟨v3, rfl, hv3, hSn⟩
    have HTn := Lib.hid (HT.out.trans hSn)
    have HV1n := Lib.hid (SL.go HV1.out hSn)
    have HV3 := Lib.hid (SL.go hv3 (Step.refl _))
    clear hSn HT HV1 hv3
    go_wp2_with fail
    refine (stands_any (fun _ => False) l (t) wind _ _ _ _ HV1n.out (SL.go HXT.out HTn.out) HV3.out).mono ?_
    rintro e wz ⟨rfl, hSn⟩
    have HT := Lib.hid (HTn.out.trans hSn)
    clear hSn HTn HV1n HV3
    rw [HST1.out]
    go_wp2_with fail
    refine (wakes_any _).mono ?_
    rintro e wz ⟨rfl, hSz⟩
    go_wp2
    go_ret
    exact ⟨rfl, HS.out.trans (HT.out.trans hSz)⟩
  have hd : decide ((t[kk].guys.length : Int) < 8) = true := by simpa using h8
  have hd2 : decide (t[kk].guys.length < 8) = true := decide_eq_true (by omega)
  have HC3 := Lib.hid c3
  have H8 := Lib.hid (show t[kk].guys.length < 8 by omega)
  clear h8
  obtain ⟨r0, r1, r2, r3, r4⟩ := cells5 (HB.out.step HT.out)
  go_wp2_with fail
  refine (RightGuy_any mo _).mono ?_
  rintro e wn ⟨rfl, hSn⟩
  have HTKn := Lib.hid (HTK.out.step hSn)
  have HC3n := Lib.hid (hSn.keeps.cell id HC3.out)
  have HXTn := Lib.hid (SL.go HXT.out hSn)
  have HTi := Lib.hid (HT.out.trans hSn)
  clear hSn HT HTK HC3 HXT
  have HT := HTi
  have HXT := HXTn
  clear HTi HXTn
  clear r0 r1 r2 r3 r4 hd hd2
  cases qg : guyB mo with
  | false =>
    clear qg c3 hcap
    go_upto_region 18 with (fail)
    have q1 := Lib.hid (HS.out.trans HT.out)
    have q2 := Lib.hid (SL.go HV.out HT.out)
    have q3 := Lib.hid (SL.go HU.out HT.out)
    have q4 := Lib.hid (SL.go HX.out HT.out)
    have q5 := Lib.hid (HB.out.step HT.out)
    clear HS HV HU HX HB HT
    have HS := q1
    have HV := q2
    have HU := q3
    have HX := q4
    have HB := q5
    clear q1 q2 q3 q4 q5
    have HT := Lib.hid (Step.refl wn)
    go_wp2_with fail
    refine (Tests_any _ l _ _ (SL.go HV.out HT.out) (by have := HFEW.out.1; omega)).mono ?_
    rintro e wn ⟨v1, rfl, hv1, hSn⟩
    have HTi := Lib.hid (HT.out.trans hSn)
    clear hSn HT
    have HT := HTi
    clear HTi
    have HV1 := Lib.hid (SL.go hv1 (Step.refl _))
    clear hv1
    go_wp2_with fail
    refine (Wind_any _ wind _ _ (SL.go HX.out HT.out) (by have := HL12.out; omega)).mono ?_
    rintro e wn ⟨v3, rfl, hv3, hSn⟩
    have HTn := Lib.hid (HT.out.trans hSn)
    have HV1n := Lib.hid (SL.go HV1.out hSn)
    have HV3 := Lib.hid (SL.go hv3 (Step.refl _))
    clear hSn HT HV1 hv3
    go_wp2_with fail
    refine (stands_any (fun _ => False) l (t) wind _ _ _ _ HV1n.out (SL.go HXT.out HTn.out) HV3.out).mono ?_
    rintro e wz ⟨rfl, hSn⟩
    have HT := Lib.hid (HTn.out.trans hSn)
    clear hSn HTn HV1n HV3
    rw [HST1.out]
    go_wp2_with fail
    refine (wakes_any _).mono ?_
    rintro e wz ⟨rfl, hSz⟩
    go_wp2
    go_ret
    exact ⟨rfl, HS.out.trans (HT.out.trans hSz)⟩
  | true =>
  have HMO := Lib.hid qg
  clear qg c3 hcap HXT HST1
  go_upto_region 17 with (fail)
  have hnxg : ¬ (Value.slice pg t[kk].guys.length qg).ownBlock = some g := by rw [HVG.out]; exact HTKn.out.ne hkh
  have hnxb : ¬ (Value.slice pg t[kk].guys.length qg).ownBlock = some w.heap.size := by rw [HVG.out]; exact own_apart (HTKn.out.inner.at_ kk hkh hklt).2.2 (HB.out.step HT.out) (by decide)
  have HTC := Lib.hid HT.out
  clear HT
  refine Late.wp_region_late (fun j => (Value.slice pg t[kk].guys.length qg).ownBlock = some j) (fun c d v a w h => by cases d <;> exact h) (kdOf [18] []) [0, 0, 0, 0, 12, 28, 60, 0, 128, 0, 512, 0, 2048, 0, 8192, 0, 32768, 130944, 262016, 524284, 1048575, 2097151, 4194303] [0, 1, 2, 3, 4, 5, 6, 7, 8, 9, 10, 11, 12, 13, 14, 15, 16, 17, 18] 19 [20, 21, 22] (by kernel_rfl) (by kernel_rfl) (fun i T z hi hk => by simp [kdOf] at hk <;> (try (split at hk <;> cases hk))) ?_
  intro Wx hWx
  have HT := Lib.hid hWx
  clear hWx
  have c3 := HT.out.keeps.cell id HC3n.out
  obtain ⟨r0, r1, r2, r3, r4⟩ := cells5 (HB.out.step (HTC.out.trans HT.out))
  repeat (first | (refine Late.run_off rfl rfl (by rfl) ?_; (try simp only [Act.put, List.setIfInBounds_toArray, List.set_cons_zero, List.set_cons_succ])) | ((refine Late.run_want rfl rfl (by rfl) ⟨?_, fun W hW => ?_, ?_⟩; rotate_left; (· (have d0 := hW.keeps.cell hnxg c3; have d1 := hW.keeps.cell hnxb r0; have d2 := hW.keeps.cell hnxb r1; have d3 := hW.keeps.cell hnxb r2; have d4 := hW.keeps.cell hnxb r3; have d5 := hW.keeps.cell hnxb r4; go_simp; (try with_reducible rfl)))); (try simp only [Act.put, List.setIfInBounds_toArray, List.set_cons_zero, List.set_cons_succ])))
  refine Late.run_chain rfl rfl (by rfl) (fun Wj hWj K'' hK'' => ?_)
  go_simp
  refine hK'' _ _ (.of (Step.alloc _ _)) ?_
  (try simp only [Act.put, List.setIfInBounds_toArray, List.set_cons_zero, List.set_cons_succ])
  clear c3 r0 r1 r2 r3 r4
  refine Late.run_end rfl rfl (L := [_, _, _]) rfl (fun W6 hW6 K6 hK6 => ?_)
  have hu := (SLe.one (S := avoid (fun _ => False) (.slice pg t[kk].guys.length qg)) (w := Wj) (cs := [.int .i64 mo.x, .int .i64 mo.y, .int .i64 mo.down, .int .i64 mo.soil, .int .i64 mo.depth]) (x := mo) 91 rfl).step hW6
  have HT6 := Lib.hid (HT.out.trans ((hWj.trans (Step.alloc _ _)).trans hW6))
  have htk6 := HTKn.out.step HT6.out
  have hown : OwnL (fun _ => False) wz.heap.size 91 W6 (.slice pg t[kk].guys.length qg) t[kk].guys := by rw [HVG.out]; exact (htk6.inner.at_ kk hkh hklt).2.2
  obtain ⟨nn, hnn⟩ : ∃ n, n = (t[kk].guys ++ [mo]).length := ⟨_, rfl⟩
  have hn1 : t[kk].guys.length + [mo].length = nn := by rw [hnn]; simp
  have hn2 : nn ≤ maxLen := by have := H8.out; rw [hnn]; simp only [List.length_append, List.length_singleton, maxLen]; omega
  have hn4 : nn * 40 ≤ 140737488355328 := by have := H8.out; rw [hnn]; simp only [List.length_append, List.length_singleton]; omega
  have hn3 : wz.heap.size ≤ W6.heap.size := by have h1 := htk6.ge; have h2 := htk6.lt; omega
  have HTK6 := Lib.hid htk6
  clear hWj hW6 HT htk6
  refine wp_append_L (α := Guy) (S := fun _ => False) (base := wz.heap.size) (v := .slice pg t[kk].guys.length qg) (l := t[kk].guys) (m := [mo]) eiGuys _ _ rfl rfl rfl hown hu nn hn1 (t[kk].guys ++ [mo]) rfl hn2 hn4 hn3 ?_
  intro p2 c2 w2 hown4 hg4
  have hrow : ∀ j, (Value.slice pg t[kk].guys.length qg).ownBlock = some j → wz.heap.size ≤ j := fun j hj => (hown.lt j hj).1
  have hbg := hg4.block g HTK6.out.lt (fun e => hnxg e.symm)
  have c9 : w2.cell? ⟨g, kk * 3 + 2, none⟩ = some (.slice pg t[kk].guys.length qg) := (World.cell?_of_block (a := ⟨g, kk * 3 + 2, none⟩) hbg).trans (by rw [HVG.out]; exact (HTK6.out.cells kk hkh).2.2)
  have z9 : w2.frozen? ⟨g, kk * 3 + 2, none⟩ = false := (World.frozen?_of_block (a := ⟨g, kk * 3 + 2, none⟩) hbg).trans (HTK6.out.fz _)
  have g9 : g < w2.heap.size := Nat.lt_of_lt_of_le HTK6.out.lt hg4.size
  have hmore := HTK6.out.more hkh hklt (by rw [hnn] at hown4; exact hown4) (by rw [← HVG.out]; exact hg4)
  rw [← hnn] at hmore
  have hst2 : Step wz w2 := step_grown (HTC.out.trans HT6.out) hg4 hrow
  have hst9 := Step.setNew hst2 ⟨g, kk * 3 + 2, none⟩ (.slice p2 nn c2) HTK6.out.ge
  have HXT := Lib.hid hmore
  have HST9 := Lib.hid hst9
  refine hK6 _ _ (StepX.grown hg4 fun j hj _ => hj) ?_
  clear hown hu hown4 hg4 hn1 hn2 hn3 hn4 hnn hrow hbg hmore hst2 hst9 hnxg hnxb hK'' hK6
  (try simp only [Act.put, List.setIfInBounds_toArray, List.set_cons_zero, List.set_cons_succ])
  go_upto_region 18 with (fail)
  obtain ⟨w9, hw9⟩ : ∃ W, W = w2.setCell ⟨g, kk * 3 + 2, none⟩ (.slice p2 nn c2) := ⟨_, rfl⟩
  rw [← hw9] at HXT HST9 ⊢
  clear hw9 c9 z9 g9 HTKn HC3n HTK6 HVG HQ HTC HT6 htl hkh
  have HT := HST9
  clear HST9
  have HST1 := Lib.hid (stands_of (blown_set (k := kk) HC.out (head_of (h := ⟨t[kk].area, t[kk].bears, t[kk].guys ++ [mo]⟩) HHD.out.1 HHD.out.2.1 (by have := H8.out; simp only [List.length_append, List.length_singleton]; omega) (guys_more HHD.out.2.2.2 HMO.out))) (stand_set HST.out hklt (stand_more mo)))
  have q1 := Lib.hid (HS.out.trans HT.out)
  have q2 := Lib.hid (SL.go HV.out HT.out)
  have q3 := Lib.hid (SL.go HU.out HT.out)
  have q4 := Lib.hid (SL.go HX.out HT.out)
  have q5 := Lib.hid (HB.out.step HT.out)
  clear HS HV HU HX HB HT
  have HS := q1
  have HV := q2
  have HU := q3
  have HX := q4
  have HB := q5
  clear q1 q2 q3 q4 q5
  have HT := Lib.hid (Step.refl w9)
  go_wp2_with fail
  refine (Tests_any _ l _ _ (SL.go HV.out HT.out) (by have := HFEW.out.1; omega)).mono ?_
  rintro e wn ⟨v1, rfl, hv1, hSn⟩
  have HTi := Lib.hid (HT.out.trans hSn)
  clear hSn HT
  have HT := HTi
  clear HTi
  have HV1 := Lib.hid (SL.go hv1 (Step.refl _))
  clear hv1
  go_wp2_with fail
  refine (Wind_any _ wind _ _ (SL.go HX.out HT.out) (by have := HL12.out; omega)).mono ?_
  rintro e wn ⟨v3, rfl, hv3, hSn⟩
  have HTn := Lib.hid (HT.out.trans hSn)
  have HV1n := Lib.hid (SL.go HV1.out hSn)
  have HV3 := Lib.hid (SL.go hv3 (Step.refl _))
  clear hSn HT HV1 hv3
  go_wp2_with fail
  refine (stands_any (fun _ => False) l (t.set kk ⟨t[kk].area, t[kk].bears, t[kk].guys ++ [mo]⟩) wind _ _ _ _ HV1n.out (SL.go HXT.out HTn.out) HV3.out).mono ?_
  rintro e wz ⟨rfl, hSn⟩
  have HT := Lib.hid (HTn.out.trans hSn)
  clear hSn HTn HV1n HV3
  rw [HST1.out]
  clear HXT HST1
  go_wp2_with fail
  refine (wakes_any _).mono ?_
  rintro e wz ⟨rfl, hSz⟩
  go_wp2
  go_ret
  exact ⟨rfl, HS.out.trans (HT.out.trans hSz)⟩
end Go.Proofs.Ytdcjbbeoocldeaa
