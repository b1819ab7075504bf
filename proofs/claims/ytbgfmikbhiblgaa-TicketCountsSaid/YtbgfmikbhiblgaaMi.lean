/- The reference's Classes, Right and Cash are walked. -/
import Derived.Test.YtbgfmikbhiblgaaMb
import Derived.Test.YtbgfmikbhiblgaaMc
import Derived.Test.YtbgfmikbhiblgaaMd
import Derived.Test.YtbgfmikbhiblgaaMh
import Derived.Test.YtbgfmikbhiblgaaRows
import Derived.BigQuiet
import Derived.Deep.AppendLies
import Derived.Deep.DeepCutAuto
import Derived.Deep.QuietTactic
import Derived.Deep.RegionHeld3
import Derived.Defers
import Derived.Laws.MakeOwn
import Derived.Laws.OwnMore
import Derived.Laws.Pointers
import Derived.Laws.StructEq
import Derived.Lib.Hide
import Derived.LoopIn
import Derived.LoopNIn
import Derived.OwnWalkIn
import Derived.RangeFuncBound
import Derived.RangeFuncCalls
import Derived.RangeFuncLeaves
import Derived.RangeFuncNested
import Derived.Recover
import Derived.Shelf.Abstract
import Derived.Shelf.RegionOpen
import Derived.TacticsInMore
import Derived.WalkKit
import Derived.WalkLawsBesides
import Derived.WalkSmall
import Derived.WalkSpells
import Derived.WideKeyRuns
/- Walks: the reference's Agencies and Classes. -/
namespace Go.Proofs.Ytbgfmikbhiblgaa
set_option linter.unusedSimpArgs false
set_option linter.unusedVariables false
open Go.RowKit Go.BT

theorem Agencies_any (S : Nat → Prop) (h : House) (v : Value) (w : World) (hv : AV S w v h) (hf : 0 < h.frm.length) :
    Calls Try.prog 29 #[v] w fun e w' => e = .returned (.int .i64 (agN h)) ∧ Step w w' := by
  obtain ⟨c0, c1, c2, c3, c4, rfl, h0, h1, h2, h3, h4⟩ := hv.house
  obtain ⟨p3, k3, b3, o3, rfl, _, m3, hp3, hc3, hb3⟩ := h3.rows
  obtain rfl := hp3 hf
  obtain ⟨u, e1, hu⟩ := hc3 0 hf
  have hb := hb3 hf
  obtain ⟨pu, ku, rfl⟩ := hu.form
  have hag := Lib.hid (agN_eq (h := h) hf)
  have e1 := (Keeps.alloc (S := fun _ => False) w (.cells #[c0, c1, c2, .slice (some ⟨b3, o3, none⟩) h.frm.length k3, c4] 26)).cell id e1
  simp only [Nat.add_zero] at e1
  have hix : (0 : Int) < (h.frm.length : Int) := by omega
  obtain ⟨p0, k0, rfl⟩ := h0.form
  obtain ⟨p1, k1, rfl⟩ := h1.form
  obtain ⟨p2, k2, rfl⟩ := h2.form
  obtain ⟨p4, k4, rfl⟩ := h4.form
  clear h0 h1 h2 h3 h4 hv hc3 hb3 hp3 hu
  go_enter Try.func29, Try.ntmps29
  go_wp2
  go_ret
  exact ⟨by rw [← hag.out]; rfl, Step.alloc _ _⟩

def classesL : List Sector → List Int
  | [] => []
  | s :: l => List.replicate s.seats.toNat s.cls ++ classesL l
theorem classesL_append : ∀ (a b : List Sector), classesL (a ++ b) = classesL a ++ classesL b
  | [], b => rfl
  | s :: l, b => by simp [classesL, classesL_append l b]
theorem classesL_take {l : List Sector} {k : Nat} (h : k < l.length) : classesL (l.take (k + 1)) = classesL (l.take k) ++ List.replicate l[k].seats.toNat l[k].cls := by
  rw [List.take_succ_eq_append_getElem h, classesL_append]
  simp [classesL]
theorem classesL_len : ∀ {l : List Sector}, (∀ i (h : i < l.length), 0 ≤ l[i].seats) → ((classesL l).length : Int) = sizeL l
  | [], _ => by simp [classesL, sizeL]
  | s :: l, hs => by
    have := classesL_len (l := l) (fun i hi => hs (i + 1) (by simpa using hi))
    have h0 := hs 0 (by simp)
    simp only [List.getElem_cons_zero] at h0
    simp only [classesL, List.length_append, List.length_replicate, sizeL, List.map_cons, List.sum_cons] at this ⊢
    omega
theorem classesL_bound {l : List Sector} (h : okSec l) (k : Nat) (hk : k ≤ l.length) : ((classesL (l.take k)).length : Int) ≤ 1000 * k := by
  rw [classesL_len (fun i hi => by rw [List.getElem_take]; exact (h.2 i (by simp at hi; omega)).1)]
  exact (sizeL_bound h k hk).2
theorem classesL_get : ∀ {l : List Sector} (hs : ∀ i (h : i < l.length), 0 ≤ l[i].seats) (n : Nat) (hn : n < (classesL l).length), (classesL l)[n] = classL l n
  | [], _, n, hn => by simp [classesL] at hn
  | s :: l, hs, n, hn => by
    have h0 := hs 0 (by simp)
    simp only [List.getElem_cons_zero] at h0
    have hs' : ∀ i (h : i < l.length), 0 ≤ l[i].seats := fun i hi => hs (i + 1) (by simpa using hi)
    unfold classL
    split
    · next hlt =>
      simp only [classesL]
      rw [List.getElem_append_left (by simp; omega)]
      simp
    · next hge =>
      have hn' : n - s.seats.toNat < (classesL l).length := by simp [classesL] at hn; omega
      have := classesL_get hs' (n - s.seats.toNat) hn'
      simp only [classesL]
      rw [List.getElem_append_right (by simp; omega)]
      simp only [List.length_replicate]
      rw [this]
      congr 1
      omega

set_option maxHeartbeats 2000000 in
theorem Classes_any (S : Nat → Prop) (h : House) (v : Value) (w : World) (hv : AV S w v h) (hs : okSec h.sectors) :
    Calls Try.prog 27 #[v] w fun e w' => ∃ v', e = .returned v' ∧ SL (Old w) w' v' (classesL h.sectors) ∧ Step w w' := by
  obtain ⟨c0, c1, c2, c3, c4, rfl, h0, h1, h2, h3, h4⟩ := hv.house
  obtain ⟨p0, k0, b0, o0, rfl, _, m0, hp0, hc0, hb0⟩ := h0.sectors
  obtain ⟨p1, k1, rfl⟩ := h1.form
  obtain ⟨p2, k2, rfl⟩ := h2.form
  obtain ⟨p3, k3, rfl⟩ := h3.form
  obtain ⟨p4, k4, rfl⟩ := h4.form
  obtain ⟨W0, hW0⟩ : ∃ W0, W0 = w.alloc (.cells #[.slice p0 h.sectors.length k0, .slice p1 h.prices.length k1, .slice p2 h.dates.length k2, .slice p3 h.frm.length k3, .slice p4 h.holds.length k4] 26) := ⟨_, rfl⟩
  have hbx : Bx W0 w.heap.size [.slice p0 h.sectors.length k0, .slice p1 h.prices.length k1, .slice p2 h.dates.length k2, .slice p3 h.frm.length k3, .slice p4 h.holds.length k4] 26 := by subst hW0; exact Bx.new _ _ _
  have hS : Step w W0 := by subst hW0; exact (by repeat (first | (with_reducible assumption) | (with_reducible exact Step.refl _) | (with_reducible apply Step.s_alloc) | (with_reducible apply Step.s_drew) | (with_reducible apply Step.s_drewN) | (with_reducible refine Step.trans ?_ (by with_reducible assumption))))
  have hz : W0.heap.size = w.heap.size + 1 := by subst hW0; simp
  have HB := Lib.hid hbx
  have HS := Lib.hid hS
  have H0 := Lib.hid (And.intro hp0 hc0)
  have HW := Lib.hid hW0
  have HZ := Lib.hid hz
  have HK := Lib.hid hs
  clear h0 h1 h2 h3 h4 hv hbx hS hp0 hc0 hb0 hW0 hz hs
  go_enter Try.func27, Try.ntmps27
  go_wp2
  go_loopw [3, 4] (fun out i wr => ∃ k : Nat, k ≤ h.sectors.length ∧ i = .int .i64 k ∧ OwnL (Old W0) W0.heap.size 3 wr out (classesL (h.sectors.take k)) ∧ Below W0.heap.size W0 wr) (fun _ i _ => h.sectors.length - (intOf i).toNat)
  case atStart => exact ⟨0, Nat.zero_le _, rfl, OwnL.nil _ _ _ _, by rw [HW.out]; exact Below.refl _ _⟩
  case round =>
    obtain ⟨k, hk, rfl, hown, hB⟩ := hrel
    have HT := Lib.hid (Step.of hB)
    obtain ⟨e0, e1, e2, e3, e4⟩ := cells5 (HB.out.step HT.out)
    have HO := Lib.hid hown
    have HBL := Lib.hid hB
    clear hB
    obtain ⟨pu, cu, rfl, _⟩ := hown.form
    clear hown
    by_cases hlt : k < h.sectors.length
    · obtain rfl := H0.out.1 (by omega)
      have hix : (0 : Int) ≤ (k : Int) ∧ (k : Int) < (h.sectors.length : Int) := by omega
      go_wp2
      obtain ⟨wo, hwo⟩ : ∃ W, W = wr := ⟨_, rfl⟩
      subst hwo
      clear e0 e1 e2 e3 e4
      go_loopw [3, 5] (fun out i wr => ∃ j : Nat, (j : Int) ≤ h.sectors[k].seats ∧ i = .int .i64 j ∧ OwnL (Old W0) W0.heap.size 3 wr out (classesL (h.sectors.take k) ++ List.replicate j h.sectors[k].cls) ∧ Below W0.heap.size W0 wr) (fun _ i _ => h.sectors[k].seats.toNat - (intOf i).toNat)
      case atStart => exact ⟨0, (HK.out.2 k hlt).1, rfl, by simpa using HO.out, HBL.out⟩
      case round =>
        obtain ⟨j, hj, rfl, hown, hB⟩ := hrel
        have HT := Lib.hid (Step.of hB)
        obtain ⟨e0, e1, e2, e3, e4⟩ := cells5 (HB.out.step HT.out)
        have HO2 := Lib.hid hown
        have HB2 := Lib.hid hB
        clear hB
        obtain ⟨a1, a2⟩ := H0.out.2 k hlt
        have a1 := (HS.out.trans HT.out).keeps.cell id a1
        have a2 := (HS.out.trans HT.out).keeps.cell id a2
        have hbound := classesL_bound HK.out k hk
        have hkb := HK.out.1
        have hsb := (HK.out.2 k hlt).2
        obtain ⟨pv, cv, rfl, _⟩ := hown.form
        clear hown
        by_cases hj2 : (j : Int) < h.sectors[k].seats
        · have hN : ((classesL (h.sectors.take k) ++ List.replicate j h.sectors[k].cls).length : Nat) ≤ 1100000 := by simp only [List.length_append, List.length_replicate]; omega
          have HN := Lib.hid hN
          have hown6 := HO2.out.alloc (.cells #[.int .i64 h.sectors[k].cls] 3)
          have hu := SLe.one (S := avoid (Old W0) (.slice pv (classesL (h.sectors.take k) ++ List.replicate j h.sectors[k].cls).length cv)) (w := wr) (cs := [.int .i64 h.sectors[k].cls]) (x := h.sectors[k].cls) 3 rfl
          have hz6 : W0.heap.size ≤ (wr.alloc (.cells #[.int .i64 h.sectors[k].cls] 3)).heap.size := by have := HB2.out.size; simp; omega
          have hl6 : (classesL (h.sectors.take k) ++ List.replicate j h.sectors[k].cls) ++ [h.sectors[k].cls] = classesL (h.sectors.take k) ++ List.replicate (j + 1) h.sectors[k].cls := by rw [List.append_assoc, ← List.replicate_succ']
          have HL6 := Lib.hid hl6
          clear hN hl6 hbound
          generalize hLL : classesL (h.sectors.take k) ++ List.replicate j h.sectors[k].cls = LL at *
          go_wp2_with (at_builtin; refine wpl_append (α := Int) (S := Old W0) (base := W0.heap.size) (v := .slice pv LL.length cv) (l := LL) (m := [h.sectors[k].cls]) eiInts rfl _ _ rfl rfl rfl hown6 hu (LL.length + 1) (by simp) (LL ++ [h.sectors[k].cls]) rfl ?_ ?_ hz6 ?_)
          · have := HN.out; simp only [maxLen]; omega
          · have := HN.out; omega
          intro p' c' w7 hown7 hg7
          have hB7 := (HB2.out.alloc HB2.out.size (.cells #[.int .i64 h.sectors[k].cls] 3)).grown hg7 hz6 (fun g hg => (HO2.out.lt g hg).1)
          have H7 := Lib.hid (And.intro hown7 hB7)
          clear hown6 hu hz6 hown7 hg7 hB7 e0 e1 e2 e3 e4 a1 a2
          go_wp2
          go_roundw
          case rel => exact ⟨j + 1, by omega, by go_num, by rw [← HL6.out]; exact H7.out.1, H7.out.2⟩
          case measure => simp [intOf]; omega
        · go_wp2
          go_roundw
          case rel =>
            refine ⟨k + 1, by omega, by go_num, ?_, HB2.out⟩
            rw [classesL_take hlt, show h.sectors[k].seats.toNat = j by omega]
            exact HO2.out
          case measure => simp [intOf]; omega
    · have hkl : h.sectors.take k = h.sectors := List.take_of_length_le (by omega)
      have hfin := HO.out.fresh.weak (T := Old w) (fun j _ hj => by have := HZ.out; unfold Old at hj ⊢; omega)
      rw [hkl] at hfin
      go_wp2
      go_ret
      refine ⟨_, rfl, ?_, HS.out.trans HT.out⟩
      rw [hkl]
      exact hfin
end Go.Proofs.Ytbgfmikbhiblgaa
/- Walks: the reference's Right. -/
namespace Go.Proofs.Ytbgfmikbhiblgaa
set_option linter.unusedSimpArgs false
set_option linter.unusedVariables false
open Go.RowKit Go.BT

structure Parts (h : House) : Prop where
  sec : withinB h.sectors.length 1 10 = true
  pri : withinB h.prices.length 1 5 = true
  dat : withinB h.dates.length 1 6 = true
  frm : h.frm.length = h.dates.length
  hol : h.holds.length = h.dates.length
  ag : withinB (agN h) 1 6 = true
  secs : h.sectors.all (secB h) = true
  pris : (h.prices.all fun x => withinB x 0 10000) = true
  dats : (h.dates.all fun x => withinB x 0 1000) = true
  rise : Rises h.dates h.dates.length
  frms : h.frm.all (fromB (agN h)) = true
  hols : h.holds.all (holdsB (sizeL h.sectors) (agN h)) = true
  size : sizeL h.sectors ≤ 100
theorem valid_parts {h : House} (hv : valid h = true) : Parts h := by
  simp only [valid, validA, validB, risesB, Bool.and_eq_true, decide_eq_true_eq] at hv
  obtain ⟨⟨⟨⟨h1, h2⟩, h3⟩, h4⟩, ⟨⟨⟨⟨⟨⟨⟨⟨b1, b2⟩, b3⟩, b4⟩, b5⟩, b6⟩, b7⟩, b8⟩, b9⟩⟩ := hv
  exact ⟨b1, b4, h1, h2, h3, h4, b2, b5, b6, b7, b8, b9, b3⟩
theorem valid_of {h : House} (p : Parts h) : valid h = true := by
  simp only [valid, validA, validB, risesB, Bool.and_eq_true, decide_eq_true_eq]
  exact ⟨⟨⟨⟨p.dat, p.frm⟩, p.hol⟩, p.ag⟩, ⟨⟨⟨⟨⟨⟨⟨⟨p.sec, p.secs⟩, p.size⟩, p.pri⟩, p.pris⟩, p.dats⟩, p.rise⟩, p.frms⟩, p.hols⟩⟩
theorem valid_not {h : House} (hn : Parts h → False) : valid h = false := by
  cases q : valid h with
  | false => rfl
  | true => exact (hn (valid_parts q)).elim
theorem all_at {α : Type} {l : List α} {p : α → Bool} (ha : l.all p = true) {k : Nat} (h : k < l.length) : p l[k] = true := List.all_eq_true.1 ha _ (List.getElem_mem h)
theorem t_of_ff {a : Bool} (h : a = false) (k : a = true) : False := by rw [h] at k; cases k

theorem In_st (n lo hi : Int) (w : World) : Calls Try.prog 28 #[.int .i64 n, .int .i64 lo, .int .i64 hi] w fun e w' => e = .returned (.bool (withinB n lo hi)) ∧ Step w w' :=
  (bigtopref08.In_any n lo hi w).mono fun e w' ⟨h1, h2⟩ => ⟨h1, h2 ▸ Step.refl _⟩
theorem secs_bound {h : House} : ∀ {l : List Sector}, l.all (secB h) = true → 0 ≤ sizeL l ∧ sizeL l ≤ 50 * l.length
  | [], _ => by simp [sizeL]
  | s :: l, ha => by
    rw [List.all_cons, Bool.and_eq_true] at ha
    have := secs_bound (h := h) ha.2
    have h1 := ha.1
    simp [secB, withinB] at h1
    simp only [sizeL, List.map_cons, List.sum_cons, List.length_cons] at this ⊢
    omega
theorem rises_next {l : List Int} {k : Nat} (hr : Rises l k) (hk : k < l.length) (h : ∀ j, (e : j + 1 = k) → l[j]'(by omega) < l[k]) : Rises l (k + 1) := by
  intro i hi hl
  rcases Nat.lt_or_ge (i + 1) k with hlt | hge
  · exact hr i hlt hl
  · have e : i + 1 = k := by omega
    have := h i e
    subst e
    exact this
theorem rises_at18 {l : List Int} {s : Nat} (hs : s < l.length) (hp : 0 < s) (h : l[s] ≤ l[s - 1]) (hr : Rises l l.length) : False := by
  have := hr (s - 1) (by omega) (by omega)
  have e : s - 1 + 1 = s := by omega
  simp only [e] at this
  omega
theorem rises_bad {l : List Int} {j : Nat} (hk : j + 1 < l.length) (h : l[j + 1] ≤ l[j]) : ¬ Rises l l.length := fun hr => by
  have := hr j hk hk; omega

set_option maxRecDepth 100000 in
set_option maxHeartbeats 8000000 in
theorem Right_any (S : Nat → Prop) (h : House) (v : Value) (w : World) (hv : AV S w v h) :
    Calls Try.prog 24 #[v] w fun e w' => e = .returned (.bool (valid h)) ∧ Step w w' := by
  obtain ⟨c0, c1, c2, c3, c4, rfl, h0, h1, h2, h3, h4⟩ := hv.house
  obtain ⟨p0, k0, b0, o0, rfl, _, m0, hp0, hc0, hb0⟩ := h0.sectors
  obtain ⟨p1, k1, b1, o1, rfl, _, m1, hp1, hc1, hb1⟩ := h1.ints
  obtain ⟨p2, k2, b2, o2, rfl, _, m2, hp2, hc2, hb2⟩ := h2.ints
  obtain ⟨p3, k3, b3, o3, rfl, _, m3, hp3, hc3, hb3⟩ := h3.rows
  obtain ⟨p4, k4, b4, o4, rfl, _, m4, hp4, hc4, hb4⟩ := h4.rows
  obtain ⟨W0, hW0⟩ : ∃ W0, W0 = w.alloc (.cells #[.slice p0 h.sectors.length k0, .slice p1 h.prices.length k1, .slice p2 h.dates.length k2, .slice p3 h.frm.length k3, .slice p4 h.holds.length k4] 26) := ⟨_, rfl⟩
  have hbx : Bx W0 w.heap.size [.slice p0 h.sectors.length k0, .slice p1 h.prices.length k1, .slice p2 h.dates.length k2, .slice p3 h.frm.length k3, .slice p4 h.holds.length k4] 26 := by subst hW0; exact Bx.new _ _ _
  have hS : Step w W0 := by subst hW0; exact (by repeat (first | (with_reducible assumption) | (with_reducible exact Step.refl _) | (with_reducible apply Step.s_alloc) | (with_reducible apply Step.s_drew) | (with_reducible apply Step.s_drewN) | (with_reducible refine Step.trans ?_ (by with_reducible assumption))))
  have HB := Lib.hid hbx
  have HS := Lib.hid hS
  have H0 := Lib.hid (And.intro hp0 hc0)
  have H1 := Lib.hid (And.intro hp1 hc1)
  have H2 := Lib.hid (And.intro hp2 hc2)
  have H3 := Lib.hid (And.intro hp3 hc3)
  have H4 := Lib.hid (And.intro hp4 hc4)
  have HW := Lib.hid hW0
  clear h0 h1 h2 h3 h4 hv hbx hS hp0 hc0 hb0 hp1 hc1 hb1 hp2 hc2 hb2 hp3 hc3 hb3 hp4 hc4 hb4 hW0
  go_enter Try.func24, Try.ntmps24
  go_wp2_with fail
  rw [← HW.out]
  have HT := Lib.hid (Step.refl W0)
  obtain ⟨e0, e1, e2, e3, e4⟩ := cells5 HB.out
  refine (bigtopref08.In_any _ _ _ _).mono ?_
  rintro e w' ⟨rfl, rfl⟩
  cases qa : withinB h.sectors.length 1 10 with
  | false =>
    have qa := Lib.hid qa
    have HF := Lib.hid (valid_not (h := h) fun p => t_of_ff qa.out p.sec)
    go_wp2
    go_ret
    exact ⟨by rw [HF.out]; rfl, HS.out.trans HT.out⟩
  | true =>
  have Hqa := Lib.hid qa
  clear qa
  go_wp2_with fail
  refine (bigtopref08.In_any _ _ _ _).mono ?_
  rintro e w' ⟨rfl, rfl⟩
  cases qb : withinB h.prices.length 1 5 with
  | false =>
    have qb := Lib.hid qb
    have HF := Lib.hid (valid_not (h := h) fun p => t_of_ff qb.out p.pri)
    go_wp2
    go_ret
    exact ⟨by rw [HF.out]; rfl, HS.out.trans HT.out⟩
  | true =>
  have Hqb := Lib.hid qb
  clear qb
  go_wp2_with fail
  refine (bigtopref08.In_any _ _ _ _).mono ?_
  rintro e w' ⟨rfl, rfl⟩
  cases qc : withinB h.dates.length 1 6 with
  | false =>
    have qc := Lib.hid qc
    have HF := Lib.hid (valid_not (h := h) fun p => t_of_ff qc.out p.dat)
    go_wp2
    go_ret
    exact ⟨by rw [HF.out]; rfl, HS.out.trans HT.out⟩
  | true =>
  have Hqc := Lib.hid qc
  clear qc
  by_cases qd : h.frm.length = h.dates.length
  rotate_left
  · have qdd : ((h.frm.length : Int) != (h.dates.length : Int)) = true := by simp; omega
    have qd := Lib.hid qd
    have HF := Lib.hid (valid_not (h := h) fun p => qd.out p.frm)
    go_wp2
    go_ret
    exact ⟨by rw [HF.out]; rfl, HS.out.trans HT.out⟩
  have qdd : ((h.frm.length : Int) != (h.dates.length : Int)) = false := by simp; omega
  have Hqd := Lib.hid qd
  clear qd
  by_cases qe : h.holds.length = h.dates.length
  rotate_left
  · have qed : ((h.holds.length : Int) != (h.dates.length : Int)) = true := by simp; omega
    have qe := Lib.hid qe
    have HF := Lib.hid (valid_not (h := h) fun p => qe.out p.hol)
    go_wp2
    go_ret
    exact ⟨by rw [HF.out]; rfl, HS.out.trans HT.out⟩
  have qed : ((h.holds.length : Int) != (h.dates.length : Int)) = false := by simp; omega
  have Hqe := Lib.hid qe
  clear qe
  have hn1 : 1 ≤ h.dates.length ∧ h.dates.length ≤ 6 := by have := Hqc.out; simp [withinB] at this; omega
  have hn3 : 1 ≤ h.sectors.length ∧ h.sectors.length ≤ 10 := by have := Hqa.out; simp [withinB] at this; omega
  have hn4 : 1 ≤ h.prices.length ∧ h.prices.length ≤ 5 := by have := Hqb.out; simp [withinB] at this; omega
  have hf0 : 0 < h.frm.length := by have := Hqd.out; omega
  obtain rfl := H3.out.1 hf0
  obtain ⟨uz, gz, huz⟩ := H3.out.2 0 hf0
  obtain ⟨pz, kz, rfl⟩ := huz.form
  have hag := Lib.hid (agN_eq (h := h) hf0)
  simp only [Nat.add_zero] at gz
  rw [hag.out] at gz
  have HGZ := Lib.hid gz
  have gz := (HS.out.trans HT.out).keeps.cell id HGZ.out
  have hf0i : (0 : Int) < (h.frm.length : Int) := by omega
  clear huz
  go_wp2_with fail
  refine (bigtopref08.In_any _ _ _ _).mono ?_
  rintro e w' ⟨rfl, rfl⟩
  cases qf : withinB (agN h) 1 6 with
  | false =>
    have qf := Lib.hid qf
    have HF := Lib.hid (valid_not (h := h) fun p => t_of_ff qf.out p.ag)
    go_wp2
    go_ret
    exact ⟨by rw [HF.out]; rfl, HS.out.trans HT.out⟩
  | true =>
  have Hqf := Lib.hid qf
  clear qf
  have hn2 : 1 ≤ agN h ∧ agN h ≤ 6 := by have := Hqf.out; simp [withinB] at this; omega
  have hwp : IntKind.i64.wrap ((h.prices.length : Int) - 1) = (h.prices.length : Int) - 1 := by rw [IntKind.wrap_i64]; omega
  have hwa : IntKind.i64.wrap ((agN h : Int) - 1) = (agN h : Int) - 1 := by rw [IntKind.wrap_i64]; omega
  have HN := Lib.hid (And.intro hwp hwa)
  clear qdd qed gz hwp hwa e0 e1 e2 e3 e4
  go_wp2
  go_loopw [3, 4] (fun s i wr => ∃ k : Nat, k ≤ h.sectors.length ∧ i = .int .i64 k ∧ s = .int .i64 (sizeL (h.sectors.take k)) ∧ (h.sectors.take k).all (secB h) = true ∧ Step W0 wr) (fun _ i _ => h.sectors.length - (intOf i).toNat)
  case atStart => exact ⟨0, Nat.zero_le _, rfl, rfl, rfl, HT.out⟩
  case round =>
    obtain ⟨k, hk, rfl, hsz, ht, hT⟩ := hrel
    have HA := Lib.hid ht
    have hbnd := secs_bound HA.out
    have hlen : (h.sectors.take k).length = k := by simp; omega
    rw [hlen] at hbnd
    have HT := Lib.hid hT
    clear ht hT hlen
    (try clear e0 e1 e2 e3 e4)
    obtain ⟨e0, e1, e2, e3, e4⟩ := cells5 (HB.out.step HT.out)
    by_cases hlt : k < h.sectors.length
    · subst hsz
      obtain rfl := H0.out.1 (by omega)
      obtain ⟨ra1, ra2⟩ := H0.out.2 k hlt
      have HR := Lib.hid (And.intro ra1 ra2)
      clear ra1 ra2
      have a1 := (HS.out.trans HT.out).keeps.cell id (HR.out.1)
      have a2 := (HS.out.trans HT.out).keeps.cell id (HR.out.2)
      have hix : (0 : Int) ≤ (k : Int) ∧ (k : Int) < (h.sectors.length : Int) := by omega
      have hwp := HN.out.1
      go_upto_region 7 with fail
      refine wp_region_seq (kdOf [10, 19] []) [0, 1, 0, 7, 15, 31, 0, 64, 192, 448, 1023, 2047, 4095, 8191, 16383, 8191, 65535, 131071, 262143, 524287, 1048575, 2097151] [0, 1, 2, 3, 4, 5, 6, 7, 8, 9, 10, 11, 12, 13, 14, 15, 16, 17, 18, 19, 20, 21] [] (by kernel_rfl) (by kernel_rfl) (fun i T z hi hk => by simp [kdOf] at hk <;> (try (split at hk <;> cases hk))) ?_
      intro Wx hWx
      have HTx := Lib.hid (HT.out.trans hWx)
      clear hWx HT
      have HT := HTx
      clear HTx a1 a2
      (try clear e0 e1 e2 e3 e4)
      obtain ⟨e0, e1, e2, e3, e4⟩ := cells5 (HB.out.step HT.out)
      have a1 := (HS.out.trans HT.out).keeps.cell id (HR.out.1)
      have a2 := (HS.out.trans HT.out).keeps.cell id (HR.out.2)
      repeat (first | (refine run_off rfl rfl (by rfl) ?_; (try simp only [Act.put, List.setIfInBounds_toArray, List.set_cons_zero, List.set_cons_succ])) | (refine run_chain_off rfl rfl (by rfl) (K0_mono _) ?_; (try simp only [Act.put, List.setIfInBounds_toArray, List.set_cons_zero, List.set_cons_succ])) | ((refine run_want rfl rfl (by rfl) ⟨?_, fun W hW => ?_, ?_⟩; rotate_left; (· (have d0 := hW.keeps.cell id e0; have d1 := hW.keeps.cell id e1; have d2 := hW.keeps.cell id a1; go_simp; (try with_reducible rfl)))); (try simp only [Act.put, List.setIfInBounds_toArray, List.set_cons_zero, List.set_cons_succ])))
      refine run_chain rfl rfl (by rfl) (fun Wi hWi K' hK => ?_)
      have HTi := Lib.hid (HT.out.trans hWi)
      have HZW := Lib.hid HTi.out.size
      clear hWi HT
      go_simp
      refine (In_st _ _ _ _).mono ?_
      rintro e wn ⟨rfl, hSn⟩
      have HT := Lib.hid (HTi.out.trans (StepX.of hSn))
      clear HTi
      cases q : withinB h.sectors[k].cls 0 ((h.prices.length : Int) - 1) with
      | false =>
        have q := Lib.hid q
        have HF := Lib.hid (valid_not (h := h) fun p => by have := all_at p.secs hlt; simp [secB, q.out] at this)
        refine hK _ _ (StepX.of hSn) ?_
        clear hSn
        (try simp only [Act.put, List.setIfInBounds_toArray, List.set_cons_zero, List.set_cons_succ])
        repeat (first | (refine run_off rfl rfl (by rfl) ?_; (try simp only [Act.put, List.setIfInBounds_toArray, List.set_cons_zero, List.set_cons_succ])) | (refine run_chain_off rfl rfl (by rfl) (K0_mono _) ?_; (try simp only [Act.put, List.setIfInBounds_toArray, List.set_cons_zero, List.set_cons_succ])) | ((refine run_want rfl rfl (by rfl) ⟨?_, fun W hW => ?_, ?_⟩; rotate_left; (· (obtain ⟨hc'', hf''⟩ := hW.cells; go_simp; (try with_reducible rfl)))); (try simp only [Act.put, List.setIfInBounds_toArray, List.set_cons_zero, List.set_cons_succ])))
        refine run_end (L := []) rfl (fun W6 hW6 => ?_)
        have HT6 := Lib.hid (HT.out.trans hW6)
        clear hW6 HT
        have HT := HT6
        clear HT6
        go_wp2
        go_ret
        exact ⟨by rw [HF.out]; rfl, HS.out.trans HT.out⟩
      | true =>
        have HQ1 := Lib.hid q
        clear q a1 a2
        refine hK _ _ (StepX.of hSn) ?_
        clear hSn
        (try simp only [Act.put, List.setIfInBounds_toArray, List.set_cons_zero, List.set_cons_succ])
        (try clear e0 e1 e2 e3 e4)
        obtain ⟨e0, e1, e2, e3, e4⟩ := cells5 (HB.out.step HT.out)
        have a1 := (HS.out.trans HT.out).keeps.cell id (HR.out.1)
        have a2 := (HS.out.trans HT.out).keeps.cell id (HR.out.2)
        repeat (first | (refine run_off rfl rfl (by rfl) ?_; (try simp only [Act.put, List.setIfInBounds_toArray, List.set_cons_zero, List.set_cons_succ])) | (refine run_chain_off rfl rfl (by rfl) (K0_mono _) ?_; (try simp only [Act.put, List.setIfInBounds_toArray, List.set_cons_zero, List.set_cons_succ])) | ((refine run_want rfl rfl (by rfl) ⟨?_, fun W hW => ?_, ?_⟩; rotate_left; (· (have d0 := hW.keeps.cell id e0; have d1 := hW.keeps.cell id a2; go_simp; (try with_reducible rfl)))); (try simp only [Act.put, List.setIfInBounds_toArray, List.set_cons_zero, List.set_cons_succ])))
        refine run_chain rfl rfl (by rfl) (fun Wi hWi K' hK => ?_)
        have HTi := Lib.hid (HT.out.trans hWi)
        have HZW := Lib.hid HTi.out.size
        clear hWi HT
        go_simp
        refine (In_st _ _ _ _).mono ?_
        rintro e wn ⟨rfl, hSn⟩
        have HT := Lib.hid (HTi.out.trans (StepX.of hSn))
        clear HTi
        cases q : withinB h.sectors[k].seats 1 50 with
        | false =>
          have q := Lib.hid q
          have HF := Lib.hid (valid_not (h := h) fun p => by have := all_at p.secs hlt; simp [secB, q.out] at this)
          refine hK _ _ (StepX.of hSn) ?_
          clear hSn
          (try simp only [Act.put, List.setIfInBounds_toArray, List.set_cons_zero, List.set_cons_succ])
          repeat (first | (refine run_off rfl rfl (by rfl) ?_; (try simp only [Act.put, List.setIfInBounds_toArray, List.set_cons_zero, List.set_cons_succ])) | (refine run_chain_off rfl rfl (by rfl) (K0_mono _) ?_; (try simp only [Act.put, List.setIfInBounds_toArray, List.set_cons_zero, List.set_cons_succ])) | ((refine run_want rfl rfl (by rfl) ⟨?_, fun W hW => ?_, ?_⟩; rotate_left; (· (obtain ⟨hc'', hf''⟩ := hW.cells; go_simp; (try with_reducible rfl)))); (try simp only [Act.put, List.setIfInBounds_toArray, List.set_cons_zero, List.set_cons_succ])))
          refine run_end (L := []) rfl (fun W6 hW6 => ?_)
          have HT6 := Lib.hid (HT.out.trans hW6)
          clear hW6 HT
          have HT := HT6
          clear HT6
          go_wp2
          go_ret
          exact ⟨by rw [HF.out]; rfl, HS.out.trans HT.out⟩
        | true =>
          have HQ2 := Lib.hid q
          have hst : 1 ≤ h.sectors[k].seats ∧ h.sectors[k].seats ≤ 50 := by simpa [withinB] using q
          clear q a1 a2
          refine hK _ _ (StepX.of hSn) ?_
          clear hSn
          (try simp only [Act.put, List.setIfInBounds_toArray, List.set_cons_zero, List.set_cons_succ])
          repeat (first | (refine run_off rfl rfl (by rfl) ?_; (try simp only [Act.put, List.setIfInBounds_toArray, List.set_cons_zero, List.set_cons_succ])) | (refine run_chain_off rfl rfl (by rfl) (K0_mono _) ?_; (try simp only [Act.put, List.setIfInBounds_toArray, List.set_cons_zero, List.set_cons_succ])) | ((refine run_want rfl rfl (by rfl) ⟨?_, fun W hW => ?_, ?_⟩; rotate_left; (· (obtain ⟨hc'', hf''⟩ := hW.cells; go_simp; (try with_reducible rfl)))); (try simp only [Act.put, List.setIfInBounds_toArray, List.set_cons_zero, List.set_cons_succ])))
          refine run_end (L := []) rfl (fun W6 hW6 => ?_)
          have HT6 := Lib.hid (HT.out.trans hW6)
          clear hW6 HT
          have HT := HT6
          clear HT6
          (try clear e0 e1 e2 e3 e4)
          obtain ⟨e0, e1, e2, e3, e4⟩ := cells5 (HB.out.step HT.out)
          have a2 := (HS.out.trans HT.out).keeps.cell id (HR.out.2)
          go_wp2
          go_roundw
          case rel => exact ⟨k + 1, by omega, by go_num, by rw [sizeL_take hlt], all_take HA.out hlt (by simp [secB, HQ1.out, HQ2.out]), HT.out⟩
          case measure => simp [intOf]; omega
    · have HSEC := Lib.hid (all_done HA.out hlt)
      have hkl : h.sectors.take k = h.sectors := List.take_of_length_le (by omega)
      rw [hkl] at hsz hbnd
      subst hsz
      clear hkl HA
      go_wp2
      obtain ⟨wo, hwo⟩ : ∃ W, W = wr := ⟨_, rfl⟩
      subst hwo
      clear e0 e1 e2 e3 e4
      go_loopw [5] (fun i wr => ∃ k : Nat, k ≤ h.prices.length ∧ i = .int .i64 k ∧ (h.prices.take k).all (fun x => withinB x 0 10000) = true ∧ Step W0 wr) (fun i _ => h.prices.length - (intOf i).toNat)
      case atStart => exact ⟨0, Nat.zero_le _, rfl, rfl, HT.out⟩
      case round =>
        obtain ⟨k2, hk2, rfl, ht, hT⟩ := hrel
        have HA := Lib.hid ht
        have HT := Lib.hid hT
        clear ht hT
        (try clear e0 e1 e2 e3 e4)
        obtain ⟨e0, e1, e2, e3, e4⟩ := cells5 (HB.out.step HT.out)
        by_cases hlt2 : k2 < h.prices.length
        · obtain rfl := H1.out.1 (by omega)
          have a1 := (HS.out.trans HT.out).keeps.cell id (H1.out.2 k2 hlt2)
          have hix : (0 : Int) ≤ (k2 : Int) ∧ (k2 : Int) < (h.prices.length : Int) := by omega
          go_wp2_with fail
          refine (bigtopref08.In_any _ _ _ _).mono ?_
          rintro e w' ⟨rfl, rfl⟩
          cases q : withinB h.prices[k2] 0 10000 with
          | false =>
            have q := Lib.hid q
            have HF := Lib.hid (valid_not (h := h) fun p => by have := all_at p.pris hlt2; simp [q.out] at this)
            go_wp2
            go_ret
            exact ⟨by rw [HF.out]; rfl, HS.out.trans HT.out⟩
          | true =>
            have HQ := Lib.hid q
            clear q
            go_wp2
            go_roundw
            case rel => exact ⟨k2 + 1, by omega, by go_num, all_take HA.out hlt2 HQ.out, HT.out⟩
            case measure => simp [intOf]; omega
        · have HPRI := Lib.hid (all_done HA.out hlt2)
          clear HA
          go_wp2
          obtain ⟨wo, hwo⟩ : ∃ W, W = wr := ⟨_, rfl⟩
          subst hwo
          clear e0 e1 e2 e3 e4
          go_loopw [6] (fun i wr => ∃ k : Nat, k ≤ h.dates.length ∧ i = .int .i64 k ∧ ((h.dates.take k).all (fun x => withinB x 0 1000) = true ∧ Rises h.dates k ∧ (h.frm.take k).all (fromB (agN h)) = true ∧ (h.holds.take k).all (holdsB (sizeL h.sectors) (agN h)) = true) ∧ Step W0 wr) (fun i _ => h.dates.length - (intOf i).toNat)
          case atStart => exact ⟨0, Nat.zero_le _, rfl, ⟨rfl, fun i hi => by omega, rfl, rfl⟩, HT.out⟩
          case round =>
            obtain ⟨s, hs, rfl, ht, hT⟩ := hrel
            have HA := Lib.hid ht
            have HT := Lib.hid hT
            clear ht hT
            (try clear e0 e1 e2 e3 e4)
            obtain ⟨e0, e1, e2, e3, e4⟩ := cells5 (HB.out.step HT.out)
            by_cases hlt3 : s < h.dates.length
            · have hlt3f : s < h.frm.length := by have := Hqd.out; omega
              have hlt3h : s < h.holds.length := by have := Hqe.out; omega
              obtain rfl := H2.out.1 (by omega)
              obtain rfl := H4.out.1 (by omega)
              have hix2 : (0 : Int) ≤ (s : Int) ∧ (s : Int) < (h.dates.length : Int) := by omega
              have hix3 : (0 : Int) ≤ (s : Int) ∧ (s : Int) < (h.frm.length : Int) := by omega
              have hix4 : (0 : Int) ≤ (s : Int) ∧ (s : Int) < (h.holds.length : Int) := by omega
              obtain ⟨u3, rg3, hu3⟩ := H3.out.2 s hlt3f
              obtain ⟨pu3, ku3, rfl⟩ := hu3.form
              obtain ⟨u4, rg4, hu4⟩ := H4.out.2 s hlt3h
              obtain ⟨pu4, ku4, rfl⟩ := hu4.form
              have hln3 := hu3.len
              have hln4 := hu4.len
              have HU := Lib.hid (And.intro rg3 rg4)
              have HV := Lib.hid (And.intro hu3 hu4)
              clear rg3 rg4 hu3 hu4
              go_upto_region 18 with fail
              go_cut [161] (fun c wx => ∃ x : Bool, c = .bool x ∧ (x = true → valid h = false) ∧ (x = false → withinB h.dates[s] 0 1000 = true ∧ (∀ hp : 0 < s, h.dates[s - 1] < h.dates[s]) ∧ h.frm[s].length = agN h ∧ (h.holds[s].length : Int) = sizeL h.sectors) ∧ Step W0 wx)
              case first =>
                refine wp_region_seq (kdOf [5] []) [0, 1, 0, 7, 15, 31, 63, 127, 255, 511, 1023, 2047, 4095, 2047, 16383, 32767, 2047, 67583, 2047, 264191, 985087, 2033663, 4194303, 8388607, 16777215, 33554431, 67108863, 134217727, 67108863, 536870911, 1073741823, 2147483647, 67108863, 4362076159, 12952010751, 30131879935, 64491618303, 137438953471, 274877906943, 549755813887, 1099511627775, 2199023255551, 1099511627775, 8796093022207, 17592186044415, 35184372088831, 1099511627775, 140737488355327, 281474976710655] [0, 1, 2, 3, 4, 5, 6, 7, 8, 9, 10, 11, 12, 13, 14, 15, 16, 17, 18, 19, 20, 21, 22, 23, 24, 25, 26, 27, 28, 29, 30, 31, 32, 33, 34, 35, 36, 37, 38, 39, 40, 41, 42, 43, 44, 45, 46, 47, 48] [] (by kernel_rfl) (by kernel_rfl) (fun i T z hi hk => by simp [kdOf] at hk <;> (try (split at hk <;> cases hk))) ?_
                intro Wx hWx
                have HTx := Lib.hid (HT.out.trans hWx)
                clear hWx HT
                have HT := HTx
                clear HTx
                (try clear e0 e1 e2 e3 e4)
                obtain ⟨e0, e1, e2, e3, e4⟩ := cells5 (HB.out.step HT.out)
                have ga1 := (HS.out.trans HT.out).keeps.cell id (H2.out.2 s hlt3)
                repeat (first | (refine run_off rfl rfl (by rfl) ?_; (try simp only [Act.put, List.setIfInBounds_toArray, List.set_cons_zero, List.set_cons_succ])) | (refine run_chain_off rfl rfl (by rfl) (K0_mono _) ?_; (try simp only [Act.put, List.setIfInBounds_toArray, List.set_cons_zero, List.set_cons_succ])) | ((refine run_want rfl rfl (by rfl) ⟨?_, fun W hW => ?_, ?_⟩; rotate_left; (· (have d0 := hW.keeps.cell id e2; have d1 := hW.keeps.cell id ga1; go_simp; (try with_reducible rfl)))); (try simp only [Act.put, List.setIfInBounds_toArray, List.set_cons_zero, List.set_cons_succ])))
                refine run_chain rfl rfl (by rfl) (fun Wi hWi K' hK => ?_)
                have HTi := Lib.hid (HT.out.trans hWi)
                have HZW := Lib.hid HTi.out.size
                clear hWi HT
                go_simp
                refine (In_st _ _ _ _).mono ?_
                rintro e wn ⟨rfl, hSn⟩
                have HT := Lib.hid (HTi.out.trans (StepX.of hSn))
                clear HTi
                clear ga1
                cases q : withinB h.dates[s] 0 1000 with
                | false =>
                  have q := Lib.hid q
                  have HF := Lib.hid (valid_not (h := h) fun p => by have := all_at p.dats hlt3; simp [q.out] at this)
                  refine hK _ _ (StepX.of hSn) ?_
                  clear hSn
                  (try simp only [Act.put, List.setIfInBounds_toArray, List.set_cons_zero, List.set_cons_succ])
                  repeat (first | (refine run_off rfl rfl (by rfl) ?_; (try simp only [Act.put, List.setIfInBounds_toArray, List.set_cons_zero, List.set_cons_succ])) | (refine run_chain_off rfl rfl (by rfl) (K0_mono _) ?_; (try simp only [Act.put, List.setIfInBounds_toArray, List.set_cons_zero, List.set_cons_succ])) | ((refine run_want rfl rfl (by rfl) ⟨?_, fun W hW => ?_, ?_⟩; rotate_left; (· (obtain ⟨hc'', hf''⟩ := hW.cells; go_simp; (try with_reducible rfl)))); (try simp only [Act.put, List.setIfInBounds_toArray, List.set_cons_zero, List.set_cons_succ])))
                  refine run_end (L := []) rfl (fun W6 hW6 => ?_)
                  have HT6 := Lib.hid (HT.out.trans hW6)
                  clear hW6 HT
                  have HT := HT6
                  clear HT6
                  go_wp2_with fail
                  go_meet
                  exact ⟨true, rfl, fun _ => HF.out, fun e => by simp at e, HT.out⟩
                | true =>
                  have HQ1 := Lib.hid q
                  clear q
                  refine hK _ _ (StepX.of hSn) ?_
                  clear hSn
                  (try simp only [Act.put, List.setIfInBounds_toArray, List.set_cons_zero, List.set_cons_succ])
                  (try clear e0 e1 e2 e3 e4)
                  obtain ⟨e0, e1, e2, e3, e4⟩ := cells5 (HB.out.step HT.out)
                  have ga1 := (HS.out.trans HT.out).keeps.cell id (H2.out.2 s hlt3)
                  have g3 := (HS.out.trans HT.out).keeps.cell id (HU.out.1)
                  have g4 := (HS.out.trans HT.out).keeps.cell id (HU.out.2)
                  have gz := (HS.out.trans HT.out).keeps.cell id (HGZ.out)
                  by_cases hpos : 0 < s
                  · have ga2 := (HS.out.trans HT.out).keeps.cell id (H2.out.2 (s - 1) (by omega))
                    have hx2 : (0 : Int) ≤ ((s : Int) - 1) ∧ ((s : Int) - 1) < (h.dates.length : Int) := by omega
                    have hd : decide ((0 : Int) < (s : Int)) = true := by simpa using hpos
                    have htn : ((s : Int) - 1).toNat = s - 1 := by omega
                    have h1s : (1 : Int) ≤ (s : Int) := by omega
                    have hws : IntKind.i64.wrap ((s : Int) - 1) = (s : Int) - 1 := by rw [IntKind.wrap_i64]; omega
                    by_cases hle : h.dates[s] ≤ h.dates[s - 1]
                    · have hld : decide (h.dates[s] ≤ h.dates[s - 1]) = true := decide_eq_true hle
                      have HLE := Lib.hid hle
                      clear hle
                      have HF := Lib.hid (valid_not (h := h) fun p => rises_at18 hlt3 hpos HLE.out p.rise)
                      repeat (first | (refine run_off rfl rfl (by rfl) ?_; (try simp only [Act.put, List.setIfInBounds_toArray, List.set_cons_zero, List.set_cons_succ])) | (refine run_chain_off rfl rfl (by rfl) (K0_mono _) ?_; (try simp only [Act.put, List.setIfInBounds_toArray, List.set_cons_zero, List.set_cons_succ])) | ((refine run_want rfl rfl (by rfl) ⟨?_, fun W hW => ?_, ?_⟩; rotate_left; (· (have d0 := hW.keeps.cell id e2; have d1 := hW.keeps.cell id e3; have d2 := hW.keeps.cell id e4; have d3 := hW.keeps.cell id ga1; have d4 := hW.keeps.cell id ga2; have d5 := hW.keeps.cell id g3; have d6 := hW.keeps.cell id gz; have d7 := hW.keeps.cell id g4; go_simp; (try with_reducible rfl)))); (try simp only [Act.put, List.setIfInBounds_toArray, List.set_cons_zero, List.set_cons_succ])))
                      refine run_end (L := []) rfl (fun W6 hW6 => ?_)
                      have HT6 := Lib.hid (HT.out.trans hW6)
                      clear hW6 HT
                      have HT := HT6
                      clear HT6
                      go_wp2_with fail
                      go_meet
                      exact ⟨true, rfl, fun _ => HF.out, fun e => by simp at e, HT.out⟩
                    · have hld : decide (h.dates[s] ≤ h.dates[s - 1]) = false := decide_eq_false hle
                      have HLE := Lib.hid hle
                      clear hle
                      by_cases hl3 : h.frm[s].length = agN h
                      rotate_left
                      · have hd3 : ((h.frm[s].length : Int) != (agN h : Int)) = true := by simp; omega
                        have hl3 := Lib.hid hl3
                        have HF := Lib.hid (valid_not (h := h) fun p => by have := all_at p.frms hlt3f; simp [fromB, hl3.out] at this)
                        repeat (first | (refine run_off rfl rfl (by rfl) ?_; (try simp only [Act.put, List.setIfInBounds_toArray, List.set_cons_zero, List.set_cons_succ])) | (refine run_chain_off rfl rfl (by rfl) (K0_mono _) ?_; (try simp only [Act.put, List.setIfInBounds_toArray, List.set_cons_zero, List.set_cons_succ])) | ((refine run_want rfl rfl (by rfl) ⟨?_, fun W hW => ?_, ?_⟩; rotate_left; (· (have d0 := hW.keeps.cell id e2; have d1 := hW.keeps.cell id e3; have d2 := hW.keeps.cell id e4; have d3 := hW.keeps.cell id ga1; have d4 := hW.keeps.cell id ga2; have d5 := hW.keeps.cell id g3; have d6 := hW.keeps.cell id gz; have d7 := hW.keeps.cell id g4; go_simp; (try with_reducible rfl)))); (try simp only [Act.put, List.setIfInBounds_toArray, List.set_cons_zero, List.set_cons_succ])))
                        refine run_end (L := []) rfl (fun W6 hW6 => ?_)
                        have HT6 := Lib.hid (HT.out.trans hW6)
                        clear hW6 HT
                        have HT := HT6
                        clear HT6
                        go_wp2_with fail
                        go_meet
                        exact ⟨true, rfl, fun _ => HF.out, fun e => by simp at e, HT.out⟩
                      have hd3 : ((h.frm[s].length : Int) != (agN h : Int)) = false := by simp; omega
                      have HL3 := Lib.hid hl3
                      clear hl3
                      by_cases hl4 : (h.holds[s].length : Int) = sizeL h.sectors
                      rotate_left
                      · have hd4 : ((h.holds[s].length : Int) != sizeL h.sectors) = true := by simpa using hl4
                        have hl4 := Lib.hid hl4
                        have HF := Lib.hid (valid_not (h := h) fun p => by have := all_at p.hols hlt3h; simp [holdsB, hl4.out] at this)
                        repeat (first | (refine run_off rfl rfl (by rfl) ?_; (try simp only [Act.put, List.setIfInBounds_toArray, List.set_cons_zero, List.set_cons_succ])) | (refine run_chain_off rfl rfl (by rfl) (K0_mono _) ?_; (try simp only [Act.put, List.setIfInBounds_toArray, List.set_cons_zero, List.set_cons_succ])) | ((refine run_want rfl rfl (by rfl) ⟨?_, fun W hW => ?_, ?_⟩; rotate_left; (· (have d0 := hW.keeps.cell id e2; have d1 := hW.keeps.cell id e3; have d2 := hW.keeps.cell id e4; have d3 := hW.keeps.cell id ga1; have d4 := hW.keeps.cell id ga2; have d5 := hW.keeps.cell id g3; have d6 := hW.keeps.cell id gz; have d7 := hW.keeps.cell id g4; go_simp; (try with_reducible rfl)))); (try simp only [Act.put, List.setIfInBounds_toArray, List.set_cons_zero, List.set_cons_succ])))
                        refine run_end (L := []) rfl (fun W6 hW6 => ?_)
                        have HT6 := Lib.hid (HT.out.trans hW6)
                        clear hW6 HT
                        have HT := HT6
                        clear HT6
                        go_wp2_with fail
                        go_meet
                        exact ⟨true, rfl, fun _ => HF.out, fun e => by simp at e, HT.out⟩
                      have hd4 : ((h.holds[s].length : Int) != sizeL h.sectors) = false := by simpa using hl4
                      have HL4 := Lib.hid hl4
                      clear hl4
                      repeat (first | (refine run_off rfl rfl (by rfl) ?_; (try simp only [Act.put, List.setIfInBounds_toArray, List.set_cons_zero, List.set_cons_succ])) | (refine run_chain_off rfl rfl (by rfl) (K0_mono _) ?_; (try simp only [Act.put, List.setIfInBounds_toArray, List.set_cons_zero, List.set_cons_succ])) | ((refine run_want rfl rfl (by rfl) ⟨?_, fun W hW => ?_, ?_⟩; rotate_left; (· (have d0 := hW.keeps.cell id e2; have d1 := hW.keeps.cell id e3; have d2 := hW.keeps.cell id e4; have d3 := hW.keeps.cell id ga1; have d4 := hW.keeps.cell id ga2; have d5 := hW.keeps.cell id g3; have d6 := hW.keeps.cell id gz; have d7 := hW.keeps.cell id g4; go_simp; (try with_reducible rfl)))); (try simp only [Act.put, List.setIfInBounds_toArray, List.set_cons_zero, List.set_cons_succ])))
                      refine run_end (L := []) rfl (fun W6 hW6 => ?_)
                      have HT6 := Lib.hid (HT.out.trans hW6)
                      clear hW6 HT
                      have HT := HT6
                      clear HT6
                      go_wp2_with fail
                      go_meet
                      exact ⟨false, rfl, fun e => by simp at e, fun _ => ⟨HQ1.out, fun _ => by have := HLE.out; omega, HL3.out, HL4.out⟩, HT.out⟩
                  · have hd : decide ((0 : Int) < (s : Int)) = false := by simp; omega
                    have ga2 := ga1
                    by_cases hl3 : h.frm[s].length = agN h
                    rotate_left
                    · have hd3 : ((h.frm[s].length : Int) != (agN h : Int)) = true := by simp; omega
                      have hl3 := Lib.hid hl3
                      have HF := Lib.hid (valid_not (h := h) fun p => by have := all_at p.frms hlt3f; simp [fromB, hl3.out] at this)
                      repeat (first | (refine run_off rfl rfl (by rfl) ?_; (try simp only [Act.put, List.setIfInBounds_toArray, List.set_cons_zero, List.set_cons_succ])) | (refine run_chain_off rfl rfl (by rfl) (K0_mono _) ?_; (try simp only [Act.put, List.setIfInBounds_toArray, List.set_cons_zero, List.set_cons_succ])) | ((refine run_want rfl rfl (by rfl) ⟨?_, fun W hW => ?_, ?_⟩; rotate_left; (· (have d0 := hW.keeps.cell id e2; have d1 := hW.keeps.cell id e3; have d2 := hW.keeps.cell id e4; have d3 := hW.keeps.cell id ga1; have d4 := hW.keeps.cell id ga2; have d5 := hW.keeps.cell id g3; have d6 := hW.keeps.cell id gz; have d7 := hW.keeps.cell id g4; go_simp; (try with_reducible rfl)))); (try simp only [Act.put, List.setIfInBounds_toArray, List.set_cons_zero, List.set_cons_succ])))
                      refine run_end (L := []) rfl (fun W6 hW6 => ?_)
                      have HT6 := Lib.hid (HT.out.trans hW6)
                      clear hW6 HT
                      have HT := HT6
                      clear HT6
                      go_wp2_with fail
                      go_meet
                      exact ⟨true, rfl, fun _ => HF.out, fun e => by simp at e, HT.out⟩
                    have hd3 : ((h.frm[s].length : Int) != (agN h : Int)) = false := by simp; omega
                    have HL3 := Lib.hid hl3
                    clear hl3
                    by_cases hl4 : (h.holds[s].length : Int) = sizeL h.sectors
                    rotate_left
                    · have hd4 : ((h.holds[s].length : Int) != sizeL h.sectors) = true := by simpa using hl4
                      have hl4 := Lib.hid hl4
                      have HF := Lib.hid (valid_not (h := h) fun p => by have := all_at p.hols hlt3h; simp [holdsB, hl4.out] at this)
                      repeat (first | (refine run_off rfl rfl (by rfl) ?_; (try simp only [Act.put, List.setIfInBounds_toArray, List.set_cons_zero, List.set_cons_succ])) | (refine run_chain_off rfl rfl (by rfl) (K0_mono _) ?_; (try simp only [Act.put, List.setIfInBounds_toArray, List.set_cons_zero, List.set_cons_succ])) | ((refine run_want rfl rfl (by rfl) ⟨?_, fun W hW => ?_, ?_⟩; rotate_left; (· (have d0 := hW.keeps.cell id e2; have d1 := hW.keeps.cell id e3; have d2 := hW.keeps.cell id e4; have d3 := hW.keeps.cell id ga1; have d4 := hW.keeps.cell id ga2; have d5 := hW.keeps.cell id g3; have d6 := hW.keeps.cell id gz; have d7 := hW.keeps.cell id g4; go_simp; (try with_reducible rfl)))); (try simp only [Act.put, List.setIfInBounds_toArray, List.set_cons_zero, List.set_cons_succ])))
                      refine run_end (L := []) rfl (fun W6 hW6 => ?_)
                      have HT6 := Lib.hid (HT.out.trans hW6)
                      clear hW6 HT
                      have HT := HT6
                      clear HT6
                      go_wp2_with fail
                      go_meet
                      exact ⟨true, rfl, fun _ => HF.out, fun e => by simp at e, HT.out⟩
                    have hd4 : ((h.holds[s].length : Int) != sizeL h.sectors) = false := by simpa using hl4
                    have HL4 := Lib.hid hl4
                    clear hl4
                    repeat (first | (refine run_off rfl rfl (by rfl) ?_; (try simp only [Act.put, List.setIfInBounds_toArray, List.set_cons_zero, List.set_cons_succ])) | (refine run_chain_off rfl rfl (by rfl) (K0_mono _) ?_; (try simp only [Act.put, List.setIfInBounds_toArray, List.set_cons_zero, List.set_cons_succ])) | ((refine run_want rfl rfl (by rfl) ⟨?_, fun W hW => ?_, ?_⟩; rotate_left; (· (have d0 := hW.keeps.cell id e2; have d1 := hW.keeps.cell id e3; have d2 := hW.keeps.cell id e4; have d3 := hW.keeps.cell id ga1; have d4 := hW.keeps.cell id ga2; have d5 := hW.keeps.cell id g3; have d6 := hW.keeps.cell id gz; have d7 := hW.keeps.cell id g4; go_simp; (try with_reducible rfl)))); (try simp only [Act.put, List.setIfInBounds_toArray, List.set_cons_zero, List.set_cons_succ])))
                    refine run_end (L := []) rfl (fun W6 hW6 => ?_)
                    have HT6 := Lib.hid (HT.out.trans hW6)
                    clear hW6 HT
                    have HT := HT6
                    clear HT6
                    go_wp2_with fail
                    go_meet
                    exact ⟨false, rfl, fun e => by simp at e, fun _ => ⟨HQ1.out, fun hp => absurd hp hpos, HL3.out, HL4.out⟩, HT.out⟩
              case rest =>
                obtain ⟨x, rfl, hx1, hx2, hT⟩ := hcut
                have HX1 := Lib.hid hx1
                have HX2 := Lib.hid hx2
                have HT := Lib.hid hT
                clear hx1 hx2 hT
                cases x with
                | true =>
                  have HF := Lib.hid (HX1.out rfl)
                  go_wp2
                  go_ret
                  exact ⟨by rw [HF.out]; rfl, HS.out.trans HT.out⟩
                | false =>
                  have HX := Lib.hid (HX2.out rfl)
                  clear HX1 HX2
                  obtain ⟨pf, cf, bf, of', hef, _, _, hpf, hcf, _⟩ := HV.out.1.ints
                  injection hef with hef1 hef2 hef3
                  subst hef1 hef3
                  obtain ⟨pg, cg, bg, og', heg, _, _, hpg, hcg, _⟩ := HV.out.2.ints
                  injection heg with heg1 heg2 heg3
                  subst heg1 heg3
                  have HF3 := Lib.hid (And.intro hpf hcf)
                  have HF4 := Lib.hid (And.intro hpg hcg)
                  clear hpf hcf hpg hcg hef2 heg2 e0 e1 e2 e3 e4
                  go_wp2
                  go_loopw [7] (fun i wr => ∃ j : Nat, j ≤ h.frm[s].length ∧ i = .int .i64 j ∧ (h.frm[s].take j).all (fun x => withinB x 0 1000) = true ∧ Step W0 wr) (fun i _ => h.frm[s].length - (intOf i).toNat)
                  case atStart => exact ⟨0, Nat.zero_le _, rfl, rfl, HT.out⟩
                  case round =>
                    obtain ⟨j, hj, rfl, ht, hT⟩ := hrel
                    have HA4 := Lib.hid ht
                    have HT := Lib.hid hT
                    clear ht hT
                    (try clear e0 e1 e2 e3 e4)
                    obtain ⟨e0, e1, e2, e3, e4⟩ := cells5 (HB.out.step HT.out)
                    have g3 := (HS.out.trans HT.out).keeps.cell id (HU.out.1)
                    by_cases hlt4 : j < h.frm[s].length
                    · obtain rfl := HF3.out.1 (by omega)
                      have ga1 := (HS.out.trans HT.out).keeps.cell id (HF3.out.2 j hlt4)
                      have hix5 : (0 : Int) ≤ (j : Int) ∧ (j : Int) < (h.frm[s].length : Int) := by omega
                      go_wp2_with fail
                      refine (bigtopref08.In_any _ _ _ _).mono ?_
                      rintro e w' ⟨rfl, rfl⟩
                      cases q : withinB h.frm[s][j] 0 1000 with
                      | false =>
                        have q := Lib.hid q
                        have HF := Lib.hid (valid_not (h := h) fun p => by have := all_at p.frms hlt3f; simp only [fromB, Bool.and_eq_true] at this; exact t_of_ff q.out (all_at this.2 hlt4))
                        go_wp2
                        go_ret
                        exact ⟨by rw [HF.out]; rfl, HS.out.trans HT.out⟩
                      | true =>
                        have HQ := Lib.hid q
                        clear q
                        go_wp2
                        go_roundw
                        case rel => exact ⟨j + 1, by omega, by go_num, all_take HA4.out hlt4 HQ.out, HT.out⟩
                        case measure => simp [intOf]; omega
                    · have HFR := Lib.hid (all_done HA4.out hlt4)
                      clear HA4
                      go_wp2
                      obtain ⟨wo, hwo⟩ : ∃ W, W = wr := ⟨_, rfl⟩
                      subst hwo
                      clear e0 e1 e2 e3 e4 g3
                      have hlz := HX.out.2.2.2
                      have HLZ := Lib.hid hlz
                      clear hlz
                      go_loopw [8] (fun i wr => ∃ j : Nat, j ≤ h.holds[s].length ∧ i = .int .i64 j ∧ (h.holds[s].take j).all (fun x => withinB x 0 ((agN h : Int) - 1)) = true ∧ Step W0 wr) (fun i _ => h.holds[s].length - (intOf i).toNat)
                      case atStart => exact ⟨0, Nat.zero_le _, rfl, rfl, HT.out⟩
                      case round =>
                        obtain ⟨j5, hj5, rfl, ht, hT⟩ := hrel
                        have HA5 := Lib.hid ht
                        have HT := Lib.hid hT
                        clear ht hT
                        by_cases hlt5 : j5 < h.holds[s].length
                        · have hjz : (j5 : Int) < sizeL h.sectors := by have := HLZ.out; omega
                          obtain rfl := HF4.out.1 (by omega)
                          have hix5 : (0 : Int) ≤ (j5 : Int) ∧ (j5 : Int) < (h.holds[s].length : Int) := by omega
                          have hwa := HN.out.2
                          go_upto_region 28 with fail
                          refine wp_region_seq (kdOf [14] []) [0, 1, 0, 7, 15, 0, 63, 127, 0, 256, 768, 1792, 3840, 7936, 16383, 32767] [0, 1, 2, 3, 4, 5, 6, 7, 8, 9, 10, 11, 12, 13, 14, 15] [] (by kernel_rfl) (by kernel_rfl) (fun i T z hi hk => by simp [kdOf] at hk <;> (try (split at hk <;> cases hk))) ?_
                          intro Wx hWx
                          have HTx := Lib.hid (HT.out.trans hWx)
                          clear hWx HT
                          have HT := HTx
                          clear HTx
                          (try clear e0 e1 e2 e3 e4)
                          obtain ⟨e0, e1, e2, e3, e4⟩ := cells5 (HB.out.step HT.out)
                          have ga1 := (HS.out.trans HT.out).keeps.cell id (HF4.out.2 j5 hlt5)
                          have g4 := (HS.out.trans HT.out).keeps.cell id (HU.out.2)
                          have gz := (HS.out.trans HT.out).keeps.cell id (HGZ.out)
                          repeat (first | (refine run_off rfl rfl (by rfl) ?_; (try simp only [Act.put, List.setIfInBounds_toArray, List.set_cons_zero, List.set_cons_succ])) | (refine run_chain_off rfl rfl (by rfl) (K0_mono _) ?_; (try simp only [Act.put, List.setIfInBounds_toArray, List.set_cons_zero, List.set_cons_succ])) | ((refine run_want rfl rfl (by rfl) ⟨?_, fun W hW => ?_, ?_⟩; rotate_left; (· (have d0 := hW.keeps.cell id e3; have d1 := hW.keeps.cell id e4; have d2 := hW.keeps.cell id g4; have d3 := hW.keeps.cell id gz; have d4 := hW.keeps.cell id ga1; go_simp; (try with_reducible rfl)))); (try simp only [Act.put, List.setIfInBounds_toArray, List.set_cons_zero, List.set_cons_succ])))
                          refine run_chain rfl rfl (by rfl) (fun Wi hWi K' hK => ?_)
                          have HTi := Lib.hid (HT.out.trans hWi)
                          have HZW := Lib.hid HTi.out.size
                          clear hWi HT
                          go_simp
                          refine (In_st _ _ _ _).mono ?_
                          rintro e wn ⟨rfl, hSn⟩
                          have HT := Lib.hid (HTi.out.trans (StepX.of hSn))
                          clear HTi
                          cases q : withinB h.holds[s][j5] 0 ((agN h : Int) - 1) with
                          | false =>
                            have q := Lib.hid q
                            have HF := Lib.hid (valid_not (h := h) fun p => by have := all_at p.hols hlt3h; simp only [holdsB, Bool.and_eq_true] at this; exact t_of_ff q.out (all_at this.2 hlt5))
                            refine hK _ _ (StepX.of hSn) ?_
                            clear hSn
                            (try simp only [Act.put, List.setIfInBounds_toArray, List.set_cons_zero, List.set_cons_succ])
                            repeat (first | (refine run_off rfl rfl (by rfl) ?_; (try simp only [Act.put, List.setIfInBounds_toArray, List.set_cons_zero, List.set_cons_succ])) | (refine run_chain_off rfl rfl (by rfl) (K0_mono _) ?_; (try simp only [Act.put, List.setIfInBounds_toArray, List.set_cons_zero, List.set_cons_succ])) | ((refine run_want rfl rfl (by rfl) ⟨?_, fun W hW => ?_, ?_⟩; rotate_left; (· (obtain ⟨hc'', hf''⟩ := hW.cells; go_simp; (try with_reducible rfl)))); (try simp only [Act.put, List.setIfInBounds_toArray, List.set_cons_zero, List.set_cons_succ])))
                            refine run_end (L := []) rfl (fun W6 hW6 => ?_)
                            have HT6 := Lib.hid (HT.out.trans hW6)
                            clear hW6 HT
                            have HT := HT6
                            clear HT6
                            go_wp2
                            go_ret
                            exact ⟨by rw [HF.out]; rfl, HS.out.trans HT.out⟩
                          | true =>
                            have HQ := Lib.hid q
                            clear q
                            refine hK _ _ (StepX.of hSn) ?_
                            clear hSn
                            (try simp only [Act.put, List.setIfInBounds_toArray, List.set_cons_zero, List.set_cons_succ])
                            repeat (first | (refine run_off rfl rfl (by rfl) ?_; (try simp only [Act.put, List.setIfInBounds_toArray, List.set_cons_zero, List.set_cons_succ])) | (refine run_chain_off rfl rfl (by rfl) (K0_mono _) ?_; (try simp only [Act.put, List.setIfInBounds_toArray, List.set_cons_zero, List.set_cons_succ])) | ((refine run_want rfl rfl (by rfl) ⟨?_, fun W hW => ?_, ?_⟩; rotate_left; (· (obtain ⟨hc'', hf''⟩ := hW.cells; go_simp; (try with_reducible rfl)))); (try simp only [Act.put, List.setIfInBounds_toArray, List.set_cons_zero, List.set_cons_succ])))
                            refine run_end (L := []) rfl (fun W6 hW6 => ?_)
                            have HT6 := Lib.hid (HT.out.trans hW6)
                            clear hW6 HT
                            have HT := HT6
                            clear HT6
                            go_wp2
                            go_roundw
                            case rel => exact ⟨j5 + 1, by omega, by go_num, all_take HA5.out hlt5 HQ.out, HT.out⟩
                            case measure => simp [intOf]; omega
                        · have HHO := Lib.hid (all_done HA5.out hlt5)
                          have hjz : ¬ (j5 : Int) < sizeL h.sectors := by have := HLZ.out; omega
                          clear HA5
                          go_wp2
                          go_roundw
                          case rel =>
                            refine ⟨s + 1, by omega, by go_num, ⟨all_take HA.out.1 hlt3 HX.out.1, rises_next HA.out.2.1 hlt3 (fun j e => ?_), all_take HA.out.2.2.1 hlt3f ?_, all_take HA.out.2.2.2 hlt3h ?_⟩, HT.out⟩
                            · have := HX.out.2.1 (by omega)
                              subst e
                              exact this
                            · simp only [fromB, HX.out.2.2.1, HFR.out, decide_true, Bool.and_self]
                            · simp only [holdsB, HX.out.2.2.2, HHO.out, decide_true, Bool.and_self]
                          case measure => simp [intOf]; omega
            · have hfin : valid h = decide (sizeL h.sectors ≤ 100) := by
                have h1 := all_done HA.out.1 hlt3
                have h2 := HA.out.2.1
                have h3 := all_done HA.out.2.2.1 (by have := Hqd.out; omega)
                have h4 := all_done HA.out.2.2.2 (by have := Hqe.out; omega)
                obtain rfl : s = h.dates.length := by omega
                by_cases hz : sizeL h.sectors ≤ 100
                · rw [valid_of ⟨Hqa.out, Hqb.out, Hqc.out, Hqd.out, Hqe.out, Hqf.out, HSEC.out, HPRI.out, h1, h2, h3, h4, hz⟩]
                  simp [hz]
                · rw [valid_not fun p => hz p.size]
                  simp [hz]
              have HF := Lib.hid hfin
              clear hfin
              go_wp2
              go_ret
              exact ⟨by rw [HF.out]; rfl, HS.out.trans HT.out⟩
end Go.Proofs.Ytbgfmikbhiblgaa
/- Walks: the reference's Cash. -/
namespace Go.Proofs.Ytbgfmikbhiblgaa
set_option linter.unusedSimpArgs false
set_option linter.unusedVariables false
open Go.RowKit Go.BT

set_option maxHeartbeats 4000000 in
theorem Cash_any (S : Nat → Prop) (h : House) (b : Book) (v u : Value) (w : World) (hv : AV S w v h) (hu : AV S w u b) (hok : valid h = true) (hl : b.seats.length ≤ 1000) (hrow : ∀ i (hi : i < b.seats.length), (b.seats[i].length : Int) = sizeL h.sectors) :
    Calls Try.prog 58 #[v, u] w fun e w' => e = .returned (.int .i64 (cashL h b.seats)) ∧ Step w w' := by
  obtain ⟨cs, rfl, hr0⟩ := hv
  have hr := hr0
  obtain ⟨c0, c1, c2, c3, c4, rfl, h0, h1, h2, h3, h4⟩ := hr
  obtain ⟨p0, k0, rfl⟩ := h0.form
  obtain ⟨p1, k1, b1, o1, rfl, _, m1', hp1, hc1, _⟩ := h1.ints
  obtain ⟨p2, k2, rfl⟩ := h2.form
  obtain ⟨p3, k3, rfl⟩ := h3.form
  obtain ⟨p4, k4, rfl⟩ := h4.form
  obtain ⟨d1, d2, d4, rfl, s1, s2, s4⟩ := hu.book
  obtain ⟨q1, m1, bb, o, rfl, _, hm, hp, hc, hb⟩ := s1.rows
  obtain ⟨q2, m2, rfl⟩ := s2.form
  obtain ⟨q4, m4, rfl⟩ := s4.form
  obtain ⟨W0, hW0⟩ : ∃ W0, W0 = (w.alloc (.cells #[.slice p0 h.sectors.length k0, .slice p1 h.prices.length k1, .slice p2 h.dates.length k2, .slice p3 h.frm.length k3, .slice p4 h.holds.length k4] 26)).alloc (.cells #[.int .i64 b.agency, .slice q1 b.seats.length m1, .slice q2 b.off.length m2, .int .i64 b.sent, .slice q4 b.took.length m4, .int .i64 b.cash] 30) := ⟨_, rfl⟩
  have hbx : Bx W0 w.heap.size [.slice p0 h.sectors.length k0, .slice p1 h.prices.length k1, .slice p2 h.dates.length k2, .slice p3 h.frm.length k3, .slice p4 h.holds.length k4] 26 := by subst hW0; exact (Bx.new _ _ _).alloc _
  have hb2 : Bx W0 (w.heap.size + 1) [.int .i64 b.agency, .slice q1 b.seats.length m1, .slice q2 b.off.length m2, .int .i64 b.sent, .slice q4 b.took.length m4, .int .i64 b.cash] 30 := by subst hW0; exact Bx.new' _ _ _ _ (by simp)
  have hS : Step w W0 := by subst hW0; exact (by repeat (first | (with_reducible assumption) | (with_reducible exact Step.refl _) | (with_reducible apply Step.s_alloc) | (with_reducible apply Step.s_drew) | (with_reducible apply Step.s_drewN) | (with_reducible refine Step.trans ?_ (by with_reducible assumption))))
  have HB1 := Lib.hid hbx
  have HB2 := Lib.hid hb2
  have HR := Lib.hid (Rep.keep (.of_step hS) hr0)
  have HS := Lib.hid hS
  have HP1 := Lib.hid (And.intro hp1 hc1)
  have HP := Lib.hid (And.intro hp hc)
  have HROW := Lib.hid hrow
  have HL := Lib.hid (And.intro hok hl)
  have HT := Lib.hid (Step.refl W0)
  clear hr0 h0 h1 h2 h3 h4 hbx hb2 hS hu s1 s2 s4 hp1 hc1 hp hc hb hrow hok hl
  have HW := Lib.hid hW0
  clear hW0
  go_enter Try.func58, Try.ntmps58
  go_upto_region 1 with fail
  rw [← HW.out]
  (try clear e0 e1 e2 e3 e4 f0 f1 f2 f3 f4 f5 y1 y2)
  obtain ⟨e0, e1, e2, e3, e4⟩ := cells5 (HB1.out.step HT.out)
  obtain ⟨f0, f1, f2, f3, f4, f5⟩ := cells6 (HB2.out.step HT.out)
  have y1 := (HB1.out.step HT.out).lt
  have y2 := (HB2.out.step HT.out).lt
  go_wp2_with fail
  refine (Classes_any S h _ _ ⟨_, rfl, HR.out⟩ (okSec_valid HL.out.1)).mono ?_
  rintro e wn ⟨vc, rfl, hvc, hSn⟩
  obtain ⟨pc, kc, bc, oc, rfl, _, mc, hpc, hcc, _⟩ := hvc.ints
  have hlc : ((classesL h.sectors).length : Int) = sizeL h.sectors := classesL_len (fun i hi => ((okSec_valid HL.out.1).2 i hi).1)
  have HC := Lib.hid (And.intro hpc hcc)
  have HLC := Lib.hid hlc
  have HN := Lib.hid hSn
  clear hvc hpc hcc hlc hSn HT
  (try clear e0 e1 e2 e3 e4 f0 f1 f2 f3 f4 f5 y1 y2)
  go_wp2
  go_loopw [5, 7] (fun s i wr => ∃ k : Nat, k ≤ b.seats.length ∧ i = .int .i64 k ∧ s = .int .i64 (cashTo h b.seats k) ∧ Step wn wr) (fun _ i _ => b.seats.length - (intOf i).toNat)
  case atStart => exact ⟨0, Nat.zero_le _, rfl, rfl, Step.refl _⟩
  case round =>
    obtain ⟨k, hk, rfl, rfl, hT⟩ := hrel
    have HTn := Lib.hid hT
    have HT := Lib.hid (HN.out.trans hT)
    clear hT
    (try clear e0 e1 e2 e3 e4 f0 f1 f2 f3 f4 f5 y1 y2)
    obtain ⟨e0, e1, e2, e3, e4⟩ := cells5 (HB1.out.step HT.out)
    obtain ⟨f0, f1, f2, f3, f4, f5⟩ := cells6 (HB2.out.step HT.out)
    have y1 := (HB1.out.step HT.out).lt
    have y2 := (HB2.out.step HT.out).lt
    by_cases hlt : k < b.seats.length
    · obtain rfl := HP.out.1 (by omega)
      obtain ⟨x, rg, hx⟩ := HP.out.2 k hlt
      obtain ⟨pu, cu, bu, ou, rfl, _, _, hpu, hcu, _⟩ := hx.ints
      have HG := Lib.hid rg
      have HU := Lib.hid (And.intro hpu hcu)
      clear hx hpu hcu rg
      have g := (HS.out.trans HT.out).keeps.cell id HG.out
      have hix : (0 : Int) ≤ (k : Int) ∧ (k : Int) < (b.seats.length : Int) := by omega
      have hcb := cashTo_bound HL.out.1 HROW.out k hk
      have hl := HL.out.2
      go_wp2
      obtain ⟨wo, hwo⟩ : ∃ W, W = wr := ⟨_, rfl⟩
      subst hwo
      clear e0 e1 e2 e3 e4 f0 f1 f2 f3 f4 f5 y1 y2 g
      go_loopw [5, 8] (fun s i wi => ∃ k2 : Nat, k2 ≤ b.seats[k].length ∧ i = .int .i64 k2 ∧ s = .int .i64 (cashTo h b.seats k + rowCash h b.seats[k] k2) ∧ Step wn wi) (fun _ i _ => b.seats[k].length - (intOf i).toNat)
      case atStart => exact ⟨0, Nat.zero_le _, rfl, by simp [rowCash], HTn.out⟩
      case round =>
        obtain ⟨k2, hk2, rfl, rfl, hT⟩ := hrel
        have HTn := Lib.hid hT
        have HT := Lib.hid (HN.out.trans hT)
        clear hT
        (try clear e0 e1 e2 e3 e4 f0 f1 f2 f3 f4 f5 y1 y2)
        obtain ⟨e0, e1, e2, e3, e4⟩ := cells5 (HB1.out.step HT.out)
        obtain ⟨f0, f1, f2, f3, f4, f5⟩ := cells6 (HB2.out.step HT.out)
        have y1 := (HB1.out.step HT.out).lt
        have y2 := (HB2.out.step HT.out).lt
        have g := (HS.out.trans HT.out).keeps.cell id HG.out
        have hrb := rowCash_bound HL.out.1 b.seats[k] k2 (by have := HROW.out k hlt; omega)
        have hsz := (bounds_valid HL.out.1).2.2.2.2.2.2.2.1
        have hkk : (k2 : Int) ≤ 100 := by have := HROW.out k hlt; omega
        by_cases hlt2 : k2 < b.seats[k].length
        · obtain rfl := HU.out.1 (by omega)
          have ga := (HS.out.trans HT.out).keeps.cell id (HU.out.2 k2 hlt2)
          have hlcl : k2 < (classesL h.sectors).length := by have := HLC.out; have := HROW.out k hlt; omega
          have hix2 : (0 : Int) ≤ (k2 : Int) ∧ (k2 : Int) < (b.seats[k].length : Int) := by omega
          have hix3 : (0 : Int) ≤ (k2 : Int) ∧ (k2 : Int) < ((classesL h.sectors).length : Int) := by omega
          have hg : b.seats[k].getD k2 0 = b.seats[k][k2] := by simp [List.getD_eq_getElem?_getD, hlt2]
          have HGD := Lib.hid hg
          clear hg
          by_cases hpos : 0 < b.seats[k][k2]
          · obtain ⟨kc, hkc, hkl, hpr, hp0, hp1⟩ := class_valid HL.out.1 (n := k2) (by omega) (by have := HROW.out k hlt; omega)
            obtain rfl := HC.out.1 (by omega)
            obtain rfl := HP1.out.1 (by omega)
            have gc := HTn.out.keeps.cell id (HC.out.2 k2 hlcl)
            rw [classesL_get (fun i hi => ((okSec_valid HL.out.1).2 i hi).1) k2 hlcl, hkc] at gc
            have gp := (HS.out.trans HT.out).keeps.cell id (HP1.out.2 kc hkl)
            have hix4 : (0 : Int) ≤ (kc : Int) ∧ (kc : Int) < (h.prices.length : Int) := by omega
            have hstep : rowCash h b.seats[k] (k2 + 1) = rowCash h b.seats[k] k2 + h.prices[kc] := by
              rw [rowCash_succ, HGD.out, if_pos hpos, hpr]
            have HST := Lib.hid hstep
            clear hkc hpr hstep
            go_wp2
            go_quiet (fail)
            go_wp2
            go_roundw
            case rel => exact ⟨k2 + 1, by omega, by go_num, by rw [HST.out, Int.add_assoc], HTn.out.trans (Step.drewN _ _)⟩
            case measure => simp [intOf]; omega
          · have hstep : rowCash h b.seats[k] (k2 + 1) = rowCash h b.seats[k] k2 := by
              rw [rowCash_succ, HGD.out, if_neg hpos, Int.add_zero]
            have HST := Lib.hid hstep
            clear hstep
            go_wp2
            go_roundw
            case rel => exact ⟨k2 + 1, by omega, by go_num, by rw [HST.out], HTn.out⟩
            case measure => simp [intOf]; omega
        · have hge : b.seats.getD k [] = b.seats[k] := by simp [List.getD_eq_getElem?_getD, hlt]
          have hkk2 : k2 = b.seats[k].length := by omega
          have hstep : cashTo h b.seats (k + 1) = cashTo h b.seats k + rowCash h b.seats[k] k2 := by
            rw [hkk2]
            show cashTo h b.seats k + rowCash h (b.seats.getD k []) (b.seats.getD k []).length = _
            rw [hge]
          have HST := Lib.hid hstep
          clear hstep hge hkk2
          go_wp2
          go_roundw
          case rel => exact ⟨k + 1, by omega, by go_num, by rw [HST.out], HTn.out⟩
          case measure => simp [intOf]; omega
    · have hkk : k = b.seats.length := by omega
      have hfin : cashTo h b.seats k = cashL h b.seats := by rw [hkk]; rfl
      have HF := Lib.hid hfin
      clear hfin hkk
      go_wp2
      go_ret
      rw [HF.out]
      exact ⟨rfl, HS.out.trans HT.out⟩
end Go.Proofs.Ytbgfmikbhiblgaa
