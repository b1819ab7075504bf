/- The functions of the ticket package that open a book and say whether a book is valid are walked. -/
import Derived.Test.YtbgfmikbhiblgaaMa
import Derived.Test.YtbgfmikbhiblgaaMc
import Derived.Test.YtbgfmikbhiblgaaRows
import Derived.BigQuiet
import Derived.Deep.AppendLies
import Derived.Deep.DeepCutAuto
import Derived.Deep.QuietTactic
import Derived.Deep.RegionHeld3
import Derived.Laws.MakeOwn
import Derived.Laws.StructEq
import Derived.Lib.Hide
import Derived.Shelf.Abstract
import Derived.WalkKit
import Derived.WalkLawsBesides
import Derived.WalkSmall
import Derived.WideKeyRuns
/- Walks: Open. -/
namespace Go.Proofs.Ytbgfmikbhiblgaa
set_option linter.unusedSimpArgs false
set_option linter.unusedVariables false
open Go.RowKit Go.BT

def noBook : Book := { agency := 0, seats := [], off := [], sent := 0, took := [], cash := 0 }
def openR (h : House) (n : Int) : Book × Int := if valid h then (if withinB n 0 (agN h - 1) then (openP h n, 0) else (noBook, 2)) else (noBook, 1)
theorem noBook_rep (S : Nat → Prop) (w : World) : Rep.rep S w [.int .i64 0, .slice none 0 0, .slice none 0 0, .int .i64 0, .slice none 0 0, .int .i64 0] noBook := ⟨_, _, _, rfl, SL.nil _ _, SL.nil _ _, SL.nil _ _⟩
theorem bounds_valid {h : House} (hv : valid h = true) : 1 ≤ h.dates.length ∧ h.dates.length ≤ 6 ∧ h.frm.length = h.dates.length ∧ h.holds.length = h.dates.length ∧ 1 ≤ agN h ∧ agN h ≤ 6 ∧ 0 ≤ sizeL h.sectors ∧ sizeL h.sectors ≤ 100 ∧ (∀ i (hi : i < h.holds.length), (h.holds[i].length : Int) = sizeL h.sectors) ∧ h.sectors.length ≤ 10 := by
  have hs := sizeL_bound (okSec_valid hv) h.sectors.length (Nat.le_refl _)
  rw [List.take_length] at hs
  simp only [valid, validA, validB, withinB, Bool.and_eq_true, decide_eq_true_eq] at hv
  obtain ⟨⟨⟨⟨h1, h2⟩, h3⟩, h4⟩, ⟨⟨⟨⟨⟨⟨⟨⟨b1, b2⟩, b3⟩, b4⟩, b5⟩, b6⟩, b7⟩, b8⟩, b9⟩⟩ := hv
  refine ⟨by omega, by omega, h2, h3, by omega, by omega, by omega, b3, fun i hi => ?_, by omega⟩
  have := List.all_eq_true.1 b9 _ (List.getElem_mem hi)
  simp only [holdsB, Bool.and_eq_true, decide_eq_true_eq] at this
  exact this.1

set_option maxHeartbeats 1000000 in
theorem Open_any (S : Nat → Prop) (h : House) (n : Int) (v : Value) (w : World) (hv : AV S w v h) :
    Calls Try.prog 22 #[v, .int .i64 n] w fun e w' => ∃ v', e = .returned (.tuple #[v', .int .i64 (openR h n).2]) ∧ AV (Old w) w' v' (openR h n).1 ∧ Step w w' := by
  obtain ⟨cs, rfl, hr⟩ := hv
  have hr0 := hr
  obtain ⟨c0, c1, c2, c3, c4, rfl, h0, h1, h2, h3, h4⟩ := hr
  obtain ⟨p0, k0, rfl⟩ := h0.form
  obtain ⟨p1, k1, rfl⟩ := h1.form
  obtain ⟨p2, k2, rfl⟩ := h2.form
  obtain ⟨p3, k3, rfl⟩ := h3.form
  obtain ⟨p4, k4, rfl⟩ := h4.form
  obtain ⟨W0, hW0⟩ : ∃ W0, W0 = (w.alloc (.cells #[.slice p0 h.sectors.length k0, .slice p1 h.prices.length k1, .slice p2 h.dates.length k2, .slice p3 h.frm.length k3, .slice p4 h.holds.length k4] 43)).alloc (.cells #[.int .i64 0, .slice none 0 0, .slice none 0 0, .int .i64 0, .slice none 0 0, .int .i64 0] 36) := ⟨_, rfl⟩
  have hb : Bx W0 w.heap.size [.slice p0 h.sectors.length k0, .slice p1 h.prices.length k1, .slice p2 h.dates.length k2, .slice p3 h.frm.length k3, .slice p4 h.holds.length k4] 43 := by subst hW0; exact (Bx.new _ _ _).alloc _
  have hq : Bx W0 (w.heap.size + 1) [.int .i64 0, .slice none 0 0, .slice none 0 0, .int .i64 0, .slice none 0 0, .int .i64 0] 36 := by subst hW0; exact Bx.new' _ _ _ _ (by simp)
  have hS : Step w W0 := by subst hW0; exact (by repeat (first | (with_reducible assumption) | (with_reducible exact Step.refl _) | (with_reducible apply Step.s_alloc) | (with_reducible apply Step.s_drew) | (with_reducible apply Step.s_drewN) | (with_reducible refine Step.trans ?_ (by with_reducible assumption))))
  have hr1 := Rep.keep (.of_step hS) hr0
  have hcall := Lib.hid (valid_any S h _ _ ⟨_, rfl, hr1⟩)
  have hz : W0.heap.size = w.heap.size + 2 := by subst hW0; simp
  have HB := Lib.hid hb
  have HQ := Lib.hid hq
  have HR := Lib.hid hr1
  have HS := Lib.hid hS
  clear hr0 h0 h1 h2 h3 h4 hb hr1 hq hS
  cases q : valid h with
  | true =>
    have Q := Lib.hid q
    clear q
    subst hW0
    go_enter Try.func22, Try.ntmps22
    go_wp2_with fail
    refine hcall.out.mono ?_
    rintro e w' ⟨rfl, hS⟩
    rw [Q.out]
    obtain ⟨e0, e1, e2, e3, e4⟩ := cells5 (HB.out.step hS)
    have BD := Lib.hid (bounds_valid Q.out)
    have hag : 1 ≤ agN h ∧ agN h ≤ 6 := ⟨BD.out.2.2.2.2.1, BD.out.2.2.2.2.2.1⟩
    have hcall2 := agencies_any S h _ _ ⟨_, rfl, Rep.keep (.of_step hS) HR.out⟩ (by have := BD.out; omega)
    rw [agN_eq] at hcall2
    have hcall2 := Lib.hid hcall2
    go_wp2_with fail
    refine hcall2.out.mono ?_
    rintro e w2 ⟨rfl, hS2⟩
    have hst := Lib.hid (hS.trans hS2)
    clear hS hS2 hcall hcall2 e0 e1 e2 e3 e4
    cases q2 : withinB n 0 (agN h - 1) with
    | true =>
      have Q2 := Lib.hid q2
      clear q2
      go_wp2_with fail
      refine (ticket.within_any _ _ _ _).mono ?_
      rintro e w' ⟨rfl, rfl⟩
      rw [Q2.out]
      obtain ⟨e0, e1, e2, e3, e4⟩ := cells5 (HB.out.step hst.out)
      have hcall2 := Lib.hid (open_any S h n _ _ ⟨_, rfl, Rep.keep (.of_step hst.out) HR.out⟩ (by have := BD.out; omega) (by have := BD.out; omega) (fun i hi => by have := BD.out.2.2.2.2.2.2.2.2.1 i hi; have := BD.out; omega))
      go_wp2_with fail
      refine hcall2.out.mono ?_
      rintro e w3 ⟨v', rfl, hv', hS3⟩
      obtain ⟨a1, a2, a4, rfl, s1, s2, s4⟩ := hv'.book
      obtain ⟨y1, x1, rfl⟩ := s1.form
      obtain ⟨y2, x2, rfl⟩ := s2.form
      obtain ⟨y4, x4, rfl⟩ := s4.form
      obtain ⟨e0, e1, e2, e3, e4, e5⟩ := cells6 (HQ.out.step (hst.out.trans hS3))
      have f0 := fun j => (HQ.out.step (hst.out.trans hS3)).frozen j
      have HV := Lib.hid (And.intro s1 (And.intro s2 (And.intro s4 hS3)))
      clear s1 s2 s4 hS3 hv' hcall2
      go_wp2
      obtain ⟨s1, s2, s4, hS3⟩ := HV.out
      have hq3 := HQ.out.step (hst.out.trans hS3)
      obtain ⟨b6, hX⟩ := set6 hq3 (.int .i64 (openP h n).agency) (.slice y1 (openP h n).seats.length x1) (.slice y2 (openP h n).off.length x2) (.int .i64 (openP h n).sent) (.slice y4 (openP h n).took.length x4) (.int .i64 (openP h n).cash)
      have hall : Step w _ := StepX.fresh (HS.out.trans (hst.out.trans hS3)) hX (fun j hj => by omega)
      have hzs := hst.out.size
      simp only [World.size_alloc] at hzs
      have hx : openR h n = (openP h n, 0) := by simp [openR, Q.out, Q2.out]
      rw [hx]
      refine ret_struct2 (k := 6) rfl siBook rfl b6 rfl rfl ⟨_, rfl, ⟨_, rfl, ⟨_, _, _, rfl, ?_, ?_, ?_⟩⟩, hall⟩
      all_goals refine SL.keep (S := fun j => j < w.heap.size + 2) (hX.keeps.mono fun j _ hj => by omega) ?_ |>.weak fun j _ hj => by unfold Old at hj; omega
      · exact s1.weak fun j _ hj => by unfold Old; omega
      · exact s2.weak fun j _ hj => by unfold Old; omega
      · exact s4.weak fun j _ hj => by unfold Old; omega
    | false =>
      have Q2 := Lib.hid q2
      clear q2
      go_wp2_with fail
      refine (ticket.within_any _ _ _ _).mono ?_
      rintro e w' ⟨rfl, rfl⟩
      rw [Q2.out]
      obtain ⟨e0, e1, e2, e3, e4, e5⟩ := cells6 (HQ.out.step hst.out)
      have f0 := fun j => (HQ.out.step hst.out).frozen j
      go_wp2
      obtain ⟨b6, hX⟩ := set6 (HQ.out.step hst.out) (.int .i64 0) (.slice none 0 0) (.slice none 0 0) (.int .i64 0) (.slice none 0 0) (.int .i64 0)
      have hall : Step w _ := StepX.fresh (HS.out.trans hst.out) hX (fun j hj => by omega)
      have hx : openR h n = (noBook, 2) := by simp [openR, Q.out, Q2.out]
      rw [hx]
      exact ret_struct2 (k := 6) rfl siBook rfl b6 rfl rfl ⟨_, rfl, ⟨_, rfl, noBook_rep _ _⟩, hall⟩
  | false =>
    have Q := Lib.hid q
    clear q
    subst hW0
    go_enter Try.func22, Try.ntmps22
    go_wp2_with fail
    refine hcall.out.mono ?_
    rintro e w' ⟨rfl, hS⟩
    rw [Q.out]
    obtain ⟨e0, e1, e2, e3, e4, e5⟩ := cells6 (HQ.out.step hS)
    have f0 := fun j => (HQ.out.step hS).frozen j
    have hst := Lib.hid hS
    clear hS
    go_wp2
    obtain ⟨b6, hX⟩ := set6 (HQ.out.step hst.out) (.int .i64 0) (.slice none 0 0) (.slice none 0 0) (.int .i64 0) (.slice none 0 0) (.int .i64 0)
    have hall : Step w _ := StepX.fresh (HS.out.trans hst.out) hX (fun j hj => by omega)
    have hx : openR h n = (noBook, 1) := by simp [openR, Q.out]
    rw [hx]
    exact ret_struct2 (k := 6) rfl siBook rfl b6 rfl rfl ⟨_, rfl, ⟨_, rfl, noBook_rep _ _⟩, hall⟩
end Go.Proofs.Ytbgfmikbhiblgaa
/- Walks: the cash of a book. -/
namespace Go.Proofs.Ytbgfmikbhiblgaa
set_option linter.unusedSimpArgs false
set_option linter.unusedVariables false
open Go.RowKit Go.BT

def priceL (h : House) (i : Int) : Int := h.prices.getD (classL h.sectors i).toNat 0
def rowCash (h : House) (l : List Int) : Nat → Int
  | 0 => 0
  | k + 1 => rowCash h l k + (if 0 < l.getD k 0 then priceL h k else 0)
def cashTo (h : House) (rows : List (List Int)) : Nat → Int
  | 0 => 0
  | k + 1 => cashTo h rows k + rowCash h (rows.getD k []) (rows.getD k []).length
def cashL (h : House) (rows : List (List Int)) : Int := cashTo h rows rows.length

theorem rowCash_succ (h : House) (l : List Int) (k : Nat) : rowCash h l (k + 1) = rowCash h l k + (if 0 < l.getD k 0 then priceL h k else 0) := rfl
theorem classL_range {m : Int} : ∀ {l : List Sector} {n : Int}, (∀ s ∈ l, 0 ≤ s.cls ∧ s.cls < m) → 0 ≤ n → n < sizeL l → 0 ≤ classL l n ∧ classL l n < m
  | [], n, _, h0, h1 => by simp [sizeL] at h1; omega
  | s :: l, n, hs, h0, h1 => by
    unfold classL
    split
    · exact hs s List.mem_cons_self
    · refine classL_range (fun s hs' => hs s (List.mem_cons_of_mem _ hs')) (by omega) ?_
      simp only [sizeL, List.map_cons, List.sum_cons] at h1 ⊢
      omega
theorem class_valid {h : House} (hv : valid h = true) {n : Int} (h0 : 0 ≤ n) (h1 : n < sizeL h.sectors) : ∃ k : Nat, classL h.sectors n = k ∧ ∃ hk : k < h.prices.length, priceL h n = h.prices[k] ∧ 0 ≤ h.prices[k] ∧ h.prices[k] ≤ 10000 := by
  simp only [valid, validB, Bool.and_eq_true] at hv
  have hb := hv.2.1.1.1.1.1.1.1.2
  have hp := hv.2.1.1.1.1.2
  have := classL_range (m := h.prices.length) (l := h.sectors) (n := n) (fun s hs => by
    have := List.all_eq_true.1 hb s hs
    simp [secB, withinB] at this
    omega) h0 h1
  refine ⟨(classL h.sectors n).toNat, by omega, by omega, ?_⟩
  have hk : (classL h.sectors n).toNat < h.prices.length := by omega
  refine ⟨by simp [priceL, List.getD_eq_getElem?_getD, hk], ?_⟩
  have := List.all_eq_true.1 hp _ (List.getElem_mem hk)
  simp [withinB] at this
  exact this
theorem rowCash_bound {h : House} (hv : valid h = true) (l : List Int) : ∀ k : Nat, (k : Int) ≤ sizeL h.sectors → 0 ≤ rowCash h l k ∧ rowCash h l k ≤ 10000 * k
  | 0, _ => by simp [rowCash]
  | k + 1, hk => by
    have := rowCash_bound hv l k (by omega)
    obtain ⟨_, _, _, e, h0, h1⟩ := class_valid hv (n := k) (by omega) (by omega)
    unfold rowCash
    split <;> omega
theorem cashTo_bound {h : House} (hv : valid h = true) {rows : List (List Int)} (hr : ∀ i (hi : i < rows.length), (rows[i].length : Int) = sizeL h.sectors) : ∀ k : Nat, k ≤ rows.length → 0 ≤ cashTo h rows k ∧ cashTo h rows k ≤ 1000000 * k
  | 0, _ => by simp [cashTo]
  | k + 1, hk => by
    have := cashTo_bound hv hr k (by omega)
    have e : rows.getD k [] = rows[k] := by simp [List.getD_eq_getElem?_getD, show k < rows.length by omega]
    have hrk := hr k (by omega)
    have h2 := rowCash_bound hv rows[k] rows[k].length (by omega)
    have h3 := (bounds_valid hv).2.2.2.2.2.2.2.1
    unfold cashTo
    rw [e]
    omega

set_option maxHeartbeats 2000000 in
theorem cash_any (S : Nat → Prop) (h : House) (b : Book) (v u : Value) (w : World) (hv : AV S w v h) (hu : AV S w u b) (hok : valid h = true) (hl : b.seats.length ≤ 1000) (hrow : ∀ i (hi : i < b.seats.length), (b.seats[i].length : Int) = sizeL h.sectors) :
    Calls Try.prog 119 #[v, u] w fun e w' => e = .returned (.int .i64 (cashL h b.seats)) ∧ Step w w' := by
  obtain ⟨cs, rfl, hr0⟩ := hv
  have hr := hr0
  obtain ⟨c0, c1, c2, c3, c4, rfl, h0, h1, h2, h3, h4⟩ := hr
  obtain ⟨p0, k0, rfl⟩ := h0.form
  obtain ⟨p1, k1, rfl⟩ := h1.form
  obtain ⟨p2, k2, rfl⟩ := h2.form
  obtain ⟨p3, k3, rfl⟩ := h3.form
  obtain ⟨p4, k4, rfl⟩ := h4.form
  obtain ⟨d1, d2, d4, rfl, s1, s2, s4⟩ := hu.book
  obtain ⟨q1, m1, rfl⟩ := s1.form
  obtain ⟨q2, m2, rfl⟩ := s2.form
  obtain ⟨q4, m4, rfl⟩ := s4.form
  obtain ⟨p', c', bb, o, he, _, hm, hp, hc, hb⟩ := s1.rows
  injection he with he1 he2 he3
  subst he1 he3
  obtain ⟨W0, hW0⟩ : ∃ W0, W0 = (w.alloc (.cells #[.slice p0 h.sectors.length k0, .slice p1 h.prices.length k1, .slice p2 h.dates.length k2, .slice p3 h.frm.length k3, .slice p4 h.holds.length k4] 43)).alloc (.cells #[.int .i64 b.agency, .slice q1 b.seats.length m1, .slice q2 b.off.length m2, .int .i64 b.sent, .slice q4 b.took.length m4, .int .i64 b.cash] 36) := ⟨_, rfl⟩
  have hbx : Bx W0 w.heap.size [.slice p0 h.sectors.length k0, .slice p1 h.prices.length k1, .slice p2 h.dates.length k2, .slice p3 h.frm.length k3, .slice p4 h.holds.length k4] 43 := by subst hW0; exact (Bx.new _ _ _).alloc _
  have hS : Step w W0 := by subst hW0; exact (by repeat (first | (with_reducible assumption) | (with_reducible exact Step.refl _) | (with_reducible apply Step.s_alloc) | (with_reducible apply Step.s_drew) | (with_reducible apply Step.s_drewN) | (with_reducible refine Step.trans ?_ (by with_reducible assumption))))
  have HB := Lib.hid hbx
  have HR := Lib.hid (Rep.keep (.of_step hS) hr0)
  have HS := Lib.hid hS
  have HC := Lib.hid hc
  have HP := Lib.hid hp
  have HBB := Lib.hid hb
  have HROW := Lib.hid hrow
  have HL := Lib.hid (And.intro hok hl)
  clear hr0 h0 h1 h2 h3 h4 hbx hS hu s1 s2 s4 he2 hc hp hb hrow hok hl
  have HW := Lib.hid hW0
  clear hW0
  go_enter Try.func119, Try.ntmps119
  go_wp2
  go_loopw [4, 12] (fun s i wr => ∃ k : Nat, k ≤ b.seats.length ∧ i = .int .i64 k ∧ s = .int .i64 (cashTo h b.seats k) ∧ Step W0 wr) (fun _ i _ => b.seats.length - (intOf i).toNat)
  case atStart => exact ⟨0, Nat.zero_le _, rfl, rfl, by rw [HW.out]; exact Step.refl _⟩
  case round =>
    obtain ⟨k, hk, rfl, rfl, hT⟩ := hrel
    by_cases hlt : k < b.seats.length
    · obtain rfl := HP.out (by omega)
      obtain ⟨x, e1, hx⟩ := HC.out k hlt
      have e1 := (HS.out.trans hT).keeps.cell id e1
      obtain ⟨pu, cu, bu, ou, rfl, _, _, hpu, hcu, hbu⟩ := hx.ints
      have hix : (0 : Int) ≤ (k : Int) ∧ (k : Int) < (b.seats.length : Int) := by omega
      have HCU := Lib.hid hcu
      have HPU := Lib.hid hpu
      clear hx hcu hpu hbu
      have hcb := cashTo_bound HL.out.1 HROW.out k hk
      have hl := HL.out.2
      go_wp2
      go_loopw [4, 18] (fun s i wi => ∃ k2 : Nat, k2 ≤ b.seats[k].length ∧ i = .int .i64 k2 ∧ s = .int .i64 (cashTo h b.seats k + rowCash h b.seats[k] k2) ∧ Step W0 wi) (fun _ i _ => b.seats[k].length - (intOf i).toNat)
      case atStart => exact ⟨0, Nat.zero_le _, rfl, by simp [rowCash], hT⟩
      case round =>
        obtain ⟨k2, hk2, rfl, rfl, hT⟩ := hrel
        have hrk := HROW.out k hlt
        have hrb := rowCash_bound HL.out.1 b.seats[k] k2 (by omega)
        have hsz := (bounds_valid HL.out.1).2.2.2.2.2.2.2.1
        have hkk : (k2 : Int) ≤ 100 := by omega
        have HRK := Lib.hid hrk
        clear hrk
        by_cases hlt2 : k2 < b.seats[k].length
        · obtain rfl := HPU.out (by omega)
          have a1 := (HS.out.trans hT).keeps.cell id (HCU.out k2 hlt2)
          have hx4 : (0 : Int) ≤ (k2 : Int) ∧ (k2 : Int) < (b.seats[k].length : Int) := by omega
          have hg : b.seats[k].getD k2 0 = b.seats[k][k2] := by simp [List.getD_eq_getElem?_getD, hlt2]
          have HG := Lib.hid hg
          clear hg
          by_cases hpos : 0 < b.seats[k][k2]
          · obtain ⟨kc, hkc, hkl, hpr, hp0, hp1⟩ := class_valid HL.out.1 (n := k2) (by omega) (by have := HRK.out; omega)
            obtain ⟨e0, e1, e2, e3, e4⟩ := cells5 (HB.out.step hT)
            have hcall := Lib.hid (price_any S h _ k2 _ ⟨_, rfl, Rep.keep (.of_step hT) HR.out⟩ (okSec_valid HL.out.1) (by omega) kc hkc hkl)
            have hstep : rowCash h b.seats[k] (k2 + 1) = rowCash h b.seats[k] k2 + h.prices[kc] := by
              rw [rowCash_succ, HG.out, if_pos hpos, hpr]
            have HST := Lib.hid hstep
            have HT := Lib.hid hT
            clear hkc hpr hstep hT
            go_wp2_with fail
            refine hcall.out.mono ?_
            rintro e w' ⟨rfl, hS1⟩
            go_wp2
            go_roundw
            case rel => exact ⟨k2 + 1, by omega, by go_num, by rw [HST.out, Int.add_assoc], HT.out.trans hS1⟩
            case measure => simp [intOf]; omega
          · have hstep : rowCash h b.seats[k] (k2 + 1) = rowCash h b.seats[k] k2 := by
              rw [rowCash_succ, HG.out, if_neg hpos, Int.add_zero]
            have HST := Lib.hid hstep
            clear hstep
            go_wp2
            go_roundw
            case rel => exact ⟨k2 + 1, by omega, by go_num, by rw [HST.out], hT⟩
            case measure => simp [intOf]; omega
        · have hge : b.seats.getD k [] = b.seats[k] := by simp [List.getD_eq_getElem?_getD, hlt]
          have hkk2 : k2 = b.seats[k].length := by omega
          have hstep : cashTo h b.seats (k + 1) = cashTo h b.seats k + rowCash h b.seats[k] k2 := by
            rw [hkk2]
            show cashTo h b.seats k + rowCash h (b.seats.getD k []) (b.seats.getD k []).length = _
            rw [hge]
          have HST := Lib.hid hstep
          clear hstep hge hkk2
          go_wp2
          go_roundw
          case rel => exact ⟨k + 1, by omega, by go_num, by rw [HST.out], hT⟩
          case measure => simp [intOf]; omega
    · have hkk : k = b.seats.length := by omega
      have hfin : cashTo h b.seats k = cashL h b.seats := by rw [hkk]; rfl
      have HF := Lib.hid hfin
      clear hfin hkk
      go_wp2
      go_ret
      rw [HF.out]
      exact ⟨rfl, HS.out.trans hT⟩
end Go.Proofs.Ytbgfmikbhiblgaa
/- A map from keys (two numbers) to bool that a call makes: looked up and written. -/
namespace Go.Proofs.Ytbgfmikbhiblgaa
set_option linter.unusedSimpArgs false
set_option linter.unusedVariables false
open Go.RowKit Go.BT

def kv (x : Key) : Value := .agg #[.int .i64 x.frm, .int .i64 x.number]
theorem equal_key (a b : Key) (w : World) : (Op.equal 124 (kv a) (kv b)).run Try.prog w = .ok (decide (a = b)) w := by
  have h : (a.frm == b.frm && a.number == b.number) = decide (a = b) := by
    cases a; cases b; simp [Bool.beq_eq_decide_eq]
  rw [← h]
  unfold Op.equal Op.maxDepth kv
  rw [run_equalIn_agg (w := w) 9999 124 _ _ (by kernel_rfl) (by kernel_rfl)]
  have hf : (Try.prog.fieldsOf 124).toList.map (fun f => (f.name, f.type, f.offset)) = [("From", 3, 0), ("Number", 3, 1)] := by kernel_rfl
  obtain ⟨f, g, hfg⟩ : ∃ f g, (Try.prog.fieldsOf 124).toList = [f, g] := by
    cases hl : (Try.prog.fieldsOf 124).toList with
    | nil => simp [hl] at hf
    | cons f l =>
      cases l with
      | nil => simp [hl] at hf
      | cons g l =>
        cases l with
        | nil => exact ⟨f, g, rfl⟩
        | cons _ _ => simp [hl] at hf
  rw [hfg] at hf ⊢
  simp only [List.map_cons, List.map_nil, List.cons.injEq, Prod.mk.injEq, and_true] at hf
  obtain ⟨⟨n1, t1, o1⟩, n2, t2, o2⟩ := hf
  have hi : Try.prog.underlying 3 = some (.int .i64) := by kernel_rfl
  simp [Op.eqFields, n1, n2, t1, t2, o1, o2, hi, part, run_underlying hi]
  have hq : ∀ (a b : Int) (w : World), (Op.equalIn 9999 3 (.int .i64 a) (.int .i64 b)).run Try.prog w = .ok (a == b) w := fun a b w => run_equalIn_int (w := w) 9998 _ _ .i64 _ _ hi
  simp only [hq, Result.andThen_ok]
  cases a.frm == b.frm <;> cases a.number == b.number <;> simp [Result.andThen]

/-- The map at r holds the keys of l, each with true. -/
def KM (w : World) (r : Nat) (l : List Key) : Prop := ∃ es clock, w.heap[r]? = some (.map es clock) ∧ (∀ e ∈ es.toList, ∃ x ∈ l, e.key = kv x ∧ e.val = .bool true) ∧ (∀ x ∈ l, ∃ e ∈ es.toList, e.key = kv x)

theorem KM.step {w w' : World} {r : Nat} {l : List Key} (h : KM w r l) (hs : Step w w') : KM w' r l := by
  obtain ⟨es, cl, h1, h2⟩ := h
  exact ⟨es, cl, (hs.block r (Array.getElem?_eq_some_iff.1 h1).1 id).trans h1, h2⟩
theorem kv_inj {a b : Key} (h : kv a = kv b) : a = b := by
  cases a; cases b; simp [kv] at h; simp [h]
theorem find_key (x : Key) (w : World) : ∀ (es : List MapEntry) (l : List Key) (i : Nat), (∀ e ∈ es, ∃ y ∈ l, e.key = kv y ∧ e.val = .bool true) →
    ((∃ e ∈ es, e.key = kv x) → ∃ j, (Instr.findAsking 124 (kv x) es i).run Try.prog w = .ok (some (i + j, .bool true)) w ∧ ∃ h : j < es.length, es[j].key = kv x) ∧
    ((¬ ∃ e ∈ es, e.key = kv x) → (Instr.findAsking 124 (kv x) es i).run Try.prog w = .ok none w)
  | [], l, i, _ => ⟨fun h => by simp at h, fun _ => by simp [Instr.findAsking]⟩
  | e :: es, l, i, hl => by
    obtain ⟨y, hy, hk, hv⟩ := hl e List.mem_cons_self
    obtain ⟨r1, r2⟩ := find_key x w es l (i + 1) fun e he => hl e (List.mem_cons_of_mem _ he)
    by_cases hxy : x = y
    · refine ⟨fun _ => ⟨0, by simp [Instr.findAsking, hk, hv, equal_key, hxy], by simp, by simp [hk, hxy]⟩, fun hn => absurd ⟨e, List.mem_cons_self, by rw [hk, hxy]⟩ hn⟩
    · have hne : ¬ e.key = kv x := fun h => hxy (kv_inj (by rw [← h, hk]))
      have hstep : (Instr.findAsking 124 (kv x) (e :: es) i).run Try.prog w = (Instr.findAsking 124 (kv x) es (i + 1)).run Try.prog w := by
        simp [Instr.findAsking, hk, equal_key, hxy]
      rw [hstep]
      refine ⟨fun h => ?_, fun h => r2 fun h' => h ?_⟩
      · obtain ⟨j, h1, h2, h3⟩ := r1 (by
          obtain ⟨e', he', hke⟩ := h
          rcases List.mem_cons.1 he' with rfl | he'
          · exact absurd hke hne
          · exact ⟨e', he', hke⟩)
        exact ⟨j + 1, by rw [h1]; simp; omega, by simp; omega, by simpa using h3⟩
      · obtain ⟨e', he', hke⟩ := h'
        exact ⟨e', List.mem_cons_of_mem _ he', hke⟩

theorem check_int (d : Nat) (n : Int) (em : Bool) (w : World) : (Instr.checkKey em (d + 1) 3 (.int .i64 n)).run Try.prog w = .ok () w := by
  have hi : Try.prog.underlying 3 = some (.int .i64) := by kernel_rfl
  simp [Instr.checkKey, run_underlying hi]
theorem check_key' (d : Nat) (x : Key) (em : Bool) (w : World) : (Instr.checkKey em (d + 1 + 1) 124 (kv x)).run Try.prog w = .ok () w := by
  have hi : Try.prog.underlying 3 = some (.int .i64) := by kernel_rfl
  have hu := Try.underlying124
  unfold kv
  rw [Instr.checkKey]
  simp [run_underlying hu, part, hi, check_int]
theorem check_key (x : Key) (em : Bool) (w : World) : (Instr.checkKey em 10000 124 (kv x)).run Try.prog w = .ok () w := check_key' 9998 x em w

theorem mapUnder : Try.prog.underlying 176 = some (.map 124 4) := by kernel_rfl
theorem zeroBool (w : World) : (zeroValue 4).run Try.prog w = .ok (.bool false) w := by kernel_rfl
theorem run_lookup_key {w : World} {r : Nat} {l : List Key} (x : Key) (h : KM w r l) : (Instr.lookup 176 (.map (some r)) (kv x) false).run Try.prog w = .ok (.bool (decide (x ∈ l))) w := by
  obtain ⟨es, clock, hh, h1, h2⟩ := h
  have hfk : (Instr.findKey 124 (kv x) es.toList).run Try.prog w = (Instr.findAsking 124 (kv x) es.toList).run Try.prog w := run_findKey_eq w (by rw [Try.underlying124]) _ _
  obtain ⟨r1, r2⟩ := find_key x w es.toList l 0 h1
  have hck := fun em => check_key x em w
  have hgo : (getObj r).run Try.prog w = .ok (.map es clock) w := by simp [getObj, Sem.run, hh]
  by_cases hx : x ∈ l
  · obtain ⟨j, hj, _⟩ := r1 (h2 x hx)
    simp [Instr.lookup, run_underlying mapUnder, hgo, hck, hfk, hj, hx]
  · have hn : ¬ ∃ e ∈ es.toList, e.key = kv x := fun ⟨e, he, hk⟩ => by
      obtain ⟨y, hy, hky, _⟩ := h1 e he
      exact hx (by rw [kv_inj (hk.symm.trans hky)]; exact hy)
    simp [Instr.lookup, run_underlying mapUnder, hgo, hck, hfk, r2 hn, hx, zeroBool]

def putM (w : World) (r : Nat) (o : Obj) : World := { w with heap := w.heap.setIfInBounds r o }
theorem putM_at {w : World} {r : Nat} {o : Obj} (h : r < w.heap.size) : (putM w r o).heap[r]? = some o := by simp [putM, h]
theorem putM_wrote (w : World) (r : Nat) (o : Obj) : Wrote r w (putM w r o) := ⟨rfl, rfl, rfl, by simp [putM], fun k hk => by simp [putM, Array.getElem?_setIfInBounds_ne (Ne.symm hk)]⟩
theorem sameBits_kv (x : Key) (d : Nat) : Instr.sameBits (d + 1) (kv x) (kv x) = true := by
  simp [kv, Instr.sameBits]
theorem run_mapUpdate_key {w : World} {r : Nat} {l : List Key} (x : Key) (h : KM w r l) : ∃ w', (Instr.mapUpdate 176 (.map (some r)) (kv x) (.bool true)).run Try.prog w = .ok () w' ∧ KM w' r (l ++ [x]) ∧ Wrote r w w' := by
  obtain ⟨es, clock, hh, h1, h2⟩ := h
  have hfk : (Instr.findKey 124 (kv x) es.toList).run Try.prog w = (Instr.findAsking 124 (kv x) es.toList).run Try.prog w := run_findKey_eq w (by rw [Try.underlying124]) _ _
  obtain ⟨r1, r2⟩ := find_key x w es.toList l 0 h1
  have hck := fun em => check_key x em w
  have hgo : (getObj r).run Try.prog w = .ok (.map es clock) w := by simp [getObj, Sem.run, hh]
  have hso : ∀ o, (setObj r o).run Try.prog w = .ok () (putM w r o) := fun o => by simp [setObj, Sem.run, hh, putM]
  by_cases hx : ∃ e ∈ es.toList, e.key = kv x
  · obtain ⟨j, hj, hjl, hjk⟩ := r1 hx
    have hjs : j < es.size := by simpa using hjl
    have hjk' : es[j]?.map (·.key) = some (kv x) := by
      rw [Array.getElem?_eq_getElem hjs, Option.map_some]
      congr 1
    have hst : (Instr.keyThatStays (kv x) (kv x)).run Try.prog w = .ok (kv x) w := by
      simp only [Instr.keyThatStays, sameBits_kv x 9999, if_true, Sem.run_pure]
    have hxl : x ∈ l := by
      obtain ⟨e, he, hk⟩ := hx
      obtain ⟨y, hy, hky, _⟩ := h1 e he
      rw [kv_inj (hk.symm.trans hky)]; exact hy
    have hmod : ∀ e ∈ (es.modify j fun e => { e with key := kv x, val := .bool true }).toList, (e.key = kv x ∧ e.val = .bool true) ∨ e ∈ es.toList := by
      intro e he
      rw [Array.toList_modify] at he
      obtain ⟨i, hi, rfl⟩ := List.getElem_of_mem he
      rw [List.getElem_modify]
      split
      · exact .inl ⟨rfl, rfl⟩
      · exact .inr (List.getElem_mem _)
    refine ⟨putM w r (.map (es.modify j fun e => { e with key := kv x, val := .bool true }) clock), ?_, ⟨_, _, putM_at (Array.getElem?_eq_some_iff.1 hh).1, ?_, ?_⟩, putM_wrote _ _ _⟩
    · simp [Instr.mapUpdate, run_underlying mapUnder, hgo, hck, hfk, hj, hjk', hst, hso]
    · intro e he
      rcases hmod e he with ⟨h3, h4⟩ | h3
      · exact ⟨x, by simp, h3, h4⟩
      · obtain ⟨y, hy, h5, h6⟩ := h1 e h3
        exact ⟨y, by simp [hy], h5, h6⟩
    · intro y hy
      have hyl : y ∈ l := by
        rcases List.mem_append.1 hy with hy | hy
        · exact hy
        · simp at hy; subst hy; exact hxl
      obtain ⟨e, he, hk⟩ := h2 y hyl
      obtain ⟨i, hi, rfl⟩ := List.getElem_of_mem he
      refine ⟨(es.modify j fun e => { e with key := kv x, val := .bool true }).toList[i]'(by simpa using hi), List.getElem_mem _, ?_⟩
      simp only [Array.toList_modify, List.getElem_modify]
      split
      · rename_i hij
        subst hij
        show kv x = kv y
        rw [← hk]; exact hjk.symm
      · exact hk
  · refine ⟨putM w r (.map (es.push { key := kv x, val := .bool true, born := clock }) (clock + 1)), ?_, ⟨_, _, putM_at (Array.getElem?_eq_some_iff.1 hh).1, ?_, ?_⟩, putM_wrote _ _ _⟩
    · simp [Instr.mapUpdate, run_underlying mapUnder, hgo, hck, hfk, r2 hx, hso]
    · intro e he
      simp only [Array.toList_push, List.mem_append, List.mem_singleton] at he
      rcases he with he | rfl
      · obtain ⟨y, hy, h5, h6⟩ := h1 e he
        exact ⟨y, by simp [hy], h5, h6⟩
      · exact ⟨x, by simp, rfl, rfl⟩
    · intro y hy
      rcases List.mem_append.1 hy with hy | hy
      · obtain ⟨e, he, hk⟩ := h2 y hy
        exact ⟨e, by simp [he], hk⟩
      · simp at hy; subst hy
        exact ⟨{ key := kv y, val := .bool true, born := clock }, by simp, rfl⟩
end Go.Proofs.Ytbgfmikbhiblgaa
/- Walks: whether a book is valid: the parts. -/
namespace Go.Proofs.Ytbgfmikbhiblgaa
set_option linter.unusedSimpArgs false
set_option linter.unusedVariables false
open Go.RowKit Go.BT

def rowB (z : Int) (l : List Int) : Bool := decide ((l.length : Int) = z) && l.all fun x => withinB x (-1) 1000000
set_option maxHeartbeats 1000000 in
theorem book1_any (S : Nat → Prop) (h : House) (l : List Int) (u : Value) (g : Nat) (c0 c1 c2 c3 c4 : Value) (w : World) (hb : Bx w g [c0, c1, c2, c3, c4] 43) (hr : Rep.rep S w [c0, c1, c2, c3, c4] h) (hu : SL S w u l) (hs : okSec h.sectors) :
    Calls Try.prog 118 #[u, .pointer (some ⟨g, 0, none⟩)] w fun e w' => e = .returned (.bool (rowB (sizeL h.sectors) l)) ∧ Step w w' := by
  obtain ⟨p1, k1, rfl⟩ := hu.form
  have hcall := Lib.hid (size_any S h (.agg #[c0, c1, c2, c3, c4]) w ⟨_, rfl, hr⟩ hs)
  have HU := Lib.hid hu
  obtain ⟨e0, e1, e2, e3, e4⟩ := cells5 hb
  clear hu hr hb
  by_cases h1 : (l.length : Int) = sizeL h.sectors
  · have hd : ((l.length : Int) == sizeL h.sectors) = true := by simp [h1]
    have H1 := Lib.hid h1
    clear h1
    go_enter Try.func118, Try.ntmps118
    go_wp2_with fail
    refine hcall.out.mono ?_
    rintro e w' ⟨rfl, hS⟩
    have hcall2 := Lib.hid (every_any S l (.slice p1 l.length k1) (-1) 1000000 w' (HU.out.keep (.of_step hS)))
    go_wp2_with fail
    refine hcall2.out.mono ?_
    rintro e w3 ⟨rfl, hS3⟩
    go_wp2
    go_ret
    refine ⟨?_, hS.trans hS3⟩
    simp only [rowB, H1.out, decide_true, Bool.true_and]
    rfl
  · have hd : ((l.length : Int) == sizeL h.sectors) = false := by simp [h1]
    have H1 := Lib.hid h1
    clear h1
    go_enter Try.func118, Try.ntmps118
    go_wp2_with fail
    refine hcall.out.mono ?_
    rintro e w' ⟨rfl, hS⟩
    go_wp2
    go_ret
    refine ⟨?_, hS⟩
    simp only [rowB, H1.out, decide_false, Bool.false_and]
    rfl
theorem rows1_any (h : House) (rows : List (List Int)) (v c0 c1 c2 c3 c4 : Value) (g : Nat) (S : Nat → Prop) (w : World) (hb : Bx w g [c0, c1, c2, c3, c4] 43) (hr : Rep.rep S w [c0, c1, c2, c3, c4] h) (hv : SL S w v rows) (hs : okSec h.sectors) :
    Calls Try.prog 93 #[v, .func (.func 118) #[] #[.pointer (some ⟨g, 0, none⟩)]] w fun e w' => e = .returned (.bool (rows.all (rowB (sizeL h.sectors)))) ∧ Step w w' := by
  refine (all_row S rows v w 118 #[.pointer (some ⟨g, 0, none⟩)] (Go.Proofs.enters_of Try.func118 (by kernel_rfl) rfl) (rowB (sizeL h.sectors)) (fun _ W => Step w W) (fun _ => False) (fun _ h => h.elim)
    (fun _ W hW => hv.keep (.of_step hW)) (fun _ _ _ h1 h2 => h1.trans h2) (Step.refl _) (fun i hi W u hW _ hu => ?_)).mono ?_
  · refine (book1_any (fun _ => False) h rows[i] u g _ _ _ _ _ W (hb.step hW) (Rep.weak (fun _ _ h => h.elim) (Rep.keep (.of_step hW) hr)) hu hs).mono ?_
    rintro e w' ⟨rfl, hS⟩
    exact ⟨rfl, hW.trans hS, hS⟩
  · rintro e w' ⟨rfl, k, _, _, hS⟩
    exact ⟨rfl, hS⟩
end Go.Proofs.Ytbgfmikbhiblgaa
/- Walks: whether a book is valid: a message's key is known once. -/
namespace Go.Proofs.Ytbgfmikbhiblgaa
set_option linter.unusedSimpArgs false
set_option linter.unusedVariables false
open Go.RowKit Go.BT

def keyB (h : House) (ag : Int) (x : Key) : Bool := withinB x.frm 0 (agN h - 1) && decide (x.frm ≠ ag) && withinB x.number 1 1000

set_option maxHeartbeats 1000000 in
theorem book2_any (S : Nat → Prop) (h : House) (x : Key) (seen : List Key) (m r g gb : Nat) (ag : Int) (c0 c1 c2 c3 c4 : Value) (w : World) (hm : w.cell? ⟨m, 0, none⟩ = some (.map (some r))) (hk : KM w r seen) (hb : Bx w g [c0, c1, c2, c3, c4] 43) (hr : Rep.rep S w [c0, c1, c2, c3, c4] h) (hgb : w.cell? ⟨gb, 0, none⟩ = some (.int .i64 ag))
    (hSr : S r) (hf : 0 < h.frm.length) (hz : agN h ≤ 6) :
    Calls Try.prog 121 #[kv x, .pointer (some ⟨m, 0, none⟩), .pointer (some ⟨g, 0, none⟩), .pointer (some ⟨gb, 0, none⟩)] w fun e w' => e = .returned (.bool (!decide (x ∈ seen) && keyB h ag x)) ∧ KM w' r (seen ++ [x]) ∧ StepX (fun j => j = r) w w' := by
  unfold kv
  have hka : KM (w.alloc (.cells #[.int .i64 x.frm, .int .i64 x.number] 124)) r seen := by
    obtain ⟨es, cl, h1, h2⟩ := hk
    exact ⟨es, cl, ((Step.alloc w _).block r (Array.getElem?_eq_some_iff.1 h1).1 id).trans h1, h2⟩
  have hlk := run_lookup_key x hka
  obtain ⟨w2, hmu, hk2, hw2⟩ := run_mapUpdate_key x hka
  unfold kv at hlk hmu
  have hrl : r < w.heap.size := by
    obtain ⟨es, cl, h1, _⟩ := hk; exact (Array.getElem?_eq_some_iff.1 h1).1
  have hgr : g ≠ r := fun e => by
    obtain ⟨es, cl, h1, _⟩ := hk; subst e; unfold Bx at hb; rw [hb] at h1; cases h1
  have hmr : m ≠ r := fun e => by
    obtain ⟨es, cl, h1, _⟩ := hk; subst e; simp [World.cell?, h1] at hm
  have hbr : gb ≠ r := fun e => by
    obtain ⟨es, cl, h1, _⟩ := hk; subst e; simp [World.cell?, h1] at hgb
  have a1 := (Keeps.alloc (S := fun _ => False) w (.cells #[.int .i64 x.frm, .int .i64 x.number] 124)).cell id hm
  have HB := Lib.hid hb
  have HR := Lib.hid hr
  have HK := Lib.hid (And.intro hk2 hw2)
  have HD := Lib.hid (And.intro hgr (And.intro hmr hbr))
  have HA := Lib.hid hgb
  clear hb hr hk hka hk2 hw2 hgr hmr hbr hm hgb
  have HST : Hid (StepX (fun j => j = r) w w2) := Lib.hid ((StepX.of (Step.alloc w _)).trans ⟨HK.out.2.os, HK.out.2.tape, HK.out.2.output, Nat.le_of_eq HK.out.2.size.symm, fun k _ hk => HK.out.2.block k hk⟩)
  cases hs : decide (x ∈ seen) with
  | true =>
    rw [hs] at hlk
    clear hs
    go_enter Try.func121, Try.ntmps121
    go_wp2_with fail
    refine wp_region_seq (kdOf [5, 7, 19] []) [0, 1, 3, 7, 3, 19, 51, 127, 255, 511, 1023, 2047, 1023, 5119, 16383, 32767, 65535, 131071, 262143, 524287, 1048575, 2097151] [0, 1, 2, 3, 4, 5, 6, 7, 8, 9, 10, 11, 12, 13, 14, 15, 16, 17, 18, 19, 20, 21] [] (by kernel_rfl) (by kernel_rfl) (fun i T z hi hk => by simp [kdOf] at hk <;> (try (split at hk <;> cases hk))) ?_
    intro W0 hW0
    repeat (first | (refine run_off rfl rfl (by rfl) ?_; (try simp only [Act.put, List.setIfInBounds_toArray, List.set_cons_zero, List.set_cons_succ])) | (refine run_chain_off rfl rfl (by rfl) (K0_mono _) ?_; (try simp only [Act.put, List.setIfInBounds_toArray, List.set_cons_zero, List.set_cons_succ])) | ((refine run_want rfl rfl (by rfl) ⟨?_, fun W hW => ?_, ?_⟩; rotate_left; (· (obtain ⟨hc'', hf''⟩ := hW.cells; go_simp; (try with_reducible rfl)))); (try simp only [Act.put, List.setIfInBounds_toArray, List.set_cons_zero, List.set_cons_succ])))
    refine run_end (L := []) rfl (fun W6 hW6 => ?_)
    have hS := hW0.trans hW6
    have HS := Lib.hid hS
    clear hW0 hW6 hS
    go_wp2
    go_ret
    refine ⟨rfl, ?_, HST.out.trans (.of HS.out)⟩
    exact HK.out.1.step HS.out
  | false =>
    rw [hs] at hlk
    clear hs
    have hb2 := HB.out.keep (S := fun j => j = r) HST.out.keeps HD.out.1
    have hr2 := Rep.keep (HST.out.keeps.mono (fun j _ hj => hj ▸ hSr)) HR.out
    have hg2 := HST.out.keeps.cell (S := fun j => j = r) (a := ⟨gb, 0, none⟩) HD.out.2.2 HA.out
    have hx2 : w2.cell? ⟨w.heap.size, 0, none⟩ = some (.int .i64 x.frm) ∧ w2.cell? ⟨w.heap.size, 1, none⟩ = some (.int .i64 x.number) := by
      have hbx := (Bx.new w [.int .i64 x.frm, .int .i64 x.number] 124).keep HK.out.2.keeps (by omega)
      exact ⟨hbx.cell 0, hbx.cell 1⟩
    have HB2 := Lib.hid (And.intro hb2 hr2)
    have HX2 := Lib.hid (And.intro hx2 hg2)
    clear hb2 hr2 hx2 hg2
    go_enter Try.func121, Try.ntmps121
    go_wp2_with fail
    refine wp_region_seq (kdOf [5, 7, 19] []) [0, 1, 3, 7, 3, 19, 51, 127, 255, 511, 1023, 2047, 1023, 5119, 16383, 32767, 65535, 131071, 262143, 524287, 1048575, 2097151] [0, 1, 2, 3, 4, 5, 6, 7, 8, 9, 10, 11, 12, 13, 14, 15, 16, 17, 18, 19, 20, 21] [] (by kernel_rfl) (by kernel_rfl) (fun i T z hi hk => by simp [kdOf] at hk <;> (try (split at hk <;> cases hk))) ?_
    intro W0 hW0
    obtain ⟨e0, e1, e2, e3, e4⟩ := cells5 (HB2.out.1.step hW0)
    have y0 := hW0.keeps.cell id HX2.out.1.1
    have y1 := hW0.keeps.cell id HX2.out.1.2
    have y2 := hW0.keeps.cell id HX2.out.2
    repeat (first | (refine run_off rfl rfl (by rfl) ?_; (try simp only [Act.put, List.setIfInBounds_toArray, List.set_cons_zero, List.set_cons_succ])) | (refine run_chain_off rfl rfl (by rfl) (K0_mono _) ?_; (try simp only [Act.put, List.setIfInBounds_toArray, List.set_cons_zero, List.set_cons_succ])) | ((refine run_want rfl rfl (by rfl) ⟨?_, fun W hW => ?_, ?_⟩; rotate_left; (· (have d0 := hW.keeps.cell id e0; have d1 := hW.keeps.cell id e1; have d2 := hW.keeps.cell id e2; have d3 := hW.keeps.cell id e3; have d4 := hW.keeps.cell id e4; have d5 := hW.keeps.cell id y0; have d6 := hW.keeps.cell id y1; have d7 := hW.keeps.cell id y2; go_simp; (try with_reducible rfl)))); (try simp only [Act.put, List.setIfInBounds_toArray, List.set_cons_zero, List.set_cons_succ])))
    refine run_chain rfl rfl (by rfl) (fun W1 hW1 K' hK => ?_)
    go_simp
    have hcall := agencies_any S h _ W1 ⟨_, rfl, Rep.keep (.of_step (hW0.trans hW1)) HB2.out.2⟩ hf
    rw [agN_eq] at hcall
    refine hcall.mono ?_
    rintro e w1 ⟨rfl, hS1⟩
    refine hK _ _ hS1 ?_
    (try simp only [Act.put, List.setIfInBounds_toArray, List.set_cons_zero, List.set_cons_succ])
    have hwr : IntKind.i64.wrap ((agN h : Int) - 1) = (agN h : Int) - 1 := by rw [IntKind.wrap_i64]; omega
    repeat (first | (refine run_off rfl rfl (by rfl) ?_; (try simp only [Act.put, List.setIfInBounds_toArray, List.set_cons_zero, List.set_cons_succ])) | (refine run_chain_off rfl rfl (by rfl) (K0_mono _) ?_; (try simp only [Act.put, List.setIfInBounds_toArray, List.set_cons_zero, List.set_cons_succ])) | ((refine run_want rfl rfl (by rfl) ⟨?_, fun W hW => ?_, ?_⟩; rotate_left; (· (obtain ⟨hc'', hf''⟩ := hW.cells; go_simp; (try with_reducible rfl)))); (try simp only [Act.put, List.setIfInBounds_toArray, List.set_cons_zero, List.set_cons_succ])))
    have hS01 := (hW0.trans hW1).trans hS1
    have HS01 := Lib.hid hS01
    clear hW0 hW1 hS1 hS01 hcall e0 e1 e2 e3 e4 y0 y1 y2
    refine run_chain rfl rfl (by rfl) (fun W2 hW2 K' hK => ?_)
    go_simp
    refine (ticket.within_any _ _ _ _).mono ?_
    rintro e w' ⟨rfl, rfl⟩
    have hS02 := HS01.out.trans hW2
    have HS02 := Lib.hid hS02
    clear hW2 HS01
    cases q1 : withinB x.frm 0 (agN h - 1) with
    | false =>
      refine hK _ _ (Step.refl _) ?_
      (try simp only [Act.put, List.setIfInBounds_toArray, List.set_cons_zero, List.set_cons_succ])
      repeat (first | (refine run_off rfl rfl (by rfl) ?_; (try simp only [Act.put, List.setIfInBounds_toArray, List.set_cons_zero, List.set_cons_succ])) | (refine run_chain_off rfl rfl (by rfl) (K0_mono _) ?_; (try simp only [Act.put, List.setIfInBounds_toArray, List.set_cons_zero, List.set_cons_succ])) | ((refine run_want rfl rfl (by rfl) ⟨?_, fun W hW => ?_, ?_⟩; rotate_left; (· (obtain ⟨hc'', hf''⟩ := hW.cells; go_simp; (try with_reducible rfl)))); (try simp only [Act.put, List.setIfInBounds_toArray, List.set_cons_zero, List.set_cons_succ])))
      refine run_end (L := []) rfl (fun W6 hW6 => ?_)
      have HS := Lib.hid (HS02.out.trans hW6)
      clear hW6 hS02
      have hres : keyB h ag x = false := by simp [keyB, q1]
      go_wp2
      go_ret
      exact ⟨by simp [hres], HK.out.1.step HS.out, HST.out.trans (.of HS.out)⟩
    | true =>
      have y0 := hS02.keeps.cell id HX2.out.1.1
      have y1 := hS02.keeps.cell id HX2.out.1.2
      have y2 := hS02.keeps.cell id HX2.out.2
      clear hS02
      by_cases q2 : x.frm = ag
      · have hd : (x.frm != ag) = false := by simp [q2]
        have Q2 := Lib.hid q2
        clear q2
        refine hK _ _ (Step.refl _) ?_
        (try simp only [Act.put, List.setIfInBounds_toArray, List.set_cons_zero, List.set_cons_succ])
        repeat (first | (refine run_off rfl rfl (by rfl) ?_; (try simp only [Act.put, List.setIfInBounds_toArray, List.set_cons_zero, List.set_cons_succ])) | (refine run_chain_off rfl rfl (by rfl) (K0_mono _) ?_; (try simp only [Act.put, List.setIfInBounds_toArray, List.set_cons_zero, List.set_cons_succ])) | ((refine run_want rfl rfl (by rfl) ⟨?_, fun W hW => ?_, ?_⟩; rotate_left; (· (have d0 := hW.keeps.cell id y0; have d1 := hW.keeps.cell id y2; go_simp; (try with_reducible rfl)))); (try simp only [Act.put, List.setIfInBounds_toArray, List.set_cons_zero, List.set_cons_succ])))
        refine run_end (L := []) rfl (fun W6 hW6 => ?_)
        have HS := Lib.hid (HS02.out.trans hW6)
        clear hW6
        have hres : keyB h ag x = false := by simp [keyB, q1, Q2.out]
        go_wp2
        go_ret
        exact ⟨by simp [hres], HK.out.1.step HS.out, HST.out.trans (.of HS.out)⟩
      · have hd : (x.frm != ag) = true := by simp [q2]
        have Q2 := Lib.hid q2
        clear q2
        refine hK _ _ (Step.refl _) ?_
        (try simp only [Act.put, List.setIfInBounds_toArray, List.set_cons_zero, List.set_cons_succ])
        repeat (first | (refine run_off rfl rfl (by rfl) ?_; (try simp only [Act.put, List.setIfInBounds_toArray, List.set_cons_zero, List.set_cons_succ])) | (refine run_chain_off rfl rfl (by rfl) (K0_mono _) ?_; (try simp only [Act.put, List.setIfInBounds_toArray, List.set_cons_zero, List.set_cons_succ])) | ((refine run_want rfl rfl (by rfl) ⟨?_, fun W hW => ?_, ?_⟩; rotate_left; (· (have d0 := hW.keeps.cell id y0; have d1 := hW.keeps.cell id y2; have d2 := hW.keeps.cell id y1; go_simp; (try with_reducible rfl)))); (try simp only [Act.put, List.setIfInBounds_toArray, List.set_cons_zero, List.set_cons_succ])))
        refine run_chain rfl rfl (by rfl) (fun W3 hW3 K' hK => ?_)
        go_simp
        refine (ticket.within_any _ _ _ _).mono ?_
        rintro e w' ⟨rfl, rfl⟩
        refine hK _ _ (Step.refl _) ?_
        (try simp only [Act.put, List.setIfInBounds_toArray, List.set_cons_zero, List.set_cons_succ])
        repeat (first | (refine run_off rfl rfl (by rfl) ?_; (try simp only [Act.put, List.setIfInBounds_toArray, List.set_cons_zero, List.set_cons_succ])) | (refine run_chain_off rfl rfl (by rfl) (K0_mono _) ?_; (try simp only [Act.put, List.setIfInBounds_toArray, List.set_cons_zero, List.set_cons_succ])) | ((refine run_want rfl rfl (by rfl) ⟨?_, fun W hW => ?_, ?_⟩; rotate_left; (· (obtain ⟨hc'', hf''⟩ := hW.cells; go_simp; (try with_reducible rfl)))); (try simp only [Act.put, List.setIfInBounds_toArray, List.set_cons_zero, List.set_cons_succ])))
        refine run_end (L := []) rfl (fun W6 hW6 => ?_)
        have HS := Lib.hid ((HS02.out.trans hW3).trans hW6)
        clear hW6 hW3
        have hres : keyB h ag x = withinB x.number 1 1000 := by simp [keyB, q1, Q2.out]
        go_wp2
        go_ret
        exact ⟨by simp [hres], HK.out.1.step HS.out, HST.out.trans (.of HS.out)⟩
end Go.Proofs.Ytbgfmikbhiblgaa
/- Walks: whether a book is valid. -/
namespace Go.Proofs.Ytbgfmikbhiblgaa
set_option linter.unusedSimpArgs false
set_option linter.unusedVariables false
open Go.RowKit Go.BT

def bookA (h : House) (b : Book) : Bool := withinB b.agency 0 (agN h - 1) && decide (b.off.length = h.dates.length) && decide (b.seats.length = h.dates.length) && withinB b.sent 0 1000 && decide (b.took.length ≤ 1000)
def toKey (x : IKey) : Key := ⟨x.frm, x.number⟩
def ikeyB (h : House) (b : Book) (x : IKey) : Bool := !decide (toKey x ∈ b.took.take x.idx) && keyB h b.agency (toKey x)
def tookB (h : House) (b : Book) : Bool := (idxKeys b.took).all (ikeyB h b)
def bookB (h : House) (b : Book) : Bool := bookA h b && b.seats.all (rowB (sizeL h.sectors)) && decide (b.cash = cashL h b.seats) && tookB h b

theorem within_st (n lo hi : Int) (w : World) : Calls Try.prog 60 #[.int .i64 n, .int .i64 lo, .int .i64 hi] w fun e w' => e = .returned (.bool (withinB n lo hi)) ∧ Step w w' :=
  (ticket.within_any n lo hi w).mono fun e w' ⟨h1, h2⟩ => ⟨h1, h2 ▸ Step.refl _⟩

theorem tooks_any (S : Nat → Prop) (h : House) (b : Book) (v c0 c1 c2 c3 c4 : Value) (g gb m r : Nat) (W : World) (hb : Bx W g [c0, c1, c2, c3, c4] 43) (hr : Rep.rep S W [c0, c1, c2, c3, c4] h) (hv : SL S W v b.took)
    (hgb : W.cell? ⟨gb, 0, none⟩ = some (.int .i64 b.agency)) (hm : W.cell? ⟨m, 0, none⟩ = some (.map (some r))) (hk : KM W r []) (hSr : S r) (hf : 0 < h.frm.length) (hz : agN h ≤ 6) :
    Calls Try.prog 120 #[v, .func (.func 121) #[] #[.pointer (some ⟨m, 0, none⟩), .pointer (some ⟨g, 0, none⟩), .pointer (some ⟨gb, 0, none⟩)]] W fun e W' => e = .returned (.bool (tookB h b)) ∧ StepX (fun j => j = r) W W' := by
  have hrl : r < W.heap.size := by
    obtain ⟨es, cl, h1, _⟩ := hk; exact (Array.getElem?_eq_some_iff.1 h1).1
  have hgr : g ≠ r := fun e => by
    obtain ⟨es, cl, h1, _⟩ := hk; subst e; unfold Bx at hb; rw [hb] at h1; cases h1
  have hmr : m ≠ r := fun e => by
    obtain ⟨es, cl, h1, _⟩ := hk; subst e; simp [World.cell?, h1] at hm
  have hbr : gb ≠ r := fun e => by
    obtain ⟨es, cl, h1, _⟩ := hk; subst e; simp [World.cell?, h1] at hgb
  have hX : ∀ j, (fun j => j = r) j → S j := fun j hj => hj ▸ hSr
  refine (all_ikey S (idxKeys b.took) v W 121 #[.pointer (some ⟨m, 0, none⟩), .pointer (some ⟨g, 0, none⟩), .pointer (some ⟨gb, 0, none⟩)] (Go.Proofs.enters_of Try.func121 (by kernel_rfl) rfl) (ikeyB h b)
    (fun k W' => StepX (fun j => j = r) W W' ∧ KM W' r (b.took.take k)) (fun j => j = r) (fun j hj => hj ▸ hrl) (fun _ W' hW' => (hv.keep (hW'.1.keeps.mono fun j _ hj => hX j hj)).idx)
    (fun _ _ _ h1 h2 => ⟨h1.1.trans (.of h2), h1.2.step h2⟩) ⟨StepX.refl _ _, hk⟩ (fun i hi W1 u hW _ hu => ?_)).mono ?_
  · subst hu
    have hi' : i < b.took.length := by rw [idxKeys_len] at hi; exact hi
    have hx : (idxKeys b.took)[i] = ⟨i, b.took[i].frm, b.took[i].number⟩ := by simp [idxKeys]
    have hp : ikeyB h b (idxKeys b.took)[i] = (!decide (b.took[i] ∈ b.took.take i) && keyB h b.agency b.took[i]) := by rw [hx]; rfl
    rw [hp, hx]
    refine (book2_any S h b.took[i] (b.took.take i) m r g gb b.agency _ _ _ _ _ W1 (hW.1.keeps.cell hmr hm) hW.2 (hb.keep hW.1.keeps hgr) (Rep.keep (hW.1.keeps.mono fun j _ hj => hX j hj) hr) (hW.1.keeps.cell hbr hgb) hSr hf hz).mono ?_
    rintro e w' ⟨rfl, hK, hS⟩
    refine ⟨rfl, ⟨hW.1.trans hS, ?_⟩, hS⟩
    rw [List.take_succ_eq_append_getElem hi']; exact hK
  · rintro e w' ⟨rfl, k, _, _, hS, _⟩
    exact ⟨rfl, hS⟩

set_option maxHeartbeats 2000000 in
theorem book_any (S : Nat → Prop) (h : House) (b : Book) (v u : Value) (w : World) (hv : AV S w v h) (hu : AV S w u b) (hok : valid h = true) :
    Calls Try.prog 96 #[v, u] w fun e w' => e = .returned (.bool (bookB h b)) ∧ Step w w' := by
  obtain ⟨cs, rfl, hr⟩ := hv
  have hr0 := hr
  obtain ⟨c0, c1, c2, c3, c4, rfl, h0, h1, h2, h3, h4⟩ := hr
  obtain ⟨p0, k0, rfl⟩ := h0.form
  obtain ⟨p1, k1, rfl⟩ := h1.form
  obtain ⟨p2, k2, rfl⟩ := h2.form
  obtain ⟨p3, k3, rfl⟩ := h3.form
  obtain ⟨p4, k4, rfl⟩ := h4.form
  obtain ⟨cs, rfl, hq⟩ := hu
  have hq0 := hq
  obtain ⟨d1, d2, d4, rfl, s1, s2, s4⟩ := hq
  obtain ⟨q1, m1, rfl⟩ := s1.form
  obtain ⟨q2, m2, rfl⟩ := s2.form
  obtain ⟨q4, m4, rfl⟩ := s4.form
  have hmf : ∀ (fn : Fn) (first cap : Array Value) (w : World), (Instr.makeFunc fn first cap).run Try.prog w = .ok (.func fn first cap) w := fun _ _ _ _ => rfl
  have hbd := bounds_valid hok
  have hwr : IntKind.i64.wrap ((agN h : Int) - 1) = (agN h : Int) - 1 := by rw [IntKind.wrap_i64]; omega
  have HBD := Lib.hid hbd
  obtain ⟨W0, hW0⟩ : ∃ W0, W0 = (w.alloc (.cells #[.slice p0 h.sectors.length k0, .slice p1 h.prices.length k1, .slice p2 h.dates.length k2, .slice p3 h.frm.length k3, .slice p4 h.holds.length k4] 43)).alloc (.cells #[.int .i64 b.agency, .slice q1 b.seats.length m1, .slice q2 b.off.length m2, .int .i64 b.sent, .slice q4 b.took.length m4, .int .i64 b.cash] 36) := ⟨_, rfl⟩
  have hb1 : Bx W0 w.heap.size [.slice p0 h.sectors.length k0, .slice p1 h.prices.length k1, .slice p2 h.dates.length k2, .slice p3 h.frm.length k3, .slice p4 h.holds.length k4] 43 := by subst hW0; exact (Bx.new _ _ _).alloc _
  have hb2 : Bx W0 (w.heap.size + 1) [.int .i64 b.agency, .slice q1 b.seats.length m1, .slice q2 b.off.length m2, .int .i64 b.sent, .slice q4 b.took.length m4, .int .i64 b.cash] 36 := by subst hW0; exact Bx.new' _ _ _ _ (by simp)
  have hS : Step w W0 := by subst hW0; exact (by repeat (first | (with_reducible assumption) | (with_reducible exact Step.refl _) | (with_reducible apply Step.s_alloc) | (with_reducible apply Step.s_drew) | (with_reducible apply Step.s_drewN) | (with_reducible refine Step.trans ?_ (by with_reducible assumption))))
  have HB1 := Lib.hid hb1
  have HB2 := Lib.hid hb2
  have HR := Lib.hid (Rep.keep (.of_step hS) hr0)
  have HQ := Lib.hid (Rep.keep (.of_step hS) hq0)
  have HS := Lib.hid hS
  have HOK := Lib.hid hok
  have HT := Lib.hid (Step.refl W0)
  have HW := Lib.hid hW0
  clear hb1 hb2 hS hok h0 h1 h2 h3 h4 s1 s2 s4 hr0 hq0 hbd hW0
  go_enter Try.func96, Try.ntmps96
  go_upto_region 1 with fail
  rw [← HW.out]
  clear HW
  refine wp_region_seq (kdOf [3, 5, 28] []) [0, 1, 0, 4, 12, 31, 63, 127, 255, 511, 1023, 255, 2303, 6399, 16383, 32767, 65535, 131071, 262143, 524287, 131071, 1179647, 3276799, 8388607, 16777215, 33554431, 67108863, 134217727, 268435455, 536870911, 1073741823, 2147483647, 4294967295, 8589934591, 17179869183, 34359738367, 68719476735] [0, 1, 2, 3, 4, 5, 6, 7, 8, 9, 10, 11, 12, 13, 14, 15, 16, 17, 18, 19, 20, 21, 22, 23, 24, 25, 26, 27, 28, 29, 30, 31, 32, 33, 34, 35, 36] [] (by kernel_rfl) (by kernel_rfl) (fun i T z hi hk => by simp [kdOf] at hk <;> (try (split at hk <;> cases hk))) ?_
  intro Wx hWx
  have HT := Lib.hid hWx
  clear hWx
  (try clear e0 e1 e2 e3 e4 f0 f1 f2 f3 f4 f5 y1 y2)
  obtain ⟨e0, e1, e2, e3, e4⟩ := cells5 (HB1.out.step HT.out)
  obtain ⟨f0, f1, f2, f3, f4, f5⟩ := cells6 (HB2.out.step HT.out)
  have y1 := (HB1.out.step HT.out).lt
  have y2 := (HB2.out.step HT.out).lt
  repeat (first | (refine run_off rfl rfl (by rfl) ?_; (try simp only [Act.put, List.setIfInBounds_toArray, List.set_cons_zero, List.set_cons_succ])) | (refine run_chain_off rfl rfl (by rfl) (K0_mono _) ?_; (try simp only [Act.put, List.setIfInBounds_toArray, List.set_cons_zero, List.set_cons_succ])) | ((refine run_want rfl rfl (by rfl) ⟨?_, fun W hW => ?_, ?_⟩; rotate_left; (· (obtain ⟨hc'', hf''⟩ := hW.cells; go_simp; (try with_reducible rfl)))); (try simp only [Act.put, List.setIfInBounds_toArray, List.set_cons_zero, List.set_cons_succ])))
  have hcall := Lib.hid (fun W (hW : Step W0 W) => agencies_any S h (.agg #[.slice p0 h.sectors.length k0, .slice p1 h.prices.length k1, .slice p2 h.dates.length k2, .slice p3 h.frm.length k3, .slice p4 h.holds.length k4]) W ⟨_, rfl, Rep.keep (.of_step hW) HR.out⟩ (by have := HBD.out; omega))
  refine run_chain rfl rfl (by rfl) (fun Wi hWi K' hK => ?_)
  have HTi := Lib.hid (HT.out.trans hWi)
  have HZW := Lib.hid HTi.out.size
  clear hWi HT
  go_simp
  refine (hcall.out Wi HTi.out).mono ?_
  rintro e wn ⟨rfl, hSn⟩
  have HT := Lib.hid (HTi.out.trans (StepX.of hSn))
  clear HTi
  rw [agN_eq]
  refine hK _ _ (StepX.of hSn) ?_
  clear hSn
  (try simp only [Act.put, List.setIfInBounds_toArray, List.set_cons_zero, List.set_cons_succ])
  clear hcall
  (try clear e0 e1 e2 e3 e4 f0 f1 f2 f3 f4 f5 y1 y2)
  obtain ⟨e0, e1, e2, e3, e4⟩ := cells5 (HB1.out.step HT.out)
  obtain ⟨f0, f1, f2, f3, f4, f5⟩ := cells6 (HB2.out.step HT.out)
  have y1 := (HB1.out.step HT.out).lt
  have y2 := (HB2.out.step HT.out).lt
  repeat (first | (refine run_off rfl rfl (by rfl) ?_; (try simp only [Act.put, List.setIfInBounds_toArray, List.set_cons_zero, List.set_cons_succ])) | (refine run_chain_off rfl rfl (by rfl) (K0_mono _) ?_; (try simp only [Act.put, List.setIfInBounds_toArray, List.set_cons_zero, List.set_cons_succ])) | ((refine run_want rfl rfl (by rfl) ⟨?_, fun W hW => ?_, ?_⟩; rotate_left; (· (obtain ⟨hc'', hf''⟩ := hW.cells; go_simp; (try with_reducible rfl)))); (try simp only [Act.put, List.setIfInBounds_toArray, List.set_cons_zero, List.set_cons_succ])))
  refine run_chain rfl rfl (by rfl) (fun Wi hWi K' hK => ?_)
  have HTi := Lib.hid (HT.out.trans hWi)
  have HZW := Lib.hid HTi.out.size
  clear hWi HT
  go_simp
  refine (within_st _ _ _ _).mono ?_
  rintro e wn ⟨rfl, hSn⟩
  have HT := Lib.hid (HTi.out.trans (StepX.of hSn))
  clear HTi
  cases a1 : withinB b.agency 0 (agN h - 1) with
  | false =>
    have a1 := Lib.hid a1
    have HF := Lib.hid (show bookB h b = false by simp [bookB, bookA, a1.out])
    refine hK _ _ (StepX.of hSn) ?_
    clear hSn
    (try simp only [Act.put, List.setIfInBounds_toArray, List.set_cons_zero, List.set_cons_succ])
    repeat (first | (refine run_off rfl rfl (by rfl) ?_; (try simp only [Act.put, List.setIfInBounds_toArray, List.set_cons_zero, List.set_cons_succ])) | (refine run_chain_off rfl rfl (by rfl) (K0_mono _) ?_; (try simp only [Act.put, List.setIfInBounds_toArray, List.set_cons_zero, List.set_cons_succ])) | ((refine run_want rfl rfl (by rfl) ⟨?_, fun W hW => ?_, ?_⟩; rotate_left; (· (obtain ⟨hc'', hf''⟩ := hW.cells; go_simp; (try with_reducible rfl)))); (try simp only [Act.put, List.setIfInBounds_toArray, List.set_cons_zero, List.set_cons_succ])))
    refine run_end (L := []) rfl (fun W6 hW6 => ?_)
    have HT6 := Lib.hid (HT.out.trans hW6)
    clear hW6 HT
    have HT := HT6
    clear HT6
    go_wp2
    go_ret
    exact ⟨by rw [HF.out]; rfl, HS.out.trans HT.out⟩
  | true =>
  have A1 := Lib.hid a1
  clear a1
  refine hK _ _ (StepX.of hSn) ?_
  clear hSn
  (try simp only [Act.put, List.setIfInBounds_toArray, List.set_cons_zero, List.set_cons_succ])
  (try clear e0 e1 e2 e3 e4 f0 f1 f2 f3 f4 f5 y1 y2)
  obtain ⟨e0, e1, e2, e3, e4⟩ := cells5 (HB1.out.step HT.out)
  obtain ⟨f0, f1, f2, f3, f4, f5⟩ := cells6 (HB2.out.step HT.out)
  have y1 := (HB1.out.step HT.out).lt
  have y2 := (HB2.out.step HT.out).lt
  by_cases a2 : b.off.length = h.dates.length
  rotate_left
  · have hd : ((b.off.length : Int) != (h.dates.length : Int)) = true := by simp; omega
    have a2 := Lib.hid a2
    have HF := Lib.hid (show bookB h b = false by simp [bookB, bookA, a2.out])
    repeat (first | (refine run_off rfl rfl (by rfl) ?_; (try simp only [Act.put, List.setIfInBounds_toArray, List.set_cons_zero, List.set_cons_succ])) | (refine run_chain_off rfl rfl (by rfl) (K0_mono _) ?_; (try simp only [Act.put, List.setIfInBounds_toArray, List.set_cons_zero, List.set_cons_succ])) | ((refine run_want rfl rfl (by rfl) ⟨?_, fun W hW => ?_, ?_⟩; rotate_left; (· (obtain ⟨hc'', hf''⟩ := hW.cells; go_simp; (try with_reducible rfl)))); (try simp only [Act.put, List.setIfInBounds_toArray, List.set_cons_zero, List.set_cons_succ])))
    refine run_end (L := []) rfl (fun W6 hW6 => ?_)
    have HT6 := Lib.hid (HT.out.trans hW6)
    clear hW6 HT
    have HT := HT6
    clear HT6
    go_wp2
    go_ret
    exact ⟨by rw [HF.out]; rfl, HS.out.trans HT.out⟩
  have hd2 : ((b.off.length : Int) != (h.dates.length : Int)) = false := by simp; omega
  have A2 := Lib.hid a2
  clear a2
  by_cases a3 : b.seats.length = h.dates.length
  rotate_left
  · have hd : ((b.seats.length : Int) != (h.dates.length : Int)) = true := by simp; omega
    have a3 := Lib.hid a3
    have HF := Lib.hid (show bookB h b = false by simp [bookB, bookA, a3.out])
    repeat (first | (refine run_off rfl rfl (by rfl) ?_; (try simp only [Act.put, List.setIfInBounds_toArray, List.set_cons_zero, List.set_cons_succ])) | (refine run_chain_off rfl rfl (by rfl) (K0_mono _) ?_; (try simp only [Act.put, List.setIfInBounds_toArray, List.set_cons_zero, List.set_cons_succ])) | ((refine run_want rfl rfl (by rfl) ⟨?_, fun W hW => ?_, ?_⟩; rotate_left; (· (obtain ⟨hc'', hf''⟩ := hW.cells; go_simp; (try with_reducible rfl)))); (try simp only [Act.put, List.setIfInBounds_toArray, List.set_cons_zero, List.set_cons_succ])))
    refine run_end (L := []) rfl (fun W6 hW6 => ?_)
    have HT6 := Lib.hid (HT.out.trans hW6)
    clear hW6 HT
    have HT := HT6
    clear HT6
    go_wp2
    go_ret
    exact ⟨by rw [HF.out]; rfl, HS.out.trans HT.out⟩
  have hd3 : ((b.seats.length : Int) != (h.dates.length : Int)) = false := by simp; omega
  have A3 := Lib.hid a3
  clear a3
  repeat (first | (refine run_off rfl rfl (by rfl) ?_; (try simp only [Act.put, List.setIfInBounds_toArray, List.set_cons_zero, List.set_cons_succ])) | (refine run_chain_off rfl rfl (by rfl) (K0_mono _) ?_; (try simp only [Act.put, List.setIfInBounds_toArray, List.set_cons_zero, List.set_cons_succ])) | ((refine run_want rfl rfl (by rfl) ⟨?_, fun W hW => ?_, ?_⟩; rotate_left; (· (obtain ⟨hc'', hf''⟩ := hW.cells; go_simp; (try with_reducible rfl)))); (try simp only [Act.put, List.setIfInBounds_toArray, List.set_cons_zero, List.set_cons_succ])))
  refine run_chain rfl rfl (by rfl) (fun Wi hWi K' hK => ?_)
  have HTi := Lib.hid (HT.out.trans hWi)
  have HZW := Lib.hid HTi.out.size
  clear hWi HT
  go_simp
  refine (within_st _ _ _ _).mono ?_
  rintro e wn ⟨rfl, hSn⟩
  have HT := Lib.hid (HTi.out.trans (StepX.of hSn))
  clear HTi
  clear hd2 hd3
  clear e0 e1 e2 e3 e4 f0 f1 f2 f3 f4 f5 y1 y2
  cases a4 : withinB b.sent 0 1000 with
  | false =>
    have a4 := Lib.hid a4
    have HF := Lib.hid (show bookB h b = false by simp [bookB, bookA, a4.out])
    refine hK _ _ (StepX.of hSn) ?_
    clear hSn
    (try simp only [Act.put, List.setIfInBounds_toArray, List.set_cons_zero, List.set_cons_succ])
    repeat (first | (refine run_off rfl rfl (by rfl) ?_; (try simp only [Act.put, List.setIfInBounds_toArray, List.set_cons_zero, List.set_cons_succ])) | (refine run_chain_off rfl rfl (by rfl) (K0_mono _) ?_; (try simp only [Act.put, List.setIfInBounds_toArray, List.set_cons_zero, List.set_cons_succ])) | ((refine run_want rfl rfl (by rfl) ⟨?_, fun W hW => ?_, ?_⟩; rotate_left; (· (obtain ⟨hc'', hf''⟩ := hW.cells; go_simp; (try with_reducible rfl)))); (try simp only [Act.put, List.setIfInBounds_toArray, List.set_cons_zero, List.set_cons_succ])))
    refine run_end (L := []) rfl (fun W6 hW6 => ?_)
    have HT6 := Lib.hid (HT.out.trans hW6)
    clear hW6 HT
    have HT := HT6
    clear HT6
    go_wp2
    go_ret
    exact ⟨by rw [HF.out]; rfl, HS.out.trans HT.out⟩
  | true =>
  have A4 := Lib.hid a4
  clear a4
  refine hK _ _ (StepX.of hSn) ?_
  clear hSn
  (try simp only [Act.put, List.setIfInBounds_toArray, List.set_cons_zero, List.set_cons_succ])
  (try clear e0 e1 e2 e3 e4 f0 f1 f2 f3 f4 f5 y1 y2)
  obtain ⟨e0, e1, e2, e3, e4⟩ := cells5 (HB1.out.step HT.out)
  obtain ⟨f0, f1, f2, f3, f4, f5⟩ := cells6 (HB2.out.step HT.out)
  have y1 := (HB1.out.step HT.out).lt
  have y2 := (HB2.out.step HT.out).lt
  by_cases a5 : b.took.length ≤ 1000
  rotate_left
  · have hd : decide ((1000 : Int) < (b.took.length : Int)) = true := by simp; omega
    have a5 := Lib.hid a5
    have HF := Lib.hid (show bookB h b = false by simp [bookB, bookA, a5.out])
    repeat (first | (refine run_off rfl rfl (by rfl) ?_; (try simp only [Act.put, List.setIfInBounds_toArray, List.set_cons_zero, List.set_cons_succ])) | (refine run_chain_off rfl rfl (by rfl) (K0_mono _) ?_; (try simp only [Act.put, List.setIfInBounds_toArray, List.set_cons_zero, List.set_cons_succ])) | ((refine run_want rfl rfl (by rfl) ⟨?_, fun W hW => ?_, ?_⟩; rotate_left; (· (obtain ⟨hc'', hf''⟩ := hW.cells; go_simp; (try with_reducible rfl)))); (try simp only [Act.put, List.setIfInBounds_toArray, List.set_cons_zero, List.set_cons_succ])))
    refine run_end (L := []) rfl (fun W6 hW6 => ?_)
    have HT6 := Lib.hid (HT.out.trans hW6)
    clear hW6 HT
    have HT := HT6
    clear HT6
    go_wp2
    go_ret
    exact ⟨by rw [HF.out]; rfl, HS.out.trans HT.out⟩
  have hd5 : decide ((1000 : Int) < (b.took.length : Int)) = false := by simp; omega
  have hA : bookA h b = true := by simp [bookA, A1.out, A2.out, A3.out, A4.out, a5]
  have HA := Lib.hid hA
  clear a5 hA
  repeat (first | (refine run_off rfl rfl (by rfl) ?_; (try simp only [Act.put, List.setIfInBounds_toArray, List.set_cons_zero, List.set_cons_succ])) | (refine run_chain_off rfl rfl (by rfl) (K0_mono _) ?_; (try simp only [Act.put, List.setIfInBounds_toArray, List.set_cons_zero, List.set_cons_succ])) | ((refine run_want rfl rfl (by rfl) ⟨?_, fun W hW => ?_, ?_⟩; rotate_left; (· (obtain ⟨hc'', hf''⟩ := hW.cells; go_simp; (try with_reducible rfl)))); (try simp only [Act.put, List.setIfInBounds_toArray, List.set_cons_zero, List.set_cons_succ])))
  refine run_end (L := []) rfl (fun W6 hW6 => ?_)
  have HT6 := Lib.hid (HT.out.trans hW6)
  clear hW6 HT
  have HT := HT6
  clear HT6
  clear hd5
  clear e0 e1 e2 e3 e4 f0 f1 f2 f3 f4 f5 y1 y2
  (try clear e0 e1 e2 e3 e4 f0 f1 f2 f3 f4 f5 y1 y2)
  obtain ⟨e0, e1, e2, e3, e4⟩ := cells5 (HB1.out.step HT.out)
  obtain ⟨f0, f1, f2, f3, f4, f5⟩ := cells6 (HB2.out.step HT.out)
  have y1 := (HB1.out.step HT.out).lt
  have y2 := (HB2.out.step HT.out).lt
  have hr3 : SL S W6 (.slice q1 b.seats.length m1) b.seats := by
    obtain ⟨_, _, _, he, x1, x2, x4⟩ := Rep.keep (.of_step HT.out) HQ.out
    injection he with _ he
    injection he with he _
    exact he ▸ x1
  have hcall := Lib.hid (rows1_any h b.seats (.slice q1 b.seats.length m1) _ _ _ _ _ w.heap.size S W6 (HB1.out.step HT.out) (Rep.keep (.of_step HT.out) HR.out) hr3 (okSec_valid HOK.out))
  go_wp2_with fail
  refine hcall.out.mono ?_
  clear hcall
  rintro e wn ⟨rfl, hSn⟩
  have HTi := Lib.hid (HT.out.trans hSn)
  clear hSn HT
  have HT := HTi
  clear HTi
  clear hr3
  clear e0 e1 e2 e3 e4 f0 f1 f2 f3 f4 f5 y1 y2
  cases a6 : b.seats.all (rowB (sizeL h.sectors)) with
  | false =>
    have hfin : bookB h b = false := by simp [bookB, HA.out, a6]
    have HF := Lib.hid hfin
    clear a6 hfin
    go_wp2
    go_ret
    exact ⟨by rw [HF.out]; rfl, HS.out.trans HT.out⟩
  | true =>
  have A6 := Lib.hid a6
  clear a6
  have hmm := @run_makeMap Try.prog
  go_wp2_with fail
  clear hmm
  have HT1 := Lib.hid ((HT.out.s_alloc (.map #[] 0)).s_alloc (.cells #[.map (some wn.heap.size)] 176))
  have hlt := HT.out.size
  have hlt1 := (HB1.out.step HT.out).lt
  have hlt2 := (HB2.out.step HT.out).lt
  have hk0 : KM ((wn.alloc (.map #[] 0)).alloc (.cells #[.map (some wn.heap.size)] 176)) wn.heap.size [] := KM.step (w := wn.alloc (.map #[] 0)) ⟨#[], 0, heap_alloc_new wn _, by simp, by simp⟩ (Step.alloc _ _)
  have hm0 : ((wn.alloc (.map #[] 0)).alloc (.cells #[.map (some wn.heap.size)] 176)).cell? ⟨wn.heap.size + 1, 0, none⟩ = some (.map (some wn.heap.size)) := (Bx.new' (wn.alloc (.map #[] 0)) [.map (some wn.heap.size)] 176 _ (by simp)).cell 0
  have hlt3 : wn.heap.size < ((wn.alloc (.map #[] 0)).alloc (.cells #[.map (some wn.heap.size)] 176)).heap.size := by simp
  have HT1 : Hid (Step W0 ((wn.alloc (.map #[] 0)).alloc (.cells #[.map (some wn.heap.size)] 176))) := HT1
  generalize (wn.alloc (.map #[] 0)).alloc (.cells #[.map (some wn.heap.size)] 176) = V0 at *
  generalize wn.heap.size = r at *
  have HL := Lib.hid hlt
  have HROW : Hid (∀ i (hi : i < b.seats.length), (b.seats[i].length : Int) = sizeL h.sectors) := Lib.hid fun i hi => by
    have := List.all_eq_true.1 A6.out _ (List.getElem_mem hi)
    simp [rowB] at this
    exact this.1
  have HK := Lib.hid hk0
  have HM := Lib.hid hm0
  clear HT hk0 hm0
  have hr0 : W0.heap.size ≤ r := hlt
  have hT : ∀ j, j < W0.heap.size → (S j ∨ j = r) → S j := fun j hj hs => hs.resolve_right (by omega)
  have HR := Lib.hid (Rep.keep (.of_step HT1.out) (Rep.weak hT HR.out))
  have HQ := Lib.hid (Rep.keep (.of_step HT1.out) (Rep.weak hT HQ.out))
  have HB1 := Lib.hid (HB1.out.step HT1.out)
  have HB2 := Lib.hid (HB2.out.step HT1.out)
  have HS := Lib.hid (HS.out.trans HT1.out)
  have hn1 : ¬ w.heap.size = r := by omega
  have hn2 : ¬ w.heap.size + 1 = r := by omega
  have hwr0 : w.heap.size ≤ r := by omega
  have HT := Lib.hid (Step.refl V0)
  clear hlt hT hr0 HT1
  refine wp_region_seq (kdOf [4] []) [0, 1, 0, 0, 12, 31, 63, 127, 255, 127, 1023, 2047, 4095] [0, 1, 2, 3, 4, 5, 6, 7, 8, 9] [10, 11, 12] (by kernel_rfl) (by kernel_rfl) (fun i T z hi hk => by simp [kdOf] at hk <;> (try (split at hk <;> cases hk))) ?_
  intro Wx hWx
  have HT := Lib.hid hWx
  clear hWx
  (try clear e0 e1 e2 e3 e4 f0 f1 f2 f3 f4 f5 y1 y2)
  obtain ⟨e0, e1, e2, e3, e4⟩ := cells5 (HB1.out.step HT.out)
  obtain ⟨f0, f1, f2, f3, f4, f5⟩ := cells6 (HB2.out.step HT.out)
  have y1 := (HB1.out.step HT.out).lt
  have y2 := (HB2.out.step HT.out).lt
  repeat (first | (refine run_off rfl rfl (by rfl) ?_; (try simp only [Act.put, List.setIfInBounds_toArray, List.set_cons_zero, List.set_cons_succ])) | (refine run_chain_off rfl rfl (by rfl) (K0_mono _) ?_; (try simp only [Act.put, List.setIfInBounds_toArray, List.set_cons_zero, List.set_cons_succ])) | ((refine run_want rfl rfl (by rfl) ⟨?_, fun W hW => ?_, ?_⟩; rotate_left; (· (obtain ⟨hc'', hf''⟩ := hW.cells; go_simp; (try with_reducible rfl)))); (try simp only [Act.put, List.setIfInBounds_toArray, List.set_cons_zero, List.set_cons_succ])))
  refine run_chain rfl rfl (by rfl) (fun Wi hWi K' hK => ?_)
  have HTi := Lib.hid (HT.out.trans hWi)
  have HZW := Lib.hid HTi.out.size
  clear hWi HT
  go_simp
  refine (cash_any (fun j => S j ∨ j = r) h b _ _ Wi ⟨_, rfl, Rep.keep (.of_step HTi.out) HR.out⟩ ⟨_, rfl, Rep.keep (.of_step HTi.out) HQ.out⟩ HOK.out (by have := HBD.out; have := A3.out; omega) HROW.out).mono ?_
  rintro e wn ⟨rfl, hSn⟩
  have HT := Lib.hid (HTi.out.trans (StepX.of hSn))
  clear HTi
  refine hK _ _ (StepX.of hSn) ?_
  clear hSn
  (try simp only [Act.put, List.setIfInBounds_toArray, List.set_cons_zero, List.set_cons_succ])
  (try clear e0 e1 e2 e3 e4 f0 f1 f2 f3 f4 f5 y1 y2)
  obtain ⟨e0, e1, e2, e3, e4⟩ := cells5 (HB1.out.step HT.out)
  obtain ⟨f0, f1, f2, f3, f4, f5⟩ := cells6 (HB2.out.step HT.out)
  have y1 := (HB1.out.step HT.out).lt
  have y2 := (HB2.out.step HT.out).lt
  by_cases a7 : b.cash = cashL h b.seats
  rotate_left
  · have hd : (b.cash == cashL h b.seats) = false := by simp [a7]
    have hfin : bookB h b = false := by simp [bookB, a7]
    have HF := Lib.hid hfin
    clear a7 hfin
    repeat (first | (refine run_off rfl rfl (by rfl) ?_; (try simp only [Act.put, List.setIfInBounds_toArray, List.set_cons_zero, List.set_cons_succ])) | (refine run_chain_off rfl rfl (by rfl) (K0_mono _) ?_; (try simp only [Act.put, List.setIfInBounds_toArray, List.set_cons_zero, List.set_cons_succ])) | ((refine run_want rfl rfl (by rfl) ⟨?_, fun W hW => ?_, ?_⟩; rotate_left; (· (obtain ⟨hc'', hf''⟩ := hW.cells; go_simp; (try with_reducible rfl)))); (try simp only [Act.put, List.setIfInBounds_toArray, List.set_cons_zero, List.set_cons_succ])))
    refine run_end (L := [_, _, _]) rfl (fun W6 hW6 => ?_)
    have HT := Lib.hid (HT.out.trans hW6)
    clear hW6
    go_wp2
    go_ret
    exact ⟨by rw [HF.out]; rfl, HS.out.trans HT.out⟩
  have hd : (b.cash == cashL h b.seats) = true := by simp [a7]
  have hfin : bookB h b = tookB h b := by simp [bookB, HA.out, A6.out, a7]
  have HF := Lib.hid hfin
  clear a7 hfin
  repeat (first | (refine run_off rfl rfl (by rfl) ?_; (try simp only [Act.put, List.setIfInBounds_toArray, List.set_cons_zero, List.set_cons_succ])) | (refine run_chain_off rfl rfl (by rfl) (K0_mono _) ?_; (try simp only [Act.put, List.setIfInBounds_toArray, List.set_cons_zero, List.set_cons_succ])) | ((refine run_want rfl rfl (by rfl) ⟨?_, fun W hW => ?_, ?_⟩; rotate_left; (· (obtain ⟨hc'', hf''⟩ := hW.cells; go_simp; (try with_reducible rfl)))); (try simp only [Act.put, List.setIfInBounds_toArray, List.set_cons_zero, List.set_cons_succ])))
  refine run_end (L := [_, _, _]) rfl (fun W6 hW6 => ?_)
  have HT6 := Lib.hid (HT.out.trans hW6)
  clear hW6 HT
  have HT := HT6
  clear HT6
  clear e0 e1 e2 e3 e4 f0 f1 f2 f3 f4 f5 y1 y2
  have ha := Lib.hid (tooks_any (fun j => S j ∨ j = r) h b (.slice q4 b.took.length m4) _ _ _ _ _ w.heap.size (w.heap.size + 1) (r + 1) r W6 (HB1.out.step HT.out) (Rep.keep (.of_step HT.out) HR.out) (by
      obtain ⟨_, _, _, he, x1, x2, x4⟩ := Rep.keep (.of_step HT.out) HQ.out
      injection he with _ he
      injection he with he he2
      injection he2 with _ he2
      injection he2 with _ he2
      injection he2 with he2 _
      exact he2 ▸ x4) ((HB2.out.step HT.out).cell 0) (HT.out.keeps.cell id HM.out) (HK.out.step HT.out) (.inr rfl) (by have := HBD.out; omega) (by have := HBD.out; omega))
  go_wp2_with fail
  refine ha.out.mono ?_
  rintro e w' ⟨rfl, hS⟩
  have HS1 := Lib.hid (HS.out.trans HT.out)
  have HS2 := Lib.hid (StepX.fresh HS1.out hS (fun j hj => by omega))
  clear hS ha HS1
  go_wp2
  go_ret
  exact ⟨by rw [HF.out]; rfl, HS2.out⟩
end Go.Proofs.Ytbgfmikbhiblgaa
