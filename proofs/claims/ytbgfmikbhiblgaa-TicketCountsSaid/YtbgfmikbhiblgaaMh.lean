/- The law package's guards and comparisons are walked. -/
import Derived.Test.YtbgfmikbhiblgaaMa
import Derived.Test.YtbgfmikbhiblgaaMb
import Derived.Test.YtbgfmikbhiblgaaMc
import Derived.Test.YtbgfmikbhiblgaaMd
import Derived.Test.YtbgfmikbhiblgaaMe
import Derived.Test.YtbgfmikbhiblgaaRows
import Derived.BigQuiet
import Derived.Deep.AppendLies
import Derived.Deep.DeepCutAuto
import Derived.Deep.QuietTactic
import Derived.Deep.RegionHeld3
import Derived.Defers
import Derived.Laws.MakeOwn
import Derived.Laws.OwnMore
import Derived.Laws.Pointers
import Derived.Laws.StructEq
import Derived.Lib.Hide
import Derived.LoopIn
import Derived.LoopNIn
import Derived.OwnWalkIn
import Derived.RangeFuncBound
import Derived.RangeFuncCalls
import Derived.RangeFuncLeaves
import Derived.RangeFuncNested
import Derived.Recover
import Derived.Shelf.Abstract
import Derived.Shelf.RegionOpen
import Derived.TacticsInMore
import Derived.WalkKit
import Derived.WalkLawsBesides
import Derived.WalkSmall
import Derived.WalkSpells
import Derived.WideKeyRuns
/- Walks: Few, thin: the bounds under which the laws speak. -/
namespace Go.Proofs.Ytbgfmikbhiblgaa
set_option linter.unusedSimpArgs false
set_option linter.unusedVariables false
open Go.RowKit Go.BT

theorem all_take {α : Type} {l : List α} {p : α → Bool} {k : Nat} (ht : (l.take k).all p = true) (h : k < l.length) (hp : p l[k] = true) : (l.take (k + 1)).all p = true := by
  rw [List.take_succ_eq_append_getElem h, List.all_append, ht]
  simp [hp]
theorem all_miss {α : Type} {l : List α} {p : α → Bool} {k : Nat} (h : k < l.length) (hp : p l[k] = false) : l.all p = false := by
  rw [List.all_eq_false]
  exact ⟨_, List.getElem_mem h, by simp [hp]⟩
theorem all_done {α : Type} {l : List α} {p : α → Bool} {k : Nat} (ht : (l.take k).all p = true) (h : ¬ k < l.length) : l.all p = true := by
  rwa [List.take_of_length_le (by omega)] at ht

def fewA (h : House) : Bool := decide ((h.sectors.length : Int) ≤ 12) && decide ((h.prices.length : Int) ≤ 8) && decide ((h.dates.length : Int) ≤ 8) && decide ((h.frm.length : Int) ≤ 8) && decide ((h.holds.length : Int) ≤ 8)
def few (h : House) : Bool := h.sectors.all (fun s => decide (s.seats ≤ 60)) && h.holds.all (fun l => decide (l.length ≤ 120)) && h.frm.all (fun l => decide (l.length ≤ 8)) && fewA h
def thinA (b : Book) : Bool := decide ((b.seats.length : Int) ≤ 8) && decide ((b.off.length : Int) ≤ 8) && (decide ((b.took.length : Int) ≤ 40) || decide ((b.took.length : Int) > 1000) && decide ((b.took.length : Int) ≤ 1002))
def thin (b : Book) : Bool := b.seats.all (fun l => decide (l.length ≤ 120)) && thinA b
theorem few_a {h : House} (e : h.sectors.all (fun s => decide (s.seats ≤ 60)) = false) : few h = false := by simp [few, e]
theorem few_b {h : House} (e : h.holds.all (fun l => decide (l.length ≤ 120)) = false) : few h = false := by simp [few, e]
theorem few_c {h : House} (e : h.frm.all (fun l => decide (l.length ≤ 8)) = false) : few h = false := by simp [few, e]
theorem few_d {h : House} (a : h.sectors.all (fun s => decide (s.seats ≤ 60)) = true) (b : h.holds.all (fun l => decide (l.length ≤ 120)) = true) (c : h.frm.all (fun l => decide (l.length ≤ 8)) = true) : few h = fewA h := by simp [few, a, b, c]

set_option maxHeartbeats 2000000 in
theorem Few_any (S : Nat → Prop) (h : House) (v : Value) (w : World) (hv : AV S w v h) :
    Calls Try.prog 11 #[v] w fun e w' => e = .returned (.bool (few h)) ∧ Step w w' := by
  obtain ⟨cs, rfl, hr⟩ := hv
  obtain ⟨c0, c1, c2, c3, c4, rfl, h0, h1, h2, h3, h4⟩ := hr
  obtain ⟨p0, k0, b0, o0, rfl, _, m0, hp0, hc0, hb0⟩ := h0.sectors
  obtain ⟨p1, k1, rfl⟩ := h1.form
  obtain ⟨p2, k2, rfl⟩ := h2.form
  obtain ⟨p3, k3, b3, o3, rfl, _, m3, hp3, hc3, hb3⟩ := h3.rows
  obtain ⟨p4, k4, b4, o4, rfl, _, m4, hp4, hc4, hb4⟩ := h4.rows
  have n1 := h1.len
  have n2 := h2.len
  obtain ⟨W0, hW0⟩ : ∃ W0, W0 = w.alloc (.cells #[.slice p0 h.sectors.length k0, .slice p1 h.prices.length k1, .slice p2 h.dates.length k2, .slice p3 h.frm.length k3, .slice p4 h.holds.length k4] 26) := ⟨_, rfl⟩
  have hbx : Bx W0 w.heap.size [.slice p0 h.sectors.length k0, .slice p1 h.prices.length k1, .slice p2 h.dates.length k2, .slice p3 h.frm.length k3, .slice p4 h.holds.length k4] 26 := by subst hW0; exact Bx.new _ _ _
  have hS : Step w W0 := by subst hW0; exact (by repeat (first | (with_reducible assumption) | (with_reducible exact Step.refl _) | (with_reducible apply Step.s_alloc) | (with_reducible apply Step.s_drew) | (with_reducible apply Step.s_drewN) | (with_reducible refine Step.trans ?_ (by with_reducible assumption))))
  have HB := Lib.hid hbx
  have HS := Lib.hid hS
  have H0 := Lib.hid (And.intro hp0 hc0)
  have H3 := Lib.hid (And.intro hp3 hc3)
  have H4 := Lib.hid (And.intro hp4 hc4)
  have HW := Lib.hid hW0
  clear h0 h1 h2 h3 h4 hbx hS hp0 hc0 hb0 hp3 hc3 hb3 hp4 hc4 hb4 hW0
  go_enter Try.func11, Try.ntmps11
  go_wp2
  go_loopw [3] (fun i wr => ∃ k : Nat, k ≤ h.sectors.length ∧ i = .int .i64 k ∧ (h.sectors.take k).all (fun s => decide (s.seats ≤ 60)) = true ∧ Step W0 wr) (fun i _ => h.sectors.length - (intOf i).toNat)
  case atStart => exact ⟨0, Nat.zero_le _, rfl, rfl, by rw [HW.out]; exact Step.refl _⟩
  case round =>
    obtain ⟨k, hk, rfl, ht, hT⟩ := hrel
    have HA := Lib.hid ht
    have HT := Lib.hid hT
    clear ht hT
    obtain ⟨e0, e1, e2, e3, e4⟩ := cells5 (HB.out.step HT.out)
    by_cases hlt : k < h.sectors.length
    · obtain rfl := H0.out.1 (by omega)
      obtain ⟨_, a1⟩ := H0.out.2 k hlt
      have a1 := (HS.out.trans HT.out).keeps.cell id a1
      have hix : (0 : Int) ≤ (k : Int) ∧ (k : Int) < (h.sectors.length : Int) := by omega
      by_cases hx : h.sectors[k].seats > 60
      · have HF := Lib.hid (few_a (h := h) (all_miss hlt (by simp; omega)))
        go_wp2
        go_ret
        exact ⟨by rw [HF.out]; rfl, HS.out.trans HT.out⟩
      · go_wp2
        go_roundw
        case rel => exact ⟨k + 1, by omega, by go_num, all_take HA.out hlt (by simp; omega), HT.out⟩
        case measure => simp [intOf]; omega
    · have HA := Lib.hid (all_done HA.out hlt)
      go_wp2
      obtain ⟨wo, hwo⟩ : ∃ W, W = wr := ⟨_, rfl⟩
      subst hwo
      clear e0 e1 e2 e3 e4
      go_loopw [4] (fun i wr => ∃ k : Nat, k ≤ h.holds.length ∧ i = .int .i64 k ∧ (h.holds.take k).all (fun l => decide (l.length ≤ 120)) = true ∧ Step W0 wr) (fun i _ => h.holds.length - (intOf i).toNat)
      case atStart => exact ⟨0, Nat.zero_le _, rfl, rfl, HT.out⟩
      case round =>
        obtain ⟨k, hk, rfl, ht, hT⟩ := hrel
        have HA2 := Lib.hid ht
        have HT := Lib.hid hT
        clear ht hT
        obtain ⟨e0, e1, e2, e3, e4⟩ := cells5 (HB.out.step HT.out)
        by_cases hlt : k < h.holds.length
        · obtain rfl := H4.out.1 (by omega)
          obtain ⟨u, a1, hu⟩ := H4.out.2 k hlt
          have a1 := (HS.out.trans HT.out).keeps.cell id a1
          have hul := hu.len
          obtain ⟨pu, ku, rfl⟩ := hu.form
          clear hu
          have hix : (0 : Int) ≤ (k : Int) ∧ (k : Int) < (h.holds.length : Int) := by omega
          by_cases hx : h.holds[k].length > 120
          · have HF := Lib.hid (few_b (h := h) (all_miss hlt (by simp; omega)))
            go_wp2
            go_ret
            exact ⟨by rw [HF.out]; rfl, HS.out.trans HT.out⟩
          · go_wp2
            go_roundw
            case rel => exact ⟨k + 1, by omega, by go_num, all_take HA2.out hlt (by simp; omega), HT.out⟩
            case measure => simp [intOf]; omega
        · have HA2 := Lib.hid (all_done HA2.out hlt)
          go_wp2
          obtain ⟨wo, hwo⟩ : ∃ W, W = wr := ⟨_, rfl⟩
          subst hwo
          clear e0 e1 e2 e3 e4
          go_loopw [5] (fun i wr => ∃ k : Nat, k ≤ h.frm.length ∧ i = .int .i64 k ∧ (h.frm.take k).all (fun l => decide (l.length ≤ 8)) = true ∧ Step W0 wr) (fun i _ => h.frm.length - (intOf i).toNat)
          case atStart => exact ⟨0, Nat.zero_le _, rfl, rfl, HT.out⟩
          case round =>
            obtain ⟨k, hk, rfl, ht, hT⟩ := hrel
            have HA3 := Lib.hid ht
            have HT := Lib.hid hT
            clear ht hT
            obtain ⟨e0, e1, e2, e3, e4⟩ := cells5 (HB.out.step HT.out)
            by_cases hlt : k < h.frm.length
            · obtain rfl := H3.out.1 (by omega)
              obtain ⟨u, a1, hu⟩ := H3.out.2 k hlt
              have a1 := (HS.out.trans HT.out).keeps.cell id a1
              have hul := hu.len
              obtain ⟨pu, ku, rfl⟩ := hu.form
              clear hu
              have hix : (0 : Int) ≤ (k : Int) ∧ (k : Int) < (h.frm.length : Int) := by omega
              by_cases hx : h.frm[k].length > 8
              · have HF := Lib.hid (few_c (h := h) (all_miss hlt (by simp; omega)))
                go_wp2
                go_ret
                exact ⟨by rw [HF.out]; rfl, HS.out.trans HT.out⟩
              · go_wp2
                go_roundw
                case rel => exact ⟨k + 1, by omega, by go_num, all_take HA3.out hlt (by simp; omega), HT.out⟩
                case measure => simp [intOf]; omega
            · have HA3 := Lib.hid (all_done HA3.out hlt)
              have HF := Lib.hid (few_d HA.out HA2.out HA3.out)
              by_cases q0 : (h.sectors.length : Int) ≤ 12
              rotate_left
              · have hfin : few h = false := HF.out.trans (by simp [fewA]; omega)
                clear HF
                have HF := Lib.hid hfin
                clear hfin
                go_wp2
                go_ret
                exact ⟨by rw [HF.out]; rfl, HS.out.trans HT.out⟩
              by_cases q1 : (h.prices.length : Int) ≤ 8
              rotate_left
              · have hfin : few h = false := HF.out.trans (by simp [fewA]; omega)
                clear HF
                have HF := Lib.hid hfin
                clear hfin
                go_wp2
                go_ret
                exact ⟨by rw [HF.out]; rfl, HS.out.trans HT.out⟩
              by_cases q2 : (h.dates.length : Int) ≤ 8
              rotate_left
              · have hfin : few h = false := HF.out.trans (by simp [fewA]; omega)
                clear HF
                have HF := Lib.hid hfin
                clear hfin
                go_wp2
                go_ret
                exact ⟨by rw [HF.out]; rfl, HS.out.trans HT.out⟩
              by_cases q3 : (h.frm.length : Int) ≤ 8
              rotate_left
              · have hfin : few h = false := HF.out.trans (by simp [fewA]; omega)
                clear HF
                have HF := Lib.hid hfin
                clear hfin
                go_wp2
                go_ret
                exact ⟨by rw [HF.out]; rfl, HS.out.trans HT.out⟩
              by_cases q4 : (h.holds.length : Int) ≤ 8
              rotate_left
              · have hfin : few h = false := HF.out.trans (by simp [fewA]; omega)
                clear HF
                have HF := Lib.hid hfin
                clear hfin
                go_wp2
                go_ret
                exact ⟨by rw [HF.out]; rfl, HS.out.trans HT.out⟩
              have hfin : few h = true := HF.out.trans (by simp [fewA]; omega)
              clear HF
              have HF := Lib.hid hfin
              clear hfin
              go_wp2
              go_ret
              exact ⟨by rw [HF.out]; rfl, HS.out.trans HT.out⟩

theorem thin_a {b : Book} (e : b.seats.all (fun l => decide (l.length ≤ 120)) = false) : thin b = false := by simp [thin, e]
theorem thin_d {b : Book} (a : b.seats.all (fun l => decide (l.length ≤ 120)) = true) : thin b = thinA b := by simp [thin, a]
set_option maxHeartbeats 2000000 in
theorem thin_any (S : Nat → Prop) (b : Book) (v : Value) (w : World) (hv : AV S w v b) :
    Calls Try.prog 12 #[v] w fun e w' => e = .returned (.bool (thin b)) ∧ Step w w' := by
  obtain ⟨d1, d2, d4, rfl, s1, s2, s4⟩ := hv.book
  obtain ⟨q1, m1, b1, o1, rfl, _, n1, hp1, hc1, hb1⟩ := s1.rows
  obtain ⟨q2, m2, rfl⟩ := s2.form
  obtain ⟨q4, m4, rfl⟩ := s4.form
  have n2 := s2.len
  have n4 := s4.len
  obtain ⟨W0, hW0⟩ : ∃ W0, W0 = w.alloc (.cells #[.int .i64 b.agency, .slice q1 b.seats.length m1, .slice q2 b.off.length m2, .int .i64 b.sent, .slice q4 b.took.length m4, .int .i64 b.cash] 30) := ⟨_, rfl⟩
  have hbx : Bx W0 w.heap.size [.int .i64 b.agency, .slice q1 b.seats.length m1, .slice q2 b.off.length m2, .int .i64 b.sent, .slice q4 b.took.length m4, .int .i64 b.cash] 30 := by subst hW0; exact Bx.new _ _ _
  have hS : Step w W0 := by subst hW0; exact (by repeat (first | (with_reducible assumption) | (with_reducible exact Step.refl _) | (with_reducible apply Step.s_alloc) | (with_reducible apply Step.s_drew) | (with_reducible apply Step.s_drewN) | (with_reducible refine Step.trans ?_ (by with_reducible assumption))))
  have HB := Lib.hid hbx
  have HS := Lib.hid hS
  have H1 := Lib.hid (And.intro hp1 hc1)
  have HW := Lib.hid hW0
  clear hv s1 s2 s4 hbx hS hp1 hc1 hb1 hW0
  go_enter Try.func12, Try.ntmps12
  go_wp2
  go_loopw [3] (fun i wr => ∃ k : Nat, k ≤ b.seats.length ∧ i = .int .i64 k ∧ (b.seats.take k).all (fun l => decide (l.length ≤ 120)) = true ∧ Step W0 wr) (fun i _ => b.seats.length - (intOf i).toNat)
  case atStart => exact ⟨0, Nat.zero_le _, rfl, rfl, by rw [HW.out]; exact Step.refl _⟩
  case round =>
    obtain ⟨k, hk, rfl, ht, hT⟩ := hrel
    have HA := Lib.hid ht
    have HT := Lib.hid hT
    clear ht hT
    obtain ⟨e0, e1, e2, e3, e4, e5⟩ := cells6 (HB.out.step HT.out)
    by_cases hlt : k < b.seats.length
    · obtain rfl := H1.out.1 (by omega)
      obtain ⟨u, a1, hu⟩ := H1.out.2 k hlt
      have a1 := (HS.out.trans HT.out).keeps.cell id a1
      have hul := hu.len
      obtain ⟨pu, ku, rfl⟩ := hu.form
      clear hu
      have hix : (0 : Int) ≤ (k : Int) ∧ (k : Int) < (b.seats.length : Int) := by omega
      by_cases hx : b.seats[k].length > 120
      · have HF := Lib.hid (thin_a (b := b) (all_miss hlt (by simp; omega)))
        go_wp2
        go_ret
        exact ⟨by rw [HF.out]; rfl, HS.out.trans HT.out⟩
      · go_wp2
        go_roundw
        case rel => exact ⟨k + 1, by omega, by go_num, all_take HA.out hlt (by simp; omega), HT.out⟩
        case measure => simp [intOf]; omega
    · have HA := Lib.hid (all_done HA.out hlt)
      have HF := Lib.hid (thin_d HA.out)
      by_cases q0 : (b.seats.length : Int) ≤ 8
      rotate_left
      · have hfin : thin b = false := HF.out.trans (by simp [thinA]; omega)
        clear HF
        have HF := Lib.hid hfin
        clear hfin
        go_wp2
        go_ret
        exact ⟨by rw [HF.out]; rfl, HS.out.trans HT.out⟩
      by_cases q1' : (b.off.length : Int) ≤ 8
      rotate_left
      · have hfin : thin b = false := HF.out.trans (by simp [thinA]; omega)
        clear HF
        have HF := Lib.hid hfin
        clear hfin
        go_wp2
        go_ret
        exact ⟨by rw [HF.out]; rfl, HS.out.trans HT.out⟩
      by_cases q2' : (b.took.length : Int) ≤ 40
      · have hfin : thin b = true := HF.out.trans (by simp [thinA]; omega)
        clear HF
        have HF := Lib.hid hfin
        clear hfin
        go_wp2
        go_ret
        exact ⟨by rw [HF.out]; rfl, HS.out.trans HT.out⟩
      by_cases q3 : (b.took.length : Int) > 1000
      rotate_left
      · have hfin : thin b = false := HF.out.trans (by simp [thinA]; omega)
        clear HF
        have HF := Lib.hid hfin
        clear hfin
        go_wp2
        go_ret
        exact ⟨by rw [HF.out]; rfl, HS.out.trans HT.out⟩
      by_cases q4' : (b.took.length : Int) ≤ 1002
      · have hfin : thin b = true := HF.out.trans (by simp [thinA]; omega)
        clear HF
        have HF := Lib.hid hfin
        clear hfin
        go_wp2
        go_ret
        exact ⟨by rw [HF.out]; rfl, HS.out.trans HT.out⟩
      have hfin : thin b = false := HF.out.trans (by simp [thinA]; omega)
      clear HF
      have HF := Lib.hid hfin
      clear hfin
      go_wp2
      go_ret
      exact ⟨by rw [HF.out]; rfl, HS.out.trans HT.out⟩
end Go.Proofs.Ytbgfmikbhiblgaa
/- Walks: message, alike: comparisons. -/
namespace Go.Proofs.Ytbgfmikbhiblgaa
set_option linter.unusedSimpArgs false
set_option linter.unusedVariables false
open Go.RowKit Go.BT

def messB (a b : BT.Message) : Bool := decide (a = b)
theorem mess_ne {f1 f2 d1 d2 n1 n2 s1 s2 : Int} {l1 l2 : List Int} (h : f1 ≠ f2 ∨ d1 ≠ d2 ∨ n1 ≠ n2 ∨ s1 ≠ s2) : messB ⟨f1, d1, n1, s1, l1⟩ ⟨f2, d2, n2, s2, l2⟩ = false := by
  simp only [messB, decide_eq_false_iff_not, BT.Message.mk.injEq]
  rintro ⟨rfl, rfl, rfl, rfl, _⟩
  simp at h
theorem mess_eq {f1 d1 n1 s1 : Int} {l1 l2 : List Int} : messB ⟨f1, d1, n1, s1, l1⟩ ⟨f1, d1, n1, s1, l2⟩ = intsB l1 l2 := by
  simp [messB, intsB]

set_option maxHeartbeats 2000000 in
theorem message_core (S : Nat → Prop) (f1 f2 d1 d2 n1 n2 s1 s2 : Int) (l1 l2 : List Int) (v1 v2 : Value) (w : World) (hv : SL S w v1 l1) (hu : SL S w v2 l2) :
    Calls Try.prog 39 #[.agg #[.int .i64 f1, .int .i64 d1, .int .i64 n1, .int .i64 s1, v1], .agg #[.int .i64 f2, .int .i64 d2, .int .i64 n2, .int .i64 s2, v2]] w fun e w' => e = .returned (.bool (messB ⟨f1, d1, n1, s1, l1⟩ ⟨f2, d2, n2, s2, l2⟩)) ∧ Step w w' := by
  obtain ⟨p1, k1, rfl⟩ := hv.form
  obtain ⟨p2, k2, rfl⟩ := hu.form
  obtain ⟨W0, hW0⟩ : ∃ W0, W0 = (w.alloc (.cells #[.int .i64 f1, .int .i64 d1, .int .i64 n1, .int .i64 s1, .slice p1 l1.length k1] 74)).alloc (.cells #[.int .i64 f2, .int .i64 d2, .int .i64 n2, .int .i64 s2, .slice p2 l2.length k2] 73) := ⟨_, rfl⟩
  have hS : Step w W0 := by subst hW0; exact (by repeat (first | (with_reducible assumption) | (with_reducible exact Step.refl _) | (with_reducible apply Step.s_alloc) | (with_reducible apply Step.s_drew) | (with_reducible apply Step.s_drewN) | (with_reducible refine Step.trans ?_ (by with_reducible assumption))))
  have hcall := Lib.hid (ints_any S l1 l2 _ _ W0 (hv.keep (.of_step hS)) (hu.keep (.of_step hS)))
  have HS := Lib.hid hS
  clear hS hv hu
  by_cases q0 : f1 = f2
  rotate_left
  · have HF := Lib.hid (mess_ne (f1 := f1) (f2 := f2) (d1 := d1) (d2 := d2) (n1 := n1) (n2 := n2) (s1 := s1) (s2 := s2) (l1 := l1) (l2 := l2) (.inl q0))
    clear hcall
    have HW := Lib.hid hW0
    clear hW0
    go_enter Try.func39, Try.ntmps39
    go_wp2
    go_ret
    exact ⟨by rw [HF.out]; rfl, by rw [HW.out] at HS; exact HS.out⟩
  subst q0
  by_cases q1 : d1 = d2
  rotate_left
  · have HF := Lib.hid (mess_ne (f1 := f1) (f2 := f1) (d1 := d1) (d2 := d2) (n1 := n1) (n2 := n2) (s1 := s1) (s2 := s2) (l1 := l1) (l2 := l2) (.inr (.inl q1)))
    clear hcall
    have HW := Lib.hid hW0
    clear hW0
    go_enter Try.func39, Try.ntmps39
    go_wp2
    go_ret
    exact ⟨by rw [HF.out]; rfl, by rw [HW.out] at HS; exact HS.out⟩
  subst q1
  by_cases q2 : n1 = n2
  rotate_left
  · have HF := Lib.hid (mess_ne (f1 := f1) (f2 := f1) (d1 := d1) (d2 := d1) (n1 := n1) (n2 := n2) (s1 := s1) (s2 := s2) (l1 := l1) (l2 := l2) (.inr (.inr (.inl q2))))
    clear hcall
    have HW := Lib.hid hW0
    clear hW0
    go_enter Try.func39, Try.ntmps39
    go_wp2
    go_ret
    exact ⟨by rw [HF.out]; rfl, by rw [HW.out] at HS; exact HS.out⟩
  subst q2
  by_cases q3 : s1 = s2
  rotate_left
  · have HF := Lib.hid (mess_ne (f1 := f1) (f2 := f1) (d1 := d1) (d2 := d1) (n1 := n1) (n2 := n1) (s1 := s1) (s2 := s2) (l1 := l1) (l2 := l2) (.inr (.inr (.inr q3))))
    clear hcall
    have HW := Lib.hid hW0
    clear hW0
    go_enter Try.func39, Try.ntmps39
    go_wp2
    go_ret
    exact ⟨by rw [HF.out]; rfl, by rw [HW.out] at HS; exact HS.out⟩
  subst q3
  have HF := Lib.hid (mess_eq (f1 := f1) (d1 := d1) (n1 := n1) (s1 := s1) (l1 := l1) (l2 := l2))
  subst hW0
  go_enter Try.func39, Try.ntmps39
  go_wp2_with fail
  refine hcall.out.mono ?_
  rintro e wn ⟨rfl, hSn⟩
  go_wp2
  go_ret
  exact ⟨by rw [HF.out]; rfl, HS.out.trans hSn⟩
theorem message_any (S : Nat → Prop) (a b : BT.Message) (va vb : Value) (w : World) (ha : AV S w va a) (hb : AV S w vb b) :
    Calls Try.prog 39 #[va, vb] w fun e w' => e = .returned (.bool (messB a b)) ∧ Step w w' := by
  obtain ⟨c, rfl, h1⟩ := ha.message
  obtain ⟨d, rfl, h2⟩ := hb.message
  exact message_core S _ _ _ _ _ _ _ _ _ _ _ _ _ h1 h2
end Go.Proofs.Ytbgfmikbhiblgaa
/- Walks: alike: two books of the program. -/
namespace Go.Proofs.Ytbgfmikbhiblgaa
set_option linter.unusedSimpArgs false
set_option linter.unusedVariables false
open Go.RowKit Go.BT

def alikeB (a b : Book) : Bool := decide (a = b)
theorem alike_ne {a b : Book} (h : a.agency ≠ b.agency ∨ a.seats ≠ b.seats ∨ a.off ≠ b.off ∨ a.sent ≠ b.sent ∨ a.took ≠ b.took ∨ a.cash ≠ b.cash) : alikeB a b = false := by
  simp only [alikeB, decide_eq_false_iff_not]
  rintro rfl
  simp at h
theorem ne_len {α : Type} {a b : List α} (h : a.length ≠ b.length) : a ≠ b := fun e => h (by rw [e])
theorem ne_at {α : Type} {a b : List α} {k : Nat} (ha : k < a.length) (hb : k < b.length) (h : a[k] ≠ b[k]) : a ≠ b := fun e => h (by subst e; rfl)
theorem take_hit {α : Type} {a b : List α} {k : Nat} (ha : k < a.length) (hb : k < b.length) (ht : a.take k = b.take k) (h : a[k] = b[k]) : a.take (k + 1) = b.take (k + 1) := by
  rw [List.take_succ_eq_append_getElem ha, List.take_succ_eq_append_getElem hb, ht, h]
theorem take_end {α : Type} {a b : List α} {k : Nat} (hl : a.length = b.length) (hk : ¬ k < a.length) (ht : a.take k = b.take k) : a = b := by
  rwa [List.take_of_length_le (by omega), List.take_of_length_le (by omega)] at ht

theorem neq_key (a b c d : Int) (w : World) : (binOp .neq 124 (.agg #[.int .i64 a, .int .i64 b]) (.agg #[.int .i64 c, .int .i64 d])).run Try.prog w = .ok (.bool (!(a == c && b == d))) w := by
  have h := equal_key ⟨a, b⟩ ⟨c, d⟩ w
  unfold Op.equal Op.maxDepth kv at h
  have e : decide ((⟨a, b⟩ : Key) = ⟨c, d⟩) = (a == c && b == d) := by simp [Bool.beq_eq_decide_eq]
  rw [e] at h
  rw [run_neq_struct, h]
  rfl
attribute [local go_sem] neq_key
set_option maxHeartbeats 4000000 in
theorem alike_core (S : Nat → Prop) (a1 a2 : Int) (s1 s2 : List (List Int)) (o1 o2 : List Bool) (n1 n2 : Int) (t1 t2 : List Key) (c1 c2 : Int) (x1 x2 x4 y1 y2 y4 : Value) (w : World) (hx1 : SL S w x1 s1) (hx2 : SL S w x2 o1) (hx4 : SL S w x4 t1) (hy1 : SL S w y1 s2) (hy2 : SL S w y2 o2) (hy4 : SL S w y4 t2) :
    Calls Try.prog 50 #[.agg #[.int .i64 a1, x1, x2, .int .i64 n1, x4, .int .i64 c1], .agg #[.int .i64 a2, y1, y2, .int .i64 n2, y4, .int .i64 c2]] w fun e w' => e = .returned (.bool (alikeB ⟨a1, s1, o1, n1, t1, c1⟩ ⟨a2, s2, o2, n2, t2, c2⟩)) ∧ Step w w' := by
  obtain ⟨px1, kx1, bx1, ox1, rfl, _, mx1, hpx1, hcx1, _⟩ := hx1.rows
  obtain ⟨px2, kx2, bx2, ox2, rfl, _, mx2, hpx2, hcx2, _⟩ := hx2.bools
  obtain ⟨px4, kx4, bx4, ox4, rfl, _, mx4, hpx4, hcx4, _⟩ := hx4.keys
  obtain ⟨py1, ky1, by1, oy1, rfl, _, my1, hpy1, hcy1, _⟩ := hy1.rows
  obtain ⟨py2, ky2, by2, oy2, rfl, _, my2, hpy2, hcy2, _⟩ := hy2.bools
  obtain ⟨py4, ky4, by4, oy4, rfl, _, my4, hpy4, hcy4, _⟩ := hy4.keys
  obtain ⟨W0, hW0⟩ : ∃ W0, W0 = (w.alloc (.cells #[.int .i64 a1, .slice px1 s1.length kx1, .slice px2 o1.length kx2, .int .i64 n1, .slice px4 t1.length kx4, .int .i64 c1] 36)).alloc (.cells #[.int .i64 a2, .slice py1 s2.length ky1, .slice py2 o2.length ky2, .int .i64 n2, .slice py4 t2.length ky4, .int .i64 c2] 36) := ⟨_, rfl⟩
  have hb1 : Bx W0 w.heap.size [.int .i64 a1, .slice px1 s1.length kx1, .slice px2 o1.length kx2, .int .i64 n1, .slice px4 t1.length kx4, .int .i64 c1] 36 := by subst hW0; exact (Bx.new _ _ _).alloc _
  have hb2 : Bx W0 (w.heap.size + 1) [.int .i64 a2, .slice py1 s2.length ky1, .slice py2 o2.length ky2, .int .i64 n2, .slice py4 t2.length ky4, .int .i64 c2] 36 := by subst hW0; exact Bx.new' _ _ _ _ (by simp)
  have hS : Step w W0 := by subst hW0; exact (by repeat (first | (with_reducible assumption) | (with_reducible exact Step.refl _) | (with_reducible apply Step.s_alloc) | (with_reducible apply Step.s_drew) | (with_reducible apply Step.s_drewN) | (with_reducible refine Step.trans ?_ (by with_reducible assumption))))
  have HB1 := Lib.hid hb1
  have HB2 := Lib.hid hb2
  have HS := Lib.hid hS
  have HX1 := Lib.hid (And.intro hpx1 hcx1)
  have HX2 := Lib.hid (And.intro hpx2 hcx2)
  have HX4 := Lib.hid (And.intro hpx4 hcx4)
  have HY1 := Lib.hid (And.intro hpy1 hcy1)
  have HY2 := Lib.hid (And.intro hpy2 hcy2)
  have HY4 := Lib.hid (And.intro hpy4 hcy4)
  have HW := Lib.hid hW0
  clear hx1 hx2 hx4 hy1 hy2 hy4 hpx1 hpx2 hpx4 hpy1 hpy2 hpy4 hcx1 hcx2 hcx4 hcy1 hcy2 hcy4 hb1 hb2 hS hW0
  by_cases qa : a1 = a2
  rotate_left
  · have HF := Lib.hid (alike_ne (a := ⟨a1, s1, o1, n1, t1, c1⟩) (b := ⟨a2, s2, o2, n2, t2, c2⟩) (.inl qa))
    clear HB1 HB2 HX1 HX2 HX4 HY1 HY2 HY4
    go_enter Try.func50, Try.ntmps50
    go_wp2
    go_ret
    exact ⟨by rw [HF.out]; rfl, by rw [HW.out] at HS; exact HS.out⟩
  subst qa
  by_cases qs : s1.length = s2.length
  rotate_left
  · have qsd : ((s1.length : Int) != (s2.length : Int)) = true := by simp; omega
    have qs := Lib.hid qs
    have HF := Lib.hid (alike_ne (a := ⟨a1, s1, o1, n1, t1, c1⟩) (b := ⟨a1, s2, o2, n2, t2, c2⟩) (.inr (.inl (ne_len qs.out))))
    clear HB1 HB2 HX1 HX2 HX4 HY1 HY2 HY4
    go_enter Try.func50, Try.ntmps50
    go_wp2
    go_ret
    exact ⟨by rw [HF.out]; rfl, by rw [HW.out] at HS; exact HS.out⟩
  have qsd : ((s1.length : Int) != (s2.length : Int)) = false := by simp; omega
  have Hqs := Lib.hid qs
  clear qs
  by_cases qo : o1.length = o2.length
  rotate_left
  · have qod : ((o1.length : Int) != (o2.length : Int)) = true := by simp; omega
    have qo := Lib.hid qo
    have HF := Lib.hid (alike_ne (a := ⟨a1, s1, o1, n1, t1, c1⟩) (b := ⟨a1, s2, o2, n2, t2, c2⟩) (.inr (.inr (.inl (ne_len qo.out)))))
    clear HB1 HB2 HX1 HX2 HX4 HY1 HY2 HY4
    go_enter Try.func50, Try.ntmps50
    go_wp2
    go_ret
    exact ⟨by rw [HF.out]; rfl, by rw [HW.out] at HS; exact HS.out⟩
  have qod : ((o1.length : Int) != (o2.length : Int)) = false := by simp; omega
  have Hqo := Lib.hid qo
  clear qo
  by_cases qn : n1 = n2
  rotate_left
  · have HF := Lib.hid (alike_ne (a := ⟨a1, s1, o1, n1, t1, c1⟩) (b := ⟨a1, s2, o2, n2, t2, c2⟩) (.inr (.inr (.inr (.inl qn)))))
    clear HB1 HB2 HX1 HX2 HX4 HY1 HY2 HY4
    go_enter Try.func50, Try.ntmps50
    go_wp2
    go_ret
    exact ⟨by rw [HF.out]; rfl, by rw [HW.out] at HS; exact HS.out⟩
  subst qn
  by_cases qt : t1.length = t2.length
  rotate_left
  · have qtd : ((t1.length : Int) != (t2.length : Int)) = true := by simp; omega
    have qt := Lib.hid qt
    have HF := Lib.hid (alike_ne (a := ⟨a1, s1, o1, n1, t1, c1⟩) (b := ⟨a1, s2, o2, n1, t2, c2⟩) (.inr (.inr (.inr (.inr (.inl (ne_len qt.out)))))))
    clear HB1 HB2 HX1 HX2 HX4 HY1 HY2 HY4
    go_enter Try.func50, Try.ntmps50
    go_wp2
    go_ret
    exact ⟨by rw [HF.out]; rfl, by rw [HW.out] at HS; exact HS.out⟩
  have qtd : ((t1.length : Int) != (t2.length : Int)) = false := by simp; omega
  have Hqt := Lib.hid qt
  clear qt
  by_cases qc : c1 = c2
  rotate_left
  · have HF := Lib.hid (alike_ne (a := ⟨a1, s1, o1, n1, t1, c1⟩) (b := ⟨a1, s2, o2, n1, t2, c2⟩) (.inr (.inr (.inr (.inr (.inr qc))))))
    clear HB1 HB2 HX1 HX2 HX4 HY1 HY2 HY4
    go_enter Try.func50, Try.ntmps50
    go_wp2
    go_ret
    exact ⟨by rw [HF.out]; rfl, by rw [HW.out] at HS; exact HS.out⟩
  subst qc
  go_enter Try.func50, Try.ntmps50
  go_wp2
  go_loopw [5] (fun i wr => ∃ k : Nat, k ≤ s1.length ∧ i = .int .i64 k ∧ s1.take k = s2.take k ∧ Step W0 wr) (fun i _ => s1.length - (intOf i).toNat)
  case atStart => exact ⟨0, Nat.zero_le _, rfl, rfl, by rw [HW.out]; exact Step.refl _⟩
  case round =>
    obtain ⟨k, hk, rfl, ht, hT⟩ := hrel
    have HA := Lib.hid ht
    have HT := Lib.hid hT
    clear ht hT qsd qod qtd
    obtain ⟨e0, e1, e2, e3, e4, e5⟩ := cells6 (HB1.out.step HT.out)
    obtain ⟨f0, f1, f2, f3, f4, f5⟩ := cells6 (HB2.out.step HT.out)
    by_cases hlt : k < s1.length
    · have hlt2 : k < s2.length := by have := Hqs.out; omega
      obtain rfl := HX1.out.1 (by omega)
      obtain rfl := HY1.out.1 (by omega)
      obtain ⟨u1, g1, hu1⟩ := HX1.out.2 k hlt
      obtain ⟨u2, g2, hu2⟩ := HY1.out.2 k hlt2
      have g1 := (HS.out.trans HT.out).keeps.cell id g1
      have g2 := (HS.out.trans HT.out).keeps.cell id g2
      have HU := Lib.hid (And.intro hu1 hu2)
      clear hu1 hu2
      have hix1 : (0 : Int) ≤ (k : Int) ∧ (k : Int) < (s1.length : Int) := by omega
      have hix2 : (0 : Int) ≤ (k : Int) ∧ (k : Int) < (s2.length : Int) := by omega
      go_upto_region 6 with fail
      refine wp_region_seq (kdOf [10] []) [0, 1, 0, 7, 15, 0, 32, 0, 224, 480, 1023, 2047] [0, 1, 2, 3, 4, 5, 6, 7, 8, 9, 10, 11] [] (by kernel_rfl) (by kernel_rfl) (fun i T z hi hk => by simp [kdOf] at hk <;> (try (split at hk <;> cases hk))) ?_
      intro Wx hWx
      have HTx := Lib.hid (HT.out.trans hWx)
      have g1 := hWx.keeps.cell id g1
      have g2 := hWx.keeps.cell id g2
      clear hWx e0 e1 e2 e3 e4 e5 f0 f1 f2 f3 f4 f5
      obtain ⟨e0, e1, e2, e3, e4, e5⟩ := cells6 (HB1.out.step HTx.out)
      obtain ⟨f0, f1, f2, f3, f4, f5⟩ := cells6 (HB2.out.step HTx.out)
      clear HT
      have HT := HTx
      clear HTx
      repeat (first | (refine run_off rfl rfl (by rfl) ?_; (try simp only [Act.put, List.setIfInBounds_toArray, List.set_cons_zero, List.set_cons_succ])) | (refine run_chain_off rfl rfl (by rfl) (K0_mono _) ?_; (try simp only [Act.put, List.setIfInBounds_toArray, List.set_cons_zero, List.set_cons_succ])) | ((refine run_want rfl rfl (by rfl) ⟨?_, fun W hW => ?_, ?_⟩; rotate_left; (· (have d0 := hW.keeps.cell id e1; have d1 := hW.keeps.cell id f1; have d2 := hW.keeps.cell id g1; have d3 := hW.keeps.cell id g2; go_simp; (try with_reducible rfl)))); (try simp only [Act.put, List.setIfInBounds_toArray, List.set_cons_zero, List.set_cons_succ])))
      refine run_chain rfl rfl (by rfl) (fun Wi hWi K' hK => ?_)
      have HTi := Lib.hid (HT.out.trans hWi)
      have HZW := Lib.hid HTi.out.size
      clear hWi HT
      go_simp
      refine (ints_any S s1[k] s2[k] _ _ _ (HU.out.1.keep (.of_step (HS.out.trans HTi.out))) (HU.out.2.keep (.of_step (HS.out.trans HTi.out)))).mono ?_
      rintro e wn ⟨rfl, hSn⟩
      have HT := Lib.hid (HTi.out.trans (StepX.of hSn))
      clear HTi
      cases q : intsB s1[k] s2[k] with
      | false =>
        have HF := Lib.hid (alike_ne (a := ⟨a1, s1, o1, n1, t1, c1⟩) (b := ⟨a1, s2, o2, n1, t2, c1⟩) (.inr (.inl (ne_at hlt hlt2 (by simpa [intsB] using q)))))
        clear q
        refine hK _ _ (StepX.of hSn) ?_
        clear hSn
        (try simp only [Act.put, List.setIfInBounds_toArray, List.set_cons_zero, List.set_cons_succ])
        repeat (first | (refine run_off rfl rfl (by rfl) ?_; (try simp only [Act.put, List.setIfInBounds_toArray, List.set_cons_zero, List.set_cons_succ])) | (refine run_chain_off rfl rfl (by rfl) (K0_mono _) ?_; (try simp only [Act.put, List.setIfInBounds_toArray, List.set_cons_zero, List.set_cons_succ])) | ((refine run_want rfl rfl (by rfl) ⟨?_, fun W hW => ?_, ?_⟩; rotate_left; (· (obtain ⟨hc'', hf''⟩ := hW.cells; go_simp; (try with_reducible rfl)))); (try simp only [Act.put, List.setIfInBounds_toArray, List.set_cons_zero, List.set_cons_succ])))
        refine run_end (L := []) rfl (fun W6 hW6 => ?_)
        have HT6 := Lib.hid (HT.out.trans hW6)
        clear hW6 HT
        have HT := HT6
        clear HT6
        go_wp2
        go_ret
        exact ⟨by rw [HF.out]; rfl, HS.out.trans HT.out⟩
      | true =>
        have HQ := Lib.hid (show s1[k] = s2[k] by simpa [intsB] using q)
        clear q
        refine hK _ _ (StepX.of hSn) ?_
        clear hSn
        (try simp only [Act.put, List.setIfInBounds_toArray, List.set_cons_zero, List.set_cons_succ])
        repeat (first | (refine run_off rfl rfl (by rfl) ?_; (try simp only [Act.put, List.setIfInBounds_toArray, List.set_cons_zero, List.set_cons_succ])) | (refine run_chain_off rfl rfl (by rfl) (K0_mono _) ?_; (try simp only [Act.put, List.setIfInBounds_toArray, List.set_cons_zero, List.set_cons_succ])) | ((refine run_want rfl rfl (by rfl) ⟨?_, fun W hW => ?_, ?_⟩; rotate_left; (· (obtain ⟨hc'', hf''⟩ := hW.cells; go_simp; (try with_reducible rfl)))); (try simp only [Act.put, List.setIfInBounds_toArray, List.set_cons_zero, List.set_cons_succ])))
        refine run_end (L := []) rfl (fun W6 hW6 => ?_)
        have HT6 := Lib.hid (HT.out.trans hW6)
        clear hW6 HT
        have HT := HT6
        clear HT6
        go_wp2
        go_roundw
        case rel => exact ⟨k + 1, by omega, by go_num, take_hit hlt hlt2 HA.out HQ.out, HT.out⟩
        case measure => simp [intOf]; omega
    · have HE1 := Lib.hid (take_end Hqs.out hlt HA.out)
      clear HA
      go_wp2
      obtain ⟨wo, hwo⟩ : ∃ W, W = wr := ⟨_, rfl⟩
      subst hwo
      clear e0 e1 e2 e3 e4 e5 f0 f1 f2 f3 f4 f5
      go_loopw [6] (fun i wr => ∃ k : Nat, k ≤ o1.length ∧ i = .int .i64 k ∧ o1.take k = o2.take k ∧ Step W0 wr) (fun i _ => o1.length - (intOf i).toNat)
      case atStart => exact ⟨0, Nat.zero_le _, rfl, rfl, HT.out⟩
      case round =>
        obtain ⟨k, hk, rfl, ht, hT⟩ := hrel
        have HA := Lib.hid ht
        have HT := Lib.hid hT
        clear ht hT
        obtain ⟨e0, e1, e2, e3, e4, e5⟩ := cells6 (HB1.out.step HT.out)
        obtain ⟨f0, f1, f2, f3, f4, f5⟩ := cells6 (HB2.out.step HT.out)
        by_cases hlt : k < o1.length
        · have hlt2 : k < o2.length := by have := Hqo.out; omega
          obtain rfl := HX2.out.1 (by omega)
          obtain rfl := HY2.out.1 (by omega)
          have g1 := (HS.out.trans HT.out).keeps.cell id (HX2.out.2 k hlt)
          have g2 := (HS.out.trans HT.out).keeps.cell id (HY2.out.2 k hlt2)
          have hix1 : (0 : Int) ≤ (k : Int) ∧ (k : Int) < (o1.length : Int) := by omega
          have hix2 : (0 : Int) ≤ (k : Int) ∧ (k : Int) < (o2.length : Int) := by omega
          have HQ := Lib.hid (show ∃ x y, o1[k] = x ∧ o2[k] = y from ⟨_, _, rfl, rfl⟩)
          obtain ⟨x, y, hx, hy⟩ := HQ.out
          rw [hx] at g1
          rw [hy] at g2
          have HX := Lib.hid hx
          have HY := Lib.hid hy
          clear HQ hx hy
          by_cases q : x = y
          · have HQ := Lib.hid (HX.out.trans (q.trans HY.out.symm))
            subst q
            go_wp2
            go_quiet (fail)
            go_wp2
            go_roundw
            case rel => exact ⟨k + 1, by omega, by go_num, take_hit hlt hlt2 HA.out HQ.out, HT.out.trans (Step.drewN _ _)⟩
            case measure => simp [intOf]; omega
          · have HF := Lib.hid (alike_ne (a := ⟨a1, s1, o1, n1, t1, c1⟩) (b := ⟨a1, s2, o2, n1, t2, c1⟩) (.inr (.inr (.inl (ne_at hlt hlt2 (by rw [HX.out, HY.out]; exact q))))))
            obtain rfl : x = !y := by cases x <;> cases y <;> simp at q ⊢
            clear q
            cases y
            all_goals
              go_wp2
              go_quiet (fail)
              go_wp2
              go_ret
              exact ⟨by rw [HF.out]; rfl, HS.out.trans (HT.out.trans (Step.drewN _ _))⟩
        · have HE2 := Lib.hid (take_end Hqo.out hlt HA.out)
          clear HA
          go_wp2
          obtain ⟨wo, hwo⟩ : ∃ W, W = wr := ⟨_, rfl⟩
          subst hwo
          clear e0 e1 e2 e3 e4 e5 f0 f1 f2 f3 f4 f5
          go_loopw [7] (fun i wr => ∃ k : Nat, k ≤ t1.length ∧ i = .int .i64 k ∧ t1.take k = t2.take k ∧ Step W0 wr) (fun i _ => t1.length - (intOf i).toNat)
          case atStart => exact ⟨0, Nat.zero_le _, rfl, rfl, HT.out⟩
          case round =>
            obtain ⟨k, hk, rfl, ht, hT⟩ := hrel
            have HA := Lib.hid ht
            have HT := Lib.hid hT
            clear ht hT
            obtain ⟨e0, e1, e2, e3, e4, e5⟩ := cells6 (HB1.out.step HT.out)
            obtain ⟨f0, f1, f2, f3, f4, f5⟩ := cells6 (HB2.out.step HT.out)
            by_cases hlt : k < t1.length
            · have hlt2 : k < t2.length := by have := Hqt.out; omega
              obtain rfl := HX4.out.1 (by omega)
              obtain rfl := HY4.out.1 (by omega)
              obtain ⟨g1, g3⟩ := HX4.out.2 k hlt
              obtain ⟨g2, g4⟩ := HY4.out.2 k hlt2
              have g1 := (HS.out.trans HT.out).keeps.cell id g1
              have g2 := (HS.out.trans HT.out).keeps.cell id g2
              have g3 := (HS.out.trans HT.out).keeps.cell id g3
              have g4 := (HS.out.trans HT.out).keeps.cell id g4
              have hix1 : (0 : Int) ≤ (k : Int) ∧ (k : Int) < (t1.length : Int) := by omega
              have hix2 : (0 : Int) ≤ (k : Int) ∧ (k : Int) < (t2.length : Int) := by omega
              obtain ⟨x, y, hx, hy⟩ := (show ∃ x y, t1[k] = x ∧ t2[k] = y from ⟨_, _, rfl, rfl⟩)
              rw [hx] at g1 g3
              rw [hy] at g2 g4
              have HX := Lib.hid hx
              have HY := Lib.hid hy
              clear hx hy
              obtain ⟨xf, xn⟩ := x
              obtain ⟨yf, yn⟩ := y
              dsimp only at g1 g2 g3 g4
              by_cases q1 : xf = yf
              · subst q1
                by_cases q2 : xn = yn
                · have HQ := Lib.hid (HX.out.trans ((show (⟨xf, xn⟩ : Key) = ⟨xf, yn⟩ by rw [q2]).trans HY.out.symm))
                  subst q2
                  go_wp2
                  go_quiet (fail)
                  go_wp2
                  go_roundw
                  case rel => exact ⟨k + 1, by omega, by go_num, take_hit hlt hlt2 HA.out HQ.out, HT.out.trans (Step.drewN _ _)⟩
                  case measure => simp [intOf]; omega
                · have HF := Lib.hid (alike_ne (a := ⟨a1, s1, o1, n1, t1, c1⟩) (b := ⟨a1, s2, o2, n1, t2, c1⟩) (.inr (.inr (.inr (.inr (.inl (ne_at hlt hlt2 (by rw [HX.out, HY.out]; simpa using q2))))))))
                  go_wp2
                  go_quiet (fail)
                  go_wp2
                  go_ret
                  exact ⟨by rw [HF.out]; rfl, HS.out.trans (HT.out.trans (Step.drewN _ _))⟩
              · have HF := Lib.hid (alike_ne (a := ⟨a1, s1, o1, n1, t1, c1⟩) (b := ⟨a1, s2, o2, n1, t2, c1⟩) (.inr (.inr (.inr (.inr (.inl (ne_at hlt hlt2 (by rw [HX.out, HY.out]; simp [q1]))))))))
                go_wp2
                go_quiet (fail)
                go_wp2
                go_ret
                exact ⟨by rw [HF.out]; rfl, HS.out.trans (HT.out.trans (Step.drewN _ _))⟩
            · have HE3 := Lib.hid (take_end Hqt.out hlt HA.out)
              go_wp2
              go_ret
              exact ⟨by rw [HE1.out, HE2.out, HE3.out]; simp [alikeB], HS.out.trans HT.out⟩
theorem alike_any (S : Nat → Prop) (a b : Book) (va vb : Value) (w : World) (ha : AV S w va a) (hb : AV S w vb b) :
    Calls Try.prog 50 #[va, vb] w fun e w' => e = .returned (.bool (alikeB a b)) ∧ Step w w' := by
  obtain ⟨x1, x2, x4, rfl, h1, h2, h4⟩ := ha.book
  obtain ⟨y1, y2, y4, rfl, k1, k2, k4⟩ := hb.book
  exact alike_core S _ _ _ _ _ _ _ _ _ _ _ _ _ _ _ _ _ _ _ h1 h2 h4 k1 k2 k4
end Go.Proofs.Ytbgfmikbhiblgaa
/- Walks: the law package's copy of a book. -/
namespace Go.Proofs.Ytbgfmikbhiblgaa
set_option linter.unusedSimpArgs false
set_option linter.unusedVariables false
open Go.RowKit Go.BT

def thinP (b : Book) : Prop := b.seats.length ≤ 1000 ∧ (∀ i (hi : i < b.seats.length), b.seats[i].length ≤ 1000000) ∧ b.off.length ≤ 1000000 ∧ b.took.length ≤ 1000000

set_option maxHeartbeats 1000000 in
theorem Book_any (S : Nat → Prop) (b : Book) (v : Value) (w : World) (hv : AV S w v b) (hf : thinP b) :
    Calls Try.prog 16 #[v] w fun e w' => ∃ v', e = .returned v' ∧ AV (Old w) w' v' b ∧ Step w w' := by
  obtain ⟨d1, d2, d4, rfl, s1, s2, s4⟩ := hv.book
  obtain ⟨p1, k1, rfl⟩ := s1.form
  obtain ⟨p2, k2, rfl⟩ := s2.form
  obtain ⟨p4, k4, rfl⟩ := s4.form
  obtain ⟨f1, f2, f3, f4⟩ := hf
  go_enter Try.func16, Try.ntmps16
  go_upto_region 1 with fail
  go_cut [3] (fun s3 wx => ∃ g q1 q2, s3 = .pointer (some ⟨g, 0, none⟩) ∧ w.heap.size + 2 ≤ g ∧ g < wx.heap.size ∧
      Bx wx g [.int .i64 b.agency, q1, q2, .int .i64 b.sent, .slice none 0 0, .int .i64 b.cash] 36 ∧
      (SL (fun j => j < w.heap.size + 2 ∨ j = g) wx q1 b.seats ∧ SL (fun j => j < w.heap.size + 2 ∨ j = g) wx q2 b.off) ∧ Step ((w.alloc
      (.cells #[.int .i64 b.agency, .slice p1 b.seats.length k1, .slice p2 b.off.length k2, .int .i64 b.sent, .slice p4 b.took.length k4, .int .i64 b.cash] 30)).alloc
  (.cells #[.int .i64 0, .slice none 0 0, .slice none 0 0, .int .i64 0, .slice none 0 0, .int .i64 0] 36)) wx)
  case first =>
    refine wp_region_seq (kdOf [4, 7] [(13, 36, .agg #[.int .i64 0, .slice none 0 0, .slice none 0 0, .int .i64 0, .slice none 0 0, .int .i64 0])]) [0, 1, 0, 4, 12, 0, 32, 124, 0, 256, 0, 1024, 4095, 0, 16383] [0, 1, 2, 3, 5, 6, 8, 9, 10, 11, 4, 7, 12, 13] [14] (by kernel_rfl) (by kernel_rfl) (fun i T z hi hk => by simp only [List.mem_cons, List.not_mem_nil, or_false] at hi; rcases hi with rfl | rfl | rfl | rfl | rfl | rfl | rfl | rfl | rfl | rfl | rfl | rfl | rfl | rfl <;> simp [kdOf] at hk <;> (obtain ⟨rfl, rfl⟩ := hk; first | (show Option.bind _ _ = some _; kernel_rfl) | (refine ⟨_, rfl, fun _ _ => ?_⟩; go_simp))) ?_
    intro W0 hW0
    obtain ⟨hc, hf⟩ := hW0.cells
    have z0 := hW0.size
    (try simp only [World.size_alloc, World.size_drew, World.size_setCell, World.size_drewN, Nat.add_one_le_iff] at z0)
    have y0 : w.heap.size < W0.heap.size := by omega
    repeat ((refine run_want rfl rfl (by rfl) ⟨?_, fun W hW => ?_, ?_⟩; rotate_left; (· (obtain ⟨hc'', hf''⟩ := hW.cells; go_simp; (try with_reducible rfl)))); (try simp only [Act.put, List.setIfInBounds_toArray, List.set_cons_zero, List.set_cons_succ]))
    clear hc hf
    refine run_chain rfl rfl (by rfl) (fun W1 hW1 K' hK => ?_)
    go_simp
    refine (rows_any _ _ _ _ (s1.keep (by repeat (first | (with_reducible exact Keeps.refl _ _) | (with_reducible apply Keeps.s_alloc) | (with_reducible apply Keeps.s_drew) | (with_reducible apply Keeps.s_drewN) | (with_reducible refine Keeps.s_step ?_ (by with_reducible assumption)) | (with_reducible refine Keeps.s_wrote ?_ (by with_reducible assumption) (by first | exact Or.inr rfl | exact rfl))))) f1 f2).mono ?_
    rintro e w1 ⟨v1, rfl, hv1, hS1⟩
    obtain ⟨r1, m1, rfl⟩ := hv1.form
    refine hK _ _ hS1 ?_
    (try simp only [Act.put, List.setIfInBounds_toArray, List.set_cons_zero, List.set_cons_succ])
    refine run_chain rfl rfl (by rfl) (fun W2 hW2 K' hK => ?_)
    refine wp_append_L (α := Bool) (S := Old W2) (base := W2.heap.size) (v := .slice none 0 0) (l := []) (m := b.off) eiBools _ _ rfl rfl rfl (OwnL.nil _ _ _ _) ((s2.keep (by repeat (first | (with_reducible exact Keeps.refl _ _) | (with_reducible apply Keeps.s_alloc) | (with_reducible apply Keeps.s_drew) | (with_reducible apply Keeps.s_drewN) | (with_reducible refine Keeps.s_step ?_ (by with_reducible assumption)) | (with_reducible refine Keeps.s_wrote ?_ (by with_reducible assumption) (by first | exact Or.inr rfl | exact rfl))))).flat _) b.off.length (by simp) b.off rfl (by simp only [maxLen]; omega) (by omega) (Nat.le_refl _) (fun r2 m2 w2 hown2 hg2 => ?_)
    have hv2 := hown2.fresh
    have hS2 : Step W2 w2 := .of ((Below.refl _ W2).grown hg2 (Nat.le_refl _) (by simp [Value.ownBlock]))
    refine hK _ _ hS2 ?_
    (try simp only [Act.put, List.setIfInBounds_toArray, List.set_cons_zero, List.set_cons_succ])
    repeat ((refine run_want rfl rfl (by rfl) ⟨?_, fun W hW => ?_, ?_⟩; rotate_left; (· (obtain ⟨hc'', hf''⟩ := hW.cells; go_simp; (try with_reducible rfl)))); (try simp only [Act.put, List.setIfInBounds_toArray, List.set_cons_zero, List.set_cons_succ]))
    refine run_alloc rfl rfl (fun W5 g hW5 hg hgb hgN => ?_)
    (try simp only [Act.put, List.setIfInBounds_toArray, List.set_cons_zero, List.set_cons_succ])
    refine run_end (L := [_]) rfl (fun W6 hW6 => ?_)
    have hb6 := Bx.step (w := W5) (cs := [_, _, _, _, _, _]) hg hW6
    refine wpl_store (v := .agg #[.int .i64 b.agency, .slice r1 b.seats.length m1, .slice r2 b.off.length m2, .int .i64 b.sent, .slice none 0 0, .int .i64 b.cash]) rfl _ _ _ rfl rfl rfl hb6 (by kernel_rfl) (by simp [Value.cells]) (by simp [Value.cells, Value.oneCell']) [.int .i64 b.agency, .slice r1 b.seats.length m1, .slice r2 b.off.length m2, .int .i64 b.sent, .slice none 0 0, .int .i64 b.cash] rfl (fun w7 hb7 hw7 => ?_)
    obtain ⟨⟨_, n1⟩, n2⟩ := hgN
    have zhW1 := hW1.size; have zhW2 := hW2.size; have zhS1 := hS1.size; have zhS2 := hS2.size
    have hgb' : w.heap.size + 2 ≤ g := by simpa using hgb
    have o1 : ∀ j, j < w1.heap.size → j < w.heap.size + 2 ∨ j = g → j < W1.heap.size := fun j hj hs => by omega
    have o2 : ∀ j, j < w2.heap.size → j < w.heap.size + 2 ∨ j = g → j < W2.heap.size := fun j hj hs => by omega
    have q1 := hv1.later (w' := w7) o1 (by repeat (first | (with_reducible exact Keeps.refl _ _) | (with_reducible apply Keeps.s_alloc) | (with_reducible apply Keeps.s_drew) | (with_reducible apply Keeps.s_drewN) | (with_reducible refine Keeps.s_step ?_ (by with_reducible assumption)) | (with_reducible refine Keeps.s_wrote ?_ (by with_reducible assumption) (by first | exact Or.inr rfl | exact rfl))))
    have q2 := hv2.later (w' := w7) o2 (by repeat (first | (with_reducible exact Keeps.refl _ _) | (with_reducible apply Keeps.s_alloc) | (with_reducible apply Keeps.s_drew) | (with_reducible apply Keeps.s_drewN) | (with_reducible refine Keeps.s_step ?_ (by with_reducible assumption)) | (with_reducible refine Keeps.s_wrote ?_ (by with_reducible assumption) (by first | exact Or.inr rfl | exact rfl))))
    have q5 := Step.wrote (w' := w7) (Step.trans hW0 (by repeat (first | (with_reducible assumption) | (with_reducible exact Step.refl _) | (with_reducible apply Step.s_alloc) | (with_reducible apply Step.s_drew) | (with_reducible apply Step.s_drewN) | (with_reducible refine Step.trans ?_ (by with_reducible assumption))))) hw7 (by simpa using hgb)
    clear hv1 hv2 hS1 hS2 hW0 hW1 hW2 hW5 hW6
    go_wp2_with fail
    go_meet
    exact ⟨g, _, _, rfl, hgb', hb7.lt, hb7, ⟨q1, q2⟩, q5⟩
  case rest =>
    obtain ⟨g, q1, q2, rfl, hg, hgl, b3, ⟨t1, t2⟩, hS⟩ := hcut
    have b1 := (Bx.new w [.int .i64 b.agency, .slice p1 b.seats.length k1, .slice p2 b.off.length k2, .int .i64 b.sent, .slice p4 b.took.length k4, .int .i64 b.cash] 30).alloc (.cells #[.int .i64 0, .slice none 0 0, .slice none 0 0, .int .i64 0, .slice none 0 0, .int .i64 0] 36) |>.step hS
    have b2 : Bx wc (w.heap.size + 1) [.int .i64 0, .slice none 0 0, .slice none 0 0, .int .i64 0, .slice none 0 0, .int .i64 0] 36 := by
      have := (Bx.new (w.alloc (.cells #[.int .i64 b.agency, .slice p1 b.seats.length k1, .slice p2 b.off.length k2, .int .i64 b.sent, .slice p4 b.took.length k4, .int .i64 b.cash] 30)) [.int .i64 0, .slice none 0 0, .slice none 0 0, .int .i64 0, .slice none 0 0, .int .i64 0] 36).step hS
      simpa using this
    have hB0 : Below w.heap.size w wc := Below.trans (((Below.refl _ w).alloc (Nat.le_refl _) _).alloc (by simp) _) (hS.below.mono (by simp; omega))
    clear hS
    go_wp2
    go_loopw [4] (fun i wr => ∃ (k : Nat) (q0 : Value), k ≤ b.took.length ∧ i = .int .i64 k ∧ Bx wr g [.int .i64 b.agency, q1, q2, .int .i64 b.sent, q0, .int .i64 b.cash] 36 ∧ OwnL (fun j => j < w.heap.size + 2 ∨ j = g) wc.heap.size 124 wr q0 (b.took.take k) ∧ Keeps (fun j => j = g) wc wr ∧ Below w.heap.size w wr) (fun i _ => b.took.length - (intOf i).toNat)
    case atStart => exact ⟨0, _, Nat.zero_le _, rfl, b3, OwnL.nil _ _ _ _, Keeps.refl _ _, hB0⟩
    case round =>
      obtain ⟨k, q0, hk, rfl, b3, hown, hK, hB⟩ := hrel
      have b1 := b1.keep hK (by omega)
      have c1 := b1.cell 4
      simp only [List.getElem?_cons_zero, List.getElem?_cons_succ] at c1
      by_cases hlt : k < b.took.length
      · go_wp2_with fail
        obtain ⟨p4', k4', sb, so, he0, _, _, hsp, hsc, hs0⟩ := s4.keys
        injection he0 with he1 he2 he3
        subst he1 he3
        obtain rfl := hsp (by omega)
        have hsb := hs0 (by omega)
        obtain ⟨a1, a2⟩ := hsc k hlt
        have a1 := (hB.cell (p := ⟨sb, so + k * 2, none⟩) hsb.1).trans a1
        have a2 := (hB.cell (p := ⟨sb, so + k * 2 + 1, none⟩) hsb.1).trans a2
        have c3 := b3.cell 4
        simp only [List.getElem?_cons_zero, List.getElem?_cons_succ] at c3
        have x1 : ¬ q0.ownBlock = some w.heap.size := fun e => by have := (hown.lt _ e).1; have := hB0.size; omega
        have x2 : ¬ q0.ownBlock = some sb := fun e => by have := (hown.lt _ e).1; have := hB0.size; omega
        have x3 : ¬ q0.ownBlock = some g := fun e => by have := (hown.lt _ e).1; omega
        have hx : (0 : Int) ≤ (k : Int) ∧ (k : Int) < (b.took.length : Int) := by omega
        refine wp_region_seq (kdOf [15] []) [0, 1, 0, 4, 0, 28, 60, 124, 0, 256, 0, 1792, 3840, 7936, 16380, 32764, 65535, 131071, 262143] [0, 1, 2, 3, 4, 5, 6, 7, 8, 9, 10, 11, 12, 13, 14, 15] [16, 17, 18] (by kernel_rfl) (by kernel_rfl) (fun i T z hi hk => by simp [kdOf] at hk <;> (try (split at hk <;> cases hk))) ?_
        intro W0 hW0
        repeat ((refine run_want rfl rfl (by rfl) ⟨?_, fun W hW => ?_, ?_⟩; rotate_left; (· (have d1 := (hW0.trans hW).keeps.cell id c1; have d3 := (hW0.trans hW).keeps.cell id c3; have e1 := (hW0.trans hW).keeps.cell id a1; have e2 := (hW0.trans hW).keeps.cell id a2; go_simp; (try with_reducible rfl)))); (try simp only [Act.put, List.setIfInBounds_toArray, List.set_cons_zero, List.set_cons_succ]))
        refine run_chain rfl rfl (by rfl) (fun W1 hW1 K' hK' => ?_)
        go_simp
        refine hK' _ _ (.of (Step.alloc _ _)) ?_
        (try simp only [Act.put, List.setIfInBounds_toArray, List.set_cons_zero, List.set_cons_succ])
        refine run_end (L := [_, _, _]) rfl (fun W2 hW2 => ?_)
        have hown2 := ((hown.below hW0.below).below hW1.below).alloc (.cells #[.int .i64 b.took[k].frm, .int .i64 b.took[k].number] 124)
        have hu := SLe.one (S := avoid (fun j => j < w.heap.size + 2 ∨ j = g) q0) (w := W1) (cs := [.int .i64 b.took[k].frm, .int .i64 b.took[k].number]) (x := b.took[k]) 124 rfl
        have hown3 := hown2.step hW2
        have hu3 := hu.step hW2
        have b3 := ((b3.step hW0).step hW1).alloc (.cells #[.int .i64 b.took[k].frm, .int .i64 b.took[k].number] 124) |>.step hW2
        have hST : Step wr W2 := ((hW0.trans hW1).trans (Step.alloc _ _)).trans hW2
        clear hW0 hW1 hown2 hu
        have hn1 : (b.took.take k).length + [b.took[k]].length = k + 1 := by simp; omega
        have hn2 : k + 1 ≤ maxLen := by simp only [maxLen]; omega
        have hn3 : wc.heap.size ≤ W2.heap.size := Nat.le_trans hK.1 hST.size
        have hn4 := (List.take_succ_eq_append_getElem hlt).symm
        go_wp2_with (at_builtin; refine wpl_append (S := fun j => j < w.heap.size + 2 ∨ j = g) (base := wc.heap.size) (v := q0) (l := b.took.take k) (m := [b.took[k]]) eiKeys rfl _ _ rfl rfl rfl hown3 hu3 (k + 1) hn1 (b.took.take (k + 1)) hn4 hn2 (by omega) hn3 ?_)
        intro p' c' w2 hown4 hg4
        have b4 := b3.keep (S := fun j => q0.ownBlock = some j) (.grown hg4 fun j hj _ => hj) x3
        have c4 := b4.cell 4
        simp only [List.getElem?_cons_zero, List.getElem?_cons_succ] at c4
        have f4 := b4.frozen 4
        have hz2 := hST.size
        have hz4 := hg4.size
        have hz0 := hK.1
        have hK4 : Keeps (fun j => j = g) wc w2 := ⟨by omega, fun j hj hs => (hg4.block j (by omega) (fun e => by have := (hown.lt j e.symm).1; omega)).trans ((hK.trans (.of_step hST)).2 j hj hs)⟩
        have hB4 : Below w.heap.size w w2 := (hB.step (Nat.le_refl _) hST).grown hg4 (by have := hB.size; omega) (fun j hj => by have := (hown.lt j hj).1; have := hB0.size; omega)
        have x4 : (Value.slice p' (k + 1) c').ownBlock ≠ some g := fun e => by have := (hown4.lt _ e).1; omega
        go_wp2
        go_roundw
        case rel =>
          exact ⟨k + 1, _, by omega, by go_num, b4.setCell 4 _, hown4.wrote (.setCell _ _ _ _) (.inr rfl) x4, hK4.s_wrote (.setCell _ _ _ _) rfl, hB4.setCell (p := ⟨g, 4, none⟩) (by show w.heap.size ≤ g; omega) _⟩
        case measure => simp [intOf]; omega
      · have b2 := b2.keep hK (by omega)
        have hkl : b.took.take k = b.took := List.take_of_length_le (by omega)
        rw [hkl] at hown
        obtain ⟨e0, e1, e2, e3, e4, e5⟩ := cells6 b3
        obtain ⟨g0, g1, g2, g3, g4, g5⟩ := cells6 b2
        have tf0 := b2.frozen 0
        have tf1 := b2.frozen 1
        have tf2 := b2.frozen 2
        have tf3 := b2.frozen 3
        have tf4 := b2.frozen 4
        have tf5 := b2.frozen 5
        obtain ⟨y4, x4, rfl, _⟩ := hown.form
        obtain ⟨y1, x1', rfl⟩ := t1.form
        obtain ⟨y2, x2, rfl⟩ := t2.form
        go_wp2
        have b5 := ((((((b2.setCell 0 (.int .i64 b.agency)).setCell 1 (.slice y1 b.seats.length x1')).setCell 2 (.slice y2 b.off.length x2)).setCell 3 (.int .i64 b.sent)).setCell 4 (.slice y4 b.took.length x4)).setCell 5 (.int .i64 b.cash))
        have hK5 := ((((((Keeps.refl (fun j => j = w.heap.size + 1) wr).s_wrote (.setCell _ (w.heap.size + 1) 0 (.int .i64 b.agency)) rfl).s_wrote (.setCell _ (w.heap.size + 1) 1 (.slice y1 b.seats.length x1')) rfl).s_wrote (.setCell _ (w.heap.size + 1) 2 (.slice y2 b.off.length x2)) rfl).s_wrote (.setCell _ (w.heap.size + 1) 3 (.int .i64 b.sent)) rfl).s_wrote (.setCell _ (w.heap.size + 1) 4 (.slice y4 b.took.length x4)) rfl).s_wrote (.setCell _ (w.heap.size + 1) 5 (.int .i64 b.cash)) rfl
        have hB5 := (((((hB.setCell (p := ⟨w.heap.size + 1, 0, none⟩) (by simp) (.int .i64 b.agency)).setCell (p := ⟨w.heap.size + 1, 1, none⟩) (by simp) (.slice y1 b.seats.length x1')).setCell (p := ⟨w.heap.size + 1, 2, none⟩) (by simp) (.slice y2 b.off.length x2)).setCell (p := ⟨w.heap.size + 1, 3, none⟩) (by simp) (.int .i64 b.sent)).setCell (p := ⟨w.heap.size + 1, 4, none⟩) (by simp) (.slice y4 b.took.length x4)).setCell (p := ⟨w.heap.size + 1, 5, none⟩) (by simp) (.int .i64 b.cash)
        refine ret_struct (k := 6) rfl siBook rfl b5 rfl rfl ⟨_, rfl, ⟨_, rfl, ⟨_, _, _, rfl, ?_, ?_, ?_⟩⟩, .of hB5⟩
        all_goals refine SL.keep (S := fun j => j < w.heap.size + 2 ∨ j = g) (hK5.mono fun j _ hj => by omega) ?_ |>.weak fun j _ hj => by unfold Old at hj; omega
        · exact t1.keep (hK.mono fun j _ hj => .inr hj)
        · exact t2.keep (hK.mono fun j _ hj => .inr hj)
        · exact hown.sl fun g' h1 h2 h3 => by omega
end Go.Proofs.Ytbgfmikbhiblgaa
/- Walks: same, empty. -/
namespace Go.Proofs.Ytbgfmikbhiblgaa
set_option linter.unusedSimpArgs false
set_option linter.unusedVariables false
open Go.RowKit Go.BT

theorem empty_any (S : Nat → Prop) (a : Book) (va : Value) (w : World) (ha : AV S w va a) :
    Calls Try.prog 18 #[va] w fun e w' => e = .returned (.bool (alikeB a noBook)) ∧ Step w w' := by
  obtain ⟨cs, rfl, hr⟩ := ha
  have hr0 := hr
  obtain ⟨x1, x2, x4, rfl, h1, h2, h4⟩ := hr
  obtain ⟨p1, k1, rfl⟩ := h1.form
  obtain ⟨p2, k2, rfl⟩ := h2.form
  obtain ⟨p4, k4, rfl⟩ := h4.form
  have hS := Step.alloc w (.cells #[.int .i64 a.agency, .slice p1 a.seats.length k1, .slice p2 a.off.length k2, .int .i64 a.sent, .slice p4 a.took.length k4, .int .i64 a.cash] 36)
  have HR := Lib.hid (Rep.keep (.of_step hS) hr0)
  clear h1 h2 h4 hr0
  go_enter Try.func18, Try.ntmps18
  go_wp2_with fail
  refine (alike_any S a noBook _ _ _ ⟨_, rfl, HR.out⟩ ⟨_, rfl, noBook_rep _ _⟩).mono ?_
  rintro e wn ⟨rfl, hSn⟩
  go_wp2
  go_ret
  exact ⟨rfl, hS.trans hSn⟩

theorem same_any (S : Nat → Prop) (a b : Book) (va vb : Value) (w : World) (ha : AV S w va a) (hb : AV S w vb b) (hf : thinP b) :
    Calls Try.prog 20 #[va, vb] w fun e w' => e = .returned (.bool (alikeB a b)) ∧ Step w w' := by
  obtain ⟨cs, rfl, hr⟩ := ha
  have hr0 := hr
  obtain ⟨x1, x2, x4, rfl, h1, h2, h4⟩ := hr
  obtain ⟨p1, k1, rfl⟩ := h1.form
  obtain ⟨p2, k2, rfl⟩ := h2.form
  obtain ⟨p4, k4, rfl⟩ := h4.form
  obtain ⟨cs, rfl, hq⟩ := hb
  have hq0 := hq
  obtain ⟨y1, y2, y4, rfl, s1, s2, s4⟩ := hq
  obtain ⟨q1, m1, rfl⟩ := s1.form
  obtain ⟨q2, m2, rfl⟩ := s2.form
  obtain ⟨q4, m4, rfl⟩ := s4.form
  obtain ⟨W0, hW0⟩ : ∃ W0, W0 = (w.alloc (.cells #[.int .i64 a.agency, .slice p1 a.seats.length k1, .slice p2 a.off.length k2, .int .i64 a.sent, .slice p4 a.took.length k4, .int .i64 a.cash] 36)).alloc (.cells #[.int .i64 b.agency, .slice q1 b.seats.length m1, .slice q2 b.off.length m2, .int .i64 b.sent, .slice q4 b.took.length m4, .int .i64 b.cash] 30) := ⟨_, rfl⟩
  have hb1 : Bx W0 w.heap.size [.int .i64 a.agency, .slice p1 a.seats.length k1, .slice p2 a.off.length k2, .int .i64 a.sent, .slice p4 a.took.length k4, .int .i64 a.cash] 36 := by subst hW0; exact (Bx.new _ _ _).alloc _
  have hb2 : Bx W0 (w.heap.size + 1) [.int .i64 b.agency, .slice q1 b.seats.length m1, .slice q2 b.off.length m2, .int .i64 b.sent, .slice q4 b.took.length m4, .int .i64 b.cash] 30 := by subst hW0; exact Bx.new' _ _ _ _ (by simp)
  have hS : Step w W0 := by subst hW0; exact (by repeat (first | (with_reducible assumption) | (with_reducible exact Step.refl _) | (with_reducible apply Step.s_alloc) | (with_reducible apply Step.s_drew) | (with_reducible apply Step.s_drewN) | (with_reducible refine Step.trans ?_ (by with_reducible assumption))))
  have HB1 := Lib.hid hb1
  have HB2 := Lib.hid hb2
  have HR := Lib.hid (Rep.keep (.of_step hS) hr0)
  have HQ := Lib.hid (Rep.keep (.of_step hS) hq0)
  have HS := Lib.hid hS
  have HT := Lib.hid (Step.refl W0)
  have HW := Lib.hid hW0
  clear hb1 hb2 hS h1 h2 h4 s1 s2 s4 hr0 hq0 hW0
  go_enter Try.func20, Try.ntmps20
  go_upto_region 1 with fail
  rw [← HW.out]
  clear HW
  refine wp_region_seq (kdOf [2, 3] []) [0, 0, 2, 7, 15] [0, 1, 2, 3, 4] [] (by kernel_rfl) (by kernel_rfl) (fun i T z hi hk => by simp [kdOf] at hk <;> (try (split at hk <;> cases hk))) ?_
  intro Wx hWx
  have HT := Lib.hid hWx
  clear hWx
  obtain ⟨e0, e1, e2, e3, e4, e5⟩ := cells6 (HB1.out.step HT.out)
  obtain ⟨f0, f1, f2, f3, f4, f5⟩ := cells6 (HB2.out.step HT.out)
  have z1 := (HB1.out.step HT.out).lt
  have z2 := (HB2.out.step HT.out).lt
  repeat (first | (refine run_off rfl rfl (by rfl) ?_; (try simp only [Act.put, List.setIfInBounds_toArray, List.set_cons_zero, List.set_cons_succ])) | (refine run_chain_off rfl rfl (by rfl) (K0_mono _) ?_; (try simp only [Act.put, List.setIfInBounds_toArray, List.set_cons_zero, List.set_cons_succ])) | ((refine run_want rfl rfl (by rfl) ⟨?_, fun W hW => ?_, ?_⟩; rotate_left; (· (obtain ⟨hc'', hf''⟩ := hW.cells; go_simp; (try with_reducible rfl)))); (try simp only [Act.put, List.setIfInBounds_toArray, List.set_cons_zero, List.set_cons_succ])))
  refine run_chain rfl rfl (by rfl) (fun Wi hWi K' hK => ?_)
  have HTi := Lib.hid (HT.out.trans hWi)
  have HZW := Lib.hid HTi.out.size
  clear hWi HT
  go_simp
  refine (Book_any S b _ _ ⟨_, rfl, Rep.keep (.of_step HTi.out) HQ.out⟩ hf).mono ?_
  rintro e wn ⟨v', rfl, hv', hSn⟩
  have HT := Lib.hid (HTi.out.trans (StepX.of hSn))
  clear HTi
  have HV := Lib.hid (And.intro hSn hv')
  refine hK _ _ (StepX.of hSn) ?_
  clear hSn
  (try simp only [Act.put, List.setIfInBounds_toArray, List.set_cons_zero, List.set_cons_succ])
  repeat (first | (refine run_off rfl rfl (by rfl) ?_; (try simp only [Act.put, List.setIfInBounds_toArray, List.set_cons_zero, List.set_cons_succ])) | (refine run_chain_off rfl rfl (by rfl) (K0_mono _) ?_; (try simp only [Act.put, List.setIfInBounds_toArray, List.set_cons_zero, List.set_cons_succ])) | ((refine run_want rfl rfl (by rfl) ⟨?_, fun W hW => ?_, ?_⟩; rotate_left; (· (obtain ⟨hc'', hf''⟩ := hW.cells; go_simp; (try with_reducible rfl)))); (try simp only [Act.put, List.setIfInBounds_toArray, List.set_cons_zero, List.set_cons_succ])))
  refine run_chain rfl rfl (by rfl) (fun Wj hWj K' hK => ?_)
  have hA : AV (fun _ => False) Wj v' b := (AV.keep (.of_step hWj) HV.out.2).weak fun _ _ h => h.elim
  have HTi := Lib.hid (HT.out.trans hWj)
  clear hWj HT
  go_simp
  refine (alike_any (fun _ => False) a b _ _ _ ⟨_, rfl, Rep.weak (fun _ _ h => h.elim) (Rep.keep (.of_step HTi.out) HR.out)⟩ hA).mono ?_
  rintro e wn ⟨rfl, hSn⟩
  have HT := Lib.hid (HTi.out.trans hSn)
  clear HTi
  refine hK _ _ (StepX.of hSn) ?_
  clear hSn
  (try simp only [Act.put, List.setIfInBounds_toArray, List.set_cons_zero, List.set_cons_succ])
  repeat (first | (refine run_off rfl rfl (by rfl) ?_; (try simp only [Act.put, List.setIfInBounds_toArray, List.set_cons_zero, List.set_cons_succ])) | (refine run_chain_off rfl rfl (by rfl) (K0_mono _) ?_; (try simp only [Act.put, List.setIfInBounds_toArray, List.set_cons_zero, List.set_cons_succ])) | ((refine run_want rfl rfl (by rfl) ⟨?_, fun W hW => ?_, ?_⟩; rotate_left; (· (obtain ⟨hc'', hf''⟩ := hW.cells; go_simp; (try with_reducible rfl)))); (try simp only [Act.put, List.setIfInBounds_toArray, List.set_cons_zero, List.set_cons_succ])))
  refine run_end (L := []) rfl (fun W6 hW6 => ?_)
  have HT6 := Lib.hid (HT.out.trans hW6)
  clear hW6 HT
  have HT := HT6
  clear HT6
  go_wp2
  go_ret
  exact ⟨rfl, HS.out.trans HT.out⟩
end Go.Proofs.Ytbgfmikbhiblgaa
