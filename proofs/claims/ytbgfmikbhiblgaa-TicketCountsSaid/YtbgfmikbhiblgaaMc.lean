/- The functions of the ticket package that say whether a house is valid are walked. -/
import Derived.Test.YtbgfmikbhiblgaaMa
import Derived.Test.YtbgfmikbhiblgaaMb
import Derived.Test.YtbgfmikbhiblgaaRows
import Derived.BigQuiet
import Derived.Deep.AppendLies
import Derived.Deep.DeepCutAuto
import Derived.Deep.QuietTactic
import Derived.Deep.RegionHeld3
import Derived.Laws.MakeOwn
import Derived.Lib.Hide
import Derived.Shelf.Abstract
import Derived.WalkKit
import Derived.WalkLawsBesides
import Derived.WalkSmall
/- Walks: the program's small functions over numbers and sectors. -/
namespace Go.Proofs.Ytbgfmikbhiblgaa
set_option linter.unusedSimpArgs false
set_option linter.unusedVariables false
open Go.RowKit Go.BT

def withinB (n lo hi : Int) : Bool := decide (lo ≤ n ∧ n ≤ hi)
theorem ret_bool {a b : Bool} (h : a = b) : Ending.returned (.bool a) = .returned (.bool b) := by rw [h]
theorem ret_int {a b : Int} (h : a = b) : Ending.returned (.int .i64 a) = .returned (.int .i64 b) := by rw [h]

theorem ticket.within_any (n lo hi : Int) (w : World) : Calls Try.prog 60 #[.int .i64 n, .int .i64 lo, .int .i64 hi] w fun e w' => e = .returned (.bool (withinB n lo hi)) ∧ w = w' := by
  by_cases h1 : lo ≤ n
  · go_enter Try.func60, Try.ntmps60
    go_wp2
    go_ret
    exact ⟨by simp [withinB, h1], rfl⟩
  · have hd : decide (lo ≤ n) = false := by simpa using h1
    go_enter Try.func60, Try.ntmps60
    go_wp2
    go_ret
    exact ⟨by simp [withinB]; omega, rfl⟩
theorem bigtopref08.In_any (n lo hi : Int) (w : World) : Calls Try.prog 28 #[.int .i64 n, .int .i64 lo, .int .i64 hi] w fun e w' => e = .returned (.bool (withinB n lo hi)) ∧ w = w' := by
  by_cases h1 : lo ≤ n
  · go_enter Try.func28, Try.ntmps28
    go_wp2
    go_ret
    exact ⟨by simp [withinB, h1], rfl⟩
  · have hd : decide (lo ≤ n) = false := by simpa using h1
    go_enter Try.func28, Try.ntmps28
    go_wp2
    go_ret
    exact ⟨by simp [withinB]; omega, rfl⟩

theorem every1_any (n lo hi : Int) (b c : Nat) (w : World) (h1 : w.cell? ⟨b, 0, none⟩ = some (.int .i64 lo)) (h2 : w.cell? ⟨c, 0, none⟩ = some (.int .i64 hi)) :
    Calls Try.prog 115 #[.int .i64 n, .pointer (some ⟨b, 0, none⟩), .pointer (some ⟨c, 0, none⟩)] w fun e w' => e = .returned (.bool (withinB n lo hi)) ∧ w = w' := by
  go_enter Try.func115, Try.ntmps115
  go_wp2_with fail
  refine (ticket.within_any _ _ _ _).mono ?_
  rintro e w' ⟨rfl, rfl⟩
  go_wp2
  go_ret
  exact ⟨rfl, rfl⟩

set_option maxHeartbeats 1000000 in
theorem every_any (S : Nat → Prop) (l : List Int) (v : Value) (lo hi : Int) (w : World) (h : SL S w v l) :
    Calls Try.prog 91 #[v, .int .i64 lo, .int .i64 hi] w fun e w' => e = .returned (.bool (l.all fun n => withinB n lo hi)) ∧ Step w w' := by
  have hmf : ∀ (fn : Fn) (first cap : Array Value) (w : World), (Instr.makeFunc fn first cap).run Try.prog w = .ok (.func fn first cap) w := fun _ _ _ _ => rfl
  have hs : Step w ((w.alloc (.cells #[.int .i64 lo] 3)).alloc (.cells #[.int .i64 hi] 3)) := (Step.alloc _ _).trans (Step.alloc _ _)
  have b1 := (Bx.new w [.int .i64 lo] 3).alloc (.cells #[.int .i64 hi] 3)
  have b2 : Bx ((w.alloc (.cells #[.int .i64 lo] 3)).alloc (.cells #[.int .i64 hi] 3)) (w.heap.size + 1) [.int .i64 hi] 3 := by
    have := Bx.new (w.alloc (.cells #[.int .i64 lo] 3)) [.int .i64 hi] 3
    simpa using this
  have hc := all_int S l v ((w.alloc (.cells #[.int .i64 lo] 3)).alloc (.cells #[.int .i64 hi] 3)) 115 #[.pointer (some ⟨w.heap.size, 0, none⟩), .pointer (some ⟨w.heap.size + 1, 0, none⟩)]
    (Go.Proofs.enters_of Try.func115 (by kernel_rfl) rfl) (fun n => withinB n lo hi) (fun _ W => Step ((w.alloc (.cells #[.int .i64 lo] 3)).alloc (.cells #[.int .i64 hi] 3)) W) (fun _ => False) (fun _ h => h.elim)
    (fun _ W hW => h.keep (.of_step (hs.trans hW))) (fun _ _ _ h1 h2 => h1.trans h2) (Step.refl _) (fun i hi W u hW _ hu => by
      subst hu
      refine (every1_any l[i] lo _ w.heap.size (w.heap.size + 1) W ((b1.step hW).cell 0) ((b2.step hW).cell 0)).mono ?_
      rintro e w' ⟨rfl, rfl⟩
      exact ⟨rfl, hW, Step.refl _⟩)
  have HC := Lib.hid hc
  clear hc b1 b2
  go_enter Try.func91, Try.ntmps91
  go_wp2_with fail
  refine HC.out.mono ?_
  rintro e w' ⟨rfl, hk⟩
  have HK := Lib.hid hk
  clear hk
  go_wp2
  go_ret
  obtain ⟨k, _, _, h3⟩ := HK.out
  exact ⟨rfl, hs.trans h3⟩
end Go.Proofs.Ytbgfmikbhiblgaa
/- Walks: what a house says of its seats: rises, size, class, agencies, price. -/
namespace Go.Proofs.Ytbgfmikbhiblgaa
set_option linter.unusedSimpArgs false
set_option linter.unusedVariables false
open Go.RowKit Go.BT

def sizeL (l : List Sector) : Int := (l.map (·.seats)).sum
def classL : List Sector → Int → Int
  | [], _ => 0
  | s :: l, n => if n < s.seats then s.cls else classL l (n - s.seats)
/-- Sectors whose seats may be counted. -/
def okSec (l : List Sector) : Prop := l.length ≤ 1000 ∧ ∀ i (h : i < l.length), 0 ≤ l[i].seats ∧ l[i].seats ≤ 1000
theorem sizeL_take {l : List Sector} {k : Nat} (h : k < l.length) : sizeL (l.take (k + 1)) = sizeL (l.take k) + l[k].seats := by
  unfold sizeL
  rw [List.take_succ_eq_append_getElem h, List.map_append, List.sum_append]
  simp only [List.map_cons, List.map_nil, List.sum_cons, List.sum_nil, Int.add_zero]
theorem sizeL_bound {l : List Sector} (h : okSec l) : ∀ k, k ≤ l.length → 0 ≤ sizeL (l.take k) ∧ sizeL (l.take k) ≤ 1000 * k
  | 0, _ => by simp [sizeL]
  | k + 1, hk => by
    have := sizeL_bound h k (by omega)
    have h2 := h.2 k (by omega)
    rw [sizeL_take (by omega)]
    omega

set_option maxHeartbeats 1000000 in
theorem size_any (S : Nat → Prop) (h : House) (v : Value) (w : World) (hv : AV S w v h) (hf : okSec h.sectors) :
    Calls Try.prog 61 #[v] w fun e w' => e = .returned (.int .i64 (sizeL h.sectors)) ∧ Step w w' := by
  obtain ⟨c0, c1, c2, c3, c4, rfl, h0, h1, h2, h3, h4⟩ := hv.house
  obtain ⟨p0, k0, rfl⟩ := h0.form
  obtain ⟨p1, k1, rfl⟩ := h1.form
  obtain ⟨p2, k2, rfl⟩ := h2.form
  obtain ⟨p3, k3, rfl⟩ := h3.form
  obtain ⟨p4, k4, rfl⟩ := h4.form
  obtain ⟨p', c', b, o, he, _, hm, hp, hc, hb⟩ := h0.sectors
  injection he with he1 he2 he3
  subst he1 he3
  have HF := Lib.hid hf
  have HC := Lib.hid hc
  have HP := Lib.hid hp
  have HB := Lib.hid hb
  clear hv h0 h1 h2 h3 h4 hf hc hp hb he2
  go_enter Try.func61, Try.ntmps61
  go_wp2
  go_loopw [2, 8] (fun s i wr => ∃ k : Nat, k ≤ h.sectors.length ∧ i = .int .i64 k ∧ s = .int .i64 (sizeL (h.sectors.take k)) ∧ Below w.heap.size w wr) (fun _ i _ => h.sectors.length - (intOf i).toNat)
  case atStart => exact ⟨0, Nat.zero_le _, rfl, rfl, (Below.refl _ w).alloc (Nat.le_refl _) _⟩
  case round =>
    obtain ⟨k, hk, rfl, rfl, hB⟩ := hrel
    by_cases hlt : k < h.sectors.length
    · obtain rfl := HP.out (by omega)
      obtain ⟨e1, e2⟩ := HC.out k hlt
      have hbb := (HB.out (by omega)).1
      have e1 := (hB.cell (p := ⟨b, o + k * 2, none⟩) hbb).trans e1
      have e2 := (hB.cell (p := ⟨b, o + k * 2 + 1, none⟩) hbb).trans e2
      have hx : (0 : Int) ≤ (k : Int) ∧ (k : Int) < (h.sectors.length : Int) := by omega
      have hsb := sizeL_bound HF.out k hk
      have hsk := HF.out.2 k hlt
      have hk1000 := HF.out.1
      go_wp2
      go_roundw
      case rel => exact ⟨k + 1, by omega, by go_num, by rw [sizeL_take hlt], by first | exact (hB.alloc hB.size _) | exact (hB.alloc hB.size _).setCell (by simp [hB.size]) _⟩
      case measure => simp [intOf]; omega
    · go_wp2
      have hkl : h.sectors.take k = h.sectors := List.take_of_length_le (by omega)
      go_ret
      rw [hkl]
      exact ⟨rfl, .of hB⟩

theorem classL_step {l : List Sector} {k : Nat} {n : Int} (h : k < l.length) (hn : ¬ n < l[k].seats) : classL (l.drop k) n = classL (l.drop (k + 1)) (n - l[k].seats) := by
  rw [List.drop_eq_getElem_cons h]; simp only [classL, hn, if_false]
theorem classL_hit {l : List Sector} {k : Nat} {n : Int} (h : k < l.length) (hn : n < l[k].seats) : classL (l.drop k) n = l[k].cls := by
  rw [List.drop_eq_getElem_cons h]; simp only [classL, hn, if_true]

set_option maxHeartbeats 1000000 in
theorem class_any (S : Nat → Prop) (h : House) (v : Value) (n : Int) (w : World) (hv : AV S w v h) (hf : okSec h.sectors) (hn : 0 ≤ n ∧ n ≤ 1000000000) :
    Calls Try.prog 62 #[v, .int .i64 n] w fun e w' => e = .returned (.int .i64 (classL h.sectors n)) ∧ Step w w' := by
  obtain ⟨c0, c1, c2, c3, c4, rfl, h0, h1, h2, h3, h4⟩ := hv.house
  obtain ⟨p0, k0, rfl⟩ := h0.form
  obtain ⟨p1, k1, rfl⟩ := h1.form
  obtain ⟨p2, k2, rfl⟩ := h2.form
  obtain ⟨p3, k3, rfl⟩ := h3.form
  obtain ⟨p4, k4, rfl⟩ := h4.form
  obtain ⟨p', c', b, o, he, _, hm, hp, hc, hb⟩ := h0.sectors
  injection he with he1 he2 he3
  subst he1 he3
  have HF := Lib.hid hf
  have HC := Lib.hid hc
  have HP := Lib.hid hp
  have HB := Lib.hid hb
  clear hv h0 h1 h2 h3 h4 hf hc hp hb he2
  go_enter Try.func62, Try.ntmps62
  go_wp2
  go_loopw [1, 10] (fun s i wr => ∃ (k : Nat) (m : Int), k ≤ h.sectors.length ∧ i = .int .i64 k ∧ s = .int .i64 m ∧ 0 ≤ m ∧ m ≤ n ∧ classL (h.sectors.drop k) m = classL h.sectors n ∧ Below w.heap.size w wr) (fun _ i _ => h.sectors.length - (intOf i).toNat)
  case atStart => exact ⟨0, n, Nat.zero_le _, rfl, rfl, hn.1, Int.le_refl _, rfl, (Below.refl _ w).alloc (Nat.le_refl _) _⟩
  case round =>
    obtain ⟨k, m, hk, rfl, rfl, hm0, hmn, hcl, hB⟩ := hrel
    have HCL := Lib.hid hcl
    clear hcl
    by_cases hlt : k < h.sectors.length
    · obtain rfl := HP.out (by omega)
      obtain ⟨e1, e2⟩ := HC.out k hlt
      have hbb := (HB.out (by omega)).1
      have e1 := (hB.cell (p := ⟨b, o + k * 2, none⟩) hbb).trans e1
      have e2 := (hB.cell (p := ⟨b, o + k * 2 + 1, none⟩) hbb).trans e2
      have hx : (0 : Int) ≤ (k : Int) ∧ (k : Int) < (h.sectors.length : Int) := by omega
      have hsk := HF.out.2 k hlt
      have hk1000 := HF.out.1
      by_cases hs : m < h.sectors[k].seats
      · go_wp2
        have hh := HCL.out
        rw [classL_hit hlt hs] at hh
        go_ret
        rw [← hh]
        exact ⟨rfl, .of (hB.alloc hB.size _)⟩
      · go_wp2
        go_roundw
        case rel => exact ⟨k + 1, _, by omega, by go_num, rfl, by omega, by omega, by rw [← classL_step hlt hs]; exact HCL.out, hB.alloc hB.size _⟩
        case measure => simp [intOf]; omega
    · go_wp2
      have hkl : h.sectors.drop k = [] := List.drop_eq_nil_of_le (by omega)
      have hcl := HCL.out
      rw [hkl] at hcl
      go_ret
      rw [← hcl]
      exact ⟨rfl, .of hB⟩

set_option maxHeartbeats 1000000 in
theorem agencies_any (S : Nat → Prop) (h : House) (v : Value) (w : World) (hv : AV S w v h) (hf : 0 < h.frm.length) :
    Calls Try.prog 63 #[v] w fun e w' => e = .returned (.int .i64 (h.frm[0]'hf).length) ∧ Step w w' := by
  obtain ⟨c0, c1, c2, c3, c4, rfl, h0, h1, h2, h3, h4⟩ := hv.house
  obtain ⟨p0, k0, rfl⟩ := h0.form
  obtain ⟨p1, k1, rfl⟩ := h1.form
  obtain ⟨p2, k2, rfl⟩ := h2.form
  obtain ⟨p3, k3, rfl⟩ := h3.form
  obtain ⟨p4, k4, rfl⟩ := h4.form
  obtain ⟨p', c', b, o, he, _, hm, hp, hc, hb⟩ := h3.rows
  injection he with he1 he2 he3
  subst he1 he3
  obtain rfl := hp hf
  obtain ⟨u, e1, hu⟩ := hc 0 hf
  have hbb := (hb hf).1
  obtain ⟨q, r, rfl⟩ := hu.form
  have e1 : w.cell? ⟨b, o, none⟩ = some (.slice q (h.frm[0]'hf).length r) := by simpa using e1
  have e1 := ((Below.refl w.heap.size w).alloc (Nat.le_refl _) (.cells #[.slice p0 h.sectors.length k0, .slice p1 h.prices.length k1, .slice p2 h.dates.length k2, .slice (some ⟨b, o, none⟩) h.frm.length k3, .slice p4 h.holds.length k4] 43)).cell (p := ⟨b, o, none⟩) hbb |>.trans e1
  have hx : (0 : Int) < (h.frm.length : Int) := by omega
  clear hv h0 h1 h2 h3 h4 hc hp hb he2 hu
  go_enter Try.func63, Try.ntmps63
  go_wp2
  go_ret
  exact ⟨rfl, Step.alloc _ _⟩

set_option maxHeartbeats 1000000 in
theorem price_any (S : Nat → Prop) (h : House) (v : Value) (n : Int) (w : World) (hv : AV S w v h) (hf : okSec h.sectors) (hn : 0 ≤ n ∧ n ≤ 1000000000) (k : Nat) (hkc : classL h.sectors n = k) (hk : k < h.prices.length) :
    Calls Try.prog 88 #[v, .int .i64 n] w fun e w' => e = .returned (.int .i64 h.prices[k]) ∧ Step w w' := by
  obtain ⟨c0, c1, c2, c3, c4, rfl, h0, h1, h2, h3, h4⟩ := hv.house
  obtain ⟨p0, k0, rfl⟩ := h0.form
  obtain ⟨p1, k1, rfl⟩ := h1.form
  obtain ⟨p2, k2, rfl⟩ := h2.form
  obtain ⟨p3, k3, rfl⟩ := h3.form
  obtain ⟨p4, k4, rfl⟩ := h4.form
  obtain ⟨p', c', b, o, he, _, hm, hp, hc, hb⟩ := h1.ints
  injection he with he1 he2 he3
  subst he1 he3
  obtain rfl := hp (by omega)
  have e1 := hc k hk
  have hbb := (hb (by omega)).1
  have hB := (Below.refl w.heap.size w).alloc (Nat.le_refl _) (.cells #[.slice p0 h.sectors.length k0, .slice (some ⟨b, o, none⟩) h.prices.length k1, .slice p2 h.dates.length k2, .slice p3 h.frm.length k3, .slice p4 h.holds.length k4] 43)
  have hcall := fun W (hW : Step w W) => class_any S h _ n W (hv.keep (.of_step hW)) hf hn
  have HCALL := Lib.hid hcall
  have hx : (0 : Int) ≤ (k : Int) ∧ (k : Int) < (h.prices.length : Int) := by omega
  have HX := Lib.hid hkc
  clear hv h0 h1 h2 h3 h4 hc hp hb he2 hcall hkc
  go_enter Try.func88, Try.ntmps88
  go_upto_region 1 with fail
  refine wp_region_seq (kdOf [4] []) [0, 1, 0, 0, 12, 31, 63, 127] [0, 1, 2, 3, 4, 5, 6, 7] [] (by kernel_rfl) (by kernel_rfl) (fun i T z hi hk => by simp [kdOf] at hk <;> (try (split at hk <;> cases hk))) ?_
  intro W0 hW0
  repeat ((refine run_want rfl rfl (by rfl) ⟨?_, fun W hW => ?_, ?_⟩; rotate_left; (· (have d1 := (hW0.trans hW).keeps.cell id ((hB.cell (p := ⟨b, o + k, none⟩) hbb).trans e1); obtain ⟨hc'', hf''⟩ := (hW0.trans hW).cells; go_simp; (try with_reducible rfl)))); (try simp only [Act.put, List.setIfInBounds_toArray, List.set_cons_zero, List.set_cons_succ]))
  refine run_chain rfl rfl (by rfl) (fun W1 hW1 K' hK => ?_)
  go_simp
  have hst : Step w W1 := ((Step.alloc w _).trans hW0).trans hW1
  refine (HCALL.out W1 hst).mono ?_
  rintro e w1 ⟨rfl, hS1⟩
  rw [HX.out]
  refine hK _ _ hS1 ?_
  (try simp only [Act.put, List.setIfInBounds_toArray, List.set_cons_zero, List.set_cons_succ])
  have e1 := (hst.trans hS1).keeps.cell id e1
  repeat ((refine run_want rfl rfl (by rfl) ⟨?_, fun W hW => ?_, ?_⟩; rotate_left; (· (have d1 := hW.keeps.cell id e1; obtain ⟨hc'', hf''⟩ := hW.cells; go_simp; (try with_reducible rfl)))); (try simp only [Act.put, List.setIfInBounds_toArray, List.set_cons_zero, List.set_cons_succ]))
  refine run_end (L := []) rfl (fun W6 hW6 => ?_)
  have hst := (hst.trans hS1).trans hW6
  clear hW0 hW1 hS1 hW6
  go_wp2
  go_ret
  exact ⟨rfl, hst⟩
end Go.Proofs.Ytbgfmikbhiblgaa
/- Walks: whether a house is valid. -/
namespace Go.Proofs.Ytbgfmikbhiblgaa
set_option linter.unusedSimpArgs false
set_option linter.unusedVariables false
open Go.RowKit Go.BT

/-- Numbers that rise. -/
def Rises (l : List Int) (k : Nat) : Prop := ∀ i (h : i + 1 < k) (h' : i + 1 < l.length), l[i] < l[i + 1]
instance (l : List Int) (k : Nat) : Decidable (Rises l k) := decidable_of_iff (∀ i, i < k → ∀ (h' : i + 1 < l.length), i + 1 < k → l[i] < l[i + 1]) ⟨fun h i hi hl => h i (by omega) hl hi, fun h i _ hl hk => h i hk hl⟩
def risesB (l : List Int) : Bool := decide (Rises l l.length)

set_option maxHeartbeats 1000000 in
theorem rises_any (S : Nat → Prop) (l : List Int) (v : Value) (w : World) (h : SL S w v l) :
    Calls Try.prog 92 #[v] w fun e w' => e = .returned (.bool (risesB l)) ∧ Step w w' := by
  obtain ⟨p, c, b, o, rfl, _, hm, hp, hc, h0⟩ := h.ints
  have HC := Lib.hid hc
  have HP := Lib.hid hp
  have HB := Lib.hid h0
  clear h hc hp h0
  go_enter Try.func92, Try.ntmps92
  go_wp2
  go_loopw [6] (fun i wr => ∃ k : Nat, k ≤ l.length ∧ i = .int .i64 k ∧ Rises l k ∧ Step w wr) (fun i _ => l.length - (intOf i).toNat)
  case atStart => exact ⟨0, Nat.zero_le _, rfl, fun i h => absurd h (by omega), Step.refl _⟩
  case round =>
    obtain ⟨k, hk, rfl, hr, hB⟩ := hrel
    have HR := Lib.hid hr
    clear hr
    by_cases hlt : k < l.length
    · obtain rfl := HP.out (by omega)
      have hbb := (HB.out (by omega)).1
      by_cases hk0 : 0 < k
      · have e1 := hB.keeps.cell id (HC.out k hlt)
        have e2 := hB.keeps.cell id (HC.out (k - 1) (by omega))
        have hx : (0 : Int) ≤ (k : Int) ∧ (k : Int) < (l.length : Int) := by omega
        have hx2 : (0 : Int) ≤ ((k : Int) - 1) ∧ ((k : Int) - 1) < (l.length : Int) := by omega
        have hd : decide ((0 : Int) < (k : Int)) = true := by simpa using hk0
        have ht : ((k : Int) - 1).toNat = k - 1 := by omega
        by_cases hle : l[k] ≤ l[k - 1]
        · have hld : decide (l[k] ≤ l[k - 1]) = true := decide_eq_true hle
          go_wp2
          go_quiet (fail)
          go_wp2
          have hn : risesB l = false := by
            unfold risesB
            rw [decide_eq_false_iff_not]
            intro hR
            have := hR (k - 1) (by omega) (by omega)
            have e : k - 1 + 1 = k := by omega
            simp only [e] at this
            omega
          go_ret
          rw [hn]
          exact ⟨rfl, hB.s_drewN _⟩
        · have hld : decide (l[k] ≤ l[k - 1]) = false := decide_eq_false hle
          go_wp2
          go_quiet (fail)
          go_wp2
          go_roundw
          case rel => exact ⟨k + 1, by omega, by go_num, fun i hi hl => by
            by_cases h : i + 1 = k
            · subst h; simp only [Nat.add_sub_cancel] at hle; omega
            · exact HR.out i (by omega) hl, hB.s_drewN _⟩
          case measure => simp [intOf]; omega
      · have hd : decide ((0 : Int) < (k : Int)) = false := by simp; omega
        go_wp2
        go_quiet (fail)
        go_wp2
        go_roundw
        case rel => exact ⟨k + 1, by omega, by go_num, fun i hi hl => by omega, hB.s_drewN _⟩
        case measure => simp [intOf]; omega
    · go_wp2
      have hn : risesB l = true := by
        unfold risesB
        rw [decide_eq_true_eq]
        intro i hi hl
        exact HR.out i (by omega) hl
      go_ret
      rw [hn]
      exact ⟨rfl, hB⟩

theorem cells5 {w : World} {g : Nat} {c0 c1 c2 c3 c4 : Value} {T : TypeId} (h : Bx w g [c0, c1, c2, c3, c4] T) :
    w.cell? ⟨g, 0, none⟩ = some c0 ∧ w.cell? ⟨g, 1, none⟩ = some c1 ∧ w.cell? ⟨g, 2, none⟩ = some c2 ∧ w.cell? ⟨g, 3, none⟩ = some c3 ∧ w.cell? ⟨g, 4, none⟩ = some c4 :=
  ⟨h.cell 0, h.cell 1, h.cell 2, h.cell 3, h.cell 4⟩

def secB (h : House) (x : Sector) : Bool := withinB x.cls 0 (h.prices.length - 1) && withinB x.seats 1 50
theorem valid1_any (S : Nat → Prop) (h : House) (x : Sector) (g : Nat) (v : Value) (w : World) (hc : w.cell? ⟨g, 1, none⟩ = some v) (hv : SL S w v h.prices) :
    Calls Try.prog 89 #[.agg #[.int .i64 x.cls, .int .i64 x.seats], .pointer (some ⟨g, 0, none⟩)] w fun e w' => e = .returned (.bool (secB h x)) ∧ Step w w' := by
  obtain ⟨p1, k1, rfl⟩ := hv.form
  have hlen := hv.len
  clear hv
  have hc := ((Keeps.alloc (S := fun _ => False) w (.cells #[.int .i64 x.cls, .int .i64 x.seats] 121)).cell id hc)
  cases h1 : withinB x.cls 0 (h.prices.length - 1) with
  | true =>
    go_enter Try.func89, Try.ntmps89
    go_wp2_with fail
    refine (ticket.within_any _ _ _ _).mono ?_
    rintro e w' ⟨rfl, rfl⟩
    rw [h1]
    go_wp2_with fail
    refine (ticket.within_any _ _ _ _).mono ?_
    rintro e w' ⟨rfl, rfl⟩
    go_wp2
    go_ret
    exact ⟨by simp [secB, h1], Step.alloc _ _⟩
  | false =>
    go_enter Try.func89, Try.ntmps89
    go_wp2_with fail
    refine (ticket.within_any _ _ _ _).mono ?_
    rintro e w' ⟨rfl, rfl⟩
    rw [h1]
    go_wp2
    go_ret
    exact ⟨by simp [secB, h1], Step.alloc _ _⟩

def fromB (n : Nat) (l : List Int) : Bool := decide (l.length = n) && l.all fun x => withinB x 0 1000
set_option maxHeartbeats 1000000 in
theorem valid2_any (S : Nat → Prop) (h : House) (l : List Int) (u : Value) (g : Nat) (c0 c1 c2 c3 c4 : Value) (w : World) (hb : Bx w g [c0, c1, c2, c3, c4] 43) (hr : Rep.rep S w [c0, c1, c2, c3, c4] h) (hu : SL S w u l) (hf : 0 < h.frm.length) :
    Calls Try.prog 94 #[u, .pointer (some ⟨g, 0, none⟩)] w fun e w' => e = .returned (.bool (fromB (h.frm[0]'hf).length l)) ∧ Step w w' := by
  obtain ⟨e0, e1, e2, e3, e4⟩ := cells5 hb
  obtain ⟨p1, k1, rfl⟩ := hu.form
  have hcall := Lib.hid (agencies_any S h (.agg #[c0, c1, c2, c3, c4]) w ⟨_, rfl, hr⟩ hf)
  have HU := Lib.hid hu
  have HR := Lib.hid hr
  clear hu hr hb
  by_cases h1 : l.length = (h.frm[0]'hf).length
  · have hd : ((l.length : Int) == ((h.frm[0]'hf).length : Int)) = true := by simp [h1]
    have H1 := Lib.hid h1
    clear h1
    go_enter Try.func94, Try.ntmps94
    go_wp2_with fail
    refine hcall.out.mono ?_
    rintro e w' ⟨rfl, hS⟩
    have hcall2 := Lib.hid (every_any S l _ 0 1000 w' (HU.out.keep (.of_step hS)))
    go_wp2_with fail
    refine hcall2.out.mono ?_
    rintro e w'' ⟨rfl, hS2⟩
    go_wp2
    go_ret
    refine ⟨?_, hS.trans hS2⟩
    simp only [fromB, H1.out, decide_true, Bool.true_and]
    rfl
  · have hd : ((l.length : Int) == ((h.frm[0]'hf).length : Int)) = false := by simp; omega
    have H1 := Lib.hid h1
    clear h1
    go_enter Try.func94, Try.ntmps94
    go_wp2_with fail
    refine hcall.out.mono ?_
    rintro e w' ⟨rfl, hS⟩
    go_wp2
    go_ret
    refine ⟨?_, hS⟩
    simp only [fromB, H1.out, decide_false, Bool.false_and]
    rfl

def holdsB (z : Int) (n : Nat) (l : List Int) : Bool := decide ((l.length : Int) = z) && l.all fun x => withinB x 0 (n - 1)
set_option maxHeartbeats 1000000 in
theorem valid3_any (S : Nat → Prop) (h : House) (l : List Int) (u : Value) (g : Nat) (c0 c1 c2 c3 c4 : Value) (w : World) (hb : Bx w g [c0, c1, c2, c3, c4] 43) (hr : Rep.rep S w [c0, c1, c2, c3, c4] h) (hu : SL S w u l) (hf : 0 < h.frm.length) (hs : okSec h.sectors) (hz : (h.frm[0]'hf).length ≤ 1000000) :
    Calls Try.prog 95 #[u, .pointer (some ⟨g, 0, none⟩)] w fun e w' => e = .returned (.bool (holdsB (sizeL h.sectors) (h.frm[0]'hf).length l)) ∧ Step w w' := by
  obtain ⟨p1, k1, rfl⟩ := hu.form
  have hcall := Lib.hid (size_any S h (.agg #[c0, c1, c2, c3, c4]) w ⟨_, rfl, hr⟩ hs)
  have HU := Lib.hid hu
  have HR := Lib.hid hr
  have HBX := Lib.hid hb
  obtain ⟨e0, e1, e2, e3, e4⟩ := cells5 hb
  clear hu hr hb
  by_cases h1 : (l.length : Int) = sizeL h.sectors
  · have hd : ((l.length : Int) == sizeL h.sectors) = true := by simp [h1]
    have H1 := Lib.hid h1
    clear h1
    go_enter Try.func95, Try.ntmps95
    go_wp2_with fail
    refine hcall.out.mono ?_
    rintro e w' ⟨rfl, hS⟩
    obtain ⟨e0, e1, e2, e3, e4⟩ := cells5 (HBX.out.step hS)
    have hcall1 := Lib.hid (agencies_any S h (.agg #[c0, c1, c2, c3, c4]) w' ⟨_, rfl, Rep.keep (.of_step hS) HR.out⟩ hf)
    go_wp2_with fail
    refine hcall1.out.mono ?_
    rintro e w'' ⟨rfl, hS2⟩
    have hcall2 := Lib.hid (every_any S l (.slice p1 l.length k1) 0 ((h.frm[0]'hf).length - 1) w'' (HU.out.keep (.of_step (hS.trans hS2))))
    go_wp2_with fail
    refine hcall2.out.mono ?_
    rintro e w3 ⟨rfl, hS3⟩
    go_wp2
    go_ret
    refine ⟨?_, (hS.trans hS2).trans hS3⟩
    simp only [holdsB, H1.out, decide_true, Bool.true_and]
    rfl
  · have hd : ((l.length : Int) == sizeL h.sectors) = false := by simp [h1]
    have H1 := Lib.hid h1
    clear h1
    go_enter Try.func95, Try.ntmps95
    go_wp2_with fail
    refine hcall.out.mono ?_
    rintro e w' ⟨rfl, hS⟩
    go_wp2
    go_ret
    refine ⟨?_, hS⟩
    simp only [holdsB, H1.out, decide_false, Bool.false_and]
    rfl
end Go.Proofs.Ytbgfmikbhiblgaa
/- Walks: whether a house is valid: the whole. -/
namespace Go.Proofs.Ytbgfmikbhiblgaa
set_option linter.unusedSimpArgs false
set_option linter.unusedVariables false
open Go.RowKit Go.BT

def agN (h : House) : Nat := (h.frm.headD []).length
theorem head_len {l : List (List Int)} (hf : 0 < l.length) : (l[0]'hf).length = (l.headD []).length := by
  cases l with
  | nil => simp at hf
  | cons a l => simp
theorem agN_eq {h : House} (hf : 0 < h.frm.length) : (h.frm[0]'hf).length = agN h := head_len hf
def validA (h : House) : Bool := withinB h.dates.length 1 6 && decide (h.frm.length = h.dates.length) && decide (h.holds.length = h.dates.length) && withinB (agN h) 1 6
def validB (h : House) : Bool := withinB h.sectors.length 1 10 && h.sectors.all (secB h) && decide (sizeL h.sectors ≤ 100) && withinB h.prices.length 1 5 && (h.prices.all fun x => withinB x 0 10000) && (h.dates.all fun x => withinB x 0 1000) && risesB h.dates && (h.frm.all (fromB (agN h))) && (h.holds.all (holdsB (sizeL h.sectors) (agN h)))
/-- A house is valid. -/
def valid (h : House) : Bool := validA h && validB h
theorem okSec_of {h : House} (h1 : withinB h.sectors.length 1 10 = true) (h2 : h.sectors.all (secB h) = true) : okSec h.sectors := by
  simp [withinB] at h1
  refine ⟨by omega, fun i hi => ?_⟩
  have := List.all_eq_true.1 h2 _ (List.getElem_mem hi)
  simp [secB, withinB] at this
  omega
theorem agN_of {h : House} (h1 : withinB (agN h) 1 6 = true) : 1 ≤ agN h ∧ agN h ≤ 6 := by
  simp [withinB] at h1; omega
theorem frm_pos {h : House} (h1 : withinB h.dates.length 1 6 = true) (h2 : h.frm.length = h.dates.length) : 0 < h.frm.length := by
  simp [withinB] at h1; omega

theorem rep_prices {S : Nat → Prop} {w : World} {c0 c1 c2 c3 c4 : Value} {h : House} (hr : Rep.rep S w [c0, c1, c2, c3, c4] h) : SL S w c1 h.prices := by
  obtain ⟨_, _, _, _, _, he, h0, h1, h2, h3, h4⟩ := hr
  injection he with he0 he
  injection he with he1 he
  subst he1; exact h1
theorem rep_dates {S : Nat → Prop} {w : World} {c0 c1 c2 c3 c4 : Value} {h : House} (hr : Rep.rep S w [c0, c1, c2, c3, c4] h) : SL S w c2 h.dates := by
  obtain ⟨_, _, _, _, _, he, h0, h1, h2, h3, h4⟩ := hr
  injection he with he0 he
  injection he with he1 he
  injection he with he2 he
  subst he2; exact h2

theorem secs_any (h : House) (c0 c1 c2 c3 c4 : Value) (g : Nat) (S : Nat → Prop) (w : World) (hb : Bx w g [c0, c1, c2, c3, c4] 43) (hr : Rep.rep S w [c0, c1, c2, c3, c4] h) :
    Calls Try.prog 90 #[c0, .func (.func 89) #[] #[.pointer (some ⟨g, 0, none⟩)]] w fun e w' => e = .returned (.bool (h.sectors.all (secB h))) ∧ Step w w' := by
  obtain ⟨_, _, _, _, _, he, h0, h1, h2, h3, h4⟩ := hr
  injection he with he0 he
  injection he with he1 he
  subst he0 he1
  clear he
  refine (all_sector S h.sectors c0 w 89 #[.pointer (some ⟨g, 0, none⟩)] (Go.Proofs.enters_of Try.func89 (by kernel_rfl) rfl) (secB h) (fun _ W => Step w W) (fun _ => False) (fun _ h => h.elim)
    (fun _ W hW => h0.keep (.of_step hW)) (fun _ _ _ h1 h2 => h1.trans h2) (Step.refl _) (fun i hi W u hW _ hu => ?_)).mono ?_
  · subst hu
    refine (valid1_any S h h.sectors[i] g c1 W ((hb.step hW).cell 1) (h1.keep (.of_step hW))).mono ?_
    rintro e w' ⟨rfl, hS⟩
    exact ⟨rfl, hW.trans hS, hS⟩
  · rintro e w' ⟨rfl, k, _, _, hS⟩
    exact ⟨rfl, hS⟩
theorem froms_any (h : House) (c0 c1 c2 c3 c4 : Value) (g : Nat) (S : Nat → Prop) (w : World) (hb : Bx w g [c0, c1, c2, c3, c4] 43) (hr : Rep.rep S w [c0, c1, c2, c3, c4] h) (hf : 0 < h.frm.length) :
    Calls Try.prog 93 #[c3, .func (.func 94) #[] #[.pointer (some ⟨g, 0, none⟩)]] w fun e w' => e = .returned (.bool (h.frm.all (fromB (agN h)))) ∧ Step w w' := by
  have hr0 := hr
  obtain ⟨_, _, _, _, _, he, h0, h1, h2, h3, h4⟩ := hr
  injection he with he0 he
  injection he with he1 he
  injection he with he2 he
  injection he with he3 he
  subst he0 he1 he2 he3
  clear he
  refine (all_row S h.frm c3 w 94 #[.pointer (some ⟨g, 0, none⟩)] (Go.Proofs.enters_of Try.func94 (by kernel_rfl) rfl) (fromB (agN h)) (fun _ W => Step w W) (fun _ => False) (fun _ h => h.elim)
    (fun _ W hW => h3.keep (.of_step hW)) (fun _ _ _ h1 h2 => h1.trans h2) (Step.refl _) (fun i hi W u hW _ hu => ?_)).mono ?_
  · have hc := valid2_any (fun _ => False) h h.frm[i] u g _ _ _ _ _ W (hb.step hW) (Rep.weak (fun _ _ h => h.elim) (Rep.keep (.of_step hW) hr0)) hu hf
    rw [agN_eq hf] at hc
    refine hc.mono ?_
    rintro e w' ⟨rfl, hS⟩
    exact ⟨rfl, hW.trans hS, hS⟩
  · rintro e w' ⟨rfl, k, _, _, hS⟩
    exact ⟨rfl, hS⟩
theorem holds_any (h : House) (c0 c1 c2 c3 c4 : Value) (g : Nat) (S : Nat → Prop) (w : World) (hb : Bx w g [c0, c1, c2, c3, c4] 43) (hr : Rep.rep S w [c0, c1, c2, c3, c4] h) (hf : 0 < h.frm.length) (hs : okSec h.sectors) (hz : agN h ≤ 6) :
    Calls Try.prog 93 #[c4, .func (.func 95) #[] #[.pointer (some ⟨g, 0, none⟩)]] w fun e w' => e = .returned (.bool (h.holds.all (holdsB (sizeL h.sectors) (agN h)))) ∧ Step w w' := by
  have hr0 := hr
  obtain ⟨_, _, _, _, _, he, h0, h1, h2, h3, h4⟩ := hr
  injection he with he0 he
  injection he with he1 he
  injection he with he2 he
  injection he with he3 he
  injection he with he4 he
  subst he0 he1 he2 he3 he4
  clear he
  refine (all_row S h.holds c4 w 95 #[.pointer (some ⟨g, 0, none⟩)] (Go.Proofs.enters_of Try.func95 (by kernel_rfl) rfl) (holdsB (sizeL h.sectors) (agN h)) (fun _ W => Step w W) (fun _ => False) (fun _ h => h.elim)
    (fun _ W hW => h4.keep (.of_step hW)) (fun _ _ _ h1 h2 => h1.trans h2) (Step.refl _) (fun i hi W u hW _ hu => ?_)).mono ?_
  · have hc := valid3_any (fun _ => False) h h.holds[i] u g _ _ _ _ _ W (hb.step hW) (Rep.weak (fun _ _ h => h.elim) (Rep.keep (.of_step hW) hr0)) hu hf hs (by rw [agN_eq hf]; omega)
    rw [agN_eq hf] at hc
    refine hc.mono ?_
    rintro e w' ⟨rfl, hS⟩
    exact ⟨rfl, hW.trans hS, hS⟩
  · rintro e w' ⟨rfl, k, _, _, hS⟩
    exact ⟨rfl, hS⟩

set_option maxHeartbeats 2000000 in
theorem valid_any (S : Nat → Prop) (h : House) (v : Value) (w : World) (hv : AV S w v h) :
    Calls Try.prog 59 #[v] w fun e w' => e = .returned (.bool (valid h)) ∧ Step w w' := by
  obtain ⟨cs, rfl, hr⟩ := hv
  have hr0 := hr
  obtain ⟨c0, c1, c2, c3, c4, rfl, h0, h1, h2, h3, h4⟩ := hr
  obtain ⟨p0, k0, rfl⟩ := h0.form
  obtain ⟨p1, k1, rfl⟩ := h1.form
  obtain ⟨p2, k2, rfl⟩ := h2.form
  obtain ⟨p3, k3, rfl⟩ := h3.form
  obtain ⟨p4, k4, rfl⟩ := h4.form
  have hmf : ∀ (fn : Fn) (first cap : Array Value) (w : World), (Instr.makeFunc fn first cap).run Try.prog w = .ok (.func fn first cap) w := fun _ _ _ _ => rfl
  have hb := Bx.new w [.slice p0 h.sectors.length k0, .slice p1 h.prices.length k1, .slice p2 h.dates.length k2, .slice p3 h.frm.length k3, .slice p4 h.holds.length k4] 43
  have hr1 := Rep.keep (.alloc w (.cells #[.slice p0 h.sectors.length k0, .slice p1 h.prices.length k1, .slice p2 h.dates.length k2, .slice p3 h.frm.length k3, .slice p4 h.holds.length k4] 43)) hr0
  obtain ⟨e0, e1, e2, e3, e4⟩ := cells5 hb
  have hst0 : Step w (w.alloc (.cells #[.slice p0 h.sectors.length k0, .slice p1 h.prices.length k1, .slice p2 h.dates.length k2, .slice p3 h.frm.length k3, .slice p4 h.holds.length k4] 43)) := Step.alloc _ _
  have HB := Lib.hid hb
  have HR := Lib.hid hr1
  have HS := Lib.hid hst0
  clear hb hr1 hst0 hr0 h0 h1 h2 h3 h4
  go_enter Try.func59, Try.ntmps59
  go_wp2_with fail
  refine (ticket.within_any _ _ _ _).mono ?_
  rintro e w' ⟨rfl, rfl⟩
  cases q1 : withinB h.dates.length 1 6 with
  | false =>
    go_wp2
    go_ret
    exact ⟨by simp [valid, validA, q1], HS.out⟩
  | true =>
  have Q1 := Lib.hid q1
  clear q1
  by_cases q2 : h.frm.length = h.dates.length
  rotate_left
  · have hd : ((h.frm.length : Int) != (h.dates.length : Int)) = true := by simp; omega
    have Q2 := Lib.hid q2
    clear q2
    go_wp2
    go_ret
    have hvv : valid h = false := by simp [valid, validA, Q1.out, Q2.out]
    exact ⟨by rw [hvv]; rfl, HS.out⟩
  have hdq2 : ((h.frm.length : Int) != (h.dates.length : Int)) = false := by simp; omega
  have Q2 := Lib.hid q2
  clear q2
  by_cases q3 : h.holds.length = h.dates.length
  rotate_left
  · have hd : ((h.holds.length : Int) != (h.dates.length : Int)) = true := by simp; omega
    have Q3 := Lib.hid q3
    clear q3
    go_wp2
    go_ret
    have hvv : valid h = false := by simp [valid, validA, Q1.out, Q2.out, Q3.out]
    exact ⟨by rw [hvv]; rfl, HS.out⟩
  have hdq3 : ((h.holds.length : Int) != (h.dates.length : Int)) = false := by simp; omega
  have Q3 := Lib.hid q3
  clear q3
  go_wp2_with fail
  refine (agencies_any S h _ _ ⟨_, rfl, HR.out⟩ (frm_pos Q1.out Q2.out)).mono ?_
  rintro e wa ⟨rfl, hSa⟩
  rw [agN_eq]
  have HT := Lib.hid hSa
  clear hSa
  go_wp2_with fail
  refine (ticket.within_any _ _ _ _).mono ?_
  rintro e w' ⟨rfl, rfl⟩
  cases q4 : withinB (agN h) 1 6 with
  | false =>
    go_wp2
    go_ret
    have hvv : valid h = false := by simp [valid, validA, Q1.out, Q2.out, Q3.out, q4]
    exact ⟨by rw [hvv]; rfl, HS.out.trans HT.out⟩
  | true =>
  have qa : validA h = true := by simp [validA, Q1.out, Q2.out, Q3.out, q4]
  have hfp := frm_pos Q1.out Q2.out
  have hag := agN_of q4
  have QA := Lib.hid qa
  clear qa q4 Q3 hdq2 hdq3
  obtain ⟨e0, e1, e2, e3, e4⟩ := cells5 (HB.out.step HT.out)
  go_wp2_with fail
  refine (ticket.within_any _ _ _ _).mono ?_
  rintro e w' ⟨rfl, rfl⟩

  cases b1 : withinB h.sectors.length 1 10 with
  | false =>
    go_wp2
    go_ret
    have hvv : valid h = false := by simp only [valid, validB, QA.out, b1, Bool.true_and, Bool.false_and, Bool.and_false, Bool.and_true]
    exact ⟨by rw [hvv]; rfl, HS.out.trans HT.out⟩
  | true =>
  have B1 := Lib.hid b1
  clear b1
  have hcall := Lib.hid (secs_any h _ _ _ _ _ w.heap.size S _ (HB.out.step HT.out) (Rep.keep (.of_step HT.out) HR.out))
  go_wp2_with fail
  refine hcall.out.mono ?_
  rintro e wn ⟨rfl, hSn⟩
  have HT' := Lib.hid (HT.out.trans hSn)
  clear hcall hSn HT
  have HT := HT'
  clear HT'
  obtain ⟨e0, e1, e2, e3, e4⟩ := cells5 (HB.out.step HT.out)
  cases b2 : h.sectors.all (secB h) with
  | false =>
    go_wp2
    go_ret
    have hvv : valid h = false := by simp only [valid, validB, QA.out, B1.out, b2, Bool.true_and, Bool.false_and, Bool.and_false, Bool.and_true]
    exact ⟨by rw [hvv]; rfl, HS.out.trans HT.out⟩
  | true =>
  have B2 := Lib.hid b2
  clear b2
  have hcall := Lib.hid (size_any S h _ _ ⟨_, rfl, Rep.keep (.of_step HT.out) HR.out⟩ (okSec_of B1.out B2.out))
  go_wp2_with fail
  refine hcall.out.mono ?_
  rintro e wn ⟨rfl, hSn⟩
  have HT' := Lib.hid (HT.out.trans hSn)
  clear hcall hSn HT
  have HT := HT'
  clear HT'
  obtain ⟨e0, e1, e2, e3, e4⟩ := cells5 (HB.out.step HT.out)
  cases b3 : decide (sizeL h.sectors ≤ 100) with
  | false =>
    go_wp2
    go_ret
    have hvv : valid h = false := by simp only [valid, validB, QA.out, B1.out, B2.out, b3, Bool.true_and, Bool.false_and, Bool.and_false, Bool.and_true]
    exact ⟨by rw [hvv]; rfl, HS.out.trans HT.out⟩
  | true =>
  have B3 := Lib.hid b3
  go_wp2_with fail
  clear b3
  refine (ticket.within_any _ _ _ _).mono ?_
  rintro e w' ⟨rfl, rfl⟩
  cases b4 : withinB h.prices.length 1 5 with
  | false =>
    go_wp2
    go_ret
    have hvv : valid h = false := by simp only [valid, validB, QA.out, B1.out, B2.out, B3.out, b4, Bool.true_and, Bool.false_and, Bool.and_false, Bool.and_true]
    exact ⟨by rw [hvv]; rfl, HS.out.trans HT.out⟩
  | true =>
  have B4 := Lib.hid b4
  clear b4
  have hcall := Lib.hid (every_any S h.prices _ 0 10000 _ ((rep_prices HR.out).keep (.of_step HT.out)))
  go_wp2_with fail
  refine hcall.out.mono ?_
  rintro e wn ⟨rfl, hSn⟩
  have HT' := Lib.hid (HT.out.trans hSn)
  clear hcall hSn HT
  have HT := HT'
  clear HT'
  obtain ⟨e0, e1, e2, e3, e4⟩ := cells5 (HB.out.step HT.out)
  cases b5 : h.prices.all fun x => withinB x 0 10000 with
  | false =>
    go_wp2
    go_ret
    have hvv : valid h = false := by simp only [valid, validB, QA.out, B1.out, B2.out, B3.out, B4.out, b5, Bool.true_and, Bool.false_and, Bool.and_false, Bool.and_true]
    exact ⟨by rw [hvv]; rfl, HS.out.trans HT.out⟩
  | true =>
  have B5 := Lib.hid b5
  clear b5
  have hcall := Lib.hid (every_any S h.dates _ 0 1000 _ ((rep_dates HR.out).keep (.of_step HT.out)))
  go_wp2_with fail
  refine hcall.out.mono ?_
  rintro e wn ⟨rfl, hSn⟩
  have HT' := Lib.hid (HT.out.trans hSn)
  clear hcall hSn HT
  have HT := HT'
  clear HT'
  obtain ⟨e0, e1, e2, e3, e4⟩ := cells5 (HB.out.step HT.out)
  cases b6 : h.dates.all fun x => withinB x 0 1000 with
  | false =>
    go_wp2
    go_ret
    have hvv : valid h = false := by simp only [valid, validB, QA.out, B1.out, B2.out, B3.out, B4.out, B5.out, b6, Bool.true_and, Bool.false_and, Bool.and_false, Bool.and_true]
    exact ⟨by rw [hvv]; rfl, HS.out.trans HT.out⟩
  | true =>
  have B6 := Lib.hid b6
  clear b6
  have hcall := Lib.hid (rises_any S h.dates _ _ ((rep_dates HR.out).keep (.of_step HT.out)))
  go_wp2_with fail
  refine hcall.out.mono ?_
  rintro e wn ⟨rfl, hSn⟩
  have HT' := Lib.hid (HT.out.trans hSn)
  clear hcall hSn HT
  have HT := HT'
  clear HT'
  obtain ⟨e0, e1, e2, e3, e4⟩ := cells5 (HB.out.step HT.out)
  cases b7 : risesB h.dates with
  | false =>
    go_wp2
    go_ret
    have hvv : valid h = false := by simp only [valid, validB, QA.out, B1.out, B2.out, B3.out, B4.out, B5.out, B6.out, b7, Bool.true_and, Bool.false_and, Bool.and_false, Bool.and_true]
    exact ⟨by rw [hvv]; rfl, HS.out.trans HT.out⟩
  | true =>
  have B7 := Lib.hid b7
  clear b7
  have hcall := Lib.hid (froms_any h _ _ _ _ _ w.heap.size S _ (HB.out.step HT.out) (Rep.keep (.of_step HT.out) HR.out) hfp)
  go_wp2_with fail
  refine hcall.out.mono ?_
  rintro e wn ⟨rfl, hSn⟩
  have HT' := Lib.hid (HT.out.trans hSn)
  clear hcall hSn HT
  have HT := HT'
  clear HT'
  obtain ⟨e0, e1, e2, e3, e4⟩ := cells5 (HB.out.step HT.out)
  cases b8 : h.frm.all (fromB (agN h)) with
  | false =>
    go_wp2
    go_ret
    have hvv : valid h = false := by simp only [valid, validB, QA.out, B1.out, B2.out, B3.out, B4.out, B5.out, B6.out, B7.out, b8, Bool.true_and, Bool.false_and, Bool.and_false, Bool.and_true]
    exact ⟨by rw [hvv]; rfl, HS.out.trans HT.out⟩
  | true =>
  have B8 := Lib.hid b8
  clear b8
  have hcall := Lib.hid (holds_any h _ _ _ _ _ w.heap.size S _ (HB.out.step HT.out) (Rep.keep (.of_step HT.out) HR.out) hfp (okSec_of B1.out B2.out) hag.2)
  go_wp2_with fail
  refine hcall.out.mono ?_
  rintro e wn ⟨rfl, hSn⟩
  have HT' := Lib.hid (HT.out.trans hSn)
  clear hcall hSn HT
  have HT := HT'
  clear HT'
  obtain ⟨e0, e1, e2, e3, e4⟩ := cells5 (HB.out.step HT.out)
  cases b9 : h.holds.all (holdsB (sizeL h.sectors) (agN h)) with
  | false =>
    go_wp2
    go_ret
    have hvv : valid h = false := by simp only [valid, validB, QA.out, B1.out, B2.out, B3.out, B4.out, B5.out, B6.out, B7.out, B8.out, b9, Bool.true_and, Bool.false_and, Bool.and_false, Bool.and_true]
    exact ⟨by rw [hvv]; rfl, HS.out.trans HT.out⟩
  | true =>
    go_wp2
    go_ret
    have hvv : valid h = true := by simp only [valid, validB, QA.out, B1.out, B2.out, B3.out, B4.out, B5.out, B6.out, B7.out, B8.out, b9, Bool.true_and, Bool.false_and, Bool.and_false, Bool.and_true]
    exact ⟨by rw [hvv]; rfl, HS.out.trans HT.out⟩
end Go.Proofs.Ytbgfmikbhiblgaa
/- Walks: CheckHouse, Class, Open. -/
namespace Go.Proofs.Ytbgfmikbhiblgaa
set_option linter.unusedSimpArgs false
set_option linter.unusedVariables false
open Go.RowKit Go.BT

theorem okSec_valid {h : House} (hv : valid h = true) : okSec h.sectors := by
  simp only [valid, validB, Bool.and_eq_true] at hv
  exact okSec_of hv.2.1.1.1.1.1.1.1.1 hv.2.1.1.1.1.1.1.1.2

def checkHouseC (h : House) : Int := if valid h then 0 else 1
def classR (h : House) (n : Int) : Int × Int := if valid h then (if withinB n 0 (sizeL h.sectors - 1) then (classL h.sectors n, 0) else (0, 2)) else (0, 1)
theorem CheckHouse_any (S : Nat → Prop) (h : House) (v : Value) (w : World) (hv : AV S w v h) :
    Calls Try.prog 25 #[v] w fun e w' => e = .returned (.int .i64 (checkHouseC h)) ∧ Step w w' := by
  obtain ⟨cs, rfl, hr⟩ := hv
  have hr0 := hr
  obtain ⟨c0, c1, c2, c3, c4, rfl, h0, h1, h2, h3, h4⟩ := hr
  obtain ⟨p0, k0, rfl⟩ := h0.form
  obtain ⟨p1, k1, rfl⟩ := h1.form
  obtain ⟨p2, k2, rfl⟩ := h2.form
  obtain ⟨p3, k3, rfl⟩ := h3.form
  obtain ⟨p4, k4, rfl⟩ := h4.form
  have hcall := Lib.hid (valid_any S h (.agg #[.slice p0 h.sectors.length k0, .slice p1 h.prices.length k1, .slice p2 h.dates.length k2, .slice p3 h.frm.length k3, .slice p4 h.holds.length k4]) (w.alloc (.cells #[.slice p0 h.sectors.length k0, .slice p1 h.prices.length k1, .slice p2 h.dates.length k2, .slice p3 h.frm.length k3, .slice p4 h.holds.length k4] 43)) ⟨_, rfl, Rep.keep (.alloc _ _) hr0⟩)
  clear hr0 h0 h1 h2 h3 h4
  cases q : valid h with
  | true =>
    have Q := Lib.hid q
    clear q
    go_enter Try.func25, Try.ntmps25
    go_wp2_with fail
    refine hcall.out.mono ?_
    rintro e w' ⟨rfl, hS⟩
    rw [Q.out]
    go_wp2
    go_ret
    exact ⟨by simp [checkHouseC, Q.out], (Step.alloc _ _).trans hS⟩
  | false =>
    have Q := Lib.hid q
    clear q
    go_enter Try.func25, Try.ntmps25
    go_wp2_with fail
    refine hcall.out.mono ?_
    rintro e w' ⟨rfl, hS⟩
    rw [Q.out]
    go_wp2
    go_ret
    exact ⟨by simp [checkHouseC, Q.out], (Step.alloc _ _).trans hS⟩

set_option maxHeartbeats 1000000 in
theorem Class_any (S : Nat → Prop) (h : House) (n : Int) (v : Value) (w : World) (hv : AV S w v h) :
    Calls Try.prog 21 #[v, .int .i64 n] w fun e w' => e = .returned (.tuple #[.int .i64 (classR h n).1, .int .i64 (classR h n).2]) ∧ Step w w' := by
  obtain ⟨cs, rfl, hr⟩ := hv
  have hr0 := hr
  obtain ⟨c0, c1, c2, c3, c4, rfl, h0, h1, h2, h3, h4⟩ := hr
  obtain ⟨p0, k0, rfl⟩ := h0.form
  obtain ⟨p1, k1, rfl⟩ := h1.form
  obtain ⟨p2, k2, rfl⟩ := h2.form
  obtain ⟨p3, k3, rfl⟩ := h3.form
  obtain ⟨p4, k4, rfl⟩ := h4.form
  have hb := Bx.new w [.slice p0 h.sectors.length k0, .slice p1 h.prices.length k1, .slice p2 h.dates.length k2, .slice p3 h.frm.length k3, .slice p4 h.holds.length k4] 43
  have hr1 := Rep.keep (.alloc w (.cells #[.slice p0 h.sectors.length k0, .slice p1 h.prices.length k1, .slice p2 h.dates.length k2, .slice p3 h.frm.length k3, .slice p4 h.holds.length k4] 43)) hr0
  have hcall := Lib.hid (valid_any S h _ _ ⟨_, rfl, hr1⟩)
  have HB := Lib.hid hb
  have HR := Lib.hid hr1
  have HS : Hid (Step w (w.alloc (.cells #[.slice p0 h.sectors.length k0, .slice p1 h.prices.length k1, .slice p2 h.dates.length k2, .slice p3 h.frm.length k3, .slice p4 h.holds.length k4] 43))) := Lib.hid (Step.alloc _ _)
  clear hr0 h0 h1 h2 h3 h4 hb hr1
  cases q : valid h with
  | true =>
    have Q := Lib.hid q
    clear q
    go_enter Try.func21, Try.ntmps21
    go_wp2_with fail
    refine hcall.out.mono ?_
    rintro e w' ⟨rfl, hS⟩
    rw [Q.out]
    obtain ⟨e0, e1, e2, e3, e4⟩ := cells5 (HB.out.step hS)
    have hcall2 := Lib.hid (size_any S h _ _ ⟨_, rfl, Rep.keep (.of_step hS) HR.out⟩ (okSec_valid Q.out))
    go_wp2_with fail
    refine hcall2.out.mono ?_
    rintro e w2 ⟨rfl, hS2⟩
    have hst := Lib.hid (hS.trans hS2)
    clear hS hS2 hcall hcall2 e0 e1 e2 e3 e4
    have hz := sizeL_bound (okSec_valid Q.out) h.sectors.length (Nat.le_refl _)
    rw [List.take_length] at hz
    have hz2 := (okSec_valid Q.out).1
    cases q2 : withinB n 0 (sizeL h.sectors - 1) with
    | true =>
      have Q2 := Lib.hid q2
      clear q2
      go_wp2_with fail
      refine (ticket.within_any _ _ _ _).mono ?_
      rintro e w' ⟨rfl, rfl⟩
      rw [Q2.out]
      obtain ⟨e0, e1, e2, e3, e4⟩ := cells5 (HB.out.step hst.out)
      have hcall2 := Lib.hid (class_any S h _ n _ ⟨_, rfl, Rep.keep (.of_step hst.out) HR.out⟩ (okSec_valid Q.out) (by have := Q2.out; simp [withinB] at this; omega))
      go_wp2_with fail
      refine hcall2.out.mono ?_
      rintro e w3 ⟨rfl, hS3⟩
      go_wp2
      go_ret2
      have hx : classR h n = (classL h.sectors n, 0) := by simp [classR, Q.out, Q2.out]
      rw [hx]
      exact ⟨rfl, (HS.out.trans hst.out).trans hS3⟩
    | false =>
      have Q2 := Lib.hid q2
      clear q2
      go_wp2_with fail
      refine (ticket.within_any _ _ _ _).mono ?_
      rintro e w' ⟨rfl, rfl⟩
      rw [Q2.out]
      go_wp2
      go_ret2
      have hx : classR h n = (0, 2) := by simp [classR, Q.out, Q2.out]
      rw [hx]
      exact ⟨rfl, HS.out.trans hst.out⟩
  | false =>
    have Q := Lib.hid q
    clear q
    go_enter Try.func21, Try.ntmps21
    go_wp2_with fail
    refine hcall.out.mono ?_
    rintro e w' ⟨rfl, hS⟩
    rw [Q.out]
    go_wp2
    go_ret2
    have hx : classR h n = (0, 1) := by simp [classR, Q.out]
    rw [hx]
    exact ⟨rfl, HS.out.trans hS⟩
end Go.Proofs.Ytbgfmikbhiblgaa
/- Plain words for data in memory, going on: a row that 'make' made; a row known whole read as a slice. No program is named here. -/
namespace Go.BT
open Go.RowKit

theorem madeCells_one (z : Value) (n : Nat) (hz : z.cells = #[z]) : madeCells z.cells n = (List.replicate n z).toArray := by
  rw [hz]
  apply Array.ext
  · simp [size_madeCells]
  · intro i h1 h2
    simp [madeCells, Nat.mod_one]

/-- make([]T, n), T of one cell. -/
theorem wpl_make {P : Program} {w : World} {ops : Array Oper} {rest : List Oper} {o : Oper} {a : Act} {Q : Exit → Act → World → Prop} {t e : TypeId} {z : Value} {bytes : Nat} (ei : EI P t e z 1 bytes) (hg : o.guard = none) (l c : Operand) (hop : o.op = Op.makeSlice t l c)
    (hz : z.cells = #[z]) (kl kc : IntKind) (n : Nat) (hl : a.eval l = .int kl n) (hc : a.eval c = .int kc n) (hn : n ≤ 9223372036854775807) (hb : bytes * n ≤ 281474976710656)
    (hK : wpList P ops Q rest (a.put o.dst (.slice (some ⟨w.heap.size, 0, none⟩) n n)) (w.alloc (.cells (List.replicate n z).toArray e))) : wpList P ops Q (o :: rest) a w := by
  obtain ⟨h1, _, i, hi, h2, h3, h4⟩ := ei
  refine wpList_plain hg fun K hK' => ?_
  subst h4
  have hb' : (i.bytes : Int) * (n : Int) ≤ 281474976710656 := by
    have h : ((i.bytes * n : Nat) : Int) ≤ 281474976710656 := by omega
    rwa [Int.natCast_mul] at h
  have hr := run_make (P := P) w t e i z h1 hi h2 kl kc n n (by omega) (Int.le_refl _) hb' (by omega)
  simp only [Int.toNat_natCast, h3, Nat.mul_one, madeCells_one z n hz] at hr
  unfold Oper.wp
  simp [execOp, hop, hl, hc, hr, Result.andThen]
  exact hK' _ _ hK

theorem Bx.new' (w : World) (cs : List Value) (T : TypeId) (n : Nat) (h : w.heap.size = n) : Bx (w.alloc (.cells cs.toArray T)) n cs T := by subst h; exact Bx.new w cs T
/-- A row known whole reads as a list. -/
theorem SL.bx {α : Type} [Rep α] {S : Nat → Prop} {w : World} {g : Nat} {cs : List Value} {T : TypeId} {l : List α} (h : Bx w g cs T) (hs : ¬ S g) (c : Nat) (hc : l.length ≤ c) (hm : l.length ≤ 9223372036854775807)
    (hr : ∀ i (hi : i < l.length), Rep.rep S w ((cs.drop (i * Rep.k α)).take (Rep.k α)) l[i]) : SL S w (.slice (some ⟨g, 0, none⟩) l.length c) l := by
  refine ⟨_, c, g, 0, rfl, hc, hm, fun _ => rfl, fun i hi => ⟨h.lt, hs, _, hr i hi, fun j v hj => ?_⟩⟩
  rw [Nat.zero_add, h.cell]
  rw [List.getElem?_take] at hj
  split at hj
  · rw [List.getElem?_drop] at hj; exact hj
  · cases hj
theorem SL.bx_ints {S : Nat → Prop} {w : World} {g : Nat} {T : TypeId} {l : List Int} (h : Bx w g (l.map (Value.int .i64)) T) (hs : ¬ S g) (c : Nat) (hc : l.length ≤ c) (hm : l.length ≤ 9223372036854775807) : SL S w (.slice (some ⟨g, 0, none⟩) l.length c) l := by
  refine SL.bx h hs c hc hm fun i hi => ?_
  show ((l.map (Value.int .i64)).drop (i * 1)).take 1 = [_]
  rw [Nat.mul_one, List.drop_eq_getElem_cons (by simpa using hi)]
  simp
theorem SL.bx_bools {S : Nat → Prop} {w : World} {g : Nat} {T : TypeId} {l : List Bool} (h : Bx w g (l.map Value.bool) T) (hs : ¬ S g) (c : Nat) (hc : l.length ≤ c) (hm : l.length ≤ 9223372036854775807) : SL S w (.slice (some ⟨g, 0, none⟩) l.length c) l := by
  refine SL.bx h hs c hc hm fun i hi => ?_
  show ((l.map Value.bool).drop (i * 1)).take 1 = [_]
  rw [Nat.mul_one, List.drop_eq_getElem_cons (by simpa using hi)]
  simp

/-- A list of which the first k are turned by f, the rest are 0. -/
def mix (l : List Int) (f : Int → Int) (k : Nat) : List Int := l.mapIdx fun i x => if i < k then f x else 0
theorem mix_len (l : List Int) (f : Int → Int) (k : Nat) : (mix l f k).length = l.length := by simp [mix]
theorem mix_zero (l : List Int) (f : Int → Int) : mix l f 0 = List.replicate l.length 0 := by
  apply List.ext_getElem
  · simp [mix]
  · intro i h1 h2; simp [mix]
theorem mix_full (l : List Int) (f : Int → Int) {k : Nat} (h : l.length ≤ k) : mix l f k = l.map f := by
  apply List.ext_getElem
  · simp [mix]
  · intro i h1 h2
    simp at h2
    simp [mix, show i < k by omega]
theorem mix_set (l : List Int) (f : Int → Int) {k : Nat} (h : k < l.length) : (mix l f k).set k (f l[k]) = mix l f (k + 1) := by
  apply List.ext_getElem
  · simp [mix]
  · intro i h1 h2
    rw [List.getElem_set]
    split
    · subst_vars; simp [mix]
    · simp only [mix, List.getElem_mapIdx]
      by_cases h3 : i < k
      · simp [h3, show i < k + 1 by omega]
      · simp [h3, show ¬ i < k + 1 by omega]
theorem mix_keep (l : List Int) (f : Int → Int) {k : Nat} (h : k < l.length) (h0 : f l[k] = 0) : mix l f k = mix l f (k + 1) := by
  rw [← mix_set l f h, h0]
  apply List.ext_getElem
  · simp
  · intro i h1 h2
    rw [List.getElem_set]
    split
    · subst_vars; simp [mix]
    · rfl

theorem StepX.setCell {X : Nat → Prop} {w0 w : World} (h : StepX X w0 w) (a : Addr) (v : Value) (ha : X a.block) : StepX X w0 (w.setCell a v) :=
  h.trans ⟨rfl, rfl, rfl, by simp, fun j _ hs => Below.heap_setCell w a v j (fun e => hs (e ▸ ha))⟩
theorem StepX.set1 {g : Nat} {w0 w : World} (h : StepX (fun j => j = g) w0 w) (o : Nat) (v : Value) : StepX (fun j => j = g) w0 (w.setCell ⟨g, o, none⟩ v) := h.setCell ⟨g, o, none⟩ v rfl
/-- A row of six cells, written anew. -/
theorem set6 {w : World} {g : Nat} {a0 a1 a2 a3 a4 a5 : Value} {T : TypeId} (h : Bx w g [a0, a1, a2, a3, a4, a5] T) (c0 c1 c2 c3 c4 c5 : Value) :
    Bx ((((((w.setCell ⟨g, 0, none⟩ c0).setCell ⟨g, 1, none⟩ c1).setCell ⟨g, 2, none⟩ c2).setCell ⟨g, 3, none⟩ c3).setCell ⟨g, 4, none⟩ c4).setCell ⟨g, 5, none⟩ c5) g [c0, c1, c2, c3, c4, c5] T ∧
    StepX (fun j => j = g) w ((((((w.setCell ⟨g, 0, none⟩ c0).setCell ⟨g, 1, none⟩ c1).setCell ⟨g, 2, none⟩ c2).setCell ⟨g, 3, none⟩ c3).setCell ⟨g, 4, none⟩ c4).setCell ⟨g, 5, none⟩ c5) :=
  ⟨(((((h.setCell 0 c0).setCell 1 c1).setCell 2 c2).setCell 3 c3).setCell 4 c4).setCell 5 c5,
   ((((((StepX.refl _ w).set1 0 c0).set1 1 c1).set1 2 c2).set1 3 c3).set1 4 c4).set1 5 c5⟩
/-- What wrote into new blocks alone. -/
theorem StepX.fresh {X : Nat → Prop} {w0 w w' : World} (h : Step w0 w) (k : StepX X w w') (hX : ∀ j, X j → w0.heap.size ≤ j) : Step w0 w' :=
  ⟨k.os.trans h.os, k.tape.trans h.tape, k.output.trans h.output, Nat.le_trans h.size k.size, fun j hj _ => (k.block j (Nat.lt_of_lt_of_le hj h.size) (fun hx => by have := hX j hx; omega)).trans (h.block j hj id)⟩

section
variable {P : Program} {fn : Func} {R : Ending → World → Prop} {a : Act} {w : World}
/-- Two results, the first a struct in a variable. -/
theorem ret_struct2 {t u : Tmp} {T T' : TypeId} {k g : Nat} {cs : List Value} (hr : fn.results = #[.cell t T, .tmp u]) (hi : SI P T k)
    (ht : a.tmps.getD t undef = .pointer (some ⟨g, 0, none⟩)) (hb : Bx w g cs T') (hk : cs.length = k) (hd : a.defers = []) (hR : R (.returned (.tuple #[.agg cs.toArray, a.tmps.getD u undef])) w) : bodyPost P fn R .ret a w := by
  refine bodyPost_ret (v := .tuple #[.agg cs.toArray, a.tmps.getD u undef]) ?_ hd hR
  have ht' : a.tmps[t]?.getD undef = .pointer (some ⟨g, 0, none⟩) := by simpa using ht
  simp [results, hr, ht', asAddr, run_loadVar_bx hi hb hk]
theorem ret_struct3 {t u x : Tmp} {T T' : TypeId} {k g : Nat} {cs : List Value} (hr : fn.results = #[.cell t T, .tmp u, .tmp x]) (hi : SI P T k)
    (ht : a.tmps.getD t undef = .pointer (some ⟨g, 0, none⟩)) (hb : Bx w g cs T') (hk : cs.length = k) (hd : a.defers = []) (hR : R (.returned (.tuple #[.agg cs.toArray, a.tmps.getD u undef, a.tmps.getD x undef])) w) : bodyPost P fn R .ret a w := by
  refine bodyPost_ret (v := .tuple #[.agg cs.toArray, a.tmps.getD u undef, a.tmps.getD x undef]) ?_ hd hR
  have ht' : a.tmps[t]?.getD undef = .pointer (some ⟨g, 0, none⟩) := by simpa using ht
  simp [results, hr, ht', asAddr, run_loadVar_bx hi hb hk]
end
end Go.BT
/- Walks: the first book of an agency. -/
namespace Go.Proofs.Ytbgfmikbhiblgaa
set_option linter.unusedSimpArgs false
set_option linter.unusedVariables false
open Go.RowKit Go.BT

def heldV (a x : Int) : Int := if x = a then 0 else -1
def openP (h : House) (a : Int) : Book := { agency := a, seats := h.holds.map (fun r => r.map (heldV a)), off := List.replicate h.dates.length false, sent := 0, took := [], cash := 0 }

theorem siBook : SI Try.prog 36 6 := ⟨⟨_, Try.underlying36⟩, by kernel_rfl⟩
theorem infoBool : (Try.prog.info? 4).map (fun i => (i.zero, i.size, i.bytes)) = some (some (.bool false), 1, 1) := by kernel_rfl
theorem eiBools : EI Try.prog 27 4 (.bool false) 1 1 := .mk' Try.underlying27 infoBool rfl

theorem cells6 {w : World} {g : Nat} {c0 c1 c2 c3 c4 c5 : Value} {T : TypeId} (h : Bx w g [c0, c1, c2, c3, c4, c5] T) :
    w.cell? ⟨g, 0, none⟩ = some c0 ∧ w.cell? ⟨g, 1, none⟩ = some c1 ∧ w.cell? ⟨g, 2, none⟩ = some c2 ∧ w.cell? ⟨g, 3, none⟩ = some c3 ∧ w.cell? ⟨g, 4, none⟩ = some c4 ∧ w.cell? ⟨g, 5, none⟩ = some c5 :=
  ⟨h.cell 0, h.cell 1, h.cell 2, h.cell 3, h.cell 4, h.cell 5⟩

set_option maxHeartbeats 2000000 in
theorem open_any (S : Nat → Prop) (h : House) (n : Int) (v : Value) (w : World) (hv : AV S w v h) (hd : h.dates.length ≤ 1000) (hh : h.holds.length ≤ 1000) (hr : ∀ i (hi : i < h.holds.length), h.holds[i].length ≤ 1000000) :
    Calls Try.prog 64 #[v, .int .i64 n] w fun e w' => ∃ v', e = .returned v' ∧ AV (Old w) w' v' (openP h n) ∧ Step w w' := by
  obtain ⟨c0, c1, c2, c3, c4, rfl, h0, h1, h2, h3, h4⟩ := hv.house
  obtain ⟨p0, k0, rfl⟩ := h0.form
  obtain ⟨p1, k1, rfl⟩ := h1.form
  obtain ⟨p2, k2, rfl⟩ := h2.form
  obtain ⟨p3, k3, rfl⟩ := h3.form
  obtain ⟨p4, k4, rfl⟩ := h4.form
  obtain ⟨p', c', b, o, he, _, hm, hp, hc, hb⟩ := h4.rows
  injection he with he1 he2 he3
  subst he1 he3
  have HC := Lib.hid hc
  have HP := Lib.hid hp
  have HB := Lib.hid hb
  have HRR := Lib.hid hr
  clear hv h0 h1 h2 h3 h4 hc hp hb he2 hr
  have hx2 : (0 : Int) ≤ (h.dates.length : Int) := by omega
  go_enter Try.func64, Try.ntmps64
  go_wp2_with (at_make; refine wpl_make (z := .bool false) eiBools rfl _ _ rfl rfl .i64 .i64 h.dates.length rfl rfl (by omega) (by omega) ?_)
  go_loopw [20] (fun i wr => ∃ (k : Nat) (q : Value), k ≤ h.holds.length ∧ i = .int .i64 k ∧ Bx wr (w.heap.size + 1 + 1 + 1) [.int .i64 n, q, .slice (some ⟨w.heap.size + 1 + 1, 0, none⟩) h.dates.length h.dates.length, .int .i64 0, .slice none 0 0, .int .i64 0] 36 ∧
      Bx wr (w.heap.size + 1 + 1) (List.replicate h.dates.length (.bool false)) 4 ∧ Bx wr (w.heap.size + 1) [.int .i64 0, .slice none 0 0, .slice none 0 0, .int .i64 0, .slice none 0 0, .int .i64 0] 36 ∧
      OwnL (fun j => j < w.heap.size + 4) (w.heap.size + 4) 23 wr q ((openP h n).seats.take k) ∧ Below w.heap.size w wr ∧ w.heap.size + 4 ≤ wr.heap.size) (fun i _ => h.holds.length - (intOf i).toNat)
  case atStart =>
    have hS : Step w ((((w.alloc (.cells #[.slice p0 h.sectors.length k0, .slice p1 h.prices.length k1, .slice p2 h.dates.length k2, .slice p3 h.frm.length k3, .slice p4 h.holds.length k4] 43)).alloc (.cells #[.int .i64 0, .slice none 0 0, .slice none 0 0, .int .i64 0, .slice none 0 0, .int .i64 0] 36)).alloc (.cells (Array.replicate h.dates.length (.bool false)) 4)).alloc (.cells #[.int .i64 n, .slice none 0 0, .slice (some ⟨w.heap.size + 1 + 1, 0, none⟩) h.dates.length h.dates.length, .int .i64 0, .slice none 0 0, .int .i64 0] 36)) := (by repeat (first | (with_reducible assumption) | (with_reducible exact Step.refl _) | (with_reducible apply Step.s_alloc) | (with_reducible apply Step.s_drew) | (with_reducible apply Step.s_drewN) | (with_reducible refine Step.trans ?_ (by with_reducible assumption))))
    refine ⟨0, _, Nat.zero_le _, rfl, Bx.new' _ _ _ _ (by simp), Bx.alloc (by rw [← List.toArray_replicate]; exact Bx.new' _ _ _ _ (by simp)) _, Bx.alloc (Bx.alloc (Bx.new' _ _ _ _ (by simp)) _) _, OwnL.nil _ _ _ _, hS.below, by simp⟩
  case round =>
    obtain ⟨k, q, hk, rfl, hb, hbb, hbr, hown, hB, hsz⟩ := hrel
    obtain ⟨wo, hwo⟩ : ∃ W, W = wr := ⟨_, rfl⟩
    subst hwo
    by_cases hlt : k < h.holds.length
    · obtain rfl := HP.out (by omega)
      obtain ⟨u, e1, hu⟩ := HC.out k hlt
      have hbl := (HB.out (by omega)).1
      have hrk := HRR.out k hlt
      have e1 := (hB.cell (p := ⟨b, o + k, none⟩) hbl).trans e1
      have hx : (0 : Int) ≤ (k : Int) ∧ (k : Int) < (h.holds.length : Int) := by omega
      obtain ⟨pu, cu, bu, ou, rfl, _, _, hpu, hcu, hbu⟩ := hu.ints
      have HCU := Lib.hid hcu
      have HPU := Lib.hid hpu
      have HBU := Lib.hid hbu
      clear hu hcu hpu hbu
      have hx3 : (0 : Int) ≤ (h.holds[k].length : Int) := by omega
      go_wp2_with (at_make; refine wpl_make (z := .int .i64 0) eiInts rfl _ _ rfl rfl .i64 .i64 h.holds[k].length rfl rfl (by omega) (by omega) ?_)
      go_loopw [29] (fun i wi => ∃ k2 : Nat, k2 ≤ h.holds[k].length ∧ i = .int .i64 k2 ∧ Bx wi wo.heap.size ((mix h.holds[k] (heldV n) k2).map (Value.int .i64)) 3 ∧ Step wo wi) (fun i _ => h.holds[k].length - (intOf i).toNat)
      case atStart => exact ⟨0, Nat.zero_le _, rfl, by rw [mix_zero, List.map_replicate, ← List.toArray_replicate]; exact Bx.new' _ _ _ _ rfl, Step.alloc _ _⟩
      case round =>
        obtain ⟨k2, hk2, rfl, hbx, hS⟩ := hrel
        by_cases hlt2 : k2 < h.holds[k].length
        · obtain rfl := HPU.out (by omega)
          have hbl2 := (HBU.out (by omega)).1
          have a1 := hS.keeps.cell id ((hB.cell (p := ⟨bu, ou + k2, none⟩) hbl2).trans (HCU.out k2 hlt2))
          have hx4 : (0 : Int) ≤ (k2 : Int) ∧ (k2 : Int) < (h.holds[k].length : Int) := by omega
          by_cases hne : h.holds[k][k2] = n
          · have hne' : (h.holds[k][k2] != n) = false := by simp [hne]
            have hv0 : heldV n h.holds[k][k2] = 0 := by simp [heldV, hne]
            have HBX := Lib.hid hbx
            clear hne hbx
            go_wp2
            go_roundw
            case rel => exact ⟨k2 + 1, by omega, by go_num, by rw [← mix_keep _ _ hlt2 hv0]; exact HBX.out, hS⟩
            case measure => simp [intOf]; omega
          · have hne' : (h.holds[k][k2] != n) = true := by simp [hne]
            have hv0 : heldV n h.holds[k][k2] = -1 := by simp [heldV, hne]
            have f1 := hbx.frozen k2
            have a2 := hbx.cell k2
            rw [List.getElem?_eq_getElem (by simp [mix_len]; exact hlt2), List.getElem_map] at a2
            have HBX := Lib.hid hbx
            clear hne hbx
            go_wp2
            go_roundw
            case rel => exact ⟨k2 + 1, by omega, by go_num, by rw [← mix_set _ _ hlt2, hv0, List.map_set]; exact HBX.out.setCell _ _, hS.setNew _ _ (Nat.le_refl _)⟩
            case measure => simp [intOf]; omega
        · have hfull : mix h.holds[k] (heldV n) k2 = h.holds[k].map (heldV n) := mix_full _ _ (by omega)
          rw [hfull] at hbx
          have hb2 := hb.step hS
          have hbb2 := hbb.step hS
          have hbr2 := hbr.step hS
          have hown2 := (hown.step hS).alloc (.cells #[.slice (some ⟨wo.heap.size, 0, none⟩) h.holds[k].length h.holds[k].length] 23)
          have hgt : wo.heap.size < wr.heap.size := hbx.lt
          have x1 : ¬ avoid (fun j => j < w.heap.size + 4) q wo.heap.size := fun e => by
            rcases e with e | e
            · omega
            · have := (hown.lt _ e).2; omega
          have hrow : SL (avoid (fun j => j < w.heap.size + 4) q) wr (.slice (some ⟨wo.heap.size, 0, none⟩) (h.holds[k].map (heldV n)).length h.holds[k].length) (h.holds[k].map (heldV n)) := SL.bx_ints hbx x1 _ (by simp) (by simp; omega)
          rw [List.length_map] at hrow
          have hu := SLe.one (S := avoid (fun j => j < w.heap.size + 4) q) (w := wr) (cs := [.slice (some ⟨wo.heap.size, 0, none⟩) h.holds[k].length h.holds[k].length]) (x := h.holds[k].map (heldV n)) 23 ⟨_, rfl, hrow⟩
          have hkl : k < (openP h n).seats.length := by simpa [openP] using hlt
          have hn1 : ((openP h n).seats.take k).length + [h.holds[k].map (heldV n)].length = k + 1 := by simp; omega
          have hn2 : k + 1 ≤ maxLen := by simp only [maxLen]; omega
          have hn3 : w.heap.size + 4 ≤ (wr.alloc (.cells #[.slice (some ⟨wo.heap.size, 0, none⟩) h.holds[k].length h.holds[k].length] 23)).heap.size := by simp; omega
          have hn4 : (openP h n).seats.take k ++ [h.holds[k].map (heldV n)] = (openP h n).seats.take (k + 1) := by
            rw [List.take_succ_eq_append_getElem hkl]; simp [openP]
          obtain ⟨e0, e1, e2, e3, e4, e5⟩ := cells6 hb2
          have HH := Lib.hid (And.intro hbb2 (And.intro hbr2 (And.intro hB (And.intro hS (And.intro hb2 hbx)))))
          have HX := Lib.hid hrow
          clear hrow hb hbb hbr hown hbb2 hbr2 hB hS hb2 hbx hfull
          go_wp2_with (at_builtin; refine wpl_append (S := fun j => j < w.heap.size + 4) (base := w.heap.size + 4) (v := q) (l := (openP h n).seats.take k) (m := [h.holds[k].map (heldV n)]) eiRows rfl _ _ rfl rfl rfl hown2 hu (k + 1) hn1 ((openP h n).seats.take (k + 1)) hn4 hn2 (by omega) hn3 ?_)
          intro p' c' w2 hown3 hg
          obtain ⟨hbb, hbr, hB, hS, hb, hbx⟩ := HH.out
          have hq : ∀ j, q.ownBlock = some j → w.heap.size + 4 ≤ j := fun j hj => (hown2.lt j hj).1
          have hS1 := (hS.trans (Step.alloc wr (.cells #[.slice (some ⟨wo.heap.size, 0, none⟩) h.holds[k].length h.holds[k].length] 23)))
          have hB2 : Below (w.heap.size + 4) wo w2 := by
            refine Below.grown (hS1.below.mono hsz) hg hn3 hq
          have kp : ∀ j, j < w.heap.size + 4 → w2.heap[j]? = wo.heap[j]? := fun j hj => hB2.block j hj
          have kp2 : Keeps (fun j => ¬ j < w.heap.size + 4) wr w2 := ⟨by have := hg.size; simp at this; omega, fun j hj hs => by
            rw [kp j (by omega), hS.below.block j (by omega)]⟩
          have hb2 := hb.keep kp2 (by omega)
          have hbb2 := hbb.keep kp2 (by omega)
          have hbr2 := hbr.keep kp2 (by omega)
          have f1 := hb2.frozen 1
          have a1 := hb2.cell 1
          simp only [List.getElem?_cons_zero, List.getElem?_cons_succ] at a1
          have HZ := Lib.hid (And.intro hb2 (And.intro hbb2 (And.intro hbr2 (And.intro hB hB2))))
          have HO := Lib.hid hown3
          clear hb2 hbb2 hbr2 hB hB2 hown3 hg hS hS1 hb hbb hbr hbx kp kp2 hq
          go_wp2
          go_roundw
          case rel =>
            obtain ⟨hb2, hbb2, hbr2, hB, hB2⟩ := HZ.out
            have hsz2 := hB2.size
            refine ⟨k + 1, _, by omega, by go_num, hb2.setCell 1 _, hbb2.setOther (by omega), hbr2.setOther (by omega), HO.out.wrote (.setCell _ _ _ _) (by omega) (fun e => by have := (HO.out.lt _ e).1; omega), Below.setCell (p := ⟨w.heap.size + 1 + 1 + 1, 1, none⟩) (hB.trans (hB2.mono (by omega))) (by simp; omega) _, by simp; omega⟩
          case measure => simp [intOf]; omega
    · have hkl : (openP h n).seats.take k = (openP h n).seats := List.take_of_length_le (by simp [openP]; omega)
      rw [hkl] at hown
      obtain ⟨e0, e1, e2, e3, e4, e5⟩ := cells6 hb
      obtain ⟨y0, y1, y2, y3, y4, y5⟩ := cells6 hbr
      have hfr := fun j => hbr.frozen j
      obtain ⟨q1, q2, rfl, _⟩ := hown.form
      have HH := Lib.hid (And.intro hb (And.intro hbb (And.intro hbr (And.intro hown hB))))
      clear hb hbb hbr hown hB hkl
      go_wp2
      obtain ⟨hb, hbb, hbr, hown, hB⟩ := HH.out
      have b6 := (((((hbr.setCell 0 (.int .i64 n)).setCell 1 (.slice q1 (openP h n).seats.length q2)).setCell 2 (.slice (some ⟨w.heap.size + 1 + 1, 0, none⟩) h.dates.length h.dates.length)).setCell 3 (.int .i64 0)).setCell 4 (.slice none 0 0)).setCell 5 (.int .i64 0)
      have hK6 := ((((((Keeps.refl (fun j => j = w.heap.size + 1) wo).s_wrote (.setCell _ (w.heap.size + 1) 0 (.int .i64 n)) rfl).s_wrote (.setCell _ (w.heap.size + 1) 1 (.slice q1 (openP h n).seats.length q2)) rfl).s_wrote (.setCell _ (w.heap.size + 1) 2 (.slice (some ⟨w.heap.size + 1 + 1, 0, none⟩) h.dates.length h.dates.length)) rfl).s_wrote (.setCell _ (w.heap.size + 1) 3 (.int .i64 0)) rfl).s_wrote (.setCell _ (w.heap.size + 1) 4 (.slice none 0 0)) rfl).s_wrote (.setCell _ (w.heap.size + 1) 5 (.int .i64 0)) rfl
      have hB6 := (((((hB.setCell (p := ⟨w.heap.size + 1, 0, none⟩) (by simp) (.int .i64 n)).setCell (p := ⟨w.heap.size + 1, 1, none⟩) (by simp) (.slice q1 (openP h n).seats.length q2)).setCell (p := ⟨w.heap.size + 1, 2, none⟩) (by simp) (.slice (some ⟨w.heap.size + 1 + 1, 0, none⟩) h.dates.length h.dates.length)).setCell (p := ⟨w.heap.size + 1, 3, none⟩) (by simp) (.int .i64 0)).setCell (p := ⟨w.heap.size + 1, 4, none⟩) (by simp) (.slice none 0 0)).setCell (p := ⟨w.heap.size + 1, 5, none⟩) (by simp) (.int .i64 0)
      have hoff : SL (fun j => j < w.heap.size + 2) wo (.slice (some ⟨w.heap.size + 1 + 1, 0, none⟩) (openP h n).off.length h.dates.length) (openP h n).off := SL.bx_bools (by simpa [openP] using hbb) (by omega) _ (by simp [openP]) (by simp [openP]; omega)
      have hol : (openP h n).off.length = h.dates.length := by simp [openP]
      rw [hol] at hoff
      refine ret_struct (k := 6) rfl siBook rfl b6 rfl rfl ⟨_, rfl, ⟨_, rfl, ⟨_, _, _, rfl, ?_, ?_, ?_⟩⟩, .of hB6⟩
      all_goals refine SL.keep (S := fun j => j < w.heap.size + 2) (hK6.mono fun j _ hj => by omega) ?_ |>.weak fun j _ hj => by unfold Old at hj; omega
      · exact hown.sl (fun g' h1 h2 h3 => by omega) |>.weak fun j _ hj => by omega
      · exact hoff
      · exact SL.nil _ _
end Go.Proofs.Ytbgfmikbhiblgaa
