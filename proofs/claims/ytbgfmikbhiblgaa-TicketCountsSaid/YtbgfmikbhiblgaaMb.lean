/- The law package's copies of lists and houses, and the list functions of the program, are walked. -/
import Derived.Test.YtbgfmikbhiblgaaMa
import Derived.Test.YtbgfmikbhiblgaaRows
import Derived.BigQuiet
import Derived.Deep.AppendLies
import Derived.Deep.DeepCutAuto
import Derived.Deep.QuietTactic
import Derived.Deep.RegionHeld3
import Derived.Lib.Hide
import Derived.Shelf.Abstract
import Derived.WalkKit
import Derived.WalkLawsBesides
import Derived.WalkSmall
/- Walks: the law package's small copies and comparisons. -/
namespace Go.Proofs.Ytbgfmikbhiblgaa
open Go.RowKit Go.BT

theorem infoInt : (Try.prog.info? 3).map (fun i => (i.zero, i.size, i.bytes)) = some (some (.int .i64 0), 1, 8) := by kernel_rfl
theorem infoInts : (Try.prog.info? 23).map (fun i => (i.zero, i.size, i.bytes)) = some (some (.slice none 0 0), 1, 24) := by kernel_rfl

def intsB (a b : List Int) : Bool := decide (a = b)

theorem ints_hit {a b : List Int} {k : Nat} (ha : k < a.length) (hb : k < b.length) (ht : a.take k = b.take k) (h : a[k] = b[k]) : a.take (k + 1) = b.take (k + 1) := by
  rw [List.take_succ_eq_append_getElem ha, List.take_succ_eq_append_getElem hb, ht, h]
theorem ints_miss {a b : List Int} {k : Nat} (ha : k < a.length) (hb : k < b.length) (h : a[k] ≠ b[k]) : intsB a b = false := by
  have : a ≠ b := fun e => h (by subst e; rfl)
  simp [intsB, this]
theorem ints_end {a b : List Int} {k : Nat} (hl : a.length = b.length) (hk : a.length ≤ k) (ht : a.take k = b.take k) : intsB a b = true := by
  rw [List.take_of_length_le hk, List.take_of_length_le (by omega)] at ht
  simp [intsB, ht]

theorem ints_any (S : Nat → Prop) (a b : List Int) (va vb : Value) (w : World) (ha : SL S w va a) (hb : SL S w vb b) :
    Calls Try.prog 45 #[va, vb] w fun e w' => e = .returned (.bool (intsB a b)) ∧ Step w w' := by
  obtain ⟨pa, ca, ba, oa, rfl, _, hma, hpa, hca, h0a⟩ := ha.ints
  obtain ⟨pb, cb, bb, ob, rfl, _, hmb, hpb, hcb, h0b⟩ := hb.ints
  by_cases hl : a.length = b.length
  · have hne : ((a.length : Int) != (b.length : Int)) = false := by simp [hl]
    have Hl := Lib.hid hl
    clear hl
    go_enter Try.func45, Try.ntmps45
    go_wp2
    go_loopw [5] (fun i wr => ∃ k : Nat, k ≤ a.length ∧ i = .int .i64 k ∧ a.take k = b.take k ∧ Below w.heap.size w wr) (fun i _ => a.length - (intOf i).toNat)
    case atStart => exact ⟨0, Nat.zero_le _, rfl, rfl, Below.refl _ _⟩
    case round =>
      obtain ⟨k, hk, rfl, ht, hB⟩ := hrel
      have HT := Lib.hid ht
      clear ht
      by_cases hlt : k < a.length
      · have hltb : k < b.length := by have := Hl.out; omega
        obtain rfl := hpa (by omega)
        obtain rfl := hpb (by omega)
        have e1 := (hB.cell (p := ⟨ba, oa + k, none⟩) (h0a (by omega)).1).trans (hca k hlt)
        have e2 := (hB.cell (p := ⟨bb, ob + k, none⟩) (h0b (by omega)).1).trans (hcb k hltb)
        have hx : (0 : Int) ≤ (k : Int) ∧ (k : Int) < (a.length : Int) := by omega
        have hy : (0 : Int) ≤ (k : Int) ∧ (k : Int) < (b.length : Int) := by omega
        clear hpa hpb hca hcb h0a h0b
        go_wp2
        go_quiet (fail)
        go_wp2
        · have hx : (a[k] != b[k]) = true := by assumption
          go_ret
          exact ⟨by rw [ints_miss hlt hltb (by simpa using hx)]; rfl, .of (below_drewN hB _)⟩
        · have hx : (a[k] != b[k]) = false := by assumption
          go_roundw
          case rel => exact ⟨k + 1, by omega, by go_num, ints_hit hlt hltb HT.out (by simpa using hx), below_drewN hB _⟩
          case measure => simp [intOf]; omega
      · go_wp2
        go_ret
        exact ⟨by rw [ints_end Hl.out (by omega) HT.out]; rfl, .of hB⟩
  · have hne : ((a.length : Int) != (b.length : Int)) = true := by simp; omega
    go_enter Try.func45, Try.ntmps45
    go_wp2
    go_ret
    refine ⟨?_, Step.refl _⟩
    have : a ≠ b := fun h => hl (by rw [h])
    simp [intsB, this]

theorem eiInts : EI Try.prog 23 3 (.int .i64 0) 1 8 := .mk' Try.underlying23 infoInt rfl
theorem eiRows : EI Try.prog 24 23 (.slice none 0 0) 1 24 := .mk' Try.underlying24 infoInts rfl

theorem list_any (S : Nat → Prop) (l : List Int) (v : Value) (w : World) (h : SL S w v l) (hl : l.length ≤ 1000000) :
    Calls Try.prog 36 #[v] w fun e w' => ∃ v', e = .returned v' ∧ SL (Old w) w' v' l ∧ Step w w' := by
  go_enter Try.func36, Try.ntmps36
  go_wp2_with (at_builtin; refine wpl_append (α := Int) (S := Old w) (base := w.heap.size) (v := .slice none 0 0) (l := []) (m := l) eiInts rfl _ _ rfl rfl rfl (OwnL.nil _ _ _ _) (h.flat _) l.length (by simp) l rfl ?_ ?_ (Nat.le_refl _) ?_)
  · simp only [maxLen]; omega
  · omega
  intro p c w' hown hg
  go_wp2
  go_ret
  exact ⟨_, rfl, hown.fresh, .of ((Below.refl _ w).grown hg (Nat.le_refl _) (by simp [Value.ownBlock]))⟩


theorem rows_any (S : Nat → Prop) (l : List (List Int)) (v : Value) (w : World) (h : SL S w v l) (hl : l.length ≤ 1000) (hr : ∀ i (h : i < l.length), l[i].length ≤ 1000000) :
    Calls Try.prog 55 #[v] w fun e w' => ∃ v', e = .returned v' ∧ SL (Old w) w' v' l ∧ Step w w' := by
  obtain ⟨p, c, b, o, rfl, _, hm, hp, hc, h0⟩ := h.rows
  go_enter Try.func55, Try.ntmps55
  go_wp2
  go_loopw [3, 4] (fun out i wr => ∃ k : Nat, k ≤ l.length ∧ i = .int .i64 k ∧ OwnL (Old w) w.heap.size 23 wr out (l.take k) ∧ Below w.heap.size w wr) (fun _ i _ => l.length - (intOf i).toNat)
  case atStart => exact ⟨0, Nat.zero_le _, rfl, OwnL.nil _ _ _ _, Below.refl _ _⟩
  case round =>
    obtain ⟨k, hk, rfl, hown, hB⟩ := hrel
    by_cases hlt : k < l.length
    · obtain rfl := hp (by omega)
      obtain ⟨u, e1, hu⟩ := hc k hlt
      have e1 := (hB.cell (p := ⟨b, o + k, none⟩) (h0 (by omega)).1).trans e1
      have hu := hu.keep (.of_below hB)
      have hrk := hr k hlt
      clear hp hc h0 hr
      go_wp2_with fail
      refine (list_any _ _ _ _ hu hrk).mono ?_
      rintro e w1 ⟨v', rfl, hv', hS1⟩
      have hB1 := hS1.below
      obtain ⟨pv, cv, rfl⟩ := hv'.form
      have hlen : (l.take k).length = k := by simp; omega
      have hx : Rep.rep (avoid (Old w) u3) w1 [.slice pv l[k].length cv] l[k] := ⟨_, rfl, hv'.weak fun j _ hj => avoid_old hown (old_lt hB) j hj⟩
      go_wp2_with (at_builtin; refine wpl_append (α := List Int) (S := Old w) (base := w.heap.size) (v := u3) (l := l.take k) (m := [l[k]]) eiRows rfl _ _ rfl rfl rfl ((hown.below hB1).alloc _) (SLe.one _ hx) (k + 1) ?_ (l.take (k + 1)) ?_ ?_ ?_ ?_ ?_)
      · simp; omega
      · exact (List.take_succ_eq_append_getElem hlt).symm
      · simp only [maxLen]; omega
      · omega
      · have := hB.size; have := hB1.size; simp; omega
      intro p' c' w2 hown2 hg
      have hB2 : Below w.heap.size w w2 := ((hB.trans (hB1.mono hB.size)).alloc (by have := hB.size; have := hB1.size; omega) _).grown hg (by have := hB.size; have := hB1.size; simp; omega) (fun j hj => (hown.lt j hj).1)
      go_wp2
      go_roundw
      case rel => exact ⟨k + 1, by omega, by go_num, hown2, hB2⟩
      case measure => simp [intOf]; omega
    · go_wp2
      have hkl : l.take k = l := List.take_of_length_le (by omega)
      rw [hkl] at hown
      go_ret
      exact ⟨_, rfl, hown.fresh, .of hB⟩

end Go.Proofs.Ytbgfmikbhiblgaa
/- Walks: the law package's copies of a house and of a book. -/
namespace Go.Proofs.Ytbgfmikbhiblgaa
set_option linter.unusedSimpArgs false
open Go.RowKit Go.BT

def fewB (h : House) : Prop := h.sectors.length ≤ 1000 ∧ h.prices.length ≤ 1000 ∧ h.dates.length ≤ 1000 ∧ h.frm.length ≤ 1000 ∧ h.holds.length ≤ 1000 ∧ (∀ i (hi : i < h.frm.length), h.frm[i].length ≤ 1000000) ∧ (∀ i (hi : i < h.holds.length), h.holds[i].length ≤ 1000000)

theorem siHouse : SI Try.prog 43 5 := ⟨⟨_, Try.underlying43⟩, by kernel_rfl⟩
theorem infoSector : (Try.prog.info? 121).map (fun i => (i.zero, i.size, i.bytes)) = some (some (.agg #[.int .i64 0, .int .i64 0]), 2, 16) := by kernel_rfl
theorem eiSectors : EI Try.prog 41 121 (.agg #[.int .i64 0, .int .i64 0]) 2 16 := .mk' Try.underlying41 infoSector rfl

set_option maxHeartbeats 1000000 in
theorem House_any (S : Nat → Prop) (h : House) (v : Value) (w : World) (hv : AV S w v h) (hf : fewB h) :
    Calls Try.prog 15 #[v] w fun e w' => ∃ v', e = .returned v' ∧ AV (Old w) w' v' h ∧ Step w w' := by
  obtain ⟨c0, c1, c2, c3, c4, rfl, h0, h1, h2, h3, h4⟩ := hv.house
  obtain ⟨p0, k0, rfl⟩ := h0.form
  obtain ⟨p1, k1, rfl⟩ := h1.form
  obtain ⟨p2, k2, rfl⟩ := h2.form
  obtain ⟨p3, k3, rfl⟩ := h3.form
  obtain ⟨p4, k4, rfl⟩ := h4.form
  obtain ⟨f0, f1, f2, f3, f4, f5, f6⟩ := hf
  go_enter Try.func15, Try.ntmps15
  go_upto_region 1 with fail
  go_cut [3] (fun s3 wx => ∃ g q1 q2 q3 q4, s3 = .pointer (some ⟨g, 0, none⟩) ∧ w.heap.size + 2 ≤ g ∧ g < wx.heap.size ∧
      (wx.cell? ⟨g, 0, none⟩ = some (.slice none 0 0) ∧ wx.cell? ⟨g, 1, none⟩ = some q1 ∧ wx.cell? ⟨g, 2, none⟩ = some q2 ∧ wx.cell? ⟨g, 3, none⟩ = some q3 ∧ wx.cell? ⟨g, 4, none⟩ = some q4 ∧ wx.frozen? ⟨g, 0, none⟩ = false) ∧ Bx wx g [.slice none 0 0, q1, q2, q3, q4] 43 ∧
      (SL (fun j => j < w.heap.size + 2 ∨ j = g) wx q1 h.prices ∧ SL (fun j => j < w.heap.size + 2 ∨ j = g) wx q2 h.dates ∧ SL (fun j => j < w.heap.size + 2 ∨ j = g) wx q3 h.frm ∧ SL (fun j => j < w.heap.size + 2 ∨ j = g) wx q4 h.holds) ∧ Step ((w.alloc
      (.cells #[.slice p0 h.sectors.length k0, .slice p1 h.prices.length k1, .slice p2 h.dates.length k2, .slice p3 h.frm.length k3, .slice p4 h.holds.length k4] 26)).alloc
  (.cells #[.slice none 0 0, .slice none 0 0, .slice none 0 0, .slice none 0 0, .slice none 0 0] 43)) wx)
  case first =>
    refine wp_region_seq (kdOf [2, 5, 8, 11] [(13, 43, .agg #[.slice none 0 0, .slice none 0 0, .slice none 0 0, .slice none 0 0, .slice none 0 0])]) [0, 1, 3, 0, 8, 31, 0, 64, 255, 0, 512, 2047, 4095, 0, 16383] [0, 1, 3, 4, 6, 7, 9, 10, 2, 5, 8, 11, 12, 13] [14] (by kernel_rfl) (by kernel_rfl) (fun i T z hi hk => by simp only [List.mem_cons, List.not_mem_nil, or_false] at hi; rcases hi with rfl | rfl | rfl | rfl | rfl | rfl | rfl | rfl | rfl | rfl | rfl | rfl | rfl | rfl <;> simp [kdOf] at hk <;> (obtain ⟨rfl, rfl⟩ := hk; first | (show Option.bind _ _ = some _; kernel_rfl) | (refine ⟨_, rfl, fun _ _ => ?_⟩; go_simp))) ?_
    intro W0 hW0
    obtain ⟨hc, hf⟩ := hW0.cells
    have z0 := hW0.size
    (try simp only [World.size_alloc, World.size_drew, World.size_setCell, World.size_drewN, Nat.add_one_le_iff] at z0)
    have y0 : w.heap.size < W0.heap.size := by omega
    repeat ((refine run_want rfl rfl (by rfl) ⟨?_, fun W hW => ?_, ?_⟩; rotate_left; (· (obtain ⟨hc'', hf''⟩ := hW.cells; go_simp; (try with_reducible rfl)))); (try simp only [Act.put, List.setIfInBounds_toArray, List.set_cons_zero, List.set_cons_succ]))
    clear hc hf
    refine run_chain rfl rfl (by rfl) (fun W1 hW1 K' hK => ?_)
    go_simp
    refine (list_any _ _ _ _ (h1.keep (by repeat (first | (with_reducible exact Keeps.refl _ _) | (with_reducible apply Keeps.s_alloc) | (with_reducible apply Keeps.s_drew) | (with_reducible apply Keeps.s_drewN) | (with_reducible refine Keeps.s_step ?_ (by with_reducible assumption)) | (with_reducible refine Keeps.s_wrote ?_ (by with_reducible assumption) (by first | exact Or.inr rfl | exact rfl))))) (by omega)).mono ?_
    rintro e w1 ⟨v1, rfl, hv1, hS1⟩
    obtain ⟨r1, m1, rfl⟩ := hv1.form
    refine hK _ _ hS1 ?_
    (try simp only [Act.put, List.setIfInBounds_toArray, List.set_cons_zero, List.set_cons_succ])
    refine run_chain rfl rfl (by rfl) (fun W2 hW2 K' hK => ?_)
    go_simp
    refine (list_any _ _ _ _ (h2.keep (by repeat (first | (with_reducible exact Keeps.refl _ _) | (with_reducible apply Keeps.s_alloc) | (with_reducible apply Keeps.s_drew) | (with_reducible apply Keeps.s_drewN) | (with_reducible refine Keeps.s_step ?_ (by with_reducible assumption)) | (with_reducible refine Keeps.s_wrote ?_ (by with_reducible assumption) (by first | exact Or.inr rfl | exact rfl))))) (by omega)).mono ?_
    rintro e w2 ⟨v2, rfl, hv2, hS2⟩
    obtain ⟨r2, m2, rfl⟩ := hv2.form
    refine hK _ _ hS2 ?_
    (try simp only [Act.put, List.setIfInBounds_toArray, List.set_cons_zero, List.set_cons_succ])
    refine run_chain rfl rfl (by rfl) (fun W3 hW3 K' hK => ?_)
    go_simp
    refine (rows_any _ _ _ _ (h3.keep (by repeat (first | (with_reducible exact Keeps.refl _ _) | (with_reducible apply Keeps.s_alloc) | (with_reducible apply Keeps.s_drew) | (with_reducible apply Keeps.s_drewN) | (with_reducible refine Keeps.s_step ?_ (by with_reducible assumption)) | (with_reducible refine Keeps.s_wrote ?_ (by with_reducible assumption) (by first | exact Or.inr rfl | exact rfl))))) (by omega) f5).mono ?_
    rintro e w3 ⟨v3, rfl, hv3, hS3⟩
    obtain ⟨r3, m3, rfl⟩ := hv3.form
    refine hK _ _ hS3 ?_
    (try simp only [Act.put, List.setIfInBounds_toArray, List.set_cons_zero, List.set_cons_succ])
    refine run_chain rfl rfl (by rfl) (fun W4 hW4 K' hK => ?_)
    go_simp
    refine (rows_any _ _ _ _ (h4.keep (by repeat (first | (with_reducible exact Keeps.refl _ _) | (with_reducible apply Keeps.s_alloc) | (with_reducible apply Keeps.s_drew) | (with_reducible apply Keeps.s_drewN) | (with_reducible refine Keeps.s_step ?_ (by with_reducible assumption)) | (with_reducible refine Keeps.s_wrote ?_ (by with_reducible assumption) (by first | exact Or.inr rfl | exact rfl))))) (by omega) f6).mono ?_
    rintro e w4 ⟨v4, rfl, hv4, hS4⟩
    obtain ⟨r4, m4, rfl⟩ := hv4.form
    refine hK _ _ hS4 ?_
    (try simp only [Act.put, List.setIfInBounds_toArray, List.set_cons_zero, List.set_cons_succ])
    repeat ((refine run_want rfl rfl (by rfl) ⟨?_, fun W hW => ?_, ?_⟩; rotate_left; (· (obtain ⟨hc'', hf''⟩ := hW.cells; go_simp; (try with_reducible rfl)))); (try simp only [Act.put, List.setIfInBounds_toArray, List.set_cons_zero, List.set_cons_succ]))
    refine run_alloc rfl rfl (fun W5 g hW5 hg hgb hgN => ?_)
    (try simp only [Act.put, List.setIfInBounds_toArray, List.set_cons_zero, List.set_cons_succ])
    refine run_end (L := [_]) rfl (fun W6 hW6 => ?_)
    have hb6 := Bx.step (w := W5) (cs := [_, _, _, _, _]) hg hW6
    refine wpl_store (v := .agg #[.slice none 0 0, .slice r1 h.prices.length m1, .slice r2 h.dates.length m2, .slice r3 h.frm.length m3, .slice r4 h.holds.length m4]) rfl _ _ _ rfl rfl rfl hb6 (by kernel_rfl) (by simp [Value.cells]) (by simp [Value.cells, Value.oneCell']) [.slice none 0 0, .slice r1 h.prices.length m1, .slice r2 h.dates.length m2, .slice r3 h.frm.length m3, .slice r4 h.holds.length m4] rfl (fun w7 hb7 hw7 => ?_)
    obtain ⟨⟨⟨⟨_, n1⟩, n2⟩, n3⟩, n4⟩ := hgN
    have zhW1 := hW1.size; have zhW2 := hW2.size; have zhW3 := hW3.size; have zhW4 := hW4.size; have zhS1 := hS1.size; have zhS2 := hS2.size; have zhS3 := hS3.size; have zhS4 := hS4.size
    have hgb' : w.heap.size + 2 ≤ g := by simpa using hgb
    have o1 : ∀ j, j < w1.heap.size → j < w.heap.size + 2 ∨ j = g → j < W1.heap.size := fun j hj hs => by omega
    have o2 : ∀ j, j < w2.heap.size → j < w.heap.size + 2 ∨ j = g → j < W2.heap.size := fun j hj hs => by omega
    have o3 : ∀ j, j < w3.heap.size → j < w.heap.size + 2 ∨ j = g → j < W3.heap.size := fun j hj hs => by omega
    have o4 : ∀ j, j < w4.heap.size → j < w.heap.size + 2 ∨ j = g → j < W4.heap.size := fun j hj hs => by omega
    have q1 := hv1.later (w' := w7) o1 (by repeat (first | (with_reducible exact Keeps.refl _ _) | (with_reducible apply Keeps.s_alloc) | (with_reducible apply Keeps.s_drew) | (with_reducible apply Keeps.s_drewN) | (with_reducible refine Keeps.s_step ?_ (by with_reducible assumption)) | (with_reducible refine Keeps.s_wrote ?_ (by with_reducible assumption) (by first | exact Or.inr rfl | exact rfl))))
    have q2 := hv2.later (w' := w7) o2 (by repeat (first | (with_reducible exact Keeps.refl _ _) | (with_reducible apply Keeps.s_alloc) | (with_reducible apply Keeps.s_drew) | (with_reducible apply Keeps.s_drewN) | (with_reducible refine Keeps.s_step ?_ (by with_reducible assumption)) | (with_reducible refine Keeps.s_wrote ?_ (by with_reducible assumption) (by first | exact Or.inr rfl | exact rfl))))
    have q3 := hv3.later (w' := w7) o3 (by repeat (first | (with_reducible exact Keeps.refl _ _) | (with_reducible apply Keeps.s_alloc) | (with_reducible apply Keeps.s_drew) | (with_reducible apply Keeps.s_drewN) | (with_reducible refine Keeps.s_step ?_ (by with_reducible assumption)) | (with_reducible refine Keeps.s_wrote ?_ (by with_reducible assumption) (by first | exact Or.inr rfl | exact rfl))))
    have q4 := hv4.later (w' := w7) o4 (by repeat (first | (with_reducible exact Keeps.refl _ _) | (with_reducible apply Keeps.s_alloc) | (with_reducible apply Keeps.s_drew) | (with_reducible apply Keeps.s_drewN) | (with_reducible refine Keeps.s_step ?_ (by with_reducible assumption)) | (with_reducible refine Keeps.s_wrote ?_ (by with_reducible assumption) (by first | exact Or.inr rfl | exact rfl))))
    have q5 := Step.wrote (w' := w7) (Step.trans hW0 (by repeat (first | (with_reducible assumption) | (with_reducible exact Step.refl _) | (with_reducible apply Step.s_alloc) | (with_reducible apply Step.s_drew) | (with_reducible apply Step.s_drewN) | (with_reducible refine Step.trans ?_ (by with_reducible assumption))))) hw7 (by simpa using hgb)
    clear hv1 hv2 hv3 hv4 hS1 hS2 hS3 hS4 hW0 hW1 hW2 hW3 hW4 hW5 hW6
    go_wp2_with fail
    go_meet
    exact ⟨g, _, _, _, _, rfl, hgb', hb7.lt, ⟨hb7.cell 0, hb7.cell 1, hb7.cell 2, hb7.cell 3, hb7.cell 4, hb7.frozen 0⟩, hb7, ⟨q1, q2, q3, q4⟩, q5⟩
  case rest =>
    obtain ⟨g, q1, q2, q3, q4, rfl, hg, hgl, ⟨e0, e1, e2, e3, e4, ef⟩, hb, ⟨s1, s2, s3, s4⟩, hS⟩ := hcut
    have b1 := (Bx.new w [.slice p0 h.sectors.length k0, .slice p1 h.prices.length k1, .slice p2 h.dates.length k2, .slice p3 h.frm.length k3, .slice p4 h.holds.length k4] 26).alloc (.cells #[.slice none 0 0, .slice none 0 0, .slice none 0 0, .slice none 0 0, .slice none 0 0] 43) |>.step hS
    have b2 : Bx wc (w.heap.size + 1) [.slice none 0 0, .slice none 0 0, .slice none 0 0, .slice none 0 0, .slice none 0 0] 43 := by
      have := (Bx.new (w.alloc (.cells #[.slice p0 h.sectors.length k0, .slice p1 h.prices.length k1, .slice p2 h.dates.length k2, .slice p3 h.frm.length k3, .slice p4 h.holds.length k4] 26)) [.slice none 0 0, .slice none 0 0, .slice none 0 0, .slice none 0 0, .slice none 0 0] 43).step hS
      simpa using this
    have b3 : Bx wc g [.slice none 0 0, q1, q2, q3, q4] 43 := hb
    have hB0 : Below w.heap.size w wc := Below.trans (((Below.refl _ w).alloc (Nat.le_refl _) _).alloc (by simp) _) (hS.below.mono (by simp; omega))
    clear hS
    go_wp2
    go_loopw [4] (fun i wr => ∃ (k : Nat) (q0 : Value), k ≤ h.sectors.length ∧ i = .int .i64 k ∧ Bx wr g [q0, q1, q2, q3, q4] 43 ∧ OwnL (fun j => j < w.heap.size + 2 ∨ j = g) wc.heap.size 121 wr q0 (h.sectors.take k) ∧ Keeps (fun j => j = g) wc wr ∧ Below w.heap.size w wr) (fun i _ => h.sectors.length - (intOf i).toNat)
    case atStart => exact ⟨0, _, Nat.zero_le _, rfl, b3, OwnL.nil _ _ _ _, Keeps.refl _ _, hB0⟩
    case round =>
      obtain ⟨k, q0, hk, rfl, b3, hown, hK, hB⟩ := hrel
      have b1 := b1.keep hK (by omega)
      have c1 := b1.cell 0
      simp only [List.getElem?_cons_zero] at c1
      by_cases hlt : k < h.sectors.length
      · go_wp2_with fail
        obtain ⟨p0', k0', sb, so, he0, _, _, hsp, hsc, hs0⟩ := h0.sectors
        injection he0 with he1 he2 he3
        subst he1 he3
        obtain rfl := hsp (by omega)
        have hsb := hs0 (by omega)
        obtain ⟨a1, a2⟩ := hsc k hlt
        have a1 := (hB.cell (p := ⟨sb, so + k * 2, none⟩) hsb.1).trans a1
        have a2 := (hB.cell (p := ⟨sb, so + k * 2 + 1, none⟩) hsb.1).trans a2
        have c3 := b3.cell 0
        simp only [List.getElem?_cons_zero] at c3
        have x1 : ¬ q0.ownBlock = some w.heap.size := fun e => by have := (hown.lt _ e).1; have := hB0.size; omega
        have x2 : ¬ q0.ownBlock = some sb := fun e => by have := (hown.lt _ e).1; have := hB0.size; omega
        have x3 : ¬ q0.ownBlock = some g := fun e => by have := (hown.lt _ e).1; omega
        have hx : (0 : Int) ≤ (k : Int) ∧ (k : Int) < (h.sectors.length : Int) := by omega
        refine wp_region_seq (kdOf [15] []) [0, 1, 0, 4, 0, 28, 60, 124, 0, 256, 0, 1792, 3840, 7936, 16380, 32764, 65535, 131071, 262143] [0, 1, 2, 3, 4, 5, 6, 7, 8, 9, 10, 11, 12, 13, 14, 15] [16, 17, 18] (by kernel_rfl) (by kernel_rfl) (fun i T z hi hk => by simp [kdOf] at hk <;> (try (split at hk <;> cases hk))) ?_
        intro W0 hW0
        repeat ((refine run_want rfl rfl (by rfl) ⟨?_, fun W hW => ?_, ?_⟩; rotate_left; (· (have d1 := (hW0.trans hW).keeps.cell id c1; have d3 := (hW0.trans hW).keeps.cell id c3; have e1 := (hW0.trans hW).keeps.cell id a1; have e2 := (hW0.trans hW).keeps.cell id a2; go_simp; (try with_reducible rfl)))); (try simp only [Act.put, List.setIfInBounds_toArray, List.set_cons_zero, List.set_cons_succ]))
        refine run_chain rfl rfl (by rfl) (fun W1 hW1 K' hK' => ?_)
        go_simp
        refine hK' _ _ (.of (Step.alloc _ _)) ?_
        (try simp only [Act.put, List.setIfInBounds_toArray, List.set_cons_zero, List.set_cons_succ])
        refine run_end (L := [_, _, _]) rfl (fun W2 hW2 => ?_)
        have hown2 := ((hown.below hW0.below).below hW1.below).alloc (.cells #[.int .i64 h.sectors[k].cls, .int .i64 h.sectors[k].seats] 121)
        have hu := SLe.one (S := avoid (fun j => j < w.heap.size + 2 ∨ j = g) q0) (w := W1) (cs := [.int .i64 h.sectors[k].cls, .int .i64 h.sectors[k].seats]) (x := h.sectors[k]) 121 rfl
        have hown3 := hown2.step hW2
        have hu3 := hu.step hW2
        have b3 := ((b3.step hW0).step hW1).alloc (.cells #[.int .i64 h.sectors[k].cls, .int .i64 h.sectors[k].seats] 121) |>.step hW2
        have hST : Step wr W2 := ((hW0.trans hW1).trans (Step.alloc _ _)).trans hW2
        clear hW0 hW1 hown2 hu
        have hn1 : (h.sectors.take k).length + [h.sectors[k]].length = k + 1 := by simp; omega
        have hn2 : k + 1 ≤ maxLen := by simp only [maxLen]; omega
        have hn3 : wc.heap.size ≤ W2.heap.size := Nat.le_trans hK.1 hST.size
        have hn4 := (List.take_succ_eq_append_getElem hlt).symm
        go_wp2_with (at_builtin; refine wpl_append (S := fun j => j < w.heap.size + 2 ∨ j = g) (base := wc.heap.size) (v := q0) (l := h.sectors.take k) (m := [h.sectors[k]]) eiSectors rfl _ _ rfl rfl rfl hown3 hu3 (k + 1) hn1 (h.sectors.take (k + 1)) hn4 hn2 (by omega) hn3 ?_)
        intro p' c' w2 hown4 hg4
        have b4 := b3.keep (S := fun j => q0.ownBlock = some j) (.grown hg4 fun j hj _ => hj) x3
        have c4 := b4.cell 0
        simp only [List.getElem?_cons_zero] at c4
        have f4 := b4.frozen 0
        have hz2 := hST.size
        have hz4 := hg4.size
        have hz0 := hK.1
        have hK4 : Keeps (fun j => j = g) wc w2 := ⟨by omega, fun j hj hs => (hg4.block j (by omega) (fun e => by have := (hown.lt j e.symm).1; omega)).trans ((hK.trans (.of_step hST)).2 j hj hs)⟩
        have hB4 : Below w.heap.size w w2 := (hB.step (Nat.le_refl _) hST).grown hg4 (by have := hB.size; omega) (fun j hj => by have := (hown.lt j hj).1; have := hB0.size; omega)
        have x4 : (Value.slice p' (k + 1) c').ownBlock ≠ some g := fun e => by have := (hown4.lt _ e).1; omega
        go_wp2
        go_roundw
        case rel =>
          exact ⟨k + 1, _, by omega, by go_num, b4.setCell 0 _, hown4.wrote (.setCell _ _ _ _) (.inr rfl) x4, hK4.s_wrote (.setCell _ _ _ _) rfl, hB4.setCell (p := ⟨g, 0, none⟩) (by show w.heap.size ≤ g; omega) _⟩
        case measure => simp [intOf]; omega
      · have b2 := b2.keep hK (by omega)
        have hkl : h.sectors.take k = h.sectors := List.take_of_length_le (by omega)
        rw [hkl] at hown
        have e0 := b3.cell 0
        have e1 := b3.cell 1
        have e2 := b3.cell 2
        have e3 := b3.cell 3
        have e4 := b3.cell 4
        simp only [List.getElem?_cons_zero, List.getElem?_cons_succ] at e0 e1 e2 e3 e4
        have t0 := b2.cell 0
        have t1 := b2.cell 1
        have t2 := b2.cell 2
        have t3 := b2.cell 3
        have t4 := b2.cell 4
        simp only [List.getElem?_cons_zero, List.getElem?_cons_succ] at t0 t1 t2 t3 t4
        have tf0 := b2.frozen 0
        have tf1 := b2.frozen 1
        have tf2 := b2.frozen 2
        have tf3 := b2.frozen 3
        have tf4 := b2.frozen 4
        obtain ⟨y0, x0, rfl, _⟩ := hown.form
        obtain ⟨y1, x1', rfl⟩ := s1.form
        obtain ⟨y2, x2, rfl⟩ := s2.form
        obtain ⟨y3, x3, rfl⟩ := s3.form
        obtain ⟨y4, x4, rfl⟩ := s4.form
        go_wp2
        have b5 := ((((b2.setCell 0 (.slice y0 h.sectors.length x0)).setCell 1 (.slice y1 h.prices.length x1')).setCell 2 (.slice y2 h.dates.length x2)).setCell 3 (.slice y3 h.frm.length x3)).setCell 4 (.slice y4 h.holds.length x4)
        have hK5 := (((((Keeps.refl (fun j => j = w.heap.size + 1) wr).s_wrote (.setCell _ (w.heap.size + 1) 0 (.slice y0 h.sectors.length x0)) rfl).s_wrote (.setCell _ (w.heap.size + 1) 1 (.slice y1 h.prices.length x1')) rfl).s_wrote (.setCell _ (w.heap.size + 1) 2 (.slice y2 h.dates.length x2)) rfl).s_wrote (.setCell _ (w.heap.size + 1) 3 (.slice y3 h.frm.length x3)) rfl).s_wrote (.setCell _ (w.heap.size + 1) 4 (.slice y4 h.holds.length x4)) rfl
        have hB5 := ((((hB.setCell (p := ⟨w.heap.size + 1, 0, none⟩) (by simp) (.slice y0 h.sectors.length x0)).setCell (p := ⟨w.heap.size + 1, 1, none⟩) (by simp) (.slice y1 h.prices.length x1')).setCell (p := ⟨w.heap.size + 1, 2, none⟩) (by simp) (.slice y2 h.dates.length x2)).setCell (p := ⟨w.heap.size + 1, 3, none⟩) (by simp) (.slice y3 h.frm.length x3)).setCell (p := ⟨w.heap.size + 1, 4, none⟩) (by simp) (.slice y4 h.holds.length x4)
        refine ret_struct (k := 5) rfl siHouse rfl b5 rfl rfl ⟨_, rfl, ⟨_, rfl, ⟨_, _, _, _, _, rfl, ?_, ?_, ?_, ?_, ?_⟩⟩, .of hB5⟩
        all_goals refine SL.keep (S := fun j => j < w.heap.size + 2 ∨ j = g) (hK5.mono fun j _ hj => by omega) ?_ |>.weak fun j _ hj => by unfold Old at hj; omega
        · exact hown.sl fun g' h1 h2 h3 => by omega
        · exact s1.keep (hK.mono fun j _ hj => .inr hj)
        · exact s2.keep (hK.mono fun j _ hj => .inr hj)
        · exact s3.keep (hK.mono fun j _ hj => .inr hj)
        · exact s4.keep (hK.mono fun j _ hj => .inr hj)
end Go.Proofs.Ytbgfmikbhiblgaa
/- Walks: 'all', ContainsFunc, IndexFunc at a list of numbers, of sectors, of lists, of keys: for whatever predicate. -/
namespace Go.Proofs.Ytbgfmikbhiblgaa
set_option linter.unusedSimpArgs false
set_option linter.unusedVariables false
open Go.RowKit Go.BT

/-- Where p first holds, or -1. -/
def idxOf {α : Type} (p : α → Bool) (l : List α) : Int := match l.findIdx? p with | some i => (i : Int) | none => -1
theorem idxOf_at {α : Type} {p : α → Bool} {l : List α} {k : Nat} (hk : k < l.length) (h : ∀ j (hj : j < k), p (l[j]'(by omega)) = false) (hp : p l[k] = true) : idxOf p l = k := by
  have : l.findIdx? p = some k := by
    rw [List.findIdx?_eq_some_iff_getElem]
    exact ⟨hk, hp, fun j hj => by simpa using h j hj⟩
  simp [idxOf, this]
theorem idxOf_none {α : Type} {p : α → Bool} {l : List α} (h : ∀ j (hj : j < l.length), p l[j] = false) : idxOf p l = -1 := by
  have : l.findIdx? p = none := by
    rw [List.findIdx?_eq_none_iff]
    intro x hx
    obtain ⟨j, hj, rfl⟩ := List.getElem_of_mem hx
    exact h j hj
  simp [idxOf, this]
theorem idxOf_ge {α : Type} (p : α → Bool) (l : List α) : decide (0 ≤ idxOf p l) = l.any p := by
  unfold idxOf
  cases h : l.findIdx? p with
  | none =>
    rw [List.findIdx?_eq_none_iff] at h
    simp only [Int.reduceNeg, Int.reduceLE, decide_false]
    symm; rw [List.any_eq_false]; intro x hx; simpa using h x hx
  | some i =>
    rw [List.findIdx?_eq_some_iff_getElem] at h
    obtain ⟨hi, hp, _⟩ := h
    simp only [Int.natCast_nonneg, decide_true]
    symm; rw [List.any_eq_true]; exact ⟨_, List.getElem_mem hi, hp⟩

/-- What is asked of a predicate: called at each element in turn, in a world of its kind J, it gives p, and the world is of the next kind. -/
def PredJ (g : FuncId) (cap : Array Value) {α : Type} (V : World → Value → α → Prop) (p : α → Bool) (l : List α) (J : Nat → World → Prop) : Prop :=
  ∀ i (h : i < l.length) W u, J i W → (∀ j (hj : j < i), p (l[j]'(by omega)) = false) → V W u l[i] → Calls Try.prog g (#[u] ++ cap) W fun e W' => e = .returned (.bool (p l[i])) ∧ J (i + 1) W'

/-- What is asked of a predicate that 'all' is handed: it is called at each element in turn, as long as it has held; X: what it may write. -/
def PredA (g : FuncId) (cap : Array Value) {α : Type} (V : World → Value → α → Prop) (p : α → Bool) (l : List α) (J : Nat → World → Prop) (X : Nat → Prop) : Prop :=
  ∀ i (h : i < l.length) W u, J i W → (∀ j (hj : j < i), p (l[j]'(by omega)) = true) → V W u l[i] → Calls Try.prog g (#[u] ++ cap) W fun e W' => e = .returned (.bool (p l[i])) ∧ J (i + 1) W' ∧ StepX X W W'

set_option maxHeartbeats 1000000 in
theorem indexFunc_int (S : Nat → Prop) (l : List Int) (v : Value) (w : World) (g : FuncId) (cap : Array Value) (eg : ∀ args w, (callFunc g args).run Try.prog w = .ok (.enter g args) w) (p : Int → Bool) (J : Nat → World → Prop) (hJ : ∀ i W, J i W → SL S W v l) (hw : J 0 w)
    (hp : PredJ g cap (fun _ u x => u = .int .i64 x) p l J) :
    Calls Try.prog 135 #[v, .func (.func g) #[] cap] w fun e w' => e = .returned (.int .i64 (idxOf p l)) ∧ ∃ k, k ≤ l.length ∧ (idxOf p l = -1 → k = l.length) ∧ J k w' := by
  obtain ⟨pv, cv, rfl⟩ := (hJ 0 w hw).form
  have hm := (hJ 0 w hw).len
  have Hp := Lib.hid hp
  have HJ := Lib.hid hJ
  clear hp hJ
  go_enter Try.func135, Try.ntmps135
  go_wp2
  go_loopw [8] (fun i wr => ∃ k : Nat, k ≤ l.length ∧ i = .int .i64 k ∧ (∀ j (hj : j < k) (hl : j < l.length), p l[j] = false) ∧ J k wr) (fun i _ => l.length - (intOf i).toNat)
  case atStart => exact ⟨0, Nat.zero_le _, rfl, fun j hj => absurd hj (by omega), hw⟩
  case round =>
    obtain ⟨k, hk, rfl, hno, hJk⟩ := hrel
    have HN := Lib.hid hno
    clear hno
    by_cases hlt : k < l.length
    · obtain ⟨p', c', b, o, he, _, _, hpp, hc, _⟩ := (HJ.out k wr hJk).ints
      injection he with he1 he2 he3
      subst he1 he3
      obtain rfl := hpp (by omega)
      have e1 := hc k hlt
      clear hc hpp he2
      have hcall := Lib.hid (Hp.out k hlt wr (.int .i64 l[k]) hJk (fun j hj => HN.out j hj (by omega)) rfl)
      cases hq : p l[k] with
      | true =>
        have hq := Lib.hid hq
        go_wp2_with fail
        refine hcall.out.mono ?_
        rintro e w' ⟨rfl, hJ'⟩
        rw [hq.out]
        go_wp2
        have hi := idxOf_at hlt (fun j hj => HN.out j hj (by omega)) hq.out
        go_ret
        rw [hi]
        exact ⟨rfl, k + 1, by omega, fun h => by omega, hJ'⟩
      | false =>
        have hq := Lib.hid hq
        go_wp2_with fail
        refine hcall.out.mono ?_
        rintro e w' ⟨rfl, hJ'⟩
        rw [hq.out]
        go_wp2
        go_roundw
        case rel => exact ⟨k + 1, by omega, by go_num, fun j hj hl => if h : j = k then by subst h; exact hq.out else HN.out j (by omega) hl, hJ'⟩
        case measure => simp [intOf]; omega
    · go_wp2
      have hi := idxOf_none (fun j hj => HN.out j (by omega) hj)
      go_ret
      rw [hi]
      exact ⟨rfl, k, hk, fun _ => by omega, hJk⟩
set_option maxHeartbeats 1000000 in
theorem containsFunc_int (S : Nat → Prop) (l : List Int) (v : Value) (w : World) (g : FuncId) (cap : Array Value) (eg : ∀ args w, (callFunc g args).run Try.prog w = .ok (.enter g args) w) (p : Int → Bool) (J : Nat → World → Prop) (hJ : ∀ i W, J i W → SL S W v l) (hw : J 0 w)
    (hp : PredJ g cap (fun _ u x => u = .int .i64 x) p l J) :
    Calls Try.prog 122 #[v, .func (.func g) #[] cap] w fun e w' => e = .returned (.bool (l.any p)) ∧ ∃ k, k ≤ l.length ∧ (l.any p = false → k = l.length) ∧ J k w' := by
  have hc := indexFunc_int S l v w g cap eg p J hJ hw hp
  have HC := Lib.hid hc
  clear hc hp hJ eg
  go_enter Try.func122, Try.ntmps122
  go_wp2_with fail
  refine HC.out.mono ?_
  rintro e w' ⟨rfl, hk⟩
  have HK := Lib.hid hk
  clear hk
  go_wp2
  have hge := idxOf_ge p l
  go_ret
  obtain ⟨k, h1, h2, h3⟩ := HK.out
  refine ⟨by rw [← hge]; rfl, k, h1, fun h => h2 ?_, h3⟩
  rw [← hge, decide_eq_false_iff_not] at h
  unfold idxOf at h ⊢
  split <;> rename_i hh <;> simp [hh] at h ⊢
set_option maxHeartbeats 1000000 in
theorem allNot_int (l : List Int) (g : FuncId) (cap : Array Value) (eg : ∀ args w, (callFunc g args).run Try.prog w = .ok (.enter g args) w) (p : Int → Bool) (J : Nat → World → Prop) (X : Nat → Prop) (b : Nat) (hX : ¬ X b)
    (hJs : ∀ i W W', J i W → Step W W' → J i W') (hp : PredA g cap (fun _ u x => u = .int .i64 x) p l J X) :
    PredJ 123 #[.pointer (some ⟨b, 0, none⟩)] (fun _ u x => u = .int .i64 x) (fun x => !p x) l (fun i W => J i W ∧ W.cell? ⟨b, 0, none⟩ = some (.func (.func g) #[] cap)) := by
  intro i h W u ⟨hJ, hc⟩ hno hV
  have hb := World.block_lt_of_cell? W _ hc
  have hb' : b < W.heap.size := hb
  obtain rfl := hV
  have hcall := Lib.hid (hp i h W (.int .i64 l[i]) (hJs _ _ _ hJ (Step.refl _)) (fun j hj => by simpa using hno j hj) rfl)
  show Calls Try.prog 123 #[(.int .i64 l[i]), .pointer (some ⟨b, 0, none⟩)] W _
  have HN := Lib.hid hno
  have HS := Lib.hid hJs
  clear hno hJs hp hJ hb
  go_enter Try.func123, Try.ntmps123
  go_wp2_with fail
  refine hcall.out.mono ?_
  rintro e w' ⟨rfl, hJ', hst⟩
  have hc' := hst.keeps.cell hX (a := ⟨b, 0, none⟩) hc
  go_wp2
  go_ret
  exact ⟨rfl, hJ', hc'⟩
set_option maxHeartbeats 1000000 in
theorem all_int (S : Nat → Prop) (l : List Int) (v : Value) (w : World) (g : FuncId) (cap : Array Value) (eg : ∀ args w, (callFunc g args).run Try.prog w = .ok (.enter g args) w) (p : Int → Bool) (J : Nat → World → Prop) (X : Nat → Prop)
    (hX : ∀ j, X j → j < w.heap.size) (hJ : ∀ i W, J i W → SL S W v l) (hJs : ∀ i W W', J i W → Step W W' → J i W') (hw : J 0 w) (hp : PredA g cap (fun _ u x => u = .int .i64 x) p l J X) :
    Calls Try.prog 100 #[v, .func (.func g) #[] cap] w fun e w' => e = .returned (.bool (l.all p)) ∧ ∃ k, k ≤ l.length ∧ (l.all p = true → k = l.length) ∧ J k w' := by
  have hmf : ∀ (fn : Fn) (first cap : Array Value) (w : World), (Instr.makeFunc fn first cap).run Try.prog w = .ok (.func fn first cap) w := fun _ _ _ _ => rfl
  have hc := containsFunc_int S l v (w.alloc (.cells #[.func (.func g) #[] cap] 163)) 123 #[.pointer (some ⟨w.heap.size, 0, none⟩)] (Go.Proofs.enters_of Try.func123 (by kernel_rfl) rfl) (fun x => !p x)
    (fun i W => J i W ∧ W.cell? ⟨w.heap.size, 0, none⟩ = some (.func (.func g) #[] cap)) (fun i W h => hJ i W h.1) ⟨hJs _ _ _ hw (Step.alloc _ _), by rw [World.cell?_alloc_new]; rfl⟩
    (allNot_int l g cap eg p J X w.heap.size (fun h => by have := hX _ h; omega) hJs hp)
  have HC := Lib.hid hc
  clear hc hp hJ hJs hX eg
  go_enter Try.func100, Try.ntmps100
  go_wp2_with fail
  refine HC.out.mono ?_
  rintro e w' ⟨rfl, hk⟩
  have HK := Lib.hid hk
  clear hk
  have he : (l.any fun x => !p x) = !(l.all p) := by rw [List.not_all_eq_any_not]
  have HE := Lib.hid he
  clear he
  go_wp2
  go_ret
  obtain ⟨k, h1, h2, h3, _⟩ := HK.out
  rw [HE.out] at h2 ⊢
  exact ⟨by simp, k, h1, fun h => h2 (by simp [h]), h3⟩
set_option maxHeartbeats 1000000 in
theorem indexFunc_sector (S : Nat → Prop) (l : List Sector) (v : Value) (w : World) (g : FuncId) (cap : Array Value) (eg : ∀ args w, (callFunc g args).run Try.prog w = .ok (.enter g args) w) (p : Sector → Bool) (J : Nat → World → Prop) (hJ : ∀ i W, J i W → SL S W v l) (hw : J 0 w)
    (hp : PredJ g cap (fun _ u x => u = .agg #[.int .i64 x.cls, .int .i64 x.seats]) p l J) :
    Calls Try.prog 131 #[v, .func (.func g) #[] cap] w fun e w' => e = .returned (.int .i64 (idxOf p l)) ∧ ∃ k, k ≤ l.length ∧ (idxOf p l = -1 → k = l.length) ∧ J k w' := by
  obtain ⟨pv, cv, rfl⟩ := (hJ 0 w hw).form
  have hm := (hJ 0 w hw).len
  have Hp := Lib.hid hp
  have HJ := Lib.hid hJ
  clear hp hJ
  go_enter Try.func131, Try.ntmps131
  go_wp2
  go_loopw [8] (fun i wr => ∃ k : Nat, k ≤ l.length ∧ i = .int .i64 k ∧ (∀ j (hj : j < k) (hl : j < l.length), p l[j] = false) ∧ J k wr) (fun i _ => l.length - (intOf i).toNat)
  case atStart => exact ⟨0, Nat.zero_le _, rfl, fun j hj => absurd hj (by omega), hw⟩
  case round =>
    obtain ⟨k, hk, rfl, hno, hJk⟩ := hrel
    have HN := Lib.hid hno
    clear hno
    by_cases hlt : k < l.length
    · obtain ⟨p', c', b, o, he, _, _, hpp, hc, _⟩ := (HJ.out k wr hJk).sectors
      injection he with he1 he2 he3
      subst he1 he3
      obtain rfl := hpp (by omega)
      obtain ⟨e1, e2⟩ := hc k hlt
      clear hc hpp he2
      have hcall := Lib.hid (Hp.out k hlt wr (.agg #[.int .i64 l[k].cls, .int .i64 l[k].seats]) hJk (fun j hj => HN.out j hj (by omega)) rfl)
      cases hq : p l[k] with
      | true =>
        have hq := Lib.hid hq
        go_wp2_with fail
        refine hcall.out.mono ?_
        rintro e w' ⟨rfl, hJ'⟩
        rw [hq.out]
        go_wp2
        have hi := idxOf_at hlt (fun j hj => HN.out j hj (by omega)) hq.out
        go_ret
        rw [hi]
        exact ⟨rfl, k + 1, by omega, fun h => by omega, hJ'⟩
      | false =>
        have hq := Lib.hid hq
        go_wp2_with fail
        refine hcall.out.mono ?_
        rintro e w' ⟨rfl, hJ'⟩
        rw [hq.out]
        go_wp2
        go_roundw
        case rel => exact ⟨k + 1, by omega, by go_num, fun j hj hl => if h : j = k then by subst h; exact hq.out else HN.out j (by omega) hl, hJ'⟩
        case measure => simp [intOf]; omega
    · go_wp2
      have hi := idxOf_none (fun j hj => HN.out j (by omega) hj)
      go_ret
      rw [hi]
      exact ⟨rfl, k, hk, fun _ => by omega, hJk⟩
set_option maxHeartbeats 1000000 in
theorem containsFunc_sector (S : Nat → Prop) (l : List Sector) (v : Value) (w : World) (g : FuncId) (cap : Array Value) (eg : ∀ args w, (callFunc g args).run Try.prog w = .ok (.enter g args) w) (p : Sector → Bool) (J : Nat → World → Prop) (hJ : ∀ i W, J i W → SL S W v l) (hw : J 0 w)
    (hp : PredJ g cap (fun _ u x => u = .agg #[.int .i64 x.cls, .int .i64 x.seats]) p l J) :
    Calls Try.prog 113 #[v, .func (.func g) #[] cap] w fun e w' => e = .returned (.bool (l.any p)) ∧ ∃ k, k ≤ l.length ∧ (l.any p = false → k = l.length) ∧ J k w' := by
  have hc := indexFunc_sector S l v w g cap eg p J hJ hw hp
  have HC := Lib.hid hc
  clear hc hp hJ eg
  go_enter Try.func113, Try.ntmps113
  go_wp2_with fail
  refine HC.out.mono ?_
  rintro e w' ⟨rfl, hk⟩
  have HK := Lib.hid hk
  clear hk
  go_wp2
  have hge := idxOf_ge p l
  go_ret
  obtain ⟨k, h1, h2, h3⟩ := HK.out
  refine ⟨by rw [← hge]; rfl, k, h1, fun h => h2 ?_, h3⟩
  rw [← hge, decide_eq_false_iff_not] at h
  unfold idxOf at h ⊢
  split <;> rename_i hh <;> simp [hh] at h ⊢
set_option maxHeartbeats 1000000 in
theorem allNot_sector (l : List Sector) (g : FuncId) (cap : Array Value) (eg : ∀ args w, (callFunc g args).run Try.prog w = .ok (.enter g args) w) (p : Sector → Bool) (J : Nat → World → Prop) (X : Nat → Prop) (b : Nat) (hX : ¬ X b)
    (hJs : ∀ i W W', J i W → Step W W' → J i W') (hp : PredA g cap (fun _ u x => u = .agg #[.int .i64 x.cls, .int .i64 x.seats]) p l J X) :
    PredJ 114 #[.pointer (some ⟨b, 0, none⟩)] (fun _ u x => u = .agg #[.int .i64 x.cls, .int .i64 x.seats]) (fun x => !p x) l (fun i W => J i W ∧ W.cell? ⟨b, 0, none⟩ = some (.func (.func g) #[] cap)) := by
  intro i h W u ⟨hJ, hc⟩ hno hV
  have hb := World.block_lt_of_cell? W _ hc
  have hb' : b < W.heap.size := hb
  obtain rfl := hV
  have hcall := Lib.hid (hp i h (W.alloc (.cells #[.int .i64 l[i].cls, .int .i64 l[i].seats] 121)) (.agg #[.int .i64 l[i].cls, .int .i64 l[i].seats]) (hJs _ _ _ hJ (Step.alloc _ _)) (fun j hj => by simpa using hno j hj) rfl)
  show Calls Try.prog 114 #[(.agg #[.int .i64 l[i].cls, .int .i64 l[i].seats]), .pointer (some ⟨b, 0, none⟩)] W _
  have HN := Lib.hid hno
  have HS := Lib.hid hJs
  clear hno hJs hp hJ hb
  go_enter Try.func114, Try.ntmps114
  go_wp2_with fail
  refine hcall.out.mono ?_
  rintro e w' ⟨rfl, hJ', hst⟩
  have hc' := hst.keeps.cell hX (a := ⟨b, 0, none⟩) (by rw [World.cell?_alloc_lt _ _ _ hb']; exact hc)
  go_wp2
  go_ret
  exact ⟨rfl, hJ', hc'⟩
set_option maxHeartbeats 1000000 in
theorem all_sector (S : Nat → Prop) (l : List Sector) (v : Value) (w : World) (g : FuncId) (cap : Array Value) (eg : ∀ args w, (callFunc g args).run Try.prog w = .ok (.enter g args) w) (p : Sector → Bool) (J : Nat → World → Prop) (X : Nat → Prop)
    (hX : ∀ j, X j → j < w.heap.size) (hJ : ∀ i W, J i W → SL S W v l) (hJs : ∀ i W W', J i W → Step W W' → J i W') (hw : J 0 w) (hp : PredA g cap (fun _ u x => u = .agg #[.int .i64 x.cls, .int .i64 x.seats]) p l J X) :
    Calls Try.prog 90 #[v, .func (.func g) #[] cap] w fun e w' => e = .returned (.bool (l.all p)) ∧ ∃ k, k ≤ l.length ∧ (l.all p = true → k = l.length) ∧ J k w' := by
  have hmf : ∀ (fn : Fn) (first cap : Array Value) (w : World), (Instr.makeFunc fn first cap).run Try.prog w = .ok (.func fn first cap) w := fun _ _ _ _ => rfl
  have hc := containsFunc_sector S l v (w.alloc (.cells #[.func (.func g) #[] cap] 156)) 114 #[.pointer (some ⟨w.heap.size, 0, none⟩)] (Go.Proofs.enters_of Try.func114 (by kernel_rfl) rfl) (fun x => !p x)
    (fun i W => J i W ∧ W.cell? ⟨w.heap.size, 0, none⟩ = some (.func (.func g) #[] cap)) (fun i W h => hJ i W h.1) ⟨hJs _ _ _ hw (Step.alloc _ _), by rw [World.cell?_alloc_new]; rfl⟩
    (allNot_sector l g cap eg p J X w.heap.size (fun h => by have := hX _ h; omega) hJs hp)
  have HC := Lib.hid hc
  clear hc hp hJ hJs hX eg
  go_enter Try.func90, Try.ntmps90
  go_wp2_with fail
  refine HC.out.mono ?_
  rintro e w' ⟨rfl, hk⟩
  have HK := Lib.hid hk
  clear hk
  have he : (l.any fun x => !p x) = !(l.all p) := by rw [List.not_all_eq_any_not]
  have HE := Lib.hid he
  clear he
  go_wp2
  go_ret
  obtain ⟨k, h1, h2, h3, _⟩ := HK.out
  rw [HE.out] at h2 ⊢
  exact ⟨by simp, k, h1, fun h => h2 (by simp [h]), h3⟩
set_option maxHeartbeats 1000000 in
theorem indexFunc_key (S : Nat → Prop) (l : List Key) (v : Value) (w : World) (g : FuncId) (cap : Array Value) (eg : ∀ args w, (callFunc g args).run Try.prog w = .ok (.enter g args) w) (p : Key → Bool) (J : Nat → World → Prop) (hJ : ∀ i W, J i W → SL S W v l) (hw : J 0 w)
    (hp : PredJ g cap (fun _ u x => u = .agg #[.int .i64 x.frm, .int .i64 x.number]) p l J) :
    Calls Try.prog 136 #[v, .func (.func g) #[] cap] w fun e w' => e = .returned (.int .i64 (idxOf p l)) ∧ ∃ k, k ≤ l.length ∧ (idxOf p l = -1 → k = l.length) ∧ J k w' := by
  obtain ⟨pv, cv, rfl⟩ := (hJ 0 w hw).form
  have hm := (hJ 0 w hw).len
  have Hp := Lib.hid hp
  have HJ := Lib.hid hJ
  clear hp hJ
  go_enter Try.func136, Try.ntmps136
  go_wp2
  go_loopw [8] (fun i wr => ∃ k : Nat, k ≤ l.length ∧ i = .int .i64 k ∧ (∀ j (hj : j < k) (hl : j < l.length), p l[j] = false) ∧ J k wr) (fun i _ => l.length - (intOf i).toNat)
  case atStart => exact ⟨0, Nat.zero_le _, rfl, fun j hj => absurd hj (by omega), hw⟩
  case round =>
    obtain ⟨k, hk, rfl, hno, hJk⟩ := hrel
    have HN := Lib.hid hno
    clear hno
    by_cases hlt : k < l.length
    · obtain ⟨p', c', b, o, he, _, _, hpp, hc, _⟩ := (HJ.out k wr hJk).keys
      injection he with he1 he2 he3
      subst he1 he3
      obtain rfl := hpp (by omega)
      obtain ⟨e1, e2⟩ := hc k hlt
      clear hc hpp he2
      have hcall := Lib.hid (Hp.out k hlt wr (.agg #[.int .i64 l[k].frm, .int .i64 l[k].number]) hJk (fun j hj => HN.out j hj (by omega)) rfl)
      cases hq : p l[k] with
      | true =>
        have hq := Lib.hid hq
        go_wp2_with fail
        refine hcall.out.mono ?_
        rintro e w' ⟨rfl, hJ'⟩
        rw [hq.out]
        go_wp2
        have hi := idxOf_at hlt (fun j hj => HN.out j hj (by omega)) hq.out
        go_ret
        rw [hi]
        exact ⟨rfl, k + 1, by omega, fun h => by omega, hJ'⟩
      | false =>
        have hq := Lib.hid hq
        go_wp2_with fail
        refine hcall.out.mono ?_
        rintro e w' ⟨rfl, hJ'⟩
        rw [hq.out]
        go_wp2
        go_roundw
        case rel => exact ⟨k + 1, by omega, by go_num, fun j hj hl => if h : j = k then by subst h; exact hq.out else HN.out j (by omega) hl, hJ'⟩
        case measure => simp [intOf]; omega
    · go_wp2
      have hi := idxOf_none (fun j hj => HN.out j (by omega) hj)
      go_ret
      rw [hi]
      exact ⟨rfl, k, hk, fun _ => by omega, hJk⟩
set_option maxHeartbeats 1000000 in
theorem containsFunc_key (S : Nat → Prop) (l : List Key) (v : Value) (w : World) (g : FuncId) (cap : Array Value) (eg : ∀ args w, (callFunc g args).run Try.prog w = .ok (.enter g args) w) (p : Key → Bool) (J : Nat → World → Prop) (hJ : ∀ i W, J i W → SL S W v l) (hw : J 0 w)
    (hp : PredJ g cap (fun _ u x => u = .agg #[.int .i64 x.frm, .int .i64 x.number]) p l J) :
    Calls Try.prog 133 #[v, .func (.func g) #[] cap] w fun e w' => e = .returned (.bool (l.any p)) ∧ ∃ k, k ≤ l.length ∧ (l.any p = false → k = l.length) ∧ J k w' := by
  have hc := indexFunc_key S l v w g cap eg p J hJ hw hp
  have HC := Lib.hid hc
  clear hc hp hJ eg
  go_enter Try.func133, Try.ntmps133
  go_wp2_with fail
  refine HC.out.mono ?_
  rintro e w' ⟨rfl, hk⟩
  have HK := Lib.hid hk
  clear hk
  go_wp2
  have hge := idxOf_ge p l
  go_ret
  obtain ⟨k, h1, h2, h3⟩ := HK.out
  refine ⟨by rw [← hge]; rfl, k, h1, fun h => h2 ?_, h3⟩
  rw [← hge, decide_eq_false_iff_not] at h
  unfold idxOf at h ⊢
  split <;> rename_i hh <;> simp [hh] at h ⊢
set_option maxHeartbeats 1000000 in
theorem allNot_key (l : List Key) (g : FuncId) (cap : Array Value) (eg : ∀ args w, (callFunc g args).run Try.prog w = .ok (.enter g args) w) (p : Key → Bool) (J : Nat → World → Prop) (X : Nat → Prop) (b : Nat) (hX : ¬ X b)
    (hJs : ∀ i W W', J i W → Step W W' → J i W') (hp : PredA g cap (fun _ u x => u = .agg #[.int .i64 x.frm, .int .i64 x.number]) p l J X) :
    PredJ 134 #[.pointer (some ⟨b, 0, none⟩)] (fun _ u x => u = .agg #[.int .i64 x.frm, .int .i64 x.number]) (fun x => !p x) l (fun i W => J i W ∧ W.cell? ⟨b, 0, none⟩ = some (.func (.func g) #[] cap)) := by
  intro i h W u ⟨hJ, hc⟩ hno hV
  have hb := World.block_lt_of_cell? W _ hc
  have hb' : b < W.heap.size := hb
  obtain rfl := hV
  have hcall := Lib.hid (hp i h (W.alloc (.cells #[.int .i64 l[i].frm, .int .i64 l[i].number] 124)) (.agg #[.int .i64 l[i].frm, .int .i64 l[i].number]) (hJs _ _ _ hJ (Step.alloc _ _)) (fun j hj => by simpa using hno j hj) rfl)
  show Calls Try.prog 134 #[(.agg #[.int .i64 l[i].frm, .int .i64 l[i].number]), .pointer (some ⟨b, 0, none⟩)] W _
  have HN := Lib.hid hno
  have HS := Lib.hid hJs
  clear hno hJs hp hJ hb
  go_enter Try.func134, Try.ntmps134
  go_wp2_with fail
  refine hcall.out.mono ?_
  rintro e w' ⟨rfl, hJ', hst⟩
  have hc' := hst.keeps.cell hX (a := ⟨b, 0, none⟩) (by rw [World.cell?_alloc_lt _ _ _ hb']; exact hc)
  go_wp2
  go_ret
  exact ⟨rfl, hJ', hc'⟩
set_option maxHeartbeats 1000000 in
theorem all_key (S : Nat → Prop) (l : List Key) (v : Value) (w : World) (g : FuncId) (cap : Array Value) (eg : ∀ args w, (callFunc g args).run Try.prog w = .ok (.enter g args) w) (p : Key → Bool) (J : Nat → World → Prop) (X : Nat → Prop)
    (hX : ∀ j, X j → j < w.heap.size) (hJ : ∀ i W, J i W → SL S W v l) (hJs : ∀ i W W', J i W → Step W W' → J i W') (hw : J 0 w) (hp : PredA g cap (fun _ u x => u = .agg #[.int .i64 x.frm, .int .i64 x.number]) p l J X) :
    Calls Try.prog 120 #[v, .func (.func g) #[] cap] w fun e w' => e = .returned (.bool (l.all p)) ∧ ∃ k, k ≤ l.length ∧ (l.all p = true → k = l.length) ∧ J k w' := by
  have hmf : ∀ (fn : Fn) (first cap : Array Value) (w : World), (Instr.makeFunc fn first cap).run Try.prog w = .ok (.func fn first cap) w := fun _ _ _ _ => rfl
  have hc := containsFunc_key S l v (w.alloc (.cells #[.func (.func g) #[] cap] 179)) 134 #[.pointer (some ⟨w.heap.size, 0, none⟩)] (Go.Proofs.enters_of Try.func134 (by kernel_rfl) rfl) (fun x => !p x)
    (fun i W => J i W ∧ W.cell? ⟨w.heap.size, 0, none⟩ = some (.func (.func g) #[] cap)) (fun i W h => hJ i W h.1) ⟨hJs _ _ _ hw (Step.alloc _ _), by rw [World.cell?_alloc_new]; rfl⟩
    (allNot_key l g cap eg p J X w.heap.size (fun h => by have := hX _ h; omega) hJs hp)
  have HC := Lib.hid hc
  clear hc hp hJ hJs hX eg
  go_enter Try.func120, Try.ntmps120
  go_wp2_with fail
  refine HC.out.mono ?_
  rintro e w' ⟨rfl, hk⟩
  have HK := Lib.hid hk
  clear hk
  have he : (l.any fun x => !p x) = !(l.all p) := by rw [List.not_all_eq_any_not]
  have HE := Lib.hid he
  clear he
  go_wp2
  go_ret
  obtain ⟨k, h1, h2, h3, _⟩ := HK.out
  rw [HE.out] at h2 ⊢
  exact ⟨by simp, k, h1, fun h => h2 (by simp [h]), h3⟩
set_option maxHeartbeats 1000000 in
theorem indexFunc_ikey (S : Nat → Prop) (l : List IKey) (v : Value) (w : World) (g : FuncId) (cap : Array Value) (eg : ∀ args w, (callFunc g args).run Try.prog w = .ok (.enter g args) w) (p : IKey → Bool) (J : Nat → World → Prop) (hJ : ∀ i W, J i W → SL S W v l) (hw : J 0 w)
    (hp : PredJ g cap (fun _ u x => u = .agg #[.int .i64 x.frm, .int .i64 x.number]) p l J) :
    Calls Try.prog 136 #[v, .func (.func g) #[] cap] w fun e w' => e = .returned (.int .i64 (idxOf p l)) ∧ ∃ k, k ≤ l.length ∧ (idxOf p l = -1 → k = l.length) ∧ J k w' := by
  obtain ⟨pv, cv, rfl⟩ := (hJ 0 w hw).form
  have hm := (hJ 0 w hw).len
  have Hp := Lib.hid hp
  have HJ := Lib.hid hJ
  clear hp hJ
  go_enter Try.func136, Try.ntmps136
  go_wp2
  go_loopw [8] (fun i wr => ∃ k : Nat, k ≤ l.length ∧ i = .int .i64 k ∧ (∀ j (hj : j < k) (hl : j < l.length), p l[j] = false) ∧ J k wr) (fun i _ => l.length - (intOf i).toNat)
  case atStart => exact ⟨0, Nat.zero_le _, rfl, fun j hj => absurd hj (by omega), hw⟩
  case round =>
    obtain ⟨k, hk, rfl, hno, hJk⟩ := hrel
    have HN := Lib.hid hno
    clear hno
    by_cases hlt : k < l.length
    · obtain ⟨p', c', b, o, he, _, _, hpp, hc, _⟩ := (HJ.out k wr hJk).ikeys
      injection he with he1 he2 he3
      subst he1 he3
      obtain rfl := hpp (by omega)
      obtain ⟨e1, e2⟩ := hc k hlt
      clear hc hpp he2
      have hcall := Lib.hid (Hp.out k hlt wr (.agg #[.int .i64 l[k].frm, .int .i64 l[k].number]) hJk (fun j hj => HN.out j hj (by omega)) rfl)
      cases hq : p l[k] with
      | true =>
        have hq := Lib.hid hq
        go_wp2_with fail
        refine hcall.out.mono ?_
        rintro e w' ⟨rfl, hJ'⟩
        rw [hq.out]
        go_wp2
        have hi := idxOf_at hlt (fun j hj => HN.out j hj (by omega)) hq.out
        go_ret
        rw [hi]
        exact ⟨rfl, k + 1, by omega, fun h => by omega, hJ'⟩
      | false =>
        have hq := Lib.hid hq
        go_wp2_with fail
        refine hcall.out.mono ?_
        rintro e w' ⟨rfl, hJ'⟩
        rw [hq.out]
        go_wp2
        go_roundw
        case rel => exact ⟨k + 1, by omega, by go_num, fun j hj hl => if h : j = k then by subst h; exact hq.out else HN.out j (by omega) hl, hJ'⟩
        case measure => simp [intOf]; omega
    · go_wp2
      have hi := idxOf_none (fun j hj => HN.out j (by omega) hj)
      go_ret
      rw [hi]
      exact ⟨rfl, k, hk, fun _ => by omega, hJk⟩
set_option maxHeartbeats 1000000 in
theorem containsFunc_ikey (S : Nat → Prop) (l : List IKey) (v : Value) (w : World) (g : FuncId) (cap : Array Value) (eg : ∀ args w, (callFunc g args).run Try.prog w = .ok (.enter g args) w) (p : IKey → Bool) (J : Nat → World → Prop) (hJ : ∀ i W, J i W → SL S W v l) (hw : J 0 w)
    (hp : PredJ g cap (fun _ u x => u = .agg #[.int .i64 x.frm, .int .i64 x.number]) p l J) :
    Calls Try.prog 133 #[v, .func (.func g) #[] cap] w fun e w' => e = .returned (.bool (l.any p)) ∧ ∃ k, k ≤ l.length ∧ (l.any p = false → k = l.length) ∧ J k w' := by
  have hc := indexFunc_ikey S l v w g cap eg p J hJ hw hp
  have HC := Lib.hid hc
  clear hc hp hJ eg
  go_enter Try.func133, Try.ntmps133
  go_wp2_with fail
  refine HC.out.mono ?_
  rintro e w' ⟨rfl, hk⟩
  have HK := Lib.hid hk
  clear hk
  go_wp2
  have hge := idxOf_ge p l
  go_ret
  obtain ⟨k, h1, h2, h3⟩ := HK.out
  refine ⟨by rw [← hge]; rfl, k, h1, fun h => h2 ?_, h3⟩
  rw [← hge, decide_eq_false_iff_not] at h
  unfold idxOf at h ⊢
  split <;> rename_i hh <;> simp [hh] at h ⊢
set_option maxHeartbeats 1000000 in
theorem allNot_ikey (l : List IKey) (g : FuncId) (cap : Array Value) (eg : ∀ args w, (callFunc g args).run Try.prog w = .ok (.enter g args) w) (p : IKey → Bool) (J : Nat → World → Prop) (X : Nat → Prop) (b : Nat) (hX : ¬ X b)
    (hJs : ∀ i W W', J i W → Step W W' → J i W') (hp : PredA g cap (fun _ u x => u = .agg #[.int .i64 x.frm, .int .i64 x.number]) p l J X) :
    PredJ 134 #[.pointer (some ⟨b, 0, none⟩)] (fun _ u x => u = .agg #[.int .i64 x.frm, .int .i64 x.number]) (fun x => !p x) l (fun i W => J i W ∧ W.cell? ⟨b, 0, none⟩ = some (.func (.func g) #[] cap)) := by
  intro i h W u ⟨hJ, hc⟩ hno hV
  have hb := World.block_lt_of_cell? W _ hc
  have hb' : b < W.heap.size := hb
  obtain rfl := hV
  have hcall := Lib.hid (hp i h (W.alloc (.cells #[.int .i64 l[i].frm, .int .i64 l[i].number] 124)) (.agg #[.int .i64 l[i].frm, .int .i64 l[i].number]) (hJs _ _ _ hJ (Step.alloc _ _)) (fun j hj => by simpa using hno j hj) rfl)
  show Calls Try.prog 134 #[(.agg #[.int .i64 l[i].frm, .int .i64 l[i].number]), .pointer (some ⟨b, 0, none⟩)] W _
  have HN := Lib.hid hno
  have HS := Lib.hid hJs
  clear hno hJs hp hJ hb
  go_enter Try.func134, Try.ntmps134
  go_wp2_with fail
  refine hcall.out.mono ?_
  rintro e w' ⟨rfl, hJ', hst⟩
  have hc' := hst.keeps.cell hX (a := ⟨b, 0, none⟩) (by rw [World.cell?_alloc_lt _ _ _ hb']; exact hc)
  go_wp2
  go_ret
  exact ⟨rfl, hJ', hc'⟩
set_option maxHeartbeats 1000000 in
theorem all_ikey (S : Nat → Prop) (l : List IKey) (v : Value) (w : World) (g : FuncId) (cap : Array Value) (eg : ∀ args w, (callFunc g args).run Try.prog w = .ok (.enter g args) w) (p : IKey → Bool) (J : Nat → World → Prop) (X : Nat → Prop)
    (hX : ∀ j, X j → j < w.heap.size) (hJ : ∀ i W, J i W → SL S W v l) (hJs : ∀ i W W', J i W → Step W W' → J i W') (hw : J 0 w) (hp : PredA g cap (fun _ u x => u = .agg #[.int .i64 x.frm, .int .i64 x.number]) p l J X) :
    Calls Try.prog 120 #[v, .func (.func g) #[] cap] w fun e w' => e = .returned (.bool (l.all p)) ∧ ∃ k, k ≤ l.length ∧ (l.all p = true → k = l.length) ∧ J k w' := by
  have hmf : ∀ (fn : Fn) (first cap : Array Value) (w : World), (Instr.makeFunc fn first cap).run Try.prog w = .ok (.func fn first cap) w := fun _ _ _ _ => rfl
  have hc := containsFunc_ikey S l v (w.alloc (.cells #[.func (.func g) #[] cap] 179)) 134 #[.pointer (some ⟨w.heap.size, 0, none⟩)] (Go.Proofs.enters_of Try.func134 (by kernel_rfl) rfl) (fun x => !p x)
    (fun i W => J i W ∧ W.cell? ⟨w.heap.size, 0, none⟩ = some (.func (.func g) #[] cap)) (fun i W h => hJ i W h.1) ⟨hJs _ _ _ hw (Step.alloc _ _), by rw [World.cell?_alloc_new]; rfl⟩
    (allNot_ikey l g cap eg p J X w.heap.size (fun h => by have := hX _ h; omega) hJs hp)
  have HC := Lib.hid hc
  clear hc hp hJ hJs hX eg
  go_enter Try.func120, Try.ntmps120
  go_wp2_with fail
  refine HC.out.mono ?_
  rintro e w' ⟨rfl, hk⟩
  have HK := Lib.hid hk
  clear hk
  have he : (l.any fun x => !p x) = !(l.all p) := by rw [List.not_all_eq_any_not]
  have HE := Lib.hid he
  clear he
  go_wp2
  go_ret
  obtain ⟨k, h1, h2, h3, _⟩ := HK.out
  rw [HE.out] at h2 ⊢
  exact ⟨by simp, k, h1, fun h => h2 (by simp [h]), h3⟩
set_option maxHeartbeats 1000000 in
theorem indexFunc_row (S : Nat → Prop) (l : List (List Int)) (v : Value) (w : World) (g : FuncId) (cap : Array Value) (eg : ∀ args w, (callFunc g args).run Try.prog w = .ok (.enter g args) w) (p : (List Int) → Bool) (J : Nat → World → Prop) (hJ : ∀ i W, J i W → SL S W v l) (hw : J 0 w)
    (hp : PredJ g cap (fun W u x => SL (fun _ => False) W u x) p l J) :
    Calls Try.prog 132 #[v, .func (.func g) #[] cap] w fun e w' => e = .returned (.int .i64 (idxOf p l)) ∧ ∃ k, k ≤ l.length ∧ (idxOf p l = -1 → k = l.length) ∧ J k w' := by
  obtain ⟨pv, cv, rfl⟩ := (hJ 0 w hw).form
  have hm := (hJ 0 w hw).len
  have Hp := Lib.hid hp
  have HJ := Lib.hid hJ
  clear hp hJ
  go_enter Try.func132, Try.ntmps132
  go_wp2
  go_loopw [8] (fun i wr => ∃ k : Nat, k ≤ l.length ∧ i = .int .i64 k ∧ (∀ j (hj : j < k) (hl : j < l.length), p l[j] = false) ∧ J k wr) (fun i _ => l.length - (intOf i).toNat)
  case atStart => exact ⟨0, Nat.zero_le _, rfl, fun j hj => absurd hj (by omega), hw⟩
  case round =>
    obtain ⟨k, hk, rfl, hno, hJk⟩ := hrel
    have HN := Lib.hid hno
    clear hno
    by_cases hlt : k < l.length
    · obtain ⟨p', c', b, o, he, _, _, hpp, hc, _⟩ := (HJ.out k wr hJk).rows
      injection he with he1 he2 he3
      subst he1 he3
      obtain rfl := hpp (by omega)
      obtain ⟨u, e1, e2⟩ := hc k hlt
      clear hc hpp he2
      have hcall := Lib.hid (Hp.out k hlt wr u hJk (fun j hj => HN.out j hj (by omega)) (e2.weak fun _ _ h => h.elim))
      cases hq : p l[k] with
      | true =>
        have hq := Lib.hid hq
        go_wp2_with fail
        refine hcall.out.mono ?_
        rintro e w' ⟨rfl, hJ'⟩
        rw [hq.out]
        go_wp2
        have hi := idxOf_at hlt (fun j hj => HN.out j hj (by omega)) hq.out
        go_ret
        rw [hi]
        exact ⟨rfl, k + 1, by omega, fun h => by omega, hJ'⟩
      | false =>
        have hq := Lib.hid hq
        go_wp2_with fail
        refine hcall.out.mono ?_
        rintro e w' ⟨rfl, hJ'⟩
        rw [hq.out]
        go_wp2
        go_roundw
        case rel => exact ⟨k + 1, by omega, by go_num, fun j hj hl => if h : j = k then by subst h; exact hq.out else HN.out j (by omega) hl, hJ'⟩
        case measure => simp [intOf]; omega
    · go_wp2
      have hi := idxOf_none (fun j hj => HN.out j (by omega) hj)
      go_ret
      rw [hi]
      exact ⟨rfl, k, hk, fun _ => by omega, hJk⟩
set_option maxHeartbeats 1000000 in
theorem containsFunc_row (S : Nat → Prop) (l : List (List Int)) (v : Value) (w : World) (g : FuncId) (cap : Array Value) (eg : ∀ args w, (callFunc g args).run Try.prog w = .ok (.enter g args) w) (p : (List Int) → Bool) (J : Nat → World → Prop) (hJ : ∀ i W, J i W → SL S W v l) (hw : J 0 w)
    (hp : PredJ g cap (fun W u x => SL (fun _ => False) W u x) p l J) :
    Calls Try.prog 116 #[v, .func (.func g) #[] cap] w fun e w' => e = .returned (.bool (l.any p)) ∧ ∃ k, k ≤ l.length ∧ (l.any p = false → k = l.length) ∧ J k w' := by
  have hc := indexFunc_row S l v w g cap eg p J hJ hw hp
  have HC := Lib.hid hc
  clear hc hp hJ eg
  go_enter Try.func116, Try.ntmps116
  go_wp2_with fail
  refine HC.out.mono ?_
  rintro e w' ⟨rfl, hk⟩
  have HK := Lib.hid hk
  clear hk
  go_wp2
  have hge := idxOf_ge p l
  go_ret
  obtain ⟨k, h1, h2, h3⟩ := HK.out
  refine ⟨by rw [← hge]; rfl, k, h1, fun h => h2 ?_, h3⟩
  rw [← hge, decide_eq_false_iff_not] at h
  unfold idxOf at h ⊢
  split <;> rename_i hh <;> simp [hh] at h ⊢
set_option maxHeartbeats 1000000 in
theorem allNot_row (l : List (List Int)) (g : FuncId) (cap : Array Value) (eg : ∀ args w, (callFunc g args).run Try.prog w = .ok (.enter g args) w) (p : (List Int) → Bool) (J : Nat → World → Prop) (X : Nat → Prop) (b : Nat) (hX : ¬ X b)
    (hJs : ∀ i W W', J i W → Step W W' → J i W') (hp : PredA g cap (fun W u x => SL (fun _ => False) W u x) p l J X) :
    PredJ 117 #[.pointer (some ⟨b, 0, none⟩)] (fun W u x => SL (fun _ => False) W u x) (fun x => !p x) l (fun i W => J i W ∧ W.cell? ⟨b, 0, none⟩ = some (.func (.func g) #[] cap)) := by
  intro i h W u ⟨hJ, hc⟩ hno hV
  have hb := World.block_lt_of_cell? W _ hc
  have hb' : b < W.heap.size := hb
  have hV' := hV
  have hcall := Lib.hid (hp i h W u (hJs _ _ _ hJ (Step.refl _)) (fun j hj => by simpa using hno j hj) hV)
  show Calls Try.prog 117 #[u, .pointer (some ⟨b, 0, none⟩)] W _
  have HN := Lib.hid hno
  have HS := Lib.hid hJs
  clear hno hJs hp hJ hb
  go_enter Try.func117, Try.ntmps117
  go_wp2_with fail
  refine hcall.out.mono ?_
  rintro e w' ⟨rfl, hJ', hst⟩
  have hc' := hst.keeps.cell hX (a := ⟨b, 0, none⟩) hc
  go_wp2
  go_ret
  exact ⟨rfl, hJ', hc'⟩
set_option maxHeartbeats 1000000 in
theorem all_row (S : Nat → Prop) (l : List (List Int)) (v : Value) (w : World) (g : FuncId) (cap : Array Value) (eg : ∀ args w, (callFunc g args).run Try.prog w = .ok (.enter g args) w) (p : (List Int) → Bool) (J : Nat → World → Prop) (X : Nat → Prop)
    (hX : ∀ j, X j → j < w.heap.size) (hJ : ∀ i W, J i W → SL S W v l) (hJs : ∀ i W W', J i W → Step W W' → J i W') (hw : J 0 w) (hp : PredA g cap (fun W u x => SL (fun _ => False) W u x) p l J X) :
    Calls Try.prog 93 #[v, .func (.func g) #[] cap] w fun e w' => e = .returned (.bool (l.all p)) ∧ ∃ k, k ≤ l.length ∧ (l.all p = true → k = l.length) ∧ J k w' := by
  have hmf : ∀ (fn : Fn) (first cap : Array Value) (w : World), (Instr.makeFunc fn first cap).run Try.prog w = .ok (.func fn first cap) w := fun _ _ _ _ => rfl
  have hc := containsFunc_row S l v (w.alloc (.cells #[.func (.func g) #[] cap] 159)) 117 #[.pointer (some ⟨w.heap.size, 0, none⟩)] (Go.Proofs.enters_of Try.func117 (by kernel_rfl) rfl) (fun x => !p x)
    (fun i W => J i W ∧ W.cell? ⟨w.heap.size, 0, none⟩ = some (.func (.func g) #[] cap)) (fun i W h => hJ i W h.1) ⟨hJs _ _ _ hw (Step.alloc _ _), by rw [World.cell?_alloc_new]; rfl⟩
    (allNot_row l g cap eg p J X w.heap.size (fun h => by have := hX _ h; omega) hJs hp)
  have HC := Lib.hid hc
  clear hc hp hJ hJs hX eg
  go_enter Try.func93, Try.ntmps93
  go_wp2_with fail
  refine HC.out.mono ?_
  rintro e w' ⟨rfl, hk⟩
  have HK := Lib.hid hk
  clear hk
  have he : (l.any fun x => !p x) = !(l.all p) := by rw [List.not_all_eq_any_not]
  have HE := Lib.hid he
  clear he
  go_wp2
  go_ret
  obtain ⟨k, h1, h2, h3, _⟩ := HK.out
  rw [HE.out] at h2 ⊢
  exact ⟨by simp, k, h1, fun h => h2 (by simp [h]), h3⟩
end Go.Proofs.Ytbgfmikbhiblgaa
