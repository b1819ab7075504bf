/- TicketHouses holds of every input, and its arguments read afterwards as they did. -/
import Derived.Test.YtbgfmikbhiblgaaMd
import Derived.Test.YtbgfmikbhiblgaaMj
import Derived.Test.YtbgfmikbhiblgaaMn
import Derived.Test.YtbgfmikbhiblgaaMo
import Derived.Test.YtbgfmikbhiblgaaRows
/- Walks: the reference's Open. -/
namespace Go.Proofs.Ytbgfmikbhiblgaa
set_option linter.unusedSimpArgs false
set_option linter.unusedVariables false
open Go.RowKit Go.BT

set_option maxHeartbeats 2000000 in
theorem ROpen_any (S : Nat → Prop) (h : House) (n : Int) (v : Value) (w : World) (hv : AV S w v h) (hok : valid h = true) :
    Calls Try.prog 30 #[v, .int .i64 n] w fun e w' => ∃ v', e = .returned v' ∧ AV (Old w) w' v' (openP h n) ∧ Step w w' := by
  have hbv := bounds_valid hok
  have hd : h.dates.length ≤ 1000 := by omega
  have hh : h.holds.length ≤ 1000 := by omega
  have hr : ∀ i (hi : i < h.holds.length), h.holds[i].length ≤ 1000000 := fun i hi => by have := hbv.2.2.2.2.2.2.2.2.1 i hi; omega
  have HEQ := Lib.hid hbv.2.2.2.1
  clear hbv
  obtain ⟨c0, c1, c2, c3, c4, rfl, h0, h1, h2, h3, h4⟩ := hv.house
  obtain ⟨p0, k0, rfl⟩ := h0.form
  obtain ⟨p1, k1, rfl⟩ := h1.form
  obtain ⟨p2, k2, rfl⟩ := h2.form
  obtain ⟨p3, k3, rfl⟩ := h3.form
  obtain ⟨p4, k4, rfl⟩ := h4.form
  obtain ⟨p', c', b, o, he, _, hm, hp, hc, hb⟩ := h4.rows
  injection he with he1 he2 he3
  subst he1 he3
  have HC := Lib.hid hc
  have HP := Lib.hid hp
  have HB := Lib.hid hb
  have HRR := Lib.hid hr
  clear hv h0 h1 h2 h3 h4 hc hp hb he2 hr
  have hx2 : (0 : Int) ≤ (h.dates.length : Int) := by omega
  go_enter Try.func30, Try.ntmps30
  go_wp2_with (at_make; refine wpl_make (z := .bool false) eiBools rfl _ _ rfl rfl .i64 .i64 h.dates.length rfl rfl (by omega) (by omega) ?_)
  go_loopw [6] (fun i wr => ∃ (k : Nat) (q : Value), k ≤ h.dates.length ∧ i = .int .i64 k ∧ Bx wr w.heap.size [.slice p0 h.sectors.length k0, .slice p1 h.prices.length k1, .slice p2 h.dates.length k2, .slice p3 h.frm.length k3, .slice p4 h.holds.length k4] 26 ∧ Bx wr (w.heap.size + 1 + 1 + 1) [.int .i64 n, q, .slice (some ⟨w.heap.size + 1 + 1, 0, none⟩) h.dates.length h.dates.length, .int .i64 0, .slice none 0 0, .int .i64 0] 30 ∧
      Bx wr (w.heap.size + 1 + 1) (List.replicate h.dates.length (.bool false)) 4 ∧ Bx wr (w.heap.size + 1) [.int .i64 0, .slice none 0 0, .slice none 0 0, .int .i64 0, .slice none 0 0, .int .i64 0] 30 ∧
      OwnL (fun j => j < w.heap.size + 4) (w.heap.size + 4) 23 wr q ((openP h n).seats.take k) ∧ Below w.heap.size w wr ∧ w.heap.size + 4 ≤ wr.heap.size) (fun i _ => h.dates.length - (intOf i).toNat)
  case atStart =>
    have hS : Step w ((((w.alloc (.cells #[.slice p0 h.sectors.length k0, .slice p1 h.prices.length k1, .slice p2 h.dates.length k2, .slice p3 h.frm.length k3, .slice p4 h.holds.length k4] 26)).alloc (.cells #[.int .i64 0, .slice none 0 0, .slice none 0 0, .int .i64 0, .slice none 0 0, .int .i64 0] 30)).alloc (.cells (Array.replicate h.dates.length (.bool false)) 4)).alloc (.cells #[.int .i64 n, .slice none 0 0, .slice (some ⟨w.heap.size + 1 + 1, 0, none⟩) h.dates.length h.dates.length, .int .i64 0, .slice none 0 0, .int .i64 0] 30)) := (by repeat (first | (with_reducible assumption) | (with_reducible exact Step.refl _) | (with_reducible apply Step.s_alloc) | (with_reducible apply Step.s_drew) | (with_reducible apply Step.s_drewN) | (with_reducible refine Step.trans ?_ (by with_reducible assumption))))
    refine ⟨0, _, Nat.zero_le _, rfl, Bx.alloc (Bx.alloc (Bx.alloc (Bx.new _ _ _) _) _) _, Bx.new' _ _ _ _ (by simp), Bx.alloc (by rw [← List.toArray_replicate]; exact Bx.new' _ _ _ _ (by simp)) _, Bx.alloc (Bx.alloc (Bx.new' _ _ _ _ (by simp)) _) _, OwnL.nil _ _ _ _, hS.below, by simp⟩
  case round =>
    obtain ⟨k, q, hk, rfl, hb0, hb, hbb, hbr, hown, hB, hsz⟩ := hrel
    obtain ⟨wo, hwo⟩ : ∃ W, W = wr := ⟨_, rfl⟩
    subst hwo
    by_cases hltd : k < h.dates.length
    · have hlt : k < h.holds.length := by have := HEQ.out; omega
      obtain ⟨_, _, e0x2, _, e0x4⟩ := cells5 hb0
      have HB0 := Lib.hid hb0
      clear hb0
      obtain rfl := HP.out (by omega)
      obtain ⟨u, e1, hu⟩ := HC.out k hlt
      have hbl := (HB.out (by omega)).1
      have hrk := HRR.out k hlt
      have e1 := (hB.cell (p := ⟨b, o + k, none⟩) hbl).trans e1
      have hx : (0 : Int) ≤ (k : Int) ∧ (k : Int) < (h.holds.length : Int) := by omega
      obtain ⟨pu, cu, bu, ou, rfl, _, _, hpu, hcu, hbu⟩ := hu.ints
      have HCU := Lib.hid hcu
      have HPU := Lib.hid hpu
      have HBU := Lib.hid hbu
      clear hu hcu hpu hbu
      have hx3 : (0 : Int) ≤ (h.holds[k].length : Int) := by omega
      go_wp2_with (at_make; refine wpl_make (z := .int .i64 0) eiInts rfl _ _ rfl rfl .i64 .i64 h.holds[k].length rfl rfl (by omega) (by omega) ?_)
      clear e0x2 e0x4
      have HE1 := Lib.hid e1
      clear e1
      go_loopw [8] (fun i wi => ∃ k2 : Nat, k2 ≤ h.holds[k].length ∧ i = .int .i64 k2 ∧ Bx wi wo.heap.size ((mix h.holds[k] (heldV n) k2).map (Value.int .i64)) 3 ∧ Step wo wi) (fun i _ => h.holds[k].length - (intOf i).toNat)
      case atStart => exact ⟨0, Nat.zero_le _, rfl, by rw [mix_zero, List.map_replicate, ← List.toArray_replicate]; exact Bx.new' _ _ _ _ rfl, Step.alloc _ _⟩
      case round =>
        obtain ⟨k2, hk2, rfl, hbx, hS⟩ := hrel
        obtain ⟨_, _, e0x2, _, e0x4⟩ := cells5 (HB0.out.step hS)
        have e1 := hS.keeps.cell id HE1.out
        by_cases hlt2 : k2 < h.holds[k].length
        · obtain rfl := HPU.out (by omega)
          have hbl2 := (HBU.out (by omega)).1
          have a1 := hS.keeps.cell id ((hB.cell (p := ⟨bu, ou + k2, none⟩) hbl2).trans (HCU.out k2 hlt2))
          have hx4 : (0 : Int) ≤ (k2 : Int) ∧ (k2 : Int) < (h.holds[k].length : Int) := by omega
          by_cases hne : h.holds[k][k2] = n
          · have hne' : (h.holds[k][k2] != n) = false := by simp [hne]
            have hv0 : heldV n h.holds[k][k2] = 0 := by simp [heldV, hne]
            have HBX := Lib.hid hbx
            clear hne hbx
            go_wp2
            go_roundw
            case rel => exact ⟨k2 + 1, by omega, by go_num, by rw [← mix_keep _ _ hlt2 hv0]; exact HBX.out, hS⟩
            case measure => simp [intOf]; omega
          · have hne' : (h.holds[k][k2] != n) = true := by simp [hne]
            have hv0 : heldV n h.holds[k][k2] = -1 := by simp [heldV, hne]
            have f1 := hbx.frozen k2
            have a2 := hbx.cell k2
            rw [List.getElem?_eq_getElem (by simp [mix_len]; exact hlt2), List.getElem_map] at a2
            have HBX := Lib.hid hbx
            clear hne hbx
            go_wp2
            go_roundw
            case rel => exact ⟨k2 + 1, by omega, by go_num, by rw [← mix_set _ _ hlt2, hv0, List.map_set]; exact HBX.out.setCell _ _, hS.setNew _ _ (Nat.le_refl _)⟩
            case measure => simp [intOf]; omega
        · have hfull : mix h.holds[k] (heldV n) k2 = h.holds[k].map (heldV n) := mix_full _ _ (by omega)
          rw [hfull] at hbx
          have HB0x := Lib.hid (HB0.out.step hS)
          have hb2 := hb.step hS
          have hbb2 := hbb.step hS
          have hbr2 := hbr.step hS
          have hown2 := (hown.step hS).alloc (.cells #[.slice (some ⟨wo.heap.size, 0, none⟩) h.holds[k].length h.holds[k].length] 23)
          have hgt : wo.heap.size < wr.heap.size := hbx.lt
          have x1 : ¬ avoid (fun j => j < w.heap.size + 4) q wo.heap.size := fun e => by
            rcases e with e | e
            · omega
            · have := (hown.lt _ e).2; omega
          have hrow : SL (avoid (fun j => j < w.heap.size + 4) q) wr (.slice (some ⟨wo.heap.size, 0, none⟩) (h.holds[k].map (heldV n)).length h.holds[k].length) (h.holds[k].map (heldV n)) := SL.bx_ints hbx x1 _ (by simp) (by simp; omega)
          rw [List.length_map] at hrow
          have hu := SLe.one (S := avoid (fun j => j < w.heap.size + 4) q) (w := wr) (cs := [.slice (some ⟨wo.heap.size, 0, none⟩) h.holds[k].length h.holds[k].length]) (x := h.holds[k].map (heldV n)) 23 ⟨_, rfl, hrow⟩
          have hkl : k < (openP h n).seats.length := by simpa [openP] using hlt
          have hn1 : ((openP h n).seats.take k).length + [h.holds[k].map (heldV n)].length = k + 1 := by simp; omega
          have hn2 : k + 1 ≤ maxLen := by simp only [maxLen]; omega
          have hn3 : w.heap.size + 4 ≤ (wr.alloc (.cells #[.slice (some ⟨wo.heap.size, 0, none⟩) h.holds[k].length h.holds[k].length] 23)).heap.size := by simp; omega
          have hn4 : (openP h n).seats.take k ++ [h.holds[k].map (heldV n)] = (openP h n).seats.take (k + 1) := by
            rw [List.take_succ_eq_append_getElem hkl]; simp [openP]
          obtain ⟨e0, e1, e2, e3, e4, e5⟩ := cells6 hb2
          have HH := Lib.hid (And.intro hbb2 (And.intro hbr2 (And.intro hB (And.intro hS (And.intro hb2 hbx)))))
          have HX := Lib.hid hrow
          clear hrow hb hbb hbr hown hbb2 hbr2 hB hS hb2 hbx hfull
          go_wp2_with (at_builtin; refine wpl_append (S := fun j => j < w.heap.size + 4) (base := w.heap.size + 4) (v := q) (l := (openP h n).seats.take k) (m := [h.holds[k].map (heldV n)]) eiRows rfl _ _ rfl rfl rfl hown2 hu (k + 1) hn1 ((openP h n).seats.take (k + 1)) hn4 hn2 (by omega) hn3 ?_)
          intro p' c' w2 hown3 hg
          obtain ⟨hbb, hbr, hB, hS, hb, hbx⟩ := HH.out
          have hq : ∀ j, q.ownBlock = some j → w.heap.size + 4 ≤ j := fun j hj => (hown2.lt j hj).1
          have hS1 := (hS.trans (Step.alloc wr (.cells #[.slice (some ⟨wo.heap.size, 0, none⟩) h.holds[k].length h.holds[k].length] 23)))
          have hB2 : Below (w.heap.size + 4) wo w2 := by
            refine Below.grown (hS1.below.mono hsz) hg hn3 hq
          have kp : ∀ j, j < w.heap.size + 4 → w2.heap[j]? = wo.heap[j]? := fun j hj => hB2.block j hj
          have kp2 : Keeps (fun j => ¬ j < w.heap.size + 4) wr w2 := ⟨by have := hg.size; simp at this; omega, fun j hj hs => by
            rw [kp j (by omega), hS.below.block j (by omega)]⟩
          have hb02 := HB0x.out.keep kp2 (by omega)
          have HB02 := Lib.hid hb02
          have hb2 := hb.keep kp2 (by omega)
          have hbb2 := hbb.keep kp2 (by omega)
          have hbr2 := hbr.keep kp2 (by omega)
          have f1 := hb2.frozen 1
          have a1 := hb2.cell 1
          simp only [List.getElem?_cons_zero, List.getElem?_cons_succ] at a1
          have HZ := Lib.hid (And.intro hb2 (And.intro hbb2 (And.intro hbr2 (And.intro hB hB2))))
          have HO := Lib.hid hown3
          clear hb2 hbb2 hbr2 hB hB2 hown3 hg hS hS1 hb hbb hbr hbx kp kp2 hq hb02
          go_wp2
          go_roundw
          case rel =>
            obtain ⟨hb2, hbb2, hbr2, hB, hB2⟩ := HZ.out
            have hsz2 := hB2.size
            refine ⟨k + 1, _, by omega, by go_num, HB02.out.setOther (by omega), hb2.setCell 1 _, hbb2.setOther (by omega), hbr2.setOther (by omega), HO.out.wrote (.setCell _ _ _ _) (by omega) (fun e => by have := (HO.out.lt _ e).1; omega), Below.setCell (p := ⟨w.heap.size + 1 + 1 + 1, 1, none⟩) (hB.trans (hB2.mono (by omega))) (by simp; omega) _, by simp; omega⟩
          case measure => simp [intOf]; omega
    · have hltn : ¬ k < h.holds.length := by have := HEQ.out; omega
      obtain ⟨_, _, e0x2, _, _⟩ := cells5 hb0
      clear hb0
      have hkl : (openP h n).seats.take k = (openP h n).seats := List.take_of_length_le (by simp [openP]; omega)
      rw [hkl] at hown
      obtain ⟨e0, e1, e2, e3, e4, e5⟩ := cells6 hb
      obtain ⟨y0, y1, y2, y3, y4, y5⟩ := cells6 hbr
      have hfr := fun j => hbr.frozen j
      obtain ⟨q1, q2, rfl, _⟩ := hown.form
      have HH := Lib.hid (And.intro hb (And.intro hbb (And.intro hbr (And.intro hown hB))))
      clear hb hbb hbr hown hB hkl
      go_wp2
      obtain ⟨hb, hbb, hbr, hown, hB⟩ := HH.out
      have b6 := (((((hbr.setCell 0 (.int .i64 n)).setCell 1 (.slice q1 (openP h n).seats.length q2)).setCell 2 (.slice (some ⟨w.heap.size + 1 + 1, 0, none⟩) h.dates.length h.dates.length)).setCell 3 (.int .i64 0)).setCell 4 (.slice none 0 0)).setCell 5 (.int .i64 0)
      have hK6 := ((((((Keeps.refl (fun j => j = w.heap.size + 1) wo).s_wrote (.setCell _ (w.heap.size + 1) 0 (.int .i64 n)) rfl).s_wrote (.setCell _ (w.heap.size + 1) 1 (.slice q1 (openP h n).seats.length q2)) rfl).s_wrote (.setCell _ (w.heap.size + 1) 2 (.slice (some ⟨w.heap.size + 1 + 1, 0, none⟩) h.dates.length h.dates.length)) rfl).s_wrote (.setCell _ (w.heap.size + 1) 3 (.int .i64 0)) rfl).s_wrote (.setCell _ (w.heap.size + 1) 4 (.slice none 0 0)) rfl).s_wrote (.setCell _ (w.heap.size + 1) 5 (.int .i64 0)) rfl
      have hB6 := (((((hB.setCell (p := ⟨w.heap.size + 1, 0, none⟩) (by simp) (.int .i64 n)).setCell (p := ⟨w.heap.size + 1, 1, none⟩) (by simp) (.slice q1 (openP h n).seats.length q2)).setCell (p := ⟨w.heap.size + 1, 2, none⟩) (by simp) (.slice (some ⟨w.heap.size + 1 + 1, 0, none⟩) h.dates.length h.dates.length)).setCell (p := ⟨w.heap.size + 1, 3, none⟩) (by simp) (.int .i64 0)).setCell (p := ⟨w.heap.size + 1, 4, none⟩) (by simp) (.slice none 0 0)).setCell (p := ⟨w.heap.size + 1, 5, none⟩) (by simp) (.int .i64 0)
      have hoff : SL (fun j => j < w.heap.size + 2) wo (.slice (some ⟨w.heap.size + 1 + 1, 0, none⟩) (openP h n).off.length h.dates.length) (openP h n).off := SL.bx_bools (by simpa [openP] using hbb) (by omega) _ (by simp [openP]) (by simp [openP]; omega)
      have hol : (openP h n).off.length = h.dates.length := by simp [openP]
      rw [hol] at hoff
      refine ret_struct (k := 6) rfl siRefBook rfl b6 rfl rfl ⟨_, rfl, ⟨_, rfl, ⟨_, _, _, rfl, ?_, ?_, ?_⟩⟩, .of hB6⟩
      all_goals refine SL.keep (S := fun j => j < w.heap.size + 2) (hK6.mono fun j _ hj => by omega) ?_ |>.weak fun j _ hj => by unfold Old at hj; omega
      · exact hown.sl (fun g' h1 h2 h3 => by omega) |>.weak fun j _ hj => by omega
      · exact hoff
      · exact SL.nil _ _
end Go.Proofs.Ytbgfmikbhiblgaa
/- Walks: the law TicketHouses: it answers true. -/
namespace Go.Proofs.Ytbgfmikbhiblgaa
set_option linter.unusedSimpArgs false
set_option linter.unusedVariables false
open Go.RowKit Go.BT

theorem CheckBook_any (S : Nat → Prop) (h : House) (b : Book) (v u : Value) (w : World) (hv : AV S w v h) (hu : AV S w u b) :
    Calls Try.prog 23 #[v, u] w fun e w' => e = .returned (.int .i64 (checkR h b)) ∧ Step w w' := by
  obtain ⟨cs, rfl, hr⟩ := hv
  have hr0 := hr
  obtain ⟨c0, c1, c2, c3, c4, rfl, h0, h1, h2, h3, h4⟩ := hr
  obtain ⟨cs, rfl, hq⟩ := hu
  have hq0 := hq
  obtain ⟨d1, d2, d4, rfl, s1, s2, s4⟩ := hq
  obtain ⟨p0, k0, rfl⟩ := h0.form
  obtain ⟨p1, k1, rfl⟩ := h1.form
  obtain ⟨p2, k2, rfl⟩ := h2.form
  obtain ⟨p3, k3, rfl⟩ := h3.form
  obtain ⟨p4, k4, rfl⟩ := h4.form
  obtain ⟨q1, m1, rfl⟩ := s1.form
  obtain ⟨q2, m2, rfl⟩ := s2.form
  obtain ⟨q4, m4, rfl⟩ := s4.form
  have HR := Lib.hid hr0
  have HQ := Lib.hid hq0
  clear h0 h1 h2 h3 h4 s1 s2 s4 hr0 hq0
  go_enter Try.func23, Try.ntmps23
  go_wp2_with fail
  have hS : Step w ((w.alloc (.cells #[.slice p0 h.sectors.length k0, .slice p1 h.prices.length k1, .slice p2 h.dates.length k2, .slice p3 h.frm.length k3, .slice p4 h.holds.length k4] 43)).alloc (.cells #[.int .i64 b.agency, .slice q1 b.seats.length m1, .slice q2 b.off.length m2, .int .i64 b.sent, .slice q4 b.took.length m4, .int .i64 b.cash] 36)) := (by repeat (first | (with_reducible assumption) | (with_reducible exact Step.refl _) | (with_reducible apply Step.s_alloc) | (with_reducible apply Step.s_drew) | (with_reducible apply Step.s_drewN) | (with_reducible refine Step.trans ?_ (by with_reducible assumption))))
  refine (check_any S h b _ _ _ ⟨_, rfl, Rep.keep (.of_step hS) HR.out⟩ ⟨_, rfl, Rep.keep (.of_step hS) HQ.out⟩).mono ?_
  rintro e wn ⟨rfl, hSn⟩
  go_wp2
  go_ret
  exact ⟨rfl, hS.trans hSn⟩

theorem houses_class {h : House} {n : Int} (hv : valid h = true) : classR h n = if withinB n 0 (sizeL h.sectors - 1) then (classL h.sectors n, 0) else (0, 2) := by simp [classR, hv]
theorem houses_open {h : House} {n : Int} (hv : valid h = true) : openR h n = if withinB n 0 (agN h - 1) then (openP h n, 0) else (noBook, 2) := by simp [openR, hv]
theorem thin_open {h : House} (hv : valid h = true) (n : Int) : thinP (openP h n) := by
  have hbv := bounds_valid hv
  refine ⟨by simp [openP]; omega, fun i hi => ?_, by simp [openP]; omega, by simp [openP]⟩
  have hi' : i < h.holds.length := by simpa [openP] using hi
  have := hbv.2.2.2.2.2.2.2.2.1 i hi'
  simp [openP]
  omega
set_option maxRecDepth 100000 in
set_option maxHeartbeats 8000000 in
theorem TicketHouses_any (h : House) (b : Book) (s ag : Int) (v u : Value) (w : World) (hv : AV (fun _ => False) w v h) (hu : AV (fun _ => False) w u b) :
    Calls Try.prog 4 #[v, u, .int .i64 s, .int .i64 ag] w fun e w' => e = .returned (.bool true) ∧ Step w w' := by
  obtain ⟨cs, rfl, hr0⟩ := hv
  have hr := hr0
  obtain ⟨c0, c1, c2, c3, c4, rfl, h0, h1, h2, h3, h4⟩ := hr
  obtain ⟨p0, k0, rfl⟩ := h0.form
  obtain ⟨p1, k1, rfl⟩ := h1.form
  obtain ⟨p2, k2, rfl⟩ := h2.form
  obtain ⟨p3, k3, rfl⟩ := h3.form
  obtain ⟨p4, k4, rfl⟩ := h4.form
  obtain ⟨cs, rfl, hq0⟩ := hu
  have hq := hq0
  obtain ⟨d1, d2, d4, rfl, s1, s2, s4⟩ := hq
  obtain ⟨q1, m1, rfl⟩ := s1.form
  obtain ⟨q2, m2, rfl⟩ := s2.form
  obtain ⟨q4, m4, rfl⟩ := s4.form
  obtain ⟨W2, hW2⟩ : ∃ W2, W2 = (w.alloc (.cells #[.slice p0 h.sectors.length k0, .slice p1 h.prices.length k1, .slice p2 h.dates.length k2, .slice p3 h.frm.length k3, .slice p4 h.holds.length k4] 26)).alloc (.cells #[.int .i64 b.agency, .slice q1 b.seats.length m1, .slice q2 b.off.length m2, .int .i64 b.sent, .slice q4 b.took.length m4, .int .i64 b.cash] 30) := ⟨_, rfl⟩
  have hbx : Bx W2 w.heap.size [.slice p0 h.sectors.length k0, .slice p1 h.prices.length k1, .slice p2 h.dates.length k2, .slice p3 h.frm.length k3, .slice p4 h.holds.length k4] 26 := by subst hW2; exact (Bx.new _ _ _).alloc _
  have hb2 : Bx W2 (w.heap.size + 1) [.int .i64 b.agency, .slice q1 b.seats.length m1, .slice q2 b.off.length m2, .int .i64 b.sent, .slice q4 b.took.length m4, .int .i64 b.cash] 30 := by subst hW2; exact Bx.new' _ _ _ _ (by simp)
  have hS : Step w W2 := by subst hW2; exact (by repeat (first | (with_reducible assumption) | (with_reducible exact Step.refl _) | (with_reducible apply Step.s_alloc) | (with_reducible apply Step.s_drew) | (with_reducible apply Step.s_drewN) | (with_reducible refine Step.trans ?_ (by with_reducible assumption))))
  have HB1 := Lib.hid hbx
  have HB2 := Lib.hid hb2
  have HR := Lib.hid (Rep.keep (.of_step hS) hr0)
  have HQ := Lib.hid (Rep.keep (.of_step hS) hq0)
  have HS := Lib.hid hS
  have HT := Lib.hid (Step.refl W2)
  have HW := Lib.hid hW2
  clear hr0 hq0 h0 h1 h2 h3 h4 s1 s2 s4 hbx hb2 hS hW2
  go_enter Try.func4, Try.ntmps4
  go_wp2_with fail
  rw [← HW.out]
  refine (Few_any (fun _ => False) h _ _ ⟨_, rfl, HR.out⟩).mono ?_
  rintro e wn ⟨rfl, hSn⟩
  have HTi := Lib.hid (HT.out.trans hSn)
  clear hSn HT
  have HT := HTi
  clear HTi
  (try clear e0 e1 e2 e3 e4 f0 f1 f2 f3 f4 f5 y1 y2)
  obtain ⟨e0, e1, e2, e3, e4⟩ := cells5 (HB1.out.step HT.out)
  obtain ⟨f0, f1, f2, f3, f4, f5⟩ := cells6 (HB2.out.step HT.out)
  have y1 := (HB1.out.step HT.out).lt
  have y2 := (HB2.out.step HT.out).lt
  cases qf : few h with
  | false =>
    clear qf
    go_wp2_with fail
    refine (awake_any _).mono ?_
    rintro e wz ⟨rfl, hSz⟩
    go_wp2
    go_ret
    exact ⟨rfl, HS.out.trans (HT.out.trans hSz)⟩
  | true =>
  have HFEW := Lib.hid (fewB_of qf)
  clear qf
  go_wp2_with fail
  refine (thin_any (fun _ => False) b _ _ ⟨_, rfl, Rep.keep (.of_step HT.out) HQ.out⟩).mono ?_
  rintro e wn ⟨rfl, hSn⟩
  have HTi := Lib.hid (HT.out.trans hSn)
  clear hSn HT
  have HT := HTi
  clear HTi
  (try clear e0 e1 e2 e3 e4 f0 f1 f2 f3 f4 f5 y1 y2)
  obtain ⟨e0, e1, e2, e3, e4⟩ := cells5 (HB1.out.step HT.out)
  obtain ⟨f0, f1, f2, f3, f4, f5⟩ := cells6 (HB2.out.step HT.out)
  have y1 := (HB1.out.step HT.out).lt
  have y2 := (HB2.out.step HT.out).lt
  cases qt : thin b with
  | false =>
    clear qt
    go_wp2_with fail
    refine (awake_any _).mono ?_
    rintro e wz ⟨rfl, hSz⟩
    go_wp2
    go_ret
    exact ⟨rfl, HS.out.trans (HT.out.trans hSz)⟩
  | true =>
  have HTHIN := Lib.hid (thinP_of qt)
  clear qt
  (try clear e0 e1 e2 e3 e4 f0 f1 f2 f3 f4 f5 y1 y2)
  obtain ⟨e0, e1, e2, e3, e4⟩ := cells5 (HB1.out.step HT.out)
  obtain ⟨f0, f1, f2, f3, f4, f5⟩ := cells6 (HB2.out.step HT.out)
  have y1 := (HB1.out.step HT.out).lt
  have y2 := (HB2.out.step HT.out).lt
  go_wp2_with fail
  refine (House_any (fun _ => False) h _ _ ⟨_, rfl, Rep.keep (.of_step HT.out) HR.out⟩ HFEW.out).mono ?_
  rintro e wn ⟨v1, rfl, hv1, hSn⟩
  have HTi := Lib.hid (HT.out.trans hSn)
  clear hSn HT
  have HT := HTi
  clear HTi
  obtain ⟨n9, hn9⟩ : ∃ x, x = (classR h s).1 := ⟨_, rfl⟩
  obtain ⟨e9, he9⟩ : ∃ x, x = (classR h s).2 := ⟨_, rfl⟩
  have HN9 := Lib.hid hn9
  have HE9 := Lib.hid he9
  go_wp2_with fail
  refine (Class_any _ h s _ _ hv1).mono ?_
  rintro e wn ⟨rfl, hSn⟩
  rw [← hn9, ← he9]
  clear hn9 he9 hv1
  have HTi := Lib.hid (HT.out.trans hSn)
  clear hSn HT
  have HT := HTi
  clear HTi
  (try clear e0 e1 e2 e3 e4 f0 f1 f2 f3 f4 f5 y1 y2)
  obtain ⟨e0, e1, e2, e3, e4⟩ := cells5 (HB1.out.step HT.out)
  obtain ⟨f0, f1, f2, f3, f4, f5⟩ := cells6 (HB2.out.step HT.out)
  have y1 := (HB1.out.step HT.out).lt
  have y2 := (HB2.out.step HT.out).lt
  go_wp2_with fail
  refine (House_any (fun _ => False) h _ _ ⟨_, rfl, Rep.keep (.of_step HT.out) HR.out⟩ HFEW.out).mono ?_
  rintro e wn ⟨v2, rfl, hv2, hSn⟩
  have HTi := Lib.hid (HT.out.trans hSn)
  clear hSn HT
  have HT := HTi
  clear HTi
  go_wp2_with fail
  refine (Open_any _ h ag _ _ hv2).mono ?_
  rintro e wn ⟨v6, rfl, hv6, hSn⟩
  obtain ⟨xb, hxb⟩ : ∃ x, x = (openR h ag).1 := ⟨_, rfl⟩
  obtain ⟨f, hf⟩ : ∃ x, x = (openR h ag).2 := ⟨_, rfl⟩
  have HXB := Lib.hid hxb
  have HF9 := Lib.hid hf
  rw [← hxb] at hv6
  rw [← hf]
  clear hxb hf hv2
  obtain ⟨x1, x2, x4, rfl, t1, t2, t4⟩ := hv6.book
  obtain ⟨r1, n1, rfl⟩ := t1.form
  obtain ⟨r2, n2, rfl⟩ := t2.form
  obtain ⟨r4, n4, rfl⟩ := t4.form
  have HV6 := Lib.hid (AV.triv hv6)
  have HTi := Lib.hid (HT.out.trans hSn)
  clear hSn HT t1 t2 t4 hv6
  have HT := HTi
  clear HTi
  (try clear e0 e1 e2 e3 e4 f0 f1 f2 f3 f4 f5 y1 y2)
  go_upto_region 5 with (fail)
  have hbP := Bx.new wn [.int .i64 xb.agency, .slice r1 xb.seats.length n1, .slice r2 xb.off.length n2, .int .i64 xb.sent, .slice r4 xb.took.length n4, .int .i64 xb.cash] 36
  have hsA := Step.alloc wn (.cells #[.int .i64 xb.agency, .slice r1 xb.seats.length n1, .slice r2 xb.off.length n2, .int .i64 xb.sent, .slice r4 xb.took.length n4, .int .i64 xb.cash] 36)
  have HVX := Lib.hid (HV6.out.keep (.of_step hsA))
  have HTx := Lib.hid (HT.out.trans hsA)
  have HBX := Lib.hid hbP
  clear hsA HT HV6 hbP
  have HT := HTx
  clear HTx
  generalize wn.alloc (.cells #[.int .i64 xb.agency, .slice r1 xb.seats.length n1, .slice r2 xb.off.length n2, .int .i64 xb.sent, .slice r4 xb.took.length n4, .int .i64 xb.cash] 36) = w5 at *
  generalize wn.heap.size = gx at *
  have hb1 := HB1.out.step HT.out
  have hb2 := HB2.out.step HT.out
  have hr1 := Rep.keep (S := fun _ => False) (.of_step HT.out) HR.out
  have hq1 := Rep.keep (S := fun _ => False) (.of_step HT.out) HQ.out
  have hs1 := HS.out.trans HT.out
  clear HB1 HB2 HR HQ HS HT
  have HB1 := Lib.hid hb1
  have HB2 := Lib.hid hb2
  have HR := Lib.hid hr1
  have HQ := Lib.hid hq1
  have HS := Lib.hid hs1
  have HT := Lib.hid (Step.refl w5)
  clear hb1 hb2 hr1 hq1 hs1
  refine wp_region_seq (kdOf [1, 3, 4] []) [0, 1, 0, 7, 15, 31] [0, 2, 1, 3, 4, 5] [] (by kernel_rfl) (by kernel_rfl) (fun i T z hi hk => by simp [kdOf] at hk <;> (try (split at hk <;> cases hk))) ?_
  intro Wx hWx
  have HTx := Lib.hid (HT.out.trans hWx)
  clear hWx HT
  have HT := HTx
  clear HTx
  (try clear e0 e1 e2 e3 e4 f0 f1 f2 f3 f4 f5 y1 y2)
  obtain ⟨e0, e1, e2, e3, e4⟩ := cells5 (HB1.out.step HT.out)
  obtain ⟨f0, f1, f2, f3, f4, f5⟩ := cells6 (HB2.out.step HT.out)
  have y1 := (HB1.out.step HT.out).lt
  have y2 := (HB2.out.step HT.out).lt
  repeat (first | (refine run_off rfl rfl (by rfl) ?_; (try simp only [Act.put, List.setIfInBounds_toArray, List.set_cons_zero, List.set_cons_succ])) | (refine run_chain_off rfl rfl (by rfl) (K0_mono _) ?_; (try simp only [Act.put, List.setIfInBounds_toArray, List.set_cons_zero, List.set_cons_succ])) | ((refine run_want rfl rfl (by rfl) ⟨?_, fun W hW => ?_, ?_⟩; rotate_left; (· (have d0 := hW.keeps.cell id e0; have d1 := hW.keeps.cell id e1; have d2 := hW.keeps.cell id e2; have d3 := hW.keeps.cell id e3; have d4 := hW.keeps.cell id e4; have d5 := hW.keeps.cell id f0; have d6 := hW.keeps.cell id f1; have d7 := hW.keeps.cell id f2; have d8 := hW.keeps.cell id f3; have d9 := hW.keeps.cell id f4; have d10 := hW.keeps.cell id f5; go_simp; (try with_reducible rfl)))); (try simp only [Act.put, List.setIfInBounds_toArray, List.set_cons_zero, List.set_cons_succ])))
  refine run_chain rfl rfl (by rfl) (fun Wi hWi K' hK => ?_)
  have HTi := Lib.hid (HT.out.trans hWi)
  have HZW := Lib.hid HTi.out.size
  clear hWi HT
  go_simp
  refine (House_any _ h _ _ ⟨_, rfl, Rep.keep (.of_step HTi.out) HR.out⟩ HFEW.out).mono ?_
  rintro e wn ⟨v1, rfl, hv1, hSn⟩
  have HT := Lib.hid (HTi.out.trans (StepX.of hSn))
  clear HTi
  have HV1 := Lib.hid (AV.triv hv1)
  clear hv1
  refine hK _ _ (StepX.of hSn) ?_
  clear hSn
  (try simp only [Act.put, List.setIfInBounds_toArray, List.set_cons_zero, List.set_cons_succ])
  repeat (first | (refine run_off rfl rfl (by rfl) ?_; (try simp only [Act.put, List.setIfInBounds_toArray, List.set_cons_zero, List.set_cons_succ])) | (refine run_chain_off rfl rfl (by rfl) (K0_mono _) ?_; (try simp only [Act.put, List.setIfInBounds_toArray, List.set_cons_zero, List.set_cons_succ])) | ((refine run_want rfl rfl (by rfl) ⟨?_, fun W hW => ?_, ?_⟩; rotate_left; (· (skip; go_simp; (try with_reducible rfl)))); (try simp only [Act.put, List.setIfInBounds_toArray, List.set_cons_zero, List.set_cons_succ])))
  refine run_chain rfl rfl (by rfl) (fun Wi hWi K' hK => ?_)
  have HTi := Lib.hid (HT.out.trans hWi)
  have HV1i := Lib.hid (HV1.out.keep (.of_step hWi))
  clear hWi HT HV1
  go_simp
  refine (Book_any _ b _ _ ⟨_, rfl, Rep.keep (.of_step HTi.out) HQ.out⟩ HTHIN.out).mono ?_
  rintro e wn2 ⟨v2, rfl, hv2, hSn⟩
  have HV2 := Lib.hid (AV.triv hv2)
  have HV1 := Lib.hid (HV1i.out.keep (.of_step hSn))
  have HT := Lib.hid (HTi.out.trans hSn)
  clear hv2 HV1i HTi
  refine hK _ _ (StepX.of hSn) ?_
  clear hSn hK
  (try simp only [Act.put, List.setIfInBounds_toArray, List.set_cons_zero, List.set_cons_succ])
  repeat (first | (refine run_off rfl rfl (by rfl) ?_; (try simp only [Act.put, List.setIfInBounds_toArray, List.set_cons_zero, List.set_cons_succ])) | (refine run_chain_off rfl rfl (by rfl) (K0_mono _) ?_; (try simp only [Act.put, List.setIfInBounds_toArray, List.set_cons_zero, List.set_cons_succ])) | ((refine run_want rfl rfl (by rfl) ⟨?_, fun W hW => ?_, ?_⟩; rotate_left; (· (skip; go_simp; (try with_reducible rfl)))); (try simp only [Act.put, List.setIfInBounds_toArray, List.set_cons_zero, List.set_cons_succ])))
  refine run_chain rfl rfl (by rfl) (fun Wi hWi K' hK => ?_)
  have HTi := Lib.hid (HT.out.trans hWi)
  have HV1i := Lib.hid (HV1.out.keep (.of_step hWi))
  have HV2i := Lib.hid (HV2.out.keep (.of_step hWi))
  clear hWi HT HV1 HV2
  go_simp
  refine (CheckBook_any _ h b _ _ _ HV1i.out HV2i.out).mono ?_
  rintro e wn3 ⟨rfl, hSn⟩
  obtain ⟨g9, hg9⟩ : ∃ x, x = checkR h b := ⟨_, rfl⟩
  have HG9 := Lib.hid hg9
  rw [← hg9]
  have HT := Lib.hid (HTi.out.trans hSn)
  clear hg9 HTi HV1i HV2i
  refine hK _ _ (StepX.of hSn) ?_
  clear hSn hK
  (try simp only [Act.put, List.setIfInBounds_toArray, List.set_cons_zero, List.set_cons_succ])
  repeat (first | (refine run_off rfl rfl (by rfl) ?_; (try simp only [Act.put, List.setIfInBounds_toArray, List.set_cons_zero, List.set_cons_succ])) | (refine run_chain_off rfl rfl (by rfl) (K0_mono _) ?_; (try simp only [Act.put, List.setIfInBounds_toArray, List.set_cons_zero, List.set_cons_succ])) | ((refine run_want rfl rfl (by rfl) ⟨?_, fun W hW => ?_, ?_⟩; rotate_left; (· (skip; go_simp; (try with_reducible rfl)))); (try simp only [Act.put, List.setIfInBounds_toArray, List.set_cons_zero, List.set_cons_succ])))
  refine run_end (L := []) rfl (fun W6 hW6 => ?_)
  have HT6 := Lib.hid (HT.out.trans hW6)
  clear hW6 HT
  have HT := HT6
  clear HT6
  (try clear e0 e1 e2 e3 e4 f0 f1 f2 f3 f4 f5 y1 y2)
  obtain ⟨e0, e1, e2, e3, e4⟩ := cells5 (HB1.out.step HT.out)
  obtain ⟨f0, f1, f2, f3, f4, f5⟩ := cells6 (HB2.out.step HT.out)
  have y1 := (HB1.out.step HT.out).lt
  have y2 := (HB2.out.step HT.out).lt
  go_wp2_with fail
  refine (Right_any (fun _ => False) h _ _ ⟨_, rfl, Rep.keep (.of_step HT.out) HR.out⟩).mono ?_
  rintro e wn4 ⟨rfl, hSn⟩
  have HTi := Lib.hid (HT.out.trans hSn)
  clear hSn HT
  have HT := HTi
  clear HTi
  cases qv : valid h with
  | false =>
    obtain rfl : n9 = 0 := by rw [HN9.out]; simp [classR, qv]
    obtain rfl : e9 = 1 := by rw [HE9.out]; simp [classR, qv]
    obtain rfl : xb = noBook := by rw [HXB.out]; simp [openR, qv]
    obtain rfl : f = 1 := by rw [HF9.out]; simp [openR, qv]
    obtain rfl : g9 = 1 := by rw [HG9.out]; simp [checkR, qv]
    have HCH := Lib.hid (show checkHouseC h = 1 by simp [checkHouseC, qv])
    clear qv HN9 HE9 HXB HF9 HG9
    (try clear e0 e1 e2 e3 e4 f0 f1 f2 f3 f4 f5 y1 y2)
    obtain ⟨e0, e1, e2, e3, e4⟩ := cells5 (HB1.out.step HT.out)
    obtain ⟨f0, f1, f2, f3, f4, f5⟩ := cells6 (HB2.out.step HT.out)
    have y1 := (HB1.out.step HT.out).lt
    have y2 := (HB2.out.step HT.out).lt
    go_wp2_with fail
    refine (House_any (fun _ => False) h _ _ ⟨_, rfl, Rep.keep (.of_step HT.out) HR.out⟩ HFEW.out).mono ?_
    rintro e wn ⟨v7, rfl, hv7, hSn⟩
    have HTi := Lib.hid (HT.out.trans hSn)
    clear hSn HT
    have HT := HTi
    clear HTi
    go_wp2_with fail
    refine (CheckHouse_any _ h _ _ hv7).mono ?_
    rintro e wn5 ⟨rfl, hSn⟩
    rw [HCH.out]
    have HTi := Lib.hid (HT.out.trans hSn)
    clear hSn HT hv7
    have HT := HTi
    clear HTi
    obtain ⟨g0, g1, g2, g3, g4, g5⟩ := cells6 (HBX.out.step HT.out)
    go_wp2_with fail
    refine (empty_any _ noBook _ _ (HVX.out.keep (.of_step HT.out))).mono ?_
    rintro e wn6 ⟨rfl, hSn⟩
    rw [alike_self]
    have HTi := Lib.hid (HT.out.trans hSn)
    clear hSn HT
    have HT := HTi
    clear HTi
    go_wp2_with fail
    refine (awake_any _).mono ?_
    rintro e wz ⟨rfl, hSz⟩
    go_wp2
    go_ret
    exact ⟨rfl, HS.out.trans (HT.out.trans hSz)⟩
  | true =>
    have HVAL := Lib.hid qv
    have HBV := Lib.hid (bounds_valid qv)
    have HCH := Lib.hid (show checkHouseC h = 0 by simp [checkHouseC, qv])
    have HWA : Hid (IntKind.i64.wrap ((agN h : Int) - 1) = (agN h : Int) - 1) := Lib.hid (by have := bounds_valid qv; rw [IntKind.wrap_i64]; omega)
    clear qv
    (try clear e0 e1 e2 e3 e4 f0 f1 f2 f3 f4 f5 y1 y2)
    obtain ⟨e0, e1, e2, e3, e4⟩ := cells5 (HB1.out.step HT.out)
    obtain ⟨f0, f1, f2, f3, f4, f5⟩ := cells6 (HB2.out.step HT.out)
    have y1 := (HB1.out.step HT.out).lt
    have y2 := (HB2.out.step HT.out).lt
    go_wp2_with fail
    refine (House_any (fun _ => False) h _ _ ⟨_, rfl, Rep.keep (.of_step HT.out) HR.out⟩ HFEW.out).mono ?_
    rintro e wn ⟨v7, rfl, hv7, hSn⟩
    have HTi := Lib.hid (HT.out.trans hSn)
    clear hSn HT
    have HT := HTi
    clear HTi
    go_wp2_with fail
    refine (CheckHouse_any _ h _ _ hv7).mono ?_
    rintro e wn5 ⟨rfl, hSn⟩
    rw [HCH.out]
    have HTi := Lib.hid (HT.out.trans hSn)
    clear hSn HT hv7
    have HT := HTi
    clear HTi
    (try clear e0 e1 e2 e3 e4 f0 f1 f2 f3 f4 f5 y1 y2)
    obtain ⟨e0, e1, e2, e3, e4⟩ := cells5 (HB1.out.step HT.out)
    obtain ⟨f0, f1, f2, f3, f4, f5⟩ := cells6 (HB2.out.step HT.out)
    have y1 := (HB1.out.step HT.out).lt
    have y2 := (HB2.out.step HT.out).lt
    go_wp2_with fail
    refine (RightBook_any (fun _ => False) h b _ _ _ ⟨_, rfl, Rep.keep (.of_step HT.out) HR.out⟩ ⟨_, rfl, Rep.keep (.of_step HT.out) HQ.out⟩ HVAL.out).mono ?_
    rintro e wn6 ⟨rfl, hSn⟩
    have HTi := Lib.hid (HT.out.trans hSn)
    clear hSn HT
    have HT := HTi
    clear HTi
    cases qb : bookB h b with
    | true =>
      obtain rfl : g9 = 0 := by rw [HG9.out]; simp [checkR, HVAL.out, qb]
      clear qb HG9
      (try clear e0 e1 e2 e3 e4 f0 f1 f2 f3 f4 f5 y1 y2)
      obtain ⟨e0, e1, e2, e3, e4⟩ := cells5 (HB1.out.step HT.out)
      obtain ⟨f0, f1, f2, f3, f4, f5⟩ := cells6 (HB2.out.step HT.out)
      have y1 := (HB1.out.step HT.out).lt
      have y2 := (HB2.out.step HT.out).lt
      go_wp2_with fail
      refine (Classes_any (fun _ => False) h _ _ ⟨_, rfl, Rep.keep (.of_step HT.out) HR.out⟩ (okSec_valid HVAL.out)).mono ?_
      rintro e wc ⟨vc, rfl, hvc, hSc⟩
      obtain ⟨pc, kc, bc, oc, rfl, _, mc, hpc, hcc, hbc⟩ := hvc.ints
      obtain ⟨z, hz⟩ : ∃ z : Nat, sizeL h.sectors = z := ⟨(sizeL h.sectors).toNat, by have := HBV.out; omega⟩
      have hlc : (classesL h.sectors).length = z := by have := classesL_len (l := h.sectors) (fun i hi => ((okSec_valid HVAL.out).2 i hi).1); omega
      have hz0 : 0 < z := by have := size_pos HVAL.out; omega
      have hz1 : z ≤ 100 := by have := HBV.out; omega
      have hcc2 : ∀ j, j < z → wc.cell? ⟨bc, oc + j, none⟩ = some (.int .i64 (classL h.sectors j)) := fun j hj => by
        rw [hcc j (by omega), classesL_get (fun i hi => ((okSec_valid HVAL.out).2 i hi).1)]
      obtain rfl := hpc (by omega)
      rw [hlc] at *
      have HCC := Lib.hid hcc2
      have HZ := Lib.hid hz
      have HTi := Lib.hid (HT.out.trans hSc)
      clear hvc hcc hcc2 hbc hpc hlc hSc HT hz
      have HT := HTi
      clear HTi
      have hwz : IntKind.i64.wrap ((z : Int) - 1) = (z : Int) - 1 := by rw [IntKind.wrap_i64]; omega
      have hz2 : (1 : Int) ≤ (z : Int) := by omega
      go_wp2_with fail
      refine (bigtopref08.In_any _ _ _ _).mono ?_
      rintro e w' ⟨rfl, rfl⟩
      cases qs : withinB s 0 ((z : Int) - 1) with
      | false =>
        obtain rfl : n9 = 0 := by rw [HN9.out, houses_class HVAL.out, HZ.out, qs]; rfl
        obtain rfl : e9 = 2 := by rw [HE9.out, houses_class HVAL.out, HZ.out, qs]; rfl
        clear qs hwz HN9 HE9
        (try clear e0 e1 e2 e3 e4 f0 f1 f2 f3 f4 f5 y1 y2)
        obtain ⟨e0, e1, e2, e3, e4⟩ := cells5 (HB1.out.step HT.out)
        obtain ⟨f0, f1, f2, f3, f4, f5⟩ := cells6 (HB2.out.step HT.out)
        have y1 := (HB1.out.step HT.out).lt
        have y2 := (HB2.out.step HT.out).lt
        go_wp2_with fail
        refine (Agencies_any (fun _ => False) h _ _ ⟨_, rfl, Rep.keep (.of_step HT.out) HR.out⟩ (by have := HBV.out; omega)).mono ?_
        rintro e wn ⟨rfl, hSn⟩
        have HTi := Lib.hid (HT.out.trans hSn)
        clear hSn HT
        have HT := HTi
        clear HTi
        have hwa := HWA.out
        go_wp2_with fail
        refine (bigtopref08.In_any _ _ _ _).mono ?_
        rintro e w' ⟨rfl, rfl⟩
        cases qa : withinB ag 0 ((agN h : Int) - 1) with
        | false =>
          obtain rfl : xb = noBook := by rw [HXB.out, houses_open HVAL.out, qa]; rfl
          obtain rfl : f = 2 := by rw [HF9.out, houses_open HVAL.out, qa]; rfl
          clear qa hwa HXB HF9 e0 e1 e2 e3 e4 f0 f1 f2 f3 f4 f5 y1 y2
          obtain ⟨g0, g1, g2, g3, g4, g5⟩ := cells6 (HBX.out.step HT.out)
          go_wp2_with fail
          refine (empty_any _ noBook _ _ (HVX.out.keep (.of_step HT.out))).mono ?_
          rintro e wn4 ⟨rfl, hSn⟩
          rw [alike_self]
          have HTi := Lib.hid (HT.out.trans hSn)
          clear hSn HT
          have HT := HTi
          clear HTi
          go_wp2_with fail
          refine (awake_any _).mono ?_
          rintro e wz ⟨rfl, hSz⟩
          go_wp2
          go_ret
          exact ⟨rfl, HS.out.trans (HT.out.trans hSz)⟩
        | true =>
          obtain rfl : xb = openP h ag := by rw [HXB.out, houses_open HVAL.out, qa]; rfl
          obtain rfl : f = 0 := by rw [HF9.out, houses_open HVAL.out, qa]; rfl
          clear qa hwa HXB HF9 e0 e1 e2 e3 e4 f0 f1 f2 f3 f4 f5 y1 y2
          go_upto_region 18 with (fail)
          refine wp_region_seq (kdOf [6, 7, 10] []) [0, 1, 3, 7, 7, 7, 55, 127, 255, 511, 1023, 2047, 4095] [0, 1, 2, 3, 4, 5, 6, 7, 8, 9, 10, 11, 12] [] (by kernel_rfl) (by kernel_rfl) (fun i T z hi hk => by simp [kdOf] at hk <;> (try (split at hk <;> cases hk))) ?_
          intro Wx hWx
          have HTx := Lib.hid (HT.out.trans hWx)
          clear hWx HT
          have HT := HTx
          clear HTx
          (try clear e0 e1 e2 e3 e4 f0 f1 f2 f3 f4 f5 y1 y2)
          obtain ⟨e0, e1, e2, e3, e4⟩ := cells5 (HB1.out.step HT.out)
          obtain ⟨f0, f1, f2, f3, f4, f5⟩ := cells6 (HB2.out.step HT.out)
          have y1 := (HB1.out.step HT.out).lt
          have y2 := (HB2.out.step HT.out).lt
          obtain ⟨g0, g1, g2, g3, g4, g5⟩ := cells6 (HBX.out.step HT.out)
          repeat (first | (refine run_off rfl rfl (by rfl) ?_; (try simp only [Act.put, List.setIfInBounds_toArray, List.set_cons_zero, List.set_cons_succ])) | (refine run_chain_off rfl rfl (by rfl) (K0_mono _) ?_; (try simp only [Act.put, List.setIfInBounds_toArray, List.set_cons_zero, List.set_cons_succ])) | ((refine run_want rfl rfl (by rfl) ⟨?_, fun W hW => ?_, ?_⟩; rotate_left; (· (have d0 := hW.keeps.cell id e0; have d1 := hW.keeps.cell id e1; have d2 := hW.keeps.cell id e2; have d3 := hW.keeps.cell id e3; have d4 := hW.keeps.cell id e4; have d5 := hW.keeps.cell id g0; have d6 := hW.keeps.cell id g1; have d7 := hW.keeps.cell id g2; have d8 := hW.keeps.cell id g3; have d9 := hW.keeps.cell id g4; have d10 := hW.keeps.cell id g5; go_simp; (try with_reducible rfl)))); (try simp only [Act.put, List.setIfInBounds_toArray, List.set_cons_zero, List.set_cons_succ])))
          clear g0 g1 g2 g3 g4 g5
          refine run_chain rfl rfl (by rfl) (fun Wi hWi K' hK => ?_)
          have HTi := Lib.hid (HT.out.trans hWi)
          have HZW := Lib.hid HTi.out.size
          clear hWi HT
          go_simp
          refine (ROpen_any (fun _ => False) h ag _ _ ⟨_, rfl, Rep.keep (.of_step HTi.out) HR.out⟩ HVAL.out).mono ?_
          rintro e wn ⟨v8, rfl, hv8, hSn⟩
          have HT := Lib.hid (HTi.out.trans (StepX.of hSn))
          clear HTi
          have HV8 := Lib.hid (AV.triv hv8)
          have HT8 := Lib.hid (Step.refl wn)
          clear hv8
          refine hK _ _ (StepX.of hSn) ?_
          clear hSn
          (try simp only [Act.put, List.setIfInBounds_toArray, List.set_cons_zero, List.set_cons_succ])
          repeat (first | (refine run_off rfl rfl (by rfl) ?_; (try simp only [Act.put, List.setIfInBounds_toArray, List.set_cons_zero, List.set_cons_succ])) | (refine run_chain_off rfl rfl (by rfl) (K0_mono _) ?_; (try simp only [Act.put, List.setIfInBounds_toArray, List.set_cons_zero, List.set_cons_succ])) | ((refine run_want rfl rfl (by rfl) ⟨?_, fun W hW => ?_, ?_⟩; rotate_left; (· (skip; go_simp; (try with_reducible rfl)))); (try simp only [Act.put, List.setIfInBounds_toArray, List.set_cons_zero, List.set_cons_succ])))
          refine run_chain rfl rfl (by rfl) (fun Wi hWi K' hK => ?_)
          have HTi := Lib.hid (HT.out.trans hWi)
          have HV8i := Lib.hid (HV8.out.keep (.of_step hWi))
          clear hWi HT HV8
          go_simp
          refine (same_any _ (openP h ag) (openP h ag) _ _ _ (HVX.out.keep (.of_step HTi.out)) HV8i.out (thin_open HVAL.out ag)).mono ?_
          rintro e wn5 ⟨rfl, hSn⟩
          rw [alike_self]
          have HT := Lib.hid (HTi.out.trans hSn)
          clear HTi HV8i
          refine hK _ _ (StepX.of hSn) ?_
          clear hSn
          (try simp only [Act.put, List.setIfInBounds_toArray, List.set_cons_zero, List.set_cons_succ])
          repeat (first | (refine run_off rfl rfl (by rfl) ?_; (try simp only [Act.put, List.setIfInBounds_toArray, List.set_cons_zero, List.set_cons_succ])) | (refine run_chain_off rfl rfl (by rfl) (K0_mono _) ?_; (try simp only [Act.put, List.setIfInBounds_toArray, List.set_cons_zero, List.set_cons_succ])) | ((refine run_want rfl rfl (by rfl) ⟨?_, fun W hW => ?_, ?_⟩; rotate_left; (· (skip; go_simp; (try with_reducible rfl)))); (try simp only [Act.put, List.setIfInBounds_toArray, List.set_cons_zero, List.set_cons_succ])))
          refine run_chain rfl rfl (by rfl) (fun Wi hWi K' hK => ?_)
          have HTi := Lib.hid (HT.out.trans hWi)
          have HZW := Lib.hid HTi.out.size
          clear hWi HT
          go_simp
          refine (awake_any _).mono ?_
          rintro e wn ⟨rfl, hSn⟩
          have HT := Lib.hid (HTi.out.trans (StepX.of hSn))
          clear HTi
          refine hK _ _ (StepX.of hSn) ?_
          clear hSn
          (try simp only [Act.put, List.setIfInBounds_toArray, List.set_cons_zero, List.set_cons_succ])
          repeat (first | (refine run_off rfl rfl (by rfl) ?_; (try simp only [Act.put, List.setIfInBounds_toArray, List.set_cons_zero, List.set_cons_succ])) | (refine run_chain_off rfl rfl (by rfl) (K0_mono _) ?_; (try simp only [Act.put, List.setIfInBounds_toArray, List.set_cons_zero, List.set_cons_succ])) | ((refine run_want rfl rfl (by rfl) ⟨?_, fun W hW => ?_, ?_⟩; rotate_left; (· (skip; go_simp; (try with_reducible rfl)))); (try simp only [Act.put, List.setIfInBounds_toArray, List.set_cons_zero, List.set_cons_succ])))
          refine run_end (L := []) rfl (fun W6 hW6 => ?_)
          have HT6 := Lib.hid (HT.out.trans hW6)
          clear hW6 HT
          have HT := HT6
          clear HT6
          go_wp2
          go_ret
          exact ⟨rfl, HS.out.trans HT.out⟩
      | true =>
        obtain ⟨sk, rfl, hs0, hs1⟩ := within_nat qs (by omega)
        have hsk : sk < z := by omega
        obtain rfl : n9 = classL h.sectors sk := by rw [HN9.out, houses_class HVAL.out, HZ.out, qs]; rfl
        obtain rfl : e9 = 0 := by rw [HE9.out, houses_class HVAL.out, HZ.out, qs]; rfl
        have c1 := HCC.out sk hsk
        have hixs : (0 : Int) ≤ (sk : Int) ∧ (sk : Int) < (z : Int) := by omega
        have hcne : (classL h.sectors sk != classL h.sectors sk) = false := by simp
        clear qs hwz HN9 HE9 hs0 hs1
        (try clear e0 e1 e2 e3 e4 f0 f1 f2 f3 f4 f5 y1 y2)
        obtain ⟨e0, e1, e2, e3, e4⟩ := cells5 (HB1.out.step HT.out)
        obtain ⟨f0, f1, f2, f3, f4, f5⟩ := cells6 (HB2.out.step HT.out)
        have y1 := (HB1.out.step HT.out).lt
        have y2 := (HB2.out.step HT.out).lt
        go_wp2_with fail
        refine (Agencies_any (fun _ => False) h _ _ ⟨_, rfl, Rep.keep (.of_step HT.out) HR.out⟩ (by have := HBV.out; omega)).mono ?_
        rintro e wn ⟨rfl, hSn⟩
        have HTi := Lib.hid (HT.out.trans hSn)
        clear hSn HT
        have HT := HTi
        clear HTi
        have hwa := HWA.out
        go_wp2_with fail
        refine (bigtopref08.In_any _ _ _ _).mono ?_
        rintro e w' ⟨rfl, rfl⟩
        cases qa : withinB ag 0 ((agN h : Int) - 1) with
        | false =>
          obtain rfl : xb = noBook := by rw [HXB.out, houses_open HVAL.out, qa]; rfl
          obtain rfl : f = 2 := by rw [HF9.out, houses_open HVAL.out, qa]; rfl
          clear qa hwa HXB HF9 e0 e1 e2 e3 e4 f0 f1 f2 f3 f4 f5 y1 y2
          obtain ⟨g0, g1, g2, g3, g4, g5⟩ := cells6 (HBX.out.step HT.out)
          go_wp2_with fail
          refine (empty_any _ noBook _ _ (HVX.out.keep (.of_step HT.out))).mono ?_
          rintro e wn4 ⟨rfl, hSn⟩
          rw [alike_self]
          have HTi := Lib.hid (HT.out.trans hSn)
          clear hSn HT
          have HT := HTi
          clear HTi
          go_wp2_with fail
          refine (awake_any _).mono ?_
          rintro e wz ⟨rfl, hSz⟩
          go_wp2
          go_ret
          exact ⟨rfl, HS.out.trans (HT.out.trans hSz)⟩
        | true =>
          obtain rfl : xb = openP h ag := by rw [HXB.out, houses_open HVAL.out, qa]; rfl
          obtain rfl : f = 0 := by rw [HF9.out, houses_open HVAL.out, qa]; rfl
          clear qa hwa HXB HF9 e0 e1 e2 e3 e4 f0 f1 f2 f3 f4 f5 y1 y2
          go_upto_region 18 with (fail)
          refine wp_region_seq (kdOf [6, 7, 10] []) [0, 1, 3, 7, 7, 7, 55, 127, 255, 511, 1023, 2047, 4095] [0, 1, 2, 3, 4, 5, 6, 7, 8, 9, 10, 11, 12] [] (by kernel_rfl) (by kernel_rfl) (fun i T z hi hk => by simp [kdOf] at hk <;> (try (split at hk <;> cases hk))) ?_
          intro Wx hWx
          have HTx := Lib.hid (HT.out.trans hWx)
          clear hWx HT
          have HT := HTx
          clear HTx
          (try clear e0 e1 e2 e3 e4 f0 f1 f2 f3 f4 f5 y1 y2)
          obtain ⟨e0, e1, e2, e3, e4⟩ := cells5 (HB1.out.step HT.out)
          obtain ⟨f0, f1, f2, f3, f4, f5⟩ := cells6 (HB2.out.step HT.out)
          have y1 := (HB1.out.step HT.out).lt
          have y2 := (HB2.out.step HT.out).lt
          obtain ⟨g0, g1, g2, g3, g4, g5⟩ := cells6 (HBX.out.step HT.out)
          repeat (first | (refine run_off rfl rfl (by rfl) ?_; (try simp only [Act.put, List.setIfInBounds_toArray, List.set_cons_zero, List.set_cons_succ])) | (refine run_chain_off rfl rfl (by rfl) (K0_mono _) ?_; (try simp only [Act.put, List.setIfInBounds_toArray, List.set_cons_zero, List.set_cons_succ])) | ((refine run_want rfl rfl (by rfl) ⟨?_, fun W hW => ?_, ?_⟩; rotate_left; (· (have d0 := hW.keeps.cell id e0; have d1 := hW.keeps.cell id e1; have d2 := hW.keeps.cell id e2; have d3 := hW.keeps.cell id e3; have d4 := hW.keeps.cell id e4; have d5 := hW.keeps.cell id g0; have d6 := hW.keeps.cell id g1; have d7 := hW.keeps.cell id g2; have d8 := hW.keeps.cell id g3; have d9 := hW.keeps.cell id g4; have d10 := hW.keeps.cell id g5; go_simp; (try with_reducible rfl)))); (try simp only [Act.put, List.setIfInBounds_toArray, List.set_cons_zero, List.set_cons_succ])))
          clear g0 g1 g2 g3 g4 g5
          refine run_chain rfl rfl (by rfl) (fun Wi hWi K' hK => ?_)
          have HTi := Lib.hid (HT.out.trans hWi)
          have HZW := Lib.hid HTi.out.size
          clear hWi HT
          go_simp
          refine (ROpen_any (fun _ => False) h ag _ _ ⟨_, rfl, Rep.keep (.of_step HTi.out) HR.out⟩ HVAL.out).mono ?_
          rintro e wn ⟨v8, rfl, hv8, hSn⟩
          have HT := Lib.hid (HTi.out.trans (StepX.of hSn))
          clear HTi
          have HV8 := Lib.hid (AV.triv hv8)
          have HT8 := Lib.hid (Step.refl wn)
          clear hv8
          refine hK _ _ (StepX.of hSn) ?_
          clear hSn
          (try simp only [Act.put, List.setIfInBounds_toArray, List.set_cons_zero, List.set_cons_succ])
          repeat (first | (refine run_off rfl rfl (by rfl) ?_; (try simp only [Act.put, List.setIfInBounds_toArray, List.set_cons_zero, List.set_cons_succ])) | (refine run_chain_off rfl rfl (by rfl) (K0_mono _) ?_; (try simp only [Act.put, List.setIfInBounds_toArray, List.set_cons_zero, List.set_cons_succ])) | ((refine run_want rfl rfl (by rfl) ⟨?_, fun W hW => ?_, ?_⟩; rotate_left; (· (skip; go_simp; (try with_reducible rfl)))); (try simp only [Act.put, List.setIfInBounds_toArray, List.set_cons_zero, List.set_cons_succ])))
          refine run_chain rfl rfl (by rfl) (fun Wi hWi K' hK => ?_)
          have HTi := Lib.hid (HT.out.trans hWi)
          have HV8i := Lib.hid (HV8.out.keep (.of_step hWi))
          clear hWi HT HV8
          go_simp
          refine (same_any _ (openP h ag) (openP h ag) _ _ _ (HVX.out.keep (.of_step HTi.out)) HV8i.out (thin_open HVAL.out ag)).mono ?_
          rintro e wn5 ⟨rfl, hSn⟩
          rw [alike_self]
          have HT := Lib.hid (HTi.out.trans hSn)
          clear HTi HV8i
          refine hK _ _ (StepX.of hSn) ?_
          clear hSn
          (try simp only [Act.put, List.setIfInBounds_toArray, List.set_cons_zero, List.set_cons_succ])
          repeat (first | (refine run_off rfl rfl (by rfl) ?_; (try simp only [Act.put, List.setIfInBounds_toArray, List.set_cons_zero, List.set_cons_succ])) | (refine run_chain_off rfl rfl (by rfl) (K0_mono _) ?_; (try simp only [Act.put, List.setIfInBounds_toArray, List.set_cons_zero, List.set_cons_succ])) | ((refine run_want rfl rfl (by rfl) ⟨?_, fun W hW => ?_, ?_⟩; rotate_left; (· (skip; go_simp; (try with_reducible rfl)))); (try simp only [Act.put, List.setIfInBounds_toArray, List.set_cons_zero, List.set_cons_succ])))
          refine run_chain rfl rfl (by rfl) (fun Wi hWi K' hK => ?_)
          have HTi := Lib.hid (HT.out.trans hWi)
          have HZW := Lib.hid HTi.out.size
          clear hWi HT
          go_simp
          refine (awake_any _).mono ?_
          rintro e wn ⟨rfl, hSn⟩
          have HT := Lib.hid (HTi.out.trans (StepX.of hSn))
          clear HTi
          refine hK _ _ (StepX.of hSn) ?_
          clear hSn
          (try simp only [Act.put, List.setIfInBounds_toArray, List.set_cons_zero, List.set_cons_succ])
          repeat (first | (refine run_off rfl rfl (by rfl) ?_; (try simp only [Act.put, List.setIfInBounds_toArray, List.set_cons_zero, List.set_cons_succ])) | (refine run_chain_off rfl rfl (by rfl) (K0_mono _) ?_; (try simp only [Act.put, List.setIfInBounds_toArray, List.set_cons_zero, List.set_cons_succ])) | ((refine run_want rfl rfl (by rfl) ⟨?_, fun W hW => ?_, ?_⟩; rotate_left; (· (skip; go_simp; (try with_reducible rfl)))); (try simp only [Act.put, List.setIfInBounds_toArray, List.set_cons_zero, List.set_cons_succ])))
          refine run_end (L := []) rfl (fun W6 hW6 => ?_)
          have HT6 := Lib.hid (HT.out.trans hW6)
          clear hW6 HT
          have HT := HT6
          clear HT6
          go_wp2
          go_ret
          exact ⟨rfl, HS.out.trans HT.out⟩
    | false =>
      obtain rfl : g9 = 1 := by rw [HG9.out]; simp [checkR, qb]
      clear qb HG9
      (try clear e0 e1 e2 e3 e4 f0 f1 f2 f3 f4 f5 y1 y2)
      obtain ⟨e0, e1, e2, e3, e4⟩ := cells5 (HB1.out.step HT.out)
      obtain ⟨f0, f1, f2, f3, f4, f5⟩ := cells6 (HB2.out.step HT.out)
      have y1 := (HB1.out.step HT.out).lt
      have y2 := (HB2.out.step HT.out).lt
      go_wp2_with fail
      refine (Classes_any (fun _ => False) h _ _ ⟨_, rfl, Rep.keep (.of_step HT.out) HR.out⟩ (okSec_valid HVAL.out)).mono ?_
      rintro e wc ⟨vc, rfl, hvc, hSc⟩
      obtain ⟨pc, kc, bc, oc, rfl, _, mc, hpc, hcc, hbc⟩ := hvc.ints
      obtain ⟨z, hz⟩ : ∃ z : Nat, sizeL h.sectors = z := ⟨(sizeL h.sectors).toNat, by have := HBV.out; omega⟩
      have hlc : (classesL h.sectors).length = z := by have := classesL_len (l := h.sectors) (fun i hi => ((okSec_valid HVAL.out).2 i hi).1); omega
      have hz0 : 0 < z := by have := size_pos HVAL.out; omega
      have hz1 : z ≤ 100 := by have := HBV.out; omega
      have hcc2 : ∀ j, j < z → wc.cell? ⟨bc, oc + j, none⟩ = some (.int .i64 (classL h.sectors j)) := fun j hj => by
        rw [hcc j (by omega), classesL_get (fun i hi => ((okSec_valid HVAL.out).2 i hi).1)]
      obtain rfl := hpc (by omega)
      rw [hlc] at *
      have HCC := Lib.hid hcc2
      have HZ := Lib.hid hz
      have HTi := Lib.hid (HT.out.trans hSc)
      clear hvc hcc hcc2 hbc hpc hlc hSc HT hz
      have HT := HTi
      clear HTi
      have hwz : IntKind.i64.wrap ((z : Int) - 1) = (z : Int) - 1 := by rw [IntKind.wrap_i64]; omega
      have hz2 : (1 : Int) ≤ (z : Int) := by omega
      go_wp2_with fail
      refine (bigtopref08.In_any _ _ _ _).mono ?_
      rintro e w' ⟨rfl, rfl⟩
      cases qs : withinB s 0 ((z : Int) - 1) with
      | false =>
        obtain rfl : n9 = 0 := by rw [HN9.out, houses_class HVAL.out, HZ.out, qs]; rfl
        obtain rfl : e9 = 2 := by rw [HE9.out, houses_class HVAL.out, HZ.out, qs]; rfl
        clear qs hwz HN9 HE9
        (try clear e0 e1 e2 e3 e4 f0 f1 f2 f3 f4 f5 y1 y2)
        obtain ⟨e0, e1, e2, e3, e4⟩ := cells5 (HB1.out.step HT.out)
        obtain ⟨f0, f1, f2, f3, f4, f5⟩ := cells6 (HB2.out.step HT.out)
        have y1 := (HB1.out.step HT.out).lt
        have y2 := (HB2.out.step HT.out).lt
        go_wp2_with fail
        refine (Agencies_any (fun _ => False) h _ _ ⟨_, rfl, Rep.keep (.of_step HT.out) HR.out⟩ (by have := HBV.out; omega)).mono ?_
        rintro e wn ⟨rfl, hSn⟩
        have HTi := Lib.hid (HT.out.trans hSn)
        clear hSn HT
        have HT := HTi
        clear HTi
        have hwa := HWA.out
        go_wp2_with fail
        refine (bigtopref08.In_any _ _ _ _).mono ?_
        rintro e w' ⟨rfl, rfl⟩
        cases qa : withinB ag 0 ((agN h : Int) - 1) with
        | false =>
          obtain rfl : xb = noBook := by rw [HXB.out, houses_open HVAL.out, qa]; rfl
          obtain rfl : f = 2 := by rw [HF9.out, houses_open HVAL.out, qa]; rfl
          clear qa hwa HXB HF9 e0 e1 e2 e3 e4 f0 f1 f2 f3 f4 f5 y1 y2
          obtain ⟨g0, g1, g2, g3, g4, g5⟩ := cells6 (HBX.out.step HT.out)
          go_wp2_with fail
          refine (empty_any _ noBook _ _ (HVX.out.keep (.of_step HT.out))).mono ?_
          rintro e wn4 ⟨rfl, hSn⟩
          rw [alike_self]
          have HTi := Lib.hid (HT.out.trans hSn)
          clear hSn HT
          have HT := HTi
          clear HTi
          go_wp2_with fail
          refine (awake_any _).mono ?_
          rintro e wz ⟨rfl, hSz⟩
          go_wp2
          go_ret
          exact ⟨rfl, HS.out.trans (HT.out.trans hSz)⟩
        | true =>
          obtain rfl : xb = openP h ag := by rw [HXB.out, houses_open HVAL.out, qa]; rfl
          obtain rfl : f = 0 := by rw [HF9.out, houses_open HVAL.out, qa]; rfl
          clear qa hwa HXB HF9 e0 e1 e2 e3 e4 f0 f1 f2 f3 f4 f5 y1 y2
          go_upto_region 18 with (fail)
          refine wp_region_seq (kdOf [6, 7, 10] []) [0, 1, 3, 7, 7, 7, 55, 127, 255, 511, 1023, 2047, 4095] [0, 1, 2, 3, 4, 5, 6, 7, 8, 9, 10, 11, 12] [] (by kernel_rfl) (by kernel_rfl) (fun i T z hi hk => by simp [kdOf] at hk <;> (try (split at hk <;> cases hk))) ?_
          intro Wx hWx
          have HTx := Lib.hid (HT.out.trans hWx)
          clear hWx HT
          have HT := HTx
          clear HTx
          (try clear e0 e1 e2 e3 e4 f0 f1 f2 f3 f4 f5 y1 y2)
          obtain ⟨e0, e1, e2, e3, e4⟩ := cells5 (HB1.out.step HT.out)
          obtain ⟨f0, f1, f2, f3, f4, f5⟩ := cells6 (HB2.out.step HT.out)
          have y1 := (HB1.out.step HT.out).lt
          have y2 := (HB2.out.step HT.out).lt
          obtain ⟨g0, g1, g2, g3, g4, g5⟩ := cells6 (HBX.out.step HT.out)
          repeat (first | (refine run_off rfl rfl (by rfl) ?_; (try simp only [Act.put, List.setIfInBounds_toArray, List.set_cons_zero, List.set_cons_succ])) | (refine run_chain_off rfl rfl (by rfl) (K0_mono _) ?_; (try simp only [Act.put, List.setIfInBounds_toArray, List.set_cons_zero, List.set_cons_succ])) | ((refine run_want rfl rfl (by rfl) ⟨?_, fun W hW => ?_, ?_⟩; rotate_left; (· (have d0 := hW.keeps.cell id e0; have d1 := hW.keeps.cell id e1; have d2 := hW.keeps.cell id e2; have d3 := hW.keeps.cell id e3; have d4 := hW.keeps.cell id e4; have d5 := hW.keeps.cell id g0; have d6 := hW.keeps.cell id g1; have d7 := hW.keeps.cell id g2; have d8 := hW.keeps.cell id g3; have d9 := hW.keeps.cell id g4; have d10 := hW.keeps.cell id g5; go_simp; (try with_reducible rfl)))); (try simp only [Act.put, List.setIfInBounds_toArray, List.set_cons_zero, List.set_cons_succ])))
          clear g0 g1 g2 g3 g4 g5
          refine run_chain rfl rfl (by rfl) (fun Wi hWi K' hK => ?_)
          have HTi := Lib.hid (HT.out.trans hWi)
          have HZW := Lib.hid HTi.out.size
          clear hWi HT
          go_simp
          refine (ROpen_any (fun _ => False) h ag _ _ ⟨_, rfl, Rep.keep (.of_step HTi.out) HR.out⟩ HVAL.out).mono ?_
          rintro e wn ⟨v8, rfl, hv8, hSn⟩
          have HT := Lib.hid (HTi.out.trans (StepX.of hSn))
          clear HTi
          have HV8 := Lib.hid (AV.triv hv8)
          have HT8 := Lib.hid (Step.refl wn)
          clear hv8
          refine hK _ _ (StepX.of hSn) ?_
          clear hSn
          (try simp only [Act.put, List.setIfInBounds_toArray, List.set_cons_zero, List.set_cons_succ])
          repeat (first | (refine run_off rfl rfl (by rfl) ?_; (try simp only [Act.put, List.setIfInBounds_toArray, List.set_cons_zero, List.set_cons_succ])) | (refine run_chain_off rfl rfl (by rfl) (K0_mono _) ?_; (try simp only [Act.put, List.setIfInBounds_toArray, List.set_cons_zero, List.set_cons_succ])) | ((refine run_want rfl rfl (by rfl) ⟨?_, fun W hW => ?_, ?_⟩; rotate_left; (· (skip; go_simp; (try with_reducible rfl)))); (try simp only [Act.put, List.setIfInBounds_toArray, List.set_cons_zero, List.set_cons_succ])))
          refine run_chain rfl rfl (by rfl) (fun Wi hWi K' hK => ?_)
          have HTi := Lib.hid (HT.out.trans hWi)
          have HV8i := Lib.hid (HV8.out.keep (.of_step hWi))
          clear hWi HT HV8
          go_simp
          refine (same_any _ (openP h ag) (openP h ag) _ _ _ (HVX.out.keep (.of_step HTi.out)) HV8i.out (thin_open HVAL.out ag)).mono ?_
          rintro e wn5 ⟨rfl, hSn⟩
          rw [alike_self]
          have HT := Lib.hid (HTi.out.trans hSn)
          clear HTi HV8i
          refine hK _ _ (StepX.of hSn) ?_
          clear hSn
          (try simp only [Act.put, List.setIfInBounds_toArray, List.set_cons_zero, List.set_cons_succ])
          repeat (first | (refine run_off rfl rfl (by rfl) ?_; (try simp only [Act.put, List.setIfInBounds_toArray, List.set_cons_zero, List.set_cons_succ])) | (refine run_chain_off rfl rfl (by rfl) (K0_mono _) ?_; (try simp only [Act.put, List.setIfInBounds_toArray, List.set_cons_zero, List.set_cons_succ])) | ((refine run_want rfl rfl (by rfl) ⟨?_, fun W hW => ?_, ?_⟩; rotate_left; (· (skip; go_simp; (try with_reducible rfl)))); (try simp only [Act.put, List.setIfInBounds_toArray, List.set_cons_zero, List.set_cons_succ])))
          refine run_chain rfl rfl (by rfl) (fun Wi hWi K' hK => ?_)
          have HTi := Lib.hid (HT.out.trans hWi)
          have HZW := Lib.hid HTi.out.size
          clear hWi HT
          go_simp
          refine (awake_any _).mono ?_
          rintro e wn ⟨rfl, hSn⟩
          have HT := Lib.hid (HTi.out.trans (StepX.of hSn))
          clear HTi
          refine hK _ _ (StepX.of hSn) ?_
          clear hSn
          (try simp only [Act.put, List.setIfInBounds_toArray, List.set_cons_zero, List.set_cons_succ])
          repeat (first | (refine run_off rfl rfl (by rfl) ?_; (try simp only [Act.put, List.setIfInBounds_toArray, List.set_cons_zero, List.set_cons_succ])) | (refine run_chain_off rfl rfl (by rfl) (K0_mono _) ?_; (try simp only [Act.put, List.setIfInBounds_toArray, List.set_cons_zero, List.set_cons_succ])) | ((refine run_want rfl rfl (by rfl) ⟨?_, fun W hW => ?_, ?_⟩; rotate_left; (· (skip; go_simp; (try with_reducible rfl)))); (try simp only [Act.put, List.setIfInBounds_toArray, List.set_cons_zero, List.set_cons_succ])))
          refine run_end (L := []) rfl (fun W6 hW6 => ?_)
          have HT6 := Lib.hid (HT.out.trans hW6)
          clear hW6 HT
          have HT := HT6
          clear HT6
          go_wp2
          go_ret
          exact ⟨rfl, HS.out.trans HT.out⟩
      | true =>
        obtain ⟨sk, rfl, hs0, hs1⟩ := within_nat qs (by omega)
        have hsk : sk < z := by omega
        obtain rfl : n9 = classL h.sectors sk := by rw [HN9.out, houses_class HVAL.out, HZ.out, qs]; rfl
        obtain rfl : e9 = 0 := by rw [HE9.out, houses_class HVAL.out, HZ.out, qs]; rfl
        have c1 := HCC.out sk hsk
        have hixs : (0 : Int) ≤ (sk : Int) ∧ (sk : Int) < (z : Int) := by omega
        have hcne : (classL h.sectors sk != classL h.sectors sk) = false := by simp
        clear qs hwz HN9 HE9 hs0 hs1
        (try clear e0 e1 e2 e3 e4 f0 f1 f2 f3 f4 f5 y1 y2)
        obtain ⟨e0, e1, e2, e3, e4⟩ := cells5 (HB1.out.step HT.out)
        obtain ⟨f0, f1, f2, f3, f4, f5⟩ := cells6 (HB2.out.step HT.out)
        have y1 := (HB1.out.step HT.out).lt
        have y2 := (HB2.out.step HT.out).lt
        go_wp2_with fail
        refine (Agencies_any (fun _ => False) h _ _ ⟨_, rfl, Rep.keep (.of_step HT.out) HR.out⟩ (by have := HBV.out; omega)).mono ?_
        rintro e wn ⟨rfl, hSn⟩
        have HTi := Lib.hid (HT.out.trans hSn)
        clear hSn HT
        have HT := HTi
        clear HTi
        have hwa := HWA.out
        go_wp2_with fail
        refine (bigtopref08.In_any _ _ _ _).mono ?_
        rintro e w' ⟨rfl, rfl⟩
        cases qa : withinB ag 0 ((agN h : Int) - 1) with
        | false =>
          obtain rfl : xb = noBook := by rw [HXB.out, houses_open HVAL.out, qa]; rfl
          obtain rfl : f = 2 := by rw [HF9.out, houses_open HVAL.out, qa]; rfl
          clear qa hwa HXB HF9 e0 e1 e2 e3 e4 f0 f1 f2 f3 f4 f5 y1 y2
          obtain ⟨g0, g1, g2, g3, g4, g5⟩ := cells6 (HBX.out.step HT.out)
          go_wp2_with fail
          refine (empty_any _ noBook _ _ (HVX.out.keep (.of_step HT.out))).mono ?_
          rintro e wn4 ⟨rfl, hSn⟩
          rw [alike_self]
          have HTi := Lib.hid (HT.out.trans hSn)
          clear hSn HT
          have HT := HTi
          clear HTi
          go_wp2_with fail
          refine (awake_any _).mono ?_
          rintro e wz ⟨rfl, hSz⟩
          go_wp2
          go_ret
          exact ⟨rfl, HS.out.trans (HT.out.trans hSz)⟩
        | true =>
          obtain rfl : xb = openP h ag := by rw [HXB.out, houses_open HVAL.out, qa]; rfl
          obtain rfl : f = 0 := by rw [HF9.out, houses_open HVAL.out, qa]; rfl
          clear qa hwa HXB HF9 e0 e1 e2 e3 e4 f0 f1 f2 f3 f4 f5 y1 y2
          go_upto_region 18 with (fail)
          refine wp_region_seq (kdOf [6, 7, 10] []) [0, 1, 3, 7, 7, 7, 55, 127, 255, 511, 1023, 2047, 4095] [0, 1, 2, 3, 4, 5, 6, 7, 8, 9, 10, 11, 12] [] (by kernel_rfl) (by kernel_rfl) (fun i T z hi hk => by simp [kdOf] at hk <;> (try (split at hk <;> cases hk))) ?_
          intro Wx hWx
          have HTx := Lib.hid (HT.out.trans hWx)
          clear hWx HT
          have HT := HTx
          clear HTx
          (try clear e0 e1 e2 e3 e4 f0 f1 f2 f3 f4 f5 y1 y2)
          obtain ⟨e0, e1, e2, e3, e4⟩ := cells5 (HB1.out.step HT.out)
          obtain ⟨f0, f1, f2, f3, f4, f5⟩ := cells6 (HB2.out.step HT.out)
          have y1 := (HB1.out.step HT.out).lt
          have y2 := (HB2.out.step HT.out).lt
          obtain ⟨g0, g1, g2, g3, g4, g5⟩ := cells6 (HBX.out.step HT.out)
          repeat (first | (refine run_off rfl rfl (by rfl) ?_; (try simp only [Act.put, List.setIfInBounds_toArray, List.set_cons_zero, List.set_cons_succ])) | (refine run_chain_off rfl rfl (by rfl) (K0_mono _) ?_; (try simp only [Act.put, List.setIfInBounds_toArray, List.set_cons_zero, List.set_cons_succ])) | ((refine run_want rfl rfl (by rfl) ⟨?_, fun W hW => ?_, ?_⟩; rotate_left; (· (have d0 := hW.keeps.cell id e0; have d1 := hW.keeps.cell id e1; have d2 := hW.keeps.cell id e2; have d3 := hW.keeps.cell id e3; have d4 := hW.keeps.cell id e4; have d5 := hW.keeps.cell id g0; have d6 := hW.keeps.cell id g1; have d7 := hW.keeps.cell id g2; have d8 := hW.keeps.cell id g3; have d9 := hW.keeps.cell id g4; have d10 := hW.keeps.cell id g5; go_simp; (try with_reducible rfl)))); (try simp only [Act.put, List.setIfInBounds_toArray, List.set_cons_zero, List.set_cons_succ])))
          clear g0 g1 g2 g3 g4 g5
          refine run_chain rfl rfl (by rfl) (fun Wi hWi K' hK => ?_)
          have HTi := Lib.hid (HT.out.trans hWi)
          have HZW := Lib.hid HTi.out.size
          clear hWi HT
          go_simp
          refine (ROpen_any (fun _ => False) h ag _ _ ⟨_, rfl, Rep.keep (.of_step HTi.out) HR.out⟩ HVAL.out).mono ?_
          rintro e wn ⟨v8, rfl, hv8, hSn⟩
          have HT := Lib.hid (HTi.out.trans (StepX.of hSn))
          clear HTi
          have HV8 := Lib.hid (AV.triv hv8)
          have HT8 := Lib.hid (Step.refl wn)
          clear hv8
          refine hK _ _ (StepX.of hSn) ?_
          clear hSn
          (try simp only [Act.put, List.setIfInBounds_toArray, List.set_cons_zero, List.set_cons_succ])
          repeat (first | (refine run_off rfl rfl (by rfl) ?_; (try simp only [Act.put, List.setIfInBounds_toArray, List.set_cons_zero, List.set_cons_succ])) | (refine run_chain_off rfl rfl (by rfl) (K0_mono _) ?_; (try simp only [Act.put, List.setIfInBounds_toArray, List.set_cons_zero, List.set_cons_succ])) | ((refine run_want rfl rfl (by rfl) ⟨?_, fun W hW => ?_, ?_⟩; rotate_left; (· (skip; go_simp; (try with_reducible rfl)))); (try simp only [Act.put, List.setIfInBounds_toArray, List.set_cons_zero, List.set_cons_succ])))
          refine run_chain rfl rfl (by rfl) (fun Wi hWi K' hK => ?_)
          have HTi := Lib.hid (HT.out.trans hWi)
          have HV8i := Lib.hid (HV8.out.keep (.of_step hWi))
          clear hWi HT HV8
          go_simp
          refine (same_any _ (openP h ag) (openP h ag) _ _ _ (HVX.out.keep (.of_step HTi.out)) HV8i.out (thin_open HVAL.out ag)).mono ?_
          rintro e wn5 ⟨rfl, hSn⟩
          rw [alike_self]
          have HT := Lib.hid (HTi.out.trans hSn)
          clear HTi HV8i
          refine hK _ _ (StepX.of hSn) ?_
          clear hSn
          (try simp only [Act.put, List.setIfInBounds_toArray, List.set_cons_zero, List.set_cons_succ])
          repeat (first | (refine run_off rfl rfl (by rfl) ?_; (try simp only [Act.put, List.setIfInBounds_toArray, List.set_cons_zero, List.set_cons_succ])) | (refine run_chain_off rfl rfl (by rfl) (K0_mono _) ?_; (try simp only [Act.put, List.setIfInBounds_toArray, List.set_cons_zero, List.set_cons_succ])) | ((refine run_want rfl rfl (by rfl) ⟨?_, fun W hW => ?_, ?_⟩; rotate_left; (· (skip; go_simp; (try with_reducible rfl)))); (try simp only [Act.put, List.setIfInBounds_toArray, List.set_cons_zero, List.set_cons_succ])))
          refine run_chain rfl rfl (by rfl) (fun Wi hWi K' hK => ?_)
          have HTi := Lib.hid (HT.out.trans hWi)
          have HZW := Lib.hid HTi.out.size
          clear hWi HT
          go_simp
          refine (awake_any _).mono ?_
          rintro e wn ⟨rfl, hSn⟩
          have HT := Lib.hid (HTi.out.trans (StepX.of hSn))
          clear HTi
          refine hK _ _ (StepX.of hSn) ?_
          clear hSn
          (try simp only [Act.put, List.setIfInBounds_toArray, List.set_cons_zero, List.set_cons_succ])
          repeat (first | (refine run_off rfl rfl (by rfl) ?_; (try simp only [Act.put, List.setIfInBounds_toArray, List.set_cons_zero, List.set_cons_succ])) | (refine run_chain_off rfl rfl (by rfl) (K0_mono _) ?_; (try simp only [Act.put, List.setIfInBounds_toArray, List.set_cons_zero, List.set_cons_succ])) | ((refine run_want rfl rfl (by rfl) ⟨?_, fun W hW => ?_, ?_⟩; rotate_left; (· (skip; go_simp; (try with_reducible rfl)))); (try simp only [Act.put, List.setIfInBounds_toArray, List.set_cons_zero, List.set_cons_succ])))
          refine run_end (L := []) rfl (fun W6 hW6 => ?_)
          have HT6 := Lib.hid (HT.out.trans hW6)
          clear hW6 HT
          have HT := HT6
          clear HT6
          go_wp2
          go_ret
          exact ⟨rfl, HS.out.trans HT.out⟩
end Go.Proofs.Ytbgfmikbhiblgaa
/- TicketHouses: of every input the law answers true, and its arguments read as they did. -/
namespace Go.Proofs.Ytbgfmikbhiblgaa.houses
open Go.ChangeShapes Go.WideShapes Go.ChangeAt Go.RowKit Go.BT
set_option linter.unusedVariables false
set_option linter.unusedSimpArgs false

set_option maxRecDepth 100000 in
theorem lifted (os : Os) (started : os.Started) (H : Type) (enc : TypeId × Value → H) :
    ReturnsInHanded {} Try.checked os 4 .any (Rows.ticketHousesSpec.pre6 enc Try.prog Try.f4 Rows.ticketHousesRow.domain false) (Rows.ticketHousesSpec.post enc Try.prog Try.f4 false true false false) := by
  refine returnsInHanded_of_change (C := Try.checked) own started (by kernel_rfl) Try.func4
    (ChangeSpec.witness6 (enc := enc) (C := Try.checked) false ⟨#[], #[.agg #[.slice none 0 0, .slice none 0 0, .slice none 0 0, .slice none 0 0, .slice none 0 0], .agg #[.int .i64 0, .slice none 0 0, .slice none 0 0, .int .i64 0, .slice none 0 0, .int .i64 0], .int .i64 0, .int .i64 0], []⟩ 8 (by kernel_rfl) (by kernel_rfl) (by kernel_rfl) (by kernel_rfl)) ?_
  intro W base args ds gs before hval0 hW hcnd _
  have hval : ∀ (j : Nat) t v, Try.f4.params[j]? = some t → args[j]? = some v → Value.okWide Try.prog W .any base t v := hval0
  have hW' := hW
  obtain ⟨p, q, hA0, hV, rfl, hfz, hnd⟩ := hW
  have hA : DataW.TrodAll enc Try.prog W 0 (fun _ => true) true Try.f4.params.toList args.toList ds p := hA0
  have hAk := hA
  rw [Try.params4] at hA hval
  obtain ⟨v0, vs0, d0, ds0, p0, q0, hargs, rfl, rfl, h0, r0⟩ := trodAll_cons hA
  obtain ⟨v1, vs1, d1, ds1, p1, q1, rfl, rfl, rfl, h1, r1⟩ := trodAll_cons r0
  obtain ⟨v2, vs2, d2, ds2, p2, q2, rfl, rfl, rfl, h2, r2⟩ := trodAll_cons r1
  obtain ⟨v3, vs3, d3, ds3, p3, q3, rfl, rfl, rfl, h3, r3⟩ := trodAll_cons r2
  obtain ⟨rfl, rfl, rfl⟩ := trodAll_nil r3
  obtain rfl : args = #[v0, v1, v2, v3] := by cases args; simp_all
  obtain ⟨rfl, rfl⟩ := trodVars_none hV
  obtain ⟨h, hh⟩ := av_of opens_House Try.underlying26 (hval 0 26 v0 rfl rfl) h0
  obtain ⟨b, hb⟩ := av_of opens_Book Try.underlying30 (hval 1 30 v1 rfl rfl) h1
  obtain ⟨a2, rfl, rfl, rfl, w2⟩ := open_int Try.underlying3 (hval 2 3 v2 rfl rfl) h2
  obtain ⟨a3, rfl, rfl, rfl, w3⟩ := open_int Try.underlying3 (hval 3 3 v3 rfl rfl) h3
  clear hA0 hval0
  refine (TicketHouses_any h b a2 a3 v0 v1 W hh hb).mono fun e W' ⟨he, hg⟩ => ?_
  subst he
  have hlt := hW'.lt
  refine ⟨_, rfl, post_of_below (pv := []) hW' (fun _ _ _ => (trodAll_cons_mk (shut_bool Try.underlying4 _) trodAll_mk0)) (fun sp hs => all_stays laid hg.below (fun t ht => ?_) hAk (fun x hx => hlt x (by simpa using hx)) (fun x hx => hs x (by simpa using hx))) (fun _ _ => rfl) rfl hg.below (ok_one (by kernel_rfl) rfl (okWide_bool_mk Try.underlying4 _))⟩
  rw [Try.params4] at ht
  have : ∀ t ∈ [26, 30, 3, 3], Try.prog.readableRec t = true ∧ t < Try.prog.types.size := by
    intro t ht
    simp only [List.mem_cons, List.not_mem_nil, or_false] at ht
    rcases ht with rfl | rfl | rfl | rfl <;> exact ⟨by kernel_rfl, of_decide_eq_true (by kernel_rfl)⟩
  exact this t ht

theorem over : Rows.ticketHousesRow.holds Try.pinned (OpenSpec.ofChange Rows.ticketHousesSpec) :=
  OpenClaim.holds_of_wide 4 Try.f4 rfl rfl rfl rfl rfl rfl rfl ⟨rfl, rfl, rfl, rfl, rfl⟩ rfl rfl rfl rfl rfl (by kernel_rfl) Try.func4 (by kernel_rfl)
    (of_decide_eq_true (by kernel_rfl)) (by unfold Func.isWrapper; first | (rw [if_pos (by decide +kernel)]; kernel_rfl) | (rw [if_neg (by decide +kernel)]; exact ⟨rfl, rfl⟩))
    (fun os started H enc _ => lifted os started H enc)
theorem proved : Rows.TicketHousesSaid := over
end Go.Proofs.Ytbgfmikbhiblgaa.houses
