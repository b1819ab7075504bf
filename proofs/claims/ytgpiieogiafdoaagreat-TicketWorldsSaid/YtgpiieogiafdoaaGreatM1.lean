/- Walks and plain laws, part r. -/
import Derived.Test.YtgpiieogiafdoaaGreatM5
import Derived.Test.YtgpiieogiafdoaaGreatMw
import Derived.Test.YtgpiieogiafdoaaGreatMx
import Derived.Test.YtgpiieogiafdoaaGreatMy
import Derived.Test.YtgpiieogiafdoaaGreatRows
set_option maxHeartbeats 16000000
set_option maxRecDepth 100000
namespace Go.BT
open Go.RowKit
def SO {α : Type} [Rep α] (S : Nat → Prop) (e : TypeId) (w : World) (v : Value) (l : List α) : Prop := OwnL S 0 e w v l ∧ ∀ g, v.ownBlock = some g → ¬ S g
section
variable {α : Type} [Rep α] {S T : Nat → Prop} {base : Nat} {e : TypeId} {w w' : World} {v : Value} {l : List α}
theorem OwnL.low (h : OwnL S base e w v l) : OwnL S 0 e w v l := by
 obtain ⟨xs, ⟨hl, ho⟩, hr⟩ := h
 refine ⟨xs, ⟨hl, ?_⟩, hr⟩
 rcases ho with hn | ⟨g, cap, cur, rfl, hb, r⟩
 ·exact .inl hn
 ·exact .inr ⟨g, cap, cur, rfl, Nat.zero_le _, r⟩
theorem SO.of (h : OwnL S base e w v l) (hs : ∀ g, base ≤ g → g < w.heap.size → ¬ S g) : SO S e w v l := ⟨h.low, fun g hg => hs g (h.lt g hg).1 (h.lt g hg).2⟩
theorem SO.nil (S : Nat → Prop) (e : TypeId) (w : World) : SO S e w (.slice none 0 0) ([] : List α) := ⟨OwnL.nil _ _ _ _, fun g hg => by simp [Value.ownBlock] at hg⟩
theorem SO.sl (h : SO S e w v l) : SL S w v l := Go.BT.OwnL.slb h.1 h.2
theorem SO.keep (hk : Keeps S w w') (h : SO S e w v l) : SO S e w' v l := ⟨h.1.kept hk (fun g hg => hk.2 g (h.1.lt g hg).2 (h.2 g hg)), h.2⟩
theorem SO.weak (hk : ∀ j, j < w.heap.size → T j → S j) (h : SO S e w v l) : SO T e w v l := ⟨h.1.weak hk, fun g hg ht => h.2 g hg (hk g (h.1.lt g hg).2 ht)⟩
theorem SO.form (h : SO S e w v l) : ∃ p c, v = .slice p l.length c := h.sl.form
end
end Go.BT
namespace Go.Proofs.YtgpiieogiafdoaaGreat
open Go.RowKit Go.BT
def WP (S : Nat → Prop) (w : World) (b0 b1 : Value) (W : Wd) : Prop := SO (fun j => S j ∨ b1.ownBlock = some j) 56 w b0 W.books ∧ SO (fun j => S j ∨ b0.ownBlock = some j) 58 w b1 W.msgs
theorem WP.keep {S : Nat → Prop} {w w' : World} {b0 b1 : Value} {W : Wd} (hk : Keeps S w w') (h : WP S w b0 b1 W) : WP S w' b0 b1 W := ⟨h.1.keep (hk.mono fun _ _ e => .inl e), h.2.keep (hk.mono fun _ _ e => .inl e)⟩
theorem WP.weak {S T : Nat → Prop} {w : World} {b0 b1 : Value} {W : Wd} (hk : ∀ j, j < w.heap.size → T j → S j) (h : WP S w b0 b1 W) : WP T w b0 b1 W :=
 ⟨h.1.weak fun j hj e => e.imp (hk j hj) id, h.2.weak fun j hj e => e.imp (hk j hj) id⟩
theorem WP.sl {S : Nat → Prop} {w : World} {b0 b1 : Value} {W : Wd} (h : WP S w b0 b1 W) : SL S w b0 W.books ∧ SL S w b1 W.msgs := ⟨h.1.sl.weak fun _ _ e => .inl e, h.2.sl.weak fun _ _ e => .inl e⟩
theorem WP.nil (S : Nat → Prop) (w : World) : WP S w (.slice none 0 0) (.slice none 0 0) ⟨[], []⟩ := ⟨SO.nil _ _ _, SO.nil _ _ _⟩
def WO (S : Nat → Prop) (w : World) (v : Value) (W : Wd) : Prop := ∃ b0 b1, v = .agg #[b0, b1] ∧ WP S w b0 b1 W
end Go.Proofs.YtgpiieogiafdoaaGreat
namespace Go.Proofs.YtgpiieogiafdoaaGreat
set_option linter.unusedSimpArgs false
set_option linter.unusedVariables false
open Go.RowKit Go.BT
theorem siRefWorld : SI Tryz.prog 49 2 := ⟨⟨_, Tryz.underlying49⟩, by kernel_rfl⟩
theorem infoRefBook : (Tryz.prog.info? 56).map (fun i => (i.zero, i.size, i.bytes)) = some (some (.agg #[.int .i64 0, .slice none 0 0, .slice none 0 0, .int .i64 0, .slice none 0 0, .int .i64 0]), 6, 96) := by kernel_rfl
theorem eiRefBooks : EI Tryz.prog 46 56 (.agg #[.int .i64 0, .slice none 0 0, .slice none 0 0, .int .i64 0, .slice none 0 0, .int .i64 0]) 6 96 := .mk' Tryz.underlying46 infoRefBook rfl
theorem set2r {w : World} {g : Nat} {a0 a1 : Value} {T : TypeId} (h : Bx w g [a0, a1] T) (c0 c1 : Value) : Bx ((w.setCell ⟨g, 0, none⟩ c0).setCell ⟨g, 1, none⟩ c1) g [c0, c1] T ∧ StepX (fun j => j = g) w ((w.setCell ⟨g, 0, none⟩ c0).setCell ⟨g, 1, none⟩ c1) :=
 ⟨(h.setCell 0 c0).setCell 1 c1, ((StepX.refl _ w).set1 0 c0).set1 1 c1⟩
theorem openTo_all {h : House} : openTo h (agN h) = (startD h).books := rfl
theorem RStart_own (S : Nat → Prop) (h : House) (v : Value) (w : World) (hv : AV S w v h) (hok : valid h = true) :
  Calls Tryz.prog 50 #[v] w fun e w' => ∃ v', e = .returned v' ∧ WO (Old w) w' v' (startD h) ∧ Step w w' := by
 obtain ⟨c0, c1, c2, c3, c4, rfl, h0, h1, h2, h3, h4⟩ := hv.house
 obtain ⟨p0, k0, rfl⟩ := h0.form
 obtain ⟨p1, k1, rfl⟩ := h1.form
 obtain ⟨p2, k2, rfl⟩ := h2.form
 obtain ⟨p3, k3, rfl⟩ := h3.form
 obtain ⟨p4, k4, rfl⟩ := h4.form
 obtain ⟨W0, hW0⟩ : ∃ W0, W0 = ((w.alloc (.cells #[.slice p0 h.sectors.length k0, .slice p1 h.prices.length k1, .slice p2 h.dates.length k2, .slice p3 h.frm.length k3, .slice p4 h.holds.length k4] 26)).alloc (.cells #[.slice none 0 0, .slice none 0 0] 49)).alloc (.cells #[.slice none 0 0, .slice none 0 0] 49) := ⟨_, rfl⟩
 have hS : Step w W0 := by subst hW0; exact (by with_reducible repeat (first | assumption | exact Step.refl _ | apply Step.s_alloc | apply Step.s_drew | apply Step.s_drewN | refine Step.trans ?_ (by assumption)))
 have hb0 : Bx W0 w.heap.size [.slice p0 h.sectors.length k0, .slice p1 h.prices.length k1, .slice p2 h.dates.length k2, .slice p3 h.frm.length k3, .slice p4 h.holds.length k4] 26 := by subst hW0; exact ((Bx.new _ [_, _, _, _, _] _).alloc _).alloc _
 have hb1 : Bx W0 (w.heap.size + 1) [.slice none 0 0, .slice none 0 0] 49 := by subst hW0; exact (Bx.new' _ [_, _] _ _ (by simp)).alloc _
 have hb2 : Bx W0 (w.heap.size + 2) [.slice none 0 0, .slice none 0 0] 49 := by subst hW0; exact Bx.new' _ [_, _] _ _ (by simp)
 have hz0 : W0.heap.size = w.heap.size + 3 := by subst hW0; simp
 have HH := zH hv
 have HS := zH hS
 have HB0 := zH hb0
 have HB1 := zH hb1
 have HB2 := zH hb2
 have HZ := zH hz0
 have HW := zH hW0
 have BD := zH (bounds_valid hok)
 have HOK := zH hok
 clear hv hS hb0 hb1 hb2 hz0 hW0 hok h0 h1 h2 h3 h4
 go_enter Tryz.func50, Tryz.ntmps50
 go_upto_region 2 with (fail)
 rw [← HW.out]
 clear HW
 go_upto_region 3 with (fail)
 go_loopw [4] (fun i wr => ∃ (k : Nat) (vb : Value), k ≤ agN h ∧ i = .int .i64 k ∧ Bx wr (w.heap.size + 2) [vb, .slice none 0 0] 49 ∧ OwnL (fun j => j < w.heap.size + 3) (w.heap.size + 3) 56 wr vb (openTo h k) ∧ Keeps (fun j => j = w.heap.size + 2) W0 wr ∧ Step w wr) (fun i _ => agN h - (intOf i).toNat)
 case atStart => exact ⟨0, _, Nat.zero_le _, rfl, HB2.out, OwnL.nil _ _ _ _, Keeps.refl _ _, HS.out⟩
 case round =>
  obtain ⟨k, vb, hk, rfl, hbx, hown, hkp, hT⟩ := hrel
  have HBX := zH hbx
  have HOW := zH hown
  have HKP := zH hkp
  have HT := zH hT
  have HBH := zH (HB0.out.keep hkp (by omega))
  have HHr := zH ((HH.out.weak (T := fun _ => False) fun _ _ h => h.elim).keep (.of_step hT))
  clear hbx hown hkp hT
  have hrh : AV (fun _ => False) wr (.agg #[.slice p0 h.sectors.length k0, .slice p1 h.prices.length k1, .slice p2 h.dates.length k2, .slice p3 h.frm.length k3, .slice p4 h.holds.length k4]) h := HHr.out
  obtain ⟨e0, e1, e2, e3, e4⟩ := cells5 HBH.out
  go_wp2_with fail
  refine (Agencies_any (fun _ => False) h _ _ hrh (by have := BD.out; omega)).mono ?_
  rintro e wn ⟨rfl, hSn⟩
  clear e0 e1 e2 e3 e4 hrh
  have HBXn := zH (HBX.out.step hSn)
  have HOWn := zH (HOW.out.step hSn)
  have HKPn := zH (HKP.out.trans (.of_step hSn))
  have HTn := zH (HT.out.trans hSn)
  have HBHn := zH (HBH.out.step hSn)
  have HHn := zH (HHr.out.keep (.of_step hSn))
  clear hSn HBX HOW HKP HT HBH HHr
  by_cases hlt : k < agN h
  ·obtain ⟨pb, kb, rfl⟩ : ∃ p c, vb = .slice p (openTo h k).length c := by obtain ⟨p, c, e, _, _⟩ := HOWn.out.form; exact ⟨p, c, e⟩
   go_upto_region 5 with (fail)
   refine wp_region_seqM (fun c d v a w h => by cases d <;> exact h) (kdOf [4, 5] []) [0, 1, 0, 0, 12, 28, 63, 127, 255] [0, 1, 2, 3, 4, 5] [6, 7, 8] (by kernel_rfl) (by kernel_rfl) (fun i T z hi hk => by simp [kdOf] at hk <;> (try (split at hk <;> cases hk))) ?_
   intro Wx hWx
   obtain ⟨e0, e1, e2, e3, e4⟩ := cells5 (HBHn.out.step hWx)
   have g0 := (HBXn.out.step hWx).cell 0
   simp only [List.getElem?_cons_zero] at g0
   repeat ((first | (refine run_off rfl rfl (by rfl) ?_) | (refine run_chain_off rfl rfl (by rfl) (K0_mono _) ?_) | ((refine run_want rfl rfl (by rfl) ⟨?_, fun W hW => ?_, ?_⟩; rotate_left; (· (have d0 := hW.kc e0; have d1 := hW.kc e1; have d2 := hW.kc e2; have d3 := hW.kc e3; have d4 := hW.kc e4; have d5 := hW.kc g0; go_simp; (try with_reducible rfl)))))); (try simp only [Act.put, zA, zB, zC]))
   clear e0 e1 e2 e3 e4 g0
   refine run_chain rfl rfl (by rfl) (fun Wi hWi K' hK => ?_)
   have HXI := zH (hWx.trans hWi)
   clear hWx hWi
   go_simp
   refine (ROpen_any (fun _ => False) h (k : Int) _ Wi (HHn.out.keep (.of_step HXI.out)) HOK.out).mono ?_
   rintro e wq ⟨v', rfl, hv', hSn⟩
   obtain ⟨b1, b2, b4, rfl, s1, s2, s4⟩ := hv'.book
   obtain ⟨y1, x1, rfl⟩ := s1.form
   obtain ⟨y2, x2, rfl⟩ := s2.form
   obtain ⟨y4, x4, rfl⟩ := s4.form
   have HVB := zH hv'
   have HXN := zH (HXI.out.trans hSn)
   have HZI := zH HXI.out.size
   have HZS := zH hSn.size
   refine hK _ _ (StepX.of hSn) ?_
   clear hSn hv' s1 s2 s4 hK HXI
   (try simp only [Act.put, zA, zB, zC])
   repeat ((first | (refine run_off rfl rfl (by rfl) ?_) | (refine run_chain_off rfl rfl (by rfl) (K0_mono _) ?_) | ((refine run_want rfl rfl (by rfl) ⟨?_, fun W hW => ?_, ?_⟩; rotate_left; (· (skip; go_simp; (try with_reducible rfl)))))); (try simp only [Act.put, zA, zB, zC]))
   refine run_chain rfl rfl (by rfl) (fun W3 hW3 K' hK' => ?_)
   go_simp
   refine hK' _ _ (.of (Step.alloc _ _)) ?_
   (try simp only [Act.put, zA, zB, zC])
   refine run_end (L := [_, _, _]) rfl (fun W4 hW4 => ?_)
   have hst4 := ((HXN.out.trans hW3).trans (Step.alloc _ _)).trans hW4
   have hold : Rep.rep (avoid (fun j => j < w.heap.size + 3) (.slice pb (openTo h k).length kb)) wq [.int .i64 (openP h (k : Int)).agency, .slice y1 (openP h (k : Int)).seats.length x1, .slice y2 (openP h (k : Int)).off.length x2, .int .i64 (openP h (k : Int)).sent, .slice y4 (openP h (k : Int)).took.length x4, .int .i64 (openP h (k : Int)).cash] (openP h (k : Int)) := by
    obtain ⟨cs9, he9, hr9⟩ := HVB.out
    injection he9 with he9
    have hf9 : cs9 = [.int .i64 (openP h (k : Int)).agency, .slice y1 (openP h (k : Int)).seats.length x1, .slice y2 (openP h (k : Int)).off.length x2, .int .i64 (openP h (k : Int)).sent, .slice y4 (openP h (k : Int)).took.length x4, .int .i64 (openP h (k : Int)).cash] := by
     have := congrArg Array.toList he9
     simpa using this.symm
    rw [hf9] at hr9
    refine Rep.weak (fun j hj hs => ?_) hr9
    unfold Old
    rcases hs with hs | hs
    ·have := HTn.out.size; have := HKPn.out.1; have := HZ.out; have := HZI.out; omega
    ·have := (HOWn.out.lt j hs).2; have := HZI.out; omega
   have hu := (SLe.one 56 (Rep.keep (.of_step hW3) hold)).step hW4
   have hn1 : (openTo h k).length + [openP h (k : Int)].length = k + 1 := by rw [openTo_len]; rfl
   have hn2 : k + 1 ≤ maxLen := by have := BD.out; simp only [maxLen]; omega
   have hn3 : (k + 1) * 96 ≤ 140737488355328 := by have := BD.out; omega
   have hown4 := HOWn.out.step hst4
   have hbx4 := HBXn.out.step hst4
   have hbase : w.heap.size + 3 ≤ W4.heap.size := by have := HKPn.out.1; have := HZ.out; have := hst4.size; omega
   have HST4 := zH hst4
   clear hW3 hW4 hold hst4
   go_wp2_with (at_builtin; refine wpl_append (S := fun j => j < w.heap.size + 3) (base := w.heap.size + 3) (v := .slice pb (openTo h k).length kb) (l := openTo h k) (m := [openP h (k : Int)]) eiRefBooks rfl _ _ rfl rfl rfl hown4 hu (k + 1) hn1 (openTo h (k + 1)) (openTo_succ h k).symm hn2 hn3 hbase ?_)
   intro p' c' w5 hown5 hg5
   have hnx : ¬ (Value.slice pb (openTo h k).length kb).ownBlock = some (w.heap.size + 2) := fun e => by have := (hown4.lt _ e).1; omega
   have b5 := hbx4.keep (S := fun j => (Value.slice pb (openTo h k).length kb).ownBlock = some j) (.grown hg5 fun j hj _ => hj) hnx
   have f5 := b5.frozen 0
   have c5 := b5.cell 0
   simp only [List.getElem?_cons_zero] at c5
   have x5 : (Value.slice p' (k + 1) c').ownBlock ≠ some (w.heap.size + 2) := fun e => by have := (hown5.lt _ e).1; omega
   have hkp5 : Keeps (fun j => j = w.heap.size + 2) W0 w5 := by
    have hz := HZ.out
    have hk := HKPn.out.trans (.of_step HST4.out)
    exact ⟨by have := hk.1; have := hg5.size; omega, fun j hj hs => (hg5.block j (by have := hk.1; omega) (fun e => by have := (hown4.lt j e.symm).1; omega)).trans (hk.2 j hj hs)⟩
   have hT5 : Step w w5 := StepX.fresh (HTn.out.trans HST4.out) (StepX.grown (X := fun j => (Value.slice pb (openTo h k).length kb).ownBlock = some j) hg5 fun j hj _ => hj) (fun j hj => by have := (hown4.lt j hj).1; omega)
   have HK5 := zH hkp5
   have HT5 := zH hT5
   have HO5 := zH hown5
   have HX5 := zH x5
   have HB5 := zH b5
   have hag := BD.out.2.2.2.2.2.1
   have hkw : IntKind.i64.wrap ((k : Int) + 1) = (k : Int) + 1 := by rw [IntKind.wrap_i64]; omega
   clear hown4 hu hbx4 hbase hg5 hnx hkp5 hT5 hown5 x5 b5 hn1 hn2 hn3
   go_wp2
   go_roundw
   case rel => exact ⟨k + 1, _, by omega, by go_num, HB5.out.setCell 0 _, HO5.out.wrote (.setCell _ _ _ _) (by show _ < _; omega) HX5.out, HK5.out.s_wrote (.setCell _ _ _ _) rfl, Step.setNew HT5.out ⟨w.heap.size + 2, 0, none⟩ _ (by show w.heap.size ≤ w.heap.size + 2; omega)⟩
   case measure => simp [intOf]; omega
  ·have hke : k = agN h := by omega
   subst hke
   obtain ⟨pb, kb, rfl⟩ : ∃ p c, vb = .slice p (openTo h (agN h)).length c := by obtain ⟨p, c, e, _, _⟩ := HOWn.out.form; exact ⟨p, c, e⟩
   have g0 := HBXn.out.cell 0
   have g1 := HBXn.out.cell 1
   simp only [zD, zE] at g0 g1
   have hb1 := HB1.out.keep HKPn.out (by omega)
   have t0 := hb1.cell 0
   have t1 := hb1.cell 1
   have tf0 := hb1.frozen 0
   have tf1 := hb1.frozen 1
   simp only [zD, zE] at t0 t1
   have HB1n := zH hb1
   clear hb1
   go_wp2
   have b2 := set2r HB1n.out (.slice pb (openTo h (agN h)).length kb) (.slice none 0 0)
   have hk2 : Keeps (fun j => j < w.heap.size + 3) wn ((wn.setCell ⟨w.heap.size + 1, 0, none⟩ (.slice pb (openTo h (agN h)).length kb)).setCell ⟨w.heap.size + 1, 1, none⟩ (.slice none 0 0)) := b2.2.keeps.mono fun j _ e => by omega
   have ho := HOWn.out.kept hk2 (fun g hg => b2.2.block g (HOWn.out.lt g hg).2 (by have := (HOWn.out.lt g hg).1; omega))
   refine ret_struct (k := 2) rfl siRefWorld rfl b2.1 rfl rfl ?_
   refine ⟨_, rfl, ⟨_, _, rfl, ?_, ?_⟩, ?_⟩
   ·rw [← openTo_all]
    exact (SO.of ho (fun g hg _ hs => by omega)).weak (fun j _ hj => by
     rcases hj with hj | hj
     ·unfold Old at hj; omega
     ·simp [Value.ownBlock] at hj)
   ·exact SO.nil _ _ _
   ·exact StepX.fresh HTn.out b2.2 (fun j hj => by omega)
theorem RRefund_any (S : Nat → Prop) (h : House) (b : Book) (v u : Value) (s n : Int) (w : World) (hv : AV S w v h) (hu : AV S w u b) (hok : valid h = true) (hbk : bookB h b = true) :
  Calls Tryz.prog 98 #[v, u, .int .i64 s, .int .i64 n] w (fun e w' => RActEnds (refundD h b s n) e w w') := by
 obtain ⟨hO, hcash, hc0, hthin⟩ := okDesk_book hok hbk
 obtain ⟨cs, rfl, hr0⟩ := hv
 have hr := hr0
 obtain ⟨c0, c1, c2, c3, c4, rfl, h0, h1, h2, h3, h4⟩ := hr
 obtain ⟨p0, k0, rfl⟩ := h0.form
 obtain ⟨p1, k1, rfl⟩ := h1.form
 obtain ⟨p2, k2, rfl⟩ := h2.form
 obtain ⟨p3, k3, rfl⟩ := h3.form
 obtain ⟨p4, k4, rfl⟩ := h4.form
 obtain ⟨cs, rfl, hq0⟩ := hu
 have hq := hq0
 obtain ⟨d1, d2, d4, rfl, s1, s2, s4⟩ := hq
 obtain ⟨q1, m1, bs, os, rfl, _, _, hp1, hc1, _⟩ := s1.rows
 obtain ⟨q2, m2, rfl⟩ := s2.form
 obtain ⟨q4, m4, rfl⟩ := s4.form
 have hbv := bounds_valid hok
 obtain ⟨z, hz⟩ : ∃ z : Nat, sizeL h.sectors = z := ⟨(sizeL h.sectors).toNat, by omega⟩
 have hz100 : z ≤ 100 := by omega
 have hz0 : 0 < z := by have := size_pos hok; omega
 obtain ⟨W3, hW3⟩ : ∃ W3, W3 = ((w.alloc (.cells #[.slice p0 h.sectors.length k0, .slice p1 h.prices.length k1, .slice p2 h.dates.length k2, .slice p3 h.frm.length k3, .slice p4 h.holds.length k4] 26)).alloc (.cells #[.int .i64 b.agency, .slice q1 b.seats.length m1, .slice q2 b.off.length m2, .int .i64 b.sent, .slice q4 b.took.length m4, .int .i64 b.cash] 56)).alloc (.cells #[.int .i64 0, .slice none 0 0, .slice none 0 0, .int .i64 0, .slice none 0 0, .int .i64 0] 56) := ⟨_, rfl⟩
 have hbx : Bx W3 w.heap.size [.slice p0 h.sectors.length k0, .slice p1 h.prices.length k1, .slice p2 h.dates.length k2, .slice p3 h.frm.length k3, .slice p4 h.holds.length k4] 26 := by subst hW3; exact ((Bx.new _ _ _).alloc _).alloc _
 have hb2 : Bx W3 (w.heap.size + 1) [.int .i64 b.agency, .slice q1 b.seats.length m1, .slice q2 b.off.length m2, .int .i64 b.sent, .slice q4 b.took.length m4, .int .i64 b.cash] 56 := by subst hW3; exact (Bx.new' _ _ _ _ (by simp)).alloc _
 have hb3 : Bx W3 (w.heap.size + 2) [.int .i64 0, .slice none 0 0, .slice none 0 0, .int .i64 0, .slice none 0 0, .int .i64 0] 56 := by subst hW3; exact Bx.new' _ _ _ _ (by simp)
 have hS : Step w W3 := by subst hW3; exact (by with_reducible repeat (first | assumption | exact Step.refl _ | apply Step.s_alloc | apply Step.s_drew | apply Step.s_drewN | refine Step.trans ?_ (by assumption)))
 have hz3 : W3.heap.size = w.heap.size + 3 := by subst hW3; simp
 have HO := zH hO
 have HC0 := zH (And.intro hc0 hcash)
 have HTH := zH hthin
 have HB1 := zH hbx
 have HB2 := zH hb2
 have HB3 := zH hb3
 have HR := zH (Rep.keep (.of_step hS) hr0)
 have HQ := zH (Rep.keep (.of_step hS) hq0)
 have HSHOW := zH (And.intro h2 (And.intro h3 s2))
 have HS := zH hS
 have HZ3 := zH hz3
 have HZ := zH hz
 have HP1 := zH (And.intro hp1 hc1)
 have HOK := zH hok
 have HBK := zH hbk
 have HBV := zH hbv
 have hn1 : 1 ≤ h.dates.length ∧ h.dates.length ≤ 6 := by omega
 have HT := zH (Step.refl W3)
 have HW := zH hW3
 clear hr0 hq0 h0 h1 h2 h3 h4 s1 s2 s4 hbx hb2 hb3 hS hz3 hz hp1 hc1 hok hbk hbv hW3 hO hcash hc0 hthin
 go_enter Tryz.func98, Tryz.ntmps98
 go_wp2_with fail
 rw [show w.heap.size + 1 + 1 = w.heap.size + 2 from rfl, ← HW.out]
 refine (rseat_any S h _ s n _ ⟨_, rfl, HR.out⟩ HOK.out).mono ?_
 rintro e wn ⟨rfl, hSn⟩
 have HTi := zH (HT.out.trans hSn)
 clear hSn HT
 have HT := HTi
 clear HTi
 cases q1 : seatB h s n with
 | false =>
  have HF := zH (seatB_no (b := b) q1).2
  clear q1
  (try clear e0 e1 e2 e3 e4 f0 f1 f2 f3 f4 f5)
  obtain ⟨e0, e1, e2, e3, e4⟩ := cells5 (HB1.out.step HT.out)
  obtain ⟨f0, f1, f2, f3, f4, f5⟩ := cells6 (HB2.out.step HT.out)
  obtain ⟨g0, g1, g2, g3, g4, g5⟩ := cells6 (HB3.out.step HT.out)
  have t0 := (HB3.out.step HT.out).frozen 0
  have t1 := (HB3.out.step HT.out).frozen 1
  have t2 := (HB3.out.step HT.out).frozen 2
  have t3 := (HB3.out.step HT.out).frozen 3
  have t4 := (HB3.out.step HT.out).frozen 4
  have t5 := (HB3.out.step HT.out).frozen 5
  go_wp2
  have b6 := set6 (HB3.out.step HT.out) (.int .i64 0) (.slice none 0 0) (.slice none 0 0) (.int .i64 0) (.slice none 0 0) (.int .i64 0)
  exact ret_struct2 (k := 6) rfl siRefBook rfl b6.1 rfl rfl (.no (refundD_no HF.out (by simp)) rfl (StepX.fresh (HS.out.trans HT.out) b6.2 (fun j hj => by omega)))
 | true =>
 have Q1 := zH (seatB_yes q1)
 clear q1
 obtain ⟨i, rfl, hi0, hi1⟩ := within_nat Q1.out.1 (by omega)
 obtain ⟨j, rfl, hj0, hj1⟩ := within_nat Q1.out.2 (by omega)
 have hi : i < h.dates.length := by omega
 have his : i < b.seats.length := by have := HO.out.2.2.1; omega
 have hjz : j < z := by have := HZ.out; omega
 have hrl : ∀ b', OkDesk h b' → ∀ s (hs : s < b'.seats.length), b'.seats[s].length = z := fun b' hb s hs => by have := hb.2.2.2.1 s hs; have := HZ.out; omega
 have HRL := zH hrl
 obtain rfl := HP1.out.1 (by omega)
 obtain ⟨ur, hr1, hr2⟩ := HP1.out.2 i his
 obtain ⟨pr, cr, br, orr, rfl, _, _, hpr, hcr, _⟩ := hr2.ints
 obtain rfl := hpr (by rw [hrl _ HO.out]; exact hz0)
 have hcr2 : w.cell? ⟨br, orr + j, none⟩ = some (.int .i64 (seatAt b i j)) := by
  rw [hcr j (by rw [hrl _ HO.out]; exact hjz)]
  simp [seatAt, List.getD_eq_getElem?_getD, his, show j < b.seats[i].length by rw [hrl _ HO.out]; exact hjz]
 rw [hrl _ HO.out] at hr1
 have HROW := zH (And.intro hr1 hcr2)
 have hlow : -1 ≤ seatAt b i j := by
  have h1 := seat_low HBK.out his (show j < b.seats[i].length by rw [hrl _ HO.out]; exact hjz)
  simpa [seatAt, List.getD_eq_getElem?_getD, his, show j < b.seats[i].length by rw [hrl _ HO.out]; exact hjz] using h1
 have hx2 : (0 : Int) ≤ (i : Int) ∧ (i : Int) < (b.seats.length : Int) := by omega
 have hx3 : (0 : Int) ≤ (j : Int) ∧ (j : Int) < (z : Int) := by omega
 obtain ⟨y0, hy0⟩ : ∃ y, y = seatAt b i j := ⟨_, rfl⟩
 rw [← hy0] at hlow
 have HY0 := zH hy0
 clear hi0 hi1 hj0 hj1 hr1 hr2 hpr hcr hcr2 hrl hy0
 by_cases hy : 0 < y0
 rotate_left
 ·have HF := zH (show refundE h b i j = 7 by unfold refundE; rw [Q1.out.1, Q1.out.2, ← HY0.out, if_neg (by simp), if_neg (by simp), if_neg hy])
  have hyd : decide (y0 ≤ 0) = true := by simp; omega
  have a1 := (HS.out.trans HT.out).kc HROW.out.1
  have a2 := (HS.out.trans HT.out).kc HROW.out.2
  rw [← HY0.out] at a2
  (try clear e0 e1 e2 e3 e4 f0 f1 f2 f3 f4 f5)
  obtain ⟨e0, e1, e2, e3, e4⟩ := cells5 (HB1.out.step HT.out)
  obtain ⟨f0, f1, f2, f3, f4, f5⟩ := cells6 (HB2.out.step HT.out)
  obtain ⟨g0, g1, g2, g3, g4, g5⟩ := cells6 (HB3.out.step HT.out)
  have t0 := (HB3.out.step HT.out).frozen 0
  have t1 := (HB3.out.step HT.out).frozen 1
  have t2 := (HB3.out.step HT.out).frozen 2
  have t3 := (HB3.out.step HT.out).frozen 3
  have t4 := (HB3.out.step HT.out).frozen 4
  have t5 := (HB3.out.step HT.out).frozen 5
  go_wp2
  have b6 := set6 (HB3.out.step HT.out) (.int .i64 0) (.slice none 0 0) (.slice none 0 0) (.int .i64 0) (.slice none 0 0) (.int .i64 0)
  exact ret_struct2 (k := 6) rfl siRefBook rfl b6.1 rfl rfl (.no (refundD_no HF.out (by simp)) rfl (StepX.fresh (HS.out.trans HT.out) b6.2 (fun j hj => by omega)))
 have HF := zH (show refundE h b i j = 0 by unfold refundE; rw [Q1.out.1, Q1.out.2, ← HY0.out, if_neg (by simp), if_neg (by simp), if_pos hy])
 have hyd : decide (y0 ≤ 0) = false := by simp; omega
 have a1 := (HS.out.trans HT.out).kc HROW.out.1
 have a2 := (HS.out.trans HT.out).kc HROW.out.2
 rw [← HY0.out] at a2
 (try clear e0 e1 e2 e3 e4 f0 f1 f2 f3 f4 f5)
 obtain ⟨e0, e1, e2, e3, e4⟩ := cells5 (HB1.out.step HT.out)
 obtain ⟨f0, f1, f2, f3, f4, f5⟩ := cells6 (HB2.out.step HT.out)
 go_wp2_with fail
 refine (Copy_any S b _ _ ⟨_, rfl, Rep.keep (.of_step HT.out) HQ.out⟩ HTH.out).mono ?_
 rintro e wd ⟨vs, vo, vt, xs, rfl, hD0, hSd⟩
 obtain ⟨⟨pvs, cvs, rfl⟩, ⟨pvo, cvo, rfl⟩, ⟨pvt, cvt, rfl⟩⟩ := hD0.form
 have hTd := HT.out.trans hSd
 have hbase : w.heap.size + 3 ≤ wd.heap.size := by have := hTd.size; have := HZ3.out; omega
 have hbase2 : w.heap.size + 3 ≤ wn.heap.size := by have := HT.out.size; have := HZ3.out; omega
 (try clear e0 e1 e2 e3 e4 f0 f1 f2 f3 f4 f5)
 have hbD := Bx.new wd [.int .i64 b.agency, .slice pvs b.seats.length cvs, .slice pvo b.off.length cvo, .int .i64 b.sent, .slice pvt b.took.length cvt, .int .i64 b.cash] 56
 have hsA := Step.alloc wd (.cells #[.int .i64 b.agency, .slice pvs b.seats.length cvs, .slice pvo b.off.length cvo, .int .i64 b.sent, .slice pvt b.took.length cvt, .int .i64 b.cash] 56)
 have hD1 := (hD0.step hsA).desk (b2 := w.heap.size + 3) hbase2 hbase hbD
 have hT1 := hTd.trans hsA
 obtain ⟨⟨gs, cs, hvs⟩, hforms⟩ := hD1.forms HO.out HZ.out hz0
 injection hvs with hvs1 hvs2 hvs3
 subst hvs1 hvs3
 clear hvs2
 have HFIN := zH (show refundD h b i j = .ok (withCash (putSeat b i j 0) (cashL h (putSeat b i j 0).seats)) by
  rw [refundD_yes HF.out, refundP_cash HO.out HC0.out.2 his (by rw [HRL.out _ HO.out]; exact hjz) (by rw [← HY0.out]; exact hy)])
 clear HF hyd a1 a2
 obtain ⟨hxi, gi, ci, hxv⟩ := hforms i hi
 obtain ⟨mA, mj, zj, _, hgil⟩ := hD1.seat_c his hxi hxv (j := j) (by rw [HRL.out _ HO.out]; exact hjz)
 obtain ⟨_, mB, _, _, _, _⟩ := cells6 hD1.bx
 go_upto_region 7 with (fail)
 have hset := hD1.setSeat (j := j) his hxi (by rw [HRL.out _ HO.out]; exact hxv) (0)
 have hT2 : Step W3 ((wd.alloc (.cells #[.int .i64 b.agency, .slice (some ⟨gs, 0, none⟩) b.seats.length cvs, .slice pvo b.off.length cvo, .int .i64 b.sent, .slice pvt b.took.length cvt, .int .i64 b.cash] 56)).setCell ⟨gi, j, none⟩ (.int .i64 (0))) := hT1.setNew ⟨gi, j, none⟩ _ (by have := hset.2; have := HZ3.out; show W3.heap.size ≤ gi; omega)
 have hD2 := hset.1
 clear hset hD1 hT1 hsA hbD hTd hD0 hSd mA mj zj mB hgil hbase hbase2 HT
 generalize (wd.alloc (.cells #[.int .i64 b.agency, .slice (some ⟨gs, 0, none⟩) b.seats.length cvs, .slice pvo b.off.length cvo, .int .i64 b.sent, .slice pvt b.took.length cvt, .int .i64 b.cash] 56)).setCell ⟨gi, j, none⟩ (.int .i64 (0)) = w2 at *
 generalize wd.heap.size = gb at *
 have HT := zH hT2
 have HD2 := zH hD2
 have HOQ := zH ((like_put b i j (0)).ok HO.out (by have := HO.out.2.2.2.2.2.2.1; omega))
 clear hT2 hD2
 (try clear e0 e1 e2 e3 e4 f0 f1 f2 f3 f4 f5)
 obtain ⟨e0, e1, e2, e3, e4⟩ := cells5 (HB1.out.step HT.out)
 obtain ⟨f0, f1, f2, f3, f4, f5⟩ := cells6 (HB2.out.step HT.out)
 obtain ⟨g0, g1, g2, g3, g4, g5⟩ := cells6 HD2.out.bx
 go_wp2_with fail
 refine (Cash_any (fun _ => False) h (putSeat b i j (0)) _ _ _ ⟨_, rfl, Rep.weak (fun _ _ h => h.elim) (Rep.keep (.of_step HT.out) HR.out)⟩ ⟨_, rfl, HD2.out.book (fun _ _ h => h)⟩ HOK.out (by have := HOQ.out.2.2.1; omega) HOQ.out.2.2.2.1).mono ?_
 rintro e wz ⟨rfl, hSz⟩
 obtain ⟨cc, hcc⟩ : ∃ c, c = cashL h (putSeat b i j (0)).seats := ⟨_, rfl⟩
 rw [← hcc]
 have HCCX := zH hcc
 clear hcc e0 e1 e2 e3 e4 f0 f1 f2 f3 f4 f5 g0 g1 g2 g3 g4 g5
 have hDz := HD2.out.step hSz
 obtain ⟨_, _, _, _, _, g5⟩ := cells6 hDz.bx
 have z5 := hDz.bx.frozen 5
 have hD8 := hDz.setCash cc
 have hT8 : Step W3 (wz.setCell ⟨gb, 5, none⟩ (.int .i64 cc)) := (HT.out.trans hSz).setNew ⟨gb, 5, none⟩ _ (by have := hDz.gb; have := HZ3.out; show W3.heap.size ≤ gb; omega)
 have H8 := zH (And.intro hD8 hT8)
 go_upto_region 8 with (fail)
 clear hDz g5 z5 hD8 hT8 hSz
 generalize wz.setCell ⟨gb, 5, none⟩ (.int .i64 cc) = w8 at *
 obtain ⟨y0', y1', y2', y3', y4', y5'⟩ := cells6 H8.out.1.bx
 have HT := zH H8.out.2
 obtain ⟨g0, g1, g2, g3, g4, g5⟩ := cells6 (HB3.out.step HT.out)
 have t0 := (HB3.out.step HT.out).frozen 0
 have t1 := (HB3.out.step HT.out).frozen 1
 have t2 := (HB3.out.step HT.out).frozen 2
 have t3 := (HB3.out.step HT.out).frozen 3
 have t4 := (HB3.out.step HT.out).frozen 4
 have t5 := (HB3.out.step HT.out).frozen 5
 go_wp2
 have b6 := set6 (HB3.out.step HT.out) (.int .i64 b.agency) (.slice (some ⟨gs, 0, none⟩) b.seats.length cvs) (.slice pvo b.off.length cvo) (.int .i64 b.sent) (.slice pvt b.took.length cvt) (.int .i64 cc)
 refine ret_struct2 (k := 6) rfl siRefBook rfl b6.1 rfl rfl ?_
 unfold RActEnds
 rw [HFIN.out, ← HCCX.out]
 exact ⟨_, rfl, ⟨_, rfl, Rep.weak (S := fun j => j < w.heap.size + 3) (fun j _ hj => by unfold Old at hj; omega) (Rep.keep (b6.2.keeps.mono fun j _ hj => by omega) (H8.out.1.book (fun j h1 h2 => by omega)))⟩, StepX.fresh (HS.out.trans HT.out) b6.2 (fun j hj => by omega)⟩
theorem RSell_any (S : Nat → Prop) (h : House) (b : Book) (v u : Value) (s n y d : Int) (w : World) (hv : AV S w v h) (hu : AV S w u b) (hok : valid h = true) (hbk : bookB h b = true) :
  Calls Tryz.prog 97 #[v, u, .int .i64 s, .int .i64 n, .int .i64 y, .int .i64 d] w (fun e w' => RActEnds (sellD h b s n y d) e w w') := by
 obtain ⟨hO, hcash, hc0, hthin⟩ := okDesk_book hok hbk
 obtain ⟨cs, rfl, hr0⟩ := hv
 have hr := hr0
 obtain ⟨c0, c1, c2, c3, c4, rfl, h0, h1, h2, h3, h4⟩ := hr
 obtain ⟨p0, k0, rfl⟩ := h0.form
 obtain ⟨p1, k1, rfl⟩ := h1.form
 obtain ⟨p2, k2, rfl⟩ := h2.form
 obtain ⟨p3, k3, rfl⟩ := h3.form
 obtain ⟨p4, k4, rfl⟩ := h4.form
 obtain ⟨cs, rfl, hq0⟩ := hu
 have hq := hq0
 obtain ⟨d1, d2, d4, rfl, s1, s2, s4⟩ := hq
 obtain ⟨q1, m1, bs, os, rfl, _, _, hp1, hc1, _⟩ := s1.rows
 obtain ⟨q2, m2, rfl⟩ := s2.form
 obtain ⟨q4, m4, rfl⟩ := s4.form
 have hbv := bounds_valid hok
 obtain ⟨z, hz⟩ : ∃ z : Nat, sizeL h.sectors = z := ⟨(sizeL h.sectors).toNat, by omega⟩
 have hz100 : z ≤ 100 := by omega
 have hz0 : 0 < z := by have := size_pos hok; omega
 obtain ⟨W3, hW3⟩ : ∃ W3, W3 = ((w.alloc (.cells #[.slice p0 h.sectors.length k0, .slice p1 h.prices.length k1, .slice p2 h.dates.length k2, .slice p3 h.frm.length k3, .slice p4 h.holds.length k4] 26)).alloc (.cells #[.int .i64 b.agency, .slice q1 b.seats.length m1, .slice q2 b.off.length m2, .int .i64 b.sent, .slice q4 b.took.length m4, .int .i64 b.cash] 56)).alloc (.cells #[.int .i64 0, .slice none 0 0, .slice none 0 0, .int .i64 0, .slice none 0 0, .int .i64 0] 56) := ⟨_, rfl⟩
 have hbx : Bx W3 w.heap.size [.slice p0 h.sectors.length k0, .slice p1 h.prices.length k1, .slice p2 h.dates.length k2, .slice p3 h.frm.length k3, .slice p4 h.holds.length k4] 26 := by subst hW3; exact ((Bx.new _ _ _).alloc _).alloc _
 have hb2 : Bx W3 (w.heap.size + 1) [.int .i64 b.agency, .slice q1 b.seats.length m1, .slice q2 b.off.length m2, .int .i64 b.sent, .slice q4 b.took.length m4, .int .i64 b.cash] 56 := by subst hW3; exact (Bx.new' _ _ _ _ (by simp)).alloc _
 have hb3 : Bx W3 (w.heap.size + 2) [.int .i64 0, .slice none 0 0, .slice none 0 0, .int .i64 0, .slice none 0 0, .int .i64 0] 56 := by subst hW3; exact Bx.new' _ _ _ _ (by simp)
 have hS : Step w W3 := by subst hW3; exact (by with_reducible repeat (first | assumption | exact Step.refl _ | apply Step.s_alloc | apply Step.s_drew | apply Step.s_drewN | refine Step.trans ?_ (by assumption)))
 have hz3 : W3.heap.size = w.heap.size + 3 := by subst hW3; simp
 have HO := zH hO
 have HC0 := zH (And.intro hc0 hcash)
 have HTH := zH hthin
 have HB1 := zH hbx
 have HB2 := zH hb2
 have HB3 := zH hb3
 have HR := zH (Rep.keep (.of_step hS) hr0)
 have HQ := zH (Rep.keep (.of_step hS) hq0)
 have HSHOW := zH (And.intro h2 (And.intro h3 s2))
 have HS := zH hS
 have HZ3 := zH hz3
 have HZ := zH hz
 have HP1 := zH (And.intro hp1 hc1)
 have HOK := zH hok
 have HBK := zH hbk
 have HBV := zH hbv
 have hn1 : 1 ≤ h.dates.length ∧ h.dates.length ≤ 6 := by omega
 have HT := zH (Step.refl W3)
 have HW := zH hW3
 clear hr0 hq0 h0 h1 h2 h3 h4 s1 s2 s4 hbx hb2 hb3 hS hz3 hz hp1 hc1 hok hbk hbv hW3 hO hcash hc0 hthin
 go_enter Tryz.func97, Tryz.ntmps97
 go_wp2_with fail
 rw [show w.heap.size + 1 + 1 = w.heap.size + 2 from rfl, ← HW.out]
 refine (rseat_any S h _ s n _ ⟨_, rfl, HR.out⟩ HOK.out).mono ?_
 rintro e wn ⟨rfl, hSn⟩
 have HTi := zH (HT.out.trans hSn)
 clear hSn HT
 have HT := HTi
 clear HTi
 cases q1 : seatB h s n with
 | false =>
  have HF := zH ((seatB_no (b := b) q1).1 y d)
  clear q1
  (try clear e0 e1 e2 e3 e4 f0 f1 f2 f3 f4 f5)
  obtain ⟨e0, e1, e2, e3, e4⟩ := cells5 (HB1.out.step HT.out)
  obtain ⟨f0, f1, f2, f3, f4, f5⟩ := cells6 (HB2.out.step HT.out)
  obtain ⟨g0, g1, g2, g3, g4, g5⟩ := cells6 (HB3.out.step HT.out)
  have t0 := (HB3.out.step HT.out).frozen 0
  have t1 := (HB3.out.step HT.out).frozen 1
  have t2 := (HB3.out.step HT.out).frozen 2
  have t3 := (HB3.out.step HT.out).frozen 3
  have t4 := (HB3.out.step HT.out).frozen 4
  have t5 := (HB3.out.step HT.out).frozen 5
  go_wp2
  have b6 := set6 (HB3.out.step HT.out) (.int .i64 0) (.slice none 0 0) (.slice none 0 0) (.int .i64 0) (.slice none 0 0) (.int .i64 0)
  exact ret_struct2 (k := 6) rfl siRefBook rfl b6.1 rfl rfl (.no (sellD_no HF.out (by simp)) rfl (StepX.fresh (HS.out.trans HT.out) b6.2 (fun j hj => by omega)))
 | true =>
 have Q1 := zH (seatB_yes q1)
 clear q1
 go_wp2_with fail
 refine (bigtopref08.In_any _ _ _ _).mono ?_
 rintro e w' ⟨rfl, rfl⟩
 cases q3 : withinB y 1 1000000 with
 | false =>
  have HF := zH (show sellE h b s n y d = 2 by simp [sellE, Q1.out.1, Q1.out.2, q3])
  clear q3
  (try clear e0 e1 e2 e3 e4 f0 f1 f2 f3 f4 f5)
  obtain ⟨e0, e1, e2, e3, e4⟩ := cells5 (HB1.out.step HT.out)
  obtain ⟨f0, f1, f2, f3, f4, f5⟩ := cells6 (HB2.out.step HT.out)
  obtain ⟨g0, g1, g2, g3, g4, g5⟩ := cells6 (HB3.out.step HT.out)
  have t0 := (HB3.out.step HT.out).frozen 0
  have t1 := (HB3.out.step HT.out).frozen 1
  have t2 := (HB3.out.step HT.out).frozen 2
  have t3 := (HB3.out.step HT.out).frozen 3
  have t4 := (HB3.out.step HT.out).frozen 4
  have t5 := (HB3.out.step HT.out).frozen 5
  go_wp2
  have b6 := set6 (HB3.out.step HT.out) (.int .i64 0) (.slice none 0 0) (.slice none 0 0) (.int .i64 0) (.slice none 0 0) (.int .i64 0)
  exact ret_struct2 (k := 6) rfl siRefBook rfl b6.1 rfl rfl (.no (sellD_no HF.out (by simp)) rfl (StepX.fresh (HS.out.trans HT.out) b6.2 (fun j hj => by omega)))
 | true =>
 have Q3 := zH q3
 have hy1 : 0 < y := by simp [withinB] at q3; omega
 clear q3
 obtain ⟨i, rfl, hi0, hi1⟩ := within_nat Q1.out.1 (by omega)
 obtain ⟨j, rfl, hj0, hj1⟩ := within_nat Q1.out.2 (by omega)
 have hi : i < h.dates.length := by omega
 have his : i < b.seats.length := by have := HO.out.2.2.1; omega
 have hjz : j < z := by have := HZ.out; omega
 have hrl : ∀ b', OkDesk h b' → ∀ s (hs : s < b'.seats.length), b'.seats[s].length = z := fun b' hb s hs => by have := hb.2.2.2.1 s hs; have := HZ.out; omega
 have HRL := zH hrl
 obtain rfl := HP1.out.1 (by omega)
 obtain ⟨ur, hr1, hr2⟩ := HP1.out.2 i his
 obtain ⟨pr, cr, br, orr, rfl, _, _, hpr, hcr, _⟩ := hr2.ints
 obtain rfl := hpr (by rw [hrl _ HO.out]; exact hz0)
 have hcr2 : w.cell? ⟨br, orr + j, none⟩ = some (.int .i64 (seatAt b i j)) := by
  rw [hcr j (by rw [hrl _ HO.out]; exact hjz)]
  simp [seatAt, List.getD_eq_getElem?_getD, his, show j < b.seats[i].length by rw [hrl _ HO.out]; exact hjz]
 rw [hrl _ HO.out] at hr1
 have HROW := zH (And.intro hr1 hcr2)
 have hlow : -1 ≤ seatAt b i j := by
  have h1 := seat_low HBK.out his (show j < b.seats[i].length by rw [hrl _ HO.out]; exact hjz)
  simpa [seatAt, List.getD_eq_getElem?_getD, his, show j < b.seats[i].length by rw [hrl _ HO.out]; exact hjz] using h1
 have hx2 : (0 : Int) ≤ (i : Int) ∧ (i : Int) < (b.seats.length : Int) := by omega
 have hx3 : (0 : Int) ≤ (j : Int) ∧ (j : Int) < (z : Int) := by omega
 obtain ⟨y0, hy0⟩ : ∃ y, y = seatAt b i j := ⟨_, rfl⟩
 rw [← hy0] at hlow
 have HY0 := zH hy0
 clear hi0 hi1 hj0 hj1 hr1 hr2 hpr hcr hcr2 hrl hy0
 obtain ⟨bo, oo, ko, bf, of, kf, bg, og, kg, bd, od, kd, ag, ee1, ee2, ee3, hag, m0, m1', m2', m3, hio, hif, hagl⟩ := show_av HSHOW.out.1 HSHOW.out.2.1 HSHOW.out.2.2 HO.out hi
 injection ee1 with ee1a ee1b ee1c
 injection ee2 with ee2a ee2b ee2c
 injection ee3 with ee3a ee3b ee3c
 subst ee1a ee1c ee2a ee2c ee3a ee3c
 have HM := zH (And.intro m0 (And.intro m1' (And.intro m2' m3)))
 have HAG := zH hag
 have hx1 : (0 : Int) ≤ (i : Int) ∧ (i : Int) < (b.off.length : Int) := by omega
 have hx4 : (0 : Int) ≤ (i : Int) ∧ (i : Int) < (h.frm.length : Int) := by omega
 have hx5 : (0 : Int) ≤ (ag : Int) ∧ (ag : Int) < (agN h : Int) := by omega
 have hx6 : (0 : Int) ≤ (i : Int) ∧ (i : Int) < (h.dates.length : Int) := by omega
 clear ee1b ee2b ee3b m0 m1' m2' m3 hag
 have hwq := HT.out
 (try clear e0 e1 e2 e3 e4 f0 f1 f2 f3 f4 f5)
 obtain ⟨e0, e1, e2, e3, e4⟩ := cells5 (HB1.out.step HT.out)
 obtain ⟨f0, f1, f2, f3, f4, f5⟩ := cells6 (HB2.out.step HT.out)
 go_upto_region 3 with (fail)
 refine wp_region_seq (kdOf [] []) [0, 1, 0, 7, 15, 31, 63, 63, 191, 63, 959, 1983, 63, 4159, 16319, 32703, 65535, 131071, 262143] [0, 1, 2, 3, 4, 5, 6, 7, 8, 9, 10, 11, 12, 13, 14, 15, 16, 17, 18] [] (by kernel_rfl) (by kernel_rfl) (fun i T z hi hk => by simp [kdOf] at hk <;> (try (split at hk <;> cases hk))) ?_
 intro Wx hWx
 have HTx := zH (hwq.trans hWx)
 clear hWx hwq HT
 have HT := HTx
 clear HTx
 (try clear e0 e1 e2 e3 e4 f0 f1 f2 f3 f4 f5)
 obtain ⟨e0, e1, e2, e3, e4⟩ := cells5 (HB1.out.step HT.out)
 obtain ⟨f0, f1, f2, f3, f4, f5⟩ := cells6 (HB2.out.step HT.out)
 rw [HAG.out] at f0
 have m0 := (HS.out.trans HT.out).kc HM.out.1
 have m1' := (HS.out.trans HT.out).kc HM.out.2.1
 have m2' := (HS.out.trans HT.out).kc HM.out.2.2.1
 cases q4 : offAt b i with
 | true =>
  rw [q4] at m0
  have HF := zH (show sellE h b i j y d = 8 by simp [sellE, Q1.out.1, Q1.out.2, Q3.out, q4])
  clear q4
  repeat ((first | (refine run_off rfl rfl (by rfl) ?_) | (refine run_chain_off rfl rfl (by rfl) (K0_mono _) ?_) | ((refine run_want rfl rfl (by rfl) ⟨?_, fun W hW => ?_, ?_⟩; rotate_left; (· (have d0 := hW.kc f2; have d1 := hW.kc m0; go_simp; (try with_reducible rfl)))))); (try simp only [Act.put, zA, zB, zC]))
  refine run_end (L := []) rfl (fun W6 hW6 => ?_)
  have HT6 := zH (HT.out.trans hW6)
  clear hW6 HT
  have HT := HT6
  clear HT6
  (try clear e0 e1 e2 e3 e4 f0 f1 f2 f3 f4 f5)
  obtain ⟨e0, e1, e2, e3, e4⟩ := cells5 (HB1.out.step HT.out)
  obtain ⟨f0, f1, f2, f3, f4, f5⟩ := cells6 (HB2.out.step HT.out)
  obtain ⟨g0, g1, g2, g3, g4, g5⟩ := cells6 (HB3.out.step HT.out)
  have t0 := (HB3.out.step HT.out).frozen 0
  have t1 := (HB3.out.step HT.out).frozen 1
  have t2 := (HB3.out.step HT.out).frozen 2
  have t3 := (HB3.out.step HT.out).frozen 3
  have t4 := (HB3.out.step HT.out).frozen 4
  have t5 := (HB3.out.step HT.out).frozen 5
  go_wp2
  have b6 := set6 (HB3.out.step HT.out) (.int .i64 0) (.slice none 0 0) (.slice none 0 0) (.int .i64 0) (.slice none 0 0) (.int .i64 0)
  exact ret_struct2 (k := 6) rfl siRefBook rfl b6.1 rfl rfl (.no (sellD_no HF.out (by simp)) rfl (StepX.fresh (HS.out.trans HT.out) b6.2 (fun j hj => by omega)))
 | false =>
 rw [q4] at m0
 obtain ⟨fr, hfr⟩ : ∃ x, x = fromAt h i b.agency := ⟨_, rfl⟩
 rw [← hfr] at m2'
 by_cases q5 : d < fr
 ·have HF := zH (show sellE h b i j y d = 8 by rw [sellE_1 Q1.out.1 Q1.out.2 Q3.out q4, ← hfr, if_pos q5])
  have hd : decide (d < fr) = true := by simpa using q5
  clear hfr q4
  repeat ((first | (refine run_off rfl rfl (by rfl) ?_) | (refine run_chain_off rfl rfl (by rfl) (K0_mono _) ?_) | ((refine run_want rfl rfl (by rfl) ⟨?_, fun W hW => ?_, ?_⟩; rotate_left; (· (have d0 := hW.kc f2; have d1 := hW.kc m0; have d2 := hW.kc e3; have d3 := hW.kc m1'; have d4 := hW.kc f0; have d5 := hW.kc m2'; go_simp; (try with_reducible rfl)))))); (try simp only [Act.put, zA, zB, zC]))
  refine run_end (L := []) rfl (fun W6 hW6 => ?_)
  have HT6 := zH (HT.out.trans hW6)
  clear hW6 HT
  have HT := HT6
  clear HT6
  (try clear e0 e1 e2 e3 e4 f0 f1 f2 f3 f4 f5)
  obtain ⟨e0, e1, e2, e3, e4⟩ := cells5 (HB1.out.step HT.out)
  obtain ⟨f0, f1, f2, f3, f4, f5⟩ := cells6 (HB2.out.step HT.out)
  obtain ⟨g0, g1, g2, g3, g4, g5⟩ := cells6 (HB3.out.step HT.out)
  have t0 := (HB3.out.step HT.out).frozen 0
  have t1 := (HB3.out.step HT.out).frozen 1
  have t2 := (HB3.out.step HT.out).frozen 2
  have t3 := (HB3.out.step HT.out).frozen 3
  have t4 := (HB3.out.step HT.out).frozen 4
  have t5 := (HB3.out.step HT.out).frozen 5
  go_wp2
  have b6 := set6 (HB3.out.step HT.out) (.int .i64 0) (.slice none 0 0) (.slice none 0 0) (.int .i64 0) (.slice none 0 0) (.int .i64 0)
  exact ret_struct2 (k := 6) rfl siRefBook rfl b6.1 rfl rfl (.no (sellD_no HF.out (by simp)) rfl (StepX.fresh (HS.out.trans HT.out) b6.2 (fun j hj => by omega)))
 have HE := zH (show sellE h b i j y d = if dateAt h i < d then 11 else if seatAt b i j = -1 then 7 else if 0 < seatAt b i j then 6 else 0 by rw [sellE_1 Q1.out.1 Q1.out.2 Q3.out q4, ← hfr, if_neg q5])
 have hd : decide (d < fr) = false := by simpa using q5
 clear hfr q4
 repeat ((first | (refine run_off rfl rfl (by rfl) ?_) | (refine run_chain_off rfl rfl (by rfl) (K0_mono _) ?_) | ((refine run_want rfl rfl (by rfl) ⟨?_, fun W hW => ?_, ?_⟩; rotate_left; (· (have d0 := hW.kc f2; have d1 := hW.kc m0; have d2 := hW.kc e3; have d3 := hW.kc m1'; have d4 := hW.kc f0; have d5 := hW.kc m2'; go_simp; (try with_reducible rfl)))))); (try simp only [Act.put, zA, zB, zC]))
 refine run_end (L := []) rfl (fun W6 hW6 => ?_)
 have HT6 := zH (HT.out.trans hW6)
 clear hW6 HT
 have HT := HT6
 clear HT6
 clear hd q5 m0 m1' m2' e0 e1 e2 e3 e4 f0 f1 f2 f3 f4 f5
 have m3 := (HS.out.trans HT.out).kc HM.out.2.2.2
 obtain ⟨dt, hdt⟩ : ∃ x, x = dateAt h i := ⟨_, rfl⟩
 rw [← hdt] at m3
 by_cases q6 : dt < d
 ·have HF := zH (show sellE h b i j y d = 11 by rw [HE.out, ← hdt, if_pos q6])
  clear hdt
  (try clear e0 e1 e2 e3 e4 f0 f1 f2 f3 f4 f5)
  obtain ⟨e0, e1, e2, e3, e4⟩ := cells5 (HB1.out.step HT.out)
  obtain ⟨f0, f1, f2, f3, f4, f5⟩ := cells6 (HB2.out.step HT.out)
  obtain ⟨g0, g1, g2, g3, g4, g5⟩ := cells6 (HB3.out.step HT.out)
  have t0 := (HB3.out.step HT.out).frozen 0
  have t1 := (HB3.out.step HT.out).frozen 1
  have t2 := (HB3.out.step HT.out).frozen 2
  have t3 := (HB3.out.step HT.out).frozen 3
  have t4 := (HB3.out.step HT.out).frozen 4
  have t5 := (HB3.out.step HT.out).frozen 5
  go_wp2
  have b6 := set6 (HB3.out.step HT.out) (.int .i64 0) (.slice none 0 0) (.slice none 0 0) (.int .i64 0) (.slice none 0 0) (.int .i64 0)
  exact ret_struct2 (k := 6) rfl siRefBook rfl b6.1 rfl rfl (.no (sellD_no HF.out (by simp)) rfl (StepX.fresh (HS.out.trans HT.out) b6.2 (fun j hj => by omega)))
 have HE2 := zH (show sellE h b i j y d = if seatAt b i j = -1 then 7 else if 0 < seatAt b i j then 6 else 0 by rw [HE.out, ← hdt, if_neg q6])
 clear hdt
 have a1 := (HS.out.trans HT.out).kc HROW.out.1
 have a2 := (HS.out.trans HT.out).kc HROW.out.2
 rw [← HY0.out] at a2
 by_cases q7 : y0 < 0
 ·have HF := zH (show sellE h b i j y d = 7 by rw [HE2.out, ← HY0.out, if_pos (by omega)])
  (try clear e0 e1 e2 e3 e4 f0 f1 f2 f3 f4 f5)
  obtain ⟨e0, e1, e2, e3, e4⟩ := cells5 (HB1.out.step HT.out)
  obtain ⟨f0, f1, f2, f3, f4, f5⟩ := cells6 (HB2.out.step HT.out)
  obtain ⟨g0, g1, g2, g3, g4, g5⟩ := cells6 (HB3.out.step HT.out)
  have t0 := (HB3.out.step HT.out).frozen 0
  have t1 := (HB3.out.step HT.out).frozen 1
  have t2 := (HB3.out.step HT.out).frozen 2
  have t3 := (HB3.out.step HT.out).frozen 3
  have t4 := (HB3.out.step HT.out).frozen 4
  have t5 := (HB3.out.step HT.out).frozen 5
  go_wp2
  have b6 := set6 (HB3.out.step HT.out) (.int .i64 0) (.slice none 0 0) (.slice none 0 0) (.int .i64 0) (.slice none 0 0) (.int .i64 0)
  exact ret_struct2 (k := 6) rfl siRefBook rfl b6.1 rfl rfl (.no (sellD_no HF.out (by simp)) rfl (StepX.fresh (HS.out.trans HT.out) b6.2 (fun j hj => by omega)))
 by_cases q8 : 0 < y0
 ·have HF := zH (show sellE h b i j y d = 6 by rw [HE2.out, ← HY0.out, if_neg (by omega), if_pos q8])
  (try clear e0 e1 e2 e3 e4 f0 f1 f2 f3 f4 f5)
  obtain ⟨e0, e1, e2, e3, e4⟩ := cells5 (HB1.out.step HT.out)
  obtain ⟨f0, f1, f2, f3, f4, f5⟩ := cells6 (HB2.out.step HT.out)
  obtain ⟨g0, g1, g2, g3, g4, g5⟩ := cells6 (HB3.out.step HT.out)
  have t0 := (HB3.out.step HT.out).frozen 0
  have t1 := (HB3.out.step HT.out).frozen 1
  have t2 := (HB3.out.step HT.out).frozen 2
  have t3 := (HB3.out.step HT.out).frozen 3
  have t4 := (HB3.out.step HT.out).frozen 4
  have t5 := (HB3.out.step HT.out).frozen 5
  go_wp2
  have b6 := set6 (HB3.out.step HT.out) (.int .i64 0) (.slice none 0 0) (.slice none 0 0) (.int .i64 0) (.slice none 0 0) (.int .i64 0)
  exact ret_struct2 (k := 6) rfl siRefBook rfl b6.1 rfl rfl (.no (sellD_no HF.out (by simp)) rfl (StepX.fresh (HS.out.trans HT.out) b6.2 (fun j hj => by omega)))
 have HF := zH (show sellE h b i j y d = 0 by rw [HE2.out, ← HY0.out, if_neg (by omega), if_neg q8])
 obtain ⟨wn2, hwn2⟩ : ∃ W, W = W6 := ⟨_, rfl⟩
 subst hwn2
 (try clear e0 e1 e2 e3 e4 f0 f1 f2 f3 f4 f5)
 obtain ⟨e0, e1, e2, e3, e4⟩ := cells5 (HB1.out.step HT.out)
 obtain ⟨f0, f1, f2, f3, f4, f5⟩ := cells6 (HB2.out.step HT.out)
 go_wp2_with fail
 refine (Copy_any S b _ _ ⟨_, rfl, Rep.keep (.of_step HT.out) HQ.out⟩ HTH.out).mono ?_
 rintro e wd ⟨vs, vo, vt, xs, rfl, hD0, hSd⟩
 obtain ⟨⟨pvs, cvs, rfl⟩, ⟨pvo, cvo, rfl⟩, ⟨pvt, cvt, rfl⟩⟩ := hD0.form
 have hTd := HT.out.trans hSd
 have hbase : w.heap.size + 3 ≤ wd.heap.size := by have := hTd.size; have := HZ3.out; omega
 have hbase2 : w.heap.size + 3 ≤ wn2.heap.size := by have := HT.out.size; have := HZ3.out; omega
 (try clear e0 e1 e2 e3 e4 f0 f1 f2 f3 f4 f5)
 have hbD := Bx.new wd [.int .i64 b.agency, .slice pvs b.seats.length cvs, .slice pvo b.off.length cvo, .int .i64 b.sent, .slice pvt b.took.length cvt, .int .i64 b.cash] 56
 have hsA := Step.alloc wd (.cells #[.int .i64 b.agency, .slice pvs b.seats.length cvs, .slice pvo b.off.length cvo, .int .i64 b.sent, .slice pvt b.took.length cvt, .int .i64 b.cash] 56)
 have hD1 := (hD0.step hsA).desk (b2 := w.heap.size + 3) hbase2 hbase hbD
 have hT1 := hTd.trans hsA
 obtain ⟨⟨gs, cs, hvs⟩, hforms⟩ := hD1.forms HO.out HZ.out hz0
 injection hvs with hvs1 hvs2 hvs3
 subst hvs1 hvs3
 clear hvs2
 have HFIN := zH (show sellD h b i j y d = .ok (withCash (putSeat b i j y) (cashL h (putSeat b i j y).seats)) by
  rw [sellD_yes HF.out, sellP_cash HO.out HC0.out.2 his (by rw [HRL.out _ HO.out]; exact hjz) hy1 (by rw [← HY0.out]; omega)])
 clear HF HE HE2 a1 a2 m3
 obtain ⟨hxi, gi, ci, hxv⟩ := hforms i hi
 obtain ⟨mA, mj, zj, _, hgil⟩ := hD1.seat_c his hxi hxv (j := j) (by rw [HRL.out _ HO.out]; exact hjz)
 obtain ⟨_, mB, _, _, _, _⟩ := cells6 hD1.bx
 go_upto_region 13 with (fail)
 have hset := hD1.setSeat (j := j) his hxi (by rw [HRL.out _ HO.out]; exact hxv) (y)
 have hT2 : Step W3 ((wd.alloc (.cells #[.int .i64 b.agency, .slice (some ⟨gs, 0, none⟩) b.seats.length cvs, .slice pvo b.off.length cvo, .int .i64 b.sent, .slice pvt b.took.length cvt, .int .i64 b.cash] 56)).setCell ⟨gi, j, none⟩ (.int .i64 (y))) := hT1.setNew ⟨gi, j, none⟩ _ (by have := hset.2; have := HZ3.out; show W3.heap.size ≤ gi; omega)
 have hD2 := hset.1
 clear hset hD1 hT1 hsA hbD hTd hD0 hSd mA mj zj mB hgil hbase hbase2 HT
 generalize (wd.alloc (.cells #[.int .i64 b.agency, .slice (some ⟨gs, 0, none⟩) b.seats.length cvs, .slice pvo b.off.length cvo, .int .i64 b.sent, .slice pvt b.took.length cvt, .int .i64 b.cash] 56)).setCell ⟨gi, j, none⟩ (.int .i64 (y)) = w2 at *
 generalize wd.heap.size = gb at *
 have HT := zH hT2
 have HD2 := zH hD2
 have HOQ := zH ((like_put b i j (y)).ok HO.out (by have := HO.out.2.2.2.2.2.2.1; omega))
 clear hT2 hD2
 (try clear e0 e1 e2 e3 e4 f0 f1 f2 f3 f4 f5)
 obtain ⟨e0, e1, e2, e3, e4⟩ := cells5 (HB1.out.step HT.out)
 obtain ⟨f0, f1, f2, f3, f4, f5⟩ := cells6 (HB2.out.step HT.out)
 obtain ⟨g0, g1, g2, g3, g4, g5⟩ := cells6 HD2.out.bx
 go_wp2_with fail
 refine (Cash_any (fun _ => False) h (putSeat b i j (y)) _ _ _ ⟨_, rfl, Rep.weak (fun _ _ h => h.elim) (Rep.keep (.of_step HT.out) HR.out)⟩ ⟨_, rfl, HD2.out.book (fun _ _ h => h)⟩ HOK.out (by have := HOQ.out.2.2.1; omega) HOQ.out.2.2.2.1).mono ?_
 rintro e wz ⟨rfl, hSz⟩
 obtain ⟨cc, hcc⟩ : ∃ c, c = cashL h (putSeat b i j (y)).seats := ⟨_, rfl⟩
 rw [← hcc]
 have HCCX := zH hcc
 clear hcc e0 e1 e2 e3 e4 f0 f1 f2 f3 f4 f5 g0 g1 g2 g3 g4 g5
 have hDz := HD2.out.step hSz
 obtain ⟨_, _, _, _, _, g5⟩ := cells6 hDz.bx
 have z5 := hDz.bx.frozen 5
 have hD8 := hDz.setCash cc
 have hT8 : Step W3 (wz.setCell ⟨gb, 5, none⟩ (.int .i64 cc)) := (HT.out.trans hSz).setNew ⟨gb, 5, none⟩ _ (by have := hDz.gb; have := HZ3.out; show W3.heap.size ≤ gb; omega)
 have H8 := zH (And.intro hD8 hT8)
 go_upto_region 14 with (fail)
 clear hDz g5 z5 hD8 hT8 hSz
 generalize wz.setCell ⟨gb, 5, none⟩ (.int .i64 cc) = w8 at *
 obtain ⟨y0', y1', y2', y3', y4', y5'⟩ := cells6 H8.out.1.bx
 have HT := zH H8.out.2
 obtain ⟨g0, g1, g2, g3, g4, g5⟩ := cells6 (HB3.out.step HT.out)
 have t0 := (HB3.out.step HT.out).frozen 0
 have t1 := (HB3.out.step HT.out).frozen 1
 have t2 := (HB3.out.step HT.out).frozen 2
 have t3 := (HB3.out.step HT.out).frozen 3
 have t4 := (HB3.out.step HT.out).frozen 4
 have t5 := (HB3.out.step HT.out).frozen 5
 go_wp2
 have b6 := set6 (HB3.out.step HT.out) (.int .i64 b.agency) (.slice (some ⟨gs, 0, none⟩) b.seats.length cvs) (.slice pvo b.off.length cvo) (.int .i64 b.sent) (.slice pvt b.took.length cvt) (.int .i64 cc)
 refine ret_struct2 (k := 6) rfl siRefBook rfl b6.1 rfl rfl ?_
 unfold RActEnds
 rw [HFIN.out, ← HCCX.out]
 exact ⟨_, rfl, ⟨_, rfl, Rep.weak (S := fun j => j < w.heap.size + 3) (fun j _ hj => by unfold Old at hj; omega) (Rep.keep (b6.2.keeps.mono fun j _ hj => by omega) (H8.out.1.book (fun j h1 h2 => by omega)))⟩, StepX.fresh (HS.out.trans HT.out) b6.2 (fun j hj => by omega)⟩
def NoZero {α : Type} (r : Except Int α) : Prop := ∀ c, r = .error c → c ≠ 0
theorem nz_of {α : Type} {c : Int} {y : α} : NoZero (if c = 0 then .ok y else .error c : Except Int α) := by
 intro d hd
 split at hd
 ·cases hd
 ·rename_i hne
  injection hd with hd
  exact hd ▸ hne
theorem nz_sell (h : House) (b : Book) (s n y d : Int) : NoZero (sellD h b s n y d) := nz_of
theorem nz_refund (h : House) (b : Book) (s n : Int) : NoZero (refundD h b s n) := nz_of
theorem nz_give (h : House) (b : Book) (t s : Int) (l : List Int) : NoZero (giveD h b t s l) := nz_of
theorem nz_take (h : House) (b : Book) (m : BT.Message) : NoZero (takeD h b m) := nz_of
theorem nz_lose (h : House) (b : Book) (s d : Int) : NoZero (loseD h b s d) := nz_of
theorem nz_book {α : Type} {r : Except Int (Book × α)} (h : NoZero r) : NoZero (bookOf r) := by
 intro c hc
 cases r with
 | ok p => cases hc
 | error d => injection hc with hc; exact hc ▸ h d rfl
theorem act_two {r : Except Int Book} (hn : NoZero r) : (∃ b, r = .ok b ∧ actR r = (b, 0)) ∨ (∃ c, r = .error c ∧ c ≠ 0 ∧ actR r = (noBook, c)) := by
 cases r with
 | ok b => exact .inl ⟨b, rfl, rfl⟩
 | error c => exact .inr ⟨c, rfl, hn c rfl, rfl⟩
theorem av0 {α : Type} [Rep α] {S : Nat → Prop} {w : World} {v : Value} {x : α} (h : AV S w v x) : AV (fun _ => False) w v x := h.weak fun _ _ h => h.elim
theorem sle_bx {α : Type} [Rep α] {S : Nat → Prop} {w : World} {g : Nat} {cs : List Value} {T : TypeId} {x : α} (hb : Bx w g cs T) (hr : Rep.rep S w cs x) : SLe S w (.slice (some ⟨g, 0, none⟩) 1 1) [x] := by
 refine ⟨_, 1, g, 0, rfl, Nat.le_refl _, by simp, fun _ => rfl, fun i hi => ?_⟩
 obtain rfl : i = 0 := by simpa using hi
 refine ⟨cs, hr, fun j u hj => ?_⟩
 simp only [Nat.zero_mul, Nat.zero_add]
 rw [hb.cell j]
 exact hj
theorem infoRefMess : (Tryz.prog.info? 58).map (fun i => (i.zero, i.size, i.bytes)) = some (some (.agg #[.int .i64 0, .int .i64 0, .int .i64 0, .int .i64 0, .slice none 0 0]), 5, 56) := by kernel_rfl
theorem eiRefMess : EI Tryz.prog 47 58 (.agg #[.int .i64 0, .int .i64 0, .int .i64 0, .int .i64 0, .slice none 0 0]) 5 56 := .mk' Tryz.underlying47 infoRefMess rfl
theorem cells9 {w : World} {g : Nat} {c0 c1 c2 c3 c4 c5 c6 c7 c8 : Value} {T : TypeId} (h : Bx w g [c0, c1, c2, c3, c4, c5, c6, c7, c8] T) :
  w.cell? ⟨g, 0, none⟩ = some c0 ∧ w.cell? ⟨g, 1, none⟩ = some c1 ∧ w.cell? ⟨g, 2, none⟩ = some c2 ∧ w.cell? ⟨g, 3, none⟩ = some c3 ∧ w.cell? ⟨g, 4, none⟩ = some c4 ∧ w.cell? ⟨g, 5, none⟩ = some c5 ∧ w.cell? ⟨g, 6, none⟩ = some c6 ∧ w.cell? ⟨g, 7, none⟩ = some c7 ∧ w.cell? ⟨g, 8, none⟩ = some c8 :=
 ⟨h.cell 0, h.cell 1, h.cell 2, h.cell 3, h.cell 4, h.cell 5, h.cell 6, h.cell 7, h.cell 8⟩
theorem RDo_own (S S1 S2 : Nat → Prop) (h : House) (W : Wd) (x : ActT) (v u y : Value) (w : World) (hv : AV S1 w v h) (hu : WO S w u W) (hx : AV S2 w y x) (hSl : ∀ j, S j → j < w.heap.size) (hok : valid h = true) (hwd : WdOk h W) (hsl : x.seats.length ≤ 1000000) (hml : W.msgs.length ≤ 1000) :
  Calls Tryz.prog 51 #[v, u, y] w fun e w' => ∃ v', e = .returned (.tuple #[v', .int .i64 (actD h W x).2]) ∧ WO S w' v' (actD h W x).1 ∧ Step w w' := by
 obtain ⟨c0, c1, c2, c3, c4, rfl, h0, h1, h2, h3, h4⟩ := hv.house
 obtain ⟨p0, k0, rfl⟩ := h0.form
 obtain ⟨p1, k1, rfl⟩ := h1.form
 obtain ⟨p2, k2, rfl⟩ := h2.form
 obtain ⟨p3, k3, rfl⟩ := h3.form
 obtain ⟨p4, k4, rfl⟩ := h4.form
 obtain ⟨b0, b1, rfl, oo⟩ := hu
 have s0 := oo.sl.1
 have s1 := oo.sl.2
 obtain ⟨qb, nb, rfl⟩ := s0.form
 obtain ⟨qm, nm, rfl⟩ := s1.form
 obtain ⟨c8, rfl, s8, hk0, hk1⟩ := hx.act
 obtain ⟨p8, k8, rfl⟩ := s8.form
 obtain ⟨W0, hW0⟩ : ∃ W0, W0 = (((w.alloc (.cells #[.slice p0 h.sectors.length k0, .slice p1 h.prices.length k1, .slice p2 h.dates.length k2, .slice p3 h.frm.length k3, .slice p4 h.holds.length k4] 26)).alloc (.cells #[.slice qb W.books.length nb, .slice qm W.msgs.length nm] 49)).alloc (.cells #[.int .u8 x.kind, .int .i64 x.agency, .int .i64 x.shw, .int .i64 x.seat, .int .i64 x.buyer, .int .i64 x.day, .int .i64 x.dst, .int .i64 x.msg, .slice p8 x.seats.length k8] 105)).alloc (.cells #[.slice none 0 0, .slice none 0 0] 49) := ⟨_, rfl⟩
 have hS : Step w W0 := by subst hW0; exact (by with_reducible repeat (first | assumption | exact Step.refl _ | apply Step.s_alloc | apply Step.s_drew | apply Step.s_drewN | refine Step.trans ?_ (by assumption)))
 have hb0 : Bx W0 w.heap.size [.slice p0 h.sectors.length k0, .slice p1 h.prices.length k1, .slice p2 h.dates.length k2, .slice p3 h.frm.length k3, .slice p4 h.holds.length k4] 26 := by subst hW0; exact (((Bx.new _ [_, _, _, _, _] _).alloc _).alloc _).alloc _
 have hb1 : Bx W0 (w.heap.size + 1) [.slice qb W.books.length nb, .slice qm W.msgs.length nm] 49 := by subst hW0; exact ((Bx.new' _ [_, _] _ _ (by simp)).alloc _).alloc _
 have hb2 : Bx W0 (w.heap.size + 2) [.int .u8 x.kind, .int .i64 x.agency, .int .i64 x.shw, .int .i64 x.seat, .int .i64 x.buyer, .int .i64 x.day, .int .i64 x.dst, .int .i64 x.msg, .slice p8 x.seats.length k8] 105 := by subst hW0; exact (Bx.new' _ [_, _, _, _, _, _, _, _, _] _ _ (by simp)).alloc _
 have hb3 : Bx W0 (w.heap.size + 3) [.slice none 0 0, .slice none 0 0] 49 := by subst hW0; exact Bx.new' _ [_, _] _ _ (by simp)
 have hz0 : W0.heap.size = w.heap.size + 4 := by subst hW0; simp
 have hweak : ∀ j, j < w.heap.size → (S j ∨ w.heap.size ≤ j) → S j := fun j hj hs => hs.elim id (fun e => by omega)
 have HH := zH ((av0 hv).keep (.of_step hS))
 have HWB := zH ((s0.weak hweak).keep (.of_step hS))
 have HWM := zH ((s1.weak hweak).keep (.of_step hS))
 have HOO := zH ((oo.weak hweak).keep (.of_step hS))
 have HXS := zH ((s8.weak (T := fun _ => False) fun _ _ h => h.elim).keep (.of_step hS))
 have HS := zH hS
 have HB0 := zH hb0
 have HB1 := zH hb1
 have HB2 := zH hb2
 have HB3 := zH hb3
 have HZ := zH hz0
 have HSL := zH hSl
 have HW := zH hW0
 have BD := zH (bounds_valid hok)
 have HV := zH (And.intro hok (And.intro hwd (And.intro hsl hml)))
 have HT0 := zH (Step.refl W0)
 have hbl : W.books.length ≤ 6 := by have := hwd.len; have := BD.out; omega
 have hbl1 : 1 ≤ W.books.length := by have := hwd.len; have := BD.out; omega
 have hml2 : W.msgs.length ≤ 1000 := hml
 clear hv oo hx hSl hS hb0 hb1 hb2 hb3 hz0 hW0 hok hwd hsl hml h0 h1 h2 h3 h4 s0 s1 s8 hweak
 go_enter Tryz.func51, Tryz.ntmps51
 go_upto_region 1 with (fail)
 rw [← HW.out]
 clear HW
 by_cases hkb : x.kind < 1 ∨ 5 < x.kind
 ·have HE := zH (actD_err (h := h) (actE_kind (w := W) hkb) (by decide))
  have HT := HT0
  (try clear e0 e1 e2 e3 e4)
  (try clear u0 u1)
  (try clear a0 a1 a2 a3 a4 a5 a6 a7 a8)
  obtain ⟨e0, e1, e2, e3, e4⟩ := cells5 (HB0.out.step HT.out)
  obtain ⟨a0, a1, a2, a3, a4, a5, a6, a7, a8⟩ := cells9 (HB2.out.step HT.out)
  obtain ⟨u0, u1⟩ : _ ∧ _ := ⟨(HB1.out.step HT.out).cell 0, (HB1.out.step HT.out).cell 1⟩
  simp only [zD, zE] at u0 u1
  by_cases hka : x.kind < 1
  ·have d1 : decide (x.kind < 1) = true := decide_eq_true hka
   clear hkb hka hk0 hk1
   go_upto_region 2 with (fail)
   have t0 := (HB3.out.step HT.out).cell 0
   have t1 := (HB3.out.step HT.out).cell 1
   have tf0 := (HB3.out.step HT.out).frozen 0
   have tf1 := (HB3.out.step HT.out).frozen 1
   simp only [zD, zE] at t0 t1
   go_wp2
   have b2 := set2r (HB3.out.step HT.out) (.slice (qb) W.books.length nb) (.slice (qm) W.msgs.length nm)
   refine ret_struct2 (k := 2) rfl siRefWorld rfl b2.1 rfl rfl ?_
   rw [HE.out]
   have hk2 := b2.2.keeps.mono (T := fun j => S j ∨ w.heap.size ≤ j) fun j _ e => .inr (by omega)
   exact ⟨_, rfl, ⟨_, _, rfl, ((HOO.out.keep (.of_step HT.out)).keep hk2).weak (fun _ _ h => .inl h)⟩, StepX.fresh (HS.out.trans HT.out) b2.2 (fun j hj => by omega)⟩
  ·have d1 : decide (x.kind < 1) = false := decide_eq_false hka
   have d2 : decide (5 < x.kind) = true := decide_eq_true (by omega)
   clear hkb hka hk0 hk1
   go_upto_region 2 with (fail)
   have t0 := (HB3.out.step HT.out).cell 0
   have t1 := (HB3.out.step HT.out).cell 1
   have tf0 := (HB3.out.step HT.out).frozen 0
   have tf1 := (HB3.out.step HT.out).frozen 1
   simp only [zD, zE] at t0 t1
   go_wp2
   have b2 := set2r (HB3.out.step HT.out) (.slice (qb) W.books.length nb) (.slice (qm) W.msgs.length nm)
   refine ret_struct2 (k := 2) rfl siRefWorld rfl b2.1 rfl rfl ?_
   rw [HE.out]
   have hk2 := b2.2.keeps.mono (T := fun j => S j ∨ w.heap.size ≤ j) fun j _ e => .inr (by omega)
   exact ⟨_, rfl, ⟨_, _, rfl, ((HOO.out.keep (.of_step HT.out)).keep hk2).weak (fun _ _ h => .inl h)⟩, StepX.fresh (HS.out.trans HT.out) b2.2 (fun j hj => by omega)⟩
 have d1 : decide (x.kind < 1) = false := decide_eq_false (by omega)
 have d2 : decide (5 < x.kind) = false := decide_eq_false (by omega)
 have HK := zH hkb
 have hkl : 1 ≤ x.kind ∧ x.kind ≤ 5 := by omega
 have HKL := zH hkl
 clear hkb hk0 hk1 hkl
 (try clear e0 e1 e2 e3 e4)
 (try clear u0 u1)
 (try clear a0 a1 a2 a3 a4 a5 a6 a7 a8)
 obtain ⟨e0, e1, e2, e3, e4⟩ := cells5 (HB0.out.step HT0.out)
 obtain ⟨a0, a1, a2, a3, a4, a5, a6, a7, a8⟩ := cells9 (HB2.out.step HT0.out)
 obtain ⟨u0, u1⟩ : _ ∧ _ := ⟨(HB1.out.step HT0.out).cell 0, (HB1.out.step HT0.out).cell 1⟩
 simp only [zD, zE] at u0 u1
 have hl1 : IntKind.i64.wrap ((W.books.length : Int) - 1) = (W.books.length : Int) - 1 := by rw [IntKind.wrap_i64]; omega
 have hl2 : IntKind.i64.wrap ((W.msgs.length : Int) - 1) = (W.msgs.length : Int) - 1 := by rw [IntKind.wrap_i64]; omega
 go_wp2_with fail
 refine (bigtopref08.In_any _ _ _ _).mono ?_
 rintro e w' ⟨rfl, rfl⟩
 cases qa : withinB x.agency 0 ((W.books.length : Int) - 1) with
 | false =>
  have HE := zH (actD_err (h := h) (actE_agency HK.out qa) (by decide))
  clear qa d1 d2 hl1 hl2
  go_upto_region 4 with (fail)
  have HT := HT0
  have t0 := (HB3.out.step HT.out).cell 0
  have t1 := (HB3.out.step HT.out).cell 1
  have tf0 := (HB3.out.step HT.out).frozen 0
  have tf1 := (HB3.out.step HT.out).frozen 1
  simp only [zD, zE] at t0 t1
  go_wp2
  have b2 := set2r (HB3.out.step HT.out) (.slice (qb) W.books.length nb) (.slice (qm) W.msgs.length nm)
  refine ret_struct2 (k := 2) rfl siRefWorld rfl b2.1 rfl rfl ?_
  rw [HE.out]
  have hk2 := b2.2.keeps.mono (T := fun j => S j ∨ w.heap.size ≤ j) fun j _ e => .inr (by omega)
  exact ⟨_, rfl, ⟨_, _, rfl, ((HOO.out.keep (.of_step HT.out)).keep hk2).weak (fun _ _ h => .inl h)⟩, StepX.fresh (HS.out.trans HT.out) b2.2 (fun j hj => by omega)⟩
 | true =>
 obtain ⟨i, hia, hi⟩ := nat_of qa
 have hib : i < W.books.length := by omega
 have HQA := zH qa
 have HIA := zH hia
 clear qa hia hi
 by_cases k4 : x.kind = 4
 ·have d4 : (x.kind == 4) = true := by simp [k4]
  go_wp2_with fail
  refine (bigtopref08.In_any _ _ _ _).mono ?_
  rintro e w' ⟨rfl, rfl⟩
  cases qmm : withinB x.msg 0 ((W.msgs.length : Int) - 1) with
  | false =>
   have HE := zH (actD_err (h := h) (actE_mess HK.out HQA.out ⟨k4, qmm⟩) (by decide))
   clear qmm d1 d2 d4 hl1 hl2
   go_upto_region 4 with (fail)
   have HT := HT0
   have t0 := (HB3.out.step HT.out).cell 0
   have t1 := (HB3.out.step HT.out).cell 1
   have tf0 := (HB3.out.step HT.out).frozen 0
   have tf1 := (HB3.out.step HT.out).frozen 1
   simp only [zD, zE] at t0 t1
   go_wp2
   have b2 := set2r (HB3.out.step HT.out) (.slice (qb) W.books.length nb) (.slice (qm) W.msgs.length nm)
   refine ret_struct2 (k := 2) rfl siRefWorld rfl b2.1 rfl rfl ?_
   rw [HE.out]
   have hk2 := b2.2.keeps.mono (T := fun j => S j ∨ w.heap.size ≤ j) fun j _ e => .inr (by omega)
   exact ⟨_, rfl, ⟨_, _, rfl, ((HOO.out.keep (.of_step HT.out)).keep hk2).weak (fun _ _ h => .inl h)⟩, StepX.fresh (HS.out.trans HT.out) b2.2 (fun j hj => by omega)⟩
  | true =>
  have HE0 := zH (actE_zero HK.out HQA.out fun _ => qmm)
  obtain ⟨k, hmk, hkb⟩ := nat_of qmm
  have hkb : k < W.msgs.length := by omega
  have HMK := zH hmk
  clear qmm hmk
  have hwk := HV.out.2.1
  obtain ⟨pQ, cQ, bb, bo, he, _, _, hpb, hcb, _⟩ := HWB.out.books
  injection he with he1 he2 he3
  clear he2 he3
  have hpb := hpb (by omega)
  rw [← he1] at hpb
  subst hpb
  obtain ⟨z1, z2, z4, ⟨f0, f1, f2, f3, f4, f5⟩, s1, s2, s4⟩ := hcb i hib
  obtain ⟨b, hb⟩ : ∃ b, b = W.books[i] := ⟨_, rfl⟩
  have hbb := hwk.book i hib
  rw [← hb] at f0 f3 f5 s1 s2 s4 hbb
  have HBB := zH hbb
  have HGB := zH (show W.books.getD i noBook = b by rw [hb]; simp [List.getD_eq_getElem?_getD, hib])
  clear he1 hcb hb hbb hwk
  obtain ⟨r1, l1, hf1⟩ := s1.form
  obtain ⟨r2, l2, hf2⟩ := s2.form
  obtain ⟨r4, l4, hf4⟩ := s4.form
  subst hf1 hf2 hf4
  have hia := HIA.out
  have hrg : (0 : Int) ≤ x.agency ∧ x.agency < (W.books.length : Int) := by omega
  have htn : x.agency.toNat = i := by omega
  clear hia
  go_upto_region 7 with (fail)
  clear hrg htn f0 f1 f2 f3 f4 f5
  obtain ⟨g8, hg8⟩ : ∃ g, g = W0.heap.size := ⟨_, rfl⟩
  obtain ⟨W1, hW1⟩ : ∃ W, W = (W0.alloc (.cells #[.int .i64 b.agency, .slice r1 b.seats.length l1, .slice r2 b.off.length l2, .int .i64 b.sent, .slice r4 b.took.length l4, .int .i64 b.cash] 56)).alloc (.cells #[.int .i64 0, .slice none 0 0, .slice none 0 0, .int .i64 0, .slice none 0 0, .int .i64 0] 56) := ⟨_, rfl⟩
  have hb8 : Bx W1 g8 [.int .i64 b.agency, .slice r1 b.seats.length l1, .slice r2 b.off.length l2, .int .i64 b.sent, .slice r4 b.took.length l4, .int .i64 b.cash] 56 := by subst hW1 hg8; exact (Bx.new _ [_, _, _, _, _, _] _).alloc _
  have hb9 : Bx W1 (g8 + 1) [.int .i64 0, .slice none 0 0, .slice none 0 0, .int .i64 0, .slice none 0 0, .int .i64 0] 56 := by subst hW1 hg8; exact Bx.new' _ [_, _, _, _, _, _] _ _ (by simp)
  have hS1 : Step W0 W1 := by subst hW1; exact (by with_reducible repeat (first | assumption | exact Step.refl _ | apply Step.s_alloc | apply Step.s_drew | apply Step.s_drewN | refine Step.trans ?_ (by assumption)))
  have hz1 : W1.heap.size = g8 + 2 := by subst hW1 hg8; simp
  rw [← hW1, ← hg8]
  have HG8 := zH hg8
  have HB8 := zH hb8
  have HB9 := zH hb9
  have HS1 := zH hS1
  have HZ1 := zH hz1
  have HBV := zH (show AV (fun j => S j ∨ w.heap.size ≤ j) W1 (.agg #[.int .i64 b.agency, .slice r1 b.seats.length l1, .slice r2 b.off.length l2, .int .i64 b.sent, .slice r4 b.took.length l4, .int .i64 b.cash]) b from ⟨_, rfl, _, _, _, rfl, s1.keep (.of_step hS1), s2.keep (.of_step hS1), s4.keep (.of_step hS1)⟩)
  clear hW1 hg8 hb8 hb9 hS1 hz1 s1 s2 s4
  (try clear e0 e1 e2 e3 e4)
  (try clear u0 u1)
  (try clear a0 a1 a2 a3 a4 a5 a6 a7 a8)
  obtain ⟨e0, e1, e2, e3, e4⟩ := cells5 (HB0.out.step HS1.out)
  obtain ⟨a0, a1, a2, a3, a4, a5, a6, a7, a8⟩ := cells9 (HB2.out.step HS1.out)
  obtain ⟨u0, u1⟩ : _ ∧ _ := ⟨(HB1.out.step HS1.out).cell 0, (HB1.out.step HS1.out).cell 1⟩
  simp only [zD, zE] at u0 u1
  obtain ⟨f0, f1, f2, f3, f4, f5⟩ := cells6 HB8.out
  obtain ⟨pM, cM, mb, mo, he, _, _, hpm, hcm, _⟩ := HWM.out.mess
  injection he with he1 he2 he3
  clear he2 he3
  have hpm := hpm (by omega)
  rw [← he1] at hpm
  subst hpm
  obtain ⟨mz, ⟨m0, m1, m2, m3, m4⟩, hmx⟩ := hcm k hkb
  obtain ⟨m, hm⟩ : ∃ m, m = W.msgs[k] := ⟨_, rfl⟩
  rw [← hm] at m0 m1 m2 m3 hmx
  have HGM := zH (show W.msgs.getD x.msg.toNat noMsg = m by rw [HMK.out, hm]; simp [List.getD_eq_getElem?_getD, hkb])
  clear he1 hcm hm
  obtain ⟨pmz, kmz, hfm⟩ := hmx.form
  subst hfm
  have HMX := zH (show AV (fun j => S j ∨ w.heap.size ≤ j) W1 (.agg #[.int .i64 m.frm, .int .i64 m.dst, .int .i64 m.number, .int .i64 m.shw, .slice pmz m.seats.length kmz]) m from ⟨_, rfl, _, rfl, hmx.keep (.of_step HS1.out)⟩)
  clear hmx
  have m0 := (HS1.out).kc m0; have m1 := (HS1.out).kc m1; have m2 := (HS1.out).kc m2; have m3 := (HS1.out).kc m3; have m4 := (HS1.out).kc m4
  have e1 : (x.kind == 1) = false := by simp [k4]
  have e2 : (x.kind == 2) = false := by simp [k4]
  have e3 : (x.kind == 3) = false := by simp [k4]
  have HKK := zH k4
  clear k4 d1 d2 hl1 hl2
  go_upto_region 18 with (fail)
  clear e1 e2 e3 d4
  (try clear e0 e1 e2 e3 e4)
  (try clear u0 u1)
  (try clear a0 a1 a2 a3 a4 a5 a6 a7 a8)
  obtain ⟨e0, e1, e2, e3, e4⟩ := cells5 (HB0.out.step HS1.out)
  obtain ⟨a0, a1, a2, a3, a4, a5, a6, a7, a8⟩ := cells9 (HB2.out.step HS1.out)
  obtain ⟨u0, u1⟩ : _ ∧ _ := ⟨(HB1.out.step HS1.out).cell 0, (HB1.out.step HS1.out).cell 1⟩
  simp only [zD, zE] at u0 u1
  have hmk := HMK.out
  have hrg : (0 : Int) ≤ x.msg ∧ x.msg < (W.msgs.length : Int) := by omega
  have htn : x.msg.toNat = k := by omega
  clear hmk
  refine wp_region_seqM (fun c d v a w h => by cases d <;> exact h) (kdOf [8] []) [0, 0, 0, 4, 0, 16, 60, 124, 255, 511, 1023, 1023, 2047, 8191] [0, 1, 2, 3, 4, 5, 6, 7, 8, 9, 10, 11] [12, 13] (by kernel_rfl) (by kernel_rfl) (fun i T z hi hk => by simp [kdOf] at hk <;> (try (split at hk <;> cases hk))) ?_
  intro Wx hWx
  have e0 := (hWx).kc e0; have e1 := (hWx).kc e1; have e2 := (hWx).kc e2; have e3 := (hWx).kc e3; have e4 := (hWx).kc e4; have u1 := (hWx).kc u1; have a7 := (hWx).kc a7; have f0 := (hWx).kc f0; have f1 := (hWx).kc f1; have f2 := (hWx).kc f2; have f3 := (hWx).kc f3; have f4 := (hWx).kc f4; have f5 := (hWx).kc f5; have m0 := (hWx).kc m0; have m1 := (hWx).kc m1; have m2 := (hWx).kc m2; have m3 := (hWx).kc m3; have m4 := (hWx).kc m4
  repeat ((first | (refine run_off rfl rfl (by rfl) ?_) | (refine run_chain_off rfl rfl (by rfl) (K0_mono _) ?_) | ((refine run_want rfl rfl (by rfl) ⟨?_, fun W hW => ?_, ?_⟩; rotate_left; (· (have d0 := hW.kc e0; have d1 := hW.kc e1; have d2 := hW.kc e2; have d3 := hW.kc e3; have d4 := hW.kc e4; have d5 := hW.kc u1; have d6 := hW.kc a7; have d7 := hW.kc f0; have d8 := hW.kc f1; have d9 := hW.kc f2; have d10 := hW.kc f3; have d11 := hW.kc f4; have d12 := hW.kc f5; have d13 := hW.kc m0; have d14 := hW.kc m1; have d15 := hW.kc m2; have d16 := hW.kc m3; have d17 := hW.kc m4; go_simp; (try with_reducible rfl)))))); (try simp only [Act.put, zA, zB, zC]))
  clear e0 e1 e2 e3 e4 u0 u1 a0 a1 a2 a3 a4 a5 a6 a7 a8 f0 f1 f2 f3 f4 f5 m0 m1 m2 m3 m4 hrg htn
  refine run_chain rfl rfl (by rfl) (fun Wi hWi K' hK => ?_)
  have HTi := zH (hWx.trans hWi)
  clear hWx hWi
  go_simp
  refine (RTake_any (fun _ => False) (fun j => S j ∨ w.heap.size ≤ j) h b m _ _ _ _ (HH.out.keep (.of_step (HS1.out.trans HTi.out))) ((av0 HBV.out).keep (.of_step HTi.out)) (HMX.out.keep (.of_step HTi.out)) HV.out.1 HBB.out.1).mono ?_
  rintro e wq ⟨v6, rfl, hv6, hSn⟩
  obtain ⟨P, hP⟩ : ∃ P, P = actR (takeD h b m) := ⟨_, rfl⟩
  rw [← hP] at hv6 ⊢
  obtain ⟨x1, x2, x4, rfl, t1, t2, t4⟩ := hv6.book
  obtain ⟨ra, na, rfl⟩ := t1.form
  obtain ⟨rb, nb2, rfl⟩ := t2.form
  obtain ⟨rc, nc, rfl⟩ := t4.form
  have HP := zH hP
  have HV6 := zH hv6
  have HSN := zH hSn
  clear hP t1 t2 t4 hv6 hSn
  refine hK _ _ (StepX.of HSN.out) ?_
  clear hK
  (try simp only [Act.put, zA, zB, zC])
  repeat ((first | (refine run_off rfl rfl (by rfl) ?_) | (refine run_chain_off rfl rfl (by rfl) (K0_mono _) ?_) | ((refine run_want rfl rfl (by rfl) ⟨?_, fun W hW => ?_, ?_⟩; rotate_left; (· (skip; go_simp; (try with_reducible rfl)))))); (try simp only [Act.put, zA, zB, zC]))
  refine run_end (L := [_, _]) rfl (fun W6 hW6 => ?_)
  replace HV6 := zH ((HV6.out.keep (.of_step hW6)).weak (T := Old W1) (fun j _ hj => by unfold Old at *; have := HTi.out.size; omega))
  have HSN2 := zH (show Step W1 W6 from (HTi.out.trans HSN.out).trans hW6)
  clear HSN HTi hW6
  have HSN := HSN2
  clear HSN2
  refine wpl_store (v := .agg #[.int .i64 P.1.agency, .slice ra P.1.seats.length na, .slice rb P.1.off.length nb2, .int .i64 P.1.sent, .slice rc P.1.took.length nc, .int .i64 P.1.cash]) rfl _ _ _ rfl rfl rfl (HB9.out.step HSN.out) (by kernel_rfl) (by simp [Value.cells]) (by simp [Value.cells, Value.oneCell']) [.int .i64 P.1.agency, .slice ra P.1.seats.length na, .slice rb P.1.off.length nb2, .int .i64 P.1.sent, .slice rc P.1.took.length nc, .int .i64 P.1.cash] rfl (fun wr hbr hwr => ?_)
  have HBR := zH (hbr)
  have HTR := zH (StepX.fresh (HS1.out.trans HSN.out) (hwr.stepX) (fun j hj => by have := HG8.out; omega))
  have hnb : AV (fun j => j < W1.heap.size ∨ W6.heap.size ≤ j) W6 (.agg #[.int .i64 P.1.agency, .slice ra P.1.seats.length na, .slice rb P.1.off.length nb2, .int .i64 P.1.sent, .slice rc P.1.took.length nc, .int .i64 P.1.cash]) P.1 := HV6.out.weak (fun j hj hs => by
   unfold Old
   rcases hs with hs | hs
   ·exact hs
   ·omega)
  have HNB := zH ((hnb.keep ((hwr.stepX).keeps.mono (T := fun j => j < W1.heap.size ∨ W6.heap.size ≤ j) fun j _ e => .inl (by have := HZ1.out; have e : j = g8 + 1 := e; omega))))
  have HSQ := zH (hwr.stepX).size
  clear hnb
  clear hbr hwr
  go_upto_region 21 with (fail)
  rcases act_two (nz_take h b m) with ⟨b', hrr, ha⟩ | ⟨c, hrr, hc0, ha⟩
  ·have hp2 : P.2 = 0 := by rw [HP.out, ha]
   have hp1 : P.1 = b' := by rw [HP.out, ha]
   subst hp1
   have HE := zH (show actD h W x = (⟨W.books.set i P.1, W.msgs ++ []⟩, 0) from actD_done HV.out.1 HE0.out HIA.out HGB.out HBB.out.1 (by unfold deskD; rw [if_neg (by rw [HKK.out]; decide), if_neg (by rw [HKK.out]; decide), if_neg (by rw [HKK.out]; decide), if_pos HKK.out, HGM.out, hrr]; rfl))
   have d9 : (P.2 != 0) = false := by rw [hp2]; rfl
   clear hp2 hrr
   (try clear e0 e1 e2 e3 e4)
   (try clear u0 u1)
   (try clear a0 a1 a2 a3 a4 a5 a6 a7 a8)
   obtain ⟨e0, e1, e2, e3, e4⟩ := cells5 (HB0.out.step HTR.out)
   obtain ⟨a0, a1, a2, a3, a4, a5, a6, a7, a8⟩ := cells9 (HB2.out.step HTR.out)
   obtain ⟨u0, u1⟩ : _ ∧ _ := ⟨(HB1.out.step HTR.out).cell 0, (HB1.out.step HTR.out).cell 1⟩
   simp only [zD, zE] at u0 u1
   have HMO := zH (show ∀ j, (.slice (some ⟨mb, mo, none⟩) W.msgs.length nm : Value).ownBlock = some j → ((.slice (some ⟨mb, mo, none⟩) W.msgs.length nm : Value).ownBlock = some j ∨ W6.heap.size ≤ j) from fun j hj => .inl hj)
   have HMB := zH (show ∀ j, (.slice (some ⟨mb, mo, none⟩) W.msgs.length nm : Value).ownBlock = some j → j < wr.heap.size from fun j hj => by have h1 := HOO.out.2.1.lt j hj; have h2 := HTR.out.size; omega)
   have hu23 : SLe (avoid (fun j => (S j ∨ (.slice (some ⟨mb, mo, none⟩) W.msgs.length nm : Value).ownBlock = some j) ∨ j = w.heap.size + 3) (.slice none 0 0)) wr (.slice (some ⟨bb, bo, none⟩) W.books.length nb) W.books := ((HOO.out.1.sl.keep (.of_step HTR.out)).weak (T := avoid (fun j => (S j ∨ (.slice (some ⟨mb, mo, none⟩) W.msgs.length nm : Value).ownBlock = some j) ∨ j = w.heap.size + 3) (.slice none 0 0)) (fun j _ hj => by
    rcases hj with ((hj | hj) | hj) | hj
    ·exact .inl (.inl hj)
    ·rcases HMO.out j hj with e | e
     ·exact .inr e
     ·exact .inl (.inr (by have h1 := HTR.out.size; have h2 := HZ.out; have h3 := HSN.out.size; have h4 := HS1.out.size; omega))
    ·exact .inl (.inr (by omega))
    ·simp [Value.ownBlock] at hj)).e
   go_upto_region 24 with (at_builtin; refine wpl_append (α := Book) (S := fun j => (S j ∨ (.slice (some ⟨mb, mo, none⟩) W.msgs.length nm : Value).ownBlock = some j) ∨ j = w.heap.size + 3) (base := wr.heap.size) (v := .slice none 0 0) (l := []) (m := W.books) eiRefBooks rfl _ _ rfl rfl rfl (OwnL.nil _ _ _ _) hu23 W.books.length (by simp) W.books rfl (by simp only [maxLen]; omega) (by omega) (Nat.le_refl _) (fun p' c' w5 hown5 hg5 => ?_))
   have hst5 : Step wr w5 := StepX.grown hg5 (fun k hk _ => by simp [Value.ownBlock] at hk)
   clear hu23 hg5
   obtain ⟨g13, hg13⟩ : ∃ g, g = w5.heap.size := ⟨_, rfl⟩
   obtain ⟨W6, hW6⟩ : ∃ z9, z9 = w5.alloc (.cells #[.slice p' W.books.length c', .slice (some ⟨mb, mo, none⟩) W.msgs.length nm] 49) := ⟨_, rfl⟩
   have hb13 : Bx W6 g13 [.slice p' W.books.length c', .slice (some ⟨mb, mo, none⟩) W.msgs.length nm] 49 := by subst hW6 hg13; exact Bx.new _ [_, _] _
   have hst6 : Step wr W6 := by subst hW6; exact hst5.trans (Step.alloc _ _)
   have hown6 := hown5.step (show Step w5 W6 by subst hW6; exact Step.alloc _ _)
   rw [← hW6, ← hg13]
   have hlt13 : w5.heap.size ≤ g13 := by rw [hg13]; exact Nat.le_refl _
   have hng : ∀ g, (Value.slice p' W.books.length c').ownBlock = some g → g ≠ g13 := fun g hg e => by have := (hown5.lt g hg).2; omega
   clear hown5 hst5 hW6 hg13 hlt13
   obtain ⟨gB, cap, csB, hvb, hgb, hbxB, hcsB, _, hput⟩ := hown6.row_put hib
   rw [hvb] at hown6 hput hng hb13 ⊢
   have HNG := zH (hng gB rfl)
   have hrep : Rep.rep (avoid (fun j => (S j ∨ (.slice (some ⟨mb, mo, none⟩) W.msgs.length nm : Value).ownBlock = some j) ∨ j = w.heap.size + 3) (.slice (some ⟨gB, 0, none⟩) W.books.length cap)) W6 [.int .i64 P.1.agency, .slice ra P.1.seats.length na, .slice rb P.1.off.length nb2, .int .i64 P.1.sent, .slice rc P.1.took.length nc, .int .i64 P.1.cash] P.1 := by
    obtain ⟨cs9, he9, hr9⟩ := (HNB.out.keep (.of_step hst6))
    injection he9 with he9
    have hf9 : cs9 = [.int .i64 P.1.agency, .slice ra P.1.seats.length na, .slice rb P.1.off.length nb2, .int .i64 P.1.sent, .slice rc P.1.took.length nc, .int .i64 P.1.cash] := by
     have := congrArg Array.toList he9
     simpa using this.symm
    rw [hf9] at hr9
    refine Rep.weak (fun j _ hj => ?_) hr9
    have h1 := HZ1.out
    have h2 := HG8.out
    have h3 := HZ.out
    have h4 := HSQ.out
    rcases hj with ((hj | hj) | hj) | hj
    ·have := HSL.out j hj
     exact .inl (by omega)
    ·rcases HMO.out j hj with e | e
     ·have h5 := HOO.out.2.1.lt j e
      exact .inl (by omega)
     ·exact .inr e
    ·exact .inl (by omega)
    ·right
     simp [Value.ownBlock] at hj
     omega
   have HST6 := zH hst6
   have HPUT := zH hput
   have HREP := zH hrep
   have HB13 := zH hb13
   have HBXB := zH hbxB
   have HCSB := zH (show i * 6 + 6 ≤ csB.length from hcsB)
   have HGB0 := zH hgb
   have HBR6 := zH (HBR.out.step hst6)
   clear hvb hgb hbxB hcsB hput hng hown6 hrep hst6 hb13
   (try clear e0 e1 e2 e3 e4)
   (try clear u0 u1)
   (try clear a0 a1 a2 a3 a4 a5 a6 a7 a8)
   obtain ⟨e0, e1, e2, e3, e4⟩ := cells5 (HB0.out.step (HTR.out.trans HST6.out))
   obtain ⟨a0, a1, a2, a3, a4, a5, a6, a7, a8⟩ := cells9 (HB2.out.step (HTR.out.trans HST6.out))
   obtain ⟨u0, u1⟩ : _ ∧ _ := ⟨(HB1.out.step (HTR.out.trans HST6.out)).cell 0, (HB1.out.step (HTR.out.trans HST6.out)).cell 1⟩
   simp only [zD, zE] at u0 u1
   obtain ⟨z0, z1, z2, z3, z4, z5⟩ := cells6 HBR6.out
   have y0 := HB13.out.cell 0
   have y1 := HB13.out.cell 1
   simp only [zD, zE] at y0 y1
   have hia := HIA.out
   have hrg : (0 : Int) ≤ x.agency ∧ x.agency < (W.books.length : Int) := by omega
   have htn : x.agency.toNat = i := by omega
   clear hia
   go_upto_region 25 with (refine wpl_store (v := .agg #[.int .i64 P.1.agency, .slice ra P.1.seats.length na, .slice rb P.1.off.length nb2, .int .i64 P.1.sent, .slice rc P.1.took.length nc, .int .i64 P.1.cash]) rfl _ _ _ rfl rfl rfl HBXB.out (by kernel_rfl) (by simp [Value.cells]; exact HCSB.out) (by simp [Value.cells, Value.oneCell']) (csB.take (i * 6) ++ [.int .i64 P.1.agency, .slice ra P.1.seats.length na, .slice rb P.1.off.length nb2, .int .i64 P.1.sent, .slice rc P.1.took.length nc, .int .i64 P.1.cash] ++ csB.drop (i * 6 + 6)) rfl (fun w10 hb10 hw10 => ?_))
   have hown10 := HPUT.out w10 _ P.1 HREP.out hw10 hb10
   have hst10 : Step wr w10 := Step.wrote HST6.out hw10 HGB0.out
   have hb13 := HB13.out.keep (Keeps.wrote (S := fun j => j = gB) hw10 rfl) (fun e => HNG.out e.symm)
   have HO10 := zH hown10
   have HS10 := zH (HTR.out.trans hst10)
   have HSR := zH hst10
   clear hown10 hst10 hw10 hb10 HPUT HREP hrg htn z0 z1 z2 z3 z4 z5 y0 y1
   have y0 := hb13.cell 0
   have y1 := hb13.cell 1
   simp only [zD, zE] at y0 y1
   have t0 := (HB3.out.step HS10.out).cell 0
   have t1 := (HB3.out.step HS10.out).cell 1
   have tf0 := (HB3.out.step HS10.out).frozen 0
   have tf1 := (HB3.out.step HS10.out).frozen 1
   simp only [zD, zE] at t0 t1
   clear hb13
   go_wp2
   have b2 := set2r (HB3.out.step HS10.out) (.slice (some ⟨gB, 0, none⟩) W.books.length cap) (.slice (some ⟨mb, mo, none⟩) W.msgs.length nm)
   refine ret_struct2 (k := 2) rfl siRefWorld rfl b2.1 rfl rfl ?_
   rw [HE.out]
   have hk2 := b2.2.keeps.mono (T := fun j => S j ∨ w.heap.size ≤ j) fun j _ e => .inr (by omega)
   have hk3 := b2.2.keeps.mono (T := fun j => S j ∨ j = w.heap.size + 3) fun j _ e => .inr e
   have hk4 := b2.2.keeps.mono (T := fun j => (S j ∨ (.slice (some ⟨mb, mo, none⟩) W.msgs.length nm : Value).ownBlock = some j) ∨ j = w.heap.size + 3) fun j _ e => .inr e
   have hsl := SO.of HO10.out (fun g hg _ hs => by
    have h1 := HTR.out.size
    have h2 := HZ.out
    have h6 := HS1.out.size
    have h7 := HSN.out.size
    rcases hs with (hs | hs) | hs
    ·have := HSL.out g hs; omega
    ·rcases HMO.out g hs with e | e
     ·have h5 := HOO.out.2.1.lt g e
      omega
     ·exact absurd hg (by have := HMB.out g hs; omega)
    ·omega)
   exact ⟨_, rfl, ⟨_, _, rfl, (hsl.keep hk4).weak (fun _ _ h => .inl h), by rw [List.append_nil]; exact (HOO.out.2.keep (Keeps.of_step HS10.out) |>.keep (hk2.mono fun _ _ e => .inl e)).weak (fun j hj e => e.elim (fun e => .inl (.inl e)) (fun e => .inl (.inr (by have h1 := HGB0.out; have h2 := HTR.out.size; have h3 := HZ.out; simp [Value.ownBlock] at e; omega))))⟩, StepX.fresh (HS.out.trans HS10.out) b2.2 (fun j hj => by omega)⟩
  ·have hp2 : P.2 = c := by rw [HP.out, ha]
   have HE := zH (show actD h W x = (W, P.2) by
    rw [hp2]
    exact actD_refused HV.out.1 HE0.out HIA.out HGB.out HBB.out.1 (by unfold deskD; rw [if_neg (by rw [HKK.out]; decide), if_neg (by rw [HKK.out]; decide), if_neg (by rw [HKK.out]; decide), if_pos HKK.out, HGM.out, hrr]; rfl))
   have d9 : (P.2 != 0) = true := by rw [bne_iff_ne, hp2]; exact hc0
   clear hp2 hc0 hrr
   (try clear e0 e1 e2 e3 e4)
   (try clear u0 u1)
   (try clear a0 a1 a2 a3 a4 a5 a6 a7 a8)
   obtain ⟨e0, e1, e2, e3, e4⟩ := cells5 (HB0.out.step HTR.out)
   obtain ⟨a0, a1, a2, a3, a4, a5, a6, a7, a8⟩ := cells9 (HB2.out.step HTR.out)
   obtain ⟨u0, u1⟩ : _ ∧ _ := ⟨(HB1.out.step HTR.out).cell 0, (HB1.out.step HTR.out).cell 1⟩
   simp only [zD, zE] at u0 u1
   have t0 := (HB3.out.step HTR.out).cell 0
   have t1 := (HB3.out.step HTR.out).cell 1
   have tf0 := (HB3.out.step HTR.out).frozen 0
   have tf1 := (HB3.out.step HTR.out).frozen 1
   simp only [zD, zE] at t0 t1
   go_wp2
   have b2 := set2r (HB3.out.step HTR.out) (.slice (some ⟨bb, bo, none⟩) W.books.length nb) (.slice (some ⟨mb, mo, none⟩) W.msgs.length nm)
   refine ret_struct2 (k := 2) rfl siRefWorld rfl b2.1 rfl rfl ?_
   rw [HE.out]
   have hk2 := b2.2.keeps.mono (T := fun j => S j ∨ w.heap.size ≤ j) fun j _ e => .inr (by omega)
   exact ⟨_, rfl, ⟨_, _, rfl, ((HOO.out.keep (.of_step HTR.out)).keep hk2).weak (fun _ _ h => .inl h)⟩, StepX.fresh (HS.out.trans HTR.out) b2.2 (fun j hj => by omega)⟩
 ·have d4 : (x.kind == 4) = false := by simp [k4]
  have HE0 := zH (actE_zero HK.out HQA.out fun e => absurd e k4)
  have hkk : x.kind = 1 ∨ x.kind = 2 ∨ x.kind = 3 ∨ x.kind = 5 := by have := HKL.out; omega
  clear k4
  have hwk := HV.out.2.1
  obtain ⟨pQ, cQ, bb, bo, he, _, _, hpb, hcb, _⟩ := HWB.out.books
  injection he with he1 he2 he3
  clear he2 he3
  have hpb := hpb (by omega)
  rw [← he1] at hpb
  subst hpb
  obtain ⟨z1, z2, z4, ⟨f0, f1, f2, f3, f4, f5⟩, s1, s2, s4⟩ := hcb i hib
  obtain ⟨b, hb⟩ : ∃ b, b = W.books[i] := ⟨_, rfl⟩
  have hbb := hwk.book i hib
  rw [← hb] at f0 f3 f5 s1 s2 s4 hbb
  have HBB := zH hbb
  have HGB := zH (show W.books.getD i noBook = b by rw [hb]; simp [List.getD_eq_getElem?_getD, hib])
  clear he1 hcb hb hbb hwk
  obtain ⟨r1, l1, hf1⟩ := s1.form
  obtain ⟨r2, l2, hf2⟩ := s2.form
  obtain ⟨r4, l4, hf4⟩ := s4.form
  subst hf1 hf2 hf4
  have hia := HIA.out
  have hrg : (0 : Int) ≤ x.agency ∧ x.agency < (W.books.length : Int) := by omega
  have htn : x.agency.toNat = i := by omega
  clear hia
  go_upto_region 7 with (fail)
  clear hrg htn f0 f1 f2 f3 f4 f5
  obtain ⟨g8, hg8⟩ : ∃ g, g = W0.heap.size := ⟨_, rfl⟩
  obtain ⟨W1, hW1⟩ : ∃ W, W = (W0.alloc (.cells #[.int .i64 b.agency, .slice r1 b.seats.length l1, .slice r2 b.off.length l2, .int .i64 b.sent, .slice r4 b.took.length l4, .int .i64 b.cash] 56)).alloc (.cells #[.int .i64 0, .slice none 0 0, .slice none 0 0, .int .i64 0, .slice none 0 0, .int .i64 0] 56) := ⟨_, rfl⟩
  have hb8 : Bx W1 g8 [.int .i64 b.agency, .slice r1 b.seats.length l1, .slice r2 b.off.length l2, .int .i64 b.sent, .slice r4 b.took.length l4, .int .i64 b.cash] 56 := by subst hW1 hg8; exact (Bx.new _ [_, _, _, _, _, _] _).alloc _
  have hb9 : Bx W1 (g8 + 1) [.int .i64 0, .slice none 0 0, .slice none 0 0, .int .i64 0, .slice none 0 0, .int .i64 0] 56 := by subst hW1 hg8; exact Bx.new' _ [_, _, _, _, _, _] _ _ (by simp)
  have hS1 : Step W0 W1 := by subst hW1; exact (by with_reducible repeat (first | assumption | exact Step.refl _ | apply Step.s_alloc | apply Step.s_drew | apply Step.s_drewN | refine Step.trans ?_ (by assumption)))
  have hz1 : W1.heap.size = g8 + 2 := by subst hW1 hg8; simp
  rw [← hW1, ← hg8]
  have HG8 := zH hg8
  have HB8 := zH hb8
  have HB9 := zH hb9
  have HS1 := zH hS1
  have HZ1 := zH hz1
  have HBV := zH (show AV (fun j => S j ∨ w.heap.size ≤ j) W1 (.agg #[.int .i64 b.agency, .slice r1 b.seats.length l1, .slice r2 b.off.length l2, .int .i64 b.sent, .slice r4 b.took.length l4, .int .i64 b.cash]) b from ⟨_, rfl, _, _, _, rfl, s1.keep (.of_step hS1), s2.keep (.of_step hS1), s4.keep (.of_step hS1)⟩)
  clear hW1 hg8 hb8 hb9 hS1 hz1 s1 s2 s4
  (try clear e0 e1 e2 e3 e4)
  (try clear u0 u1)
  (try clear a0 a1 a2 a3 a4 a5 a6 a7 a8)
  obtain ⟨e0, e1, e2, e3, e4⟩ := cells5 (HB0.out.step HS1.out)
  obtain ⟨a0, a1, a2, a3, a4, a5, a6, a7, a8⟩ := cells9 (HB2.out.step HS1.out)
  obtain ⟨u0, u1⟩ : _ ∧ _ := ⟨(HB1.out.step HS1.out).cell 0, (HB1.out.step HS1.out).cell 1⟩
  simp only [zD, zE] at u0 u1
  obtain ⟨f0, f1, f2, f3, f4, f5⟩ := cells6 HB8.out
  rcases hkk with hk | hk | hk | hk
  ·have e1 : (x.kind == 1) = true := by simp [hk]
   have HKK := zH hk
   clear hk d1 d2 d4 hl1 hl2
   go_wp2_with fail
   refine (RSell_any (fun _ => False) h b _ _ x.shw x.seat x.buyer x.day _ (HH.out.keep (.of_step HS1.out)) (av0 HBV.out) HV.out.1 HBB.out.1).mono ?_
   rintro e wq ⟨v6, rfl, hv6, hSn⟩
   obtain ⟨P, hP⟩ : ∃ P, P = actR (sellD h b x.shw x.seat x.buyer x.day) := ⟨_, rfl⟩
   rw [← hP] at hv6 ⊢
   obtain ⟨x1, x2, x4, rfl, t1, t2, t4⟩ := hv6.book
   obtain ⟨ra, na, rfl⟩ := t1.form
   obtain ⟨rb, nb2, rfl⟩ := t2.form
   obtain ⟨rc, nc, rfl⟩ := t4.form
   have HP := zH hP
   have HV6 := zH hv6
   have HSN := zH hSn
   clear hP t1 t2 t4 hv6 hSn
   have hb9q := HB9.out.step HSN.out
   obtain ⟨z0, z1, z2, z3, z4, z5⟩ := cells6 hb9q
   have tz0 := hb9q.frozen 0
   have tz1 := hb9q.frozen 1
   have tz2 := hb9q.frozen 2
   have tz3 := hb9q.frozen 3
   have tz4 := hb9q.frozen 4
   have tz5 := hb9q.frozen 5
   go_upto_region 21 with (fail)
   have b6 := set6 hb9q (.int .i64 P.1.agency) (.slice ra P.1.seats.length na) (.slice rb P.1.off.length nb2) (.int .i64 P.1.sent) (.slice rc P.1.took.length nc) (.int .i64 P.1.cash)
   generalize ((((((wq.setCell ⟨g8 + 1, 0, none⟩ (.int .i64 P.1.agency)).setCell ⟨g8 + 1, 1, none⟩ (.slice ra P.1.seats.length na)).setCell ⟨g8 + 1, 2, none⟩ (.slice rb P.1.off.length nb2)).setCell ⟨g8 + 1, 3, none⟩ (.int .i64 P.1.sent)).setCell ⟨g8 + 1, 4, none⟩ (.slice rc P.1.took.length nc)).setCell ⟨g8 + 1, 5, none⟩ (.int .i64 P.1.cash)) = wr at b6 ⊢
   clear hb9q z0 z1 z2 z3 z4 z5 tz0 tz1 tz2 tz3 tz4 tz5
   have HBR := zH (b6.1)
   have HTR := zH (StepX.fresh (HS1.out.trans HSN.out) (b6.2) (fun j hj => by have := HG8.out; omega))
   have hnb : AV (fun j => j < W1.heap.size ∨ wq.heap.size ≤ j) wq (.agg #[.int .i64 P.1.agency, .slice ra P.1.seats.length na, .slice rb P.1.off.length nb2, .int .i64 P.1.sent, .slice rc P.1.took.length nc, .int .i64 P.1.cash]) P.1 := HV6.out.weak (fun j hj hs => by
    unfold Old
    rcases hs with hs | hs
    ·exact hs
    ·omega)
   have HNB := zH ((hnb.keep ((b6.2).keeps.mono (T := fun j => j < W1.heap.size ∨ wq.heap.size ≤ j) fun j _ e => .inl (by have := HZ1.out; have e : j = g8 + 1 := e; omega))))
   have HSQ := zH (b6.2).size
   clear hnb
   clear b6
   rcases act_two (nz_sell h b x.shw x.seat x.buyer x.day) with ⟨b', hrr, ha⟩ | ⟨c, hrr, hc0, ha⟩
   ·have hp2 : P.2 = 0 := by rw [HP.out, ha]
    have hp1 : P.1 = b' := by rw [HP.out, ha]
    subst hp1
    have HE := zH (show actD h W x = (⟨W.books.set i P.1, W.msgs ++ []⟩, 0) from actD_done HV.out.1 HE0.out HIA.out HGB.out HBB.out.1 (by unfold deskD; rw [if_pos HKK.out, hrr]; rfl))
    have d9 : (P.2 != 0) = false := by rw [hp2]; rfl
    clear hp2 hrr
    (try clear e0 e1 e2 e3 e4)
    (try clear u0 u1)
    (try clear a0 a1 a2 a3 a4 a5 a6 a7 a8)
    obtain ⟨e0, e1, e2, e3, e4⟩ := cells5 (HB0.out.step HTR.out)
    obtain ⟨a0, a1, a2, a3, a4, a5, a6, a7, a8⟩ := cells9 (HB2.out.step HTR.out)
    obtain ⟨u0, u1⟩ : _ ∧ _ := ⟨(HB1.out.step HTR.out).cell 0, (HB1.out.step HTR.out).cell 1⟩
    simp only [zD, zE] at u0 u1
    have HMO := zH (show ∀ j, (.slice qm W.msgs.length nm : Value).ownBlock = some j → ((.slice qm W.msgs.length nm : Value).ownBlock = some j ∨ wq.heap.size ≤ j) from fun j hj => .inl hj)
    have HMB := zH (show ∀ j, (.slice qm W.msgs.length nm : Value).ownBlock = some j → j < wr.heap.size from fun j hj => by have h1 := HOO.out.2.1.lt j hj; have h2 := HTR.out.size; omega)
    have hu23 : SLe (avoid (fun j => (S j ∨ (.slice qm W.msgs.length nm : Value).ownBlock = some j) ∨ j = w.heap.size + 3) (.slice none 0 0)) wr (.slice (some ⟨bb, bo, none⟩) W.books.length nb) W.books := ((HOO.out.1.sl.keep (.of_step HTR.out)).weak (T := avoid (fun j => (S j ∨ (.slice qm W.msgs.length nm : Value).ownBlock = some j) ∨ j = w.heap.size + 3) (.slice none 0 0)) (fun j _ hj => by
     rcases hj with ((hj | hj) | hj) | hj
     ·exact .inl (.inl hj)
     ·rcases HMO.out j hj with e | e
      ·exact .inr e
      ·exact .inl (.inr (by have h1 := HTR.out.size; have h2 := HZ.out; have h3 := HSN.out.size; have h4 := HS1.out.size; omega))
     ·exact .inl (.inr (by omega))
     ·simp [Value.ownBlock] at hj)).e
    go_upto_region 24 with (at_builtin; refine wpl_append (α := Book) (S := fun j => (S j ∨ (.slice qm W.msgs.length nm : Value).ownBlock = some j) ∨ j = w.heap.size + 3) (base := wr.heap.size) (v := .slice none 0 0) (l := []) (m := W.books) eiRefBooks rfl _ _ rfl rfl rfl (OwnL.nil _ _ _ _) hu23 W.books.length (by simp) W.books rfl (by simp only [maxLen]; omega) (by omega) (Nat.le_refl _) (fun p' c' w5 hown5 hg5 => ?_))
    have hst5 : Step wr w5 := StepX.grown hg5 (fun k hk _ => by simp [Value.ownBlock] at hk)
    clear hu23 hg5
    obtain ⟨g13, hg13⟩ : ∃ g, g = w5.heap.size := ⟨_, rfl⟩
    obtain ⟨W6, hW6⟩ : ∃ z9, z9 = w5.alloc (.cells #[.slice p' W.books.length c', .slice qm W.msgs.length nm] 49) := ⟨_, rfl⟩
    have hb13 : Bx W6 g13 [.slice p' W.books.length c', .slice qm W.msgs.length nm] 49 := by subst hW6 hg13; exact Bx.new _ [_, _] _
    have hst6 : Step wr W6 := by subst hW6; exact hst5.trans (Step.alloc _ _)
    have hown6 := hown5.step (show Step w5 W6 by subst hW6; exact Step.alloc _ _)
    rw [← hW6, ← hg13]
    have hlt13 : w5.heap.size ≤ g13 := by rw [hg13]; exact Nat.le_refl _
    have hng : ∀ g, (Value.slice p' W.books.length c').ownBlock = some g → g ≠ g13 := fun g hg e => by have := (hown5.lt g hg).2; omega
    clear hown5 hst5 hW6 hg13 hlt13
    obtain ⟨gB, cap, csB, hvb, hgb, hbxB, hcsB, _, hput⟩ := hown6.row_put hib
    rw [hvb] at hown6 hput hng hb13 ⊢
    have HNG := zH (hng gB rfl)
    have hrep : Rep.rep (avoid (fun j => (S j ∨ (.slice qm W.msgs.length nm : Value).ownBlock = some j) ∨ j = w.heap.size + 3) (.slice (some ⟨gB, 0, none⟩) W.books.length cap)) W6 [.int .i64 P.1.agency, .slice ra P.1.seats.length na, .slice rb P.1.off.length nb2, .int .i64 P.1.sent, .slice rc P.1.took.length nc, .int .i64 P.1.cash] P.1 := by
     obtain ⟨cs9, he9, hr9⟩ := (HNB.out.keep (.of_step hst6))
     injection he9 with he9
     have hf9 : cs9 = [.int .i64 P.1.agency, .slice ra P.1.seats.length na, .slice rb P.1.off.length nb2, .int .i64 P.1.sent, .slice rc P.1.took.length nc, .int .i64 P.1.cash] := by
      have := congrArg Array.toList he9
      simpa using this.symm
     rw [hf9] at hr9
     refine Rep.weak (fun j _ hj => ?_) hr9
     have h1 := HZ1.out
     have h2 := HG8.out
     have h3 := HZ.out
     have h4 := HSQ.out
     rcases hj with ((hj | hj) | hj) | hj
     ·have := HSL.out j hj
      exact .inl (by omega)
     ·rcases HMO.out j hj with e | e
      ·have h5 := HOO.out.2.1.lt j e
       exact .inl (by omega)
      ·exact .inr e
     ·exact .inl (by omega)
     ·right
      simp [Value.ownBlock] at hj
      omega
    have HST6 := zH hst6
    have HPUT := zH hput
    have HREP := zH hrep
    have HB13 := zH hb13
    have HBXB := zH hbxB
    have HCSB := zH (show i * 6 + 6 ≤ csB.length from hcsB)
    have HGB0 := zH hgb
    have HBR6 := zH (HBR.out.step hst6)
    clear hvb hgb hbxB hcsB hput hng hown6 hrep hst6 hb13
    (try clear e0 e1 e2 e3 e4)
    (try clear u0 u1)
    (try clear a0 a1 a2 a3 a4 a5 a6 a7 a8)
    obtain ⟨e0, e1, e2, e3, e4⟩ := cells5 (HB0.out.step (HTR.out.trans HST6.out))
    obtain ⟨a0, a1, a2, a3, a4, a5, a6, a7, a8⟩ := cells9 (HB2.out.step (HTR.out.trans HST6.out))
    obtain ⟨u0, u1⟩ : _ ∧ _ := ⟨(HB1.out.step (HTR.out.trans HST6.out)).cell 0, (HB1.out.step (HTR.out.trans HST6.out)).cell 1⟩
    simp only [zD, zE] at u0 u1
    obtain ⟨z0, z1, z2, z3, z4, z5⟩ := cells6 HBR6.out
    have y0 := HB13.out.cell 0
    have y1 := HB13.out.cell 1
    simp only [zD, zE] at y0 y1
    have hia := HIA.out
    have hrg : (0 : Int) ≤ x.agency ∧ x.agency < (W.books.length : Int) := by omega
    have htn : x.agency.toNat = i := by omega
    clear hia
    go_upto_region 25 with (refine wpl_store (v := .agg #[.int .i64 P.1.agency, .slice ra P.1.seats.length na, .slice rb P.1.off.length nb2, .int .i64 P.1.sent, .slice rc P.1.took.length nc, .int .i64 P.1.cash]) rfl _ _ _ rfl rfl rfl HBXB.out (by kernel_rfl) (by simp [Value.cells]; exact HCSB.out) (by simp [Value.cells, Value.oneCell']) (csB.take (i * 6) ++ [.int .i64 P.1.agency, .slice ra P.1.seats.length na, .slice rb P.1.off.length nb2, .int .i64 P.1.sent, .slice rc P.1.took.length nc, .int .i64 P.1.cash] ++ csB.drop (i * 6 + 6)) rfl (fun w10 hb10 hw10 => ?_))
    have hown10 := HPUT.out w10 _ P.1 HREP.out hw10 hb10
    have hst10 : Step wr w10 := Step.wrote HST6.out hw10 HGB0.out
    have hb13 := HB13.out.keep (Keeps.wrote (S := fun j => j = gB) hw10 rfl) (fun e => HNG.out e.symm)
    have HO10 := zH hown10
    have HS10 := zH (HTR.out.trans hst10)
    have HSR := zH hst10
    clear hown10 hst10 hw10 hb10 HPUT HREP hrg htn z0 z1 z2 z3 z4 z5 y0 y1
    have y0 := hb13.cell 0
    have y1 := hb13.cell 1
    simp only [zD, zE] at y0 y1
    have t0 := (HB3.out.step HS10.out).cell 0
    have t1 := (HB3.out.step HS10.out).cell 1
    have tf0 := (HB3.out.step HS10.out).frozen 0
    have tf1 := (HB3.out.step HS10.out).frozen 1
    simp only [zD, zE] at t0 t1
    clear hb13
    go_wp2
    have b2 := set2r (HB3.out.step HS10.out) (.slice (some ⟨gB, 0, none⟩) W.books.length cap) (.slice qm W.msgs.length nm)
    refine ret_struct2 (k := 2) rfl siRefWorld rfl b2.1 rfl rfl ?_
    rw [HE.out]
    have hk2 := b2.2.keeps.mono (T := fun j => S j ∨ w.heap.size ≤ j) fun j _ e => .inr (by omega)
    have hk3 := b2.2.keeps.mono (T := fun j => S j ∨ j = w.heap.size + 3) fun j _ e => .inr e
    have hk4 := b2.2.keeps.mono (T := fun j => (S j ∨ (.slice qm W.msgs.length nm : Value).ownBlock = some j) ∨ j = w.heap.size + 3) fun j _ e => .inr e
    have hsl := SO.of HO10.out (fun g hg _ hs => by
     have h1 := HTR.out.size
     have h2 := HZ.out
     have h6 := HS1.out.size
     have h7 := HSN.out.size
     rcases hs with (hs | hs) | hs
     ·have := HSL.out g hs; omega
     ·rcases HMO.out g hs with e | e
      ·have h5 := HOO.out.2.1.lt g e
       omega
      ·exact absurd hg (by have := HMB.out g hs; omega)
     ·omega)
    exact ⟨_, rfl, ⟨_, _, rfl, (hsl.keep hk4).weak (fun _ _ h => .inl h), by rw [List.append_nil]; exact (HOO.out.2.keep (Keeps.of_step HS10.out) |>.keep (hk2.mono fun _ _ e => .inl e)).weak (fun j hj e => e.elim (fun e => .inl (.inl e)) (fun e => .inl (.inr (by have h1 := HGB0.out; have h2 := HTR.out.size; have h3 := HZ.out; simp [Value.ownBlock] at e; omega))))⟩, StepX.fresh (HS.out.trans HS10.out) b2.2 (fun j hj => by omega)⟩
   ·have hp2 : P.2 = c := by rw [HP.out, ha]
    have HE := zH (show actD h W x = (W, P.2) by
     rw [hp2]
     exact actD_refused HV.out.1 HE0.out HIA.out HGB.out HBB.out.1 (by unfold deskD; rw [if_pos HKK.out, hrr]; rfl))
    have d9 : (P.2 != 0) = true := by rw [bne_iff_ne, hp2]; exact hc0
    clear hp2 hc0 hrr
    (try clear e0 e1 e2 e3 e4)
    (try clear u0 u1)
    (try clear a0 a1 a2 a3 a4 a5 a6 a7 a8)
    obtain ⟨e0, e1, e2, e3, e4⟩ := cells5 (HB0.out.step HTR.out)
    obtain ⟨a0, a1, a2, a3, a4, a5, a6, a7, a8⟩ := cells9 (HB2.out.step HTR.out)
    obtain ⟨u0, u1⟩ : _ ∧ _ := ⟨(HB1.out.step HTR.out).cell 0, (HB1.out.step HTR.out).cell 1⟩
    simp only [zD, zE] at u0 u1
    have t0 := (HB3.out.step HTR.out).cell 0
    have t1 := (HB3.out.step HTR.out).cell 1
    have tf0 := (HB3.out.step HTR.out).frozen 0
    have tf1 := (HB3.out.step HTR.out).frozen 1
    simp only [zD, zE] at t0 t1
    go_wp2
    have b2 := set2r (HB3.out.step HTR.out) (.slice (some ⟨bb, bo, none⟩) W.books.length nb) (.slice (qm) W.msgs.length nm)
    refine ret_struct2 (k := 2) rfl siRefWorld rfl b2.1 rfl rfl ?_
    rw [HE.out]
    have hk2 := b2.2.keeps.mono (T := fun j => S j ∨ w.heap.size ≤ j) fun j _ e => .inr (by omega)
    exact ⟨_, rfl, ⟨_, _, rfl, ((HOO.out.keep (.of_step HTR.out)).keep hk2).weak (fun _ _ h => .inl h)⟩, StepX.fresh (HS.out.trans HTR.out) b2.2 (fun j hj => by omega)⟩
  ·have e1 : (x.kind == 1) = false := by simp [hk]
   have e2 : (x.kind == 2) = true := by simp [hk]
   have HKK := zH hk
   clear hk d1 d2 d4 hl1 hl2
   go_wp2_with fail
   refine (RRefund_any (fun _ => False) h b _ _ x.shw x.seat _ (HH.out.keep (.of_step HS1.out)) (av0 HBV.out) HV.out.1 HBB.out.1).mono ?_
   rintro e wq ⟨v6, rfl, hv6, hSn⟩
   obtain ⟨P, hP⟩ : ∃ P, P = actR (refundD h b x.shw x.seat) := ⟨_, rfl⟩
   rw [← hP] at hv6 ⊢
   obtain ⟨x1, x2, x4, rfl, t1, t2, t4⟩ := hv6.book
   obtain ⟨ra, na, rfl⟩ := t1.form
   obtain ⟨rb, nb2, rfl⟩ := t2.form
   obtain ⟨rc, nc, rfl⟩ := t4.form
   have HP := zH hP
   have HV6 := zH hv6
   have HSN := zH hSn
   clear hP t1 t2 t4 hv6 hSn
   have hb9q := HB9.out.step HSN.out
   obtain ⟨z0, z1, z2, z3, z4, z5⟩ := cells6 hb9q
   have tz0 := hb9q.frozen 0
   have tz1 := hb9q.frozen 1
   have tz2 := hb9q.frozen 2
   have tz3 := hb9q.frozen 3
   have tz4 := hb9q.frozen 4
   have tz5 := hb9q.frozen 5
   go_upto_region 21 with (fail)
   have b6 := set6 hb9q (.int .i64 P.1.agency) (.slice ra P.1.seats.length na) (.slice rb P.1.off.length nb2) (.int .i64 P.1.sent) (.slice rc P.1.took.length nc) (.int .i64 P.1.cash)
   generalize ((((((wq.setCell ⟨g8 + 1, 0, none⟩ (.int .i64 P.1.agency)).setCell ⟨g8 + 1, 1, none⟩ (.slice ra P.1.seats.length na)).setCell ⟨g8 + 1, 2, none⟩ (.slice rb P.1.off.length nb2)).setCell ⟨g8 + 1, 3, none⟩ (.int .i64 P.1.sent)).setCell ⟨g8 + 1, 4, none⟩ (.slice rc P.1.took.length nc)).setCell ⟨g8 + 1, 5, none⟩ (.int .i64 P.1.cash)) = wr at b6 ⊢
   clear hb9q z0 z1 z2 z3 z4 z5 tz0 tz1 tz2 tz3 tz4 tz5
   have HBR := zH (b6.1)
   have HTR := zH (StepX.fresh (HS1.out.trans HSN.out) (b6.2) (fun j hj => by have := HG8.out; omega))
   have hnb : AV (fun j => j < W1.heap.size ∨ wq.heap.size ≤ j) wq (.agg #[.int .i64 P.1.agency, .slice ra P.1.seats.length na, .slice rb P.1.off.length nb2, .int .i64 P.1.sent, .slice rc P.1.took.length nc, .int .i64 P.1.cash]) P.1 := HV6.out.weak (fun j hj hs => by
    unfold Old
    rcases hs with hs | hs
    ·exact hs
    ·omega)
   have HNB := zH ((hnb.keep ((b6.2).keeps.mono (T := fun j => j < W1.heap.size ∨ wq.heap.size ≤ j) fun j _ e => .inl (by have := HZ1.out; have e : j = g8 + 1 := e; omega))))
   have HSQ := zH (b6.2).size
   clear hnb
   clear b6
   rcases act_two (nz_refund h b x.shw x.seat) with ⟨b', hrr, ha⟩ | ⟨c, hrr, hc0, ha⟩
   ·have hp2 : P.2 = 0 := by rw [HP.out, ha]
    have hp1 : P.1 = b' := by rw [HP.out, ha]
    subst hp1
    have HE := zH (show actD h W x = (⟨W.books.set i P.1, W.msgs ++ []⟩, 0) from actD_done HV.out.1 HE0.out HIA.out HGB.out HBB.out.1 (by unfold deskD; rw [if_neg (by rw [HKK.out]; decide), if_pos HKK.out, hrr]; rfl))
    have d9 : (P.2 != 0) = false := by rw [hp2]; rfl
    clear hp2 hrr
    (try clear e0 e1 e2 e3 e4)
    (try clear u0 u1)
    (try clear a0 a1 a2 a3 a4 a5 a6 a7 a8)
    obtain ⟨e0, e1, e2, e3, e4⟩ := cells5 (HB0.out.step HTR.out)
    obtain ⟨a0, a1, a2, a3, a4, a5, a6, a7, a8⟩ := cells9 (HB2.out.step HTR.out)
    obtain ⟨u0, u1⟩ : _ ∧ _ := ⟨(HB1.out.step HTR.out).cell 0, (HB1.out.step HTR.out).cell 1⟩
    simp only [zD, zE] at u0 u1
    have HMO := zH (show ∀ j, (.slice qm W.msgs.length nm : Value).ownBlock = some j → ((.slice qm W.msgs.length nm : Value).ownBlock = some j ∨ wq.heap.size ≤ j) from fun j hj => .inl hj)
    have HMB := zH (show ∀ j, (.slice qm W.msgs.length nm : Value).ownBlock = some j → j < wr.heap.size from fun j hj => by have h1 := HOO.out.2.1.lt j hj; have h2 := HTR.out.size; omega)
    have hu23 : SLe (avoid (fun j => (S j ∨ (.slice qm W.msgs.length nm : Value).ownBlock = some j) ∨ j = w.heap.size + 3) (.slice none 0 0)) wr (.slice (some ⟨bb, bo, none⟩) W.books.length nb) W.books := ((HOO.out.1.sl.keep (.of_step HTR.out)).weak (T := avoid (fun j => (S j ∨ (.slice qm W.msgs.length nm : Value).ownBlock = some j) ∨ j = w.heap.size + 3) (.slice none 0 0)) (fun j _ hj => by
     rcases hj with ((hj | hj) | hj) | hj
     ·exact .inl (.inl hj)
     ·rcases HMO.out j hj with e | e
      ·exact .inr e
      ·exact .inl (.inr (by have h1 := HTR.out.size; have h2 := HZ.out; have h3 := HSN.out.size; have h4 := HS1.out.size; omega))
     ·exact .inl (.inr (by omega))
     ·simp [Value.ownBlock] at hj)).e
    go_upto_region 24 with (at_builtin; refine wpl_append (α := Book) (S := fun j => (S j ∨ (.slice qm W.msgs.length nm : Value).ownBlock = some j) ∨ j = w.heap.size + 3) (base := wr.heap.size) (v := .slice none 0 0) (l := []) (m := W.books) eiRefBooks rfl _ _ rfl rfl rfl (OwnL.nil _ _ _ _) hu23 W.books.length (by simp) W.books rfl (by simp only [maxLen]; omega) (by omega) (Nat.le_refl _) (fun p' c' w5 hown5 hg5 => ?_))
    have hst5 : Step wr w5 := StepX.grown hg5 (fun k hk _ => by simp [Value.ownBlock] at hk)
    clear hu23 hg5
    obtain ⟨g13, hg13⟩ : ∃ g, g = w5.heap.size := ⟨_, rfl⟩
    obtain ⟨W6, hW6⟩ : ∃ z9, z9 = w5.alloc (.cells #[.slice p' W.books.length c', .slice qm W.msgs.length nm] 49) := ⟨_, rfl⟩
    have hb13 : Bx W6 g13 [.slice p' W.books.length c', .slice qm W.msgs.length nm] 49 := by subst hW6 hg13; exact Bx.new _ [_, _] _
    have hst6 : Step wr W6 := by subst hW6; exact hst5.trans (Step.alloc _ _)
    have hown6 := hown5.step (show Step w5 W6 by subst hW6; exact Step.alloc _ _)
    rw [← hW6, ← hg13]
    have hlt13 : w5.heap.size ≤ g13 := by rw [hg13]; exact Nat.le_refl _
    have hng : ∀ g, (Value.slice p' W.books.length c').ownBlock = some g → g ≠ g13 := fun g hg e => by have := (hown5.lt g hg).2; omega
    clear hown5 hst5 hW6 hg13 hlt13
    obtain ⟨gB, cap, csB, hvb, hgb, hbxB, hcsB, _, hput⟩ := hown6.row_put hib
    rw [hvb] at hown6 hput hng hb13 ⊢
    have HNG := zH (hng gB rfl)
    have hrep : Rep.rep (avoid (fun j => (S j ∨ (.slice qm W.msgs.length nm : Value).ownBlock = some j) ∨ j = w.heap.size + 3) (.slice (some ⟨gB, 0, none⟩) W.books.length cap)) W6 [.int .i64 P.1.agency, .slice ra P.1.seats.length na, .slice rb P.1.off.length nb2, .int .i64 P.1.sent, .slice rc P.1.took.length nc, .int .i64 P.1.cash] P.1 := by
     obtain ⟨cs9, he9, hr9⟩ := (HNB.out.keep (.of_step hst6))
     injection he9 with he9
     have hf9 : cs9 = [.int .i64 P.1.agency, .slice ra P.1.seats.length na, .slice rb P.1.off.length nb2, .int .i64 P.1.sent, .slice rc P.1.took.length nc, .int .i64 P.1.cash] := by
      have := congrArg Array.toList he9
      simpa using this.symm
     rw [hf9] at hr9
     refine Rep.weak (fun j _ hj => ?_) hr9
     have h1 := HZ1.out
     have h2 := HG8.out
     have h3 := HZ.out
     have h4 := HSQ.out
     rcases hj with ((hj | hj) | hj) | hj
     ·have := HSL.out j hj
      exact .inl (by omega)
     ·rcases HMO.out j hj with e | e
      ·have h5 := HOO.out.2.1.lt j e
       exact .inl (by omega)
      ·exact .inr e
     ·exact .inl (by omega)
     ·right
      simp [Value.ownBlock] at hj
      omega
    have HST6 := zH hst6
    have HPUT := zH hput
    have HREP := zH hrep
    have HB13 := zH hb13
    have HBXB := zH hbxB
    have HCSB := zH (show i * 6 + 6 ≤ csB.length from hcsB)
    have HGB0 := zH hgb
    have HBR6 := zH (HBR.out.step hst6)
    clear hvb hgb hbxB hcsB hput hng hown6 hrep hst6 hb13
    (try clear e0 e1 e2 e3 e4)
    (try clear u0 u1)
    (try clear a0 a1 a2 a3 a4 a5 a6 a7 a8)
    obtain ⟨e0, e1, e2, e3, e4⟩ := cells5 (HB0.out.step (HTR.out.trans HST6.out))
    obtain ⟨a0, a1, a2, a3, a4, a5, a6, a7, a8⟩ := cells9 (HB2.out.step (HTR.out.trans HST6.out))
    obtain ⟨u0, u1⟩ : _ ∧ _ := ⟨(HB1.out.step (HTR.out.trans HST6.out)).cell 0, (HB1.out.step (HTR.out.trans HST6.out)).cell 1⟩
    simp only [zD, zE] at u0 u1
    obtain ⟨z0, z1, z2, z3, z4, z5⟩ := cells6 HBR6.out
    have y0 := HB13.out.cell 0
    have y1 := HB13.out.cell 1
    simp only [zD, zE] at y0 y1
    have hia := HIA.out
    have hrg : (0 : Int) ≤ x.agency ∧ x.agency < (W.books.length : Int) := by omega
    have htn : x.agency.toNat = i := by omega
    clear hia
    go_upto_region 25 with (refine wpl_store (v := .agg #[.int .i64 P.1.agency, .slice ra P.1.seats.length na, .slice rb P.1.off.length nb2, .int .i64 P.1.sent, .slice rc P.1.took.length nc, .int .i64 P.1.cash]) rfl _ _ _ rfl rfl rfl HBXB.out (by kernel_rfl) (by simp [Value.cells]; exact HCSB.out) (by simp [Value.cells, Value.oneCell']) (csB.take (i * 6) ++ [.int .i64 P.1.agency, .slice ra P.1.seats.length na, .slice rb P.1.off.length nb2, .int .i64 P.1.sent, .slice rc P.1.took.length nc, .int .i64 P.1.cash] ++ csB.drop (i * 6 + 6)) rfl (fun w10 hb10 hw10 => ?_))
    have hown10 := HPUT.out w10 _ P.1 HREP.out hw10 hb10
    have hst10 : Step wr w10 := Step.wrote HST6.out hw10 HGB0.out
    have hb13 := HB13.out.keep (Keeps.wrote (S := fun j => j = gB) hw10 rfl) (fun e => HNG.out e.symm)
    have HO10 := zH hown10
    have HS10 := zH (HTR.out.trans hst10)
    have HSR := zH hst10
    clear hown10 hst10 hw10 hb10 HPUT HREP hrg htn z0 z1 z2 z3 z4 z5 y0 y1
    have y0 := hb13.cell 0
    have y1 := hb13.cell 1
    simp only [zD, zE] at y0 y1
    have t0 := (HB3.out.step HS10.out).cell 0
    have t1 := (HB3.out.step HS10.out).cell 1
    have tf0 := (HB3.out.step HS10.out).frozen 0
    have tf1 := (HB3.out.step HS10.out).frozen 1
    simp only [zD, zE] at t0 t1
    clear hb13
    go_wp2
    have b2 := set2r (HB3.out.step HS10.out) (.slice (some ⟨gB, 0, none⟩) W.books.length cap) (.slice qm W.msgs.length nm)
    refine ret_struct2 (k := 2) rfl siRefWorld rfl b2.1 rfl rfl ?_
    rw [HE.out]
    have hk2 := b2.2.keeps.mono (T := fun j => S j ∨ w.heap.size ≤ j) fun j _ e => .inr (by omega)
    have hk3 := b2.2.keeps.mono (T := fun j => S j ∨ j = w.heap.size + 3) fun j _ e => .inr e
    have hk4 := b2.2.keeps.mono (T := fun j => (S j ∨ (.slice qm W.msgs.length nm : Value).ownBlock = some j) ∨ j = w.heap.size + 3) fun j _ e => .inr e
    have hsl := SO.of HO10.out (fun g hg _ hs => by
     have h1 := HTR.out.size
     have h2 := HZ.out
     have h6 := HS1.out.size
     have h7 := HSN.out.size
     rcases hs with (hs | hs) | hs
     ·have := HSL.out g hs; omega
     ·rcases HMO.out g hs with e | e
      ·have h5 := HOO.out.2.1.lt g e
       omega
      ·exact absurd hg (by have := HMB.out g hs; omega)
     ·omega)
    exact ⟨_, rfl, ⟨_, _, rfl, (hsl.keep hk4).weak (fun _ _ h => .inl h), by rw [List.append_nil]; exact (HOO.out.2.keep (Keeps.of_step HS10.out) |>.keep (hk2.mono fun _ _ e => .inl e)).weak (fun j hj e => e.elim (fun e => .inl (.inl e)) (fun e => .inl (.inr (by have h1 := HGB0.out; have h2 := HTR.out.size; have h3 := HZ.out; simp [Value.ownBlock] at e; omega))))⟩, StepX.fresh (HS.out.trans HS10.out) b2.2 (fun j hj => by omega)⟩
   ·have hp2 : P.2 = c := by rw [HP.out, ha]
    have HE := zH (show actD h W x = (W, P.2) by
     rw [hp2]
     exact actD_refused HV.out.1 HE0.out HIA.out HGB.out HBB.out.1 (by unfold deskD; rw [if_neg (by rw [HKK.out]; decide), if_pos HKK.out, hrr]; rfl))
    have d9 : (P.2 != 0) = true := by rw [bne_iff_ne, hp2]; exact hc0
    clear hp2 hc0 hrr
    (try clear e0 e1 e2 e3 e4)
    (try clear u0 u1)
    (try clear a0 a1 a2 a3 a4 a5 a6 a7 a8)
    obtain ⟨e0, e1, e2, e3, e4⟩ := cells5 (HB0.out.step HTR.out)
    obtain ⟨a0, a1, a2, a3, a4, a5, a6, a7, a8⟩ := cells9 (HB2.out.step HTR.out)
    obtain ⟨u0, u1⟩ : _ ∧ _ := ⟨(HB1.out.step HTR.out).cell 0, (HB1.out.step HTR.out).cell 1⟩
    simp only [zD, zE] at u0 u1
    have t0 := (HB3.out.step HTR.out).cell 0
    have t1 := (HB3.out.step HTR.out).cell 1
    have tf0 := (HB3.out.step HTR.out).frozen 0
    have tf1 := (HB3.out.step HTR.out).frozen 1
    simp only [zD, zE] at t0 t1
    go_wp2
    have b2 := set2r (HB3.out.step HTR.out) (.slice (some ⟨bb, bo, none⟩) W.books.length nb) (.slice (qm) W.msgs.length nm)
    refine ret_struct2 (k := 2) rfl siRefWorld rfl b2.1 rfl rfl ?_
    rw [HE.out]
    have hk2 := b2.2.keeps.mono (T := fun j => S j ∨ w.heap.size ≤ j) fun j _ e => .inr (by omega)
    exact ⟨_, rfl, ⟨_, _, rfl, ((HOO.out.keep (.of_step HTR.out)).keep hk2).weak (fun _ _ h => .inl h)⟩, StepX.fresh (HS.out.trans HTR.out) b2.2 (fun j hj => by omega)⟩
  ·have e1 : (x.kind == 1) = false := by simp [hk]
   have e2 : (x.kind == 2) = false := by simp [hk]
   have e3 : (x.kind == 3) = true := by simp [hk]
   have HKK := zH hk
   clear hk d1 d2 d4 hl1 hl2
   go_upto_region 15 with (fail)
   clear e1 e2 e3
   obtain ⟨g12, hg12⟩ : ∃ g, g = W1.heap.size := ⟨_, rfl⟩
   obtain ⟨W2, hW2⟩ : ∃ z9, z9 = W1.alloc (.cells #[.int .i64 0, .int .i64 0, .int .i64 0, .int .i64 0, .slice none 0 0] 58) := ⟨_, rfl⟩
   have hb12 : Bx W2 g12 [.int .i64 0, .int .i64 0, .int .i64 0, .int .i64 0, .slice none 0 0] 58 := by subst hW2 hg12; exact Bx.new _ [_, _, _, _, _] _
   have hS12 : Step W1 W2 := by subst hW2; exact Step.alloc _ _
   rw [← hW2, ← hg12]
   have HG12 := zH (show g12 = g8 + 2 ∧ W2.heap.size = g12 + 1 by rw [hg12]; refine ⟨HZ1.out, ?_⟩; subst hW2; simp)
   have HB12 := zH hb12
   have HS12 := zH hS12
   clear hW2 hg12 hb12 hS12 f0 f1 f2 f3 f4 f5
   (try clear e0 e1 e2 e3 e4)
   (try clear u0 u1)
   (try clear a0 a1 a2 a3 a4 a5 a6 a7 a8)
   obtain ⟨e0, e1, e2, e3, e4⟩ := cells5 (HB0.out.step (HS1.out.trans HS12.out))
   obtain ⟨a0, a1, a2, a3, a4, a5, a6, a7, a8⟩ := cells9 (HB2.out.step (HS1.out.trans HS12.out))
   obtain ⟨u0, u1⟩ : _ ∧ _ := ⟨(HB1.out.step (HS1.out.trans HS12.out)).cell 0, (HB1.out.step (HS1.out.trans HS12.out)).cell 1⟩
   simp only [zD, zE] at u0 u1
   obtain ⟨f0, f1, f2, f3, f4, f5⟩ := cells6 (HB8.out.step HS12.out)
   go_wp2_with fail
   refine (RGive_any (fun _ => False) (fun _ => False) h b x.dst x.shw x.seats _ _ _ _ (HH.out.keep (.of_step (HS1.out.trans HS12.out))) ((av0 HBV.out).keep (.of_step HS12.out)) (HXS.out.keep (.of_step (HS1.out.trans HS12.out))) HV.out.2.2.1 HV.out.1 HBB.out.1).mono ?_
   rintro e wq ⟨v6, m6, rfl, hv6, hm6, hSn⟩
   obtain ⟨mm, hmm⟩ : ∃ z9, z9 = restOf noMsg (giveD h b x.dst x.shw x.seats) := ⟨_, rfl⟩
   rw [← hmm] at hm6
   have HMM := zH hmm
   obtain ⟨mz, rfl, hmz⟩ := hm6.message
   obtain ⟨pz, kz, rfl⟩ := hmz.form
   have HMZ := zH hmz
   clear hmm hm6 hmz
   have hSn2 := HS12.out.trans hSn
   have HSN0 := zH hSn
   clear hSn
   have hSn := hSn2
   clear hSn2
   obtain ⟨P, hP⟩ : ∃ P, P = actR (bookOf (giveD h b x.dst x.shw x.seats)) := ⟨_, rfl⟩
   rw [← hP] at hv6 ⊢
   obtain ⟨x1, x2, x4, rfl, t1, t2, t4⟩ := hv6.book
   obtain ⟨ra, na, rfl⟩ := t1.form
   obtain ⟨rb, nb2, rfl⟩ := t2.form
   obtain ⟨rc, nc, rfl⟩ := t4.form
   have HP := zH hP
   have HV6 := zH hv6
   have HSN := zH hSn
   clear hP t1 t2 t4 hv6 hSn
   have hb9q := HB9.out.step HSN.out
   obtain ⟨z0, z1, z2, z3, z4, z5⟩ := cells6 hb9q
   have tz0 := hb9q.frozen 0
   have tz1 := hb9q.frozen 1
   have tz2 := hb9q.frozen 2
   have tz3 := hb9q.frozen 3
   have tz4 := hb9q.frozen 4
   have tz5 := hb9q.frozen 5
   have hb12q := HB12.out.step HSN0.out
   obtain ⟨y0, y1, y2, y3, y4⟩ := cells5 hb12q
   have ty0 := hb12q.frozen 0
   have ty1 := hb12q.frozen 1
   have ty2 := hb12q.frozen 2
   have ty3 := hb12q.frozen 3
   have ty4 := hb12q.frozen 4
   have hne1 : ¬ g12 = g8 + 1 := by have := HG12.out.1; omega
   have hne2 : ¬ g8 + 1 = g12 := by have := HG12.out.1; omega
   go_upto_region 16 with (fail)
   have b6 := set6 hb9q (.int .i64 P.1.agency) (.slice ra P.1.seats.length na) (.slice rb P.1.off.length nb2) (.int .i64 P.1.sent) (.slice rc P.1.took.length nc) (.int .i64 P.1.cash)
   have b12 := hb12q.keep (b6.2.keeps) hne1
   have b5 := set5 b12 (.int .i64 mm.frm) (.int .i64 mm.dst) (.int .i64 mm.number) (.int .i64 mm.shw) (.slice pz mm.seats.length kz)
   have b9 := b6.1.keep b5.2.keeps hne2
   have st2 : StepX (fun j => j = g8 + 1 ∨ j = g12) wq _ := (b6.2.mono (fun j _ e => .inl e)).trans (b5.2.mono (fun j _ e => .inr e))
   generalize (((((((((((wq.setCell ⟨g8 + 1, 0, none⟩ (.int .i64 P.1.agency)).setCell ⟨g8 + 1, 1, none⟩ (.slice ra P.1.seats.length na)).setCell ⟨g8 + 1, 2, none⟩ (.slice rb P.1.off.length nb2)).setCell ⟨g8 + 1, 3, none⟩ (.int .i64 P.1.sent)).setCell ⟨g8 + 1, 4, none⟩ (.slice rc P.1.took.length nc)).setCell ⟨g8 + 1, 5, none⟩ (.int .i64 P.1.cash)).setCell ⟨g12, 0, none⟩ (.int .i64 mm.frm)).setCell ⟨g12, 1, none⟩ (.int .i64 mm.dst)).setCell ⟨g12, 2, none⟩ (.int .i64 mm.number)).setCell ⟨g12, 3, none⟩ (.int .i64 mm.shw)).setCell ⟨g12, 4, none⟩ (.slice pz mm.seats.length kz)) = wr at b5 b9 st2 ⊢
   have HB12R := zH b5.1
   have hbr := b9
   clear hb9q hb12q b6 b12 b5 b9 z0 z1 z2 z3 z4 z5 tz0 tz1 tz2 tz3 tz4 tz5 y0 y1 y2 y3 y4 ty0 ty1 ty2 ty3 ty4 hne1 hne2
   have HBR := zH hbr
   have HTR := zH (StepX.fresh (HS1.out.trans HSN.out) st2 (fun j hj => by have := HG8.out; have := HG12.out; omega))
   have havoid : ∀ j, j < wq.heap.size → (j < W2.heap.size ∨ wq.heap.size ≤ j) → Old W2 j := fun j hj hs => by
    unfold Old
    omega
   have hk2 := st2.keeps.mono (T := fun j => j < W2.heap.size ∨ wq.heap.size ≤ j) fun j _ e => .inl (by have h1 := HG12.out; have h2 := HZ1.out; rcases e with e | e <;> (have e : j = _ := e; omega))
   have HNB0 := zH ((HV6.out.weak havoid).keep hk2)
   have HMZ0 := zH ((HMZ.out.weak havoid).keep hk2)
   have HSQ := zH st2.size
   clear havoid hk2 st2 hbr
   (try clear e0 e1 e2 e3 e4)
   (try clear u0 u1)
   (try clear a0 a1 a2 a3 a4 a5 a6 a7 a8)
   obtain ⟨e0, e1, e2, e3, e4⟩ := cells5 (HB0.out.step HTR.out)
   obtain ⟨a0, a1, a2, a3, a4, a5, a6, a7, a8⟩ := cells9 (HB2.out.step HTR.out)
   obtain ⟨u0, u1⟩ : _ ∧ _ := ⟨(HB1.out.step HTR.out).cell 0, (HB1.out.step HTR.out).cell 1⟩
   simp only [zD, zE] at u0 u1
   obtain ⟨y0, y1, y2, y3, y4⟩ := cells5 HB12R.out
   have hu16 : SLe (avoid (fun j => S j ∨ j = w.heap.size + 3) (.slice none 0 0)) wr (.slice qm W.msgs.length nm) W.msgs := ((HWM.out.keep (.of_step HTR.out)).weak (T := avoid (fun j => S j ∨ j = w.heap.size + 3) (.slice none 0 0)) (fun j _ hj => by
    rcases hj with (hj | hj) | hj
    ·exact .inl hj
    ·exact .inr (by omega)
    ·simp [Value.ownBlock] at hj)).e
   have HU16 := zH hu16
   clear hu16
   refine Mk.wp_region_seqM (fun c d v a w h => by cases d <;> exact h) (Mk.kdOf [2] [] [(4, 58, 1, #[.int .i64 mm.frm, .int .i64 mm.dst, .int .i64 mm.number, .int .i64 mm.shw, .slice pz mm.seats.length kz])]) [0, 1, 3, 0, 8, 31, 63] [0, 1, 3, 2, 4] [5, 6] (by kernel_rfl) (by kernel_rfl) (fun i T z hi hk => by simp only [List.mem_cons, List.not_mem_nil, or_false] at hi; rcases hi with rfl | rfl | rfl | rfl | rfl <;> simp [Mk.kdOf] at hk) ?_
   intro Wx hWx
   have u1 := (hWx).kc u1; have y0 := (hWx).kc y0; have y1 := (hWx).kc y1; have y2 := (hWx).kc y2; have y3 := (hWx).kc y3; have y4 := (hWx).kc y4
   repeat ((first | (refine Mk.run_off rfl rfl (by rfl) ?_) | (refine Mk.run_chain_off rfl rfl (by rfl) (Mk.K0_mono _) ?_) | ((refine Mk.run_want rfl rfl (by rfl) ⟨?_, fun W hW => ?_, ?_⟩; rotate_left; (· (have d0 := hW.kc u1; have d1 := hW.kc y0; have d2 := hW.kc y1; have d3 := hW.kc y2; have d4 := hW.kc y3; have d5 := hW.kc y4; go_simp; (try with_reducible rfl)))))); (try simp only [Act.put, zA, zB, zC]))
   clear u0 u1 e0 e1 e2 e3 e4 a0 a1 a2 a3 a4 a5 a6 a7 a8 y0 y1 y2 y3 y4
   refine Mk.run_chain rfl rfl (by rfl) (fun Wi hWi K' hK => ?_)
   have hTi := hWx.trans hWi
   clear hWx hWi
   refine wp_append_L (α := BT.Message) (S := fun j => S j ∨ j = w.heap.size + 3) (base := wr.heap.size) (v := .slice none 0 0) (l := []) (m := W.msgs) eiRefMess _ _ rfl rfl rfl (OwnL.nil _ _ _ _) (HU16.out.step hTi) W.msgs.length (by simp) W.msgs rfl (by simp only [maxLen]; omega) (by omega) hTi.size ?_
   intro p5 c5 w5 hown5 hg5
   have hs5 : Step Wi w5 := StepX.grown hg5 (fun k hk _ => by simp [Value.ownBlock] at hk)
   have HO5 := zH hown5
   have HT5 := zH (hTi.trans hs5)
   refine hK _ _ (.of hs5) ?_
   clear hK hTi hown5 hg5 hs5
   (try simp only [Act.put, zA, zB, zC])
   repeat ((first | (refine Mk.run_off rfl rfl (by rfl) ?_) | (refine Mk.run_chain_off rfl rfl (by rfl) (Mk.K0_mono _) ?_) | ((refine Mk.run_want rfl rfl (by rfl) ⟨?_, fun W hW => ?_, ?_⟩; rotate_left; (· (skip; go_simp; (try with_reducible rfl)))))); (try simp only [Act.put, zA, zB, zC]))
   refine Mk.run_make rfl (by rfl) rfl (fun w => ?_) (fun W7 g7 hW7 hg hgb hgN => ?_)
   ·go_simp
   (try simp only [Act.put, zA, zB, zC])
   repeat ((first | (refine Mk.run_off rfl rfl (by rfl) ?_) | (refine Mk.run_chain_off rfl rfl (by rfl) (Mk.K0_mono _) ?_) | ((refine Mk.run_want rfl rfl (by rfl) ⟨?_, fun W hW => ?_, ?_⟩; rotate_left; (· (skip; go_simp; (try with_reducible rfl)))))); (try simp only [Act.put, zA, zB, zC]))
   refine Mk.run_end (L := [_, _]) rfl (fun W8 hW8 => ?_)
   have hst8 := (HT5.out.trans hW7).trans hW8
   have hb7 : Bx W8 g7 [.int .i64 mm.frm, .int .i64 mm.dst, .int .i64 mm.number, .int .i64 mm.shw, .slice pz mm.seats.length kz] 58 := Bx.step (show Bx W7 g7 [.int .i64 mm.frm, .int .i64 mm.dst, .int .i64 mm.number, .int .i64 mm.shw, .slice pz mm.seats.length kz] 58 from hg) hW8
   have hown8 := (HO5.out.step hW7).step hW8
   have hmz8 := HMZ0.out.keep (.of_step hst8)
   have hlt5 := HO5.out.lt
   have hu8 : SLe (avoid (fun j => S j ∨ j = w.heap.size + 3) (.slice p5 W.msgs.length c5)) W8 (.slice (some ⟨g7, 0, none⟩) 1 1) [mm] := sle_bx hb7 ⟨_, rfl, hmz8.weak (fun j _ hj => by
    have h1 := HG12.out
    have h2 := HG8.out
    have h3 := HZ.out
    rcases hj with (hj | hj) | hj
    ·have := HSL.out j hj
     exact .inl (by omega)
    ·exact .inl (by omega)
    ·have := (hlt5 j hj).1
     have := HSQ.out
     exact .inr (by omega))⟩
   refine wpl_append (α := BT.Message) (S := fun j => S j ∨ j = w.heap.size + 3) (base := wr.heap.size) (v := .slice p5 W.msgs.length c5) (l := W.msgs) (m := [mm]) eiRefMess rfl _ _ rfl rfl rfl hown8 hu8 (W.msgs.length + 1) (by simp) (W.msgs ++ [mm]) rfl (by simp only [maxLen]; omega) (by omega) hst8.size ?_
   intro p9 c9 wr2 hown9 hg9
   have hst9 : Step wr wr2 := StepX.fresh hst8 (StepX.grown (X := fun j => (Value.slice p5 W.msgs.length c5).ownBlock = some j) hg9 fun j hj _ => hj) (fun j hj => (hown8.lt j hj).1)
   have hsl9 := SO.of hown9 (fun g hg _ hs => by
    have h1 := HTR.out.size
    have h2 := HZ.out
    rcases hs with hs | hs
    ·have := HSL.out g hs; omega
    ·omega)
   have HMS := zH (hsl9.weak (T := fun j => (S j ∨ j = w.heap.size + 3) ∨ wr2.heap.size ≤ j) fun j hj e => e.elim id fun e => by omega)
   have HM9 := zH (fun j (hj : (Value.slice p9 (W.msgs.length + 1) c9).ownBlock = some j) => hown9.lt j hj)
   have HNB := zH ((HNB0.out.keep (.of_step hst9)).weak (T := fun j => j < W1.heap.size ∨ wq.heap.size ≤ j) (fun j _ hj => by have h1 := HG12.out; have h2 := HZ1.out; omega))
   have HBR2 := zH (HBR.out.step hst9)
   have HTR2 := zH (HTR.out.trans hst9)
   have HSQ2 := zH (Nat.le_trans HSQ.out hst9.size)
   have HSQ9 := zH HSQ.out
   clear HBR HTR HSQ hW7 hg hgb hgN hW8 hst8 hb7 hown8 hmz8 hlt5 hu8 hown9 hg9 hst9 hsl9 HNB0 HMZ0 HO5 HT5 HU16
   have HBR := HBR2
   have HTR := HTR2
   have HSQ := HSQ2
   clear HBR2 HTR2 HSQ2
   go_upto_region 21 with (fail)
   rcases act_two (nz_book (nz_give h b x.dst x.shw x.seats)) with ⟨b', hrr, ha⟩ | ⟨c, hrr, hc0, ha⟩
   ·have hp2 : P.2 = 0 := by rw [HP.out, ha]
    have hp1 : P.1 = b' := by rw [HP.out, ha]
    subst hp1
    have hrg : giveD h b x.dst x.shw x.seats = .ok (P.1, mm) := by
     have hq := HMM.out
     cases hr : giveD h b x.dst x.shw x.seats with
     | error c => rw [hr] at hrr; cases hrr
     | ok p =>
      obtain ⟨p1, p2⟩ := p
      rw [hr] at hrr hq
      injection hrr with hrr
      rw [hrr, hq]; rfl
    have HE := zH (show actD h W x = (⟨W.books.set i P.1, W.msgs ++ [mm]⟩, 0) from actD_done HV.out.1 HE0.out HIA.out HGB.out HBB.out.1 (by unfold deskD; rw [if_neg (by rw [HKK.out]; decide), if_neg (by rw [HKK.out]; decide), if_pos HKK.out, hrg]; rfl))
    have d9 : (P.2 != 0) = false := by rw [hp2]; rfl
    clear hp2 hrr
    (try clear e0 e1 e2 e3 e4)
    (try clear u0 u1)
    (try clear a0 a1 a2 a3 a4 a5 a6 a7 a8)
    obtain ⟨e0, e1, e2, e3, e4⟩ := cells5 (HB0.out.step HTR.out)
    obtain ⟨a0, a1, a2, a3, a4, a5, a6, a7, a8⟩ := cells9 (HB2.out.step HTR.out)
    obtain ⟨u0, u1⟩ : _ ∧ _ := ⟨(HB1.out.step HTR.out).cell 0, (HB1.out.step HTR.out).cell 1⟩
    simp only [zD, zE] at u0 u1
    have HMO := zH (show ∀ j, (.slice p9 (W.msgs.length + 1) c9 : Value).ownBlock = some j → ((.slice qm W.msgs.length nm : Value).ownBlock = some j ∨ wq.heap.size ≤ j) from fun j hj => .inr (by have := (HM9.out j hj).1; have := HSQ9.out; omega))
    have HMB := zH (show ∀ j, (.slice p9 (W.msgs.length + 1) c9 : Value).ownBlock = some j → j < wr2.heap.size from fun j hj => (HM9.out j hj).2)
    have hu23 : SLe (avoid (fun j => (S j ∨ (.slice p9 (W.msgs.length + 1) c9 : Value).ownBlock = some j) ∨ j = w.heap.size + 3) (.slice none 0 0)) wr2 (.slice (some ⟨bb, bo, none⟩) W.books.length nb) W.books := ((HOO.out.1.sl.keep (.of_step HTR.out)).weak (T := avoid (fun j => (S j ∨ (.slice p9 (W.msgs.length + 1) c9 : Value).ownBlock = some j) ∨ j = w.heap.size + 3) (.slice none 0 0)) (fun j _ hj => by
     rcases hj with ((hj | hj) | hj) | hj
     ·exact .inl (.inl hj)
     ·rcases HMO.out j hj with e | e
      ·exact .inr e
      ·exact .inl (.inr (by have h1 := HTR.out.size; have h2 := HZ.out; have h3 := HSN.out.size; have h4 := HS1.out.size; omega))
     ·exact .inl (.inr (by omega))
     ·simp [Value.ownBlock] at hj)).e
    go_upto_region 24 with (at_builtin; refine wpl_append (α := Book) (S := fun j => (S j ∨ (.slice p9 (W.msgs.length + 1) c9 : Value).ownBlock = some j) ∨ j = w.heap.size + 3) (base := wr2.heap.size) (v := .slice none 0 0) (l := []) (m := W.books) eiRefBooks rfl _ _ rfl rfl rfl (OwnL.nil _ _ _ _) hu23 W.books.length (by simp) W.books rfl (by simp only [maxLen]; omega) (by omega) (Nat.le_refl _) (fun p' c' w5 hown5 hg5 => ?_))
    have hst5 : Step wr2 w5 := StepX.grown hg5 (fun k hk _ => by simp [Value.ownBlock] at hk)
    clear hu23 hg5
    obtain ⟨g13, hg13⟩ : ∃ g, g = w5.heap.size := ⟨_, rfl⟩
    obtain ⟨W6, hW6⟩ : ∃ z9, z9 = w5.alloc (.cells #[.slice p' W.books.length c', .slice p9 (W.msgs.length + 1) c9] 49) := ⟨_, rfl⟩
    have hb13 : Bx W6 g13 [.slice p' W.books.length c', .slice p9 (W.msgs.length + 1) c9] 49 := by subst hW6 hg13; exact Bx.new _ [_, _] _
    have hst6 : Step wr2 W6 := by subst hW6; exact hst5.trans (Step.alloc _ _)
    have hown6 := hown5.step (show Step w5 W6 by subst hW6; exact Step.alloc _ _)
    rw [← hW6, ← hg13]
    have hlt13 : w5.heap.size ≤ g13 := by rw [hg13]; exact Nat.le_refl _
    have hng : ∀ g, (Value.slice p' W.books.length c').ownBlock = some g → g ≠ g13 := fun g hg e => by have := (hown5.lt g hg).2; omega
    clear hown5 hst5 hW6 hg13 hlt13
    obtain ⟨gB, cap, csB, hvb, hgb, hbxB, hcsB, _, hput⟩ := hown6.row_put hib
    rw [hvb] at hown6 hput hng hb13 ⊢
    have HNG := zH (hng gB rfl)
    have hrep : Rep.rep (avoid (fun j => (S j ∨ (.slice p9 (W.msgs.length + 1) c9 : Value).ownBlock = some j) ∨ j = w.heap.size + 3) (.slice (some ⟨gB, 0, none⟩) W.books.length cap)) W6 [.int .i64 P.1.agency, .slice ra P.1.seats.length na, .slice rb P.1.off.length nb2, .int .i64 P.1.sent, .slice rc P.1.took.length nc, .int .i64 P.1.cash] P.1 := by
     obtain ⟨cs9, he9, hr9⟩ := (HNB.out.keep (.of_step hst6))
     injection he9 with he9
     have hf9 : cs9 = [.int .i64 P.1.agency, .slice ra P.1.seats.length na, .slice rb P.1.off.length nb2, .int .i64 P.1.sent, .slice rc P.1.took.length nc, .int .i64 P.1.cash] := by
      have := congrArg Array.toList he9
      simpa using this.symm
     rw [hf9] at hr9
     refine Rep.weak (fun j _ hj => ?_) hr9
     have h1 := HZ1.out
     have h2 := HG8.out
     have h3 := HZ.out
     have h4 := HSQ.out
     rcases hj with ((hj | hj) | hj) | hj
     ·have := HSL.out j hj
      exact .inl (by omega)
     ·rcases HMO.out j hj with e | e
      ·have h5 := HOO.out.2.1.lt j e
       exact .inl (by omega)
      ·exact .inr e
     ·exact .inl (by omega)
     ·right
      simp [Value.ownBlock] at hj
      omega
    have HST6 := zH hst6
    have HPUT := zH hput
    have HREP := zH hrep
    have HB13 := zH hb13
    have HBXB := zH hbxB
    have HCSB := zH (show i * 6 + 6 ≤ csB.length from hcsB)
    have HGB0 := zH hgb
    have HBR6 := zH (HBR.out.step hst6)
    clear hvb hgb hbxB hcsB hput hng hown6 hrep hst6 hb13
    (try clear e0 e1 e2 e3 e4)
    (try clear u0 u1)
    (try clear a0 a1 a2 a3 a4 a5 a6 a7 a8)
    obtain ⟨e0, e1, e2, e3, e4⟩ := cells5 (HB0.out.step (HTR.out.trans HST6.out))
    obtain ⟨a0, a1, a2, a3, a4, a5, a6, a7, a8⟩ := cells9 (HB2.out.step (HTR.out.trans HST6.out))
    obtain ⟨u0, u1⟩ : _ ∧ _ := ⟨(HB1.out.step (HTR.out.trans HST6.out)).cell 0, (HB1.out.step (HTR.out.trans HST6.out)).cell 1⟩
    simp only [zD, zE] at u0 u1
    obtain ⟨z0, z1, z2, z3, z4, z5⟩ := cells6 HBR6.out
    have y0 := HB13.out.cell 0
    have y1 := HB13.out.cell 1
    simp only [zD, zE] at y0 y1
    have hia := HIA.out
    have hrg : (0 : Int) ≤ x.agency ∧ x.agency < (W.books.length : Int) := by omega
    have htn : x.agency.toNat = i := by omega
    clear hia
    go_upto_region 25 with (refine wpl_store (v := .agg #[.int .i64 P.1.agency, .slice ra P.1.seats.length na, .slice rb P.1.off.length nb2, .int .i64 P.1.sent, .slice rc P.1.took.length nc, .int .i64 P.1.cash]) rfl _ _ _ rfl rfl rfl HBXB.out (by kernel_rfl) (by simp [Value.cells]; exact HCSB.out) (by simp [Value.cells, Value.oneCell']) (csB.take (i * 6) ++ [.int .i64 P.1.agency, .slice ra P.1.seats.length na, .slice rb P.1.off.length nb2, .int .i64 P.1.sent, .slice rc P.1.took.length nc, .int .i64 P.1.cash] ++ csB.drop (i * 6 + 6)) rfl (fun w10 hb10 hw10 => ?_))
    have hown10 := HPUT.out w10 _ P.1 HREP.out hw10 hb10
    have hst10 : Step wr2 w10 := Step.wrote HST6.out hw10 HGB0.out
    have hb13 := HB13.out.keep (Keeps.wrote (S := fun j => j = gB) hw10 rfl) (fun e => HNG.out e.symm)
    have HO10 := zH hown10
    have HS10 := zH (HTR.out.trans hst10)
    have HSR := zH hst10
    clear hown10 hst10 hw10 hb10 HPUT HREP hrg htn z0 z1 z2 z3 z4 z5 y0 y1
    have y0 := hb13.cell 0
    have y1 := hb13.cell 1
    simp only [zD, zE] at y0 y1
    have t0 := (HB3.out.step HS10.out).cell 0
    have t1 := (HB3.out.step HS10.out).cell 1
    have tf0 := (HB3.out.step HS10.out).frozen 0
    have tf1 := (HB3.out.step HS10.out).frozen 1
    simp only [zD, zE] at t0 t1
    clear hb13
    go_wp2
    have b2 := set2r (HB3.out.step HS10.out) (.slice (some ⟨gB, 0, none⟩) W.books.length cap) (.slice p9 (W.msgs.length + 1) c9)
    refine ret_struct2 (k := 2) rfl siRefWorld rfl b2.1 rfl rfl ?_
    rw [HE.out]
    have hk2 := b2.2.keeps.mono (T := fun j => S j ∨ w.heap.size ≤ j) fun j _ e => .inr (by omega)
    have hk3 := b2.2.keeps.mono (T := fun j => S j ∨ j = w.heap.size + 3) fun j _ e => .inr e
    have hk4 := b2.2.keeps.mono (T := fun j => (S j ∨ (.slice p9 (W.msgs.length + 1) c9 : Value).ownBlock = some j) ∨ j = w.heap.size + 3) fun j _ e => .inr e
    have hsl := SO.of HO10.out (fun g hg _ hs => by
     have h1 := HTR.out.size
     have h2 := HZ.out
     have h6 := HS1.out.size
     have h7 := HSN.out.size
     rcases hs with (hs | hs) | hs
     ·have := HSL.out g hs; omega
     ·rcases HMO.out g hs with e | e
      ·have h5 := HOO.out.2.1.lt g e
       omega
      ·exact absurd hg (by have := HMB.out g hs; omega)
     ·omega)
    exact ⟨_, rfl, ⟨_, _, rfl, (hsl.keep hk4).weak (fun _ _ h => .inl h), ((HMS.out.keep (Keeps.of_step HSR.out)).keep (hk3.mono fun _ _ e => .inl e)).weak (fun j hj e => e.elim (fun e => .inl (.inl e)) (fun e => .inr (by have h1 := HGB0.out; simp [Value.ownBlock] at e; omega)))⟩, StepX.fresh (HS.out.trans HS10.out) b2.2 (fun j hj => by omega)⟩
   ·have hp2 : P.2 = c := by rw [HP.out, ha]
    have hrg : giveD h b x.dst x.shw x.seats = .error c := by
     cases hr : giveD h b x.dst x.shw x.seats with
     | error d => rw [hr] at hrr; injection hrr with hrr; rw [hrr]
     | ok p => rw [hr] at hrr; cases hrr
    have HE := zH (show actD h W x = (W, P.2) by
     rw [hp2]
     exact actD_refused HV.out.1 HE0.out HIA.out HGB.out HBB.out.1 (by unfold deskD; rw [if_neg (by rw [HKK.out]; decide), if_neg (by rw [HKK.out]; decide), if_pos HKK.out, hrg]; rfl))
    have d9 : (P.2 != 0) = true := by rw [bne_iff_ne, hp2]; exact hc0
    clear hp2 hc0 hrr
    (try clear e0 e1 e2 e3 e4)
    (try clear u0 u1)
    (try clear a0 a1 a2 a3 a4 a5 a6 a7 a8)
    obtain ⟨e0, e1, e2, e3, e4⟩ := cells5 (HB0.out.step HTR.out)
    obtain ⟨a0, a1, a2, a3, a4, a5, a6, a7, a8⟩ := cells9 (HB2.out.step HTR.out)
    obtain ⟨u0, u1⟩ : _ ∧ _ := ⟨(HB1.out.step HTR.out).cell 0, (HB1.out.step HTR.out).cell 1⟩
    simp only [zD, zE] at u0 u1
    have t0 := (HB3.out.step HTR.out).cell 0
    have t1 := (HB3.out.step HTR.out).cell 1
    have tf0 := (HB3.out.step HTR.out).frozen 0
    have tf1 := (HB3.out.step HTR.out).frozen 1
    simp only [zD, zE] at t0 t1
    go_wp2
    have b2 := set2r (HB3.out.step HTR.out) (.slice (some ⟨bb, bo, none⟩) W.books.length nb) (.slice (qm) W.msgs.length nm)
    refine ret_struct2 (k := 2) rfl siRefWorld rfl b2.1 rfl rfl ?_
    rw [HE.out]
    have hk2 := b2.2.keeps.mono (T := fun j => S j ∨ w.heap.size ≤ j) fun j _ e => .inr (by omega)
    exact ⟨_, rfl, ⟨_, _, rfl, ((HOO.out.keep (.of_step HTR.out)).keep hk2).weak (fun _ _ h => .inl h)⟩, StepX.fresh (HS.out.trans HTR.out) b2.2 (fun j hj => by omega)⟩
  ·have e1 : (x.kind == 1) = false := by simp [hk]
   have e2 : (x.kind == 2) = false := by simp [hk]
   have e3 : (x.kind == 3) = false := by simp [hk]
   have e5 : (x.kind == 5) = true := by simp [hk]
   have HKK := zH hk
   clear hk d1 d2 hl1 hl2
   go_wp2_with fail
   refine (RLose_any (fun _ => False) h b _ _ x.shw x.day _ (HH.out.keep (.of_step HS1.out)) (av0 HBV.out) HV.out.1 HBB.out.1).mono ?_
   rintro e wq ⟨v6, l6, rfl, hv6, _, hSn⟩
   obtain ⟨P, hP⟩ : ∃ P, P = actR (bookOf (loseD h b x.shw x.day)) := ⟨_, rfl⟩
   rw [← hP] at hv6 ⊢
   obtain ⟨x1, x2, x4, rfl, t1, t2, t4⟩ := hv6.book
   obtain ⟨ra, na, rfl⟩ := t1.form
   obtain ⟨rb, nb2, rfl⟩ := t2.form
   obtain ⟨rc, nc, rfl⟩ := t4.form
   have HP := zH hP
   have HV6 := zH hv6
   have HSN := zH hSn
   clear hP t1 t2 t4 hv6 hSn
   have hb9q := HB9.out.step HSN.out
   obtain ⟨z0, z1, z2, z3, z4, z5⟩ := cells6 hb9q
   have tz0 := hb9q.frozen 0
   have tz1 := hb9q.frozen 1
   have tz2 := hb9q.frozen 2
   have tz3 := hb9q.frozen 3
   have tz4 := hb9q.frozen 4
   have tz5 := hb9q.frozen 5
   go_upto_region 21 with (fail)
   have b6 := set6 hb9q (.int .i64 P.1.agency) (.slice ra P.1.seats.length na) (.slice rb P.1.off.length nb2) (.int .i64 P.1.sent) (.slice rc P.1.took.length nc) (.int .i64 P.1.cash)
   generalize ((((((wq.setCell ⟨g8 + 1, 0, none⟩ (.int .i64 P.1.agency)).setCell ⟨g8 + 1, 1, none⟩ (.slice ra P.1.seats.length na)).setCell ⟨g8 + 1, 2, none⟩ (.slice rb P.1.off.length nb2)).setCell ⟨g8 + 1, 3, none⟩ (.int .i64 P.1.sent)).setCell ⟨g8 + 1, 4, none⟩ (.slice rc P.1.took.length nc)).setCell ⟨g8 + 1, 5, none⟩ (.int .i64 P.1.cash)) = wr at b6 ⊢
   clear hb9q z0 z1 z2 z3 z4 z5 tz0 tz1 tz2 tz3 tz4 tz5
   have HBR := zH (b6.1)
   have HTR := zH (StepX.fresh (HS1.out.trans HSN.out) (b6.2) (fun j hj => by have := HG8.out; omega))
   have hnb : AV (fun j => j < W1.heap.size ∨ wq.heap.size ≤ j) wq (.agg #[.int .i64 P.1.agency, .slice ra P.1.seats.length na, .slice rb P.1.off.length nb2, .int .i64 P.1.sent, .slice rc P.1.took.length nc, .int .i64 P.1.cash]) P.1 := HV6.out.weak (fun j hj hs => by
    unfold Old
    rcases hs with hs | hs
    ·exact hs
    ·omega)
   have HNB := zH ((hnb.keep ((b6.2).keeps.mono (T := fun j => j < W1.heap.size ∨ wq.heap.size ≤ j) fun j _ e => .inl (by have := HZ1.out; have e : j = g8 + 1 := e; omega))))
   have HSQ := zH (b6.2).size
   clear hnb
   clear b6
   rcases act_two (nz_book (nz_lose h b x.shw x.day)) with ⟨b', hrr, ha⟩ | ⟨c, hrr, hc0, ha⟩
   ·have hp2 : P.2 = 0 := by rw [HP.out, ha]
    have hp1 : P.1 = b' := by rw [HP.out, ha]
    subst hp1
    have HE := zH (show actD h W x = (⟨W.books.set i P.1, W.msgs ++ []⟩, 0) from actD_done HV.out.1 HE0.out HIA.out HGB.out HBB.out.1 (by unfold deskD; rw [if_neg (by rw [HKK.out]; decide), if_neg (by rw [HKK.out]; decide), if_neg (by rw [HKK.out]; decide), if_neg (by rw [HKK.out]; decide), hrr]; rfl))
    have d9 : (P.2 != 0) = false := by rw [hp2]; rfl
    clear hp2 hrr
    (try clear e0 e1 e2 e3 e4)
    (try clear u0 u1)
    (try clear a0 a1 a2 a3 a4 a5 a6 a7 a8)
    obtain ⟨e0, e1, e2, e3, e4⟩ := cells5 (HB0.out.step HTR.out)
    obtain ⟨a0, a1, a2, a3, a4, a5, a6, a7, a8⟩ := cells9 (HB2.out.step HTR.out)
    obtain ⟨u0, u1⟩ : _ ∧ _ := ⟨(HB1.out.step HTR.out).cell 0, (HB1.out.step HTR.out).cell 1⟩
    simp only [zD, zE] at u0 u1
    have HMO := zH (show ∀ j, (.slice qm W.msgs.length nm : Value).ownBlock = some j → ((.slice qm W.msgs.length nm : Value).ownBlock = some j ∨ wq.heap.size ≤ j) from fun j hj => .inl hj)
    have HMB := zH (show ∀ j, (.slice qm W.msgs.length nm : Value).ownBlock = some j → j < wr.heap.size from fun j hj => by have h1 := HOO.out.2.1.lt j hj; have h2 := HTR.out.size; omega)
    have hu23 : SLe (avoid (fun j => (S j ∨ (.slice qm W.msgs.length nm : Value).ownBlock = some j) ∨ j = w.heap.size + 3) (.slice none 0 0)) wr (.slice (some ⟨bb, bo, none⟩) W.books.length nb) W.books := ((HOO.out.1.sl.keep (.of_step HTR.out)).weak (T := avoid (fun j => (S j ∨ (.slice qm W.msgs.length nm : Value).ownBlock = some j) ∨ j = w.heap.size + 3) (.slice none 0 0)) (fun j _ hj => by
     rcases hj with ((hj | hj) | hj) | hj
     ·exact .inl (.inl hj)
     ·rcases HMO.out j hj with e | e
      ·exact .inr e
      ·exact .inl (.inr (by have h1 := HTR.out.size; have h2 := HZ.out; have h3 := HSN.out.size; have h4 := HS1.out.size; omega))
     ·exact .inl (.inr (by omega))
     ·simp [Value.ownBlock] at hj)).e
    go_upto_region 24 with (at_builtin; refine wpl_append (α := Book) (S := fun j => (S j ∨ (.slice qm W.msgs.length nm : Value).ownBlock = some j) ∨ j = w.heap.size + 3) (base := wr.heap.size) (v := .slice none 0 0) (l := []) (m := W.books) eiRefBooks rfl _ _ rfl rfl rfl (OwnL.nil _ _ _ _) hu23 W.books.length (by simp) W.books rfl (by simp only [maxLen]; omega) (by omega) (Nat.le_refl _) (fun p' c' w5 hown5 hg5 => ?_))
    have hst5 : Step wr w5 := StepX.grown hg5 (fun k hk _ => by simp [Value.ownBlock] at hk)
    clear hu23 hg5
    obtain ⟨g13, hg13⟩ : ∃ g, g = w5.heap.size := ⟨_, rfl⟩
    obtain ⟨W6, hW6⟩ : ∃ z9, z9 = w5.alloc (.cells #[.slice p' W.books.length c', .slice qm W.msgs.length nm] 49) := ⟨_, rfl⟩
    have hb13 : Bx W6 g13 [.slice p' W.books.length c', .slice qm W.msgs.length nm] 49 := by subst hW6 hg13; exact Bx.new _ [_, _] _
    have hst6 : Step wr W6 := by subst hW6; exact hst5.trans (Step.alloc _ _)
    have hown6 := hown5.step (show Step w5 W6 by subst hW6; exact Step.alloc _ _)
    rw [← hW6, ← hg13]
    have hlt13 : w5.heap.size ≤ g13 := by rw [hg13]; exact Nat.le_refl _
    have hng : ∀ g, (Value.slice p' W.books.length c').ownBlock = some g → g ≠ g13 := fun g hg e => by have := (hown5.lt g hg).2; omega
    clear hown5 hst5 hW6 hg13 hlt13
    obtain ⟨gB, cap, csB, hvb, hgb, hbxB, hcsB, _, hput⟩ := hown6.row_put hib
    rw [hvb] at hown6 hput hng hb13 ⊢
    have HNG := zH (hng gB rfl)
    have hrep : Rep.rep (avoid (fun j => (S j ∨ (.slice qm W.msgs.length nm : Value).ownBlock = some j) ∨ j = w.heap.size + 3) (.slice (some ⟨gB, 0, none⟩) W.books.length cap)) W6 [.int .i64 P.1.agency, .slice ra P.1.seats.length na, .slice rb P.1.off.length nb2, .int .i64 P.1.sent, .slice rc P.1.took.length nc, .int .i64 P.1.cash] P.1 := by
     obtain ⟨cs9, he9, hr9⟩ := (HNB.out.keep (.of_step hst6))
     injection he9 with he9
     have hf9 : cs9 = [.int .i64 P.1.agency, .slice ra P.1.seats.length na, .slice rb P.1.off.length nb2, .int .i64 P.1.sent, .slice rc P.1.took.length nc, .int .i64 P.1.cash] := by
      have := congrArg Array.toList he9
      simpa using this.symm
     rw [hf9] at hr9
     refine Rep.weak (fun j _ hj => ?_) hr9
     have h1 := HZ1.out
     have h2 := HG8.out
     have h3 := HZ.out
     have h4 := HSQ.out
     rcases hj with ((hj | hj) | hj) | hj
     ·have := HSL.out j hj
      exact .inl (by omega)
     ·rcases HMO.out j hj with e | e
      ·have h5 := HOO.out.2.1.lt j e
       exact .inl (by omega)
      ·exact .inr e
     ·exact .inl (by omega)
     ·right
      simp [Value.ownBlock] at hj
      omega
    have HST6 := zH hst6
    have HPUT := zH hput
    have HREP := zH hrep
    have HB13 := zH hb13
    have HBXB := zH hbxB
    have HCSB := zH (show i * 6 + 6 ≤ csB.length from hcsB)
    have HGB0 := zH hgb
    have HBR6 := zH (HBR.out.step hst6)
    clear hvb hgb hbxB hcsB hput hng hown6 hrep hst6 hb13
    (try clear e0 e1 e2 e3 e4)
    (try clear u0 u1)
    (try clear a0 a1 a2 a3 a4 a5 a6 a7 a8)
    obtain ⟨e0, e1, e2, e3, e4⟩ := cells5 (HB0.out.step (HTR.out.trans HST6.out))
    obtain ⟨a0, a1, a2, a3, a4, a5, a6, a7, a8⟩ := cells9 (HB2.out.step (HTR.out.trans HST6.out))
    obtain ⟨u0, u1⟩ : _ ∧ _ := ⟨(HB1.out.step (HTR.out.trans HST6.out)).cell 0, (HB1.out.step (HTR.out.trans HST6.out)).cell 1⟩
    simp only [zD, zE] at u0 u1
    obtain ⟨z0, z1, z2, z3, z4, z5⟩ := cells6 HBR6.out
    have y0 := HB13.out.cell 0
    have y1 := HB13.out.cell 1
    simp only [zD, zE] at y0 y1
    have hia := HIA.out
    have hrg : (0 : Int) ≤ x.agency ∧ x.agency < (W.books.length : Int) := by omega
    have htn : x.agency.toNat = i := by omega
    clear hia
    go_upto_region 25 with (refine wpl_store (v := .agg #[.int .i64 P.1.agency, .slice ra P.1.seats.length na, .slice rb P.1.off.length nb2, .int .i64 P.1.sent, .slice rc P.1.took.length nc, .int .i64 P.1.cash]) rfl _ _ _ rfl rfl rfl HBXB.out (by kernel_rfl) (by simp [Value.cells]; exact HCSB.out) (by simp [Value.cells, Value.oneCell']) (csB.take (i * 6) ++ [.int .i64 P.1.agency, .slice ra P.1.seats.length na, .slice rb P.1.off.length nb2, .int .i64 P.1.sent, .slice rc P.1.took.length nc, .int .i64 P.1.cash] ++ csB.drop (i * 6 + 6)) rfl (fun w10 hb10 hw10 => ?_))
    have hown10 := HPUT.out w10 _ P.1 HREP.out hw10 hb10
    have hst10 : Step wr w10 := Step.wrote HST6.out hw10 HGB0.out
    have hb13 := HB13.out.keep (Keeps.wrote (S := fun j => j = gB) hw10 rfl) (fun e => HNG.out e.symm)
    have HO10 := zH hown10
    have HS10 := zH (HTR.out.trans hst10)
    have HSR := zH hst10
    clear hown10 hst10 hw10 hb10 HPUT HREP hrg htn z0 z1 z2 z3 z4 z5 y0 y1
    have y0 := hb13.cell 0
    have y1 := hb13.cell 1
    simp only [zD, zE] at y0 y1
    have t0 := (HB3.out.step HS10.out).cell 0
    have t1 := (HB3.out.step HS10.out).cell 1
    have tf0 := (HB3.out.step HS10.out).frozen 0
    have tf1 := (HB3.out.step HS10.out).frozen 1
    simp only [zD, zE] at t0 t1
    clear hb13
    go_wp2
    have b2 := set2r (HB3.out.step HS10.out) (.slice (some ⟨gB, 0, none⟩) W.books.length cap) (.slice qm W.msgs.length nm)
    refine ret_struct2 (k := 2) rfl siRefWorld rfl b2.1 rfl rfl ?_
    rw [HE.out]
    have hk2 := b2.2.keeps.mono (T := fun j => S j ∨ w.heap.size ≤ j) fun j _ e => .inr (by omega)
    have hk3 := b2.2.keeps.mono (T := fun j => S j ∨ j = w.heap.size + 3) fun j _ e => .inr e
    have hk4 := b2.2.keeps.mono (T := fun j => (S j ∨ (.slice qm W.msgs.length nm : Value).ownBlock = some j) ∨ j = w.heap.size + 3) fun j _ e => .inr e
    have hsl := SO.of HO10.out (fun g hg _ hs => by
     have h1 := HTR.out.size
     have h2 := HZ.out
     have h6 := HS1.out.size
     have h7 := HSN.out.size
     rcases hs with (hs | hs) | hs
     ·have := HSL.out g hs; omega
     ·rcases HMO.out g hs with e | e
      ·have h5 := HOO.out.2.1.lt g e
       omega
      ·exact absurd hg (by have := HMB.out g hs; omega)
     ·omega)
    exact ⟨_, rfl, ⟨_, _, rfl, (hsl.keep hk4).weak (fun _ _ h => .inl h), by rw [List.append_nil]; exact (HOO.out.2.keep (Keeps.of_step HS10.out) |>.keep (hk2.mono fun _ _ e => .inl e)).weak (fun j hj e => e.elim (fun e => .inl (.inl e)) (fun e => .inl (.inr (by have h1 := HGB0.out; have h2 := HTR.out.size; have h3 := HZ.out; simp [Value.ownBlock] at e; omega))))⟩, StepX.fresh (HS.out.trans HS10.out) b2.2 (fun j hj => by omega)⟩
   ·have hp2 : P.2 = c := by rw [HP.out, ha]
    have HE := zH (show actD h W x = (W, P.2) by
     rw [hp2]
     exact actD_refused HV.out.1 HE0.out HIA.out HGB.out HBB.out.1 (by unfold deskD; rw [if_neg (by rw [HKK.out]; decide), if_neg (by rw [HKK.out]; decide), if_neg (by rw [HKK.out]; decide), if_neg (by rw [HKK.out]; decide), hrr]; rfl))
    have d9 : (P.2 != 0) = true := by rw [bne_iff_ne, hp2]; exact hc0
    clear hp2 hc0 hrr
    (try clear e0 e1 e2 e3 e4)
    (try clear u0 u1)
    (try clear a0 a1 a2 a3 a4 a5 a6 a7 a8)
    obtain ⟨e0, e1, e2, e3, e4⟩ := cells5 (HB0.out.step HTR.out)
    obtain ⟨a0, a1, a2, a3, a4, a5, a6, a7, a8⟩ := cells9 (HB2.out.step HTR.out)
    obtain ⟨u0, u1⟩ : _ ∧ _ := ⟨(HB1.out.step HTR.out).cell 0, (HB1.out.step HTR.out).cell 1⟩
    simp only [zD, zE] at u0 u1
    have t0 := (HB3.out.step HTR.out).cell 0
    have t1 := (HB3.out.step HTR.out).cell 1
    have tf0 := (HB3.out.step HTR.out).frozen 0
    have tf1 := (HB3.out.step HTR.out).frozen 1
    simp only [zD, zE] at t0 t1
    go_wp2
    have b2 := set2r (HB3.out.step HTR.out) (.slice (some ⟨bb, bo, none⟩) W.books.length nb) (.slice (qm) W.msgs.length nm)
    refine ret_struct2 (k := 2) rfl siRefWorld rfl b2.1 rfl rfl ?_
    rw [HE.out]
    have hk2 := b2.2.keeps.mono (T := fun j => S j ∨ w.heap.size ≤ j) fun j _ e => .inr (by omega)
    exact ⟨_, rfl, ⟨_, _, rfl, ((HOO.out.keep (.of_step HTR.out)).keep hk2).weak (fun _ _ h => .inl h)⟩, StepX.fresh (HS.out.trans HTR.out) b2.2 (fun j hj => by omega)⟩
theorem RRun_own (S1 S2 : Nat → Prop) (h : House) (l : List ActT) (v u : Value) (w : World) (hv : AV S1 w v h) (hu : SL S2 w u l) (hok : valid h = true) (hsl : ∀ i (hi : i < l.length), l[i].seats.length ≤ 1000000) (hl : l.length ≤ 900) :
  Calls Tryz.prog 16 #[v, u] w fun e w' => ∃ vw ve, e = .returned (.tuple #[vw, ve]) ∧ WO (Old w) w' vw (worldAt h l l.length) ∧ SL (Old w) w' ve (errsTo h l l.length) ∧ Step w w' := by
 obtain ⟨c0, c1, c2, c3, c4, rfl, h0, h1, h2, h3, h4⟩ := hv.house
 obtain ⟨p0, k0, rfl⟩ := h0.form
 obtain ⟨p1, k1, rfl⟩ := h1.form
 obtain ⟨p2, k2, rfl⟩ := h2.form
 obtain ⟨p3, k3, rfl⟩ := h3.form
 obtain ⟨p4, k4, rfl⟩ := h4.form
 obtain ⟨pu, cu, bu, ou, rfl, _, _, hpu, hcu, _⟩ := hu.acts
 obtain ⟨W0, hW0⟩ : ∃ W0, W0 = (w.alloc (.cells #[.slice p0 h.sectors.length k0, .slice p1 h.prices.length k1, .slice p2 h.dates.length k2, .slice p3 h.frm.length k3, .slice p4 h.holds.length k4] 26)).alloc (.cells #[.slice none 0 0, .slice none 0 0] 49) := ⟨_, rfl⟩
 have hS : Step w W0 := by subst hW0; exact (by with_reducible repeat (first | assumption | exact Step.refl _ | apply Step.s_alloc | apply Step.s_drew | apply Step.s_drewN | refine Step.trans ?_ (by assumption)))
 have hb0 : Bx W0 w.heap.size [.slice p0 h.sectors.length k0, .slice p1 h.prices.length k1, .slice p2 h.dates.length k2, .slice p3 h.frm.length k3, .slice p4 h.holds.length k4] 26 := by subst hW0; exact (Bx.new _ [_, _, _, _, _] _).alloc _
 have hb4 : Bx W0 (w.heap.size + 1) [.slice none 0 0, .slice none 0 0] 49 := by subst hW0; exact Bx.new' _ [_, _] _ _ (by simp)
 have hz0 : W0.heap.size = w.heap.size + 2 := by subst hW0; simp
 have HH := zH (av0 hv)
 have HU := zH (And.intro hpu hcu)
 have HS := zH hS
 have HB0 := zH hb0
 have HB4 := zH hb4
 have HZ := zH hz0
 have HW := zH hW0
 have HV := zH (And.intro hok hsl)
 have hl9 := hl
 clear hv hu hS hb0 hb4 hz0 hW0 hok hsl hl hpu hcu h0 h1 h2 h3 h4
 go_enter Tryz.func16, Tryz.ntmps16
 go_upto_region 1 with (fail)
 rw [← HW.out]
 clear HW
 obtain ⟨e0, e1, e2, e3, e4⟩ := cells5 HB0.out
 go_wp2_with fail
 refine (RStart_own (fun _ => False) h _ _ (HH.out.keep (.of_step HS.out)) HV.out.1).mono ?_
 rintro e wn ⟨v6, rfl, hv6, hSn⟩
 obtain ⟨x0, x1, rfl, tt⟩ := hv6
 have t0 := tt.sl.1
 have t1 := tt.sl.2
 obtain ⟨pb, cb, rfl⟩ := t0.form
 obtain ⟨pm, cm, rfl⟩ := t1.form
 have HVW := zH tt
 have HSN := zH hSn
 clear tt t0 t1 hSn e0 e1 e2 e3 e4
 go_upto_region 4 with (fail)
 obtain ⟨g6, hg6⟩ : ∃ g, g = wn.heap.size := ⟨_, rfl⟩
 obtain ⟨W6, hW6⟩ : ∃ z9, z9 = wn.alloc (.cells #[.slice pb (startD h).books.length cb, .slice pm (startD h).msgs.length cm] 49) := ⟨_, rfl⟩
 have hb6 : Bx W6 g6 [.slice pb (startD h).books.length cb, .slice pm (startD h).msgs.length cm] 49 := by subst hW6 hg6; exact Bx.new _ [_, _] _
 have hS6 : Step wn W6 := by subst hW6; exact Step.alloc _ _
 have hz6 : W6.heap.size = g6 + 1 := by subst hW6 hg6; simp
 rw [← hW6, ← hg6]
 have hg0 : W0.heap.size ≤ g6 := by rw [hg6]; exact HSN.out.size
 have HG6 := zH (And.intro hg0 hz6)
 have HST := zH (HSN.out.trans hS6)
 have HWA := zH (show WP (fun j => (j < w.heap.size + 2 ∨ j = g6) ∨ (Value.slice none 0 0).ownBlock = some j) W6 (.slice pb (worldAt h l 0).books.length cb) (.slice pm (worldAt h l 0).msgs.length cm) (worldAt h l 0) from
  (HVW.out.weak (fun j hj hs => by unfold Old; have := HZ.out; rcases hs with (hs | hs) | hs <;> first | omega | simp [Value.ownBlock] at hs)).keep (.of_step hS6))
 have HB6 := zH hb6
 clear hb6 hS6 hW6 hg6 hg0 hz6 HVW HSN
 go_loopw [7, 8] (fun v7 i wr => ∃ (k : Nat) (pb : Option Addr) (cb : Nat) (pm : Option Addr) (cm : Nat), k ≤ l.length ∧ i = .int .i64 k ∧ Bx wr g6 [.slice pb (worldAt h l k).books.length cb, .slice pm (worldAt h l k).msgs.length cm] 49 ∧ WP (fun j => (j < w.heap.size + 2 ∨ j = g6) ∨ v7.ownBlock = some j) wr (.slice pb (worldAt h l k).books.length cb) (.slice pm (worldAt h l k).msgs.length cm) (worldAt h l k) ∧ OwnL (fun _ => False) W6.heap.size 3 wr v7 (errsTo h l k) ∧ Keeps (fun j => j = g6) W6 wr ∧ Step w wr) (fun _ i _ => l.length - (intOf i).toNat)
 case atStart => exact ⟨0, pb, cb, pm, cm, Nat.zero_le _, rfl, HB6.out, HWA.out, OwnL.nil _ _ _ _, Keeps.refl _ _, HS.out.trans HST.out⟩
 case round =>
  obtain ⟨k, pb, cb, pm, cm, hk, rfl, hbx, hwd, hown, hkp, hT⟩ := hrel
  clear HB6 HWA
  obtain ⟨p7, c7, rfl⟩ : ∃ p c, u7 = .slice p (errsTo h l k).length c := by obtain ⟨p, c, e, _, _⟩ := hown.form; exact ⟨p, c, e⟩
  have HBX := zH hbx
  have HWD := zH hwd
  have HOW := zH hown
  have HKP := zH hkp
  have HT := zH hT
  have hb0 := (HB0.out.step HST.out).keep hkp (by have := HG6.out; have := HZ.out; omega)
  have HBH := zH hb0
  clear hbx hwd hown hkp hT hb0
  by_cases hlt : k < l.length
  ·obtain rfl := HU.out.1 (by omega)
   obtain ⟨c8, ⟨a0, a1, a2, a3, a4, a5, a6, a7, a8⟩, hs8, hk0, hk1⟩ := HU.out.2 k hlt
   obtain ⟨x, hx⟩ : ∃ x, x = l[k] := ⟨_, rfl⟩
   have hgx : l.getD k noAct = x := by rw [hx]; simp [List.getD_eq_getElem?_getD, hlt]
   have hxs : x.seats.length ≤ 1000000 := by rw [hx]; exact HV.out.2 k hlt
   rw [← hx] at a0 a1 a2 a3 a4 a5 a6 a7 hs8 hk0 hk1
   obtain ⟨p8, k8, hf8⟩ := hs8.form
   subst hf8
   have HXA := zH (show AV S2 w (.agg #[.int .u8 x.kind, .int .i64 x.agency, .int .i64 x.shw, .int .i64 x.seat, .int .i64 x.buyer, .int .i64 x.day, .int .i64 x.dst, .int .i64 x.msg, .slice p8 x.seats.length k8]) x from ⟨_, rfl, _, rfl, hs8, hk0, hk1⟩)
   have HGX := zH (And.intro hgx hxs)
   have a0 := (HT.out).kc a0; have a1 := (HT.out).kc a1; have a2 := (HT.out).kc a2; have a3 := (HT.out).kc a3; have a4 := (HT.out).kc a4; have a5 := (HT.out).kc a5; have a6 := (HT.out).kc a6; have a7 := (HT.out).kc a7; have a8 := (HT.out).kc a8
   clear hx hgx hxs hs8 hk0 hk1
   obtain ⟨e0, e1, e2, e3, e4⟩ := cells5 HBH.out
   obtain ⟨q0, q1⟩ : _ ∧ _ := ⟨HBX.out.cell 0, HBX.out.cell 1⟩
   simp only [zD, zE] at q0 q1
   have hrg : (0 : Int) ≤ (k : Int) ∧ (k : Int) < (l.length : Int) := by omega
   go_upto_region 6 with (fail)
   refine wp_region_seqM (fun c d v a w h => by cases d <;> exact h) (kdOf [6] [(10, 49, .agg #[.slice none 0 0, .slice none 0 0])]) [0, 0, 0, 0, 12, 28, 63, 127, 255, 255, 0, 1535, 4095] [0, 1, 2, 3, 4, 5, 6, 7, 8, 9, 10] [11, 12] (by kernel_rfl) (by kernel_rfl) (fun i T z hi hk => by simp only [List.mem_cons, List.not_mem_nil, or_false] at hi; rcases hi with rfl | rfl | rfl | rfl | rfl | rfl | rfl | rfl | rfl | rfl | rfl <;> simp [kdOf] at hk <;> (obtain ⟨rfl, rfl⟩ := hk; first | (show Option.bind _ _ = some _; kernel_rfl) | (refine ⟨_, rfl, fun _ _ => ?_⟩; go_simp))) ?_
   intro Wx hWx
   have e0 := (hWx).kc e0; have e1 := (hWx).kc e1; have e2 := (hWx).kc e2; have e3 := (hWx).kc e3; have e4 := (hWx).kc e4; have q0 := (hWx).kc q0; have q1 := (hWx).kc q1; have a0 := (hWx).kc a0; have a1 := (hWx).kc a1; have a2 := (hWx).kc a2; have a3 := (hWx).kc a3; have a4 := (hWx).kc a4; have a5 := (hWx).kc a5; have a6 := (hWx).kc a6; have a7 := (hWx).kc a7; have a8 := (hWx).kc a8
   repeat ((first | (refine run_off rfl rfl (by rfl) ?_) | (refine run_chain_off rfl rfl (by rfl) (K0_mono _) ?_) | ((refine run_want rfl rfl (by rfl) ⟨?_, fun W hW => ?_, ?_⟩; rotate_left; (· (have d0 := hW.kc e0; have d1 := hW.kc e1; have d2 := hW.kc e2; have d3 := hW.kc e3; have d4 := hW.kc e4; have d5 := hW.kc q0; have d6 := hW.kc q1; have d7 := hW.kc a0; have d8 := hW.kc a1; have d9 := hW.kc a2; have d10 := hW.kc a3; have d11 := hW.kc a4; have d12 := hW.kc a5; have d13 := hW.kc a6; have d14 := hW.kc a7; have d15 := hW.kc a8; go_simp; (try with_reducible rfl)))))); (try simp only [Act.put, zA, zB, zC]))
   clear e0 e1 e2 e3 e4 q0 q1 a0 a1 a2 a3 a4 a5 a6 a7 a8 hrg
   refine run_chain rfl rfl (by rfl) (fun Wi hWi K' hK => ?_)
   have HTi := zH (hWx.trans hWi)
   clear hWx hWi
   go_simp
   have hwk : ∀ j, j < wr.heap.size → (((j < w.heap.size + 2 ∨ j = g6) ∨ (Value.slice p7 (errsTo h l k).length c7).ownBlock = some j) ∨ (wr.heap.size ≤ j ∧ j < Wi.heap.size)) → ((j < w.heap.size + 2 ∨ j = g6) ∨ (Value.slice p7 (errsTo h l k).length c7).ownBlock = some j) := fun j hj hs => hs.elim id (fun e => by omega)
   have hwok := world_ok HV.out.1 l k
   have hml := msgs_le HV.out.1 l k
   refine (RDo_own (fun j => ((j < w.heap.size + 2 ∨ j = g6) ∨ (Value.slice p7 (errsTo h l k).length c7).ownBlock = some j) ∨ (wr.heap.size ≤ j ∧ j < Wi.heap.size)) (fun _ => False) S2 h (worldAt h l k) x _ _ _ _ (HH.out.keep (.of_step (HT.out.trans HTi.out))) ⟨_, _, rfl, (HWD.out.weak hwk).keep (.of_step HTi.out)⟩ (HXA.out.keep (.of_step (HT.out.trans HTi.out))) (fun j hj => by have h1 := HTi.out.size; have h2 := HKP.out.1; have h3 := HG6.out; have h4 := HZ.out; rcases hj with ((hj | hj) | hj) | hj <;> first | omega | (have := (HOW.out.lt j hj).2; omega)) HV.out.1 hwok HGX.out.2 (by omega)).mono ?_
   rintro e wq ⟨v9, rfl, hv9, hSn⟩
   clear hwk hwok hml
   have hst : (actD h (worldAt h l k) x).1 = worldAt h l (k + 1) := by rw [← HGX.out.1]; rfl
   have her : errsTo h l k ++ [(actD h (worldAt h l k) x).2] = errsTo h l (k + 1) := by rw [errsTo_succ, ← HGX.out.1]; rfl
   rw [hst] at hv9
   obtain ⟨er, her2⟩ : ∃ e, e = (actD h (worldAt h l k) x).2 := ⟨_, rfl⟩
   rw [← her2] at her ⊢
   have HER := zH her
   clear hst her her2
   obtain ⟨x0, x1, rfl, tt⟩ := hv9
   have t0 := tt.sl.1
   have t1 := tt.sl.2
   obtain ⟨pb2, cb2, rfl⟩ := t0.form
   obtain ⟨pm2, cm2, rfl⟩ := t1.form
   have HTT := zH tt
   have HTQ := zH (HTi.out.trans hSn)
   refine hK _ _ (StepX.of hSn) ?_
   clear hK tt t0 t1 hSn HTi
   (try simp only [Act.put, zA, zB, zC])
   repeat ((first | (refine run_off rfl rfl (by rfl) ?_) | (refine run_chain_off rfl rfl (by rfl) (K0_mono _) ?_) | ((refine run_want rfl rfl (by rfl) ⟨?_, fun W hW => ?_, ?_⟩; rotate_left; (· (skip; go_simp; (try with_reducible rfl)))))); (try simp only [Act.put, zA, zB, zC]))
   refine run_alloc rfl rfl (fun W5 g9 hW5 hg hgb hgN => ?_)
   have hno : ∀ j, j < wq.heap.size → (((j < w.heap.size + 2 ∨ j = g6) ∨ (Value.slice p7 (errsTo h l k).length c7).ownBlock = some j) ∨ j = g9) → (((j < w.heap.size + 2 ∨ j = g6) ∨ (Value.slice p7 (errsTo h l k).length c7).ownBlock = some j) ∨ (wr.heap.size ≤ j ∧ j < Wi.heap.size)) := fun j hj hs => by
    rcases hs with hs | hs
    ·exact .inl hs
    ·exact .inr (by omega)
   have HNO := zH hno
   clear hno
   (try simp only [Act.put, zA, zB, zC])
   repeat ((first | (refine run_off rfl rfl (by rfl) ?_) | (refine run_chain_off rfl rfl (by rfl) (K0_mono _) ?_) | ((refine run_want rfl rfl (by rfl) ⟨?_, fun W hW => ?_, ?_⟩; rotate_left; (· (skip; go_simp; (try with_reducible rfl)))))); (try simp only [Act.put, zA, zB, zC]))
   refine run_end (L := [_, _]) rfl (fun W7 hW7 => ?_)
   have hb9 := Bx.step (w := W5) (cs := [_, _]) hg hW7
   refine wpl_store (v := .agg #[.slice pb2 (worldAt h l (k + 1)).books.length cb2, .slice pm2 (worldAt h l (k + 1)).msgs.length cm2]) rfl _ _ _ rfl rfl rfl hb9 (by kernel_rfl) (by simp [Value.cells]) (by simp [Value.cells, Value.oneCell']) [.slice pb2 (worldAt h l (k + 1)).books.length cb2, .slice pm2 (worldAt h l (k + 1)).msgs.length cm2] rfl (fun w8 hb8 hw8 => ?_)
   have hk8 : Keeps (fun j => ((j < w.heap.size + 2 ∨ j = g6) ∨ (Value.slice p7 (errsTo h l k).length c7).ownBlock = some j) ∨ j = g9) wq w8 := (Keeps.of_step (hW5.trans hW7)).trans (.wrote hw8 (.inr rfl))
   have hst8 : Step wr w8 := Step.wrote ((HTQ.out.trans hW5).trans hW7) hw8 hgb
   have HW8 := zH ((HTT.out.weak HNO.out).keep hk8)
   have HB8 := zH hb8
   have HS8 := zH hst8
   have HBX8 := zH (HBX.out.step hst8)
   have HOW8 := zH (HOW.out.step hst8)
   clear hW5 hg hgb hgN hW7 hb9 hb8 hw8 hk8 hst8 HNO HTT HTQ HBX HOW HWD
   have q0 := HB8.out.cell 0
   have q1 := HB8.out.cell 1
   have r0 := HBX8.out.cell 0
   have r1 := HBX8.out.cell 1
   have f0 := HBX8.out.frozen 0
   have f1 := HBX8.out.frozen 1
   simp only [zD, zE] at q0 q1 r0 r1
   go_upto_region 8 with (fail)
   have b2 := set2r HBX8.out (.slice pb2 (worldAt h l (k + 1)).books.length cb2) (.slice pm2 (worldAt h l (k + 1)).msgs.length cm2)
   generalize ((w8.setCell ⟨g6, 0, none⟩ (.slice pb2 (worldAt h l (k + 1)).books.length cb2)).setCell ⟨g6, 1, none⟩ (.slice pm2 (worldAt h l (k + 1)).msgs.length cm2)) = w10 at b2 ⊢
   have hk10 : Keeps (fun j => ((j < w.heap.size + 2 ∨ j = g6) ∨ (Value.slice p7 (errsTo h l k).length c7).ownBlock = some j) ∨ j = g9) w8 w10 := b2.2.keeps.mono fun j _ e => .inl (.inl (.inr e))
   have hlt7 := HOW8.out.lt
   have hg6 := HG6.out
   have HW10 := zH ((HW8.out.keep hk10).weak (T := fun j => (j < w.heap.size + 2 ∨ j = g6) ∨ (Value.slice p7 (errsTo h l k).length c7).ownBlock = some j) fun j _ hj => .inl hj)
   have HOW10 := zH (HOW8.out.keptF (fun g hg => b2.2.block g (hlt7 g hg).2 (by have := (hlt7 g hg).1; omega)))
   have HKP10 := zH ((HKP.out.trans (.of_step HS8.out)).trans b2.2.keeps)
   have HT10 := zH (StepX.fresh (HT.out.trans HS8.out) b2.2 (fun j hj => by have := HZ.out; omega))
   have HB10 := zH b2.1
   clear b2 hk10 hlt7 hg6 q0 q1 r0 r1 f0 f1 HW8 HOW8 HBX8 HS8 HKP HT HB8
   have hbase : W6.heap.size ≤ (w10.alloc (.cells #[.int .i64 er] 3)).heap.size := by have := HKP10.out.1; simp; omega
   go_wp2_with (at_builtin; refine wpl_append_F (α := Int) (S := fun _ => False) (base := W6.heap.size) (v := .slice p7 (errsTo h l k).length c7) (l := errsTo h l k) (m := [er]) eiInts rfl _ _ rfl rfl rfl (HOW10.out.step (Step.alloc _ _)) (SLe.one 3 rfl) (k + 1) (by simp [errsTo_len]) (errsTo h l (k + 1)) HER.out (by simp only [maxLen]; omega) (by omega) hbase ?_)
   intro p' c' w11 hown11 hg11 hf11
   have hal := Step.alloc w10 (.cells #[.int .i64 er] 3)
   have hown' := HOW10.out.step hal
   have hk11 : Keeps (fun j => (j < w.heap.size + 2 ∨ j = g6) ∨ (Value.slice p7 (errsTo h l k).length c7).ownBlock = some j) w10 w11 := (Keeps.of_step hal).trans (.grown hg11 fun j hj _ => .inr hj)
   have hng : ¬ (Value.slice p7 (errsTo h l k).length c7).ownBlock = some g6 := fun e => by have := (HOW10.out.lt _ e).1; have := HG6.out; omega
   have HB11 := zH ((HB10.out.step hal).keep (S := fun j => (Value.slice p7 (errsTo h l k).length c7).ownBlock = some j) (.grown hg11 fun j hj _ => hj) hng)
   have hown2 : ∀ j, j < w10.heap.size → ((j < w.heap.size + 2 ∨ j = g6) ∨ (Value.slice p' (k + 1) c').ownBlock = some j) → ((j < w.heap.size + 2 ∨ j = g6) ∨ (Value.slice p7 (errsTo h l k).length c7).ownBlock = some j) := fun j hj hs => by
    rcases hs with hs | hs
    ·exact .inl hs
    ·rcases hf11 j hs with e | e
     ·exact .inr e
     ·have := hal.size; omega
   have hk11b : Keeps (fun j => (j < w.heap.size + 2 ∨ j = g6) ∨ (Value.slice p7 (errsTo h l k).length c7).ownBlock = some j) w10 w11 := hk11
   have hfin := (fun (hh : WP (fun j => (j < w.heap.size + 2 ∨ j = g6) ∨ (Value.slice p7 (errsTo h l k).length c7).ownBlock = some j) w10 (.slice pb2 (worldAt h l (k + 1)).books.length cb2) (.slice pm2 (worldAt h l (k + 1)).msgs.length cm2) (worldAt h l (k + 1))) =>
    show WP (fun j => (j < w.heap.size + 2 ∨ j = g6) ∨ (Value.slice p' (k + 1) c').ownBlock = some j) w11 _ _ _ from ((hh.weak (T := fun j => ((j < w.heap.size + 2 ∨ j = g6) ∨ (Value.slice p7 (errsTo h l k).length c7).ownBlock = some j) ∨ w10.heap.size ≤ j) (fun j hj hs => hs.elim id (fun e => by omega))).keep (hk11.mono fun j _ e => .inl e)).weak (fun j _ hs => by
     rcases hs with hs | hs
     ·exact .inl (.inl hs)
     ·rcases hf11 j hs with e | e
      ·exact .inl (.inr e)
      ·have := hal.size; exact .inr (by omega)))
   have HW11 := zH (hfin HW10.out)
   have HO11 := zH hown11
   have HKP11 := zH (show Keeps (fun j => j = g6) W6 w11 from ⟨by have h1 := HKP10.out.1; have h2 := hal.size; have h3 := hg11.size; omega, fun j hj hs => by
    have h1 := HKP10.out.1
    have h2 := hal.size
    rw [hg11.block j (by omega) (fun e => by have := (hown'.lt j e.symm).1; omega), hal.block j (by omega) id]
    exact HKP10.out.2 j hj hs⟩)
   have HT11 := zH (StepX.fresh (HT10.out.trans hal) (StepX.grown (X := fun j => (Value.slice p7 (errsTo h l k).length c7).ownBlock = some j) hg11 fun j hj _ => hj) (fun j hj => by have := (hown'.lt j hj).1; have := HG6.out; have := HZ.out; omega))
   clear hown11 hg11 hf11 hal hown' hk11 hng hown2 hk11b hfin hbase HW10 HOW10 HKP10 HT10 HB10
   go_wp2
   go_roundw
   case rel => exact ⟨k + 1, pb2, cb2, pm2, cm2, by omega, by go_num, HB11.out, HW11.out, HO11.out, HKP11.out, HT11.out⟩
   case measure => simp [intOf]; omega
  ·have hkl : k = l.length := by omega
   subst hkl
   have q0 := HBX.out.cell 0
   have q1 := HBX.out.cell 1
   have hb4 := (HB4.out.step HST.out).keep HKP.out (by have := HG6.out; have := HZ.out; omega)
   have t0 := hb4.cell 0
   have t1 := hb4.cell 1
   have tf0 := hb4.frozen 0
   have tf1 := hb4.frozen 1
   simp only [zD, zE] at q0 q1 t0 t1
   have HB4r := zH hb4
   clear hb4
   go_wp2
   have b2 := set2r HB4r.out (.slice pb (worldAt h l l.length).books.length cb) (.slice pm (worldAt h l l.length).msgs.length cm)
   have so := (HOW.out.flat (fun j => j < w.heap.size + 2)).slb fun g hg e => by have := (HOW.out.lt g hg).1; have := HG6.out; have := HZ.out; omega
   have hk2 : Keeps (fun j => j < w.heap.size + 2) wr _ := b2.2.keeps.mono fun j _ e => by omega
   have hold : ∀ j : Nat, ∀ W : World, j < W.heap.size → Old w j → j < w.heap.size + 2 := fun j W _ hj => by unfold Old at hj; omega
   refine ret_struct2 (k := 2) rfl siRefWorld rfl b2.1 rfl rfl ?_
   refine ⟨_, _, rfl, ⟨_, _, rfl, ?_⟩, ?_, StepX.fresh HT.out b2.2 (fun j hj => by omega)⟩
   ·exact ((HWD.out.weak (T := fun j => j < w.heap.size + 2) fun j _ hj => .inl (.inl hj)).keep hk2).weak (hold · _)
   ·exact (so.keep hk2).weak (hold · _)
end Go.Proofs.YtgpiieogiafdoaaGreat
