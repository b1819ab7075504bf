/- Walks and plain laws, part v. -/
import Derived.Test.YtgpiieogiafdoaaGreatM1
import Derived.Test.YtgpiieogiafdoaaGreatMu
import Derived.Test.YtgpiieogiafdoaaGreatMv
import Derived.Test.YtgpiieogiafdoaaGreatMx
import Derived.Test.YtgpiieogiafdoaaGreatMy
import Derived.Test.YtgpiieogiafdoaaGreatMz
set_option maxHeartbeats 16000000
set_option maxRecDepth 100000
namespace Go.Proofs.YtgpiieogiafdoaaGreat
set_option linter.unusedSimpArgs false
set_option linter.unusedVariables false
open Go.RowKit Go.BT
theorem siWorldP : SI Tryz.prog 34 2 := ⟨⟨_, Tryz.underlying34⟩, by kernel_rfl⟩
theorem rep_of {α : Type} [Rep α] {S : Nat → Prop} {w : World} {l : List Value} {x : α} (h : AV S w (.agg l.toArray) x) : Rep.rep S w l x := by
 obtain ⟨cs, he, hr⟩ := h
 injection he with he
 have : cs = l := by
  have := congrArg Array.toList he
  simpa using this.symm
 rw [← this]; exact hr
theorem WorldL_any (S : Nat → Prop) (W : Wd) (v : Value) (w : World) (hv : AV S w v W) (hth : ∀ i (hi : i < W.books.length), thinP W.books[i]) (hms : ∀ i (hi : i < W.msgs.length), W.msgs[i].seats.length ≤ 1000000) (hl : W.books.length ≤ 1000) (hl2 : W.msgs.length ≤ 1000) :
  Calls Tryz.prog 19 #[v] w fun e w' => ∃ v', e = .returned v' ∧ AV (Old w) w' v' W ∧ Step w w' := by
 obtain ⟨b0, b1, rfl, s0, s1⟩ := hv.wd
 obtain ⟨pb, kb, bb, bo, rfl, _, _, hpb, hcb, _⟩ := s0.books
 obtain ⟨pm, km, bm, mo, rfl, _, _, hpm, hcm, _⟩ := s1.mess
 obtain ⟨W0, hW0⟩ : ∃ z9, z9 = ((w.alloc (.cells #[.slice pb W.books.length kb, .slice pm W.msgs.length km] 49)).alloc (.cells #[.slice none 0 0, .slice none 0 0] 34)).alloc (.cells #[.slice none 0 0, .slice none 0 0] 34) := ⟨_, rfl⟩
 have hS : Step w W0 := by subst hW0; exact (by with_reducible repeat (first | assumption | exact Step.refl _ | apply Step.s_alloc | apply Step.s_drew | apply Step.s_drewN | refine Step.trans ?_ (by assumption)))
 have hb0 : Bx W0 w.heap.size [.slice pb W.books.length kb, .slice pm W.msgs.length km] 49 := by subst hW0; exact ((Bx.new _ [_, _] _).alloc _).alloc _
 have hb1 : Bx W0 (w.heap.size + 1) [.slice none 0 0, .slice none 0 0] 34 := by subst hW0; exact (Bx.new' _ [_, _] _ _ (by simp)).alloc _
 have hb2 : Bx W0 (w.heap.size + 2) [.slice none 0 0, .slice none 0 0] 34 := by subst hW0; exact Bx.new' _ [_, _] _ _ (by simp)
 have hz0 : W0.heap.size = w.heap.size + 3 := by subst hW0; simp
 have HC := zH (And.intro hpb hcb)
 have HCM := zH (And.intro hpm hcm)
 have HS := zH hS
 have HB0 := zH hb0
 have HB1 := zH hb1
 have HB2 := zH hb2
 have HZ := zH hz0
 have HW := zH hW0
 have HL := zH (And.intro hth hms)
 clear hv s0 s1 hpb hcb hpm hcm hS hb0 hb1 hb2 hz0 hW0 hth hms
 go_enter Tryz.func19, Tryz.ntmps19
 go_upto_region 2 with (fail)
 rw [← HW.out]
 clear HW
 go_upto_region 3 with (fail)
 go_loopw [4] (fun i wr => ∃ (k : Nat) (vb : Value), k ≤ W.books.length ∧ i = .int .i64 k ∧ Bx wr (w.heap.size + 2) [vb, .slice none 0 0] 34 ∧ OwnL (fun j => j < w.heap.size + 3) (w.heap.size + 3) 77 wr vb (W.books.take k) ∧ Keeps (fun j => j = w.heap.size + 2) W0 wr ∧ Step w wr) (fun i _ => W.books.length - (intOf i).toNat)
 case atStart => exact ⟨0, _, Nat.zero_le _, rfl, HB2.out, OwnL.nil _ _ _ _, Keeps.refl _ _, HS.out⟩
 case round =>
  obtain ⟨k, vb, hk, rfl, hbx, hown, hkp, hT⟩ := hrel
  have HBX := zH hbx
  have HOW := zH hown
  have HKP := zH hkp
  have HT := zH hT
  have HBH := zH (HB0.out.keep hkp (by omega))
  clear hbx hown hkp hT
  obtain ⟨u0, u1⟩ : _ ∧ _ := ⟨HBH.out.cell 0, HBH.out.cell 1⟩
  simp only [zD, zE] at u0 u1
  by_cases hlt : k < W.books.length
  ·obtain ⟨pv, cv, rfl⟩ : ∃ p c, vb = .slice p k c := by obtain ⟨p, c, e, _, _⟩ := HOW.out.form; exact ⟨p, c, by rw [e, List.length_take_of_le hk]⟩
   obtain rfl := HC.out.1 (by omega)
   obtain ⟨z1, z2, z4, ⟨f0, f1, f2, f3, f4, f5⟩, t1, t2, t4⟩ := HC.out.2 k hlt
   have hth := HL.out.1 k hlt
   have hn4 := (List.take_succ_eq_append_getElem hlt).symm
   obtain ⟨b, hb⟩ : ∃ b, b = W.books[k] := ⟨_, rfl⟩
   rw [← hb] at f0 f3 f5 t1 t2 t4 hth hn4
   obtain ⟨r1, n1, e1⟩ := t1.form
   obtain ⟨r2, n2, e2⟩ := t2.form
   obtain ⟨r5, n5, e5⟩ := t4.form
   subst e1 e2 e5
   have HBA := zH (show AV S w (.agg #[.int .i64 b.agency, .slice r1 b.seats.length n1, .slice r2 b.off.length n2, .int .i64 b.sent, .slice r5 b.took.length n5, .int .i64 b.cash]) b from ⟨_, rfl, _, _, _, rfl, t1, t2, t4⟩)
   have HTH := zH hth
   have HN4 := zH hn4
   have f0 := (HT.out).kc f0; have f1 := (HT.out).kc f1; have f2 := (HT.out).kc f2; have f3 := (HT.out).kc f3; have f4 := (HT.out).kc f4; have f5 := (HT.out).kc f5
   have hix : (0 : Int) ≤ (k : Int) ∧ (k : Int) < (W.books.length : Int) := by omega
   have g0 := HBX.out.cell 0
   simp only [List.getElem?_cons_zero] at g0
   clear t1 t2 t4 hb hth hn4
   go_upto_region 5 with (fail)
   refine wp_region_seqM (fun c d v a w h => by cases d <;> exact h) (kdOf [7, 8] []) [0, 1, 0, 4, 0, 28, 60, 124, 252, 511, 1023, 2047] [0, 1, 2, 3, 4, 5, 6, 7, 8] [9, 10, 11] (by kernel_rfl) (by kernel_rfl) (fun i T z hi hk => by simp [kdOf] at hk <;> (try (split at hk <;> cases hk))) ?_
   intro Wx hWx
   have u0 := (hWx).kc u0; have u1 := (hWx).kc u1; have g0 := (hWx).kc g0; have f0 := (hWx).kc f0; have f1 := (hWx).kc f1; have f2 := (hWx).kc f2; have f3 := (hWx).kc f3; have f4 := (hWx).kc f4; have f5 := (hWx).kc f5
   repeat ((first | (refine run_off rfl rfl (by rfl) ?_) | (refine run_chain_off rfl rfl (by rfl) (K0_mono _) ?_) | ((refine run_want rfl rfl (by rfl) ⟨?_, fun W hW => ?_, ?_⟩; rotate_left; (· (have d0 := hW.kc u0; have d1 := hW.kc u1; have d2 := hW.kc g0; have d3 := hW.kc f0; have d4 := hW.kc f1; have d5 := hW.kc f2; have d6 := hW.kc f3; have d7 := hW.kc f4; have d8 := hW.kc f5; go_simp; (try with_reducible rfl)))))); (try simp only [Act.put, zA, zB, zC]))
   clear u0 u1 g0 f0 f1 f2 f3 f4 f5
   refine run_chain rfl rfl (by rfl) (fun Wi hWi K' hK => ?_)
   have HXI := zH (hWx.trans hWi)
   clear hWx hWi
   go_simp
   refine (Book_any S b _ Wi (HBA.out.keep (.of_step (HT.out.trans HXI.out))) HTH.out).mono ?_
   rintro e wq ⟨v', rfl, hv', hSn⟩
   obtain ⟨b1, b2, b4, rfl, s1, s2, s4⟩ := hv'.book
   obtain ⟨y1, x1, rfl⟩ := s1.form
   obtain ⟨y2, x2, rfl⟩ := s2.form
   obtain ⟨y4, x4, rfl⟩ := s4.form
   have HVB := zH hv'
   have HXN := zH (HXI.out.trans hSn)
   have HZI := zH HXI.out.size
   refine hK _ _ (StepX.of hSn) ?_
   clear hSn hv' s1 s2 s4 hK HXI
   (try simp only [Act.put, zA, zB, zC])
   repeat ((first | (refine run_off rfl rfl (by rfl) ?_) | (refine run_chain_off rfl rfl (by rfl) (K0_mono _) ?_) | ((refine run_want rfl rfl (by rfl) ⟨?_, fun W hW => ?_, ?_⟩; rotate_left; (· (skip; go_simp; (try with_reducible rfl)))))); (try simp only [Act.put, zA, zB, zC]))
   refine run_chain rfl rfl (by rfl) (fun W3 hW3 K' hK' => ?_)
   go_simp
   refine hK' _ _ (.of (Step.alloc _ _)) ?_
   (try simp only [Act.put, zA, zB, zC])
   repeat ((first | (refine run_off rfl rfl (by rfl) ?_) | (refine run_chain_off rfl rfl (by rfl) (K0_mono _) ?_) | ((refine run_want rfl rfl (by rfl) ⟨?_, fun W hW => ?_, ?_⟩; rotate_left; (· (skip; go_simp; (try with_reducible rfl)))))); (try simp only [Act.put, zA, zB, zC]))
   refine run_end (L := [_, _, _]) rfl (fun W4 hW4 => ?_)
   have hst4 := ((HXN.out.trans hW3).trans (Step.alloc _ _)).trans hW4
   have hold : Rep.rep (avoid (fun j => j < w.heap.size + 3) (.slice pv k cv)) wq [.int .i64 b.agency, .slice y1 b.seats.length x1, .slice y2 b.off.length x2, .int .i64 b.sent, .slice y4 b.took.length x4, .int .i64 b.cash] b := by
    refine Rep.weak (fun j hj hs => ?_) (rep_of (l := [.int .i64 b.agency, .slice y1 b.seats.length x1, .slice y2 b.off.length x2, .int .i64 b.sent, .slice y4 b.took.length x4, .int .i64 b.cash]) HVB.out)
    unfold Old
    rcases hs with hs | hs
    ·have := HT.out.size; have := HKP.out.1; have := HZ.out; have := HZI.out; omega
    ·have := (HOW.out.lt j hs).2; have := HZI.out; omega
   have hu := (SLe.one 77 (Rep.keep (.of_step hW3) hold)).step hW4
   have hn1 : (W.books.take k).length + [b].length = k + 1 := by simp; omega
   have hn2 : k + 1 ≤ maxLen := by simp only [maxLen]; omega
   have hn3 : (k + 1) * 96 ≤ 140737488355328 := by omega
   have hown4 := HOW.out.step hst4
   have hbx4 := HBX.out.step hst4
   have hbase : w.heap.size + 3 ≤ W4.heap.size := by have := HKP.out.1; have := HZ.out; have := hst4.size; omega
   have HST4 := zH hst4
   clear hW3 hW4 hold hst4
   go_wp2_with (at_builtin; refine wpl_append (S := fun j => j < w.heap.size + 3) (base := w.heap.size + 3) (v := .slice pv k cv) (l := W.books.take k) (m := [b]) eiBooks rfl _ _ rfl rfl rfl hown4 hu (k + 1) hn1 (W.books.take (k + 1)) HN4.out hn2 hn3 hbase ?_)
   intro p' c' w5 hown5 hg5
   have hnx : ¬ (Value.slice pv k cv).ownBlock = some (w.heap.size + 2) := fun e => by have := (hown4.lt _ e).1; omega
   have b5 := hbx4.keep (S := fun j => (Value.slice pv k cv).ownBlock = some j) (.grown hg5 fun j hj _ => hj) hnx
   have f5 := b5.frozen 0
   have c5 := b5.cell 0
   simp only [List.getElem?_cons_zero] at c5
   have x5 : (Value.slice p' (k + 1) c').ownBlock ≠ some (w.heap.size + 2) := fun e => by have := (hown5.lt _ e).1; omega
   have hkp5 : Keeps (fun j => j = w.heap.size + 2) W0 w5 := by
    have hz := HZ.out
    have hk := HKP.out.trans (.of_step HST4.out)
    exact ⟨by have := hk.1; have := hg5.size; omega, fun j hj hs => (hg5.block j (by have := hk.1; omega) (fun e => by have := (hown4.lt j e.symm).1; omega)).trans (hk.2 j hj hs)⟩
   have hT5 : Step w w5 := StepX.fresh (HT.out.trans HST4.out) (StepX.grown (X := fun j => (Value.slice pv k cv).ownBlock = some j) hg5 fun j hj _ => hj) (fun j hj => by have := (hown4.lt j hj).1; omega)
   have HK5 := zH hkp5
   have HT5 := zH hT5
   have HO5 := zH hown5
   have HX5 := zH x5
   have HB5 := zH b5
   have hkw : IntKind.i64.wrap ((k : Int) + 1) = (k : Int) + 1 := by rw [IntKind.wrap_i64]; omega
   clear hown4 hu hbx4 hbase hg5 hnx hkp5 hT5 hown5 x5 b5 hn1 hn2 hn3
   go_wp2
   go_roundw
   case rel => exact ⟨k + 1, _, by omega, by go_num, HB5.out.setCell 0 _, HO5.out.wrote (.setCell _ _ _ _) (by show _ < _; omega) HX5.out, HK5.out.s_wrote (.setCell _ _ _ _) rfl, Step.setNew HT5.out ⟨w.heap.size + 2, 0, none⟩ _ (by show w.heap.size ≤ w.heap.size + 2; omega)⟩
   case measure => simp [intOf]; omega
  ·have hke : W.books.take k = W.books := List.take_of_length_le (by omega)
   have how := HOW.out
   rw [hke] at how
   obtain ⟨pv, cv, rfl⟩ : ∃ p c, vb = .slice p W.books.length c := by obtain ⟨p, c, e, _, _⟩ := how.form; exact ⟨p, c, e⟩
   have HVB := zH (show SL (fun j => j < w.heap.size + 3) wr (.slice pv W.books.length cv) W.books from how.sl (fun g hg _ hs => by omega))
   clear HOW how hke
   generalize wr = w1 at *
   go_upto_region 7 with (fail)
   clear u0 u1
   have hz1 : W0.heap.size ≤ w1.heap.size := HKP.out.1
   have HZ1 := zH (show w.heap.size + 3 ≤ w1.heap.size by have := HZ.out; omega)
   clear hz1
   go_loopw [5] (fun i wr => ∃ (k : Nat) (vm : Value), k ≤ W.msgs.length ∧ i = .int .i64 k ∧ Bx wr (w.heap.size + 2) [.slice pv W.books.length cv, vm] 34 ∧ OwnL (fun j => j < w.heap.size + 3) w1.heap.size 86 wr vm (W.msgs.take k) ∧ Keeps (fun j => j = w.heap.size + 2) w1 wr ∧ Step w wr) (fun i _ => W.msgs.length - (intOf i).toNat)
   case atStart => exact ⟨0, _, Nat.zero_le _, rfl, HBX.out, OwnL.nil _ _ _ _, Keeps.refl _ _, HT.out⟩
   case round =>
    obtain ⟨k, vb, hk, rfl, hbx, hown, hkp, hT⟩ := hrel
    clear HBX HT
    have HBX := zH hbx
    have HOW := zH hown
    have HKQ := zH hkp
    have HT := zH hT
    have HBR := zH (HBH.out.keep hkp (by omega))
    clear hbx hown hkp hT
    obtain ⟨u0, u1⟩ : _ ∧ _ := ⟨HBR.out.cell 0, HBR.out.cell 1⟩
    simp only [zD, zE] at u0 u1
    by_cases hlt : k < W.msgs.length
    ·obtain ⟨pz, cz, rfl⟩ : ∃ p c, vb = .slice p k c := by obtain ⟨p, c, e, _, _⟩ := HOW.out.form; exact ⟨p, c, by rw [e, List.length_take_of_le hk]⟩
     obtain rfl := HCM.out.1 (by omega)
     obtain ⟨z4, ⟨f0, f1, f2, f3, f4⟩, t4⟩ := HCM.out.2 k hlt
     have hth := HL.out.2 k hlt
     have hn4 := (List.take_succ_eq_append_getElem hlt).symm
     obtain ⟨m, hm⟩ : ∃ m, m = W.msgs[k] := ⟨_, rfl⟩
     rw [← hm] at f0 f1 f2 f3 t4 hth hn4
     obtain ⟨r5, n5, e5⟩ := t4.form
     subst e5
     have HBA := zH (show AV S w (.agg #[.int .i64 m.frm, .int .i64 m.dst, .int .i64 m.number, .int .i64 m.shw, .slice r5 m.seats.length n5]) m from ⟨_, rfl, _, rfl, t4⟩)
     have HTH := zH hth
     have HN4 := zH hn4
     have f0 := (HT.out).kc f0; have f1 := (HT.out).kc f1; have f2 := (HT.out).kc f2; have f3 := (HT.out).kc f3; have f4 := (HT.out).kc f4
     have hix : (0 : Int) ≤ (k : Int) ∧ (k : Int) < (W.msgs.length : Int) := by omega
     have g0 := HBX.out.cell 1
     simp only [zD, zE] at g0
     clear t4 hm hth hn4
     go_upto_region 9 with (fail)
     refine wp_region_seqM (fun c d v a w h => by cases d <;> exact h) (kdOf [7, 8] []) [0, 1, 0, 4, 0, 28, 60, 124, 252, 511, 1023, 2047] [0, 1, 2, 3, 4, 5, 6, 7, 8] [9, 10, 11] (by kernel_rfl) (by kernel_rfl) (fun i T z hi hk => by simp [kdOf] at hk <;> (try (split at hk <;> cases hk))) ?_
     intro Wx hWx
     have u0 := (hWx).kc u0; have u1 := (hWx).kc u1; have g0 := (hWx).kc g0; have f0 := (hWx).kc f0; have f1 := (hWx).kc f1; have f2 := (hWx).kc f2; have f3 := (hWx).kc f3; have f4 := (hWx).kc f4
     repeat ((first | (refine run_off rfl rfl (by rfl) ?_) | (refine run_chain_off rfl rfl (by rfl) (K0_mono _) ?_) | ((refine run_want rfl rfl (by rfl) ⟨?_, fun W hW => ?_, ?_⟩; rotate_left; (· (have d0 := hW.kc u0; have d1 := hW.kc u1; have d2 := hW.kc g0; have d3 := hW.kc f0; have d4 := hW.kc f1; have d5 := hW.kc f2; have d6 := hW.kc f3; have d7 := hW.kc f4; go_simp; (try with_reducible rfl)))))); (try simp only [Act.put, zA, zB, zC]))
     clear u0 u1 g0 f0 f1 f2 f3 f4
     refine run_chain rfl rfl (by rfl) (fun Wi hWi K' hK => ?_)
     have HXI := zH (hWx.trans hWi)
     clear hWx hWi
     go_simp
     refine (Message_any S m _ Wi (HBA.out.keep (.of_step (HT.out.trans HXI.out))) HTH.out).mono ?_
     rintro e wq ⟨v', rfl, hv', hSn⟩
     obtain ⟨b4, rfl, s4⟩ := hv'.message
     obtain ⟨y4, x4, rfl⟩ := s4.form
     have HVM := zH hv'
     have HXN := zH (HXI.out.trans hSn)
     have HZI := zH HXI.out.size
     refine hK _ _ (StepX.of hSn) ?_
     clear hSn hv' s4 hK HXI
     (try simp only [Act.put, zA, zB, zC])
     repeat ((first | (refine run_off rfl rfl (by rfl) ?_) | (refine run_chain_off rfl rfl (by rfl) (K0_mono _) ?_) | ((refine run_want rfl rfl (by rfl) ⟨?_, fun W hW => ?_, ?_⟩; rotate_left; (· (skip; go_simp; (try with_reducible rfl)))))); (try simp only [Act.put, zA, zB, zC]))
     refine run_chain rfl rfl (by rfl) (fun W3 hW3 K' hK' => ?_)
     go_simp
     refine hK' _ _ (.of (Step.alloc _ _)) ?_
     (try simp only [Act.put, zA, zB, zC])
     repeat ((first | (refine run_off rfl rfl (by rfl) ?_) | (refine run_chain_off rfl rfl (by rfl) (K0_mono _) ?_) | ((refine run_want rfl rfl (by rfl) ⟨?_, fun W hW => ?_, ?_⟩; rotate_left; (· (skip; go_simp; (try with_reducible rfl)))))); (try simp only [Act.put, zA, zB, zC]))
     refine run_end (L := [_, _, _]) rfl (fun W4 hW4 => ?_)
     have hst4 := ((HXN.out.trans hW3).trans (Step.alloc _ _)).trans hW4
     have hold : Rep.rep (avoid (fun j => j < w.heap.size + 3) (.slice pz k cz)) wq [.int .i64 m.frm, .int .i64 m.dst, .int .i64 m.number, .int .i64 m.shw, .slice y4 m.seats.length x4] m := by
      refine Rep.weak (fun j hj hs => ?_) (rep_of (l := [.int .i64 m.frm, .int .i64 m.dst, .int .i64 m.number, .int .i64 m.shw, .slice y4 m.seats.length x4]) HVM.out)
      unfold Old
      rcases hs with hs | hs
      ·have := HKQ.out.1; have := HZ1.out; have := HZI.out; omega
      ·have := (HOW.out.lt j hs).2; have := HZI.out; omega
     have hu := (SLe.one 86 (Rep.keep (.of_step hW3) hold)).step hW4
     have hn1 : (W.msgs.take k).length + [m].length = k + 1 := by simp; omega
     have hn2 : k + 1 ≤ maxLen := by simp only [maxLen]; omega
     have hn3 : (k + 1) * 56 ≤ 140737488355328 := by omega
     have hown4 := HOW.out.step hst4
     have hbx4 := HBX.out.step hst4
     have hbase : w1.heap.size ≤ W4.heap.size := by have := HKQ.out.1; have := hst4.size; omega
     have HST4 := zH hst4
     clear hW3 hW4 hold hst4
     go_wp2_with (at_builtin; refine wpl_append (S := fun j => j < w.heap.size + 3) (base := w1.heap.size) (v := .slice pz k cz) (l := W.msgs.take k) (m := [m]) eiMess rfl _ _ rfl rfl rfl hown4 hu (k + 1) hn1 (W.msgs.take (k + 1)) HN4.out hn2 hn3 hbase ?_)
     intro p' c' w5 hown5 hg5
     have hnx : ¬ (Value.slice pz k cz).ownBlock = some (w.heap.size + 2) := fun e => by have := (hown4.lt _ e).1; have := HZ1.out; omega
     have b5 := hbx4.keep (S := fun j => (Value.slice pz k cz).ownBlock = some j) (.grown hg5 fun j hj _ => hj) hnx
     have f5 := b5.frozen 1
     have c5 := b5.cell 1
     simp only [zD, zE] at c5
     have x5 : (Value.slice p' (k + 1) c').ownBlock ≠ some (w.heap.size + 2) := fun e => by have := (hown5.lt _ e).1; have := HZ1.out; omega
     have hkp5 : Keeps (fun j => j = w.heap.size + 2) w1 w5 := by
      have hk := HKQ.out.trans (.of_step HST4.out)
      exact ⟨by have := hk.1; have := hg5.size; omega, fun j hj hs => (hg5.block j (by have := hk.1; omega) (fun e => by have := (hown4.lt j e.symm).1; omega)).trans (hk.2 j hj hs)⟩
     have hT5 : Step w w5 := StepX.fresh (HT.out.trans HST4.out) (StepX.grown (X := fun j => (Value.slice pz k cz).ownBlock = some j) hg5 fun j hj _ => hj) (fun j hj => by have := (hown4.lt j hj).1; have := HZ1.out; omega)
     have HK5 := zH hkp5
     have HT5 := zH hT5
     have HO5 := zH hown5
     have HX5 := zH x5
     have HB5 := zH b5
     have hkw : IntKind.i64.wrap ((k : Int) + 1) = (k : Int) + 1 := by rw [IntKind.wrap_i64]; omega
     clear hown4 hu hbx4 hbase hg5 hnx hkp5 hT5 hown5 x5 b5 hn1 hn2 hn3
     go_wp2
     go_roundw
     case rel => exact ⟨k + 1, _, by omega, by go_num, HB5.out.setCell 1 _, HO5.out.wrote (.setCell _ _ _ _) (by show _ < _; omega) HX5.out, HK5.out.s_wrote (.setCell _ _ _ _) rfl, Step.setNew HT5.out ⟨w.heap.size + 2, 1, none⟩ _ (by show w.heap.size ≤ w.heap.size + 2; omega)⟩
     case measure => simp [intOf]; omega
    ·have hke : W.msgs.take k = W.msgs := List.take_of_length_le (by omega)
     have how := HOW.out
     rw [hke] at how
     obtain ⟨pz, cz, rfl⟩ : ∃ p c, vb = .slice p W.msgs.length c := by obtain ⟨p, c, e, _, _⟩ := how.form; exact ⟨p, c, e⟩
     have HVM := zH (show SL (fun j => j < w.heap.size + 3) wr (.slice pz W.msgs.length cz) W.msgs from how.sl (fun g hg _ hs => by have := HZ1.out; omega))
     clear HOW how hke
     have g0 := HBX.out.cell 0
     have g1 := HBX.out.cell 1
     have hb1 := (HB1.out.keep HKP.out (by omega)).keep HKQ.out (by omega)
     have t0 := hb1.cell 0
     have t1 := hb1.cell 1
     have tf0 := hb1.frozen 0
     have tf1 := hb1.frozen 1
     simp only [zD, zE] at g0 g1 t0 t1
     have HB1r := zH hb1
     clear hb1
     go_wp2
     have b2 := set2r HB1r.out (.slice pv W.books.length cv) (.slice pz W.msgs.length cz)
     have hk2 := b2.2.keeps.mono (T := fun j => j < w.heap.size + 3) fun j _ e => by omega
     refine ret_struct (k := 2) rfl siWorldP rfl b2.1 rfl rfl ?_
     refine ⟨_, rfl, ⟨_, rfl, _, _, rfl, ?_, ?_⟩, ?_⟩
     ·exact ((HVB.out.keep (HKQ.out.mono fun j _ e => by omega)).keep hk2).weak (fun j _ hj => by unfold Old at hj; omega)
     ·exact (HVM.out.keep hk2).weak (fun j _ hj => by unfold Old at hj; omega)
     ·exact StepX.fresh HT.out b2.2 (fun j hj => by omega)
theorem world_thin {h : House} (hv : valid h = true) (l : List ActT) (k : Nat) : ∀ i (hi : i < (worldAt h l k).books.length), thinP (worldAt h l k).books[i] := fun i hi =>
 (okDesk_book hv ((world_ok hv l k).book i hi).1).2.2.2
theorem u8_mod {g : Int} {n : Nat} (hw : (Lit.int .u8 g).wf = true) (hn : 0 < n) : ∃ i : Nat, g.tmod (n : Int) = i ∧ i < n ∧ IntKind.i64.wrap g = g ∧ 0 ≤ g ∧ g ≤ 255 := by
 have h1 : IntKind.u8.min = 0 := rfl
 have h2 : IntKind.u8.max = 255 := rfl
 have h3 : 0 ≤ g ∧ g ≤ 255 := by simp [Lit.wf] at hw; omega
 have a := Int.tmod_nonneg (n : Int) h3.1
 have b := Int.tmod_lt_of_pos g (show (0 : Int) < n by omega)
 exact ⟨(g.tmod n).toNat, by omega, by omega, by rw [IntKind.wrap_i64]; omega, h3⟩
end Go.Proofs.YtgpiieogiafdoaaGreat
