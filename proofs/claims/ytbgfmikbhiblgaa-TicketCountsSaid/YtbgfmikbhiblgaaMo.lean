/- TicketLoses holds of every input, and its arguments read afterwards as they did. -/
import Derived.Test.YtbgfmikbhiblgaaMh
import Derived.Test.YtbgfmikbhiblgaaMk
import Derived.Test.YtbgfmikbhiblgaaMl
import Derived.Test.YtbgfmikbhiblgaaMm
import Derived.Test.YtbgfmikbhiblgaaMn
import Derived.Test.YtbgfmikbhiblgaaRows
/- Walks: the law TicketLoses: it answers true. -/
namespace Go.Proofs.Ytbgfmikbhiblgaa
set_option linter.unusedSimpArgs false
set_option linter.unusedVariables false
open Go.RowKit Go.BT

theorem fewB_of {h : House} (hf : few h = true) : fewB h := by
  simp only [few, fewA, Bool.and_eq_true, decide_eq_true_eq] at hf
  obtain ⟨⟨⟨h1, h2⟩, h3⟩, ⟨⟨⟨h4, h5⟩, h6⟩, h7⟩, h8⟩ := hf
  refine ⟨by omega, by omega, by omega, by omega, by omega, fun i hi => ?_, fun i hi => ?_⟩
  · have := all_at h3 hi; simp at this; omega
  · have := all_at h2 hi; simp at this; omega
theorem thinP_of {b : Book} (hf : thin b = true) : thinP b := by
  simp only [thin, thinA, Bool.and_eq_true, Bool.or_eq_true, decide_eq_true_eq] at hf
  obtain ⟨h1, ⟨h2, h3⟩, h4⟩ := hf
  refine ⟨by omega, fun i hi => ?_, by omega, by omega⟩
  have := all_at h1 hi; simp at this; omega
theorem alike_self (b : Book) : alikeB b b = true := by simp [alikeB]
theorem noBook_thin : thinP noBook := ⟨by simp [noBook], fun i hi => by simp [noBook] at hi, by simp [noBook], by simp [noBook]⟩
theorem loseTo_took (h : House) (b : Book) (i : Nat) (d : Int) : ∀ k, (loseTo h b i d k).1.took = b.took
  | 0 => rfl
  | k + 1 => by
    unfold loseTo
    split
    · show (loseOne h (loseTo h b i d k).1 i d k _).1.took = _
      unfold loseOne
      split <;> exact loseTo_took h b i d k
    · exact loseTo_took h b i d k
theorem thin_lose {h : House} {b : Book} (hv : valid h = true) (hb : bookB h b = true) (ht : thinP b) (s d : Int) : thinP (actR (bookOf (loseD h b s d))).1 := by
  obtain ⟨hO, hcash, hc0, hthin⟩ := okDesk_book hv hb
  unfold loseD
  by_cases he : loseE h b s d = 0
  · rw [if_pos he]
    have hw : withinB s 0 (h.dates.length - 1) = true := by
      unfold loseE at he
      cases q : withinB s 0 (h.dates.length - 1) with
      | true => rfl
      | false => simp [q] at he
    obtain ⟨i, rfl, h1, h2⟩ := within_nat hw (by omega)
    have hbv := bounds_valid hv
    have hi : i < b.seats.length := by have := hO.2.2.1; omega
    have hg : b.seats.getD (i : Int).toNat [] = b.seats[i] := by simp [List.getD_eq_getElem?_getD, hi]
    have hO9 : OkDesk h (offBook b i) := by
      obtain ⟨o1, o2, o3⟩ := hO
      exact ⟨o1, by simp [offBook]; exact o2, o3⟩
    have hl : ((b.seats.getD (i : Int).toNat []).length : Int) ≤ sizeL h.sectors := by rw [hg, hO.2.2.2.1 i hi]; omega
    have hL := like_to hO9 (show 0 ≤ (offBook b i).cash from hc0) i d _ hl
    rw [Int.toNat_natCast] at hL ⊢
    show thinP (loseTo h (offBook b i) i d (b.seats.getD i []).length).1
    have e1 : (offBook b i).seats = b.seats := rfl
    refine ⟨by rw [hL.seats, e1]; exact ht.1, fun k hk => ?_, by rw [hL.off]; simp [offBook]; exact ht.2.2.1, by rw [loseTo_took]; exact ht.2.2.2⟩
    have hk' : k < (offBook b i).seats.length := by rw [← hL.seats]; exact hk
    rw [hL.row k hk' hk]
    exact ht.2.1 k hk'
  · rw [if_neg he]; exact noBook_thin
theorem gate_wrong {α : Type} {h : House} {b : Book} {r : Except Int α} (hw : wrongB h b = true) : gate h b r = .error 1 := by
  have := wrong_yes hw
  unfold gate checkR
  rw [this]; rfl
theorem gate_right {α : Type} {h : House} {b : Book} {r : Except Int α} (hw : wrongB h b = false) : gate h b r = r := by
  obtain ⟨h1, h2⟩ := wrong_no hw
  unfold gate checkR
  rw [h1, h2]; rfl
theorem equal_move (a b c : Int) (w : World) : (Op.equal 53 (.agg #[.int .i64 a, .int .i64 b, .int .i64 c]) (.agg #[.int .i64 a, .int .i64 b, .int .i64 c])).run Try.prog w = .ok true w := by
  unfold Op.equal Op.maxDepth
  rw [run_equalIn_agg (w := w) 9999 53 _ _ (by kernel_rfl) (by kernel_rfl)]
  have hf : (Try.prog.fieldsOf 53).toList.map (fun f => (f.name, f.type, f.offset)) = [("Seat", 3, 0), ("Show", 3, 1), ("At", 3, 2)] := by kernel_rfl
  obtain ⟨f, g, k, hfg⟩ : ∃ f g k, (Try.prog.fieldsOf 53).toList = [f, g, k] := by
    cases hl : (Try.prog.fieldsOf 53).toList with
    | nil => simp [hl] at hf
    | cons f l =>
      cases l with
      | nil => simp [hl] at hf
      | cons g l =>
        cases l with
        | nil => simp [hl] at hf
        | cons k l =>
          cases l with
          | nil => exact ⟨f, g, k, rfl⟩
          | cons _ _ => simp [hl] at hf
  rw [hfg] at hf ⊢
  simp only [List.map_cons, List.map_nil, List.cons.injEq, Prod.mk.injEq, and_true] at hf
  obtain ⟨⟨n1, t1, o1⟩, ⟨n2, t2, o2⟩, n3, t3, o3⟩ := hf
  have hi : Try.prog.underlying 3 = some (.int .i64) := by kernel_rfl
  simp [Op.eqFields, n1, n2, n3, t1, t2, t3, o1, o2, o3, hi, part, run_underlying hi]
  have hq : ∀ (a b : Int) (w : World), (Op.equalIn 9999 3 (.int .i64 a) (.int .i64 b)).run Try.prog w = .ok (a == b) w := fun a b w => run_equalIn_int (w := w) 9998 _ _ .i64 _ _ hi
  simp [hq, Result.andThen_ok]
theorem neq_move (a b c : Int) (w : World) : (binOp .neq 53 (.agg #[.int .i64 a, .int .i64 b, .int .i64 c]) (.agg #[.int .i64 a, .int .i64 b, .int .i64 c])).run Try.prog w = .ok (.bool false) w := by
  have h := equal_move a b c w
  unfold Op.equal Op.maxDepth at h
  rw [run_neq_struct, h]
  rfl
end Go.Proofs.Ytbgfmikbhiblgaa
/- Walks: the law TicketLoses: it answers true. -/
namespace Go.Proofs.Ytbgfmikbhiblgaa
set_option linter.unusedSimpArgs false
set_option linter.unusedVariables false
open Go.RowKit Go.BT
attribute [local go_sem] neq_move

set_option maxRecDepth 100000 in
set_option maxHeartbeats 8000000 in
theorem TicketLoses_any (h : House) (b : Book) (s d : Int) (v u : Value) (w : World) (hv : AV (fun _ => False) w v h) (hu : AV (fun _ => False) w u b) :
    Calls Try.prog 3 #[v, u, .int .i64 s, .int .i64 d] w fun e w' => e = .returned (.bool true) ∧ Step w w' := by
  obtain ⟨cs, rfl, hr0⟩ := hv
  have hr := hr0
  obtain ⟨c0, c1, c2, c3, c4, rfl, h0, h1, h2, h3, h4⟩ := hr
  obtain ⟨p0, k0, rfl⟩ := h0.form
  obtain ⟨p1, k1, rfl⟩ := h1.form
  obtain ⟨p2, k2, rfl⟩ := h2.form
  obtain ⟨p3, k3, rfl⟩ := h3.form
  obtain ⟨p4, k4, rfl⟩ := h4.form
  obtain ⟨cs, rfl, hq0⟩ := hu
  have hq := hq0
  obtain ⟨d1, d2, d4, rfl, s1, s2, s4⟩ := hq
  obtain ⟨q1, m1, rfl⟩ := s1.form
  obtain ⟨q2, m2, rfl⟩ := s2.form
  obtain ⟨q4, m4, rfl⟩ := s4.form
  obtain ⟨W2, hW2⟩ : ∃ W2, W2 = (w.alloc (.cells #[.slice p0 h.sectors.length k0, .slice p1 h.prices.length k1, .slice p2 h.dates.length k2, .slice p3 h.frm.length k3, .slice p4 h.holds.length k4] 26)).alloc (.cells #[.int .i64 b.agency, .slice q1 b.seats.length m1, .slice q2 b.off.length m2, .int .i64 b.sent, .slice q4 b.took.length m4, .int .i64 b.cash] 30) := ⟨_, rfl⟩
  have hbx : Bx W2 w.heap.size [.slice p0 h.sectors.length k0, .slice p1 h.prices.length k1, .slice p2 h.dates.length k2, .slice p3 h.frm.length k3, .slice p4 h.holds.length k4] 26 := by subst hW2; exact (Bx.new _ _ _).alloc _
  have hb2 : Bx W2 (w.heap.size + 1) [.int .i64 b.agency, .slice q1 b.seats.length m1, .slice q2 b.off.length m2, .int .i64 b.sent, .slice q4 b.took.length m4, .int .i64 b.cash] 30 := by subst hW2; exact Bx.new' _ _ _ _ (by simp)
  have hS : Step w W2 := by subst hW2; exact (by repeat (first | (with_reducible assumption) | (with_reducible exact Step.refl _) | (with_reducible apply Step.s_alloc) | (with_reducible apply Step.s_drew) | (with_reducible apply Step.s_drewN) | (with_reducible refine Step.trans ?_ (by with_reducible assumption))))
  have HB1 := Lib.hid hbx
  have HB2 := Lib.hid hb2
  have HR := Lib.hid (Rep.keep (.of_step hS) hr0)
  have HQ := Lib.hid (Rep.keep (.of_step hS) hq0)
  have HS := Lib.hid hS
  have HT := Lib.hid (Step.refl W2)
  have HW := Lib.hid hW2
  clear hr0 hq0 h0 h1 h2 h3 h4 s1 s2 s4 hbx hb2 hS hW2
  go_enter Try.func3, Try.ntmps3
  go_wp2_with fail
  rw [← HW.out]
  refine (Few_any (fun _ => False) h _ _ ⟨_, rfl, HR.out⟩).mono ?_
  rintro e wn ⟨rfl, hSn⟩
  have HTn := Lib.hid (HT.out.trans hSn)
  clear hSn HT
  have HT := HTn
  clear HTn
  (try clear e0 e1 e2 e3 e4 f0 f1 f2 f3 f4 f5 y1 y2)
  obtain ⟨e0, e1, e2, e3, e4⟩ := cells5 (HB1.out.step HT.out)
  obtain ⟨f0, f1, f2, f3, f4, f5⟩ := cells6 (HB2.out.step HT.out)
  have y1 := (HB1.out.step HT.out).lt
  have y2 := (HB2.out.step HT.out).lt
  cases qf : few h with
  | false =>
    clear qf
    go_wp2_with fail
    refine (awake_any _).mono ?_
    rintro e wz ⟨rfl, hSz⟩
    go_wp2
    go_ret
    exact ⟨rfl, HS.out.trans (HT.out.trans hSz)⟩
  | true =>
  have HFEW := Lib.hid (fewB_of qf)
  clear qf
  go_wp2_with fail
  refine (thin_any (fun _ => False) b _ _ ⟨_, rfl, Rep.keep (.of_step HT.out) HQ.out⟩).mono ?_
  rintro e wn ⟨rfl, hSn⟩
  have HTn := Lib.hid (HT.out.trans hSn)
  clear hSn HT
  have HT := HTn
  clear HTn
  (try clear e0 e1 e2 e3 e4 f0 f1 f2 f3 f4 f5 y1 y2)
  obtain ⟨e0, e1, e2, e3, e4⟩ := cells5 (HB1.out.step HT.out)
  obtain ⟨f0, f1, f2, f3, f4, f5⟩ := cells6 (HB2.out.step HT.out)
  have y1 := (HB1.out.step HT.out).lt
  have y2 := (HB2.out.step HT.out).lt
  cases qt : thin b with
  | false =>
    clear qt
    go_wp2_with fail
    refine (awake_any _).mono ?_
    rintro e wz ⟨rfl, hSz⟩
    go_wp2
    go_ret
    exact ⟨rfl, HS.out.trans (HT.out.trans hSz)⟩
  | true =>
  have HTHIN := Lib.hid (thinP_of qt)
  clear qt e0 e1 e2 e3 e4 f0 f1 f2 f3 f4 f5 y1 y2
  go_upto_region 3 with (fail)
  refine wp_region_seqM (fun c d v a w h => by cases d <;> exact h) (kdOf [1, 3, 6] [(11, 36, .agg #[.int .i64 0, .slice none 0 0, .slice none 0 0, .int .i64 0, .slice none 0 0, .int .i64 0])]) [0, 1, 0, 7, 0, 0, 63, 127, 255, 255, 255, 0, 2559, 7167, 16383] [0, 2, 4, 5, 1, 3, 6, 7, 8, 9, 10, 11] [12, 13, 14] (by kernel_rfl) (by kernel_rfl) (fun i T z hi hk => by simp only [List.mem_cons, List.not_mem_nil, or_false] at hi; rcases hi with rfl | rfl | rfl | rfl | rfl | rfl | rfl | rfl | rfl | rfl | rfl | rfl <;> simp [kdOf] at hk <;> (obtain ⟨rfl, rfl⟩ := hk; first | (show Option.bind _ _ = some _; kernel_rfl) | (refine ⟨_, rfl, fun _ _ => ?_⟩; go_simp))) ?_
  intro Wx hWx
  have HTx := Lib.hid (HT.out.trans hWx)
  have HSZ0 := Lib.hid (HT.out.size)
  clear hWx HT
  have HT := HTx
  clear HTx
  (try clear e0 e1 e2 e3 e4 f0 f1 f2 f3 f4 f5 y1 y2)
  obtain ⟨e0, e1, e2, e3, e4⟩ := cells5 (HB1.out.step HT.out)
  obtain ⟨f0, f1, f2, f3, f4, f5⟩ := cells6 (HB2.out.step HT.out)
  have y1 := (HB1.out.step HT.out).lt
  have y2 := (HB2.out.step HT.out).lt
  repeat (first | (refine run_off rfl rfl (by rfl) ?_; (try simp only [Act.put, List.setIfInBounds_toArray, List.set_cons_zero, List.set_cons_succ])) | (refine run_chain_off rfl rfl (by rfl) (K0_mono _) ?_; (try simp only [Act.put, List.setIfInBounds_toArray, List.set_cons_zero, List.set_cons_succ])) | ((refine run_want rfl rfl (by rfl) ⟨?_, fun W hW => ?_, ?_⟩; rotate_left; (· (have d0 := hW.keeps.cell id e0; have d1 := hW.keeps.cell id e1; have d2 := hW.keeps.cell id e2; have d3 := hW.keeps.cell id e3; have d4 := hW.keeps.cell id e4; have d5 := hW.keeps.cell id f0; have d6 := hW.keeps.cell id f1; have d7 := hW.keeps.cell id f2; have d8 := hW.keeps.cell id f3; have d9 := hW.keeps.cell id f4; have d10 := hW.keeps.cell id f5; go_simp; (try with_reducible rfl)))); (try simp only [Act.put, List.setIfInBounds_toArray, List.set_cons_zero, List.set_cons_succ])))
  refine run_chain rfl rfl (by rfl) (fun Wi hWi K' hK => ?_)
  have HTi := Lib.hid (HT.out.trans hWi)
  have HZW := Lib.hid HTi.out.size
  clear hWi HT
  go_simp
  refine (House_any _ h _ _ ⟨_, rfl, Rep.keep (.of_step HTi.out) HR.out⟩ HFEW.out).mono ?_
  rintro e wn ⟨v1, rfl, hv1, hSn⟩
  have HT := Lib.hid (HTi.out.trans (StepX.of hSn))
  clear HTi
  have HV1 := Lib.hid (AV.triv hv1)
  have HT1 := Lib.hid (Step.refl wn)
  clear hv1
  refine hK _ _ (StepX.of hSn) ?_
  clear hSn
  (try simp only [Act.put, List.setIfInBounds_toArray, List.set_cons_zero, List.set_cons_succ])
  repeat (first | (refine run_off rfl rfl (by rfl) ?_; (try simp only [Act.put, List.setIfInBounds_toArray, List.set_cons_zero, List.set_cons_succ])) | (refine run_chain_off rfl rfl (by rfl) (K0_mono _) ?_; (try simp only [Act.put, List.setIfInBounds_toArray, List.set_cons_zero, List.set_cons_succ])) | ((refine run_want rfl rfl (by rfl) ⟨?_, fun W hW => ?_, ?_⟩; rotate_left; (· (skip; go_simp; (try with_reducible rfl)))); (try simp only [Act.put, List.setIfInBounds_toArray, List.set_cons_zero, List.set_cons_succ])))
  refine run_chain rfl rfl (by rfl) (fun Wi hWi K' hK => ?_)
  have HTi := Lib.hid (HT.out.trans hWi)
  have HV1i := Lib.hid (HV1.out.keep (.of_step hWi))
  clear hWi HT HV1
  go_simp
  refine (Book_any _ b _ _ ⟨_, rfl, Rep.keep (.of_step HTi.out) HQ.out⟩ HTHIN.out).mono ?_
  rintro e wn2 ⟨v2, rfl, hv2, hSn⟩
  have HV2 := Lib.hid (AV.triv hv2)
  have HV1 := Lib.hid (HV1i.out.keep (.of_step hSn))
  have HT := Lib.hid (HTi.out.trans hSn)
  clear hv2 HV1i HTi
  refine hK _ _ (StepX.of hSn) ?_
  clear hSn hK
  (try simp only [Act.put, List.setIfInBounds_toArray, List.set_cons_zero, List.set_cons_succ])
  repeat (first | (refine run_off rfl rfl (by rfl) ?_; (try simp only [Act.put, List.setIfInBounds_toArray, List.set_cons_zero, List.set_cons_succ])) | (refine run_chain_off rfl rfl (by rfl) (K0_mono _) ?_; (try simp only [Act.put, List.setIfInBounds_toArray, List.set_cons_zero, List.set_cons_succ])) | ((refine run_want rfl rfl (by rfl) ⟨?_, fun W hW => ?_, ?_⟩; rotate_left; (· (skip; go_simp; (try with_reducible rfl)))); (try simp only [Act.put, List.setIfInBounds_toArray, List.set_cons_zero, List.set_cons_succ])))
  refine run_chain rfl rfl (by rfl) (fun Wi hWi K' hK => ?_)
  have HTi := Lib.hid (HT.out.trans hWi)
  have HV1i := Lib.hid (HV1.out.keep (.of_step hWi))
  have HV2i := Lib.hid (HV2.out.keep (.of_step hWi))
  clear hWi HT HV1 HV2
  go_simp
  refine (Lose_any _ h b _ _ s d _ HV1i.out HV2i.out).mono ?_
  rintro e w6 ⟨v6, l6, rfl, hv6, hl6, hS6⟩
  obtain ⟨xb, hxb⟩ : ∃ xb, xb = (actR (bookOf (gate h b (loseD h b s d)))).1 := ⟨_, rfl⟩
  obtain ⟨ec, hec⟩ : ∃ ec, ec = (actR (bookOf (gate h b (loseD h b s d)))).2 := ⟨_, rfl⟩
  obtain ⟨ml, hml⟩ : ∃ ml, ml = restOf [] (gate h b (loseD h b s d)) := ⟨_, rfl⟩
  rw [← hxb] at hv6
  rw [← hml] at hl6
  rw [← hec]
  have HXB := Lib.hid hxb
  have HEC := Lib.hid hec
  have HML := Lib.hid hml
  obtain ⟨x1, x2, x4, rfl, t1, t2, t4⟩ := hv6.book
  obtain ⟨r1, n1, rfl⟩ := t1.form
  obtain ⟨r2, n2, rfl⟩ := t2.form
  obtain ⟨r4, n4, rfl⟩ := t4.form
  obtain ⟨rl, nl, rfl⟩ := hl6.form
  have HV6 := Lib.hid hv6
  have HL6 := Lib.hid hl6
  have HT := Lib.hid (HTi.out.trans hS6)
  clear t1 t2 t4 hv6 hl6 HTi HV1i HV2i hxb hec hml
  refine hK _ _ hS6 ?_
  clear hS6 hK
  (try simp only [Act.put, List.setIfInBounds_toArray, List.set_cons_zero, List.set_cons_succ])
  repeat (first | (refine run_off rfl rfl (by rfl) ?_; (try simp only [Act.put, List.setIfInBounds_toArray, List.set_cons_zero, List.set_cons_succ])) | (refine run_chain_off rfl rfl (by rfl) (K0_mono _) ?_; (try simp only [Act.put, List.setIfInBounds_toArray, List.set_cons_zero, List.set_cons_succ])) | ((refine run_want rfl rfl (by rfl) ⟨?_, fun W hW => ?_, ?_⟩; rotate_left; (· (skip; go_simp; (try with_reducible rfl)))); (try simp only [Act.put, List.setIfInBounds_toArray, List.set_cons_zero, List.set_cons_succ])))
  refine run_alloc rfl rfl (fun W5 g hW5 hg hgb hgN => ?_)
  (try simp only [Act.put, List.setIfInBounds_toArray, List.set_cons_zero, List.set_cons_succ])
  refine run_end (L := [_, _, _]) rfl (fun W6 hW6 => ?_)
  have hb6 := Bx.step (w := W5) (cs := [_, _, _, _, _, _]) hg hW6
  refine wpl_store (v := .agg #[.int .i64 xb.agency, .slice r1 xb.seats.length n1, .slice r2 xb.off.length n2, .int .i64 xb.sent, .slice r4 xb.took.length n4, .int .i64 xb.cash]) rfl _ _ _ rfl rfl rfl hb6 (by kernel_rfl) (by simp [Value.cells]) (by simp [Value.cells, Value.oneCell']) [.int .i64 xb.agency, .slice r1 xb.seats.length n1, .slice r2 xb.off.length n2, .int .i64 xb.sent, .slice r4 xb.took.length n4, .int .i64 xb.cash] rfl (fun w7 hb7 hw7 => ?_)
  have hg0 := HSZ0.out
  have hk7 : Keeps (fun j => j = g) w6 w7 := (Keeps.of_step (hW5.trans hW6)).trans (.wrote hw7 rfl)
  have HVX := Lib.hid (AV.triv (AV.later (S := fun j => j = g) (w' := w7) HV6.out (fun j hj hs => by omega) hk7))
  have HLX := Lib.hid (SL.weak (T := fun _ => False) (fun _ _ h => h.elim) (SL.later (S := fun j => j = g) (w' := w7) HL6.out (fun j hj hs => by omega) hk7))
  have HTx := Lib.hid (Step.wrote ((HT.out.trans hW5).trans hW6) hw7 (by omega))
  have HBX := Lib.hid hb7
  clear hW5 hg hgb hgN hW6 hb6 hb7 hw7 hk7 HV6 HL6 HT hg0 HSZ0
  have HT := HTx
  clear HTx
  go_upto_region 4 with (fail)
  (try clear e0 e1 e2 e3 e4 f0 f1 f2 f3 f4 f5 y1 y2)
  obtain ⟨e0, e1, e2, e3, e4⟩ := cells5 (HB1.out.step HT.out)
  obtain ⟨f0, f1, f2, f3, f4, f5⟩ := cells6 (HB2.out.step HT.out)
  have y1 := (HB1.out.step HT.out).lt
  have y2 := (HB2.out.step HT.out).lt
  go_wp2_with fail
  refine (wrong_any (fun _ => False) h b _ _ _ ⟨_, rfl, Rep.keep (.of_step HT.out) HR.out⟩ ⟨_, rfl, Rep.keep (.of_step HT.out) HQ.out⟩).mono ?_
  rintro e wn3 ⟨rfl, hSn⟩
  have HVX2 := Lib.hid (HVX.out.keep (.of_step hSn))
  have HLX2 := Lib.hid (HLX.out.keep (.of_step hSn))
  have HBX2 := Lib.hid (HBX.out.step hSn)
  clear HVX HLX HBX
  have HTn := Lib.hid (HT.out.trans hSn)
  clear hSn HT
  have HT := HTn
  clear HTn
  clear e0 e1 e2 e3 e4 f0 f1 f2 f3 f4 f5 y1 y2
  cases qw : wrongB h b with
  | true =>
    obtain rfl : xb = noBook := by rw [HXB.out, gate_wrong qw]; rfl
    obtain rfl : ec = 1 := by rw [HEC.out, gate_wrong qw]; rfl
    obtain rfl : ml = [] := by rw [HML.out, gate_wrong qw]; rfl
    clear qw HXB HEC HML
    obtain ⟨g0, g1, g2, g3, g4, g5⟩ := cells6 HBX2.out
    go_wp2_with fail
    refine (empty_any _ noBook _ _ HVX2.out).mono ?_
    rintro e wn4 ⟨rfl, hSn⟩
    rw [alike_self]
    have HTn := Lib.hid (HT.out.trans hSn)
    clear hSn HT
    have HT := HTn
    clear HTn
    go_wp2_with fail
    refine (awake_any _).mono ?_
    rintro e wz ⟨rfl, hSz⟩
    go_wp2
    go_ret
    exact ⟨rfl, HS.out.trans (HT.out.trans hSz)⟩
  | false =>
    obtain ⟨hvalid, hbook⟩ := wrong_no qw
    have hxe : xb = (actR (bookOf (loseD h b s d))).1 := by rw [HXB.out, gate_right qw]
    have hee : ec = (actR (bookOf (loseD h b s d))).2 := by rw [HEC.out, gate_right qw]
    have hme : ml = restOf [] (loseD h b s d) := by rw [HML.out, gate_right qw]
    have HTL := Lib.hid (show thinP xb by rw [hxe]; exact thin_lose hvalid hbook HTHIN.out s d)
    have HXE := Lib.hid hxe
    have HEE := Lib.hid hee
    have HME := Lib.hid hme
    have HVAL := Lib.hid (And.intro hvalid hbook)
    clear qw HXB HEC HML hxe hee hme hvalid hbook
    (try clear e0 e1 e2 e3 e4 f0 f1 f2 f3 f4 f5 y1 y2)
    obtain ⟨e0, e1, e2, e3, e4⟩ := cells5 (HB1.out.step HT.out)
    obtain ⟨f0, f1, f2, f3, f4, f5⟩ := cells6 (HB2.out.step HT.out)
    have y1 := (HB1.out.step HT.out).lt
    have y2 := (HB2.out.step HT.out).lt
    go_wp2_with fail
    refine (RLose_any (fun _ => False) h b _ _ s d _ ⟨_, rfl, Rep.keep (.of_step HT.out) HR.out⟩ ⟨_, rfl, Rep.keep (.of_step HT.out) HQ.out⟩ HVAL.out.1 HVAL.out.2).mono ?_
    rintro e wn4 ⟨v8, l8, rfl, hv8, hl8, hSn⟩
    rw [← HXE.out] at hv8
    rw [← HME.out] at hl8
    rw [← HEE.out]
    obtain ⟨x1, x2, x4, rfl, t1, t2, t4⟩ := hv8.book
    obtain ⟨r1', n1', rfl⟩ := t1.form
    obtain ⟨r2', n2', rfl⟩ := t2.form
    obtain ⟨r4', n4', rfl⟩ := t4.form
    obtain ⟨rl', nl', rfl⟩ := hl8.form
    have HV8 := Lib.hid (AV.triv hv8)
    have HL8 := Lib.hid (SL.weak (T := fun _ => False) (fun _ _ h => h.elim) hl8)
    have HVX3 := Lib.hid (HVX2.out.keep (.of_step hSn))
    have HLX3 := Lib.hid (HLX2.out.keep (.of_step hSn))
    have HBX3 := Lib.hid (HBX2.out.step hSn)
    clear t1 t2 t4 hv8 hl8 HVX2 HLX2 HBX2
    have HTn := Lib.hid (HT.out.trans hSn)
    clear hSn HT
    have HT := HTn
    clear HTn
    clear e0 e1 e2 e3 e4 f0 f1 f2 f3 f4 f5 y1 y2
    go_upto_region 7 with (fail)
    have hbP := Bx.new wn4 [.int .i64 xb.agency, .slice r1' xb.seats.length n1', .slice r2' xb.off.length n2', .int .i64 xb.sent, .slice r4' xb.took.length n4', .int .i64 xb.cash] 30
    have hsA := Step.alloc wn4 (.cells #[.int .i64 xb.agency, .slice r1' xb.seats.length n1', .slice r2' xb.off.length n2', .int .i64 xb.sent, .slice r4' xb.took.length n4', .int .i64 xb.cash] 30)
    have HV8 := Lib.hid (HV8.out.keep (.of_step hsA))
    have HL8 := Lib.hid (HL8.out.keep (.of_step hsA))
    have HVX3 := Lib.hid (HVX3.out.keep (.of_step hsA))
    have HLX3 := Lib.hid (HLX3.out.keep (.of_step hsA))
    have HBX3 := Lib.hid (HBX3.out.step hsA)
    have HTx := Lib.hid (HT.out.trans hsA)
    clear hsA HT
    have HT := HTx
    clear HTx
    generalize wn4.alloc (.cells #[.int .i64 xb.agency, .slice r1' xb.seats.length n1', .slice r2' xb.off.length n2', .int .i64 xb.sent, .slice r4' xb.took.length n4', .int .i64 xb.cash] 30) = w5 at *
    generalize wn4.heap.size = gp at *
    obtain ⟨g0, g1, g2, g3, g4, g5⟩ := cells6 HBX3.out
    obtain ⟨z0, z1, z2, z3, z4, z5⟩ := cells6 hbP
    have hne1 : (ec != ec) = false := by simp
    have hne2 : ((ml.length : Int) != (ml.length : Int)) = false := by simp
    go_wp2_with fail
    refine (same_any _ xb xb _ _ _ HVX3.out HV8.out HTL.out).mono ?_
    rintro e wn6 ⟨rfl, hSn⟩
    rw [alike_self]
    obtain ⟨pa, ca, ba, oa, hva, _, hma, hpa, hca, _⟩ := (HLX3.out.keep (.of_step hSn)).moves
    injection hva with hva1 _ hva3
    subst hva1 hva3
    obtain ⟨pb, cb, bb, ob, hvb, _, _, hpb, hcb, _⟩ := (HL8.out.keep (.of_step hSn)).moves
    injection hvb with hvb1 _ hvb3
    subst hvb1 hvb3
    have HTn := Lib.hid (HT.out.trans hSn)
    clear hSn HT
    have HT := HTn
    clear HTn
    have HMA := Lib.hid (And.intro hpa hca)
    have HMB := Lib.hid (And.intro hpb hcb)
    clear hpa hca hpb hcb z0 z1 z2 z3 z4 z5 g0 g1 g2 g3 g4 g5 hbP
    have HT0 := Lib.hid (Step.refl wn6)
    go_wp2
    go_loopw [15] (fun i wr => ∃ k : Nat, k ≤ ml.length ∧ i = .int .i64 k ∧ Step wn6 wr) (fun i _ => ml.length - (intOf i).toNat)
    case atStart => exact ⟨0, Nat.zero_le _, rfl, HT0.out⟩
    case round =>
      obtain ⟨k, hk, rfl, hT⟩ := hrel
      have HTr := Lib.hid hT
      clear hT
      by_cases hlt : k < ml.length
      · obtain rfl := HMA.out.1 (by omega)
        obtain rfl := HMB.out.1 (by omega)
        obtain ⟨a0, a1, a2⟩ := HMA.out.2 k hlt
        obtain ⟨b0, b1, b2⟩ := HMB.out.2 k hlt
        have a0 := HTr.out.keeps.cell id a0
        have a1 := HTr.out.keeps.cell id a1
        have a2 := HTr.out.keeps.cell id a2
        have b0 := HTr.out.keeps.cell id b0
        have b1 := HTr.out.keeps.cell id b1
        have b2 := HTr.out.keeps.cell id b2
        have hix : (0 : Int) ≤ (k : Int) ∧ (k : Int) < (ml.length : Int) := by omega
        go_wp2
        go_quiet (fail)
        go_wp2
        go_roundw
        case rel => exact ⟨k + 1, by omega, by go_num, HTr.out.trans (Step.drewN _ _)⟩
        case measure => simp [intOf]; omega
      · go_wp2_with fail
        refine (awake_any _).mono ?_
        rintro e wz ⟨rfl, hSz⟩
        go_wp2
        go_ret
        exact ⟨rfl, HS.out.trans (HT.out.trans (HTr.out.trans hSz))⟩
end Go.Proofs.Ytbgfmikbhiblgaa
/- TicketLoses: of every input the law answers true, and its arguments read as they did. -/
namespace Go.Proofs.Ytbgfmikbhiblgaa.loses
open Go.ChangeShapes Go.WideShapes Go.ChangeAt Go.RowKit Go.BT
set_option linter.unusedVariables false
set_option linter.unusedSimpArgs false

set_option maxRecDepth 100000 in
theorem lifted (os : Os) (started : os.Started) (H : Type) (enc : TypeId × Value → H) :
    ReturnsInHanded {} Try.checked os 3 .any (Rows.ticketLosesSpec.pre6 enc Try.prog Try.f3 Rows.ticketLosesRow.domain false) (Rows.ticketLosesSpec.post enc Try.prog Try.f3 false true false false) := by
  refine returnsInHanded_of_change (C := Try.checked) own started (by kernel_rfl) Try.func3
    (ChangeSpec.witness6 (enc := enc) (C := Try.checked) false ⟨#[], #[.agg #[.slice none 0 0, .slice none 0 0, .slice none 0 0, .slice none 0 0, .slice none 0 0], .agg #[.int .i64 0, .slice none 0 0, .slice none 0 0, .int .i64 0, .slice none 0 0, .int .i64 0], .int .i64 0, .int .i64 0], []⟩ 8 (by kernel_rfl) (by kernel_rfl) (by kernel_rfl) (by kernel_rfl)) ?_
  intro W base args ds gs before hval0 hW hcnd _
  have hval : ∀ (j : Nat) t v, Try.f3.params[j]? = some t → args[j]? = some v → Value.okWide Try.prog W .any base t v := hval0
  have hW' := hW
  obtain ⟨p, q, hA0, hV, rfl, hfz, hnd⟩ := hW
  have hA : DataW.TrodAll enc Try.prog W 0 (fun _ => true) true Try.f3.params.toList args.toList ds p := hA0
  have hAk := hA
  rw [Try.params3] at hA hval
  obtain ⟨v0, vs0, d0, ds0, p0, q0, hargs, rfl, rfl, h0, r0⟩ := trodAll_cons hA
  obtain ⟨v1, vs1, d1, ds1, p1, q1, rfl, rfl, rfl, h1, r1⟩ := trodAll_cons r0
  obtain ⟨v2, vs2, d2, ds2, p2, q2, rfl, rfl, rfl, h2, r2⟩ := trodAll_cons r1
  obtain ⟨v3, vs3, d3, ds3, p3, q3, rfl, rfl, rfl, h3, r3⟩ := trodAll_cons r2
  obtain ⟨rfl, rfl, rfl⟩ := trodAll_nil r3
  obtain rfl : args = #[v0, v1, v2, v3] := by cases args; simp_all
  obtain ⟨rfl, rfl⟩ := trodVars_none hV
  obtain ⟨h, hh⟩ := av_of opens_House Try.underlying26 (hval 0 26 v0 rfl rfl) h0
  obtain ⟨b, hb⟩ := av_of opens_Book Try.underlying30 (hval 1 30 v1 rfl rfl) h1
  obtain ⟨a2, rfl, rfl, rfl, w2⟩ := open_int Try.underlying3 (hval 2 3 v2 rfl rfl) h2
  obtain ⟨a3, rfl, rfl, rfl, w3⟩ := open_int Try.underlying3 (hval 3 3 v3 rfl rfl) h3
  clear hA0 hval0
  refine (TicketLoses_any h b a2 a3 v0 v1 W hh hb).mono fun e W' ⟨he, hg⟩ => ?_
  subst he
  have hlt := hW'.lt
  refine ⟨_, rfl, post_of_below (pv := []) hW' (fun _ _ _ => (trodAll_cons_mk (shut_bool Try.underlying4 _) trodAll_mk0)) (fun sp hs => all_stays laid hg.below (fun t ht => ?_) hAk (fun x hx => hlt x (by simpa using hx)) (fun x hx => hs x (by simpa using hx))) (fun _ _ => rfl) rfl hg.below (ok_one (by kernel_rfl) rfl (okWide_bool_mk Try.underlying4 _))⟩
  rw [Try.params3] at ht
  have : ∀ t ∈ [26, 30, 3, 3], Try.prog.readableRec t = true ∧ t < Try.prog.types.size := by
    intro t ht
    simp only [List.mem_cons, List.not_mem_nil, or_false] at ht
    rcases ht with rfl | rfl | rfl | rfl <;> exact ⟨by kernel_rfl, of_decide_eq_true (by kernel_rfl)⟩
  exact this t ht

theorem over : Rows.ticketLosesRow.holds Try.pinned (OpenSpec.ofChange Rows.ticketLosesSpec) :=
  OpenClaim.holds_of_wide 3 Try.f3 rfl rfl rfl rfl rfl rfl rfl ⟨rfl, rfl, rfl, rfl, rfl⟩ rfl rfl rfl rfl rfl (by kernel_rfl) Try.func3 (by kernel_rfl)
    (of_decide_eq_true (by kernel_rfl)) (by unfold Func.isWrapper; first | (rw [if_pos (by decide +kernel)]; kernel_rfl) | (rw [if_neg (by decide +kernel)]; exact ⟨rfl, rfl⟩))
    (fun os started H enc _ => lifted os started H enc)
theorem proved : Rows.TicketLosesSaid := over
end Go.Proofs.Ytbgfmikbhiblgaa.loses
