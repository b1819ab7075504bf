/- The reference's RightBook, and the law package's wrong, are walked. -/
import Derived.Test.YtbgfmikbhiblgaaMd
import Derived.Test.YtbgfmikbhiblgaaMi
import Derived.Test.YtbgfmikbhiblgaaRows
/- Walks: the reference's RightBook. -/
namespace Go.Proofs.Ytbgfmikbhiblgaa
set_option linter.unusedSimpArgs false
set_option linter.unusedVariables false
open Go.RowKit Go.BT

structure BParts (h : House) (b : Book) : Prop where
  ag : withinB b.agency 0 (agN h - 1) = true
  seats : b.seats.length = h.dates.length
  off : b.off.length = h.dates.length
  sent : withinB b.sent 0 1000 = true
  tk : b.took.length ≤ 1000
  rows : b.seats.all (rowB (sizeL h.sectors)) = true
  cash : b.cash = cashL h b.seats
  took : tookB h b = true
theorem bookB_parts {h : House} {b : Book} (hv : bookB h b = true) : BParts h b := by
  simp only [bookB, bookA, Bool.and_eq_true, decide_eq_true_eq] at hv
  obtain ⟨⟨⟨⟨⟨⟨⟨h1, h2⟩, h3⟩, h4⟩, h5⟩, h6⟩, h7⟩, h8⟩ := hv
  exact ⟨h1, h3, h2, h4, h5, h6, h7, h8⟩
theorem bookB_of {h : House} {b : Book} (p : BParts h b) : bookB h b = true := by
  simp only [bookB, bookA, Bool.and_eq_true, decide_eq_true_eq]
  exact ⟨⟨⟨⟨⟨⟨⟨p.ag, p.off⟩, p.seats⟩, p.sent⟩, p.tk⟩, p.rows⟩, p.cash⟩, p.took⟩
theorem bookB_not {h : House} {b : Book} (hn : BParts h b → False) : bookB h b = false := by
  cases q : bookB h b with
  | false => rfl
  | true => exact (hn (bookB_parts q)).elim
theorem ikey_at {h : House} {b : Book} {i : Nat} (hi : i < (idxKeys b.took).length) (hi' : i < b.took.length) : ikeyB h b (idxKeys b.took)[i] = (!decide (b.took[i] ∈ b.took.take i) && keyB h b.agency b.took[i]) := by
  have hx : (idxKeys b.took)[i] = ⟨i, b.took[i].frm, b.took[i].number⟩ := by simp [idxKeys]
  rw [hx]; rfl
theorem took_not {h : House} {b : Book} {i : Nat} (hi' : i < b.took.length) (hn : (!decide (b.took[i] ∈ b.took.take i) && keyB h b.agency b.took[i]) = false) (p : BParts h b) : False := by
  have hi : i < (idxKeys b.took).length := by rw [idxKeys_len]; exact hi'
  have := all_at p.took hi
  rw [ikey_at hi hi', hn] at this
  cases this
theorem mem_snoc {k2 k : Nat} {l : List Key} (h2 : k2 < l.length) {x : Key} (ht : x ∉ l.take k2) (hne : l[k2] ≠ x) : x ∉ l.take (k2 + 1) := by
  rw [List.take_succ_eq_append_getElem h2]
  simp only [List.mem_append, List.mem_singleton, not_or]
  exact ⟨ht, fun e => hne e.symm⟩
theorem mem_at {k2 k : Nat} {l : List Key} (h2 : k2 < l.length) (hk : k2 < k) : l[k2] ∈ l.take k := by
  rw [List.mem_take_iff_getElem]
  exact ⟨k2, by omega, rfl⟩

theorem equal_rkey (a b : Key) (w : World) : (Op.equal 123 (kv a) (kv b)).run Try.prog w = .ok (decide (a = b)) w := by
  have h : (a.frm == b.frm && a.number == b.number) = decide (a = b) := by
    cases a; cases b; simp [Bool.beq_eq_decide_eq]
  rw [← h]
  unfold Op.equal Op.maxDepth kv
  rw [run_equalIn_agg (w := w) 9999 123 _ _ (by kernel_rfl) (by kernel_rfl)]
  have hf : (Try.prog.fieldsOf 123).toList.map (fun f => (f.name, f.type, f.offset)) = [("From", 3, 0), ("Number", 3, 1)] := by kernel_rfl
  obtain ⟨f, g, hfg⟩ : ∃ f g, (Try.prog.fieldsOf 123).toList = [f, g] := by
    cases hl : (Try.prog.fieldsOf 123).toList with
    | nil => simp [hl] at hf
    | cons f l =>
      cases l with
      | nil => simp [hl] at hf
      | cons g l =>
        cases l with
        | nil => exact ⟨f, g, rfl⟩
        | cons _ _ => simp [hl] at hf
  rw [hfg] at hf ⊢
  simp only [List.map_cons, List.map_nil, List.cons.injEq, Prod.mk.injEq, and_true] at hf
  obtain ⟨⟨n1, t1, o1⟩, n2, t2, o2⟩ := hf
  have hi : Try.prog.underlying 3 = some (.int .i64) := by kernel_rfl
  simp [Op.eqFields, n1, n2, t1, t2, o1, o2, hi, part, run_underlying hi]
  have hq : ∀ (a b : Int) (w : World), (Op.equalIn 9999 3 (.int .i64 a) (.int .i64 b)).run Try.prog w = .ok (a == b) w := fun a b w => run_equalIn_int (w := w) 9998 _ _ .i64 _ _ hi
  simp only [hq, Result.andThen_ok]
  cases a.frm == b.frm <;> cases a.number == b.number <;> simp [Result.andThen]
theorem eql_rkey (a b c d : Int) (w : World) : (binOp .eql 123 (.agg #[.int .i64 a, .int .i64 b]) (.agg #[.int .i64 c, .int .i64 d])).run Try.prog w = .ok (.bool (a == c && b == d)) w := by
  have h := equal_rkey ⟨a, b⟩ ⟨c, d⟩ w
  unfold Op.equal Op.maxDepth kv at h
  have e : decide ((⟨a, b⟩ : Key) = ⟨c, d⟩) = (a == c && b == d) := by simp [Bool.beq_eq_decide_eq]
  rw [e] at h
  rw [run_eql_struct, h]
  rfl
attribute [local go_sem] eql_rkey

set_option maxRecDepth 100000 in
set_option maxHeartbeats 8000000 in
theorem RightBook_any (S : Nat → Prop) (h : House) (b : Book) (v u : Value) (w : World) (hv : AV S w v h) (hu : AV S w u b) (hok : valid h = true) :
    Calls Try.prog 26 #[v, u] w fun e w' => e = .returned (.bool (bookB h b)) ∧ Step w w' := by
  obtain ⟨cs, rfl, hr0⟩ := hv
  have hr := hr0
  obtain ⟨c0, c1, c2, c3, c4, rfl, h0, h1, h2, h3, h4⟩ := hr
  obtain ⟨p0, k0, rfl⟩ := h0.form
  obtain ⟨p1, k1, rfl⟩ := h1.form
  obtain ⟨p2, k2, rfl⟩ := h2.form
  obtain ⟨p3, k3, rfl⟩ := h3.form
  obtain ⟨p4, k4, b4, o4, rfl, _, m4, hp4, hc4, hb4⟩ := h4.rows
  obtain ⟨cs, rfl, hq0⟩ := hu
  have hq := hq0
  obtain ⟨d1, d2, d4, rfl, s1, s2, s4⟩ := hq
  obtain ⟨q1, m1, bs, os, rfl, _, n1, hp1, hc1, hb1⟩ := s1.rows
  obtain ⟨q2, m2, rfl⟩ := s2.form
  obtain ⟨q4, m5, bt, ot, rfl, _, n4, hpt, hct, hbt⟩ := s4.keys
  have n2 := s2.len
  have hbv := bounds_valid hok
  have HBV := Lib.hid hbv
  have hwa : IntKind.i64.wrap ((agN h : Int) - 1) = (agN h : Int) - 1 := by rw [IntKind.wrap_i64]; omega
  have hP := valid_parts hok
  have hf0 : 0 < h.frm.length := by omega
  have hh0 : 0 < h.holds.length := by omega
  have hhz : (h.holds[0].length : Int) = sizeL h.sectors := by have := all_at hP.hols hh0; simp [holdsB] at this; exact this.1
  obtain ⟨W0, hW0⟩ : ∃ W0, W0 = (w.alloc (.cells #[.slice p0 h.sectors.length k0, .slice p1 h.prices.length k1, .slice p2 h.dates.length k2, .slice p3 h.frm.length k3, .slice p4 h.holds.length k4] 26)).alloc (.cells #[.int .i64 b.agency, .slice q1 b.seats.length m1, .slice q2 b.off.length m2, .int .i64 b.sent, .slice q4 b.took.length m5, .int .i64 b.cash] 30) := ⟨_, rfl⟩
  have hbx : Bx W0 w.heap.size [.slice p0 h.sectors.length k0, .slice p1 h.prices.length k1, .slice p2 h.dates.length k2, .slice p3 h.frm.length k3, .slice p4 h.holds.length k4] 26 := by subst hW0; exact (Bx.new _ _ _).alloc _
  have hb2 : Bx W0 (w.heap.size + 1) [.int .i64 b.agency, .slice q1 b.seats.length m1, .slice q2 b.off.length m2, .int .i64 b.sent, .slice q4 b.took.length m5, .int .i64 b.cash] 30 := by subst hW0; exact Bx.new' _ _ _ _ (by simp)
  have hS : Step w W0 := by subst hW0; exact (by repeat (first | (with_reducible assumption) | (with_reducible exact Step.refl _) | (with_reducible apply Step.s_alloc) | (with_reducible apply Step.s_drew) | (with_reducible apply Step.s_drewN) | (with_reducible refine Step.trans ?_ (by with_reducible assumption))))
  obtain rfl := hp4 hh0
  obtain ⟨uz, gz, huz⟩ := hc4 0 hh0
  obtain ⟨pz, kz, rfl⟩ := huz.form
  simp only [Nat.add_zero] at gz
  have HB1 := Lib.hid hbx
  have HB2 := Lib.hid hb2
  have HR := Lib.hid (Rep.keep (.of_step hS) hr0)
  have HQ := Lib.hid (Rep.keep (.of_step hS) hq0)
  have HS := Lib.hid hS
  have HP1 := Lib.hid (And.intro hp1 hc1)
  have HPT := Lib.hid (And.intro hpt hct)
  have HGZ := Lib.hid gz
  have HHZ := Lib.hid hhz
  have HOK := Lib.hid hok
  have HWA := Lib.hid hwa
  have HT := Lib.hid (Step.refl W0)
  have HW := Lib.hid hW0
  have hagb : 1 ≤ agN h ∧ agN h ≤ 6 := by have := hP.ag; simp [withinB] at this; omega
  have hh0i : (0 : Int) < (h.holds.length : Int) := by omega
  clear hr0 hq0 h0 h1 h2 h3 h4 s1 s2 s4 hbx hb2 hS hp1 hc1 hb1 hpt hct hbt hc4 hp4 hb4 huz gz hhz hok hwa hW0 hbv hP
  go_enter Try.func26, Try.ntmps26
  go_upto_region 1 with fail
  rw [← HW.out]
  refine wp_region_seq (kdOf [3, 5, 28] []) [0, 1, 0, 4, 12, 31, 63, 127, 255, 511, 1023, 255, 2303, 6399, 16383, 32767, 65535, 131071, 262143, 524287, 131071, 1179647, 3276799, 8388607, 16777215, 33554431, 67108863, 134217727, 268435455, 536870911, 1073741823, 2147483647, 4294967295, 8589934591, 17179869183, 34359738367, 68719476735] [0, 1, 2, 3, 4, 5, 6, 7, 8, 9, 10, 11, 12, 13, 14, 15, 16, 17, 18, 19, 20, 21, 22, 23, 24, 25, 26, 27, 28, 29, 30, 31, 32, 33, 34, 35, 36] [] (by kernel_rfl) (by kernel_rfl) (fun i T z hi hk => by simp [kdOf] at hk <;> (try (split at hk <;> cases hk))) ?_
  intro Wx hWx
  have HTx := Lib.hid (HT.out.trans hWx)
  clear hWx HT
  have HT := HTx
  clear HTx
  (try clear e0 e1 e2 e3 e4 f0 f1 f2 f3 f4 f5 y1 y2)
  obtain ⟨e0, e1, e2, e3, e4⟩ := cells5 (HB1.out.step HT.out)
  obtain ⟨f0, f1, f2, f3, f4, f5⟩ := cells6 (HB2.out.step HT.out)
  have y1 := (HB1.out.step HT.out).lt
  have y2 := (HB2.out.step HT.out).lt
  repeat (first | (refine run_off rfl rfl (by rfl) ?_; (try simp only [Act.put, List.setIfInBounds_toArray, List.set_cons_zero, List.set_cons_succ])) | (refine run_chain_off rfl rfl (by rfl) (K0_mono _) ?_; (try simp only [Act.put, List.setIfInBounds_toArray, List.set_cons_zero, List.set_cons_succ])) | ((refine run_want rfl rfl (by rfl) ⟨?_, fun W hW => ?_, ?_⟩; rotate_left; (· (have d0 := hW.keeps.cell id f0; have d1 := hW.keeps.cell id e0; have d2 := hW.keeps.cell id e1; have d3 := hW.keeps.cell id e2; have d4 := hW.keeps.cell id e3; have d5 := hW.keeps.cell id e4; go_simp; (try with_reducible rfl)))); (try simp only [Act.put, List.setIfInBounds_toArray, List.set_cons_zero, List.set_cons_succ])))
  refine run_chain rfl rfl (by rfl) (fun Wi hWi K' hK => ?_)
  have HTi := Lib.hid (HT.out.trans hWi)
  have HZW := Lib.hid HTi.out.size
  clear hWi HT
  go_simp
  refine (Agencies_any S h _ _ ⟨_, rfl, Rep.keep (.of_step HTi.out) HR.out⟩ hf0).mono ?_
  rintro e wn ⟨rfl, hSn⟩
  have HT := Lib.hid (HTi.out.trans (StepX.of hSn))
  clear HTi
  refine hK _ _ (StepX.of hSn) ?_
  clear hSn
  (try simp only [Act.put, List.setIfInBounds_toArray, List.set_cons_zero, List.set_cons_succ])
  have hwa := HWA.out
  repeat (first | (refine run_off rfl rfl (by rfl) ?_; (try simp only [Act.put, List.setIfInBounds_toArray, List.set_cons_zero, List.set_cons_succ])) | (refine run_chain_off rfl rfl (by rfl) (K0_mono _) ?_; (try simp only [Act.put, List.setIfInBounds_toArray, List.set_cons_zero, List.set_cons_succ])) | ((refine run_want rfl rfl (by rfl) ⟨?_, fun W hW => ?_, ?_⟩; rotate_left; (· (skip; go_simp; (try with_reducible rfl)))); (try simp only [Act.put, List.setIfInBounds_toArray, List.set_cons_zero, List.set_cons_succ])))
  clear hwa
  refine run_chain rfl rfl (by rfl) (fun Wi hWi K' hK => ?_)
  have HTi := Lib.hid (HT.out.trans hWi)
  have HZW := Lib.hid HTi.out.size
  clear hWi HT
  go_simp
  refine (In_st _ _ _ _).mono ?_
  rintro e wn ⟨rfl, hSn⟩
  have HT := Lib.hid (HTi.out.trans (StepX.of hSn))
  clear HTi
  cases q : withinB b.agency 0 ((agN h : Int) - 1) with
  | false =>
    have q := Lib.hid q
    refine hK _ _ (StepX.of hSn) ?_
    clear hSn
    (try simp only [Act.put, List.setIfInBounds_toArray, List.set_cons_zero, List.set_cons_succ])
    have HF := Lib.hid (bookB_not (h := h) (b := b) fun p => t_of_ff q.out p.ag)
    (try clear e0 e1 e2 e3 e4 f0 f1 f2 f3 f4 f5 y1 y2)
    obtain ⟨e0, e1, e2, e3, e4⟩ := cells5 (HB1.out.step HT.out)
    obtain ⟨f0, f1, f2, f3, f4, f5⟩ := cells6 (HB2.out.step HT.out)
    have y1 := (HB1.out.step HT.out).lt
    have y2 := (HB2.out.step HT.out).lt
    repeat (first | (refine run_off rfl rfl (by rfl) ?_; (try simp only [Act.put, List.setIfInBounds_toArray, List.set_cons_zero, List.set_cons_succ])) | (refine run_chain_off rfl rfl (by rfl) (K0_mono _) ?_; (try simp only [Act.put, List.setIfInBounds_toArray, List.set_cons_zero, List.set_cons_succ])) | ((refine run_want rfl rfl (by rfl) ⟨?_, fun W hW => ?_, ?_⟩; rotate_left; (· (have d0 := hW.keeps.cell id f0; have d1 := hW.keeps.cell id f1; have d2 := hW.keeps.cell id f2; have d3 := hW.keeps.cell id f3; have d4 := hW.keeps.cell id f4; have d5 := hW.keeps.cell id e2; have d6 := hW.keeps.cell id e3; go_simp; (try with_reducible rfl)))); (try simp only [Act.put, List.setIfInBounds_toArray, List.set_cons_zero, List.set_cons_succ])))
    refine run_end (L := []) rfl (fun W6 hW6 => ?_)
    have HT6 := Lib.hid (HT.out.trans hW6)
    clear hW6 HT
    have HT := HT6
    clear HT6
    go_wp2
    go_ret
    exact ⟨by rw [HF.out]; rfl, HS.out.trans HT.out⟩
  | true =>
  have HQA := Lib.hid q
  clear q
  refine hK _ _ (StepX.of hSn) ?_
  clear hSn
  (try simp only [Act.put, List.setIfInBounds_toArray, List.set_cons_zero, List.set_cons_succ])
  by_cases qs : b.seats.length = h.dates.length
  rotate_left
  · have qsd : ((b.seats.length : Int) != (h.dates.length : Int)) = true := by simp; omega
    have qs := Lib.hid qs
    have HF := Lib.hid (bookB_not (h := h) (b := b) fun p => qs.out p.seats)
    (try clear e0 e1 e2 e3 e4 f0 f1 f2 f3 f4 f5 y1 y2)
    obtain ⟨e0, e1, e2, e3, e4⟩ := cells5 (HB1.out.step HT.out)
    obtain ⟨f0, f1, f2, f3, f4, f5⟩ := cells6 (HB2.out.step HT.out)
    have y1 := (HB1.out.step HT.out).lt
    have y2 := (HB2.out.step HT.out).lt
    repeat (first | (refine run_off rfl rfl (by rfl) ?_; (try simp only [Act.put, List.setIfInBounds_toArray, List.set_cons_zero, List.set_cons_succ])) | (refine run_chain_off rfl rfl (by rfl) (K0_mono _) ?_; (try simp only [Act.put, List.setIfInBounds_toArray, List.set_cons_zero, List.set_cons_succ])) | ((refine run_want rfl rfl (by rfl) ⟨?_, fun W hW => ?_, ?_⟩; rotate_left; (· (have d0 := hW.keeps.cell id f0; have d1 := hW.keeps.cell id f1; have d2 := hW.keeps.cell id f2; have d3 := hW.keeps.cell id f3; have d4 := hW.keeps.cell id f4; have d5 := hW.keeps.cell id e2; have d6 := hW.keeps.cell id e3; go_simp; (try with_reducible rfl)))); (try simp only [Act.put, List.setIfInBounds_toArray, List.set_cons_zero, List.set_cons_succ])))
    refine run_end (L := []) rfl (fun W6 hW6 => ?_)
    have HT6 := Lib.hid (HT.out.trans hW6)
    clear hW6 HT
    have HT := HT6
    clear HT6
    go_wp2
    go_ret
    exact ⟨by rw [HF.out]; rfl, HS.out.trans HT.out⟩
  have qsd : ((b.seats.length : Int) != (h.dates.length : Int)) = false := by simp; omega
  have HQS := Lib.hid qs
  clear qs
  by_cases qo : b.off.length = h.dates.length
  rotate_left
  · have qod : ((b.off.length : Int) != (h.dates.length : Int)) = true := by simp; omega
    have qo := Lib.hid qo
    have HF := Lib.hid (bookB_not (h := h) (b := b) fun p => qo.out p.off)
    (try clear e0 e1 e2 e3 e4 f0 f1 f2 f3 f4 f5 y1 y2)
    obtain ⟨e0, e1, e2, e3, e4⟩ := cells5 (HB1.out.step HT.out)
    obtain ⟨f0, f1, f2, f3, f4, f5⟩ := cells6 (HB2.out.step HT.out)
    have y1 := (HB1.out.step HT.out).lt
    have y2 := (HB2.out.step HT.out).lt
    repeat (first | (refine run_off rfl rfl (by rfl) ?_; (try simp only [Act.put, List.setIfInBounds_toArray, List.set_cons_zero, List.set_cons_succ])) | (refine run_chain_off rfl rfl (by rfl) (K0_mono _) ?_; (try simp only [Act.put, List.setIfInBounds_toArray, List.set_cons_zero, List.set_cons_succ])) | ((refine run_want rfl rfl (by rfl) ⟨?_, fun W hW => ?_, ?_⟩; rotate_left; (· (have d0 := hW.keeps.cell id f0; have d1 := hW.keeps.cell id f1; have d2 := hW.keeps.cell id f2; have d3 := hW.keeps.cell id f3; have d4 := hW.keeps.cell id f4; have d5 := hW.keeps.cell id e2; have d6 := hW.keeps.cell id e3; go_simp; (try with_reducible rfl)))); (try simp only [Act.put, List.setIfInBounds_toArray, List.set_cons_zero, List.set_cons_succ])))
    refine run_end (L := []) rfl (fun W6 hW6 => ?_)
    have HT6 := Lib.hid (HT.out.trans hW6)
    clear hW6 HT
    have HT := HT6
    clear HT6
    go_wp2
    go_ret
    exact ⟨by rw [HF.out]; rfl, HS.out.trans HT.out⟩
  have qod : ((b.off.length : Int) != (h.dates.length : Int)) = false := by simp; omega
  have HQO := Lib.hid qo
  clear qo
  (try clear e0 e1 e2 e3 e4 f0 f1 f2 f3 f4 f5 y1 y2)
  obtain ⟨e0, e1, e2, e3, e4⟩ := cells5 (HB1.out.step HT.out)
  obtain ⟨f0, f1, f2, f3, f4, f5⟩ := cells6 (HB2.out.step HT.out)
  have y1 := (HB1.out.step HT.out).lt
  have y2 := (HB2.out.step HT.out).lt
  repeat (first | (refine run_off rfl rfl (by rfl) ?_; (try simp only [Act.put, List.setIfInBounds_toArray, List.set_cons_zero, List.set_cons_succ])) | (refine run_chain_off rfl rfl (by rfl) (K0_mono _) ?_; (try simp only [Act.put, List.setIfInBounds_toArray, List.set_cons_zero, List.set_cons_succ])) | ((refine run_want rfl rfl (by rfl) ⟨?_, fun W hW => ?_, ?_⟩; rotate_left; (· (have d0 := hW.keeps.cell id f1; have d1 := hW.keeps.cell id f2; have d2 := hW.keeps.cell id f3; have d3 := hW.keeps.cell id e2; go_simp; (try with_reducible rfl)))); (try simp only [Act.put, List.setIfInBounds_toArray, List.set_cons_zero, List.set_cons_succ])))
  refine run_chain rfl rfl (by rfl) (fun Wi hWi K' hK => ?_)
  have HTi := Lib.hid (HT.out.trans hWi)
  have HZW := Lib.hid HTi.out.size
  clear hWi HT
  go_simp
  refine (In_st _ _ _ _).mono ?_
  rintro e wn ⟨rfl, hSn⟩
  have HT := Lib.hid (HTi.out.trans (StepX.of hSn))
  clear HTi
  cases q : withinB b.sent 0 1000 with
  | false =>
    have q := Lib.hid q
    refine hK _ _ (StepX.of hSn) ?_
    clear hSn
    (try simp only [Act.put, List.setIfInBounds_toArray, List.set_cons_zero, List.set_cons_succ])
    have HF := Lib.hid (bookB_not (h := h) (b := b) fun p => t_of_ff q.out p.sent)
    (try clear e0 e1 e2 e3 e4 f0 f1 f2 f3 f4 f5 y1 y2)
    obtain ⟨e0, e1, e2, e3, e4⟩ := cells5 (HB1.out.step HT.out)
    obtain ⟨f0, f1, f2, f3, f4, f5⟩ := cells6 (HB2.out.step HT.out)
    have y1 := (HB1.out.step HT.out).lt
    have y2 := (HB2.out.step HT.out).lt
    repeat (first | (refine run_off rfl rfl (by rfl) ?_; (try simp only [Act.put, List.setIfInBounds_toArray, List.set_cons_zero, List.set_cons_succ])) | (refine run_chain_off rfl rfl (by rfl) (K0_mono _) ?_; (try simp only [Act.put, List.setIfInBounds_toArray, List.set_cons_zero, List.set_cons_succ])) | ((refine run_want rfl rfl (by rfl) ⟨?_, fun W hW => ?_, ?_⟩; rotate_left; (· (have d0 := hW.keeps.cell id f0; have d1 := hW.keeps.cell id f1; have d2 := hW.keeps.cell id f2; have d3 := hW.keeps.cell id f3; have d4 := hW.keeps.cell id f4; have d5 := hW.keeps.cell id e2; have d6 := hW.keeps.cell id e3; go_simp; (try with_reducible rfl)))); (try simp only [Act.put, List.setIfInBounds_toArray, List.set_cons_zero, List.set_cons_succ])))
    refine run_end (L := []) rfl (fun W6 hW6 => ?_)
    have HT6 := Lib.hid (HT.out.trans hW6)
    clear hW6 HT
    have HT := HT6
    clear HT6
    go_wp2
    go_ret
    exact ⟨by rw [HF.out]; rfl, HS.out.trans HT.out⟩
  | true =>
  have HQN := Lib.hid q
  clear q
  refine hK _ _ (StepX.of hSn) ?_
  clear hSn
  (try simp only [Act.put, List.setIfInBounds_toArray, List.set_cons_zero, List.set_cons_succ])
  by_cases qt : b.took.length ≤ 1000
  rotate_left
  · have qtd : decide ((1000 : Int) < (b.took.length : Int)) = true := by simp; omega
    have qt := Lib.hid qt
    have HF := Lib.hid (bookB_not (h := h) (b := b) fun p => qt.out p.tk)
    (try clear e0 e1 e2 e3 e4 f0 f1 f2 f3 f4 f5 y1 y2)
    obtain ⟨e0, e1, e2, e3, e4⟩ := cells5 (HB1.out.step HT.out)
    obtain ⟨f0, f1, f2, f3, f4, f5⟩ := cells6 (HB2.out.step HT.out)
    have y1 := (HB1.out.step HT.out).lt
    have y2 := (HB2.out.step HT.out).lt
    repeat (first | (refine run_off rfl rfl (by rfl) ?_; (try simp only [Act.put, List.setIfInBounds_toArray, List.set_cons_zero, List.set_cons_succ])) | (refine run_chain_off rfl rfl (by rfl) (K0_mono _) ?_; (try simp only [Act.put, List.setIfInBounds_toArray, List.set_cons_zero, List.set_cons_succ])) | ((refine run_want rfl rfl (by rfl) ⟨?_, fun W hW => ?_, ?_⟩; rotate_left; (· (have d0 := hW.keeps.cell id f0; have d1 := hW.keeps.cell id f1; have d2 := hW.keeps.cell id f2; have d3 := hW.keeps.cell id f3; have d4 := hW.keeps.cell id f4; have d5 := hW.keeps.cell id e2; have d6 := hW.keeps.cell id e3; go_simp; (try with_reducible rfl)))); (try simp only [Act.put, List.setIfInBounds_toArray, List.set_cons_zero, List.set_cons_succ])))
    refine run_end (L := []) rfl (fun W6 hW6 => ?_)
    have HT6 := Lib.hid (HT.out.trans hW6)
    clear hW6 HT
    have HT := HT6
    clear HT6
    go_wp2
    go_ret
    exact ⟨by rw [HF.out]; rfl, HS.out.trans HT.out⟩
  have qtd : decide ((1000 : Int) < (b.took.length : Int)) = false := by simp; omega
  (try clear e0 e1 e2 e3 e4 f0 f1 f2 f3 f4 f5 y1 y2)
  obtain ⟨e0, e1, e2, e3, e4⟩ := cells5 (HB1.out.step HT.out)
  obtain ⟨f0, f1, f2, f3, f4, f5⟩ := cells6 (HB2.out.step HT.out)
  have y1 := (HB1.out.step HT.out).lt
  have y2 := (HB2.out.step HT.out).lt
  repeat (first | (refine run_off rfl rfl (by rfl) ?_; (try simp only [Act.put, List.setIfInBounds_toArray, List.set_cons_zero, List.set_cons_succ])) | (refine run_chain_off rfl rfl (by rfl) (K0_mono _) ?_; (try simp only [Act.put, List.setIfInBounds_toArray, List.set_cons_zero, List.set_cons_succ])) | ((refine run_want rfl rfl (by rfl) ⟨?_, fun W hW => ?_, ?_⟩; rotate_left; (· (have d0 := hW.keeps.cell id f4; go_simp; (try with_reducible rfl)))); (try simp only [Act.put, List.setIfInBounds_toArray, List.set_cons_zero, List.set_cons_succ])))
  refine run_end (L := []) rfl (fun W6 hW6 => ?_)
  have HT6 := Lib.hid (HT.out.trans hW6)
  clear hW6 HT
  have HT := HT6
  clear HT6
  clear qsd qod qtd e0 e1 e2 e3 e4 f0 f1 f2 f3 f4 f5 y1 y2
  have HQT := Lib.hid qt
  clear qt
  go_wp2
  go_loopw [5] (fun i wr => ∃ k : Nat, k ≤ b.seats.length ∧ i = .int .i64 k ∧ (b.seats.take k).all (rowB (sizeL h.sectors)) = true ∧ Step W0 wr) (fun i _ => b.seats.length - (intOf i).toNat)
  case atStart => exact ⟨0, Nat.zero_le _, rfl, rfl, HT.out⟩
  case round =>
    obtain ⟨k, hk, rfl, ht, hT⟩ := hrel
    have HA := Lib.hid ht
    have HT := Lib.hid hT
    clear ht hT
    (try clear e0 e1 e2 e3 e4 f0 f1 f2 f3 f4 f5 y1 y2)
    obtain ⟨e0, e1, e2, e3, e4⟩ := cells5 (HB1.out.step HT.out)
    obtain ⟨f0, f1, f2, f3, f4, f5⟩ := cells6 (HB2.out.step HT.out)
    have y1 := (HB1.out.step HT.out).lt
    have y2 := (HB2.out.step HT.out).lt
    by_cases hlt : k < b.seats.length
    · obtain rfl := HP1.out.1 (by omega)
      obtain ⟨x, rg, hx⟩ := HP1.out.2 k hlt
      obtain ⟨pu, cu, bu, ou, rfl, _, nu, hpu, hcu, _⟩ := hx.ints
      have HG := Lib.hid rg
      have HU := Lib.hid (And.intro hpu hcu)
      clear hx hpu hcu rg
      have a1 := (HS.out.trans HT.out).keeps.cell id HG.out
      have gz := (HS.out.trans HT.out).keeps.cell id HGZ.out
      have hix : (0 : Int) ≤ (k : Int) ∧ (k : Int) < (b.seats.length : Int) := by omega
      by_cases ql : b.seats[k].length = h.holds[0].length
      rotate_left
      · have qld : ((b.seats[k].length : Int) != (h.holds[0].length : Int)) = true := by simp; omega
        have HQL := Lib.hid ql
        clear ql
        have HF := Lib.hid (bookB_not (h := h) (b := b) fun p => by
          have h1 := all_at p.rows hlt
          have h2 := HHZ.out
          simp [rowB] at h1
          exact HQL.out (by omega))
        go_wp2
        go_quiet (fail)
        go_wp2
        go_ret
        exact ⟨by rw [HF.out]; rfl, HS.out.trans (HT.out.trans (Step.drewN _ _))⟩
      have qld : ((b.seats[k].length : Int) != (h.holds[0].length : Int)) = false := by simp; omega
      have HQL := Lib.hid ql
      clear ql
      go_wp2
      go_quiet (fail)
      go_wp2
      clear qld a1 gz e0 e1 e2 e3 e4 f0 f1 f2 f3 f4 f5 y1 y2
      have HTd := Lib.hid (HT.out.trans (Step.drewN wr nq))
      obtain ⟨wo, hwo⟩ : ∃ W, W = wr := ⟨_, rfl⟩
      subst hwo
      go_loopw [6] (fun i wi => ∃ k2 : Nat, k2 ≤ b.seats[k].length ∧ i = .int .i64 k2 ∧ (b.seats[k].take k2).all (fun x => withinB x (-1) 1000000) = true ∧ Step W0 wi) (fun i _ => b.seats[k].length - (intOf i).toNat)
      case atStart => exact ⟨0, Nat.zero_le _, rfl, rfl, HTd.out⟩
      case round =>
        obtain ⟨k2, hk2, rfl, ht, hT⟩ := hrel
        have HI := Lib.hid ht
        have HT := Lib.hid hT
        clear ht hT
        (try clear e0 e1 e2 e3 e4 f0 f1 f2 f3 f4 f5 y1 y2)
        obtain ⟨e0, e1, e2, e3, e4⟩ := cells5 (HB1.out.step HT.out)
        obtain ⟨f0, f1, f2, f3, f4, f5⟩ := cells6 (HB2.out.step HT.out)
        have y1 := (HB1.out.step HT.out).lt
        have y2 := (HB2.out.step HT.out).lt
        have a1 := (HS.out.trans HT.out).keeps.cell id HG.out
        by_cases hlt2 : k2 < b.seats[k].length
        · obtain rfl := HU.out.1 (by omega)
          have ga := (HS.out.trans HT.out).keeps.cell id (HU.out.2 k2 hlt2)
          have hix2 : (0 : Int) ≤ (k2 : Int) ∧ (k2 : Int) < (b.seats[k].length : Int) := by omega
          go_wp2_with fail
          refine (bigtopref08.In_any _ _ _ _).mono ?_
          rintro e w' ⟨rfl, rfl⟩
          cases q : withinB b.seats[k][k2] (-1) 1000000 with
          | false =>
            have q := Lib.hid q
            have HF := Lib.hid (bookB_not (h := h) (b := b) fun p => by
              have h1 := all_at p.rows hlt
              simp only [rowB, Bool.and_eq_true] at h1
              have h2 := all_at h1.2 hlt2
              simp [q.out] at h2)
            go_wp2
            go_ret
            exact ⟨by rw [HF.out]; rfl, HS.out.trans HT.out⟩
          | true =>
            have HQ := Lib.hid q
            clear q
            go_wp2
            go_roundw
            case rel => exact ⟨k2 + 1, by omega, by go_num, all_take HI.out hlt2 HQ.out, HT.out⟩
            case measure => simp [intOf]; omega
        · have HROW := Lib.hid (show rowB (sizeL h.sectors) b.seats[k] = true by
            have h1 := all_done HI.out hlt2
            have h2 := HHZ.out
            have h3 := HQL.out
            simp only [rowB, Bool.and_eq_true, decide_eq_true_eq]
            exact ⟨by omega, h1⟩)
          go_wp2
          go_roundw
          case rel => exact ⟨k + 1, by omega, by go_num, all_take HA.out hlt HROW.out, HT.out⟩
          case measure => simp [intOf]; omega
    · have HROWS := Lib.hid (all_done HA.out hlt)
      clear HA
      go_wp2
      obtain ⟨wo, hwo⟩ : ∃ W, W = wr := ⟨_, rfl⟩
      subst hwo
      clear e0 e1 e2 e3 e4 f0 f1 f2 f3 f4 f5 y1 y2
      go_loopw [7] (fun i wr => ∃ k : Nat, k ≤ b.took.length ∧ i = .int .i64 k ∧ ((idxKeys b.took).take k).all (ikeyB h b) = true ∧ Step W0 wr) (fun i _ => b.took.length - (intOf i).toNat)
      case atStart => exact ⟨0, Nat.zero_le _, rfl, rfl, HT.out⟩
      case round =>
        obtain ⟨k3, hk3, rfl, ht, hT⟩ := hrel
        have HA := Lib.hid ht
        have HT := Lib.hid hT
        clear ht hT
        (try clear e0 e1 e2 e3 e4 f0 f1 f2 f3 f4 f5 y1 y2)
        obtain ⟨e0, e1, e2, e3, e4⟩ := cells5 (HB1.out.step HT.out)
        obtain ⟨f0, f1, f2, f3, f4, f5⟩ := cells6 (HB2.out.step HT.out)
        have y1 := (HB1.out.step HT.out).lt
        have y2 := (HB2.out.step HT.out).lt
        by_cases hlt3 : k3 < b.took.length
        · obtain rfl := HPT.out.1 (by omega)
          obtain ⟨ra1, ra2⟩ := HPT.out.2 k3 hlt3
          have HK := Lib.hid (And.intro ra1 ra2)
          clear ra1 ra2
          have hix3 : (0 : Int) ≤ (k3 : Int) ∧ (k3 : Int) < (b.took.length : Int) := by omega
          go_upto_region 16 with fail
          clear e0 e1 e2 e3 e4 f0 f1 f2 f3 f4 f5 y1 y2
          refine wp_region_seq (kdOf [7, 9, 29] []) [0, 1, 0, 7, 15, 31, 0, 64, 192, 511, 1023, 2047, 4095, 8191, 4095, 32767, 65535, 131071, 4095, 266239, 1048575, 2097151, 4194303, 8388607, 16777215, 8388607, 67108863, 134217727, 268435455, 536870911, 1073741823, 2147483647] [0, 1, 2, 3, 4, 5, 6, 7, 8, 9, 10, 11, 12, 13, 14, 15, 16, 17, 18, 19, 20, 21, 22, 23, 24, 25, 26, 27, 28, 29, 30, 31] [] (by kernel_rfl) (by kernel_rfl) (fun i T z hi hk => by simp [kdOf] at hk <;> (try (split at hk <;> cases hk))) ?_
          intro Wx hWx
          have HTx := Lib.hid (HT.out.trans hWx)
          clear hWx HT
          have HT := HTx
          clear HTx
          (try clear e0 e1 e2 e3 e4 f0 f1 f2 f3 f4 f5 y1 y2)
          obtain ⟨e0, e1, e2, e3, e4⟩ := cells5 (HB1.out.step HT.out)
          obtain ⟨f0, f1, f2, f3, f4, f5⟩ := cells6 (HB2.out.step HT.out)
          have y1 := (HB1.out.step HT.out).lt
          have y2 := (HB2.out.step HT.out).lt
          have a1 := (HS.out.trans HT.out).keeps.cell id HK.out.1
          repeat (first | (refine run_off rfl rfl (by rfl) ?_; (try simp only [Act.put, List.setIfInBounds_toArray, List.set_cons_zero, List.set_cons_succ])) | (refine run_chain_off rfl rfl (by rfl) (K0_mono _) ?_; (try simp only [Act.put, List.setIfInBounds_toArray, List.set_cons_zero, List.set_cons_succ])) | ((refine run_want rfl rfl (by rfl) ⟨?_, fun W hW => ?_, ?_⟩; rotate_left; (· (have d0 := hW.keeps.cell id f4; have d1 := hW.keeps.cell id a1; have d2 := hW.keeps.cell id e0; have d3 := hW.keeps.cell id e1; have d4 := hW.keeps.cell id e2; have d5 := hW.keeps.cell id e3; have d6 := hW.keeps.cell id e4; go_simp; (try with_reducible rfl)))); (try simp only [Act.put, List.setIfInBounds_toArray, List.set_cons_zero, List.set_cons_succ])))
          refine run_chain rfl rfl (by rfl) (fun Wi hWi K' hK => ?_)
          have HTi := Lib.hid (HT.out.trans hWi)
          have HZW := Lib.hid HTi.out.size
          clear hWi HT
          go_simp
          refine (Agencies_any S h _ _ ⟨_, rfl, Rep.keep (.of_step HTi.out) HR.out⟩ hf0).mono ?_
          rintro e wn ⟨rfl, hSn⟩
          have HT := Lib.hid (HTi.out.trans (StepX.of hSn))
          clear HTi
          refine hK _ _ (StepX.of hSn) ?_
          clear hSn
          (try simp only [Act.put, List.setIfInBounds_toArray, List.set_cons_zero, List.set_cons_succ])
          have hwa := HWA.out
          clear a1
          repeat (first | (refine run_off rfl rfl (by rfl) ?_; (try simp only [Act.put, List.setIfInBounds_toArray, List.set_cons_zero, List.set_cons_succ])) | (refine run_chain_off rfl rfl (by rfl) (K0_mono _) ?_; (try simp only [Act.put, List.setIfInBounds_toArray, List.set_cons_zero, List.set_cons_succ])) | ((refine run_want rfl rfl (by rfl) ⟨?_, fun W hW => ?_, ?_⟩; rotate_left; (· (skip; go_simp; (try with_reducible rfl)))); (try simp only [Act.put, List.setIfInBounds_toArray, List.set_cons_zero, List.set_cons_succ])))
          clear hwa
          refine run_chain rfl rfl (by rfl) (fun Wi hWi K' hK => ?_)
          have HTi := Lib.hid (HT.out.trans hWi)
          have HZW := Lib.hid HTi.out.size
          clear hWi HT
          go_simp
          refine (In_st _ _ _ _).mono ?_
          rintro e wn ⟨rfl, hSn⟩
          have HT := Lib.hid (HTi.out.trans (StepX.of hSn))
          clear HTi
          cases q : withinB b.took[k3].frm 0 ((agN h : Int) - 1) with
          | false =>
            have q := Lib.hid q
            refine hK _ _ (StepX.of hSn) ?_
            clear hSn
            (try simp only [Act.put, List.setIfInBounds_toArray, List.set_cons_zero, List.set_cons_succ])
            have HF := Lib.hid (bookB_not (h := h) (b := b) fun p => took_not hlt3 (by simp [keyB, q.out]) p)
            (try clear e0 e1 e2 e3 e4 f0 f1 f2 f3 f4 f5 y1 y2)
            obtain ⟨e0, e1, e2, e3, e4⟩ := cells5 (HB1.out.step HT.out)
            obtain ⟨f0, f1, f2, f3, f4, f5⟩ := cells6 (HB2.out.step HT.out)
            have y1 := (HB1.out.step HT.out).lt
            have y2 := (HB2.out.step HT.out).lt
            repeat (first | (refine run_off rfl rfl (by rfl) ?_; (try simp only [Act.put, List.setIfInBounds_toArray, List.set_cons_zero, List.set_cons_succ])) | (refine run_chain_off rfl rfl (by rfl) (K0_mono _) ?_; (try simp only [Act.put, List.setIfInBounds_toArray, List.set_cons_zero, List.set_cons_succ])) | ((refine run_want rfl rfl (by rfl) ⟨?_, fun W hW => ?_, ?_⟩; rotate_left; (· (have d0 := hW.keeps.cell id f0; have d1 := hW.keeps.cell id f1; have d2 := hW.keeps.cell id f2; have d3 := hW.keeps.cell id f3; have d4 := hW.keeps.cell id f4; have d5 := hW.keeps.cell id e2; have d6 := hW.keeps.cell id e3; go_simp; (try with_reducible rfl)))); (try simp only [Act.put, List.setIfInBounds_toArray, List.set_cons_zero, List.set_cons_succ])))
            refine run_end (L := []) rfl (fun W6 hW6 => ?_)
            have HT6 := Lib.hid (HT.out.trans hW6)
            clear hW6 HT
            have HT := HT6
            clear HT6
            go_wp2
            go_ret
            exact ⟨by rw [HF.out]; rfl, HS.out.trans HT.out⟩
          | true =>
          have HQ1 := Lib.hid q
          clear q
          refine hK _ _ (StepX.of hSn) ?_
          clear hSn
          (try simp only [Act.put, List.setIfInBounds_toArray, List.set_cons_zero, List.set_cons_succ])
          (try clear e0 e1 e2 e3 e4 f0 f1 f2 f3 f4 f5 y1 y2)
          obtain ⟨e0, e1, e2, e3, e4⟩ := cells5 (HB1.out.step HT.out)
          obtain ⟨f0, f1, f2, f3, f4, f5⟩ := cells6 (HB2.out.step HT.out)
          have y1 := (HB1.out.step HT.out).lt
          have y2 := (HB2.out.step HT.out).lt
          have a1 := (HS.out.trans HT.out).keeps.cell id HK.out.1
          by_cases qe : b.took[k3].frm = b.agency
          · have qed : ((b.took[k3].frm : Int) == b.agency) = true := by simpa using qe
            have qe := Lib.hid qe
            have HF := Lib.hid (bookB_not (h := h) (b := b) fun p => took_not hlt3 (by simp [keyB, qe.out]) p)
            repeat (first | (refine run_off rfl rfl (by rfl) ?_; (try simp only [Act.put, List.setIfInBounds_toArray, List.set_cons_zero, List.set_cons_succ])) | (refine run_chain_off rfl rfl (by rfl) (K0_mono _) ?_; (try simp only [Act.put, List.setIfInBounds_toArray, List.set_cons_zero, List.set_cons_succ])) | ((refine run_want rfl rfl (by rfl) ⟨?_, fun W hW => ?_, ?_⟩; rotate_left; (· (have d0 := hW.keeps.cell id f4; have d1 := hW.keeps.cell id a1; have d2 := hW.keeps.cell id f0; go_simp; (try with_reducible rfl)))); (try simp only [Act.put, List.setIfInBounds_toArray, List.set_cons_zero, List.set_cons_succ])))
            refine run_end (L := []) rfl (fun W6 hW6 => ?_)
            have HT6 := Lib.hid (HT.out.trans hW6)
            clear hW6 HT
            have HT := HT6
            clear HT6
            go_wp2
            go_ret
            exact ⟨by rw [HF.out]; rfl, HS.out.trans HT.out⟩
          have qed : ((b.took[k3].frm : Int) == b.agency) = false := by simpa using qe
          have HQ2 := Lib.hid qe
          clear qe
          have a2 := (HS.out.trans HT.out).keeps.cell id HK.out.2
          repeat (first | (refine run_off rfl rfl (by rfl) ?_; (try simp only [Act.put, List.setIfInBounds_toArray, List.set_cons_zero, List.set_cons_succ])) | (refine run_chain_off rfl rfl (by rfl) (K0_mono _) ?_; (try simp only [Act.put, List.setIfInBounds_toArray, List.set_cons_zero, List.set_cons_succ])) | ((refine run_want rfl rfl (by rfl) ⟨?_, fun W hW => ?_, ?_⟩; rotate_left; (· (have d0 := hW.keeps.cell id f4; have d1 := hW.keeps.cell id a1; have d2 := hW.keeps.cell id f0; have d3 := hW.keeps.cell id a2; go_simp; (try with_reducible rfl)))); (try simp only [Act.put, List.setIfInBounds_toArray, List.set_cons_zero, List.set_cons_succ])))
          clear a1 a2
          refine run_chain rfl rfl (by rfl) (fun Wi hWi K' hK => ?_)
          have HTi := Lib.hid (HT.out.trans hWi)
          have HZW := Lib.hid HTi.out.size
          clear hWi HT
          go_simp
          refine (In_st _ _ _ _).mono ?_
          rintro e wn ⟨rfl, hSn⟩
          have HT := Lib.hid (HTi.out.trans (StepX.of hSn))
          clear HTi
          cases q : withinB b.took[k3].number 1 1000 with
          | false =>
            have q := Lib.hid q
            refine hK _ _ (StepX.of hSn) ?_
            clear hSn
            (try simp only [Act.put, List.setIfInBounds_toArray, List.set_cons_zero, List.set_cons_succ])
            have HF := Lib.hid (bookB_not (h := h) (b := b) fun p => took_not hlt3 (by simp [keyB, q.out]) p)
            (try clear e0 e1 e2 e3 e4 f0 f1 f2 f3 f4 f5 y1 y2)
            obtain ⟨e0, e1, e2, e3, e4⟩ := cells5 (HB1.out.step HT.out)
            obtain ⟨f0, f1, f2, f3, f4, f5⟩ := cells6 (HB2.out.step HT.out)
            have y1 := (HB1.out.step HT.out).lt
            have y2 := (HB2.out.step HT.out).lt
            repeat (first | (refine run_off rfl rfl (by rfl) ?_; (try simp only [Act.put, List.setIfInBounds_toArray, List.set_cons_zero, List.set_cons_succ])) | (refine run_chain_off rfl rfl (by rfl) (K0_mono _) ?_; (try simp only [Act.put, List.setIfInBounds_toArray, List.set_cons_zero, List.set_cons_succ])) | ((refine run_want rfl rfl (by rfl) ⟨?_, fun W hW => ?_, ?_⟩; rotate_left; (· (have d0 := hW.keeps.cell id f0; have d1 := hW.keeps.cell id f1; have d2 := hW.keeps.cell id f2; have d3 := hW.keeps.cell id f3; have d4 := hW.keeps.cell id f4; have d5 := hW.keeps.cell id e2; have d6 := hW.keeps.cell id e3; go_simp; (try with_reducible rfl)))); (try simp only [Act.put, List.setIfInBounds_toArray, List.set_cons_zero, List.set_cons_succ])))
            refine run_end (L := []) rfl (fun W6 hW6 => ?_)
            have HT6 := Lib.hid (HT.out.trans hW6)
            clear hW6 HT
            have HT := HT6
            clear HT6
            go_wp2
            go_ret
            exact ⟨by rw [HF.out]; rfl, HS.out.trans HT.out⟩
          | true =>
          have HQ3 := Lib.hid q
          clear q
          refine hK _ _ (StepX.of hSn) ?_
          clear hSn
          (try simp only [Act.put, List.setIfInBounds_toArray, List.set_cons_zero, List.set_cons_succ])
          repeat (first | (refine run_off rfl rfl (by rfl) ?_; (try simp only [Act.put, List.setIfInBounds_toArray, List.set_cons_zero, List.set_cons_succ])) | (refine run_chain_off rfl rfl (by rfl) (K0_mono _) ?_; (try simp only [Act.put, List.setIfInBounds_toArray, List.set_cons_zero, List.set_cons_succ])) | ((refine run_want rfl rfl (by rfl) ⟨?_, fun W hW => ?_, ?_⟩; rotate_left; (· (skip; go_simp; (try with_reducible rfl)))); (try simp only [Act.put, List.setIfInBounds_toArray, List.set_cons_zero, List.set_cons_succ])))
          refine run_end (L := []) rfl (fun W6 hW6 => ?_)
          have HT6 := Lib.hid (HT.out.trans hW6)
          clear hW6 HT
          have HT := HT6
          clear HT6
          clear qed
          go_wp2
          obtain ⟨wo, hwo⟩ : ∃ W, W = wr := ⟨_, rfl⟩
          subst hwo
          (try clear e0 e1 e2 e3 e4 f0 f1 f2 f3 f4 f5 y1 y2)
          go_loopw [8] (fun i wi => ∃ k4 : Nat, k4 ≤ k3 ∧ i = .int .i64 k4 ∧ b.took[k3] ∉ b.took.take k4 ∧ Step W0 wi) (fun i _ => k3 - (intOf i).toNat)
          case atStart => exact ⟨0, Nat.zero_le _, rfl, by simp, HT.out⟩
          case round =>
            obtain ⟨k4, hk4, rfl, hnm, hT⟩ := hrel
            have HNM := Lib.hid hnm
            have HT := Lib.hid hT
            clear hnm hT
            (try clear e0 e1 e2 e3 e4 f0 f1 f2 f3 f4 f5 y1 y2)
            obtain ⟨e0, e1, e2, e3, e4⟩ := cells5 (HB1.out.step HT.out)
            obtain ⟨f0, f1, f2, f3, f4, f5⟩ := cells6 (HB2.out.step HT.out)
            have y1 := (HB1.out.step HT.out).lt
            have y2 := (HB2.out.step HT.out).lt
            by_cases hlt4 : k4 < k3
            · have hlt4' : k4 < b.took.length := by omega
              obtain ⟨g1, g3⟩ := HPT.out.2 k4 hlt4'
              have g2 := HK.out.1
              have g4 := HK.out.2
              have g1 := (HS.out.trans HT.out).keeps.cell id g1
              have g2 := (HS.out.trans HT.out).keeps.cell id g2
              have g3 := (HS.out.trans HT.out).keeps.cell id g3
              have g4 := (HS.out.trans HT.out).keeps.cell id g4
              have hix4 : (0 : Int) ≤ (k4 : Int) ∧ (k4 : Int) < (b.took.length : Int) := by omega
              obtain ⟨x, y, hx, hy⟩ := (show ∃ x y, b.took[k4] = x ∧ b.took[k3] = y from ⟨_, _, rfl, rfl⟩)
              rw [hx] at g1 g3
              rw [hy] at g2 g4
              have HX := Lib.hid hx
              have HY := Lib.hid hy
              clear hx hy
              obtain ⟨xf, xn⟩ := x
              obtain ⟨yf, yn⟩ := y
              dsimp only at g1 g2 g3 g4
              by_cases q1 : xf = yf
              · by_cases q2 : xn = yn
                · have HF := Lib.hid (bookB_not (h := h) (b := b) fun p => took_not hlt3 (by
                    have h1 : b.took[k3] ∈ b.took.take k3 := by rw [HY.out, ← q1, ← q2, ← HX.out]; exact mem_at hlt4' hlt4
                    simp [h1]) p)
                  subst q1 q2
                  go_wp2
                  go_quiet (fail)
                  go_wp2
                  go_ret
                  exact ⟨by rw [HF.out]; rfl, HS.out.trans (HT.out.trans (Step.drewN _ _))⟩
                · have HN := Lib.hid (mem_snoc (k := k3) hlt4' HNM.out (by rw [HX.out, HY.out]; simp [q2]))
                  have q2d : ((xn : Int) == yn) = false := by simpa using q2
                  subst q1
                  clear q2
                  go_wp2
                  go_quiet (fail)
                  go_wp2
                  go_roundw
                  case rel => exact ⟨k4 + 1, by omega, by go_num, HN.out, HT.out.trans (Step.drewN _ _)⟩
                  case measure => simp [intOf]; omega
              · have HN := Lib.hid (mem_snoc (k := k3) hlt4' HNM.out (by rw [HX.out, HY.out]; simp [q1]))
                have q1d : ((xf : Int) == yf) = false := by simpa using q1
                clear q1
                go_wp2
                go_quiet (fail)
                go_wp2
                go_roundw
                case rel => exact ⟨k4 + 1, by omega, by go_num, HN.out, HT.out.trans (Step.drewN _ _)⟩
                case measure => simp [intOf]; omega
            · obtain rfl : k4 = k3 := by omega
              have hli : k4 < (idxKeys b.took).length := by rw [idxKeys_len]; exact hlt3
              have HIK := Lib.hid (all_take HA.out hli (show ikeyB h b (idxKeys b.took)[k4] = true by
                rw [ikey_at hli hlt3]
                simp only [keyB, HQ1.out, HQ3.out, Bool.and_true, Bool.true_and]
                simp [HNM.out, HQ2.out]))
              clear hli
              go_wp2
              go_roundw
              case rel => exact ⟨k4 + 1, by omega, by go_num, HIK.out, HT.out⟩
              case measure => simp [intOf]; omega
        · have HTK := Lib.hid (show tookB h b = true from all_done HA.out (by rw [idxKeys_len]; exact hlt3))
          have HCA := Lib.hid (show cashL h b.seats = cashL h b.seats from rfl)
          go_upto_region 23 with fail
          clear e0 e1 e2 e3 e4 f0 f1 f2 f3 f4 f5 y1 y2
          refine wp_region_seq (kdOf [4] []) [0, 1, 0, 0, 12, 31, 63] [0, 1, 2, 3, 4, 5, 6] [] (by kernel_rfl) (by kernel_rfl) (fun i T z hi hk => by simp [kdOf] at hk <;> (try (split at hk <;> cases hk))) ?_
          intro Wx hWx
          have HTx := Lib.hid (HT.out.trans hWx)
          clear hWx HT
          have HT := HTx
          clear HTx
          (try clear e0 e1 e2 e3 e4 f0 f1 f2 f3 f4 f5 y1 y2)
          obtain ⟨e0, e1, e2, e3, e4⟩ := cells5 (HB1.out.step HT.out)
          obtain ⟨f0, f1, f2, f3, f4, f5⟩ := cells6 (HB2.out.step HT.out)
          have y1 := (HB1.out.step HT.out).lt
          have y2 := (HB2.out.step HT.out).lt
          repeat (first | (refine run_off rfl rfl (by rfl) ?_; (try simp only [Act.put, List.setIfInBounds_toArray, List.set_cons_zero, List.set_cons_succ])) | (refine run_chain_off rfl rfl (by rfl) (K0_mono _) ?_; (try simp only [Act.put, List.setIfInBounds_toArray, List.set_cons_zero, List.set_cons_succ])) | ((refine run_want rfl rfl (by rfl) ⟨?_, fun W hW => ?_, ?_⟩; rotate_left; (· (have d0 := hW.keeps.cell id f0; have d1 := hW.keeps.cell id f1; have d2 := hW.keeps.cell id f2; have d3 := hW.keeps.cell id f3; have d4 := hW.keeps.cell id f4; have d5 := hW.keeps.cell id f5; have d6 := hW.keeps.cell id e0; have d7 := hW.keeps.cell id e1; have d8 := hW.keeps.cell id e2; have d9 := hW.keeps.cell id e3; have d10 := hW.keeps.cell id e4; go_simp; (try with_reducible rfl)))); (try simp only [Act.put, List.setIfInBounds_toArray, List.set_cons_zero, List.set_cons_succ])))
          refine run_chain rfl rfl (by rfl) (fun Wi hWi K' hK => ?_)
          have HTi := Lib.hid (HT.out.trans hWi)
          have HZW := Lib.hid HTi.out.size
          clear hWi HT
          go_simp
          refine (Cash_any S h b _ _ _ ⟨_, rfl, Rep.keep (.of_step HTi.out) HR.out⟩ ⟨_, rfl, Rep.keep (.of_step HTi.out) HQ.out⟩ HOK.out (by have := HQS.out; have := HBV.out; omega) (fun i hi => by have h1 := all_at HROWS.out hi; simp only [rowB, Bool.and_eq_true, decide_eq_true_eq] at h1; exact h1.1)).mono ?_
          rintro e wn ⟨rfl, hSn⟩
          have HT := Lib.hid (HTi.out.trans (StepX.of hSn))
          clear HTi
          by_cases qc : b.cash = cashL h b.seats
          · have qcd : ((b.cash : Int) == cashL h b.seats) = true := by simpa using qc
            have HF := Lib.hid (bookB_of (h := h) (b := b) ⟨HQA.out, HQS.out, HQO.out, HQN.out, HQT.out, HROWS.out, qc, HTK.out⟩)
            clear qc
            refine hK _ _ (StepX.of hSn) ?_
            clear hSn
            (try simp only [Act.put, List.setIfInBounds_toArray, List.set_cons_zero, List.set_cons_succ])
            repeat (first | (refine run_off rfl rfl (by rfl) ?_; (try simp only [Act.put, List.setIfInBounds_toArray, List.set_cons_zero, List.set_cons_succ])) | (refine run_chain_off rfl rfl (by rfl) (K0_mono _) ?_; (try simp only [Act.put, List.setIfInBounds_toArray, List.set_cons_zero, List.set_cons_succ])) | ((refine run_want rfl rfl (by rfl) ⟨?_, fun W hW => ?_, ?_⟩; rotate_left; (· (skip; go_simp; (try with_reducible rfl)))); (try simp only [Act.put, List.setIfInBounds_toArray, List.set_cons_zero, List.set_cons_succ])))
            refine run_end (L := []) rfl (fun W6 hW6 => ?_)
            have HT6 := Lib.hid (HT.out.trans hW6)
            clear hW6 HT
            have HT := HT6
            clear HT6
            go_wp2
            go_ret
            exact ⟨by rw [HF.out]; rfl, HS.out.trans HT.out⟩
          · have qcd : ((b.cash : Int) == cashL h b.seats) = false := by simpa using qc
            have qc := Lib.hid qc
            have HF := Lib.hid (bookB_not (h := h) (b := b) fun p => qc.out p.cash)
            refine hK _ _ (StepX.of hSn) ?_
            clear hSn
            (try simp only [Act.put, List.setIfInBounds_toArray, List.set_cons_zero, List.set_cons_succ])
            repeat (first | (refine run_off rfl rfl (by rfl) ?_; (try simp only [Act.put, List.setIfInBounds_toArray, List.set_cons_zero, List.set_cons_succ])) | (refine run_chain_off rfl rfl (by rfl) (K0_mono _) ?_; (try simp only [Act.put, List.setIfInBounds_toArray, List.set_cons_zero, List.set_cons_succ])) | ((refine run_want rfl rfl (by rfl) ⟨?_, fun W hW => ?_, ?_⟩; rotate_left; (· (skip; go_simp; (try with_reducible rfl)))); (try simp only [Act.put, List.setIfInBounds_toArray, List.set_cons_zero, List.set_cons_succ])))
            refine run_end (L := []) rfl (fun W6 hW6 => ?_)
            have HT6 := Lib.hid (HT.out.trans hW6)
            clear hW6 HT
            have HT := HT6
            clear HT6
            go_wp2
            go_ret
            exact ⟨by rw [HF.out]; rfl, HS.out.trans HT.out⟩
end Go.Proofs.Ytbgfmikbhiblgaa
/- Walks: the law's wrong. -/
namespace Go.Proofs.Ytbgfmikbhiblgaa
set_option linter.unusedSimpArgs false
set_option linter.unusedVariables false
open Go.RowKit Go.BT

def wrongB (h : House) (b : Book) : Bool := !(valid h && bookB h b)
theorem wrong_no {h : House} {b : Book} (hw : wrongB h b = false) : valid h = true ∧ bookB h b = true := by
  simpa [wrongB] using hw
theorem wrong_yes {h : House} {b : Book} (hw : wrongB h b = true) : (valid h && bookB h b) = false := by
  unfold wrongB at hw; cases q : (valid h && bookB h b) <;> simp [q] at hw ⊢
set_option maxHeartbeats 2000000 in
theorem wrong_any (S : Nat → Prop) (h : House) (b : Book) (v u : Value) (w : World) (hv : AV S w v h) (hu : AV S w u b) :
    Calls Try.prog 17 #[v, u] w fun e w' => e = .returned (.bool (wrongB h b)) ∧ Step w w' := by
  obtain ⟨cs, rfl, hr⟩ := hv
  have hr0 := hr
  obtain ⟨c0, c1, c2, c3, c4, rfl, h0, h1, h2, h3, h4⟩ := hr
  obtain ⟨cs, rfl, hq⟩ := hu
  have hq0 := hq
  obtain ⟨d1, d2, d4, rfl, s1, s2, s4⟩ := hq
  obtain ⟨p0, k0, rfl⟩ := h0.form
  obtain ⟨p1, k1, rfl⟩ := h1.form
  obtain ⟨p2, k2, rfl⟩ := h2.form
  obtain ⟨p3, k3, rfl⟩ := h3.form
  obtain ⟨p4, k4, rfl⟩ := h4.form
  obtain ⟨q1, m1, rfl⟩ := s1.form
  obtain ⟨q2, m2, rfl⟩ := s2.form
  obtain ⟨q4, m4, rfl⟩ := s4.form
  obtain ⟨W0, hW0⟩ : ∃ W0, W0 = (w.alloc (.cells #[.slice p0 h.sectors.length k0, .slice p1 h.prices.length k1, .slice p2 h.dates.length k2, .slice p3 h.frm.length k3, .slice p4 h.holds.length k4] 26)).alloc (.cells #[.int .i64 b.agency, .slice q1 b.seats.length m1, .slice q2 b.off.length m2, .int .i64 b.sent, .slice q4 b.took.length m4, .int .i64 b.cash] 30) := ⟨_, rfl⟩
  have hbx : Bx W0 w.heap.size [.slice p0 h.sectors.length k0, .slice p1 h.prices.length k1, .slice p2 h.dates.length k2, .slice p3 h.frm.length k3, .slice p4 h.holds.length k4] 26 := by subst hW0; exact (Bx.new _ _ _).alloc _
  have hb2 : Bx W0 (w.heap.size + 1) [.int .i64 b.agency, .slice q1 b.seats.length m1, .slice q2 b.off.length m2, .int .i64 b.sent, .slice q4 b.took.length m4, .int .i64 b.cash] 30 := by subst hW0; exact Bx.new' _ _ _ _ (by simp)
  have hS : Step w W0 := by subst hW0; exact (by repeat (first | (with_reducible assumption) | (with_reducible exact Step.refl _) | (with_reducible apply Step.s_alloc) | (with_reducible apply Step.s_drew) | (with_reducible apply Step.s_drewN) | (with_reducible refine Step.trans ?_ (by with_reducible assumption))))
  have HB1 := Lib.hid hbx
  have HB2 := Lib.hid hb2
  have HR := Lib.hid (Rep.keep (.of_step hS) hr0)
  have HQ := Lib.hid (Rep.keep (.of_step hS) hq0)
  have HS := Lib.hid hS
  have HT := Lib.hid (Step.refl W0)
  have HW := Lib.hid hW0
  clear hbx hb2 hS h0 h1 h2 h3 h4 s1 s2 s4 hr0 hq0 hW0
  go_enter Try.func17, Try.ntmps17
  go_wp2_with fail
  rw [← HW.out]
  refine (Right_any S h _ _ ⟨_, rfl, HR.out⟩).mono ?_
  rintro e wn ⟨rfl, hSn⟩
  have HTn := Lib.hid (HT.out.trans hSn)
  clear hSn HT
  have HT := HTn
  clear HTn
  (try clear e0 e1 e2 e3 e4 f0 f1 f2 f3 f4 f5 y1 y2)
  obtain ⟨e0, e1, e2, e3, e4⟩ := cells5 (HB1.out.step HT.out)
  obtain ⟨f0, f1, f2, f3, f4, f5⟩ := cells6 (HB2.out.step HT.out)
  have y1 := (HB1.out.step HT.out).lt
  have y2 := (HB2.out.step HT.out).lt
  cases q : valid h with
  | false =>
    have HF := Lib.hid (show wrongB h b = true by simp [wrongB, q])
    clear q
    go_wp2
    go_ret
    exact ⟨by rw [HF.out]; rfl, HS.out.trans HT.out⟩
  | true =>
    have HQV := Lib.hid q
    have HF := Lib.hid (show wrongB h b = !bookB h b by simp [wrongB, q])
    clear q
    go_wp2_with fail
    refine (RightBook_any S h b _ _ _ ⟨_, rfl, Rep.keep (.of_step HT.out) HR.out⟩ ⟨_, rfl, Rep.keep (.of_step HT.out) HQ.out⟩ HQV.out).mono ?_
    rintro e wm ⟨rfl, hSm⟩
    go_wp2
    go_ret
    exact ⟨by rw [HF.out]; rfl, HS.out.trans (HT.out.trans hSm)⟩
end Go.Proofs.Ytbgfmikbhiblgaa
