/- CanvasProves holds of every input, and its arguments read afterwards as they did. -/
import Derived.Test.YtdcjbbeoocldeaaMk
import Derived.Test.YtdcjbbeoocldeaaMn
import Derived.Test.YtdcjbbeoocldeaaRows
import Derived.Deep.Upon
/- Walks: an append to an empty literal; what proofs of balances are asked in the law. -/
namespace Go.Proofs.Ytdcjbbeoocldeaa
set_option linter.unusedSimpArgs false
set_option linter.unusedVariables false
open Go.RowKit Go.BT

section
variable {α : Type} [Rep α] {S : Nat → Prop} {base : Nat} {P : Program} {w : World} {u : Value} {m : List α} {t e : TypeId} {z : Value} {bytes : Nat}
/-- Append to an empty literal: the row of the literal is left alone. -/
theorem run_append_empty (ei : EI P t e z (Rep.k α) bytes) (ty : TypeId) (g : Nat) (hown : OwnL S base e w (.slice (some ⟨g, 0, none⟩) 0 0) ([] : List α)) (hu : SLe (avoid S (.slice (some ⟨g, 0, none⟩) 0 0)) w u m)
    (n : Nat) (hn : m.length = n) (h63 : n ≤ maxLen) (hbytes : n * bytes ≤ 140737488355328) (hbase : base ≤ w.heap.size) :
    ∃ p c w', (Builtin.append_ #[t, t] ty #[.slice (some ⟨g, 0, none⟩) 0 0, u]).run P w = .ok (.slice p n c) w' ∧ OwnL S base e w' (.slice p n c) m ∧ Step w w' := by
  obtain ⟨p, c, w', h1, h2, h3⟩ := run_append_L ei ty hown hu n (by simpa using hn) m rfl h63 hbytes hbase
  refine ⟨p, c, w', h1, h2, ?_⟩
  obtain ⟨ht, hzs, i, hi, hz, hsize, hby⟩ := ei
  obtain ⟨pu, cu, b, o, rfl, hcu, _, hp, hat⟩ := hu
  by_cases hm : m = []
  · subst hm
    have hnil : (Builtin.append_ #[t, t] ty #[.slice (some ⟨g, 0, none⟩) 0 0, .slice pu ([] : List α).length cu]).run P w = .ok (.slice (some ⟨g, 0, none⟩) 0 0) w := by
      cases pu with
      | none => exact run_append_nothing w t t ty e i ht hi _ 0 0 (Nat.le_refl _) _ (Src.ofNil w ht cu)
      | some a => exact run_append_nothing w t t ty e i ht hi _ 0 0 (Nat.le_refl _) _ (Src.ofSlice w ht a 0 cu [] (by simp) (by simp) (by simp))
    rw [hnil] at h1
    injection h1 with _ h
    subst h
    exact Step.refl _
  · have hpos : 0 < m.length := List.length_pos_iff.2 hm
    obtain rfl := hp hpos
    obtain ⟨news, hl, hnw, _, _⟩ := cells_of_at m o hat
    have hgr := run_append_grow (P := P) w t ty e i z ht hi hz ⟨g, 0, none⟩ 0 0 [] (by simp) (by simp) ⟨b, o, none⟩ m.length cu news (by rw [hl, hsize]) (fun j v hj => by rw [Addr.add_lit]; exact hnw j v hj) (by omega) (by simp only [maxLen] at h63; omega) (growslice_fits (by omega) (by rw [Nat.zero_add, hn, hby]; exact hbytes))
    rw [hgr] at h1
    injection h1 with _ h
    subst h
    exact (Step.drew w).trans (Step.alloc _ _)
theorem wp_append_empty {o : Oper} {a : Act} {K : Act → World → Prop} {Q : Exit → Act → World → Prop} (ei : EI P t e z (Rep.k α) bytes) (g : Nat) (s x : Operand)
    (ho : o.op = .call { callee := .builtin .append, args := #[s, x], argTypes := #[t, t] }) (hs : a.eval s = .slice (some ⟨g, 0, none⟩) 0 0) (hx : a.eval x = u) (hown : OwnL S base e w (.slice (some ⟨g, 0, none⟩) 0 0) ([] : List α)) (hu : SLe (avoid S (.slice (some ⟨g, 0, none⟩) 0 0)) w u m)
    (n : Nat) (hn : m.length = n) (h63 : n ≤ maxLen) (hbytes : n * bytes ≤ 140737488355328) (hbase : base ≤ w.heap.size)
    (h : ∀ p c w', OwnL S base e w' (.slice p n c) m → Step w w' → K (a.put o.dst (.slice p n c)) w') : o.wp P a w K Q := by
  obtain ⟨p, c, w', hr, h2, h3⟩ := run_append_empty ei o.type g hown hu n hn h63 hbytes hbase
  unfold Oper.wp execOp
  simp only [ho, resolve, invoke, builtin, Sem.run_bind, Sem.run_pure, Result.andThen_ok, List.map_toArray, List.map_cons, List.map_nil, hs, hx, hr]
  exact h p c w' h2 h3
theorem ownL_at (S : Nat → Prop) (base : Nat) (e : TypeId) (w : World) {g : Nat} (h : w.heap[g]? = some (.cells #[] e (0, 0))) (hb : base ≤ g) : OwnL S base e w (.slice (some ⟨g, 0, none⟩) 0 0) ([] : List α) :=
  ⟨[], ⟨by simp, .inr ⟨g, 0, #[], rfl, hb, h, Nat.le_refl _, by simp [maxLen], by simp, by simp⟩⟩, fun i h => absurd h (by simp)⟩
theorem wpl_append_empty {ops : Array Oper} {rest : List Oper} {o : Oper} {a : Act} {Q : Exit → Act → World → Prop} (g : Nat) (ei : EI P t e z (Rep.k α) bytes) (hgd : o.guard = none) (s x : Operand)
    (ho : o.op = .call { callee := .builtin .append, args := #[s, x], argTypes := #[t, t] }) (hs : a.eval s = .slice (some ⟨g, 0, none⟩) 0 0) (hx : a.eval x = u) (hown : OwnL S base e w (.slice (some ⟨g, 0, none⟩) 0 0) ([] : List α)) (hu : SLe (avoid S (.slice (some ⟨g, 0, none⟩) 0 0)) w u m)
    (n : Nat) (hn : m.length = n) (h63 : n ≤ maxLen) (hbytes : n * bytes ≤ 140737488355328) (hbase : base ≤ w.heap.size)
    (h : ∀ p c w', OwnL S base e w' (.slice p n c) m → Step w w' → wpList P ops Q rest (a.put o.dst (.slice p n c)) w') : wpList P ops Q (o :: rest) a w :=
  wpList_plain hgd fun _ hK => wp_append_empty ei g s x ho hs hx hown hu n hn h63 hbytes hbase fun p c w' h2 h3 => hK _ _ (h p c w' h2 h3)
theorem own_apart {v : Value} {l : List α} {g : Nat} {cs : List Value} {T : TypeId} (h : OwnL S base e w v l) (hb : Bx w g cs T) (hne : e ≠ T) : v.ownBlock ≠ some g := by
  obtain ⟨xs, ⟨_, ho⟩, _⟩ := h
  rcases ho with ⟨rfl, _⟩ | ⟨g', cap, cur, rfl, _, hg, _⟩
  · simp [Value.ownBlock]
  · intro q
    simp [Value.ownBlock] at q
    subst q
    unfold Bx at hb
    rw [hg] at hb
    injection hb with hb
    injection hb with _ h2 _
    exact hne h2
theorem ownL_lit (S : Nat → Prop) (base : Nat) (e : TypeId) (w : World) (hb : base ≤ w.heap.size) : OwnL S base e (w.alloc (.cells #[] e)) (.slice (some ⟨w.heap.size, 0, none⟩) 0 0) ([] : List α) :=
  ⟨[], World.ownsRow_lit w #[] 0 hb (by simp [maxLen]) (by simp), fun i h => absurd h (by simp)⟩
end
theorem slt_set {S : Nat → Prop} {w : World} {b o n c : Nat} {l : List Int} (h : SLT S w (.slice (some ⟨b, o, none⟩) n c) l) {k : Nat} (hk : k < l.length) (v : Int) : SLT S (w.setCell ⟨b, o + k, none⟩ (.int .i64 v)) (.slice (some ⟨b, o, none⟩) n c) (l.set k v) := by
  refine ⟨?_, fun b' o' n' c' e i hi => by rw [World.frozen?_setCell]; exact h.2 b' o' n' c' e i hi⟩
  obtain ⟨p, c', b', o', hv, hc, hm, hp, ha⟩ := h.1
  injection hv with e1 e2 e3
  have hb := hp (by omega)
  rw [← e1] at hb
  injection hb with hb
  injection hb with hb1 hb2
  subst hb1 hb2 e3
  refine ⟨_, c, b, o, by rw [List.length_set, e2], by simpa using hc, by simpa using hm, fun _ => rfl, fun i hi => ?_⟩
  have hi' : i < l.length := by simpa using hi
  obtain ⟨h1, h2, cs, hr, hcs⟩ := ha i hi'
  have hr' : cs = [.int .i64 l[i]] := hr
  subst hr'
  have hcell : w.cell? ⟨b, o + i * 1 + 0, none⟩ = some (.int .i64 l[i]) := hcs 0 _ rfl
  refine ⟨by simpa using h1, h2, [.int .i64 (l.set k v)[i]], rfl, fun j u hj => ?_⟩
  match j, hj with
  | 0, hj =>
    simp at hj
    subst hj
    show (w.setCell _ _).cell? ⟨b, o + i * 1 + 0, none⟩ = _
    by_cases q : k = i
    · subst q
      rw [show (⟨b, o + k * 1 + 0, none⟩ : Addr) = ⟨b, o + k, none⟩ by simp] at hcell ⊢
      rw [World.cell?_setCell_same _ _ _ hcell]
      simp
    · have h9 : (w.setCell ⟨b, o + k, none⟩ (.int .i64 v)).cell? ⟨b, o + i * 1 + 0, none⟩ = w.cell? ⟨b, o + i * 1 + 0, none⟩ := by
        apply World.cell?_setCell_other
        simp [q]
      rw [h9, hcell]
      simp [List.getElem_set, q]
theorem balR_len {l : List Tst} {t : List Head} {i : Int} {p : Vec} : (balR l t i p).parts.length ≤ 8 := by
  by_cases h : balC l t i p = 0
  · have hat : atC l t i (cornerB p) = 0 := by
      unfold balC at h
      split at h
      · assumption
      · exact h
    obtain ⟨k1, k2, k3, _, _⟩ := atC_ok hat
    obtain ⟨_, _, hpn, hpg⟩ := head_parts (headAt_ok k2 k3)
    have hs : (searchL (headF l t i) (headP t i p)).2 = true := by
      unfold balC at h
      rw [if_pos hat] at h
      by_cases q : (searchL (headF l t i) (headP t i p)).2 = true
      · exact q
      · rw [if_neg q] at h; simp at h
    have his := search_is (forces_small k1 hpg) hs
    have : (balR l t i p).parts.length = (headF l t i).length := by
      unfold balR
      rw [if_pos h]
      simp only [isBalL, Bool.and_eq_true, decide_eq_true_eq] at his
      exact his.1.1.1.2
    rw [this]
    unfold headF
    rw [forces_len]; exact hpn
  · unfold balR
    rw [if_neg h]; simp [noBal]
set_option maxRecDepth 100000 in
set_option maxHeartbeats 8000000 in
theorem CanvasProves_any (l : List Tst) (t : List Head) (i : Int) (p way : Vec) (bb : Bal) (own : Bool) (at_ by_ : Int) (v u vb : Value) (w : World) (hv : SL (fun _ => False) w v l) (hu : SL (fun _ => False) w u t) (hb : AV (fun _ => False) w vb bb) (hat : (Lit.int .u8 at_).wf = true) :
    Calls Try.prog 5 #[v, u, .int .i64 i, .agg #[.int .i64 p.x, .int .i64 p.y], .agg #[.int .i64 way.x, .int .i64 way.y], vb, .bool own, .int .u8 at_, .int .i64 by_] w fun e w' => e = .returned (.bool true) ∧ Step w w' := by
  obtain ⟨c1, rfl, hbl⟩ := hb.bal
  obtain ⟨pb, kb, rfl⟩ := hbl.form
  obtain ⟨W0, hW0⟩ : ∃ W, W = ((w.alloc (.cells #[.int .i64 p.x, .int .i64 p.y] 26)).alloc (.cells #[.int .i64 way.x, .int .i64 way.y] 26)).alloc (.cells #[.int .i64 bb.whole, .slice pb bb.parts.length kb] 52) := ⟨_, rfl⟩
  have hb1 : Bx W0 w.heap.size [.int .i64 p.x, .int .i64 p.y] 26 := by subst hW0; exact ((Bx.new w [_, _] _).alloc _).alloc _
  have hb2 : Bx W0 (w.heap.size + 1) [.int .i64 way.x, .int .i64 way.y] 26 := by subst hW0; exact (Bx.new' _ [_, _] _ _ (by simp)).alloc _
  have hb3 : Bx W0 (w.heap.size + 2) [.int .i64 bb.whole, .slice pb bb.parts.length kb] 52 := by subst hW0; exact Bx.new' _ [_, _] _ _ (by simp)
  have hS : Step w W0 := by subst hW0; exact (by repeat (first | (with_reducible assumption) | (with_reducible exact Step.refl _) | (with_reducible apply Step.s_alloc) | (with_reducible apply Step.s_drew) | (with_reducible apply Step.s_drewN) | (with_reducible refine Step.trans ?_ (by with_reducible assumption))))
  have HB1 := Lib.hid hb1
  have HB2 := Lib.hid hb2
  have HB3 := Lib.hid hb3
  have HV := Lib.hid (SL.go hv hS)
  have HU := Lib.hid (SL.go hu hS)
  have HBL := Lib.hid (SL.go hbl hS)
  have HS := Lib.hid hS
  have HT := Lib.hid (Step.refl W0)
  have HW := Lib.hid hW0
  have HAT := Lib.hid (show 0 ≤ at_ ∧ at_ ≤ 255 by have h1 : IntKind.u8.min = 0 := rfl; have h2 : IntKind.u8.max = 255 := rfl; simp [Lit.wf] at hat; omega)
  obtain ⟨pv, cv, rfl⟩ := hv.form
  obtain ⟨pu, cu, rfl⟩ := hu.form
  clear hb1 hb2 hb3 hS hW0 hv hu hb hbl hat
  go_enter Try.func5, Try.ntmps5
  go_upto_region 1 with (fail)
  rw [← HW.out]
  clear HW
  go_wp2_with fail
  refine (Few_any (fun _ => False) l t _ _ _ (HV.out.keep (.of_step HT.out)) (HU.out.keep (.of_step HT.out))).mono ?_
  rintro e wn ⟨rfl, hSn⟩
  have HTi := Lib.hid (HT.out.trans hSn)
  clear hSn HT
  have HT := HTi
  clear HTi
  cases qf : few l t with
  | false =>
    clear qf
    go_wp2_with fail
    refine (wakes_any _).mono ?_
    rintro e wz ⟨rfl, hSz⟩
    go_wp2
    go_ret
    exact ⟨rfl, HS.out.trans (HT.out.trans hSz)⟩
  | true =>
  have HFEW := Lib.hid (few_of qf)
  clear qf
  have n0 := (HB1.out.step HT.out).cell 0
  have n1 := (HB1.out.step HT.out).cell 1
  have m0 := (HB2.out.step HT.out).cell 0
  have m1 := (HB2.out.step HT.out).cell 1
  have r0 := (HB3.out.step HT.out).cell 0
  have r1 := (HB3.out.step HT.out).cell 1
  simp only [List.getElem?_cons_zero, List.getElem?_cons_succ] at n0 n1 m0 m1 r0 r1
  by_cases h12 : 12 < (bb.parts.length : Int)
  · have hd : decide (12 < (bb.parts.length : Int)) = true := by simpa using h12
    go_wp2_with fail
    refine (wakes_any _).mono ?_
    rintro e wz ⟨rfl, hSz⟩
    go_wp2
    go_ret
    exact ⟨rfl, HS.out.trans (HT.out.trans hSz)⟩
  have hd : decide (12 < (bb.parts.length : Int)) = false := by simpa using h12
  have HL12 := Lib.hid (show bb.parts.length ≤ 12 by omega)
  clear h12
  go_wp2_with fail
  refine (Corner_any p _).mono ?_
  rintro e wn ⟨rfl, hSn⟩
  have HTi := Lib.hid (HT.out.trans hSn)
  clear hSn HT
  have HT := HTi
  clear HTi
  go_wp2_with fail
  refine (asked_any (fun _ => False) l t i (cornerB p) _ _ _ (SL.go HV.out HT.out) (SL.go HU.out HT.out)).mono ?_
  rintro e wn ⟨rfl, hSn⟩
  have HTi := Lib.hid (HT.out.trans hSn)
  clear hSn HT
  have HT := HTi
  clear HTi
  obtain ⟨c, hc⟩ : ∃ c, c = atC l t i (cornerB p) := ⟨_, rfl⟩
  rw [← hc]
  have HC := Lib.hid hc
  obtain ⟨rt, hrt⟩ : ∃ r : Bool, r = (c == 0) := ⟨_, rfl⟩
  have hrt2 : (c == 0) = rt := hrt.symm
  have HRT := Lib.hid hrt
  clear hc hrt hd
  clear n0 n1 m0 m1 r0 r1
  go_upto_region 4 with (fail)
  have HSZ0 := Lib.hid (HT.out.size)
  refine wp_region_seq (kdOf [2, 5] [(7, 31, .agg #[.int .i64 0, .slice none 0 0])]) [0, 1, 0, 0, 8, 28, 63, 0, 255] [0, 1, 3, 4, 2, 5, 6, 7] [8] (by kernel_rfl) (by kernel_rfl) (fun i T z hi hk => by simp only [List.mem_cons, List.not_mem_nil, or_false] at hi; rcases hi with rfl | rfl | rfl | rfl | rfl | rfl | rfl | rfl <;> simp [kdOf] at hk <;> (obtain ⟨rfl, rfl⟩ := hk; first | (show Option.bind _ _ = some _; kernel_rfl) | (refine ⟨_, rfl, fun _ _ => ?_⟩; go_simp))) ?_
  intro Wx hWx
  have HTx := Lib.hid (HT.out.trans hWx)
  clear hWx HT
  have HT := HTx
  clear HTx
  have n0 := (HB1.out.step HT.out).cell 0
  have n1 := (HB1.out.step HT.out).cell 1
  have m0 := (HB2.out.step HT.out).cell 0
  have m1 := (HB2.out.step HT.out).cell 1
  have r0 := (HB3.out.step HT.out).cell 0
  have r1 := (HB3.out.step HT.out).cell 1
  simp only [List.getElem?_cons_zero, List.getElem?_cons_succ] at n0 n1 m0 m1 r0 r1
  repeat (first | (refine run_off rfl rfl (by rfl) ?_; (try simp only [Act.put, List.setIfInBounds_toArray, List.set_cons_zero, List.set_cons_succ])) | (refine run_chain_off rfl rfl (by rfl) (K0_mono _) ?_; (try simp only [Act.put, List.setIfInBounds_toArray, List.set_cons_zero, List.set_cons_succ])) | ((refine run_want rfl rfl (by rfl) ⟨?_, fun W hW => ?_, ?_⟩; rotate_left; (· (have d0 := hW.keeps.cell id r0; have d1 := hW.keeps.cell id r1; go_simp; (try with_reducible rfl)))); (try simp only [Act.put, List.setIfInBounds_toArray, List.set_cons_zero, List.set_cons_succ])))
  clear n0 n1 m0 m1 r0 r1
  refine run_chain rfl rfl (by rfl) (fun Wi hWi K' hK => ?_)
  have HTi := Lib.hid (HT.out.trans hWi)
  clear hWi HT
  go_simp
  refine hK _ _ (StepX.of (Step.alloc _ _)) ?_
  (try simp only [Act.put, List.setIfInBounds_toArray, List.set_cons_zero, List.set_cons_succ])
  have HOWN := Lib.hid (ownL_lit (α := Int) (fun _ => False) w.heap.size 3 Wi (Nat.le_trans HS.out.size HTi.out.size))
  have HT := Lib.hid (HTi.out.trans (Step.alloc Wi (.cells #[] 3)))
  obtain ⟨gl, hgl⟩ : ∃ g, g = Wi.heap.size := ⟨_, rfl⟩
  have HGL := Lib.hid (show W0.heap.size ≤ gl by rw [hgl]; exact HTi.out.size)
  have HGZ := Lib.hid (show (Wi.alloc (.cells #[] 3)).heap.size = gl + 1 by rw [hgl]; simp)
  rw [← hgl] at HOWN ⊢
  clear hgl HTi hK
  generalize Wi.alloc (.cells #[] 3) = WA at *
  have n0 := (HB1.out.step HT.out).cell 0
  have n1 := (HB1.out.step HT.out).cell 1
  have m0 := (HB2.out.step HT.out).cell 0
  have m1 := (HB2.out.step HT.out).cell 1
  have r0 := (HB3.out.step HT.out).cell 0
  have r1 := (HB3.out.step HT.out).cell 1
  simp only [List.getElem?_cons_zero, List.getElem?_cons_succ] at n0 n1 m0 m1 r0 r1
  repeat (first | (refine run_off rfl rfl (by rfl) ?_; (try simp only [Act.put, List.setIfInBounds_toArray, List.set_cons_zero, List.set_cons_succ])) | (refine run_chain_off rfl rfl (by rfl) (K0_mono _) ?_; (try simp only [Act.put, List.setIfInBounds_toArray, List.set_cons_zero, List.set_cons_succ])) | ((refine run_want rfl rfl (by rfl) ⟨?_, fun W hW => ?_, ?_⟩; rotate_left; (· (have d0 := hW.keeps.cell id r0; have d1 := hW.keeps.cell id r1; go_simp; (try with_reducible rfl)))); (try simp only [Act.put, List.setIfInBounds_toArray, List.set_cons_zero, List.set_cons_succ])))
  clear n0 n1 m0 m1 r0 r1
  refine run_chain rfl rfl (by rfl) (fun Wi hWi K' hK => ?_)
  have hu6 := SL.flat (avoid (fun _ => False) (.slice (some ⟨gl, 0, none⟩) 0 0)) (SL.go HBL.out (HT.out.trans hWi))
  have hl12 := HL12.out
  refine wp_append_empty (α := Int) (S := fun _ => False) (base := w.heap.size) eiInts gl _ _ rfl rfl rfl (HOWN.out.step hWi) hu6 bb.parts.length rfl (by simp only [maxLen]; omega) (by omega) (Nat.le_trans HS.out.size (HT.out.trans hWi).size) ?_
  intro p' c' w8 hown8 hs8
  have HOW8 := Lib.hid hown8
  have HT8 := Lib.hid (HT.out.trans (hWi.trans hs8))
  refine hK _ _ (StepX.of hs8) ?_
  clear hK hWi hu6 hown8 hs8 HOWN HT
  (try simp only [Act.put, List.setIfInBounds_toArray, List.set_cons_zero, List.set_cons_succ])
  have HT := HT8
  clear HT8
  repeat (first | (refine run_off rfl rfl (by rfl) ?_; (try simp only [Act.put, List.setIfInBounds_toArray, List.set_cons_zero, List.set_cons_succ])) | (refine run_chain_off rfl rfl (by rfl) (K0_mono _) ?_; (try simp only [Act.put, List.setIfInBounds_toArray, List.set_cons_zero, List.set_cons_succ])) | ((refine run_want rfl rfl (by rfl) ⟨?_, fun W hW => ?_, ?_⟩; rotate_left; (· (skip; go_simp; (try with_reducible rfl)))); (try simp only [Act.put, List.setIfInBounds_toArray, List.set_cons_zero, List.set_cons_succ])))
  refine run_alloc rfl rfl (fun W5 g hW5 hg hgb hgN => ?_)
  (try simp only [Act.put, List.setIfInBounds_toArray, List.set_cons_zero, List.set_cons_succ])
  refine run_end (L := [_]) rfl (fun W6 hW6 => ?_)
  have hb6 := Bx.step (w := W5) (cs := [_, _]) hg hW6
  have hgo : W0.heap.size ≤ g := by have := HSZ0.out; omega
  have HGO := Lib.hid hgo
  have hown8 := HOW8.out.step (hW5.trans hW6)
  have hna := own_apart hown8 hb6 (by decide)
  have hsl8 := (ownL_flat (fun j => j = g) hown8).slb (fun gg hg' e => by subst e; exact hna hg')
  refine wpl_store (v := .agg #[.int .i64 bb.whole, .slice p' bb.parts.length c']) rfl _ _ _ rfl rfl rfl hb6 (by kernel_rfl) (by simp [Value.cells]) (by simp [Value.cells, Value.oneCell']) [.int .i64 bb.whole, .slice p' bb.parts.length c'] rfl (fun w9 hb9 hw9 => ?_)
  have HX9 := Lib.hid hb9
  have HL9 := Lib.hid ((hsl8.keep (Keeps.wrote (S := fun j => j = g) hw9 rfl)).weak (T := fun _ => False) fun _ _ h => h.elim)
  have HTx := Lib.hid (Step.wrote (HT.out.trans (hW5.trans hW6)) hw9 hgo)
  clear hW5 hg hgb hgN hW6 hb6 hgo hown8 hna hsl8 hb9 hw9 HT HSZ0 HOW8 HGL HGZ hl12
  have HT := HTx
  clear HTx
  go_upto_region 5 with (fail)
  (try simp only [Act.put, List.setIfInBounds_toArray, List.set_cons_zero, List.set_cons_succ])
  go_cut [55] (fun c wx => c = .bool (own && rt) ∧ wx = w9)
  case first =>
    cases own with
    | false =>
      go_wp2
      go_meet
      exact ⟨rfl, rfl⟩
    | true =>
      go_wp2
      go_meet
      exact ⟨by simp, rfl⟩
  case rest =>
    obtain ⟨rfl, rfl⟩ := hcut
    go_upto_if 55 with (fail)
    go_cut [21] (fun _ wx => ∃ (xb : Bal) (px : Option Addr) (cx : Nat), Bx wx g [.int .i64 xb.whole, .slice px xb.parts.length cx] 31 ∧ SL (fun _ => False) wx (.slice px xb.parts.length cx) xb.parts ∧ xb.parts.length ≤ 1000 ∧ Step W0 wx)
    case first =>
      obtain ⟨orr, horr⟩ : ∃ o, o = (own && rt) := ⟨_, rfl⟩
      rw [← horr]
      clear horr
      cases orr with
      | false =>
        go_wp2
        go_meet
        exact ⟨bb, p', c', HX9.out, HL9.out, by have := HL12.out; omega, HT.out⟩
      | true =>
        go_upto_region 6 with (fail)
        have HSZ0 := Lib.hid (HT.out.size)
        have hT0 := Lib.hid (Step.refl wc)
        have HTC := HT
        clear HT
        have HT := hT0
        refine wp_region_seqM (fun c d v a w h => by cases d <;> exact h) (kdOf [1, 3, 6, 7] [(11, 31, .agg #[.int .i64 0, .slice none 0 0])]) [0, 1, 0, 7, 0, 0, 47, 127, 255, 511, 511, 0, 3071, 8191] [0, 2, 4, 5, 1, 3, 6, 7, 8, 9, 10, 11] [12, 13] (by kernel_rfl) (by kernel_rfl) (fun i T z hi hk => by simp only [List.mem_cons, List.not_mem_nil, or_false] at hi; rcases hi with rfl | rfl | rfl | rfl | rfl | rfl | rfl | rfl | rfl | rfl | rfl | rfl <;> simp [kdOf] at hk <;> (obtain ⟨rfl, rfl⟩ := hk; first | (show Option.bind _ _ = some _; kernel_rfl) | (refine ⟨_, rfl, fun _ _ => ?_⟩; go_simp))) ?_
        intro Wx hWx
        have HTx := Lib.hid (HT.out.trans hWx)
        clear hWx HT
        have HT := HTx
        clear HTx
        have n0 := (HB1.out.step (HTC.out.trans HT.out)).cell 0
        have n1 := (HB1.out.step (HTC.out.trans HT.out)).cell 1
        have m0 := (HB2.out.step (HTC.out.trans HT.out)).cell 0
        have m1 := (HB2.out.step (HTC.out.trans HT.out)).cell 1
        have r0 := (HB3.out.step (HTC.out.trans HT.out)).cell 0
        have r1 := (HB3.out.step (HTC.out.trans HT.out)).cell 1
        simp only [List.getElem?_cons_zero, List.getElem?_cons_succ] at n0 n1 m0 m1 r0 r1
        repeat (first | (refine run_off rfl rfl (by rfl) ?_; (try simp only [Act.put, List.setIfInBounds_toArray, List.set_cons_zero, List.set_cons_succ])) | (refine run_chain_off rfl rfl (by rfl) (K0_mono _) ?_; (try simp only [Act.put, List.setIfInBounds_toArray, List.set_cons_zero, List.set_cons_succ])) | ((refine run_want rfl rfl (by rfl) ⟨?_, fun W hW => ?_, ?_⟩; rotate_left; (· (have d0 := hW.keeps.cell id n0; have d1 := hW.keeps.cell id n1; have d2 := hW.keeps.cell id m0; have d3 := hW.keeps.cell id m1; have d4 := hW.keeps.cell id r0; have d5 := hW.keeps.cell id r1; go_simp; (try with_reducible rfl)))); (try simp only [Act.put, List.setIfInBounds_toArray, List.set_cons_zero, List.set_cons_succ])))
        clear n0 n1 m0 m1 r0 r1
        refine run_chain rfl rfl (by rfl) (fun Wi hWi K' hK => ?_)
        have HTi := Lib.hid (HT.out.trans hWi)
        have HZW := Lib.hid HTi.out.size
        clear hWi HT
        go_simp
        refine (Tests_any _ l _ _ (SL.go HV.out (HTC.out.trans HTi.out)) (by have := HFEW.out.1; omega)).mono ?_
        rintro e wn ⟨v1, rfl, hv1, hSn⟩
        have HT := Lib.hid (HTi.out.trans (StepX.of hSn))
        clear HTi
        have Hhv1 := Lib.hid (SL.go hv1 (Step.refl _))
        clear hv1
        refine hK _ _ (StepX.of hSn) ?_
        clear hSn
        (try simp only [Act.put, List.setIfInBounds_toArray, List.set_cons_zero, List.set_cons_succ])
        repeat (first | (refine run_off rfl rfl (by rfl) ?_; (try simp only [Act.put, List.setIfInBounds_toArray, List.set_cons_zero, List.set_cons_succ])) | (refine run_chain_off rfl rfl (by rfl) (K0_mono _) ?_; (try simp only [Act.put, List.setIfInBounds_toArray, List.set_cons_zero, List.set_cons_succ])) | ((refine run_want rfl rfl (by rfl) ⟨?_, fun W hW => ?_, ?_⟩; rotate_left; (· (skip; go_simp; (try with_reducible rfl)))); (try simp only [Act.put, List.setIfInBounds_toArray, List.set_cons_zero, List.set_cons_succ])))
        refine run_chain rfl rfl (by rfl) (fun Wi hWi K' hK => ?_)
        have HTi := Lib.hid (HT.out.trans hWi)
        have h1i := Lib.hid (SL.go Hhv1.out hWi)
        clear hWi HT Hhv1
        go_simp
        refine (Tent_any _ t _ _ (SL.go HU.out (HTC.out.trans HTi.out)) HFEW.out.2).mono ?_
        rintro e wn ⟨v2, rfl, hv2, hSn⟩
        have HT := Lib.hid (HTi.out.trans (StepX.of hSn))
        have Hhv1 := Lib.hid (SL.go h1i.out hSn)
        have HZI := Lib.hid HTi.out.size
        clear HTi h1i
        have Hhv2 := Lib.hid (SL.go hv2 (Step.refl _))
        clear hv2
        refine hK _ _ (StepX.of hSn) ?_
        clear hSn
        (try simp only [Act.put, List.setIfInBounds_toArray, List.set_cons_zero, List.set_cons_succ])
        have n0 := (HB1.out.step (HTC.out.trans HT.out)).cell 0
        have n1 := (HB1.out.step (HTC.out.trans HT.out)).cell 1
        have m0 := (HB2.out.step (HTC.out.trans HT.out)).cell 0
        have m1 := (HB2.out.step (HTC.out.trans HT.out)).cell 1
        have r0 := (HB3.out.step (HTC.out.trans HT.out)).cell 0
        have r1 := (HB3.out.step (HTC.out.trans HT.out)).cell 1
        simp only [List.getElem?_cons_zero, List.getElem?_cons_succ] at n0 n1 m0 m1 r0 r1
        repeat (first | (refine run_off rfl rfl (by rfl) ?_; (try simp only [Act.put, List.setIfInBounds_toArray, List.set_cons_zero, List.set_cons_succ])) | (refine run_chain_off rfl rfl (by rfl) (K0_mono _) ?_; (try simp only [Act.put, List.setIfInBounds_toArray, List.set_cons_zero, List.set_cons_succ])) | ((refine run_want rfl rfl (by rfl) ⟨?_, fun W hW => ?_, ?_⟩; rotate_left; (· (have d0 := hW.keeps.cell id n0; have d1 := hW.keeps.cell id n1; have d2 := hW.keeps.cell id m0; have d3 := hW.keeps.cell id m1; have d4 := hW.keeps.cell id r0; have d5 := hW.keeps.cell id r1; go_simp; (try with_reducible rfl)))); (try simp only [Act.put, List.setIfInBounds_toArray, List.set_cons_zero, List.set_cons_succ])))
        clear n0 n1 m0 m1 r0 r1
        refine run_chain rfl rfl (by rfl) (fun Wi hWi K' hK => ?_)
        have HTi := Lib.hid (HT.out.trans hWi)
        have h1i := Lib.hid (SL.go Hhv1.out hWi)
        have h2i := Lib.hid (SL.go Hhv2.out hWi)
        clear hWi HT Hhv1 Hhv2
        go_simp
        refine (Vector_any p _).mono ?_
        rintro e wn ⟨rfl, hSn⟩
        have HT := Lib.hid (HTi.out.trans (StepX.of hSn))
        have Hhv1 := Lib.hid (SL.go h1i.out hSn)
        have Hhv2 := Lib.hid (SL.go h2i.out hSn)
        have HZI := Lib.hid HTi.out.size
        clear HTi h1i h2i
        refine hK _ _ (StepX.of hSn) ?_
        clear hSn
        (try simp only [Act.put, List.setIfInBounds_toArray, List.set_cons_zero, List.set_cons_succ])
        repeat (first | (refine run_off rfl rfl (by rfl) ?_; (try simp only [Act.put, List.setIfInBounds_toArray, List.set_cons_zero, List.set_cons_succ])) | (refine run_chain_off rfl rfl (by rfl) (K0_mono _) ?_; (try simp only [Act.put, List.setIfInBounds_toArray, List.set_cons_zero, List.set_cons_succ])) | ((refine run_want rfl rfl (by rfl) ⟨?_, fun W hW => ?_, ?_⟩; rotate_left; (· (skip; go_simp; (try with_reducible rfl)))); (try simp only [Act.put, List.setIfInBounds_toArray, List.set_cons_zero, List.set_cons_succ])))
        refine run_chain rfl rfl (by rfl) (fun Wi hWi K' hK => ?_)
        have HTi := Lib.hid (HT.out.trans hWi)
        have h1i := Lib.hid (SL.go Hhv1.out hWi)
        have h2i := Lib.hid (SL.go Hhv2.out hWi)
        clear hWi HT Hhv1 Hhv2
        go_simp
        refine (Balanced_any (fun _ => False) l t i p _ _ _ h1i.out h2i.out).mono ?_
        rintro e wn ⟨vy, rfl, hvy, hSn⟩
        have HT := Lib.hid (HTi.out.trans (StepX.of hSn))
        have Hhv1 := Lib.hid (SL.go h1i.out hSn)
        have Hhv2 := Lib.hid (SL.go h2i.out hSn)
        have HZI := Lib.hid HTi.out.size
        clear HTi h1i h2i
        have HLN := Lib.hid (balR_len (l := l) (t := t) (i := i) (p := p))
        obtain ⟨yb, hyb⟩ : ∃ b, b = balR l t i p := ⟨_, rfl⟩
        obtain ⟨bc, hbc⟩ : ∃ b, b = balC l t i p := ⟨_, rfl⟩
        rw [← hyb] at hvy HLN
        rw [← hbc]
        obtain ⟨cb, rfl, hls⟩ := hvy.bal
        obtain ⟨pb, kb, rfl⟩ := hls.form
        have HLS := Lib.hid (hls.weak (T := fun j => Old Wi j ∨ wn.heap.size ≤ j) (fun j hj hs => hs.resolve_right (by omega)))
        have HGI := Lib.hid (show Old Wi g from Nat.lt_of_lt_of_le HX9.out.lt HZI.out)
        clear Hhv1 Hhv2 hvy hls hyb hbc
        refine hK _ _ (StepX.of hSn) ?_
        clear hSn hK
        (try simp only [Act.put, List.setIfInBounds_toArray, List.set_cons_zero, List.set_cons_succ])
        repeat (first | (refine run_off rfl rfl (by rfl) ?_; (try simp only [Act.put, List.setIfInBounds_toArray, List.set_cons_zero, List.set_cons_succ])) | (refine run_chain_off rfl rfl (by rfl) (K0_mono _) ?_; (try simp only [Act.put, List.setIfInBounds_toArray, List.set_cons_zero, List.set_cons_succ])) | ((refine run_want rfl rfl (by rfl) ⟨?_, fun W hW => ?_, ?_⟩; rotate_left; (· (skip; go_simp; (try with_reducible rfl)))); (try simp only [Act.put, List.setIfInBounds_toArray, List.set_cons_zero, List.set_cons_succ])))
        refine run_alloc rfl rfl (fun W5 gy hW5 hg hgb hgN => ?_)
        (try simp only [Act.put, List.setIfInBounds_toArray, List.set_cons_zero, List.set_cons_succ])
        refine run_end (L := [_, _]) rfl (fun W6 hW6 => ?_)
        have hb6 := Bx.step (w := W5) (cs := [_, _]) hg hW6
        refine wpl_store (v := .agg #[.int .i64 yb.whole, .slice pb yb.parts.length kb]) rfl _ _ _ rfl rfl rfl hb6 (by kernel_rfl) (by simp [Value.cells]) (by simp [Value.cells, Value.oneCell']) [.int .i64 yb.whole, .slice pb yb.parts.length kb] rfl (fun w7 hb7 hw7 => ?_)
        have HTY := Lib.hid (HTC.out.trans (Step.wrote ((HT.out.trans hW5).trans hW6) hw7 hgb))
        have HLY := Lib.hid ((HLS.out.keep (.of_step (hW5.trans hW6))).keep (Keeps.wrote hw7 (show Old Wi gy ∨ wn.heap.size ≤ gy from hgN.2)))
        have HX := Lib.hid ((HX9.out.step ((HT.out.trans hW5).trans hW6)).keep (Keeps.wrote (S := fun j => j = gy) hw7 rfl) (by have := HX9.out.lt; omega))
        have HBY := Lib.hid hb7
        have HGS := Lib.hid (show Old Wi g ∨ wn.heap.size ≤ g from .inl HGI.out)
        have HGY := Lib.hid (show Old Wi gy ∨ wn.heap.size ≤ gy from hgN.2)
        clear hW5 hg hgb hgN hW6 hb6 hb7 hw7 HT HSZ0 HLS HX9
        have x0 := (HBY.out).cell 0
        have x1 := (HBY.out).cell 1
        have xl := (HBY.out).lt
        simp only [List.getElem?_cons_zero, List.getElem?_cons_succ] at x0 x1
        by_cases hb0 : bc = 0
        rotate_left
        · have hd1 : (bc == 0) = false := by simpa using hb0
          clear hb0
          have z0 := (HX.out).frozen 0
          have z1 := (HX.out).frozen 1
          have y0 := (HX.out).cell 0
          have y1 := (HX.out).cell 1
          have yl := (HX.out).lt
          have x0 := (HBY.out).cell 0
          have x1 := (HBY.out).cell 1
          have xl := (HBY.out).lt
          simp only [List.getElem?_cons_zero, List.getElem?_cons_succ] at y0 y1 x0 x1
          go_wp2
          go_meet
          have b9 := set2 HX.out (.int .i64 yb.whole) (.slice pb yb.parts.length kb)
          exact ⟨⟨yb.whole, yb.parts⟩, _, kb, (by show Bx _ g [_, .slice _ (yb.parts).length kb] _; first | exact b9.1 | (rw [List.length_set]; exact b9.1)), (by show SL _ _ (.slice _ (yb.parts).length kb) (yb.parts); (try rw [List.length_set]); exact (HLY.out.1.keep (b9.2.keeps.mono fun j _ hj => by subst hj; exact HGS.out)).weak (fun _ _ h => h.elim)), (by show (yb.parts).length ≤ 1000; (try rw [List.length_set]); have := HLN.out; omega), StepX.fresh HTY.out b9.2 (fun j hj => by have := HGO.out; omega)⟩
        have hd1 : (bc == 0) = true := by simpa using hb0
        by_cases hl0 : 0 < (yb.parts.length : Int)
        rotate_left
        · have hd2 : decide (0 < (yb.parts.length : Int)) = false := by simpa using hl0
          have hd3 : decide (0 < yb.parts.length) = false := decide_eq_false (by omega)
          clear hb0 hl0
          have z0 := (HX.out).frozen 0
          have z1 := (HX.out).frozen 1
          have y0 := (HX.out).cell 0
          have y1 := (HX.out).cell 1
          have yl := (HX.out).lt
          have x0 := (HBY.out).cell 0
          have x1 := (HBY.out).cell 1
          have xl := (HBY.out).lt
          simp only [List.getElem?_cons_zero, List.getElem?_cons_succ] at y0 y1 x0 x1
          go_wp2
          go_meet
          have b9 := set2 HX.out (.int .i64 yb.whole) (.slice pb yb.parts.length kb)
          exact ⟨⟨yb.whole, yb.parts⟩, _, kb, (by show Bx _ g [_, .slice _ (yb.parts).length kb] _; first | exact b9.1 | (rw [List.length_set]; exact b9.1)), (by show SL _ _ (.slice _ (yb.parts).length kb) (yb.parts); (try rw [List.length_set]); exact (HLY.out.1.keep (b9.2.keeps.mono fun j _ hj => by subst hj; exact HGS.out)).weak (fun _ _ h => h.elim)), (by show (yb.parts).length ≤ 1000; (try rw [List.length_set]); have := HLN.out; omega), StepX.fresh HTY.out b9.2 (fun j hj => by have := HGO.out; omega)⟩
        have hd3 : decide (0 < yb.parts.length) = true := decide_eq_true (by omega)
        have hd2 : decide (0 < (yb.parts.length : Int)) = true := by simpa using hl0
        go_wp2_with fail
        refine (bigtopref01.In_any _ _ _ _).mono ?_
        rintro e w' ⟨rfl, rfl⟩
        obtain ⟨qb, hqb⟩ : ∃ q, q = withinB by_ (-1000) 1000 := ⟨_, rfl⟩
        rw [← hqb]
        clear hqb
        cases qb with
        | false =>
          clear hb0 hl0
          have z0 := (HX.out).frozen 0
          have z1 := (HX.out).frozen 1
          have y0 := (HX.out).cell 0
          have y1 := (HX.out).cell 1
          have yl := (HX.out).lt
          have x0 := (HBY.out).cell 0
          have x1 := (HBY.out).cell 1
          have xl := (HBY.out).lt
          simp only [List.getElem?_cons_zero, List.getElem?_cons_succ] at y0 y1 x0 x1
          go_wp2
          go_meet
          have b9 := set2 HX.out (.int .i64 yb.whole) (.slice pb yb.parts.length kb)
          exact ⟨⟨yb.whole, yb.parts⟩, _, kb, (by show Bx _ g [_, .slice _ (yb.parts).length kb] _; first | exact b9.1 | (rw [List.length_set]; exact b9.1)), (by show SL _ _ (.slice _ (yb.parts).length kb) (yb.parts); (try rw [List.length_set]); exact (HLY.out.1.keep (b9.2.keeps.mono fun j _ hj => by subst hj; exact HGS.out)).weak (fun _ _ h => h.elim)), (by show (yb.parts).length ≤ 1000; (try rw [List.length_set]); have := HLN.out; omega), StepX.fresh HTY.out b9.2 (fun j hj => by have := HGO.out; omega)⟩
        | true =>
          go_upto_region 8 with (fail)
          clear hb0
          have hat := HAT.out
          have hl8 := HLN.out
          obtain ⟨kk, hkk, hklt⟩ : ∃ k : Nat, (k : Int) = at_.tmod (yb.parts.length : Int) ∧ k < yb.parts.length := by
            have h1 := Int.tmod_nonneg (yb.parts.length : Int) hat.1
            have h2 := Int.tmod_lt_of_pos at_ hl0
            exact ⟨(at_.tmod (yb.parts.length : Int)).toNat, by omega, by omega⟩
          have hcv : IntKind.i64.wrap at_ = at_ := by rw [IntKind.wrap_i64]; omega
          have hrm : IntKind.i64.wrap (at_.tmod (yb.parts.length : Int)) = (kk : Int) := by rw [← hkk, IntKind.wrap_i64]; omega
          have hrm2 : at_.tmod (yb.parts.length : Int) = (kk : Int) := hkk.symm
          have hne : ((yb.parts.length : Int) == 0) = false := by simp; intro h; rw [h] at hl0; simp at hl0
          have hne2 : ¬ (yb.parts.length : Int) = 0 := by omega
          have hne3 : ¬ yb.parts.length = 0 := by omega
          have hjx : (0 : Int) ≤ (kk : Int) ∧ (kk : Int) < (yb.parts.length : Int) := by omega
          obtain ⟨pp, cc, b, o, he, _, _, hp, hc, hbk⟩ := HLY.out.1.ints
          injection he with he1 _ he3
          subst he1 he3
          obtain rfl := hp (by omega)
          have HE1 := Lib.hid (hc kk hklt)
          have HFZ := Lib.hid (HLY.out.2 b o _ _ rfl kk hklt)
          have HBK := Lib.hid (hbk (by omega))
          have HKL := Lib.hid hklt
          have hT0 := Lib.hid (Step.refl w7)
          have HT := hT0
          clear hat hl8 hkk hp hc hbk hT0
          refine wp_region_seq (kdOf [] []) [0, 1, 0, 4, 0, 16, 48, 124, 255, 511, 0, 2047, 4095, 8191] [0, 1, 2, 3, 4, 5, 6, 7, 8, 9, 10, 11, 12] [13] (by kernel_rfl) (by kernel_rfl) (fun i T z hi hk => by simp [kdOf] at hk <;> (try (split at hk <;> cases hk))) ?_
          intro Wx hWx
          have HTx := Lib.hid (HT.out.trans hWx)
          clear hWx HT
          have HT := HTx
          clear HTx
          have x0 := (HBY.out.step HT.out).cell 0
          have x1 := (HBY.out.step HT.out).cell 1
          have e1 := HT.out.keeps.cell id HE1.out
          simp only [List.getElem?_cons_zero, List.getElem?_cons_succ] at x0 x1
          repeat (first | (refine run_off rfl rfl (by rfl) ?_; (try simp only [Act.put, List.setIfInBounds_toArray, List.set_cons_zero, List.set_cons_succ])) | (refine run_chain_off rfl rfl (by rfl) (K0_mono _) ?_; (try simp only [Act.put, List.setIfInBounds_toArray, List.set_cons_zero, List.set_cons_succ])) | ((refine run_want rfl rfl (by rfl) ⟨?_, fun W hW => ?_, ?_⟩; rotate_left; (· (have d0 := hW.keeps.cell id x0; have d1 := hW.keeps.cell id x1; have d2 := hW.keeps.cell id e1; go_simp; (try with_reducible rfl)))); (try simp only [Act.put, List.setIfInBounds_toArray, List.set_cons_zero, List.set_cons_succ])))
          refine run_end (L := [_]) rfl (fun W6 hW6 => ?_)
          have hst := HT.out.trans hW6
          have e1 := hst.keeps.cell id HE1.out
          have hfz : W6.frozen? ⟨b, o + kk, none⟩ = false := (World.frozen?_of_block (w := w7) (hst.below.block b HBK.out.1)).trans HFZ.out
          have hbl : b < W6.heap.size := Nat.lt_of_lt_of_le HBK.out.1 hst.size
          have hly := slt_set (HLY.out.keep (.of_step hst)) HKL.out (wrap64 (yb.parts[kk] + by_))
          have hx := (HX.out.step hst).setOther (b := b) (o := o + kk) (v := .int .i64 (wrap64 (yb.parts[kk] + by_))) (fun e => HBK.out.2 (e ▸ HGS.out))
          have hby := (HBY.out.step hst).setOther (b := b) (o := o + kk) (v := .int .i64 (wrap64 (yb.parts[kk] + by_))) (fun e => HBK.out.2 (e ▸ HGY.out))
          have hty := Step.setNew (HTY.out.trans hst) ⟨b, o + kk, none⟩ (.int .i64 (wrap64 (yb.parts[kk] + by_))) (by
            have h1 := HBK.out.2
            have h2 := HTC.out.size
            have h3 := HZI.out
            show W0.heap.size ≤ b
            unfold Old at h1
            omega)
          have H9 := Lib.hid (And.intro hly (And.intro hx (And.intro hby hty)))
          clear hst hly hx hby hty hW6 HT
          go_upto_region 9 with (fail)
          generalize W6.setCell ⟨b, o + kk, none⟩ (.int .i64 (wrap64 (yb.parts[kk] + by_))) = W9 at *
          clear HLY HX HBY HTY x0 x1 xl e1 hfz hbl
          have HLY := Lib.hid H9.out.1
          have HX := Lib.hid H9.out.2.1
          have HBY := Lib.hid H9.out.2.2.1
          have HTY := Lib.hid H9.out.2.2.2
          clear H9
          have z0 := (HX.out).frozen 0
          have z1 := (HX.out).frozen 1
          have y0 := (HX.out).cell 0
          have y1 := (HX.out).cell 1
          have yl := (HX.out).lt
          have x0 := (HBY.out).cell 0
          have x1 := (HBY.out).cell 1
          have xl := (HBY.out).lt
          simp only [List.getElem?_cons_zero, List.getElem?_cons_succ] at y0 y1 x0 x1
          go_wp2
          go_meet
          have b9 := set2 HX.out (.int .i64 yb.whole) (.slice (some ⟨b, o, none⟩) yb.parts.length kb)
          exact ⟨⟨yb.whole, yb.parts.set kk (wrap64 (yb.parts[kk] + by_))⟩, _, kb, (by show Bx _ g [_, .slice _ (yb.parts.set kk (wrap64 (yb.parts[kk] + by_))).length kb] _; first | exact b9.1 | (rw [List.length_set]; exact b9.1)), (by show SL _ _ (.slice _ (yb.parts.set kk (wrap64 (yb.parts[kk] + by_))).length kb) (yb.parts.set kk (wrap64 (yb.parts[kk] + by_))); (try rw [List.length_set]); exact (HLY.out.1.keep (b9.2.keeps.mono fun j _ hj => by subst hj; exact HGS.out)).weak (fun _ _ h => h.elim)), (by show (yb.parts.set kk (wrap64 (yb.parts[kk] + by_))).length ≤ 1000; (try rw [List.length_set]); have := HLN.out; omega), StepX.fresh HTY.out b9.2 (fun j hj => by have := HGO.out; omega)⟩
    case rest =>
      obtain ⟨xb, px, cx, hxb, hxl, hxn, hTx⟩ := hcut
      have HXB := Lib.hid hxb
      have HXL := Lib.hid hxl
      have HXN := Lib.hid hxn
      have HT := Lib.hid hTx
      clear hxb hxl hxn hTx HX9 HL9 HGO
      go_upto_if 93 with (fail)
      obtain ⟨w7, hw7⟩ : ∃ W, W = wc := ⟨_, rfl⟩
      subst hw7
      go_cut [23, 24] (fun a b wx => a = .bool (proveWeakL l t i p way) ∧ b = .bool (proveBalL l t i p xb) ∧ Step w7 wx)
      case first =>
        have HU7 := Lib.hid (SL.go HU.out HT.out)
        have HV7 := Lib.hid (SL.go HV.out HT.out)
        have HC1 := Lib.hid (HB1.out.step HT.out)
        have HC2 := Lib.hid (HB2.out.step HT.out)
        cases rt with
        | false =>
          have hc0 : c ≠ 0 := by intro h; have := HRT.out; rw [h] at this; simp at this
          have HN1 := Lib.hid (show proveWeakL l t i p way = false by unfold proveWeakL; rw [← HC.out]; simp [hc0])
          have HN2 := Lib.hid (show proveBalL l t i p xb = false by unfold proveBalL; rw [← HC.out]; simp [hc0])
          clear hc0 hrt2
          go_wp2
          go_meet
          exact ⟨by rw [HN1.out], by rw [HN2.out], Step.refl _⟩
        | true =>
          have hat : atC l t i (cornerB p) = 0 := by
            rw [← HC.out]
            have := HRT.out
            simpa using this.symm
          have HN1 := Lib.hid (show proveWeakL l t i p way = isWeakL (headF l t i) (headP t i p) way by unfold proveWeakL; rw [hat]; simp)
          have HN2 := Lib.hid (show proveBalL l t i p xb = isBalL (headF l t i) (headP t i p) xb by unfold proveBalL; rw [hat]; simp)
          have HTG := HT
          clear HT hrt2
          have HT := Lib.hid (Step.refl w7)
          obtain ⟨k1, k2, k3, k4, k5⟩ := atC_ok hat
          obtain ⟨hpa, hpb, hpn, hpg⟩ := head_parts (headAt_ok k2 k3)
          obtain ⟨k, rfl⟩ : ∃ k : Nat, i = k := ⟨i.toNat, by omega⟩
          have hlt : k < t.length := by omega
          rw [headAt_eq hlt] at hpa hpb hpn hpg
          have HHA := Lib.hid (headAt_eq hlt)
          have hix : (0 : Int) ≤ (k : Int) ∧ (k : Int) < (t.length : Int) := by omega
          obtain ⟨pu', cu', bu, ou, heu, _, _, hpu, hcu, _⟩ := HU7.out.heads
          injection heu with heu1 _ heu3
          subst heu1 heu3
          obtain rfl := hpu (by omega)
          obtain ⟨c2, e1, e2, e3, e4⟩ := hcu k hlt
          obtain ⟨h, hh⟩ : ∃ h, h = t[k] := ⟨_, rfl⟩
          rw [← hh] at HHA e1 e2 e4 hpa hpb hpn hpg
          obtain ⟨pg, cg, rfl⟩ := e4.form
          have HHV := Lib.hid (show AV (fun _ => False) w7 (.agg #[.int .i64 h.area, .int .i64 h.bears, .slice pg h.guys.length cg]) h from ⟨_, rfl, _, rfl, e4⟩)
          have HE := Lib.hid (And.intro e1 (And.intro e2 e3))
          have HSM := Lib.hid (forces_small k1 hpg)
          have HFL := Lib.hid (show (forcesL l h.guys).length ≤ 8 by rw [forces_len]; exact hpn)
          have HK1 := Lib.hid (And.intro k1 (And.intro hpg (show h.guys.length ≤ 1000 by omega)))
          obtain ⟨F, hF⟩ : ∃ F, F = forcesL l h.guys := ⟨_, rfl⟩
          rw [← hF] at HSM HFL
          have HFE := Lib.hid hF
          clear e1 e2 e3 e4 hF hh hpu hcu hpb hpn hpg k1 k2 k3 k5
          obtain ⟨q, hq⟩ : ∃ q, q = timesV p h.area := ⟨_, rfl⟩
          have hqi : inV 10000000 q := by rw [hq]; exact times_in (N := 1000) (corner_in k4) hpa
          have hqf := in_fits hqi (by decide)
          have HQF := Lib.hid (show fits (h.area * p.x) ∧ fits (h.area * p.y) by rw [hq] at hqf; exact hqf)
          have HQ := Lib.hid (And.intro hq hqi)
          have HFQ := Lib.hid (show headF l t (k : Int) = F ∧ headP t (k : Int) p = q by unfold headF headP; rw [HHA.out, ← HFE.out, ← hq]; exact ⟨rfl, rfl⟩)
          clear hq hqi hqf k4 hat hpa
          go_upto_region 12 with (fail)
          have HSZ0 := Lib.hid (HT.out.size)
          refine wp_region_seqM (fun c d v a w h => by cases d <;> exact h) (kdOf [5, 12] [(13, 26, .agg #[.int .i64 0, .int .i64 0])]) [0, 0, 0, 6, 14, 31, 0, 0, 0, 384, 896, 1920, 4095, 0, 16383, 32767] [0, 1, 2, 3, 4, 6, 7, 8, 9, 10, 11, 5, 12, 13, 14] [15] (by kernel_rfl) (by kernel_rfl) (fun i T z hi hk => by simp only [List.mem_cons, List.not_mem_nil, or_false] at hi; rcases hi with rfl | rfl | rfl | rfl | rfl | rfl | rfl | rfl | rfl | rfl | rfl | rfl | rfl | rfl | rfl <;> simp [kdOf] at hk <;> (obtain ⟨rfl, rfl⟩ := hk; first | (show Option.bind _ _ = some _; kernel_rfl) | (refine ⟨_, rfl, fun _ _ => ?_⟩; go_simp))) ?_
          intro Wx hWx
          have HTx := Lib.hid (HT.out.trans hWx)
          clear hWx HT
          have HT := HTx
          clear HTx
          have n0 := (HC1.out.step HT.out).cell 0
          have n1 := (HC1.out.step HT.out).cell 1
          simp only [List.getElem?_cons_zero, List.getElem?_cons_succ] at n0 n1
          have e1 := HT.out.keeps.cell id HE.out.1
          have e2 := HT.out.keeps.cell id HE.out.2.1
          have e3 := HT.out.keeps.cell id HE.out.2.2
          repeat (first | (refine run_off rfl rfl (by rfl) ?_; (try simp only [Act.put, List.setIfInBounds_toArray, List.set_cons_zero, List.set_cons_succ])) | (refine run_chain_off rfl rfl (by rfl) (K0_mono _) ?_; (try simp only [Act.put, List.setIfInBounds_toArray, List.set_cons_zero, List.set_cons_succ])) | ((refine run_want rfl rfl (by rfl) ⟨?_, fun W hW => ?_, ?_⟩; rotate_left; (· (have d0 := hW.keeps.cell id n0; have d1 := hW.keeps.cell id n1; have d2 := hW.keeps.cell id e1; have d3 := hW.keeps.cell id e2; have d4 := hW.keeps.cell id e3; go_simp; (try with_reducible rfl)))); (try simp only [Act.put, List.setIfInBounds_toArray, List.set_cons_zero, List.set_cons_succ])))
          clear n0 n1 e1 e2 e3
          refine run_chain rfl rfl (by rfl) (fun Wi hWi K' hK => ?_)
          have HTi := Lib.hid (HT.out.trans hWi)
          have HZW := Lib.hid HTi.out.size
          clear hWi HT
          go_simp
          refine (Forces_any (fun _ => False) l h _ _ _ (SL.go HV7.out HTi.out) (AV.go HHV.out HTi.out) HK1.out.1 HK1.out.2.1 HK1.out.2.2).mono ?_
          rintro e wn ⟨vF, rfl, hvF, hSn⟩
          have HT := Lib.hid (HTi.out.trans (StepX.of hSn))
          clear HTi
          rw [← HFE.out] at hvF
          have HhvF := Lib.hid (hvF.weak (T := fun j => Old Wi j ∨ wn.heap.size ≤ j) (fun j hj hs => hs.resolve_right (by omega)))
          clear hvF
          refine hK _ _ (StepX.of hSn) ?_
          clear hSn
          (try simp only [Act.put, List.setIfInBounds_toArray, List.set_cons_zero, List.set_cons_succ])
          have n0 := (HC1.out.step HT.out).cell 0
          have n1 := (HC1.out.step HT.out).cell 1
          simp only [List.getElem?_cons_zero, List.getElem?_cons_succ] at n0 n1
          have e1 := HT.out.keeps.cell id HE.out.1
          have e2 := HT.out.keeps.cell id HE.out.2.1
          have e3 := HT.out.keeps.cell id HE.out.2.2
          repeat (first | (refine run_off rfl rfl (by rfl) ?_; (try simp only [Act.put, List.setIfInBounds_toArray, List.set_cons_zero, List.set_cons_succ])) | (refine run_chain_off rfl rfl (by rfl) (K0_mono _) ?_; (try simp only [Act.put, List.setIfInBounds_toArray, List.set_cons_zero, List.set_cons_succ])) | ((refine run_want rfl rfl (by rfl) ⟨?_, fun W hW => ?_, ?_⟩; rotate_left; (· (have d0 := hW.keeps.cell id n0; have d1 := hW.keeps.cell id n1; have d2 := hW.keeps.cell id e1; have d3 := hW.keeps.cell id e2; have d4 := hW.keeps.cell id e3; go_simp; (try with_reducible rfl)))); (try simp only [Act.put, List.setIfInBounds_toArray, List.set_cons_zero, List.set_cons_succ])))
          clear n0 n1 e1 e2 e3
          refine run_chain rfl rfl (by rfl) (fun Wi hWi K' hK => ?_)
          have HTi := Lib.hid (HT.out.trans hWi)
          have h1i := Lib.hid (SL.keep (.of_step hWi) HhvF.out)
          clear hWi HT HhvF
          go_simp
          refine (Times_any p h.area _ HQF.out.1 HQF.out.2).mono ?_
          rintro e wn ⟨rfl, hSn⟩
          have HT := Lib.hid (HTi.out.trans (StepX.of hSn))
          have HhvF := Lib.hid (SL.keep (.of_step hSn) h1i.out)
          have HZI := Lib.hid HTi.out.size
          clear HTi h1i
          rw [← HQ.out.1]
          refine hK _ _ (StepX.of hSn) ?_
          clear hSn
          (try simp only [Act.put, List.setIfInBounds_toArray, List.set_cons_zero, List.set_cons_succ])
          repeat (first | (refine run_off rfl rfl (by rfl) ?_; (try simp only [Act.put, List.setIfInBounds_toArray, List.set_cons_zero, List.set_cons_succ])) | (refine run_chain_off rfl rfl (by rfl) (K0_mono _) ?_; (try simp only [Act.put, List.setIfInBounds_toArray, List.set_cons_zero, List.set_cons_succ])) | ((refine run_want rfl rfl (by rfl) ⟨?_, fun W hW => ?_, ?_⟩; rotate_left; (· (skip; go_simp; (try with_reducible rfl)))); (try simp only [Act.put, List.setIfInBounds_toArray, List.set_cons_zero, List.set_cons_succ])))
          refine run_alloc rfl rfl (fun W5 gp hW5 hg hgb hgN => ?_)
          (try simp only [Act.put, List.setIfInBounds_toArray, List.set_cons_zero, List.set_cons_succ])
          repeat (first | (refine run_off rfl rfl (by rfl) ?_; (try simp only [Act.put, List.setIfInBounds_toArray, List.set_cons_zero, List.set_cons_succ])) | (refine run_chain_off rfl rfl (by rfl) (K0_mono _) ?_; (try simp only [Act.put, List.setIfInBounds_toArray, List.set_cons_zero, List.set_cons_succ])) | ((refine run_want rfl rfl (by rfl) ⟨?_, fun W hW => ?_, ?_⟩; rotate_left; (· (skip; go_simp; (try with_reducible rfl)))); (try simp only [Act.put, List.setIfInBounds_toArray, List.set_cons_zero, List.set_cons_succ])))
          refine run_end (L := [_]) rfl (fun W6 hW6 => ?_)
          have hb6 := Bx.step (w := W5) (cs := [_, _]) hg hW6
          refine wpl_store (v := .agg #[.int .i64 q.x, .int .i64 q.y]) rfl _ _ _ rfl rfl rfl hb6 (by kernel_rfl) (by simp [Value.cells]) (by simp [Value.cells, Value.oneCell']) [.int .i64 q.x, .int .i64 q.y] rfl (fun w9 hb9 hw9 => ?_)
          have HBQ := Lib.hid hb9
          have HVF := Lib.hid (SL.weak (T := fun _ => False) (fun _ _ h => h.elim) ((HhvF.out.keep (.of_step (hW5.trans hW6))).keep (Keeps.wrote hw9 hgN.1.2)))
          have HTx := Lib.hid (Step.wrote ((HT.out.trans hW5).trans hW6) hw9 hgb)
          clear hW5 hg hgb hgN hW6 hb6 hb9 hw9 HT HhvF HSZ0
          have HXB9 := Lib.hid (HXB.out.step HTx.out)
          have HXL9 := Lib.hid (SL.go HXL.out HTx.out)
          have HC29 := Lib.hid (HC2.out.step HTx.out)
          have HT := Lib.hid (Step.refl w9)
          go_upto_region 13 with (fail)
          refine wp_region_seq (kdOf [3, 11] []) [0, 0, 0, 7, 0, 0, 0, 64, 0, 256, 960, 2047, 4095, 8191] [0, 1, 2, 4, 5, 6, 7, 8, 9, 10, 3, 11, 12, 13] [] (by kernel_rfl) (by kernel_rfl) (fun i T z hi hk => by simp [kdOf] at hk <;> (try (split at hk <;> cases hk))) ?_
          intro Wx hWx
          have HTx := Lib.hid (HT.out.trans hWx)
          clear hWx HT
          have HT := HTx
          clear HTx
          have q0 := (HBQ.out.step HT.out).cell 0
          have q1 := (HBQ.out.step HT.out).cell 1
          have m0 := (HC29.out.step HT.out).cell 0
          have m1 := (HC29.out.step HT.out).cell 1
          have r0 := (HXB9.out.step HT.out).cell 0
          have r1 := (HXB9.out.step HT.out).cell 1
          simp only [List.getElem?_cons_zero, List.getElem?_cons_succ] at q0 q1 m0 m1 r0 r1
          repeat (first | (refine run_off rfl rfl (by rfl) ?_; (try simp only [Act.put, List.setIfInBounds_toArray, List.set_cons_zero, List.set_cons_succ])) | (refine run_chain_off rfl rfl (by rfl) (K0_mono _) ?_; (try simp only [Act.put, List.setIfInBounds_toArray, List.set_cons_zero, List.set_cons_succ])) | ((refine run_want rfl rfl (by rfl) ⟨?_, fun W hW => ?_, ?_⟩; rotate_left; (· (have d0 := hW.keeps.cell id q0; have d1 := hW.keeps.cell id q1; have d2 := hW.keeps.cell id m0; have d3 := hW.keeps.cell id m1; have d4 := hW.keeps.cell id r0; have d5 := hW.keeps.cell id r1; go_simp; (try with_reducible rfl)))); (try simp only [Act.put, List.setIfInBounds_toArray, List.set_cons_zero, List.set_cons_succ])))
          clear q0 q1 m0 m1 r0 r1
          refine run_chain rfl rfl (by rfl) (fun Wi hWi K' hK => ?_)
          have HTi := Lib.hid (HT.out.trans hWi)
          have HZW := Lib.hid HTi.out.size
          clear hWi HT
          go_simp
          refine (IsWeak_any (fun _ => False) F q way _ _ (SL.go HVF.out HTi.out) HSM.out HFL.out HQ.out.2).mono ?_
          rintro e wn ⟨rfl, hSn⟩
          have HT := Lib.hid (HTi.out.trans (StepX.of hSn))
          clear HTi
          refine hK _ _ (StepX.of hSn) ?_
          clear hSn
          (try simp only [Act.put, List.setIfInBounds_toArray, List.set_cons_zero, List.set_cons_succ])
          have q0 := (HBQ.out.step HT.out).cell 0
          have q1 := (HBQ.out.step HT.out).cell 1
          have r0 := (HXB9.out.step HT.out).cell 0
          have r1 := (HXB9.out.step HT.out).cell 1
          simp only [List.getElem?_cons_zero, List.getElem?_cons_succ] at q0 q1 r0 r1
          repeat (first | (refine run_off rfl rfl (by rfl) ?_; (try simp only [Act.put, List.setIfInBounds_toArray, List.set_cons_zero, List.set_cons_succ])) | (refine run_chain_off rfl rfl (by rfl) (K0_mono _) ?_; (try simp only [Act.put, List.setIfInBounds_toArray, List.set_cons_zero, List.set_cons_succ])) | ((refine run_want rfl rfl (by rfl) ⟨?_, fun W hW => ?_, ?_⟩; rotate_left; (· (have d0 := hW.keeps.cell id q0; have d1 := hW.keeps.cell id q1; have d2 := hW.keeps.cell id r0; have d3 := hW.keeps.cell id r1; go_simp; (try with_reducible rfl)))); (try simp only [Act.put, List.setIfInBounds_toArray, List.set_cons_zero, List.set_cons_succ])))
          clear q0 q1 r0 r1
          refine run_chain rfl rfl (by rfl) (fun Wi hWi K' hK => ?_)
          have HTi := Lib.hid (HT.out.trans hWi)
          have HZW := Lib.hid HTi.out.size
          clear hWi HT
          go_simp
          refine (IsBalance_any (fun _ => False) F q xb _ _ _ (SL.go HVF.out HTi.out) ⟨_, rfl, _, rfl, SL.go HXL9.out HTi.out⟩ HSM.out HFL.out HQ.out.2).mono ?_
          rintro e wn ⟨rfl, hSn⟩
          have HT := Lib.hid (HTi.out.trans (StepX.of hSn))
          clear HTi
          refine hK _ _ (StepX.of hSn) ?_
          clear hSn
          (try simp only [Act.put, List.setIfInBounds_toArray, List.set_cons_zero, List.set_cons_succ])
          repeat (first | (refine run_off rfl rfl (by rfl) ?_; (try simp only [Act.put, List.setIfInBounds_toArray, List.set_cons_zero, List.set_cons_succ])) | (refine run_chain_off rfl rfl (by rfl) (K0_mono _) ?_; (try simp only [Act.put, List.setIfInBounds_toArray, List.set_cons_zero, List.set_cons_succ])) | ((refine run_want rfl rfl (by rfl) ⟨?_, fun W hW => ?_, ?_⟩; rotate_left; (· (skip; go_simp; (try with_reducible rfl)))); (try simp only [Act.put, List.setIfInBounds_toArray, List.set_cons_zero, List.set_cons_succ])))
          refine run_end (L := []) rfl (fun W6 hW6 => ?_)
          have HT6 := Lib.hid (HT.out.trans hW6)
          clear hW6 HT
          have HT := HT6
          clear HT6
          have hTf := HTx.out.trans HT.out
          go_wp2
          go_meet
          exact ⟨by rw [HN1.out, HFQ.out.1, HFQ.out.2], by rw [HN2.out, HFQ.out.1, HFQ.out.2], hTf⟩
      case rest =>
        obtain ⟨rfl, rfl, hTc⟩ := hcut
        have HTc := Lib.hid hTc
        have HTG := Lib.hid (HT.out.trans hTc)
        have HXBc := Lib.hid (HXB.out.step hTc)
        have HXLc := Lib.hid (SL.go HXL.out hTc)
        have HVc := Lib.hid (SL.go HV.out HTG.out)
        have HUc := Lib.hid (SL.go HU.out HTG.out)
        have HD1 := Lib.hid (HB1.out.step HTG.out)
        have HD2 := Lib.hid (HB2.out.step HTG.out)
        have HSc := Lib.hid (HS.out.trans HTG.out)
        clear hTc HT HXB HXL HV HU HB1 HB2 HB3 HBL
        have HT := Lib.hid (Step.refl wc)
        obtain ⟨pw, hpw⟩ : ∃ b, b = proveWeakL l t i p way := ⟨_, rfl⟩
        obtain ⟨pbl, hpb⟩ : ∃ b, b = proveBalL l t i p xb := ⟨_, rfl⟩
        rw [← hpw, ← hpb]
        have HPW := Lib.hid (And.intro hpw hpb)
        clear hpw hpb
        go_upto_region 14 with (fail)
        refine wp_region_seq (kdOf [1, 3, 6, 12, 14, 19, 21, 24, 26, 27, 32] [(9, 3, .tuple #[])]) (0 :: 1 :: 0 :: 7 :: 0 :: 0 :: 47 :: 0 :: 128 :: 0 :: 0 :: 1024 :: 3695 :: 8175 :: 16383 :: 0 :: 65535 :: 131071 :: 262143 :: 524287 :: 262143 :: 2097151 :: 262143 :: 262143 :: 12582911 :: 262143 :: 62914559 :: 134217727 :: 262143 :: 536870911 :: 1073741823 :: 2147483647 :: 4294967295 :: 8589934591 :: 17179869183 :: []) (0 :: 2 :: 4 :: 5 :: 7 :: 8 :: 10 :: 11 :: 15 :: 1 :: 3 :: 6 :: 9 :: 12 :: 13 :: 14 :: 16 :: 17 :: 18 :: 20 :: 22 :: 23 :: 25 :: 28 :: 19 :: 21 :: 24 :: 26 :: 27 :: 29 :: 30 :: 31 :: 32 :: 33 :: 34 :: []) [] (by kernel_rfl) (by kernel_rfl) (fun i T z hi hk => by simp only [List.mem_cons, List.not_mem_nil, or_false] at hi; rcases hi with rfl | rfl | rfl | rfl | rfl | rfl | rfl | rfl | rfl | rfl | rfl | rfl | rfl | rfl | rfl | rfl | rfl | rfl | rfl | rfl | rfl | rfl | rfl | rfl | rfl | rfl | rfl | rfl | rfl | rfl | rfl | rfl | rfl | rfl | rfl <;> simp [kdOf] at hk <;> (obtain ⟨rfl, rfl⟩ := hk; first | (show Option.bind _ _ = some _; kernel_rfl) | (refine ⟨_, rfl, fun _ _ => ?_⟩; go_simp))) ?_
        intro Wx hWx
        have HTx := Lib.hid (HT.out.trans hWx)
        clear hWx HT
        have HT := HTx
        clear HTx
        have n0 := (HD1.out.step HT.out).cell 0
        have n1 := (HD1.out.step HT.out).cell 1
        have m0 := (HD2.out.step HT.out).cell 0
        have m1 := (HD2.out.step HT.out).cell 1
        have r0 := (HXBc.out.step HT.out).cell 0
        have r1 := (HXBc.out.step HT.out).cell 1
        simp only [List.getElem?_cons_zero, List.getElem?_cons_succ] at n0 n1 m0 m1 r0 r1
        repeat (first | (refine run_off rfl rfl (by rfl) ?_; (try simp only [Act.put, List.setIfInBounds_toArray, List.set_cons_zero, List.set_cons_succ])) | (refine run_chain_off rfl rfl (by rfl) (K0_mono _) ?_; (try simp only [Act.put, List.setIfInBounds_toArray, List.set_cons_zero, List.set_cons_succ])) | ((refine run_want rfl rfl (by rfl) ⟨?_, fun W hW => ?_, ?_⟩; rotate_left; (· (have d0 := hW.keeps.cell id n0; have d1 := hW.keeps.cell id n1; have d2 := hW.keeps.cell id m0; have d3 := hW.keeps.cell id m1; have d4 := hW.keeps.cell id r0; have d5 := hW.keeps.cell id r1; go_simp; (try with_reducible rfl)))); (try simp only [Act.put, List.setIfInBounds_toArray, List.set_cons_zero, List.set_cons_succ])))
        clear n0 n1 m0 m1 r0 r1
        refine run_chain rfl rfl (by rfl) (fun Wi hWi K' hK => ?_)
        have HTi := Lib.hid (HT.out.trans hWi)
        have HZW := Lib.hid HTi.out.size
        clear hWi HT
        go_simp
        refine (Tests_any _ l _ _ (SL.go HVc.out HTi.out) (by have := HFEW.out.1; omega)).mono ?_
        rintro e wn ⟨v1, rfl, hv1, hSn⟩
        have HT := Lib.hid (HTi.out.trans (StepX.of hSn))
        clear HTi
        have Hhv1 := Lib.hid (SL.go hv1 (Step.refl _))
        clear hv1
        refine hK _ _ (StepX.of hSn) ?_
        clear hSn
        (try simp only [Act.put, List.setIfInBounds_toArray, List.set_cons_zero, List.set_cons_succ])
        repeat (first | (refine run_off rfl rfl (by rfl) ?_; (try simp only [Act.put, List.setIfInBounds_toArray, List.set_cons_zero, List.set_cons_succ])) | (refine run_chain_off rfl rfl (by rfl) (K0_mono _) ?_; (try simp only [Act.put, List.setIfInBounds_toArray, List.set_cons_zero, List.set_cons_succ])) | ((refine run_want rfl rfl (by rfl) ⟨?_, fun W hW => ?_, ?_⟩; rotate_left; (· (skip; go_simp; (try with_reducible rfl)))); (try simp only [Act.put, List.setIfInBounds_toArray, List.set_cons_zero, List.set_cons_succ])))
        refine run_chain rfl rfl (by rfl) (fun Wi hWi K' hK => ?_)
        have HTi := Lib.hid (HT.out.trans hWi)
        have h1i := Lib.hid (SL.go Hhv1.out hWi)
        clear hWi HT Hhv1
        go_simp
        refine (Tent_any _ t _ _ (SL.go HUc.out HTi.out) HFEW.out.2).mono ?_
        rintro e wn ⟨v2, rfl, hv2, hSn⟩
        have HT := Lib.hid (HTi.out.trans (StepX.of hSn))
        have Hhv1 := Lib.hid (SL.go h1i.out hSn)
        have HZI := Lib.hid HTi.out.size
        clear HTi h1i
        have Hhv2 := Lib.hid (SL.go hv2 (Step.refl _))
        clear hv2
        refine hK _ _ (StepX.of hSn) ?_
        clear hSn
        (try simp only [Act.put, List.setIfInBounds_toArray, List.set_cons_zero, List.set_cons_succ])
        have n0 := (HD1.out.step HT.out).cell 0
        have n1 := (HD1.out.step HT.out).cell 1
        have m0 := (HD2.out.step HT.out).cell 0
        have m1 := (HD2.out.step HT.out).cell 1
        have r0 := (HXBc.out.step HT.out).cell 0
        have r1 := (HXBc.out.step HT.out).cell 1
        simp only [List.getElem?_cons_zero, List.getElem?_cons_succ] at n0 n1 m0 m1 r0 r1
        repeat (first | (refine run_off rfl rfl (by rfl) ?_; (try simp only [Act.put, List.setIfInBounds_toArray, List.set_cons_zero, List.set_cons_succ])) | (refine run_chain_off rfl rfl (by rfl) (K0_mono _) ?_; (try simp only [Act.put, List.setIfInBounds_toArray, List.set_cons_zero, List.set_cons_succ])) | ((refine run_want rfl rfl (by rfl) ⟨?_, fun W hW => ?_, ?_⟩; rotate_left; (· (have d0 := hW.keeps.cell id n0; have d1 := hW.keeps.cell id n1; have d2 := hW.keeps.cell id m0; have d3 := hW.keeps.cell id m1; have d4 := hW.keeps.cell id r0; have d5 := hW.keeps.cell id r1; go_simp; (try with_reducible rfl)))); (try simp only [Act.put, List.setIfInBounds_toArray, List.set_cons_zero, List.set_cons_succ])))
        clear n0 n1 m0 m1 r0 r1
        refine run_chain rfl rfl (by rfl) (fun Wi hWi K' hK => ?_)
        have HTi := Lib.hid (HT.out.trans hWi)
        have h1i := Lib.hid (SL.go Hhv1.out hWi)
        have h2i := Lib.hid (SL.go Hhv2.out hWi)
        clear hWi HT Hhv1 Hhv2
        go_simp
        refine (Vector_any p _).mono ?_
        rintro e wn ⟨rfl, hSn⟩
        have HT := Lib.hid (HTi.out.trans (StepX.of hSn))
        have Hhv1 := Lib.hid (SL.go h1i.out hSn)
        have Hhv2 := Lib.hid (SL.go h2i.out hSn)
        have HZI := Lib.hid HTi.out.size
        clear HTi h1i h2i
        refine hK _ _ (StepX.of hSn) ?_
        clear hSn
        (try simp only [Act.put, List.setIfInBounds_toArray, List.set_cons_zero, List.set_cons_succ])
        have n0 := (HD1.out.step HT.out).cell 0
        have n1 := (HD1.out.step HT.out).cell 1
        have m0 := (HD2.out.step HT.out).cell 0
        have m1 := (HD2.out.step HT.out).cell 1
        have r0 := (HXBc.out.step HT.out).cell 0
        have r1 := (HXBc.out.step HT.out).cell 1
        simp only [List.getElem?_cons_zero, List.getElem?_cons_succ] at n0 n1 m0 m1 r0 r1
        repeat (first | (refine run_off rfl rfl (by rfl) ?_; (try simp only [Act.put, List.setIfInBounds_toArray, List.set_cons_zero, List.set_cons_succ])) | (refine run_chain_off rfl rfl (by rfl) (K0_mono _) ?_; (try simp only [Act.put, List.setIfInBounds_toArray, List.set_cons_zero, List.set_cons_succ])) | ((refine run_want rfl rfl (by rfl) ⟨?_, fun W hW => ?_, ?_⟩; rotate_left; (· (have d0 := hW.keeps.cell id n0; have d1 := hW.keeps.cell id n1; have d2 := hW.keeps.cell id m0; have d3 := hW.keeps.cell id m1; have d4 := hW.keeps.cell id r0; have d5 := hW.keeps.cell id r1; go_simp; (try with_reducible rfl)))); (try simp only [Act.put, List.setIfInBounds_toArray, List.set_cons_zero, List.set_cons_succ])))
        clear n0 n1 m0 m1 r0 r1
        refine run_consts rfl rfl (fun WA2 gm hW5 hg hgb hgN => ?_)
        (try simp only [Act.put, List.setIfInBounds_toArray, List.set_cons_zero, List.set_cons_succ])
        have HOWN := Lib.hid (ownL_at (α := Int) (fun _ => False) w.heap.size 3 WA2 hg (Nat.le_trans HSc.out.size hgb))
        have h1i := Lib.hid (SL.go Hhv1.out hW5)
        have h2i := Lib.hid (SL.go Hhv2.out hW5)
        have HTi := Lib.hid (HT.out.trans hW5)
        clear HT Hhv1 Hhv2 hW5 hg hgb hgN
        have HT := HTi
        have Hhv1 := h1i
        have Hhv2 := h2i
        clear HTi h1i h2i
        have n0 := (HD1.out.step HT.out).cell 0
        have n1 := (HD1.out.step HT.out).cell 1
        have m0 := (HD2.out.step HT.out).cell 0
        have m1 := (HD2.out.step HT.out).cell 1
        have r0 := (HXBc.out.step HT.out).cell 0
        have r1 := (HXBc.out.step HT.out).cell 1
        simp only [List.getElem?_cons_zero, List.getElem?_cons_succ] at n0 n1 m0 m1 r0 r1
        repeat (first | (refine run_off rfl rfl (by rfl) ?_; (try simp only [Act.put, List.setIfInBounds_toArray, List.set_cons_zero, List.set_cons_succ])) | (refine run_chain_off rfl rfl (by rfl) (K0_mono _) ?_; (try simp only [Act.put, List.setIfInBounds_toArray, List.set_cons_zero, List.set_cons_succ])) | ((refine run_want rfl rfl (by rfl) ⟨?_, fun W hW => ?_, ?_⟩; rotate_left; (· (have d0 := hW.keeps.cell id n0; have d1 := hW.keeps.cell id n1; have d2 := hW.keeps.cell id m0; have d3 := hW.keeps.cell id m1; have d4 := hW.keeps.cell id r0; have d5 := hW.keeps.cell id r1; go_simp; (try with_reducible rfl)))); (try simp only [Act.put, List.setIfInBounds_toArray, List.set_cons_zero, List.set_cons_succ])))
        clear n0 n1 m0 m1 r0 r1
        refine run_chain rfl rfl (by rfl) (fun Wi hWi K' hK => ?_)
        have hu6 := SL.flat (avoid (fun _ => False) (.slice (some ⟨gm, 0, none⟩) 0 0)) (SL.go HXLc.out (HT.out.trans hWi))
        have hxn := HXN.out
        refine wp_append_empty (α := Int) (S := fun _ => False) (base := w.heap.size) eiInts gm _ _ rfl rfl rfl (HOWN.out.step hWi) hu6 xb.parts.length rfl (by simp only [maxLen]; omega) (by omega) (Nat.le_trans HSc.out.size (HT.out.trans hWi).size) ?_
        intro p2 c2 w8 hown8 hs8
        have HPL := Lib.hid (hown8.slb (S := fun _ => False) fun _ _ h => h)
        have HT8 := Lib.hid (HT.out.trans (hWi.trans hs8))
        have h1i := Lib.hid (SL.go Hhv1.out (hWi.trans hs8))
        have h2i := Lib.hid (SL.go Hhv2.out (hWi.trans hs8))
        refine hK _ _ (StepX.of hs8) ?_
        clear hK hWi hu6 hown8 hs8 HOWN HT Hhv1 Hhv2 hxn
        (try simp only [Act.put, List.setIfInBounds_toArray, List.set_cons_zero, List.set_cons_succ])
        have HT := HT8
        clear HT8
        have Hhv1 := h1i
        have Hhv2 := h2i
        clear h1i h2i
        repeat (first | (refine run_off rfl rfl (by rfl) ?_; (try simp only [Act.put, List.setIfInBounds_toArray, List.set_cons_zero, List.set_cons_succ])) | (refine run_chain_off rfl rfl (by rfl) (K0_mono _) ?_; (try simp only [Act.put, List.setIfInBounds_toArray, List.set_cons_zero, List.set_cons_succ])) | ((refine run_want rfl rfl (by rfl) ⟨?_, fun W hW => ?_, ?_⟩; rotate_left; (· (skip; go_simp; (try with_reducible rfl)))); (try simp only [Act.put, List.setIfInBounds_toArray, List.set_cons_zero, List.set_cons_succ])))
        refine run_chain rfl rfl (by rfl) (fun Wi hWi K' hK => ?_)
        have HTi := Lib.hid (HT.out.trans hWi)
        have h1i := SL.go Hhv1.out hWi
        have h2i := SL.go Hhv2.out hWi
        have h3i := SL.go HPL.out hWi
        clear hWi HT Hhv1 Hhv2 HPL
        go_simp
        refine (ProveBalance_any (fun _ => False) l t i p xb _ _ _ _ h1i h2i ⟨_, rfl, _, rfl, h3i⟩).mono ?_
        rintro e wn ⟨rfl, hSn⟩
        rw [← HPW.out.2]
        have HT := Lib.hid (HTi.out.trans (StepX.of hSn))
        clear HTi h1i h2i h3i
        refine hK _ _ (StepX.of hSn) ?_
        clear hSn
        (try simp only [Act.put, List.setIfInBounds_toArray, List.set_cons_zero, List.set_cons_succ])
        have n0 := (HD1.out.step HT.out).cell 0
        have n1 := (HD1.out.step HT.out).cell 1
        have m0 := (HD2.out.step HT.out).cell 0
        have m1 := (HD2.out.step HT.out).cell 1
        have r0 := (HXBc.out.step HT.out).cell 0
        have r1 := (HXBc.out.step HT.out).cell 1
        simp only [List.getElem?_cons_zero, List.getElem?_cons_succ] at n0 n1 m0 m1 r0 r1
        repeat (first | (refine run_off rfl rfl (by rfl) ?_; (try simp only [Act.put, List.setIfInBounds_toArray, List.set_cons_zero, List.set_cons_succ])) | (refine run_chain_off rfl rfl (by rfl) (K0_mono _) ?_; (try simp only [Act.put, List.setIfInBounds_toArray, List.set_cons_zero, List.set_cons_succ])) | ((refine run_want rfl rfl (by rfl) ⟨?_, fun W hW => ?_, ?_⟩; rotate_left; (· (have d0 := hW.keeps.cell id n0; have d1 := hW.keeps.cell id n1; have d2 := hW.keeps.cell id m0; have d3 := hW.keeps.cell id m1; have d4 := hW.keeps.cell id r0; have d5 := hW.keeps.cell id r1; go_simp; (try with_reducible rfl)))); (try simp only [Act.put, List.setIfInBounds_toArray, List.set_cons_zero, List.set_cons_succ])))
        clear n0 n1 m0 m1 r0 r1
        refine run_chain rfl rfl (by rfl) (fun Wi hWi K' hK => ?_)
        have HTi := Lib.hid (HT.out.trans hWi)
        have HZW := Lib.hid HTi.out.size
        clear hWi HT
        go_simp
        refine (Tests_any _ l _ _ (SL.go HVc.out HTi.out) (by have := HFEW.out.1; omega)).mono ?_
        rintro e wn ⟨v1, rfl, hv1, hSn⟩
        have HT := Lib.hid (HTi.out.trans (StepX.of hSn))
        clear HTi
        have Hhv1 := Lib.hid (SL.go hv1 (Step.refl _))
        clear hv1
        refine hK _ _ (StepX.of hSn) ?_
        clear hSn
        (try simp only [Act.put, List.setIfInBounds_toArray, List.set_cons_zero, List.set_cons_succ])
        repeat (first | (refine run_off rfl rfl (by rfl) ?_; (try simp only [Act.put, List.setIfInBounds_toArray, List.set_cons_zero, List.set_cons_succ])) | (refine run_chain_off rfl rfl (by rfl) (K0_mono _) ?_; (try simp only [Act.put, List.setIfInBounds_toArray, List.set_cons_zero, List.set_cons_succ])) | ((refine run_want rfl rfl (by rfl) ⟨?_, fun W hW => ?_, ?_⟩; rotate_left; (· (skip; go_simp; (try with_reducible rfl)))); (try simp only [Act.put, List.setIfInBounds_toArray, List.set_cons_zero, List.set_cons_succ])))
        refine run_chain rfl rfl (by rfl) (fun Wi hWi K' hK => ?_)
        have HTi := Lib.hid (HT.out.trans hWi)
        have h1i := Lib.hid (SL.go Hhv1.out hWi)
        clear hWi HT Hhv1
        go_simp
        refine (Tent_any _ t _ _ (SL.go HUc.out HTi.out) HFEW.out.2).mono ?_
        rintro e wn ⟨v2, rfl, hv2, hSn⟩
        have HT := Lib.hid (HTi.out.trans (StepX.of hSn))
        have Hhv1 := Lib.hid (SL.go h1i.out hSn)
        have HZI := Lib.hid HTi.out.size
        clear HTi h1i
        have Hhv2 := Lib.hid (SL.go hv2 (Step.refl _))
        clear hv2
        refine hK _ _ (StepX.of hSn) ?_
        clear hSn
        (try simp only [Act.put, List.setIfInBounds_toArray, List.set_cons_zero, List.set_cons_succ])
        have n0 := (HD1.out.step HT.out).cell 0
        have n1 := (HD1.out.step HT.out).cell 1
        have m0 := (HD2.out.step HT.out).cell 0
        have m1 := (HD2.out.step HT.out).cell 1
        have r0 := (HXBc.out.step HT.out).cell 0
        have r1 := (HXBc.out.step HT.out).cell 1
        simp only [List.getElem?_cons_zero, List.getElem?_cons_succ] at n0 n1 m0 m1 r0 r1
        repeat (first | (refine run_off rfl rfl (by rfl) ?_; (try simp only [Act.put, List.setIfInBounds_toArray, List.set_cons_zero, List.set_cons_succ])) | (refine run_chain_off rfl rfl (by rfl) (K0_mono _) ?_; (try simp only [Act.put, List.setIfInBounds_toArray, List.set_cons_zero, List.set_cons_succ])) | ((refine run_want rfl rfl (by rfl) ⟨?_, fun W hW => ?_, ?_⟩; rotate_left; (· (have d0 := hW.keeps.cell id n0; have d1 := hW.keeps.cell id n1; have d2 := hW.keeps.cell id m0; have d3 := hW.keeps.cell id m1; have d4 := hW.keeps.cell id r0; have d5 := hW.keeps.cell id r1; go_simp; (try with_reducible rfl)))); (try simp only [Act.put, List.setIfInBounds_toArray, List.set_cons_zero, List.set_cons_succ])))
        clear n0 n1 m0 m1 r0 r1
        refine run_chain rfl rfl (by rfl) (fun Wi hWi K' hK => ?_)
        have HTi := Lib.hid (HT.out.trans hWi)
        have h1i := Lib.hid (SL.go Hhv1.out hWi)
        have h2i := Lib.hid (SL.go Hhv2.out hWi)
        clear hWi HT Hhv1 Hhv2
        go_simp
        refine (Vector_any p _).mono ?_
        rintro e wn ⟨rfl, hSn⟩
        have HT := Lib.hid (HTi.out.trans (StepX.of hSn))
        have Hhv1 := Lib.hid (SL.go h1i.out hSn)
        have Hhv2 := Lib.hid (SL.go h2i.out hSn)
        have HZI := Lib.hid HTi.out.size
        clear HTi h1i h2i
        refine hK _ _ (StepX.of hSn) ?_
        clear hSn
        (try simp only [Act.put, List.setIfInBounds_toArray, List.set_cons_zero, List.set_cons_succ])
        have n0 := (HD1.out.step HT.out).cell 0
        have n1 := (HD1.out.step HT.out).cell 1
        have m0 := (HD2.out.step HT.out).cell 0
        have m1 := (HD2.out.step HT.out).cell 1
        have r0 := (HXBc.out.step HT.out).cell 0
        have r1 := (HXBc.out.step HT.out).cell 1
        simp only [List.getElem?_cons_zero, List.getElem?_cons_succ] at n0 n1 m0 m1 r0 r1
        repeat (first | (refine run_off rfl rfl (by rfl) ?_; (try simp only [Act.put, List.setIfInBounds_toArray, List.set_cons_zero, List.set_cons_succ])) | (refine run_chain_off rfl rfl (by rfl) (K0_mono _) ?_; (try simp only [Act.put, List.setIfInBounds_toArray, List.set_cons_zero, List.set_cons_succ])) | ((refine run_want rfl rfl (by rfl) ⟨?_, fun W hW => ?_, ?_⟩; rotate_left; (· (have d0 := hW.keeps.cell id n0; have d1 := hW.keeps.cell id n1; have d2 := hW.keeps.cell id m0; have d3 := hW.keeps.cell id m1; have d4 := hW.keeps.cell id r0; have d5 := hW.keeps.cell id r1; go_simp; (try with_reducible rfl)))); (try simp only [Act.put, List.setIfInBounds_toArray, List.set_cons_zero, List.set_cons_succ])))
        clear n0 n1 m0 m1 r0 r1
        refine run_chain rfl rfl (by rfl) (fun Wi hWi K' hK => ?_)
        have HTi := Lib.hid (HT.out.trans hWi)
        have h1i := Lib.hid (SL.go Hhv1.out hWi)
        have h2i := Lib.hid (SL.go Hhv2.out hWi)
        clear hWi HT Hhv1 Hhv2
        go_simp
        refine (Vector_any way _).mono ?_
        rintro e wn ⟨rfl, hSn⟩
        have HT := Lib.hid (HTi.out.trans (StepX.of hSn))
        have Hhv1 := Lib.hid (SL.go h1i.out hSn)
        have Hhv2 := Lib.hid (SL.go h2i.out hSn)
        have HZI := Lib.hid HTi.out.size
        clear HTi h1i h2i
        refine hK _ _ (StepX.of hSn) ?_
        clear hSn
        (try simp only [Act.put, List.setIfInBounds_toArray, List.set_cons_zero, List.set_cons_succ])
        repeat (first | (refine run_off rfl rfl (by rfl) ?_; (try simp only [Act.put, List.setIfInBounds_toArray, List.set_cons_zero, List.set_cons_succ])) | (refine run_chain_off rfl rfl (by rfl) (K0_mono _) ?_; (try simp only [Act.put, List.setIfInBounds_toArray, List.set_cons_zero, List.set_cons_succ])) | ((refine run_want rfl rfl (by rfl) ⟨?_, fun W hW => ?_, ?_⟩; rotate_left; (· (skip; go_simp; (try with_reducible rfl)))); (try simp only [Act.put, List.setIfInBounds_toArray, List.set_cons_zero, List.set_cons_succ])))
        refine run_chain rfl rfl (by rfl) (fun Wi hWi K' hK => ?_)
        have HTi := Lib.hid (HT.out.trans hWi)
        have h1i := Lib.hid (SL.go Hhv1.out hWi)
        have h2i := Lib.hid (SL.go Hhv2.out hWi)
        clear hWi HT Hhv1 Hhv2
        go_simp
        refine (ProveWeak_any (fun _ => False) l t i p way _ _ _ h1i.out h2i.out).mono ?_
        rintro e wn ⟨rfl, hSn⟩
        have HT := Lib.hid (HTi.out.trans (StepX.of hSn))
        have Hhv1 := Lib.hid (SL.go h1i.out hSn)
        have Hhv2 := Lib.hid (SL.go h2i.out hSn)
        have HZI := Lib.hid HTi.out.size
        clear HTi h1i h2i
        rw [← HPW.out.1]
        refine hK _ _ (StepX.of hSn) ?_
        clear hSn
        (try simp only [Act.put, List.setIfInBounds_toArray, List.set_cons_zero, List.set_cons_succ])
        clear Hhv1 Hhv2
        repeat (first | (refine run_off rfl rfl (by rfl) ?_; (try simp only [Act.put, List.setIfInBounds_toArray, List.set_cons_zero, List.set_cons_succ])) | (refine run_chain_off rfl rfl (by rfl) (K0_mono _) ?_; (try simp only [Act.put, List.setIfInBounds_toArray, List.set_cons_zero, List.set_cons_succ])) | ((refine run_want rfl rfl (by rfl) ⟨?_, fun W hW => ?_, ?_⟩; rotate_left; (· (skip; go_simp; (try with_reducible rfl)))); (try simp only [Act.put, List.setIfInBounds_toArray, List.set_cons_zero, List.set_cons_succ])))
        refine run_chain rfl rfl (by rfl) (fun Wi hWi K' hK => ?_)
        have HTi := Lib.hid (HT.out.trans hWi)
        have HZW := Lib.hid HTi.out.size
        clear hWi HT
        go_simp
        refine (wakes_any _).mono ?_
        rintro e wn ⟨rfl, hSn⟩
        have HT := Lib.hid (HTi.out.trans (StepX.of hSn))
        clear HTi
        refine hK _ _ (StepX.of hSn) ?_
        clear hSn
        (try simp only [Act.put, List.setIfInBounds_toArray, List.set_cons_zero, List.set_cons_succ])
        repeat (first | (refine run_off rfl rfl (by rfl) ?_; (try simp only [Act.put, List.setIfInBounds_toArray, List.set_cons_zero, List.set_cons_succ])) | (refine run_chain_off rfl rfl (by rfl) (K0_mono _) ?_; (try simp only [Act.put, List.setIfInBounds_toArray, List.set_cons_zero, List.set_cons_succ])) | ((refine run_want rfl rfl (by rfl) ⟨?_, fun W hW => ?_, ?_⟩; rotate_left; (· (skip; go_simp; (try with_reducible rfl)))); (try simp only [Act.put, List.setIfInBounds_toArray, List.set_cons_zero, List.set_cons_succ])))
        refine run_end (L := []) rfl (fun W6 hW6 => ?_)
        have HT6 := Lib.hid (HT.out.trans hW6)
        clear hW6 HT
        have HT := HT6
        clear HT6
        go_wp2
        go_ret
        exact ⟨rfl, HSc.out.trans HT.out⟩
end Go.Proofs.Ytdcjbbeoocldeaa
/- CanvasProves: of every input the law answers true, and its arguments read as they did. -/
namespace Go.Proofs.Ytdcjbbeoocldeaa.proves
open Go.ChangeShapes Go.WideShapes Go.ChangeAt Go.RowKit Go.BT
set_option linter.unusedVariables false
set_option linter.unusedSimpArgs false

set_option maxRecDepth 100000 in
theorem lifted (os : Os) (started : os.Started) (H : Type) (enc : TypeId × Value → H) :
    ReturnsInHanded {} Try.checked os 5 .any (Rows.canvasProvesSpec.pre6 enc Try.prog Try.f5 Rows.canvasProvesRow.domain false) (Rows.canvasProvesSpec.post enc Try.prog Try.f5 false true false false) := by
  refine returnsInHanded_of_change (C := Try.checked) own started (by kernel_rfl) Try.func5
    (ChangeSpec.witness6 (enc := enc) (C := Try.checked) false ⟨#[], #[.slice none 0 0, .slice none 0 0, .int .i64 0, .agg #[.int .i64 0, .int .i64 0], .agg #[.int .i64 0, .int .i64 0], .agg #[.int .i64 0, .slice none 0 0], .bool false, .int .u8 0, .int .i64 0], []⟩ 8 (by kernel_rfl) (by kernel_rfl) (by kernel_rfl) (by kernel_rfl)) ?_
  intro W base args ds gs before hval0 hW hcnd _
  have hval : ∀ (j : Nat) t v, Try.f5.params[j]? = some t → args[j]? = some v → Value.okWide Try.prog W .any base t v := hval0
  have hW' := hW
  obtain ⟨p, q, hA0, hV, rfl, hfz, hnd⟩ := hW
  have hA : DataW.TrodAll enc Try.prog W 0 (fun _ => true) true Try.f5.params.toList args.toList ds p := hA0
  have hAk := hA
  rw [Try.params5] at hA hval
  obtain ⟨v0, vs0, d0, ds0, p0, q0, hargs, rfl, rfl, h0, r0⟩ := trodAll_cons hA
  obtain ⟨v1, vs1, d1, ds1, p1, q1, rfl, rfl, rfl, h1, r1⟩ := trodAll_cons r0
  obtain ⟨v2, vs2, d2, ds2, p2, q2, rfl, rfl, rfl, h2, r2⟩ := trodAll_cons r1
  obtain ⟨v3, vs3, d3, ds3, p3, q3, rfl, rfl, rfl, h3, r3⟩ := trodAll_cons r2
  obtain ⟨v4, vs4, d4, ds4, p4, q4, rfl, rfl, rfl, h4, r4⟩ := trodAll_cons r3
  obtain ⟨v5, vs5, d5, ds5, p5, q5, rfl, rfl, rfl, h5, r5⟩ := trodAll_cons r4
  obtain ⟨v6, vs6, d6, ds6, p6, q6, rfl, rfl, rfl, h6, r6⟩ := trodAll_cons r5
  obtain ⟨v7, vs7, d7, ds7, p7, q7, rfl, rfl, rfl, h7, r7⟩ := trodAll_cons r6
  obtain ⟨v8, vs8, d8, ds8, p8, q8, rfl, rfl, rfl, h8, r8⟩ := trodAll_cons r7
  obtain ⟨rfl, rfl, rfl⟩ := trodAll_nil r8
  obtain rfl : args = #[v0, v1, v2, v3, v4, v5, v6, v7, v8] := by cases args; simp_all
  obtain ⟨rfl, rfl⟩ := trodVars_none hV
  obtain ⟨a0, hh0⟩ := sl_of opens_tests Try.underlying22 (hval 0 22 v0 rfl rfl) h0
  obtain ⟨a1, hh1⟩ := sl_of opens_tent Try.underlying24 (hval 1 24 v1 rfl rfl) h1
  obtain ⟨a2, rfl, rfl, rfl, w2⟩ := open_int Try.underlying3 (hval 2 3 v2 rfl rfl) h2
  obtain ⟨a3, hh3⟩ := av_of opens_Vec Try.underlying26 (hval 3 26 v3 rfl rfl) h3
  obtain rfl := hh3.vec
  obtain ⟨a4, hh4⟩ := av_of opens_Vec Try.underlying26 (hval 4 26 v4 rfl rfl) h4
  obtain rfl := hh4.vec
  obtain ⟨a5, hh5⟩ := av_of opens_Bal Try.underlying52 (hval 5 52 v5 rfl rfl) h5
  obtain ⟨a6, rfl, rfl, rfl⟩ := open_bool Try.underlying4 (hval 6 4 v6 rfl rfl) h6
  obtain ⟨a7, rfl, rfl, rfl, w7⟩ := open_int Try.underlying5 (hval 7 5 v7 rfl rfl) h7
  obtain ⟨a8, rfl, rfl, rfl, w8⟩ := open_int Try.underlying3 (hval 8 3 v8 rfl rfl) h8
  clear hA0 hval0
  refine (CanvasProves_any a0 a1 a2 a3 a4 a5 a6 a7 a8 v0 v1 v5 W hh0 hh1 hh5 w7).mono fun e W' ⟨he, hg⟩ => ?_
  subst he
  have hlt := hW'.lt
  refine ⟨_, rfl, post_of_below (pv := []) hW' (fun _ _ _ => (trodAll_cons_mk (shut_bool Try.underlying4 _) trodAll_mk0)) (fun sp hs => all_stays laid hg.below (fun t ht => ?_) hAk (fun x hx => hlt x (by simpa using hx)) (fun x hx => hs x (by simpa using hx))) (fun _ _ => rfl) rfl hg.below (ok_one (by kernel_rfl) rfl (okWide_bool_mk Try.underlying4 _))⟩
  rw [Try.params5] at ht
  have : ∀ t ∈ [22, 24, 3, 26, 26, 52, 4, 5, 3], Try.prog.readableRec t = true ∧ t < Try.prog.types.size := by
    intro t ht
    simp only [List.mem_cons, List.not_mem_nil, or_false] at ht
    rcases ht with rfl | rfl | rfl | rfl | rfl | rfl | rfl | rfl | rfl <;> exact ⟨by kernel_rfl, of_decide_eq_true (by kernel_rfl)⟩
  exact this t ht

theorem over : Rows.canvasProvesRow.holds Try.pinned (OpenSpec.ofChange Rows.canvasProvesSpec) :=
  OpenClaim.holds_of_wide 5 Try.f5 rfl rfl rfl rfl rfl rfl rfl ⟨rfl, rfl, rfl, rfl, rfl⟩ rfl rfl rfl rfl rfl (by kernel_rfl) Try.func5 (by kernel_rfl)
    (of_decide_eq_true (by kernel_rfl)) (by unfold Func.isWrapper; first | (rw [if_pos (by decide +kernel)]; kernel_rfl) | (rw [if_neg (by decide +kernel)]; exact ⟨rfl, rfl⟩))
    (fun os started H enc _ => lifted os started H enc)
theorem proved : Rows.CanvasProvesSaid := over
end Go.Proofs.Ytdcjbbeoocldeaa.proves
