/- The program takes a message. -/
import Derived.Test.YtbgfmikbhiblgaaMg
import Derived.Test.YtbgfmikbhiblgaaMq
import Derived.Test.YtbgfmikbhiblgaaMt
import Derived.Test.YtbgfmikbhiblgaaRows
/- Walks: a message's validity, its key, and whether a list has it. -/
namespace Go.Proofs.Ytbgfmikbhiblgaa
set_option linter.unusedSimpArgs false
set_option linter.unusedVariables false
open Go.RowKit Go.BT

def messV (h : House) (m : BT.Message) : Bool := withinB m.frm 0 (agN h - 1) && withinB m.dst 0 (agN h - 1) && decide (m.frm ≠ m.dst) && withinB m.number 1 1000 && withinB m.shw 0 (h.dates.length - 1) && seatsB h m.seats
set_option maxHeartbeats 4000000 in
theorem vmess_any (S T : Nat → Prop) (h : House) (m : BT.Message) (v u : Value) (w : World) (hv : AV S w v h) (hu : AV T w u m) (hok : valid h = true) :
    Calls Try.prog 104 #[v, u] w fun e w' => e = .returned (.bool (messV h m)) ∧ Step w w' := by
  obtain ⟨cs, rfl, hr⟩ := hv
  have hr0 := hr
  obtain ⟨c0, c1, c2, c3, c4, rfl, h0, h1, h2, h3, h4⟩ := hr
  obtain ⟨p0, k0, rfl⟩ := h0.form
  obtain ⟨p1, k1, rfl⟩ := h1.form
  obtain ⟨p2, k2, rfl⟩ := h2.form
  obtain ⟨p3, k3, rfl⟩ := h3.form
  obtain ⟨p4, k4, rfl⟩ := h4.form
  obtain ⟨mc, rfl, hms⟩ := hu.message
  obtain ⟨pm, cm, rfl⟩ := hms.form
  have hbv := bounds_valid hok
  have hwr : IntKind.i64.wrap ((agN h : Int) - 1) = (agN h : Int) - 1 := by rw [IntKind.wrap_i64]; omega
  have hwd : IntKind.i64.wrap ((h.dates.length : Int) - 1) = (h.dates.length : Int) - 1 := by rw [IntKind.wrap_i64]; omega
  have hn1 : 1 ≤ h.dates.length ∧ h.dates.length ≤ 6 := by omega
  have hf0 : 0 < h.frm.length := by omega
  obtain ⟨W0, hW0⟩ : ∃ W0, W0 = (w.alloc (.cells #[.slice p0 h.sectors.length k0, .slice p1 h.prices.length k1, .slice p2 h.dates.length k2, .slice p3 h.frm.length k3, .slice p4 h.holds.length k4] 43)).alloc (.cells #[.int .i64 m.frm, .int .i64 m.dst, .int .i64 m.number, .int .i64 m.shw, .slice pm m.seats.length cm] 74) := ⟨_, rfl⟩
  have hbx : Bx W0 w.heap.size [.slice p0 h.sectors.length k0, .slice p1 h.prices.length k1, .slice p2 h.dates.length k2, .slice p3 h.frm.length k3, .slice p4 h.holds.length k4] 43 := by subst hW0; exact (Bx.new _ _ _).alloc _
  have hb2 : Bx W0 (w.heap.size + 1) [.int .i64 m.frm, .int .i64 m.dst, .int .i64 m.number, .int .i64 m.shw, .slice pm m.seats.length cm] 74 := by subst hW0; exact Bx.new' _ _ _ _ (by simp)
  have hS : Step w W0 := by subst hW0; exact (by repeat (first | (with_reducible assumption) | (with_reducible exact Step.refl _) | (with_reducible apply Step.s_alloc) | (with_reducible apply Step.s_drew) | (with_reducible apply Step.s_drewN) | (with_reducible refine Step.trans ?_ (by with_reducible assumption))))
  have HB1 := Lib.hid hbx
  have HB2 := Lib.hid hb2
  have HR := Lib.hid (Rep.keep (.of_step hS) hr0)
  have HM := Lib.hid (hms.keep (.of_step hS))
  have HS := Lib.hid hS
  have HOK := Lib.hid hok
  have HT := Lib.hid (Step.refl W0)
  have HW := Lib.hid hW0
  clear hr0 h0 h1 h2 h3 h4 hms hu hbx hb2 hS hok hbv hW0
  have hag0 := agencies_any S h (.agg #[.slice p0 h.sectors.length k0, .slice p1 h.prices.length k1, .slice p2 h.dates.length k2, .slice p3 h.frm.length k3, .slice p4 h.holds.length k4]) W0 ⟨_, rfl, HR.out⟩ hf0
  rw [agN_eq] at hag0
  have hcall := Lib.hid hag0
  clear hag0
  go_enter Try.func104, Try.ntmps104
  go_wp2_with fail
  rw [← HW.out]
  refine hcall.out.mono ?_
  rintro e wn ⟨rfl, hSn⟩
  have HT := Lib.hid hSn
  clear hSn hcall
  (try clear e0 e1 e2 e3 e4 f0 f1 f2 f3 f4)
  obtain ⟨e0, e1, e2, e3, e4⟩ := cells5 (HB1.out.step HT.out)
  obtain ⟨f0, f1, f2, f3, f4⟩ := cells5 (HB2.out.step HT.out)
  go_wp2_with fail
  refine (within_st _ _ _ _).mono ?_
  rintro e wq ⟨rfl, hSq⟩
  have HTi := Lib.hid (HT.out.trans hSq)
  clear hSq HT
  have HT := HTi
  clear HTi
  cases q1 : withinB m.frm 0 ((agN h : Int) - 1) with
  | false =>
    have q1 := Lib.hid q1
    have HF := Lib.hid (show messV h m = false by simp only [messV, q1.out]; simp)
    go_wp2
    go_ret
    exact ⟨by rw [HF.out]; rfl, HS.out.trans HT.out⟩
  | true =>
  have Q1 := Lib.hid q1
  clear q1
  (try clear e0 e1 e2 e3 e4 f0 f1 f2 f3 f4)
  obtain ⟨e0, e1, e2, e3, e4⟩ := cells5 (HB1.out.step HT.out)
  obtain ⟨f0, f1, f2, f3, f4⟩ := cells5 (HB2.out.step HT.out)
  go_wp2_with fail
  refine (within_st _ _ _ _).mono ?_
  rintro e wq ⟨rfl, hSq⟩
  have HTi := Lib.hid (HT.out.trans hSq)
  clear hSq HT
  have HT := HTi
  clear HTi
  cases q2 : withinB m.dst 0 ((agN h : Int) - 1) with
  | false =>
    have q2 := Lib.hid q2
    have HF := Lib.hid (show messV h m = false by simp only [messV, Q1.out, q2.out]; simp)
    go_wp2
    go_ret
    exact ⟨by rw [HF.out]; rfl, HS.out.trans HT.out⟩
  | true =>
  have Q2 := Lib.hid q2
  clear q2
  (try clear e0 e1 e2 e3 e4 f0 f1 f2 f3 f4)
  obtain ⟨e0, e1, e2, e3, e4⟩ := cells5 (HB1.out.step HT.out)
  obtain ⟨f0, f1, f2, f3, f4⟩ := cells5 (HB2.out.step HT.out)
  by_cases q3 : m.frm = m.dst
  · have hd : (m.frm != m.dst) = false := by simpa using q3
    have q3 := Lib.hid q3
    have HF := Lib.hid (show messV h m = false by simp only [messV, Q1.out, Q2.out, q3.out]; simp)
    go_wp2
    go_ret
    exact ⟨by rw [HF.out]; rfl, HS.out.trans HT.out⟩
  have hd : (m.frm != m.dst) = true := by simpa using q3
  have Q3 := Lib.hid q3
  clear q3
  go_wp2_with fail
  refine (within_st _ _ _ _).mono ?_
  rintro e wq ⟨rfl, hSq⟩
  have HTi := Lib.hid (HT.out.trans hSq)
  clear hSq HT
  have HT := HTi
  clear HTi
  cases q4 : withinB m.number 1 1000 with
  | false =>
    have q4 := Lib.hid q4
    have HF := Lib.hid (show messV h m = false by simp only [messV, Q1.out, Q2.out, q4.out]; simp)
    go_wp2
    go_ret
    exact ⟨by rw [HF.out]; rfl, HS.out.trans HT.out⟩
  | true =>
  have Q4 := Lib.hid q4
  clear q4 hd
  (try clear e0 e1 e2 e3 e4 f0 f1 f2 f3 f4)
  obtain ⟨e0, e1, e2, e3, e4⟩ := cells5 (HB1.out.step HT.out)
  obtain ⟨f0, f1, f2, f3, f4⟩ := cells5 (HB2.out.step HT.out)
  go_wp2_with fail
  refine (within_st _ _ _ _).mono ?_
  rintro e wq ⟨rfl, hSq⟩
  have HTi := Lib.hid (HT.out.trans hSq)
  clear hSq HT
  have HT := HTi
  clear HTi
  cases q5 : withinB m.shw 0 ((h.dates.length : Int) - 1) with
  | false =>
    have q5 := Lib.hid q5
    have HF := Lib.hid (show messV h m = false by simp only [messV, Q1.out, Q2.out, q5.out]; simp)
    go_wp2
    go_ret
    exact ⟨by rw [HF.out]; rfl, HS.out.trans HT.out⟩
  | true =>
  have Q5 := Lib.hid q5
  clear q5
  (try clear e0 e1 e2 e3 e4 f0 f1 f2 f3 f4)
  obtain ⟨e0, e1, e2, e3, e4⟩ := cells5 (HB1.out.step HT.out)
  obtain ⟨f0, f1, f2, f3, f4⟩ := cells5 (HB2.out.step HT.out)
  go_wp2_with fail
  refine (seats_any S T h _ _ m.seats _ ⟨_, rfl, Rep.keep (.of_step HT.out) HR.out⟩ (HM.out.keep (.of_step HT.out)) HOK.out).mono ?_
  rintro e wq ⟨rfl, hSq⟩
  have HTi := Lib.hid (HT.out.trans hSq)
  clear hSq HT
  have HT := HTi
  clear HTi
  have HF := Lib.hid (show messV h m = seatsB h m.seats by simp only [messV, Q1.out, Q2.out, Q4.out, Q5.out]; simp [Q3.out])
  go_wp2
  go_ret
  exact ⟨by rw [HF.out]; rfl, HS.out.trans HT.out⟩

theorem siKey : SI Try.prog 124 2 := ⟨⟨_, Try.underlying124⟩, by kernel_rfl⟩
def keyOf (m : BT.Message) : Key := ⟨m.frm, m.number⟩
theorem key_any (T : Nat → Prop) (m : BT.Message) (u : Value) (w : World) (hu : AV T w u m) :
    Calls Try.prog 106 #[u] w fun e w' => e = .returned (.agg #[.int .i64 m.frm, .int .i64 m.number]) ∧ Step w w' := by
  obtain ⟨mc, rfl, hms⟩ := hu.message
  obtain ⟨pm, cm, rfl⟩ := hms.form
  clear hu hms
  go_enter Try.func106, Try.ntmps106
  go_wp2
  refine ret_struct (k := 2) (g := w.heap.size + 1) (T' := 124) (cs := [.int .i64 m.frm, .int .i64 m.number]) rfl siKey rfl (Bx.new' _ _ _ _ (by simp)) rfl rfl ⟨rfl, (by repeat (first | (with_reducible assumption) | (with_reducible exact Step.refl _) | (with_reducible apply Step.s_alloc) | (with_reducible apply Step.s_drew) | (with_reducible apply Step.s_drewN) | (with_reducible refine Step.trans ?_ (by with_reducible assumption))))⟩
attribute [local go_sem] equal_key
theorem eql_key (a b c d : Int) (w : World) : (binOp .eql 124 (.agg #[.int .i64 a, .int .i64 b]) (.agg #[.int .i64 c, .int .i64 d])).run Try.prog w = .ok (.bool (a == c && b == d)) w := by
  have h := equal_key ⟨a, b⟩ ⟨c, d⟩ w
  unfold Op.equal Op.maxDepth kv at h
  have e : decide ((⟨a, b⟩ : Key) = ⟨c, d⟩) = (a == c && b == d) := by simp [Bool.beq_eq_decide_eq]
  rw [e] at h
  rw [run_eql_struct, h]
  rfl
end Go.Proofs.Ytbgfmikbhiblgaa
/- Walks: whether a list of keys has a key; what a taken seat must be. -/
namespace Go.Proofs.Ytbgfmikbhiblgaa
set_option linter.unusedSimpArgs false
set_option linter.unusedVariables false
open Go.RowKit Go.BT

theorem not_take {α : Type} {x : α} {l : List α} {k : Nat} (hl : k < l.length) (ht : x ∉ l.take k) (h : x ≠ l[k]) : x ∉ l.take (k + 1) := by
  intro hm
  rw [List.take_succ_eq_append_getElem hl] at hm
  rcases List.mem_append.1 hm with h1 | h1
  · exact ht h1
  · exact h (List.mem_singleton.1 h1)
attribute [local go_sem] eql_key
set_option maxHeartbeats 2000000 in
theorem index_key (S : Nat → Prop) (l : List Key) (kf kn : Int) (v : Value) (w : World) (hv : SL S w v l) :
    Calls Try.prog 124 #[v, .agg #[.int .i64 kf, .int .i64 kn]] w fun e w' => ∃ n : Int, e = .returned (.int .i64 n) ∧ (0 ≤ n ↔ (⟨kf, kn⟩ : Key) ∈ l) ∧ Step w w' := by
  obtain ⟨px, kx, bx, ox, rfl, _, mx, hpx, hcx, _⟩ := hv.keys
  obtain ⟨W0, hW0⟩ : ∃ W0, W0 = w.alloc (.cells #[.int .i64 kf, .int .i64 kn] 124) := ⟨_, rfl⟩
  have hb : Bx W0 w.heap.size [.int .i64 kf, .int .i64 kn] 124 := by subst hW0; exact Bx.new _ _ _
  have hS : Step w W0 := by subst hW0; exact (by repeat (first | (with_reducible assumption) | (with_reducible exact Step.refl _) | (with_reducible apply Step.s_alloc) | (with_reducible apply Step.s_drew) | (with_reducible apply Step.s_drewN) | (with_reducible refine Step.trans ?_ (by with_reducible assumption))))
  have HB := Lib.hid hb
  have HS := Lib.hid hS
  have HX := Lib.hid (And.intro hpx hcx)
  have HW := Lib.hid hW0
  clear hv hpx hcx hb hS hW0
  go_enter Try.func124, Try.ntmps124
  go_wp2
  go_loopw [8] (fun i wr => ∃ k : Nat, k ≤ l.length ∧ i = .int .i64 k ∧ (⟨kf, kn⟩ : Key) ∉ l.take k ∧ Step W0 wr) (fun i _ => l.length - (intOf i).toNat)
  case atStart => exact ⟨0, Nat.zero_le _, rfl, by simp, by rw [HW.out]; exact Step.refl _⟩
  case round =>
    obtain ⟨k, hk, rfl, ht, hT⟩ := hrel
    have HA := Lib.hid ht
    have HT := Lib.hid hT
    clear ht hT
    have e0 := (HB.out.step HT.out).cell 0
    have e1 := (HB.out.step HT.out).cell 1
    simp only [List.getElem?_cons_zero, List.getElem?_cons_succ] at e0 e1
    by_cases hlt : k < l.length
    · obtain rfl := HX.out.1 (by omega)
      obtain ⟨g1, g3⟩ := HX.out.2 k hlt
      have g1 := (HS.out.trans HT.out).keeps.cell id g1
      have g3 := (HS.out.trans HT.out).keeps.cell id g3
      have hix1 : (0 : Int) ≤ (k : Int) ∧ (k : Int) < (l.length : Int) := by omega
      obtain ⟨x, hx⟩ := (show ∃ x, l[k] = x from ⟨_, rfl⟩)
      rw [hx] at g1 g3
      have HK := Lib.hid hx
      clear hx
      obtain ⟨xf, xn⟩ := x
      dsimp only at g1 g3
      by_cases q1 : kf = xf
      · subst q1
        by_cases q2 : kn = xn
        · subst q2
          have HQ := Lib.hid (show (⟨kf, kn⟩ : Key) ∈ l by rw [← HK.out]; exact List.getElem_mem hlt)
          go_wp2
          go_quiet (fail)
          go_wp2
          go_ret
          exact ⟨k, rfl, by simpa using HQ.out, HS.out.trans (HT.out.trans (Step.drewN _ _))⟩
        · have HF := Lib.hid (not_take hlt HA.out (show (⟨kf, kn⟩ : Key) ≠ l[k] by rw [HK.out]; simpa using q2))
          go_wp2
          go_quiet (fail)
          go_wp2
          go_roundw
          case rel => exact ⟨k + 1, by omega, by go_num, HF.out, HT.out.trans (Step.drewN _ _)⟩
          case measure => simp [intOf]; omega
      · have HF := Lib.hid (not_take hlt HA.out (show (⟨kf, kn⟩ : Key) ≠ l[k] by rw [HK.out]; simp [q1]))
        go_wp2
        go_quiet (fail)
        go_wp2
        go_roundw
        case rel => exact ⟨k + 1, by omega, by go_num, HF.out, HT.out.trans (Step.drewN _ _)⟩
        case measure => simp [intOf]; omega
    · have HE := Lib.hid (show (⟨kf, kn⟩ : Key) ∉ l by have := HA.out; rwa [List.take_of_length_le (by omega)] at this)
      clear HA
      go_wp2
      go_ret
      exact ⟨-1, rfl, by simp [HE.out], HS.out.trans HT.out⟩
def hasK (l : List Key) (k : Key) : Bool := decide (k ∈ l)
set_option maxHeartbeats 1000000 in
theorem contains_key (S : Nat → Prop) (l : List Key) (kf kn : Int) (v : Value) (w : World) (hv : SL S w v l) :
    Calls Try.prog 105 #[v, .agg #[.int .i64 kf, .int .i64 kn]] w fun e w' => e = .returned (.bool (hasK l ⟨kf, kn⟩)) ∧ Step w w' := by
  have hS : Step w (w.alloc (.cells #[.int .i64 kf, .int .i64 kn] 124)) := (by repeat (first | (with_reducible assumption) | (with_reducible exact Step.refl _) | (with_reducible apply Step.s_alloc) | (with_reducible apply Step.s_drew) | (with_reducible apply Step.s_drewN) | (with_reducible refine Step.trans ?_ (by with_reducible assumption))))
  have HS := Lib.hid hS
  have HC := Lib.hid (index_key S l kf kn v _ (hv.keep (.of_step hS)))
  obtain ⟨p, c, rfl⟩ := hv.form
  clear hS hv
  go_enter Try.func105, Try.ntmps105
  go_wp2_with fail
  refine HC.out.mono ?_
  rintro e wn ⟨n, rfl, hn, hSn⟩
  have HF := Lib.hid (show hasK l ⟨kf, kn⟩ = decide (0 ≤ n) by unfold hasK; by_cases q : 0 ≤ n; · rw [decide_eq_true q, decide_eq_true (hn.1 q)]
                                                               · rw [decide_eq_false q, decide_eq_false (fun h => q (hn.2 h))])
  have HT := Lib.hid hSn
  clear hSn hn HC
  go_wp2
  go_ret
  exact ⟨by rw [HF.out]; rfl, HS.out.trans HT.out⟩

section
variable {base : Nat} {w : World} {g : Nat} {h : House} {b : Book} {c0 c1 c2 c3 c4 vs vo vt : Value} {xs : List Value}
set_option maxHeartbeats 1000000 in
theorem take1_any (D : Desk base w g h b c0 c1 c2 c3 c4 vs vo vt xs) (i j : Nat) (hi : i < b.seats.length) (hj : j < b.seats[i].length) (a1 a2 : Nat) (h1 : w.cell? ⟨a1, 0, none⟩ = some (.pointer (some ⟨g, 0, none⟩))) (h2 : w.cell? ⟨a2, 3, none⟩ = some (.int .i64 i)) :
    Calls Try.prog 107 #[.int .i64 j, .pointer (some ⟨a1, 0, none⟩), .pointer (some ⟨a2, 0, none⟩)] w fun e w' => e = .returned (.bool (decide (seatAt b i j = -1))) ∧ Step w w' := by
  obtain ⟨_, _, f6, _⟩ := cells11 D.bx
  obtain ⟨go, co, gi, ci, rfl, _, hc, hcj, _, _, _⟩ := D.seat_at hi (by omega)
  have hse : seatAt b i j = b.seats[i][j] := by simp [seatAt, List.getD_eq_getElem?_getD, hi, hj]
  rw [hse]
  have hcj := hcj j hj
  have HC := Lib.hid (And.intro f6 (And.intro hc (And.intro hcj (And.intro h1 h2))))
  have hx : (0 : Int) ≤ (i : Int) ∧ (i : Int) < (b.seats.length : Int) := by omega
  have hy : (0 : Int) ≤ (j : Int) ∧ (j : Int) < (b.seats[i].length : Int) := by omega
  clear D f6 hc hcj h1 h2 hse
  go_enter Try.func107, Try.ntmps107
  go_upto_region 1 with (fail)
  refine wp_region_seq (kdOf [] []) [0, 1, 3, 7, 15, 0, 32, 127, 255, 0, 1023, 2047, 4095, 8191] [0, 1, 2, 3, 4, 5, 6, 7, 8, 9, 10, 11, 12, 13] [] (by kernel_rfl) (by kernel_rfl) (fun i T z hi hk => by simp [kdOf] at hk <;> (try (split at hk <;> cases hk))) ?_
  intro Wx hWx
  have HT := Lib.hid hWx
  clear hWx
  have y0 := HT.out.keeps.cell id HC.out.1
  have y1 := HT.out.keeps.cell id HC.out.2.1
  have y2 := HT.out.keeps.cell id HC.out.2.2.1
  have y3 := HT.out.keeps.cell id HC.out.2.2.2.1
  have y4 := HT.out.keeps.cell id HC.out.2.2.2.2
  obtain ⟨r, hr⟩ : ∃ r, r = b.seats[i][j] := ⟨_, rfl⟩
  rw [← hr] at y2
  have HR := Lib.hid hr
  have hrb : (r == -1) = decide (r = -1) := by simp [Bool.beq_eq_decide_eq]
  have HRB := Lib.hid hrb
  clear hr hrb
  repeat (first | (refine run_off rfl rfl (by rfl) ?_; (try simp only [Act.put, List.setIfInBounds_toArray, List.set_cons_zero, List.set_cons_succ])) | (refine run_chain_off rfl rfl (by rfl) (K0_mono _) ?_; (try simp only [Act.put, List.setIfInBounds_toArray, List.set_cons_zero, List.set_cons_succ])) | ((refine run_want rfl rfl (by rfl) ⟨?_, fun W hW => ?_, ?_⟩; rotate_left; (· (have d0 := hW.keeps.cell id y0; have d1 := hW.keeps.cell id y1; have d2 := hW.keeps.cell id y2; have d3 := hW.keeps.cell id y3; have d4 := hW.keeps.cell id y4; go_simp; (try with_reducible rfl)))); (try simp only [Act.put, List.setIfInBounds_toArray, List.set_cons_zero, List.set_cons_succ])))
  refine run_end (L := []) rfl (fun W6 hW6 => ?_)
  have HT6 := Lib.hid (HT.out.trans hW6)
  clear hW6 HT
  have HT := HT6
  clear HT6
  go_wp2
  go_ret
  exact ⟨by rw [← HR.out, ← HRB.out]; rfl, HT.out⟩
end
end Go.Proofs.Ytbgfmikbhiblgaa
/- Walks: a desk takes a message. -/
namespace Go.Proofs.Ytbgfmikbhiblgaa
set_option linter.unusedSimpArgs false
set_option linter.unusedVariables false
open Go.RowKit Go.BT

def takeE (h : House) (b : Book) (m : BT.Message) : Int := if messV h m = false then 1 else if m.dst ≠ b.agency then 2 else if hasK b.took (keyOf m) = true then 6 else
  if (m.seats.all fun j => decide (seatAt b m.shw j = -1)) = false then 8 else if 1000 ≤ b.took.length then 3 else 0
def takeTo (b : Book) (i : Nat) (l : List Int) : Book := l.foldl (fun b j => putSeat b i j.toNat 0) b
def takeP (b : Book) (m : BT.Message) : Book := { takeTo b m.shw.toNat m.seats with took := b.took ++ [keyOf m] }
def takeD (h : House) (b : Book) (m : BT.Message) : Except Int Book := if takeE h b m = 0 then .ok (takeP b m) else .error (takeE h b m)
theorem takeD_no {h : House} {b : Book} {m : BT.Message} {c : Int} (hc : takeE h b m = c) (h0 : c ≠ 0) : takeD h b m = .error c := by simp [takeD, hc, h0]
theorem takeD_yes {h : House} {b : Book} {m : BT.Message} (hc : takeE h b m = 0) : takeD h b m = .ok (takeP b m) := by simp [takeD, hc]
theorem like_take (b : Book) (i : Nat) : ∀ l : List Int, Like b (takeTo b i l) 0 := by
  intro l
  unfold takeTo
  induction l generalizing b with
  | nil => exact Like.refl b
  | cons j l ih => exact ((like_put b i j.toNat 0).trans (ih _)).mono (by omega)
theorem takeTo_snoc (b : Book) (i : Nat) (l : List Int) (j : Int) : takeTo b i (l ++ [j]) = putSeat (takeTo b i l) i j.toNat 0 := by simp [takeTo]
theorem takeTo_took (b : Book) (i : Nat) : ∀ l : List Int, (takeTo b i l).took = b.took := by
  intro l
  unfold takeTo
  induction l generalizing b with
  | nil => rfl
  | cons j l ih => rw [List.foldl_cons, ih]; rfl
theorem mess_parts {h : House} {m : BT.Message} (hm : messV h m = true) : withinB m.shw 0 (h.dates.length - 1) = true ∧ seatsB h m.seats = true := by
  simp only [messV, Bool.and_eq_true] at hm
  exact ⟨hm.1.2, hm.2⟩
theorem takeE_6 {h : House} {b : Book} {m : BT.Message} (h1 : messV h m = true) (h2 : m.dst = b.agency) (h3 : hasK b.took (keyOf m) = true) : takeE h b m = 6 := by
  unfold takeE; rw [h1, if_neg (by simp), if_neg (fun h => h h2), if_pos h3]
theorem takeE_at {h : House} {b : Book} {m : BT.Message} (h1 : messV h m = true) (h2 : m.dst = b.agency) (h3 : hasK b.took (keyOf m) = false) :
    takeE h b m = if (m.seats.all fun j => decide (seatAt b m.shw j = -1)) = false then 8 else if 1000 ≤ b.took.length then 3 else 0 := by
  unfold takeE; rw [h1, if_neg (by simp), if_neg (fun h => h h2), h3, if_neg (by simp)]
section
variable {base : Nat} {w w' : World} {g : Nat} {h : House} {b : Book} {c0 c1 c2 c3 c4 vs vo vt : Value} {xs : List Value}
theorem Desk.bx_took (D : Desk base w g h b c0 c1 c2 c3 c4 vs vo vt xs) (hg : w.grownBy w' vt.ownBlock) : Bx w' g [c0, c1, c2, c3, c4, .int .i64 b.agency, vs, vo, .int .i64 b.sent, vt, .int .i64 b.cash] 155 := by
  obtain ⟨ts, ht, _⟩ := D.took
  exact D.bx.keep (S := fun j => vt.ownBlock = some j) (.grown hg fun j hj _ => hj) (apart_bx D.bx ht (by decide))
/-- The messages of a desk are written anew, behind what was added to them. -/
theorem Desk.setTook {vt' : Value} {l' : List Key} (D : Desk base w g h b c0 c1 c2 c3 c4 vs vo vt xs) (hg : w.grownBy w' vt.ownBlock) (ho : OwnL (fun _ => False) base 124 w' vt' l') :
    Desk base (w'.setCell ⟨g, 9, none⟩ vt') g h { b with took := l' } c0 c1 c2 c3 c4 vs vo vt' xs := by
  obtain ⟨ts, ht, _⟩ := D.took
  have hne : ∀ {b3 s3 : Nat} {e3 : TypeId} {v3 : Value} {n3 : Nat} {x3 : List Value}, w.ownsRow b3 e3 s3 v3 n3 x3 → e3 ≠ 124 → v3.ownBlock = none ∨ v3.ownBlock ≠ vt.ownBlock := fun {b3 s3 e3 v3 n3 x3} h3 h4 => by
    cases hq : v3.ownBlock with
    | none => exact .inl rfl
    | some q => exact .inr fun he => apart_rows h3 ht h4 q hq he.symm
  have hk : Keeps (fun j => base ≤ j) w w' := .grown hg fun k hk _ => (D.took.lt k hk).1
  have hb7 := D.bx.keep (S := fun j => vt.ownBlock = some j) (.grown hg fun j hj _ => hj) (apart_bx D.bx ht (by decide))
  have hh7 := Rep.keep hk D.house
  have ho7 := D.outer.kept hg (hne D.outer (by decide))
  have hr7 : ∀ i (hi : i < b.seats.length) (hx : i < xs.length), OwnI base 3 w' xs[i] b.seats[i] := fun i hi hx => (D.row i hi hx).kept hg (hne (D.row i hi hx) (by decide))
  have hf7 := D.off.kept hg (hne D.off (by decide))
  have hw : Wrote g w' (w'.setCell ⟨g, 9, none⟩ vt') := Wrote.setCell w' g 9 _
  obtain ⟨us, hu, _⟩ := ho
  refine Desk.of ?_ D.gb (Rep.keep (keeps_of_wrote hw D.gb) hh7) (ho7.kept hw.grown (.inr (apart_bx hb7 ho7 (by decide)))) (fun i hi hx => (hr7 i hi hx).kept hw.grown (.inr (apart_bx hb7 (hr7 i hi hx) (by decide)))) (hf7.kept hw.grown (.inr (apart_bx hb7 hf7 (by decide)))) ?_ ?_
  · have := hb7.setCell 9 vt'
    simpa using this
  · exact OwnL.keptF (S := fun _ => False) ⟨us, hu, by assumption⟩ fun k hk' => hw.block k (fun e => apart_bx hb7 hu (by decide) (e ▸ hk'))
  · have := D.apart
    unfold Apart at *
    simp only [List.pairwise_cons] at this
    exact this.2.2.2.2
def TakeRel (base : Nat) (w : World) (g : Nat) (h : House) (bk : Book) (mcs : List Value) (c0 c1 c2 c3 c4 vs vo vt : Value) (xs : List Value) (wr : World) : Prop :=
  Desk base wr g h bk c0 c1 c2 c3 c4 vs vo vt xs ∧ Bx wr w.heap.size [.pointer (some ⟨g, 0, none⟩)] 117 ∧ Bx wr (w.heap.size + 1) mcs 74 ∧ StepX (fun j => base ≤ j) w wr
set_option maxRecDepth 100000 in
set_option maxHeartbeats 8000000 in
theorem take_any (D : Desk base w g h b c0 c1 c2 c3 c4 vs vo vt xs) (hO : OkDesk h b) (mf md mn ms : Int) (l : List Int) (u : Value) (hu : AV (fun j => base ≤ j) w u (⟨mf, md, mn, ms, l⟩ : BT.Message)) :
    Calls Try.prog 74 #[.pointer (some ⟨g, 0, none⟩), u] w (fun e w' => DeskEnds base g h (takeD h b ⟨mf, md, mn, ms, l⟩) e w w') := by
  obtain ⟨mc, rfl, hms⟩ := hu.message
  dsimp only at hms ⊢
  obtain ⟨pu, cu, bu, ou, rfl, _, hlm, hpu, hcu, hbu⟩ := hms.ints
  have hmf : ∀ (fn : Fn) (first cap : Array Value) (w : World), (Instr.makeFunc fn first cap).run Try.prog w = .ok (.func fn first cap) w := fun _ _ _ _ => rfl
  obtain ⟨W3, hW3⟩ : ∃ W3, W3 = (w.alloc (.cells #[.pointer (some ⟨g, 0, none⟩)] 117)).alloc (.cells #[.int .i64 mf, .int .i64 md, .int .i64 mn, .int .i64 ms, .slice pu l.length cu] 74) := ⟨_, rfl⟩
  have hS : Step w W3 := by subst hW3; exact (by repeat (first | (with_reducible assumption) | (with_reducible exact Step.refl _) | (with_reducible apply Step.s_alloc) | (with_reducible apply Step.s_drew) | (with_reducible apply Step.s_drewN) | (with_reducible refine Step.trans ?_ (by with_reducible assumption))))
  have hb0 : Bx W3 w.heap.size [.pointer (some ⟨g, 0, none⟩)] 117 := by subst hW3; exact (Bx.new _ [_] _).alloc _
  have hb1 : Bx W3 (w.heap.size + 1) [.int .i64 mf, .int .i64 md, .int .i64 mn, .int .i64 ms, .slice pu l.length cu] 74 := by subst hW3; exact Bx.new' _ [_, _, _, _, _] _ _ (by simp)
  have hz3 : W3.heap.size = w.heap.size + 2 := by subst hW3; simp
  have HS := Lib.hid hS
  have HB0 := Lib.hid hb0
  have HB1 := Lib.hid hb1
  have HZ3 := Lib.hid hz3
  have HD := Lib.hid (D.step hS)
  have HD0 := Lib.hid D
  have HO := Lib.hid hO
  have HU := Lib.hid (And.intro hms (And.intro hpu (And.intro hcu hbu)))
  have HU0 := Lib.hid hu
  have HAV := Lib.hid (AV.keep (.of_step hS) hu)
  have HW := Lib.hid hW3
  have HT := Lib.hid (Step.refl W3)
  clear hS hb0 hb1 hz3 D hO hu hms hpu hcu hbu hW3
  obtain ⟨p0, k0, rfl⟩ := (rep5 HD.out.house).1.form
  obtain ⟨p1, k1, rfl⟩ := (rep5 HD.out.house).2.1.form
  obtain ⟨p2, k2, rfl⟩ := (rep5 HD.out.house).2.2.1.form
  obtain ⟨p3, k3, rfl⟩ := (rep5 HD.out.house).2.2.2.1.form
  obtain ⟨p4, k4, rfl⟩ := (rep5 HD.out.house).2.2.2.2.form
  obtain ⟨pt, ct, rfl⟩ : ∃ p c, vt = .slice p b.took.length c := by obtain ⟨p, c, e, _⟩ := HD.out.took.form; exact ⟨p, c, e⟩
  go_enter Try.func74, Try.ntmps74
  go_upto_region 1 with (fail)
  rw [← HW.out]
  clear HW
  refine wp_region_seq (kdOf [5] []) [0, 1, 3, 7, 0, 31, 63] [0, 1, 2, 3, 4, 5] [6] (by kernel_rfl) (by kernel_rfl) (fun i T z hi hk => by simp [kdOf] at hk <;> (try (split at hk <;> cases hk))) ?_
  intro Wx hWx
  have HTx := Lib.hid (HT.out.trans hWx)
  clear hWx HT
  have HT := HTx
  clear HTx
  (try clear y0 x0 x1 x2 x3 x4)
  have y0 := (HB0.out.step HT.out).cell 0
  obtain ⟨x0, x1, x2, x3, x4⟩ := cells5 (HB1.out.step HT.out)
  simp only [List.getElem?_cons_zero] at y0
  (try clear f0 f1 f2 f3 f4 f5 f6 f7 f8 f9)
  obtain ⟨⟨f0, f1, f2, f3, f4⟩, f5, f6, f7, f8, f9, _⟩ := cells11 (HD.out.step HT.out).bx
  repeat (first | (refine run_off rfl rfl (by rfl) ?_; (try simp only [Act.put, List.setIfInBounds_toArray, List.set_cons_zero, List.set_cons_succ])) | (refine run_chain_off rfl rfl (by rfl) (K0_mono _) ?_; (try simp only [Act.put, List.setIfInBounds_toArray, List.set_cons_zero, List.set_cons_succ])) | ((refine run_want rfl rfl (by rfl) ⟨?_, fun W hW => ?_, ?_⟩; rotate_left; (· (have d0 := hW.keeps.cell id y0; have d1 := hW.keeps.cell id f0; have d2 := hW.keeps.cell id f1; have d3 := hW.keeps.cell id f2; have d4 := hW.keeps.cell id f3; have d5 := hW.keeps.cell id f4; have d6 := hW.keeps.cell id x0; have d7 := hW.keeps.cell id x1; have d8 := hW.keeps.cell id x2; have d9 := hW.keeps.cell id x3; have d10 := hW.keeps.cell id x4; go_simp; (try with_reducible rfl)))); (try simp only [Act.put, List.setIfInBounds_toArray, List.set_cons_zero, List.set_cons_succ])))
  refine run_chain rfl rfl (by rfl) (fun Wi hWi K' hK => ?_)
  have HTi := Lib.hid (HT.out.trans hWi)
  have HZW := Lib.hid HTi.out.size
  clear hWi HT
  go_simp
  refine (vmess_any (fun j => base ≤ j) (fun j => base ≤ j) h ⟨mf, md, mn, ms, l⟩ _ _ Wi ⟨_, rfl, (HD.out.step HTi.out).house⟩ (AV.keep (.of_step HTi.out) HAV.out) HO.out.1).mono ?_
  rintro e wn ⟨rfl, hSn⟩
  have HT := Lib.hid (HTi.out.trans (StepX.of hSn))
  clear HTi
  refine hK _ _ (StepX.of hSn) ?_
  clear hSn
  (try simp only [Act.put, List.setIfInBounds_toArray, List.set_cons_zero, List.set_cons_succ])
  clear y0 x0 x1 x2 x3 x4 f0 f1 f2 f3 f4 f5 f6 f7 f8 f9
  repeat (first | (refine run_off rfl rfl (by rfl) ?_; (try simp only [Act.put, List.setIfInBounds_toArray, List.set_cons_zero, List.set_cons_succ])) | (refine run_chain_off rfl rfl (by rfl) (K0_mono _) ?_; (try simp only [Act.put, List.setIfInBounds_toArray, List.set_cons_zero, List.set_cons_succ])) | ((refine run_want rfl rfl (by rfl) ⟨?_, fun W hW => ?_, ?_⟩; rotate_left; (· (obtain ⟨hc'', hf''⟩ := hW.cells; go_simp; (try with_reducible rfl)))); (try simp only [Act.put, List.setIfInBounds_toArray, List.set_cons_zero, List.set_cons_succ])))
  refine run_end (L := [_]) rfl (fun W6 hW6 => ?_)
  have HT6 := Lib.hid (HT.out.trans hW6)
  clear hW6 HT
  have HT := HT6
  clear HT6
  cases q1 : messV h ⟨mf, md, mn, ms, l⟩ with
  | false =>
    have HF := Lib.hid (show takeE h b ⟨mf, md, mn, ms, l⟩ = 1 by simp [takeE, q1])
    clear q1
    go_wp2_with fail
    refine (ask_no _ _).mono ?_
    rintro e wn ⟨rfl, hSn⟩
    have HTi := Lib.hid (HT.out.trans hSn)
    clear hSn HT
    have HT := HTi
    clear HTi
    exact ⟨rfl, .no (takeD_no HF.out (by simp)) (HS.out.trans HT.out)⟩
  | true =>
  have Q1 := Lib.hid q1
  clear q1
  go_wp2_with fail
  refine (ask_yes _ _).mono ?_
  rintro e wn ⟨rfl, hSn⟩
  have HTi := Lib.hid (HT.out.trans hSn)
  clear hSn HT
  have HT := HTi
  clear HTi
  obtain ⟨q3, q4⟩ := mess_parts Q1.out
  dsimp only at q3 q4
  obtain ⟨i, rfl, hi0, hi1⟩ := within_nat q3 (by omega)
  have Q4 := Lib.hid q4
  have hi : i < h.dates.length := by omega
  clear q3 q4 hi0 hi1
  go_upto_region 2 with (fail)
  refine wp_region_seq (kdOf [] []) [0, 1, 0, 4, 12, 28, 60, 127, 255] [0, 1, 2, 3, 4, 5, 6, 7] [8] (by kernel_rfl) (by kernel_rfl) (fun i T z hi hk => by simp [kdOf] at hk <;> (try (split at hk <;> cases hk))) ?_
  intro Wx hWx
  have HTx := Lib.hid (HT.out.trans hWx)
  clear hWx HT
  have HT := HTx
  clear HTx
  (try clear y0 x0 x1 x2 x3 x4)
  have y0 := (HB0.out.step HT.out).cell 0
  obtain ⟨x0, x1, x2, x3, x4⟩ := cells5 (HB1.out.step HT.out)
  simp only [List.getElem?_cons_zero] at y0
  (try clear f0 f1 f2 f3 f4 f5 f6 f7 f8 f9)
  obtain ⟨⟨f0, f1, f2, f3, f4⟩, f5, f6, f7, f8, f9, _⟩ := cells11 (HD.out.step HT.out).bx
  have hdx : (md == b.agency) = decide (md = b.agency) := by simp [Bool.beq_eq_decide_eq]
  have HDX := Lib.hid hdx
  clear hdx
  repeat (first | (refine run_off rfl rfl (by rfl) ?_; (try simp only [Act.put, List.setIfInBounds_toArray, List.set_cons_zero, List.set_cons_succ])) | (refine run_chain_off rfl rfl (by rfl) (K0_mono _) ?_; (try simp only [Act.put, List.setIfInBounds_toArray, List.set_cons_zero, List.set_cons_succ])) | ((refine run_want rfl rfl (by rfl) ⟨?_, fun W hW => ?_, ?_⟩; rotate_left; (· (have d0 := hW.keeps.cell id x1; have d1 := hW.keeps.cell id y0; have d2 := hW.keeps.cell id f5; go_simp; (try with_reducible rfl)))); (try simp only [Act.put, List.setIfInBounds_toArray, List.set_cons_zero, List.set_cons_succ])))
  clear y0 x0 x1 x2 x3 x4 f0 f1 f2 f3 f4 f5 f6 f7 f8 f9
  repeat (first | (refine run_off rfl rfl (by rfl) ?_; (try simp only [Act.put, List.setIfInBounds_toArray, List.set_cons_zero, List.set_cons_succ])) | (refine run_chain_off rfl rfl (by rfl) (K0_mono _) ?_; (try simp only [Act.put, List.setIfInBounds_toArray, List.set_cons_zero, List.set_cons_succ])) | ((refine run_want rfl rfl (by rfl) ⟨?_, fun W hW => ?_, ?_⟩; rotate_left; (· (obtain ⟨hc'', hf''⟩ := hW.cells; go_simp; (try with_reducible rfl)))); (try simp only [Act.put, List.setIfInBounds_toArray, List.set_cons_zero, List.set_cons_succ])))
  refine run_end (L := [_]) rfl (fun W6 hW6 => ?_)
  have HT6 := Lib.hid (HT.out.trans hW6)
  clear hW6 HT
  have HT := HT6
  clear HT6
  by_cases q2 : md = b.agency
  rotate_left
  · have hd : (md == b.agency) = false := by rw [HDX.out]; simpa using q2
    have HF := Lib.hid (show takeE h b ⟨mf, md, mn, i, l⟩ = 2 by simp only [takeE, Q1.out]; simp [q2])
    clear q2
    go_wp2_with fail
    refine (ask_no _ _).mono ?_
    rintro e wn ⟨rfl, hSn⟩
    have HTi := Lib.hid (HT.out.trans hSn)
    clear hSn HT
    have HT := HTi
    clear HTi
    exact ⟨rfl, .no (takeD_no HF.out (by simp)) (HS.out.trans HT.out)⟩
  have hd : (md == b.agency) = true := by rw [HDX.out]; simpa using q2
  have Q2 := Lib.hid q2
  clear q2
  go_wp2_with fail
  refine (ask_yes _ _).mono ?_
  rintro e wn ⟨rfl, hSn⟩
  have HTi := Lib.hid (HT.out.trans hSn)
  clear hSn HT
  have HT := HTi
  clear HTi
  clear hd
  go_upto_region 3 with (fail)
  refine wp_region_seq (kdOf [6, 7] []) [0, 1, 3, 7, 15, 0, 32, 127, 255, 511] [0, 1, 2, 3, 4, 5, 6, 7, 8] [9] (by kernel_rfl) (by kernel_rfl) (fun i T z hi hk => by simp [kdOf] at hk <;> (try (split at hk <;> cases hk))) ?_
  intro Wx hWx
  have HTx := Lib.hid (HT.out.trans hWx)
  clear hWx HT
  have HT := HTx
  clear HTx
  (try clear y0 x0 x1 x2 x3 x4)
  have y0 := (HB0.out.step HT.out).cell 0
  obtain ⟨x0, x1, x2, x3, x4⟩ := cells5 (HB1.out.step HT.out)
  simp only [List.getElem?_cons_zero] at y0
  (try clear f0 f1 f2 f3 f4 f5 f6 f7 f8 f9)
  obtain ⟨⟨f0, f1, f2, f3, f4⟩, f5, f6, f7, f8, f9, _⟩ := cells11 (HD.out.step HT.out).bx
  repeat (first | (refine run_off rfl rfl (by rfl) ?_; (try simp only [Act.put, List.setIfInBounds_toArray, List.set_cons_zero, List.set_cons_succ])) | (refine run_chain_off rfl rfl (by rfl) (K0_mono _) ?_; (try simp only [Act.put, List.setIfInBounds_toArray, List.set_cons_zero, List.set_cons_succ])) | ((refine run_want rfl rfl (by rfl) ⟨?_, fun W hW => ?_, ?_⟩; rotate_left; (· (have d0 := hW.keeps.cell id y0; have d1 := hW.keeps.cell id f9; have d2 := hW.keeps.cell id x0; have d3 := hW.keeps.cell id x1; have d4 := hW.keeps.cell id x2; have d5 := hW.keeps.cell id x3; have d6 := hW.keeps.cell id x4; go_simp; (try with_reducible rfl)))); (try simp only [Act.put, List.setIfInBounds_toArray, List.set_cons_zero, List.set_cons_succ])))
  refine run_chain rfl rfl (by rfl) (fun Wi hWi K' hK => ?_)
  have HTi := Lib.hid (HT.out.trans hWi)
  have HZW := Lib.hid HTi.out.size
  clear hWi HT
  go_simp
  refine (key_any (fun j => base ≤ j) ⟨mf, md, mn, i, l⟩ _ Wi (AV.keep (.of_step HTi.out) HAV.out)).mono ?_
  rintro e wn ⟨rfl, hSn⟩
  have HT := Lib.hid (HTi.out.trans (StepX.of hSn))
  clear HTi
  refine hK _ _ (StepX.of hSn) ?_
  clear hSn
  (try simp only [Act.put, List.setIfInBounds_toArray, List.set_cons_zero, List.set_cons_succ])
  clear y0 x0 x1 x2 x3 x4 f0 f1 f2 f3 f4 f5 f6 f7 f8 f9
  repeat (first | (refine run_off rfl rfl (by rfl) ?_; (try simp only [Act.put, List.setIfInBounds_toArray, List.set_cons_zero, List.set_cons_succ])) | (refine run_chain_off rfl rfl (by rfl) (K0_mono _) ?_; (try simp only [Act.put, List.setIfInBounds_toArray, List.set_cons_zero, List.set_cons_succ])) | ((refine run_want rfl rfl (by rfl) ⟨?_, fun W hW => ?_, ?_⟩; rotate_left; (· (obtain ⟨hc'', hf''⟩ := hW.cells; go_simp; (try with_reducible rfl)))); (try simp only [Act.put, List.setIfInBounds_toArray, List.set_cons_zero, List.set_cons_succ])))
  refine run_chain rfl rfl (by rfl) (fun Wi hWi K' hK => ?_)
  have HTi := Lib.hid (HT.out.trans hWi)
  have HZW := Lib.hid HTi.out.size
  clear hWi HT
  go_simp
  refine (contains_key (fun _ => False) b.took mf mn _ Wi (OwnL.sl (S := fun _ => False) ((HD.out.step HTi.out).took) (fun _ _ _ h => h))).mono ?_
  rintro e wn ⟨rfl, hSn⟩
  have HT := Lib.hid (HTi.out.trans (StepX.of hSn))
  clear HTi
  refine hK _ _ (StepX.of hSn) ?_
  clear hSn
  (try simp only [Act.put, List.setIfInBounds_toArray, List.set_cons_zero, List.set_cons_succ])
  repeat (first | (refine run_off rfl rfl (by rfl) ?_; (try simp only [Act.put, List.setIfInBounds_toArray, List.set_cons_zero, List.set_cons_succ])) | (refine run_chain_off rfl rfl (by rfl) (K0_mono _) ?_; (try simp only [Act.put, List.setIfInBounds_toArray, List.set_cons_zero, List.set_cons_succ])) | ((refine run_want rfl rfl (by rfl) ⟨?_, fun W hW => ?_, ?_⟩; rotate_left; (· (obtain ⟨hc'', hf''⟩ := hW.cells; go_simp; (try with_reducible rfl)))); (try simp only [Act.put, List.setIfInBounds_toArray, List.set_cons_zero, List.set_cons_succ])))
  refine run_end (L := [_]) rfl (fun W6 hW6 => ?_)
  have HT6 := Lib.hid (HT.out.trans hW6)
  clear hW6 HT
  have HT := HT6
  clear HT6
  cases q3 : hasK b.took ⟨mf, mn⟩ with
  | true =>
    have HF := Lib.hid (show takeE h b ⟨mf, md, mn, i, l⟩ = 6 from takeE_6 Q1.out Q2.out q3)
    clear q3
    go_wp2_with fail
    refine (ask_no _ _).mono ?_
    rintro e wn ⟨rfl, hSn⟩
    have HTi := Lib.hid (HT.out.trans hSn)
    clear hSn HT
    have HT := HTi
    clear HTi
    exact ⟨rfl, .no (takeD_no HF.out (by simp)) (HS.out.trans HT.out)⟩
  | false =>
  have Q3 := Lib.hid q3
  clear q3
  go_wp2_with fail
  refine (ask_yes _ _).mono ?_
  rintro e wn ⟨rfl, hSn⟩
  have HTi := Lib.hid (HT.out.trans hSn)
  clear hSn HT
  have HT := HTi
  clear HTi
  obtain ⟨z, hz⟩ : ∃ z : Nat, sizeL h.sectors = z := ⟨(sizeL h.sectors).toNat, by have := size_pos HO.out.1; omega⟩
  have hz0 : 0 < z := by have := size_pos HO.out.1; omega
  have his : i < b.seats.length := by have := HO.out.2.2.1; omega
  have hrl : ∀ b', OkDesk h b' → ∀ s (hs : s < b'.seats.length), b'.seats[s].length = z := fun b' hb s hs => by have := hb.2.2.2.1 s hs; omega
  have HRL := Lib.hid hrl
  have HZ := Lib.hid hz
  obtain ⟨⟨gs, cs, rfl⟩, hforms⟩ := HD0.out.forms HO.out hz hz0
  obtain ⟨hxi, gi, ci, hxv⟩ := hforms i hi
  have HXV := Lib.hid hxv
  have hx2 : (0 : Int) ≤ (i : Int) ∧ (i : Int) < (h.dates.length : Int) := by omega
  clear hrl hz hforms hxv
  have hall := Lib.hid (all_int (fun j => base ≤ j) l (.slice pu l.length cu) wn 107 #[.pointer (some ⟨w.heap.size, 0, none⟩), .pointer (some ⟨w.heap.size + 1, 0, none⟩)]
    (Go.Proofs.enters_of Try.func107 (by kernel_rfl) rfl) (fun j => decide (seatAt b i j = -1)) (fun _ W => Step wn W) (fun _ => False) (fun _ h => h.elim)
    (fun _ W hW => HU.out.1.keep (.of_step ((HS.out.trans HT.out).trans hW))) (fun _ _ _ h1 h2 => h1.trans h2) (Step.refl _) (fun q hq W uu hW _ hu => by
      subst hu
      obtain ⟨j, hj, hjz⟩ := seats_nat Q4.out hq
      rw [hj]
      have hD := (HD.out.step HT.out).step hW
      refine (take1_any hD i j his (by have := HRL.out _ HO.out i his; have := HZ.out; omega) w.heap.size (w.heap.size + 1) ((HB0.out.step (HT.out.trans hW)).cell 0) ((HB1.out.step (HT.out.trans hW)).cell 3)).mono ?_
      rintro e w' ⟨rfl, hS⟩
      exact ⟨rfl, hW.trans hS, hS⟩))
  (try clear y0 x0 x1 x2 x3 x4)
  have y0 := (HB0.out.step HT.out).cell 0
  obtain ⟨x0, x1, x2, x3, x4⟩ := cells5 (HB1.out.step HT.out)
  simp only [List.getElem?_cons_zero] at y0
  go_wp2_with fail
  clear y0 x0 x1 x2 x3 x4
  refine hall.out.mono ?_
  rintro e wm ⟨rfl, km, _, _, hSm⟩
  have HTm := Lib.hid (HT.out.trans hSm)
  clear hall hSm HT
  have HT := HTm
  clear HTm
  cases q5 : (l.all fun j => decide (seatAt b i j = -1)) with
  | false =>
    have HF := Lib.hid (show takeE h b ⟨mf, md, mn, i, l⟩ = 8 by rw [takeE_at Q1.out Q2.out Q3.out, if_pos q5])
    clear q5
    go_wp2_with fail
    refine (ask_no _ _).mono ?_
    rintro e wn ⟨rfl, hSn⟩
    have HTi := Lib.hid (HT.out.trans hSn)
    clear hSn HT
    have HT := HTi
    clear HTi
    exact ⟨rfl, .no (takeD_no HF.out (by simp)) (HS.out.trans HT.out)⟩
  | true =>
  have Q5 := Lib.hid q5
  clear q5
  go_wp2_with fail
  refine (ask_yes _ _).mono ?_
  rintro e wn ⟨rfl, hSn⟩
  have HTi := Lib.hid (HT.out.trans hSn)
  clear hSn HT
  have HT := HTi
  clear HTi
  (try clear y0 x0 x1 x2 x3 x4)
  have y0 := (HB0.out.step HT.out).cell 0
  obtain ⟨x0, x1, x2, x3, x4⟩ := cells5 (HB1.out.step HT.out)
  simp only [List.getElem?_cons_zero] at y0
  obtain ⟨_, f5, f6, f7, f8, f9, _⟩ := cells11 (HD.out.step HT.out).bx
  by_cases q6 : b.took.length < 1000
  rotate_left
  · have HF := Lib.hid (show takeE h b ⟨mf, md, mn, i, l⟩ = 3 by rw [takeE_at Q1.out Q2.out Q3.out, if_neg (by rw [Q5.out]; simp), if_pos (by omega)])
    have hd : decide ((b.took.length : Int) < 1000) = false := by simp; omega
    clear q6
    go_wp2_with fail
    refine (ask_no _ _).mono ?_
    rintro e wn ⟨rfl, hSn⟩
    have HTi := Lib.hid (HT.out.trans hSn)
    clear hSn HT
    have HT := HTi
    clear HTi
    exact ⟨rfl, .no (takeD_no HF.out (by simp)) (HS.out.trans HT.out)⟩
  have HF := Lib.hid (show takeE h b ⟨mf, md, mn, i, l⟩ = 0 by rw [takeE_at Q1.out Q2.out Q3.out, if_neg (by rw [Q5.out]; simp), if_neg (by omega)])
  have hd : decide ((b.took.length : Int) < 1000) = true := by simp; omega
  have Q6 := Lib.hid q6
  clear q6
  go_wp2_with fail
  refine (ask_yes _ _).mono ?_
  rintro e wn ⟨rfl, hSn⟩
  have HTi := Lib.hid (HT.out.trans hSn)
  clear hSn HT
  have HT := HTi
  clear HTi
  clear hd y0 f5 f6 f7 f8 f9 x0 x1 x2 x3 x4
  (try clear y0 x0 x1 x2 x3 x4)
  have y0 := (HB0.out.step HT.out).cell 0
  obtain ⟨x0, x1, x2, x3, x4⟩ := cells5 (HB1.out.step HT.out)
  simp only [List.getElem?_cons_zero] at y0
  go_wp2_with fail
  clear y0 x0 x1 x2 x3 x4
  obtain ⟨_, _, _, _, hgiw⟩ := HD0.out.seat_c his hxi HXV.out (j := 0) (by rw [HRL.out _ HO.out]; exact hz0)
  have hstart : TakeRel base w g h (takeTo b i (l.take 0)) [.int .i64 mf, .int .i64 md, .int .i64 mn, .int .i64 i, .slice pu l.length cu] (.slice p0 h.sectors.length k0) (.slice p1 h.prices.length k1) (.slice p2 h.dates.length k2) (.slice p3 h.frm.length k3) (.slice p4 h.holds.length k4) (.slice (some ⟨gs, 0, none⟩) h.dates.length cs) vo (.slice pt b.took.length ct) xs wn :=
    ⟨HD.out.step HT.out, HB0.out.step HT.out, HB1.out.step HT.out, .of (HS.out.trans HT.out)⟩
  go_loopw [48] (fun idx wr => ∃ k : Nat, k ≤ l.length ∧ idx = .int .i64 k ∧ TakeRel base w g h (takeTo b i (l.take k)) [.int .i64 mf, .int .i64 md, .int .i64 mn, .int .i64 i, .slice pu l.length cu] (.slice p0 h.sectors.length k0) (.slice p1 h.prices.length k1) (.slice p2 h.dates.length k2) (.slice p3 h.frm.length k3) (.slice p4 h.holds.length k4) (.slice (some ⟨gs, 0, none⟩) h.dates.length cs) vo (.slice pt b.took.length ct) xs wr) (fun idx _ => l.length - (intOf idx).toNat)
  case atStart => exact ⟨0, Nat.zero_le _, rfl, hstart⟩
  case round =>
    clear hstart
    obtain ⟨k, hk, rfl, hDk, hb0, hb1, hX⟩ := hrel
    have hOk := (like_take b i (l.take k)).ok HO.out (by have := HO.out.2.2.2.2.2.2.1; omega)
    have HDK := Lib.hid hDk
    have HB := Lib.hid (And.intro hb0 hb1)
    have HX := Lib.hid hX
    have HOK := Lib.hid hOk
    clear hDk hb0 hb1 hX hOk
    by_cases hlt : k < l.length
    · obtain ⟨j, hj, hjz⟩ := seats_nat Q4.out hlt
      obtain rfl := HU.out.2.1 (by omega)
      have hl0 := HX.out.keeps.cell (a := ⟨bu, ou + k, none⟩) (HU.out.2.2.2 (by omega)).2 (HU.out.2.2.1 k hlt)
      rw [hj] at hl0
      have HJ := Lib.hid hj
      have hisk : i < (takeTo b i (l.take k)).seats.length := by have := HOK.out.2.2.1; omega
      have hjk : j < (takeTo b i (l.take k)).seats[i].length := by rw [HRL.out _ HOK.out]; have := HZ.out; omega
      have hjz2 : j < z := by have := HZ.out; omega
      obtain ⟨m0, m1, z1, _, _⟩ := HDK.out.seat_c hisk hxi HXV.out hjk
      obtain ⟨_, _, f6, _⟩ := cells11 HDK.out.bx
      have y0 := HB.out.1.cell 0
      have x3 := HB.out.2.cell 3
      simp only [List.getElem?_cons_zero, List.getElem?_cons_succ] at y0 x3
      have HM := Lib.hid (And.intro m0 (And.intro z1 (And.intro f6 (And.intro y0 x3))))
      have hx3 : (0 : Int) ≤ (k : Int) ∧ (k : Int) < (l.length : Int) := by omega
      have hx4 : (0 : Int) ≤ (j : Int) ∧ (j : Int) < (z : Int) := by omega
      have hgir : gi < wr.heap.size := by have := HX.out.size; omega
      clear hj m0 m1 z1 f6 y0 x3
      go_upto_region 9 with (fail)
      refine wp_region_seq (kdOf [] []) [0, 1, 3, 7, 15, 0, 32, 127, 255, 0, 1023, 2047] [0, 1, 2, 3, 4, 5, 6, 7, 8, 9, 10] [11] (by kernel_rfl) (by kernel_rfl) (fun i T z hi hk => by simp [kdOf] at hk <;> (try (split at hk <;> cases hk))) ?_
      intro Wx hWx
      have HT := Lib.hid hWx
      clear hWx
      have m0 := HT.out.keeps.cell id HM.out.1
      have f6 := HT.out.keeps.cell id HM.out.2.2.1
      have y0 := HT.out.keeps.cell id HM.out.2.2.2.1
      have x3 := HT.out.keeps.cell id HM.out.2.2.2.2
      repeat (first | (refine run_off rfl rfl (by rfl) ?_; (try simp only [Act.put, List.setIfInBounds_toArray, List.set_cons_zero, List.set_cons_succ])) | (refine run_chain_off rfl rfl (by rfl) (K0_mono _) ?_; (try simp only [Act.put, List.setIfInBounds_toArray, List.set_cons_zero, List.set_cons_succ])) | ((refine run_want rfl rfl (by rfl) ⟨?_, fun W hW => ?_, ?_⟩; rotate_left; (· (have d0 := hW.keeps.cell id y0; have d1 := hW.keeps.cell id f6; have d2 := hW.keeps.cell id x3; have d3 := hW.keeps.cell id m0; go_simp; (try with_reducible rfl)))); (try simp only [Act.put, List.setIfInBounds_toArray, List.set_cons_zero, List.set_cons_succ])))
      refine run_end (L := [_]) rfl (fun W6 hW6 => ?_)
      have HT6 := Lib.hid (HT.out.trans hW6)
      clear hW6 HT
      have HT := HT6
      clear HT6
      have hD6 := HDK.out.step HT.out
      have z1 := (HT.out.cells.2 gi j hgir).trans HM.out.2.1
      obtain ⟨_, m1, _, _, _⟩ := hD6.seat_c hisk hxi HXV.out hjk
      have hset := hD6.setSeat (j := j) hisk hxi (by rw [HRL.out _ HOK.out]; exact HXV.out) 0
      have hb0 := (HB.out.1.step HT.out).setOther (b := gi) (o := j) (v := .int .i64 0) (by omega)
      have hb1 := (HB.out.2.step HT.out).setOther (b := gi) (o := j) (v := .int .i64 0) (by omega)
      have hX7 := (HX.out.trans (.of HT.out)).setCell ⟨gi, j, none⟩ (.int .i64 0) hset.2
      have H7 := Lib.hid (And.intro hset.1 (And.intro hb0 (And.intro hb1 hX7)))
      have HN := Lib.hid (show takeTo b i (l.take (k + 1)) = putSeat (takeTo b i (l.take k)) i j 0 by rw [List.take_succ_eq_append_getElem hlt, takeTo_snoc, HJ.out, Int.toNat_natCast])
      clear m0 f6 y0 x3 hl0 hD6 hset hb0 hb1 hX7
      go_wp2
      go_roundw
      case rel => exact ⟨k + 1, by omega, by go_num, by rw [HN.out]; exact H7.out⟩
      case measure => simp [intOf]; omega
    · have htk : takeTo b i (l.take k) = takeTo b i l := by rw [List.take_of_length_le (by omega)]
      rw [htk] at HDK HOK
      have HFIN := Lib.hid (show takeD h b ⟨mf, md, mn, i, l⟩ = .ok { takeTo b i l with took := b.took ++ [⟨mf, mn⟩] } by rw [takeD_yes HF.out]; simp [takeP, keyOf])
      clear htk HF
      have hq6 := Q6.out
      go_upto_region 11 with (fail)
      have HT := Lib.hid (Step.refl wr)
      obtain ⟨hny0, hny1, hnyg⟩ : (¬ (Value.slice pt b.took.length ct).ownBlock = some w.heap.size) ∧ (¬ (Value.slice pt b.took.length ct).ownBlock = some (w.heap.size + 1)) ∧ ¬ (Value.slice pt b.took.length ct).ownBlock = some g := by
        obtain ⟨ts, ht, _⟩ := HDK.out.took
        exact ⟨apart_bx HB.out.1 ht (by decide), apart_bx HB.out.2 ht (by decide), apart_bx HDK.out.bx ht (by decide)⟩
      refine Late.wp_region_late (fun j => (Value.slice pt b.took.length ct).ownBlock = some j) (fun c d v a w h => by cases d <;> exact h) (kdOf [7, 8] []) [0, 0, 2, 6, 14, 30, 0, 64, 192, 510, 1023, 2047, 4095, 8191] [0, 1, 2, 3, 4, 5, 6, 7, 8] 9 [10, 11, 12, 13] (by kernel_rfl) (by kernel_rfl) (fun i T z hi hk => by simp [kdOf] at hk <;> (try (split at hk <;> cases hk))) ?_
      intro Wx hWx
      have HT := Lib.hid hWx
      clear hWx
      have y0 := (HB.out.1.step HT.out).cell 0
      obtain ⟨x0, x1, x2, x3, x4⟩ := cells5 (HB.out.2.step HT.out)
      obtain ⟨_, _, _, _, _, f9, _⟩ := cells11 (HDK.out.step HT.out).bx
      simp only [List.getElem?_cons_zero] at y0
      repeat (first | (refine Late.run_off rfl rfl (by rfl) ?_; (try simp only [Act.put, List.setIfInBounds_toArray, List.set_cons_zero, List.set_cons_succ])) | ((refine Late.run_want rfl rfl (by rfl) ⟨?_, fun W hW => ?_, ?_⟩; rotate_left; (· (have d0 := hW.keeps.cell hny0 y0; have d1 := hW.keeps.cell hnyg f9; have d2 := hW.keeps.cell hny1 x0; have d3 := hW.keeps.cell hny1 x1; have d4 := hW.keeps.cell hny1 x2; have d5 := hW.keeps.cell hny1 x3; have d6 := hW.keeps.cell hny1 x4; go_simp; (try with_reducible rfl)))); (try simp only [Act.put, List.setIfInBounds_toArray, List.set_cons_zero, List.set_cons_succ])))
      refine Late.run_chain rfl rfl (by rfl) (fun Wi hWi K' hK => ?_)
      have HTi := Lib.hid (HT.out.trans hWi)
      clear hWi HT
      go_simp
      refine (key_any (fun j => base ≤ j) ⟨mf, md, mn, i, l⟩ _ Wi (AV.keep (HX.out.keeps.trans (.of_step HTi.out)) HU0.out)).mono ?_
      rintro e wn ⟨rfl, hSn⟩
      have HT := Lib.hid (HTi.out.trans (StepX.of hSn))
      clear HTi
      clear y0 x0 x1 x2 x3 x4 f9
      refine hK _ _ (StepX.of hSn) ?_
      clear hSn
      (try simp only [Act.put, List.setIfInBounds_toArray, List.set_cons_zero, List.set_cons_succ])
      refine Late.run_chain rfl rfl (by rfl) (fun Wj hWj K'' hK'' => ?_)
      go_simp
      refine hK'' _ _ (.of (Step.alloc _ _)) ?_
      (try simp only [Act.put, List.setIfInBounds_toArray, List.set_cons_zero, List.set_cons_succ])
      refine Late.run_end rfl rfl (L := [_, _, _, _]) rfl (fun W6 hW6 K6 hK6 => ?_)
      have hu := (SLe.one (S := avoid (fun _ => False) (.slice pt b.took.length ct)) (w := Wj) (cs := [.int .i64 mf, .int .i64 mn]) (x := (⟨mf, mn⟩ : Key)) 124 rfl).step hW6
      have HT6 := Lib.hid (HT.out.trans ((hWj.trans (Step.alloc _ _)).trans hW6))
      have hD6 := HDK.out.step HT6.out
      have hown : OwnL (fun _ => False) base 124 W6 (.slice pt b.took.length ct) b.took := by have := hD6.took; rw [takeTo_took] at this; exact this
      have hn1 : b.took.length + [(⟨mf, mn⟩ : Key)].length = b.took.length + 1 := rfl
      have hn2 : b.took.length + 1 ≤ maxLen := by simp only [maxLen]; omega
      have hn3 : base ≤ W6.heap.size := by have := hD6.gb; have := hD6.lt; omega
      have HD6 := Lib.hid hD6
      clear hWj hW6 HT hD6
      refine wp_append_L (α := Key) (S := fun _ => False) (base := base) (v := .slice pt b.took.length ct) (l := b.took) (m := [⟨mf, mn⟩]) eiKeys _ _ rfl rfl rfl hown hu (b.took.length + 1) hn1 (b.took ++ [⟨mf, mn⟩]) rfl hn2 (by omega) hn3 ?_
      intro p2 c2 w2 hown4 hg4
      have hD9 := HD6.out.setTook hg4 hown4
      have hX9 := ((HX.out.trans (.of HT6.out)).trans (StepX.grown hg4 (X := fun j => base ≤ j) fun j hj _ => (hown.lt j hj).1)).setCell ⟨g, 9, none⟩ (.slice p2 (b.took.length + 1) c2) HD6.out.gb
      obtain ⟨_, _, _, _, _, f9, _⟩ := cells11 (HD6.out.bx_took hg4)
      have z9 := (HD6.out.bx_took hg4).frozen 9
      have HN := Lib.hid (And.intro hD9 hX9)
      refine hK6 _ _ (StepX.grown hg4 fun j hj _ => hj) ?_
      clear hown hu hown4 hg4 hn1 hn2 hn3 hD9 hX9 hny0 hny1 hnyg
      (try simp only [Act.put, List.setIfInBounds_toArray, List.set_cons_zero, List.set_cons_succ])
      go_wp2
      go_end0
      exact .yes HFIN.out HN.out.2 ⟨_, _, _, _, _, _, _, _, _, HN.out.1⟩
end
end Go.Proofs.Ytbgfmikbhiblgaa
/- Walks: the program's Take. -/
namespace Go.Proofs.Ytbgfmikbhiblgaa
set_option linter.unusedSimpArgs false
set_option linter.unusedVariables false
open Go.RowKit Go.BT

set_option maxHeartbeats 1000000 in
theorem take1c_any {base : Nat} {W : World} {g : Nat} {h : House} {b : Book} (hD : DeskE base W g h b) (hO : OkDesk h b) (mf md mn ms : Int) (l : List Int) (u : Value) (a1 : Nat) (h1 : Bx W a1 [.int .i64 mf, .int .i64 md, .int .i64 mn, .int .i64 ms, u] 74) (hu : SL (fun j => base ≤ j) W u l) :
    Calls Try.prog 73 #[.pointer (some ⟨g, 0, none⟩), .pointer (some ⟨a1, 0, none⟩)] W (fun e W' => DeskEnds base g h (takeD h b ⟨mf, md, mn, ms, l⟩) e W W') := by
  obtain ⟨c0, c1, c2, c3, c4, vs, vo, vt, xs, D⟩ := hD
  have hcall := Lib.hid (take_any D hO mf md mn ms l (.agg #[.int .i64 mf, .int .i64 md, .int .i64 mn, .int .i64 ms, u]) ⟨_, rfl, _, rfl, hu⟩)
  obtain ⟨p, c, rfl⟩ := hu.form
  obtain ⟨x0, x1, x2, x3, x4⟩ := cells5 h1
  clear D hO h1 hu
  go_enter Try.func73, Try.ntmps73
  go_wp2_with fail
  refine hcall.out.mono ?_
  clear hcall
  rintro e w' he
  cases hr : takeD h b ⟨mf, md, mn, ms, l⟩ with
  | ok b' =>
    rw [hr] at he
    obtain ⟨hX, rfl, hD⟩ := he
    have HH := Lib.hid (And.intro hX hD)
    clear hX hD x0 x1 x2 x3 x4
    go_wp2
    go_end0
    exact .yes hr HH.out.1 HH.out.2
  | error c =>
    rw [hr] at he
    obtain ⟨hX, rfl⟩ := he
    exact ⟨rfl, .noX hr hX⟩

set_option maxHeartbeats 1000000 in
theorem Take_any (S S2 : Nat → Prop) (h : House) (b : Book) (v u x : Value) (m : BT.Message) (w : World) (hv : AV S w v h) (hu : AV S w u b) (hx : AV S2 w x m) :
    Calls Try.prog 37 #[v, u, x] w fun e w' => ∃ v', e = .returned (.tuple #[v', .int .i64 (actR (doneR h b (takeD h b m))).2]) ∧ AV (Old w) w' v' (actR (doneR h b (takeD h b m))).1 ∧ Step w w' := by
  obtain ⟨cs, rfl, hr⟩ := hv
  have hr0 := hr
  obtain ⟨c0, c1, c2, c3, c4, rfl, h0, h1, h2, h3, h4⟩ := hr
  obtain ⟨cs, rfl, hq⟩ := hu
  have hq0 := hq
  obtain ⟨d1, d2, d4, rfl, s1, s2, s4⟩ := hq
  obtain ⟨mf, md, mn, ms, l⟩ := m
  obtain ⟨mc, rfl, hms⟩ := hx.message
  dsimp only at hms ⊢
  obtain ⟨px, cx, rfl⟩ := hms.form
  obtain ⟨W7, hW7⟩ : ∃ W7, W7 = (((w.alloc (.cells #[c0, c1, c2, c3, c4] 43)).alloc (.cells #[.int .i64 b.agency, d1, d2, .int .i64 b.sent, d4, .int .i64 b.cash] 36)).alloc (.cells #[.int .i64 mf, .int .i64 md, .int .i64 mn, .int .i64 ms, .slice px l.length cx] 74)).alloc (.cells #[.int .i64 0, .slice none 0 0, .slice none 0 0, .int .i64 0, .slice none 0 0, .int .i64 0] 36) := ⟨_, rfl⟩
  have hS : Step w W7 := by subst hW7; exact (by repeat (first | (with_reducible assumption) | (with_reducible exact Step.refl _) | (with_reducible apply Step.s_alloc) | (with_reducible apply Step.s_drew) | (with_reducible apply Step.s_drewN) | (with_reducible refine Step.trans ?_ (by with_reducible assumption))))
  have hb2 : Bx W7 (w.heap.size + 2) [.int .i64 mf, .int .i64 md, .int .i64 mn, .int .i64 ms, .slice px l.length cx] 74 := by subst hW7; exact (Bx.new' _ [_, _, _, _, _] _ _ (by simp)).alloc _
  have hb6 : Bx W7 (w.heap.size + 3) [.int .i64 0, .slice none 0 0, .slice none 0 0, .int .i64 0, .slice none 0 0, .int .i64 0] 36 := by subst hW7; exact Bx.new' _ _ _ _ (by simp)
  have hz7 : W7.heap.size = w.heap.size + 4 := by subst hW7; simp
  have hmf : ∀ (fn : Fn) (first cap : Array Value) (w : World), (Instr.makeFunc fn first cap).run Try.prog w = .ok (.func fn first cap) w := fun _ _ _ _ => rfl
  have hx8 : SL (fun j => w.heap.size ≤ j) W7 (.slice px l.length cx) l := (hms.weak fun j h1 h2 => by omega).keep (.of_step hS)
  have hcall := Lib.hid ((done_any S h b _ _ W7 73 #[.pointer (some ⟨w.heap.size + 2, 0, none⟩)] (Go.Proofs.enters_of Try.func73 (by kernel_rfl) rfl)
    (fun _ => False) (takeD h b ⟨mf, md, mn, ms, l⟩) (fun _ => True) ⟨_, rfl, Rep.keep (.of_step hS) hr0⟩ ⟨_, rfl, Rep.keep (.of_step hS) hq0⟩ (fun _ h => h.elim) (fun _ _ _ _ => trivial)
    (fun hck W base g hSW h1 h2 hD => (take1c_any hD (okDesk_of hck).1 mf md mn ms l _ _ (hb2.step hSW) ((hx8.keep (.of_step hSW)).weak fun j _ hj => by omega)).mono fun e w' he => he.do _)).mono fun e w' he => he.act (fun _ h => h))
  have HW := Lib.hid hW7
  have HS := Lib.hid hS
  have HB6 := Lib.hid hb6
  have HZ7 := Lib.hid hz7
  obtain ⟨p0, k0, rfl⟩ := h0.form
  obtain ⟨p1, k1, rfl⟩ := h1.form
  obtain ⟨p2, k2, rfl⟩ := h2.form
  obtain ⟨p3, k3, rfl⟩ := h3.form
  obtain ⟨p4, k4, rfl⟩ := h4.form
  obtain ⟨q1, m1, rfl⟩ := s1.form
  obtain ⟨q2, m2, rfl⟩ := s2.form
  obtain ⟨q4, m4, rfl⟩ := s4.form
  clear hW7 hS hb2 hb6 hz7 h0 h1 h2 h3 h4 s1 s2 s4 hr0 hq0 hms hx hx8
  go_enter Try.func37, Try.ntmps37
  go_wp2_with fail
  rw [← HW.out]
  clear HW
  refine hcall.out.mono ?_
  clear hcall
  rintro e w1 ⟨v', rfl, hv', hS1⟩
  obtain ⟨b1, b2, b4, rfl, t1, t2, t4⟩ := hv'.book
  obtain ⟨q1, m1, rfl⟩ := t1.form
  obtain ⟨q2, m2, rfl⟩ := t2.form
  obtain ⟨q4, m4, rfl⟩ := t4.form
  have HV := Lib.hid hv'
  have HS1 := Lib.hid hS1
  obtain ⟨f0, f1, f2, f3, f4, f5⟩ := cells6 (HB6.out.step HS1.out)
  have zf := (HB6.out.step HS1.out).frozen
  clear hv' hS1 t1 t2 t4
  go_wp2
  clear f0 f1 f2 f3 f4 f5 zf
  have hz7 := HZ7.out
  have b6 := set6 (HB6.out.step HS1.out) (.int .i64 (actR (doneR h b (takeD h b ⟨mf, md, mn, ms, l⟩))).1.agency) (.slice q1 (actR (doneR h b (takeD h b ⟨mf, md, mn, ms, l⟩))).1.seats.length m1) (.slice q2 (actR (doneR h b (takeD h b ⟨mf, md, mn, ms, l⟩))).1.off.length m2) (.int .i64 (actR (doneR h b (takeD h b ⟨mf, md, mn, ms, l⟩))).1.sent) (.slice q4 (actR (doneR h b (takeD h b ⟨mf, md, mn, ms, l⟩))).1.took.length m4) (.int .i64 (actR (doneR h b (takeD h b ⟨mf, md, mn, ms, l⟩))).1.cash)
  refine ret_struct2 (k := 6) rfl siBook rfl b6.1 rfl rfl ⟨_, rfl, (AV.keep (b6.2.keeps.mono fun j _ hj => ?_) HV.out).weak fun j _ hj => ?_, StepX.fresh (HS.out.trans HS1.out) b6.2 (fun j hj => by omega)⟩
  · unfold Old; omega
  · unfold Old at *; omega
end Go.Proofs.Ytbgfmikbhiblgaa
