/- Walks and plain laws, part s. -/
import Derived.Test.YtgpiieogiafdoaaGreatM0
import Derived.Test.YtgpiieogiafdoaaGreatM1
import Derived.Test.YtgpiieogiafdoaaGreatM4
import Derived.Test.YtgpiieogiafdoaaGreatMz
import Derived.Deep.CutBlock
set_option maxHeartbeats 16000000
set_option maxRecDepth 100000
namespace Go.Proofs.YtgpiieogiafdoaaGreat
set_option linter.unusedSimpArgs false
set_option linter.unusedVariables false
open Go.RowKit Go.BT
theorem rises_ge {l : List Int} (hr : Rises l l.length) (h0 : ∀ j ∈ l, 0 ≤ j) : ∀ i (hi : i < l.length), (i : Int) ≤ l[i]
 | 0, hi => by have := h0 _ (List.getElem_mem hi); omega
 | i + 1, hi => by
  have h1 := rises_ge hr h0 i (by omega)
  have h2 := hr i (by omega) (by omega)
  omega
theorem seats_len {h : House} {l : List Int} (hs : seatsB h l = true) (hz : sizeL h.sectors ≤ 100) : l.length ≤ 1000000 := by
 have h1 := seats_ok hs
 have h2 : Rises l l.length := rising_rise (z := sizeL h.sectors) (by rw [← seats_rising]; exact hs)
 have h3 := rises_ge h2 (fun j hj => (h1 j hj).1)
 by_cases e : l.length = 0
 ·omega
 ·have h4 := h3 (l.length - 1) (by omega)
  have h5 := (h1 _ (List.getElem_mem (show l.length - 1 < l.length by omega))).2
  omega
structure WT (W : Wd) : Prop where
 thin : ∀ i (hi : i < W.books.length), thinP W.books[i]
 seat : ∀ i (hi : i < W.msgs.length), W.msgs[i].seats.length ≤ 1000000
 bl : W.books.length ≤ 20
 ml : W.msgs.length ≤ 900
theorem WT.none : WT ⟨[], []⟩ := ⟨fun i hi => absurd hi (by simp), fun i hi => absurd hi (by simp), by simp, by simp⟩
theorem WT.at_ {h : House} (hv : valid h = true) (l : List ActT) {k : Nat} (hk : k ≤ 800) : WT (worldAt h l k) := by
 have ok := world_ok hv l k
 have hb := bounds_valid hv
 refine ⟨world_thin hv l k, fun i hi => ?_, ?_, ?_⟩
 ·exact seats_len (mess_parts (ok.msg _ (List.getElem_mem hi))).2 (by omega)
 ·have := ok.len; omega
 ·have := msgs_le hv l k; omega
theorem WT.book {W : Wd} (h : WT W) {i : Nat} (hi : i < W.books.length) {b : Book} (hb : thinP b) : WT ⟨W.books.set i b, W.msgs⟩ := by
 refine ⟨fun j hj => ?_, h.seat, by simp; exact h.bl, h.ml⟩
 simp only [List.getElem_set]
 split
 ·exact hb
 ·exact h.thin j (by simpa using hj)
theorem WT.mess {W : Wd} (h : WT W) {i : Nat} (hi : i < W.msgs.length) {m : BT.Message} (hm : m.seats.length ≤ 120) : WT ⟨W.books, W.msgs.set i m⟩ := by
 refine ⟨h.thin, fun j hj => ?_, h.bl, by simp; exact h.ml⟩
 simp only [List.getElem_set]
 split
 ·omega
 ·exact h.seat j (by simpa using hj)
theorem WT.more {W : Wd} (h : WT W) (hl : W.msgs.length ≤ 800) {m : BT.Message} (hm : m.seats.length ≤ 120) : WT ⟨W.books, W.msgs ++ [m]⟩ := by
 refine ⟨h.thin, fun j hj => ?_, h.bl, by simp; omega⟩
 by_cases e : j < W.msgs.length
 ·rw [List.getElem_append_left e]; exact h.seat j e
 ·rw [List.getElem_append_right (by omega)]
  simp at hj ⊢
  omega
theorem WT.less {W : Wd} (h : WT W) (k : Nat) : WT ⟨W.books.take k, W.msgs⟩ := by
 refine ⟨fun j hj => ?_, h.seat, by simp; have := h.bl; omega, h.ml⟩
 rw [List.getElem_take]
 exact h.thin j (by simp at hj; omega)
theorem _root_.Go.BT.SL.pref {α : Type} [Rep α] {S : Nat → Prop} {w : World} {p : Option Addr} {n c : Nat} {l : List α} (h : SL S w (.slice p n c) l) (k : Nat) (hk : k ≤ l.length) : SL S w (.slice p k c) (l.take k) := by
 obtain ⟨q, c', b, o, he, hc, hm, hp, ha⟩ := h
 injection he with e1 e2 e3
 subst e1 e3
 have hlk : (l.take k).length = k := by simp; omega
 refine ⟨p, c, b, o, by rw [hlk], by omega, by omega, fun h0 => hp (by omega), fun i hi => ?_⟩
 rw [List.getElem_take]
 exact ha i (by omega)
theorem u8_six {g : Int} (hw : (Lit.int .u8 g).wf = true) : ∃ r : Nat, r < 6 ∧ g.tmod 6 = r ∧ IntKind.u8.wrap (g.tmod 6) = r := by
 have h1 : IntKind.u8.min = 0 := rfl
 have h2 : IntKind.u8.max = 255 := rfl
 have h3 : 0 ≤ g ∧ g ≤ 255 := by simp [Lit.wf] at hw; omega
 have a := Int.tmod_nonneg 6 h3.1
 have b := Int.tmod_lt_of_pos g (show (0 : Int) < 6 by omega)
 obtain ⟨r, hr⟩ : ∃ r : Nat, g.tmod 6 = r := ⟨(g.tmod 6).toNat, by omega⟩
 refine ⟨r, by omega, hr, ?_⟩
 rw [hr]
 unfold IntKind.wrap
 have : r < 6 := by omega
 revert this
 rcases r with _ | _ | _ | _ | _ | _ | r <;> intro <;> first | decide | omega
def R2 (g : Nat) (w : World) (W : Wd) (pb : Option Addr) (cb : Nat) (pm : Option Addr) (cm : Nat) : Prop := Bx w g [.slice pb W.books.length cb, .slice pm W.msgs.length cm] 49 ∧ AV (fun _ => False) w (.agg #[.slice pb W.books.length cb, .slice pm W.msgs.length cm]) W
theorem R2.of {g : Nat} {w : World} {W : Wd} {pb pm : Option Addr} {bl cb ml cm : Nat} (hb : Bx w g [.slice pb bl cb, .slice pm ml cm] 49) (s0 : SL (fun _ => False) w (.slice pb bl cb) W.books) (s1 : SL (fun _ => False) w (.slice pm ml cm) W.msgs) : R2 g w W pb cb pm cm := by
 obtain ⟨p, c, e⟩ := s0.form
 obtain ⟨q, d, e'⟩ := s1.form
 injection e with _ e _
 injection e' with _ e' _
 subst e e'
 exact ⟨hb, _, rfl, _, _, rfl, s0, s1⟩
theorem sl0 {α : Type} [Rep α] {S : Nat → Prop} {w : World} {v : Value} {l : List α} (h : SL S w v l) : SL (fun _ => False) w v l := h.weak fun _ _ h => h.elim
theorem where_bad {h : House} {W : Wd} {s i : Int} (hb : worldB h W = false) : whereR h W s i = (0, 0, 1) ∧ soundB h W = false := by
 constructor
 ·unfold whereR; rw [if_pos hb]
 ·simp [soundB, hb]
theorem where_out {h : House} {W : Wd} {s i : Int} (hb : worldB h W = true) (hi : inB h s i = false) : whereR h W s i = (0, 0, 2) := by
 unfold whereR; rw [if_neg (by rw [hb]; decide), if_pos hi]
theorem where_in {h : House} {W : Wd} {s i : Int} (hb : worldB h W = true) (hi : inB h s i = true) : whereR h W s i = whereL (numsB (agsP W s i) W.books.length) (numsB (mgsP W s i) W.msgs.length) := by
 unfold whereR; rw [if_neg (by rw [hb]; decide), if_neg (by rw [hi]; decide)]
theorem where_none {a m : List Int} (h : a.length + m.length = 0) : whereL a m = (0, 0, 7) := by
 have h1 : a = [] := List.eq_nil_of_length_eq_zero (by omega)
 have h2 : m = [] := List.eq_nil_of_length_eq_zero (by omega)
 rw [h1, h2]; rfl
theorem where_book {a m : List Int} (h : 0 ≤ firstL a) : whereL a m = (firstL a, -1, 0) := by
 cases a with
 | nil => simp [firstL] at h
 | cons x t => rfl
theorem where_mess {a m : List Int} (ha : ∀ y ∈ a, 0 ≤ y) (h : ¬ 0 ≤ firstL a) (hl : ¬ a.length + m.length = 0) : whereL a m = (-1, firstL m, 0) ∧ firstL a = -1 := by
 cases a with
 | nil =>
  cases m with
  | nil => simp at hl
  | cons x t => exact ⟨rfl, rfl⟩
 | cons x t => have := ha x List.mem_cons_self; simp [firstL] at h; omega
theorem TicketWorlds_any (h : House) (l : List ActT) (b : Book) (m : BT.Message) (g1 g2 s i : Int) (v u x y : Value) (w : World) (hv : AV (fun _ => False) w v h) (hu : SL (fun _ => False) w u l) (hx : AV (fun _ => False) w x b) (hy : AV (fun _ => False) w y m) (wf1 : (Lit.int .u8 g1).wf = true) (wf2 : (Lit.int .u8 g2).wf = true) :
    Calls Tryz.prog 4 #[v, u, x, y, .int .u8 g1, .int .u8 g2, .int .i64 s, .int .i64 i] w fun e w' => e = .returned (.bool true) ∧ Step w w' := by
  obtain ⟨c0, c1, c2, c3, c4, rfl, h0, h1, h2, h3, h4⟩ := hv.house
  obtain ⟨p0, k0, rfl⟩ := h0.form
  obtain ⟨p1, k1, rfl⟩ := h1.form
  obtain ⟨p2, k2, rfl⟩ := h2.form
  obtain ⟨p3, k3, rfl⟩ := h3.form
  obtain ⟨p4, k4, rfl⟩ := h4.form
  obtain ⟨pu, ku, rfl⟩ := hu.form
  obtain ⟨d1, d2, d4, rfl, s1, s2, s4⟩ := hx.book
  obtain ⟨q1, n1, rfl⟩ := s1.form
  obtain ⟨q2, n2, rfl⟩ := s2.form
  obtain ⟨q4, n4, rfl⟩ := s4.form
  obtain ⟨d5, rfl, s5⟩ := hy.message
  obtain ⟨q5, n5, rfl⟩ := s5.form
  obtain ⟨W0, hW0⟩ : ∃ z9, z9 = ((w.alloc (.cells #[.slice p0 h.sectors.length k0, .slice p1 h.prices.length k1, .slice p2 h.dates.length k2, .slice p3 h.frm.length k3, .slice p4 h.holds.length k4] 26)).alloc (.cells #[.int .i64 b.agency, .slice q1 b.seats.length n1, .slice q2 b.off.length n2, .int .i64 b.sent, .slice q4 b.took.length n4, .int .i64 b.cash] 56)).alloc (.cells #[.int .i64 m.frm, .int .i64 m.dst, .int .i64 m.number, .int .i64 m.shw, .slice q5 m.seats.length n5] 58) := ⟨_, rfl⟩
  have hS : Step w W0 := by subst hW0; exact (by with_reducible repeat (first | assumption | exact Step.refl _ | apply Step.s_alloc | apply Step.s_drew | apply Step.s_drewN | refine Step.trans ?_ (by assumption)))
  have hb0 : Bx W0 w.heap.size [.slice p0 h.sectors.length k0, .slice p1 h.prices.length k1, .slice p2 h.dates.length k2, .slice p3 h.frm.length k3, .slice p4 h.holds.length k4] 26 := by subst hW0; exact ((Bx.new _ [_, _, _, _, _] _).alloc _).alloc _
  have hb1 : Bx W0 (w.heap.size + 1) [.int .i64 b.agency, .slice q1 b.seats.length n1, .slice q2 b.off.length n2, .int .i64 b.sent, .slice q4 b.took.length n4, .int .i64 b.cash] 56 := by subst hW0; exact (Bx.new' _ [_, _, _, _, _, _] _ _ (by simp)).alloc _
  have hb2 : Bx W0 (w.heap.size + 2) [.int .i64 m.frm, .int .i64 m.dst, .int .i64 m.number, .int .i64 m.shw, .slice q5 m.seats.length n5] 58 := by subst hW0; exact Bx.new' _ [_, _, _, _, _] _ _ (by simp)
  have hz0 : W0.heap.size = w.heap.size + 3 := by subst hW0; simp
  have HH := zH (hv.keep (.of_step hS))
  have HU := zH (hu.keep (.of_step hS))
  have HXB := zH ((hx.weak (T := fun j => w.heap.size ≤ j) fun j hj hs => by omega).keep (.of_step hS))
  have HXM := zH ((hy.weak (T := fun j => w.heap.size ≤ j) fun j hj hs => by omega).keep (.of_step hS))
  have HHO := zH (h4.keep (.of_step hS))
  have HS := zH hS
  have HB := zH hb0
  have HB1 := zH hb1
  have HB2 := zH hb2
  have HZ := zH hz0
  have HW := zH hW0
  have HG := zH (And.intro wf1 wf2)
  have HT := zH (Step.refl W0)
  clear hv hu hx hy hS hb0 hb1 hb2 hz0 hW0 h0 h1 h2 h3 h4 s1 s2 s4 s5 wf1 wf2
  go_enter Tryz.func4, Tryz.ntmps4
  go_upto_region 1 with (fail)
  rw [show w.heap.size + 1 + 1 = w.heap.size + 2 from rfl, ← HW.out]
  clear HW
  obtain ⟨e0, e1, e2, e3, e4⟩ := cells5 HB.out
  go_wp2_with fail
  refine (Few_any (fun _ => False) h _ _ HH.out).mono ?_
  rintro e wn ⟨rfl, hSn⟩
  have HT2 := zH (HT.out.trans hSn)
  clear hSn HT
  have HT := HT2
  clear HT2
  clear e0 e1 e2 e3 e4
  cases qf : few h with
  | false =>
    clear qf
    go_wp2_with fail
    refine (awake_any _).mono ?_
    rintro e wz ⟨rfl, hSz⟩
    go_wp2
    go_ret
    exact ⟨rfl, HS.out.trans (HT.out.trans hSz)⟩
  | true =>
  have HF := zH (fewB_of qf)
  clear qf
  go_wp2_with fail
  refine (acts_any (fun _ => False) l _ _ (HU.out.keep (.of_step HT.out))).mono ?_
  rintro e wn ⟨rfl, hSn⟩
  have HT2 := zH (HT.out.trans hSn)
  clear hSn HT
  have HT := HT2
  clear HT2
  cases qa : actsB l with
  | false =>
    clear qa
    go_wp2_with fail
    refine (awake_any _).mono ?_
    rintro e wz ⟨rfl, hSz⟩
    go_wp2
    go_ret
    exact ⟨rfl, HS.out.trans (HT.out.trans hSz)⟩
  | true =>
  have HAC := zH qa
  clear qa
  by_cases ql : l.length ≤ 40
  rotate_left
  · have hd : decide ((40 : Int) < (l.length : Int)) = true := by simp; omega
    clear ql
    go_wp2_with fail
    refine (awake_any _).mono ?_
    rintro e wz ⟨rfl, hSz⟩
    go_wp2
    go_ret
    exact ⟨rfl, HS.out.trans (HT.out.trans hSz)⟩
  have hd : decide ((40 : Int) < (l.length : Int)) = false := by simp; omega
  obtain ⟨f0, f1, f2, f3, f4, f5⟩ := cells6 (HB1.out.step HT.out)
  go_wp2_with fail
  refine (thin_any (fun _ => False) b _ _ ((av0 HXB.out).keep (.of_step HT.out))).mono ?_
  rintro e wn ⟨rfl, hSn⟩
  have HT2 := zH (HT.out.trans hSn)
  clear hSn HT
  have HT := HT2
  clear HT2
  clear f0 f1 f2 f3 f4 f5
  cases qt : thin b with
  | false =>
    clear qt
    go_wp2_with fail
    refine (awake_any _).mono ?_
    rintro e wz ⟨rfl, hSz⟩
    go_wp2
    go_ret
    exact ⟨rfl, HS.out.trans (HT.out.trans hSz)⟩
  | true =>
  have HTH := zH (thinP_of qt)
  clear qt
  obtain ⟨m0, m1, m2, m3, m4⟩ := cells5 (HB2.out.step HT.out)
  by_cases qm : m.seats.length ≤ 120
  rotate_left
  · have hd2 : decide ((120 : Int) < (m.seats.length : Int)) = true := by simp; omega
    clear qm
    go_wp2_with fail
    refine (awake_any _).mono ?_
    rintro e wz ⟨rfl, hSz⟩
    go_wp2
    go_ret
    exact ⟨rfl, HS.out.trans (HT.out.trans hSz)⟩
  have hd2 : decide ((120 : Int) < (m.seats.length : Int)) = false := by simp; omega
  have HQM := zH qm
  clear qm
  go_upto_region 3 with (fail)
  clear hd hd2 m0 m1 m2 m3 m4
  go_upto_region 4 with (fail)
  obtain ⟨g, hg⟩ : ∃ g, g = wn.heap.size := ⟨_, rfl⟩
  obtain ⟨W4, hW4⟩ : ∃ z9, z9 = wn.alloc (.cells #[.slice none 0 0, .slice none 0 0] 49) := ⟨_, rfl⟩
  have hb4 : Bx W4 g [.slice none 0 0, .slice none 0 0] 49 := by subst hW4 hg; exact Bx.new _ [_, _] _
  have hSn : Step wn W4 := by subst hW4; exact Step.alloc _ _
  have HG4 := zH (show w.heap.size + 3 ≤ g by have := HT.out.size; have := HZ.out; omega)
  rw [← hW4, ← hg]
  have HT2 := zH (HT.out.trans hSn)
  clear hSn HT
  have HT := HT2
  clear HT2
  have HB4 := zH hb4
  clear hb4 hW4 hg
  obtain ⟨e0, e1, e2, e3, e4⟩ := cells5 (HB.out.step HT.out)
  go_wp2_with fail
  refine (Right_any (fun _ => False) h _ _ (HH.out.keep (.of_step HT.out))).mono ?_
  rintro e wr ⟨rfl, hSn⟩
  have HB5 := zH (HB4.out.step hSn)
  have HT2 := zH (HT.out.trans hSn)
  clear hSn HT
  have HT := HT2
  clear HT2
  clear HB4 e0 e1 e2 e3 e4
  go_upto_if 51 with (fail)
  go_cut [52] (fun _ wx => ∃ (W : Wd) (pb : Option Addr) (cb : Nat) (pm : Option Addr) (cm : Nat), (Bx wx g [.slice pb W.books.length cb, .slice pm W.msgs.length cm] 49 ∧ WP (fun j => j < w.heap.size + 3 ∨ j = g) wx (.slice pb W.books.length cb) (.slice pm W.msgs.length cm) W) ∧ (WT W ∧ W.msgs.length ≤ 800) ∧ Step W0 wx)
  case first =>
   as_aux_lemma =>
    cases qv : valid h with
    | false =>
      clear qv
      go_wp2
      go_meet
      exact ⟨⟨[], []⟩, none, 0, none, 0, ⟨HB5.out, WP.nil _ _⟩, ⟨WT.none, by simp⟩, HT.out⟩
    | true =>
    have HV := zH qv
    clear qv
    obtain ⟨e0, e1, e2, e3, e4⟩ := cells5 (HB.out.step HT.out)
    go_wp2_with fail
    refine (RRun_own (fun _ => False) (fun _ => False) h l _ _ _ (HH.out.keep (.of_step HT.out)) (HU.out.keep (.of_step HT.out)) HV.out (fun i hi => by have := acts_seats HAC.out i hi; omega) (by omega)).mono ?_
    rintro e wq ⟨vw, ve, rfl, ⟨b0, b1, rfl, oo⟩, _, hSn⟩
    obtain ⟨pb, cb, rfl⟩ := oo.sl.1.form
    obtain ⟨pm, cm, rfl⟩ := oo.sl.2.form
    have hsz := HB5.out.lt
    have hsz2 := HT.out.size
    have hzz := HZ.out
    have HO := zH (oo.weak (T := fun j => j < w.heap.size + 3 ∨ j = g) fun j _ hj => by unfold Old; omega)
    have HB6 := zH (HB5.out.step hSn)
    have HT2 := zH (HT.out.trans hSn)
    clear hSn HT
    have HT := HT2
    clear HT2
    clear oo hsz hsz2 hzz HB5 e0 e1 e2 e3 e4
    go_wp2_with (refine wpl_store (v := .agg #[.slice pb (worldAt h l l.length).books.length cb, .slice pm (worldAt h l l.length).msgs.length cm]) rfl _ _ _ rfl rfl rfl HB6.out (by kernel_rfl) (by simp [Value.cells]) (by simp [Value.cells, Value.oneCell']) [.slice pb (worldAt h l l.length).books.length cb, .slice pm (worldAt h l l.length).msgs.length cm] rfl (fun w8 hb8 hw8 => ?_))
    go_meet
    have hk8 : Keeps (fun j => j < w.heap.size + 3 ∨ j = g) wq w8 := .wrote hw8 (.inr rfl)
    exact ⟨worldAt h l l.length, pb, cb, pm, cm, ⟨hb8, HO.out.keep hk8⟩, ⟨WT.at_ HV.out l (by omega), by have := msgs_le HV.out l l.length; omega⟩, Step.wrote HT.out hw8 (by have := HG4.out; have := HZ.out; omega)⟩
  case rest =>
  obtain ⟨W, pb, cb, pm, cm, ⟨hbx, hoo⟩, ⟨hwt, hml⟩, hT⟩ := hcut
  clear HT HB5
  have HT := zH hT
  have HBX := zH hbx
  have HO := zH hoo
  have HWT := zH (And.intro hwt hml)
  clear hbx hoo hwt hml hT
  obtain ⟨wz, hwz⟩ : ∃ z9, z9 = wc := ⟨_, rfl⟩
  subst hwz
  obtain ⟨r, hr6, hgr, hgt⟩ := u8_six HG.out.1
  have HGR := zH hgr
  clear hgr
  obtain ⟨y0, y1⟩ : _ ∧ _ := ⟨HBX.out.cell 0, HBX.out.cell 1⟩
  simp only [zD, zE] at y0 y1
  go_upto_block 0 with (fail)
  go_cut [98] (fun _ wx => ∃ (X : Wd) (pb : Option Addr) (cb : Nat) (pm : Option Addr) (cm : Nat), R2 g wx X pb cb pm cm ∧ WT X ∧ Step W0 wx)
  case first =>
    go_upto_region 6 with (fail)
    go_cut [58] (fun c wx => c = .bool (decide (r = 1) && decide (0 < W.books.length)) ∧ wx = wz)
    case first =>
      by_cases r1 : r = 1
      · have d1 : (g1.tmod 6 == 1) = true := by rw [HGR.out, r1]; rfl
        by_cases hb : 0 < W.books.length
        · have dB : decide ((0 : Int) < (W.books.length : Int)) = true := decide_eq_true (by omega)
          go_wp2
          go_meet
          exact ⟨by simp [r1, hb], rfl⟩
        · have dB : decide ((0 : Int) < (W.books.length : Int)) = false := decide_eq_false (by omega)
          go_wp2
          go_meet
          exact ⟨by simp [r1, hb], rfl⟩
      · have d1 : (g1.tmod 6 == 1) = false := by rw [HGR.out, beq_eq_false_iff_ne]; omega
        go_wp2
        go_meet
        exact ⟨by simp [r1], rfl⟩
    case rest =>
    obtain ⟨hc1, hc2⟩ := hcut
    subst hc2
    obtain ⟨q58, hq58⟩ : ∃ z9, z9 = (decide (r = 1) && decide (0 < W.books.length)) := ⟨_, rfl⟩
    rw [← hq58] at hc1
    subst hc1
    cases q58 with
    | true =>
     as_aux_lemma =>
      have hq := hq58.symm
      simp only [Bool.and_eq_true, decide_eq_true_eq] at hq
      obtain ⟨k, hk1, hk2, hk3, _, _⟩ := u8_mod HG.out.2 hq.2
      obtain ⟨gB, cap, csB, hvb, _, hbxB, hcsB, _, _⟩ := (HO.out.1.1).row_put hk2
      simp only [Value.slice.injEq] at hvb
      obtain ⟨hv1, _, hv3⟩ := hvb
      subst hv1 hv3
      have hrg : (0 : Int) ≤ (k : Int) ∧ (k : Int) < (W.books.length : Int) := by omega
      have hdv : ((W.books.length : Int) == 0) = false := by rw [beq_eq_false_iff_ne]; omega
      have hwi : IntKind.i64.wrap (k : Int) = (k : Int) := by have := HWT.out.1.bl; rw [IntKind.wrap_i64]; omega
      have hgi : IntKind.i64.wrap (g2.tmod (W.books.length : Int)) = (k : Int) := by rw [hk1]; exact hwi
      have hne : ¬ (W.books.length : Int) = 0 := by omega
      have hne2 : ¬ W.books.length = 0 := by omega
      have HK2 := zH hk2
      obtain ⟨f0, f1, f2, f3, f4, f5⟩ := cells6 (HB1.out.step HT.out)
      clear hq hq58 hbxB hcsB
      go_upto_region 7 with (fail)
      refine wp_region_seqM (fun c d v a w h => by cases d <;> exact h) (kdOf [] []) [0, 1, 0, 4, 0, 16, 48, 124, 0, 511, 1023] [0, 1, 2, 3, 4, 5, 6, 7, 8, 9] [10] (by kernel_rfl) (by kernel_rfl) (fun i T z hi hk => by simp [kdOf] at hk <;> (try (split at hk <;> cases hk))) ?_
      intro Wx hWx
      have y0 := (hWx).kc y0; have f0 := (hWx).kc f0; have f1 := (hWx).kc f1; have f2 := (hWx).kc f2; have f3 := (hWx).kc f3; have f4 := (hWx).kc f4; have f5 := (hWx).kc f5
      repeat ((first | (refine run_off rfl rfl (by rfl) ?_) | (refine run_chain_off rfl rfl (by rfl) (K0_mono _) ?_) | ((refine run_want rfl rfl (by rfl) ⟨?_, fun W hW => ?_, ?_⟩; rotate_left; (· (have d0 := hW.kc y0; have d1 := hW.kc f0; have d2 := hW.kc f1; have d3 := hW.kc f2; have d4 := hW.kc f3; have d5 := hW.kc f4; have d6 := hW.kc f5; go_simp; (try with_reducible rfl)))))); (try simp only [Act.put, zA, zB, zC]))
      clear y0 y1 f0 f1 f2 f3 f4 f5 hrg hdv hwi hgi hne hne2 hk1 hk3
      refine run_end (L := [_]) rfl (fun W6 hW6 => ?_)
      have HS6 := zH (hWx.trans hW6)
      have ho6 := ((HO.out.keep (.of_step HS6.out)).1.1.weak (T := fun j => j = g ∨ (Value.slice pm W.msgs.length cm).ownBlock = some j) (fun j _ hj => hj.elim (fun e => .inl (.inr e)) .inr))
      obtain ⟨gB', cap', csB, hvb, _, hbxB, hcsB, _, hput⟩ := ho6.row_put HK2.out
      simp only [Value.slice.injEq, Option.some.injEq, Addr.mk.injEq, and_true, true_and] at hvb
      obtain ⟨hv1, hv3⟩ := hvb
      subst hv1 hv3
      have hnS := HO.out.1.2 gB rfl
      have hg4 := HG4.out
      have hrep : Rep.rep (avoid (fun j => j = g ∨ (Value.slice pm W.msgs.length cm).ownBlock = some j) (.slice (some ⟨gB, 0, none⟩) W.books.length cb)) W6 [.int .i64 b.agency, .slice q1 b.seats.length n1, .slice q2 b.off.length n2, .int .i64 b.sent, .slice q4 b.took.length n4, .int .i64 b.cash] b := Rep.weak (fun j hj e => by
        rcases e with (e | e) | e
        · show w.heap.size ≤ j; omega
        · have := HO.out.2.2 j e
          show w.heap.size ≤ j; omega
        · simp only [Value.ownBlock, Option.some.injEq] at e
          show w.heap.size ≤ j; omega) (rep_of (l := [.int .i64 b.agency, .slice q1 b.seats.length n1, .slice q2 b.off.length n2, .int .i64 b.sent, .slice q4 b.took.length n4, .int .i64 b.cash]) (HXB.out.keep (.of_step (HT.out.trans HS6.out))))
      refine wpl_store (v := .agg #[.int .i64 b.agency, .slice q1 b.seats.length n1, .slice q2 b.off.length n2, .int .i64 b.sent, .slice q4 b.took.length n4, .int .i64 b.cash]) rfl _ _ _ rfl rfl rfl hbxB (by kernel_rfl) (by simp [Value.cells]; exact hcsB) (by simp [Value.cells, Value.oneCell']) (csB.take (k * 6) ++ [.int .i64 b.agency, .slice q1 b.seats.length n1, .slice q2 b.off.length n2, .int .i64 b.sent, .slice q4 b.took.length n4, .int .i64 b.cash] ++ csB.drop (k * 6 + 6)) rfl (fun w8 hb8 hw8 => ?_)
      have HO8 := zH (hput w8 _ b hrep hw8 hb8)
      have hng : ¬ g = gB := by omega
      have HB8 := zH ((HBX.out.step HS6.out).keep hw8.keeps hng)
      have HM8 := zH (((HO.out.keep (.of_step HS6.out)).2.sl).keep (.wrote hw8 (.inr rfl)))
      have HS8 := zH (Step.wrote (HT.out.trans HS6.out) hw8 (by have := HZ.out; omega))
      have HP8 := zH (show SL (fun _ => False) w8 (.slice (some ⟨gB, 0, none⟩) W.books.length cb) (W.books.set k b) from (HO8.out.weak (T := fun _ => False) fun _ _ h => h.elim).slb fun _ _ h => h)
      clear ho6 hbxB hcsB hput hrep hb8 hw8 hW6 hWx
      go_wp2
      go_meet
      have hr2 : R2 g w8 ⟨W.books.set k b, W.msgs⟩ (some ⟨gB, 0, none⟩) cb pm cm := R2.of (bl := W.books.length) (ml := W.msgs.length) HB8.out HP8.out (sl0 HM8.out)
      have hw2 := HWT.out.1.book HK2.out HTH.out
      exact ⟨⟨W.books.set k b, W.msgs⟩, some ⟨gB, 0, none⟩, cb, pm, cm, hr2, hw2, HS8.out⟩
    | false =>
    have hnb := hq58.symm
    simp only [Bool.and_eq_false_iff, decide_eq_false_iff_not] at hnb
    by_cases r2 : r = 2
    · have d2 : (g1.tmod 6 == 2) = true := by rw [HGR.out, r2]; rfl
      have d3 : (g1.tmod 6 == 3) = false := by rw [HGR.out, beq_eq_false_iff_ne]; omega
      have d4 : (g1.tmod 6 == 4) = false := by rw [HGR.out, beq_eq_false_iff_ne]; omega
      by_cases hm0 : 0 < W.msgs.length
      · as_aux_lemma =>
        have dM : decide ((0 : Int) < (W.msgs.length : Int)) = true := decide_eq_true (by omega)
        obtain ⟨k, hk1, hk2, hk3, _, _⟩ := u8_mod HG.out.2 hm0
        obtain ⟨gB, cap, csB, hvb, _, hbxB, hcsB, _, _⟩ := (HO.out.2.1).row_put hk2
        simp only [Value.slice.injEq] at hvb
        obtain ⟨hv1, _, hv3⟩ := hvb
        subst hv1 hv3
        have hrg : (0 : Int) ≤ (k : Int) ∧ (k : Int) < (W.msgs.length : Int) := by omega
        have hdv : ((W.msgs.length : Int) == 0) = false := by rw [beq_eq_false_iff_ne]; omega
        have hwi : IntKind.i64.wrap (k : Int) = (k : Int) := by have := HWT.out.1.ml; rw [IntKind.wrap_i64]; omega
        have hgi : IntKind.i64.wrap (g2.tmod (W.msgs.length : Int)) = (k : Int) := by rw [hk1]; exact hwi
        have hne : ¬ (W.msgs.length : Int) = 0 := by omega
        have hne2 : ¬ W.msgs.length = 0 := by omega
        have HK2 := zH hk2
        obtain ⟨f0, f1, f2, f3, f4⟩ := cells5 (HB2.out.step HT.out)
        clear hnb hq58 hbxB hcsB r2
        go_upto_region 9 with (fail)
        clear d2 d3 d4 dM
        refine wp_region_seqM (fun c d v a w h => by cases d <;> exact h) (kdOf [] []) [0, 1, 0, 4, 0, 16, 48, 124, 0, 511, 1023] [0, 1, 2, 3, 4, 5, 6, 7, 8, 9] [10] (by kernel_rfl) (by kernel_rfl) (fun i T z hi hk => by simp [kdOf] at hk <;> (try (split at hk <;> cases hk))) ?_
        intro Wx hWx
        have y1 := (hWx).kc y1; have f0 := (hWx).kc f0; have f1 := (hWx).kc f1; have f2 := (hWx).kc f2; have f3 := (hWx).kc f3; have f4 := (hWx).kc f4
        repeat ((first | (refine run_off rfl rfl (by rfl) ?_) | (refine run_chain_off rfl rfl (by rfl) (K0_mono _) ?_) | ((refine run_want rfl rfl (by rfl) ⟨?_, fun W hW => ?_, ?_⟩; rotate_left; (· (have d0 := hW.kc y1; have d1 := hW.kc f0; have d2 := hW.kc f1; have d3 := hW.kc f2; have d4 := hW.kc f3; have d5 := hW.kc f4; go_simp; (try with_reducible rfl)))))); (try simp only [Act.put, zA, zB, zC]))
        clear y0 y1 f0 f1 f2 f3 f4 hrg hdv hwi hgi hne hne2 hk1 hk3
        refine run_end (L := [_]) rfl (fun W6 hW6 => ?_)
        have HS6 := zH (hWx.trans hW6)
        have ho6 := ((HO.out.keep (.of_step HS6.out)).2.1.weak (T := fun j => j = g ∨ (Value.slice pb W.books.length cb).ownBlock = some j) (fun j _ hj => hj.elim (fun e => .inl (.inr e)) .inr))
        obtain ⟨gB', cap', csB, hvb, _, hbxB, hcsB, _, hput⟩ := ho6.row_put HK2.out
        simp only [Value.slice.injEq, Option.some.injEq, Addr.mk.injEq, and_true, true_and] at hvb
        obtain ⟨hv1, hv3⟩ := hvb
        subst hv1 hv3
        have hnS := HO.out.2.2 gB rfl
        have hg4 := HG4.out
        have hrep : Rep.rep (avoid (fun j => j = g ∨ (Value.slice pb W.books.length cb).ownBlock = some j) (.slice (some ⟨gB, 0, none⟩) W.msgs.length cm)) W6 [.int .i64 m.frm, .int .i64 m.dst, .int .i64 m.number, .int .i64 m.shw, .slice q5 m.seats.length n5] m := Rep.weak (fun j hj e => by
          rcases e with (e | e) | e
          · show w.heap.size ≤ j; omega
          · have := HO.out.1.2 j e
            show w.heap.size ≤ j; omega
          · simp only [Value.ownBlock, Option.some.injEq] at e
            show w.heap.size ≤ j; omega) (rep_of (l := [.int .i64 m.frm, .int .i64 m.dst, .int .i64 m.number, .int .i64 m.shw, .slice q5 m.seats.length n5]) (HXM.out.keep (.of_step (HT.out.trans HS6.out))))
        refine wpl_store (v := .agg #[.int .i64 m.frm, .int .i64 m.dst, .int .i64 m.number, .int .i64 m.shw, .slice q5 m.seats.length n5]) rfl _ _ _ rfl rfl rfl hbxB (by kernel_rfl) (by simp [Value.cells]; exact hcsB) (by simp [Value.cells, Value.oneCell']) (csB.take (k * 5) ++ [.int .i64 m.frm, .int .i64 m.dst, .int .i64 m.number, .int .i64 m.shw, .slice q5 m.seats.length n5] ++ csB.drop (k * 5 + 5)) rfl (fun w8 hb8 hw8 => ?_)
        have HO8 := zH (hput w8 _ m hrep hw8 hb8)
        have hng : ¬ g = gB := by omega
        have HB8 := zH ((HBX.out.step HS6.out).keep hw8.keeps hng)
        have HM8 := zH (((HO.out.keep (.of_step HS6.out)).1.sl).keep (.wrote hw8 (.inr rfl)))
        have HS8 := zH (Step.wrote (HT.out.trans HS6.out) hw8 (by have := HZ.out; omega))
        have HP8 := zH (show SL (fun _ => False) w8 (.slice (some ⟨gB, 0, none⟩) W.msgs.length cm) (W.msgs.set k m) from (HO8.out.weak (T := fun _ => False) fun _ _ h => h.elim).slb fun _ _ h => h)
        clear ho6 hbxB hcsB hput hrep hb8 hw8 hW6 hWx
        go_wp2
        go_meet
        have hr2 : R2 g w8 ⟨W.books, W.msgs.set k m⟩ pb cb (some ⟨gB, 0, none⟩) cm := R2.of (bl := W.books.length) (ml := W.msgs.length) HB8.out (sl0 HM8.out) HP8.out
        have hw2 := HWT.out.1.mess HK2.out HQM.out
        exact ⟨⟨W.books, W.msgs.set k m⟩, pb, cb, some ⟨gB, 0, none⟩, cm, hr2, hw2, HS8.out⟩
      · as_aux_lemma =>
        have dM : decide ((0 : Int) < (W.msgs.length : Int)) = false := decide_eq_false (by omega)
        clear hnb hq58 r2
        go_wp2
        go_meet
        exact ⟨W, pb, cb, pm, cm, R2.of HBX.out (sl0 HO.out.sl.1) (sl0 HO.out.sl.2), HWT.out.1, HT.out⟩
    · have d2 : (g1.tmod 6 == 2) = false := by rw [HGR.out, beq_eq_false_iff_ne]; omega
      by_cases r3 : r = 3
      · as_aux_lemma =>
        have d3 : (g1.tmod 6 == 3) = true := by rw [HGR.out, r3]; rfl
        obtain ⟨f0, f1, f2, f3, f4⟩ := cells5 (HB2.out.step HT.out)
        clear hnb hq58 r2 r3
        go_upto_region 11 with (fail)
        clear d2 d3
        have ho6 := (HO.out.2.1.weak (T := fun j => j = g ∨ (Value.slice pb W.books.length cb).ownBlock = some j) (fun j _ hj => hj.elim (fun e => .inl (.inr e)) .inr))
        have hg4 := HG4.out
        have hrep : Rep.rep (avoid (fun j => j = g ∨ (Value.slice pb W.books.length cb).ownBlock = some j) (.slice pm W.msgs.length cm)) wc [.int .i64 m.frm, .int .i64 m.dst, .int .i64 m.number, .int .i64 m.shw, .slice q5 m.seats.length n5] m := Rep.weak (fun j hj e => by
          rcases e with (e | e) | e
          · show w.heap.size ≤ j; omega
          · have := HO.out.1.2 j e
            show w.heap.size ≤ j; omega
          · have := HO.out.2.2 j e
            show w.heap.size ≤ j; omega) (rep_of (l := [.int .i64 m.frm, .int .i64 m.dst, .int .i64 m.number, .int .i64 m.shw, .slice q5 m.seats.length n5]) (HXM.out.keep (.of_step HT.out)))
        have hu := SLe.one 58 hrep
        have hst := Step.alloc wc (.cells #[.int .i64 m.frm, .int .i64 m.dst, .int .i64 m.number, .int .i64 m.shw, .slice q5 m.seats.length n5] 58)
        have hml := HWT.out.2
        have HO6 := zH (ho6.step hst)
        have HU6 := zH hu
        clear ho6 hrep hu
        go_wp2_with (at_builtin; refine wpl_append_F (α := BT.Message) (S := fun j => j = g ∨ (Value.slice pb W.books.length cb).ownBlock = some j) (base := 0) (v := .slice pm W.msgs.length cm) (l := W.msgs) (m := [m]) eiRefMess rfl _ _ rfl rfl rfl HO6.out HU6.out (W.msgs.length + 1) (by simp) (W.msgs ++ [m]) rfl (by simp only [maxLen]; omega) (by omega) (Nat.zero_le _) ?_)
        intro p9 c9 w9 hown9 hg9 hf9
        have hng : ¬ (Value.slice pm W.msgs.length cm).ownBlock = some g := fun e => HO.out.2.2 g e (.inl (.inr rfl))
        have hb9 := (HBX.out.step hst).keep (S := fun j => (Value.slice pm W.msgs.length cm).ownBlock = some j) (.grown hg9 fun j hj _ => hj) hng
        have hm9 := (HO.out.1.sl.keep (.of_step hst)).keep (.grown hg9 fun j hj _ => .inr hj)
        have hs9 : Step W0 w9 := StepX.fresh (HT.out.trans hst) (StepX.grown (X := fun j => (Value.slice pm W.msgs.length cm).ownBlock = some j) hg9 fun j hj _ => hj) (fun j hj => by have := HO.out.2.2 j hj; have := HZ.out; omega)
        have z1 := hb9.cell 1
        have f9 := hb9.frozen 1
        simp only [zD, zE] at z1
        have HB9 := zH hb9
        have HO9 := zH (show SL (fun j => j = g) w9 (.slice p9 (W.msgs.length + 1) c9) (W.msgs ++ [m]) from (hown9.weak (T := fun j => j = g) fun j _ e => .inl e).slb fun q hq e => by
          subst e
          rcases hf9 q hq with e | e
          · exact hng e
          · have := HBX.out.lt; omega)
        have HM9 := zH hm9
        have HS9 := zH hs9
        clear hng hb9 hm9 hs9 hg9 hst hown9 hf9
        go_wp2
        go_meet
        have hr2 : R2 g (w9.setCell ⟨g, 1, none⟩ (.slice p9 (W.msgs.length + 1) c9)) ⟨W.books, W.msgs ++ [m]⟩ pb cb p9 c9 := R2.of (bl := W.books.length) (ml := W.msgs.length + 1) (HB9.out.setCell 1 _) (sl0 (HM9.out.keep (.wrote (.setCell _ _ _ _) (.inl (.inr rfl))))) (sl0 (HO9.out.keep (Keeps.wrote (S := fun j => j = g) (Wrote.setCell w9 g 1 (.slice p9 (W.msgs.length + 1) c9)) rfl)))
        have hw2 := HWT.out.1.more HWT.out.2 HQM.out
        have hs2 := HS9.out.setNew ⟨g, 1, none⟩ (.slice p9 (W.msgs.length + 1) c9) (by show _ ≤ g; have := HZ.out; omega)
        exact ⟨⟨W.books, W.msgs ++ [m]⟩, pb, cb, p9, c9, hr2, hw2, hs2⟩
      · have d3 : (g1.tmod 6 == 3) = false := by rw [HGR.out, beq_eq_false_iff_ne]; omega
        by_cases r4 : r = 4
        · have d4 : (g1.tmod 6 == 4) = true := by rw [HGR.out, r4]; rfl
          by_cases hb : 0 < W.books.length
          · as_aux_lemma =>
            have dB : decide ((0 : Int) < (W.books.length : Int)) = true := decide_eq_true (by omega)
            have f0 := HBX.out.frozen 0
            have hbl := HWT.out.1.bl
            have hl1 : IntKind.i64.wrap ((W.books.length : Int) - 1) = (W.books.length : Int) - 1 := by rw [IntKind.wrap_i64]; omega
            clear hnb hq58 r2 r3 r4
            go_upto_region 13 with (fail)
            clear d2 d3 d4 dB
            obtain ⟨pc9, cc9, bb9, bo9, he9, hle9, _, hp9, _, _⟩ := HO.out.sl.1.books
            injection he9 with he91 he92 he93
            subst he91 he93
            obtain rfl := hp9 hb
            clear he92 hp9
            have hlo : (0 : Int) ≤ (W.books.length : Int) - 1 := by omega
            have hhi : (W.books.length : Int) - 1 ≤ (cb : Int) := by omega
            have htn : ((W.books.length : Int) - 1).toNat = W.books.length - 1 := by omega
            go_wp2
            go_meet
            have hkw : Keeps (fun j => j < w.heap.size + 3 ∨ j = g) wc (wc.setCell ⟨g, 0, none⟩ (.slice (some ⟨bb9, bo9, none⟩) (W.books.length - 1) cb)) := .wrote (.setCell _ _ _ _) (.inr rfl)
            have hs0 : SL (fun _ => False) (wc.setCell ⟨g, 0, none⟩ (.slice (some ⟨bb9, bo9, none⟩) (W.books.length - 1) cb)) (.slice (some ⟨bb9, bo9, none⟩) (W.books.length - 1) cb) (W.books.take (W.books.length - 1)) := sl0 ((HO.out.sl.1.pref (W.books.length - 1) (by omega)).keep hkw)
            have hs1 : SL (fun _ => False) (wc.setCell ⟨g, 0, none⟩ (.slice (some ⟨bb9, bo9, none⟩) (W.books.length - 1) cb)) (.slice pm W.msgs.length cm) W.msgs := sl0 (HO.out.sl.2.keep hkw)
            have hr2 : R2 g (wc.setCell ⟨g, 0, none⟩ (.slice (some ⟨bb9, bo9, none⟩) (W.books.length - 1) cb)) ⟨W.books.take (W.books.length - 1), W.msgs⟩ (some ⟨bb9, bo9, none⟩) cb pm cm := R2.of (bl := W.books.length - 1) (ml := W.msgs.length) (HBX.out.setCell 0 _) hs0 hs1
            have hw2 := HWT.out.1.less (W.books.length - 1)
            have hst := HT.out.setNew ⟨g, 0, none⟩ (.slice (some ⟨bb9, bo9, none⟩) (W.books.length - 1) cb) (by show _ ≤ g; have h1 := HZ.out; have h2 := HG4.out; omega)
            exact ⟨⟨W.books.take (W.books.length - 1), W.msgs⟩, some ⟨bb9, bo9, none⟩, cb, pm, cm, hr2, hw2, hst⟩
          · as_aux_lemma =>
            have dB : decide ((0 : Int) < (W.books.length : Int)) = false := decide_eq_false (by omega)
            clear hnb hq58 r2 r3 r4
            go_wp2
            go_meet
            exact ⟨W, pb, cb, pm, cm, R2.of HBX.out (sl0 HO.out.sl.1) (sl0 HO.out.sl.2), HWT.out.1, HT.out⟩
        · as_aux_lemma =>
          have d4 : (g1.tmod 6 == 4) = false := by rw [HGR.out, beq_eq_false_iff_ne]; omega
          clear hnb hq58 r2 r3 r4
          go_wp2
          go_meet
          exact ⟨W, pb, cb, pm, cm, R2.of HBX.out (sl0 HO.out.sl.1) (sl0 HO.out.sl.2), HWT.out.1, HT.out⟩
  case rest =>
  as_aux_lemma =>
  obtain ⟨X, xb, xc, xm, xd, hR, hwt, hT⟩ := hcut
  clear HT HBX HO HWT
  have HT := zH hT
  have HBX := zH hR.1
  have HVX := zH hR.2
  have HWT := zH hwt
  clear hR hwt hT
  obtain ⟨e0, e1, e2, e3, e4⟩ := cells5 (HB.out.step HT.out)
  obtain ⟨y0, y1⟩ : _ ∧ _ := ⟨HBX.out.cell 0, HBX.out.cell 1⟩
  simp only [zD, zE] at y0 y1
  go_upto_region 14 with (fail)
  refine wp_region_seqM (fun c d v a w h => by cases d <;> exact h) (kdOf [1, 3, 6] []) [0, 1, 0, 7, 0, 0, 63, 127, 255, 255, 255, 511, 3071, 8191] [0, 2, 4, 5, 1, 3, 6, 7, 8, 9, 10, 11, 12, 13] [] (by kernel_rfl) (by kernel_rfl) (fun i T z hi hk => by simp [kdOf] at hk <;> (try (split at hk <;> cases hk))) ?_
  intro Wx hWx
  have e0 := (hWx).kc e0; have e1 := (hWx).kc e1; have e2 := (hWx).kc e2; have e3 := (hWx).kc e3; have e4 := (hWx).kc e4; have y0 := (hWx).kc y0; have y1 := (hWx).kc y1
  repeat ((first | (refine run_off rfl rfl (by rfl) ?_) | (refine run_chain_off rfl rfl (by rfl) (K0_mono _) ?_) | ((refine run_want rfl rfl (by rfl) ⟨?_, fun W hW => ?_, ?_⟩; rotate_left; (· (have d0 := hW.kc e0; have d1 := hW.kc e1; have d2 := hW.kc e2; have d3 := hW.kc e3; have d4 := hW.kc e4; have d5 := hW.kc y0; have d6 := hW.kc y1; go_simp; (try with_reducible rfl)))))); (try simp only [Act.put, zA, zB, zC]))
  refine run_chain rfl rfl (by rfl) (fun Wi hWi K' hK => ?_)
  have HTi := zH (hWx.trans hWi)
  clear hWx
  go_simp
  refine (House_any _ h _ _ (HH.out.keep (.of_step (HT.out.trans HTi.out))) HF.out).mono ?_
  rintro e wn ⟨vh, rfl, hvh, hSn⟩
  have HVH := zH (AV.triv hvh)
  have HTn := zH (HTi.out.trans hSn)
  refine hK _ _ (StepX.of hSn) ?_
  have e0 := (hWi.trans hSn).kc e0; have e1 := (hWi.trans hSn).kc e1; have e2 := (hWi.trans hSn).kc e2; have e3 := (hWi.trans hSn).kc e3; have e4 := (hWi.trans hSn).kc e4; have y0 := (hWi.trans hSn).kc y0; have y1 := (hWi.trans hSn).kc y1
  clear hSn hK HTi hWi hvh
  (try simp only [Act.put, zA, zB, zC])
  repeat ((first | (refine run_off rfl rfl (by rfl) ?_) | (refine run_chain_off rfl rfl (by rfl) (K0_mono _) ?_) | ((refine run_want rfl rfl (by rfl) ⟨?_, fun W hW => ?_, ?_⟩; rotate_left; (· (have d0 := hW.kc e0; have d1 := hW.kc e1; have d2 := hW.kc e2; have d3 := hW.kc e3; have d4 := hW.kc e4; have d5 := hW.kc y0; have d6 := hW.kc y1; go_simp; (try with_reducible rfl)))))); (try simp only [Act.put, zA, zB, zC]))
  refine run_chain rfl rfl (by rfl) (fun Wi hWi K' hK => ?_)
  have HTi := zH (HTn.out.trans hWi)
  clear HTn
  go_simp
  refine (WorldL_any _ X _ _ (HVX.out.keep (.of_step HTi.out)) HWT.out.thin HWT.out.seat (by have := HWT.out.bl; omega) (by have := HWT.out.ml; omega)).mono ?_
  rintro e wn2 ⟨vw, rfl, hvw, hSn⟩
  have HVW := zH (AV.triv hvw)
  have HTn := zH (HTi.out.trans hSn)
  have HT4 := zH (hWi.trans hSn)
  refine hK _ _ (StepX.of hSn) ?_
  clear hSn hK HTi hWi hvw e0 e1 e2 e3 e4 y0 y1
  (try simp only [Act.put, zA, zB, zC])
  repeat ((first | (refine run_off rfl rfl (by rfl) ?_) | (refine run_chain_off rfl rfl (by rfl) (K0_mono _) ?_) | ((refine run_want rfl rfl (by rfl) ⟨?_, fun W hW => ?_, ?_⟩; rotate_left; (· (skip; go_simp; (try with_reducible rfl)))))); (try simp only [Act.put, zA, zB, zC]))
  refine run_chain rfl rfl (by rfl) (fun Wi hWi K' hK => ?_)
  have HTi := zH (HTn.out.trans hWi)
  replace HT4 := zH (HT4.out.trans hWi)
  clear HTn
  go_simp
  refine (Where_any _ _ h X s i _ _ _ (HVH.out.keep (.of_step HT4.out)) (HVW.out.keep (.of_step hWi)) (by have := HWT.out.ml; omega)).mono ?_
  rintro e wn3 ⟨rfl, hSn⟩
  obtain ⟨R, hR⟩ : ∃ R, R = whereR h X s i := ⟨_, rfl⟩
  rw [← hR]
  have HR := zH hR
  clear hR
  refine hK _ _ (StepX.of hSn) ?_
  have HTn := zH (HTi.out.trans hSn)
  clear hSn hK HTi hWi HVH HVW HT4
  (try simp only [Act.put, zA, zB, zC])
  repeat ((first | (refine run_off rfl rfl (by rfl) ?_) | (refine run_chain_off rfl rfl (by rfl) (K0_mono _) ?_) | ((refine run_want rfl rfl (by rfl) ⟨?_, fun W hW => ?_, ?_⟩; rotate_left; (· (skip; go_simp; (try with_reducible rfl)))))); (try simp only [Act.put, zA, zB, zC]))
  refine run_end (L := []) rfl (fun Wb hWb => ?_)
  have hstq := HTn.out.trans hWb
  replace HBX := zH (HBX.out.step hstq)
  replace HVX := zH (HVX.out.keep (.of_step hstq))
  replace HT := zH (HT.out.trans hstq)
  clear hstq
  clear HTn hWb
  obtain ⟨e0, e1, e2, e3, e4⟩ := cells5 (HB.out.step HT.out)
  obtain ⟨y0, y1⟩ : _ ∧ _ := ⟨HBX.out.cell 0, HBX.out.cell 1⟩
  simp only [zD, zE] at y0 y1
  go_upto_region 15 with (fail)
  refine wp_region_seqM (fun c d v a w h => by cases d <;> exact h) (kdOf [1, 3, 4] []) [0, 1, 0, 7, 15, 31] [0, 2, 1, 3, 4, 5] [] (by kernel_rfl) (by kernel_rfl) (fun i T z hi hk => by simp [kdOf] at hk <;> (try (split at hk <;> cases hk))) ?_
  intro Wx hWx
  have e0 := (hWx).kc e0; have e1 := (hWx).kc e1; have e2 := (hWx).kc e2; have e3 := (hWx).kc e3; have e4 := (hWx).kc e4; have y0 := (hWx).kc y0; have y1 := (hWx).kc y1
  repeat ((first | (refine run_off rfl rfl (by rfl) ?_) | (refine run_chain_off rfl rfl (by rfl) (K0_mono _) ?_) | ((refine run_want rfl rfl (by rfl) ⟨?_, fun W hW => ?_, ?_⟩; rotate_left; (· (have d0 := hW.kc e0; have d1 := hW.kc e1; have d2 := hW.kc e2; have d3 := hW.kc e3; have d4 := hW.kc e4; have d5 := hW.kc y0; have d6 := hW.kc y1; go_simp; (try with_reducible rfl)))))); (try simp only [Act.put, zA, zB, zC]))
  refine run_chain rfl rfl (by rfl) (fun Wi hWi K' hK => ?_)
  have HTi := zH (hWx.trans hWi)
  clear hWx
  go_simp
  refine (House_any _ h _ _ (HH.out.keep (.of_step (HT.out.trans HTi.out))) HF.out).mono ?_
  rintro e wn ⟨vh, rfl, hvh, hSn⟩
  have HVH := zH (AV.triv hvh)
  have HTn := zH (HTi.out.trans hSn)
  refine hK _ _ (StepX.of hSn) ?_
  have e0 := (hWi.trans hSn).kc e0; have e1 := (hWi.trans hSn).kc e1; have e2 := (hWi.trans hSn).kc e2; have e3 := (hWi.trans hSn).kc e3; have e4 := (hWi.trans hSn).kc e4; have y0 := (hWi.trans hSn).kc y0; have y1 := (hWi.trans hSn).kc y1
  clear hSn hK HTi hWi hvh
  (try simp only [Act.put, zA, zB, zC])
  repeat ((first | (refine run_off rfl rfl (by rfl) ?_) | (refine run_chain_off rfl rfl (by rfl) (K0_mono _) ?_) | ((refine run_want rfl rfl (by rfl) ⟨?_, fun W hW => ?_, ?_⟩; rotate_left; (· (have d0 := hW.kc e0; have d1 := hW.kc e1; have d2 := hW.kc e2; have d3 := hW.kc e3; have d4 := hW.kc e4; have d5 := hW.kc y0; have d6 := hW.kc y1; go_simp; (try with_reducible rfl)))))); (try simp only [Act.put, zA, zB, zC]))
  refine run_chain rfl rfl (by rfl) (fun Wi hWi K' hK => ?_)
  have HTi := zH (HTn.out.trans hWi)
  clear HTn
  go_simp
  refine (WorldL_any _ X _ _ (HVX.out.keep (.of_step HTi.out)) HWT.out.thin HWT.out.seat (by have := HWT.out.bl; omega) (by have := HWT.out.ml; omega)).mono ?_
  rintro e wn2 ⟨vw, rfl, hvw, hSn⟩
  have HVW := zH (AV.triv hvw)
  have HTn := zH (HTi.out.trans hSn)
  have HT4 := zH (hWi.trans hSn)
  refine hK _ _ (StepX.of hSn) ?_
  clear hSn hK HTi hWi hvw e0 e1 e2 e3 e4 y0 y1
  (try simp only [Act.put, zA, zB, zC])
  repeat ((first | (refine run_off rfl rfl (by rfl) ?_) | (refine run_chain_off rfl rfl (by rfl) (K0_mono _) ?_) | ((refine run_want rfl rfl (by rfl) ⟨?_, fun W hW => ?_, ?_⟩; rotate_left; (· (skip; go_simp; (try with_reducible rfl)))))); (try simp only [Act.put, zA, zB, zC]))
  refine run_chain rfl rfl (by rfl) (fun Wi hWi K' hK => ?_)
  have HTi := zH (HTn.out.trans hWi)
  replace HT4 := zH (HT4.out.trans hWi)
  clear HTn
  go_simp
  refine (Sound_any _ _ h X _ _ _ (HVH.out.keep (.of_step HT4.out)) (HVW.out.keep (.of_step hWi)) (by have := HWT.out.ml; omega)).mono ?_
  rintro e wn3 ⟨rfl, hSn⟩
  obtain ⟨sd, hsd⟩ : ∃ sd, sd = soundB h X := ⟨_, rfl⟩
  rw [← hsd]
  have HSD := zH hsd
  clear hsd
  refine hK _ _ (StepX.of hSn) ?_
  have HTn := zH (HTi.out.trans hSn)
  clear hSn hK HTi hWi HVH HVW HT4
  (try simp only [Act.put, zA, zB, zC])
  repeat ((first | (refine run_off rfl rfl (by rfl) ?_) | (refine run_chain_off rfl rfl (by rfl) (K0_mono _) ?_) | ((refine run_want rfl rfl (by rfl) ⟨?_, fun W hW => ?_, ?_⟩; rotate_left; (· (skip; go_simp; (try with_reducible rfl)))))); (try simp only [Act.put, zA, zB, zC]))
  refine run_end (L := []) rfl (fun Wc hWc => ?_)
  have hstq := HTn.out.trans hWc
  replace HBX := zH (HBX.out.step hstq)
  replace HVX := zH (HVX.out.keep (.of_step hstq))
  replace HT := zH (HT.out.trans hstq)
  clear hstq
  clear HTn hWc
  obtain ⟨e0, e1, e2, e3, e4⟩ := cells5 (HB.out.step HT.out)
  obtain ⟨y0, y1⟩ : _ ∧ _ := ⟨HBX.out.cell 0, HBX.out.cell 1⟩
  simp only [zD, zE] at y0 y1
  go_wp2_with fail
  refine (Right_any (fun _ => False) h _ _ (HH.out.keep (.of_step HT.out))).mono ?_
  rintro e wn ⟨rfl, hSn⟩
  clear e0 e1 e2 e3 e4 y0 y1
  have hstq := hSn
  replace HBX := zH (HBX.out.step hstq)
  replace HVX := zH (HVX.out.keep (.of_step hstq))
  replace HT := zH (HT.out.trans hstq)
  clear hstq
  clear hSn
  cases qv : valid h with
  | false =>
    have hb : worldB h X = false := by simp [worldB, qv]
    have hw := where_bad (s := s) (i := i) hb
    have hR : R = (0, 0, 1) := by rw [HR.out, hw.1]
    have hD : sd = false := by rw [HSD.out, hw.2]
    subst hR hD
    clear qv hb hw
    dsimp only
    go_wp2_with fail
    refine (awake_any _).mono ?_
    rintro e wz ⟨rfl, hSz⟩
    go_wp2
    go_ret
    exact ⟨rfl, HS.out.trans (HT.out.trans hSz)⟩
  | true =>
  have HV := zH qv
  clear qv
  obtain ⟨e0, e1, e2, e3, e4⟩ := cells5 (HB.out.step HT.out)
  obtain ⟨y0, y1⟩ : _ ∧ _ := ⟨HBX.out.cell 0, HBX.out.cell 1⟩
  simp only [zD, zE] at y0 y1
  go_wp2_with fail
  refine (RightWorld_any (fun _ => False) (fun _ => False) h X _ _ _ (HH.out.keep (.of_step HT.out)) HVX.out HV.out).mono ?_
  rintro e wn ⟨rfl, hSn⟩
  clear e0 e1 e2 e3 e4 y0 y1
  have hstq := hSn
  replace HBX := zH (HBX.out.step hstq)
  replace HVX := zH (HVX.out.keep (.of_step hstq))
  replace HT := zH (HT.out.trans hstq)
  clear hstq
  clear hSn
  cases qw : worldB h X with
  | false =>
    have hw := where_bad (s := s) (i := i) qw
    have hR : R = (0, 0, 1) := by rw [HR.out, hw.1]
    have hD : sd = false := by rw [HSD.out, hw.2]
    subst hR hD
    clear qw hw
    dsimp only
    go_wp2_with fail
    refine (awake_any _).mono ?_
    rintro e wz ⟨rfl, hSz⟩
    go_wp2
    go_ret
    exact ⟨rfl, HS.out.trans (HT.out.trans hSz)⟩
  | true =>
  have HQ := zH qw
  clear qw
  obtain ⟨e0, e1, e2, e3, e4⟩ := cells5 (HB.out.step HT.out)
  obtain ⟨y0, y1⟩ : _ ∧ _ := ⟨HBX.out.cell 0, HBX.out.cell 1⟩
  simp only [zD, zE] at y0 y1
  go_wp2_with fail
  refine (RSound_any (fun _ => False) (fun _ => False) h X _ _ _ (HH.out.keep (.of_step HT.out)) HVX.out HV.out (by have := HWT.out.ml; omega)).mono ?_
  rintro e wn ⟨rfl, hSn⟩
  rw [← HSD.out]
  have d : (sd != sd) = false := by simp
  clear e0 e1 e2 e3 e4 y0 y1
  have hstq := hSn
  replace HBX := zH (HBX.out.step hstq)
  replace HVX := zH (HVX.out.keep (.of_step hstq))
  replace HT := zH (HT.out.trans hstq)
  clear hstq
  clear hSn
  obtain ⟨e0, e1, e2, e3, e4⟩ := cells5 (HB.out.step HT.out)
  obtain ⟨y0, y1⟩ : _ ∧ _ := ⟨HBX.out.cell 0, HBX.out.cell 1⟩
  simp only [zD, zE] at y0 y1
  have hbv := bounds_valid HV.out
  have hl1 : IntKind.i64.wrap ((h.dates.length : Int) - 1) = (h.dates.length : Int) - 1 := by rw [IntKind.wrap_i64]; omega
  have HBV := zH hbv
  clear hbv
  go_wp2_with fail
  refine (In_st _ _ _ _).mono ?_
  rintro e wn ⟨rfl, hSn⟩
  clear d hl1 e0 e1 e2 e3 e4 y0 y1
  have hstq := hSn
  replace HBX := zH (HBX.out.step hstq)
  replace HVX := zH (HVX.out.keep (.of_step hstq))
  replace HT := zH (HT.out.trans hstq)
  clear hstq
  clear hSn
  cases qs : withinB s 0 ((h.dates.length : Int) - 1) with
  | false =>
    have hi : inB h s i = false := by simp [inB, qs]
    have hR : R = (0, 0, 2) := by rw [HR.out, where_out HQ.out hi]
    subst hR
    clear qs hi
    dsimp only
    go_wp2_with fail
    refine (awake_any _).mono ?_
    rintro e wz ⟨rfl, hSz⟩
    go_wp2
    go_ret
    exact ⟨rfl, HS.out.trans (HT.out.trans hSz)⟩
  | true =>
  have hbv := HBV.out
  obtain ⟨pr, cr, rb, ro, hpe, _, _, hpr, hcr, _⟩ := (HHO.out.keep (.of_step HT.out)).rows
  injection hpe with hpe1 hpe2 hpe3
  clear hpe2 hpe3
  subst hpe1
  obtain rfl := hpr (by omega)
  obtain ⟨x0, hx0, hsx⟩ := hcr 0 (by omega)
  obtain ⟨px, cx, rfl⟩ := hsx.form
  obtain ⟨nz, hnz⟩ : ∃ n : Nat, sizeL h.sectors = n := ⟨(sizeL h.sectors).toNat, by omega⟩
  have hz1 : nz ≤ 100 := by omega
  have hz2 : (h.holds[0]'(by omega)).length = nz := by have := hbv.2.2.2.2.2.2.2.2.1 0 (by omega); omega
  rw [hz2] at hx0
  simp only [Nat.add_zero] at hx0
  have HNZ := zH hnz
  have hix0 : (0 : Int) < (h.holds.length : Int) := by omega
  have hl2 : IntKind.i64.wrap ((nz : Int) - 1) = (nz : Int) - 1 := by rw [IntKind.wrap_i64]; omega
  have HQS := zH qs
  clear hpr hcr hsx hz2 qs hbv hnz
  obtain ⟨e0, e1, e2, e3, e4⟩ := cells5 (HB.out.step HT.out)
  obtain ⟨y0, y1⟩ : _ ∧ _ := ⟨HBX.out.cell 0, HBX.out.cell 1⟩
  simp only [zD, zE] at y0 y1
  go_wp2_with fail
  refine (In_st _ _ _ _).mono ?_
  rintro e wn ⟨rfl, hSn⟩
  clear hix0 hl2 hx0 e0 e1 e2 e3 e4 y0 y1
  have hstq := hSn
  replace HBX := zH (HBX.out.step hstq)
  replace HVX := zH (HVX.out.keep (.of_step hstq))
  replace HT := zH (HT.out.trans hstq)
  clear hstq
  clear hSn
  cases qi : withinB i 0 ((nz : Int) - 1) with
  | false =>
    have hi : inB h s i = false := by simp only [inB, HQS.out, HNZ.out, qi]; rfl
    have hR : R = (0, 0, 2) := by rw [HR.out, where_out HQ.out hi]
    subst hR
    clear qi hi
    dsimp only
    go_wp2_with fail
    refine (awake_any _).mono ?_
    rintro e wz ⟨rfl, hSz⟩
    go_wp2
    go_ret
    exact ⟨rfl, HS.out.trans (HT.out.trans hSz)⟩
  | true =>
  have hi : inB h s i = true := by simp only [inB, HQS.out, HNZ.out, qi]; rfl
  have hR0 := HR.out
  rw [where_in HQ.out hi] at hR0
  have HR0 := zH hR0
  have hs0 := HQS.out
  simp only [withinB, decide_eq_true_eq] at hs0 qi
  obtain ⟨k, rfl⟩ : ∃ k : Nat, s = k := ⟨s.toNat, by omega⟩
  obtain ⟨j, rfl⟩ : ∃ j : Nat, i = j := ⟨i.toNat, by omega⟩
  have HKJ := zH (show k < h.dates.length ∧ (j : Int) < sizeL h.sectors by rw [HNZ.out]; omega)
  clear HR HQS hs0 qi hi hR0
  obtain ⟨e0, e1, e2, e3, e4⟩ := cells5 (HB.out.step HT.out)
  obtain ⟨y0, y1⟩ : _ ∧ _ := ⟨HBX.out.cell 0, HBX.out.cell 1⟩
  simp only [zD, zE] at y0 y1
  go_wp2_with fail
  refine (Places_any (fun _ => False) (fun _ => False) h X k j _ _ _ (HH.out.keep (.of_step HT.out)) HVX.out HQ.out HKJ.out.1 HKJ.out.2 (by have := HWT.out.ml; omega)).mono ?_
  rintro e wn ⟨rfl, hSn⟩
  clear e0 e1 e2 e3 e4 y0 y1
  have hstq := hSn
  replace HBX := zH (HBX.out.step hstq)
  replace HVX := zH (HVX.out.keep (.of_step hstq))
  replace HT := zH (HT.out.trans hstq)
  clear hstq
  clear hSn
  obtain ⟨la, hla⟩ : ∃ n, n = numsB (agsP X k j) X.books.length := ⟨_, rfl⟩
  obtain ⟨lm, hlm⟩ : ∃ n, n = numsB (mgsP X k j) X.msgs.length := ⟨_, rfl⟩
  have hnn : ∀ y ∈ la, 0 ≤ y := by rw [hla]; exact numsB_nn
  have hR0 := HR0.out
  clear HR0
  rw [← hla, ← hlm] at hR0 ⊢
  obtain ⟨fa, hfa⟩ : ∃ n, n = firstL la := ⟨_, rfl⟩
  obtain ⟨fm, hfm⟩ : ∃ n, n = firstL lm := ⟨_, rfl⟩
  obtain ⟨mn, hmn⟩ : ∃ n : Nat, n = la.length + lm.length := ⟨_, rfl⟩
  rw [← hfa, ← hfm, ← hmn]
  by_cases z0 : mn = 0
  · have d : ((mn : Int) == 0) = true := by rw [z0]; rfl
    have hR : R = (0, 0, 7) := by rw [hR0, where_none (by omega)]
    subst hR
    clear hR0 hnn hla hlm hfa hfm hmn z0
    dsimp only
    go_wp2_with fail
    refine (awake_any _).mono ?_
    rintro e wz ⟨rfl, hSz⟩
    go_wp2
    go_ret
    exact ⟨rfl, HS.out.trans (HT.out.trans hSz)⟩
  have d : ((mn : Int) == 0) = false := by rw [beq_eq_false_iff_ne]; omega
  by_cases za : 0 ≤ fa
  · have d2 : decide ((0 : Int) ≤ fa) = true := decide_eq_true za
    have hR : R = (fa, -1, 0) := by rw [hR0, where_book (by rw [← hfa]; exact za), ← hfa]
    subst hR
    clear hR0 hnn hla hlm hfa hfm hmn z0 za
    dsimp only
    go_wp2_with fail
    refine (awake_any _).mono ?_
    rintro e wz ⟨rfl, hSz⟩
    go_wp2
    go_ret
    exact ⟨rfl, HS.out.trans (HT.out.trans hSz)⟩
  · have d2 : decide ((0 : Int) ≤ fa) = false := decide_eq_false za
    have hw := where_mess hnn (by rw [← hfa]; exact za) (by rw [← hmn]; exact z0)
    have hR : R = (-1, fm, 0) := by rw [hR0, hw.1, ← hfm]
    have hfa2 : fa = -1 := by rw [hfa, hw.2]
    subst hR hfa2
    clear hR0 hnn hla hlm hfa hfm hmn z0 za hw
    dsimp only
    go_wp2_with fail
    refine (awake_any _).mono ?_
    rintro e wz ⟨rfl, hSz⟩
    go_wp2
    go_ret
    exact ⟨rfl, HS.out.trans (HT.out.trans hSz)⟩
end Go.Proofs.YtgpiieogiafdoaaGreat
