/- Walks and plain laws, part c. -/
import Derived.Test.YtgpiieogiafdoaaGreatMu
import Derived.Test.YtgpiieogiafdoaaGreatMv
import Derived.Test.YtgpiieogiafdoaaGreatRows
import Derived.BigQuiet
import Derived.Deep.AppendLies
import Derived.Deep.DeepCutAuto
import Derived.Deep.QuietTactic
import Derived.Deep.RegionHeld3
import Derived.Defers
import Derived.Laws.MakeOwn
import Derived.Laws.OwnMore
import Derived.Laws.Pointers
import Derived.Laws.StructEq
import Derived.Lib.Hide
import Derived.LoopIn
import Derived.LoopNIn
import Derived.OwnWalkIn
import Derived.RangeFuncBound
import Derived.RangeFuncCalls
import Derived.RangeFuncLeaves
import Derived.RangeFuncNested
import Derived.Recover
import Derived.Shelf.Abstract
import Derived.Shelf.RegionOpen
import Derived.TacticsInMore
import Derived.WalkKit
import Derived.WalkLawsBesides
import Derived.WalkSmall
import Derived.WalkSpells
import Derived.WideKeyRuns
set_option maxHeartbeats 16000000
set_option maxRecDepth 100000
namespace Go.Proofs.YtgpiieogiafdoaaGreat
set_option linter.unusedSimpArgs false
set_option linter.unusedVariables false
open Go.RowKit Go.BT
structure Parts (h : House) : Prop where
 sec : withinB h.sectors.length 1 10 = true
 pri : withinB h.prices.length 1 5 = true
 dat : withinB h.dates.length 1 6 = true
 frm : h.frm.length = h.dates.length
 hol : h.holds.length = h.dates.length
 ag : withinB (agN h) 1 6 = true
 secs : h.sectors.all (secB h) = true
 pris : (h.prices.all fun x => withinB x 0 10000) = true
 dats : (h.dates.all fun x => withinB x 0 1000) = true
 rise : Rises h.dates h.dates.length
 frms : h.frm.all (fromB (agN h)) = true
 hols : h.holds.all (holdsB (sizeL h.sectors) (agN h)) = true
 size : sizeL h.sectors ≤ 100
theorem valid_parts {h : House} (hv : valid h = true) : Parts h := by
 simp only [valid, validA, validB, risesB, Bool.and_eq_true, decide_eq_true_eq] at hv
 obtain ⟨⟨⟨⟨h1, h2⟩, h3⟩, h4⟩, ⟨⟨⟨⟨⟨⟨⟨⟨b1, b2⟩, b3⟩, b4⟩, b5⟩, b6⟩, b7⟩, b8⟩, b9⟩⟩ := hv
 exact ⟨b1, b4, h1, h2, h3, h4, b2, b5, b6, b7, b8, b9, b3⟩
theorem valid_of {h : House} (p : Parts h) : valid h = true := by
 simp only [valid, validA, validB, risesB, Bool.and_eq_true, decide_eq_true_eq]
 exact ⟨⟨⟨⟨p.dat, p.frm⟩, p.hol⟩, p.ag⟩, ⟨⟨⟨⟨⟨⟨⟨⟨p.sec, p.secs⟩, p.size⟩, p.pri⟩, p.pris⟩, p.dats⟩, p.rise⟩, p.frms⟩, p.hols⟩⟩
theorem valid_not {h : House} (hn : Parts h → False) : valid h = false := by
 cases q : valid h with
 | false => rfl
 | true => exact (hn (valid_parts q)).elim
theorem all_at {α : Type} {l : List α} {p : α → Bool} (ha : l.all p = true) {k : Nat} (h : k < l.length) : p l[k] = true := List.all_eq_true.1 ha _ (List.getElem_mem h)
theorem t_of_ff {a : Bool} (h : a = false) (k : a = true) : False := by rw [h] at k; cases k
theorem In_st (n lo hi : Int) (w : World) : Calls Tryz.prog 23 #[.int .i64 n, .int .i64 lo, .int .i64 hi] w fun e w' => e = .returned (.bool (withinB n lo hi)) ∧ Step w w' :=
 (bigtopref08.In_any n lo hi w).mono fun e w' ⟨h1, h2⟩ => ⟨h1, h2 ▸ Step.refl _⟩
theorem secs_bound {h : House} : ∀ {l : List Sector}, l.all (secB h) = true → 0 ≤ sizeL l ∧ sizeL l ≤ 50 * l.length
 | [], _ => by simp [sizeL]
 | s :: l, ha => by
  rw [List.all_cons, Bool.and_eq_true] at ha
  have := secs_bound (h := h) ha.2
  have h1 := ha.1
  simp [secB, withinB] at h1
  simp only [sizeL, List.map_cons, List.sum_cons, List.length_cons] at this ⊢
  omega
theorem rises_next {l : List Int} {k : Nat} (hr : Rises l k) (hk : k < l.length) (h : ∀ j, (e : j + 1 = k) → l[j]'(by omega) < l[k]) : Rises l (k + 1) := by
 intro i hi hl
 rcases Nat.lt_or_ge (i + 1) k with hlt | hge
 ·exact hr i hlt hl
 ·have e : i + 1 = k := by omega
  have := h i e
  subst e
  exact this
theorem rises_at18 {l : List Int} {s : Nat} (hs : s < l.length) (hp : 0 < s) (h : l[s] ≤ l[s - 1]) (hr : Rises l l.length) : False := by
 have := hr (s - 1) (by omega) (by omega)
 have e : s - 1 + 1 = s := by omega
 simp only [e] at this
 omega
theorem Right_any (S : Nat → Prop) (h : House) (v : Value) (w : World) (hv : AV S w v h) :
  Calls Tryz.prog 14 #[v] w fun e w' => e = .returned (.bool (valid h)) ∧ Step w w' := by
 obtain ⟨c0, c1, c2, c3, c4, rfl, h0, h1, h2, h3, h4⟩ := hv.house
 obtain ⟨p0, k0, b0, o0, rfl, _, m0, hp0, hc0, hb0⟩ := h0.sectors
 obtain ⟨p1, k1, b1, o1, rfl, _, m1, hp1, hc1, hb1⟩ := h1.ints
 obtain ⟨p2, k2, b2, o2, rfl, _, m2, hp2, hc2, hb2⟩ := h2.ints
 obtain ⟨p3, k3, b3, o3, rfl, _, m3, hp3, hc3, hb3⟩ := h3.rows
 obtain ⟨p4, k4, b4, o4, rfl, _, m4, hp4, hc4, hb4⟩ := h4.rows
 obtain ⟨W0, hW0⟩ : ∃ W0, W0 = w.alloc (.cells #[.slice p0 h.sectors.length k0, .slice p1 h.prices.length k1, .slice p2 h.dates.length k2, .slice p3 h.frm.length k3, .slice p4 h.holds.length k4] 26) := ⟨_, rfl⟩
 have hbx : Bx W0 w.heap.size [.slice p0 h.sectors.length k0, .slice p1 h.prices.length k1, .slice p2 h.dates.length k2, .slice p3 h.frm.length k3, .slice p4 h.holds.length k4] 26 := by subst hW0; exact Bx.new _ _ _
 have hS : Step w W0 := by subst hW0; exact (by with_reducible repeat (first | assumption | exact Step.refl _ | apply Step.s_alloc | apply Step.s_drew | apply Step.s_drewN | refine Step.trans ?_ (by assumption)))
 have HB := zH hbx
 have HS := zH hS
 have H0 := zH (And.intro hp0 hc0)
 have H1 := zH (And.intro hp1 hc1)
 have H2 := zH (And.intro hp2 hc2)
 have H3 := zH (And.intro hp3 hc3)
 have H4 := zH (And.intro hp4 hc4)
 have HW := zH hW0
 clear h0 h1 h2 h3 h4 hv hbx hS hp0 hc0 hb0 hp1 hc1 hb1 hp2 hc2 hb2 hp3 hc3 hb3 hp4 hc4 hb4 hW0
 go_enter Tryz.func14, Tryz.ntmps14
 go_wp2_with fail
 rw [← HW.out]
 have HT := zH (Step.refl W0)
 obtain ⟨e0, e1, e2, e3, e4⟩ := cells5 HB.out
 refine (bigtopref08.In_any _ _ _ _).mono ?_
 rintro e w' ⟨rfl, rfl⟩
 cases qa : withinB h.sectors.length 1 10 with
 | false =>
  have qa := zH qa
  have HF := zH (valid_not (h := h) fun p => t_of_ff qa.out p.sec)
  go_wp2
  go_ret
  exact ⟨by rw [HF.out]; rfl, HS.out.trans HT.out⟩
 | true =>
 have Hqa := zH qa
 clear qa
 go_wp2_with fail
 refine (bigtopref08.In_any _ _ _ _).mono ?_
 rintro e w' ⟨rfl, rfl⟩
 cases qb : withinB h.prices.length 1 5 with
 | false =>
  have qb := zH qb
  have HF := zH (valid_not (h := h) fun p => t_of_ff qb.out p.pri)
  go_wp2
  go_ret
  exact ⟨by rw [HF.out]; rfl, HS.out.trans HT.out⟩
 | true =>
 have Hqb := zH qb
 clear qb
 go_wp2_with fail
 refine (bigtopref08.In_any _ _ _ _).mono ?_
 rintro e w' ⟨rfl, rfl⟩
 cases qc : withinB h.dates.length 1 6 with
 | false =>
  have qc := zH qc
  have HF := zH (valid_not (h := h) fun p => t_of_ff qc.out p.dat)
  go_wp2
  go_ret
  exact ⟨by rw [HF.out]; rfl, HS.out.trans HT.out⟩
 | true =>
 have Hqc := zH qc
 clear qc
 by_cases qd : h.frm.length = h.dates.length
 rotate_left
 ·have qdd : ((h.frm.length : Int) != (h.dates.length : Int)) = true := by simp; omega
  have qd := zH qd
  have HF := zH (valid_not (h := h) fun p => qd.out p.frm)
  go_wp2
  go_ret
  exact ⟨by rw [HF.out]; rfl, HS.out.trans HT.out⟩
 have qdd : ((h.frm.length : Int) != (h.dates.length : Int)) = false := by simp; omega
 have Hqd := zH qd
 clear qd
 by_cases qe : h.holds.length = h.dates.length
 rotate_left
 ·have qed : ((h.holds.length : Int) != (h.dates.length : Int)) = true := by simp; omega
  have qe := zH qe
  have HF := zH (valid_not (h := h) fun p => qe.out p.hol)
  go_wp2
  go_ret
  exact ⟨by rw [HF.out]; rfl, HS.out.trans HT.out⟩
 have qed : ((h.holds.length : Int) != (h.dates.length : Int)) = false := by simp; omega
 have Hqe := zH qe
 clear qe
 have hn1 : 1 ≤ h.dates.length ∧ h.dates.length ≤ 6 := by have := Hqc.out; simp [withinB] at this; omega
 have hn3 : 1 ≤ h.sectors.length ∧ h.sectors.length ≤ 10 := by have := Hqa.out; simp [withinB] at this; omega
 have hn4 : 1 ≤ h.prices.length ∧ h.prices.length ≤ 5 := by have := Hqb.out; simp [withinB] at this; omega
 have hf0 : 0 < h.frm.length := by have := Hqd.out; omega
 obtain rfl := H3.out.1 hf0
 obtain ⟨uz, gz, huz⟩ := H3.out.2 0 hf0
 obtain ⟨pz, kz, rfl⟩ := huz.form
 have hag := zH (agN_eq (h := h) hf0)
 simp only [Nat.add_zero] at gz
 rw [hag.out] at gz
 have HGZ := zH gz
 have gz := (HS.out.trans HT.out).kc HGZ.out
 have hf0i : (0 : Int) < (h.frm.length : Int) := by omega
 clear huz
 go_wp2_with fail
 refine (bigtopref08.In_any _ _ _ _).mono ?_
 rintro e w' ⟨rfl, rfl⟩
 cases qf : withinB (agN h) 1 6 with
 | false =>
  have qf := zH qf
  have HF := zH (valid_not (h := h) fun p => t_of_ff qf.out p.ag)
  go_wp2
  go_ret
  exact ⟨by rw [HF.out]; rfl, HS.out.trans HT.out⟩
 | true =>
 have Hqf := zH qf
 clear qf
 have hn2 : 1 ≤ agN h ∧ agN h ≤ 6 := by have := Hqf.out; simp [withinB] at this; omega
 have hwp : IntKind.i64.wrap ((h.prices.length : Int) - 1) = (h.prices.length : Int) - 1 := by rw [IntKind.wrap_i64]; omega
 have hwa : IntKind.i64.wrap ((agN h : Int) - 1) = (agN h : Int) - 1 := by rw [IntKind.wrap_i64]; omega
 have HN := zH (And.intro hwp hwa)
 clear qdd qed gz hwp hwa e0 e1 e2 e3 e4
 go_wp2
 go_loopw [3, 4] (fun s i wr => ∃ k : Nat, k ≤ h.sectors.length ∧ i = .int .i64 k ∧ s = .int .i64 (sizeL (h.sectors.take k)) ∧ (h.sectors.take k).all (secB h) = true ∧ Step W0 wr) (fun _ i _ => h.sectors.length - (intOf i).toNat)
 case atStart => exact ⟨0, Nat.zero_le _, rfl, rfl, rfl, HT.out⟩
 case round =>
  obtain ⟨k, hk, rfl, hsz, ht, hT⟩ := hrel
  have HA := zH ht
  have hbnd := secs_bound HA.out
  have hlen : (h.sectors.take k).length = k := by simp; omega
  rw [hlen] at hbnd
  have HT := zH hT
  clear ht hT hlen
  (try clear e0 e1 e2 e3 e4)
  obtain ⟨e0, e1, e2, e3, e4⟩ := cells5 (HB.out.step HT.out)
  by_cases hlt : k < h.sectors.length
  ·subst hsz
   obtain rfl := H0.out.1 (by omega)
   obtain ⟨ra1, ra2⟩ := H0.out.2 k hlt
   have HR := zH (And.intro ra1 ra2)
   clear ra1 ra2
   have a1 := (HS.out.trans HT.out).kc (HR.out.1)
   have a2 := (HS.out.trans HT.out).kc (HR.out.2)
   have hix : (0 : Int) ≤ (k : Int) ∧ (k : Int) < (h.sectors.length : Int) := by omega
   have hwp := HN.out.1
   go_upto_region 7 with fail
   refine wp_region_seq (kdOf [10, 19] []) [0, 1, 0, 7, 15, 31, 0, 64, 192, 448, 1023, 2047, 4095, 8191, 16383, 8191, 65535, 131071, 262143, 524287, 1048575, 2097151] [0, 1, 2, 3, 4, 5, 6, 7, 8, 9, 10, 11, 12, 13, 14, 15, 16, 17, 18, 19, 20, 21] [] (by kernel_rfl) (by kernel_rfl) (fun i T z hi hk => by simp [kdOf] at hk <;> (try (split at hk <;> cases hk))) ?_
   intro Wx hWx
   have HTx := zH (HT.out.trans hWx)
   clear hWx HT
   have HT := HTx
   clear HTx a1 a2
   (try clear e0 e1 e2 e3 e4)
   obtain ⟨e0, e1, e2, e3, e4⟩ := cells5 (HB.out.step HT.out)
   have a1 := (HS.out.trans HT.out).kc (HR.out.1)
   have a2 := (HS.out.trans HT.out).kc (HR.out.2)
   repeat ((first | (refine run_off rfl rfl (by rfl) ?_) | (refine run_chain_off rfl rfl (by rfl) (K0_mono _) ?_) | ((refine run_want rfl rfl (by rfl) ⟨?_, fun W hW => ?_, ?_⟩; rotate_left; (· (have d0 := hW.kc e0; have d1 := hW.kc e1; have d2 := hW.kc a1; go_simp; (try with_reducible rfl)))))); (try simp only [Act.put, zA, zB, zC]))
   refine run_chain rfl rfl (by rfl) (fun Wi hWi K' hK => ?_)
   have HTi := zH (HT.out.trans hWi)
   have HZW := zH HTi.out.size
   clear hWi HT
   go_simp
   refine (In_st _ _ _ _).mono ?_
   rintro e wn ⟨rfl, hSn⟩
   have HT := zH (HTi.out.trans (StepX.of hSn))
   clear HTi
   cases q : withinB h.sectors[k].cls 0 ((h.prices.length : Int) - 1) with
   | false =>
    have q := zH q
    have HF := zH (valid_not (h := h) fun p => by have := all_at p.secs hlt; simp [secB, q.out] at this)
    refine hK _ _ (StepX.of hSn) ?_
    clear hSn
    (try simp only [Act.put, zA, zB, zC])
    repeat ((first | (refine run_off rfl rfl (by rfl) ?_) | (refine run_chain_off rfl rfl (by rfl) (K0_mono _) ?_) | ((refine run_want rfl rfl (by rfl) ⟨?_, fun W hW => ?_, ?_⟩; rotate_left; (· (obtain ⟨hc'', hf''⟩ := hW.cells; go_simp; (try with_reducible rfl)))))); (try simp only [Act.put, zA, zB, zC]))
    refine run_end (L := []) rfl (fun W6 hW6 => ?_)
    have HT6 := zH (HT.out.trans hW6)
    clear hW6 HT
    have HT := HT6
    clear HT6
    go_wp2
    go_ret
    exact ⟨by rw [HF.out]; rfl, HS.out.trans HT.out⟩
   | true =>
    have HQ1 := zH q
    clear q a1 a2
    refine hK _ _ (StepX.of hSn) ?_
    clear hSn
    (try simp only [Act.put, zA, zB, zC])
    (try clear e0 e1 e2 e3 e4)
    obtain ⟨e0, e1, e2, e3, e4⟩ := cells5 (HB.out.step HT.out)
    have a1 := (HS.out.trans HT.out).kc (HR.out.1)
    have a2 := (HS.out.trans HT.out).kc (HR.out.2)
    repeat ((first | (refine run_off rfl rfl (by rfl) ?_) | (refine run_chain_off rfl rfl (by rfl) (K0_mono _) ?_) | ((refine run_want rfl rfl (by rfl) ⟨?_, fun W hW => ?_, ?_⟩; rotate_left; (· (have d0 := hW.kc e0; have d1 := hW.kc a2; go_simp; (try with_reducible rfl)))))); (try simp only [Act.put, zA, zB, zC]))
    refine run_chain rfl rfl (by rfl) (fun Wi hWi K' hK => ?_)
    have HTi := zH (HT.out.trans hWi)
    have HZW := zH HTi.out.size
    clear hWi HT
    go_simp
    refine (In_st _ _ _ _).mono ?_
    rintro e wn ⟨rfl, hSn⟩
    have HT := zH (HTi.out.trans (StepX.of hSn))
    clear HTi
    cases q : withinB h.sectors[k].seats 1 50 with
    | false =>
     have q := zH q
     have HF := zH (valid_not (h := h) fun p => by have := all_at p.secs hlt; simp [secB, q.out] at this)
     refine hK _ _ (StepX.of hSn) ?_
     clear hSn
     (try simp only [Act.put, zA, zB, zC])
     repeat ((first | (refine run_off rfl rfl (by rfl) ?_) | (refine run_chain_off rfl rfl (by rfl) (K0_mono _) ?_) | ((refine run_want rfl rfl (by rfl) ⟨?_, fun W hW => ?_, ?_⟩; rotate_left; (· (obtain ⟨hc'', hf''⟩ := hW.cells; go_simp; (try with_reducible rfl)))))); (try simp only [Act.put, zA, zB, zC]))
     refine run_end (L := []) rfl (fun W6 hW6 => ?_)
     have HT6 := zH (HT.out.trans hW6)
     clear hW6 HT
     have HT := HT6
     clear HT6
     go_wp2
     go_ret
     exact ⟨by rw [HF.out]; rfl, HS.out.trans HT.out⟩
    | true =>
     have HQ2 := zH q
     have hst : 1 ≤ h.sectors[k].seats ∧ h.sectors[k].seats ≤ 50 := by simpa [withinB] using q
     clear q a1 a2
     refine hK _ _ (StepX.of hSn) ?_
     clear hSn
     (try simp only [Act.put, zA, zB, zC])
     repeat ((first | (refine run_off rfl rfl (by rfl) ?_) | (refine run_chain_off rfl rfl (by rfl) (K0_mono _) ?_) | ((refine run_want rfl rfl (by rfl) ⟨?_, fun W hW => ?_, ?_⟩; rotate_left; (· (obtain ⟨hc'', hf''⟩ := hW.cells; go_simp; (try with_reducible rfl)))))); (try simp only [Act.put, zA, zB, zC]))
     refine run_end (L := []) rfl (fun W6 hW6 => ?_)
     have HT6 := zH (HT.out.trans hW6)
     clear hW6 HT
     have HT := HT6
     clear HT6
     (try clear e0 e1 e2 e3 e4)
     obtain ⟨e0, e1, e2, e3, e4⟩ := cells5 (HB.out.step HT.out)
     have a2 := (HS.out.trans HT.out).kc (HR.out.2)
     go_wp2
     go_roundw
     case rel => exact ⟨k + 1, by omega, by go_num, by rw [sizeL_take hlt], all_take HA.out hlt (by simp [secB, HQ1.out, HQ2.out]), HT.out⟩
     case measure => simp [intOf]; omega
  ·have HSEC := zH (all_done HA.out hlt)
   have hkl : h.sectors.take k = h.sectors := List.take_of_length_le (by omega)
   rw [hkl] at hsz hbnd
   subst hsz
   clear hkl HA
   go_wp2
   obtain ⟨wo, hwo⟩ : ∃ W, W = wr := ⟨_, rfl⟩
   subst hwo
   clear e0 e1 e2 e3 e4
   go_loopw [5] (fun i wr => ∃ k : Nat, k ≤ h.prices.length ∧ i = .int .i64 k ∧ (h.prices.take k).all (fun x => withinB x 0 10000) = true ∧ Step W0 wr) (fun i _ => h.prices.length - (intOf i).toNat)
   case atStart => exact ⟨0, Nat.zero_le _, rfl, rfl, HT.out⟩
   case round =>
    obtain ⟨k2, hk2, rfl, ht, hT⟩ := hrel
    have HA := zH ht
    have HT := zH hT
    clear ht hT
    (try clear e0 e1 e2 e3 e4)
    obtain ⟨e0, e1, e2, e3, e4⟩ := cells5 (HB.out.step HT.out)
    by_cases hlt2 : k2 < h.prices.length
    ·obtain rfl := H1.out.1 (by omega)
     have a1 := (HS.out.trans HT.out).kc (H1.out.2 k2 hlt2)
     have hix : (0 : Int) ≤ (k2 : Int) ∧ (k2 : Int) < (h.prices.length : Int) := by omega
     go_wp2_with fail
     refine (bigtopref08.In_any _ _ _ _).mono ?_
     rintro e w' ⟨rfl, rfl⟩
     cases q : withinB h.prices[k2] 0 10000 with
     | false =>
      have q := zH q
      have HF := zH (valid_not (h := h) fun p => by have := all_at p.pris hlt2; simp [q.out] at this)
      go_wp2
      go_ret
      exact ⟨by rw [HF.out]; rfl, HS.out.trans HT.out⟩
     | true =>
      have HQ := zH q
      clear q
      go_wp2
      go_roundw
      case rel => exact ⟨k2 + 1, by omega, by go_num, all_take HA.out hlt2 HQ.out, HT.out⟩
      case measure => simp [intOf]; omega
    ·have HPRI := zH (all_done HA.out hlt2)
     clear HA
     go_wp2
     obtain ⟨wo, hwo⟩ : ∃ W, W = wr := ⟨_, rfl⟩
     subst hwo
     clear e0 e1 e2 e3 e4
     go_loopw [6] (fun i wr => ∃ k : Nat, k ≤ h.dates.length ∧ i = .int .i64 k ∧ ((h.dates.take k).all (fun x => withinB x 0 1000) = true ∧ Rises h.dates k ∧ (h.frm.take k).all (fromB (agN h)) = true ∧ (h.holds.take k).all (holdsB (sizeL h.sectors) (agN h)) = true) ∧ Step W0 wr) (fun i _ => h.dates.length - (intOf i).toNat)
     case atStart => exact ⟨0, Nat.zero_le _, rfl, ⟨rfl, fun i hi => by omega, rfl, rfl⟩, HT.out⟩
     case round =>
      obtain ⟨s, hs, rfl, ht, hT⟩ := hrel
      have HA := zH ht
      have HT := zH hT
      clear ht hT
      (try clear e0 e1 e2 e3 e4)
      obtain ⟨e0, e1, e2, e3, e4⟩ := cells5 (HB.out.step HT.out)
      by_cases hlt3 : s < h.dates.length
      ·have hlt3f : s < h.frm.length := by have := Hqd.out; omega
       have hlt3h : s < h.holds.length := by have := Hqe.out; omega
       obtain rfl := H2.out.1 (by omega)
       obtain rfl := H4.out.1 (by omega)
       have hix2 : (0 : Int) ≤ (s : Int) ∧ (s : Int) < (h.dates.length : Int) := by omega
       have hix3 : (0 : Int) ≤ (s : Int) ∧ (s : Int) < (h.frm.length : Int) := by omega
       have hix4 : (0 : Int) ≤ (s : Int) ∧ (s : Int) < (h.holds.length : Int) := by omega
       obtain ⟨u3, rg3, hu3⟩ := H3.out.2 s hlt3f
       obtain ⟨pu3, ku3, rfl⟩ := hu3.form
       obtain ⟨u4, rg4, hu4⟩ := H4.out.2 s hlt3h
       obtain ⟨pu4, ku4, rfl⟩ := hu4.form
       have hln3 := hu3.len
       have hln4 := hu4.len
       have HU := zH (And.intro rg3 rg4)
       have HV := zH (And.intro hu3 hu4)
       clear rg3 rg4 hu3 hu4
       go_upto_region 18 with fail
       go_cut [161] (fun c wx => ∃ x : Bool, c = .bool x ∧ (x = true → valid h = false) ∧ (x = false → withinB h.dates[s] 0 1000 = true ∧ (∀ hp : 0 < s, h.dates[s - 1] < h.dates[s]) ∧ h.frm[s].length = agN h ∧ (h.holds[s].length : Int) = sizeL h.sectors) ∧ Step W0 wx)
       case first =>
        refine wp_region_seq (kdOf [5] []) (0 :: 1 :: 0 :: 7 :: 15 :: 31 :: 63 :: 127 :: 255 :: 511 :: 1023 :: 2047 :: 4095 :: 2047 :: 16383 :: 32767 :: 2047 :: 67583 :: 2047 :: 264191 :: 985087 :: 2033663 :: 4194303 :: 8388607 :: 16777215 :: 33554431 :: 67108863 :: 134217727 :: 67108863 :: 536870911 :: 1073741823 :: 2147483647 :: 67108863 :: 4362076159 :: 12952010751 :: 30131879935 :: 64491618303 :: 137438953471 :: 274877906943 :: 549755813887 :: 1099511627775 :: 2199023255551 :: 1099511627775 :: 8796093022207 :: 17592186044415 :: 35184372088831 :: 1099511627775 :: 140737488355327 :: 281474976710655 :: []) (0 :: 1 :: 2 :: 3 :: 4 :: 5 :: 6 :: 7 :: 8 :: 9 :: 10 :: 11 :: 12 :: 13 :: 14 :: 15 :: 16 :: 17 :: 18 :: 19 :: 20 :: 21 :: 22 :: 23 :: 24 :: 25 :: 26 :: 27 :: 28 :: 29 :: 30 :: 31 :: 32 :: 33 :: 34 :: 35 :: 36 :: 37 :: 38 :: 39 :: 40 :: 41 :: 42 :: 43 :: 44 :: 45 :: 46 :: 47 :: 48 :: []) [] (by kernel_rfl) (by kernel_rfl) (fun i T z hi hk => by simp [kdOf] at hk <;> (try (split at hk <;> cases hk))) ?_
        intro Wx hWx
        have HTx := zH (HT.out.trans hWx)
        clear hWx HT
        have HT := HTx
        clear HTx
        (try clear e0 e1 e2 e3 e4)
        obtain ⟨e0, e1, e2, e3, e4⟩ := cells5 (HB.out.step HT.out)
        have ga1 := (HS.out.trans HT.out).kc (H2.out.2 s hlt3)
        repeat ((first | (refine run_off rfl rfl (by rfl) ?_) | (refine run_chain_off rfl rfl (by rfl) (K0_mono _) ?_) | ((refine run_want rfl rfl (by rfl) ⟨?_, fun W hW => ?_, ?_⟩; rotate_left; (· (have d0 := hW.kc e2; have d1 := hW.kc ga1; go_simp; (try with_reducible rfl)))))); (try simp only [Act.put, zA, zB, zC]))
        refine run_chain rfl rfl (by rfl) (fun Wi hWi K' hK => ?_)
        have HTi := zH (HT.out.trans hWi)
        have HZW := zH HTi.out.size
        clear hWi HT
        go_simp
        refine (In_st _ _ _ _).mono ?_
        rintro e wn ⟨rfl, hSn⟩
        have HT := zH (HTi.out.trans (StepX.of hSn))
        clear HTi
        clear ga1
        cases q : withinB h.dates[s] 0 1000 with
        | false =>
         have q := zH q
         have HF := zH (valid_not (h := h) fun p => by have := all_at p.dats hlt3; simp [q.out] at this)
         refine hK _ _ (StepX.of hSn) ?_
         clear hSn
         (try simp only [Act.put, zA, zB, zC])
         repeat ((first | (refine run_off rfl rfl (by rfl) ?_) | (refine run_chain_off rfl rfl (by rfl) (K0_mono _) ?_) | ((refine run_want rfl rfl (by rfl) ⟨?_, fun W hW => ?_, ?_⟩; rotate_left; (· (obtain ⟨hc'', hf''⟩ := hW.cells; go_simp; (try with_reducible rfl)))))); (try simp only [Act.put, zA, zB, zC]))
         refine run_end (L := []) rfl (fun W6 hW6 => ?_)
         have HT6 := zH (HT.out.trans hW6)
         clear hW6 HT
         have HT := HT6
         clear HT6
         go_wp2_with fail
         go_meet
         exact ⟨true, rfl, fun _ => HF.out, fun e => by simp at e, HT.out⟩
        | true =>
         have HQ1 := zH q
         clear q
         refine hK _ _ (StepX.of hSn) ?_
         clear hSn
         (try simp only [Act.put, zA, zB, zC])
         (try clear e0 e1 e2 e3 e4)
         obtain ⟨e0, e1, e2, e3, e4⟩ := cells5 (HB.out.step HT.out)
         have ga1 := (HS.out.trans HT.out).kc (H2.out.2 s hlt3)
         have g3 := (HS.out.trans HT.out).kc (HU.out.1)
         have g4 := (HS.out.trans HT.out).kc (HU.out.2)
         have gz := (HS.out.trans HT.out).kc (HGZ.out)
         by_cases hpos : 0 < s
         ·have ga2 := (HS.out.trans HT.out).kc (H2.out.2 (s - 1) (by omega))
          have hx2 : (0 : Int) ≤ ((s : Int) - 1) ∧ ((s : Int) - 1) < (h.dates.length : Int) := by omega
          have hd : decide ((0 : Int) < (s : Int)) = true := by simpa using hpos
          have htn : ((s : Int) - 1).toNat = s - 1 := by omega
          have h1s : (1 : Int) ≤ (s : Int) := by omega
          have hws : IntKind.i64.wrap ((s : Int) - 1) = (s : Int) - 1 := by rw [IntKind.wrap_i64]; omega
          by_cases hle : h.dates[s] ≤ h.dates[s - 1]
          ·have hld : decide (h.dates[s] ≤ h.dates[s - 1]) = true := decide_eq_true hle
           have HLE := zH hle
           clear hle
           have HF := zH (valid_not (h := h) fun p => rises_at18 hlt3 hpos HLE.out p.rise)
           repeat ((first | (refine run_off rfl rfl (by rfl) ?_) | (refine run_chain_off rfl rfl (by rfl) (K0_mono _) ?_) | ((refine run_want rfl rfl (by rfl) ⟨?_, fun W hW => ?_, ?_⟩; rotate_left; (· (have d0 := hW.kc e2; have d1 := hW.kc e3; have d2 := hW.kc e4; have d3 := hW.kc ga1; have d4 := hW.kc ga2; have d5 := hW.kc g3; have d6 := hW.kc gz; have d7 := hW.kc g4; go_simp; (try with_reducible rfl)))))); (try simp only [Act.put, zA, zB, zC]))
           refine run_end (L := []) rfl (fun W6 hW6 => ?_)
           have HT6 := zH (HT.out.trans hW6)
           clear hW6 HT
           have HT := HT6
           clear HT6
           go_wp2_with fail
           go_meet
           exact ⟨true, rfl, fun _ => HF.out, fun e => by simp at e, HT.out⟩
          ·have hld : decide (h.dates[s] ≤ h.dates[s - 1]) = false := decide_eq_false hle
           have HLE := zH hle
           clear hle
           by_cases hl3 : h.frm[s].length = agN h
           rotate_left
           ·have hd3 : ((h.frm[s].length : Int) != (agN h : Int)) = true := by simp; omega
            have hl3 := zH hl3
            have HF := zH (valid_not (h := h) fun p => by have := all_at p.frms hlt3f; simp [fromB, hl3.out] at this)
            repeat ((first | (refine run_off rfl rfl (by rfl) ?_) | (refine run_chain_off rfl rfl (by rfl) (K0_mono _) ?_) | ((refine run_want rfl rfl (by rfl) ⟨?_, fun W hW => ?_, ?_⟩; rotate_left; (· (have d0 := hW.kc e2; have d1 := hW.kc e3; have d2 := hW.kc e4; have d3 := hW.kc ga1; have d4 := hW.kc ga2; have d5 := hW.kc g3; have d6 := hW.kc gz; have d7 := hW.kc g4; go_simp; (try with_reducible rfl)))))); (try simp only [Act.put, zA, zB, zC]))
            refine run_end (L := []) rfl (fun W6 hW6 => ?_)
            have HT6 := zH (HT.out.trans hW6)
            clear hW6 HT
            have HT := HT6
            clear HT6
            go_wp2_with fail
            go_meet
            exact ⟨true, rfl, fun _ => HF.out, fun e => by simp at e, HT.out⟩
           have hd3 : ((h.frm[s].length : Int) != (agN h : Int)) = false := by simp; omega
           have HL3 := zH hl3
           clear hl3
           by_cases hl4 : (h.holds[s].length : Int) = sizeL h.sectors
           rotate_left
           ·have hd4 : ((h.holds[s].length : Int) != sizeL h.sectors) = true := by simpa using hl4
            have hl4 := zH hl4
            have HF := zH (valid_not (h := h) fun p => by have := all_at p.hols hlt3h; simp [holdsB, hl4.out] at this)
            repeat ((first | (refine run_off rfl rfl (by rfl) ?_) | (refine run_chain_off rfl rfl (by rfl) (K0_mono _) ?_) | ((refine run_want rfl rfl (by rfl) ⟨?_, fun W hW => ?_, ?_⟩; rotate_left; (· (have d0 := hW.kc e2; have d1 := hW.kc e3; have d2 := hW.kc e4; have d3 := hW.kc ga1; have d4 := hW.kc ga2; have d5 := hW.kc g3; have d6 := hW.kc gz; have d7 := hW.kc g4; go_simp; (try with_reducible rfl)))))); (try simp only [Act.put, zA, zB, zC]))
            refine run_end (L := []) rfl (fun W6 hW6 => ?_)
            have HT6 := zH (HT.out.trans hW6)
            clear hW6 HT
            have HT := HT6
            clear HT6
            go_wp2_with fail
            go_meet
            exact ⟨true, rfl, fun _ => HF.out, fun e => by simp at e, HT.out⟩
           have hd4 : ((h.holds[s].length : Int) != sizeL h.sectors) = false := by simpa using hl4
           have HL4 := zH hl4
           clear hl4
           repeat ((first | (refine run_off rfl rfl (by rfl) ?_) | (refine run_chain_off rfl rfl (by rfl) (K0_mono _) ?_) | ((refine run_want rfl rfl (by rfl) ⟨?_, fun W hW => ?_, ?_⟩; rotate_left; (· (have d0 := hW.kc e2; have d1 := hW.kc e3; have d2 := hW.kc e4; have d3 := hW.kc ga1; have d4 := hW.kc ga2; have d5 := hW.kc g3; have d6 := hW.kc gz; have d7 := hW.kc g4; go_simp; (try with_reducible rfl)))))); (try simp only [Act.put, zA, zB, zC]))
           refine run_end (L := []) rfl (fun W6 hW6 => ?_)
           have HT6 := zH (HT.out.trans hW6)
           clear hW6 HT
           have HT := HT6
           clear HT6
           go_wp2_with fail
           go_meet
           exact ⟨false, rfl, fun e => by simp at e, fun _ => ⟨HQ1.out, fun _ => by have := HLE.out; omega, HL3.out, HL4.out⟩, HT.out⟩
         ·have hd : decide ((0 : Int) < (s : Int)) = false := by simp; omega
          have ga2 := ga1
          by_cases hl3 : h.frm[s].length = agN h
          rotate_left
          ·have hd3 : ((h.frm[s].length : Int) != (agN h : Int)) = true := by simp; omega
           have hl3 := zH hl3
           have HF := zH (valid_not (h := h) fun p => by have := all_at p.frms hlt3f; simp [fromB, hl3.out] at this)
           repeat ((first | (refine run_off rfl rfl (by rfl) ?_) | (refine run_chain_off rfl rfl (by rfl) (K0_mono _) ?_) | ((refine run_want rfl rfl (by rfl) ⟨?_, fun W hW => ?_, ?_⟩; rotate_left; (· (have d0 := hW.kc e2; have d1 := hW.kc e3; have d2 := hW.kc e4; have d3 := hW.kc ga1; have d4 := hW.kc ga2; have d5 := hW.kc g3; have d6 := hW.kc gz; have d7 := hW.kc g4; go_simp; (try with_reducible rfl)))))); (try simp only [Act.put, zA, zB, zC]))
           refine run_end (L := []) rfl (fun W6 hW6 => ?_)
           have HT6 := zH (HT.out.trans hW6)
           clear hW6 HT
           have HT := HT6
           clear HT6
           go_wp2_with fail
           go_meet
           exact ⟨true, rfl, fun _ => HF.out, fun e => by simp at e, HT.out⟩
          have hd3 : ((h.frm[s].length : Int) != (agN h : Int)) = false := by simp; omega
          have HL3 := zH hl3
          clear hl3
          by_cases hl4 : (h.holds[s].length : Int) = sizeL h.sectors
          rotate_left
          ·have hd4 : ((h.holds[s].length : Int) != sizeL h.sectors) = true := by simpa using hl4
           have hl4 := zH hl4
           have HF := zH (valid_not (h := h) fun p => by have := all_at p.hols hlt3h; simp [holdsB, hl4.out] at this)
           repeat ((first | (refine run_off rfl rfl (by rfl) ?_) | (refine run_chain_off rfl rfl (by rfl) (K0_mono _) ?_) | ((refine run_want rfl rfl (by rfl) ⟨?_, fun W hW => ?_, ?_⟩; rotate_left; (· (have d0 := hW.kc e2; have d1 := hW.kc e3; have d2 := hW.kc e4; have d3 := hW.kc ga1; have d4 := hW.kc ga2; have d5 := hW.kc g3; have d6 := hW.kc gz; have d7 := hW.kc g4; go_simp; (try with_reducible rfl)))))); (try simp only [Act.put, zA, zB, zC]))
           refine run_end (L := []) rfl (fun W6 hW6 => ?_)
           have HT6 := zH (HT.out.trans hW6)
           clear hW6 HT
           have HT := HT6
           clear HT6
           go_wp2_with fail
           go_meet
           exact ⟨true, rfl, fun _ => HF.out, fun e => by simp at e, HT.out⟩
          have hd4 : ((h.holds[s].length : Int) != sizeL h.sectors) = false := by simpa using hl4
          have HL4 := zH hl4
          clear hl4
          repeat ((first | (refine run_off rfl rfl (by rfl) ?_) | (refine run_chain_off rfl rfl (by rfl) (K0_mono _) ?_) | ((refine run_want rfl rfl (by rfl) ⟨?_, fun W hW => ?_, ?_⟩; rotate_left; (· (have d0 := hW.kc e2; have d1 := hW.kc e3; have d2 := hW.kc e4; have d3 := hW.kc ga1; have d4 := hW.kc ga2; have d5 := hW.kc g3; have d6 := hW.kc gz; have d7 := hW.kc g4; go_simp; (try with_reducible rfl)))))); (try simp only [Act.put, zA, zB, zC]))
          refine run_end (L := []) rfl (fun W6 hW6 => ?_)
          have HT6 := zH (HT.out.trans hW6)
          clear hW6 HT
          have HT := HT6
          clear HT6
          go_wp2_with fail
          go_meet
          exact ⟨false, rfl, fun e => by simp at e, fun _ => ⟨HQ1.out, fun hp => absurd hp hpos, HL3.out, HL4.out⟩, HT.out⟩
       case rest =>
        obtain ⟨x, rfl, hx1, hx2, hT⟩ := hcut
        have HX1 := zH hx1
        have HX2 := zH hx2
        have HT := zH hT
        clear hx1 hx2 hT
        cases x with
        | true =>
         have HF := zH (HX1.out rfl)
         go_wp2
         go_ret
         exact ⟨by rw [HF.out]; rfl, HS.out.trans HT.out⟩
        | false =>
         have HX := zH (HX2.out rfl)
         clear HX1 HX2
         obtain ⟨pf, cf, bf, of', hef, _, _, hpf, hcf, _⟩ := HV.out.1.ints
         injection hef with hef1 hef2 hef3
         subst hef1 hef3
         obtain ⟨pg, cg, bg, og', heg, _, _, hpg, hcg, _⟩ := HV.out.2.ints
         injection heg with heg1 heg2 heg3
         subst heg1 heg3
         have HF3 := zH (And.intro hpf hcf)
         have HF4 := zH (And.intro hpg hcg)
         clear hpf hcf hpg hcg hef2 heg2 e0 e1 e2 e3 e4
         go_wp2
         go_loopw [7] (fun i wr => ∃ j : Nat, j ≤ h.frm[s].length ∧ i = .int .i64 j ∧ (h.frm[s].take j).all (fun x => withinB x 0 1000) = true ∧ Step W0 wr) (fun i _ => h.frm[s].length - (intOf i).toNat)
         case atStart => exact ⟨0, Nat.zero_le _, rfl, rfl, HT.out⟩
         case round =>
          obtain ⟨j, hj, rfl, ht, hT⟩ := hrel
          have HA4 := zH ht
          have HT := zH hT
          clear ht hT
          (try clear e0 e1 e2 e3 e4)
          obtain ⟨e0, e1, e2, e3, e4⟩ := cells5 (HB.out.step HT.out)
          have g3 := (HS.out.trans HT.out).kc (HU.out.1)
          by_cases hlt4 : j < h.frm[s].length
          ·obtain rfl := HF3.out.1 (by omega)
           have ga1 := (HS.out.trans HT.out).kc (HF3.out.2 j hlt4)
           have hix5 : (0 : Int) ≤ (j : Int) ∧ (j : Int) < (h.frm[s].length : Int) := by omega
           go_wp2_with fail
           refine (bigtopref08.In_any _ _ _ _).mono ?_
           rintro e w' ⟨rfl, rfl⟩
           cases q : withinB h.frm[s][j] 0 1000 with
           | false =>
            have q := zH q
            have HF := zH (valid_not (h := h) fun p => by have := all_at p.frms hlt3f; simp only [fromB, Bool.and_eq_true] at this; exact t_of_ff q.out (all_at this.2 hlt4))
            go_wp2
            go_ret
            exact ⟨by rw [HF.out]; rfl, HS.out.trans HT.out⟩
           | true =>
            have HQ := zH q
            clear q
            go_wp2
            go_roundw
            case rel => exact ⟨j + 1, by omega, by go_num, all_take HA4.out hlt4 HQ.out, HT.out⟩
            case measure => simp [intOf]; omega
          ·have HFR := zH (all_done HA4.out hlt4)
           clear HA4
           go_wp2
           obtain ⟨wo, hwo⟩ : ∃ W, W = wr := ⟨_, rfl⟩
           subst hwo
           clear e0 e1 e2 e3 e4 g3
           have hlz := HX.out.2.2.2
           have HLZ := zH hlz
           clear hlz
           go_loopw [8] (fun i wr => ∃ j : Nat, j ≤ h.holds[s].length ∧ i = .int .i64 j ∧ (h.holds[s].take j).all (fun x => withinB x 0 ((agN h : Int) - 1)) = true ∧ Step W0 wr) (fun i _ => h.holds[s].length - (intOf i).toNat)
           case atStart => exact ⟨0, Nat.zero_le _, rfl, rfl, HT.out⟩
           case round =>
            obtain ⟨j5, hj5, rfl, ht, hT⟩ := hrel
            have HA5 := zH ht
            have HT := zH hT
            clear ht hT
            by_cases hlt5 : j5 < h.holds[s].length
            ·have hjz : (j5 : Int) < sizeL h.sectors := by have := HLZ.out; omega
             obtain rfl := HF4.out.1 (by omega)
             have hix5 : (0 : Int) ≤ (j5 : Int) ∧ (j5 : Int) < (h.holds[s].length : Int) := by omega
             have hwa := HN.out.2
             go_upto_region 28 with fail
             refine wp_region_seq (kdOf [14] []) [0, 1, 0, 7, 15, 0, 63, 127, 0, 256, 768, 1792, 3840, 7936, 16383, 32767] [0, 1, 2, 3, 4, 5, 6, 7, 8, 9, 10, 11, 12, 13, 14, 15] [] (by kernel_rfl) (by kernel_rfl) (fun i T z hi hk => by simp [kdOf] at hk <;> (try (split at hk <;> cases hk))) ?_
             intro Wx hWx
             have HTx := zH (HT.out.trans hWx)
             clear hWx HT
             have HT := HTx
             clear HTx
             (try clear e0 e1 e2 e3 e4)
             obtain ⟨e0, e1, e2, e3, e4⟩ := cells5 (HB.out.step HT.out)
             have ga1 := (HS.out.trans HT.out).kc (HF4.out.2 j5 hlt5)
             have g4 := (HS.out.trans HT.out).kc (HU.out.2)
             have gz := (HS.out.trans HT.out).kc (HGZ.out)
             repeat ((first | (refine run_off rfl rfl (by rfl) ?_) | (refine run_chain_off rfl rfl (by rfl) (K0_mono _) ?_) | ((refine run_want rfl rfl (by rfl) ⟨?_, fun W hW => ?_, ?_⟩; rotate_left; (· (have d0 := hW.kc e3; have d1 := hW.kc e4; have d2 := hW.kc g4; have d3 := hW.kc gz; have d4 := hW.kc ga1; go_simp; (try with_reducible rfl)))))); (try simp only [Act.put, zA, zB, zC]))
             refine run_chain rfl rfl (by rfl) (fun Wi hWi K' hK => ?_)
             have HTi := zH (HT.out.trans hWi)
             have HZW := zH HTi.out.size
             clear hWi HT
             go_simp
             refine (In_st _ _ _ _).mono ?_
             rintro e wn ⟨rfl, hSn⟩
             have HT := zH (HTi.out.trans (StepX.of hSn))
             clear HTi
             cases q : withinB h.holds[s][j5] 0 ((agN h : Int) - 1) with
             | false =>
              have q := zH q
              have HF := zH (valid_not (h := h) fun p => by have := all_at p.hols hlt3h; simp only [holdsB, Bool.and_eq_true] at this; exact t_of_ff q.out (all_at this.2 hlt5))
              refine hK _ _ (StepX.of hSn) ?_
              clear hSn
              (try simp only [Act.put, zA, zB, zC])
              repeat ((first | (refine run_off rfl rfl (by rfl) ?_) | (refine run_chain_off rfl rfl (by rfl) (K0_mono _) ?_) | ((refine run_want rfl rfl (by rfl) ⟨?_, fun W hW => ?_, ?_⟩; rotate_left; (· (obtain ⟨hc'', hf''⟩ := hW.cells; go_simp; (try with_reducible rfl)))))); (try simp only [Act.put, zA, zB, zC]))
              refine run_end (L := []) rfl (fun W6 hW6 => ?_)
              have HT6 := zH (HT.out.trans hW6)
              clear hW6 HT
              have HT := HT6
              clear HT6
              go_wp2
              go_ret
              exact ⟨by rw [HF.out]; rfl, HS.out.trans HT.out⟩
             | true =>
              have HQ := zH q
              clear q
              refine hK _ _ (StepX.of hSn) ?_
              clear hSn
              (try simp only [Act.put, zA, zB, zC])
              repeat ((first | (refine run_off rfl rfl (by rfl) ?_) | (refine run_chain_off rfl rfl (by rfl) (K0_mono _) ?_) | ((refine run_want rfl rfl (by rfl) ⟨?_, fun W hW => ?_, ?_⟩; rotate_left; (· (obtain ⟨hc'', hf''⟩ := hW.cells; go_simp; (try with_reducible rfl)))))); (try simp only [Act.put, zA, zB, zC]))
              refine run_end (L := []) rfl (fun W6 hW6 => ?_)
              have HT6 := zH (HT.out.trans hW6)
              clear hW6 HT
              have HT := HT6
              clear HT6
              go_wp2
              go_roundw
              case rel => exact ⟨j5 + 1, by omega, by go_num, all_take HA5.out hlt5 HQ.out, HT.out⟩
              case measure => simp [intOf]; omega
            ·have HHO := zH (all_done HA5.out hlt5)
             have hjz : ¬ (j5 : Int) < sizeL h.sectors := by have := HLZ.out; omega
             clear HA5
             go_wp2
             go_roundw
             case rel =>
              refine ⟨s + 1, by omega, by go_num, ⟨all_take HA.out.1 hlt3 HX.out.1, rises_next HA.out.2.1 hlt3 (fun j e => ?_), all_take HA.out.2.2.1 hlt3f ?_, all_take HA.out.2.2.2 hlt3h ?_⟩, HT.out⟩
              ·have := HX.out.2.1 (by omega)
               subst e
               exact this
              ·simp only [fromB, HX.out.2.2.1, HFR.out, decide_true, Bool.and_self]
              ·simp only [holdsB, HX.out.2.2.2, HHO.out, decide_true, Bool.and_self]
             case measure => simp [intOf]; omega
      ·have hfin : valid h = decide (sizeL h.sectors ≤ 100) := by
        have h1 := all_done HA.out.1 hlt3
        have h2 := HA.out.2.1
        have h3 := all_done HA.out.2.2.1 (by have := Hqd.out; omega)
        have h4 := all_done HA.out.2.2.2 (by have := Hqe.out; omega)
        obtain rfl : s = h.dates.length := by omega
        by_cases hz : sizeL h.sectors ≤ 100
        ·rw [valid_of ⟨Hqa.out, Hqb.out, Hqc.out, Hqd.out, Hqe.out, Hqf.out, HSEC.out, HPRI.out, h1, h2, h3, h4, hz⟩]
         simp [hz]
        ·rw [valid_not fun p => hz p.size]
         simp [hz]
       have HF := zH hfin
       clear hfin
       go_wp2
       go_ret
       exact ⟨by rw [HF.out]; rfl, HS.out.trans HT.out⟩
theorem show_av {S T : Nat → Prop} {w : World} {h : House} {b : Book} {c2 c3 d2 : Value} (r2 : SL S w c2 h.dates) (r3 : SL S w c3 h.frm) (s2 : SL T w d2 b.off) (hO : OkDesk h b) {i : Nat} (hi : i < h.dates.length) :
  ∃ bo oo ko bf of kf bg og kg bd od kd ag : Nat, d2 = .slice (some ⟨bo, oo, none⟩) b.off.length ko ∧ c3 = .slice (some ⟨bf, of, none⟩) h.frm.length kf ∧
  c2 = .slice (some ⟨bd, od, none⟩) h.dates.length kd ∧ b.agency = ag ∧ w.cell? ⟨bo, oo + i, none⟩ = some (.bool (offAt b i)) ∧ w.cell? ⟨bf, of + i, none⟩ = some (.slice (some ⟨bg, og, none⟩) (agN h) kg) ∧ w.cell? ⟨bg, og + ag, none⟩ = some (.int .i64 (fromAt h i b.agency)) ∧
  w.cell? ⟨bd, od + i, none⟩ = some (.int .i64 (dateAt h i)) ∧ i < b.off.length ∧ i < h.frm.length ∧ ag < agN h := by
 have hbv := bounds_valid hO.1
 have hio : i < b.off.length := by have := hO.2.1; omega
 have hif : i < h.frm.length := by omega
 have hag0 := hO.2.2.2.2.1
 have hag1 := hO.2.2.2.2.2.1
 obtain ⟨ag, hag⟩ : ∃ ag : Nat, b.agency = ag := ⟨b.agency.toNat, by omega⟩
 have hagf : ag < h.frm[i].length := by rw [from_row hO.1 hif]; omega
 obtain ⟨po, ko, bo, oo, rfl, _, _, hpo, hco, hbo⟩ := s2.bools
 obtain rfl := hpo (by omega)
 obtain ⟨pf, kf, bf, of, rfl, _, _, hpf, hcf, hbf⟩ := r3.rows
 obtain rfl := hpf (by omega)
 obtain ⟨fv, hfc, hfs⟩ := hcf i hif
 obtain ⟨pg, kg, bg, og, rfl, _, _, hpg, hcg, hbg⟩ := hfs.ints
 obtain rfl := hpg (by omega)
 obtain ⟨pd, kd, bd, od, rfl, _, _, hpd, hcd, hbd⟩ := r2.ints
 obtain rfl := hpd (by omega)
 have hrow := from_row hO.1 hif
 refine ⟨bo, oo, ko, bf, of, kf, bg, og, kg, bd, od, kd, ag, rfl, rfl, rfl, hag, ?_, ?_, ?_, ?_, hio, hif, by omega⟩
 ·rw [hco i hio]; simp [offAt, List.getD_eq_getElem?_getD, hio]
 ·rw [hfc, hrow]
 ·rw [hcg ag hagf]; rw [hag]; simp [fromAt, List.getD_eq_getElem?_getD, hif, hagf]
 ·rw [hcd i hi]; simp [dateAt, List.getD_eq_getElem?_getD, hi]
theorem Sells_any (S T : Nat → Prop) (h : House) (b : Book) (v u : Value) (w : World) (hv : AV S w v h) (hu : AV T w u b) (hO : OkDesk h b) (i : Nat) (hi : i < h.dates.length) (d : Int) :
  Calls Tryz.prog 132 #[v, u, .int .i64 i, .int .i64 d] w fun e w' => e = .returned (.bool (sellsB h b i d)) ∧ Step w w' := by
 obtain ⟨c0, c1, c2, c3, c4, rfl, h0, h1, h2, h3, h4⟩ := hv.house
 obtain ⟨d1, d2, d4, rfl, s1, s2, s4⟩ := hu.book
 obtain ⟨bo, oo, ko, bf, of, kf, bg, og, kg, bd, od, kd, ag, rfl, rfl, rfl, hag, m0, m1, m2, m3, hio, hif, hagl⟩ := show_av h2 h3 s2 hO hi
 obtain ⟨p0, k0, rfl⟩ := h0.form
 obtain ⟨p1, k1, rfl⟩ := h1.form
 obtain ⟨p4, k4, rfl⟩ := h4.form
 obtain ⟨q1, m1', rfl⟩ := s1.form
 obtain ⟨q4, m4, rfl⟩ := s4.form
 have hx1 : (0 : Int) ≤ (i : Int) ∧ (i : Int) < (b.off.length : Int) := by omega
 have hx4 : (0 : Int) ≤ (i : Int) ∧ (i : Int) < (h.frm.length : Int) := by omega
 have hx5 : (0 : Int) ≤ (ag : Int) ∧ (ag : Int) < (agN h : Int) := by omega
 have hx6 : (0 : Int) ≤ (i : Int) ∧ (i : Int) < (h.dates.length : Int) := by omega
 obtain ⟨W0, hW0⟩ : ∃ W0, W0 = (w.alloc (.cells #[.slice p0 h.sectors.length k0, .slice p1 h.prices.length k1, .slice (some ⟨bd, od, none⟩) h.dates.length kd, .slice (some ⟨bf, of, none⟩) h.frm.length kf, .slice p4 h.holds.length k4] 26)).alloc (.cells #[.int .i64 b.agency, .slice q1 b.seats.length m1', .slice (some ⟨bo, oo, none⟩) b.off.length ko, .int .i64 b.sent, .slice q4 b.took.length m4, .int .i64 b.cash] 56) := ⟨_, rfl⟩
 have hbx : Bx W0 w.heap.size [.slice p0 h.sectors.length k0, .slice p1 h.prices.length k1, .slice (some ⟨bd, od, none⟩) h.dates.length kd, .slice (some ⟨bf, of, none⟩) h.frm.length kf, .slice p4 h.holds.length k4] 26 := by subst hW0; exact (Bx.new _ _ _).alloc _
 have hb2 : Bx W0 (w.heap.size + 1) [.int .i64 b.agency, .slice q1 b.seats.length m1', .slice (some ⟨bo, oo, none⟩) b.off.length ko, .int .i64 b.sent, .slice q4 b.took.length m4, .int .i64 b.cash] 56 := by subst hW0; exact Bx.new' _ _ _ _ (by simp)
 have hS : Step w W0 := by subst hW0; exact (by with_reducible repeat (first | assumption | exact Step.refl _ | apply Step.s_alloc | apply Step.s_drew | apply Step.s_drewN | refine Step.trans ?_ (by assumption)))
 have HB1 := zH hbx
 have HB2 := zH hb2
 have HS := zH hS
 have HM := zH (And.intro m0 (And.intro m1 (And.intro m2 m3)))
 have HAG := zH hag
 have HW := zH hW0
 clear hv hu hO m0 m1 m2 m3 hag hbx hb2 hS hW0 h0 h1 h2 h3 h4 s1 s2 s4
 go_enter Tryz.func132, Tryz.ntmps132
 go_upto_region 1 with (fail)
 rw [← HW.out]
 refine wp_region_seq (kdOf [22] []) (0 :: 1 :: 0 :: 7 :: 15 :: 31 :: 63 :: 127 :: 127 :: 383 :: 127 :: 1919 :: 3967 :: 127 :: 8319 :: 32639 :: 65407 :: 127 :: 131199 :: 127 :: 917631 :: 1966207 :: 4194303 :: 8388607 :: 16777215 :: []) (0 :: 1 :: 2 :: 3 :: 4 :: 5 :: 6 :: 7 :: 8 :: 9 :: 10 :: 11 :: 12 :: 13 :: 14 :: 15 :: 16 :: 17 :: 18 :: 19 :: 20 :: 21 :: 22 :: 23 :: 24 :: []) [] (by kernel_rfl) (by kernel_rfl) (fun i T z hi hk => by simp [kdOf] at hk <;> (try (split at hk <;> cases hk))) ?_
 intro Wx hWx
 have HT := zH hWx
 clear hWx
 (try clear e0 e1 e2 e3 e4 f0 f1 f2 f3 f4 f5 y1 y2)
 obtain ⟨e0, e1, e2, e3, e4⟩ := cells5 (HB1.out.step HT.out)
 obtain ⟨f0, f1, f2, f3, f4, f5⟩ := cells6 (HB2.out.step HT.out)
 have y1 := (HB1.out.step HT.out).lt
 have y2 := (HB2.out.step HT.out).lt
 rw [HAG.out] at f0
 have m0 := (HS.out.trans HT.out).kc HM.out.1
 have m1 := (HS.out.trans HT.out).kc HM.out.2.1
 have m2 := (HS.out.trans HT.out).kc HM.out.2.2.1
 have m3 := (HS.out.trans HT.out).kc HM.out.2.2.2
 cases q : offAt b i with
 | true =>
  rw [q] at m0
  have HF := zH (show sellsB h b i d = false by simp [sellsB, q])
  clear q
  repeat ((first | (refine run_off rfl rfl (by rfl) ?_) | (refine run_chain_off rfl rfl (by rfl) (K0_mono _) ?_) | ((refine run_want rfl rfl (by rfl) ⟨?_, fun W hW => ?_, ?_⟩; rotate_left; (· (have d0 := hW.kc f2; have d1 := hW.kc m0; go_simp; (try with_reducible rfl)))))); (try simp only [Act.put, zA, zB, zC]))
  refine run_end (L := []) rfl (fun W6 hW6 => ?_)
  have HT6 := zH (HT.out.trans hW6)
  clear hW6 HT
  have HT := HT6
  clear HT6
  go_wp2
  go_ret
  exact ⟨by rw [HF.out]; rfl, HS.out.trans HT.out⟩
 | false =>
  rw [q] at m0
  have HF := zH (show sellsB h b i d = withinB d (fromAt h i b.agency) (dateAt h i) by simp [sellsB, q])
  clear q
  repeat ((first | (refine run_off rfl rfl (by rfl) ?_) | (refine run_chain_off rfl rfl (by rfl) (K0_mono _) ?_) | ((refine run_want rfl rfl (by rfl) ⟨?_, fun W hW => ?_, ?_⟩; rotate_left; (· (have d0 := hW.kc f2; have d1 := hW.kc m0; have d2 := hW.kc e3; have d3 := hW.kc m1; have d4 := hW.kc f0; have d5 := hW.kc m2; have d6 := hW.kc e2; have d7 := hW.kc m3; go_simp; (try with_reducible rfl)))))); (try simp only [Act.put, zA, zB, zC]))
  refine run_chain rfl rfl (by rfl) (fun Wi hWi K' hK => ?_)
  have HTi := zH (HT.out.trans hWi)
  have HZW := zH HTi.out.size
  clear hWi HT
  go_simp
  refine (In_st _ _ _ _).mono ?_
  rintro e wn ⟨rfl, hSn⟩
  have HT := zH (HTi.out.trans (StepX.of hSn))
  clear HTi
  refine hK _ _ (StepX.of hSn) ?_
  clear hSn
  (try simp only [Act.put, zA, zB, zC])
  repeat ((first | (refine run_off rfl rfl (by rfl) ?_) | (refine run_chain_off rfl rfl (by rfl) (K0_mono _) ?_) | ((refine run_want rfl rfl (by rfl) ⟨?_, fun W hW => ?_, ?_⟩; rotate_left; (· (skip; go_simp; (try with_reducible rfl)))))); (try simp only [Act.put, zA, zB, zC]))
  refine run_end (L := []) rfl (fun W6 hW6 => ?_)
  have HT6 := zH (HT.out.trans hW6)
  clear hW6 HT
  have HT := HT6
  clear HT6
  go_wp2
  go_ret
  exact ⟨by rw [HF.out]; rfl, HS.out.trans HT.out⟩
theorem Agencies_any (S : Nat → Prop) (h : House) (v : Value) (w : World) (hv : AV S w v h) (hf : 0 < h.frm.length) :
  Calls Tryz.prog 59 #[v] w fun e w' => e = .returned (.int .i64 (agN h)) ∧ Step w w' := by
 obtain ⟨c0, c1, c2, c3, c4, rfl, h0, h1, h2, h3, h4⟩ := hv.house
 obtain ⟨p3, k3, b3, o3, rfl, _, m3, hp3, hc3, hb3⟩ := h3.rows
 obtain rfl := hp3 hf
 obtain ⟨u, e1, hu⟩ := hc3 0 hf
 have hb := hb3 hf
 obtain ⟨pu, ku, rfl⟩ := hu.form
 have hag := zH (agN_eq (h := h) hf)
 have e1 := (Keeps.alloc (S := fun _ => False) w (.cells #[c0, c1, c2, .slice (some ⟨b3, o3, none⟩) h.frm.length k3, c4] 26)).cell id e1
 simp only [Nat.add_zero] at e1
 have hix : (0 : Int) < (h.frm.length : Int) := by omega
 obtain ⟨p0, k0, rfl⟩ := h0.form
 obtain ⟨p1, k1, rfl⟩ := h1.form
 obtain ⟨p2, k2, rfl⟩ := h2.form
 obtain ⟨p4, k4, rfl⟩ := h4.form
 clear h0 h1 h2 h3 h4 hv hc3 hb3 hp3 hu
 go_enter Tryz.func59, Tryz.ntmps59
 go_wp2
 go_ret
 exact ⟨by rw [← hag.out]; rfl, Step.alloc _ _⟩
def classesL : List Sector → List Int
 | [] => []
 | s :: l => List.replicate s.seats.toNat s.cls ++ classesL l
theorem classesL_append : ∀ (a b : List Sector), classesL (a ++ b) = classesL a ++ classesL b
 | [], b => rfl
 | s :: l, b => by simp [classesL, classesL_append l b]
theorem classesL_take {l : List Sector} {k : Nat} (h : k < l.length) : classesL (l.take (k + 1)) = classesL (l.take k) ++ List.replicate l[k].seats.toNat l[k].cls := by
 rw [List.take_succ_eq_append_getElem h, classesL_append]
 simp [classesL]
theorem classesL_len : ∀ {l : List Sector}, (∀ i (h : i < l.length), 0 ≤ l[i].seats) → ((classesL l).length : Int) = sizeL l
 | [], _ => by simp [classesL, sizeL]
 | s :: l, hs => by
  have := classesL_len (l := l) (fun i hi => hs (i + 1) (by simpa using hi))
  have h0 := hs 0 (by simp)
  simp only [List.getElem_cons_zero] at h0
  simp only [classesL, List.length_append, List.length_replicate, sizeL, List.map_cons, List.sum_cons] at this ⊢
  omega
theorem classesL_bound {l : List Sector} (h : okSec l) (k : Nat) (hk : k ≤ l.length) : ((classesL (l.take k)).length : Int) ≤ 1000 * k := by
 rw [classesL_len (fun i hi => by rw [List.getElem_take]; exact (h.2 i (by simp at hi; omega)).1)]
 exact (sizeL_bound h k hk).2
theorem classesL_get : ∀ {l : List Sector} (hs : ∀ i (h : i < l.length), 0 ≤ l[i].seats) (n : Nat) (hn : n < (classesL l).length), (classesL l)[n] = classL l n
 | [], _, n, hn => by simp [classesL] at hn
 | s :: l, hs, n, hn => by
  have h0 := hs 0 (by simp)
  simp only [List.getElem_cons_zero] at h0
  have hs' : ∀ i (h : i < l.length), 0 ≤ l[i].seats := fun i hi => hs (i + 1) (by simpa using hi)
  unfold classL
  split
  ·next hlt =>
   simp only [classesL]
   rw [List.getElem_append_left (by simp; omega)]
   simp
  ·next hge =>
   have hn' : n - s.seats.toNat < (classesL l).length := by simp [classesL] at hn; omega
   have := classesL_get hs' (n - s.seats.toNat) hn'
   simp only [classesL]
   rw [List.getElem_append_right (by simp; omega)]
   simp only [List.length_replicate]
   rw [this]
   congr 1
   omega
theorem Classes_any (S : Nat → Prop) (h : House) (v : Value) (w : World) (hv : AV S w v h) (hs : okSec h.sectors) :
  Calls Tryz.prog 27 #[v] w fun e w' => ∃ v', e = .returned v' ∧ SL (Old w) w' v' (classesL h.sectors) ∧ Step w w' := by
 obtain ⟨c0, c1, c2, c3, c4, rfl, h0, h1, h2, h3, h4⟩ := hv.house
 obtain ⟨p0, k0, b0, o0, rfl, _, m0, hp0, hc0, hb0⟩ := h0.sectors
 obtain ⟨p1, k1, rfl⟩ := h1.form
 obtain ⟨p2, k2, rfl⟩ := h2.form
 obtain ⟨p3, k3, rfl⟩ := h3.form
 obtain ⟨p4, k4, rfl⟩ := h4.form
 obtain ⟨W0, hW0⟩ : ∃ W0, W0 = w.alloc (.cells #[.slice p0 h.sectors.length k0, .slice p1 h.prices.length k1, .slice p2 h.dates.length k2, .slice p3 h.frm.length k3, .slice p4 h.holds.length k4] 26) := ⟨_, rfl⟩
 have hbx : Bx W0 w.heap.size [.slice p0 h.sectors.length k0, .slice p1 h.prices.length k1, .slice p2 h.dates.length k2, .slice p3 h.frm.length k3, .slice p4 h.holds.length k4] 26 := by subst hW0; exact Bx.new _ _ _
 have hS : Step w W0 := by subst hW0; exact (by with_reducible repeat (first | assumption | exact Step.refl _ | apply Step.s_alloc | apply Step.s_drew | apply Step.s_drewN | refine Step.trans ?_ (by assumption)))
 have hz : W0.heap.size = w.heap.size + 1 := by subst hW0; simp
 have HB := zH hbx
 have HS := zH hS
 have H0 := zH (And.intro hp0 hc0)
 have HW := zH hW0
 have HZ := zH hz
 have HK := zH hs
 clear h0 h1 h2 h3 h4 hv hbx hS hp0 hc0 hb0 hW0 hz hs
 go_enter Tryz.func27, Tryz.ntmps27
 go_wp2
 go_loopw [3, 4] (fun out i wr => ∃ k : Nat, k ≤ h.sectors.length ∧ i = .int .i64 k ∧ OwnL (Old W0) W0.heap.size 3 wr out (classesL (h.sectors.take k)) ∧ Below W0.heap.size W0 wr) (fun _ i _ => h.sectors.length - (intOf i).toNat)
 case atStart => exact ⟨0, Nat.zero_le _, rfl, OwnL.nil _ _ _ _, by rw [HW.out]; exact Below.refl _ _⟩
 case round =>
  obtain ⟨k, hk, rfl, hown, hB⟩ := hrel
  have HT := zH (Step.of hB)
  obtain ⟨e0, e1, e2, e3, e4⟩ := cells5 (HB.out.step HT.out)
  have HO := zH hown
  have HBL := zH hB
  clear hB
  obtain ⟨pu, cu, rfl, _⟩ := hown.form
  clear hown
  by_cases hlt : k < h.sectors.length
  ·obtain rfl := H0.out.1 (by omega)
   have hix : (0 : Int) ≤ (k : Int) ∧ (k : Int) < (h.sectors.length : Int) := by omega
   go_wp2
   obtain ⟨wo, hwo⟩ : ∃ W, W = wr := ⟨_, rfl⟩
   subst hwo
   clear e0 e1 e2 e3 e4
   go_loopw [3, 5] (fun out i wr => ∃ j : Nat, (j : Int) ≤ h.sectors[k].seats ∧ i = .int .i64 j ∧ OwnL (Old W0) W0.heap.size 3 wr out (classesL (h.sectors.take k) ++ List.replicate j h.sectors[k].cls) ∧ Below W0.heap.size W0 wr) (fun _ i _ => h.sectors[k].seats.toNat - (intOf i).toNat)
   case atStart => exact ⟨0, (HK.out.2 k hlt).1, rfl, by simpa using HO.out, HBL.out⟩
   case round =>
    obtain ⟨j, hj, rfl, hown, hB⟩ := hrel
    have HT := zH (Step.of hB)
    obtain ⟨e0, e1, e2, e3, e4⟩ := cells5 (HB.out.step HT.out)
    have HO2 := zH hown
    have HB2 := zH hB
    clear hB
    obtain ⟨a1, a2⟩ := H0.out.2 k hlt
    have a1 := (HS.out.trans HT.out).kc a1
    have a2 := (HS.out.trans HT.out).kc a2
    have hbound := classesL_bound HK.out k hk
    have hkb := HK.out.1
    have hsb := (HK.out.2 k hlt).2
    obtain ⟨pv, cv, rfl, _⟩ := hown.form
    clear hown
    by_cases hj2 : (j : Int) < h.sectors[k].seats
    ·have hN : ((classesL (h.sectors.take k) ++ List.replicate j h.sectors[k].cls).length : Nat) ≤ 1100000 := by simp only [List.length_append, List.length_replicate]; omega
     have HN := zH hN
     have hown6 := HO2.out.alloc (.cells #[.int .i64 h.sectors[k].cls] 3)
     have hu := SLe.one (S := avoid (Old W0) (.slice pv (classesL (h.sectors.take k) ++ List.replicate j h.sectors[k].cls).length cv)) (w := wr) (cs := [.int .i64 h.sectors[k].cls]) (x := h.sectors[k].cls) 3 rfl
     have hz6 : W0.heap.size ≤ (wr.alloc (.cells #[.int .i64 h.sectors[k].cls] 3)).heap.size := by have := HB2.out.size; simp; omega
     have hl6 : (classesL (h.sectors.take k) ++ List.replicate j h.sectors[k].cls) ++ [h.sectors[k].cls] = classesL (h.sectors.take k) ++ List.replicate (j + 1) h.sectors[k].cls := by rw [List.append_assoc, ← List.replicate_succ']
     have HL6 := zH hl6
     clear hN hl6 hbound
     generalize hLL : classesL (h.sectors.take k) ++ List.replicate j h.sectors[k].cls = LL at *
     go_wp2_with (at_builtin; refine wpl_append (α := Int) (S := Old W0) (base := W0.heap.size) (v := .slice pv LL.length cv) (l := LL) (m := [h.sectors[k].cls]) eiInts rfl _ _ rfl rfl rfl hown6 hu (LL.length + 1) (by simp) (LL ++ [h.sectors[k].cls]) rfl ?_ ?_ hz6 ?_)
     ·have := HN.out; simp only [maxLen]; omega
     ·have := HN.out; omega
     intro p' c' w7 hown7 hg7
     have hB7 := (HB2.out.alloc HB2.out.size (.cells #[.int .i64 h.sectors[k].cls] 3)).grown hg7 hz6 (fun g hg => (HO2.out.lt g hg).1)
     have H7 := zH (And.intro hown7 hB7)
     clear hown6 hu hz6 hown7 hg7 hB7 e0 e1 e2 e3 e4 a1 a2
     go_wp2
     go_roundw
     case rel => exact ⟨j + 1, by omega, by go_num, by rw [← HL6.out]; exact H7.out.1, H7.out.2⟩
     case measure => simp [intOf]; omega
    ·go_wp2
     go_roundw
     case rel =>
      refine ⟨k + 1, by omega, by go_num, ?_, HB2.out⟩
      rw [classesL_take hlt, show h.sectors[k].seats.toNat = j by omega]
      exact HO2.out
     case measure => simp [intOf]; omega
  ·have hkl : h.sectors.take k = h.sectors := List.take_of_length_le (by omega)
   have hfin := HO.out.fresh.weak (T := Old w) (fun j _ hj => by have := HZ.out; unfold Old at hj ⊢; omega)
   rw [hkl] at hfin
   go_wp2
   go_ret
   refine ⟨_, rfl, ?_, HS.out.trans HT.out⟩
   rw [hkl]
   exact hfin
theorem Cash_any (S : Nat → Prop) (h : House) (b : Book) (v u : Value) (w : World) (hv : AV S w v h) (hu : AV S w u b) (hok : valid h = true) (hl : b.seats.length ≤ 1000) (hrow : ∀ i (hi : i < b.seats.length), (b.seats[i].length : Int) = sizeL h.sectors) :
  Calls Tryz.prog 109 #[v, u] w fun e w' => e = .returned (.int .i64 (cashL h b.seats)) ∧ Step w w' := by
 obtain ⟨cs, rfl, hr0⟩ := hv
 have hr := hr0
 obtain ⟨c0, c1, c2, c3, c4, rfl, h0, h1, h2, h3, h4⟩ := hr
 obtain ⟨p0, k0, rfl⟩ := h0.form
 obtain ⟨p1, k1, b1, o1, rfl, _, m1', hp1, hc1, _⟩ := h1.ints
 obtain ⟨p2, k2, rfl⟩ := h2.form
 obtain ⟨p3, k3, rfl⟩ := h3.form
 obtain ⟨p4, k4, rfl⟩ := h4.form
 obtain ⟨d1, d2, d4, rfl, s1, s2, s4⟩ := hu.book
 obtain ⟨q1, m1, bb, o, rfl, _, hm, hp, hc, hb⟩ := s1.rows
 obtain ⟨q2, m2, rfl⟩ := s2.form
 obtain ⟨q4, m4, rfl⟩ := s4.form
 obtain ⟨W0, hW0⟩ : ∃ W0, W0 = (w.alloc (.cells #[.slice p0 h.sectors.length k0, .slice p1 h.prices.length k1, .slice p2 h.dates.length k2, .slice p3 h.frm.length k3, .slice p4 h.holds.length k4] 26)).alloc (.cells #[.int .i64 b.agency, .slice q1 b.seats.length m1, .slice q2 b.off.length m2, .int .i64 b.sent, .slice q4 b.took.length m4, .int .i64 b.cash] 56) := ⟨_, rfl⟩
 have hbx : Bx W0 w.heap.size [.slice p0 h.sectors.length k0, .slice p1 h.prices.length k1, .slice p2 h.dates.length k2, .slice p3 h.frm.length k3, .slice p4 h.holds.length k4] 26 := by subst hW0; exact (Bx.new _ _ _).alloc _
 have hb2 : Bx W0 (w.heap.size + 1) [.int .i64 b.agency, .slice q1 b.seats.length m1, .slice q2 b.off.length m2, .int .i64 b.sent, .slice q4 b.took.length m4, .int .i64 b.cash] 56 := by subst hW0; exact Bx.new' _ _ _ _ (by simp)
 have hS : Step w W0 := by subst hW0; exact (by with_reducible repeat (first | assumption | exact Step.refl _ | apply Step.s_alloc | apply Step.s_drew | apply Step.s_drewN | refine Step.trans ?_ (by assumption)))
 have HB1 := zH hbx
 have HB2 := zH hb2
 have HR := zH (Rep.keep (.of_step hS) hr0)
 have HS := zH hS
 have HP1 := zH (And.intro hp1 hc1)
 have HP := zH (And.intro hp hc)
 have HROW := zH hrow
 have HL := zH (And.intro hok hl)
 have HT := zH (Step.refl W0)
 clear hr0 h0 h1 h2 h3 h4 hbx hb2 hS hu s1 s2 s4 hp1 hc1 hp hc hb hrow hok hl
 have HW := zH hW0
 clear hW0
 go_enter Tryz.func109, Tryz.ntmps109
 go_upto_region 1 with fail
 rw [← HW.out]
 (try clear e0 e1 e2 e3 e4 f0 f1 f2 f3 f4 f5 y1 y2)
 obtain ⟨e0, e1, e2, e3, e4⟩ := cells5 (HB1.out.step HT.out)
 obtain ⟨f0, f1, f2, f3, f4, f5⟩ := cells6 (HB2.out.step HT.out)
 have y1 := (HB1.out.step HT.out).lt
 have y2 := (HB2.out.step HT.out).lt
 go_wp2_with fail
 refine (Classes_any S h _ _ ⟨_, rfl, HR.out⟩ (okSec_valid HL.out.1)).mono ?_
 rintro e wn ⟨vc, rfl, hvc, hSn⟩
 obtain ⟨pc, kc, bc, oc, rfl, _, mc, hpc, hcc, _⟩ := hvc.ints
 have hlc : ((classesL h.sectors).length : Int) = sizeL h.sectors := classesL_len (fun i hi => ((okSec_valid HL.out.1).2 i hi).1)
 have HC := zH (And.intro hpc hcc)
 have HLC := zH hlc
 have HN := zH hSn
 clear hvc hpc hcc hlc hSn HT
 (try clear e0 e1 e2 e3 e4 f0 f1 f2 f3 f4 f5 y1 y2)
 go_wp2
 go_loopw [5, 7] (fun s i wr => ∃ k : Nat, k ≤ b.seats.length ∧ i = .int .i64 k ∧ s = .int .i64 (cashTo h b.seats k) ∧ Step wn wr) (fun _ i _ => b.seats.length - (intOf i).toNat)
 case atStart => exact ⟨0, Nat.zero_le _, rfl, rfl, Step.refl _⟩
 case round =>
  obtain ⟨k, hk, rfl, rfl, hT⟩ := hrel
  have HTn := zH hT
  have HT := zH (HN.out.trans hT)
  clear hT
  (try clear e0 e1 e2 e3 e4 f0 f1 f2 f3 f4 f5 y1 y2)
  obtain ⟨e0, e1, e2, e3, e4⟩ := cells5 (HB1.out.step HT.out)
  obtain ⟨f0, f1, f2, f3, f4, f5⟩ := cells6 (HB2.out.step HT.out)
  have y1 := (HB1.out.step HT.out).lt
  have y2 := (HB2.out.step HT.out).lt
  by_cases hlt : k < b.seats.length
  ·obtain rfl := HP.out.1 (by omega)
   obtain ⟨x, rg, hx⟩ := HP.out.2 k hlt
   obtain ⟨pu, cu, bu, ou, rfl, _, _, hpu, hcu, _⟩ := hx.ints
   have HG := zH rg
   have HU := zH (And.intro hpu hcu)
   clear hx hpu hcu rg
   have g := (HS.out.trans HT.out).kc HG.out
   have hix : (0 : Int) ≤ (k : Int) ∧ (k : Int) < (b.seats.length : Int) := by omega
   have hcb := cashTo_bound HL.out.1 HROW.out k hk
   have hl := HL.out.2
   go_wp2
   obtain ⟨wo, hwo⟩ : ∃ W, W = wr := ⟨_, rfl⟩
   subst hwo
   clear e0 e1 e2 e3 e4 f0 f1 f2 f3 f4 f5 y1 y2 g
   go_loopw [5, 8] (fun s i wi => ∃ k2 : Nat, k2 ≤ b.seats[k].length ∧ i = .int .i64 k2 ∧ s = .int .i64 (cashTo h b.seats k + rowCash h b.seats[k] k2) ∧ Step wn wi) (fun _ i _ => b.seats[k].length - (intOf i).toNat)
   case atStart => exact ⟨0, Nat.zero_le _, rfl, by simp [rowCash], HTn.out⟩
   case round =>
    obtain ⟨k2, hk2, rfl, rfl, hT⟩ := hrel
    have HTn := zH hT
    have HT := zH (HN.out.trans hT)
    clear hT
    (try clear e0 e1 e2 e3 e4 f0 f1 f2 f3 f4 f5 y1 y2)
    obtain ⟨e0, e1, e2, e3, e4⟩ := cells5 (HB1.out.step HT.out)
    obtain ⟨f0, f1, f2, f3, f4, f5⟩ := cells6 (HB2.out.step HT.out)
    have y1 := (HB1.out.step HT.out).lt
    have y2 := (HB2.out.step HT.out).lt
    have g := (HS.out.trans HT.out).kc HG.out
    have hrb := rowCash_bound HL.out.1 b.seats[k] k2 (by have := HROW.out k hlt; omega)
    have hsz := (bounds_valid HL.out.1).2.2.2.2.2.2.2.1
    have hkk : (k2 : Int) ≤ 100 := by have := HROW.out k hlt; omega
    by_cases hlt2 : k2 < b.seats[k].length
    ·obtain rfl := HU.out.1 (by omega)
     have ga := (HS.out.trans HT.out).kc (HU.out.2 k2 hlt2)
     have hlcl : k2 < (classesL h.sectors).length := by have := HLC.out; have := HROW.out k hlt; omega
     have hix2 : (0 : Int) ≤ (k2 : Int) ∧ (k2 : Int) < (b.seats[k].length : Int) := by omega
     have hix3 : (0 : Int) ≤ (k2 : Int) ∧ (k2 : Int) < ((classesL h.sectors).length : Int) := by omega
     have hg : b.seats[k].getD k2 0 = b.seats[k][k2] := by simp [List.getD_eq_getElem?_getD, hlt2]
     have HGD := zH hg
     clear hg
     by_cases hpos : 0 < b.seats[k][k2]
     ·obtain ⟨kc, hkc, hkl, hpr, hp0, hp1⟩ := class_valid HL.out.1 (n := k2) (by omega) (by have := HROW.out k hlt; omega)
      obtain rfl := HC.out.1 (by omega)
      obtain rfl := HP1.out.1 (by omega)
      have gc := HTn.out.kc (HC.out.2 k2 hlcl)
      rw [classesL_get (fun i hi => ((okSec_valid HL.out.1).2 i hi).1) k2 hlcl, hkc] at gc
      have gp := (HS.out.trans HT.out).kc (HP1.out.2 kc hkl)
      have hix4 : (0 : Int) ≤ (kc : Int) ∧ (kc : Int) < (h.prices.length : Int) := by omega
      have hstep : rowCash h b.seats[k] (k2 + 1) = rowCash h b.seats[k] k2 + h.prices[kc] := by
       rw [rowCash_succ, HGD.out, if_pos hpos, hpr]
      have HST := zH hstep
      clear hkc hpr hstep
      go_wp2
      go_quiet (fail)
      go_wp2
      go_roundw
      case rel => exact ⟨k2 + 1, by omega, by go_num, by rw [HST.out, Int.add_assoc], HTn.out.trans (Step.drewN _ _)⟩
      case measure => simp [intOf]; omega
     ·have hstep : rowCash h b.seats[k] (k2 + 1) = rowCash h b.seats[k] k2 := by
       rw [rowCash_succ, HGD.out, if_neg hpos, Int.add_zero]
      have HST := zH hstep
      clear hstep
      go_wp2
      go_roundw
      case rel => exact ⟨k2 + 1, by omega, by go_num, by rw [HST.out], HTn.out⟩
      case measure => simp [intOf]; omega
    ·have hge : b.seats.getD k [] = b.seats[k] := by simp [List.getD_eq_getElem?_getD, hlt]
     have hkk2 : k2 = b.seats[k].length := by omega
     have hstep : cashTo h b.seats (k + 1) = cashTo h b.seats k + rowCash h b.seats[k] k2 := by
      rw [hkk2]
      show cashTo h b.seats k + rowCash h (b.seats.getD k []) (b.seats.getD k []).length = _
      rw [hge]
     have HST := zH hstep
     clear hstep hge hkk2
     go_wp2
     go_roundw
     case rel => exact ⟨k + 1, by omega, by go_num, by rw [HST.out], HTn.out⟩
     case measure => simp [intOf]; omega
  ·have hkk : k = b.seats.length := by omega
   have hfin : cashTo h b.seats k = cashL h b.seats := by rw [hkk]; rfl
   have HF := zH hfin
   clear hfin hkk
   go_wp2
   go_ret
   rw [HF.out]
   exact ⟨rfl, HS.out.trans HT.out⟩
structure BParts (h : House) (b : Book) : Prop where
 ag : withinB b.agency 0 (agN h - 1) = true
 seats : b.seats.length = h.dates.length
 off : b.off.length = h.dates.length
 sent : withinB b.sent 0 1000 = true
 tk : b.took.length ≤ 1000
 rows : b.seats.all (rowB (sizeL h.sectors)) = true
 cash : b.cash = cashL h b.seats
 took : tookB h b = true
theorem bookB_parts {h : House} {b : Book} (hv : bookB h b = true) : BParts h b := by
 simp only [bookB, bookA, Bool.and_eq_true, decide_eq_true_eq] at hv
 obtain ⟨⟨⟨⟨⟨⟨⟨h1, h2⟩, h3⟩, h4⟩, h5⟩, h6⟩, h7⟩, h8⟩ := hv
 exact ⟨h1, h3, h2, h4, h5, h6, h7, h8⟩
theorem bookB_of {h : House} {b : Book} (p : BParts h b) : bookB h b = true := by
 simp only [bookB, bookA, Bool.and_eq_true, decide_eq_true_eq]
 exact ⟨⟨⟨⟨⟨⟨⟨p.ag, p.off⟩, p.seats⟩, p.sent⟩, p.tk⟩, p.rows⟩, p.cash⟩, p.took⟩
theorem bookB_not {h : House} {b : Book} (hn : BParts h b → False) : bookB h b = false := by
 cases q : bookB h b with
 | false => rfl
 | true => exact (hn (bookB_parts q)).elim
theorem ikey_at {h : House} {b : Book} {i : Nat} (hi : i < (idxKeys b.took).length) (hi' : i < b.took.length) : ikeyB h b (idxKeys b.took)[i] = (!decide (b.took[i] ∈ b.took.take i) && keyB h b.agency b.took[i]) := by
 have hx : (idxKeys b.took)[i] = ⟨i, b.took[i].frm, b.took[i].number⟩ := by simp [idxKeys]
 rw [hx]; rfl
theorem took_not {h : House} {b : Book} {i : Nat} (hi' : i < b.took.length) (hn : (!decide (b.took[i] ∈ b.took.take i) && keyB h b.agency b.took[i]) = false) (p : BParts h b) : False := by
 have hi : i < (idxKeys b.took).length := by rw [idxKeys_len]; exact hi'
 have := all_at p.took hi
 rw [ikey_at hi hi', hn] at this
 cases this
theorem mem_snoc {k2 k : Nat} {l : List Key} (h2 : k2 < l.length) {x : Key} (ht : x ∉ l.take k2) (hne : l[k2] ≠ x) : x ∉ l.take (k2 + 1) := by
 rw [List.take_succ_eq_append_getElem h2]
 simp only [List.mem_append, List.mem_singleton, not_or]
 exact ⟨ht, fun e => hne e.symm⟩
theorem mem_at {k2 k : Nat} {l : List Key} (h2 : k2 < l.length) (hk : k2 < k) : l[k2] ∈ l.take k := by
 rw [List.mem_take_iff_getElem]
 exact ⟨k2, by omega, rfl⟩
theorem RightBook_any (S : Nat → Prop) (h : House) (b : Book) (v u : Value) (w : World) (hv : AV S w v h) (hu : AV S w u b) (hok : valid h = true) :
  Calls Tryz.prog 60 #[v, u] w fun e w' => e = .returned (.bool (bookB h b)) ∧ Step w w' := by
 obtain ⟨cs, rfl, hr0⟩ := hv
 have hr := hr0
 obtain ⟨c0, c1, c2, c3, c4, rfl, h0, h1, h2, h3, h4⟩ := hr
 obtain ⟨p0, k0, rfl⟩ := h0.form
 obtain ⟨p1, k1, rfl⟩ := h1.form
 obtain ⟨p2, k2, rfl⟩ := h2.form
 obtain ⟨p3, k3, rfl⟩ := h3.form
 obtain ⟨p4, k4, b4, o4, rfl, _, m4, hp4, hc4, hb4⟩ := h4.rows
 obtain ⟨cs, rfl, hq0⟩ := hu
 have hq := hq0
 obtain ⟨d1, d2, d4, rfl, s1, s2, s4⟩ := hq
 obtain ⟨q1, m1, bs, os, rfl, _, n1, hp1, hc1, hb1⟩ := s1.rows
 obtain ⟨q2, m2, rfl⟩ := s2.form
 obtain ⟨q4, m5, bt, ot, rfl, _, n4, hpt, hct, hbt⟩ := s4.keys
 have n2 := s2.len
 have hbv := bounds_valid hok
 have HBV := zH hbv
 have hwa : IntKind.i64.wrap ((agN h : Int) - 1) = (agN h : Int) - 1 := by rw [IntKind.wrap_i64]; omega
 have hP := valid_parts hok
 have hf0 : 0 < h.frm.length := by omega
 have hh0 : 0 < h.holds.length := by omega
 have hhz : (h.holds[0].length : Int) = sizeL h.sectors := by have := all_at hP.hols hh0; simp [holdsB] at this; exact this.1
 obtain ⟨W0, hW0⟩ : ∃ W0, W0 = (w.alloc (.cells #[.slice p0 h.sectors.length k0, .slice p1 h.prices.length k1, .slice p2 h.dates.length k2, .slice p3 h.frm.length k3, .slice p4 h.holds.length k4] 26)).alloc (.cells #[.int .i64 b.agency, .slice q1 b.seats.length m1, .slice q2 b.off.length m2, .int .i64 b.sent, .slice q4 b.took.length m5, .int .i64 b.cash] 56) := ⟨_, rfl⟩
 have hbx : Bx W0 w.heap.size [.slice p0 h.sectors.length k0, .slice p1 h.prices.length k1, .slice p2 h.dates.length k2, .slice p3 h.frm.length k3, .slice p4 h.holds.length k4] 26 := by subst hW0; exact (Bx.new _ _ _).alloc _
 have hb2 : Bx W0 (w.heap.size + 1) [.int .i64 b.agency, .slice q1 b.seats.length m1, .slice q2 b.off.length m2, .int .i64 b.sent, .slice q4 b.took.length m5, .int .i64 b.cash] 56 := by subst hW0; exact Bx.new' _ _ _ _ (by simp)
 have hS : Step w W0 := by subst hW0; exact (by with_reducible repeat (first | assumption | exact Step.refl _ | apply Step.s_alloc | apply Step.s_drew | apply Step.s_drewN | refine Step.trans ?_ (by assumption)))
 obtain rfl := hp4 hh0
 obtain ⟨uz, gz, huz⟩ := hc4 0 hh0
 obtain ⟨pz, kz, rfl⟩ := huz.form
 simp only [Nat.add_zero] at gz
 have HB1 := zH hbx
 have HB2 := zH hb2
 have HR := zH (Rep.keep (.of_step hS) hr0)
 have HQ := zH (Rep.keep (.of_step hS) hq0)
 have HS := zH hS
 have HP1 := zH (And.intro hp1 hc1)
 have HPT := zH (And.intro hpt hct)
 have HGZ := zH gz
 have HHZ := zH hhz
 have HOK := zH hok
 have HWA := zH hwa
 have HT := zH (Step.refl W0)
 have HW := zH hW0
 have hagb : 1 ≤ agN h ∧ agN h ≤ 6 := by have := hP.ag; simp [withinB] at this; omega
 have hh0i : (0 : Int) < (h.holds.length : Int) := by omega
 clear hr0 hq0 h0 h1 h2 h3 h4 s1 s2 s4 hbx hb2 hS hp1 hc1 hb1 hpt hct hbt hc4 hp4 hb4 huz gz hhz hok hwa hW0 hbv hP
 go_enter Tryz.func60, Tryz.ntmps60
 go_upto_region 1 with fail
 rw [← HW.out]
 refine wp_region_seq (kdOf [3, 5, 28] []) (0 :: 1 :: 0 :: 4 :: 12 :: 31 :: 63 :: 127 :: 255 :: 511 :: 1023 :: 255 :: 2303 :: 6399 :: 16383 :: 32767 :: 65535 :: 131071 :: 262143 :: 524287 :: 131071 :: 1179647 :: 3276799 :: 8388607 :: 16777215 :: 33554431 :: 67108863 :: 134217727 :: 268435455 :: 536870911 :: 1073741823 :: 2147483647 :: 4294967295 :: 8589934591 :: 17179869183 :: 34359738367 :: 68719476735 :: []) (0 :: 1 :: 2 :: 3 :: 4 :: 5 :: 6 :: 7 :: 8 :: 9 :: 10 :: 11 :: 12 :: 13 :: 14 :: 15 :: 16 :: 17 :: 18 :: 19 :: 20 :: 21 :: 22 :: 23 :: 24 :: 25 :: 26 :: 27 :: 28 :: 29 :: 30 :: 31 :: 32 :: 33 :: 34 :: 35 :: 36 :: []) [] (by kernel_rfl) (by kernel_rfl) (fun i T z hi hk => by simp [kdOf] at hk <;> (try (split at hk <;> cases hk))) ?_
 intro Wx hWx
 have HTx := zH (HT.out.trans hWx)
 clear hWx HT
 have HT := HTx
 clear HTx
 (try clear e0 e1 e2 e3 e4 f0 f1 f2 f3 f4 f5 y1 y2)
 obtain ⟨e0, e1, e2, e3, e4⟩ := cells5 (HB1.out.step HT.out)
 obtain ⟨f0, f1, f2, f3, f4, f5⟩ := cells6 (HB2.out.step HT.out)
 have y1 := (HB1.out.step HT.out).lt
 have y2 := (HB2.out.step HT.out).lt
 repeat ((first | (refine run_off rfl rfl (by rfl) ?_) | (refine run_chain_off rfl rfl (by rfl) (K0_mono _) ?_) | ((refine run_want rfl rfl (by rfl) ⟨?_, fun W hW => ?_, ?_⟩; rotate_left; (· (have d0 := hW.kc f0; have d1 := hW.kc e0; have d2 := hW.kc e1; have d3 := hW.kc e2; have d4 := hW.kc e3; have d5 := hW.kc e4; go_simp; (try with_reducible rfl)))))); (try simp only [Act.put, zA, zB, zC]))
 refine run_chain rfl rfl (by rfl) (fun Wi hWi K' hK => ?_)
 have HTi := zH (HT.out.trans hWi)
 have HZW := zH HTi.out.size
 clear hWi HT
 go_simp
 refine (Agencies_any S h _ _ ⟨_, rfl, Rep.keep (.of_step HTi.out) HR.out⟩ hf0).mono ?_
 rintro e wn ⟨rfl, hSn⟩
 have HT := zH (HTi.out.trans (StepX.of hSn))
 clear HTi
 refine hK _ _ (StepX.of hSn) ?_
 clear hSn
 (try simp only [Act.put, zA, zB, zC])
 have hwa := HWA.out
 repeat ((first | (refine run_off rfl rfl (by rfl) ?_) | (refine run_chain_off rfl rfl (by rfl) (K0_mono _) ?_) | ((refine run_want rfl rfl (by rfl) ⟨?_, fun W hW => ?_, ?_⟩; rotate_left; (· (skip; go_simp; (try with_reducible rfl)))))); (try simp only [Act.put, zA, zB, zC]))
 clear hwa
 refine run_chain rfl rfl (by rfl) (fun Wi hWi K' hK => ?_)
 have HTi := zH (HT.out.trans hWi)
 have HZW := zH HTi.out.size
 clear hWi HT
 go_simp
 refine (In_st _ _ _ _).mono ?_
 rintro e wn ⟨rfl, hSn⟩
 have HT := zH (HTi.out.trans (StepX.of hSn))
 clear HTi
 cases q : withinB b.agency 0 ((agN h : Int) - 1) with
 | false =>
  have q := zH q
  refine hK _ _ (StepX.of hSn) ?_
  clear hSn
  (try simp only [Act.put, zA, zB, zC])
  have HF := zH (bookB_not (h := h) (b := b) fun p => t_of_ff q.out p.ag)
  (try clear e0 e1 e2 e3 e4 f0 f1 f2 f3 f4 f5 y1 y2)
  obtain ⟨e0, e1, e2, e3, e4⟩ := cells5 (HB1.out.step HT.out)
  obtain ⟨f0, f1, f2, f3, f4, f5⟩ := cells6 (HB2.out.step HT.out)
  have y1 := (HB1.out.step HT.out).lt
  have y2 := (HB2.out.step HT.out).lt
  repeat ((first | (refine run_off rfl rfl (by rfl) ?_) | (refine run_chain_off rfl rfl (by rfl) (K0_mono _) ?_) | ((refine run_want rfl rfl (by rfl) ⟨?_, fun W hW => ?_, ?_⟩; rotate_left; (· (have d0 := hW.kc f0; have d1 := hW.kc f1; have d2 := hW.kc f2; have d3 := hW.kc f3; have d4 := hW.kc f4; have d5 := hW.kc e2; have d6 := hW.kc e3; go_simp; (try with_reducible rfl)))))); (try simp only [Act.put, zA, zB, zC]))
  refine run_end (L := []) rfl (fun W6 hW6 => ?_)
  have HT6 := zH (HT.out.trans hW6)
  clear hW6 HT
  have HT := HT6
  clear HT6
  go_wp2
  go_ret
  exact ⟨by rw [HF.out]; rfl, HS.out.trans HT.out⟩
 | true =>
 have HQA := zH q
 clear q
 refine hK _ _ (StepX.of hSn) ?_
 clear hSn
 (try simp only [Act.put, zA, zB, zC])
 by_cases qs : b.seats.length = h.dates.length
 rotate_left
 ·have qsd : ((b.seats.length : Int) != (h.dates.length : Int)) = true := by simp; omega
  have qs := zH qs
  have HF := zH (bookB_not (h := h) (b := b) fun p => qs.out p.seats)
  (try clear e0 e1 e2 e3 e4 f0 f1 f2 f3 f4 f5 y1 y2)
  obtain ⟨e0, e1, e2, e3, e4⟩ := cells5 (HB1.out.step HT.out)
  obtain ⟨f0, f1, f2, f3, f4, f5⟩ := cells6 (HB2.out.step HT.out)
  have y1 := (HB1.out.step HT.out).lt
  have y2 := (HB2.out.step HT.out).lt
  repeat ((first | (refine run_off rfl rfl (by rfl) ?_) | (refine run_chain_off rfl rfl (by rfl) (K0_mono _) ?_) | ((refine run_want rfl rfl (by rfl) ⟨?_, fun W hW => ?_, ?_⟩; rotate_left; (· (have d0 := hW.kc f0; have d1 := hW.kc f1; have d2 := hW.kc f2; have d3 := hW.kc f3; have d4 := hW.kc f4; have d5 := hW.kc e2; have d6 := hW.kc e3; go_simp; (try with_reducible rfl)))))); (try simp only [Act.put, zA, zB, zC]))
  refine run_end (L := []) rfl (fun W6 hW6 => ?_)
  have HT6 := zH (HT.out.trans hW6)
  clear hW6 HT
  have HT := HT6
  clear HT6
  go_wp2
  go_ret
  exact ⟨by rw [HF.out]; rfl, HS.out.trans HT.out⟩
 have qsd : ((b.seats.length : Int) != (h.dates.length : Int)) = false := by simp; omega
 have HQS := zH qs
 clear qs
 by_cases qo : b.off.length = h.dates.length
 rotate_left
 ·have qod : ((b.off.length : Int) != (h.dates.length : Int)) = true := by simp; omega
  have qo := zH qo
  have HF := zH (bookB_not (h := h) (b := b) fun p => qo.out p.off)
  (try clear e0 e1 e2 e3 e4 f0 f1 f2 f3 f4 f5 y1 y2)
  obtain ⟨e0, e1, e2, e3, e4⟩ := cells5 (HB1.out.step HT.out)
  obtain ⟨f0, f1, f2, f3, f4, f5⟩ := cells6 (HB2.out.step HT.out)
  have y1 := (HB1.out.step HT.out).lt
  have y2 := (HB2.out.step HT.out).lt
  repeat ((first | (refine run_off rfl rfl (by rfl) ?_) | (refine run_chain_off rfl rfl (by rfl) (K0_mono _) ?_) | ((refine run_want rfl rfl (by rfl) ⟨?_, fun W hW => ?_, ?_⟩; rotate_left; (· (have d0 := hW.kc f0; have d1 := hW.kc f1; have d2 := hW.kc f2; have d3 := hW.kc f3; have d4 := hW.kc f4; have d5 := hW.kc e2; have d6 := hW.kc e3; go_simp; (try with_reducible rfl)))))); (try simp only [Act.put, zA, zB, zC]))
  refine run_end (L := []) rfl (fun W6 hW6 => ?_)
  have HT6 := zH (HT.out.trans hW6)
  clear hW6 HT
  have HT := HT6
  clear HT6
  go_wp2
  go_ret
  exact ⟨by rw [HF.out]; rfl, HS.out.trans HT.out⟩
 have qod : ((b.off.length : Int) != (h.dates.length : Int)) = false := by simp; omega
 have HQO := zH qo
 clear qo
 (try clear e0 e1 e2 e3 e4 f0 f1 f2 f3 f4 f5 y1 y2)
 obtain ⟨e0, e1, e2, e3, e4⟩ := cells5 (HB1.out.step HT.out)
 obtain ⟨f0, f1, f2, f3, f4, f5⟩ := cells6 (HB2.out.step HT.out)
 have y1 := (HB1.out.step HT.out).lt
 have y2 := (HB2.out.step HT.out).lt
 repeat ((first | (refine run_off rfl rfl (by rfl) ?_) | (refine run_chain_off rfl rfl (by rfl) (K0_mono _) ?_) | ((refine run_want rfl rfl (by rfl) ⟨?_, fun W hW => ?_, ?_⟩; rotate_left; (· (have d0 := hW.kc f1; have d1 := hW.kc f2; have d2 := hW.kc f3; have d3 := hW.kc e2; go_simp; (try with_reducible rfl)))))); (try simp only [Act.put, zA, zB, zC]))
 refine run_chain rfl rfl (by rfl) (fun Wi hWi K' hK => ?_)
 have HTi := zH (HT.out.trans hWi)
 have HZW := zH HTi.out.size
 clear hWi HT
 go_simp
 refine (In_st _ _ _ _).mono ?_
 rintro e wn ⟨rfl, hSn⟩
 have HT := zH (HTi.out.trans (StepX.of hSn))
 clear HTi
 cases q : withinB b.sent 0 1000 with
 | false =>
  have q := zH q
  refine hK _ _ (StepX.of hSn) ?_
  clear hSn
  (try simp only [Act.put, zA, zB, zC])
  have HF := zH (bookB_not (h := h) (b := b) fun p => t_of_ff q.out p.sent)
  (try clear e0 e1 e2 e3 e4 f0 f1 f2 f3 f4 f5 y1 y2)
  obtain ⟨e0, e1, e2, e3, e4⟩ := cells5 (HB1.out.step HT.out)
  obtain ⟨f0, f1, f2, f3, f4, f5⟩ := cells6 (HB2.out.step HT.out)
  have y1 := (HB1.out.step HT.out).lt
  have y2 := (HB2.out.step HT.out).lt
  repeat ((first | (refine run_off rfl rfl (by rfl) ?_) | (refine run_chain_off rfl rfl (by rfl) (K0_mono _) ?_) | ((refine run_want rfl rfl (by rfl) ⟨?_, fun W hW => ?_, ?_⟩; rotate_left; (· (have d0 := hW.kc f0; have d1 := hW.kc f1; have d2 := hW.kc f2; have d3 := hW.kc f3; have d4 := hW.kc f4; have d5 := hW.kc e2; have d6 := hW.kc e3; go_simp; (try with_reducible rfl)))))); (try simp only [Act.put, zA, zB, zC]))
  refine run_end (L := []) rfl (fun W6 hW6 => ?_)
  have HT6 := zH (HT.out.trans hW6)
  clear hW6 HT
  have HT := HT6
  clear HT6
  go_wp2
  go_ret
  exact ⟨by rw [HF.out]; rfl, HS.out.trans HT.out⟩
 | true =>
 have HQN := zH q
 clear q
 refine hK _ _ (StepX.of hSn) ?_
 clear hSn
 (try simp only [Act.put, zA, zB, zC])
 by_cases qt : b.took.length ≤ 1000
 rotate_left
 ·have qtd : decide ((1000 : Int) < (b.took.length : Int)) = true := by simp; omega
  have qt := zH qt
  have HF := zH (bookB_not (h := h) (b := b) fun p => qt.out p.tk)
  (try clear e0 e1 e2 e3 e4 f0 f1 f2 f3 f4 f5 y1 y2)
  obtain ⟨e0, e1, e2, e3, e4⟩ := cells5 (HB1.out.step HT.out)
  obtain ⟨f0, f1, f2, f3, f4, f5⟩ := cells6 (HB2.out.step HT.out)
  have y1 := (HB1.out.step HT.out).lt
  have y2 := (HB2.out.step HT.out).lt
  repeat ((first | (refine run_off rfl rfl (by rfl) ?_) | (refine run_chain_off rfl rfl (by rfl) (K0_mono _) ?_) | ((refine run_want rfl rfl (by rfl) ⟨?_, fun W hW => ?_, ?_⟩; rotate_left; (· (have d0 := hW.kc f0; have d1 := hW.kc f1; have d2 := hW.kc f2; have d3 := hW.kc f3; have d4 := hW.kc f4; have d5 := hW.kc e2; have d6 := hW.kc e3; go_simp; (try with_reducible rfl)))))); (try simp only [Act.put, zA, zB, zC]))
  refine run_end (L := []) rfl (fun W6 hW6 => ?_)
  have HT6 := zH (HT.out.trans hW6)
  clear hW6 HT
  have HT := HT6
  clear HT6
  go_wp2
  go_ret
  exact ⟨by rw [HF.out]; rfl, HS.out.trans HT.out⟩
 have qtd : decide ((1000 : Int) < (b.took.length : Int)) = false := by simp; omega
 (try clear e0 e1 e2 e3 e4 f0 f1 f2 f3 f4 f5 y1 y2)
 obtain ⟨e0, e1, e2, e3, e4⟩ := cells5 (HB1.out.step HT.out)
 obtain ⟨f0, f1, f2, f3, f4, f5⟩ := cells6 (HB2.out.step HT.out)
 have y1 := (HB1.out.step HT.out).lt
 have y2 := (HB2.out.step HT.out).lt
 repeat ((first | (refine run_off rfl rfl (by rfl) ?_) | (refine run_chain_off rfl rfl (by rfl) (K0_mono _) ?_) | ((refine run_want rfl rfl (by rfl) ⟨?_, fun W hW => ?_, ?_⟩; rotate_left; (· (have d0 := hW.kc f4; go_simp; (try with_reducible rfl)))))); (try simp only [Act.put, zA, zB, zC]))
 refine run_end (L := []) rfl (fun W6 hW6 => ?_)
 have HT6 := zH (HT.out.trans hW6)
 clear hW6 HT
 have HT := HT6
 clear HT6
 clear qsd qod qtd e0 e1 e2 e3 e4 f0 f1 f2 f3 f4 f5 y1 y2
 have HQT := zH qt
 clear qt
 go_wp2
 go_loopw [5] (fun i wr => ∃ k : Nat, k ≤ b.seats.length ∧ i = .int .i64 k ∧ (b.seats.take k).all (rowB (sizeL h.sectors)) = true ∧ Step W0 wr) (fun i _ => b.seats.length - (intOf i).toNat)
 case atStart => exact ⟨0, Nat.zero_le _, rfl, rfl, HT.out⟩
 case round =>
  obtain ⟨k, hk, rfl, ht, hT⟩ := hrel
  have HA := zH ht
  have HT := zH hT
  clear ht hT
  (try clear e0 e1 e2 e3 e4 f0 f1 f2 f3 f4 f5 y1 y2)
  obtain ⟨e0, e1, e2, e3, e4⟩ := cells5 (HB1.out.step HT.out)
  obtain ⟨f0, f1, f2, f3, f4, f5⟩ := cells6 (HB2.out.step HT.out)
  have y1 := (HB1.out.step HT.out).lt
  have y2 := (HB2.out.step HT.out).lt
  by_cases hlt : k < b.seats.length
  ·obtain rfl := HP1.out.1 (by omega)
   obtain ⟨x, rg, hx⟩ := HP1.out.2 k hlt
   obtain ⟨pu, cu, bu, ou, rfl, _, nu, hpu, hcu, _⟩ := hx.ints
   have HG := zH rg
   have HU := zH (And.intro hpu hcu)
   clear hx hpu hcu rg
   have a1 := (HS.out.trans HT.out).kc HG.out
   have gz := (HS.out.trans HT.out).kc HGZ.out
   have hix : (0 : Int) ≤ (k : Int) ∧ (k : Int) < (b.seats.length : Int) := by omega
   by_cases ql : b.seats[k].length = h.holds[0].length
   rotate_left
   ·have qld : ((b.seats[k].length : Int) != (h.holds[0].length : Int)) = true := by simp; omega
    have HQL := zH ql
    clear ql
    have HF := zH (bookB_not (h := h) (b := b) fun p => by
     have h1 := all_at p.rows hlt
     have h2 := HHZ.out
     simp [rowB] at h1
     exact HQL.out (by omega))
    go_wp2
    go_quiet (fail)
    go_wp2
    go_ret
    exact ⟨by rw [HF.out]; rfl, HS.out.trans (HT.out.trans (Step.drewN _ _))⟩
   have qld : ((b.seats[k].length : Int) != (h.holds[0].length : Int)) = false := by simp; omega
   have HQL := zH ql
   clear ql
   go_wp2
   go_quiet (fail)
   go_wp2
   clear qld a1 gz e0 e1 e2 e3 e4 f0 f1 f2 f3 f4 f5 y1 y2
   have HTd := zH (HT.out.trans (Step.drewN wr nq))
   obtain ⟨wo, hwo⟩ : ∃ W, W = wr := ⟨_, rfl⟩
   subst hwo
   go_loopw [6] (fun i wi => ∃ k2 : Nat, k2 ≤ b.seats[k].length ∧ i = .int .i64 k2 ∧ (b.seats[k].take k2).all (fun x => withinB x (-1) 1000000) = true ∧ Step W0 wi) (fun i _ => b.seats[k].length - (intOf i).toNat)
   case atStart => exact ⟨0, Nat.zero_le _, rfl, rfl, HTd.out⟩
   case round =>
    obtain ⟨k2, hk2, rfl, ht, hT⟩ := hrel
    have HI := zH ht
    have HT := zH hT
    clear ht hT
    (try clear e0 e1 e2 e3 e4 f0 f1 f2 f3 f4 f5 y1 y2)
    obtain ⟨e0, e1, e2, e3, e4⟩ := cells5 (HB1.out.step HT.out)
    obtain ⟨f0, f1, f2, f3, f4, f5⟩ := cells6 (HB2.out.step HT.out)
    have y1 := (HB1.out.step HT.out).lt
    have y2 := (HB2.out.step HT.out).lt
    have a1 := (HS.out.trans HT.out).kc HG.out
    by_cases hlt2 : k2 < b.seats[k].length
    ·obtain rfl := HU.out.1 (by omega)
     have ga := (HS.out.trans HT.out).kc (HU.out.2 k2 hlt2)
     have hix2 : (0 : Int) ≤ (k2 : Int) ∧ (k2 : Int) < (b.seats[k].length : Int) := by omega
     go_wp2_with fail
     refine (bigtopref08.In_any _ _ _ _).mono ?_
     rintro e w' ⟨rfl, rfl⟩
     cases q : withinB b.seats[k][k2] (-1) 1000000 with
     | false =>
      have q := zH q
      have HF := zH (bookB_not (h := h) (b := b) fun p => by
       have h1 := all_at p.rows hlt
       simp only [rowB, Bool.and_eq_true] at h1
       have h2 := all_at h1.2 hlt2
       simp [q.out] at h2)
      go_wp2
      go_ret
      exact ⟨by rw [HF.out]; rfl, HS.out.trans HT.out⟩
     | true =>
      have HQ := zH q
      clear q
      go_wp2
      go_roundw
      case rel => exact ⟨k2 + 1, by omega, by go_num, all_take HI.out hlt2 HQ.out, HT.out⟩
      case measure => simp [intOf]; omega
    ·have HROW := zH (show rowB (sizeL h.sectors) b.seats[k] = true by
      have h1 := all_done HI.out hlt2
      have h2 := HHZ.out
      have h3 := HQL.out
      simp only [rowB, Bool.and_eq_true, decide_eq_true_eq]
      exact ⟨by omega, h1⟩)
     go_wp2
     go_roundw
     case rel => exact ⟨k + 1, by omega, by go_num, all_take HA.out hlt HROW.out, HT.out⟩
     case measure => simp [intOf]; omega
  ·have HROWS := zH (all_done HA.out hlt)
   clear HA
   go_wp2
   obtain ⟨wo, hwo⟩ : ∃ W, W = wr := ⟨_, rfl⟩
   subst hwo
   clear e0 e1 e2 e3 e4 f0 f1 f2 f3 f4 f5 y1 y2
   go_loopw [7] (fun i wr => ∃ k : Nat, k ≤ b.took.length ∧ i = .int .i64 k ∧ ((idxKeys b.took).take k).all (ikeyB h b) = true ∧ Step W0 wr) (fun i _ => b.took.length - (intOf i).toNat)
   case atStart => exact ⟨0, Nat.zero_le _, rfl, rfl, HT.out⟩
   case round =>
    obtain ⟨k3, hk3, rfl, ht, hT⟩ := hrel
    have HA := zH ht
    have HT := zH hT
    clear ht hT
    (try clear e0 e1 e2 e3 e4 f0 f1 f2 f3 f4 f5 y1 y2)
    obtain ⟨e0, e1, e2, e3, e4⟩ := cells5 (HB1.out.step HT.out)
    obtain ⟨f0, f1, f2, f3, f4, f5⟩ := cells6 (HB2.out.step HT.out)
    have y1 := (HB1.out.step HT.out).lt
    have y2 := (HB2.out.step HT.out).lt
    by_cases hlt3 : k3 < b.took.length
    ·obtain rfl := HPT.out.1 (by omega)
     obtain ⟨ra1, ra2⟩ := HPT.out.2 k3 hlt3
     have HK := zH (And.intro ra1 ra2)
     clear ra1 ra2
     have hix3 : (0 : Int) ≤ (k3 : Int) ∧ (k3 : Int) < (b.took.length : Int) := by omega
     go_upto_region 16 with fail
     clear e0 e1 e2 e3 e4 f0 f1 f2 f3 f4 f5 y1 y2
     refine wp_region_seq (kdOf [7, 9, 29] []) (0 :: 1 :: 0 :: 7 :: 15 :: 31 :: 0 :: 64 :: 192 :: 511 :: 1023 :: 2047 :: 4095 :: 8191 :: 4095 :: 32767 :: 65535 :: 131071 :: 4095 :: 266239 :: 1048575 :: 2097151 :: 4194303 :: 8388607 :: 16777215 :: 8388607 :: 67108863 :: 134217727 :: 268435455 :: 536870911 :: 1073741823 :: 2147483647 :: []) (0 :: 1 :: 2 :: 3 :: 4 :: 5 :: 6 :: 7 :: 8 :: 9 :: 10 :: 11 :: 12 :: 13 :: 14 :: 15 :: 16 :: 17 :: 18 :: 19 :: 20 :: 21 :: 22 :: 23 :: 24 :: 25 :: 26 :: 27 :: 28 :: 29 :: 30 :: 31 :: []) [] (by kernel_rfl) (by kernel_rfl) (fun i T z hi hk => by simp [kdOf] at hk <;> (try (split at hk <;> cases hk))) ?_
     intro Wx hWx
     have HTx := zH (HT.out.trans hWx)
     clear hWx HT
     have HT := HTx
     clear HTx
     (try clear e0 e1 e2 e3 e4 f0 f1 f2 f3 f4 f5 y1 y2)
     obtain ⟨e0, e1, e2, e3, e4⟩ := cells5 (HB1.out.step HT.out)
     obtain ⟨f0, f1, f2, f3, f4, f5⟩ := cells6 (HB2.out.step HT.out)
     have y1 := (HB1.out.step HT.out).lt
     have y2 := (HB2.out.step HT.out).lt
     have a1 := (HS.out.trans HT.out).kc HK.out.1
     repeat ((first | (refine run_off rfl rfl (by rfl) ?_) | (refine run_chain_off rfl rfl (by rfl) (K0_mono _) ?_) | ((refine run_want rfl rfl (by rfl) ⟨?_, fun W hW => ?_, ?_⟩; rotate_left; (· (have d0 := hW.kc f4; have d1 := hW.kc a1; have d2 := hW.kc e0; have d3 := hW.kc e1; have d4 := hW.kc e2; have d5 := hW.kc e3; have d6 := hW.kc e4; go_simp; (try with_reducible rfl)))))); (try simp only [Act.put, zA, zB, zC]))
     refine run_chain rfl rfl (by rfl) (fun Wi hWi K' hK => ?_)
     have HTi := zH (HT.out.trans hWi)
     have HZW := zH HTi.out.size
     clear hWi HT
     go_simp
     refine (Agencies_any S h _ _ ⟨_, rfl, Rep.keep (.of_step HTi.out) HR.out⟩ hf0).mono ?_
     rintro e wn ⟨rfl, hSn⟩
     have HT := zH (HTi.out.trans (StepX.of hSn))
     clear HTi
     refine hK _ _ (StepX.of hSn) ?_
     clear hSn
     (try simp only [Act.put, zA, zB, zC])
     have hwa := HWA.out
     clear a1
     repeat ((first | (refine run_off rfl rfl (by rfl) ?_) | (refine run_chain_off rfl rfl (by rfl) (K0_mono _) ?_) | ((refine run_want rfl rfl (by rfl) ⟨?_, fun W hW => ?_, ?_⟩; rotate_left; (· (skip; go_simp; (try with_reducible rfl)))))); (try simp only [Act.put, zA, zB, zC]))
     clear hwa
     refine run_chain rfl rfl (by rfl) (fun Wi hWi K' hK => ?_)
     have HTi := zH (HT.out.trans hWi)
     have HZW := zH HTi.out.size
     clear hWi HT
     go_simp
     refine (In_st _ _ _ _).mono ?_
     rintro e wn ⟨rfl, hSn⟩
     have HT := zH (HTi.out.trans (StepX.of hSn))
     clear HTi
     cases q : withinB b.took[k3].frm 0 ((agN h : Int) - 1) with
     | false =>
      have q := zH q
      refine hK _ _ (StepX.of hSn) ?_
      clear hSn
      (try simp only [Act.put, zA, zB, zC])
      have HF := zH (bookB_not (h := h) (b := b) fun p => took_not hlt3 (by simp [keyB, q.out]) p)
      (try clear e0 e1 e2 e3 e4 f0 f1 f2 f3 f4 f5 y1 y2)
      obtain ⟨e0, e1, e2, e3, e4⟩ := cells5 (HB1.out.step HT.out)
      obtain ⟨f0, f1, f2, f3, f4, f5⟩ := cells6 (HB2.out.step HT.out)
      have y1 := (HB1.out.step HT.out).lt
      have y2 := (HB2.out.step HT.out).lt
      repeat ((first | (refine run_off rfl rfl (by rfl) ?_) | (refine run_chain_off rfl rfl (by rfl) (K0_mono _) ?_) | ((refine run_want rfl rfl (by rfl) ⟨?_, fun W hW => ?_, ?_⟩; rotate_left; (· (have d0 := hW.kc f0; have d1 := hW.kc f1; have d2 := hW.kc f2; have d3 := hW.kc f3; have d4 := hW.kc f4; have d5 := hW.kc e2; have d6 := hW.kc e3; go_simp; (try with_reducible rfl)))))); (try simp only [Act.put, zA, zB, zC]))
      refine run_end (L := []) rfl (fun W6 hW6 => ?_)
      have HT6 := zH (HT.out.trans hW6)
      clear hW6 HT
      have HT := HT6
      clear HT6
      go_wp2
      go_ret
      exact ⟨by rw [HF.out]; rfl, HS.out.trans HT.out⟩
     | true =>
     have HQ1 := zH q
     clear q
     refine hK _ _ (StepX.of hSn) ?_
     clear hSn
     (try simp only [Act.put, zA, zB, zC])
     (try clear e0 e1 e2 e3 e4 f0 f1 f2 f3 f4 f5 y1 y2)
     obtain ⟨e0, e1, e2, e3, e4⟩ := cells5 (HB1.out.step HT.out)
     obtain ⟨f0, f1, f2, f3, f4, f5⟩ := cells6 (HB2.out.step HT.out)
     have y1 := (HB1.out.step HT.out).lt
     have y2 := (HB2.out.step HT.out).lt
     have a1 := (HS.out.trans HT.out).kc HK.out.1
     by_cases qe : b.took[k3].frm = b.agency
     ·have qed : ((b.took[k3].frm : Int) == b.agency) = true := by simpa using qe
      have qe := zH qe
      have HF := zH (bookB_not (h := h) (b := b) fun p => took_not hlt3 (by simp [keyB, qe.out]) p)
      repeat ((first | (refine run_off rfl rfl (by rfl) ?_) | (refine run_chain_off rfl rfl (by rfl) (K0_mono _) ?_) | ((refine run_want rfl rfl (by rfl) ⟨?_, fun W hW => ?_, ?_⟩; rotate_left; (· (have d0 := hW.kc f4; have d1 := hW.kc a1; have d2 := hW.kc f0; go_simp; (try with_reducible rfl)))))); (try simp only [Act.put, zA, zB, zC]))
      refine run_end (L := []) rfl (fun W6 hW6 => ?_)
      have HT6 := zH (HT.out.trans hW6)
      clear hW6 HT
      have HT := HT6
      clear HT6
      go_wp2
      go_ret
      exact ⟨by rw [HF.out]; rfl, HS.out.trans HT.out⟩
     have qed : ((b.took[k3].frm : Int) == b.agency) = false := by simpa using qe
     have HQ2 := zH qe
     clear qe
     have a2 := (HS.out.trans HT.out).kc HK.out.2
     repeat ((first | (refine run_off rfl rfl (by rfl) ?_) | (refine run_chain_off rfl rfl (by rfl) (K0_mono _) ?_) | ((refine run_want rfl rfl (by rfl) ⟨?_, fun W hW => ?_, ?_⟩; rotate_left; (· (have d0 := hW.kc f4; have d1 := hW.kc a1; have d2 := hW.kc f0; have d3 := hW.kc a2; go_simp; (try with_reducible rfl)))))); (try simp only [Act.put, zA, zB, zC]))
     clear a1 a2
     refine run_chain rfl rfl (by rfl) (fun Wi hWi K' hK => ?_)
     have HTi := zH (HT.out.trans hWi)
     have HZW := zH HTi.out.size
     clear hWi HT
     go_simp
     refine (In_st _ _ _ _).mono ?_
     rintro e wn ⟨rfl, hSn⟩
     have HT := zH (HTi.out.trans (StepX.of hSn))
     clear HTi
     cases q : withinB b.took[k3].number 1 1000 with
     | false =>
      have q := zH q
      refine hK _ _ (StepX.of hSn) ?_
      clear hSn
      (try simp only [Act.put, zA, zB, zC])
      have HF := zH (bookB_not (h := h) (b := b) fun p => took_not hlt3 (by simp [keyB, q.out]) p)
      (try clear e0 e1 e2 e3 e4 f0 f1 f2 f3 f4 f5 y1 y2)
      obtain ⟨e0, e1, e2, e3, e4⟩ := cells5 (HB1.out.step HT.out)
      obtain ⟨f0, f1, f2, f3, f4, f5⟩ := cells6 (HB2.out.step HT.out)
      have y1 := (HB1.out.step HT.out).lt
      have y2 := (HB2.out.step HT.out).lt
      repeat ((first | (refine run_off rfl rfl (by rfl) ?_) | (refine run_chain_off rfl rfl (by rfl) (K0_mono _) ?_) | ((refine run_want rfl rfl (by rfl) ⟨?_, fun W hW => ?_, ?_⟩; rotate_left; (· (have d0 := hW.kc f0; have d1 := hW.kc f1; have d2 := hW.kc f2; have d3 := hW.kc f3; have d4 := hW.kc f4; have d5 := hW.kc e2; have d6 := hW.kc e3; go_simp; (try with_reducible rfl)))))); (try simp only [Act.put, zA, zB, zC]))
      refine run_end (L := []) rfl (fun W6 hW6 => ?_)
      have HT6 := zH (HT.out.trans hW6)
      clear hW6 HT
      have HT := HT6
      clear HT6
      go_wp2
      go_ret
      exact ⟨by rw [HF.out]; rfl, HS.out.trans HT.out⟩
     | true =>
     have HQ3 := zH q
     clear q
     refine hK _ _ (StepX.of hSn) ?_
     clear hSn
     (try simp only [Act.put, zA, zB, zC])
     repeat ((first | (refine run_off rfl rfl (by rfl) ?_) | (refine run_chain_off rfl rfl (by rfl) (K0_mono _) ?_) | ((refine run_want rfl rfl (by rfl) ⟨?_, fun W hW => ?_, ?_⟩; rotate_left; (· (skip; go_simp; (try with_reducible rfl)))))); (try simp only [Act.put, zA, zB, zC]))
     refine run_end (L := []) rfl (fun W6 hW6 => ?_)
     have HT6 := zH (HT.out.trans hW6)
     clear hW6 HT
     have HT := HT6
     clear HT6
     clear qed
     go_wp2
     obtain ⟨wo, hwo⟩ : ∃ W, W = wr := ⟨_, rfl⟩
     subst hwo
     (try clear e0 e1 e2 e3 e4 f0 f1 f2 f3 f4 f5 y1 y2)
     go_loopw [8] (fun i wi => ∃ k4 : Nat, k4 ≤ k3 ∧ i = .int .i64 k4 ∧ b.took[k3] ∉ b.took.take k4 ∧ Step W0 wi) (fun i _ => k3 - (intOf i).toNat)
     case atStart => exact ⟨0, Nat.zero_le _, rfl, by simp, HT.out⟩
     case round =>
      obtain ⟨k4, hk4, rfl, hnm, hT⟩ := hrel
      have HNM := zH hnm
      have HT := zH hT
      clear hnm hT
      (try clear e0 e1 e2 e3 e4 f0 f1 f2 f3 f4 f5 y1 y2)
      obtain ⟨e0, e1, e2, e3, e4⟩ := cells5 (HB1.out.step HT.out)
      obtain ⟨f0, f1, f2, f3, f4, f5⟩ := cells6 (HB2.out.step HT.out)
      have y1 := (HB1.out.step HT.out).lt
      have y2 := (HB2.out.step HT.out).lt
      by_cases hlt4 : k4 < k3
      ·have hlt4' : k4 < b.took.length := by omega
       obtain ⟨g1, g3⟩ := HPT.out.2 k4 hlt4'
       have g2 := HK.out.1
       have g4 := HK.out.2
       have g1 := (HS.out.trans HT.out).kc g1
       have g2 := (HS.out.trans HT.out).kc g2
       have g3 := (HS.out.trans HT.out).kc g3
       have g4 := (HS.out.trans HT.out).kc g4
       have hix4 : (0 : Int) ≤ (k4 : Int) ∧ (k4 : Int) < (b.took.length : Int) := by omega
       obtain ⟨x, y, hx, hy⟩ := (show ∃ x y, b.took[k4] = x ∧ b.took[k3] = y from ⟨_, _, rfl, rfl⟩)
       rw [hx] at g1 g3
       rw [hy] at g2 g4
       have HX := zH hx
       have HY := zH hy
       clear hx hy
       obtain ⟨xf, xn⟩ := x
       obtain ⟨yf, yn⟩ := y
       dsimp only at g1 g2 g3 g4
       by_cases q1 : xf = yf
       ·by_cases q2 : xn = yn
        ·have HF := zH (bookB_not (h := h) (b := b) fun p => took_not hlt3 (by
          have h1 : b.took[k3] ∈ b.took.take k3 := by rw [HY.out, ← q1, ← q2, ← HX.out]; exact mem_at hlt4' hlt4
          simp [h1]) p)
         subst q1 q2
         go_wp2
         go_quiet (fail)
         go_wp2
         go_ret
         exact ⟨by rw [HF.out]; rfl, HS.out.trans (HT.out.trans (Step.drewN _ _))⟩
        ·have HN := zH (mem_snoc (k := k3) hlt4' HNM.out (by rw [HX.out, HY.out]; simp [q2]))
         have q2d : ((xn : Int) == yn) = false := by simpa using q2
         subst q1
         clear q2
         go_wp2
         go_quiet (fail)
         go_wp2
         go_roundw
         case rel => exact ⟨k4 + 1, by omega, by go_num, HN.out, HT.out.trans (Step.drewN _ _)⟩
         case measure => simp [intOf]; omega
       ·have HN := zH (mem_snoc (k := k3) hlt4' HNM.out (by rw [HX.out, HY.out]; simp [q1]))
        have q1d : ((xf : Int) == yf) = false := by simpa using q1
        clear q1
        go_wp2
        go_quiet (fail)
        go_wp2
        go_roundw
        case rel => exact ⟨k4 + 1, by omega, by go_num, HN.out, HT.out.trans (Step.drewN _ _)⟩
        case measure => simp [intOf]; omega
      ·obtain rfl : k4 = k3 := by omega
       have hli : k4 < (idxKeys b.took).length := by rw [idxKeys_len]; exact hlt3
       have HIK := zH (all_take HA.out hli (show ikeyB h b (idxKeys b.took)[k4] = true by
        rw [ikey_at hli hlt3]
        simp only [keyB, HQ1.out, HQ3.out, Bool.and_true, Bool.true_and]
        simp [HNM.out, HQ2.out]))
       clear hli
       go_wp2
       go_roundw
       case rel => exact ⟨k4 + 1, by omega, by go_num, HIK.out, HT.out⟩
       case measure => simp [intOf]; omega
    ·have HTK := zH (show tookB h b = true from all_done HA.out (by rw [idxKeys_len]; exact hlt3))
     have HCA := zH (show cashL h b.seats = cashL h b.seats from rfl)
     go_upto_region 23 with fail
     clear e0 e1 e2 e3 e4 f0 f1 f2 f3 f4 f5 y1 y2
     refine wp_region_seq (kdOf [4] []) [0, 1, 0, 0, 12, 31, 63] [0, 1, 2, 3, 4, 5, 6] [] (by kernel_rfl) (by kernel_rfl) (fun i T z hi hk => by simp [kdOf] at hk <;> (try (split at hk <;> cases hk))) ?_
     intro Wx hWx
     have HTx := zH (HT.out.trans hWx)
     clear hWx HT
     have HT := HTx
     clear HTx
     (try clear e0 e1 e2 e3 e4 f0 f1 f2 f3 f4 f5 y1 y2)
     obtain ⟨e0, e1, e2, e3, e4⟩ := cells5 (HB1.out.step HT.out)
     obtain ⟨f0, f1, f2, f3, f4, f5⟩ := cells6 (HB2.out.step HT.out)
     have y1 := (HB1.out.step HT.out).lt
     have y2 := (HB2.out.step HT.out).lt
     repeat ((first | (refine run_off rfl rfl (by rfl) ?_) | (refine run_chain_off rfl rfl (by rfl) (K0_mono _) ?_) | ((refine run_want rfl rfl (by rfl) ⟨?_, fun W hW => ?_, ?_⟩; rotate_left; (· (have d0 := hW.kc f0; have d1 := hW.kc f1; have d2 := hW.kc f2; have d3 := hW.kc f3; have d4 := hW.kc f4; have d5 := hW.kc f5; have d6 := hW.kc e0; have d7 := hW.kc e1; have d8 := hW.kc e2; have d9 := hW.kc e3; have d10 := hW.kc e4; go_simp; (try with_reducible rfl)))))); (try simp only [Act.put, zA, zB, zC]))
     refine run_chain rfl rfl (by rfl) (fun Wi hWi K' hK => ?_)
     have HTi := zH (HT.out.trans hWi)
     have HZW := zH HTi.out.size
     clear hWi HT
     go_simp
     refine (Cash_any S h b _ _ _ ⟨_, rfl, Rep.keep (.of_step HTi.out) HR.out⟩ ⟨_, rfl, Rep.keep (.of_step HTi.out) HQ.out⟩ HOK.out (by have := HQS.out; have := HBV.out; omega) (fun i hi => by have h1 := all_at HROWS.out hi; simp only [rowB, Bool.and_eq_true, decide_eq_true_eq] at h1; exact h1.1)).mono ?_
     rintro e wn ⟨rfl, hSn⟩
     have HT := zH (HTi.out.trans (StepX.of hSn))
     clear HTi
     by_cases qc : b.cash = cashL h b.seats
     ·have qcd : ((b.cash : Int) == cashL h b.seats) = true := by simpa using qc
      have HF := zH (bookB_of (h := h) (b := b) ⟨HQA.out, HQS.out, HQO.out, HQN.out, HQT.out, HROWS.out, qc, HTK.out⟩)
      clear qc
      refine hK _ _ (StepX.of hSn) ?_
      clear hSn
      (try simp only [Act.put, zA, zB, zC])
      repeat ((first | (refine run_off rfl rfl (by rfl) ?_) | (refine run_chain_off rfl rfl (by rfl) (K0_mono _) ?_) | ((refine run_want rfl rfl (by rfl) ⟨?_, fun W hW => ?_, ?_⟩; rotate_left; (· (skip; go_simp; (try with_reducible rfl)))))); (try simp only [Act.put, zA, zB, zC]))
      refine run_end (L := []) rfl (fun W6 hW6 => ?_)
      have HT6 := zH (HT.out.trans hW6)
      clear hW6 HT
      have HT := HT6
      clear HT6
      go_wp2
      go_ret
      exact ⟨by rw [HF.out]; rfl, HS.out.trans HT.out⟩
     ·have qcd : ((b.cash : Int) == cashL h b.seats) = false := by simpa using qc
      have qc := zH qc
      have HF := zH (bookB_not (h := h) (b := b) fun p => qc.out p.cash)
      refine hK _ _ (StepX.of hSn) ?_
      clear hSn
      (try simp only [Act.put, zA, zB, zC])
      repeat ((first | (refine run_off rfl rfl (by rfl) ?_) | (refine run_chain_off rfl rfl (by rfl) (K0_mono _) ?_) | ((refine run_want rfl rfl (by rfl) ⟨?_, fun W hW => ?_, ?_⟩; rotate_left; (· (skip; go_simp; (try with_reducible rfl)))))); (try simp only [Act.put, zA, zB, zC]))
      refine run_end (L := []) rfl (fun W6 hW6 => ?_)
      have HT6 := zH (HT.out.trans hW6)
      clear hW6 HT
      have HT := HT6
      clear HT6
      go_wp2
      go_ret
      exact ⟨by rw [HF.out]; rfl, HS.out.trans HT.out⟩
section
variable {base : Nat} {w : World} {g : Nat} {h : House} {b : Book} {c0 c1 c2 c3 c4 vs vo vt : Value} {xs : List Value}
theorem Desk.seat_c {gs n cs : Nat} (D : Desk base w g h b c0 c1 c2 c3 c4 (.slice (some ⟨gs, 0, none⟩) n cs) vo vt xs) {i gi z ci : Nat} (hi : i < b.seats.length) (hx : i < xs.length) (hxi : xs[i] = .slice (some ⟨gi, 0, none⟩) z ci) {j : Nat} (hj : j < b.seats[i].length) :
  w.cell? ⟨gs, i, none⟩ = some (.slice (some ⟨gi, 0, none⟩) z ci) ∧ w.cell? ⟨gi, j, none⟩ = some (.int .i64 (seatAt b i j)) ∧ w.frozen? ⟨gi, j, none⟩ = false ∧ gs < w.heap.size ∧ gi < w.heap.size := by
 obtain ⟨gs', cs', gi', ci', e1, ⟨hx', e2⟩, h1, h2, h3, h4, h5⟩ := D.seat_at hi (by omega)
 injection e1 with e1 _ _
 injection e1 with e1
 injection e1 with e1
 rw [hxi] at e2
 injection e2 with e2 e3 e4
 injection e2 with e2
 injection e2 with e2
 subst e1 e2 e3 e4
 refine ⟨h1, ?_, h3 j, h4, h5⟩
 rw [h2 j hj]
 simp [seatAt, List.getD_eq_getElem?_getD, hi, hj]
theorem Desk.forms (D : Desk base w g h b c0 c1 c2 c3 c4 vs vo vt xs) (hO : OkDesk h b) {z : Nat} (hz : sizeL h.sectors = z) (hz0 : 0 < z) : (∃ gs cs, vs = .slice (some ⟨gs, 0, none⟩) h.dates.length cs) ∧ ∀ i, i < h.dates.length → ∃ hx : i < xs.length, ∃ gi ci, xs[i] = .slice (some ⟨gi, 0, none⟩) z ci := by
 have hl := hO.2.2.1
 have hd := (bounds_valid hO.1).1
 have hrow : ∀ i (hi : i < b.seats.length), b.seats[i].length = z := fun i hi => by have := hO.2.2.2.1 i hi; omega
 refine ⟨?_, fun i hi => ?_⟩
 ·obtain ⟨gs, cs, _, _, e, _⟩ := D.seat_at (i := 0) (by omega) (by rw [hrow]; exact hz0)
  exact ⟨gs, cs, by rw [e, hl]⟩
 ·obtain ⟨_, _, gi, ci, _, ⟨hx, e⟩, _⟩ := D.seat_at (i := i) (by omega) (by rw [hrow]; exact hz0)
  exact ⟨hx, gi, ci, by rw [e, hrow]⟩
theorem Desk.besides {w' : World} {k : Nat} {cs : List Value} (D : Desk base w g h b c0 c1 c2 c3 c4 vs vo vt xs) (hw : Wrote k w w') (hb : Bx w k cs 97) (hk : base ≤ k) : Desk base w' g h b c0 c1 c2 c3 c4 vs vo vt xs := by
 have hg0 : g ≠ k := fun e => by subst e; have h1 := D.bx; unfold Bx at h1 hb; rw [h1] at hb; simp at hb
 refine ⟨D.bx.keep hw.keeps hg0, D.gb, Rep.keep (keeps_of_wrote hw hk) D.house, D.outer.kept hw.grown (.inr (apart_bx hb D.outer (by decide))), fun i hi hx => (D.row i hi hx).kept hw.grown (.inr (apart_bx hb (D.row i hi hx) (by decide))), D.off.kept hw.grown (.inr (apart_bx hb D.off (by decide))), ?_, D.apart⟩
 obtain ⟨ts, ht, _⟩ := D.took
 exact D.took.keptF fun q hq => hw.block q fun e => apart_bx hb ht (by decide) (e ▸ hq)
theorem size_ge : ∀ (l : List Sector), (∀ s ∈ l, 1 ≤ s.seats) → (l.length : Int) ≤ sizeL l
 | [], _ => by simp [sizeL]
 | s :: l, hs => by
  have := size_ge l fun s hs' => hs s (List.mem_cons_of_mem _ hs')
  have := hs s List.mem_cons_self
  simp only [sizeL, List.map_cons, List.sum_cons, List.length_cons] at *
  omega
theorem size_pos {h : House} (hv : valid h = true) : 0 < sizeL h.sectors := by
 simp only [valid, validB, Bool.and_eq_true] at hv
 have hl := hv.2.1.1.1.1.1.1.1.1
 have ha := hv.2.1.1.1.1.1.1.1.2
 have := size_ge h.sectors fun s hs => by
  have := List.all_eq_true.1 ha s hs
  simp [secB, withinB] at this
  omega
 simp [withinB] at hl
 omega
theorem loseTo_len (h : House) (b : Book) (i : Nat) (d : Int) : ∀ k, (loseTo h b i d k).2.length ≤ k
 | 0 => by simp [loseTo]
 | k + 1 => by
  have := loseTo_len h b i d k
  unfold loseTo
  split
  ·simp; omega
  ·omega
def LoseRel (base b0 : Nat) (w0 : World) (g : Nat) (h : House) (b : Book) (i : Nat) (d : Int) (c0 c1 c2 c3 c4 vs vo vt : Value) (xs : List Value) (k : Nat) (wr : World) (outv : Value) : Prop :=
 Desk base wr g h (loseTo h b i d k).1 c0 c1 c2 c3 c4 vs vo vt xs ∧ OwnL (fun _ => False) b0 97 wr outv (loseTo h b i d k).2 ∧ StepX (fun j => base ≤ j) w0 wr
def InnerRel (base b0 : Nat) (w0 : World) (g : Nat) (h : House) (bk : Book) (i k : Nat) (d y : Int) (mb : Nat) (outv : Value) (lk : List BT.Move) (c0 c1 c2 c3 c4 vs vo vt : Value) (xs : List Value) (s : Nat) (wi : World) : Option (Nat × Int) → Prop
 | none => OwnL (fun _ => False) b0 97 wi outv lk ∧ StepX (fun j => base ≤ j) w0 wi ∧ Bx wi mb [.int .i64 k, .int .i64 (-1), .int .i64 (-1)] 97 ∧ Desk base wi g h bk c0 c1 c2 c3 c4 vs vo vt xs ∧ placeL h bk (classL h.sectors k) d (i + 1) (h.dates.length - (i + 1)) = placeL h bk (classL h.sectors k) d s (h.dates.length - s)
 | some (s0, j) => OwnL (fun _ => False) b0 97 wi outv lk ∧ StepX (fun j => base ≤ j) w0 wi ∧ Bx wi mb [.int .i64 k, .int .i64 s0, .int .i64 j] 97 ∧ Desk base wi g h (putSeat bk s0 j.toNat y) c0 c1 c2 c3 c4 vs vo vt xs ∧ placeL h bk (classL h.sectors k) d (i + 1) (h.dates.length - (i + 1)) = some (s0, j)
def LoseEnds (base g : Nat) (h : House) (r : Except Int (Book × List BT.Move)) (e : Ending) (w w' : World) : Prop := match r with
 | .ok (b', l) => ∃ v', e = .returned v' ∧ DeskE base w' g h b' ∧ SL (fun j => j < w.heap.size) w' v' l ∧ StepX (fun j => base ≤ j) w w'
 | .error c => e = .panicked (refusal c) ∧ StepX (fun j => base ≤ j) w w'
theorem LoseEnds.no {base g : Nat} {h : House} {r : Except Int (Book × List BT.Move)} {w w' : World} {c : Int} (hr : r = .error c) (hS : Step w w') : LoseEnds base g h r (.panicked (refusal c)) w w' := by
 subst hr; exact ⟨rfl, .of hS⟩
theorem loseD_no {h : House} {b : Book} {s d c : Int} (hc : loseE h b s d = c) (h0 : c ≠ 0) : loseD h b s d = .error c := by simp [loseD, hc, h0]
theorem lose_any (D : Desk base w g h b c0 c1 c2 c3 c4 vs vo vt xs) (hO : OkDesk h b) (hc0 : 0 ≤ b.cash) (s d : Int) :
  Calls Tryz.prog 74 #[.pointer (some ⟨g, 0, none⟩), .int .i64 s, .int .i64 d] w (fun e w' => LoseEnds base g h (loseD h b s d) e w w') := by
 have HD := zH D
 have HO := zH hO
 have HC0 := zH hc0
 have HT := zH (Step.refl w)
 clear D hO hc0
 go_enter Tryz.func74, Tryz.ntmps74
 cases q1 : withinB s 0 (h.dates.length - 1) with
 | false =>
  have HF := zH (show loseE h b s d = 2 by simp [loseE, q1])
  have hcall := zH (show_no HD.out s q1)
  go_wp2_with fail
  refine hcall.out.mono ?_
  clear hcall
  rintro e wn ⟨rfl, hSn⟩
  have HTi := zH (HT.out.trans hSn)
  clear hSn HT
  have HT := HTi
  clear HTi
  exact ⟨rfl, .no (loseD_no HF.out (by simp)) HT.out⟩
 | true =>
 have hcall := zH (show_yes HD.out s q1)
 go_wp2_with fail
 refine hcall.out.mono ?_
 clear hcall
 rintro e wn ⟨rfl, hSn⟩
 have HTi := zH (HT.out.trans hSn)
 clear hSn HT
 have HT := HTi
 clear HTi
 have Q1 := zH q1
 clear q1
 go_wp2_with fail
 refine (within_st _ _ _ _).mono ?_
 rintro e wn ⟨rfl, hSn⟩
 have HTi := zH (HT.out.trans hSn)
 clear hSn HT
 have HT := HTi
 clear HTi
 cases q2 : withinB d 0 1000 with
 | false =>
  have HF := zH (show loseE h b s d = 2 by simp [loseE, Q1.out, q2])
  clear q2
  go_wp2_with fail
  refine (ask_no _ _).mono ?_
  rintro e wn ⟨rfl, hSn⟩
  have HTi := zH (HT.out.trans hSn)
  clear hSn HT
  have HT := HTi
  clear HTi
  exact ⟨rfl, .no (loseD_no HF.out (by simp)) HT.out⟩
 | true =>
 have Q2 := zH q2
 clear q2
 go_wp2_with fail
 refine (ask_yes _ _).mono ?_
 rintro e wn ⟨rfl, hSn⟩
 have HTi := zH (HT.out.trans hSn)
 clear hSn HT
 have HT := HTi
 clear HTi
 obtain ⟨i, rfl, hi0, hi1⟩ := within_nat Q1.out (by omega)
 have hbv := bounds_valid HO.out.1
 have hi : i < h.dates.length := by omega
 obtain ⟨z, hz⟩ : ∃ z : Nat, sizeL h.sectors = z := ⟨(sizeL h.sectors).toNat, by omega⟩
 have hz100 : z ≤ 100 := by omega
 have hz0 : 0 < z := by have := size_pos HO.out.1; omega
 have hio : i < b.off.length := by have := HO.out.2.1; omega
 have hD6 : h.dates.length ≤ 6 := by omega
 obtain ⟨⟨gs, cs, rfl⟩, hforms⟩ := HD.out.forms HO.out hz hz0
 obtain ⟨go, co, rfl, hoc, hof, hgo⟩ := HD.out.off_at hio
 have HFO := zH hforms
 have HZ := zH hz
 have HOC := zH (And.intro (hoc i hio) (And.intro (hof i) hgo))
 have hx1 : (0 : Int) ≤ (i : Int) ∧ (i : Int) < (b.off.length : Int) := by omega
 clear hforms hz hbv hi0 hi1 hoc hof hgo
 obtain ⟨_, f5, f6, f7, f8, f9, f10⟩ := cells11 (HD.out.step HT.out).bx
 have m0 := HT.out.kc HOC.out.1
 have hoff : offAt b i = b.off[i] := by simp [offAt, List.getD_eq_getElem?_getD, hio]
 have HOFF := zH hoff
 clear hoff
 cases q3 : b.off[i] with
 | true =>
  have HF := zH (show loseE h b i d = 6 by simp [loseE, Q1.out, Q2.out, HOFF.out, q3])
  rw [q3] at m0
  clear q3
  go_wp2_with fail
  refine (ask_no _ _).mono ?_
  rintro e wn ⟨rfl, hSn⟩
  have HTi := zH (HT.out.trans hSn)
  clear hSn HT
  have HT := HTi
  clear HTi
  exact ⟨rfl, .no (loseD_no HF.out (by simp)) HT.out⟩
 | false =>
 have HF := zH (show loseE h b i d = 0 by simp [loseE, Q1.out, Q2.out, HOFF.out, q3])
 rw [q3] at m0
 clear q3
 go_wp2_with fail
 refine (ask_yes _ _).mono ?_
 rintro e wn ⟨rfl, hSn⟩
 have HTi := zH (HT.out.trans hSn)
 clear hSn HT
 have HT := HTi
 clear HTi
 clear f5 f6 f7 f8 f9 f10 m0
 obtain ⟨_, f5, f6, f7, f8, f9, f10⟩ := cells11 (HD.out.step HT.out).bx
 have m0 := HT.out.kc HOC.out.1
 have z0 := (HT.out.cells.2 go i HOC.out.2.2).trans HOC.out.2.1
 have hl9 := (HD.out.step HT.out).lt
 go_upto_region 5 with (fail)
 have hset := (HD.out.step HT.out).setOff (i := i) rfl true
 have hD9 : Desk base (wn.setCell ⟨go, i, none⟩ (.bool true)) g h (offBook b i) c0 c1 c2 c3 c4 (.slice (some ⟨gs, 0, none⟩) h.dates.length cs) (.slice (some ⟨go, 0, none⟩) b.off.length co) vt xs := hset.1
 have hX9 : StepX (fun j => base ≤ j) w (wn.setCell ⟨go, i, none⟩ (.bool true)) := (StepX.of HT.out).setCell ⟨go, i, none⟩ _ hset.2
 clear f5 f6 f7 f8 f9 f10 m0 z0 hl9 hset
 generalize wn.setCell ⟨go, i, none⟩ (.bool true) = w9 at *
 have HD9 := zH hD9
 have HX9 := zH hX9
 have hO9 : OkDesk h (offBook b i) := by
  obtain ⟨o1, o2, o3⟩ := HO.out
  exact ⟨o1, by simp [offBook]; exact o2, o3⟩
 have HO9 := zH hO9
 obtain ⟨hxi, gi, ci, hxv⟩ := HFO.out i hi
 have HXV := zH hxv
 have hsl : (offBook b i).seats.length = h.dates.length := hO9.2.2.1
 have his : i < (offBook b i).seats.length := by omega
 have hrl : ∀ b', OkDesk h b' → ∀ s (hs : s < b'.seats.length), b'.seats[s].length = z := fun b' hb s hs => by have := hb.2.2.2.1 s hs; have := HZ.out; omega
 have HRL := zH hrl
 obtain ⟨m0, _, _, _, _⟩ := hD9.seat_c his hxi hxv (j := 0) (by rw [hrl _ hO9]; exact hz0)
 obtain ⟨_, _, f6, _⟩ := cells11 hD9.bx
 have hx2 : (0 : Int) ≤ (i : Int) ∧ (i : Int) < (h.dates.length : Int) := by omega
 clear hD9 hX9 hO9 hxv hsl hrl
 go_wp2_with fail
 clear m0 f6
 have hstart : LoseRel base w9.heap.size w9 g h (offBook b i) i d c0 c1 c2 c3 c4 (.slice (some ⟨gs, 0, none⟩) h.dates.length cs) (.slice (some ⟨go, 0, none⟩) b.off.length co) vt xs 0 w9 (.slice none 0 0) := ⟨HD9.out, OwnL.nil _ _ _ _, StepX.refl _ _⟩
 go_loopw [7, 45] (fun outv idx wr => ∃ k : Nat, k ≤ z ∧ idx = .int .i64 k ∧ LoseRel base w9.heap.size w9 g h (offBook b i) i d c0 c1 c2 c3 c4 (.slice (some ⟨gs, 0, none⟩) h.dates.length cs) (.slice (some ⟨go, 0, none⟩) b.off.length co) vt xs k wr outv) (fun _ idx _ => z - (intOf idx).toNat)
 case atStart => exact ⟨0, Nat.zero_le _, rfl, hstart⟩
 case round =>
  obtain ⟨k, hk, rfl, hR⟩ := hrel
  obtain ⟨hDk, hown, hX⟩ := hR
  have hlike := like_to HO9.out (show 0 ≤ (offBook b i).cash from HC0.out) i d k (by have := HZ.out; omega)
  have hOk := hlike.ok HO9.out (by have := HC0.out; simp only [offBook]; omega)
  obtain ⟨P, hP⟩ : ∃ P, P = loseTo h (offBook b i) i d k := ⟨_, rfl⟩
  rw [← hP] at hDk hown hOk hlike
  have hcash : -1000000 ≤ P.1.cash := by have e1 := hlike.cash; have e2 : (offBook b i).cash = b.cash := rfl; have e3 := HC0.out; omega
  have hcash2 : P.1.cash ≤ 1000000000 := hOk.2.2.2.2.2.2.2.1
  have HP := zH hP
  have HDK := zH hDk
  obtain ⟨pu, cu, rfl, _, _⟩ := hown.form
  have HOWN := zH hown
  have HX := zH hX
  have HOK := zH hOk
  have HLK : Hid (P.2.length ≤ k) := zH (by rw [hP]; exact loseTo_len _ _ _ _ _)
  have HBASE : Hid (base ≤ w9.heap.size) := zH (by have := HD9.out.gb; have := HD9.out.lt; omega)
  clear hstart hDk hown hX hOk hlike hP
  by_cases hlt : k < z
  ·have hsl := HOK.out.2.2.1
   have his2 : i < P.1.seats.length := by omega
   have hkl : k < P.1.seats[i].length := by rw [HRL.out _ HOK.out]; exact hlt
   obtain ⟨m0, m1, m2, _, hgi⟩ := HDK.out.seat_c his2 hxi HXV.out hkl
   have hx3 : (0 : Int) ≤ (k : Int) ∧ (k : Int) < (z : Int) := by omega
   clear hsl
   by_cases hy : 0 < seatAt P.1 i k
   rotate_left
   ·have hN := zH (show loseTo h (offBook b i) i d (k + 1) = P by rw [loseTo_no (by rw [← HP.out]; exact hy), HP.out])
    go_wp2
    go_roundw
    case rel => exact ⟨k + 1, by omega, by go_num, by unfold LoseRel; rw [hN.out]; exact ⟨HDK.out, HOWN.out, HX.out⟩⟩
    case measure => simp [intOf]; omega
   ·obtain ⟨wo, hwo⟩ : ∃ wo, wo = wr := ⟨_, rfl⟩
    subst hwo
    have hi2 : (0 : Int) ≤ (i : Int) ∧ (i : Int) < 1000 := by omega
    clear m2
    go_wp2_with fail
    have hb2 := Bx.new wo [.int .i64 k, .int .i64 (-1), .int .i64 (-1)] 97
    have hs2 : Step wo (wo.alloc (.cells #[.int .i64 k, .int .i64 (-1), .int .i64 (-1)] 97)) := Step.alloc _ _
    have hst : InnerRel base w9.heap.size w9 g h P.1 i k d (seatAt P.1 i k) wo.heap.size (.slice pu P.2.length cu) P.2 c0 c1 c2 c3 c4 (.slice (some ⟨gs, 0, none⟩) h.dates.length cs) (.slice (some ⟨go, 0, none⟩) b.off.length co) vt xs (i + 1) (wo.alloc (.cells #[.int .i64 k, .int .i64 (-1), .int .i64 (-1)] 97)) none :=
     ⟨HOWN.out.step hs2, HX.out.trans (.of hs2), hb2, HDK.out.step hs2, rfl⟩
    have hmo : (Value.slice pu P.2.length cu).ownBlock ≠ some wo.heap.size := fun e => by have := (HOWN.out.lt _ e).2; omega
    have hmz : w9.heap.size ≤ wo.heap.size := HX.out.size
    have HMO := zH (And.intro hmo hmz)
    have hHOLD : Step wo (wo.alloc (.cells #[.int .i64 k, .int .i64 (-1), .int .i64 (-1)] 97)) := hs2
    clear hb2 hs2 hmo hmz hHOLD m0 m1 hgi
    generalize wo.alloc (.cells #[.int .i64 k, .int .i64 (-1), .int .i64 (-1)] 97) = W2 at *
    generalize wo.heap.size = mb at *
    obtain ⟨y, hyy⟩ : ∃ y, y = seatAt P.1 i k := ⟨_, rfl⟩
    rw [← hyy] at hst hy ⊢
    have HYY := zH hyy
    have HST := zH hst
    clear hyy hst
    go_loopw [11] (fun sv wi => ∃ (sN : Nat) (st : Option (Nat × Int)), i + 1 ≤ sN ∧ sN ≤ h.dates.length ∧ sv = .int .i64 sN ∧ InnerRel base w9.heap.size w9 g h P.1 i k d y mb (.slice pu P.2.length cu) P.2 c0 c1 c2 c3 c4 (.slice (some ⟨gs, 0, none⟩) h.dates.length cs) (.slice (some ⟨go, 0, none⟩) b.off.length co) vt xs sN wi st) (fun sv _ => h.dates.length - (intOf sv).toNat)
    case atStart => exact ⟨i + 1, none, Nat.le_refl _, by omega, by go_num, HST.out⟩
    case round =>
     clear HST
     obtain ⟨sN, st, hs1, hs2, rfl, hR⟩ := hrel
     cases st with
     | some sj =>
      obtain ⟨s0, j⟩ := sj
      obtain ⟨hown, hX, hbm, hDi, hpl⟩ := hR
      have HOI := zH hown
      have HXI := zH hX
      have HBM := zH hbm
      have HDI := zH hDi
      have HPL := zH hpl
      clear hown hX hbm hDi hpl
      have n0 := HBM.out.cell 0
      have n1 := HBM.out.cell 1
      have n2 := HBM.out.cell 2
      simp only [zD, zE] at n0 n1 n2
      obtain ⟨⟨_, _, e2, _, _⟩, _, f6, _⟩ := cells11 HDI.out.bx
      obtain ⟨pp2, kk2, rfl⟩ := (rep5 HDI.out.house).2.2.1.form
      have hs0 : (0 : Int) ≤ (s0 : Int) := by omega
      have hk0 := hk
      have hOB : OkDesk h (putSeat P.1 s0 j.toNat y) := (like_put P.1 s0 j.toNat y).ok HOK.out (by omega)
      have HOB := zH hOB
      have HNEXT := zH (show loseTo h (offBook b i) i d (k + 1) = (putSeat (putSeat P.1 s0 j.toNat y) i k 0, P.2 ++ [⟨k, s0, j⟩]) by
       rw [loseTo_yes (by rw [← HP.out, ← HYY.out]; exact hy), ← HP.out, ← HYY.out]
       unfold loseOne
       rw [HPL.out])
      clear hOB
      cases hlts : decide (sN < h.dates.length) with
      | true =>
       have hob : OkDesk h (putSeat P.1 s0 j.toNat y) := HOB.out
       have hisb : i < (putSeat P.1 s0 j.toNat y).seats.length := by have := hob.2.2.1; omega
       have hklb : k < (putSeat P.1 s0 j.toNat y).seats[i].length := by rw [HRL.out _ hob]; exact hlt
       obtain ⟨m0, m1, z1, hgsl, hgil⟩ := HDI.out.seat_c hisb hxi HXV.out hklb
       obtain ⟨_, _, f6, _⟩ := cells11 HDI.out.bx
       have hne : gi ≠ mb := fun e => apart_bx HBM.out (HDI.out.row i hisb hxi) (by decide) (by rw [HXV.out, ← e]; rfl)
       go_upto_region 21 with (fail)
       have hset := HDI.out.setSeat (j := k) hisb hxi (by rw [HRL.out _ hob]; exact HXV.out) 0
       obtain ⟨ccs, hcc⟩ := owns_block (by have := HDI.out.row i hisb hxi; rw [HXV.out] at this; exact this)
       have hown5 := moves_set HOI.out (k := gi) (o := k) (u := .int .i64 0) hcc (by decide)
       have hbm5 := HBM.out.setOther (b := gi) (o := k) (v := .int .i64 0) (Ne.symm hne)
       have hX5 := HXI.out.setCell ⟨gi, k, none⟩ (.int .i64 0) hset.2
       have HD5 := zH hset.1
       have H5 := zH (And.intro hown5 (And.intro hbm5 hX5))
       clear hset hown5 hbm5 hX5 m0 m1 z1 f6 hcc hne n0 n1 n2
       generalize wr.setCell ⟨gi, k, none⟩ (.int .i64 0) = W5 at *
       have n0 := H5.out.2.1.cell 0
       have n1 := H5.out.2.1.cell 1
       have n2 := H5.out.2.1.cell 2
       simp only [zD, zE] at n0 n1 n2
       have hu := SLe.one (S := avoid (fun _ => False) (.slice pu P.2.length cu)) (w := W5) (cs := [.int .i64 ((⟨k, s0, j⟩ : BT.Move)).seat, .int .i64 ((⟨k, s0, j⟩ : BT.Move)).shw, .int .i64 ((⟨k, s0, j⟩ : BT.Move)).at_]) (x := (⟨k, s0, j⟩ : BT.Move)) 97 rfl
       have hown6 := H5.out.1.alloc (.cells #[.int .i64 ((⟨k, s0, j⟩ : BT.Move)).seat, .int .i64 ((⟨k, s0, j⟩ : BT.Move)).shw, .int .i64 ((⟨k, s0, j⟩ : BT.Move)).at_] 97)
       have hlm : P.2.length ≤ k := HLK.out
       have hz6 : w9.heap.size ≤ (W5.alloc (.cells #[.int .i64 ((⟨k, s0, j⟩ : BT.Move)).seat, .int .i64 ((⟨k, s0, j⟩ : BT.Move)).shw, .int .i64 ((⟨k, s0, j⟩ : BT.Move)).at_] 97)).heap.size := by have := H5.out.2.2.size; simp; omega
       go_wp2_with (at_builtin; refine wpl_append (α := BT.Move) (S := fun _ => False) (base := w9.heap.size) (v := .slice pu P.2.length cu) (l := P.2) (m := [(⟨k, s0, j⟩ : BT.Move)]) eiMoves rfl _ _ rfl rfl rfl hown6 hu (P.2.length + 1) (by simp) (P.2 ++ [(⟨k, s0, j⟩ : BT.Move)]) rfl ?_ ?_ hz6 ?_)
       ·simp only [maxLen]; omega
       ·omega
       intro p' c' w7 hown7 hg7
       have hD7 := (HD5.out.step (Step.alloc _ _)).grown hown6 HBASE.out hg7
       have hX7 := (H5.out.2.2.alloc' (.cells #[.int .i64 ((⟨k, s0, j⟩ : BT.Move)).seat, .int .i64 ((⟨k, s0, j⟩ : BT.Move)).shw, .int .i64 ((⟨k, s0, j⟩ : BT.Move)).at_] 97)).trans (StepX.grown (X := fun j => base ≤ j) hg7 fun j hj _ => by have := (HOWN.out.lt j hj).1; have := HBASE.out; omega)
       have H7 := zH (And.intro hD7 (And.intro hown7 hX7))
       clear hown6 hu hlm hz6 hown7 hg7 hD7 hX7 n0 n1 n2
       go_wp2
       go_roundw
       case rel => exact ⟨k + 1, by omega, by go_num, by unfold LoseRel; rw [HNEXT.out]; exact H7.out⟩
       case measure => simp [intOf]; omega
      | false =>
       have hob : OkDesk h (putSeat P.1 s0 j.toNat y) := HOB.out
       have hisb : i < (putSeat P.1 s0 j.toNat y).seats.length := by have := hob.2.2.1; omega
       have hklb : k < (putSeat P.1 s0 j.toNat y).seats[i].length := by rw [HRL.out _ hob]; exact hlt
       obtain ⟨m0, m1, z1, hgsl, hgil⟩ := HDI.out.seat_c hisb hxi HXV.out hklb
       obtain ⟨_, _, f6, _⟩ := cells11 HDI.out.bx
       have hne : gi ≠ mb := fun e => apart_bx HBM.out (HDI.out.row i hisb hxi) (by decide) (by rw [HXV.out, ← e]; rfl)
       go_upto_region 21 with (fail)
       have hset := HDI.out.setSeat (j := k) hisb hxi (by rw [HRL.out _ hob]; exact HXV.out) 0
       obtain ⟨ccs, hcc⟩ := owns_block (by have := HDI.out.row i hisb hxi; rw [HXV.out] at this; exact this)
       have hown5 := moves_set HOI.out (k := gi) (o := k) (u := .int .i64 0) hcc (by decide)
       have hbm5 := HBM.out.setOther (b := gi) (o := k) (v := .int .i64 0) (Ne.symm hne)
       have hX5 := HXI.out.setCell ⟨gi, k, none⟩ (.int .i64 0) hset.2
       have HD5 := zH hset.1
       have H5 := zH (And.intro hown5 (And.intro hbm5 hX5))
       clear hset hown5 hbm5 hX5 m0 m1 z1 f6 hcc hne n0 n1 n2
       generalize wr.setCell ⟨gi, k, none⟩ (.int .i64 0) = W5 at *
       have n0 := H5.out.2.1.cell 0
       have n1 := H5.out.2.1.cell 1
       have n2 := H5.out.2.1.cell 2
       simp only [zD, zE] at n0 n1 n2
       have hu := SLe.one (S := avoid (fun _ => False) (.slice pu P.2.length cu)) (w := W5) (cs := [.int .i64 ((⟨k, s0, j⟩ : BT.Move)).seat, .int .i64 ((⟨k, s0, j⟩ : BT.Move)).shw, .int .i64 ((⟨k, s0, j⟩ : BT.Move)).at_]) (x := (⟨k, s0, j⟩ : BT.Move)) 97 rfl
       have hown6 := H5.out.1.alloc (.cells #[.int .i64 ((⟨k, s0, j⟩ : BT.Move)).seat, .int .i64 ((⟨k, s0, j⟩ : BT.Move)).shw, .int .i64 ((⟨k, s0, j⟩ : BT.Move)).at_] 97)
       have hlm : P.2.length ≤ k := HLK.out
       have hz6 : w9.heap.size ≤ (W5.alloc (.cells #[.int .i64 ((⟨k, s0, j⟩ : BT.Move)).seat, .int .i64 ((⟨k, s0, j⟩ : BT.Move)).shw, .int .i64 ((⟨k, s0, j⟩ : BT.Move)).at_] 97)).heap.size := by have := H5.out.2.2.size; simp; omega
       go_wp2_with (at_builtin; refine wpl_append (α := BT.Move) (S := fun _ => False) (base := w9.heap.size) (v := .slice pu P.2.length cu) (l := P.2) (m := [(⟨k, s0, j⟩ : BT.Move)]) eiMoves rfl _ _ rfl rfl rfl hown6 hu (P.2.length + 1) (by simp) (P.2 ++ [(⟨k, s0, j⟩ : BT.Move)]) rfl ?_ ?_ hz6 ?_)
       ·simp only [maxLen]; omega
       ·omega
       intro p' c' w7 hown7 hg7
       have hD7 := (HD5.out.step (Step.alloc _ _)).grown hown6 HBASE.out hg7
       have hX7 := (H5.out.2.2.alloc' (.cells #[.int .i64 ((⟨k, s0, j⟩ : BT.Move)).seat, .int .i64 ((⟨k, s0, j⟩ : BT.Move)).shw, .int .i64 ((⟨k, s0, j⟩ : BT.Move)).at_] 97)).trans (StepX.grown (X := fun j => base ≤ j) hg7 fun j hj _ => by have := (HOWN.out.lt j hj).1; have := HBASE.out; omega)
       have H7 := zH (And.intro hD7 (And.intro hown7 hX7))
       clear hown6 hu hlm hz6 hown7 hg7 hD7 hX7 n0 n1 n2
       go_wp2
       go_roundw
       case rel => exact ⟨k + 1, by omega, by go_num, by unfold LoseRel; rw [HNEXT.out]; exact H7.out⟩
       case measure => simp [intOf]; omega
     | none =>
      obtain ⟨hown, hX, hbm, hDi, hpl⟩ := hR
      have HOI := zH hown
      have HXI := zH hX
      have HBM := zH hbm
      have HDI := zH hDi
      have HPL := zH hpl
      clear hown hX hbm hDi hpl
      have n0 := HBM.out.cell 0
      have n1 := HBM.out.cell 1
      have n2 := HBM.out.cell 2
      simp only [zD, zE] at n0 n1 n2
      obtain ⟨pp0, kk0, rfl⟩ := (rep5 HDI.out.house).1.form
      obtain ⟨pp1, kk1, rfl⟩ := (rep5 HDI.out.house).2.1.form
      obtain ⟨pp2, kk2, rfl⟩ := (rep5 HDI.out.house).2.2.1.form
      obtain ⟨pp3, kk3, rfl⟩ := (rep5 HDI.out.house).2.2.2.1.form
      obtain ⟨pp4, kk4, rfl⟩ := (rep5 HDI.out.house).2.2.2.2.form
      obtain ⟨⟨e0, e1, e2, e3, e4⟩, _, f6, _, _, _, f10⟩ := cells11 HDI.out.bx
      have hkc : (k : Int) < sizeL h.sectors := by have := HZ.out; omega
      by_cases hsd : sN < h.dates.length
      ·have hd1 : decide (sN < h.dates.length) = true := by simpa using hsd
       have hcl := zH (class_any (fun q => base ≤ q) h (.agg #[.slice pp0 h.sectors.length kk0, .slice pp1 h.prices.length kk1, .slice pp2 h.dates.length kk2, .slice pp3 h.frm.length kk3, .slice pp4 h.holds.length kk4]) k wr ⟨_, rfl, HDI.out.house⟩ (okSec_valid HO.out.1) (by omega))
       go_wp2_with fail
       refine hcl.out.mono ?_
       rintro e w1 ⟨rfl, hS1⟩
       have HT1 := zH hS1
       clear hcl hS1 e0 e1 e2 e3 e4 f6 f10 n0 n1 n2
       have hop := zH (open2_any (HDI.out.step HT1.out) HOK.out sN hsd (classL h.sectors k) d)
       go_wp2_with fail
       refine hop.out.mono ?_
       rintro e w2 ⟨lv, rfl, hlv, hS2⟩
       have HT2 := zH (HT1.out.trans hS2)
       clear hop hS2
       cases hol : openL h P.1 sN (classL h.sectors k) d with
       | nil =>
        rw [hol] at hlv
        obtain ⟨pl, kl, rfl⟩ := hlv.form
        have HNX := zH (show placeL h P.1 (classL h.sectors k) d sN (h.dates.length - sN) = placeL h P.1 (classL h.sectors k) d (sN + 1) (h.dates.length - (sN + 1)) by
         rw [show h.dates.length - sN = (h.dates.length - (sN + 1)) + 1 by omega]; exact placeL_skip hol)
        clear hlv hol
        go_wp2
        go_roundw
        case rel => exact ⟨sN + 1, none, by omega, by omega, by go_num, HOI.out.step HT2.out, HXI.out.trans (.of HT2.out), HBM.out.step HT2.out, HDI.out.step HT2.out, HPL.out.trans HNX.out⟩
        case measure => simp [intOf]; omega
       | cons j rest =>
        obtain ⟨hj0, hj1, hj2⟩ := freeL_mem (k := j) (by rw [hol]; exact List.mem_cons_self)
        have hj1 : j < (z : Int) := by have := HZ.out; omega
        obtain ⟨jn, rfl⟩ : ∃ n : Nat, j = n := ⟨j.toNat, by omega⟩
        have hjn : jn < z := by omega
        have HNX := zH (show placeL h P.1 (classL h.sectors k) d sN (h.dates.length - sN) = some (sN, (jn : Int)) by
         rw [show h.dates.length - sN = (h.dates.length - (sN + 1)) + 1 by omega]; exact placeL_hit hol)
        rw [hol] at hlv
        obtain ⟨pl, cl, lb, lo, rfl, _, _, hpl, hlc, hlb⟩ := hlv.ints
        obtain rfl := hpl (by simp)
        have l0 := hlc 0 (by simp)
        have hlb := (hlb (by simp)).2
        simp only [List.getElem_cons_zero, Nat.add_zero] at l0
        obtain ⟨nl, hnl⟩ : ∃ nl, nl = ((jn : Int) :: rest).length := ⟨_, rfl⟩
        rw [← hnl]
        have hnl0 : 0 < nl := by rw [hnl]; simp
        have hnl1 : (0 : Int) < (nl : Int) := by omega
        have hnl2 : (0 : Int) ≤ 0 ∧ (0 : Int) < (nl : Int) := by omega
        have hbm2 := HBM.out.step HT2.out
        have hmlb : mb ≠ lb := fun e => hlb (by unfold Old; have := (HBM.out.step HT1.out).lt; omega)
        have n0 := hbm2.cell 0
        have n1 := hbm2.cell 1
        have n2 := hbm2.cell 2
        have zm := hbm2.frozen
        have hlbm : lb ≠ mb := Ne.symm hmlb
        simp only [zD, zE] at n0 n1 n2
        have HBM2 := zH hbm2
        have HL0 := zH (And.intro l0 hlbm)
        clear hlv hol hpl hlc hlb hnl hbm2 hj0 hj1 hj2
        go_upto_region 16 with (fail)
        go_region
        have b5 := ((HBM2.out.setCell 1 (.int .i64 sN)).setCell 2 (.int .i64 jn)).step (.drew _)
        have hw5 : Wrote mb w2 ((w2.setCell ⟨mb, 1, none⟩ (.int .i64 sN)).setCell ⟨mb, 2, none⟩ (.int .i64 jn)) := by
         have a1 := Wrote.setCell w2 mb 1 (.int .i64 sN)
         have a2 := Wrote.setCell (w2.setCell ⟨mb, 1, none⟩ (.int .i64 sN)) mb 2 (.int .i64 jn)
         exact ⟨a2.os.trans a1.os, a2.tape.trans a1.tape, a2.output.trans a1.output, a2.size.trans a1.size, fun q hq => (a2.block q hq).trans (a1.block q hq)⟩
        have hD2 := HDI.out.step HT2.out
        have hD5 := (hD2.besides hw5 HBM2.out (by have := HBASE.out; have := HMO.out.2; omega)).step (.drew _)
        have ho5 := ((HOI.out.step HT2.out).keptF fun q hq => hw5.block q fun e => HMO.out.1 (e ▸ hq)).step (.drew _)
        have hx5 : StepX (fun q => base ≤ q) w9 (((w2.setCell ⟨mb, 1, none⟩ (.int .i64 sN)).setCell ⟨mb, 2, none⟩ (.int .i64 jn)).drew) := (((HXI.out.trans (.of HT2.out)).setCell ⟨mb, 1, none⟩ _ (by show base ≤ mb; have := HBASE.out; have := HMO.out.2; omega)).setCell ⟨mb, 2, none⟩ _ (by show base ≤ mb; have := HBASE.out; have := HMO.out.2; omega)).drew'
        have l5 : (((w2.setCell ⟨mb, 1, none⟩ (.int .i64 sN)).setCell ⟨mb, 2, none⟩ (.int .i64 jn)).drew).cell? ⟨lb, lo, none⟩ = some (.int .i64 jn) := (hw5.keeps.cell (S := fun q => q = mb) (a := ⟨lb, lo, none⟩) HL0.out.2 HL0.out.1)
        have H5 := zH (And.intro b5 (And.intro hD5 (And.intro ho5 (And.intro hx5 l5))))
        clear b5 hw5 hD2 hD5 ho5 hx5 l5 n0 n1 n2 zm l0 hmlb hlbm
        generalize ((w2.setCell ⟨mb, 1, none⟩ (.int .i64 sN)).setCell ⟨mb, 2, none⟩ (.int .i64 jn)).drew = w5 at *
        obtain ⟨hxs, gis, cis, hxvs⟩ := HFO.out sN hsd
        have HXVS := zH hxvs
        have hob : OkDesk h P.1 := HOK.out
        have hisb : sN < P.1.seats.length := by have := hob.2.2.1; omega
        have hklb : jn < P.1.seats[sN].length := by rw [HRL.out _ hob]; exact hjn
        obtain ⟨m0, m1, z1, _, hgil⟩ := H5.out.2.1.seat_c hisb hxs hxvs hklb
        obtain ⟨_, _, f6, _⟩ := cells11 H5.out.2.1.bx
        have HM := zH (And.intro m0 (And.intro z1 (And.intro f6 (And.intro H5.out.2.2.2.2 hgil))))
        have hx7 : (0 : Int) ≤ (sN : Int) ∧ (sN : Int) < (h.dates.length : Int) := by omega
        have hx8 : (0 : Int) ≤ (jn : Int) ∧ (jn : Int) < (z : Int) := by omega
        clear m0 m1 z1 f6 hgil hxvs hob
        go_upto_region 17 with (fail)
        refine wp_region_seq (kdOf [] []) [0, 1, 3, 7, 15, 0, 63, 127, 0, 256, 768, 0, 4095, 8191] [0, 1, 2, 3, 4, 5, 6, 7, 8, 9, 10, 11, 12] [13] (by kernel_rfl) (by kernel_rfl) (fun i T z hi hk => by simp [kdOf] at hk <;> (try (split at hk <;> cases hk))) ?_
        intro Wx hWx
        have HT := zH hWx
        clear hWx
        have m0 := HT.out.kc HM.out.1
        have f6 := HT.out.kc HM.out.2.2.1
        have l5 := HT.out.kc HM.out.2.2.2.1
        repeat ((first | (refine run_off rfl rfl (by rfl) ?_) | (refine run_chain_off rfl rfl (by rfl) (K0_mono _) ?_) | ((refine run_want rfl rfl (by rfl) ⟨?_, fun W hW => ?_, ?_⟩; rotate_left; (· (have d0 := hW.kc m0; have d1 := hW.kc f6; have d2 := hW.kc l5; go_simp; (try with_reducible rfl)))))); (try simp only [Act.put, zA, zB, zC]))
        refine run_end (L := [_]) rfl (fun W6 hW6 => ?_)
        have HT6 := zH (HT.out.trans hW6)
        clear hW6 HT
        have HT := HT6
        clear HT6
        have hD6 := H5.out.2.1.step HT.out
        have z1 := (HT.out.cells.2 gis jn HM.out.2.2.2.2).trans HM.out.2.1
        obtain ⟨_, m1, _, _, _⟩ := hD6.seat_c hisb hxs HXVS.out hklb
        clear m0 f6 l5
        have hset := hD6.setSeat (j := jn) hisb hxs (by rw [HRL.out _ HOK.out]; exact HXVS.out) y
        obtain ⟨ccs, hcc⟩ := owns_block (by have := hD6.row sN hisb hxs; rw [HXVS.out] at this; exact this)
        have hown6 := moves_set (H5.out.2.2.1.step HT.out) (k := gis) (o := jn) (u := .int .i64 y) hcc (by decide)
        have hbm6 := H5.out.1.step HT.out
        have hne : gis ≠ mb := fun e => apart_bx hbm6 (hD6.row sN hisb hxs) (by decide) (by rw [HXVS.out, ← e]; rfl)
        have hbm7 := hbm6.setOther (b := gis) (o := jn) (v := .int .i64 y) (Ne.symm hne)
        have hX7 := (H5.out.2.2.2.1.trans (.of HT.out)).setCell ⟨gis, jn, none⟩ (.int .i64 y) hset.2
        have H7 := zH (And.intro hset.1 (And.intro hown6 (And.intro hbm7 hX7)))
        clear hD6 hset hcc hown6 hbm6 hne hbm7 hX7
        go_wp2
        go_roundw
        case rel => exact ⟨sN + 1, some (sN, (jn : Int)), by omega, by omega, by go_num, H7.out.2.1, H7.out.2.2.2, H7.out.2.2.1, by simpa using H7.out.1, HPL.out.trans HNX.out⟩
        case measure => simp [intOf]; omega
      ·have hd1 : decide (sN < h.dates.length) = false := by simpa using hsd
       have hpn : placeL h P.1 (classL h.sectors k) d (i + 1) (h.dates.length - (i + 1)) = none := by
        rw [HPL.out, show h.dates.length - sN = 0 by omega]; rfl
       have HNEXT := zH (show loseTo h (offBook b i) i d (k + 1) = (putSeat { P.1 with cash := P.1.cash - priceL h k } i k 0, P.2 ++ [⟨k, -1, -1⟩]) by
        rw [loseTo_yes (by rw [← HP.out, ← HYY.out]; exact hy), ← HP.out, ← HYY.out]
        unfold loseOne
        rw [hpn])
       clear hpn
       obtain ⟨kc, hkcl, hkl, hpr, hp0, hp1⟩ := class_valid HO.out.1 (n := k) (by omega) hkc
       have HPR := zH hpr
       have HPC := zH (fun W (hW : Step wr W) => price_any (fun q => base ≤ q) h (.agg #[.slice pp0 h.sectors.length kk0, .slice pp1 h.prices.length kk1, .slice pp2 h.dates.length kk2, .slice pp3 h.frm.length kk3, .slice pp4 h.holds.length kk4]) k W ⟨_, rfl, (HDI.out.step hW).house⟩ (okSec_valid HO.out.1) (by omega) kc hkcl hkl)
       clear hkcl hpr
       go_upto_region 19 with (fail)
       clear e0 e1 e2 e3 e4 f6 f10 n0 n1 n2
       refine wp_region_seq (kdOf [10] []) [0, 1, 3, 7, 15, 0, 32, 96, 224, 0, 992, 2047, 4095, 8191, 16383, 32767] [0, 1, 2, 3, 4, 5, 6, 7, 8, 9, 10, 11, 12, 13, 14] [15] (by kernel_rfl) (by kernel_rfl) (fun i T z hi hk => by simp [kdOf] at hk <;> (try (split at hk <;> cases hk))) ?_
       intro Wx hWx
       have HT := zH hWx
       clear hWx
       obtain ⟨⟨e0, e1, e2, e3, e4⟩, _, _, _, _, _, f10⟩ := cells11 (HDI.out.step HT.out).bx
       repeat ((first | (refine run_off rfl rfl (by rfl) ?_) | (refine run_chain_off rfl rfl (by rfl) (K0_mono _) ?_) | ((refine run_want rfl rfl (by rfl) ⟨?_, fun W hW => ?_, ?_⟩; rotate_left; (· (have d0 := hW.kc e0; have d1 := hW.kc e1; have d2 := hW.kc e2; have d3 := hW.kc e3; have d4 := hW.kc e4; have d5 := hW.kc f10; go_simp; (try with_reducible rfl)))))); (try simp only [Act.put, zA, zB, zC]))
       refine run_chain rfl rfl (by rfl) (fun Wi hWi K' hK => ?_)
       have HTi := zH (HT.out.trans hWi)
       have HZW := zH HTi.out.size
       clear hWi HT
       go_simp
       refine (HPC.out Wi HTi.out).mono ?_
       rintro e wn ⟨rfl, hSn⟩
       have HT := zH (HTi.out.trans (StepX.of hSn))
       clear HTi
       refine hK _ _ (StepX.of hSn) ?_
       clear hSn
       (try simp only [Act.put, zA, zB, zC])
       clear HPC e0 e1 e2 e3 e4 f10
       repeat ((first | (refine run_off rfl rfl (by rfl) ?_) | (refine run_chain_off rfl rfl (by rfl) (K0_mono _) ?_) | ((refine run_want rfl rfl (by rfl) ⟨?_, fun W hW => ?_, ?_⟩; rotate_left; (· (skip; go_simp; (try with_reducible rfl)))))); (try simp only [Act.put, zA, zB, zC]))
       refine run_end (L := [_]) rfl (fun W6 hW6 => ?_)
       have HT6 := zH (HT.out.trans hW6)
       clear hW6 HT
       have HT := HT6
       clear HT6
       have hD6 := HDI.out.step HT.out
       obtain ⟨_, _, _, _, _, _, f10⟩ := cells11 hD6.bx
       have z0 := hD6.bx.frozen 10
       have hb6 := hD6.bx.setCell 10 (.int .i64 (P.1.cash - h.prices[kc]))
       have hD7 := hD6.setBook (Wrote.setCell _ g 10 _) { P.1 with cash := P.1.cash - priceL h k } rfl rfl rfl (by simpa [HPR.out] using hb6)
       have hgm : mb ≠ g := fun e => by have h1 := hD6.bx; have h2 := HBM.out.step HT.out; subst e; unfold Bx at h1 h2; rw [h1] at h2; simp at h2
       have ho7 := moves_set (HOI.out.step HT.out) (k := g) (o := 10) (u := .int .i64 (P.1.cash - h.prices[kc])) hD6.bx (by decide)
       have hm7 := (HBM.out.step HT.out).setOther (b := g) (o := 10) (v := .int .i64 (P.1.cash - h.prices[kc])) hgm
       have hx7 := (HXI.out.trans (.of HT.out)).setCell ⟨g, 10, none⟩ (.int .i64 (P.1.cash - h.prices[kc])) hD6.gb
       have hob7 : OkDesk h { P.1 with cash := P.1.cash - priceL h k } := by
        have hb := HOK.out
        obtain ⟨o1, o2, o3, o4, o5, o6, o7, o8, o9⟩ := hb
        have := HPR.out
        exact ⟨o1, o2, o3, o4, o5, o6, by simp only []; omega, by simp only []; omega, o9⟩
       have H7 := zH (And.intro hD7 (And.intro ho7 (And.intro hm7 (And.intro hx7 hob7))))
       clear hD6 hb6 hD7 hgm ho7 hm7 hx7 hob7
       go_upto_region 20 with (fail)
       clear f10 z0
       generalize W6.setCell ⟨g, 10, none⟩ (.int .i64 (P.1.cash - h.prices[kc])) = wr at *
       have HDI := zH H7.out.1
       have HOI := zH H7.out.2.1
       have HBM := zH H7.out.2.2.1
       have HXI := zH H7.out.2.2.2.1
       have HOB := zH H7.out.2.2.2.2
       have n0 := HBM.out.cell 0
       have n1 := HBM.out.cell 1
       have n2 := HBM.out.cell 2
       simp only [zD, zE] at n0 n1 n2
       clear H7
       have hob : OkDesk h ({ P.1 with cash := P.1.cash - priceL h k }) := HOB.out
       have hisb : i < ({ P.1 with cash := P.1.cash - priceL h k }).seats.length := by have := hob.2.2.1; omega
       have hklb : k < ({ P.1 with cash := P.1.cash - priceL h k }).seats[i].length := by rw [HRL.out _ hob]; exact hlt
       obtain ⟨m0, m1, z1, hgsl, hgil⟩ := HDI.out.seat_c hisb hxi HXV.out hklb
       obtain ⟨_, _, f6, _⟩ := cells11 HDI.out.bx
       have hne : gi ≠ mb := fun e => apart_bx HBM.out (HDI.out.row i hisb hxi) (by decide) (by rw [HXV.out, ← e]; rfl)
       go_upto_region 21 with (fail)
       have hset := HDI.out.setSeat (j := k) hisb hxi (by rw [HRL.out _ hob]; exact HXV.out) 0
       obtain ⟨ccs, hcc⟩ := owns_block (by have := HDI.out.row i hisb hxi; rw [HXV.out] at this; exact this)
       have hown5 := moves_set HOI.out (k := gi) (o := k) (u := .int .i64 0) hcc (by decide)
       have hbm5 := HBM.out.setOther (b := gi) (o := k) (v := .int .i64 0) (Ne.symm hne)
       have hX5 := HXI.out.setCell ⟨gi, k, none⟩ (.int .i64 0) hset.2
       have HD5 := zH hset.1
       have H5 := zH (And.intro hown5 (And.intro hbm5 hX5))
       clear hset hown5 hbm5 hX5 m0 m1 z1 f6 hcc hne n0 n1 n2
       generalize wr.setCell ⟨gi, k, none⟩ (.int .i64 0) = W5 at *
       have n0 := H5.out.2.1.cell 0
       have n1 := H5.out.2.1.cell 1
       have n2 := H5.out.2.1.cell 2
       simp only [zD, zE] at n0 n1 n2
       have hu := SLe.one (S := avoid (fun _ => False) (.slice pu P.2.length cu)) (w := W5) (cs := [.int .i64 ((⟨k, -1, -1⟩ : BT.Move)).seat, .int .i64 ((⟨k, -1, -1⟩ : BT.Move)).shw, .int .i64 ((⟨k, -1, -1⟩ : BT.Move)).at_]) (x := (⟨k, -1, -1⟩ : BT.Move)) 97 rfl
       have hown6 := H5.out.1.alloc (.cells #[.int .i64 ((⟨k, -1, -1⟩ : BT.Move)).seat, .int .i64 ((⟨k, -1, -1⟩ : BT.Move)).shw, .int .i64 ((⟨k, -1, -1⟩ : BT.Move)).at_] 97)
       have hlm : P.2.length ≤ k := HLK.out
       have hz6 : w9.heap.size ≤ (W5.alloc (.cells #[.int .i64 ((⟨k, -1, -1⟩ : BT.Move)).seat, .int .i64 ((⟨k, -1, -1⟩ : BT.Move)).shw, .int .i64 ((⟨k, -1, -1⟩ : BT.Move)).at_] 97)).heap.size := by have := H5.out.2.2.size; simp; omega
       go_wp2_with (at_builtin; refine wpl_append (α := BT.Move) (S := fun _ => False) (base := w9.heap.size) (v := .slice pu P.2.length cu) (l := P.2) (m := [(⟨k, -1, -1⟩ : BT.Move)]) eiMoves rfl _ _ rfl rfl rfl hown6 hu (P.2.length + 1) (by simp) (P.2 ++ [(⟨k, -1, -1⟩ : BT.Move)]) rfl ?_ ?_ hz6 ?_)
       ·simp only [maxLen]; omega
       ·omega
       intro p' c' w7 hown7 hg7
       have hD7 := (HD5.out.step (Step.alloc _ _)).grown hown6 HBASE.out hg7
       have hX7 := (H5.out.2.2.alloc' (.cells #[.int .i64 ((⟨k, -1, -1⟩ : BT.Move)).seat, .int .i64 ((⟨k, -1, -1⟩ : BT.Move)).shw, .int .i64 ((⟨k, -1, -1⟩ : BT.Move)).at_] 97)).trans (StepX.grown (X := fun j => base ≤ j) hg7 fun j hj _ => by have := (HOWN.out.lt j hj).1; have := HBASE.out; omega)
       have H7 := zH (And.intro hD7 (And.intro hown7 hX7))
       clear hown6 hu hlm hz6 hown7 hg7 hD7 hX7 n0 n1 n2
       go_wp2
       go_roundw
       case rel => exact ⟨k + 1, by omega, by go_num, by unfold LoseRel; rw [HNEXT.out]; exact H7.out⟩
       case measure => simp [intOf]; omega
  ·have hkz : k = z := by omega
   have HKZ := zH hkz
   clear hkz
   go_wp2
   go_ret
   have hlen : (b.seats.getD i []).length = z := by
    have hbs : i < b.seats.length := by have := HO.out.2.2.1; omega
    rw [List.getD_eq_getElem?_getD, List.getElem?_eq_getElem hbs]
    exact HRL.out _ HO.out i hbs
   have hres : loseD h b i d = .ok P := by
    unfold loseD
    rw [if_pos HF.out, Int.toNat_natCast, hlen, ← HKZ.out, HP.out]
   rw [hres]
   exact ⟨_, rfl, ⟨_, _, _, _, _, _, _, _, _, HDK.out⟩, OwnL.sl (HOWN.out.flat _) (fun q hq _ hl => by have := HX9.out.size; omega), HX9.out.trans HX.out⟩
end
end Go.Proofs.YtgpiieogiafdoaaGreat
namespace Go.Proofs.YtgpiieogiafdoaaGreat
set_option linter.unusedSimpArgs false
set_option linter.unusedVariables false
open Go.RowKit Go.BT
theorem wpS_body {P : Program} {fn : Func} {c : Code} {c₀ : Frame} {cs cs' : List Frame} {R : Ending → FrameMode → World → Prop} {a : Act} {w : World} (u : FrameMode) (R' : Ending → World → Prop) (hcs : cs' = { c₀ with mode := u } :: cs) (hR : ∀ e w', R' e w' → R e u w')
  (h : c.wp P (bodyPost P fn R') a w) : c.wpS P (bodyPostS P fn c₀ cs R) a cs' w := by
 refine wpS_of_wp (wp_mono h fun e a' w' he => ?_)
 cases e with
 | normal => obtain ⟨h1, v, h2, h3⟩ := he; exact ⟨h1, u, hcs, v, h2, hR _ _ h3⟩
 | ret => obtain ⟨h1, v, h2, h3⟩ := he; exact ⟨h1, u, hcs, v, h2, hR _ _ h3⟩
 | panic ch => obtain ⟨h1, h3⟩ := he; exact ⟨h1, u, hcs, hR _ _ h3⟩
 | outgrown => exact ⟨u, hR _ _ he⟩
 | exit id => exact he.elim
 | goto l => exact he.elim
theorem done1_idle (p q : Addr) (w : World) :
  CallsD Tryz.prog 112 #[.pointer (some p), .pointer (some q)] .returning w fun e u' w' => (e = .returned (.tuple #[]) ∧ Step w w') ∧ u' = .returning := by
 refine callsD_of_wpS Tryz.func112 rfl fun c₀ cs hu => ?_
 simp only [Tryz.ntmps112, List.size_toArray, List.length_cons, List.length_nil, Nat.reduceAdd, Nat.reduceSub, Array.replicate_succ, Array.replicate_zero, List.push_toArray, List.append_toArray, List.nil_append, List.cons_append]
 apply wpS_seq
 apply wpS_region
 simp [wpOpsS, go_sem, recoverD, hu, Exit.thenS]
 have hcs : c₀ :: cs = { c₀ with mode := .returning } :: cs := by cases c₀; simp at hu; subst hu; rfl
 refine wpS_body .returning (fun e w' => e = .returned (.tuple #[]) ∧ Step w w') hcs (fun e w' h => ⟨h, rfl⟩) ?_
 clear hcs hu
 go_wp2
 exact bodyPost_ret (results_none rfl _ _ _) rfl ⟨rfl, Step.refl _⟩
theorem assert_refused (v : Value) (w : World) : (Instr.typeAssert (.iface 182 v) 20 182 true).run Tryz.prog w = .ok (.tuple #[v, .bool true]) w := by kernel_rfl
def caught (c : Int) : List PanicEntry := [{ v := .iface 182 (.agg #[.int .i64 c]), recovered := true }]
theorem done1_caught (p q : Nat) (c : Int) (x0 x1 x2 x3 x4 x5 y : Value) (w : World) (hp : Bx w p [x0, x1, x2, x3, x4, x5] 77) (hq : Bx w q [y] 36) :
  CallsD Tryz.prog 112 #[.pointer (some ⟨p, 0, none⟩), .pointer (some ⟨q, 0, none⟩)] (.panicking (refusal c)) w fun e u' w' =>
   (e = .returned (.tuple #[]) ∧ Bx w' p [.int .i64 0, .slice none 0 0, .slice none 0 0, .int .i64 0, .slice none 0 0, .int .i64 0] 77 ∧ Bx w' q [.int .i64 c] 36 ∧ StepX (fun j => j = p ∨ j = q) w w') ∧ u' = .panicking (caught c) := by
 have hpq : p ≠ q := fun e => by subst e; unfold Bx at hp hq; rw [hp] at hq; simp at hq
 have HP := zH hp
 have HQ := zH hq
 have HPQ := zH hpq
 clear hp hq hpq
 refine callsD_of_wpS Tryz.func112 rfl fun c₀ cs hu => ?_
 simp only [Tryz.ntmps112, List.size_toArray, List.length_cons, List.length_nil, Nat.reduceAdd, Nat.reduceSub, Array.replicate_succ, Array.replicate_zero, List.push_toArray, List.append_toArray, List.nil_append, List.cons_append]
 apply wpS_seq
 apply wpS_region
 unfold refusal at hu
 obtain ⟨pv, hpv⟩ : ∃ pv, pv = Value.agg #[.int .i64 c] := ⟨_, rfl⟩
 rw [← hpv] at hu
 simp [wpOpsS, go_sem, recoverD, hu, Exit.thenS]
 refine wpS_body (.panicking (caught c)) (fun e w' => e = .returned (.tuple #[]) ∧ Bx w' p [.int .i64 0, .slice none 0 0, .slice none 0 0, .int .i64 0, .slice none 0 0, .int .i64 0] 77 ∧ Bx w' q [.int .i64 c] 36 ∧ StepX (fun j => j = p ∨ j = q) w w') (by rw [hpv]; rfl) (fun e w' h => ⟨h, rfl⟩) ?_
 rw [hpv]
 clear hpv
 have hta := fun w => assert_refused (.agg #[.int .i64 c]) w
 obtain ⟨y0, y1, y2, y3, y4, y5⟩ := cells6 HP.out
 have z0 := HQ.out.cell 0
 clear hu
 go_wp2_with fail
 have y0' := ((Step.alloc w (.cells #[.int .i64 c] 182)).kc y0)
 have hlp := HP.out.lt
 have hlq := HQ.out.lt
 have hn1 : w.heap.size ≠ p := by omega
 have hn2 : w.heap.size ≠ q := by omega
 have hn3 : p ≠ w.heap.size := by omega
 have hn4 : q ≠ w.heap.size := by omega
 have hpq := HPQ.out
 have hqp : q ≠ p := fun e => HPQ.out e.symm
 have zz := HP.out.frozen
 have zq := HQ.out.frozen
 go_wp2
 go_region
 clear y0 y1 y2 y3 y4 y5 y0' z0 hlp hlq hn1 hn2 hn3 hn4 zz zq hta
 go_end0
 have b1 := (set6 HP.out (.int .i64 0) (.slice none 0 0) (.slice none 0 0) (.int .i64 0) (.slice none 0 0) (.int .i64 0)).1
 have b2 := ((((((HQ.out.setOther (b := p) (o := 0) (v := .int .i64 0) hqp).setOther (b := p) (o := 1) (v := .slice none 0 0) hqp).setOther (b := p) (o := 2) (v := .slice none 0 0) hqp).setOther (b := p) (o := 3) (v := .int .i64 0) hqp).setOther (b := p) (o := 4) (v := .slice none 0 0) hqp).setOther (b := p) (o := 5) (v := .int .i64 0) hqp).setCell 0 (.int .i64 c)
 refine ⟨rfl, ((b1.setOther (b := q) (o := 0) (v := .int .i64 c) hpq).alloc _).step (.drew _), (b2.alloc _).step (.drew _), ?_⟩
 refine StepX.drew' (StepX.alloc' ?_ _)
 exact (((((((StepX.refl _ w).setCell ⟨p, 0, none⟩ _ (.inl rfl)).setCell ⟨p, 1, none⟩ _ (.inl rfl)).setCell ⟨p, 2, none⟩ _ (.inl rfl)).setCell ⟨p, 3, none⟩ _ (.inl rfl)).setCell ⟨p, 4, none⟩ _ (.inl rfl)).setCell ⟨p, 5, none⟩ _ (.inl rfl)).setCell ⟨q, 0, none⟩ _ (.inr rfl)
theorem _root_.Go.BT.StepX.over {C X : Nat → Prop} {w0 w w' : World} (h : StepX C w0 w) (k : StepX X w w') (hX : ∀ j, X j → w0.heap.size ≤ j ∨ C j) : StepX C w0 w' :=
 ⟨k.os.trans h.os, k.tape.trans h.tape, k.output.trans h.output, Nat.le_trans h.size k.size, fun j hj hn => (k.block j (Nat.lt_of_lt_of_le hj h.size) (fun hx => (hX j hx).elim (fun h => by omega) hn)).trans (h.block j hj hn)⟩
def DeskQ (base : Nat) (w : World) (g : Nat) (h : House) (b : Book) : Prop := ∃ W0, DeskE base W0 g h b ∧ W0.heap.size ≤ w.heap.size ∧ ∀ j, base ≤ j → w.heap[j]? = W0.heap[j]?
theorem DeskE.q {base : Nat} {w : World} {g : Nat} {h : House} {b : Book} (hD : DeskE base w g h b) : DeskQ base w g h b := ⟨w, hD, Nat.le_refl _, fun _ _ => rfl⟩
def DoEnds (base : Nat) (C : Nat → Prop) (g : Nat) (h : House) (r : Except Int Book) (Z : World → Prop) (e : Ending) (W W' : World) : Prop := match r with
 | .ok b' => e = .returned (.tuple #[]) ∧ DeskQ base W' g h b' ∧ Z W' ∧ StepX (fun j => base ≤ j ∨ C j) W W'
 | .error c => e = .panicked (refusal c) ∧ StepX (fun j => base ≤ j) W W'
def DoneEnds (C : Nat → Prop) (r : Except Int Book) (Z : World → Prop) (w : World) (e : Ending) (w' : World) : Prop := match r with
 | .ok b' => ∃ v', e = .returned (.tuple #[v', .int .i64 0]) ∧ AV (Old w) w' v' b' ∧ Z w' ∧ StepX C w w'
 | .error c => ∃ v', e = .returned (.tuple #[v', .int .i64 c]) ∧ AV (Old w) w' v' noBook ∧ Step w w'
def doneR (h : House) (b : Book) (r : Except Int Book) : Except Int Book := if checkR h b = 0 then r else .error 1
theorem load_errno (w : World) (q : Nat) (c : Value) (h : w.cell? ⟨q, 0, none⟩ = some c) : (loadVar 36 ⟨q, 0, none⟩).run Tryz.prog w = .ok c w := by
 simp [go_sem, h]
theorem leaves_two {P : Program} {fn : Func} {R : Ending → World → Prop} {tmps : Array Value} {w : World} {t u : Tmp} {T U T' : TypeId} {k g q : Nat} {cs : List Value} {y : Value} (hr : fn.results = #[.cell t T, .cell u U]) (hi : SI P T k)
  (ht : tmps.getD t undef = .pointer (some ⟨g, 0, none⟩)) (hu : tmps.getD u undef = .pointer (some ⟨q, 0, none⟩)) (hb : Bx w g cs T') (hk : cs.length = k) (hq : (loadVar U ⟨q, 0, none⟩).run P w = .ok y w) (hR : R (.returned (.tuple #[.agg cs.toArray, y])) w) : Leaves P fn tmps R [] .returning w := by
 refine ⟨_, ?_, hR⟩
 have ht' : tmps[t]?.getD undef = .pointer (some ⟨g, 0, none⟩) := by simpa using ht
 have hu' : tmps[u]?.getD undef = .pointer (some ⟨q, 0, none⟩) := by simpa using hu
 simp [results, hr, ht', hu', asAddr, run_loadVar_bx hi hb hk, hq]
theorem noBook_av {S : Nat → Prop} {w : World} : AV S w (.agg (List.toArray [.int .i64 0, .slice none 0 0, .slice none 0 0, .int .i64 0, .slice none 0 0, .int .i64 0])) noBook := ⟨_, rfl, noBook_rep S w⟩
theorem okDesk_of {h : House} {b : Book} (hc : checkR h b = 0) : OkDesk h b ∧ b.cash = cashL h b.seats ∧ (∀ i (hi : i < b.seats.length), b.seats[i].length ≤ 100) ∧ b.off.length ≤ 6 ∧ b.took.length ≤ 1000 := by
 have hvb : valid h = true ∧ bookB h b = true := by unfold checkR at hc; split at hc <;> simp_all
 obtain ⟨hv, hb⟩ := hvb
 simp only [bookB, bookA, Bool.and_eq_true, decide_eq_true_eq, withinB] at hb
 obtain ⟨⟨⟨⟨⟨⟨⟨a1, a2⟩, a3⟩, a4⟩, a5⟩, a6⟩, a7⟩, _⟩ := hb
 have hbd := bounds_valid hv
 have hrow : ∀ i (hi : i < b.seats.length), (b.seats[i].length : Int) = sizeL h.sectors := fun i hi => by
  have := List.all_eq_true.1 a6 _ (List.getElem_mem hi)
  simp [rowB] at this
  exact this.1
 have hcb := cashTo_bound hv hrow b.seats.length (Nat.le_refl _)
 have hz := hbd.2.2.2.2.2.2.2.1
 refine ⟨⟨hv, a2, a3, hrow, by omega, by omega, ?_, ?_, by omega, by omega⟩, a7, fun i hi => by have := hrow i hi; omega, by omega, a5⟩
 ·rw [a7]; unfold cashL; omega
 ·rw [a7]; unfold cashL; have := hbd.2.1; omega
theorem done_any (S : Nat → Prop) (h : House) (b : Book) (v u : Value) (w : World) (f : FuncId) (cap : Array Value) (eg : ∀ args w, (callFunc f args).run Tryz.prog w = .ok (.enter f args) w) (C : Nat → Prop) (r : Except Int Book) (Z : World → Prop)
  (hv : AV S w v h) (hu : AV S w u b) (hC : ∀ j, C j → S j ∧ j < w.heap.size) (hZ : ∀ W W', Z W → StepX (fun j => w.heap.size ≤ j ∧ j < w.heap.size + 4) W W' → Z W')
  (hdo : checkR h b = 0 → ∀ W base g, Step w W → w.heap.size + 4 ≤ base → base ≤ W.heap.size → DeskE base W g h b → Calls Tryz.prog f (#[.pointer (some ⟨g, 0, none⟩)] ++ cap) W (fun e W' => DoEnds base C g h r Z e W W')) :
  Calls Tryz.prog 66 #[v, u, .func (.func f) #[] cap] w (fun e w' => DoneEnds C (doneR h b r) Z w e w') := by
 obtain ⟨cs, rfl, hr⟩ := hv
 have hr0 := hr
 obtain ⟨c0, c1, c2, c3, c4, rfl, h0, h1, h2, h3, h4⟩ := hr
 obtain ⟨p0, k0, rfl⟩ := h0.form
 obtain ⟨p1, k1, rfl⟩ := h1.form
 obtain ⟨p2, k2, rfl⟩ := h2.form
 obtain ⟨p3, k3, rfl⟩ := h3.form
 obtain ⟨p4, k4, rfl⟩ := h4.form
 obtain ⟨cs, rfl, hq⟩ := hu
 have hq0 := hq
 obtain ⟨d1, d2, d4, rfl, s1, s2, s4⟩ := hq
 obtain ⟨q1, m1, rfl⟩ := s1.form
 obtain ⟨q2, m2, rfl⟩ := s2.form
 obtain ⟨q4, m4, rfl⟩ := s4.form
 have hmf : ∀ (fn : Fn) (first cap : Array Value) (w : World), (Instr.makeFunc fn first cap).run Tryz.prog w = .ok (.func fn first cap) w := fun _ _ _ _ => rfl
 obtain ⟨W4, hW4⟩ : ∃ W4, W4 = (((w.alloc (.cells #[.slice p0 h.sectors.length k0, .slice p1 h.prices.length k1, .slice p2 h.dates.length k2, .slice p3 h.frm.length k3, .slice p4 h.holds.length k4] 41)).alloc (.cells #[.int .i64 b.agency, .slice q1 b.seats.length m1, .slice q2 b.off.length m2, .int .i64 b.sent, .slice q4 b.took.length m4, .int .i64 b.cash] 77)).alloc (.cells #[.int .i64 0, .slice none 0 0, .slice none 0 0, .int .i64 0, .slice none 0 0, .int .i64 0] 77)).alloc (.cells #[.int .i64 0] 36) := ⟨_, rfl⟩
 have hb0 : Bx W4 w.heap.size [.slice p0 h.sectors.length k0, .slice p1 h.prices.length k1, .slice p2 h.dates.length k2, .slice p3 h.frm.length k3, .slice p4 h.holds.length k4] 41 := by subst hW4; exact (((Bx.new _ _ _).alloc _).alloc _).alloc _
 have hb1 : Bx W4 (w.heap.size + 1) [.int .i64 b.agency, .slice q1 b.seats.length m1, .slice q2 b.off.length m2, .int .i64 b.sent, .slice q4 b.took.length m4, .int .i64 b.cash] 77 := by subst hW4; exact ((Bx.new' _ _ _ _ (by simp)).alloc _).alloc _
 have hb2 : Bx W4 (w.heap.size + 2) [.int .i64 0, .slice none 0 0, .slice none 0 0, .int .i64 0, .slice none 0 0, .int .i64 0] 77 := by subst hW4; exact (Bx.new' _ _ _ _ (by simp)).alloc _
 have hb3 : Bx W4 (w.heap.size + 3) [.int .i64 0] 36 := by subst hW4; exact Bx.new' _ _ _ _ (by simp)
 have hS : Step w W4 := by subst hW4; exact (by with_reducible repeat (first | assumption | exact Step.refl _ | apply Step.s_alloc | apply Step.s_drew | apply Step.s_drewN | refine Step.trans ?_ (by assumption)))
 have hz4 : W4.heap.size = w.heap.size + 4 := by subst hW4; simp
 have HB0 := zH hb0
 have HB1 := zH hb1
 have HB2 := zH hb2
 have HB3 := zH hb3
 have HS := zH hS
 have HZ4 := zH hz4
 have HR := zH (Rep.keep (.of_step hS) hr0)
 have HQ := zH (Rep.keep (.of_step hS) hq0)
 have HW := zH hW4
 have HC := zH hC
 have HZ := zH hZ
 have HDO := zH hdo
 clear hC hZ hdo h0 h1 h2 h3 h4 s1 s2 s4 hb0 hb1 hb2 hb3 hS hz4 hr0 hq0 hW4
 go_enter_defers Tryz.func66, Tryz.ntmps66
 go_wp2_with fail
 rw [← HW.out]
 clear HW
 refine (check_any S h b _ _ W4 ⟨_, rfl, HR.out⟩ ⟨_, rfl, HQ.out⟩).mono ?_
 rintro e w1 ⟨rfl, hS1⟩
 have HT := zH hS1
 clear hS1
 by_cases hck : checkR h b = 0
 rotate_left
 ·have hck1 : checkR h b = 1 := by unfold checkR at hck ⊢; split <;> simp_all
  have hres : doneR h b r = .error 1 := by simp [doneR, hck1]
  have HRES := zH hres
  rw [hck1]
  clear hck hck1 hres
  obtain ⟨f0, f1, f2, f3, f4, f5⟩ := cells6 (HB2.out.step HT.out)
  have zf := (HB2.out.step HT.out).frozen
  have z0 := (HB3.out.step HT.out).cell 0
  have z1 := (HB3.out.step HT.out).frozen
  go_wp2
  clear f0 f1 f2 f3 f4 f5 zf z0 z1
  have b2 := set6 (HB2.out.step HT.out) (.int .i64 0) (.slice none 0 0) (.slice none 0 0) (.int .i64 0) (.slice none 0 0) (.int .i64 0)
  have b2' := b2.1.setOther (b := w.heap.size + 3) (o := 0) (v := .int .i64 1) (by omega)
  have b3 := ((HB3.out.step HT.out).keep b2.2.keeps (by omega)).setCell 0 (.int .i64 1)
  refine leaves_two (k := 6) rfl siBook rfl rfl b2' rfl (load_errno _ _ _ (b3.cell 0)) ?_
  rw [HRES.out]
  refine ⟨_, rfl, noBook_av, ?_⟩
  refine Step.setNew (StepX.fresh (HS.out.trans HT.out) b2.2 (fun j hj => by omega)) ⟨w.heap.size + 3, 0, none⟩ _ (by show w.heap.size ≤ w.heap.size + 3; omega)
 have hres : doneR h b r = r := by simp [doneR, hck]
 have HDO := zH (HDO.out hck)
 have HRES := zH hres
 rw [hck]
 have HCK := zH hck
 clear hck hres
 obtain ⟨hO, hcash, hrl, hol, htl⟩ := okDesk_of HCK.out
 have hsl : b.seats.length ≤ 1000 := by have := hO.2.2.1; have := (bounds_valid hO.1).2.1; omega
 have hcall := zH (at_any S h b _ _ w1 ⟨_, rfl, Rep.keep (.of_step HT.out) HR.out⟩ ⟨_, rfl, Rep.keep (.of_step HT.out) HQ.out⟩ hsl (fun i hi => by have := hrl i hi; omega) (by omega) (by omega))
 clear hO hcash hrl hol htl hsl
 obtain ⟨e0, e1, e2, e3, e4⟩ := cells5 (HB0.out.step HT.out)
 obtain ⟨f0, f1, f2, f3, f4, f5⟩ := cells6 (HB1.out.step HT.out)
 go_wp2_with fail
 refine hcall.out.mono ?_
 rintro e w2 ⟨g, rfl, hD, hS2⟩
 have hz1 := HT.out.size
 have hz4 := HZ4.out
 have hz2 := hS2.size
 have hdo := HDO.out w2 w1.heap.size g ((HS.out.trans HT.out).trans hS2) (by omega) hz2 hD
 have HDC := zH hdo
 have HT2 := zH hS2
 clear hcall HDO hD hS2 e0 e1 e2 e3 e4 f0 f1 f2 f3 f4 f5 hdo hz1 hz4 hz2
 go_wp2_with fail
 refine HDC.out.mono ?_
 rintro e w3 he
 clear HDC
 cases hr : r with
 | error c =>
  rw [hr] at he
  obtain ⟨rfl, hS3⟩ := he
  have HS3 := zH hS3
  clear hS3
  have hz1 := HT.out.size
  have hz4 := HZ4.out
  have hb2 := ((HB2.out.step HT.out).step HT2.out).keep HS3.out.keeps (by omega)
  have hb3 := ((HB3.out.step HT.out).step HT2.out).keep HS3.out.keeps (by omega)
  refine leaves_cons (f := 112) (args := #[.pointer (some ⟨w.heap.size + 2, 0, none⟩), .pointer (some ⟨w.heap.size + 3, 0, none⟩)]) (by simp) (by simp [go_sem]) ?_
  refine (done1_caught (w.heap.size + 2) (w.heap.size + 3) c _ _ _ _ _ _ _ w3 hb2 hb3).mono ?_
  rintro e u' w4 ⟨⟨rfl, hb4, hb5, hS4⟩, rfl⟩
  show Leaves _ _ _ _ [] .returning w4
  refine leaves_two (k := 6) rfl siBook rfl rfl hb4 rfl (load_errno _ _ _ (hb5.cell 0)) ?_
  rw [HRES.out, hr]
  have hS0 : Step w w3 := StepX.fresh ((HS.out.trans HT.out).trans HT2.out) HS3.out (fun j hj => by omega)
  exact ⟨_, rfl, noBook_av, StepX.fresh hS0 hS4 (fun j hj => by rcases hj with rfl | rfl <;> omega)⟩
 | ok b' =>
  rw [hr] at he
  obtain ⟨rfl, hD, hZ3, hS3⟩ := he
  obtain ⟨W0, ⟨x0, x1, x2, x3, x4, vs, vo, vt, xs, hD⟩, hq1, hq2⟩ := hD
  have HD := zH hD
  have HQ12 := zH (And.intro hq1 hq2)
  have hbx3 : Bx w3 g [x0, x1, x2, x3, x4, .int .i64 b'.agency, vs, vo, .int .i64 b'.sent, vt, .int .i64 b'.cash] 186 := by unfold Bx; rw [hq2 g hD.gb]; exact hD.bx
  clear hq1 hq2
  have HZ3 := zH hZ3
  have HS3 := zH hS3
  have HRR := zH hr
  have hC := HC.out
  have hz1 := HT.out.size
  have hz4 := HZ4.out
  have hn2 : ¬ (w1.heap.size ≤ w.heap.size + 2 ∨ C (w.heap.size + 2)) := fun h => h.elim (fun h => by omega) (fun h => by have := (hC _ h).2; omega)
  have hn3 : ¬ (w1.heap.size ≤ w.heap.size + 3 ∨ C (w.heap.size + 3)) := fun h => h.elim (fun h => by omega) (fun h => by have := (hC _ h).2; omega)
  have HB2' := zH (((HB2.out.step HT.out).step HT2.out).keep HS3.out.keeps hn2)
  have HB3' := zH (((HB3.out.step HT.out).step HT2.out).keep HS3.out.keeps hn3)
  have HZZ := zH (And.intro hz1 hz4)
  obtain ⟨_, e5, e6, e7, e8, e9, e10⟩ := cells11 hbx3
  clear hbx3
  obtain ⟨f0, f1, f2, f3, f4, f5⟩ := cells6 HB2'.out
  have zf := HB2'.out.frozen
  have z0 := HB3'.out.cell 0
  have z1 := HB3'.out.frozen
  obtain ⟨px, cx, rfl, _, _⟩ := owns_form hD.outer
  obtain ⟨py, cy, rfl, _, _⟩ := owns_form hD.off
  obtain ⟨pz, cz, rfl, _, _⟩ := hD.took.form
  clear hD hZ3 hS3 hr hC hz1 hz4 hn2 hn3
  go_wp2
  clear e5 e6 e7 e8 e9 e10 f0 f1 f2 f3 f4 f5 zf z0 z1
  have hz1 := HZZ.out.1
  have hz4 := HZZ.out.2
  have b2 := set6 HB2'.out (.int .i64 b'.agency) (.slice px b'.seats.length cx) (.slice py b'.off.length cy) (.int .i64 b'.sent) (.slice pz b'.took.length cz) (.int .i64 b'.cash)
  have b2' := b2.1.setOther (b := w.heap.size + 3) (o := 0) (v := .int .i64 0) (by omega)
  have b3 := (HB3'.out.keep b2.2.keeps (by omega)).setCell 0 (.int .i64 0)
  have s2 : StepX (fun j => j = w.heap.size + 2 ∨ j = w.heap.size + 3) w3 _ := (b2.2.mono (fun _ _ h => .inl h)).setCell ⟨w.heap.size + 3, 0, none⟩ (.int .i64 0) (.inr rfl)
  refine leaves_cons (f := 112) (args := #[.pointer (some ⟨w.heap.size + 2, 0, none⟩), .pointer (some ⟨w.heap.size + 3, 0, none⟩)]) (by simp) (by simp [go_sem]) ?_
  refine (done1_idle _ _ _).mono ?_
  rintro e u' w4 ⟨⟨rfl, hS4⟩, rfl⟩
  have s4 := s2.trans (.of hS4)
  show Leaves _ _ _ _ [] .returning w4
  refine leaves_two (k := 6) rfl siBook rfl rfl (b2'.step hS4) rfl (load_errno _ _ _ ((b3.step hS4).cell 0)) ?_
  rw [HRES.out, HRR.out]
  refine ⟨_, rfl, ⟨_, rfl, ?_⟩, HZ.out w3 w4 HZ3.out (s4.mono fun j _ hj => by omega), ?_⟩
  ·have h3 := Rep.keep (w' := w3) ⟨HQ12.out.1, fun j _ hs => HQ12.out.2 j (by omega)⟩ (HD.out.book (S := fun j => j < w1.heap.size) (fun j hj => by omega))
   exact Rep.weak (fun j _ hj => by unfold Old at hj; omega) (Rep.keep (s4.keeps.mono fun j _ hj => by omega) h3)
  ·have a1 : StepX C w w2 := .of ((HS.out.trans HT.out).trans HT2.out)
   exact (a1.over HS3.out (fun j hj => hj.imp (fun h => by omega) id)).over s4 (fun j hj => .inl (by omega))
theorem DeskEnds.do {base g : Nat} {h : House} {r : Except Int Book} {e : Ending} {W W' : World} (C : Nat → Prop) (hh : DeskEnds base g h r e W W') : DoEnds base C g h r (fun _ => True) e W W' := by
 obtain ⟨h1, h2⟩ := hh
 cases r with
 | ok b' => exact ⟨h2.1, DeskE.q h2.2, trivial, h1.mono fun j _ hj => .inl hj⟩
 | error c => exact ⟨h2, h1⟩
def actR (r : Except Int Book) : Book × Int := match r with
 | .ok b => (b, 0)
 | .error c => (noBook, c)
theorem DoneEnds.act {C : Nat → Prop} (hC : ∀ j, ¬ C j) {r : Except Int Book} {Z : World → Prop} {w w' : World} {e : Ending} (h : DoneEnds C r Z w e w') : ∃ v', e = .returned (.tuple #[v', .int .i64 (actR r).2]) ∧ AV (Old w) w' v' (actR r).1 ∧ Step w w' := by
 cases r with
 | ok b => obtain ⟨v', h1, h2, h3, h4⟩ := h; exact ⟨v', h1, h2, h4.mono fun j _ hj => hC j hj⟩
 | error c => obtain ⟨v', h1, h2, h3⟩ := h; exact ⟨v', h1, h2, h3⟩
theorem sell1_any {base : Nat} {W : World} {g : Nat} {h : House} {b : Book} (hD : DeskE base W g h b) (hO : OkDesk h b) (s n y d : Int) (a1 a2 a3 a4 : Nat) (h1 : W.cell? ⟨a1, 0, none⟩ = some (.int .i64 s)) (h2 : W.cell? ⟨a2, 0, none⟩ = some (.int .i64 n)) (h3 : W.cell? ⟨a3, 0, none⟩ = some (.int .i64 y)) (h4 : W.cell? ⟨a4, 0, none⟩ = some (.int .i64 d)) :
  Calls Tryz.prog 67 #[.pointer (some ⟨g, 0, none⟩), .pointer (some ⟨a1, 0, none⟩), .pointer (some ⟨a2, 0, none⟩), .pointer (some ⟨a3, 0, none⟩), .pointer (some ⟨a4, 0, none⟩)] W (fun e W' => DeskEnds base g h (sellD h b s n y d) e W W') := by
 obtain ⟨c0, c1, c2, c3, c4, vs, vo, vt, xs, D⟩ := hD
 have hcall := zH (sell_any D hO s n y d)
 clear D hO
 go_enter Tryz.func67, Tryz.ntmps67
 go_wp2_with fail
 refine hcall.out.mono ?_
 clear hcall
 rintro e w' he
 cases hr : sellD h b s n y d with
 | ok b' =>
  rw [hr] at he
  obtain ⟨hX, rfl, hD⟩ := he
  have HH := zH (And.intro hX hD)
  clear hX hD
  go_wp2
  go_end0
  exact .yes hr HH.out.1 HH.out.2
 | error c =>
  rw [hr] at he
  obtain ⟨hX, rfl⟩ := he
  exact ⟨rfl, .noX hr hX⟩
theorem Sell_any (S : Nat → Prop) (h : House) (b : Book) (v u : Value) (s n y d : Int) (w : World) (hv : AV S w v h) (hu : AV S w u b) :
  Calls Tryz.prog 32 #[v, u, .int .i64 s, .int .i64 n, .int .i64 y, .int .i64 d] w fun e w' => ∃ v', e = .returned (.tuple #[v', .int .i64 (actR (doneR h b (sellD h b s n y d))).2]) ∧ AV (Old w) w' v' (actR (doneR h b (sellD h b s n y d))).1 ∧ Step w w' := by
 obtain ⟨cs, rfl, hr⟩ := hv
 have hr0 := hr
 obtain ⟨c0, c1, c2, c3, c4, rfl, h0, h1, h2, h3, h4⟩ := hr
 obtain ⟨cs, rfl, hq⟩ := hu
 have hq0 := hq
 obtain ⟨d1, d2, d4, rfl, s1, s2, s4⟩ := hq
 obtain ⟨W7, hW7⟩ : ∃ W7, W7 = ((((((w.alloc (.cells #[c0, c1, c2, c3, c4] 41)).alloc (.cells #[.int .i64 b.agency, d1, d2, .int .i64 b.sent, d4, .int .i64 b.cash] 77)).alloc (.cells #[.int .i64 s] 3)).alloc (.cells #[.int .i64 n] 3)).alloc (.cells #[.int .i64 y] 3)).alloc (.cells #[.int .i64 d] 3)).alloc (.cells #[.int .i64 0, .slice none 0 0, .slice none 0 0, .int .i64 0, .slice none 0 0, .int .i64 0] 77) := ⟨_, rfl⟩
 have hS : Step w W7 := by subst hW7; exact (by with_reducible repeat (first | assumption | exact Step.refl _ | apply Step.s_alloc | apply Step.s_drew | apply Step.s_drewN | refine Step.trans ?_ (by assumption)))
 have hb2 : Bx W7 (w.heap.size + 2) [.int .i64 s] 3 := by subst hW7; exact ((((Bx.new' _ _ _ _ (by simp)).alloc _).alloc _).alloc _).alloc _
 have hb3 : Bx W7 (w.heap.size + 3) [.int .i64 n] 3 := by subst hW7; exact (((Bx.new' _ _ _ _ (by simp)).alloc _).alloc _).alloc _
 have hb4 : Bx W7 (w.heap.size + 4) [.int .i64 y] 3 := by subst hW7; exact ((Bx.new' _ _ _ _ (by simp)).alloc _).alloc _
 have hb5 : Bx W7 (w.heap.size + 5) [.int .i64 d] 3 := by subst hW7; exact (Bx.new' _ _ _ _ (by simp)).alloc _
 have hb6 : Bx W7 (w.heap.size + 6) [.int .i64 0, .slice none 0 0, .slice none 0 0, .int .i64 0, .slice none 0 0, .int .i64 0] 77 := by subst hW7; exact Bx.new' _ _ _ _ (by simp)
 have hz7 : W7.heap.size = w.heap.size + 7 := by subst hW7; simp
 have hmf : ∀ (fn : Fn) (first cap : Array Value) (w : World), (Instr.makeFunc fn first cap).run Tryz.prog w = .ok (.func fn first cap) w := fun _ _ _ _ => rfl
 have hcall := zH ((done_any S h b _ _ W7 67 #[.pointer (some ⟨w.heap.size + 2, 0, none⟩), .pointer (some ⟨w.heap.size + 3, 0, none⟩), .pointer (some ⟨w.heap.size + 4, 0, none⟩), .pointer (some ⟨w.heap.size + 5, 0, none⟩)] (Go.Proofs.enters_of Tryz.func67 (by kernel_rfl) rfl)
  (fun _ => False) (sellD h b s n y d) (fun _ => True) ⟨_, rfl, Rep.keep (.of_step hS) hr0⟩ ⟨_, rfl, Rep.keep (.of_step hS) hq0⟩ (fun _ h => h.elim) (fun _ _ _ _ => trivial)
  (fun hck W base g hSW h1 h2 hD => (sell1_any hD (okDesk_of hck).1 s n y d _ _ _ _ ((hb2.step hSW).cell 0) ((hb3.step hSW).cell 0) ((hb4.step hSW).cell 0) ((hb5.step hSW).cell 0)).mono fun e w' he => he.do _)).mono fun e w' he => he.act (fun _ h => h))
 have HW := zH hW7
 have HS := zH hS
 have HB6 := zH hb6
 have HZ7 := zH hz7
 obtain ⟨p0, k0, rfl⟩ := h0.form
 obtain ⟨p1, k1, rfl⟩ := h1.form
 obtain ⟨p2, k2, rfl⟩ := h2.form
 obtain ⟨p3, k3, rfl⟩ := h3.form
 obtain ⟨p4, k4, rfl⟩ := h4.form
 obtain ⟨q1, m1, rfl⟩ := s1.form
 obtain ⟨q2, m2, rfl⟩ := s2.form
 obtain ⟨q4, m4, rfl⟩ := s4.form
 clear hW7 hS hb2 hb3 hb4 hb5 hb6 hz7 h0 h1 h2 h3 h4 s1 s2 s4 hr0 hq0
 go_enter Tryz.func32, Tryz.ntmps32
 go_wp2_with fail
 rw [← HW.out]
 clear HW
 refine hcall.out.mono ?_
 clear hcall
 rintro e w1 ⟨v', rfl, hv', hS1⟩
 obtain ⟨b1, b2, b4, rfl, t1, t2, t4⟩ := hv'.book
 obtain ⟨q1, m1, rfl⟩ := t1.form
 obtain ⟨q2, m2, rfl⟩ := t2.form
 obtain ⟨q4, m4, rfl⟩ := t4.form
 have HV := zH hv'
 have HS1 := zH hS1
 obtain ⟨f0, f1, f2, f3, f4, f5⟩ := cells6 (HB6.out.step HS1.out)
 have zf := (HB6.out.step HS1.out).frozen
 clear hv' hS1 t1 t2 t4
 go_wp2
 clear f0 f1 f2 f3 f4 f5 zf
 have hz7 := HZ7.out
 have b6 := set6 (HB6.out.step HS1.out) (.int .i64 (actR (doneR h b (sellD h b s n y d))).1.agency) (.slice q1 (actR (doneR h b (sellD h b s n y d))).1.seats.length m1) (.slice q2 (actR (doneR h b (sellD h b s n y d))).1.off.length m2) (.int .i64 (actR (doneR h b (sellD h b s n y d))).1.sent) (.slice q4 (actR (doneR h b (sellD h b s n y d))).1.took.length m4) (.int .i64 (actR (doneR h b (sellD h b s n y d))).1.cash)
 refine ret_struct2 (k := 6) rfl siBook rfl b6.1 rfl rfl ⟨_, rfl, (AV.keep (b6.2.keeps.mono fun j _ hj => ?_) HV.out).weak fun j _ hj => ?_, StepX.fresh (HS.out.trans HS1.out) b6.2 (fun j hj => by omega)⟩
 ·unfold Old; omega
 ·unfold Old at *; omega
def bookOf {α : Type} (r : Except Int (Book × α)) : Except Int Book := match r with
 | .ok (b, _) => .ok b
 | .error c => .error c
def restOf {α : Type} (z : α) (r : Except Int (Book × α)) : α := match r with
 | .ok (_, l) => l
 | .error _ => z
def gate {α : Type} (h : House) (b : Book) (r : Except Int α) : Except Int α := if checkR h b = 0 then r else .error 1
theorem gate_book {α : Type} (h : House) (b : Book) (r : Except Int (Book × α)) : bookOf (gate h b r) = doneR h b (bookOf r) := by
 unfold gate doneR
 split <;> rfl
theorem lose1_any {base : Nat} {W : World} {g : Nat} {h : House} {b : Book} (hD : DeskE base W g h b) (hO : OkDesk h b) (hc0 : 0 ≤ b.cash) (s d : Int) (a1 a2 a3 : Nat) (h1 : W.cell? ⟨a1, 0, none⟩ = some (.int .i64 s)) (h2 : W.cell? ⟨a2, 0, none⟩ = some (.int .i64 d)) (y : Value) (h3 : Bx W a3 [y] 91) (hb3 : a3 < base) (hbW : base ≤ W.heap.size) :
  Calls Tryz.prog 73 #[.pointer (some ⟨g, 0, none⟩), .pointer (some ⟨a1, 0, none⟩), .pointer (some ⟨a2, 0, none⟩), .pointer (some ⟨a3, 0, none⟩)] W (fun e W' => DoEnds base (fun j => j = a3) g h (bookOf (loseD h b s d)) (fun Z => ∃ v', Bx Z a3 [v'] 91 ∧ SL (fun j => j < base) Z v' (restOf [] (loseD h b s d))) e W W') := by
 obtain ⟨c0, c1, c2, c3, c4, vs, vo, vt, xs, D⟩ := hD
 have hcall := zH (lose_any D hO hc0 s d)
 have H3 := zH h3
 have HB := zH (And.intro hb3 hbW)
 clear D hO hc0 h3 hb3 hbW
 go_enter Tryz.func73, Tryz.ntmps73
 go_wp2_with fail
 refine hcall.out.mono ?_
 clear hcall
 rintro e w' he
 cases hr : loseD h b s d with
 | ok p =>
  obtain ⟨b', l⟩ := p
  rw [hr] at he
  obtain ⟨v', rfl, hD, hl, hX⟩ := he
  obtain ⟨pv, cv, rfl⟩ := hl.form
  have hb3 := H3.out.keep hX.keeps (by have := HB.out; omega)
  have f0 := hb3.cell 0
  have z0 := hb3.frozen 0
  simp only [List.getElem?_cons_zero] at f0
  have HH := zH (And.intro hX (And.intro hD (And.intro hl hb3)))
  have HRR := zH hr
  clear hX hD hl hb3 hr
  go_wp2
  go_end0
  obtain ⟨hX, ⟨x0, x1, x2, x3, x4, ws, wo, wt, xs', hD⟩, hl, hb3⟩ := HH.out
  rw [HRR.out]
  have hw := Wrote.setCell w' a3 0 (.slice pv l.length cv)
  refine ⟨rfl, ⟨w', ⟨x0, x1, x2, x3, x4, ws, wo, wt, xs', hD⟩, Nat.le_of_eq hw.size.symm, fun j hj => hw.block j (by have := HB.out; omega)⟩, ⟨_, hb3.setCell 0 _, ?_⟩, (hX.mono fun j _ hj => .inl hj).setCell ⟨a3, 0, none⟩ _ (.inr rfl)⟩
  ·exact (hl.weak fun j _ hj => by have := HB.out; omega).keep (.wrote hw HB.out.1)
 | error c =>
  rw [hr] at he
  obtain ⟨rfl, hX⟩ := he
  exact ⟨rfl, by rw [hr]; exact ⟨rfl, hX⟩⟩
theorem okDesk_cash {h : House} {b : Book} (hc : checkR h b = 0) : 0 ≤ b.cash := by
 obtain ⟨hO, hcash, _⟩ := okDesk_of hc
 have := cashTo_bound hO.1 hO.2.2.2.1 b.seats.length (Nat.le_refl _)
 rw [hcash]; unfold cashL; omega
theorem DoneEnds.lose {h : House} {b : Book} {r : Except Int (Book × List BT.Move)} {w w' : World} {e : Ending} {a3 : Nat} (ha : Bx w a3 [.slice none 0 0] 91)
  (hd : DoneEnds (fun j => j = a3) (doneR h b (bookOf r)) (fun Z => ∃ v', Bx Z a3 [v'] 91 ∧ SL (fun j => j < w.heap.size + 4) Z v' (restOf [] r)) w e w') :
  ∃ v' l', e = .returned (.tuple #[v', .int .i64 (actR (bookOf (gate h b r))).2]) ∧ AV (Old w) w' v' (actR (bookOf (gate h b r))).1 ∧ Bx w' a3 [l'] 91 ∧ SL (Old w) w' l' (restOf [] (gate h b r)) ∧ StepX (fun j => j = a3) w w' := by
 rw [gate_book]
 unfold gate
 by_cases hc : checkR h b = 0
 ·rw [if_pos hc]
  rw [show doneR h b (bookOf r) = bookOf r by simp [doneR, hc]] at hd ⊢
  cases r with
  | ok p =>
   obtain ⟨v', h1, h2, ⟨l', h3, h4⟩, h5⟩ := hd
   exact ⟨v', l', h1, h2, h3, h4.weak (fun j _ hj => by unfold Old at hj; omega), h5⟩
  | error c =>
   obtain ⟨v', h1, h2, h3⟩ := hd
   exact ⟨v', _, h1, h2, ha.step h3, SL.nil _ _, .of h3⟩
 ·rw [if_neg hc]
  rw [show doneR h b (bookOf r) = .error 1 by simp [doneR, hc]] at hd ⊢
  obtain ⟨v', h1, h2, h3⟩ := hd
  exact ⟨v', _, h1, h2, ha.step h3, SL.nil _ _, .of h3⟩
theorem Lose_any (S : Nat → Prop) (h : House) (b : Book) (v u : Value) (s d : Int) (w : World) (hv : AV S w v h) (hu : AV S w u b) :
  Calls Tryz.prog 36 #[v, u, .int .i64 s, .int .i64 d] w fun e w' => ∃ v' l', e = .returned (.tuple #[v', l', .int .i64 (actR (bookOf (gate h b (loseD h b s d)))).2]) ∧ AV (Old w) w' v' (actR (bookOf (gate h b (loseD h b s d)))).1 ∧ SL (Old w) w' l' (restOf [] (gate h b (loseD h b s d))) ∧ Step w w' := by
 obtain ⟨cs, rfl, hr⟩ := hv
 have hr0 := hr
 obtain ⟨c0, c1, c2, c3, c4, rfl, h0, h1, h2, h3, h4⟩ := hr
 obtain ⟨cs, rfl, hq⟩ := hu
 have hq0 := hq
 obtain ⟨d1, d2, d4, rfl, s1, s2, s4⟩ := hq
 obtain ⟨W6, hW6⟩ : ∃ W6, W6 = (((((w.alloc (.cells #[c0, c1, c2, c3, c4] 41)).alloc (.cells #[.int .i64 b.agency, d1, d2, .int .i64 b.sent, d4, .int .i64 b.cash] 77)).alloc (.cells #[.int .i64 s] 3)).alloc (.cells #[.int .i64 d] 3)).alloc (.cells #[.int .i64 0, .slice none 0 0, .slice none 0 0, .int .i64 0, .slice none 0 0, .int .i64 0] 77)).alloc (.cells #[.slice none 0 0] 91) := ⟨_, rfl⟩
 have hS : Step w W6 := by subst hW6; exact (by with_reducible repeat (first | assumption | exact Step.refl _ | apply Step.s_alloc | apply Step.s_drew | apply Step.s_drewN | refine Step.trans ?_ (by assumption)))
 have hb2 : Bx W6 (w.heap.size + 2) [.int .i64 s] 3 := by subst hW6; exact (((Bx.new' _ _ _ _ (by simp)).alloc _).alloc _).alloc _
 have hb3 : Bx W6 (w.heap.size + 3) [.int .i64 d] 3 := by subst hW6; exact ((Bx.new' _ _ _ _ (by simp)).alloc _).alloc _
 have hb4 : Bx W6 (w.heap.size + 4) [.int .i64 0, .slice none 0 0, .slice none 0 0, .int .i64 0, .slice none 0 0, .int .i64 0] 77 := by subst hW6; exact (Bx.new' _ _ _ _ (by simp)).alloc _
 have hb5 : Bx W6 (w.heap.size + 5) [.slice none 0 0] 91 := by subst hW6; exact Bx.new' _ _ _ _ (by simp)
 have hz6 : W6.heap.size = w.heap.size + 6 := by subst hW6; simp
 have hmf : ∀ (fn : Fn) (first cap : Array Value) (w : World), (Instr.makeFunc fn first cap).run Tryz.prog w = .ok (.func fn first cap) w := fun _ _ _ _ => rfl
 have hold : ∀ j, j < w.heap.size → w.heap.size ≤ j → S j := fun j h1 h2 => by omega
 have hcall := zH ((done_any (fun j => w.heap.size ≤ j) h b _ _ W6 73 #[.pointer (some ⟨w.heap.size + 2, 0, none⟩), .pointer (some ⟨w.heap.size + 3, 0, none⟩), .pointer (some ⟨w.heap.size + 5, 0, none⟩)] (Go.Proofs.enters_of Tryz.func73 (by kernel_rfl) rfl)
  (fun j => j = w.heap.size + 5) (bookOf (loseD h b s d)) (fun Z => ∃ v', Bx Z (w.heap.size + 5) [v'] 91 ∧ SL (fun j => j < W6.heap.size + 4) Z v' (restOf [] (loseD h b s d)))
  ⟨_, rfl, Rep.keep (.of_step hS) (Rep.weak hold hr0)⟩ ⟨_, rfl, Rep.keep (.of_step hS) (Rep.weak hold hq0)⟩ (fun j hj => ⟨by omega, by omega⟩)
  (fun W W' ⟨v', hz, hl⟩ hX => ⟨v', hz.keep hX.keeps (by omega), hl.keep (hX.keeps.mono fun j _ hj => by omega)⟩)
  (fun hck W base g hSW h1 h2 hD => (lose1_any hD (okDesk_of hck).1 (okDesk_cash hck) s d _ _ _ ((hb2.step hSW).cell 0) ((hb3.step hSW).cell 0) _ (hb5.step hSW) (by omega) h2).mono fun e w' he => by
   cases hrr : loseD h b s d with
   | ok p =>
    rw [hrr] at he
    obtain ⟨e1, e2, ⟨v', e3, e4⟩, e5⟩ := he
    exact ⟨e1, e2, ⟨v', e3, e4.weak fun j _ hj => by omega⟩, e5⟩
   | error c => rw [hrr] at he; exact he)).mono fun e w' he => he.lose hb5)
 have HW := zH hW6
 have HS := zH hS
 have HB4 := zH hb4
 have HZ6 := zH hz6
 obtain ⟨p0, k0, rfl⟩ := h0.form
 obtain ⟨p1, k1, rfl⟩ := h1.form
 obtain ⟨p2, k2, rfl⟩ := h2.form
 obtain ⟨p3, k3, rfl⟩ := h3.form
 obtain ⟨p4, k4, rfl⟩ := h4.form
 obtain ⟨q1, m1, rfl⟩ := s1.form
 obtain ⟨q2, m2, rfl⟩ := s2.form
 obtain ⟨q4, m4, rfl⟩ := s4.form
 clear hW6 hS hb2 hb3 hb4 hb5 hz6 h0 h1 h2 h3 h4 s1 s2 s4 hr0 hq0 hold
 go_enter Tryz.func36, Tryz.ntmps36
 go_wp2_with fail
 rw [← HW.out]
 clear HW
 refine hcall.out.mono ?_
 clear hcall
 rintro e w1 ⟨v', l', rfl, hv', hb5, hl', hS1⟩
 generalize hbk : (actR (bookOf (gate h b (loseD h b s d)))).1 = bk at *
 generalize hec : (actR (bookOf (gate h b (loseD h b s d)))).2 = ec at *
 have HBK := zH (And.intro hbk hec)
 obtain ⟨b1, b2, b4, rfl, t1, t2, t4⟩ := hv'.book
 obtain ⟨q1, m1, rfl⟩ := t1.form
 obtain ⟨q2, m2, rfl⟩ := t2.form
 obtain ⟨q4, m4, rfl⟩ := t4.form
 obtain ⟨ql, ml, rfl⟩ := hl'.form
 have HV := zH (And.intro hv' hl')
 have hb4' := HB4.out.keep hS1.keeps (by omega)
 have HS1 := zH (And.intro hS1 hb4')
 have y0 := hb5.cell 0
 simp only [List.getElem?_cons_zero] at y0
 obtain ⟨f0, f1, f2, f3, f4, f5⟩ := cells6 hb4'
 have zf := hb4'.frozen
 have hn1 := HZ6.out
 have hn2 := hS1.size
 have hn3 : w.heap.size + 4 < w1.heap.size := by omega
 have hn4 : w.heap.size + 5 < w1.heap.size := by omega
 clear hv' hS1 t1 t2 t4 hb5 hl' hbk hec hb4' hn1 hn2
 go_wp2
 have hzz : w.heap.size + 4 ≠ w1.heap.size := by omega
 have hzz2 : w1.heap.size ≠ w.heap.size + 4 := by omega
 go_region
 clear y0 f0 f1 f2 f3 f4 f5 zf hn3 hn4 hzz hzz2
 have b6 := set6 HS1.out.2 (.int .i64 bk.agency) (.slice q1 bk.seats.length m1) (.slice q2 bk.off.length m2) (.int .i64 bk.sent) (.slice q4 bk.took.length m4) (.int .i64 bk.cash)
 go_wp2
 have hz6 := HZ6.out
 have hX : StepX (fun j => j = w.heap.size + 4) w1 _ := (b6.2.alloc' (.cells #[.int .i64 bk.agency, .slice q1 bk.seats.length m1, .slice q2 bk.off.length m2, .int .i64 bk.sent, .slice q4 bk.took.length m4, .int .i64 bk.cash] 77)).drew'
 refine ret_struct3 (k := 6) rfl siBook rfl ((b6.1.alloc _).step (.drew _)) rfl rfl ?_
 rw [HBK.out.1, HBK.out.2]
 refine ⟨_, _, rfl, (AV.keep (hX.keeps.mono fun j _ hj => ?_) HV.out.1).weak fun j _ hj => ?_, (HV.out.2.keep (hX.keeps.mono fun j _ hj => ?_)).weak fun j _ hj => ?_, StepX.fresh (StepX.fresh HS.out HS1.out.1 (fun j hj => by omega)) hX (fun j hj => by omega)⟩
 ·unfold Old; omega
 ·unfold Old at *; omega
 ·unfold Old; omega
 ·unfold Old at *; omega
def Xc (base zc zc2 : Nat) : Nat → Prop := fun j => base ≤ j ∧ (j < zc ∨ zc2 ≤ j)
def RLoseRel (base zc : Nat) (wc : World) (g : Nat) (h : House) (b : Book) (i : Nat) (d : Int) (vs vo vt : Value) (xs : List Value) (k : Nat) (wr : World) (mv : Value) : Prop :=
 Desk6 base wr g (withCash (loseTo h (offBook b i) i d k).1 b.cash) vs vo vt xs ∧ OwnL (fun _ => False) wc.heap.size 192 wr mv (loseTo h (offBook b i) i d k).2 ∧ StepX (Xc base zc wc.heap.size) wc wr
def RInner (base zc : Nat) (wc : World) (g : Nat) (h : House) (bk : Book) (i k : Nat) (d y : Int) (mb : Nat) (mv : Value) (lk : List BT.Move) (vs vo vt : Value) (xs : List Value) (s : Nat) (wi : World) : Option (Nat × Nat) → Prop
 | none => OwnL (fun _ => False) wc.heap.size 192 wi mv lk ∧ StepX (Xc base zc wc.heap.size) wc wi ∧ Bx wi mb [.int .i64 k, .int .i64 (-1), .int .i64 (-1)] 192 ∧ Desk6 base wi g bk vs vo vt xs ∧ placeL h bk (classL h.sectors k) d (i + 1) (h.dates.length - (i + 1)) = placeL h bk (classL h.sectors k) d s (h.dates.length - s)
 | some (s0, j) => OwnL (fun _ => False) wc.heap.size 192 wi mv lk ∧ StepX (Xc base zc wc.heap.size) wc wi ∧ Bx wi mb [.int .i64 k, .int .i64 s0, .int .i64 j] 192 ∧ Desk6 base wi g (putSeat bk s0 j y) vs vo vt xs ∧ placeL h bk (classL h.sectors k) d (i + 1) (h.dates.length - (i + 1)) = some (s0, (j : Int))
def RIn3 (base zc : Nat) (wc : World) (g : Nat) (h : House) (bk : Book) (k : Nat) (d y : Int) (mb : Nat) (mv : Value) (lk : List BT.Move) (vs vo vt : Value) (xs : List Value) (s kk : Nat) (wi : World) : Option Nat → Prop
 | none => OwnL (fun _ => False) wc.heap.size 192 wi mv lk ∧ StepX (Xc base zc wc.heap.size) wc wi ∧ Bx wi mb [.int .i64 k, .int .i64 (-1), .int .i64 (-1)] 192 ∧ Desk6 base wi g bk vs vo vt xs ∧ ∀ j, j < kk → openP1 h bk s (classL h.sectors k) j = false
 | some j => OwnL (fun _ => False) wc.heap.size 192 wi mv lk ∧ StepX (Xc base zc wc.heap.size) wc wi ∧ Bx wi mb [.int .i64 k, .int .i64 s, .int .i64 j] 192 ∧ Desk6 base wi g (putSeat bk s j y) vs vo vt xs ∧ placeL h bk (classL h.sectors k) d s (h.dates.length - s) = some (s, (j : Int))
def RLoseEnds (h : House) (b : Book) (s d : Int) (e : Ending) (w w' : World) : Prop := ∃ v' l', e = .returned (.tuple #[v', l', .int .i64 (actR (bookOf (loseD h b s d))).2]) ∧ AV (Old w) w' v' (actR (bookOf (loseD h b s d))).1 ∧ SL (Old w) w' l' (restOf [] (loseD h b s d)) ∧ Step w w'
theorem RLoseEnds.no {h : House} {b : Book} {s d c : Int} {w w' : World} {v : Value} (hr : loseD h b s d = .error c) (hv : v = .tuple #[.agg #[.int .i64 0, .slice none 0 0, .slice none 0 0, .int .i64 0, .slice none 0 0, .int .i64 0], .slice none 0 0, .int .i64 c]) (hS : Step w w') : RLoseEnds h b s d (.returned v) w w' := by
 unfold RLoseEnds
 rw [hr, hv]
 exact ⟨_, _, rfl, ⟨_, rfl, noBook_rep _ _⟩, SL.nil _ _, hS⟩
theorem okDesk_book {h : House} {b : Book} (hv : valid h = true) (hb : bookB h b = true) : OkDesk h b ∧ b.cash = cashL h b.seats ∧ 0 ≤ b.cash ∧ thinP b := by
 have hc : checkR h b = 0 := by simp [checkR, hv, hb]
 obtain ⟨h1, h2, h3, h4, h5⟩ := okDesk_of hc
 have := (bounds_valid hv).2.1
 exact ⟨h1, h2, okDesk_cash hc, by have := h1.2.2.1; omega, fun i hi => by have := h3 i hi; omega, by omega, by omega⟩
theorem okDesk_withCash {h : House} {b : Book} {c : Int} (hO : OkDesk h b) (h1 : -1000000000 ≤ c) (h2 : c ≤ 1000000000) : OkDesk h (withCash b c) := by
 obtain ⟨a1, a2, a3, a4, a5, a6, a7, a8, a9, a10⟩ := hO
 exact ⟨a1, a2, a3, a4, a5, a6, h1, h2, a9, a10⟩
theorem infoRMove : (Tryz.prog.info? 192).map (fun i => (i.zero, i.size, i.bytes)) = some (some (.agg #[.int .i64 0, .int .i64 0, .int .i64 0]), 3, 24) := by kernel_rfl
theorem eiRMoves : EI Tryz.prog 165 192 (.agg #[.int .i64 0, .int .i64 0, .int .i64 0]) 3 24 := .mk' Tryz.underlying165 infoRMove rfl
section
variable {base : Nat} {w w' : World} {g : Nat} {h : House} {b : Book} {vs vo vt : Value} {xs : List Value}
theorem Desk6.seat_c {gs n cs : Nat} (D : Desk6 base w g b (.slice (some ⟨gs, 0, none⟩) n cs) vo vt xs) {i gi z ci : Nat} (hi : i < b.seats.length) (hx : i < xs.length) (hxi : xs[i] = .slice (some ⟨gi, 0, none⟩) z ci) {j : Nat} (hj : j < b.seats[i].length) :
  w.cell? ⟨gs, i, none⟩ = some (.slice (some ⟨gi, 0, none⟩) z ci) ∧ w.cell? ⟨gi, j, none⟩ = some (.int .i64 (seatAt b i j)) ∧ w.frozen? ⟨gi, j, none⟩ = false ∧ gs < w.heap.size ∧ gi < w.heap.size := by
 obtain ⟨gs', cs', gi', ci', e1, ⟨hx', e2⟩, h1, h2, h3, h4, h5, _⟩ := D.seat_at hi (by omega)
 injection e1 with e1 _ _
 injection e1 with e1
 injection e1 with e1
 rw [hxi] at e2
 injection e2 with e2 e3 e4
 injection e2 with e2
 injection e2 with e2
 subst e1 e2 e3 e4
 refine ⟨h1, ?_, h3 j, h4, h5⟩
 rw [h2 j hj]
 simp [seatAt, List.getD_eq_getElem?_getD, hi, hj]
theorem Desk6.forms (D : Desk6 base w g b vs vo vt xs) (hO : OkDesk h b) {z : Nat} (hz : sizeL h.sectors = z) (hz0 : 0 < z) : (∃ gs cs, vs = .slice (some ⟨gs, 0, none⟩) b.seats.length cs) ∧ ∀ i, i < h.dates.length → ∃ hx : i < xs.length, ∃ gi ci, xs[i] = .slice (some ⟨gi, 0, none⟩) z ci := by
 have hl := hO.2.2.1
 have hd := (bounds_valid hO.1).1
 have hrow : ∀ i (hi : i < b.seats.length), b.seats[i].length = z := fun i hi => by have := hO.2.2.2.1 i hi; omega
 refine ⟨?_, fun i hi => ?_⟩
 ·obtain ⟨gs, cs, _, _, e, _⟩ := D.seat_at (i := 0) (by omega) (by rw [hrow]; exact hz0)
  exact ⟨gs, cs, e⟩
 ·obtain ⟨_, _, gi, ci, _, ⟨hx, e⟩, _⟩ := D.seat_at (i := i) (by omega) (by rw [hrow]; exact hz0)
  exact ⟨hx, gi, ci, by rw [e, hrow]⟩
theorem rmoves_set {b2 : Nat} {v : Value} {l : List BT.Move} (ho : OwnL (fun _ => False) b2 192 w v l) {k o : Nat} {u : Value} {T : TypeId} (hc : Ty w k T) (hT : T ≠ 192) : OwnL (fun _ => False) b2 192 (w.setCell ⟨k, o, none⟩ u) v l := by
 obtain ⟨ys, hy⟩ := own_rowT ho
 exact ho.keptF fun q hq => (Wrote.setCell w k o u).block q fun e => ne_ty hc hy hT (e ▸ hq)
end
theorem RLose_any (S : Nat → Prop) (h : House) (b : Book) (v u : Value) (s d : Int) (w : World) (hv : AV S w v h) (hu : AV S w u b) (hok : valid h = true) (hbk : bookB h b = true) :
  Calls Tryz.prog 101 #[v, u, .int .i64 s, .int .i64 d] w (fun e w' => RLoseEnds h b s d e w w') := by
 obtain ⟨hO, hcash, hc0, hthin⟩ := okDesk_book hok hbk
 obtain ⟨cs, rfl, hr0⟩ := hv
 have hr := hr0
 obtain ⟨c0, c1, c2, c3, c4, rfl, h0, h1, h2, h3, h4⟩ := hr
 obtain ⟨p0, k0, rfl⟩ := h0.form
 obtain ⟨p1, k1, rfl⟩ := h1.form
 obtain ⟨p2, k2, rfl⟩ := h2.form
 obtain ⟨p3, k3, rfl⟩ := h3.form
 obtain ⟨p4, k4, rfl⟩ := h4.form
 obtain ⟨cs, rfl, hq0⟩ := hu
 have hq := hq0
 obtain ⟨d1, d2, d4, rfl, s1, s2, s4⟩ := hq
 obtain ⟨q1, m1, bs, os, rfl, _, _, hp1, hc1, _⟩ := s1.rows
 obtain ⟨q2, m2, bo, oo, rfl, _, n2, hp2, hc2, _⟩ := s2.bools
 obtain ⟨q4, m4, rfl⟩ := s4.form
 have hbv := bounds_valid hok
 obtain ⟨z, hz⟩ : ∃ z : Nat, sizeL h.sectors = z := ⟨(sizeL h.sectors).toNat, by omega⟩
 have hz100 : z ≤ 100 := by omega
 have hz0 : 0 < z := by have := size_pos hok; omega
 obtain ⟨W3, hW3⟩ : ∃ W3, W3 = ((w.alloc (.cells #[.slice p0 h.sectors.length k0, .slice p1 h.prices.length k1, .slice p2 h.dates.length k2, .slice p3 h.frm.length k3, .slice p4 h.holds.length k4] 26)).alloc (.cells #[.int .i64 b.agency, .slice q1 b.seats.length m1, .slice q2 b.off.length m2, .int .i64 b.sent, .slice q4 b.took.length m4, .int .i64 b.cash] 56)).alloc (.cells #[.int .i64 0, .slice none 0 0, .slice none 0 0, .int .i64 0, .slice none 0 0, .int .i64 0] 56) := ⟨_, rfl⟩
 have hbx : Bx W3 w.heap.size [.slice p0 h.sectors.length k0, .slice p1 h.prices.length k1, .slice p2 h.dates.length k2, .slice p3 h.frm.length k3, .slice p4 h.holds.length k4] 26 := by subst hW3; exact ((Bx.new _ _ _).alloc _).alloc _
 have hb2 : Bx W3 (w.heap.size + 1) [.int .i64 b.agency, .slice q1 b.seats.length m1, .slice q2 b.off.length m2, .int .i64 b.sent, .slice q4 b.took.length m4, .int .i64 b.cash] 56 := by subst hW3; exact (Bx.new' _ _ _ _ (by simp)).alloc _
 have hb3 : Bx W3 (w.heap.size + 2) [.int .i64 0, .slice none 0 0, .slice none 0 0, .int .i64 0, .slice none 0 0, .int .i64 0] 56 := by subst hW3; exact Bx.new' _ _ _ _ (by simp)
 have hS : Step w W3 := by subst hW3; exact (by with_reducible repeat (first | assumption | exact Step.refl _ | apply Step.s_alloc | apply Step.s_drew | apply Step.s_drewN | refine Step.trans ?_ (by assumption)))
 have hz3 : W3.heap.size = w.heap.size + 3 := by subst hW3; simp
 have HO := zH hO
 have HC0 := zH (And.intro hc0 hcash)
 have HTH := zH hthin
 have HB1 := zH hbx
 have HB2 := zH hb2
 have HB3 := zH hb3
 have HR := zH (Rep.keep (.of_step hS) hr0)
 have HQ := zH (Rep.keep (.of_step hS) hq0)
 have HS := zH hS
 have HZ3 := zH hz3
 have HZ := zH hz
 have HP1 := zH (And.intro hp1 hc1)
 have HP2 := zH (And.intro hp2 hc2)
 have HOK := zH hok
 have HBV := zH hbv
 have hn1 : 1 ≤ h.dates.length ∧ h.dates.length ≤ 6 := by omega
 have hwd : IntKind.i64.wrap ((h.dates.length : Int) - 1) = (h.dates.length : Int) - 1 := by rw [IntKind.wrap_i64]; omega
 have HT := zH (Step.refl W3)
 have HW := zH hW3
 clear hr0 hq0 h0 h1 h2 h3 h4 s1 s2 s4 hbx hb2 hb3 hS hz3 hz hp1 hc1 hp2 hc2 hok hbk hbv hW3 hO hcash hc0 hthin
 go_enter Tryz.func101, Tryz.ntmps101
 go_wp2_with fail
 rw [show w.heap.size + 1 + 1 = w.heap.size + 2 from rfl, ← HW.out]
 go_wp2_with fail
 refine (In_st _ _ _ _).mono ?_
 rintro e wn ⟨rfl, hSn⟩
 have HTi := zH (HT.out.trans hSn)
 clear hSn HT
 have HT := HTi
 clear HTi
 cases q1 : withinB s 0 ((h.dates.length : Int) - 1) with
 | false =>
  have HF := zH (show loseE h b s d = 2 by simp [loseE, q1])
  clear q1
  (try clear e0 e1 e2 e3 e4 f0 f1 f2 f3 f4 f5 y1 y2)
  obtain ⟨e0, e1, e2, e3, e4⟩ := cells5 (HB1.out.step HT.out)
  obtain ⟨f0, f1, f2, f3, f4, f5⟩ := cells6 (HB2.out.step HT.out)
  obtain ⟨g0, g1, g2, g3, g4, g5⟩ := cells6 (HB3.out.step HT.out)
  have t0 := (HB3.out.step HT.out).frozen 0
  have t1 := (HB3.out.step HT.out).frozen 1
  have t2 := (HB3.out.step HT.out).frozen 2
  have t3 := (HB3.out.step HT.out).frozen 3
  have t4 := (HB3.out.step HT.out).frozen 4
  have t5 := (HB3.out.step HT.out).frozen 5
  go_wp2
  have b6 := set6 (HB3.out.step HT.out) (.int .i64 0) (.slice none 0 0) (.slice none 0 0) (.int .i64 0) (.slice none 0 0) (.int .i64 0)
  exact ret_struct3 (k := 6) rfl siRefBook rfl b6.1 rfl rfl (.no (loseD_no HF.out (by simp)) rfl (StepX.fresh (HS.out.trans HT.out) b6.2 (fun j hj => by omega)))
 | true =>
 have Q1 := zH q1
 clear q1
 obtain ⟨i, rfl, hi0, hi1⟩ := within_nat Q1.out (by omega)
 have hi : i < h.dates.length := by omega
 have hio : i < b.off.length := by have := HO.out.2.1; omega
 have his : i < b.seats.length := by have := HO.out.2.2.1; omega
 obtain rfl := HP2.out.1 (by omega)
 obtain rfl := HP1.out.1 (by omega)
 clear hi0 hi1 hwd
 (try clear e0 e1 e2 e3 e4 f0 f1 f2 f3 f4 f5 y1 y2)
 obtain ⟨e0, e1, e2, e3, e4⟩ := cells5 (HB1.out.step HT.out)
 obtain ⟨f0, f1, f2, f3, f4, f5⟩ := cells6 (HB2.out.step HT.out)
 go_wp2_with fail
 refine (In_st _ _ _ _).mono ?_
 rintro e wn ⟨rfl, hSn⟩
 have HTi := zH (HT.out.trans hSn)
 clear hSn HT
 have HT := HTi
 clear HTi
 cases q2 : withinB d 0 1000 with
 | false =>
  have HF := zH (show loseE h b i d = 2 by simp [loseE, Q1.out, q2])
  clear q2
  (try clear e0 e1 e2 e3 e4 f0 f1 f2 f3 f4 f5 y1 y2)
  obtain ⟨e0, e1, e2, e3, e4⟩ := cells5 (HB1.out.step HT.out)
  obtain ⟨f0, f1, f2, f3, f4, f5⟩ := cells6 (HB2.out.step HT.out)
  obtain ⟨g0, g1, g2, g3, g4, g5⟩ := cells6 (HB3.out.step HT.out)
  have t0 := (HB3.out.step HT.out).frozen 0
  have t1 := (HB3.out.step HT.out).frozen 1
  have t2 := (HB3.out.step HT.out).frozen 2
  have t3 := (HB3.out.step HT.out).frozen 3
  have t4 := (HB3.out.step HT.out).frozen 4
  have t5 := (HB3.out.step HT.out).frozen 5
  go_wp2
  have b6 := set6 (HB3.out.step HT.out) (.int .i64 0) (.slice none 0 0) (.slice none 0 0) (.int .i64 0) (.slice none 0 0) (.int .i64 0)
  exact ret_struct3 (k := 6) rfl siRefBook rfl b6.1 rfl rfl (.no (loseD_no HF.out (by simp)) rfl (StepX.fresh (HS.out.trans HT.out) b6.2 (fun j hj => by omega)))
 | true =>
 have Q2 := zH q2
 clear q2
 (try clear e0 e1 e2 e3 e4 f0 f1 f2 f3 f4 f5 y1 y2)
 obtain ⟨e0, e1, e2, e3, e4⟩ := cells5 (HB1.out.step HT.out)
 obtain ⟨f0, f1, f2, f3, f4, f5⟩ := cells6 (HB2.out.step HT.out)
 have m0 := (HS.out.trans HT.out).kc (HP2.out.2 i hio)
 have hoff : offAt b i = b.off[i] := by simp [offAt, List.getD_eq_getElem?_getD, hio]
 have HOFF := zH hoff
 have hx1 : (0 : Int) ≤ (i : Int) ∧ (i : Int) < (b.off.length : Int) := by omega
 clear hoff
 cases q3 : b.off[i] with
 | true =>
  have HF := zH (show loseE h b i d = 6 by simp [loseE, Q1.out, Q2.out, HOFF.out, q3])
  rw [q3] at m0
  clear q3
  (try clear e0 e1 e2 e3 e4 f0 f1 f2 f3 f4 f5 y1 y2)
  obtain ⟨e0, e1, e2, e3, e4⟩ := cells5 (HB1.out.step HT.out)
  obtain ⟨f0, f1, f2, f3, f4, f5⟩ := cells6 (HB2.out.step HT.out)
  obtain ⟨g0, g1, g2, g3, g4, g5⟩ := cells6 (HB3.out.step HT.out)
  have t0 := (HB3.out.step HT.out).frozen 0
  have t1 := (HB3.out.step HT.out).frozen 1
  have t2 := (HB3.out.step HT.out).frozen 2
  have t3 := (HB3.out.step HT.out).frozen 3
  have t4 := (HB3.out.step HT.out).frozen 4
  have t5 := (HB3.out.step HT.out).frozen 5
  go_wp2
  have b6 := set6 (HB3.out.step HT.out) (.int .i64 0) (.slice none 0 0) (.slice none 0 0) (.int .i64 0) (.slice none 0 0) (.int .i64 0)
  exact ret_struct3 (k := 6) rfl siRefBook rfl b6.1 rfl rfl (.no (loseD_no HF.out (by simp)) rfl (StepX.fresh (HS.out.trans HT.out) b6.2 (fun j hj => by omega)))
 | false =>
 have HF := zH (show loseE h b i d = 0 by simp [loseE, Q1.out, Q2.out, HOFF.out, q3])
 rw [q3] at m0
 clear q3
 go_wp2_with fail
 refine (Copy_any S b _ _ ⟨_, rfl, Rep.keep (.of_step HT.out) HQ.out⟩ HTH.out).mono ?_
 rintro e wd ⟨vs, vo, vt, xs, rfl, hD0, hSd⟩
 obtain ⟨⟨pvs, cvs, rfl⟩, ⟨pvo, cvo, rfl⟩, ⟨pvt, cvt, rfl⟩⟩ := hD0.form
 clear e0 e1 e2 e3 e4 f0 f1 f2 f3 f4 f5 m0
 have hbase : w.heap.size + 3 ≤ wn.heap.size := by have := HT.out.size; have := HZ3.out; omega
 have hTd := HT.out.trans hSd
 have hbD := Bx.new wd [.int .i64 b.agency, .slice pvs b.seats.length cvs, .slice pvo b.off.length cvo, .int .i64 b.sent, .slice pvt b.took.length cvt, .int .i64 b.cash] 56
 have hsA := Step.alloc wd (.cells #[.int .i64 b.agency, .slice pvs b.seats.length cvs, .slice pvo b.off.length cvo, .int .i64 b.sent, .slice pvt b.took.length cvt, .int .i64 b.cash] 56)
 have hD1 := (hD0.step hsA).desk (b2 := w.heap.size + 3) hbase (by have := hSd.size; omega) hbD
 have hT1 := hTd.trans hsA
 obtain ⟨go, co, hvo, hoc, hof, hgo, hbo⟩ := hD1.off_at hio
 injection hvo with hvo1 hvo2 hvo3
 subst hvo1 hvo3
 clear hvo2
 obtain ⟨_, _, g2, _, _, _⟩ := cells6 hD1.bx
 have m0 := hoc i hio
 have z0 := hof i
 clear hoc hof
 go_upto_region 7 with (fail)
 have hset := hD1.setOff (i := i) rfl true
 have hT2 : Step W3 ((wd.alloc (.cells #[.int .i64 b.agency, .slice pvs b.seats.length cvs, .slice (some ⟨go, 0, none⟩) b.off.length cvo, .int .i64 b.sent, .slice pvt b.took.length cvt, .int .i64 b.cash] 56)).setCell ⟨go, i, none⟩ (.bool true)) := hT1.setNew ⟨go, i, none⟩ _ (by have := HZ3.out; show W3.heap.size ≤ go; omega)
 have hD2 : Desk6 (w.heap.size + 3) ((wd.alloc (.cells #[.int .i64 b.agency, .slice pvs b.seats.length cvs, .slice (some ⟨go, 0, none⟩) b.off.length cvo, .int .i64 b.sent, .slice pvt b.took.length cvt, .int .i64 b.cash] 56)).setCell ⟨go, i, none⟩ (.bool true)) wd.heap.size (offBook b i) (.slice pvs b.seats.length cvs) (.slice (some ⟨go, 0, none⟩) b.off.length cvo) (.slice pvt b.took.length cvt) xs := hset.1
 clear hset hD1 hT1 hsA hbD hTd hD0 hSd g2 m0 z0 hgo hbo HT hbase
 generalize (wd.alloc (.cells #[.int .i64 b.agency, .slice pvs b.seats.length cvs, .slice (some ⟨go, 0, none⟩) b.off.length cvo, .int .i64 b.sent, .slice pvt b.took.length cvt, .int .i64 b.cash] 56)).setCell ⟨go, i, none⟩ (.bool true) = w2 at *
 generalize wd.heap.size = gb at *
 have HT := zH hT2
 have HD2 := zH hD2
 clear hT2 hD2
 (try clear e0 e1 e2 e3 e4 f0 f1 f2 f3 f4 f5 y1 y2)
 obtain ⟨e0, e1, e2, e3, e4⟩ := cells5 (HB1.out.step HT.out)
 obtain ⟨f0, f1, f2, f3, f4, f5⟩ := cells6 (HB2.out.step HT.out)
 go_wp2_with fail
 refine (Classes_any S h _ _ ⟨_, rfl, Rep.keep (.of_step HT.out) HR.out⟩ (okSec_valid HOK.out)).mono ?_
 rintro e wc ⟨vc, rfl, hvc, hSc⟩
 obtain ⟨pc, kc, bc, oc, rfl, _, mc, hpc, hcc, hbc⟩ := hvc.ints
 have hlc : (classesL h.sectors).length = z := by have := classesL_len (l := h.sectors) (fun i hi => ((okSec_valid HOK.out).2 i hi).1); have := HZ.out; omega
 have hcc2 : ∀ j, j < z → wc.cell? ⟨bc, oc + j, none⟩ = some (.int .i64 (classL h.sectors j)) := fun j hj => by
  rw [hcc j (by omega), classesL_get (fun i hi => ((okSec_valid HOK.out).2 i hi).1)]
 have hbc2 := hbc (by omega)
 obtain rfl := hpc (by omega)
 rw [hlc] at *
 have HCC := zH hcc2
 have HBC : Hid (¬ Xc (w.heap.size + 3) w2.heap.size wc.heap.size bc) := zH (fun hx => by
  obtain ⟨_, h1⟩ := hx
  have h2 := hbc2.1
  have h3 := hbc2.2
  unfold Old at h3
  omega)
 have HTC := zH (HT.out.trans hSc)
 have HZC := zH hSc.size
 have HD := zH (HD2.out.step hSc)
 have HXL : Hid (∀ (i : Nat) (hi : i < b.seats.length) (hx : i < xs.length) (q : Nat), xs[i].ownBlock = some q → q < w2.heap.size ∧ w.heap.size + 3 ≤ q) := zH (fun i hi hx q hq => ⟨((HD2.out.row i hi hx).lt q hq).2, ((HD2.out.row i hi hx).lt q hq).1⟩)
 have hO9 : OkDesk h (offBook b i) := by
  obtain ⟨o1, o2, o3⟩ := HO.out
  exact ⟨o1, by simp [offBook]; exact o2, o3⟩
 have HO9 := zH hO9
 obtain ⟨⟨gs, cs, hvs⟩, hforms⟩ := HD.out.forms hO9 HZ.out hz0
 injection hvs with hvs1 hvs2 hvs3
 subst hvs1 hvs3
 clear hvs2
 have HFO := zH hforms
 obtain ⟨hxi, gi, ci, hxv⟩ := hforms i hi
 have HXV := zH hxv
 have hrl : ∀ b', OkDesk h b' → ∀ s (hs : s < b'.seats.length), b'.seats[s].length = z := fun b' hb s hs => by have := hb.2.2.2.1 s hs; have := HZ.out; omega
 have HRL := zH hrl
 obtain ⟨ur, hr1, hr2⟩ := HP1.out.2 i his
 obtain ⟨pr, cr, br, orr, rfl, _, _, hpr, hcr, _⟩ := hr2.ints
 obtain rfl := hpr (by rw [hrl _ HO.out]; exact hz0)
 have hcr2 : ∀ j, j < z → w.cell? ⟨br, orr + j, none⟩ = some (.int .i64 (seatAt b i j)) := fun j hj => by
  rw [hcr j (by rw [hrl _ HO.out]; exact hj)]
  simp [seatAt, List.getD_eq_getElem?_getD, his, show j < b.seats[i].length by rw [hrl _ HO.out]; exact hj]
 rw [hrl _ HO.out] at hr1
 have HROW := zH (And.intro hr1 hcr2)
 have HBZ := zH (show w.heap.size + 3 ≤ wc.heap.size by have := HTC.out.size; have := HZ3.out; omega)
 clear hr1 hr2 hpr hcr hcr2 hrl hxv hforms hO9
 clear hvc hcc hcc2 hbc hbc2 hpc hlc hSc HT HD2 e0 e1 e2 e3 e4 f0 f1 f2 f3 f4 f5
 have hstart : RLoseRel (w.heap.size + 3) w2.heap.size wc gb h b i d (.slice (some ⟨gs, 0, none⟩) b.seats.length cvs) (.slice (some ⟨go, 0, none⟩) b.off.length cvo) (.slice pvt b.took.length cvt) xs 0 wc (.slice none 0 0) := ⟨HD.out, OwnL.nil _ _ _ _, StepX.refl _ _⟩
 go_wp2_with fail
 go_loopw [13, 14] (fun mv idx wr => ∃ k : Nat, k ≤ z ∧ idx = .int .i64 k ∧ RLoseRel (w.heap.size + 3) w2.heap.size wc gb h b i d (.slice (some ⟨gs, 0, none⟩) b.seats.length cvs) (.slice (some ⟨go, 0, none⟩) b.off.length cvo) (.slice pvt b.took.length cvt) xs k wr mv) (fun _ idx _ => z - (intOf idx).toNat)
 case atStart => exact ⟨0, Nat.zero_le _, rfl, hstart⟩
 case round =>
  clear hstart
  obtain ⟨k, hk, rfl, hR⟩ := hrel
  obtain ⟨hDk, hown, hX⟩ := hR
  have hlike := like_to HO9.out (show 0 ≤ (offBook b i).cash from HC0.out.1) i d k (by have := HZ.out; omega)
  have hOl := hlike.ok HO9.out (by have := HC0.out.1; simp only [offBook]; omega)
  obtain ⟨P, hP⟩ : ∃ P, P = loseTo h (offBook b i) i d k := ⟨_, rfl⟩
  rw [← hP] at hDk hown hOl
  have hOk : OkDesk h (withCash P.1 b.cash) := okDesk_withCash hOl (by have := HC0.out.1; omega) (by have := HO.out.2.2.2.2.2.2.2.1; exact this)
  obtain ⟨bk, hbk⟩ : ∃ bk, bk = withCash P.1 b.cash := ⟨_, rfl⟩
  rw [← hbk] at hDk hOk
  have HP := zH hP
  have HBK := zH hbk
  have HDK := zH hDk
  obtain ⟨pu, cu, rfl, _, _⟩ := hown.form
  have HOWN := zH hown
  have HX := zH hX
  have HOK2 := zH hOk
  have HLK : Hid (P.2.length ≤ k) := zH (by rw [hP]; exact loseTo_len _ _ _ _ _)
  have HSA := zH (show seatAt P.1 i k = seatAt b i k by rw [hP]; exact loseTo_keep k k (Nat.le_refl _))
  have HT := zH (StepX.fresh HTC.out HX.out (fun j hj => by have := hj.1; have := HZ3.out; omega))
  clear hDk hown hX hOk hlike hP hbk hOl
  by_cases hlt : k < z
  ·skip
   (try clear e0 e1 e2 e3 e4 f0 f1 f2 f3 f4 f5 y1 y2)
   obtain ⟨e0, e1, e2, e3, e4⟩ := cells5 (HB1.out.step HT.out)
   obtain ⟨f0, f1, f2, f3, f4, f5⟩ := cells6 (HB2.out.step HT.out)
   have a1 := (HS.out.trans HT.out).kc HROW.out.1
   have a2 := (HS.out.trans HT.out).kc (HROW.out.2 k hlt)
   have hx2 : (0 : Int) ≤ (i : Int) ∧ (i : Int) < (b.seats.length : Int) := by omega
   have hx3 : (0 : Int) ≤ (k : Int) ∧ (k : Int) < (z : Int) := by omega
   obtain ⟨y, hyy⟩ : ∃ y, y = seatAt b i k := ⟨_, rfl⟩
   rw [← hyy] at a2
   have HYY := zH hyy
   clear hyy
   by_cases hy : 0 < y
   rotate_left
   ·have hN := zH (show loseTo h (offBook b i) i d (k + 1) = P by rw [loseTo_no (by rw [← HP.out, HSA.out, ← HYY.out]; exact hy), HP.out])
    go_wp2
    go_roundw
    case rel => exact ⟨k + 1, by omega, by go_num, by unfold RLoseRel; rw [hN.out, ← HBK.out]; exact ⟨HDK.out, HOWN.out, HX.out⟩⟩
    case measure => simp [intOf]; omega
   ·obtain ⟨wo, hwo⟩ : ∃ wo, wo = wr := ⟨_, rfl⟩
    subst hwo
    have hi2 : (0 : Int) ≤ (i : Int) ∧ (i : Int) < 1000 := by omega
    go_wp2_with fail
    have hb2 := Bx.new wo [.int .i64 k, .int .i64 (-1), .int .i64 (-1)] 192
    have hs2 : Step wo (wo.alloc (.cells #[.int .i64 k, .int .i64 (-1), .int .i64 (-1)] 192)) := Step.alloc _ _
    have hst : RInner (w.heap.size + 3) w2.heap.size wc gb h bk i k d y wo.heap.size (.slice pu P.2.length cu) P.2 (.slice (some ⟨gs, 0, none⟩) b.seats.length cvs) (.slice (some ⟨go, 0, none⟩) b.off.length cvo) (.slice pvt b.took.length cvt) xs (i + 1) (wo.alloc (.cells #[.int .i64 k, .int .i64 (-1), .int .i64 (-1)] 192)) none :=
     ⟨HOWN.out.step hs2, HX.out.trans (.of hs2), hb2, HDK.out.step hs2, rfl⟩
    have hmo : (Value.slice pu P.2.length cu).ownBlock ≠ some wo.heap.size := fun e => by have := (HOWN.out.lt _ e).2; omega
    have hmz : wc.heap.size ≤ wo.heap.size := HX.out.size
    have HMO := zH (And.intro hmo hmz)
    clear hb2 hs2 hmo hmz a1 a2 e0 e1 e2 e3 e4 f0 f1 f2 f3 f4 f5 HT HX HDK
    generalize wo.alloc (.cells #[.int .i64 k, .int .i64 (-1), .int .i64 (-1)] 192) = W2 at *
    generalize wo.heap.size = mb at *
    have HST := zH hst
    clear hst
    go_loopw [16] (fun sv wi => ∃ (sN : Nat) (st : Option (Nat × Nat)), i + 1 ≤ sN ∧ sN ≤ h.dates.length ∧ sv = .int .i64 sN ∧ RInner (w.heap.size + 3) w2.heap.size wc gb h bk i k d y mb (.slice pu P.2.length cu) P.2 (.slice (some ⟨gs, 0, none⟩) b.seats.length cvs) (.slice (some ⟨go, 0, none⟩) b.off.length cvo) (.slice pvt b.took.length cvt) xs sN wi st) (fun sv _ => h.dates.length - (intOf sv).toNat)
    case atStart => exact ⟨i + 1, none, Nat.le_refl _, by omega, by go_num, HST.out⟩
    case round =>
     clear HST
     obtain ⟨sN, st, hs1, hs2, rfl, hR⟩ := hrel
     cases st with
     | some sj =>
      obtain ⟨s0, j⟩ := sj
      obtain ⟨hown, hX, hbm, hDi, hpl⟩ := hR
      have HOI := zH hown
      have HXI := zH hX
      have HBM := zH hbm
      have HDI := zH hDi
      have HPL := zH hpl
      have HT := zH (StepX.fresh HTC.out hX (fun j hj => by have := hj.1; have := HZ3.out; omega))
      clear hown hX hbm hDi hpl
      have n0 := HBM.out.cell 0
      have n1 := HBM.out.cell 1
      have n2 := HBM.out.cell 2
      simp only [zD, zE] at n0 n1 n2
      (try clear e0 e1 e2 e3 e4 f0 f1 f2 f3 f4 f5 y1 y2)
      obtain ⟨e0, e1, e2, e3, e4⟩ := cells5 (HB1.out.step HT.out)
      obtain ⟨f0, f1, f2, f3, f4, f5⟩ := cells6 (HB2.out.step HT.out)
      have hs0 : (0 : Int) ≤ (s0 : Int) := by omega
      have hOB : OkDesk h (putSeat bk s0 j y) := (like_put bk s0 j y).ok HOK2.out (by have := HOK2.out.2.2.2.2.2.2.1; omega)
      have HOB := zH hOB
      have HNEXT := zH (show loseTo h (offBook b i) i d (k + 1) = (putSeat (putSeat P.1 s0 j y) i k 0, P.2 ++ [⟨k, s0, j⟩]) by
       rw [loseTo_yes (by rw [← HP.out, HSA.out, ← HYY.out]; exact hy), ← HP.out, HSA.out, ← HYY.out]
       have h9 := HPL.out
       rw [HBK.out, placeL_cash] at h9
       unfold loseOne
       rw [h9]
       rfl)
      clear hOB
      cases hlts : decide (sN < h.dates.length) with
      | true =>
       have hob : OkDesk h (putSeat bk s0 j y) := HOB.out
       have hisb : i < (putSeat bk s0 j y).seats.length := by have := hob.2.2.1; omega
       have hklb : k < (putSeat bk s0 j y).seats[i].length := by rw [HRL.out _ hob]; exact hlt
       obtain ⟨m0, m1, z1, hgsl, hgil⟩ := HDI.out.seat_c hisb hxi HXV.out hklb
       obtain ⟨_, g1, _, _, _, _⟩ := cells6 HDI.out.bx
       have hown : xs[i].ownBlock = some gi := by rw [HXV.out]; rfl
       have hty : Ty wr gi 3 := owns_ty (HDI.out.row i hisb hxi) hown
       have hne : gi ≠ mb := fun e => HBM.out.neTy hty (by decide) e.symm
       have hgx := HXL.out i his hxi gi hown
       go_upto_region 24 with (fail)
       have hset := HDI.out.setSeat (j := k) hisb hxi (by rw [HRL.out _ hob]; exact HXV.out) 0
       have hown5 := rmoves_set HOI.out (k := gi) (o := k) (u := .int .i64 0) hty (by decide)
       have hbm5 := HBM.out.setOther (b := gi) (o := k) (v := .int .i64 0) (Ne.symm hne)
       have hX5 := HXI.out.setCell ⟨gi, k, none⟩ (.int .i64 0) ⟨hgx.2, .inl hgx.1⟩
       have HD5 := zH hset.1
       have H5 := zH (And.intro hown5 (And.intro hbm5 hX5))
       clear hset hown5 hbm5 hX5 m0 m1 z1 g1 hne n0 n1 n2 hown hty hgx
       generalize wr.setCell ⟨gi, k, none⟩ (.int .i64 0) = W5 at *
       have n0 := H5.out.2.1.cell 0
       have n1 := H5.out.2.1.cell 1
       have n2 := H5.out.2.1.cell 2
       simp only [zD, zE] at n0 n1 n2
       have hu := SLe.one (S := avoid (fun _ => False) (.slice pu P.2.length cu)) (w := W5) (cs := [.int .i64 ((⟨k, s0, j⟩ : BT.Move)).seat, .int .i64 ((⟨k, s0, j⟩ : BT.Move)).shw, .int .i64 ((⟨k, s0, j⟩ : BT.Move)).at_]) (x := (⟨k, s0, j⟩ : BT.Move)) 192 rfl
       have hown6 := H5.out.1.alloc (.cells #[.int .i64 ((⟨k, s0, j⟩ : BT.Move)).seat, .int .i64 ((⟨k, s0, j⟩ : BT.Move)).shw, .int .i64 ((⟨k, s0, j⟩ : BT.Move)).at_] 192)
       have hlm : P.2.length ≤ k := HLK.out
       have hz6 : wc.heap.size ≤ (W5.alloc (.cells #[.int .i64 ((⟨k, s0, j⟩ : BT.Move)).seat, .int .i64 ((⟨k, s0, j⟩ : BT.Move)).shw, .int .i64 ((⟨k, s0, j⟩ : BT.Move)).at_] 192)).heap.size := by have := H5.out.2.2.size; simp; omega
       go_wp2_with (at_builtin; refine wpl_append (α := BT.Move) (S := fun _ => False) (base := wc.heap.size) (v := .slice pu P.2.length cu) (l := P.2) (m := [(⟨k, s0, j⟩ : BT.Move)]) eiRMoves rfl _ _ rfl rfl rfl hown6 hu (P.2.length + 1) (by simp) (P.2 ++ [(⟨k, s0, j⟩ : BT.Move)]) rfl ?_ ?_ hz6 ?_)
       ·simp only [maxLen]; omega
       ·omega
       intro p' c' w7 hown7 hg7
       have hD7 := (HD5.out.step (Step.alloc _ _)).grown hown6 hg7 (by decide) (by decide) (by decide) (by decide) (by decide)
       have hX7 := (H5.out.2.2.alloc' (.cells #[.int .i64 ((⟨k, s0, j⟩ : BT.Move)).seat, .int .i64 ((⟨k, s0, j⟩ : BT.Move)).shw, .int .i64 ((⟨k, s0, j⟩ : BT.Move)).at_] 192)).trans (StepX.grown (X := Xc (w.heap.size + 3) w2.heap.size wc.heap.size) hg7 fun j hj _ => by have h1 := (HOWN.out.lt j hj).1; exact ⟨by have := HBZ.out; omega, .inr h1⟩)
       have H7 := zH (And.intro hD7 (And.intro hown7 hX7))
       clear hown6 hu hlm hz6 hown7 hg7 hD7 hX7 n0 n1 n2
       go_wp2
       go_roundw
       case rel => exact ⟨k + 1, by omega, by go_num, by unfold RLoseRel; rw [HNEXT.out]; have h7 := H7.out; rw [HBK.out] at h7; exact h7⟩
       case measure => simp [intOf]; omega
      | false =>
       have hob : OkDesk h (putSeat bk s0 j y) := HOB.out
       have hisb : i < (putSeat bk s0 j y).seats.length := by have := hob.2.2.1; omega
       have hklb : k < (putSeat bk s0 j y).seats[i].length := by rw [HRL.out _ hob]; exact hlt
       obtain ⟨m0, m1, z1, hgsl, hgil⟩ := HDI.out.seat_c hisb hxi HXV.out hklb
       obtain ⟨_, g1, _, _, _, _⟩ := cells6 HDI.out.bx
       have hown : xs[i].ownBlock = some gi := by rw [HXV.out]; rfl
       have hty : Ty wr gi 3 := owns_ty (HDI.out.row i hisb hxi) hown
       have hne : gi ≠ mb := fun e => HBM.out.neTy hty (by decide) e.symm
       have hgx := HXL.out i his hxi gi hown
       go_upto_region 24 with (fail)
       have hset := HDI.out.setSeat (j := k) hisb hxi (by rw [HRL.out _ hob]; exact HXV.out) 0
       have hown5 := rmoves_set HOI.out (k := gi) (o := k) (u := .int .i64 0) hty (by decide)
       have hbm5 := HBM.out.setOther (b := gi) (o := k) (v := .int .i64 0) (Ne.symm hne)
       have hX5 := HXI.out.setCell ⟨gi, k, none⟩ (.int .i64 0) ⟨hgx.2, .inl hgx.1⟩
       have HD5 := zH hset.1
       have H5 := zH (And.intro hown5 (And.intro hbm5 hX5))
       clear hset hown5 hbm5 hX5 m0 m1 z1 g1 hne n0 n1 n2 hown hty hgx
       generalize wr.setCell ⟨gi, k, none⟩ (.int .i64 0) = W5 at *
       have n0 := H5.out.2.1.cell 0
       have n1 := H5.out.2.1.cell 1
       have n2 := H5.out.2.1.cell 2
       simp only [zD, zE] at n0 n1 n2
       have hu := SLe.one (S := avoid (fun _ => False) (.slice pu P.2.length cu)) (w := W5) (cs := [.int .i64 ((⟨k, s0, j⟩ : BT.Move)).seat, .int .i64 ((⟨k, s0, j⟩ : BT.Move)).shw, .int .i64 ((⟨k, s0, j⟩ : BT.Move)).at_]) (x := (⟨k, s0, j⟩ : BT.Move)) 192 rfl
       have hown6 := H5.out.1.alloc (.cells #[.int .i64 ((⟨k, s0, j⟩ : BT.Move)).seat, .int .i64 ((⟨k, s0, j⟩ : BT.Move)).shw, .int .i64 ((⟨k, s0, j⟩ : BT.Move)).at_] 192)
       have hlm : P.2.length ≤ k := HLK.out
       have hz6 : wc.heap.size ≤ (W5.alloc (.cells #[.int .i64 ((⟨k, s0, j⟩ : BT.Move)).seat, .int .i64 ((⟨k, s0, j⟩ : BT.Move)).shw, .int .i64 ((⟨k, s0, j⟩ : BT.Move)).at_] 192)).heap.size := by have := H5.out.2.2.size; simp; omega
       go_wp2_with (at_builtin; refine wpl_append (α := BT.Move) (S := fun _ => False) (base := wc.heap.size) (v := .slice pu P.2.length cu) (l := P.2) (m := [(⟨k, s0, j⟩ : BT.Move)]) eiRMoves rfl _ _ rfl rfl rfl hown6 hu (P.2.length + 1) (by simp) (P.2 ++ [(⟨k, s0, j⟩ : BT.Move)]) rfl ?_ ?_ hz6 ?_)
       ·simp only [maxLen]; omega
       ·omega
       intro p' c' w7 hown7 hg7
       have hD7 := (HD5.out.step (Step.alloc _ _)).grown hown6 hg7 (by decide) (by decide) (by decide) (by decide) (by decide)
       have hX7 := (H5.out.2.2.alloc' (.cells #[.int .i64 ((⟨k, s0, j⟩ : BT.Move)).seat, .int .i64 ((⟨k, s0, j⟩ : BT.Move)).shw, .int .i64 ((⟨k, s0, j⟩ : BT.Move)).at_] 192)).trans (StepX.grown (X := Xc (w.heap.size + 3) w2.heap.size wc.heap.size) hg7 fun j hj _ => by have h1 := (HOWN.out.lt j hj).1; exact ⟨by have := HBZ.out; omega, .inr h1⟩)
       have H7 := zH (And.intro hD7 (And.intro hown7 hX7))
       clear hown6 hu hlm hz6 hown7 hg7 hD7 hX7 n0 n1 n2
       go_wp2
       go_roundw
       case rel => exact ⟨k + 1, by omega, by go_num, by unfold RLoseRel; rw [HNEXT.out]; have h7 := H7.out; rw [HBK.out] at h7; exact h7⟩
       case measure => simp [intOf]; omega
     | none =>
      obtain ⟨hown, hX, hbm, hDi, hpl⟩ := hR
      have HOI := zH hown
      have HXI := zH hX
      have HBM := zH hbm
      have HDI := zH hDi
      have HPL := zH hpl
      have HT := zH (StepX.fresh HTC.out hX (fun j hj => by have := hj.1; have := HZ3.out; omega))
      clear hown hX hbm hDi hpl
      have n0 := HBM.out.cell 0
      have n1 := HBM.out.cell 1
      have n2 := HBM.out.cell 2
      simp only [zD, zE] at n0 n1 n2
      (try clear e0 e1 e2 e3 e4 f0 f1 f2 f3 f4 f5 y1 y2)
      obtain ⟨e0, e1, e2, e3, e4⟩ := cells5 (HB1.out.step HT.out)
      obtain ⟨f0, f1, f2, f3, f4, f5⟩ := cells6 (HB2.out.step HT.out)
      by_cases hsd : sN < h.dates.length
      ·have hd1 : decide (sN < h.dates.length) = true := by simpa using hsd
       go_wp2_with fail
       obtain ⟨wq, hwq⟩ : ∃ wq, wq = wr := ⟨_, rfl⟩
       subst hwq
       clear n0 n1 n2 e0 e1 e2 e3 e4 f0 f1 f2 f3 f4 f5 HT
       have hst3 : RIn3 (w.heap.size + 3) w2.heap.size wc gb h bk k d y mb (.slice pu P.2.length cu) P.2 (.slice (some ⟨gs, 0, none⟩) b.seats.length cvs) (.slice (some ⟨go, 0, none⟩) b.off.length cvo) (.slice pvt b.took.length cvt) xs sN 0 wq none := ⟨HOI.out, HXI.out, HBM.out, HDI.out, fun j hj => absurd hj (by omega)⟩
       have HST := zH hst3
       clear hst3 HOI HXI HBM HDI
       go_loopw [17] (fun kv wj => ∃ (kk : Nat) (st : Option Nat), kk ≤ z ∧ kv = .int .i64 kk ∧ RIn3 (w.heap.size + 3) w2.heap.size wc gb h bk k d y mb (.slice pu P.2.length cu) P.2 (.slice (some ⟨gs, 0, none⟩) b.seats.length cvs) (.slice (some ⟨go, 0, none⟩) b.off.length cvo) (.slice pvt b.took.length cvt) xs sN kk wj st) (fun kv _ => z - (intOf kv).toNat)
       case atStart => exact ⟨0, none, Nat.zero_le _, rfl, HST.out⟩
       case round =>
        clear HST
        obtain ⟨kk, st, hkk, rfl, hR⟩ := hrel
        cases st with
        | some j =>
         obtain ⟨hown, hX, hbm, hDi, hpl⟩ := hR
         have HH := zH (And.intro hown (And.intro hX (And.intro hbm (And.intro hDi hpl))))
         clear hown hX hbm hDi hpl
         have n0 := HH.out.2.2.1.cell 0
         have n1 := HH.out.2.2.1.cell 1
         have n2 := HH.out.2.2.1.cell 2
         simp only [zD, zE] at n0 n1 n2
         have hs0 : (0 : Int) ≤ (sN : Int) := by omega
         cases hlts : decide (kk < z) with
         | true =>
          go_wp2
          go_roundw
          case rel => exact ⟨sN + 1, some (sN, j), by omega, by omega, by go_num, HH.out.1, HH.out.2.1, HH.out.2.2.1, HH.out.2.2.2.1, HPL.out.trans HH.out.2.2.2.2⟩
          case measure => simp [intOf]; omega
         | false =>
          go_wp2
          go_roundw
          case rel => exact ⟨sN + 1, some (sN, j), by omega, by omega, by go_num, HH.out.1, HH.out.2.1, HH.out.2.2.1, HH.out.2.2.2.1, HPL.out.trans HH.out.2.2.2.2⟩
          case measure => simp [intOf]; omega
        | none =>
         obtain ⟨hown, hX, hbm, hDi, hno⟩ := hR
         have HOI := zH hown
         have HXI := zH hX
         have HBM := zH hbm
         have HDI := zH hDi
         have HNO := zH hno
         have HT := zH (StepX.fresh HTC.out hX (fun j hj => by have := hj.1; have := HZ3.out; omega))
         clear hown hX hbm hDi hno
         have n0 := HBM.out.cell 0
         have n1 := HBM.out.cell 1
         have n2 := HBM.out.cell 2
         simp only [zD, zE] at n0 n1 n2
         by_cases hkz : kk < z
         rotate_left
         ·have hd2 : decide (kk < z) = false := by simpa using hkz
          have HNX := zH (show placeL h bk (classL h.sectors k) d sN (h.dates.length - sN) = placeL h bk (classL h.sectors k) d (sN + 1) (h.dates.length - (sN + 1)) by
           rw [show h.dates.length - sN = (h.dates.length - (sN + 1)) + 1 by omega]
           exact placeL_skip (open_none fun j hj => HNO.out j (by have := HZ.out; omega)))
          go_wp2
          go_roundw
          case rel => exact ⟨sN + 1, none, by omega, by omega, by go_num, HOI.out, HXI.out, HBM.out, HDI.out, HPL.out.trans HNX.out⟩
          case measure => simp [intOf]; omega
         have hd2 : decide (kk < z) = true := by simpa using hkz
         (try clear e0 e1 e2 e3 e4 f0 f1 f2 f3 f4 f5 y1 y2)
         obtain ⟨e0, e1, e2, e3, e4⟩ := cells5 (HB1.out.step HT.out)
         obtain ⟨f0, f1, f2, f3, f4, f5⟩ := cells6 (HB2.out.step HT.out)
         obtain ⟨g0, g1, g2, g3, g4, g5⟩ := cells6 HDI.out.bx
         go_wp2_with fail
         refine (Sells_any S (fun _ => False) h bk _ _ _ ⟨_, rfl, Rep.keep (.of_step HT.out) HR.out⟩ ⟨_, rfl, HDI.out.book (fun _ _ h => h)⟩ HOK2.out sN hsd d).mono ?_
         rintro e wz ⟨rfl, hSz⟩
         have HSZ := zH hSz
         clear hSz e0 e1 e2 e3 e4 f0 f1 f2 f3 f4 f5 g0 g1 g2 g3 g4 g5 n0 n1 n2
         cases q : sellsB h bk sN d with
         | false =>
          have HNX := zH (show placeL h bk (classL h.sectors k) d sN (h.dates.length - sN) = placeL h bk (classL h.sectors k) d (sN + 1) (h.dates.length - (sN + 1)) by
           rw [show h.dates.length - sN = (h.dates.length - (sN + 1)) + 1 by omega]
           exact placeL_skip (open_shut q))
          clear q
          go_wp2
          go_roundw
          case rel => exact ⟨sN + 1, none, by omega, by omega, by go_num, HOI.out.step HSZ.out, HXI.out.trans (.of HSZ.out), HBM.out.step HSZ.out, HDI.out.step HSZ.out, HPL.out.trans HNX.out⟩
          case measure => simp [intOf]; omega
         | true =>
          have HQ := zH q
          clear q
          have HTz := zH (HT.out.trans HSZ.out)
          have HXz := zH (HXI.out.trans (.of HSZ.out))
          have HDz := zH (HDI.out.step HSZ.out)
          have HBz := zH (HBM.out.step HSZ.out)
          have HOz := zH (HOI.out.step HSZ.out)
          clear HXI HDI HBM HOI HT HSZ
          obtain ⟨hxs, gis, cis, hxvs⟩ := HFO.out sN hsd
          have HXVS := zH hxvs
          have hisb : sN < bk.seats.length := by have := HOK2.out.2.2.1; omega
          have hklb : kk < bk.seats[sN].length := by rw [HRL.out _ HOK2.out]; exact hkz
          obtain ⟨m0, m1, z1, _, hgil⟩ := HDz.out.seat_c hisb hxs hxvs hklb
          obtain ⟨_, g1, _, _, _, _⟩ := cells6 HDz.out.bx
          have cA := HXz.out.keeps.cell HBC.out (HCC.out kk hkz)
          have cB := HXz.out.keeps.cell HBC.out (HCC.out k hlt)
          have hx4 : (0 : Int) ≤ (kk : Int) ∧ (kk : Int) < (z : Int) := by omega
          have hx7 : (0 : Int) ≤ (sN : Int) ∧ (sN : Int) < (b.seats.length : Int) := by have := HOK2.out.2.2.1; have := HO.out.2.2.1; omega
          clear hxvs
          by_cases hcl : classL h.sectors kk = classL h.sectors k
          rotate_left
          ·have hcd : (classL h.sectors kk == classL h.sectors k) = false := by simpa using hcl
           have HNP := zH (show openP1 h bk sN (classL h.sectors k) kk = false by simp [openP1, hcl])
           clear hcl
           go_wp2
           go_quiet (fail)
           go_wp2
           go_roundw
           case rel => exact ⟨kk + 1, none, by omega, by go_num, HOz.out.step (.drewN _ _), HXz.out.trans (.of (Step.drewN _ _)), HBz.out.step (.drewN _ _), HDz.out.step (.drewN _ _), fun j hj => by
            rcases Nat.lt_or_ge j kk with h1 | h1
            ·exact HNO.out j h1
            ·rw [show j = kk by omega]; exact HNP.out⟩
           case measure => simp [intOf]; omega
          have hcd : (classL h.sectors kk == classL h.sectors k) = true := by simpa using hcl
          have HCL := zH hcl
          clear hcl
          by_cases hse : seatAt bk sN kk = 0
          rotate_left
          ·have hed : (seatAt bk sN kk == 0) = false := by simpa using hse
           have HNP := zH (show openP1 h bk sN (classL h.sectors k) kk = false by simp [openP1, hse])
           clear hse
           go_wp2
           go_quiet (fail)
           go_wp2
           go_roundw
           case rel => exact ⟨kk + 1, none, by omega, by go_num, HOz.out.step (.drewN _ _), HXz.out.trans (.of (Step.drewN _ _)), HBz.out.step (.drewN _ _), HDz.out.step (.drewN _ _), fun j hj => by
            rcases Nat.lt_or_ge j kk with h1 | h1
            ·exact HNO.out j h1
            ·rw [show j = kk by omega]; exact HNP.out⟩
           case measure => simp [intOf]; omega
          have hed : (seatAt bk sN kk == 0) = true := by simpa using hse
          have HHIT := zH (show placeL h bk (classL h.sectors k) d sN (h.dates.length - sN) = some (sN, (kk : Int)) by
           obtain ⟨l, hl⟩ := open_first (h := h) (b := bk) (s := (sN : Int)) (c := classL h.sectors k) (d := d) HQ.out (k := kk) (by have := HZ.out; omega) HNO.out (by simp [openP1, HCL.out, hse])
           rw [show h.dates.length - sN = (h.dates.length - (sN + 1)) + 1 by omega]
           exact placeL_hit hl)
          clear hse
          go_wp2
          go_quiet (fail)
          have bq := HBz.out.step (.drewN _ nq)
          have n1 := bq.cell 1
          have n2 := bq.cell 2
          have zm := bq.frozen
          simp only [zD, zE] at n1 n2
          go_upto_region 22 with (fail)
          have b5 := (bq.setCell 1 (.int .i64 sN)).setCell 2 (.int .i64 kk)
          have hw5 : Wrote mb (wz.drewN nq) (((wz.drewN nq).setCell ⟨mb, 1, none⟩ (.int .i64 sN)).setCell ⟨mb, 2, none⟩ (.int .i64 kk)) := by
           have a1 := Wrote.setCell (wz.drewN nq) mb 1 (.int .i64 sN)
           have a2 := Wrote.setCell ((wz.drewN nq).setCell ⟨mb, 1, none⟩ (.int .i64 sN)) mb 2 (.int .i64 kk)
           exact ⟨a2.os.trans a1.os, a2.tape.trans a1.tape, a2.output.trans a1.output, a2.size.trans a1.size, fun q hq => (a2.block q hq).trans (a1.block q hq)⟩
          have hD5 := (HDz.out.step (.drewN _ nq)).other hw5.grown bq.ty (by decide) (by decide) (by decide) (by decide) (by decide)
          have ho5 := (HOz.out.step (.drewN _ nq)).keptF fun q hq => hw5.block q fun e => HMO.out.1 (e ▸ hq)
          have hmx : Xc (w.heap.size + 3) w2.heap.size wc.heap.size mb := ⟨by have := HBZ.out; have := HMO.out.2; omega, .inr HMO.out.2⟩
          have hx5 := ((HXz.out.trans (.of (Step.drewN _ nq))).setCell ⟨mb, 1, none⟩ (.int .i64 sN) hmx).setCell ⟨mb, 2, none⟩ (.int .i64 kk) hmx
          have H5 := zH (And.intro b5 (And.intro hD5 (And.intro ho5 hx5)))
          clear b5 hw5 hD5 ho5 hx5 hmx n1 n2 zm bq m0 m1 z1 g1 cA cB hgil HBz HDz HOz HXz HTz
          generalize ((wz.drewN nq).setCell ⟨mb, 1, none⟩ (.int .i64 sN)).setCell ⟨mb, 2, none⟩ (.int .i64 kk) = w5 at *
          have HT5 := zH (StepX.fresh HTC.out H5.out.2.2.2 (fun j hj => by have := hj.1; have := HZ3.out; omega))
          obtain ⟨m0, m1, z1, _, hgil⟩ := H5.out.2.1.seat_c hisb hxs HXVS.out hklb
          obtain ⟨_, g1, _, _, _, _⟩ := cells6 H5.out.2.1.bx
          obtain ⟨_, f1, _, _, _, _⟩ := cells6 (HB2.out.step HT5.out)
          have a1 := (HS.out.trans HT5.out).kc HROW.out.1
          have a2 := (HS.out.trans HT5.out).kc (HROW.out.2 k hlt)
          rw [← HYY.out] at a2
          have HM := zH (And.intro m0 (And.intro g1 (And.intro f1 (And.intro a1 (And.intro a2 (And.intro z1 hgil))))))
          clear m0 m1 z1 g1 f1 a1 a2 hgil
          refine wp_region_seq (kdOf [] []) [0, 1, 0, 7, 15, 0, 0, 64, 0, 448, 960, 0, 4032, 8128, 16383, 32767] [0, 1, 2, 3, 4, 5, 6, 7, 8, 9, 10, 11, 12, 13, 14] [15] (by kernel_rfl) (by kernel_rfl) (fun i T z hi hk => by simp [kdOf] at hk <;> (try (split at hk <;> cases hk))) ?_
          intro Wx hWx
          have HT := zH hWx
          clear hWx
          have m0 := HT.out.kc HM.out.1
          have g1 := HT.out.kc HM.out.2.1
          have f1 := HT.out.kc HM.out.2.2.1
          have a1 := HT.out.kc HM.out.2.2.2.1
          have a2 := HT.out.kc HM.out.2.2.2.2.1
          repeat ((first | (refine run_off rfl rfl (by rfl) ?_) | (refine run_chain_off rfl rfl (by rfl) (K0_mono _) ?_) | ((refine run_want rfl rfl (by rfl) ⟨?_, fun W hW => ?_, ?_⟩; rotate_left; (· (have d0 := hW.kc m0; have d1 := hW.kc g1; have d2 := hW.kc f1; have d3 := hW.kc a1; have d4 := hW.kc a2; go_simp; (try with_reducible rfl)))))); (try simp only [Act.put, zA, zB, zC]))
          refine run_end (L := [_]) rfl (fun W6 hW6 => ?_)
          have HT6 := zH (HT.out.trans hW6)
          clear hW6 HT
          have HT := HT6
          clear HT6
          have hD6 := H5.out.2.1.step HT.out
          have z1 := (HT.out.cells.2 gis kk HM.out.2.2.2.2.2.2).trans HM.out.2.2.2.2.2.1
          obtain ⟨_, m1, _, _, _⟩ := hD6.seat_c hisb hxs HXVS.out hklb
          clear m0 g1 f1 a1 a2
          have hset := hD6.setSeat (j := kk) hisb hxs (by rw [HRL.out _ HOK2.out]; exact HXVS.out) y
          have hown6 : xs[sN].ownBlock = some gis := by rw [HXVS.out]; rfl
          have hty : Ty W6 gis 3 := owns_ty (hD6.row sN hisb hxs) hown6
          have ho7 := rmoves_set (H5.out.2.2.1.step HT.out) (k := gis) (o := kk) (u := .int .i64 y) hty (by decide)
          have hbm6 := H5.out.1.step HT.out
          have hne : mb ≠ gis := hbm6.neTy hty (by decide)
          have hbm7 := hbm6.setOther (b := gis) (o := kk) (v := .int .i64 y) hne
          have hgx := HXL.out sN (by have := HO.out.2.2.1; omega) hxs gis hown6
          have hX7 := (H5.out.2.2.2.trans (.of HT.out)).setCell ⟨gis, kk, none⟩ (.int .i64 y) ⟨hgx.2, .inl hgx.1⟩
          have H7 := zH (And.intro ho7 (And.intro hX7 (And.intro hbm7 hset.1)))
          clear hD6 hset hown6 hty ho7 hbm6 hne hbm7 hgx hX7
          go_wp2
          go_roundw
          case rel => exact ⟨kk + 1, some kk, by omega, by go_num, H7.out.1, H7.out.2.1, H7.out.2.2.1, H7.out.2.2.2, HHIT.out⟩
          case measure => simp [intOf]; omega
      ·have hd1 : decide (sN < h.dates.length) = false := by simpa using hsd
       have hpn : placeL h bk (classL h.sectors k) d (i + 1) (h.dates.length - (i + 1)) = none := by
        rw [HPL.out, show h.dates.length - sN = 0 by omega]; rfl
       have HNEXT := zH (show loseTo h (offBook b i) i d (k + 1) = (putSeat { P.1 with cash := P.1.cash - priceL h k } i k 0, P.2 ++ [⟨k, -1, -1⟩]) by
        rw [loseTo_yes (by rw [← HP.out, HSA.out, ← HYY.out]; exact hy), ← HP.out, HSA.out, ← HYY.out]
        have h9 := hpn
        rw [HBK.out, placeL_cash] at h9
        unfold loseOne
        rw [h9])
       clear hpn
       have HOB := HOK2
       have hob : OkDesk h (bk) := HOB.out
       have hisb : i < (bk).seats.length := by have := hob.2.2.1; omega
       have hklb : k < (bk).seats[i].length := by rw [HRL.out _ hob]; exact hlt
       obtain ⟨m0, m1, z1, hgsl, hgil⟩ := HDI.out.seat_c hisb hxi HXV.out hklb
       obtain ⟨_, g1, _, _, _, _⟩ := cells6 HDI.out.bx
       have hown : xs[i].ownBlock = some gi := by rw [HXV.out]; rfl
       have hty : Ty wr gi 3 := owns_ty (HDI.out.row i hisb hxi) hown
       have hne : gi ≠ mb := fun e => HBM.out.neTy hty (by decide) e.symm
       have hgx := HXL.out i his hxi gi hown
       go_upto_region 24 with (fail)
       have hset := HDI.out.setSeat (j := k) hisb hxi (by rw [HRL.out _ hob]; exact HXV.out) 0
       have hown5 := rmoves_set HOI.out (k := gi) (o := k) (u := .int .i64 0) hty (by decide)
       have hbm5 := HBM.out.setOther (b := gi) (o := k) (v := .int .i64 0) (Ne.symm hne)
       have hX5 := HXI.out.setCell ⟨gi, k, none⟩ (.int .i64 0) ⟨hgx.2, .inl hgx.1⟩
       have HD5 := zH hset.1
       have H5 := zH (And.intro hown5 (And.intro hbm5 hX5))
       clear hset hown5 hbm5 hX5 m0 m1 z1 g1 hne n0 n1 n2 hown hty hgx
       generalize wr.setCell ⟨gi, k, none⟩ (.int .i64 0) = W5 at *
       have n0 := H5.out.2.1.cell 0
       have n1 := H5.out.2.1.cell 1
       have n2 := H5.out.2.1.cell 2
       simp only [zD, zE] at n0 n1 n2
       have hu := SLe.one (S := avoid (fun _ => False) (.slice pu P.2.length cu)) (w := W5) (cs := [.int .i64 ((⟨k, -1, -1⟩ : BT.Move)).seat, .int .i64 ((⟨k, -1, -1⟩ : BT.Move)).shw, .int .i64 ((⟨k, -1, -1⟩ : BT.Move)).at_]) (x := (⟨k, -1, -1⟩ : BT.Move)) 192 rfl
       have hown6 := H5.out.1.alloc (.cells #[.int .i64 ((⟨k, -1, -1⟩ : BT.Move)).seat, .int .i64 ((⟨k, -1, -1⟩ : BT.Move)).shw, .int .i64 ((⟨k, -1, -1⟩ : BT.Move)).at_] 192)
       have hlm : P.2.length ≤ k := HLK.out
       have hz6 : wc.heap.size ≤ (W5.alloc (.cells #[.int .i64 ((⟨k, -1, -1⟩ : BT.Move)).seat, .int .i64 ((⟨k, -1, -1⟩ : BT.Move)).shw, .int .i64 ((⟨k, -1, -1⟩ : BT.Move)).at_] 192)).heap.size := by have := H5.out.2.2.size; simp; omega
       go_wp2_with (at_builtin; refine wpl_append (α := BT.Move) (S := fun _ => False) (base := wc.heap.size) (v := .slice pu P.2.length cu) (l := P.2) (m := [(⟨k, -1, -1⟩ : BT.Move)]) eiRMoves rfl _ _ rfl rfl rfl hown6 hu (P.2.length + 1) (by simp) (P.2 ++ [(⟨k, -1, -1⟩ : BT.Move)]) rfl ?_ ?_ hz6 ?_)
       ·simp only [maxLen]; omega
       ·omega
       intro p' c' w7 hown7 hg7
       have hD7 := (HD5.out.step (Step.alloc _ _)).grown hown6 hg7 (by decide) (by decide) (by decide) (by decide) (by decide)
       have hX7 := (H5.out.2.2.alloc' (.cells #[.int .i64 ((⟨k, -1, -1⟩ : BT.Move)).seat, .int .i64 ((⟨k, -1, -1⟩ : BT.Move)).shw, .int .i64 ((⟨k, -1, -1⟩ : BT.Move)).at_] 192)).trans (StepX.grown (X := Xc (w.heap.size + 3) w2.heap.size wc.heap.size) hg7 fun j hj _ => by have h1 := (HOWN.out.lt j hj).1; exact ⟨by have := HBZ.out; omega, .inr h1⟩)
       have H7 := zH (And.intro hD7 (And.intro hown7 hX7))
       clear hown6 hu hlm hz6 hown7 hg7 hD7 hX7 n0 n1 n2
       go_wp2
       go_roundw
       case rel => exact ⟨k + 1, by omega, by go_num, by unfold RLoseRel; rw [HNEXT.out]; have h7 := H7.out; rw [HBK.out] at h7; exact h7⟩
       case measure => simp [intOf]; omega
  ·have hkz : k = z := by omega
   have HKZ := zH hkz
   have HFIN := zH (show loseD h b i d = .ok P by
    have hl : (b.seats.getD i []).length = z := by rw [show b.seats.getD i [] = b.seats[i] by simp [List.getD_eq_getElem?_getD, his]]; exact HRL.out _ HO.out i his
    unfold loseD
    rw [HF.out, if_pos rfl, Int.toNat_natCast, hl, HP.out, hkz])
   have HCP := zH (show P.1.cash = cashL h P.1.seats by
    rw [HP.out]
    exact cash_to HO9.out HC0.out.1 HC0.out.2 hi d k (by have := HZ.out; omega))
   clear hkz
   (try clear e0 e1 e2 e3 e4 f0 f1 f2 f3 f4 f5 y1 y2)
   obtain ⟨e0, e1, e2, e3, e4⟩ := cells5 (HB1.out.step HT.out)
   obtain ⟨f0, f1, f2, f3, f4, f5⟩ := cells6 (HB2.out.step HT.out)
   obtain ⟨g0, g1, g2, g3, g4, g5⟩ := cells6 HDK.out.bx
   go_wp2_with fail
   refine (Cash_any (fun _ => False) h bk _ _ _ ⟨_, rfl, Rep.weak (fun _ _ h => h.elim) (Rep.keep (.of_step HT.out) HR.out)⟩ ⟨_, rfl, HDK.out.book (fun _ _ h => h)⟩ HOK.out (by have := HOK2.out.2.2.1; omega) HOK2.out.2.2.2.1).mono ?_
   rintro e wz ⟨rfl, hSz⟩
   have hcb : cashL h bk.seats = P.1.cash := by rw [HBK.out, HCP.out]; rfl
   rw [hcb]
   clear hcb e0 e1 e2 e3 e4 f0 f1 f2 f3 f4 f5 g0 g1 g2 g3 g4 g5
   have hDz := HDK.out.step hSz
   obtain ⟨_, _, _, _, _, g5⟩ := cells6 hDz.bx
   have z5 := hDz.bx.frozen 5
   have hD8 := hDz.setCash P.1.cash
   have hPP : { bk with cash := P.1.cash } = P.1 := by rw [HBK.out]; rfl
   rw [hPP] at hD8
   have ho8 := rmoves_set (HOWN.out.step hSz) (k := gb) (o := 5) (u := .int .i64 P.1.cash) hDz.bx.ty (by decide)
   have hT8 : Step W3 (wz.setCell ⟨gb, 5, none⟩ (.int .i64 P.1.cash)) := (HT.out.trans hSz).setNew ⟨gb, 5, none⟩ _ (by have := hDz.gb; have := HZ3.out; show W3.heap.size ≤ gb; omega)
   have H8 := zH (And.intro hD8 (And.intro ho8 hT8))
   have hagency : bk.agency = P.1.agency ∧ bk.sent = P.1.sent ∧ bk.off = P.1.off ∧ bk.seats = P.1.seats ∧ bk.took = P.1.took := by rw [HBK.out]; exact ⟨rfl, rfl, rfl, rfl, rfl⟩
   have HAG := zH hagency
   go_upto_region 26 with (fail)
   clear hDz g5 z5 hD8 hPP ho8 hT8 hagency hSz
   generalize wz.setCell ⟨gb, 5, none⟩ (.int .i64 P.1.cash) = w8 at *
   obtain ⟨y0, y1, y2, y3, y4, y5⟩ := cells6 H8.out.1.bx
   have HT := zH H8.out.2.2
   obtain ⟨g0, g1, g2, g3, g4, g5⟩ := cells6 (HB3.out.step HT.out)
   have t0 := (HB3.out.step HT.out).frozen 0
   have t1 := (HB3.out.step HT.out).frozen 1
   have t2 := (HB3.out.step HT.out).frozen 2
   have t3 := (HB3.out.step HT.out).frozen 3
   have t4 := (HB3.out.step HT.out).frozen 4
   have t5 := (HB3.out.step HT.out).frozen 5
   go_wp2
   have b6 := set6 (HB3.out.step HT.out) (.int .i64 P.1.agency) (.slice (some ⟨gs, 0, none⟩) b.seats.length cvs) (.slice (some ⟨go, 0, none⟩) b.off.length cvo) (.int .i64 P.1.sent) (.slice pvt b.took.length cvt) (.int .i64 P.1.cash)
   refine ret_struct3 (k := 6) rfl siRefBook rfl b6.1 rfl rfl ?_
   unfold RLoseEnds
   rw [HFIN.out]
   refine ⟨_, _, rfl, ⟨_, rfl, Rep.weak (S := fun j => j < w.heap.size + 3) (fun j _ hj => by unfold Old at hj; omega) (Rep.keep (b6.2.keeps.mono fun j _ hj => by omega) (H8.out.1.book (fun j h1 h2 => by omega)))⟩, ?_, StepX.fresh (HS.out.trans HT.out) b6.2 (fun j hj => by omega)⟩
   exact ((OwnL.sl (S := fun j => j < w.heap.size + 3) (H8.out.2.1.flat _) (fun j h1 _ h2 => by have := HBZ.out; omega)).keep (b6.2.keeps.mono fun j _ hj => by omega)).weak (fun j _ hj => by unfold Old at hj; omega)
end Go.Proofs.YtgpiieogiafdoaaGreat
namespace Go.Proofs.YtgpiieogiafdoaaGreat
set_option linter.unusedSimpArgs false
set_option linter.unusedVariables false
open Go.RowKit Go.BT
def refundE (h : House) (b : Book) (s n : Int) : Int := if withinB s 0 (h.dates.length - 1) = false then 2 else if withinB n 0 (sizeL h.sectors - 1) = false then 2 else if 0 < seatAt b s n then 0 else 7
def refundP (h : House) (b : Book) (s n : Int) : Book := { putSeat b s.toNat n.toNat 0 with cash := b.cash - priceL h n }
def refundD (h : House) (b : Book) (s n : Int) : Except Int Book := if refundE h b s n = 0 then .ok (refundP h b s n) else .error (refundE h b s n)
theorem refundD_no {h : House} {b : Book} {s n c : Int} (hc : refundE h b s n = c) (h0 : c ≠ 0) : refundD h b s n = .error c := by simp [refundD, hc, h0]
theorem refundD_yes {h : House} {b : Book} {s n : Int} (hc : refundE h b s n = 0) : refundD h b s n = .ok (refundP h b s n) := by simp [refundD, hc]
section
variable {base : Nat} {w : World} {g : Nat} {h : House} {b : Book} {c0 c1 c2 c3 c4 vs vo vt : Value} {xs : List Value}
end
end Go.Proofs.YtgpiieogiafdoaaGreat
namespace Go.Proofs.YtgpiieogiafdoaaGreat
set_option linter.unusedSimpArgs false
set_option linter.unusedVariables false
open Go.RowKit Go.BT
def seatB (h : House) (s n : Int) : Bool := withinB s 0 (h.dates.length - 1) && withinB n 0 (sizeL h.sectors - 1)
theorem seatB_yes {h : House} {s n : Int} (hs : seatB h s n = true) : withinB s 0 (h.dates.length - 1) = true ∧ withinB n 0 (sizeL h.sectors - 1) = true := by
 simpa [seatB] using hs
theorem seatB_no {h : House} {b : Book} {s n : Int} (hs : seatB h s n = false) : (∀ y d, sellE h b s n y d = 2) ∧ refundE h b s n = 2 := by
 cases q1 : withinB s 0 (h.dates.length - 1) with
 | false => exact ⟨fun y d => by simp [sellE, q1], by simp [refundE, q1]⟩
 | true =>
  cases q2 : withinB n 0 (sizeL h.sectors - 1) with
  | false => exact ⟨fun y d => by simp [sellE, q1, q2], by simp [refundE, q1, q2]⟩
  | true => simp [seatB, q1, q2] at hs
theorem rseat_any (S : Nat → Prop) (h : House) (v : Value) (s n : Int) (w : World) (hv : AV S w v h) (hok : valid h = true) :
  Calls Tryz.prog 130 #[v, .int .i64 s, .int .i64 n] w fun e w' => e = .returned (.bool (seatB h s n)) ∧ Step w w' := by
 obtain ⟨c0, c1, c2, c3, c4, rfl, h0, h1, h2, h3, h4⟩ := hv.house
 obtain ⟨p0, k0, rfl⟩ := h0.form
 obtain ⟨p1, k1, rfl⟩ := h1.form
 obtain ⟨p2, k2, rfl⟩ := h2.form
 obtain ⟨p3, k3, rfl⟩ := h3.form
 obtain ⟨p4, k4, b4, o4, rfl, _, _, hp4, hc4, _⟩ := h4.rows
 have hbv := bounds_valid hok
 have hh0 : 0 < h.holds.length := by omega
 obtain ⟨z, hz⟩ : ∃ z : Nat, sizeL h.sectors = z := ⟨(sizeL h.sectors).toNat, by omega⟩
 have hz0 : 0 < z := by have := size_pos hok; omega
 have hz1 : z ≤ 100 := by omega
 obtain rfl := hp4 hh0
 obtain ⟨uz, gz, huz⟩ := hc4 0 hh0
 obtain ⟨pz, kz, rfl⟩ := huz.form
 simp only [Nat.add_zero] at gz
 have hlz : h.holds[0].length = z := by have := hbv.2.2.2.2.2.2.2.2.1 0 hh0; omega
 rw [hlz] at gz
 have hd : 1 ≤ h.dates.length ∧ h.dates.length ≤ 6 := by omega
 have hwd : IntKind.i64.wrap ((h.dates.length : Int) - 1) = (h.dates.length : Int) - 1 := by rw [IntKind.wrap_i64]; omega
 have hwz : IntKind.i64.wrap ((z : Int) - 1) = (z : Int) - 1 := by rw [IntKind.wrap_i64]; omega
 have hh1 : (0 : Int) < (h.holds.length : Int) := by omega
 have gz := (Keeps.alloc (S := fun _ => False) w (.cells #[.slice p0 h.sectors.length k0, .slice p1 h.prices.length k1, .slice p2 h.dates.length k2, .slice p3 h.frm.length k3, .slice (some ⟨b4, o4, none⟩) h.holds.length k4] 26)).cell id gz
 have hS : Step w (w.alloc (.cells #[.slice p0 h.sectors.length k0, .slice p1 h.prices.length k1, .slice p2 h.dates.length k2, .slice p3 h.frm.length k3, .slice (some ⟨b4, o4, none⟩) h.holds.length k4] 26)) := Step.alloc _ _
 have HS := zH hS
 have HZ := zH hz
 clear hv h0 h1 h2 h3 h4 hp4 hc4 huz hlz hbv hz hS hok
 go_enter Tryz.func130, Tryz.ntmps130
 go_wp2_with fail
 refine (bigtopref08.In_any _ _ _ _).mono ?_
 rintro e w' ⟨rfl, rfl⟩
 cases q1 : withinB s 0 ((h.dates.length : Int) - 1) with
 | false =>
  have HF := zH (show seatB h s n = false by simp [seatB, q1])
  clear q1
  go_wp2
  go_ret
  exact ⟨by rw [HF.out]; rfl, HS.out⟩
 | true =>
  have HF := zH (show seatB h s n = withinB n 0 ((z : Int) - 1) by simp [seatB, q1, HZ.out])
  clear q1
  go_wp2_with fail
  refine (bigtopref08.In_any _ _ _ _).mono ?_
  rintro e w' ⟨rfl, rfl⟩
  go_wp2
  go_ret
  exact ⟨by rw [HF.out]; rfl, HS.out⟩
theorem seat_low {h : House} {b : Book} (hb : bookB h b = true) {i j : Nat} (hi : i < b.seats.length) (hj : j < b.seats[i].length) : -1 ≤ b.seats[i][j] := by
 have h1 := all_at (bookB_parts hb).rows hi
 simp only [rowB, Bool.and_eq_true] at h1
 have h2 := all_at h1.2 hj
 simp [withinB] at h2
 omega
theorem sellP_cash {h : House} {b : Book} (hO : OkDesk h b) (hc : b.cash = cashL h b.seats) {i j : Nat} (hi : i < b.seats.length) (hj : j < b.seats[i].length) {y : Int} (hy : 0 < y) (h0 : ¬ 0 < seatAt b i j) : sellP h b i j y = withCash (putSeat b i j y) (cashL h (putSeat b i j y).seats) := by
 rw [cash_put hi hj]
 unfold sellP withCash wt
 rw [if_pos hy, if_neg h0, hc]
 simp [putSeat]
theorem refundP_cash {h : House} {b : Book} (hO : OkDesk h b) (hc : b.cash = cashL h b.seats) {i j : Nat} (hi : i < b.seats.length) (hj : j < b.seats[i].length) (h0 : 0 < seatAt b i j) : refundP h b i j = withCash (putSeat b i j 0) (cashL h (putSeat b i j 0).seats) := by
 rw [cash_put hi hj]
 unfold refundP withCash wt
 rw [if_neg (by omega), if_pos h0, hc]
 simp [putSeat]
def RActEnds (r : Except Int Book) (e : Ending) (w w' : World) : Prop := ∃ v', e = .returned (.tuple #[v', .int .i64 (actR r).2]) ∧ AV (Old w) w' v' (actR r).1 ∧ Step w w'
theorem RActEnds.no {r : Except Int Book} {c : Int} {w w' : World} {v : Value} (hr : r = .error c) (hv : v = .tuple #[.agg #[.int .i64 0, .slice none 0 0, .slice none 0 0, .int .i64 0, .slice none 0 0, .int .i64 0], .int .i64 c]) (hS : Step w w') : RActEnds r (.returned v) w w' := by
 unfold RActEnds
 rw [hr, hv]
 exact ⟨_, rfl, ⟨_, rfl, noBook_rep _ _⟩, hS⟩
def seatsB (h : House) (l : List Int) : Bool := decide (0 < l.length) && (l.all fun n => withinB n 0 (sizeL h.sectors - 1)) && risesB l
theorem seats_any (S T : Nat → Prop) (h : House) (v u : Value) (l : List Int) (w : World) (hv : AV S w v h) (hu : SL T w u l) (hok : valid h = true) :
  Calls Tryz.prog 117 #[v, u] w fun e w' => e = .returned (.bool (seatsB h l)) ∧ Step w w' := by
 obtain ⟨cs, rfl, hr⟩ := hv
 have hr0 := hr
 obtain ⟨c0, c1, c2, c3, c4, rfl, h0, h1, h2, h3, h4⟩ := hr
 have hS : Step w (w.alloc (.cells #[c0, c1, c2, c3, c4] 41)) := Step.alloc _ _
 have HS := zH hS
 have HR := zH (Rep.keep (.of_step hS) hr0)
 have HU := zH (hu.keep (.of_step hS))
 obtain ⟨p0, k0, rfl⟩ := h0.form
 obtain ⟨p1, k1, rfl⟩ := h1.form
 obtain ⟨p2, k2, rfl⟩ := h2.form
 obtain ⟨p3, k3, rfl⟩ := h3.form
 obtain ⟨p4, k4, rfl⟩ := h4.form
 obtain ⟨pu, cu, rfl⟩ := hu.form
 have hbd := bounds_valid hok
 have hs0 := hbd.2.2.2.2.2.2.1
 have hs1 := hbd.2.2.2.2.2.2.2.1
 have HOK := zH hok
 clear hS hr0 hu h0 h1 h2 h3 h4 hbd hok
 by_cases hl : 0 < l.length
 rotate_left
 ·have HF := zH (show seatsB h l = false by simp [seatsB, hl])
  have hd : decide (0 < l.length) = false := by simpa using hl
  clear hl
  go_enter Tryz.func117, Tryz.ntmps117
  go_wp2
  go_ret
  exact ⟨by rw [HF.out]; rfl, HS.out⟩
 have hd : decide (0 < l.length) = true := by simpa using hl
 have HL := zH hl
 clear hl
 go_enter Tryz.func117, Tryz.ntmps117
 go_wp2_with fail
 refine (size_any S h _ _ ⟨_, rfl, HR.out⟩ (okSec_valid HOK.out)).mono ?_
 rintro e w1 ⟨rfl, hS1⟩
 have HT := zH hS1
 clear hS1
 go_wp2_with fail
 refine (every_any T l _ _ _ w1 (HU.out.keep (.of_step HT.out))).mono ?_
 rintro e w2 ⟨rfl, hS2⟩
 have HT2 := zH (HT.out.trans hS2)
 clear hS2
 cases q : (l.all fun n => withinB n 0 (sizeL h.sectors - 1)) with
 | false =>
  have HF := zH (show seatsB h l = false by simp [seatsB, q])
  clear q
  go_wp2
  go_ret
  exact ⟨by rw [HF.out]; rfl, HS.out.trans HT2.out⟩
 | true =>
  have HF := zH (show seatsB h l = risesB l by simp [seatsB, q, HL.out])
  clear q
  go_wp2_with fail
  refine (rises_any T l _ w2 (HU.out.keep (.of_step HT2.out))).mono ?_
  rintro e w3 ⟨rfl, hS3⟩
  have HT3 := zH (HT2.out.trans hS3)
  clear hS3
  go_wp2
  go_ret
  exact ⟨by rw [HF.out]; rfl, HS.out.trans HT3.out⟩
section
variable {base : Nat} {w : World} {g : Nat} {h : House} {b : Book} {c0 c1 c2 c3 c4 vs vo vt : Value} {xs : List Value}
theorem give1_any (D : Desk base w g h b c0 c1 c2 c3 c4 vs vo vt xs) (i j : Nat) (hi : i < b.seats.length) (hj : j < b.seats[i].length) (a1 a2 : Nat) (h1 : w.cell? ⟨a1, 0, none⟩ = some (.pointer (some ⟨g, 0, none⟩))) (h2 : w.cell? ⟨a2, 0, none⟩ = some (.int .i64 i)) :
  Calls Tryz.prog 119 #[.int .i64 j, .pointer (some ⟨a1, 0, none⟩), .pointer (some ⟨a2, 0, none⟩)] w fun e w' => e = .returned (.bool (decide (seatAt b i j ≠ -1))) ∧ Step w w' := by
 obtain ⟨_, _, f6, _⟩ := cells11 D.bx
 obtain ⟨go, co, gi, ci, rfl, _, hc, hcj, _, _, _⟩ := D.seat_at hi (by omega)
 have hse : seatAt b i j = b.seats[i][j] := by simp [seatAt, List.getD_eq_getElem?_getD, hi, hj]
 rw [hse]
 have hcj := hcj j hj
 have HC := zH (And.intro f6 (And.intro hc (And.intro hcj (And.intro h1 h2))))
 have hx : (0 : Int) ≤ (i : Int) ∧ (i : Int) < (b.seats.length : Int) := by omega
 have hy : (0 : Int) ≤ (j : Int) ∧ (j : Int) < (b.seats[i].length : Int) := by omega
 clear D f6 hc hcj h1 h2 hse
 go_enter Tryz.func119, Tryz.ntmps119
 go_upto_region 1 with (fail)
 refine wp_region_seq (kdOf [] []) [0, 1, 3, 7, 15, 0, 63, 127, 0, 511, 1023, 2047, 4095] [0, 1, 2, 3, 4, 5, 6, 7, 8, 9, 10, 11, 12] [] (by kernel_rfl) (by kernel_rfl) (fun i T z hi hk => by simp [kdOf] at hk <;> (try (split at hk <;> cases hk))) ?_
 intro Wx hWx
 have HT := zH hWx
 clear hWx
 have y0 := HT.out.kc HC.out.1
 have y1 := HT.out.kc HC.out.2.1
 have y2 := HT.out.kc HC.out.2.2.1
 have y3 := HT.out.kc HC.out.2.2.2.1
 have y4 := HT.out.kc HC.out.2.2.2.2
 by_cases q : b.seats[i][j] = -1
 ·have hd : (b.seats[i][j] != -1) = false := by simp [q]
  have HF := zH (show decide (b.seats[i][j] ≠ -1) = false by simp [q])
  clear q
  repeat ((first | (refine run_off rfl rfl (by rfl) ?_) | (refine run_chain_off rfl rfl (by rfl) (K0_mono _) ?_) | ((refine run_want rfl rfl (by rfl) ⟨?_, fun W hW => ?_, ?_⟩; rotate_left; (· (have d0 := hW.kc y0; have d1 := hW.kc y1; have d2 := hW.kc y2; have d3 := hW.kc y3; have d4 := hW.kc y4; go_simp; (try with_reducible rfl)))))); (try simp only [Act.put, zA, zB, zC]))
  refine run_end (L := []) rfl (fun W6 hW6 => ?_)
  have HT6 := zH (HT.out.trans hW6)
  clear hW6 HT
  have HT := HT6
  clear HT6
  go_wp2
  go_ret
  exact ⟨by rw [HF.out]; rfl, HT.out⟩
 ·have hd : (b.seats[i][j] != -1) = true := by simp [q]
  have HF := zH (show decide (b.seats[i][j] ≠ -1) = true by simp [q])
  clear q
  repeat ((first | (refine run_off rfl rfl (by rfl) ?_) | (refine run_chain_off rfl rfl (by rfl) (K0_mono _) ?_) | ((refine run_want rfl rfl (by rfl) ⟨?_, fun W hW => ?_, ?_⟩; rotate_left; (· (have d0 := hW.kc y0; have d1 := hW.kc y1; have d2 := hW.kc y2; have d3 := hW.kc y3; have d4 := hW.kc y4; go_simp; (try with_reducible rfl)))))); (try simp only [Act.put, zA, zB, zC]))
  refine run_end (L := []) rfl (fun W6 hW6 => ?_)
  have HT6 := zH (HT.out.trans hW6)
  clear hW6 HT
  have HT := HT6
  clear HT6
  go_wp2
  go_ret
  exact ⟨by rw [HF.out]; rfl, HT.out⟩
theorem give2_any (D : Desk base w g h b c0 c1 c2 c3 c4 vs vo vt xs) (i j : Nat) (hi : i < b.seats.length) (hj : j < b.seats[i].length) (a1 a2 : Nat) (h1 : w.cell? ⟨a1, 0, none⟩ = some (.pointer (some ⟨g, 0, none⟩))) (h2 : w.cell? ⟨a2, 0, none⟩ = some (.int .i64 i)) :
  Calls Tryz.prog 120 #[.int .i64 j, .pointer (some ⟨a1, 0, none⟩), .pointer (some ⟨a2, 0, none⟩)] w fun e w' => e = .returned (.bool (!decide (0 < seatAt b i j))) ∧ Step w w' := by
 have hse : seatAt b i j = b.seats[i][j] := by simp [seatAt, List.getD_eq_getElem?_getD, hi, hj]
 rw [hse]
 have hcall := zH (sold_any D i j hi hj)
 clear D hse
 go_enter Tryz.func120, Tryz.ntmps120
 go_wp2_with fail
 refine hcall.out.mono ?_
 rintro e w1 ⟨rfl, hS⟩
 have HS := zH hS
 clear hS hcall
 go_wp2
 go_ret
 exact ⟨rfl, HS.out⟩
end
end Go.Proofs.YtgpiieogiafdoaaGreat
namespace Go.Proofs.YtgpiieogiafdoaaGreat
set_option linter.unusedSimpArgs false
set_option linter.unusedVariables false
open Go.RowKit Go.BT
def giveE (h : House) (b : Book) (t s : Int) (l : List Int) : Int := if withinB t 0 (agN h - 1) = false then 2 else if t = b.agency then 2 else if withinB s 0 (h.dates.length - 1) = false then 2 else if seatsB h l = false then 2 else if offAt b s = true then 8 else
 if (l.all fun j => decide (seatAt b s j ≠ -1)) = false then 7 else if (l.all fun j => !decide (0 < seatAt b s j)) = false then 6 else if 1000 ≤ b.sent then 3 else 0
def giveTo (b : Book) (i : Nat) (l : List Int) : Book := l.foldl (fun b j => putSeat b i j.toNat (-1)) b
def giveP (b : Book) (t s : Int) (l : List Int) : Book × BT.Message := ({ giveTo b s.toNat l with sent := b.sent + 1 }, { frm := b.agency, dst := t, number := b.sent + 1, shw := s, seats := l })
def giveD (h : House) (b : Book) (t s : Int) (l : List Int) : Except Int (Book × BT.Message) := if giveE h b t s l = 0 then .ok (giveP b t s l) else .error (giveE h b t s l)
theorem giveD_no {h : House} {b : Book} {t s c : Int} {l : List Int} (hc : giveE h b t s l = c) (h0 : c ≠ 0) : giveD h b t s l = .error c := by simp [giveD, hc, h0]
def GiveEnds (base g : Nat) (h : House) (r : Except Int (Book × BT.Message)) (e : Ending) (w w' : World) : Prop := match r with
 | .ok (b', m) => ∃ v', e = .returned v' ∧ DeskE base w' g h b' ∧ AV (fun j => j < w.heap.size) w' v' m ∧ StepX (fun j => base ≤ j) w w'
 | .error c => e = .panicked (refusal c) ∧ StepX (fun j => base ≤ j) w w'
theorem GiveEnds.no {base g : Nat} {h : House} {r : Except Int (Book × BT.Message)} {w w' : World} {c : Int} (hr : r = .error c) (hS : Step w w') : GiveEnds base g h r (.panicked (refusal c)) w w' := by
 subst hr; exact ⟨rfl, .of hS⟩
theorem seats_nat {h : House} {l : List Int} (hs : seatsB h l = true) {k : Nat} (hk : k < l.length) : ∃ j : Nat, l[k] = j ∧ (j : Int) < sizeL h.sectors := by
 simp only [seatsB, Bool.and_eq_true] at hs
 have := List.all_eq_true.1 hs.1.2 _ (List.getElem_mem hk)
 simp [withinB] at this
 exact ⟨l[k].toNat, by omega, by omega⟩
theorem like_give (b : Book) (i : Nat) : ∀ l : List Int, Like b (giveTo b i l) 0 := by
 intro l
 unfold giveTo
 induction l generalizing b with
 | nil => exact Like.refl b
 | cons j l ih => exact ((like_put b i j.toNat (-1)).trans (ih _)).mono (by omega)
theorem giveTo_snoc (b : Book) (i : Nat) (l : List Int) (j : Int) : giveTo b i (l ++ [j]) = putSeat (giveTo b i l) i j.toNat (-1) := by simp [giveTo]
theorem siMessage : SI Tryz.prog 86 5 := ⟨⟨_, Tryz.underlying86⟩, by kernel_rfl⟩
theorem set5 {w : World} {g : Nat} {a0 a1 a2 a3 a4 : Value} {T : TypeId} (h : Bx w g [a0, a1, a2, a3, a4] T) (c0 c1 c2 c3 c4 : Value) :
    Bx (((((w.setCell ⟨g, 0, none⟩ c0).setCell ⟨g, 1, none⟩ c1).setCell ⟨g, 2, none⟩ c2).setCell ⟨g, 3, none⟩ c3).setCell ⟨g, 4, none⟩ c4) g [c0, c1, c2, c3, c4] T ∧
    StepX (fun j => j = g) w (((((w.setCell ⟨g, 0, none⟩ c0).setCell ⟨g, 1, none⟩ c1).setCell ⟨g, 2, none⟩ c2).setCell ⟨g, 3, none⟩ c3).setCell ⟨g, 4, none⟩ c4) :=
  ⟨((((h.setCell 0 c0).setCell 1 c1).setCell 2 c2).setCell 3 c3).setCell 4 c4,
   (((((StepX.refl _ w).set1 0 c0).set1 1 c1).set1 2 c2).set1 3 c3).set1 4 c4⟩
theorem Desk.aside {base : Nat} {w w' : World} {g : Nat} {h : House} {b : Book} {c0 c1 c2 c3 c4 vs vo vt : Value} {xs : List Value} {k : Nat} {cs : List Value} {T : TypeId} (D : Desk base w g h b c0 c1 c2 c3 c4 vs vo vt xs) (hw : StepX (fun j => j = k) w w') (hb : Bx w k cs T) (hk : base ≤ k)
  (hT : T ≠ 3 ∧ T ≠ 23 ∧ T ≠ 4 ∧ T ≠ 172 ∧ T ≠ 186) : Desk base w' g h b c0 c1 c2 c3 c4 vs vo vt xs := by
 have hg0 : g ≠ k := fun e => by subst e; have h1 := D.bx; unfold Bx at h1 hb; rw [h1] at hb; simp at hb; exact hT.2.2.2.2 hb.2.symm
 have hg : w.grownBy w' (some k) := ⟨hw.os, hw.tape, hw.output, hw.size, fun j hj hn => hw.block j hj fun e => hn (by rw [e])⟩
 refine ⟨D.bx.keep hw.keeps hg0, D.gb, Rep.keep (hw.keeps.mono fun j _ hj => by omega) D.house, D.outer.kept hg (.inr (apart_bx hb D.outer hT.2.1)), fun i hi hx => (D.row i hi hx).kept hg (.inr (apart_bx hb (D.row i hi hx) hT.1)), D.off.kept hg (.inr (apart_bx hb D.off hT.2.2.1)), ?_, D.apart⟩
 obtain ⟨ts, ht, _⟩ := D.took
 exact D.took.keptF fun q hq => hw.block q (D.took.lt q hq).2 fun e => apart_bx hb ht hT.2.2.2.1 (e ▸ hq)
def GiveRel (base : Nat) (w : World) (g : Nat) (h : House) (bk : Book) (i : Nat) (c0 c1 c2 c3 c4 vs vo vt : Value) (xs : List Value) (wr : World) : Prop :=
 Desk base wr g h bk c0 c1 c2 c3 c4 vs vo vt xs ∧ Bx wr w.heap.size [.pointer (some ⟨g, 0, none⟩)] 138 ∧ Bx wr (w.heap.size + 1) [.int .i64 i] 3 ∧ Bx wr (w.heap.size + 2) [.int .i64 0, .int .i64 0, .int .i64 0, .int .i64 0, .slice none 0 0] 86 ∧ StepX (fun j => base ≤ j) w wr
section
variable {base : Nat} {w : World} {g : Nat} {h : House} {b : Book} {c0 c1 c2 c3 c4 vs vo vt : Value} {xs : List Value}
theorem give_any (D : Desk base w g h b c0 c1 c2 c3 c4 vs vo vt xs) (hO : OkDesk h b) (t s : Int) (l : List Int) (u : Value) (hu : SL (fun j => base ≤ j) w u l) (hl : l.length ≤ 1000000) :
  Calls Tryz.prog 70 #[.pointer (some ⟨g, 0, none⟩), .int .i64 t, .int .i64 s, u] w (fun e w' => GiveEnds base g h (giveD h b t s l) e w w') := by
 obtain ⟨pu, cu, bu, ou, rfl, _, _, hpu, hcu, hbu⟩ := hu.ints
 have hmf : ∀ (fn : Fn) (first cap : Array Value) (w : World), (Instr.makeFunc fn first cap).run Tryz.prog w = .ok (.func fn first cap) w := fun _ _ _ _ => rfl
 obtain ⟨W3, hW3⟩ : ∃ W3, W3 = ((w.alloc (.cells #[.pointer (some ⟨g, 0, none⟩)] 138)).alloc (.cells #[.int .i64 s] 3)).alloc (.cells #[.int .i64 0, .int .i64 0, .int .i64 0, .int .i64 0, .slice none 0 0] 86) := ⟨_, rfl⟩
 have hS : Step w W3 := by subst hW3; exact (by with_reducible repeat (first | assumption | exact Step.refl _ | apply Step.s_alloc | apply Step.s_drew | apply Step.s_drewN | refine Step.trans ?_ (by assumption)))
 have hb0 : Bx W3 w.heap.size [.pointer (some ⟨g, 0, none⟩)] 138 := by subst hW3; exact ((Bx.new _ [_] _).alloc _).alloc _
 have hb1 : Bx W3 (w.heap.size + 1) [.int .i64 s] 3 := by subst hW3; exact (Bx.new' _ [_] _ _ (by simp)).alloc _
 have hb2 : Bx W3 (w.heap.size + 2) [.int .i64 0, .int .i64 0, .int .i64 0, .int .i64 0, .slice none 0 0] 86 := by subst hW3; exact Bx.new' _ [_, _, _, _, _] _ _ (by simp)
 have hz3 : W3.heap.size = w.heap.size + 3 := by subst hW3; simp
 have HS := zH hS
 have HB0 := zH hb0
 have HB1 := zH hb1
 have HB2 := zH hb2
 have HZ3 := zH hz3
 have HD := zH (D.step hS)
 have HD0 := zH D
 have HO := zH hO
 have HU := zH (And.intro hu (And.intro hpu (And.intro hcu hbu)))
 have HW := zH hW3
 have hbv := bounds_valid hO.1
 have hwr : IntKind.i64.wrap ((agN h : Int) - 1) = (agN h : Int) - 1 := by rw [IntKind.wrap_i64]; omega
 have HT := zH (Step.refl W3)
 have hag0 := agencies_any (fun j => base ≤ j) h (.agg #[c0, c1, c2, c3, c4]) W3 ⟨_, rfl, HD.out.house⟩ (by omega)
 rw [agN_eq] at hag0
 have hcall := zH hag0
 clear hag0
 obtain ⟨⟨f0, f1, f2, f3, f4⟩, f5, _⟩ := cells11 HD.out.bx
 clear hS hb0 hb1 hb2 hz3 D hO hu hpu hcu hbu hW3 hbv
 obtain ⟨p0, k0, rfl⟩ := (rep5 HD.out.house).1.form
 obtain ⟨p1, k1, rfl⟩ := (rep5 HD.out.house).2.1.form
 obtain ⟨p2, k2, rfl⟩ := (rep5 HD.out.house).2.2.1.form
 obtain ⟨p3, k3, rfl⟩ := (rep5 HD.out.house).2.2.2.1.form
 obtain ⟨p4, k4, rfl⟩ := (rep5 HD.out.house).2.2.2.2.form
 go_enter Tryz.func70, Tryz.ntmps70
 go_upto_region 1 with (fail)
 rw [← HW.out]
 clear HW
 have y0 := HB0.out.cell 0
 simp only [List.getElem?_cons_zero] at y0
 go_wp2_with fail
 refine hcall.out.mono ?_
 rintro e wn ⟨rfl, hSn⟩
 have HT := zH hSn
 clear hSn hcall f0 f1 f2 f3 f4 f5 y0
 go_wp2_with fail
 refine (within_st _ _ _ _).mono ?_
 rintro e wn ⟨rfl, hSn⟩
 have HTi := zH (HT.out.trans hSn)
 clear hSn HT
 have HT := HTi
 clear HTi
 cases q1 : withinB t 0 (agN h - 1) with
 | false =>
  have HF := zH (show giveE h b t s l = 2 by simp [giveE, q1])
  clear q1
  go_wp2_with fail
  refine (ask_no _ _).mono ?_
  rintro e wn ⟨rfl, hSn⟩
  have HTi := zH (HT.out.trans hSn)
  clear hSn HT
  have HT := HTi
  clear HTi
  exact ⟨rfl, .no (giveD_no HF.out (by simp)) (HS.out.trans HT.out)⟩
 | true =>
 have Q1 := zH q1
 clear q1
 obtain ⟨_, f5, _⟩ := cells11 (HD.out.step HT.out).bx
 have y0 := (HB0.out.step HT.out).cell 0
 simp only [List.getElem?_cons_zero] at y0
 by_cases q2 : t = b.agency
 ·have hd : (t != b.agency) = false := by simp [q2]
  have HF := zH (show giveE h b t s l = 2 by simp [giveE, Q1.out, q2])
  clear q2
  go_wp2_with fail
  refine (ask_no _ _).mono ?_
  rintro e wn ⟨rfl, hSn⟩
  have HTi := zH (HT.out.trans hSn)
  clear hSn HT
  have HT := HTi
  clear HTi
  exact ⟨rfl, .no (giveD_no HF.out (by simp)) (HS.out.trans HT.out)⟩
 have hd : (t != b.agency) = true := by simp [q2]
 have Q2 := zH q2
 clear q2
 go_wp2_with fail
 refine (ask_yes _ _).mono ?_
 rintro e wn ⟨rfl, hSn⟩
 have HTi := zH (HT.out.trans hSn)
 clear hSn HT
 have HT := HTi
 clear HTi
 clear hd f5 y0
 have y0 := (HB0.out.step HT.out).cell 0
 have y1 := (HB1.out.step HT.out).cell 0
 simp only [List.getElem?_cons_zero] at y0 y1
 cases q3 : withinB s 0 (h.dates.length - 1) with
 | false =>
  have HF := zH (show giveE h b t s l = 2 by simp [giveE, Q1.out, Q2.out, q3])
  have hcall := zH (show_no (HD.out.step HT.out) s q3)
  go_wp2_with fail
  refine hcall.out.mono ?_
  clear hcall
  rintro e wn ⟨rfl, hSn⟩
  have HTi := zH (HT.out.trans hSn)
  clear hSn HT
  have HT := HTi
  clear HTi
  exact ⟨rfl, .no (giveD_no HF.out (by simp)) (HS.out.trans HT.out)⟩
 | true =>
 have hcall := zH (show_yes (HD.out.step HT.out) s q3)
 go_wp2_with fail
 refine hcall.out.mono ?_
 clear hcall
 rintro e wn ⟨rfl, hSn⟩
 have HTi := zH (HT.out.trans hSn)
 clear hSn HT
 have HT := HTi
 clear HTi
 have Q3 := zH q3
 clear q3 y0 y1
 have y0 := (HB0.out.step HT.out).cell 0
 simp only [List.getElem?_cons_zero] at y0
 obtain ⟨⟨f0, f1, f2, f3, f4⟩, f5, _⟩ := cells11 (HD.out.step HT.out).bx
 have hcall := zH (seats_any (fun j => base ≤ j) (fun j => base ≤ j) h (.agg #[.slice p0 h.sectors.length k0, .slice p1 h.prices.length k1, .slice p2 h.dates.length k2, .slice p3 h.frm.length k3, .slice p4 h.holds.length k4]) _ l wn ⟨_, rfl, (HD.out.step HT.out).house⟩ (HU.out.1.keep (.of_step (HS.out.trans HT.out))) HO.out.1)
 go_wp2_with fail
 refine hcall.out.mono ?_
 clear hcall
 rintro e wn ⟨rfl, hSn⟩
 have HTi := zH (HT.out.trans hSn)
 clear hSn HT
 have HT := HTi
 clear HTi
 clear f0 f1 f2 f3 f4 f5 y0
 cases q4 : seatsB h l with
 | false =>
  have HF := zH (show giveE h b t s l = 2 by simp [giveE, Q1.out, Q2.out, Q3.out, q4])
  clear q4
  go_wp2_with fail
  refine (ask_no _ _).mono ?_
  rintro e wn ⟨rfl, hSn⟩
  have HTi := zH (HT.out.trans hSn)
  clear hSn HT
  have HT := HTi
  clear HTi
  exact ⟨rfl, .no (giveD_no HF.out (by simp)) (HS.out.trans HT.out)⟩
 | true =>
 have Q4 := zH q4
 clear q4
 go_wp2_with fail
 refine (ask_yes _ _).mono ?_
 rintro e wn ⟨rfl, hSn⟩
 have HTi := zH (HT.out.trans hSn)
 clear hSn HT
 have HT := HTi
 clear HTi
 obtain ⟨i, rfl, hi0, hi1⟩ := within_nat Q3.out (by omega)
 have hi : i < h.dates.length := by omega
 obtain ⟨z, hz⟩ : ∃ z : Nat, sizeL h.sectors = z := ⟨(sizeL h.sectors).toNat, by have := size_pos HO.out.1; omega⟩
 have hz0 : 0 < z := by have := size_pos HO.out.1; omega
 have hio : i < b.off.length := by have := HO.out.2.1; omega
 have his : i < b.seats.length := by have := HO.out.2.2.1; omega
 have hrl : ∀ b', OkDesk h b' → ∀ s (hs : s < b'.seats.length), b'.seats[s].length = z := fun b' hb s hs => by have := hb.2.2.2.1 s hs; omega
 have HRL := zH hrl
 have HZ := zH hz
 obtain ⟨⟨gs, cs, rfl⟩, hforms⟩ := HD0.out.forms HO.out hz hz0
 obtain ⟨hxi, gi, ci, hxv⟩ := hforms i hi
 have HXV := zH hxv
 obtain ⟨go, co, rfl, hoc, _, _⟩ := HD.out.off_at hio
 have hx1 : (0 : Int) ≤ (i : Int) ∧ (i : Int) < (b.off.length : Int) := by omega
 have hx2 : (0 : Int) ≤ (i : Int) ∧ (i : Int) < (h.dates.length : Int) := by omega
 have hoff : offAt b i = b.off[i] := by simp [offAt, List.getD_eq_getElem?_getD, hio]
 have HOFF := zH hoff
 have HOC := zH (hoc i hio)
 clear hrl hz hforms hxv hoc hi0 hi1 hoff
 go_upto_region 4 with (fail)
 refine wp_region_seq (kdOf [] []) [0, 1, 3, 7, 15, 0, 63, 127, 255, 511] [0, 1, 2, 3, 4, 5, 6, 7, 8] [9] (by kernel_rfl) (by kernel_rfl) (fun i T z hi hk => by simp [kdOf] at hk <;> (try (split at hk <;> cases hk))) ?_
 intro Wx hWx
 have HTi := zH (HT.out.trans hWx)
 clear hWx HT
 have HT := HTi
 clear HTi
 have y0 := (HB0.out.step HT.out).cell 0
 have y1 := (HB1.out.step HT.out).cell 0
 simp only [List.getElem?_cons_zero] at y0 y1
 obtain ⟨_, f5, f6, f7, f8, _, _⟩ := cells11 (HD.out.step HT.out).bx
 have m0 := HT.out.kc HOC.out
 cases q5 : b.off[i] with
 | true =>
  have HF := zH (show giveE h b t i l = 8 by simp [giveE, Q1.out, Q2.out, Q3.out, Q4.out, HOFF.out, q5])
  rw [q5] at m0
  clear q5
  repeat ((first | (refine run_off rfl rfl (by rfl) ?_) | (refine run_chain_off rfl rfl (by rfl) (K0_mono _) ?_) | ((refine run_want rfl rfl (by rfl) ⟨?_, fun W hW => ?_, ?_⟩; rotate_left; (· (have d0 := hW.kc y0; have d1 := hW.kc y1; have d2 := hW.kc f7; have d3 := hW.kc m0; go_simp; (try with_reducible rfl)))))); (try simp only [Act.put, zA, zB, zC]))
  refine run_end (L := [_]) rfl (fun W6 hW6 => ?_)
  have HT6 := zH (HT.out.trans hW6)
  clear hW6 HT
  have HT := HT6
  clear HT6
  go_wp2_with fail
  refine (ask_no _ _).mono ?_
  rintro e wn ⟨rfl, hSn⟩
  have HTi := zH (HT.out.trans hSn)
  clear hSn HT
  have HT := HTi
  clear HTi
  exact ⟨rfl, .no (giveD_no HF.out (by simp)) (HS.out.trans HT.out)⟩
 | false =>
 rw [q5] at m0
 have Q5 := zH (HOFF.out.trans q5)
 clear q5
 repeat ((first | (refine run_off rfl rfl (by rfl) ?_) | (refine run_chain_off rfl rfl (by rfl) (K0_mono _) ?_) | ((refine run_want rfl rfl (by rfl) ⟨?_, fun W hW => ?_, ?_⟩; rotate_left; (· (have d0 := hW.kc y0; have d1 := hW.kc y1; have d2 := hW.kc f7; have d3 := hW.kc m0; go_simp; (try with_reducible rfl)))))); (try simp only [Act.put, zA, zB, zC]))
 refine run_end (L := [_]) rfl (fun W6 hW6 => ?_)
 have HT6 := zH (HT.out.trans hW6)
 clear hW6 HT
 have HT := HT6
 clear HT6
 go_wp2_with fail
 refine (ask_yes _ _).mono ?_
 rintro e wn ⟨rfl, hSn⟩
 have HTi := zH (HT.out.trans hSn)
 clear hSn HT
 have HT := HTi
 clear HTi
 clear y0 y1 f5 f6 f7 f8 m0
 have hall := zH (all_int (fun j => base ≤ j) l (.slice pu l.length cu) wn 119 #[.pointer (some ⟨w.heap.size, 0, none⟩), .pointer (some ⟨w.heap.size + 1, 0, none⟩)]
  (Go.Proofs.enters_of Tryz.func119 (by kernel_rfl) rfl) (fun j => decide (seatAt b i j ≠ -1)) (fun _ W => Step wn W) (fun _ => False) (fun _ h => h.elim)
  (fun _ W hW => HU.out.1.keep (.of_step ((HS.out.trans HT.out).trans hW))) (fun _ _ _ h1 h2 => h1.trans h2) (Step.refl _) (fun q hq W uu hW _ hu => by
   subst hu
   obtain ⟨j, hj, hjz⟩ := seats_nat Q4.out hq
   rw [hj]
   have hD := (HD.out.step HT.out).step hW
   refine (give1_any hD i j his (by have := HRL.out _ HO.out i his; have := HZ.out; omega) w.heap.size (w.heap.size + 1) ((HB0.out.step (HT.out.trans hW)).cell 0) ((HB1.out.step (HT.out.trans hW)).cell 0)).mono ?_
   rintro e w' ⟨rfl, hS⟩
   exact ⟨rfl, hW.trans hS, hS⟩))
 go_wp2_with fail
 refine hall.out.mono ?_
 rintro e wm ⟨rfl, km, _, _, hSm⟩
 have HTm := zH (HT.out.trans hSm)
 clear hall hSm HT
 have HT := HTm
 clear HTm
 cases q6 : (l.all fun j => decide (seatAt b i j ≠ -1)) with
 | false =>
  have HF := zH (show giveE h b t i l = 7 by simp only [giveE, Q1.out, Q2.out, Q3.out, Q4.out, Q5.out, q6]; simp)
  clear q6
  go_wp2_with fail
  refine (ask_no _ _).mono ?_
  rintro e wn ⟨rfl, hSn⟩
  have HTi := zH (HT.out.trans hSn)
  clear hSn HT
  have HT := HTi
  clear HTi
  exact ⟨rfl, .no (giveD_no HF.out (by simp)) (HS.out.trans HT.out)⟩
 | true =>
 have Q6 := zH q6
 clear q6
 go_wp2_with fail
 refine (ask_yes _ _).mono ?_
 rintro e wn ⟨rfl, hSn⟩
 have HTi := zH (HT.out.trans hSn)
 clear hSn HT
 have HT := HTi
 clear HTi
 have hall := zH (all_int (fun j => base ≤ j) l (.slice pu l.length cu) wn 120 #[.pointer (some ⟨w.heap.size, 0, none⟩), .pointer (some ⟨w.heap.size + 1, 0, none⟩)]
  (Go.Proofs.enters_of Tryz.func120 (by kernel_rfl) rfl) (fun j => !decide (0 < seatAt b i j)) (fun _ W => Step wn W) (fun _ => False) (fun _ h => h.elim)
  (fun _ W hW => HU.out.1.keep (.of_step ((HS.out.trans HT.out).trans hW))) (fun _ _ _ h1 h2 => h1.trans h2) (Step.refl _) (fun q hq W uu hW _ hu => by
   subst hu
   obtain ⟨j, hj, hjz⟩ := seats_nat Q4.out hq
   rw [hj]
   have hD := (HD.out.step HT.out).step hW
   refine (give2_any hD i j his (by have := HRL.out _ HO.out i his; have := HZ.out; omega) w.heap.size (w.heap.size + 1) ((HB0.out.step (HT.out.trans hW)).cell 0) ((HB1.out.step (HT.out.trans hW)).cell 0)).mono ?_
   rintro e w' ⟨rfl, hS⟩
   exact ⟨rfl, hW.trans hS, hS⟩))
 go_wp2_with fail
 refine hall.out.mono ?_
 rintro e wm ⟨rfl, km, _, _, hSm⟩
 have HTm := zH (HT.out.trans hSm)
 clear hall hSm HT
 have HT := HTm
 clear HTm
 cases q7 : (l.all fun j => !decide (0 < seatAt b i j)) with
 | false =>
  have HF := zH (show giveE h b t i l = 6 by simp only [giveE, Q1.out, Q2.out, Q3.out, Q4.out, Q5.out, Q6.out, q7]; simp)
  clear q7
  go_wp2_with fail
  refine (ask_no _ _).mono ?_
  rintro e wn ⟨rfl, hSn⟩
  have HTi := zH (HT.out.trans hSn)
  clear hSn HT
  have HT := HTi
  clear HTi
  exact ⟨rfl, .no (giveD_no HF.out (by simp)) (HS.out.trans HT.out)⟩
 | true =>
 have Q7 := zH q7
 clear q7
 go_wp2_with fail
 refine (ask_yes _ _).mono ?_
 rintro e wn ⟨rfl, hSn⟩
 have HTi := zH (HT.out.trans hSn)
 clear hSn HT
 have HT := HTi
 clear HTi
 have y0 := (HB0.out.step HT.out).cell 0
 have y1 := (HB1.out.step HT.out).cell 0
 simp only [List.getElem?_cons_zero] at y0 y1
 obtain ⟨_, f5, f6, f7, f8, _, _⟩ := cells11 (HD.out.step HT.out).bx
 by_cases q8 : b.sent < 1000
 rotate_left
 ·have HF := zH (show giveE h b t i l = 3 by simp only [giveE, Q1.out, Q2.out, Q3.out, Q4.out, Q5.out, Q6.out, Q7.out]; simp; omega)
  have hd : decide (b.sent < 1000) = false := by simpa using q8
  clear q8
  go_wp2_with fail
  refine (ask_no _ _).mono ?_
  rintro e wn ⟨rfl, hSn⟩
  have HTi := zH (HT.out.trans hSn)
  clear hSn HT
  have HT := HTi
  clear HTi
  exact ⟨rfl, .no (giveD_no HF.out (by simp)) (HS.out.trans HT.out)⟩
 have HF := zH (show giveE h b t i l = 0 by simp only [giveE, Q1.out, Q2.out, Q3.out, Q4.out, Q5.out, Q6.out, Q7.out]; simp; omega)
 have hd : decide (b.sent < 1000) = true := by simpa using q8
 have Q8 := zH q8
 clear q8
 go_wp2_with fail
 refine (ask_yes _ _).mono ?_
 rintro e wn ⟨rfl, hSn⟩
 have HTi := zH (HT.out.trans hSn)
 clear hSn HT
 have HT := HTi
 clear HTi
 clear hd y0 y1 f5 f6 f7 f8
 go_wp2_with fail
 obtain ⟨_, _, _, _, hgiw⟩ := HD0.out.seat_c his hxi HXV.out (j := 0) (by rw [HRL.out _ HO.out]; exact hz0)
 have hstart : GiveRel base w g h (giveTo b i (l.take 0)) i (.slice p0 h.sectors.length k0) (.slice p1 h.prices.length k1) (.slice p2 h.dates.length k2) (.slice p3 h.frm.length k3) (.slice p4 h.holds.length k4) (.slice (some ⟨gs, 0, none⟩) h.dates.length cs) (.slice (some ⟨go, 0, none⟩) b.off.length co) vt xs wn :=
  ⟨HD.out.step HT.out, HB0.out.step HT.out, HB1.out.step HT.out, HB2.out.step HT.out, .of (HS.out.trans HT.out)⟩
 have HL := zH hl
 clear hl
 go_loopw [66] (fun idx wr => ∃ k : Nat, k ≤ l.length ∧ idx = .int .i64 k ∧ GiveRel base w g h (giveTo b i (l.take k)) i (.slice p0 h.sectors.length k0) (.slice p1 h.prices.length k1) (.slice p2 h.dates.length k2) (.slice p3 h.frm.length k3) (.slice p4 h.holds.length k4) (.slice (some ⟨gs, 0, none⟩) h.dates.length cs) (.slice (some ⟨go, 0, none⟩) b.off.length co) vt xs wr) (fun idx _ => l.length - (intOf idx).toNat)
 case atStart => exact ⟨0, Nat.zero_le _, rfl, hstart⟩
 case round =>
  clear hstart
  obtain ⟨k, hk, rfl, hDk, hb0, hb1, hb2, hX⟩ := hrel
  have hOk := (like_give b i (l.take k)).ok HO.out (by have := HO.out.2.2.2.2.2.2.1; omega)
  have HDK := zH hDk
  have HB := zH (And.intro hb0 (And.intro hb1 hb2))
  have HX := zH hX
  have HOK := zH hOk
  clear hDk hb0 hb1 hb2 hX hOk
  by_cases hlt : k < l.length
  ·obtain ⟨j, hj, hjz⟩ := seats_nat Q4.out hlt
   obtain rfl := HU.out.2.1 (by omega)
   have hl0 := HX.out.keeps.cell (a := ⟨bu, ou + k, none⟩) (HU.out.2.2.2 (by omega)).2 (HU.out.2.2.1 k hlt)
   rw [hj] at hl0
   have HJ := zH hj
   have hisk : i < (giveTo b i (l.take k)).seats.length := by have := HOK.out.2.2.1; omega
   have hjk : j < (giveTo b i (l.take k)).seats[i].length := by rw [HRL.out _ HOK.out]; have := HZ.out; omega
   have hjz2 : j < z := by have := HZ.out; omega
   obtain ⟨m0, m1, z1, _, _⟩ := HDK.out.seat_c hisk hxi HXV.out hjk
   obtain ⟨_, _, f6, _⟩ := cells11 HDK.out.bx
   have y0 := HB.out.1.cell 0
   have y1 := HB.out.2.1.cell 0
   simp only [List.getElem?_cons_zero] at y0 y1
   have HM := zH (And.intro m0 (And.intro z1 (And.intro f6 (And.intro y0 y1))))
   have hx3 : (0 : Int) ≤ (k : Int) ∧ (k : Int) < (l.length : Int) := by omega
   have hx4 : (0 : Int) ≤ (j : Int) ∧ (j : Int) < (z : Int) := by omega
   have hgir : gi < wr.heap.size := by have := HX.out.size; omega
   clear hj m0 m1 z1 f6 y0 y1
   go_upto_region 11 with (fail)
   refine wp_region_seq (kdOf [] []) [0, 1, 3, 7, 15, 0, 63, 127, 0, 511, 1023] [0, 1, 2, 3, 4, 5, 6, 7, 8, 9] [10] (by kernel_rfl) (by kernel_rfl) (fun i T z hi hk => by simp [kdOf] at hk <;> (try (split at hk <;> cases hk))) ?_
   intro Wx hWx
   have HT := zH hWx
   clear hWx
   have m0 := HT.out.kc HM.out.1
   have f6 := HT.out.kc HM.out.2.2.1
   have y0 := HT.out.kc HM.out.2.2.2.1
   have y1 := HT.out.kc HM.out.2.2.2.2
   repeat ((first | (refine run_off rfl rfl (by rfl) ?_) | (refine run_chain_off rfl rfl (by rfl) (K0_mono _) ?_) | ((refine run_want rfl rfl (by rfl) ⟨?_, fun W hW => ?_, ?_⟩; rotate_left; (· (have d0 := hW.kc y0; have d1 := hW.kc f6; have d2 := hW.kc y1; have d3 := hW.kc m0; go_simp; (try with_reducible rfl)))))); (try simp only [Act.put, zA, zB, zC]))
   refine run_end (L := [_]) rfl (fun W6 hW6 => ?_)
   have HT6 := zH (HT.out.trans hW6)
   clear hW6 HT
   have HT := HT6
   clear HT6
   have hD6 := HDK.out.step HT.out
   have z1 := (HT.out.cells.2 gi j hgir).trans HM.out.2.1
   obtain ⟨_, m1, _, _, _⟩ := hD6.seat_c hisk hxi HXV.out hjk
   have hset := hD6.setSeat (j := j) hisk hxi (by rw [HRL.out _ HOK.out]; exact HXV.out) (-1)
   have hb0 := (HB.out.1.step HT.out).setOther (b := gi) (o := j) (v := .int .i64 (-1)) (by omega)
   have hb1 := (HB.out.2.1.step HT.out).setOther (b := gi) (o := j) (v := .int .i64 (-1)) (by omega)
   have hb2 := (HB.out.2.2.step HT.out).setOther (b := gi) (o := j) (v := .int .i64 (-1)) (by omega)
   have hX7 := (HX.out.trans (.of HT.out)).setCell ⟨gi, j, none⟩ (.int .i64 (-1)) hset.2
   have H7 := zH (And.intro hset.1 (And.intro hb0 (And.intro hb1 (And.intro hb2 hX7))))
   have HN := zH (show giveTo b i (l.take (k + 1)) = putSeat (giveTo b i (l.take k)) i j (-1) by rw [List.take_succ_eq_append_getElem hlt, giveTo_snoc, HJ.out, Int.toNat_natCast])
   clear m0 f6 y0 y1 hl0 hD6 hset hb0 hb1 hb2 hX7
   go_wp2
   go_roundw
   case rel => exact ⟨k + 1, by omega, by go_num, by rw [HN.out]; exact H7.out⟩
   case measure => simp [intOf]; omega
  ·have htk : giveTo b i (l.take k) = giveTo b i l := by rw [List.take_of_length_le (by omega)]
   have HTK := zH htk
   clear htk
   have y0 := HB.out.1.cell 0
   simp only [List.getElem?_cons_zero] at y0
   obtain ⟨_, f5, f6, f7, f8, _, _⟩ := cells11 HDK.out.bx
   have z8 := HDK.out.bx.frozen 8
   have hsent : (giveTo b i (l.take k)).sent = b.sent := (like_give b i (l.take k)).sent
   have hag : (giveTo b i (l.take k)).agency = b.agency := (like_give b i (l.take k)).agency
   have hs0 := HO.out.2.2.2.2.2.2.2.2.1
   have hs1 := Q8.out
   rw [hsent] at f8
   rw [hag] at f5
   go_upto_region 14 with (fail)
   have hb8 := HDK.out.bx.setCell 8 (.int .i64 (b.sent + 1))
   have hw8 := Wrote.setCell wr g 8 (.int .i64 (b.sent + 1))
   have hD8 := HDK.out.setBook hw8 { giveTo b i (l.take k) with sent := b.sent + 1 } rfl rfl rfl (by simpa using hb8)
   have hgl := HD0.out.lt
   have hX8 := HX.out.setCell ⟨g, 8, none⟩ (.int .i64 (b.sent + 1)) HDK.out.gb
   have h80 := HB.out.1.setOther (b := g) (o := 8) (v := .int .i64 (b.sent + 1)) (by omega)
   have h81 := HB.out.2.1.setOther (b := g) (o := 8) (v := .int .i64 (b.sent + 1)) (by omega)
   have h82 := HB.out.2.2.setOther (b := g) (o := 8) (v := .int .i64 (b.sent + 1)) (by omega)
   have hsl8 := HU.out.1.keep (w' := wr.setCell ⟨g, 8, none⟩ (.int .i64 (b.sent + 1))) hX8.keeps
   have HD8 := zH hD8
   have H8 := zH (And.intro h80 (And.intro h81 (And.intro h82 (And.intro hX8 hsl8))))
   have HAG := zH hag
   clear y0 f5 f6 f7 f8 z8 hb8 hw8 hD8 hX8 h80 h81 h82 hsl8 hsent hag hs0 hs1
   generalize wr.setCell ⟨g, 8, none⟩ (.int .i64 (b.sent + 1)) = w8 at *
   refine wp_region_seq (kdOf [13] []) [0, 1, 3, 7, 15, 0, 0, 64, 192, 448, 960, 0, 0, 4096, 16383, 32767] [0, 1, 2, 3, 4, 5, 6, 7, 8, 9, 10, 11, 12, 13, 14] [15] (by kernel_rfl) (by kernel_rfl) (fun i T z hi hk => by simp [kdOf] at hk <;> (try (split at hk <;> cases hk))) ?_
   intro Wx hWx
   have HT := zH hWx
   clear hWx
   have y0 := (H8.out.1.step HT.out).cell 0
   have y1 := (H8.out.2.1.step HT.out).cell 0
   simp only [List.getElem?_cons_zero] at y0 y1
   obtain ⟨_, f5, _, _, f8, _, _⟩ := cells11 (HD8.out.step HT.out).bx
   have f5 : Wx.cell? ⟨g, 5, none⟩ = some (.int .i64 b.agency) := by rw [f5]; simp only [HAG.out]
   have f8 : Wx.cell? ⟨g, 8, none⟩ = some (.int .i64 (b.sent + 1)) := f8
   repeat ((first | (refine run_off rfl rfl (by rfl) ?_) | (refine run_chain_off rfl rfl (by rfl) (K0_mono _) ?_) | ((refine run_want rfl rfl (by rfl) ⟨?_, fun W hW => ?_, ?_⟩; rotate_left; (· (have d0 := hW.kc y0; have d1 := hW.kc y1; have d2 := hW.kc f5; have d3 := hW.kc f8; go_simp; (try with_reducible rfl)))))); (try simp only [Act.put, zA, zB, zC]))
   refine run_chain rfl rfl (by rfl) (fun Wi hWi K' hK => ?_)
   have HTi := zH (HT.out.trans hWi)
   have HZW := zH HTi.out.size
   clear hWi HT
   go_simp
   refine (clone_ints (fun j => base ≤ j) l _ Wi (H8.out.2.2.2.2.keep (.of_step HTi.out)) HL.out).mono ?_
   rintro e wn ⟨v', rfl, hv', hSn⟩
   have HT := zH (HTi.out.trans (StepX.of hSn))
   clear HTi
   obtain ⟨pv, cv, rfl, _, _⟩ := hv'.form
   have HV := zH hv'
   have HV0 := HZW
   have HT1 := HT
   have HWN : Hid (Step w8 wn) := HT1
   have HT := zH (Step.refl wn)
   refine hK _ _ (StepX.of hSn) ?_
   clear hSn
   (try simp only [Act.put, zA, zB, zC])
   clear hv' y0 y1 f5 f8 HT1
   repeat ((first | (refine run_off rfl rfl (by rfl) ?_) | (refine run_chain_off rfl rfl (by rfl) (K0_mono _) ?_) | ((refine run_want rfl rfl (by rfl) ⟨?_, fun W hW => ?_, ?_⟩; rotate_left; (· (skip; go_simp; (try with_reducible rfl)))))); (try simp only [Act.put, zA, zB, zC]))
   refine run_end (L := [_]) rfl (fun W6 hW6 => ?_)
   have HT6 := zH (HT.out.trans hW6)
   clear hW6 HT
   have HT := HT6
   clear HT6
   have hb2 := (H8.out.2.2.1.step HWN.out).step HT.out
   have n0 := hb2.cell 0
   have n1 := hb2.cell 1
   have n2 := hb2.cell 2
   have n3 := hb2.cell 3
   have n4 := hb2.cell 4
   have zn := hb2.frozen
   simp only [zD, zE] at n0 n1 n2 n3 n4
   have HB2' := zH hb2
   have HVS := zH (OwnL.step HV.out HT.out)
   clear hb2
   go_wp2
   clear n0 n1 n2 n3 n4 zn
   have b5 := set5 HB2'.out (.int .i64 b.agency) (.int .i64 t) (.int .i64 (b.sent + 1)) (.int .i64 i) (.slice pv l.length cv)
   have hgb := HD0.out.gb
   have hgl := HD0.out.lt
   have hres : giveD h b t i l = .ok ({ giveTo b i (l.take k) with sent := b.sent + 1 }, { frm := b.agency, dst := t, number := b.sent + 1, shw := i, seats := l }) := by
    unfold giveD giveP
    rw [if_pos HF.out, Int.toNat_natCast, HTK.out]
   refine ret_struct (k := 5) rfl siMessage rfl b5.1 rfl rfl ?_
   show GiveEnds _ _ _ (giveD h b t i l) _ _ _
   rw [hres]
   refine ⟨_, rfl, ?_, ⟨_, rfl, _, rfl, ?_⟩, ?_⟩
   ·refine ⟨_, _, _, _, _, _, _, _, _, ((HD8.out.step HWN.out).step HT.out).aside b5.2 HB2'.out (by omega) ⟨by decide, by decide, by decide, by decide, by decide⟩⟩
   ·have hzi := HV0.out
    have hz8 := H8.out.2.2.1.lt
    have h1 := HVS.out.keptF fun q hq => b5.2.block q (HVS.out.lt q hq).2 (fun e => by have := (HVS.out.lt q hq).1; omega)
    exact OwnL.slb (h1.flat _) fun q hq hlt => by have := (HVS.out.lt q hq).1; omega
   ·exact (H8.out.2.2.2.1.trans (.of (HWN.out.trans HT.out))).trans (b5.2.mono fun j _ hj => by omega)
end
end Go.Proofs.YtgpiieogiafdoaaGreat
namespace Go.Proofs.YtgpiieogiafdoaaGreat
set_option linter.unusedSimpArgs false
set_option linter.unusedVariables false
open Go.RowKit Go.BT
def noMsg : BT.Message := { frm := 0, dst := 0, number := 0, shw := 0, seats := [] }
theorem give1c_any {base : Nat} {W : World} {g : Nat} {h : House} {b : Book} (hD : DeskE base W g h b) (hO : OkDesk h b) (t s : Int) (l : List Int) (u : Value) (a1 a2 a3 a4 : Nat) (h1 : W.cell? ⟨a1, 0, none⟩ = some (.int .i64 t)) (h2 : W.cell? ⟨a2, 0, none⟩ = some (.int .i64 s)) (h3 : W.cell? ⟨a3, 0, none⟩ = some u)
  (hu : SL (fun j => base ≤ j) W u l) (hl : l.length ≤ 1000000) (y0 y1 y2 y3 y4 : Value) (h4 : Bx W a4 [y0, y1, y2, y3, y4] 86) (hb4 : a4 < base) (hbW : base ≤ W.heap.size) :
  Calls Tryz.prog 69 #[.pointer (some ⟨g, 0, none⟩), .pointer (some ⟨a1, 0, none⟩), .pointer (some ⟨a2, 0, none⟩), .pointer (some ⟨a3, 0, none⟩), .pointer (some ⟨a4, 0, none⟩)] W (fun e W' => DoEnds base (fun j => j = a4) g h (bookOf (giveD h b t s l)) (fun Z => ∃ z0 z1 z2 z3 z4, Bx Z a4 [z0, z1, z2, z3, z4] 86 ∧ Rep.rep (fun j => j < base) Z [z0, z1, z2, z3, z4] (restOf noMsg (giveD h b t s l))) e W W') := by
 obtain ⟨c0, c1, c2, c3, c4, vs, vo, vt, xs, D⟩ := hD
 have hcall := zH (give_any D hO t s l u hu hl)
 have H4 := zH h4
 have HB := zH (And.intro hb4 hbW)
 obtain ⟨pu, cu, rfl⟩ := hu.form
 clear D hO h4 hb4 hbW hu hl
 go_enter Tryz.func69, Tryz.ntmps69
 go_wp2_with fail
 refine hcall.out.mono ?_
 clear hcall
 rintro e w' he
 cases hr : giveD h b t s l with
 | ok p =>
  obtain ⟨b', m⟩ := p
  rw [hr] at he
  obtain ⟨v', rfl, hD, hm, hX⟩ := he
  obtain ⟨mc, rfl, hms⟩ := hm.message
  obtain ⟨pm, cm, rfl⟩ := hms.form
  have hb4 := H4.out.keep hX.keeps (by have := HB.out; omega)
  have f0 := hb4.cell 0
  have f1 := hb4.cell 1
  have f2 := hb4.cell 2
  have f3 := hb4.cell 3
  have f4 := hb4.cell 4
  have z0 := hb4.frozen
  simp only [zD, zE] at f0 f1 f2 f3 f4
  have HH := zH (And.intro hX (And.intro hD (And.intro hms hb4)))
  have HRR := zH hr
  clear hX hD hm hms hb4 hr
  go_wp2
  go_end0
  obtain ⟨hX, ⟨x0, x1, x2, x3, x4, ws, wo, wt, xs', hD⟩, hms, hb4⟩ := HH.out
  rw [HRR.out]
  have b5 := set5 hb4 (.int .i64 m.frm) (.int .i64 m.dst) (.int .i64 m.number) (.int .i64 m.shw) (.slice pm m.seats.length cm)
  have hsz : w'.heap.size ≤ _ := b5.2.size
  refine ⟨rfl, ⟨w', ⟨x0, x1, x2, x3, x4, ws, wo, wt, xs', hD⟩, hsz, fun j hj => ?_⟩, ⟨_, _, _, _, _, b5.1, _, rfl, ?_⟩, (hX.mono fun j _ hj => .inl hj).trans (b5.2.mono fun j _ hj => .inr hj)⟩
  ·by_cases hlt : j < w'.heap.size
   ·exact b5.2.block j hlt (by have := HB.out; omega)
   ·rw [Array.getElem?_eq_none (by simp; omega), Array.getElem?_eq_none (by omega)]
  ·exact (hms.weak fun j _ hj => by have := HB.out; omega).keep (b5.2.keeps.mono fun j _ hj => by have := HB.out; omega)
 | error c =>
  rw [hr] at he
  obtain ⟨rfl, hX⟩ := he
  exact ⟨rfl, by rw [hr]; exact ⟨rfl, hX⟩⟩
theorem DoneEnds.give {h : House} {b : Book} {r : Except Int (Book × BT.Message)} {w w' : World} {e : Ending} {a4 : Nat} (ha : Bx w a4 [.int .i64 0, .int .i64 0, .int .i64 0, .int .i64 0, .slice none 0 0] 86)
  (hd : DoneEnds (fun j => j = a4) (doneR h b (bookOf r)) (fun Z => ∃ z0 z1 z2 z3 z4, Bx Z a4 [z0, z1, z2, z3, z4] 86 ∧ Rep.rep (fun j => j < w.heap.size + 4) Z [z0, z1, z2, z3, z4] (restOf noMsg r)) w e w') :
  ∃ v' z0 z1 z2 z3 z4, e = .returned (.tuple #[v', .int .i64 (actR (bookOf (gate h b r))).2]) ∧ AV (Old w) w' v' (actR (bookOf (gate h b r))).1 ∧ Bx w' a4 [z0, z1, z2, z3, z4] 86 ∧ Rep.rep (Old w) w' [z0, z1, z2, z3, z4] (restOf noMsg (gate h b r)) ∧ StepX (fun j => j = a4) w w' := by
 rw [gate_book]
 unfold gate
 by_cases hc : checkR h b = 0
 ·rw [if_pos hc]
  rw [show doneR h b (bookOf r) = bookOf r by simp [doneR, hc]] at hd ⊢
  cases r with
  | ok p =>
   obtain ⟨v', h1, h2, ⟨z0, z1, z2, z3, z4, h3, h4⟩, h5⟩ := hd
   exact ⟨v', z0, z1, z2, z3, z4, h1, h2, h3, Rep.weak (fun j _ hj => by unfold Old at hj; omega) h4, h5⟩
  | error c =>
   obtain ⟨v', h1, h2, h3⟩ := hd
   exact ⟨v', _, _, _, _, _, h1, h2, ha.step h3, ⟨_, rfl, SL.nil _ _⟩, .of h3⟩
 ·rw [if_neg hc]
  rw [show doneR h b (bookOf r) = .error 1 by simp [doneR, hc]] at hd ⊢
  obtain ⟨v', h1, h2, h3⟩ := hd
  exact ⟨v', _, _, _, _, _, h1, h2, ha.step h3, ⟨_, rfl, SL.nil _ _⟩, .of h3⟩
theorem ret_struct_cc {P : Program} {fn : Func} {R : Ending → World → Prop} {a : Act} {w : World} {t u x : Tmp} {T U T' U' : TypeId} {k k' g g' : Nat} {cs ds : List Value} (hr : fn.results = #[.cell t T, .cell u U, .tmp x]) (hi : SI P T k) (hi' : SI P U k')
  (ht : a.tmps.getD t undef = .pointer (some ⟨g, 0, none⟩)) (hu : a.tmps.getD u undef = .pointer (some ⟨g', 0, none⟩)) (hb : Bx w g cs T') (hb' : Bx w g' ds U') (hk : cs.length = k) (hk' : ds.length = k') (hd : a.defers = []) (hR : R (.returned (.tuple #[.agg cs.toArray, .agg ds.toArray, a.tmps.getD x undef])) w) : bodyPost P fn R .ret a w := by
 refine bodyPost_ret (v := .tuple #[.agg cs.toArray, .agg ds.toArray, a.tmps.getD x undef]) ?_ hd hR
 have ht' : a.tmps[t]?.getD undef = .pointer (some ⟨g, 0, none⟩) := by simpa using ht
 have hu' : a.tmps[u]?.getD undef = .pointer (some ⟨g', 0, none⟩) := by simpa using hu
 simp [results, hr, ht', hu', asAddr, run_loadVar_bx hi hb hk, run_loadVar_bx hi' hb' hk']
theorem Give_any (S S2 : Nat → Prop) (h : House) (b : Book) (v u x : Value) (t s : Int) (l : List Int) (w : World) (hv : AV S w v h) (hu : AV S w u b) (hx : SL S2 w x l) (hl : l.length ≤ 1000000) :
  Calls Tryz.prog 33 #[v, u, .int .i64 t, .int .i64 s, x] w fun e w' => ∃ v' m', e = .returned (.tuple #[v', m', .int .i64 (actR (bookOf (gate h b (giveD h b t s l)))).2]) ∧ AV (Old w) w' v' (actR (bookOf (gate h b (giveD h b t s l)))).1 ∧ AV (Old w) w' m' (restOf noMsg (gate h b (giveD h b t s l))) ∧ Step w w' := by
 obtain ⟨cs, rfl, hr⟩ := hv
 have hr0 := hr
 obtain ⟨c0, c1, c2, c3, c4, rfl, h0, h1, h2, h3, h4⟩ := hr
 obtain ⟨cs, rfl, hq⟩ := hu
 have hq0 := hq
 obtain ⟨d1, d2, d4, rfl, s1, s2, s4⟩ := hq
 obtain ⟨px, cx, rfl⟩ := hx.form
 obtain ⟨W8, hW8⟩ : ∃ W8, W8 = (((((((w.alloc (.cells #[c0, c1, c2, c3, c4] 41)).alloc (.cells #[.int .i64 b.agency, d1, d2, .int .i64 b.sent, d4, .int .i64 b.cash] 77)).alloc (.cells #[.int .i64 t] 3)).alloc (.cells #[.int .i64 s] 3)).alloc (.cells #[.slice px l.length cx] 23)).alloc (.cells #[.int .i64 0, .slice none 0 0, .slice none 0 0, .int .i64 0, .slice none 0 0, .int .i64 0] 77)).alloc (.cells #[.int .i64 0, .int .i64 0, .int .i64 0, .int .i64 0, .slice none 0 0] 86)).alloc (.cells #[.int .i64 0, .int .i64 0, .int .i64 0, .int .i64 0, .slice none 0 0] 86) := ⟨_, rfl⟩
 have hS : Step w W8 := by subst hW8; exact (by with_reducible repeat (first | assumption | exact Step.refl _ | apply Step.s_alloc | apply Step.s_drew | apply Step.s_drewN | refine Step.trans ?_ (by assumption)))
 have hb2 : Bx W8 (w.heap.size + 2) [.int .i64 t] 3 := by subst hW8; exact (((((Bx.new' _ [_] _ _ (by simp)).alloc _).alloc _).alloc _).alloc _).alloc _
 have hb3 : Bx W8 (w.heap.size + 3) [.int .i64 s] 3 := by subst hW8; exact ((((Bx.new' _ [_] _ _ (by simp)).alloc _).alloc _).alloc _).alloc _
 have hb4 : Bx W8 (w.heap.size + 4) [.slice px l.length cx] 23 := by subst hW8; exact (((Bx.new' _ [_] _ _ (by simp)).alloc _).alloc _).alloc _
 have hb5 : Bx W8 (w.heap.size + 5) [.int .i64 0, .slice none 0 0, .slice none 0 0, .int .i64 0, .slice none 0 0, .int .i64 0] 77 := by subst hW8; exact ((Bx.new' _ [_, _, _, _, _, _] _ _ (by simp)).alloc _).alloc _
 have hb6 : Bx W8 (w.heap.size + 6) [.int .i64 0, .int .i64 0, .int .i64 0, .int .i64 0, .slice none 0 0] 86 := by subst hW8; exact (Bx.new' _ [_, _, _, _, _] _ _ (by simp)).alloc _
 have hb7 : Bx W8 (w.heap.size + 7) [.int .i64 0, .int .i64 0, .int .i64 0, .int .i64 0, .slice none 0 0] 86 := by subst hW8; exact Bx.new' _ [_, _, _, _, _] _ _ (by simp)
 have hz8 : W8.heap.size = w.heap.size + 8 := by subst hW8; simp
 have hmf : ∀ (fn : Fn) (first cap : Array Value) (w : World), (Instr.makeFunc fn first cap).run Tryz.prog w = .ok (.func fn first cap) w := fun _ _ _ _ => rfl
 have hold : ∀ j, j < w.heap.size → w.heap.size ≤ j → S j := fun j h1 h2 => by omega
 have hx8 : SL (fun j => w.heap.size ≤ j) W8 (.slice px l.length cx) l := (hx.weak fun j h1 h2 => by omega).keep (.of_step hS)
 have hcall := zH ((done_any (fun j => w.heap.size ≤ j) h b _ _ W8 69 #[.pointer (some ⟨w.heap.size + 2, 0, none⟩), .pointer (some ⟨w.heap.size + 3, 0, none⟩), .pointer (some ⟨w.heap.size + 4, 0, none⟩), .pointer (some ⟨w.heap.size + 7, 0, none⟩)] (Go.Proofs.enters_of Tryz.func69 (by kernel_rfl) rfl)
  (fun j => j = w.heap.size + 7) (bookOf (giveD h b t s l)) (fun Z => ∃ z0 z1 z2 z3 z4, Bx Z (w.heap.size + 7) [z0, z1, z2, z3, z4] 86 ∧ Rep.rep (fun j => j < W8.heap.size + 4) Z [z0, z1, z2, z3, z4] (restOf noMsg (giveD h b t s l)))
  ⟨_, rfl, Rep.keep (.of_step hS) (Rep.weak hold hr0)⟩ ⟨_, rfl, Rep.keep (.of_step hS) (Rep.weak hold hq0)⟩ (fun j hj => ⟨by omega, by omega⟩)
  (fun W W' ⟨z0, z1, z2, z3, z4, hz, hm⟩ hX => ⟨z0, z1, z2, z3, z4, hz.keep hX.keeps (by omega), Rep.keep (hX.keeps.mono fun j _ hj => by omega) hm⟩)
  (fun hck W base g hSW h1 h2 hD => (give1c_any hD (okDesk_of hck).1 t s l _ _ _ _ _ ((hb2.step hSW).cell 0) ((hb3.step hSW).cell 0) ((hb4.step hSW).cell 0) ((hx8.keep (.of_step hSW)).weak fun j _ hj => by omega) hl _ _ _ _ _ (hb7.step hSW) (by omega) h2).mono fun e w' he => by
   cases hrr : giveD h b t s l with
   | ok p =>
    rw [hrr] at he
    obtain ⟨e1, e2, ⟨z0, z1, z2, z3, z4, e3, e4⟩, e5⟩ := he
    exact ⟨e1, e2, ⟨z0, z1, z2, z3, z4, e3, Rep.weak (fun j _ hj => by omega) e4⟩, e5⟩
   | error c => rw [hrr] at he; exact he)).mono fun e w' he => he.give hb7)
 have HW := zH hW8
 have HS := zH hS
 have HB5 := zH hb5
 have HB6 := zH hb6
 have HZ8 := zH hz8
 obtain ⟨p0, k0, rfl⟩ := h0.form
 obtain ⟨p1, k1, rfl⟩ := h1.form
 obtain ⟨p2, k2, rfl⟩ := h2.form
 obtain ⟨p3, k3, rfl⟩ := h3.form
 obtain ⟨p4, k4, rfl⟩ := h4.form
 obtain ⟨q1, m1, rfl⟩ := s1.form
 obtain ⟨q2, m2, rfl⟩ := s2.form
 obtain ⟨q4, m4, rfl⟩ := s4.form
 clear hW8 hS hb2 hb3 hb4 hb5 hb6 hb7 hz8 h0 h1 h2 h3 h4 s1 s2 s4 hr0 hq0 hold hx8 hx hl
 go_enter Tryz.func33, Tryz.ntmps33
 go_wp2_with fail
 rw [← HW.out]
 clear HW
 refine hcall.out.mono ?_
 clear hcall
 rintro e w1 ⟨v', z0, z1, z2, z3, z4, rfl, hv', hb7, hm', hS1⟩
 generalize hbk : (actR (bookOf (gate h b (giveD h b t s l)))).1 = bk at *
 generalize hec : (actR (bookOf (gate h b (giveD h b t s l)))).2 = ec at *
 generalize hmm : restOf noMsg (gate h b (giveD h b t s l)) = mm at *
 have HBK := zH (And.intro hbk (And.intro hec hmm))
 obtain ⟨b1, b2, b4, rfl, t1, t2, t4⟩ := hv'.book
 obtain ⟨q1, m1, rfl⟩ := t1.form
 obtain ⟨q2, m2, rfl⟩ := t2.form
 obtain ⟨q4, m4, rfl⟩ := t4.form
 have hm0 := hm'
 obtain ⟨mc, hme, hms⟩ := hm'
 injection hme with e0 hme
 injection hme with e1 hme
 injection hme with e2 hme
 injection hme with e3 hme
 injection hme with e4 _
 subst e0 e1 e2 e3 e4
 obtain ⟨pm, cm, rfl⟩ := hms.form
 have HV := zH (And.intro hv' hm0)
 have hb5' := HB5.out.keep hS1.keeps (by omega)
 have hb6' := HB6.out.keep hS1.keeps (by omega)
 have HS1 := zH (And.intro hS1 (And.intro hb5' hb6'))
 have y0 := hb7.cell 0
 have y1 := hb7.cell 1
 have y2 := hb7.cell 2
 have y3 := hb7.cell 3
 have y4 := hb7.cell 4
 have g0 := hb6'.cell 0
 have g1 := hb6'.cell 1
 have g2 := hb6'.cell 2
 have g3 := hb6'.cell 3
 have g4 := hb6'.cell 4
 simp only [zD, zE] at y0 y1 y2 y3 y4 g0 g1 g2 g3 g4
 obtain ⟨f0, f1, f2, f3, f4, f5⟩ := cells6 hb5'
 have zf := hb5'.frozen
 have zg := hb6'.frozen
 have hn1 := HZ8.out
 have hn2 := hS1.size
 have hn3 : w.heap.size + 5 < w1.heap.size := by omega
 have hn4 : w.heap.size + 6 < w1.heap.size := by omega
 have hn5 : w.heap.size + 7 < w1.heap.size := by omega
 have hzz : w.heap.size + 5 ≠ w1.heap.size := by omega
 have hzz2 : w1.heap.size ≠ w.heap.size + 5 := by omega
 have hzz3 : w.heap.size + 6 ≠ w1.heap.size := by omega
 have hzz4 : w1.heap.size ≠ w.heap.size + 6 := by omega
 clear hv' hS1 t1 t2 t4 hb7 hm0 hms hbk hec hmm hb5' hb6' hn1 hn2
 go_wp2
 go_region
 clear y0 y1 y2 y3 y4 g0 g1 g2 g3 g4 f0 f1 f2 f3 f4 f5 zf zg hn3 hn4 hn5 hzz hzz2 hzz3 hzz4
 go_wp2
 have hz8 := HZ8.out
 have b6 := set6 HS1.out.2.1 (.int .i64 bk.agency) (.slice q1 bk.seats.length m1) (.slice q2 bk.off.length m2) (.int .i64 bk.sent) (.slice q4 bk.took.length m4) (.int .i64 bk.cash)
 have b7 := set5 (HS1.out.2.2.keep b6.2.keeps (by omega)) (.int .i64 mm.frm) (.int .i64 mm.dst) (.int .i64 mm.number) (.int .i64 mm.shw) (.slice pm mm.seats.length cm)
 have hX : StepX (fun j => j = w.heap.size + 5 ∨ j = w.heap.size + 6) w1 _ := (((b6.2.mono fun _ _ h => .inl h).trans (b7.2.mono fun _ _ h => .inr h)).alloc' (.cells #[.int .i64 bk.agency, .slice q1 bk.seats.length m1, .slice q2 bk.off.length m2, .int .i64 bk.sent, .slice q4 bk.took.length m4, .int .i64 bk.cash] 77)).drew'
 refine ret_struct_cc (k := 6) (k' := 5) rfl siBook siMessage rfl rfl (((b6.1.keep b7.2.keeps (by omega)).alloc _).step (.drew _)) ((b7.1.alloc _).step (.drew _)) rfl rfl rfl ?_
 rw [HBK.out.1, HBK.out.2.1, HBK.out.2.2]
 refine ⟨_, _, rfl, (AV.keep (hX.keeps.mono fun j _ hj => ?_) HV.out.1).weak fun j _ hj => ?_, ⟨_, rfl, Rep.weak (fun j _ hj => ?_) (Rep.keep (hX.keeps.mono fun j _ hj => ?_) HV.out.2)⟩, StepX.fresh (StepX.fresh HS.out HS1.out.1 (fun j hj => by omega)) hX (fun j hj => by omega)⟩
 ·unfold Old; omega
 ·unfold Old at *; omega
 ·unfold Old at *; omega
 ·unfold Old; omega
def messV (h : House) (m : BT.Message) : Bool := withinB m.frm 0 (agN h - 1) && withinB m.dst 0 (agN h - 1) && decide (m.frm ≠ m.dst) && withinB m.number 1 1000 && withinB m.shw 0 (h.dates.length - 1) && seatsB h m.seats
theorem vmess_any (S T : Nat → Prop) (h : House) (m : BT.Message) (v u : Value) (w : World) (hv : AV S w v h) (hu : AV T w u m) (hok : valid h = true) :
  Calls Tryz.prog 103 #[v, u] w fun e w' => e = .returned (.bool (messV h m)) ∧ Step w w' := by
 obtain ⟨cs, rfl, hr⟩ := hv
 have hr0 := hr
 obtain ⟨c0, c1, c2, c3, c4, rfl, h0, h1, h2, h3, h4⟩ := hr
 obtain ⟨p0, k0, rfl⟩ := h0.form
 obtain ⟨p1, k1, rfl⟩ := h1.form
 obtain ⟨p2, k2, rfl⟩ := h2.form
 obtain ⟨p3, k3, rfl⟩ := h3.form
 obtain ⟨p4, k4, rfl⟩ := h4.form
 obtain ⟨mc, rfl, hms⟩ := hu.message
 obtain ⟨pm, cm, rfl⟩ := hms.form
 have hbv := bounds_valid hok
 have hwr : IntKind.i64.wrap ((agN h : Int) - 1) = (agN h : Int) - 1 := by rw [IntKind.wrap_i64]; omega
 have hwd : IntKind.i64.wrap ((h.dates.length : Int) - 1) = (h.dates.length : Int) - 1 := by rw [IntKind.wrap_i64]; omega
 have hn1 : 1 ≤ h.dates.length ∧ h.dates.length ≤ 6 := by omega
 have hf0 : 0 < h.frm.length := by omega
 obtain ⟨W0, hW0⟩ : ∃ W0, W0 = (w.alloc (.cells #[.slice p0 h.sectors.length k0, .slice p1 h.prices.length k1, .slice p2 h.dates.length k2, .slice p3 h.frm.length k3, .slice p4 h.holds.length k4] 41)).alloc (.cells #[.int .i64 m.frm, .int .i64 m.dst, .int .i64 m.number, .int .i64 m.shw, .slice pm m.seats.length cm] 86) := ⟨_, rfl⟩
 have hbx : Bx W0 w.heap.size [.slice p0 h.sectors.length k0, .slice p1 h.prices.length k1, .slice p2 h.dates.length k2, .slice p3 h.frm.length k3, .slice p4 h.holds.length k4] 41 := by subst hW0; exact (Bx.new _ _ _).alloc _
 have hb2 : Bx W0 (w.heap.size + 1) [.int .i64 m.frm, .int .i64 m.dst, .int .i64 m.number, .int .i64 m.shw, .slice pm m.seats.length cm] 86 := by subst hW0; exact Bx.new' _ _ _ _ (by simp)
 have hS : Step w W0 := by subst hW0; exact (by with_reducible repeat (first | assumption | exact Step.refl _ | apply Step.s_alloc | apply Step.s_drew | apply Step.s_drewN | refine Step.trans ?_ (by assumption)))
 have HB1 := zH hbx
 have HB2 := zH hb2
 have HR := zH (Rep.keep (.of_step hS) hr0)
 have HM := zH (hms.keep (.of_step hS))
 have HS := zH hS
 have HOK := zH hok
 have HT := zH (Step.refl W0)
 have HW := zH hW0
 clear hr0 h0 h1 h2 h3 h4 hms hu hbx hb2 hS hok hbv hW0
 have hag0 := agencies_any S h (.agg #[.slice p0 h.sectors.length k0, .slice p1 h.prices.length k1, .slice p2 h.dates.length k2, .slice p3 h.frm.length k3, .slice p4 h.holds.length k4]) W0 ⟨_, rfl, HR.out⟩ hf0
 rw [agN_eq] at hag0
 have hcall := zH hag0
 clear hag0
 go_enter Tryz.func103, Tryz.ntmps103
 go_wp2_with fail
 rw [← HW.out]
 refine hcall.out.mono ?_
 rintro e wn ⟨rfl, hSn⟩
 have HT := zH hSn
 clear hSn hcall
 (try clear e0 e1 e2 e3 e4 f0 f1 f2 f3 f4)
 obtain ⟨e0, e1, e2, e3, e4⟩ := cells5 (HB1.out.step HT.out)
 obtain ⟨f0, f1, f2, f3, f4⟩ := cells5 (HB2.out.step HT.out)
 go_wp2_with fail
 refine (within_st _ _ _ _).mono ?_
 rintro e wq ⟨rfl, hSq⟩
 have HTi := zH (HT.out.trans hSq)
 clear hSq HT
 have HT := HTi
 clear HTi
 cases q1 : withinB m.frm 0 ((agN h : Int) - 1) with
 | false =>
  have q1 := zH q1
  have HF := zH (show messV h m = false by simp only [messV, q1.out]; simp)
  go_wp2
  go_ret
  exact ⟨by rw [HF.out]; rfl, HS.out.trans HT.out⟩
 | true =>
 have Q1 := zH q1
 clear q1
 (try clear e0 e1 e2 e3 e4 f0 f1 f2 f3 f4)
 obtain ⟨e0, e1, e2, e3, e4⟩ := cells5 (HB1.out.step HT.out)
 obtain ⟨f0, f1, f2, f3, f4⟩ := cells5 (HB2.out.step HT.out)
 go_wp2_with fail
 refine (within_st _ _ _ _).mono ?_
 rintro e wq ⟨rfl, hSq⟩
 have HTi := zH (HT.out.trans hSq)
 clear hSq HT
 have HT := HTi
 clear HTi
 cases q2 : withinB m.dst 0 ((agN h : Int) - 1) with
 | false =>
  have q2 := zH q2
  have HF := zH (show messV h m = false by simp only [messV, Q1.out, q2.out]; simp)
  go_wp2
  go_ret
  exact ⟨by rw [HF.out]; rfl, HS.out.trans HT.out⟩
 | true =>
 have Q2 := zH q2
 clear q2
 (try clear e0 e1 e2 e3 e4 f0 f1 f2 f3 f4)
 obtain ⟨e0, e1, e2, e3, e4⟩ := cells5 (HB1.out.step HT.out)
 obtain ⟨f0, f1, f2, f3, f4⟩ := cells5 (HB2.out.step HT.out)
 by_cases q3 : m.frm = m.dst
 ·have hd : (m.frm != m.dst) = false := by simpa using q3
  have q3 := zH q3
  have HF := zH (show messV h m = false by simp only [messV, Q1.out, Q2.out, q3.out]; simp)
  go_wp2
  go_ret
  exact ⟨by rw [HF.out]; rfl, HS.out.trans HT.out⟩
 have hd : (m.frm != m.dst) = true := by simpa using q3
 have Q3 := zH q3
 clear q3
 go_wp2_with fail
 refine (within_st _ _ _ _).mono ?_
 rintro e wq ⟨rfl, hSq⟩
 have HTi := zH (HT.out.trans hSq)
 clear hSq HT
 have HT := HTi
 clear HTi
 cases q4 : withinB m.number 1 1000 with
 | false =>
  have q4 := zH q4
  have HF := zH (show messV h m = false by simp only [messV, Q1.out, Q2.out, q4.out]; simp)
  go_wp2
  go_ret
  exact ⟨by rw [HF.out]; rfl, HS.out.trans HT.out⟩
 | true =>
 have Q4 := zH q4
 clear q4 hd
 (try clear e0 e1 e2 e3 e4 f0 f1 f2 f3 f4)
 obtain ⟨e0, e1, e2, e3, e4⟩ := cells5 (HB1.out.step HT.out)
 obtain ⟨f0, f1, f2, f3, f4⟩ := cells5 (HB2.out.step HT.out)
 go_wp2_with fail
 refine (within_st _ _ _ _).mono ?_
 rintro e wq ⟨rfl, hSq⟩
 have HTi := zH (HT.out.trans hSq)
 clear hSq HT
 have HT := HTi
 clear HTi
 cases q5 : withinB m.shw 0 ((h.dates.length : Int) - 1) with
 | false =>
  have q5 := zH q5
  have HF := zH (show messV h m = false by simp only [messV, Q1.out, Q2.out, q5.out]; simp)
  go_wp2
  go_ret
  exact ⟨by rw [HF.out]; rfl, HS.out.trans HT.out⟩
 | true =>
 have Q5 := zH q5
 clear q5
 (try clear e0 e1 e2 e3 e4 f0 f1 f2 f3 f4)
 obtain ⟨e0, e1, e2, e3, e4⟩ := cells5 (HB1.out.step HT.out)
 obtain ⟨f0, f1, f2, f3, f4⟩ := cells5 (HB2.out.step HT.out)
 go_wp2_with fail
 refine (seats_any S T h _ _ m.seats _ ⟨_, rfl, Rep.keep (.of_step HT.out) HR.out⟩ (HM.out.keep (.of_step HT.out)) HOK.out).mono ?_
 rintro e wq ⟨rfl, hSq⟩
 have HTi := zH (HT.out.trans hSq)
 clear hSq HT
 have HT := HTi
 clear HTi
 have HF := zH (show messV h m = seatsB h m.seats by simp only [messV, Q1.out, Q2.out, Q4.out, Q5.out]; simp [Q3.out])
 go_wp2
 go_ret
 exact ⟨by rw [HF.out]; rfl, HS.out.trans HT.out⟩
theorem siKey : SI Tryz.prog 172 2 := ⟨⟨_, Tryz.underlying172⟩, by kernel_rfl⟩
def keyOf (m : BT.Message) : Key := ⟨m.frm, m.number⟩
theorem key_any (T : Nat → Prop) (m : BT.Message) (u : Value) (w : World) (hu : AV T w u m) :
  Calls Tryz.prog 106 #[u] w fun e w' => e = .returned (.agg #[.int .i64 m.frm, .int .i64 m.number]) ∧ Step w w' := by
 obtain ⟨mc, rfl, hms⟩ := hu.message
 obtain ⟨pm, cm, rfl⟩ := hms.form
 clear hu hms
 go_enter Tryz.func106, Tryz.ntmps106
 go_wp2
 refine ret_struct (k := 2) (g := w.heap.size + 1) (T' := 172) (cs := [.int .i64 m.frm, .int .i64 m.number]) rfl siKey rfl (Bx.new' _ _ _ _ (by simp)) rfl rfl ⟨rfl, (by with_reducible repeat (first | assumption | exact Step.refl _ | apply Step.s_alloc | apply Step.s_drew | apply Step.s_drewN | refine Step.trans ?_ (by assumption)))⟩
attribute [local go_sem] equal_key
end Go.Proofs.YtgpiieogiafdoaaGreat
