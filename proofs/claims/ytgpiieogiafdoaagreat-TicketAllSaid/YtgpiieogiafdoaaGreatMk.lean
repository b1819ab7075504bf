/- Walks and plain laws, part k. -/
import Derived.Test.YtgpiieogiafdoaaGreatMj
import Derived.Test.YtgpiieogiafdoaaGreatMm
namespace Go.Proofs.YtgpiieogiafdoaaGreat
set_option linter.unusedSimpArgs false
set_option linter.unusedVariables false
open Go.RowKit Go.BT
theorem seat_nn {h : House} {b : Book} (hb : bookB h b = true) {i j : Nat} (hi : i < b.seats.length) (hj : j < b.seats[i].length) : -1 ≤ seatAt b i j := by
 have h1 := List.all_eq_true.1 (bookB_parts hb).rows _ (List.getElem_mem hi)
 simp only [rowB, Bool.and_eq_true] at h1
 have h2 := List.all_eq_true.1 h1.2 _ (List.getElem_mem hj)
 simp only [withinB, decide_eq_true_eq] at h2
 have : seatAt b i j = b.seats[i][j] := by simp [seatAt, List.getD_eq_getElem?_getD, hi, hj]
 omega
def cntH (b : Book) (s : Int) (l : List Nat) : Int := cntW b s isF l + cntW b s isS l
def bookS (W : Wd) (s : Int) (l : List Nat) : Nat → Int
 | 0 => 0
 | a + 1 => bookS W s l a + cntH (bk W a) s l
def wayN (W : Wd) (s : Int) (i : Nat) : Int := if (numsB (agsP W s i) W.books.length).length = 0 then 1 else 0
def wayS (h : House) (W : Wd) (s : Int) (c : Int) : Nat → Int
 | 0 => 0
 | i + 1 => wayS h W s c i + if classL h.sectors i = c then wayN W s i - 1 else 0
theorem cntH_nil (b : Book) (s : Int) : cntH b s [] = 0 := by simp [cntH, cntW]
theorem bookS_nil (W : Wd) (s : Int) : ∀ a, bookS W s [] a = 0
 | 0 => rfl
 | a + 1 => by unfold bookS; rw [bookS_nil W s a, cntH_nil]; rfl
theorem cntH_snoc {b : Book} {s : Int} {l : List Nat} {k : Nat} (h : -1 ≤ seatAt b s k) : cntH b s (l ++ [k]) = cntH b s l + if seatAt b s k ≠ -1 then 1 else 0 := by
 unfold cntH
 rw [cntW_snoc, cntW_snoc]
 simp only [isF, isS, decide_eq_true_eq]
 by_cases e : seatAt b s k = -1
 ·rw [if_neg (by omega), if_neg (by omega), if_neg (by simp [e])]; omega
 ·rw [if_pos e]
  by_cases z : seatAt b s k = 0
  ·rw [if_pos z, if_neg (by omega)]; omega
  ·rw [if_neg z, if_pos (by omega)]; omega
theorem bookS_snoc {W : Wd} {s : Int} {l : List Nat} {k : Nat} : ∀ {a : Nat}, (∀ b, b < a → -1 ≤ seatAt (bk W b) s k) → bookS W s (l ++ [k]) a = bookS W s l a + ((numsB (agsP W s k) a).length : Int)
 | 0, _ => by simp [bookS, numsB]
 | a + 1, h => by
  unfold bookS
  rw [bookS_snoc (a := a) fun b hb => h b (by omega), cntH_snoc (h a (by omega))]
  by_cases e : seatAt (bk W a) s k ≠ -1
  ·have hp : agsP W s k a = true := by simp [agsP, e]
   rw [numsB_yes hp, if_pos e, List.length_append]
   simp; omega
  ·have hp : agsP W s k a = false := by simp only [agsP]; simp at e ⊢; exact e
   rw [numsB_no hp, if_neg e]; omega
theorem cntH_bound (b : Book) (s : Int) (l : List Nat) : 0 ≤ cntH b s l ∧ cntH b s l ≤ 2 * l.length := by
 have h1 := cntW_bound b s isF l
 have h2 := cntW_bound b s isS l
 unfold cntH; omega
theorem bookS_bound (W : Wd) (s : Int) (l : List Nat) : ∀ a : Nat, 0 ≤ bookS W s l a ∧ bookS W s l a ≤ 2 * (l.length * a)
 | 0 => by simp [bookS]
 | a + 1 => by
  have h1 := bookS_bound W s l a
  have h2 := cntH_bound (bk W a) s l
  unfold bookS
  have e : (l.length : Int) * ((a + 1 : Nat) : Int) = l.length * a + l.length := by rw [Int.natCast_add, Int.mul_add]; simp
  rw [e]
  omega
theorem wayN_bound (W : Wd) (s : Int) (i : Nat) : 0 ≤ wayN W s i ∧ wayN W s i ≤ 1 := by unfold wayN; split <;> omega
theorem wayS_bound (h : House) (W : Wd) (s c : Int) : ∀ k : Nat, -(k : Int) ≤ wayS h W s c k ∧ wayS h W s c k ≤ 0
 | 0 => by simp [wayS]
 | k + 1 => by
  have h1 := wayS_bound h W s c k
  have h2 := wayN_bound W s k
  unfold wayS
  split <;> omega
theorem bookS_small (h : House) (hv : valid h = true) (W : Wd) (s c : Int) {a : Nat} (ha : a ≤ 6) : 0 ≤ bookS W s (ofL h c) a ∧ bookS W s (ofL h c) a ≤ 1200 := by
 have h1 := bookS_bound W s (ofL h c) a
 have h2 : (ofL h c).length ≤ 100 := by
  have hb := bounds_valid hv
  unfold ofL ofB
  have := List.length_filter_le (fun (k : Nat) => decide (classL h.sectors k = c)) (List.range (sizeL h.sectors).toNat)
  simp only [List.length_range] at this
  first | omega | (refine Nat.le_trans this ?_; omega)
 have h3 : ((ofL h c).length : Int) * (a : Int) ≤ 100 * 6 := Int.mul_le_mul (by omega) (by omega) (by omega) (by decide)
 omega
theorem all_way {h : House} {W : Wd} (hv : valid h = true) (I : WdInv h W) {s : Nat} (hs : s < h.dates.length) (c : Int) : ∀ k : Nat, (k : Int) ≤ sizeL h.sectors → bookS W s (ofB h c k) W.books.length + wayS h W s c k = 0
 | 0, _ => by
  have : ofB h c 0 = [] := by simp [ofB]
  rw [this, bookS_nil]; rfl
 | k + 1, hk => by
  have ih := all_way hv I hs c k (by omega)
  have hseat : ∀ b, b < W.books.length → -1 ≤ seatAt (bk W b) s k := fun b hb => by
   have hbk := (I.ok.book b hb).1
   have P := bookB_parts hbk
   rw [bk_at hb]
   have h1 : s < W.books[b].seats.length := by rw [P.seats]; exact hs
   refine seat_nn hbk h1 ?_
   have := List.all_eq_true.1 P.rows _ (List.getElem_mem h1)
   simp only [rowB, Bool.and_eq_true, decide_eq_true_eq] at this
   have := this.1
   omega
  unfold wayS
  by_cases e : classL h.sectors k = c
  ·rw [ofB_hit e, bookS_snoc hseat, if_pos e]
   have h1 : ((numsB (agsP W s k) W.books.length).length : Int) + wayN W s k = 1 := by
    unfold wayN
    rcases one_lists (I.one s k hs (by omega)) with ⟨a, _, _, _, h1, _⟩ | ⟨q, _, _, h1, _⟩
    ·rw [h1]; simp
    ·rw [h1]; simp
   omega
  ·rw [ofB_miss e, if_neg e]; omega
theorem way_where {h : House} {W : Wd} (hv : valid h = true) (I : WdInv h W) {s i : Nat} (hs : s < h.dates.length) (hi : (i : Int) < sizeL h.sectors) : ∃ A M : Int, whereR h W s i = (A, M, 0) ∧ (A < 0 → 0 ≤ M ∧ wayN W s i = 1) ∧ (¬ A < 0 → wayN W s i = 0) := by
 obtain ⟨A, M, h1, _, h3, h4, _, _, _⟩ := inv_where hv I hs hi
 refine ⟨A, M, h1, fun hA => ⟨h4.2 hA, ?_⟩, fun hA => ?_⟩
 ·unfold wayN
  rcases one_lists (I.one s i hs hi) with ⟨a, ha, hp, hu, h5, _⟩ | ⟨q, _, _, h5, _⟩
  ·rw [lastP_one hp ha hu] at h3; omega
  ·rw [h5]; rfl
 ·unfold wayN
  rcases one_lists (I.one s i hs hi) with ⟨a, ha, hp, hu, h5, _⟩ | ⟨q, _, hn, h5, _⟩
  ·rw [h5]; simp
  ·rw [lastP_none hn] at h3; omega
def haveB (h : House) (W : Wd) (s : Int) (a k : Nat) : List Value := (List.range h.prices.length).map fun (c : Nat) => Value.int .i64 (bookS W s (ofL h c) (if c < k then a + 1 else a))
def haveS (h : House) (W : Wd) (s : Int) (i : Nat) : List Value := (List.range h.prices.length).map fun (c : Nat) => Value.int .i64 (bookS W s (ofL h c) W.books.length + wayS h W s c i)
theorem haveB_zero (h : House) (W : Wd) (s : Int) : haveB h W s 0 0 = List.replicate h.prices.length (Value.int .i64 0) := by
 refine List.ext_getElem (by simp [haveB]) fun i h1 h2 => ?_
 simp [haveB, bookS]
theorem haveB_len (h : House) (W : Wd) (s : Int) (a k : Nat) : (haveB h W s a k).length = h.prices.length := by simp [haveB]
theorem haveS_len (h : House) (W : Wd) (s : Int) (i : Nat) : (haveS h W s i).length = h.prices.length := by simp [haveS]
theorem haveB_at (h : House) (W : Wd) (s : Int) (a k : Nat) {c : Nat} (hc : c < h.prices.length) : (haveB h W s a k)[c]? = some (Value.int .i64 (bookS W s (ofL h c) (if c < k then a + 1 else a))) := by simp [haveB, hc]
theorem haveS_at (h : House) (W : Wd) (s : Int) (i : Nat) {c : Nat} (hc : c < h.prices.length) : (haveS h W s i)[c]? = some (Value.int .i64 (bookS W s (ofL h c) W.books.length + wayS h W s c i)) := by simp [haveS, hc]
theorem haveB_next (h : House) (W : Wd) (s : Int) (a : Nat) {k : Nat} (hk : k < h.prices.length) : (haveB h W s a k).set k (Value.int .i64 (bookS W s (ofL h k) a + cntH (bk W a) s (ofL h k))) = haveB h W s a (k + 1) := by
 refine List.ext_getElem (by simp [haveB]) fun i h1 h2 => ?_
 have hi : i < h.prices.length := by simpa [haveB] using h2
 simp only [haveB, List.getElem_set, List.getElem_map, List.getElem_range]
 by_cases e : k = i
 ·subst e
  rw [if_pos rfl, if_pos (by omega)]; rfl
 ·rw [if_neg e]
  by_cases e2 : i < k
  ·rw [if_pos e2, if_pos (by omega)]
  ·rw [if_neg e2, if_neg (by omega)]
theorem haveB_end (h : House) (W : Wd) (s : Int) (a : Nat) : haveB h W s a h.prices.length = haveB h W s (a + 1) 0 := by
 refine List.ext_getElem (by simp [haveB]) fun i h1 h2 => ?_
 have hi : i < h.prices.length := by simpa [haveB] using h2
 simp [haveB, hi]
theorem haveB_all (h : House) (W : Wd) (s : Int) : haveB h W s W.books.length 0 = haveS h W s 0 := by
 refine List.ext_getElem (by simp [haveB, haveS]) fun i h1 h2 => ?_
 simp [haveB, haveS, wayS]
theorem haveS_next (h : House) (W : Wd) (s : Int) {i c : Nat} (hc : c < h.prices.length) (hi : classL h.sectors i = c) : (haveS h W s i).set c (Value.int .i64 (bookS W s (ofL h c) W.books.length + wayS h W s c i + wayN W s i - 1)) = haveS h W s (i + 1) := by
 refine List.ext_getElem (by simp [haveS]) fun j h1 h2 => ?_
 have hj : j < h.prices.length := by simpa [haveS] using h2
 simp only [haveS, List.getElem_set, List.getElem_map, List.getElem_range, wayS]
 by_cases e : c = j
 ·subst e
  rw [if_pos rfl, if_pos hi]
  congr 1
  omega
 ·rw [if_neg e, if_neg (by omega)]
  congr 1
  omega
theorem haveS_full {h : House} {W : Wd} (hv : valid h = true) (I : WdInv h W) {s : Nat} (hs : s < h.dates.length) {c : Nat} (hc : c < h.prices.length) : (haveS h W s (sizeL h.sectors).toNat)[c]? = some (Value.int .i64 0) := by
 rw [haveS_at h W s _ hc]
 have hb := bounds_valid hv
 have := all_way hv I hs (c : Int) (sizeL h.sectors).toNat (by omega)
 have e : ofL h (c : Int) = ofB h c (sizeL h.sectors).toNat := rfl
 rw [e, this]
set_option maxRecDepth 100000 in
set_option maxHeartbeats 8000000 in
theorem TicketAll_any (h : House) (l : List ActT) (v u : Value) (w : World) (hv : AV (fun _ => False) w v h) (hu : SL (fun _ => False) w u l) :
  Calls Tryz.prog 5 #[v, u] w fun e w' => e = .returned (.bool true) ∧ Step w w' := by
 obtain ⟨c0, c1, c2, c3, c4, rfl, h0, h1, h2, h3, h4⟩ := hv.house
 obtain ⟨p0, k0, rfl⟩ := h0.form
 obtain ⟨p1, k1, rfl⟩ := h1.form
 obtain ⟨p2, k2, rfl⟩ := h2.form
 obtain ⟨p3, k3, rfl⟩ := h3.form
 obtain ⟨p4, k4, rfl⟩ := h4.form
 obtain ⟨pu, ku, rfl⟩ := hu.form
 obtain ⟨W0, hW0⟩ : ∃ W0, W0 = w.alloc (.cells #[.slice p0 h.sectors.length k0, .slice p1 h.prices.length k1, .slice p2 h.dates.length k2, .slice p3 h.frm.length k3, .slice p4 h.holds.length k4] 26) := ⟨_, rfl⟩
 have hS : Step w W0 := by subst hW0; exact Step.alloc _ _
 have hb0 : Bx W0 w.heap.size [.slice p0 h.sectors.length k0, .slice p1 h.prices.length k1, .slice p2 h.dates.length k2, .slice p3 h.frm.length k3, .slice p4 h.holds.length k4] 26 := by subst hW0; exact Bx.new _ [_, _, _, _, _] _
 have HH := Lib.hid (hv.keep (.of_step hS))
 have HU := Lib.hid (hu.keep (.of_step hS))
 have HPR := Lib.hid (h1.keep (.of_step hS))
 have HS := Lib.hid hS
 have HB := Lib.hid hb0
 have HW := Lib.hid hW0
 clear hv hu hS hb0 hW0 h0 h1 h2 h3 h4
 go_enter Tryz.func5, Tryz.ntmps5
 go_upto_region 1 with (fail)
 rw [← HW.out]
 clear HW
 obtain ⟨e0, e1, e2, e3, e4⟩ := cells5 HB.out
 go_wp2_with fail
 refine (may_any (fun _ => False) h l _ _ _ HH.out HU.out).mono ?_
 rintro e wn ⟨rfl, hSn⟩
 have HT := Lib.hid hSn
 clear hSn e0 e1 e2 e3 e4
 cases qm : mayB h l with
 | false =>
  clear qm
  go_wp2_with fail
  refine (awake_any _).mono ?_
  rintro e wz ⟨rfl, hSz⟩
  go_wp2
  go_ret
  exact ⟨rfl, HS.out.trans (HT.out.trans hSz)⟩
 | true =>
 have HM := Lib.hid qm
 clear qm
 obtain ⟨e0, e1, e2, e3, e4⟩ := cells5 (HB.out.step HT.out)
 go_wp2_with fail
 refine (ran_any (fun _ => False) h l _ _ _ (HH.out.keep (.of_step HT.out)) (HU.out.keep (.of_step HT.out)) HM.out).mono ?_
 rintro e w2 ⟨vw, rfl, hvw, hSn⟩
 obtain ⟨b0, b1, rfl, s0, s1⟩ := hvw.wd
 obtain ⟨q0, r0, rfl⟩ := s0.form
 obtain ⟨q1, r1, rfl⟩ := s1.form
 have HV := Lib.hid (may_parts HM.out)
 have HI := Lib.hid (world_inv HV.out.1 l l.length)
 have HTO := Lib.hid (fun i => took_le HV.out.1 l l.length i)
 have HLE := Lib.hid (msgs_le HV.out.1 l l.length)
 obtain ⟨W, hW⟩ : ∃ W, W = worldAt h l l.length := ⟨_, rfl⟩
 rw [← hW] at s0 s1 HI HTO HLE ⊢
 have HSB := Lib.hid (And.intro s0 s1)
 have HT2 := Lib.hid (HT.out.trans hSn)
 clear HT s0 s1 hvw hSn hW e0 e1 e2 e3 e4
 have HT := HT2
 clear HT2
 obtain ⟨lm, hlm⟩ : ∃ n, n = W.msgs.length := ⟨_, rfl⟩
 rw [← hlm]
 have HLM := Lib.hid hlm
 clear hlm
 go_upto_region 4 with (fail)
 obtain ⟨W3, hW3⟩ : ∃ W3, W3 = w2.alloc (.cells #[.slice q0 W.books.length r0, .slice q1 lm r1] 34) := ⟨_, rfl⟩
 have hb3 : Bx W3 w2.heap.size [.slice q0 W.books.length r0, .slice q1 lm r1] 34 := by subst hW3; exact Bx.new _ [_, _] _
 have hS3 : Step w2 W3 := by subst hW3; exact Step.alloc _ _
 rw [← hW3]
 have HB3 := Lib.hid hb3
 have HSB3 := Lib.hid (And.intro ((HSB.out.1.weak (T := fun _ => False) fun _ _ h => h.elim).keep (.of_step hS3)) ((HSB.out.2.weak (T := fun _ => False) fun _ _ h => h.elim).keep (.of_step hS3)))
 have HT2 := Lib.hid (HT.out.trans hS3)
 clear HT hb3 hS3 hW3 HSB
 have HT := HT2
 clear HT2
 have HVW := Lib.hid (show AV (fun _ => False) W3 (.agg #[.slice q0 W.books.length r0, .slice q1 lm r1]) W by rw [HLM.out]; exact ⟨_, rfl, _, _, rfl, HSB3.out.1, HSB3.out.2⟩)
 have HML := Lib.hid (show W.msgs.length ≤ 1000000 by have := HLE.out; have := HV.out.2.2; omega)
 replace HH := Lib.hid (HH.out.keep (.of_step HT.out)); replace HB := Lib.hid (HB.out.step HT.out); replace HS := Lib.hid (HS.out.trans HT.out)
 clear HT HSB3 HTO HLE HU HPR
 obtain ⟨e0, e1, e2, e3, e4⟩ := cells5 HB.out
 obtain ⟨g5, hg5⟩ : ∃ g, g = w2.heap.size := ⟨_, rfl⟩
 rw [← hg5] at HB3 ⊢
 clear hg5
 go_wp2_with fail
 refine (Classes_any (fun _ => False) h _ _ HH.out (okSec_valid HV.out.1)).mono ?_
 rintro e wn ⟨vc, rfl, hvc, hSn⟩
 have hbv := bounds_valid HV.out.1
 obtain ⟨nz, hnz⟩ : ∃ n : Nat, sizeL h.sectors = n := ⟨(sizeL h.sectors).toNat, by omega⟩
 have hz1 : nz ≤ 100 := by omega
 obtain ⟨pc, kc, bc, oc, rfl, _, _, hpc, hcc, _⟩ := hvc.ints
 obtain ⟨hcl, hce⟩ := classes_at HV.out.1 hnz
 obtain ⟨C, hC⟩ : ∃ C, C = classesL h.sectors := ⟨_, rfl⟩
 have hcls : ∀ j (hj : j < C.length), C[j] = classL h.sectors j ∧ withinB (classL h.sectors j) 0 (h.prices.length - 1) = true := by
  subst hC; intro j hj; exact hce j (by omega)
 rw [← hC] at hpc hcc hcl ⊢
 rw [hcl] at hpc ⊢
 have HC := Lib.hid (And.intro hpc (And.intro hcc (And.intro hcl hcls)))
 have HNZ := Lib.hid hnz
 have hd6 : h.dates.length ≤ 6 := by omega
 have hb6 : W.books.length ≤ 6 := by have := HI.out.ok.len; omega
 have hp5 : h.prices.length ≤ 5 := prices5 HV.out.1
 clear hvc hpc hcc hcl hce hC hcls e0 e1 e2 e3 e4 hbv hnz
 replace HH := Lib.hid (HH.out.keep (.of_step hSn)); replace HVW := Lib.hid (HVW.out.keep (.of_step hSn)); replace HB := Lib.hid (HB.out.step hSn); replace HB3 := Lib.hid (HB3.out.step hSn); replace HS := Lib.hid (HS.out.trans hSn)
 clear hSn
 obtain ⟨pq, cq, bb, bo, hqe, _, _, hpq, hcq, _⟩ := (show SL (fun _ => False) wn (.slice q0 W.books.length r0) W.books by
  obtain ⟨d0, d1, hde, s0, s1⟩ := HVW.out.wd
  cases hde; exact s0).books
 injection hqe with hqe1 hqe2 hqe3
 clear hqe2 hqe3
 subst hqe1
 have HCB := Lib.hid (And.intro hpq hcq)
 have HCC := Lib.hid (fun (j : Nat) (hj : j < C.length) => (HC.out.2.1 j hj))
 clear hpq hcq
 go_upto_region 8 with (fail)
 generalize wn = wb at *
 go_loopw [8] (fun iv wr => ∃ k : Nat, k ≤ h.dates.length ∧ iv = .int .i64 k ∧ Step wb wr) (fun iv _ => h.dates.length - (intOf iv).toNat)
 case atStart => exact ⟨0, Nat.zero_le _, rfl, Step.refl _⟩
 case round =>
  obtain ⟨k, hk, rfl, hT⟩ := hrel
  have HTk := Lib.hid hT
  clear hT
  obtain ⟨e0, e1, e2, e3, e4⟩ := cells5 (HB.out.step HTk.out)
  by_cases hlt : k < h.dates.length
  ·have hx2 : (0 : Int) ≤ (h.prices.length : Int) := by omega
   go_wp2_with (at_make; refine wpl_make (z := .int .i64 0) eiInts rfl _ _ rfl rfl .i64 .i64 h.prices.length rfl rfl (by omega) (by omega) ?_)
   clear e0 e1 e2 e3 e4
   obtain ⟨V1, hV1⟩ : ∃ z9, z9 = wr.alloc (.cells (Array.replicate h.prices.length (.int .i64 0)) 3) := ⟨_, rfl⟩
   have hbs : Bx V1 wr.heap.size (haveB h W k 0 0) 3 := by subst hV1; rw [haveB_zero, ← List.toArray_replicate]; exact Bx.new' _ _ _ _ rfl
   have hS1 : Step wr V1 := by subst hV1; exact Step.alloc _ _
   rw [← hV1]
   obtain ⟨gs, hgs⟩ : ∃ g, g = wr.heap.size := ⟨_, rfl⟩
   rw [← hgs] at hbs ⊢
   have hgw : wb.heap.size ≤ gs := by rw [hgs]; exact HTk.out.size
   have HT1 := Lib.hid (HTk.out.trans hS1)
   have HBS := Lib.hid hbs
   have HGW := Lib.hid hgw
   clear hbs hS1 hV1 hgs hgw HTk
   go_upto_region 12 with (fail)
   go_loopw [10, 11, 12, 13] (fun iv _ _ _ wr => ∃ a : Nat, a ≤ W.books.length ∧ iv = .int .i64 a ∧ Bx wr gs (haveB h W k a 0) 3 ∧ Step wb wr) (fun iv _ _ _ _ => W.books.length - (intOf iv).toNat)
   case atStart => exact ⟨0, Nat.zero_le _, rfl, HBS.out, HT1.out⟩
   case round =>
    obtain ⟨a, ha, rfl, hbs, hT⟩ := hrel
    clear HBS HT1
    have HBS := Lib.hid hbs
    have HTa := Lib.hid hT
    clear hbs hT
    obtain ⟨y0, y1⟩ : _ ∧ _ := ⟨(HB3.out.step HTa.out).cell 0, (HB3.out.step HTa.out).cell 1⟩
    simp only [zD, zE] at y0 y1
    by_cases hat : a < W.books.length
    ·obtain rfl := HCB.out.1 (by omega)
     obtain ⟨z1, z2, z4, ⟨f0, f1, f2, f3, f4, f5⟩, t1, t2, t4⟩ := HCB.out.2 a hat
     have hbk := (HI.out.ok.book a hat).1
     obtain ⟨b, hb⟩ : ∃ b, b = W.books[a] := ⟨_, rfl⟩
     have hbq : bk W a = b := by rw [hb]; exact bk_at hat
     rw [← hb] at f0 f3 f5 t1 t2 t4 hbk
     obtain ⟨r1, n1, e1⟩ := t1.form
     obtain ⟨r2, n2, e2⟩ := t2.form
     obtain ⟨r5, n5, e5⟩ := t4.form
     subst e1 e2 e5
     have HBA := Lib.hid (show AV (fun _ => False) wb (.agg #[.int .i64 b.agency, .slice r1 b.seats.length n1, .slice r2 b.off.length n2, .int .i64 b.sent, .slice r5 b.took.length n5, .int .i64 b.cash]) b from ⟨_, rfl, _, _, _, rfl, t1, t2, t4⟩)
     have HBQ := Lib.hid (And.intro hbq hbk)
     have f0 := (HTa.out).kc f0; have f1 := (HTa.out).kc f1; have f2 := (HTa.out).kc f2; have f3 := (HTa.out).kc f3; have f4 := (HTa.out).kc f4; have f5 := (HTa.out).kc f5
     have hixa : (0 : Int) ≤ (a : Int) ∧ (a : Int) < (W.books.length : Int) := by omega
     obtain ⟨e0, e1, e2, e3, e4⟩ := cells5 (HB.out.step HTa.out)
     clear t1 t2 t4 hb hbq hbk
     go_upto_region 14 with (fail)
     refine wp_region_seqM (fun c d v a w h => by cases d <;> exact h) (kdOf [1, 7] []) [0, 1, 0, 4, 0, 28, 60, 127, 255, 511, 511, 1023, 4095] [0, 2, 3, 4, 5, 6, 1, 7, 8, 9, 10, 11, 12] [] (by kernel_rfl) (by kernel_rfl) (fun i T z hi hk => by simp [kdOf] at hk <;> (try (split at hk <;> cases hk))) ?_
     intro Wx hWx
     have e0 := (hWx).kc e0; have e1 := (hWx).kc e1; have e2 := (hWx).kc e2; have e3 := (hWx).kc e3; have e4 := (hWx).kc e4; have y0 := (hWx).kc y0; have f0 := (hWx).kc f0; have f1 := (hWx).kc f1; have f2 := (hWx).kc f2; have f3 := (hWx).kc f3; have f4 := (hWx).kc f4; have f5 := (hWx).kc f5
     repeat (first | (refine run_off rfl rfl (by rfl) ?_; (try simp only [Act.put, zA, zB, zC])) | (refine run_chain_off rfl rfl (by rfl) (K0_mono _) ?_; (try simp only [Act.put, zA, zB, zC])) | ((refine run_want rfl rfl (by rfl) ⟨?_, fun W hW => ?_, ?_⟩; rotate_left; (· (have d0 := hW.kc e0; have d1 := hW.kc e1; have d2 := hW.kc e2; have d3 := hW.kc e3; have d4 := hW.kc e4; have d5 := hW.kc y0; have d6 := hW.kc f0; have d7 := hW.kc f1; have d8 := hW.kc f2; have d9 := hW.kc f3; have d10 := hW.kc f4; have d11 := hW.kc f5; go_simp; (try with_reducible rfl)))); (try simp only [Act.put, zA, zB, zC])))
     clear e0 e1 e2 e3 e4 y0 y1 f0 f1 f2 f3 f4 f5
     refine run_chain rfl rfl (by rfl) (fun Wi hWi K' hK => ?_)
     have HTi := Lib.hid (hWx.trans hWi)
     clear hWx hWi
     go_simp
     refine (House_any _ h _ _ (HH.out.keep (.of_step (HTa.out.trans HTi.out))) (few_valid HV.out.1)).mono ?_
     rintro e wn ⟨vh, rfl, hvh, hSn⟩
     have HVH := Lib.hid (AV.triv hvh)
     have HTn := Lib.hid (HTi.out.trans hSn)
     clear HTi hvh
     refine hK _ _ (StepX.of hSn) ?_
     clear hSn hK
     (try simp only [Act.put, zA, zB, zC])
     repeat (first | (refine run_off rfl rfl (by rfl) ?_; (try simp only [Act.put, zA, zB, zC])) | (refine run_chain_off rfl rfl (by rfl) (K0_mono _) ?_; (try simp only [Act.put, zA, zB, zC])) | ((refine run_want rfl rfl (by rfl) ⟨?_, fun W hW => ?_, ?_⟩; rotate_left; (· (skip; go_simp; (try with_reducible rfl)))); (try simp only [Act.put, zA, zB, zC])))
     refine run_chain rfl rfl (by rfl) (fun Wi hWi K' hK => ?_)
     have HTi := Lib.hid (HTn.out.trans hWi)
     have HVHi := Lib.hid (HVH.out.keep (.of_step hWi))
     clear hWi HTn HVH
     go_simp
     refine (Counts_any _ h b _ _ _ HVHi.out (HBA.out.keep (.of_step (HTa.out.trans HTi.out)))).mono ?_
     rintro e wn2 ⟨vl, rfl, hvl, hSn⟩
     have hck : checkR h b = 0 := by unfold checkR; rw [HV.out.1, HBQ.out.2]; rfl
     have hcr : countsR h b = countsL h b := by unfold countsR; rw [if_pos hck]
     rw [hcr] at hvl
     rw [hck]
     obtain ⟨lc, hlc⟩ : ∃ L, L = countsL h b := ⟨_, rfl⟩
     have hcl : lc.length = h.dates.length := by rw [hlc]; simp [countsL]
     rw [← hlc] at hvl
     obtain ⟨p9, k9, rfl⟩ := hvl.form
     have HLC := Lib.hid hlc
     have HVL := Lib.hid (hvl.weak (T := fun q => q = gs) fun q _ e => by have h1 := HBS.out.lt; have h2 := HTi.out.size; show q < _; omega)
     have HTn := Lib.hid (HTi.out.trans hSn)
     refine hK _ _ (StepX.of hSn) ?_
     clear hSn hK HTi HVHi hvl hck hcr hlc
     (try simp only [Act.put, zA, zB, zC])
     repeat (first | (refine run_off rfl rfl (by rfl) ?_; (try simp only [Act.put, zA, zB, zC])) | (refine run_chain_off rfl rfl (by rfl) (K0_mono _) ?_; (try simp only [Act.put, zA, zB, zC])) | ((refine run_want rfl rfl (by rfl) ⟨?_, fun W hW => ?_, ?_⟩; rotate_left; (· (skip; go_simp; (try with_reducible rfl)))); (try simp only [Act.put, zA, zB, zC])))
     refine run_end (L := []) rfl (fun W6 hW6 => ?_)
     have HTx := Lib.hid (HTn.out.trans hW6)
     replace HVL := Lib.hid (HVL.out.keep (.of_step hW6))
     replace HBS := Lib.hid (HBS.out.step HTx.out)
     replace HTa := Lib.hid (HTa.out.trans HTx.out)
     clear HTn hW6 HTx
     obtain ⟨pc3, cc3, bc3, oc3, he3, _, _, hpc3, hcc3, hnc3⟩ := HVL.out.rows
     injection he3 with he31 he32 he33
     clear he32 he33
     subst he31
     obtain rfl := hpc3 (by omega)
     obtain ⟨ua, a0, a1⟩ := hcc3 k (by omega)
     have hrow : ∀ (L : List (List Count)) (hL : k < L.length), L = countsL h b → L[k] = rowC h b k (ofL h) := by intro L hL e; subst e; simp [countsL]
     have hrk := hrow lc (by omega) HLC.out
     obtain ⟨R, hR⟩ : ∃ R, R = lc[k]'(by omega) := ⟨_, rfl⟩
     rw [← hR] at a1 hrk
     have hRl : R.length = h.prices.length := by rw [hrk]; simp [rowC]
     have hRs : ∀ j (hj : j < R.length), R[j].free + R[j].sold = cntH b k (ofL h j) := by
      intro j hj; subst hrk; rw [rowC_get hj]; rfl
     obtain ⟨p3, c3, b3, o3, rfl, _, hm3, hp3, hc3, hn3⟩ := a1.counts
     have HCA := Lib.hid (And.intro hp3 hc3)
     have HRS := Lib.hid (And.intro hRl hRs)
     have HA0 := Lib.hid a0
     have HCLn := Lib.hid hcl
     have HGN := Lib.hid (And.intro (show ¬ bc3 = gs from (hnc3 (by omega)).2) (fun (hR : 0 < R.length) => (show ¬ b3 = gs from (hn3 hR).2)))
     have d1 : ((lc.length : Int) != (h.dates.length : Int)) = false := by rw [hcl]; simp
     have d2 : ((R.length : Int) != (h.prices.length : Int)) = false := by rw [hRl]; simp
     have hix : (0 : Int) ≤ (k : Int) ∧ (k : Int) < (lc.length : Int) := by omega
     obtain ⟨e0, e1, e2, e3, e4⟩ := cells5 (HB.out.step HTa.out)
     clear a1 hp3 hc3 hn3 hrow hR hrk hRl hRs hpc3 hcc3 hnc3 hcl
     go_upto_region 18 with (fail)
     clear d1 d2 a0 e0 e1 e2 e3 e4
     go_loopw [13] (fun iv wr => ∃ j : Nat, j ≤ h.prices.length ∧ iv = .int .i64 j ∧ Bx wr gs (haveB h W k a j) 3 ∧ Keeps (fun q => q = gs) W6 wr ∧ Step wb wr) (fun iv _ => h.prices.length - (intOf iv).toNat)
     case atStart => exact ⟨0, Nat.zero_le _, rfl, HBS.out, Keeps.refl _ _, HTa.out⟩
     case round =>
      obtain ⟨j, hj, rfl, hbs, hkp, hT⟩ := hrel
      clear HBS HTa
      have HBS := Lib.hid hbs
      have HKP := Lib.hid hkp
      have HTj := Lib.hid hT
      clear hbs hkp hT
      by_cases hjt : j < h.prices.length
      ·have HNX := Lib.hid (haveB_next h W k a hjt)
       obtain ⟨B0, hB0⟩ : ∃ z, z = bookS W k (ofL h j) a := ⟨_, rfl⟩
       obtain ⟨c0, hc0⟩ : ∃ z, z = cntH b k (ofL h j) := ⟨_, rfl⟩
       have sc := HBS.out.cell j
       rw [haveB_at h W k a j hjt, if_neg (by omega), ← hB0] at sc
       have sf := HBS.out.frozen j
       have hbb := bookS_small h HV.out.1 W k j (a := a) (by omega)
       have hbc := bookS_small h HV.out.1 W k j (a := a + 1) (by omega)
       rw [← hB0] at hbb
       rw [show bookS W k (ofL h j) (a + 1) = B0 + c0 by rw [hB0, hc0, ← HBQ.out.1]; rfl] at hbc
       obtain rfl := HCA.out.1 (by have := HRS.out.1; omega)
       have hjr : j < R.length := by rw [HRS.out.1]; exact hjt
       obtain ⟨n0, n1⟩ := HCA.out.2 j hjr
       have hsum := HRS.out.2 j hjr
       obtain ⟨x, hx⟩ : ∃ x, x = R[j].free := ⟨_, rfl⟩
       obtain ⟨y, hy⟩ : ∃ y, y = R[j].sold := ⟨_, rfl⟩
       rw [← hx] at n0 hsum
       rw [← hy] at n1 hsum
       rw [← hc0] at hsum
       have hg1 := HGN.out.1
       have hg2 := HGN.out.2 (by have := HRS.out.1; omega)
       have n0 := HKP.out.cell (show ¬ b3 = gs from hg2) n0
       have n1 := HKP.out.cell (show ¬ b3 = gs from hg2) n1
       have a0 := HKP.out.cell (show ¬ bc3 = gs from hg1) HA0.out
       have hw1 : IntKind.i64.wrap (x + y) = c0 := by rw [hsum, IntKind.wrap_i64]; omega
       have hw2 : IntKind.i64.wrap (B0 + c0) = B0 + c0 := by rw [IntKind.wrap_i64]; omega
       have hjx : (0 : Int) ≤ (j : Int) ∧ (j : Int) < (R.length : Int) := by omega
       have hjy : (0 : Int) ≤ (j : Int) ∧ (j : Int) < (h.prices.length : Int) := by omega
       have HE := Lib.hid (show (haveB h W k a j).set j (.int .i64 (B0 + c0)) = haveB h W k a (j + 1) by rw [hB0, hc0, ← HBQ.out.1]; exact HNX.out)
       clear hB0 hc0 hbb hbc hx hy hsum hg1 hg2 HNX
       go_upto_region 20 with (fail)
       refine wp_region_seqM (fun c d v a w h => by cases d <;> exact h) (kdOf [] []) [0, 0, 3, 7, 0, 0, 48, 112, 0, 496, 1008, 2032, 0, 0, 12288, 28672, 0, 126976, 258048, 520192, 1048560, 2097151, 4194303, 8388607] [0, 1, 2, 3, 4, 5, 6, 7, 8, 9, 10, 11, 12, 13, 14, 15, 16, 17, 18, 19, 20, 21, 22] [23] (by kernel_rfl) (by kernel_rfl) (fun i T z hi hk => by simp [kdOf] at hk <;> (try (split at hk <;> cases hk))) ?_
       intro Wx hWx
       have sc := (hWx).kc sc; have n0 := (hWx).kc n0; have n1 := (hWx).kc n1; have a0 := (hWx).kc a0
       repeat (first | (refine run_off rfl rfl (by rfl) ?_; (try simp only [Act.put, zA, zB, zC])) | (refine run_chain_off rfl rfl (by rfl) (K0_mono _) ?_; (try simp only [Act.put, zA, zB, zC])) | ((refine run_want rfl rfl (by rfl) ⟨?_, fun W hW => ?_, ?_⟩; rotate_left; (· (have d0 := hW.kc sc; have d1 := hW.kc n0; have d2 := hW.kc n1; have d3 := hW.kc a0; go_simp; (try with_reducible rfl)))); (try simp only [Act.put, zA, zB, zC])))
       clear sc n0 n1 a0 hw1 hw2 hjx hjy
       refine run_end (L := [_]) rfl (fun Wy hWy => ?_)
       have hbq := HBS.out.step (hWx.trans hWy)
       have hl : (haveB h W k a j).length = h.prices.length := haveB_len h W k a j
       refine wpl_store (v := .int .i64 (B0 + c0)) rfl _ _ _ rfl rfl rfl hbq (by kernel_rfl) (by simp [Value.cells, hl]; omega) (by simp [Value.cells, Value.oneCell']) ((haveB h W k a j).set j (.int .i64 (B0 + c0))) (by rw [List.set_eq_take_append_cons_drop]; simp [Value.cells, hl, hjt]) (fun w8 hb8 hw8 => ?_)
       rw [HE.out] at hb8
       have hk8 : Keeps (fun q => q = gs) W6 w8 := (HKP.out.trans (.of_step (hWx.trans hWy))).trans (.wrote hw8 rfl)
       have hs8 : Step wb w8 := Step.wrote (HTj.out.trans (hWx.trans hWy)) hw8 HGW.out
       have HB8 := Lib.hid hb8
       have HK8 := Lib.hid hk8
       have HS8 := Lib.hid hs8
       clear hbq hl hb8 hw8 hk8 hs8 hWx hWy
       go_wp2
       go_roundw
       case rel => exact ⟨j + 1, by omega, by go_num, HB8.out, HK8.out, HS8.out⟩
       case measure => simp [intOf]; omega
      ·have HE := Lib.hid (show haveB h W k a j = haveB h W k (a + 1) 0 by rw [show j = h.prices.length by omega]; exact haveB_end h W k a)
       have hbs := HBS.out
       rw [HE.out] at hbs
       go_wp2
       go_roundw
       case rel => exact ⟨a + 1, by omega, by go_num, hbs, HTj.out⟩
       case measure => simp [intOf]; omega
    ·have hbs := HBS.out
     rw [show a = W.books.length by omega, haveB_all] at hbs
     have HBT := Lib.hid hbs
     clear HBS hbs
     go_upto_region 22 with (fail)
     clear y0 y1
     generalize wr = wo at *
     go_loopw [14, 15, 16, 17] (fun iv _ _ _ wr => ∃ i : Nat, i ≤ nz ∧ iv = .int .i64 i ∧ Bx wr gs (haveS h W k i) 3 ∧ Keeps (fun q => q = gs) wo wr ∧ Step wb wr) (fun iv _ _ _ _ => nz - (intOf iv).toNat)
     case atStart => exact ⟨0, Nat.zero_le _, rfl, HBT.out, Keeps.refl _ _, HTa.out⟩
     case round =>
      obtain ⟨i, hi, rfl, hbs, hkp, hT⟩ := hrel
      have HBS := Lib.hid hbs
      have HKP := Lib.hid hkp
      have HTi0 := Lib.hid hT
      clear hbs hkp hT
      by_cases hit : i < nz
      ·obtain ⟨A, M, hw1, hw2, hw3⟩ := way_where HV.out.1 HI.out (s := k) (i := i) hlt (by have := HNZ.out; omega)
       have HWA := Lib.hid (And.intro hw1 (And.intro hw2 hw3))
       clear hw1 hw2 hw3
       obtain ⟨e0, e1, e2, e3, e4⟩ := cells5 (HB.out.step HTi0.out)
       obtain ⟨y0, y1⟩ : _ ∧ _ := ⟨(HB3.out.step HTi0.out).cell 0, (HB3.out.step HTi0.out).cell 1⟩
       simp only [zD, zE] at y0 y1
       go_upto_region 24 with (fail)
       refine wp_region_seqM (fun c d v a w h => by cases d <;> exact h) (kdOf [1, 5] []) [0, 1, 0, 0, 0, 31, 63, 127, 127, 127, 255, 1535, 4095] [0, 2, 3, 4, 1, 5, 6, 7, 8, 9, 10, 11, 12] [] (by kernel_rfl) (by kernel_rfl) (fun i T z hi hk => by simp [kdOf] at hk <;> (try (split at hk <;> cases hk))) ?_
       intro Wx hWx
       have e0 := (hWx).kc e0; have e1 := (hWx).kc e1; have e2 := (hWx).kc e2; have e3 := (hWx).kc e3; have e4 := (hWx).kc e4; have y0 := (hWx).kc y0; have y1 := (hWx).kc y1
       repeat (first | (refine run_off rfl rfl (by rfl) ?_; (try simp only [Act.put, zA, zB, zC])) | (refine run_chain_off rfl rfl (by rfl) (K0_mono _) ?_; (try simp only [Act.put, zA, zB, zC])) | ((refine run_want rfl rfl (by rfl) ⟨?_, fun W hW => ?_, ?_⟩; rotate_left; (· (have d0 := hW.kc e0; have d1 := hW.kc e1; have d2 := hW.kc e2; have d3 := hW.kc e3; have d4 := hW.kc e4; have d5 := hW.kc y0; have d6 := hW.kc y1; go_simp; (try with_reducible rfl)))); (try simp only [Act.put, zA, zB, zC])))
       clear e0 e1 e2 e3 e4 y0 y1
       refine run_chain rfl rfl (by rfl) (fun Wi hWi K' hK => ?_)
       have HTi := Lib.hid (hWx.trans hWi)
       clear hWx hWi
       go_simp
       refine (House_any _ h _ _ (HH.out.keep (.of_step (HTi0.out.trans HTi.out))) (few_valid HV.out.1)).mono ?_
       rintro e wn ⟨vh, rfl, hvh, hSn⟩
       have HVH := Lib.hid (AV.triv hvh)
       have HTn := Lib.hid (HTi.out.trans hSn)
       clear HTi hvh
       refine hK _ _ (StepX.of hSn) ?_
       clear hSn hK
       (try simp only [Act.put, zA, zB, zC])
       repeat (first | (refine run_off rfl rfl (by rfl) ?_; (try simp only [Act.put, zA, zB, zC])) | (refine run_chain_off rfl rfl (by rfl) (K0_mono _) ?_; (try simp only [Act.put, zA, zB, zC])) | ((refine run_want rfl rfl (by rfl) ⟨?_, fun W hW => ?_, ?_⟩; rotate_left; (· (skip; go_simp; (try with_reducible rfl)))); (try simp only [Act.put, zA, zB, zC])))
       refine run_chain rfl rfl (by rfl) (fun Wi hWi K' hK => ?_)
       have HTi := Lib.hid (HTn.out.trans hWi)
       have HVHi := Lib.hid (HVH.out.keep (.of_step hWi))
       clear hWi HTn HVH
       go_simp
       refine (Where_any _ _ h W k i _ _ _ HVHi.out (HVW.out.keep (.of_step (HTi0.out.trans HTi.out))) HML.out).mono ?_
       rintro e wn2 ⟨rfl, hSn⟩
       rw [HWA.out.1]
       have HTn := Lib.hid (HTi.out.trans hSn)
       refine hK _ _ (StepX.of hSn) ?_
       clear hSn hK HTi HVHi
       (try simp only [Act.put, zA, zB, zC])
       repeat (first | (refine run_off rfl rfl (by rfl) ?_; (try simp only [Act.put, zA, zB, zC])) | (refine run_chain_off rfl rfl (by rfl) (K0_mono _) ?_; (try simp only [Act.put, zA, zB, zC])) | ((refine run_want rfl rfl (by rfl) ⟨?_, fun W hW => ?_, ?_⟩; rotate_left; (· (skip; go_simp; (try with_reducible rfl)))); (try simp only [Act.put, zA, zB, zC])))
       refine run_end (L := []) rfl (fun W6 hW6 => ?_)
       have HTx := Lib.hid (HTn.out.trans hW6)
       replace HBS := Lib.hid (HBS.out.step HTx.out)
       replace HTi0 := Lib.hid (HTi0.out.trans HTx.out)
       replace HKP := Lib.hid (HKP.out.trans (.of_step HTx.out))
       clear HTn hW6 HTx
       have hic : i < C.length := by rw [HC.out.2.2.1]; exact hit
       have gc0 := HTi0.out.kc (HCC.out i hic)
       have hcl := HC.out.2.2.2 i hic
       obtain ⟨ci, hci⟩ : ∃ z, z = C[i] := ⟨_, rfl⟩
       rw [← hci] at gc0 hcl
       have hcw := hcl.2
       rw [← hcl.1] at hcw
       simp only [withinB, decide_eq_true_eq] at hcw
       obtain ⟨c, rfl⟩ : ∃ c : Nat, ci = c := ⟨ci.toNat, by omega⟩
       have hcp : c < h.prices.length := by omega
       have HNX := Lib.hid (haveS_next h W k hcp hcl.1.symm)
       have sc := HBS.out.cell c
       rw [haveS_at h W k i hcp] at sc
       have sf := HBS.out.frozen c
       have hbb := bookS_small h HV.out.1 W k c hb6
       have hbw := wayS_bound h W k c i
       have hwn := wayN_bound W k i
       obtain ⟨V, hV⟩ : ∃ z, z = bookS W k (ofL h c) W.books.length + wayS h W k c i := ⟨_, rfl⟩
       rw [← hV] at sc
       have HVV := Lib.hid hV
       have hvb : -1000 ≤ V ∧ V ≤ 2000 := by omega
       have hixc : (0 : Int) ≤ (c : Int) ∧ (c : Int) < (h.prices.length : Int) := by omega
       have hixi : (0 : Int) ≤ (i : Int) ∧ (i : Int) < (nz : Int) := by omega
       obtain rfl := HC.out.1 (by omega)
       have hpl : (haveS h W k i).length = h.prices.length := haveS_len h W k i
       have HPL := Lib.hid hpl
       clear hci hcl hcw hbb hbw hwn hV hpl
       have hbc0 : bc < wb.heap.size := World.block_lt_of_cell? wb _ (HCC.out i hic)
       have hbcg : ¬ bc = gs := by have := HGW.out; omega
       have hbcg2 : ¬ gs = bc := fun e => hbcg e.symm
       by_cases hA : A < 0
       ·obtain ⟨hM, hwy⟩ := HWA.out.2.1 hA
        have d1 : decide (A < 0) = true := decide_eq_true hA
        have d2 : decide ((0 : Int) ≤ M) = true := decide_eq_true hM
        have HE := Lib.hid (show ((haveS h W k i).set c (.int .i64 (V + 1))).set c (.int .i64 V) = haveS h W k (i + 1) by
         rw [List.set_set, ← HNX.out, hwy, ← HVV.out]; congr 2; omega)
        have hw1 : IntKind.i64.wrap (V + 1) = V + 1 := by rw [IntKind.wrap_i64]; omega
        clear hA hM hwy
        go_upto_region 29 with (fail)
        clear d1 d2 hw1 sc sf
        obtain ⟨W8, hW8⟩ : ∃ z9, z9 = W6.setCell ⟨gs, c, none⟩ (.int .i64 (V + 1)) := ⟨_, rfl⟩
        have hb8 := HBS.out.setCell c (.int .i64 (V + 1))
        have hg8 := (Keeps.wrote (S := fun q => q = gs) (Wrote.setCell W6 gs c (.int .i64 (V + 1))) rfl).cell (show ¬ bc = gs from hbcg) gc0
        have hS8 := HTi0.out.setNew ⟨gs, c, none⟩ (.int .i64 (V + 1)) HGW.out
        have hK8 := HKP.out.trans (Keeps.wrote (S := fun q => q = gs) (Wrote.setCell W6 gs c (.int .i64 (V + 1))) rfl)
        rw [← hW8] at hb8 hg8 hS8 hK8 ⊢
        have HB8 := Lib.hid hb8
        have HS8 := Lib.hid hS8
        have HK8 := Lib.hid hK8
        have sc := hb8.cell c
        rw [List.getElem?_set_self (by rw [HPL.out]; omega)] at sc
        have sf := hb8.frozen c
        have hw2 : IntKind.i64.wrap (V + 1 - 1) = V := by rw [IntKind.wrap_i64]; omega
        clear hW8 hb8 hS8 hK8 gc0
        go_wp2
        go_roundw
        case rel => exact ⟨i + 1, by omega, by go_num, by rw [← HE.out]; exact HB8.out.setCell c _, HK8.out.trans (Keeps.wrote (S := fun q => q = gs) (Wrote.setCell _ gs c _) rfl), HS8.out.setNew ⟨gs, c, none⟩ _ HGW.out⟩
        case measure => simp [intOf]; omega
       ·have hwy := HWA.out.2.2 hA
        have d1 : decide (A < 0) = false := decide_eq_false hA
        have HE := Lib.hid (show (haveS h W k i).set c (.int .i64 (V - 1)) = haveS h W k (i + 1) by
         rw [← HNX.out, hwy, ← HVV.out]; congr 2; omega)
        have hw2 : IntKind.i64.wrap (V - 1) = V - 1 := by rw [IntKind.wrap_i64]; omega
        clear hA hwy
        go_wp2
        go_roundw
        case rel => exact ⟨i + 1, by omega, by go_num, by rw [← HE.out]; exact HBS.out.setCell c _, HKP.out.trans (Keeps.wrote (S := fun q => q = gs) (Wrote.setCell _ gs c _) rfl), HTi0.out.setNew ⟨gs, c, none⟩ _ HGW.out⟩
        case measure => simp [intOf]; omega
      ·have hbs := HBS.out
       rw [show i = (sizeL h.sectors).toNat by rw [HNZ.out]; simp; omega] at hbs
       have HBF := Lib.hid hbs
       clear HBS hbs
       go_upto_region 31 with (fail)
       generalize wr = wq at *
       go_loopw [18] (fun iv wr => ∃ c : Nat, c ≤ h.prices.length ∧ iv = .int .i64 c ∧ wr = wq) (fun iv _ => h.prices.length - (intOf iv).toNat)
       case atStart => exact ⟨0, Nat.zero_le _, rfl, rfl⟩
       case round =>
        obtain ⟨c, hc, rfl, hwq⟩ := hrel
        subst hwq
        by_cases hct : c < h.prices.length
        ·have sc := HBF.out.cell c
         rw [haveS_full HV.out.1 HI.out hlt hct] at sc
         have hixc : (0 : Int) ≤ (c : Int) ∧ (c : Int) < (h.prices.length : Int) := by omega
         go_wp2
         go_roundw
         case rel => exact ⟨c + 1, by omega, by go_num, by first | trivial | rfl⟩
         case measure => simp [intOf]; omega
        ·go_wp2
         go_roundw
         case rel => exact ⟨k + 1, by omega, by go_num, HTi0.out⟩
         case measure => simp [intOf]; omega
  ·go_upto_region 35 with (fail)
   have HT := HTk
   go_wp2_with fail
   refine (awake_any _).mono ?_
   rintro e wz ⟨rfl, hSz⟩
   go_wp2
   go_ret
   exact ⟨rfl, HS.out.trans (HT.out.trans hSz)⟩
end Go.Proofs.YtgpiieogiafdoaaGreat
