/- Counts: cells of rows, the reference's Counts, marks of ranges over functions within loops, the program's Counts. -/
import Derived.Test.YtbgfmikbhiblgaaMc
import Derived.Test.YtbgfmikbhiblgaaMe
import Derived.Test.YtbgfmikbhiblgaaMf
import Derived.Test.YtbgfmikbhiblgaaMy
import Derived.Test.YtbgfmikbhiblgaaRows
import Derived.RangeFuncCalls
import Derived.RangeFuncLeaves
/- Counts: a row of counts in memory; the counts of a book. -/
namespace Go.Proofs.Ytbgfmikbhiblgaa
set_option linter.unusedSimpArgs false
set_option linter.unusedVariables false
open Go.RowKit Go.BT

/-- The cells of a row of counts. -/
def cellsC (l : List Count) : List Value := l.flatMap fun c => [.int .i64 c.free, .int .i64 c.sold]
theorem cellsC_cons (c : Count) (l : List Count) : cellsC (c :: l) = .int .i64 c.free :: .int .i64 c.sold :: cellsC l := rfl
theorem cellsC_len : ∀ l : List Count, (cellsC l).length = l.length * 2
  | [] => rfl
  | c :: l => by rw [cellsC_cons, List.length_cons, List.length_cons, cellsC_len l, List.length_cons]; omega
theorem cellsC_drop : ∀ (l : List Count) (i : Nat) (hi : i < l.length), (cellsC l).drop (i * 2) = .int .i64 l[i].free :: .int .i64 l[i].sold :: cellsC (l.drop (i + 1))
  | [], i, hi => by simp at hi
  | c :: l, 0, _ => by simp [cellsC_cons]
  | c :: l, i + 1, hi => by
    rw [cellsC_cons, show (i + 1) * 2 = i * 2 + 1 + 1 by omega, List.drop_succ_cons, List.drop_succ_cons, cellsC_drop l i (by simpa using hi)]
    simp
theorem cellsC_get0 {l : List Count} {i : Nat} (hi : i < l.length) : (cellsC l)[i * 2]? = some (.int .i64 l[i].free) := by
  have := cellsC_drop l i hi
  rw [← List.head?_drop, this]; rfl
theorem cellsC_get1 {l : List Count} {i : Nat} (hi : i < l.length) : (cellsC l)[i * 2 + 1]? = some (.int .i64 l[i].sold) := by
  have := cellsC_drop l i hi
  rw [show (cellsC l)[i * 2 + 1]? = ((cellsC l).drop (i * 2))[1]? by rw [List.getElem?_drop], this]; rfl
theorem cellsC_set0 : ∀ (l : List Count) (i : Nat) (hi : i < l.length) (x : Int), (cellsC l).set (i * 2) (.int .i64 x) = cellsC (l.set i ⟨x, l[i].sold⟩)
  | [], i, hi, _ => by simp at hi
  | c :: l, 0, _, x => by simp [cellsC_cons]
  | c :: l, i + 1, hi, x => by
    rw [cellsC_cons, show (i + 1) * 2 = i * 2 + 1 + 1 by omega, List.set_cons_succ, List.set_cons_succ, cellsC_set0 l i (by simpa using hi) x, List.set_cons_succ, cellsC_cons]
    simp
theorem cellsC_set1 : ∀ (l : List Count) (i : Nat) (hi : i < l.length) (x : Int), (cellsC l).set (i * 2 + 1) (.int .i64 x) = cellsC (l.set i ⟨l[i].free, x⟩)
  | [], i, hi, _ => by simp at hi
  | c :: l, 0, _, x => by simp [cellsC_cons]
  | c :: l, i + 1, hi, x => by
    rw [cellsC_cons, show (i + 1) * 2 + 1 = (i * 2 + 1) + 1 + 1 by omega, List.set_cons_succ, List.set_cons_succ, cellsC_set1 l i (by simpa using hi) x, List.set_cons_succ, cellsC_cons]
    simp
theorem cellsC_zero : ∀ n, cellsC (List.replicate n ⟨0, 0⟩) = List.replicate (n * 2) (.int .i64 0)
  | 0 => rfl
  | n + 1 => by rw [List.replicate_succ, cellsC_cons, cellsC_zero n, show (n + 1) * 2 = n * 2 + 1 + 1 by omega, List.replicate_succ, List.replicate_succ]
theorem madeCells_count (n : Nat) : madeCells (Value.agg #[.int .i64 0, .int .i64 0]).cells (n * 2) = (cellsC (List.replicate n ⟨0, 0⟩)).toArray := by
  rw [cellsC_zero]
  apply Array.ext
  · simp [size_madeCells]
  · intro i h1 h2
    have h3 : i % 2 = 0 ∨ i % 2 = 1 := by omega
    rcases h3 with h3 | h3 <;> simp [madeCells, Value.cells, h3]
theorem _root_.Go.BT.SL.bx_counts {S : Nat → Prop} {w : World} {g : Nat} {T : TypeId} {l : List Count} (h : Bx w g (cellsC l) T) (hs : ¬ S g) (c : Nat) (hc : l.length ≤ c) (hm : l.length ≤ 9223372036854775807) : SL S w (.slice (some ⟨g, 0, none⟩) l.length c) l := by
  refine SL.bx h hs c hc hm fun i hi => ?_
  show ((cellsC l).drop (i * 2)).take 2 = [_, _]
  rw [cellsC_drop l i hi]
  rfl
/-- make([]Count, n). -/
theorem wpl_make2 {P : Program} {w : World} {ops : Array Oper} {rest : List Oper} {o : Oper} {a : Act} {Q : Exit → Act → World → Prop} {t e : TypeId} {bytes : Nat} (ei : EI P t e (.agg #[.int .i64 0, .int .i64 0]) 2 bytes) (hg : o.guard = none) (l c : Operand) (hop : o.op = Op.makeSlice t l c)
    (kl kc : IntKind) (n : Nat) (hl : a.eval l = .int kl n) (hc : a.eval c = .int kc n) (hn : n ≤ 9223372036854775807) (hb : bytes * n ≤ 281474976710656)
    (hK : wpList P ops Q rest (a.put o.dst (.slice (some ⟨w.heap.size, 0, none⟩) n n)) (w.alloc (.cells (cellsC (List.replicate n ⟨0, 0⟩)).toArray e))) : wpList P ops Q (o :: rest) a w := by
  obtain ⟨h1, _, i, hi, h2, h3, h4⟩ := ei
  refine wpList_plain hg fun K hK' => ?_
  subst h4
  have hb' : (i.bytes : Int) * (n : Int) ≤ 281474976710656 := by
    have h : ((i.bytes * n : Nat) : Int) ≤ 281474976710656 := by omega
    rwa [Int.natCast_mul] at h
  have hr := run_make (P := P) w t e i _ h1 hi h2 kl kc n n (by omega) (Int.le_refl _) hb' (by omega)
  simp only [Int.toNat_natCast, h3, madeCells_count n] at hr
  unfold Oper.wp
  simp [execOp, hop, hl, hc, hr, Result.andThen]
  exact hK' _ _ hK

def cntW (b : Book) (s : Int) (p : Int → Bool) (l : List Nat) : Int := ((l.filter fun (k : Nat) => p (seatAt b s k)).length : Int)
def isF (x : Int) : Bool := decide (x = 0)
def isS (x : Int) : Bool := decide (0 < x)
def rowC (h : House) (b : Book) (s : Int) (L : Int → List Nat) : List Count := (List.range h.prices.length).map fun (c : Nat) => ⟨cntW b s isF (L c), cntW b s isS (L c)⟩
def countsL (h : House) (b : Book) : List (List Count) := (List.range h.dates.length).map fun (s : Nat) => rowC h b s (ofL h)
theorem cntW_bound (b : Book) (s : Int) (p : Int → Bool) (l : List Nat) : 0 ≤ cntW b s p l ∧ cntW b s p l ≤ l.length := by
  unfold cntW
  have := List.length_filter_le (fun (k : Nat) => p (seatAt b s k)) l
  omega
theorem cntW_snoc (b : Book) (s : Int) (p : Int → Bool) (l : List Nat) (k : Nat) : cntW b s p (l ++ [k]) = cntW b s p l + if p (seatAt b s k) = true then 1 else 0 := by
  unfold cntW
  rw [List.filter_append, List.length_append]
  by_cases q : p (seatAt b s k) = true <;> simp [q]
theorem rowC_len (h : House) (b : Book) (s : Int) (L : Int → List Nat) : (rowC h b s L).length = h.prices.length := by simp [rowC]
theorem rowC_get {h : House} {b : Book} {s : Int} {L : Int → List Nat} {c : Nat} (hc : c < (rowC h b s L).length) : (rowC h b s L)[c] = ⟨cntW b s isF (L c), cntW b s isS (L c)⟩ := by simp [rowC]
theorem rowC_zero (h : House) (b : Book) (s : Int) : rowC h b s (fun c => ofB h c 0) = List.replicate h.prices.length ⟨0, 0⟩ := by
  apply List.ext_getElem
  · simp [rowC]
  · intro i h1 h2
    rw [rowC_get, List.getElem_replicate]
    rfl
theorem rowC_step {h : House} {b : Book} {s : Int} {k c : Nat} (hk : classL h.sectors k = (c : Int)) (hc : c < h.prices.length) :
    (rowC h b s (fun c => ofB h c k)).set c ⟨cntW b s isF (ofB h c k) + (if isF (seatAt b s k) = true then 1 else 0), cntW b s isS (ofB h c k) + (if isS (seatAt b s k) = true then 1 else 0)⟩ = rowC h b s (fun c => ofB h c (k + 1)) := by
  apply List.ext_getElem
  · simp [rowC]
  · intro i h1 h2
    rw [List.getElem_set, rowC_get]
    split
    · next he =>
      subst he
      rw [rowC_get, ofB_hit hk, cntW_snoc, cntW_snoc]
    · next hne =>
      rw [rowC_get, ofB_miss (h := h) (c := (i : Int)) (k := k) (by rw [hk]; omega)]
theorem rowC_keep {h : House} {b : Book} {s : Int} {k : Nat} (h1 : isF (seatAt b s k) = false) (h2 : isS (seatAt b s k) = false) : rowC h b s (fun c => ofB h c (k + 1)) = rowC h b s (fun c => ofB h c k) := by
  apply List.ext_getElem
  · simp [rowC]
  · intro i h3 h4
    rw [rowC_get, rowC_get]
    by_cases q : classL h.sectors k = (i : Int)
    · rw [ofB_hit q, cntW_snoc, cntW_snoc, h1, h2]; simp
    · rw [ofB_miss q]
end Go.Proofs.Ytbgfmikbhiblgaa
/- Walks: the reference's Counts. -/
namespace Go.Proofs.Ytbgfmikbhiblgaa
set_option linter.unusedSimpArgs false
set_option linter.unusedVariables false
open Go.RowKit Go.BT

theorem infoRefCount : (Try.prog.info? 96).map (fun i => (i.zero, i.size, i.bytes)) = some (some (.agg #[.int .i64 0, .int .i64 0]), 2, 16) := by kernel_rfl
theorem eiRefCount : EI Try.prog 93 96 (.agg #[.int .i64 0, .int .i64 0]) 2 16 := .mk' Try.underlying93 infoRefCount rfl
theorem infoRefCounts : (Try.prog.info? 93).map (fun i => (i.zero, i.size, i.bytes)) = some (some (.slice none 0 0), 1, 24) := by kernel_rfl
theorem eiRefCounts : EI Try.prog 90 93 (.slice none 0 0) 1 24 := .mk' Try.underlying90 infoRefCounts rfl
theorem rowC_free {h : House} {b : Book} {s : Int} {k c : Nat} (hk : classL h.sectors k = (c : Int)) (hc : c < h.prices.length) (hf : seatAt b s k = 0) :
    (cellsC (rowC h b s (fun c => ofB h c k))).set (c * 2) (.int .i64 (cntW b s isF (ofB h c k) + 1)) = cellsC (rowC h b s (fun c => ofB h c (k + 1))) := by
  rw [cellsC_set0 _ c (by rw [rowC_len]; exact hc), ← rowC_step hk hc, rowC_get, hf]
  simp [isF, isS]
theorem rowC_sold {h : House} {b : Book} {s : Int} {k c : Nat} (hk : classL h.sectors k = (c : Int)) (hc : c < h.prices.length) (hf : 0 < seatAt b s k) :
    (cellsC (rowC h b s (fun c => ofB h c k))).set (c * 2 + 1) (.int .i64 (cntW b s isS (ofB h c k) + 1)) = cellsC (rowC h b s (fun c => ofB h c (k + 1))) := by
  rw [cellsC_set1 _ c (by rw [rowC_len]; exact hc), ← rowC_step hk hc, rowC_get]
  have h1 : isF (seatAt b s k) = false := by unfold isF; rw [decide_eq_false_iff_not]; omega
  have h2 : isS (seatAt b s k) = true := by unfold isS; rw [decide_eq_true_eq]; exact hf
  rw [h1, h2]
  simp
set_option maxRecDepth 100000 in
set_option maxHeartbeats 8000000 in
theorem RCounts_any (S : Nat → Prop) (h : House) (b : Book) (v u : Value) (w : World) (hv : AV S w v h) (hu : AV S w u b) (hok : valid h = true) (hbk : bookB h b = true) :
    Calls Try.prog 44 #[v, u] w fun e w' => ∃ v', e = .returned v' ∧ SL (Old w) w' v' (countsL h b) ∧ Step w w' := by
  obtain ⟨hO, hcash, hc0, hthin⟩ := okDesk_book hok hbk
  obtain ⟨z, hz⟩ : ∃ z : Nat, sizeL h.sectors = z := ⟨(sizeL h.sectors).toNat, by have := size_pos hok; omega⟩
  have hbv := bounds_valid hok
  have hz100 : z ≤ 100 := by omega
  have hz0 : 0 < z := by have := size_pos hok; omega
  have hsec := okSec_valid hok
  have hsn : ∀ j (hj : j < h.sectors.length), 0 ≤ h.sectors[j].seats := fun j hj => (hsec.2 j hj).1
  have hcl : (classesL h.sectors).length = z := by have := classesL_len hsn; omega
  have hpl : h.prices.length ≤ 5 := by have := (valid_parts hok).pri; simp [withinB] at this; omega
  have hsl : b.seats.length = h.dates.length := hO.2.2.1
  have HSL := Lib.hid hsl
  have hn1 : 1 ≤ h.dates.length ∧ h.dates.length ≤ 6 := by omega
  have hcls : ∀ k, k < z → ∃ c : Nat, classL h.sectors k = c ∧ c < h.prices.length := fun k hk => by
    obtain ⟨kc, hkc, hkl, _⟩ := class_valid hok (n := (k : Int)) (by omega) (by omega)
    exact ⟨kc, hkc, hkl⟩
  have HCLS := Lib.hid hcls
  obtain ⟨cs, rfl, hr0⟩ := hv
  have hr := hr0
  obtain ⟨c0, c1, c2, c3, c4, rfl, h0, h1, h2, h3, h4⟩ := hr
  obtain ⟨p0, k0, rfl⟩ := h0.form
  obtain ⟨p1, k1, rfl⟩ := h1.form
  obtain ⟨p2, k2, rfl⟩ := h2.form
  obtain ⟨p3, k3, rfl⟩ := h3.form
  obtain ⟨p4, k4, rfl⟩ := h4.form
  obtain ⟨cs, rfl, hq0⟩ := hu
  have hq := hq0
  obtain ⟨d1, d2, d4, rfl, s1, s2, s4⟩ := hq
  obtain ⟨q1, m1, bs, os, rfl, _, _, hp1, hc1, _⟩ := s1.rows
  obtain ⟨q2, m2, rfl⟩ := s2.form
  obtain ⟨q4, m4, rfl⟩ := s4.form
  obtain ⟨W2, hW2⟩ : ∃ W2, W2 = (w.alloc (.cells #[.slice p0 h.sectors.length k0, .slice p1 h.prices.length k1, .slice p2 h.dates.length k2, .slice p3 h.frm.length k3, .slice p4 h.holds.length k4] 26)).alloc (.cells #[.int .i64 b.agency, .slice q1 b.seats.length m1, .slice q2 b.off.length m2, .int .i64 b.sent, .slice q4 b.took.length m4, .int .i64 b.cash] 30) := ⟨_, rfl⟩
  have hbx : Bx W2 w.heap.size [.slice p0 h.sectors.length k0, .slice p1 h.prices.length k1, .slice p2 h.dates.length k2, .slice p3 h.frm.length k3, .slice p4 h.holds.length k4] 26 := by subst hW2; exact (Bx.new _ _ _).alloc _
  have hb2 : Bx W2 (w.heap.size + 1) [.int .i64 b.agency, .slice q1 b.seats.length m1, .slice q2 b.off.length m2, .int .i64 b.sent, .slice q4 b.took.length m4, .int .i64 b.cash] 30 := by subst hW2; exact Bx.new' _ _ _ _ (by simp)
  have hS : Step w W2 := by subst hW2; exact (by repeat (first | (with_reducible assumption) | (with_reducible exact Step.refl _) | (with_reducible apply Step.s_alloc) | (with_reducible apply Step.s_drew) | (with_reducible apply Step.s_drewN) | (with_reducible refine Step.trans ?_ (by with_reducible assumption))))
  have HB1 := Lib.hid hbx
  have HB2 := Lib.hid hb2
  have HR := Lib.hid (Rep.keep (.of_step hS) hr0)
  have HQ := Lib.hid (Rep.keep (.of_step hS) hq0)
  have HS := Lib.hid hS
  have HT := Lib.hid (Step.refl W2)
  have HW := Lib.hid hW2
  have HP1 := Lib.hid (And.intro hp1 hc1)
  clear hp1 hc1 hr0 hq0 h0 h1 h2 h3 h4 s1 s2 s4 hbx hb2 hS hW2
  have HO := Lib.hid hO
  have HZ := Lib.hid hz
  have HSN := Lib.hid hsn
  have HCL := Lib.hid hcl
  have hz2 : W2.heap.size = w.heap.size + 2 := by rw [HW.out]; simp
  have HZ2 := Lib.hid hz2
  have hcc := Lib.hid (Classes_any S h _ W2 ⟨_, rfl, HR.out⟩ hsec)
  obtain rfl := HP1.out.1 (by omega)
  clear hO hcash hc0 hthin hz hbv hsec hsn hcl hz2 hsl hcls
  go_enter Try.func44, Try.ntmps44
  go_wp2_with fail
  rw [← HW.out]
  refine hcc.out.mono ?_
  rintro e wc ⟨vc, rfl, hvc, hSc⟩
  obtain ⟨pc, cc, bc, oc, rfl, _, _, hpc, hccell, _⟩ := hvc.ints
  obtain rfl := hpc (by rw [HCL.out]; exact hz0)
  rw [HCL.out]
  have HCC := Lib.hid (show ∀ k (hk : k < z), wc.cell? ⟨bc, oc + k, none⟩ = some (.int .i64 (classL h.sectors k)) from fun k hk => by
    rw [hccell k (by rw [HCL.out]; exact hk), classesL_get HSN.out])
  have HSC := Lib.hid hSc
  clear hcc hvc hpc hccell hSc
  go_wp2_with fail
  go_loopw [5, 7] (fun out idx wr => ∃ s : Nat, s ≤ h.dates.length ∧ idx = .int .i64 s ∧ OwnL (Old wc) wc.heap.size 93 wr out ((countsL h b).take s) ∧ Below wc.heap.size wc wr) (fun _ idx _ => h.dates.length - (intOf idx).toNat)
  case atStart => exact ⟨0, Nat.zero_le _, rfl, OwnL.nil _ _ _ _, Below.refl _ _⟩
  case round =>
    obtain ⟨s, hs, rfl, hown, hB⟩ := hrel
    clear HT
    obtain ⟨wo, hwo⟩ : ∃ W, W = wr := ⟨_, rfl⟩
    subst hwo
    have HT := Lib.hid (HSC.out.trans (Step.of hB))
    obtain ⟨LL, hLL⟩ : ∃ L, L = (countsL h b).take s := ⟨_, rfl⟩
    rw [← hLL] at hown
    have HLL := Lib.hid hLL
    clear hLL
    have HO2 := Lib.hid hown
    have HBL := Lib.hid hB
    obtain ⟨pu, cu, rfl, _⟩ := hown.form
    clear hown hB
    obtain ⟨e0, e1, e2, e3, e4⟩ := cells5 (HB1.out.step HT.out)
    have hkl : (countsL h b).length = h.dates.length := by simp [countsL]
    have HKL := Lib.hid hkl
    clear hkl
    by_cases hlt : s < h.dates.length
    · have his : s < b.seats.length := by have := HSL.out; omega
      have hrow : b.seats[s].length = z := by have := HO.out.2.2.2.1 s his; have := HZ.out; omega
      obtain ⟨ur, hr1, hr2⟩ := HP1.out.2 s his
      obtain ⟨pr, cr, br, orr, rfl, _, _, hpr, hcr, _⟩ := hr2.ints
      obtain rfl := hpr (by rw [hrow]; exact hz0)
      have hcr2 : ∀ j, j < z → w.cell? ⟨br, orr + j, none⟩ = some (.int .i64 (seatAt b s j)) := fun j hjz => by
        rw [hcr j (by rw [hrow]; exact hjz)]
        simp [seatAt, List.getD_eq_getElem?_getD, his, show j < b.seats[s].length by rw [hrow]; exact hjz]
      rw [hrow] at hr1
      have HROW := Lib.hid (And.intro hr1 hcr2)
      have hx2 : (0 : Int) ≤ (s : Int) ∧ (s : Int) < (b.seats.length : Int) := by omega
      clear hrow hr1 hr2 hpr hcr hcr2
      go_wp2_with (at_make; refine wpl_make2 eiRefCount rfl _ _ rfl .i64 .i64 h.prices.length rfl rfl (by omega) (by omega) ?_)
      clear e0 e1 e2 e3 e4
      go_loopw [9] (fun idx wi => ∃ k : Nat, k ≤ z ∧ idx = .int .i64 k ∧ Bx wi wo.heap.size (cellsC (rowC h b s (fun c => ofB h c k))) 96 ∧ Step wo wi) (fun idx _ => z - (intOf idx).toNat)
      case atStart => exact ⟨0, Nat.zero_le _, rfl, by rw [rowC_zero]; exact Bx.new _ _ _, Step.alloc _ _⟩
      case round =>
        obtain ⟨k, hk, rfl, hbx, hS⟩ := hrel
        have HSI := Lib.hid hS
        have HBX := Lib.hid hbx
        clear hS
        by_cases hltk : k < z
        · obtain ⟨c, hc, hcp⟩ := HCLS.out k hltk
          have HC := Lib.hid hc
          clear hc
          have hix : (0 : Int) ≤ (k : Int) ∧ (k : Int) < (z : Int) := by omega
          have hic : (0 : Int) ≤ (c : Int) ∧ (c : Int) < (h.prices.length : Int) := by omega
          obtain ⟨f0, f1, f2, f3, f4, f5⟩ := cells6 (HB2.out.step (HT.out.trans HSI.out))
          have r1 := (HS.out.trans (HT.out.trans HSI.out)).keeps.cell id HROW.out.1
          have r2 := (HS.out.trans (HT.out.trans HSI.out)).keeps.cell id (HROW.out.2 k hltk)
          have g1 := ((Step.of HBL.out).trans HSI.out).keeps.cell (S := fun _ => False) id (HCC.out k hltk)
          rw [HC.out] at g1
          obtain ⟨x, hx⟩ : ∃ x, x = seatAt b s k := ⟨_, rfl⟩
          rw [← hx] at r2
          have HX := Lib.hid hx
          clear hx
          have hcl : c < (rowC h b s (fun c => ofB h c k)).length := by rw [rowC_len]; exact hcp
          have n0 := hbx.cell (c * 2)
          have n1 := hbx.cell (c * 2 + 1)
          rw [cellsC_get0 hcl, rowC_get] at n0
          rw [cellsC_get1 hcl, rowC_get] at n1
          have z0 := hbx.frozen (c * 2)
          have z1 := hbx.frozen (c * 2 + 1)
          have hb0 := cntW_bound b s isF (ofB h c k)
          have hb1 := cntW_bound b s isS (ofB h c k)
          have hbl := ofB_len h c k
          dsimp only at n0 n1
          obtain ⟨y0, hy0⟩ : ∃ y, y = cntW b s isF (ofB h c k) := ⟨_, rfl⟩
          obtain ⟨y1, hy1⟩ : ∃ y, y = cntW b s isS (ofB h c k) := ⟨_, rfl⟩
          rw [← hy0] at n0 hb0
          rw [← hy1] at n1 hb1
          have HY := Lib.hid (And.intro hy0 hy1)
          have hw0 : IntKind.i64.wrap (y0 + 1) = y0 + 1 := by rw [IntKind.wrap_i64]; omega
          have hw1 : IntKind.i64.wrap (y1 + 1) = y1 + 1 := by rw [IntKind.wrap_i64]; omega
          clear hbx hcl hb0 hb1 hbl hy0 hy1
          by_cases q1 : x = 0
          · have hd : (x == 0) = true := by simpa using q1
            have HN := Lib.hid (rowC_free HC.out hcp (HX.out.symm.trans q1))
            clear q1
            go_wp2
            go_roundw
            case rel => exact ⟨k + 1, by omega, by go_num, by rw [← HN.out, ← HY.out.1]; exact HBX.out.setCell _ _, HSI.out.setNew _ _ (Nat.le_refl _)⟩
            case measure => simp [intOf]; omega
          have hd : (x == 0) = false := by simpa using q1
          by_cases q2 : 0 < x
          · have hd2 : decide (0 < x) = true := by simpa using q2
            have HN := Lib.hid (rowC_sold HC.out hcp (show 0 < seatAt b s k by rw [← HX.out]; exact q2))
            clear q1 q2
            go_wp2
            go_roundw
            case rel => exact ⟨k + 1, by omega, by go_num, by rw [← HN.out, ← HY.out.2]; exact HBX.out.setCell _ _, HSI.out.setNew _ _ (Nat.le_refl _)⟩
            case measure => simp [intOf]; omega
          have hd2 : decide (0 < x) = false := by simpa using q2
          have HN := Lib.hid (rowC_keep (h := h) (b := b) (s := s) (k := k) (by rw [← HX.out]; simpa [isF] using q1) (by rw [← HX.out]; simpa [isS] using q2))
          clear q1 q2
          go_wp2
          go_roundw
          case rel => exact ⟨k + 1, by omega, by go_num, by rw [HN.out]; exact HBX.out, HSI.out⟩
          case measure => simp [intOf]; omega
        · have hkz : k = (sizeL h.sectors).toNat := by have := HZ.out; omega
          have hre : rowC h b s (fun c => ofB h c k) = rowC h b s (ofL h) := by rw [hkz]; rfl
          rw [hre] at hbx
          have x1 : ¬ avoid (Old wc) (.slice pu LL.length cu) wo.heap.size := fun e => by
            rcases e with e | e
            · have := HBL.out.size; unfold Old at e; omega
            · have := (HO2.out.lt _ e).2; omega
          have hrow : SL (avoid (Old wc) (.slice pu LL.length cu)) wr (.slice (some ⟨wo.heap.size, 0, none⟩) (rowC h b s (ofL h)).length h.prices.length) (rowC h b s (ofL h)) := SL.bx_counts hbx x1 _ (by rw [rowC_len]; omega) (by rw [rowC_len]; omega)
          rw [rowC_len] at hrow
          have hue := SLe.one (S := avoid (Old wc) (.slice pu LL.length cu)) (w := wr) (cs := [.slice (some ⟨wo.heap.size, 0, none⟩) h.prices.length h.prices.length]) (x := rowC h b s (ofL h)) 93 ⟨_, rfl, hrow⟩
          have hown2 := (HO2.out.step HSI.out).alloc (.cells #[.slice (some ⟨wo.heap.size, 0, none⟩) h.prices.length h.prices.length] 93)
          have hkl : s < (countsL h b).length := by have := HKL.out; omega
          have hn1 : LL.length + [rowC h b s (ofL h)].length = s + 1 := by rw [HLL.out]; simp; omega
          have hn2 : s + 1 ≤ maxLen := by simp only [maxLen]; omega
          have hB3 := HBL.out.trans (HSI.out.below.mono HBL.out.size)
          have hn3 : wc.heap.size ≤ (wr.alloc (.cells #[.slice (some ⟨wo.heap.size, 0, none⟩) h.prices.length h.prices.length] 93)).heap.size := by have := hB3.size; simp; omega
          have hn4 : LL ++ [rowC h b s (ofL h)] = (countsL h b).take (s + 1) := by
            rw [HLL.out, List.take_succ_eq_append_getElem hkl]; simp [countsL]
          have HB3 := Lib.hid hB3
          clear hrow hbx hkz hre hkl hB3
          go_wp2_with (at_builtin; refine wpl_append (α := List Count) (S := Old wc) (base := wc.heap.size) (v := .slice pu LL.length cu) (l := LL) (m := [rowC h b s (ofL h)]) eiRefCounts rfl _ _ rfl rfl rfl hown2 hue (s + 1) hn1 ((countsL h b).take (s + 1)) hn4 hn2 (by omega) hn3 ?_)
          intro p' c' w2 hown3 hg
          have hB4 := (HB3.out.alloc HB3.out.size (.cells #[.slice (some ⟨wo.heap.size, 0, none⟩) h.prices.length h.prices.length] 93)).grown hg hn3 (fun g hg => (HO2.out.lt g hg).1)
          have H7 := Lib.hid (And.intro hown3 hB4)
          clear hown2 hue hn1 hn2 hn3 hn4 hown3 hg hB4 x1
          go_wp2
          go_roundw
          case rel => exact ⟨s + 1, by omega, by go_num, H7.out.1, H7.out.2⟩
          case measure => simp [intOf]; omega
    · have hts : LL = countsL h b := by rw [HLL.out]; exact List.take_of_length_le (by have := HKL.out; omega)
      have hfin := HO2.out.fresh.weak (T := Old w) (fun j _ hj => by have := HZ2.out; have := HSC.out.size; unfold Old at hj ⊢; omega)
      rw [hts] at hfin
      have HFIN := Lib.hid hfin
      have HTS := Lib.hid hts
      clear hfin hts
      go_wp2
      go_ret
      refine ⟨_, rfl, ?_, HS.out.trans HT.out⟩
      rw [HTS.out]
      exact HFIN.out
end Go.Proofs.Ytbgfmikbhiblgaa
/- Ranges over functions within a loop: the marks that they leave among the deferred calls; make within the fence. -/
namespace Go.Proofs.Ytbgfmikbhiblgaa
set_option linter.unusedSimpArgs false
set_option linter.unusedVariables false
open Go.RowKit Go.BT

def markD (D : Nat) : Deferred := { target := .collected D, args := #[] }
/-- The marks of finished ranges over functions: their blocks lie at or behind B, each once, with nothing collected. -/
def Marks (B : Nat) (Ds : List Nat) (w : World) : Prop := Ds.Nodup ∧ ∀ D ∈ Ds, B ≤ D ∧ w.heap[D]? = some (.deferred (some []))
theorem Marks.nil (B : Nat) (w : World) : Marks B [] w := ⟨List.nodup_nil, by simp⟩
theorem Marks.cons {B D : Nat} {Ds : List Nat} {w : World} (h : Marks B Ds w) (hD : B ≤ D) (hn : D ∉ Ds) (hw : w.heap[D]? = some (.deferred (some []))) : Marks B (D :: Ds) w :=
  ⟨List.nodup_cons.2 ⟨hn, h.1⟩, fun x hx => by
    rcases List.mem_cons.1 hx with rfl | hx
    · exact ⟨hD, hw⟩
    · exact h.2 x hx⟩
theorem Marks.lt {B : Nat} {Ds : List Nat} {w : World} (h : Marks B Ds w) {D : Nat} (hD : D ∈ Ds) : D < w.heap.size := (Array.getElem?_eq_some_iff.1 (h.2 D hD).2).1
theorem Marks.step {B : Nat} {Ds : List Nat} {w w' : World} (h : Marks B Ds w) (hs : Step w w') : Marks B Ds w' :=
  ⟨h.1, fun D hD => ⟨(h.2 D hD).1, (hs.block D (h.lt hD) id).trans (h.2 D hD).2⟩⟩
theorem Marks.keep {B : Nat} {Ds : List Nat} {w w' : World} {X : Nat → Prop} (h : Marks B Ds w) (hs : StepX X w w') (hX : ∀ D ∈ Ds, ¬ X D) : Marks B Ds w' :=
  ⟨h.1, fun D hD => ⟨(h.2 D hD).1, (hs.block D (h.lt hD) (hX D hD)).trans (h.2 D hD).2⟩⟩
theorem putObj_stepX (w : World) (D : Nat) (o : Obj) : StepX (fun j => j = D) w (w.putObj D o) := by
  have hg := grownBy_putObj' w D o
  exact ⟨hg.os, hg.tape, hg.output, hg.size, fun k hk hn => hg.block k hk (fun e => hn (by cases e; rfl))⟩
/-- A function leaves, with marks alone among its deferred calls. -/
theorem leaves_marks {F : Fence} {n : Nat} {P : Program} {fn : Func} {tmps : Array Value} {R : Ending → World → Prop} {B : Nat} : ∀ (Ds : List Nat) (w : World), Marks B Ds w →
    (∀ w', StepX (fun j => B ≤ j ∧ j ∈ Ds) w w' → ∃ v, (results fn tmps).run P w' = .ok v w' ∧ R (.returned v) w') → LeavesInM F n P fn tmps R (Ds.map markD) .returning w
  | [], w, _, h => h w (StepX.refl _ _)
  | D :: Ds, w, hm, h => by
    obtain ⟨hD, hw⟩ := hm.2 D (by simp)
    have hn := (List.nodup_cons.1 hm.1)
    refine ⟨by simp, .inl ⟨D, _, rfl, run_takeDeferred hw, ?_⟩⟩
    have hp := putObj_stepX w D (.deferred none)
    refine leaves_marks Ds _ ⟨hn.2, fun x hx => ⟨(hm.2 x (by simp [hx])).1, ?_⟩⟩ fun w' hs => h w' ((hp.mono fun j _ hj => ?_).trans (hs.mono fun j _ hj => ?_))
    · exact (hp.block x (hm.lt (by simp [hx])) (fun e => hn.1 (e ▸ hx))).trans (hm.2 x (by simp [hx])).2
    · subst hj; exact ⟨hD, by simp⟩
    · exact ⟨hj.1, by simp [hj.2]⟩
/-- make([]Count, n) within the fence. -/
theorem wplI_make2 {P : Program} {w : World} {ops : Array Oper} {rest : List Oper} {o : Oper} {a : Act} {Q : Exit → Act → World → Prop} {t e : TypeId} {bytes : Nat} {ro : Option Nat} {nn : Nat} (ei : EI P t e (.agg #[.int .i64 0, .int .i64 0]) 2 bytes) (hg : o.guard = none) (l c : Operand) (hop : o.op = Op.makeSlice t l c)
    (kl kc : IntKind) (n : Nat) (hl : a.eval l = .int kl n) (hc : a.eval c = .int kc n) (hn : n ≤ 9223372036854775807) (hb : bytes * n ≤ 281474976710656)
    (hK : wpListIn (FW ro) nn P ops Q rest (a.put o.dst (.slice (some ⟨w.heap.size, 0, none⟩) n n)) (w.alloc (.cells (cellsC (List.replicate n ⟨0, 0⟩)).toArray e))) : wpListIn (FW ro) nn P ops Q (o :: rest) a w := by
  obtain ⟨h1, _, i, hi, h2, h3, h4⟩ := ei
  subst h4
  have hb' : (i.bytes : Int) * (n : Int) ≤ 281474976710656 := by
    have h : ((i.bytes * n : Nat) : Int) ≤ 281474976710656 := by omega
    rwa [Int.natCast_mul] at h
  have hr := run_make (P := P) w t e i _ h1 hi h2 kl kc n n (by omega) (Int.le_refl _) hb' (by omega)
  simp only [Int.toNat_natCast, h3, madeCells_count n] at hr
  have hw : Region.wanted o (yielded ops a.tmps) = true := by simp [Region.wanted, hg]
  have hsem : o.semAt (FW ro).round a.eval = execOp a.eval o := by
    unfold Oper.semAt
    cases ro with
    | none => rfl
    | some l => simp [hop]
  unfold wpListIn
  rw [if_pos hw]
  refine ⟨fun f _ => trivial, ?_⟩
  rw [hsem]
  simp [execOp, hop, hl, hc, hr, Result.andThen]
  exact hK
end Go.Proofs.Ytbgfmikbhiblgaa
/- Walks: the program's Counts. (Under way.) -/
namespace Go.Proofs.Ytbgfmikbhiblgaa
set_option linter.unusedSimpArgs false
set_option linter.unusedVariables false
open Go.RowKit Go.BT
attribute [local go_sem] Oper.semAt_some

def countsR (h : House) (b : Book) : List (List Count) := if checkR h b = 0 then countsL h b else []
theorem infoCount : (Try.prog.info? 95).map (fun i => (i.zero, i.size, i.bytes)) = some (some (.agg #[.int .i64 0, .int .i64 0]), 2, 16) := by kernel_rfl
theorem eiCount : EI Try.prog 92 95 (.agg #[.int .i64 0, .int .i64 0]) 2 16 := .mk' Try.underlying92 infoCount rfl
theorem infoCounts : (Try.prog.info? 92).map (fun i => (i.zero, i.size, i.bytes)) = some (some (.slice none 0 0), 1, 24) := by kernel_rfl
theorem eiCounts : EI Try.prog 87 92 (.slice none 0 0) 1 24 := .mk' Try.underlying87 infoCounts rfl
theorem prices5 {h : House} (hv : valid h = true) : h.prices.length ≤ 5 := by
  simp only [valid, validA, validB, Bool.and_eq_true, withinB, decide_eq_true_eq] at hv
  omega
def rowP (h : House) (b : Book) (s : Int) (c : Nat) : List Count := (List.range h.prices.length).map fun (i : Nat) => if i < c then ⟨cntW b s isF (ofL h i), cntW b s isS (ofL h i)⟩ else ⟨0, 0⟩
theorem rowP_len (h : House) (b : Book) (s : Int) (c : Nat) : (rowP h b s c).length = h.prices.length := by simp [rowP]
theorem rowP_zero (h : House) (b : Book) (s : Int) : rowP h b s 0 = List.replicate h.prices.length ⟨0, 0⟩ := by
  apply List.ext_getElem
  · simp [rowP]
  · intro i h1 h2; simp [rowP]
theorem rowP_full (h : House) (b : Book) (s : Int) : rowP h b s h.prices.length = rowC h b s (ofL h) := by
  apply List.ext_getElem
  · simp [rowP, rowC]
  · intro i h1 h2
    rw [rowP_len] at h1
    simp [rowP, rowC, h1]
theorem rowP_step (h : House) (b : Book) (s : Int) {c : Nat} (hc : c < h.prices.length) : (rowP h b s c).set c ⟨cntW b s isF (ofL h c), cntW b s isS (ofL h c)⟩ = rowP h b s (c + 1) := by
  apply List.ext_getElem
  · simp [rowP]
  · intro i h1 h2
    rw [List.getElem_set]
    split
    · next he => subst he; simp [rowP]
    · next hne =>
      simp only [rowP, List.getElem_map, List.getElem_range]
      by_cases h3 : i < c
      · rw [if_pos h3, if_pos (by omega)]
      · rw [if_neg h3, if_neg (by omega)]
theorem rowP_same (h : House) (b : Book) (s : Int) {c : Nat} (hc : c < h.prices.length) : (rowP h b s c).set c ⟨0, 0⟩ = rowP h b s c := by
  apply List.ext_getElem
  · simp
  · intro i h1 h2
    rw [List.getElem_set]
    split
    · next he => subst he; simp [rowP]
    · rfl
/-- Between two rounds of the range over the seats of a class. -/
def CountI (w0 : World) (gl : Nat) (R : List Count) (c : Nat) {h : House} (b : Book) (s : Int) (pre : List (SeatNo h)) (W : World) : Prop :=
  Bx W gl (cellsC (R.set c ⟨cntW b s isF (seatsOf pre), cntW b s isS (seatsOf pre)⟩)) 95 ∧ StepX (fun j => j = gl ∨ w0.heap.size ≤ j) w0 W
theorem CountI.own {w0 : World} {gl : Nat} {R : List Count} {c : Nat} {h : House} {b : Book} {s : Int} : OwnFrom w0.heap.size (CountI w0 gl R c (h := h) b s) := by
  intro pre A B row ⟨h1, h3⟩ hg hr
  have h4 : ∀ g, (∃ (cs : Array Value) (T : TypeId) (f : Nat × Nat), A.heap[g]? = some (Obj.cells cs T f)) → B.heap[g]? = A.heap[g]? := fun g hcs => by
    obtain ⟨cs, T, f, hc⟩ := hcs
    refine hg.block g (Array.getElem?_eq_some_iff.1 hc).1 fun e => ?_
    obtain ⟨_, o, ho, hn⟩ := hr g e.symm
    rw [hc] at ho
    obtain rfl := Option.some.inj ho
    simp [Obj.isCells] at hn
  refine ⟨?_, h3.trans ⟨hg.os, hg.tape, hg.output, hg.size, fun k hk hn => hg.block k hk fun e => hn (.inr (hr k e.symm).1)⟩⟩
  unfold Bx at *; rw [h4 gl ⟨_, _, _, h1⟩]; exact h1
theorem cellsC_up0 {R : List Count} {c : Nat} (hc : c < R.length) (x y x' : Int) : (cellsC (R.set c ⟨x, y⟩)).set (c * 2) (.int .i64 x') = cellsC (R.set c ⟨x', y⟩) := by
  rw [cellsC_set0 _ c (by rw [List.length_set]; exact hc)]; simp [List.set_set]
theorem cellsC_up1 {R : List Count} {c : Nat} (hc : c < R.length) (x y y' : Int) : (cellsC (R.set c ⟨x, y⟩)).set (c * 2 + 1) (.int .i64 y') = cellsC (R.set c ⟨x, y'⟩) := by
  rw [cellsC_set1 _ c (by rw [List.length_set]; exact hc)]; simp [List.set_set]
theorem count_free {R : List Count} {c : Nat} {h : House} {b : Book} {s : Int} {pre : List (SeatNo h)} {k : Nat} {hk : (k : Int) < sizeL h.sectors} (hc : c < R.length) (hf : seatAt b s k = 0) :
    (cellsC (R.set c ⟨cntW b s isF (seatsOf pre), cntW b s isS (seatsOf pre)⟩)).set (c * 2) (.int .i64 (cntW b s isF (seatsOf pre) + 1)) = cellsC (R.set c ⟨cntW b s isF (seatsOf (pre ++ [⟨k, hk⟩])), cntW b s isS (seatsOf (pre ++ [⟨k, hk⟩]))⟩) := by
  rw [cellsC_up0 hc, seatsOf_snoc, cntW_snoc, cntW_snoc, hf]; simp [isF, isS]
theorem count_sold {R : List Count} {c : Nat} {h : House} {b : Book} {s : Int} {pre : List (SeatNo h)} {k : Nat} {hk : (k : Int) < sizeL h.sectors} (hc : c < R.length) (hf : 0 < seatAt b s k) :
    (cellsC (R.set c ⟨cntW b s isF (seatsOf pre), cntW b s isS (seatsOf pre)⟩)).set (c * 2 + 1) (.int .i64 (cntW b s isS (seatsOf pre) + 1)) = cellsC (R.set c ⟨cntW b s isF (seatsOf (pre ++ [⟨k, hk⟩])), cntW b s isS (seatsOf (pre ++ [⟨k, hk⟩]))⟩) := by
  have h1 : isF (seatAt b s k) = false := by unfold isF; rw [decide_eq_false_iff_not]; omega
  have h2 : isS (seatAt b s k) = true := by unfold isS; rw [decide_eq_true_eq]; exact hf
  rw [cellsC_up1 hc, seatsOf_snoc, cntW_snoc, cntW_snoc, h1, h2]; simp
theorem count_none {R : List Count} {c : Nat} {h : House} {b : Book} {s : Int} {pre : List (SeatNo h)} {k : Nat} {hk : (k : Int) < sizeL h.sectors} (hf : ¬ seatAt b s k = 0) (hg : ¬ 0 < seatAt b s k) :
    cellsC (R.set c ⟨cntW b s isF (seatsOf pre), cntW b s isS (seatsOf pre)⟩) = cellsC (R.set c ⟨cntW b s isF (seatsOf (pre ++ [⟨k, hk⟩])), cntW b s isS (seatsOf (pre ++ [⟨k, hk⟩]))⟩) := by
  have h1 : isF (seatAt b s k) = false := by unfold isF; rw [decide_eq_false_iff_not]; exact hf
  have h2 : isS (seatAt b s k) = false := by unfold isS; rw [decide_eq_false_iff_not]; exact hg
  rw [seatsOf_snoc, cntW_snoc, cntW_snoc, h1, h2]; simp
theorem _root_.Go.BT.OwnL.unmarked {α : Type} [Rep α] {S : Nat → Prop} {base : Nat} {e : TypeId} {w : World} {v : Value} {l : List α} (h : OwnL S base e w v l) {B : Nat} {ds : List Nat} (hM : Marks B ds w) (g : Nat) (hg : v.ownBlock = some g) : g ∉ ds := fun hs => by
  obtain ⟨xs', hx, _⟩ := h
  rcases hx.2 with ⟨he, _⟩ | ⟨g', cap, cur, he, _, hg', _⟩
  · rw [he] at hg; simp [Value.ownBlock] at hg
  · rw [he] at hg
    simp [Value.ownBlock] at hg
    subst hg
    rw [(hM.2 _ hs).2] at hg'
    simp at hg'
set_option maxRecDepth 100000 in
set_option maxHeartbeats 8000000 in
theorem Counts_any (S : Nat → Prop) (h : House) (b : Book) (v u : Value) (w : World) (hv : AV S w v h) (hu : AV S w u b) :
    Calls Try.prog 43 #[v, u] w fun e w' => ∃ l', e = .returned (.tuple #[l', .int .i64 (checkR h b)]) ∧ SL (Old w) w' l' (countsR h b) ∧ Step w w' := by
  obtain ⟨cs, rfl, hr0⟩ := hv
  have hr := hr0
  obtain ⟨c0, c1, c2, c3, c4, rfl, h0, h1, h2, h3, h4⟩ := hr
  obtain ⟨p0, k0, rfl⟩ := h0.form
  obtain ⟨p1, k1, rfl⟩ := h1.form
  obtain ⟨p2, k2, rfl⟩ := h2.form
  obtain ⟨p3, k3, rfl⟩ := h3.form
  obtain ⟨p4, k4, rfl⟩ := h4.form
  obtain ⟨cs, rfl, hq0⟩ := hu
  have hq := hq0
  obtain ⟨d1, d2, d4, rfl, s1, s2, s4⟩ := hq
  obtain ⟨q1, m1, bs, os, rfl, _, _, hp1, hc1, _⟩ := s1.rows
  obtain ⟨q2, m2, rfl⟩ := s2.form
  obtain ⟨q4, m4, rfl⟩ := s4.form
  obtain ⟨W2, hW2⟩ : ∃ W2, W2 = (w.alloc (.cells #[.slice p0 h.sectors.length k0, .slice p1 h.prices.length k1, .slice p2 h.dates.length k2, .slice p3 h.frm.length k3, .slice p4 h.holds.length k4] 43)).alloc (.cells #[.int .i64 b.agency, .slice q1 b.seats.length m1, .slice q2 b.off.length m2, .int .i64 b.sent, .slice q4 b.took.length m4, .int .i64 b.cash] 36) := ⟨_, rfl⟩
  have hbx : Bx W2 w.heap.size [.slice p0 h.sectors.length k0, .slice p1 h.prices.length k1, .slice p2 h.dates.length k2, .slice p3 h.frm.length k3, .slice p4 h.holds.length k4] 43 := by subst hW2; exact (Bx.new _ _ _).alloc _
  have hb2 : Bx W2 (w.heap.size + 1) [.int .i64 b.agency, .slice q1 b.seats.length m1, .slice q2 b.off.length m2, .int .i64 b.sent, .slice q4 b.took.length m4, .int .i64 b.cash] 36 := by subst hW2; exact Bx.new' _ _ _ _ (by simp)
  have hS : Step w W2 := by subst hW2; exact (by repeat (first | (with_reducible assumption) | (with_reducible exact Step.refl _) | (with_reducible apply Step.s_alloc) | (with_reducible apply Step.s_drew) | (with_reducible apply Step.s_drewN) | (with_reducible refine Step.trans ?_ (by with_reducible assumption))))
  have hz2 : W2.heap.size = w.heap.size + 2 := by subst hW2; simp
  have HB1 := Lib.hid hbx
  have HB2 := Lib.hid hb2
  have HR := Lib.hid (Rep.keep (.of_step hS) hr0)
  have HQ := Lib.hid (Rep.keep (.of_step hS) hq0)
  have HS := Lib.hid hS
  have HZ2 := Lib.hid hz2
  have HP1 := Lib.hid (And.intro hp1 hc1)
  have HT := Lib.hid (Step.refl W2)
  have HW := Lib.hid hW2
  clear hr0 hq0 h0 h1 h2 h3 h4 s1 s2 s4 hp1 hc1 hbx hb2 hS hz2 hW2
  refine callsIn_wide.1 (show CallsIn (FW none) 5 Try.prog 43 _ w _ from ?_)
  refine callsIn_of_wp_marks Try.func43 rfl trivial ?_ rfl
  simp only [Try.ntmps43, List.size_toArray, List.length_cons, List.length_nil, Nat.reduceAdd, Nat.reduceSub, Array.replicate_succ, Array.replicate_zero, List.push_toArray, List.append_toArray, List.nil_append, List.cons_append]
  gi_wp2_with fail
  rw [← HW.out]
  refine (callsIn_FW (check_any S h b _ _ W2 ⟨_, rfl, HR.out⟩ ⟨_, rfl, HQ.out⟩)).mono ?_
  rintro e w1 ⟨rfl, hS1⟩
  have HT := Lib.hid hS1
  clear hS1
  obtain ⟨ck, hck⟩ : ∃ x, x = checkR h b := ⟨_, rfl⟩
  rw [← hck]
  by_cases hc : ck = 0
  rotate_left
  · have hd : (ck != 0) = true := by simpa using hc
    have HF := Lib.hid (show countsR h b = [] by unfold countsR; rw [← hck, if_neg hc])
    have HK := Lib.hid hck
    clear hc hck
    gi_wp2
    refine ⟨_, results_tmp2 rfl _ _ _, _, by rw [← HK.out]; rfl, ?_, HS.out.trans HT.out⟩
    rw [HF.out]; exact SL.nil _ _
  have HF := Lib.hid (show countsR h b = countsL h b by unfold countsR; rw [← hck, if_pos hc])
  have HCK := Lib.hid (hck.symm.trans hc)
  subst hc
  clear hck
  obtain ⟨e0, e1, e2, e3, e4⟩ := cells5 (HB1.out.step HT.out)
  obtain ⟨f0, f1, f2, f3, f4, f5⟩ := cells6 (HB2.out.step HT.out)
  gi_wp2_with fail
  clear e0 e1 e2 e3 e4 f0 f1 f2 f3 f4 f5
  have HBT := Lib.hid (show Below W2.heap.size W2 w1 from HT.out.below)
  have hOD := (okDesk_of HCK.out).1
  obtain ⟨z, hz⟩ : ∃ z : Nat, sizeL h.sectors = z := ⟨(sizeL h.sectors).toNat, by have := size_pos hOD.1; omega⟩
  have hbv := bounds_valid hOD.1
  have hz100 : z ≤ 100 := by omega
  have hz0 : 0 < z := by have := size_pos hOD.1; omega
  have hpl : h.prices.length ≤ 5 := prices5 hOD.1
  have hn1 : 1 ≤ h.dates.length ∧ h.dates.length ≤ 6 := by omega
  have HSL := Lib.hid hOD.2.2.1
  have HO := Lib.hid hOD
  have HZ := Lib.hid hz
  clear hOD hz hbv
  refine wpIn_loop (fun a' wr => ∃ (ds : List Nat) (u0 u1 u4 u5 u6 u7 u8 u9 u10 u11 u12 u13 u14 u15 u16 u17 u18 u19 u22 u23 u24 u25 u26 u27 u28 u29 u30 u31 u32 u33 u34 u35 u36 u37 u38 u39 u40 u41 u42 u43 u44 u45 u46 u47 u48 u49 u50 u51 u52 u53 u54 u55 u56 u57 u58 u59 u60 u61 u62 u63 u64 u65 u66 u67 u68 u69 u70 u71 u72 u73 : Value), (∃ s : Nat, s ≤ h.dates.length ∧ u22 = .int .i64 s ∧ OwnL (fun j => Old W2 j ∨ j ∈ ds) W2.heap.size 92 wr u7 ((countsL h b).take s) ∧ Below W2.heap.size W2 wr ∧ Marks W2.heap.size ds wr) ∧ a' = { tmps := #[u0, u1, .pointer (some ⟨w.heap.size, 0, none⟩), .pointer (some ⟨w.heap.size + 1, 0, none⟩), u4, u5, u6, u7, u8, u9, u10, u11, u12, u13, u14, u15, u16, u17, u18, u19, .slice q1 b.seats.length m1, .int .i64 b.seats.length, u22, u23, u24, u25, u26, u27, u28, u29, u30, u31, u32, u33, u34, u35, u36, u37, u38, u39, u40, u41, u42, u43, u44, u45, u46, u47, u48, u49, u50, u51, u52, u53, u54, u55, u56, u57, u58, u59, u60, u61, u62, u63, u64, u65, u66, u67, u68, u69, u70, u71, u72, u73], defers := ds.map markD }) (fun a' _ => h.dates.length - (intOf (a'.tmps.getD 22 undef)).toNat) ?atStart ?round
  case atStart =>
    refine ⟨[], ?_⟩
    (repeat apply Exists.intro)
    refine ⟨?_, rfl⟩
    exact ⟨0, Nat.zero_le _, rfl, OwnL.nil _ _ _ _, HBT.out, Marks.nil _ _⟩
  case round =>
    intro a' wr hinv
    obtain ⟨ds, u0, u1, u4, u5, u6, u7, u8, u9, u10, u11, u12, u13, u14, u15, u16, u17, u18, u19, u22, u23, u24, u25, u26, u27, u28, u29, u30, u31, u32, u33, u34, u35, u36, u37, u38, u39, u40, u41, u42, u43, u44, u45, u46, u47, u48, u49, u50, u51, u52, u53, u54, u55, u56, u57, u58, u59, u60, u61, u62, u63, u64, u65, u66, u67, u68, u69, u70, u71, u72, u73, ⟨s, hs, rfl, hown, hB, hM⟩, rfl⟩ := hinv
    dsimp only
    obtain ⟨LL, hLL⟩ : ∃ L, L = (countsL h b).take s := ⟨_, rfl⟩
    rw [← hLL] at hown
    have HLL := Lib.hid hLL
    clear hLL
    clear HT HBT
    have HT := Lib.hid (Step.of hB)
    have HO2 := Lib.hid hown
    have HBL := Lib.hid hB
    have HM := Lib.hid hM
    obtain ⟨pu, cu, rfl, _⟩ := hown.form
    clear hown hB hM
    by_cases hlt : s < h.dates.length
    · have his : s < b.seats.length := by have := HSL.out; omega
      have hrow : b.seats[s].length = z := by have := HO.out.2.2.2.1 s his; have := HZ.out; omega
      obtain rfl := HP1.out.1 (by omega)
      obtain ⟨ur, hr1, hr2⟩ := HP1.out.2 s his
      obtain ⟨pr, cr, br, orr, rfl, _, _, hpr, hcr, hbb⟩ := hr2.ints
      have HBRL := Lib.hid ((hbb (by rw [hrow]; exact hz0)).1)
      clear hbb
      obtain rfl := hpr (by rw [hrow]; exact hz0)
      have hcr2 : ∀ j, j < z → w.cell? ⟨br, orr + j, none⟩ = some (.int .i64 (seatAt b s j)) := fun j hjz => by
        rw [hcr j (by rw [hrow]; exact hjz)]
        simp [seatAt, List.getD_eq_getElem?_getD, his, show j < b.seats[s].length by rw [hrow]; exact hjz]
      rw [hrow] at hr1
      have HROW := Lib.hid (And.intro hr1 hcr2)
      have hx2 : (0 : Int) ≤ (s : Int) ∧ (s : Int) < (b.seats.length : Int) := by omega
      clear hrow hr1 hr2 hpr hcr hcr2
      obtain ⟨e0, e1, e2, e3, e4⟩ := cells5 (HB1.out.step HT.out)
      have r1 := (HS.out.trans HT.out).keeps.cell id HROW.out.1
      have y1 := (HB1.out.step HT.out).lt
      gi_wp2_with (gi_at_make; refine wplI_make2 eiCount rfl _ _ rfl .i64 .i64 h.prices.length rfl rfl (by omega) (by omega) ?_)
      clear e0 e1 e2 e3 e4 r1 y1
      obtain ⟨wo, hwo⟩ : ∃ W, W = wr := ⟨_, rfl⟩
      subst hwo
      have HW5 := Lib.hid (show Step wo (((wo.alloc (.cells #[.slice (some ⟨br, orr, none⟩) z cr] 23)).alloc (.cells (cellsC (List.replicate h.prices.length ⟨0, 0⟩)).toArray 95)).alloc (.cells #[.slice (some ⟨wo.heap.size + 1, 0, none⟩) h.prices.length h.prices.length] 92)) from (by repeat (first | (with_reducible assumption) | (with_reducible exact Step.refl _) | (with_reducible apply Step.s_alloc) | (with_reducible apply Step.s_drew) | (with_reducible apply Step.s_drewN) | (with_reducible refine Step.trans ?_ (by with_reducible assumption)))))
      gi_wp2_with fail
      refine wpIn_loop (fun a' wr => ∃ (ds : List Nat) (u0 u1 u4 u5 u6 u8 u11 u12 u13 u14 u15 u16 u17 u18 u19 u23 u24 u25 u26 u27 u28 u29 u32 u33 u34 u35 u36 u37 u38 u39 u40 u41 u42 u43 u44 u45 u46 u47 u48 u49 u50 u51 u52 u53 u54 u55 u56 u57 u58 u59 u60 u61 u62 u63 u64 u65 u66 u67 u68 u69 u70 u71 u72 u73 : Value), (∃ c : Nat, c ≤ h.prices.length ∧ u32 = .int .i64 c ∧ Bx wr (wo.heap.size + 1) (cellsC (rowP h b s c)) 95 ∧ Bx wr wo.heap.size [.slice (some ⟨br, orr, none⟩) z cr] 23 ∧ Bx wr (wo.heap.size + 2) [.slice (some ⟨wo.heap.size + 1, 0, none⟩) h.prices.length h.prices.length] 92 ∧ Step wo wr ∧ Marks W2.heap.size ds wr ∧ OwnL (fun j => Old W2 j ∨ j ∈ ds ∨ j = wo.heap.size + 1) W2.heap.size 92 wr (.slice pu LL.length cu) LL) ∧ a' = { tmps := #[u0, u1, .pointer (some ⟨w.heap.size, 0, none⟩), .pointer (some ⟨w.heap.size + 1, 0, none⟩), u4, u5, u6, .slice pu LL.length cu, u8, .pointer (some ⟨wo.heap.size, 0, none⟩), .pointer (some ⟨wo.heap.size + 2, 0, none⟩), u11, u12, u13, u14, u15, u16, u17, u18, u19, .slice (some ⟨bs, os, none⟩) b.seats.length m1, .int .i64 b.seats.length, .int .i64 s, u23, u24, u25, u26, u27, u28, u29, .slice (some ⟨wo.heap.size + 1, 0, none⟩) h.prices.length h.prices.length, .int .i64 h.prices.length, u32, u33, u34, u35, u36, u37, u38, u39, u40, u41, u42, u43, u44, u45, u46, u47, u48, u49, u50, u51, u52, u53, u54, u55, u56, u57, u58, u59, u60, u61, u62, u63, u64, u65, u66, u67, u68, u69, u70, u71, u72, u73], defers := ds.map markD }) (fun a' _ => h.prices.length - (intOf (a'.tmps.getD 32 undef)).toNat) ?atStart ?round
      case atStart =>
        refine ⟨ds, ?_⟩
        (repeat apply Exists.intro)
        refine ⟨?_, rfl⟩
        exact ⟨0, Nat.zero_le _, rfl, by rw [rowP_zero]; exact (Bx.new' _ _ _ _ (by simp)).alloc _, ((Bx.new _ [_] _).alloc _).alloc _, Bx.new' _ [_] _ _ (by simp), HW5.out, HM.out.step HW5.out, (HO2.out.weak fun j hj hs => hs.elim .inl fun hs => hs.elim .inr fun hs => absurd hj (by omega)).step HW5.out⟩
      case round =>
        clear HM
        intro a' wr hinv
        obtain ⟨ds, u0, u1, u4, u5, u6, u8, u11, u12, u13, u14, u15, u16, u17, u18, u19, u23, u24, u25, u26, u27, u28, u29, u32, u33, u34, u35, u36, u37, u38, u39, u40, u41, u42, u43, u44, u45, u46, u47, u48, u49, u50, u51, u52, u53, u54, u55, u56, u57, u58, u59, u60, u61, u62, u63, u64, u65, u66, u67, u68, u69, u70, u71, u72, u73, ⟨c, hc, rfl, hbl, hb9, hb10, hS, hM, hown⟩, rfl⟩ := hinv
        dsimp only
        have HBLC := Lib.hid hbl
        have HB9 := Lib.hid hb9
        have HB10 := Lib.hid hb10
        have HSI := Lib.hid hS
        have HM := Lib.hid hM
        have HOWN := Lib.hid hown
        have HTI := Lib.hid (HT.out.trans hS)
        have HZO := Lib.hid (And.intro HT.out.size (And.intro hS.size hb10.lt))
        clear hbl hb9 hb10 hS hM hown
        have f9 := HB9.out.cell 0
        have f10 := HB10.out.cell 0
        simp only [List.getElem?_cons_zero] at f9 f10
        by_cases hltc : c < h.prices.length
        · obtain ⟨e0, e1, e2, e3, e4⟩ := cells5 (HB1.out.step HTI.out)
          have y1 := (HB1.out.step HTI.out).lt
          obtain ⟨w1, hw1⟩ : ∃ W, W = wr.alloc (.cells #[.int .i64 c] 3) := ⟨_, rfl⟩
          have HW1 := Lib.hid hw1
          have hz1 : w1.heap.size = wr.heap.size + 1 := by rw [hw1]; simp
          have hs1 : Step wr w1 := by rw [hw1]; exact Step.alloc _ _
          have hcb : Bx w1 wr.heap.size [.int .i64 c] 3 := by rw [hw1]; exact Bx.new _ [_] _
          have hrw := Rep.weak (T := fun j => W2.heap.size ≤ j) (fun j h1 h2 => by omega) HR.out
          have hcall := Lib.hid (of_any (fun j => W2.heap.size ≤ j) h (.agg #[.slice p0 h.sectors.length k0, .slice p1 h.prices.length k1, .slice p2 h.dates.length k2, .slice p3 h.frm.length k3, .slice p4 h.holds.length k4]) c w1 ⟨_, rfl, Rep.keep (.of_step (HTI.out.trans hs1)) hrw⟩)
          have HZ1 := Lib.hid hz1
          have HS1 := Lib.hid hs1
          have HCB := Lib.hid hcb
          clear hw1 hz1 hs1 hcb hrw
          gi_wp2_with fail
          rw [← HW1.out]
          refine (callsIn_FW hcall.out).mono ?_
          rintro e w2 ⟨x0, x1, x2, x3, x4, rfl, hbh, hrh, hbc, hS2, hz2⟩
          have HBH := Lib.hid hbh
          have HRH := Lib.hid hrh
          have HBC := Lib.hid hbc
          have HT2 := Lib.hid (HS1.out.trans hS2)
          have HCB2 := Lib.hid (HCB.out.step hS2)
          have hz1 := HZ1.out
          have hzo := HZO.out
          have HZZ := Lib.hid (And.intro hz1 (And.intro hz2 hzo))
          clear hcall e0 e1 e2 e3 e4 y1 f9 f10 hbh hrh hbc hS2 hz1 hz2 hzo HCB HW1
          gi_wp2_with fail
          have hseq := Lib.hid (of1_stops 4 (by omega) (fun j => W2.heap.size ≤ j) (fun j => j = wo.heap.size + 1 ∨ w2.heap.size ≤ j) h c w1.heap.size (w1.heap.size + 1) x0 x1 x2 x3 x4 w2 HBH.out HRH.out (HBC.out.cell 0) (by have := HZZ.out; omega) (by have := HZZ.out; omega)
            (fun j hj => by have := HZZ.out; omega) (okSec_valid HO.out.1) (by have := (bounds_valid HO.out.1).2.2.2.2.2.2.2.1; omega))
          have h00 : CountI w2 (wo.heap.size + 1) (rowP h b s c) c (h := h) b s [] w2 := ⟨by
            show Bx w2 _ (cellsC ((rowP h b s c).set c ⟨0, 0⟩)) _
            rw [rowP_same h b s hltc]
            exact HBLC.out.step HT2.out, StepX.refl _ _⟩
          refine wpIn_rangeFunc_ownG rfl (by omega) rfl trivial (Go.Proofs.enters_of Try.func109 (by kernel_rfl) rfl) hseq.out (fun h1 h2 => h1.trans h2) (stepX_b (fun j hj => .inr hj)) (Below.refl _ _) (fun _ => rfl)
            (CountI w2 (wo.heap.size + 1) (rowP h b s c) c (h := h) b s) (fun _ _ _ => False) CountI.own (fun _ _ _ _ _ hf _ _ => hf) h00 ?a1 ?assign ?body ?done ?stop
          case assign =>
            intro l x W K hK
            rw [FW_inRound]
            gi_wp2
            exact hK
          case stop => exact fun _ _ _ _ _ _ hf _ => hf.elim
          case done =>
            intro D ys W hDl hys hI hK
            obtain ⟨hbl, hX⟩ := hI
            rw [show seatsOf ys = ofL h c from hys, rowP_step h b s hltc] at hbl
            have hsz := HZZ.out
            have k9 := (HB9.out.step HT2.out).keep hX.keeps (show ¬ (wo.heap.size = wo.heap.size + 1 ∨ w2.heap.size ≤ wo.heap.size) by omega)
            have k10 := (HB10.out.step HT2.out).keep hX.keeps (show ¬ (wo.heap.size + 2 = wo.heap.size + 1 ∨ w2.heap.size ≤ wo.heap.size + 2) by omega)
            have kS : Step wo W := StepX.fresh (HSI.out.trans HT2.out) hX (fun j hj => by omega)
            have hnd : ∀ d ∈ ds, ¬ (d = wo.heap.size + 1 ∨ w2.heap.size ≤ d) := fun d hd hx => by
              rcases hx with hx | hx
              · have := (HM.out.2 d hd).2
                rw [hx] at this
                have h9 := HBLC.out
                unfold Bx at h9
                rw [h9] at this
                simp at this
              · have := HM.out.lt hd; have := HT2.out.size; omega
            have kM : Marks W2.heap.size (D :: ds) W := ((HM.out.step HT2.out).keep hX hnd).cons (by omega) (fun hd => hnd D hd (.inr hDl)) hK
            have kO : OwnL (fun j => Old W2 j ∨ j ∈ D :: ds ∨ j = wo.heap.size + 1) W2.heap.size 92 W (.slice pu LL.length cu) LL := by
              have o1 := (HOWN.out.step HT2.out).weak (T := fun j => (Old W2 j ∨ j ∈ ds) ∨ (j = wo.heap.size + 1 ∨ w2.heap.size ≤ j)) fun j hj hs => by
                rcases hs with (hs | hs) | hs | hs
                · exact .inl hs
                · exact .inr (.inl hs)
                · exact .inr (.inr hs)
                · omega
              have o2 := o1.kept (hX.keeps.mono fun j _ hj => .inr hj) fun g hg => hX.block g (o1.lt g hg).2 fun hx => by
                have := (HO2.out.lt g hg).2
                have := (o1.lt g hg).2
                omega
              exact o2.weak fun j hj hs => by
                rcases hs with hs | hs | hs
                · exact .inl (.inl hs)
                · rcases List.mem_cons.1 hs with rfl | hs
                  · exact .inr (.inr hDl)
                  · exact .inl (.inr hs)
                · exact .inr (.inl hs)
            have HK := Lib.hid (And.intro hbl (And.intro k9 (And.intro k10 (And.intro kS (And.intro kM kO)))))
            clear hys hbl hX hK hsz k9 k10 kS hnd kM kO hDl
            gi_wp2
            refine ⟨⟨D :: ds, ?_⟩, ?_⟩
            · (repeat apply Exists.intro)
              refine ⟨?_, ?_⟩
              rotate_left
              · first | rfl | (refine ⟨?_, rfl⟩; repeat (first | refine ⟨rfl, ?_⟩ | exact rfl)) | (repeat (first | refine ⟨rfl, ?_⟩ | exact rfl))
              obtain ⟨g1, g2, g3, g4, g5, g6⟩ := HK.out
              exact ⟨c + 1, by omega, by go_num, g1, g2, g3, g4, g5, g6⟩
            · simp [intOf]; omega
          case body =>
            intro l pre x W hI hlen
            rw [FW_inRound]
            obtain ⟨xk, hxk⟩ := x
            obtain ⟨hbl, hX⟩ := hI
            have hkz : xk < z := by have := HZ.out; omega
            have hsz := HZZ.out
            have hcell : ∀ b o u, w2.cell? ⟨b, o, none⟩ = some u → ¬ (b = wo.heap.size + 1 ∨ w2.heap.size ≤ b) → W.cell? ⟨b, o, none⟩ = some u := fun b o u hu hn => hX.keeps.cell (a := ⟨b, o, none⟩) hn hu
            have r2 := (HS.out.trans (HTI.out.trans HT2.out)).keeps.cell id (HROW.out.2 xk hkz)
            have hbr : br < w.heap.size := HBRL.out
            have hwz : W2.heap.size = w.heap.size + 2 := HZ2.out
            have y0 := hcell wo.heap.size 0 _ ((HB9.out.step HT2.out).cell 0) (by omega)
            have y1 := hcell (wo.heap.size + 2) 0 _ ((HB10.out.step HT2.out).cell 0) (by omega)
            have y2 := hcell wr.heap.size 0 _ (HCB2.out.cell 0) (by omega)
            have y3 := hcell br _ _ r2 (by omega)
            have hcR : c < ((rowP h b s c).set c ⟨cntW b s isF (seatsOf pre), cntW b s isS (seatsOf pre)⟩).length := by rw [List.length_set, rowP_len]; exact hltc
            have n0 := hbl.cell (c * 2)
            have n1 := hbl.cell (c * 2 + 1)
            rw [cellsC_get0 hcR] at n0
            rw [cellsC_get1 hcR] at n1
            simp only [List.getElem_set_self] at n0 n1
            have z0 := hbl.frozen (c * 2)
            have z1 := hbl.frozen (c * 2 + 1)
            have b0 := cntW_bound b s isF (seatsOf pre)
            have b1 := cntW_bound b s isS (seatsOf pre)
            rw [seatsOf_len] at b0 b1
            have hmn := manyN_eq
            obtain ⟨m0, hm0⟩ : ∃ y, y = cntW b s isF (seatsOf pre) := ⟨_, rfl⟩
            obtain ⟨m1, hm1⟩ : ∃ y, y = cntW b s isS (seatsOf pre) := ⟨_, rfl⟩
            rw [← hm0] at n0 b0
            rw [← hm1] at n1 b1
            have hw0 : IntKind.i64.wrap (m0 + 1) = m0 + 1 := by rw [IntKind.wrap_i64]; omega
            have hw1 : IntKind.i64.wrap (m1 + 1) = m1 + 1 := by rw [IntKind.wrap_i64]; omega
            obtain ⟨x, hx⟩ : ∃ x, x = seatAt b s xk := ⟨_, rfl⟩
            rw [← hx] at y3
            have HX := Lib.hid hX
            have HBV := Lib.hid hbl
            have HMM := Lib.hid (And.intro hm0 hm1)
            have HSE := Lib.hid hx
            have hix : (0 : Int) ≤ (xk : Int) ∧ (xk : Int) < (z : Int) := by omega
            have hic : (0 : Int) ≤ (c : Int) ∧ (c : Int) < (h.prices.length : Int) := by omega
            have hlc := HZZ.out
            clear hcell r2 hbr hwz hcR b0 b1 hmn hm0 hm1 hx hX hbl hsz hlen hlc
            by_cases q1 : x = 0
            · have hd : (x == 0) = true := by simpa using q1
              have HN := Lib.hid (count_free (R := rowP h b s c) (c := c) (h := h) (pre := pre) (k := xk) (hk := hxk) (by rw [rowP_len]; exact hltc) (HSE.out.symm.trans q1))
              clear q1
              gi_wp2
              obtain ⟨em0, em1⟩ := HMM.out
              subst em0 em1
              have hX6 : StepX (fun j => j = wo.heap.size + 1 ∨ w2.heap.size ≤ j) W (W.setCell ⟨wo.heap.size + 1, c * 2, none⟩ (.int .i64 (cntW b s isF (seatsOf pre) + 1))) := StepX.setCell (StepX.refl _ _) ⟨wo.heap.size + 1, c * 2, none⟩ _ (.inl rfl)
              have h8 := HBV.out.setCell (c * 2) (.int .i64 (cntW b s isF (seatsOf pre) + 1))
              rw [HN.out] at h8
              exact ⟨(KeepsOthers.setCell _ _ _).from _, hX6, h8, HX.out.trans hX6⟩
            have hd : (x == 0) = false := by simpa using q1
            by_cases q2 : 0 < x
            · have hd2 : decide (0 < x) = true := by simpa using q2
              have HN := Lib.hid (count_sold (R := rowP h b s c) (c := c) (h := h) (pre := pre) (k := xk) (hk := hxk) (by rw [rowP_len]; exact hltc) (show 0 < seatAt b s xk by rw [← HSE.out]; exact q2))
              clear q1 q2
              gi_wp2
              obtain ⟨em0, em1⟩ := HMM.out
              subst em0 em1
              have hX6 : StepX (fun j => j = wo.heap.size + 1 ∨ w2.heap.size ≤ j) W (W.setCell ⟨wo.heap.size + 1, c * 2 + 1, none⟩ (.int .i64 (cntW b s isS (seatsOf pre) + 1))) := StepX.setCell (StepX.refl _ _) ⟨wo.heap.size + 1, c * 2 + 1, none⟩ _ (.inl rfl)
              have h8 := HBV.out.setCell (c * 2 + 1) (.int .i64 (cntW b s isS (seatsOf pre) + 1))
              rw [HN.out] at h8
              exact ⟨(KeepsOthers.setCell _ _ _).from _, hX6, h8, HX.out.trans hX6⟩
            have hd2 : decide (0 < x) = false := by simpa using q2
            have HN := Lib.hid (count_none (R := rowP h b s c) (c := c) (h := h) (pre := pre) (k := xk) (hk := hxk) (show ¬ seatAt b s xk = 0 by rw [← HSE.out]; exact q1) (show ¬ 0 < seatAt b s xk by rw [← HSE.out]; exact q2))
            clear q1 q2
            gi_wp2
            have h8 := HBV.out
            rw [HN.out] at h8
            exact ⟨keepsFrom_step _ (Step.refl _), StepX.refl _ _, h8, HX.out⟩
        · obtain rfl : c = h.prices.length := by omega
          have hbl := HBLC.out
          rw [rowP_full] at hbl
          have hOW := HOWN.out.weak (T := fun j => Old W2 j ∨ j ∈ ds) fun j _ hs => by
            rcases hs with hs | hs
            · exact .inl hs
            · exact .inr (.inl hs)
          have x1 : ¬ avoid (fun j => Old W2 j ∨ j ∈ ds) (.slice pu LL.length cu) (wo.heap.size + 1) := fun e => by
            rcases e with (e | e) | e
            · unfold Old at e; have := HZO.out.1; omega
            · have h8 := (HM.out.2 _ e).2
              have h9 := HBLC.out
              unfold Bx at h9
              rw [h9] at h8
              simp at h8
            · have := (HO2.out.lt _ e).2; omega
          have hrow : SL (avoid (fun j => Old W2 j ∨ j ∈ ds) (.slice pu LL.length cu)) wr (.slice (some ⟨wo.heap.size + 1, 0, none⟩) (rowC h b s (ofL h)).length h.prices.length) (rowC h b s (ofL h)) := SL.bx_counts hbl x1 _ (by rw [rowC_len]; omega) (by rw [rowC_len]; omega)
          rw [rowC_len] at hrow
          have hue := SLe.one (S := avoid (fun j => Old W2 j ∨ j ∈ ds) (.slice pu LL.length cu)) (w := wr) (cs := [.slice (some ⟨wo.heap.size + 1, 0, none⟩) h.prices.length h.prices.length]) (x := rowC h b s (ofL h)) 92 ⟨_, rfl, hrow⟩
          have hown2 := hOW.alloc (.cells #[.slice (some ⟨wo.heap.size + 1, 0, none⟩) h.prices.length h.prices.length] 92)
          have hkl : (countsL h b).length = h.dates.length := by simp [countsL]
          have hkl2 : s < (countsL h b).length := by omega
          have hn1 : LL.length + [rowC h b s (ofL h)].length = s + 1 := by rw [HLL.out]; simp; omega
          have hn2 : s + 1 ≤ maxLen := by simp only [maxLen]; omega
          have hB3 := HBL.out.trans (HSI.out.below.mono HBL.out.size)
          have hn3 : W2.heap.size ≤ (wr.alloc (.cells #[.slice (some ⟨wo.heap.size + 1, 0, none⟩) h.prices.length h.prices.length] 92)).heap.size := by have := hB3.size; simp; omega
          have hn4 : LL ++ [rowC h b s (ofL h)] = (countsL h b).take (s + 1) := by
            rw [HLL.out, List.take_succ_eq_append_getElem hkl2]; simp [countsL]
          have HB3 := Lib.hid hB3
          have HO3 := Lib.hid hown2
          clear hrow hbl hkl hkl2 hB3 hOW
          gi_wp2_with (gi_at_builtin; refine wplI_append (α := List Count) (S := fun j => Old W2 j ∨ j ∈ ds) (base := W2.heap.size) (v := .slice pu LL.length cu) (l := LL) (m := [rowC h b s (ofL h)]) eiCounts rfl _ _ rfl rfl rfl hown2 hue (s + 1) hn1 ((countsL h b).take (s + 1)) hn4 hn2 (by omega) hn3 ?_)
          intro p' c' w2 hown3 hg
          have hB4 := (HB3.out.alloc HB3.out.size (.cells #[.slice (some ⟨wo.heap.size + 1, 0, none⟩) h.prices.length h.prices.length] 92)).grown hg hn3 (fun g hg => (HO2.out.lt g hg).1)
          have hM4 := (HM.out.step (Step.alloc wr (.cells #[.slice (some ⟨wo.heap.size + 1, 0, none⟩) h.prices.length h.prices.length] 92))).keep (StepX.grown (X := fun j => (Value.slice pu LL.length cu).ownBlock = some j) hg fun j hj _ => hj) (fun d hd hx => HO3.out.unmarked (HM.out.step (Step.alloc wr _)) d hx hd)
          have H7 := Lib.hid (And.intro hown3 (And.intro hB4 hM4))
          clear hown2 hue hn1 hn2 hn3 hn4 hown3 hg hB4 hM4 x1
          gi_wp2
          refine ⟨⟨ds, ?_⟩, ?_⟩
          · (repeat apply Exists.intro)
            refine ⟨?_, ?_⟩
            rotate_left
            · first | rfl | (refine ⟨?_, rfl⟩; repeat (first | refine ⟨rfl, ?_⟩ | exact rfl)) | (repeat (first | refine ⟨rfl, ?_⟩ | exact rfl))
            exact ⟨s + 1, by omega, by go_num, H7.out.1, H7.out.2.1, H7.out.2.2⟩
          · simp [intOf]; omega
    · have hlt2 : ¬ s < b.seats.length := by have := HSL.out; omega
      have hts : LL = countsL h b := by rw [HLL.out]; exact List.take_of_length_le (by simp [countsL]; omega)
      have HTS := Lib.hid hts
      clear hts
      gi_wp2
      refine leaves_marks ds _ HM.out ?_
      intro w' hs
      refine ⟨_, results_tmp2 rfl _ _ _, _, by rw [HCK.out]; rfl, ?_, StepX.fresh (HS.out.trans HT.out) hs (fun j hj => by have := HZ2.out; omega)⟩
      rw [HF.out, ← HTS.out]
      have hz2 := HZ2.out
      have hsl := OwnL.slb HO2.out fun g hg hs => by
        rcases hs with hs | hs
        · have := (HO2.out.lt g hg).1; unfold Old at hs; omega
        · obtain ⟨xs', hx, _⟩ := HO2.out
          rcases hx.2 with ⟨he, _⟩ | ⟨g', cap, cur, he, _, hg', _⟩
          · rw [he] at hg; simp [Value.ownBlock] at hg
          · rw [he] at hg
            simp [Value.ownBlock] at hg
            subst hg
            rw [(HM.out.2 _ hs).2] at hg'
            simp at hg'
      exact (hsl.keep (hs.keeps.mono fun j _ hj => .inr hj.2)).weak fun j _ hj => .inl (by unfold Old at *; omega)
end Go.Proofs.Ytbgfmikbhiblgaa
