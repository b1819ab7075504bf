/- Whether a balance, or a weakness, is one, is walked. -/
import Derived.Test.YtdcjbbeoocldeaaMf
import Derived.Test.YtdcjbbeoocldeaaMh
import Derived.Test.YtdcjbbeoocldeaaRows
/- Walks: whether a balance is one, and whether a direction is a weakness, by the document. -/
namespace Go.Proofs.Ytdcjbbeoocldeaa
set_option linter.unusedSimpArgs false
set_option linter.unusedVariables false
open Go.RowKit Go.BT

theorem canvas.within_step (n lo hi : Int) (w : World) : Calls Try.prog 65 #[.int .i64 n, .int .i64 lo, .int .i64 hi] w fun e w' => e = .returned (.bool (withinB n lo hi)) ∧ Step w w' :=
  (canvas.within_any n lo hi w).mono fun _ _ ⟨h1, h2⟩ => ⟨h1, h2 ▸ Step.refl _⟩
theorem bigtopref01.In_step (n lo hi : Int) (w : World) : Calls Try.prog 29 #[.int .i64 n, .int .i64 lo, .int .i64 hi] w fun e w' => e = .returned (.bool (withinB n lo hi)) ∧ Step w w' :=
  (bigtopref01.In_any n lo hi w).mono fun _ _ ⟨h1, h2⟩ => ⟨h1, h2 ▸ Step.refl _⟩
/-- The sums of the first k parts. -/
def sxK (F : List Vec) (ps : List Int) (k : Nat) : Int := Zono.sumN k fun i => ps.getD i 0 * (atV F i).x
def syK (F : List Vec) (ps : List Int) (k : Nat) : Int := Zono.sumN k fun i => ps.getD i 0 * (atV F i).y
theorem sxK_next {F : List Vec} {ps : List Int} {k : Nat} (h1 : k < F.length) (h2 : k < ps.length) : sxK F ps (k + 1) = sxK F ps k + ps[k] * F[k].x := by
  simp [sxK, Zono.sumN, atV, List.getD_eq_getElem?_getD, h1, h2]
theorem syK_next {F : List Vec} {ps : List Int} {k : Nat} (h1 : k < F.length) (h2 : k < ps.length) : syK F ps (k + 1) = syK F ps k + ps[k] * F[k].y := by
  simp [syK, Zono.sumN, atV, List.getD_eq_getElem?_getD, h1, h2]
theorem part_in {a p P : Int} (ha : -500000 ≤ a ∧ a ≤ 500000) (hp : 0 ≤ p ∧ p ≤ P) (hP : P ≤ 500000000000) : -250000000000000000 ≤ p * a ∧ p * a ≤ 250000000000000000 := by
  have := mul_in (A := 500000000000) (B := 500000) (show -500000000000 ≤ p ∧ p ≤ 500000000000 by omega) ha
  omega
theorem within_iff {n lo hi : Int} : withinB n lo hi = true ↔ lo ≤ n ∧ n ≤ hi := by simp [withinB]
theorem sK_bound {F : List Vec} {ps : List Int} {W : Int} (hF : smallV F) (hl : ps.length = F.length) (hW : W ≤ 500000000000) : ∀ k, k ≤ F.length → (∀ j (hj : j < k) (hl : j < ps.length), withinB ps[j] 0 W = true) →
    (-(k * 250000000000000000) ≤ sxK F ps k ∧ sxK F ps k ≤ k * 250000000000000000) ∧ -(k * 250000000000000000) ≤ syK F ps k ∧ syK F ps k ≤ k * 250000000000000000
  | 0, _, _ => by simp [sxK, syK, Zono.sumN]
  | k + 1, hk, h => by
    have ih := sK_bound hF hl hW k (by omega) (fun j hj hl => h j (by omega) hl)
    rw [sxK_next (by omega) (by omega), syK_next (by omega) (by omega)]
    have hs := small_get hF (show k < F.length by omega)
    have hp := within_iff.1 (h k (by omega) (by omega))
    have a := part_in hs.1 hp hW
    have b := part_in hs.2 hp hW
    omega
theorem isBal_whole {F : List Vec} {p : Vec} {b : Bal} (h : withinB b.whole 1 500000000000 = false) : isBalL F p b = false := by simp [isBalL, h]
theorem isBal_len {F : List Vec} {p : Vec} {b : Bal} (h : b.parts.length ≠ F.length) : isBalL F p b = false := by simp [isBalL, h]
theorem isBal_part {F : List Vec} {p : Vec} {b : Bal} {k : Nat} (hk : k < b.parts.length) (h : withinB b.parts[k] 0 b.whole = false) : isBalL F p b = false := by
  have : b.parts.all (fun t => withinB t 0 b.whole) = false := by
    rw [List.all_eq_false]; exact ⟨_, List.getElem_mem hk, by rw [h]; decide⟩
  simp [isBalL, this]
theorem isBal_end {F : List Vec} {p : Vec} {b : Bal} (h1 : withinB b.whole 1 500000000000 = true) (h2 : b.parts.length = F.length) (h3 : ∀ j (hj : j < F.length) (hl : j < b.parts.length), withinB b.parts[j] 0 b.whole = true) :
    isBalL F p b = (decide (b.whole * p.x + sxK F b.parts F.length = 0) && decide (b.whole * p.y + syK F b.parts F.length = 0)) := by
  have : b.parts.all (fun t => withinB t 0 b.whole) = true := by
    rw [List.all_eq_true]; intro t ht
    obtain ⟨j, hj, rfl⟩ := List.getElem_of_mem ht
    exact h3 j (by omega) hj
  unfold isBalL
  rw [h1, this]
  simp [h2, sumPX, sumPY, sxK, syK]
set_option maxRecDepth 100000 in
set_option maxHeartbeats 8000000 in
theorem IsBalance_any (S : Nat → Prop) (F : List Vec) (p : Vec) (b : Bal) (v u : Value) (w : World) (hv : SL S w v F) (hu : AV S w u b) (hF : smallV F) (hn : F.length ≤ 8) (hp : inV 10000000 p) :
    Calls Try.prog 26 #[v, .agg #[.int .i64 p.x, .int .i64 p.y], u] w fun e w' => e = .returned (.bool (isBalL F p b)) ∧ Step w w' := by
  obtain ⟨p3, k3, b3, o3, rfl, _, hm, hpp, hc, _⟩ := hv.vecs
  obtain ⟨c1, rfl, hb⟩ := hu.bal
  obtain ⟨pb, kb, bb, ob, rfl, _, hmb, hpb, hcb, _⟩ := hb.ints
  obtain ⟨W0, hW0⟩ : ∃ W, W = (w.alloc (.cells #[.int .i64 p.x, .int .i64 p.y] 26)).alloc (.cells #[.int .i64 b.whole, .slice pb b.parts.length kb] 52) := ⟨_, rfl⟩
  have hb1 : Bx W0 w.heap.size [.int .i64 p.x, .int .i64 p.y] 26 := by subst hW0; exact (Bx.new w [_, _] _).alloc _
  have hb2 : Bx W0 (w.heap.size + 1) [.int .i64 b.whole, .slice pb b.parts.length kb] 52 := by subst hW0; exact Bx.new' _ [_, _] _ _ (by simp)
  have hS : Step w W0 := by subst hW0; exact (by repeat (first | (with_reducible assumption) | (with_reducible exact Step.refl _) | (with_reducible apply Step.s_alloc) | (with_reducible apply Step.s_drew) | (with_reducible apply Step.s_drewN) | (with_reducible refine Step.trans ?_ (by with_reducible assumption))))
  have HB1 := Lib.hid hb1
  have HB2 := Lib.hid hb2
  have HS := Lib.hid hS
  have HW := Lib.hid hW0
  have HF := Lib.hid hF
  have HP := Lib.hid (And.intro hpp hc)
  have HPB := Lib.hid (And.intro hpb hcb)
  have HPI := Lib.hid hp
  clear hS hb1 hb2 hW0 hF hpp hc hpb hcb hp hv hu hb
  go_enter Try.func26, Try.ntmps26
  go_wp2_with fail
  rw [← HW.out]
  refine (bigtopref01.In_any _ _ _ _).mono ?_
  rintro e w' ⟨rfl, rfl⟩
  cases q : withinB b.whole 1 500000000000 with
  | false =>
    have HN := Lib.hid (isBal_whole (F := F) (p := p) q)
    clear q
    go_wp2
    go_ret
    exact ⟨by rw [HN.out]; rfl, HS.out⟩
  | true =>
    have HWH := Lib.hid q
    clear q
    have x0 := HB1.out.cell 0
    have x1 := HB1.out.cell 1
    have y0 := HB2.out.cell 0
    have y1 := HB2.out.cell 1
    simp only [List.getElem?_cons_zero, List.getElem?_cons_succ] at x0 x1 y0 y1
    by_cases qe : (b.parts.length : Int) = (F.length : Int)
    rotate_left
    · have qd : (((b.parts.length : Int) : Int) != ((F.length : Int) : Int)) = true := by simp; omega
      have q := Lib.hid qe
      clear qe
      have HN := Lib.hid (isBal_len (F := F) (p := p) (b := b) (by have := q.out; omega))
      go_wp2
      go_ret
      exact ⟨by rw [HN.out]; rfl, HS.out⟩
    have qd : (((b.parts.length : Int) : Int) != ((F.length : Int) : Int)) = false := by simp; omega
    have q := Lib.hid qe
    clear qe
    have hbw := within_iff.1 HWH.out
    have hwx := mul_in (A := 500000000000) (B := 10000000) (show -500000000000 ≤ b.whole ∧ b.whole ≤ 500000000000 by omega) HPI.out.1
    have hwy := mul_in (A := 500000000000) (B := 10000000) (show -500000000000 ≤ b.whole ∧ b.whole ≤ 500000000000 by omega) HPI.out.2
    have hx1 : IntKind.i64.wrap (b.whole * p.x) = b.whole * p.x := by rw [IntKind.wrap_i64]; omega
    have hy1 : IntKind.i64.wrap (b.whole * p.y) = b.whole * p.y := by rw [IntKind.wrap_i64]; omega
    have HXY := Lib.hid (And.intro hwx hwy)
    clear hwx hwy
    go_upto_region 3 with (fail)
    go_quiet (fail)
    clear x0 x1 y0 y1 hx1 hy1
    go_wp2
    have HTq : Step W0 (W0.drewN nq) := Step.drewN _ _
    have HTQ := Lib.hid HTq
    clear HTq
    go_loopw [7, 8, 9] (fun x y i wr => ∃ k : Nat, k ≤ F.length ∧ i = .int .i64 k ∧ x = .int .i64 (b.whole * p.x + sxK F b.parts k) ∧ y = .int .i64 (b.whole * p.y + syK F b.parts k) ∧ (∀ j (hj : j < k) (hl : j < b.parts.length), withinB b.parts[j] 0 b.whole = true) ∧ Step W0 wr) (fun _ _ i _ => F.length - (intOf i).toNat)
    case atStart => exact ⟨0, Nat.zero_le _, rfl, by simp [sxK, Zono.sumN], by simp [syK, Zono.sumN], fun j hj => absurd hj (by omega), HTQ.out⟩
    case round =>
      obtain ⟨k, hk, rfl, rfl, rfl, hin, hT⟩ := hrel
      have HIN := Lib.hid hin
      have HT := Lib.hid hT
      have HSK := Lib.hid (sK_bound HF.out (show b.parts.length = F.length by have := q.out; omega) hbw.2 k hk hin)
      obtain ⟨X, hX⟩ : ∃ X, X = b.whole * p.x + sxK F b.parts k := ⟨_, rfl⟩
      obtain ⟨Y, hY⟩ : ∃ Y, Y = b.whole * p.y + syK F b.parts k := ⟨_, rfl⟩
      rw [← hX, ← hY]
      have HX := Lib.hid hX
      have HY := Lib.hid hY
      clear hin hT hX hY
      have hhb := HB2.out.step HT.out
      have y0 := hhb.cell 0
      have y1 := hhb.cell 1
      simp only [List.getElem?_cons_zero, List.getElem?_cons_succ] at y0 y1
      clear hhb
      by_cases hlt : k < F.length
      · have hltb : k < b.parts.length := by have := q.out; omega
        obtain rfl := HP.out.1 (by omega)
        obtain rfl := HPB.out.1 (by omega)
        obtain ⟨e1, e2⟩ := HP.out.2 k hlt
        have e1 := (HS.out.trans HT.out).keeps.cell id e1
        have e2 := (HS.out.trans HT.out).keeps.cell id e2
        have e3 := (HS.out.trans HT.out).keeps.cell id (HPB.out.2 k hltb)
        have hix : (0 : Int) ≤ (k : Int) ∧ (k : Int) < (F.length : Int) := by omega
        have hjx : (0 : Int) ≤ (k : Int) ∧ (k : Int) < (b.parts.length : Int) := by omega
        have HNX := Lib.hid (And.intro (sxK_next hlt hltb) (syK_next hlt hltb))
        have hsm := small_get HF.out hlt
        have HPN := Lib.hid (isBal_part (F := F) (p := p) (b := b) hltb)
        have HLS := Lib.hid (show ∀ j (hj : j < k + 1) (hl : j < b.parts.length), withinB b.parts[k] 0 b.whole = true → withinB b.parts[j] 0 b.whole = true from fun j hj hl h => if e : j = k then by subst e; exact h else HIN.out j (by omega) hl)
        obtain ⟨t, ht⟩ : ∃ t, t = b.parts[k] := ⟨_, rfl⟩
        obtain ⟨f, hf⟩ : ∃ f, f = F[k] := ⟨_, rfl⟩
        rw [← ht] at e3
        simp only [← ht] at HNX HPN HLS
        rw [← hf] at e1 e2 HNX hsm
        have HTF := Lib.hid (And.intro ht hf)
        clear ht hf e1 e2
        go_upto_region 7 with (fail)
        refine wp_region_seq (kdOf [7] []) [0, 1, 0, 7, 15, 0, 32, 127, 255] [0, 1, 2, 3, 4, 5, 6, 7, 8] [] (by kernel_rfl) (by kernel_rfl) (fun i T z hi hk => by simp [kdOf] at hk <;> (try (split at hk <;> cases hk))) ?_
        intro Wx hWx
        have HTx := Lib.hid (HT.out.trans hWx)
        have HTW := Lib.hid hWx
        clear hWx HT
        have HT := HTx
        clear HTx
        have y0 := HTW.out.keeps.cell id y0
        have y1 := HTW.out.keeps.cell id y1
        have e3 := HTW.out.keeps.cell id e3
        repeat (first | (refine run_off rfl rfl (by rfl) ?_; (try simp only [Act.put, List.setIfInBounds_toArray, List.set_cons_zero, List.set_cons_succ])) | (refine run_chain_off rfl rfl (by rfl) (K0_mono _) ?_; (try simp only [Act.put, List.setIfInBounds_toArray, List.set_cons_zero, List.set_cons_succ])) | ((refine run_want rfl rfl (by rfl) ⟨?_, fun W hW => ?_, ?_⟩; rotate_left; (· (have d0 := hW.keeps.cell id y0; have d1 := hW.keeps.cell id y1; have d2 := hW.keeps.cell id e3; go_simp; (try with_reducible rfl)))); (try simp only [Act.put, List.setIfInBounds_toArray, List.set_cons_zero, List.set_cons_succ])))
        refine run_chain rfl rfl (by rfl) (fun Wi hWi K' hK => ?_)
        have HTi := Lib.hid (HT.out.trans hWi)
        have HZW := Lib.hid HTi.out.size
        clear hWi HT
        go_simp
        refine (bigtopref01.In_step t 0 b.whole _).mono ?_
        rintro e wn ⟨rfl, hSn⟩
        have HT := Lib.hid (HTi.out.trans (StepX.of hSn))
        clear HTi
        refine hK _ _ (StepX.of hSn) ?_
        clear hSn
        (try simp only [Act.put, List.setIfInBounds_toArray, List.set_cons_zero, List.set_cons_succ])
        clear y0 y1 e3
        repeat (first | (refine run_off rfl rfl (by rfl) ?_; (try simp only [Act.put, List.setIfInBounds_toArray, List.set_cons_zero, List.set_cons_succ])) | (refine run_chain_off rfl rfl (by rfl) (K0_mono _) ?_; (try simp only [Act.put, List.setIfInBounds_toArray, List.set_cons_zero, List.set_cons_succ])) | ((refine run_want rfl rfl (by rfl) ⟨?_, fun W hW => ?_, ?_⟩; rotate_left; (· (skip; go_simp; (try with_reducible rfl)))); (try simp only [Act.put, List.setIfInBounds_toArray, List.set_cons_zero, List.set_cons_succ])))
        refine run_end (L := []) rfl (fun W6 hW6 => ?_)
        have HT6 := Lib.hid (HT.out.trans hW6)
        clear hW6 HT
        have HT := HT6
        clear HT6
        cases qt : withinB t 0 b.whole with
        | false =>
          have HN := Lib.hid (HPN.out qt)
          clear qt
          go_wp2
          go_ret
          exact ⟨by rw [HN.out]; rfl, HS.out.trans HT.out⟩
        | true =>
          have HL := Lib.hid (fun j hj hl => HLS.out j hj hl qt)
          have hti := part_in hsm.1 (within_iff.1 qt) hbw.2
          have htj := part_in hsm.2 (within_iff.1 qt) hbw.2
          have hw1 : IntKind.i64.wrap (t * f.x) = t * f.x := by rw [IntKind.wrap_i64]; omega
          have hw2 : IntKind.i64.wrap (t * f.y) = t * f.y := by rw [IntKind.wrap_i64]; omega
          have hk8 : k ≤ 7 := by omega
          have hw3 : IntKind.i64.wrap (X + t * f.x) = X + t * f.x := by have h1 := HSK.out; have h2 := HXY.out; have h3 := HX.out; rw [IntKind.wrap_i64]; omega
          have hw4 : IntKind.i64.wrap (Y + t * f.y) = Y + t * f.y := by have h1 := HSK.out; have h2 := HXY.out; have h3 := HY.out; rw [IntKind.wrap_i64]; omega
          clear qt hti htj
          have hS7 := HTW.out
          have y1 := (HB2.out.step HT.out).cell 1
          simp only [List.getElem?_cons_zero, List.getElem?_cons_succ] at y1
          obtain ⟨e1, e2⟩ := HP.out.2 k hlt
          have e1 := (HS.out.trans HT.out).keeps.cell id e1
          have e2 := (HS.out.trans HT.out).keeps.cell id e2
          have e3 := (HS.out.trans HT.out).keeps.cell id (HPB.out.2 k hltb)
          rw [← HTF.out.1] at e3
          rw [← HTF.out.2] at e1 e2
          go_upto_region 9 with (fail)
          go_quiet (fail)
          clear y1 e1 e2 e3 hS7
          go_wp2
          go_roundw
          case rel => exact ⟨k + 1, by omega, by go_num, by rw [HNX.out.1, ← Int.add_assoc, ← HX.out], by rw [HNX.out.2, ← Int.add_assoc, ← HY.out], HL.out, HT.out.trans (Step.drewN _ _)⟩
          case measure => simp [intOf]; omega
      · have hkl : k = F.length := by omega
        have HE := Lib.hid (isBal_end (F := F) (p := p) HWH.out (show b.parts.length = F.length by have := q.out; omega) (fun j hj hl => HIN.out j (by omega) hl))
        rw [← hkl, ← HX.out, ← HY.out] at HE
        clear hkl
        by_cases hx0 : X = 0
        · have hd1 : (X == 0) = true := by simpa using hx0
          by_cases hy0 : Y = 0
          · have hd2 : (Y == 0) = true := by simpa using hy0
            have HN := Lib.hid (show isBalL F p b = true by rw [HE.out, hx0, hy0]; rfl)
            clear hx0 hy0
            go_wp2
            go_ret
            exact ⟨by rw [HN.out]; rfl, HS.out.trans HT.out⟩
          · have hd2 : (Y == 0) = false := by simpa using hy0
            have HN := Lib.hid (show isBalL F p b = false by rw [HE.out]; simp [hy0])
            clear hx0 hy0
            go_wp2
            go_ret
            exact ⟨by rw [HN.out]; rfl, HS.out.trans HT.out⟩
        · have hd1 : (X == 0) = false := by simpa using hx0
          have HN := Lib.hid (show isBalL F p b = false by rw [HE.out]; simp [hx0])
          clear hx0
          go_wp2
          go_ret
          exact ⟨by rw [HN.out]; rfl, HS.out.trans HT.out⟩
end Go.Proofs.Ytdcjbbeoocldeaa
/- Walks: whether a direction is a weakness, by the document; whether it is one, and whether a balance is one, by the program. -/
namespace Go.Proofs.Ytdcjbbeoocldeaa
set_option linter.unusedSimpArgs false
set_option linter.unusedVariables false
open Go.RowKit Go.BT

def wayInB (way : Vec) : Bool := withinB way.x (-1000000) 1000000 && withinB way.y (-1000000) 1000000
def isWeakL (F : List Vec) (p way : Vec) : Bool := wayInB way && decide (helpL F way < dotV way p)
theorem wayIn_in {way : Vec} (h : wayInB way = true) : inV 1000000 way := by
  simp only [wayInB, Bool.and_eq_true, within_iff] at h
  exact h
set_option maxRecDepth 100000 in
set_option maxHeartbeats 8000000 in
theorem IsWeak_any (S : Nat → Prop) (F : List Vec) (p way : Vec) (v : Value) (w : World) (hv : SL S w v F) (hF : smallV F) (hn : F.length ≤ 8) (hp : inV 10000000 p) :
    Calls Try.prog 30 #[v, .agg #[.int .i64 p.x, .int .i64 p.y], .agg #[.int .i64 way.x, .int .i64 way.y]] w fun e w' => e = .returned (.bool (isWeakL F p way)) ∧ Step w w' := by
  obtain ⟨W0, hW0⟩ : ∃ W, W = (w.alloc (.cells #[.int .i64 p.x, .int .i64 p.y] 26)).alloc (.cells #[.int .i64 way.x, .int .i64 way.y] 26) := ⟨_, rfl⟩
  have hb1 : Bx W0 w.heap.size [.int .i64 p.x, .int .i64 p.y] 26 := by subst hW0; exact (Bx.new w [_, _] _).alloc _
  have hb2 : Bx W0 (w.heap.size + 1) [.int .i64 way.x, .int .i64 way.y] 26 := by subst hW0; exact Bx.new' _ [_, _] _ _ (by simp)
  have hS : Step w W0 := by subst hW0; exact (by repeat (first | (with_reducible assumption) | (with_reducible exact Step.refl _) | (with_reducible apply Step.s_alloc) | (with_reducible apply Step.s_drew) | (with_reducible apply Step.s_drewN) | (with_reducible refine Step.trans ?_ (by with_reducible assumption))))
  have HV := Lib.hid (hv.keep (.of_step hS))
  obtain ⟨pv, cv, rfl⟩ := hv.form
  have HB1 := Lib.hid hb1
  have HB2 := Lib.hid hb2
  have HS := Lib.hid hS
  have HW := Lib.hid hW0
  have HF := Lib.hid (And.intro hF hn)
  have HPI := Lib.hid hp
  have HT := Lib.hid (Step.refl W0)
  clear hS hb1 hb2 hW0 hF hp hv hn
  go_enter Try.func30, Try.ntmps30
  cases qx : withinB way.x (-1000000) 1000000 with
  | false =>
    have HQ := Lib.hid qx
    have HN := Lib.hid (show isWeakL F p way = false by unfold isWeakL wayInB; rw [qx]; rfl)
    clear qx
    go_upto_region 1 with (fail)
    rw [← HW.out]
    refine wp_region_seq (kdOf [2, 6, 11, 14] []) [0, 1, 3, 7, 15, 31, 63, 127, 255, 511, 511, 2047, 511, 511, 16383, 32767, 65535, 131071] [0, 1, 2, 3, 4, 5, 6, 7, 8, 9, 10, 12, 13, 11, 14, 15, 16, 17] [] (by kernel_rfl) (by kernel_rfl) (fun i T z hi hk => by simp [kdOf] at hk <;> (try (split at hk <;> cases hk))) ?_
    intro Wx hWx
    have HTx := Lib.hid (HT.out.trans hWx)
    clear hWx HT
    have HT := HTx
    clear HTx
    have a0 := (HB2.out.step HT.out).cell 0
    have a1 := (HB2.out.step HT.out).cell 1
    simp only [List.getElem?_cons_zero, List.getElem?_cons_succ] at a0 a1
    repeat (first | (refine run_off rfl rfl (by rfl) ?_; (try simp only [Act.put, List.setIfInBounds_toArray, List.set_cons_zero, List.set_cons_succ])) | (refine run_chain_off rfl rfl (by rfl) (K0_mono _) ?_; (try simp only [Act.put, List.setIfInBounds_toArray, List.set_cons_zero, List.set_cons_succ])) | ((refine run_want rfl rfl (by rfl) ⟨?_, fun W hW => ?_, ?_⟩; rotate_left; (· (have d0 := hW.keeps.cell id a0; have d1 := hW.keeps.cell id a1; go_simp; (try with_reducible rfl)))); (try simp only [Act.put, List.setIfInBounds_toArray, List.set_cons_zero, List.set_cons_succ])))
    clear a0 a1
    refine run_chain rfl rfl (by rfl) (fun Wi hWi K' hK => ?_)
    have HTi := Lib.hid (HT.out.trans hWi)
    have HZW := Lib.hid HTi.out.size
    clear hWi HT
    go_simp
    refine (bigtopref01.In_step way.x (-1000000) 1000000 _).mono ?_
    rintro e wn ⟨rfl, hSn⟩
    have HT := Lib.hid (HTi.out.trans (StepX.of hSn))
    clear HTi
    rw [HQ.out]
    refine hK _ _ (StepX.of hSn) ?_
    clear hSn
    (try simp only [Act.put, List.setIfInBounds_toArray, List.set_cons_zero, List.set_cons_succ])
    repeat (first | (refine run_off rfl rfl (by rfl) ?_; (try simp only [Act.put, List.setIfInBounds_toArray, List.set_cons_zero, List.set_cons_succ])) | (refine run_chain_off rfl rfl (by rfl) (K0_mono _) ?_; (try simp only [Act.put, List.setIfInBounds_toArray, List.set_cons_zero, List.set_cons_succ])) | ((refine run_want rfl rfl (by rfl) ⟨?_, fun W hW => ?_, ?_⟩; rotate_left; (· (skip; go_simp; (try with_reducible rfl)))); (try simp only [Act.put, List.setIfInBounds_toArray, List.set_cons_zero, List.set_cons_succ])))
    refine run_end (L := []) rfl (fun W6 hW6 => ?_)
    have HT6 := Lib.hid (HT.out.trans hW6)
    clear hW6 HT
    have HT := HT6
    clear HT6
    go_wp2
    go_ret
    exact ⟨by rw [HN.out]; rfl, HS.out.trans HT.out⟩
  | true =>
    have HQ := Lib.hid qx
    cases qy : withinB way.y (-1000000) 1000000 with
    | false =>
      have HQY := Lib.hid qy
      have HN := Lib.hid (show isWeakL F p way = false by unfold isWeakL wayInB; rw [qx, qy]; rfl)
      clear qx qy
      go_upto_region 1 with (fail)
      rw [← HW.out]
      refine wp_region_seq (kdOf [2, 6, 11, 14] []) [0, 1, 3, 7, 15, 31, 63, 127, 255, 511, 511, 2047, 511, 511, 16383, 32767, 65535, 131071] [0, 1, 2, 3, 4, 5, 6, 7, 8, 9, 10, 12, 13, 11, 14, 15, 16, 17] [] (by kernel_rfl) (by kernel_rfl) (fun i T z hi hk => by simp [kdOf] at hk <;> (try (split at hk <;> cases hk))) ?_
      intro Wx hWx
      have HTx := Lib.hid (HT.out.trans hWx)
      clear hWx HT
      have HT := HTx
      clear HTx
      have a0 := (HB2.out.step HT.out).cell 0
      have a1 := (HB2.out.step HT.out).cell 1
      simp only [List.getElem?_cons_zero, List.getElem?_cons_succ] at a0 a1
      repeat (first | (refine run_off rfl rfl (by rfl) ?_; (try simp only [Act.put, List.setIfInBounds_toArray, List.set_cons_zero, List.set_cons_succ])) | (refine run_chain_off rfl rfl (by rfl) (K0_mono _) ?_; (try simp only [Act.put, List.setIfInBounds_toArray, List.set_cons_zero, List.set_cons_succ])) | ((refine run_want rfl rfl (by rfl) ⟨?_, fun W hW => ?_, ?_⟩; rotate_left; (· (have d0 := hW.keeps.cell id a0; have d1 := hW.keeps.cell id a1; go_simp; (try with_reducible rfl)))); (try simp only [Act.put, List.setIfInBounds_toArray, List.set_cons_zero, List.set_cons_succ])))
      clear a0 a1
      refine run_chain rfl rfl (by rfl) (fun Wi hWi K' hK => ?_)
      have HTi := Lib.hid (HT.out.trans hWi)
      have HZW := Lib.hid HTi.out.size
      clear hWi HT
      go_simp
      refine (bigtopref01.In_step way.x (-1000000) 1000000 _).mono ?_
      rintro e wn ⟨rfl, hSn⟩
      have HT := Lib.hid (HTi.out.trans (StepX.of hSn))
      clear HTi
      rw [HQ.out]
      refine hK _ _ (StepX.of hSn) ?_
      clear hSn
      (try simp only [Act.put, List.setIfInBounds_toArray, List.set_cons_zero, List.set_cons_succ])
      have a0 := (HB2.out.step HT.out).cell 0
      have a1 := (HB2.out.step HT.out).cell 1
      simp only [List.getElem?_cons_zero, List.getElem?_cons_succ] at a0 a1
      repeat (first | (refine run_off rfl rfl (by rfl) ?_; (try simp only [Act.put, List.setIfInBounds_toArray, List.set_cons_zero, List.set_cons_succ])) | (refine run_chain_off rfl rfl (by rfl) (K0_mono _) ?_; (try simp only [Act.put, List.setIfInBounds_toArray, List.set_cons_zero, List.set_cons_succ])) | ((refine run_want rfl rfl (by rfl) ⟨?_, fun W hW => ?_, ?_⟩; rotate_left; (· (have d0 := hW.keeps.cell id a0; have d1 := hW.keeps.cell id a1; go_simp; (try with_reducible rfl)))); (try simp only [Act.put, List.setIfInBounds_toArray, List.set_cons_zero, List.set_cons_succ])))
      clear a0 a1
      refine run_chain rfl rfl (by rfl) (fun Wi hWi K' hK => ?_)
      have HTi := Lib.hid (HT.out.trans hWi)
      have HZW := Lib.hid HTi.out.size
      clear hWi HT
      go_simp
      refine (bigtopref01.In_step way.y (-1000000) 1000000 _).mono ?_
      rintro e wn ⟨rfl, hSn⟩
      have HT := Lib.hid (HTi.out.trans (StepX.of hSn))
      clear HTi
      rw [HQY.out]
      refine hK _ _ (StepX.of hSn) ?_
      clear hSn
      (try simp only [Act.put, List.setIfInBounds_toArray, List.set_cons_zero, List.set_cons_succ])
      repeat (first | (refine run_off rfl rfl (by rfl) ?_; (try simp only [Act.put, List.setIfInBounds_toArray, List.set_cons_zero, List.set_cons_succ])) | (refine run_chain_off rfl rfl (by rfl) (K0_mono _) ?_; (try simp only [Act.put, List.setIfInBounds_toArray, List.set_cons_zero, List.set_cons_succ])) | ((refine run_want rfl rfl (by rfl) ⟨?_, fun W hW => ?_, ?_⟩; rotate_left; (· (skip; go_simp; (try with_reducible rfl)))); (try simp only [Act.put, List.setIfInBounds_toArray, List.set_cons_zero, List.set_cons_succ])))
      refine run_end (L := []) rfl (fun W6 hW6 => ?_)
      have HT6 := Lib.hid (HT.out.trans hW6)
      clear hW6 HT
      have HT := HT6
      clear HT6
      go_wp2
      go_ret
      exact ⟨by rw [HN.out]; rfl, HS.out.trans HT.out⟩
    | true =>
      have HQY := Lib.hid qy
      have hwi : wayInB way = true := by unfold wayInB; rw [qx, qy]; rfl
      have HN := Lib.hid (show isWeakL F p way = decide (helpL F way < dotV way p) by unfold isWeakL; rw [hwi]; rfl)
      have HWI := Lib.hid (wayIn_in hwi)
      have HDF := Lib.hid (dot_fits (wayIn_in hwi) HPI.out (by decide))
      clear qx qy hwi
      go_upto_region 1 with (fail)
      rw [← HW.out]
      refine wp_region_seq (kdOf [2, 6, 11, 14] []) [0, 1, 3, 7, 15, 31, 63, 127, 255, 511, 511, 2047, 511, 511, 16383, 32767, 65535, 131071] [0, 1, 2, 3, 4, 5, 6, 7, 8, 9, 10, 12, 13, 11, 14, 15, 16, 17] [] (by kernel_rfl) (by kernel_rfl) (fun i T z hi hk => by simp [kdOf] at hk <;> (try (split at hk <;> cases hk))) ?_
      intro Wx hWx
      have HTx := Lib.hid (HT.out.trans hWx)
      clear hWx HT
      have HT := HTx
      clear HTx
      have c0 := (HB1.out.step HT.out).cell 0
      have c1 := (HB1.out.step HT.out).cell 1
      simp only [List.getElem?_cons_zero, List.getElem?_cons_succ] at c0 c1
      have a0 := (HB2.out.step HT.out).cell 0
      have a1 := (HB2.out.step HT.out).cell 1
      simp only [List.getElem?_cons_zero, List.getElem?_cons_succ] at a0 a1
      repeat (first | (refine run_off rfl rfl (by rfl) ?_; (try simp only [Act.put, List.setIfInBounds_toArray, List.set_cons_zero, List.set_cons_succ])) | (refine run_chain_off rfl rfl (by rfl) (K0_mono _) ?_; (try simp only [Act.put, List.setIfInBounds_toArray, List.set_cons_zero, List.set_cons_succ])) | ((refine run_want rfl rfl (by rfl) ⟨?_, fun W hW => ?_, ?_⟩; rotate_left; (· (have d0 := hW.keeps.cell id a0; have d1 := hW.keeps.cell id a1; have d2 := hW.keeps.cell id c0; have d3 := hW.keeps.cell id c1; go_simp; (try with_reducible rfl)))); (try simp only [Act.put, List.setIfInBounds_toArray, List.set_cons_zero, List.set_cons_succ])))
      clear a0 a1 c0 c1
      refine run_chain rfl rfl (by rfl) (fun Wi hWi K' hK => ?_)
      have HTi := Lib.hid (HT.out.trans hWi)
      have HZW := Lib.hid HTi.out.size
      clear hWi HT
      go_simp
      refine (bigtopref01.In_step way.x (-1000000) 1000000 _).mono ?_
      rintro e wn ⟨rfl, hSn⟩
      have HT := Lib.hid (HTi.out.trans (StepX.of hSn))
      clear HTi
      rw [HQ.out]
      refine hK _ _ (StepX.of hSn) ?_
      clear hSn
      (try simp only [Act.put, List.setIfInBounds_toArray, List.set_cons_zero, List.set_cons_succ])
      have c0 := (HB1.out.step HT.out).cell 0
      have c1 := (HB1.out.step HT.out).cell 1
      simp only [List.getElem?_cons_zero, List.getElem?_cons_succ] at c0 c1
      have a0 := (HB2.out.step HT.out).cell 0
      have a1 := (HB2.out.step HT.out).cell 1
      simp only [List.getElem?_cons_zero, List.getElem?_cons_succ] at a0 a1
      repeat (first | (refine run_off rfl rfl (by rfl) ?_; (try simp only [Act.put, List.setIfInBounds_toArray, List.set_cons_zero, List.set_cons_succ])) | (refine run_chain_off rfl rfl (by rfl) (K0_mono _) ?_; (try simp only [Act.put, List.setIfInBounds_toArray, List.set_cons_zero, List.set_cons_succ])) | ((refine run_want rfl rfl (by rfl) ⟨?_, fun W hW => ?_, ?_⟩; rotate_left; (· (have d0 := hW.keeps.cell id a0; have d1 := hW.keeps.cell id a1; have d2 := hW.keeps.cell id c0; have d3 := hW.keeps.cell id c1; go_simp; (try with_reducible rfl)))); (try simp only [Act.put, List.setIfInBounds_toArray, List.set_cons_zero, List.set_cons_succ])))
      clear a0 a1 c0 c1
      refine run_chain rfl rfl (by rfl) (fun Wi hWi K' hK => ?_)
      have HTi := Lib.hid (HT.out.trans hWi)
      have HZW := Lib.hid HTi.out.size
      clear hWi HT
      go_simp
      refine (bigtopref01.In_step way.y (-1000000) 1000000 _).mono ?_
      rintro e wn ⟨rfl, hSn⟩
      have HT := Lib.hid (HTi.out.trans (StepX.of hSn))
      clear HTi
      rw [HQY.out]
      refine hK _ _ (StepX.of hSn) ?_
      clear hSn
      (try simp only [Act.put, List.setIfInBounds_toArray, List.set_cons_zero, List.set_cons_succ])
      have c0 := (HB1.out.step HT.out).cell 0
      have c1 := (HB1.out.step HT.out).cell 1
      simp only [List.getElem?_cons_zero, List.getElem?_cons_succ] at c0 c1
      have a0 := (HB2.out.step HT.out).cell 0
      have a1 := (HB2.out.step HT.out).cell 1
      simp only [List.getElem?_cons_zero, List.getElem?_cons_succ] at a0 a1
      repeat (first | (refine run_off rfl rfl (by rfl) ?_; (try simp only [Act.put, List.setIfInBounds_toArray, List.set_cons_zero, List.set_cons_succ])) | (refine run_chain_off rfl rfl (by rfl) (K0_mono _) ?_; (try simp only [Act.put, List.setIfInBounds_toArray, List.set_cons_zero, List.set_cons_succ])) | ((refine run_want rfl rfl (by rfl) ⟨?_, fun W hW => ?_, ?_⟩; rotate_left; (· (have d0 := hW.keeps.cell id a0; have d1 := hW.keeps.cell id a1; have d2 := hW.keeps.cell id c0; have d3 := hW.keeps.cell id c1; go_simp; (try with_reducible rfl)))); (try simp only [Act.put, List.setIfInBounds_toArray, List.set_cons_zero, List.set_cons_succ])))
      clear a0 a1 c0 c1
      refine run_chain rfl rfl (by rfl) (fun Wi hWi K' hK => ?_)
      have HTi := Lib.hid (HT.out.trans hWi)
      have HZW := Lib.hid HTi.out.size
      clear hWi HT
      go_simp
      refine (Dot_any way p _ HDF.out.1 HDF.out.2.1 HDF.out.2.2.1).mono ?_
      rintro e wn ⟨rfl, hSn⟩
      have HT := Lib.hid (HTi.out.trans (StepX.of hSn))
      clear HTi
      refine hK _ _ (StepX.of hSn) ?_
      clear hSn
      (try simp only [Act.put, List.setIfInBounds_toArray, List.set_cons_zero, List.set_cons_succ])
      have a0 := (HB2.out.step HT.out).cell 0
      have a1 := (HB2.out.step HT.out).cell 1
      simp only [List.getElem?_cons_zero, List.getElem?_cons_succ] at a0 a1
      repeat (first | (refine run_off rfl rfl (by rfl) ?_; (try simp only [Act.put, List.setIfInBounds_toArray, List.set_cons_zero, List.set_cons_succ])) | (refine run_chain_off rfl rfl (by rfl) (K0_mono _) ?_; (try simp only [Act.put, List.setIfInBounds_toArray, List.set_cons_zero, List.set_cons_succ])) | ((refine run_want rfl rfl (by rfl) ⟨?_, fun W hW => ?_, ?_⟩; rotate_left; (· (have d0 := hW.keeps.cell id a0; have d1 := hW.keeps.cell id a1; go_simp; (try with_reducible rfl)))); (try simp only [Act.put, List.setIfInBounds_toArray, List.set_cons_zero, List.set_cons_succ])))
      clear a0 a1
      refine run_chain rfl rfl (by rfl) (fun Wi hWi K' hK => ?_)
      have HTi := Lib.hid (HT.out.trans hWi)
      have HZW := Lib.hid HTi.out.size
      clear hWi HT
      go_simp
      refine (Help_any S F way _ _ (HV.out.keep (.of_step HTi.out)) HF.out.1 HF.out.2 HWI.out).mono ?_
      rintro e wn ⟨rfl, hSn⟩
      have HT := Lib.hid (HTi.out.trans (StepX.of hSn))
      clear HTi
      refine hK _ _ (StepX.of hSn) ?_
      clear hSn
      (try simp only [Act.put, List.setIfInBounds_toArray, List.set_cons_zero, List.set_cons_succ])
      repeat (first | (refine run_off rfl rfl (by rfl) ?_; (try simp only [Act.put, List.setIfInBounds_toArray, List.set_cons_zero, List.set_cons_succ])) | (refine run_chain_off rfl rfl (by rfl) (K0_mono _) ?_; (try simp only [Act.put, List.setIfInBounds_toArray, List.set_cons_zero, List.set_cons_succ])) | ((refine run_want rfl rfl (by rfl) ⟨?_, fun W hW => ?_, ?_⟩; rotate_left; (· (skip; go_simp; (try with_reducible rfl)))); (try simp only [Act.put, List.setIfInBounds_toArray, List.set_cons_zero, List.set_cons_succ])))
      refine run_end (L := []) rfl (fun W6 hW6 => ?_)
      have HT6 := Lib.hid (HT.out.trans hW6)
      clear hW6 HT
      have HT := HT6
      clear HT6
      go_wp2
      go_ret
      exact ⟨by rw [HN.out]; rfl, HS.out.trans HT.out⟩
end Go.Proofs.Ytdcjbbeoocldeaa
/- Walks: whether a direction is a weakness, and whether a balance is one, by the program. -/
namespace Go.Proofs.Ytdcjbbeoocldeaa
set_option linter.unusedSimpArgs false
set_option linter.unusedVariables false
open Go.RowKit Go.BT

def proveWeakL (l : List Tst) (t : List Head) (i : Int) (p way : Vec) : Bool := decide (atC l t i (cornerB p) = 0) && isWeakL (headF l t i) (headP t i p) way
def proveBalL (l : List Tst) (t : List Head) (i : Int) (p : Vec) (b : Bal) : Bool := decide (atC l t i (cornerB p) = 0) && isBalL (headF l t i) (headP t i p) b
set_option maxRecDepth 100000 in
set_option maxHeartbeats 8000000 in
theorem ProveWeak_any (S : Nat → Prop) (l : List Tst) (t : List Head) (i : Int) (p way : Vec) (v u : Value) (w : World) (hv : SL S w v l) (hu : SL S w u t) :
    Calls Try.prog 32 #[v, u, .int .i64 i, .agg #[.int .i64 p.x, .int .i64 p.y], .agg #[.int .i64 way.x, .int .i64 way.y]] w fun e w' => e = .returned (.bool (proveWeakL l t i p way)) ∧ Step w w' := by
  obtain ⟨vx, vy⟩ := p
  obtain ⟨W0, hW0⟩ : ∃ W, W = (w.alloc (.cells #[.int .i64 vx, .int .i64 vy] 40)).alloc (.cells #[.int .i64 way.x, .int .i64 way.y] 40) := ⟨_, rfl⟩
  have hb : Bx W0 w.heap.size [.int .i64 vx, .int .i64 vy] 40 := by subst hW0; exact (Bx.new w [_, _] _).alloc _
  have hb2 : Bx W0 (w.heap.size + 1) [.int .i64 way.x, .int .i64 way.y] 40 := by subst hW0; exact Bx.new' _ [_, _] _ _ (by simp)
  have hS : Step w W0 := by subst hW0; exact (by repeat (first | (with_reducible assumption) | (with_reducible exact Step.refl _) | (with_reducible apply Step.s_alloc) | (with_reducible apply Step.s_drew) | (with_reducible apply Step.s_drewN) | (with_reducible refine Step.trans ?_ (by with_reducible assumption))))
  have HB := Lib.hid hb
  have HB2 := Lib.hid hb2
  have HV := Lib.hid hv
  have HU := Lib.hid hu
  have HS := Lib.hid hS
  have HW := Lib.hid hW0
  obtain ⟨pv, cv, rfl⟩ := hv.form
  obtain ⟨pu, cu, rfl⟩ := hu.form
  clear hb hb2 hS hW0 hv hu
  dsimp only
  go_enter Try.func32, Try.ntmps32
  go_wp2_with fail
  rw [← HW.out]
  refine (in_any ⟨vx, vy⟩ 10000 _ (by omega)).mono ?_
  rintro e w1 ⟨rfl, hS1⟩
  have hcb0 : (withinB vx (-10000) 10000 && withinB vy (-10000) 10000) = cornerB ⟨vx, vy⟩ := rfl
  dsimp only
  rw [hcb0]
  obtain ⟨cb, hcb⟩ : ∃ c, c = cornerB ⟨vx, vy⟩ := ⟨_, rfl⟩
  rw [← hcb]
  have HCB0 := Lib.hid hcb
  clear hcb hcb0
  go_wp2_with fail
  refine (at_any S l t i cb _ _ _ (HV.out.keep (.of_step (HS.out.trans hS1))) (HU.out.keep (.of_step (HS.out.trans hS1)))).mono ?_
  rintro e w2 ⟨vm, rfl, ⟨a1, a2, a3, a4, a5, a6, a7, a8, rfl⟩, hok, hS2⟩
  obtain ⟨wl, hwl⟩ : ∃ W, W = w2.alloc (.cells #[.int .i64 a1, .int .i64 a2, .slice a3 a4 a5, .slice a6 a7 a8] 117) := ⟨_, rfl⟩
  have hbm : Bx wl w2.heap.size [.int .i64 a1, .int .i64 a2, .slice a3 a4 a5, .slice a6 a7 a8] 117 := by rw [hwl]; exact Bx.new w2 [_, _, _, _] _
  have hsl2 : Step w2 wl := by rw [hwl]; exact Step.alloc _ _
  have HBM := Lib.hid hbm
  have HT := Lib.hid ((hS1.trans hS2).trans hsl2)
  have HWL := Lib.hid hwl
  have HS2 := Lib.hid hsl2
  obtain ⟨c, hc⟩ : ∃ c, c = atC l t i cb := ⟨_, rfl⟩
  rw [← hc] at hok ⊢
  have HC := Lib.hid (show atC l t i (cornerB ⟨vx, vy⟩) = c by rw [← HCB0.out, hc])
  clear hc hbm hsl2 hwl hS1 hS2
  by_cases h0 : c = 0
  rotate_left
  · have hd : (c == 0) = false := by simpa using h0
    have HN := Lib.hid (show proveWeakL l t i ⟨vx, vy⟩ way = false by unfold proveWeakL; rw [HC.out]; simp [h0])
    clear hok h0
    go_upto_region 2 with (fail)
    rw [← HWL.out]
    refine wp_region_seq (kdOf [4, 12, 13, 16] []) [0, 1, 3, 7, 15, 31, 63, 127, 127, 127, 639, 1663, 3967, 8191, 127, 127, 65535, 131071, 262143, 524287] [0, 1, 2, 3, 4, 5, 6, 7, 8, 9, 10, 11, 14, 15, 12, 13, 16, 17, 18, 19] [] (by kernel_rfl) (by kernel_rfl) (fun i T z hi hk => by simp [kdOf] at hk <;> (try (split at hk <;> cases hk))) ?_
    intro Wx hWx
    have HTx := Lib.hid (HT.out.trans hWx)
    clear hWx HT
    have HT := HTx
    clear HTx
    repeat (first | (refine run_off rfl rfl (by rfl) ?_; (try simp only [Act.put, List.setIfInBounds_toArray, List.set_cons_zero, List.set_cons_succ])) | (refine run_chain_off rfl rfl (by rfl) (K0_mono _) ?_; (try simp only [Act.put, List.setIfInBounds_toArray, List.set_cons_zero, List.set_cons_succ])) | ((refine run_want rfl rfl (by rfl) ⟨?_, fun W hW => ?_, ?_⟩; rotate_left; (· (skip; go_simp; (try with_reducible rfl)))); (try simp only [Act.put, List.setIfInBounds_toArray, List.set_cons_zero, List.set_cons_succ])))
    refine run_end (L := []) rfl (fun W6 hW6 => ?_)
    have HT6 := Lib.hid (HT.out.trans hW6)
    clear hW6 HT
    have HT := HT6
    clear HT6
    go_wp2
    go_ret
    exact ⟨by rw [HN.out]; rfl, HS.out.trans HT.out⟩
  subst h0
  have hmv := hok rfl
  obtain ⟨k1, k2, k3, k4, k5⟩ := atC_ok HC.out
  obtain ⟨hpa, hpb, hpn, hpg⟩ := head_parts (headAt_ok k2 k3)
  have HSM := Lib.hid (forces_small k1 hpg)
  have hfl : (forcesL l (headAt t i).guys).length ≤ 8 := by rw [forces_len]; exact hpn
  obtain ⟨F, hF⟩ : ∃ F, F = forcesL l (headAt t i).guys := ⟨_, rfl⟩
  obtain ⟨ar, har⟩ : ∃ a, a = (headAt t i).area := ⟨_, rfl⟩
  rw [← hF] at hmv HSM hfl
  rw [← har] at hmv hpa
  have HFL := Lib.hid hfl
  have HFA := Lib.hid (show headF l t i = F ∧ headP t i ⟨vx, vy⟩ = timesV ⟨vx, vy⟩ ar by unfold headF headP; rw [← hF, ← har]; exact ⟨rfl, rfl⟩)
  have hcor := k4
  clear hF har hok hpb hpn hpg k1 k2 k3 k4 k5 hfl
  have hmv0 := hmv
  obtain ⟨b, p2, n2, q2, p3, q3, hve, hsl⟩ := hmv
  simp at hve
  obtain ⟨rfl, rfl, ⟨rfl, rfl, rfl⟩, rfl, rfl, rfl⟩ := hve
  have HMV := Lib.hid (hmv0.step HS2.out)
  have HSLF := Lib.hid (hsl.keep (.of_step HS2.out))
  obtain ⟨q, hq⟩ : ∃ q, q = timesV ⟨vx, vy⟩ a1 := ⟨_, rfl⟩
  have hqi : inV 10000000 q := by rw [hq]; exact times_in (N := 1000) (corner_in hcor) hpa
  have hqf := in_fits hqi (by decide)
  have HQF := Lib.hid (show fits (a1 * vx) ∧ fits (a1 * vy) by rw [hq] at hqf; exact hqf)
  have HQ := Lib.hid (And.intro hq hqi)
  rw [← hq] at HFA
  have HBl := Lib.hid (HB.out.step HT.out)
  have HB2l := Lib.hid (HB2.out.step HT.out)
  have HSl := Lib.hid (HS.out.trans HT.out)
  clear hmv0 hsl hq hqi hqf hpa hcor HT
  have HT := Lib.hid (Step.refl wl)
  have HN0 := Lib.hid (show proveWeakL l t i ⟨vx, vy⟩ way = isWeakL F q way by unfold proveWeakL; rw [HC.out, HFA.out.1, HFA.out.2]; rfl)
  cases hwi : wayInB way with
  | false =>
    have HWB := Lib.hid hwi
    have HN := Lib.hid (show proveWeakL l t i ⟨vx, vy⟩ way = false by rw [HN0.out]; unfold isWeakL; rw [hwi]; rfl)
    clear hwi
    go_upto_region 2 with (fail)
    rw [← HWL.out]
    refine wp_region_seq (kdOf [4, 12, 13, 16] []) [0, 1, 3, 7, 15, 31, 63, 127, 127, 127, 639, 1663, 3967, 8191, 127, 127, 65535, 131071, 262143, 524287] [0, 1, 2, 3, 4, 5, 6, 7, 8, 9, 10, 11, 14, 15, 12, 13, 16, 17, 18, 19] [] (by kernel_rfl) (by kernel_rfl) (fun i T z hi hk => by simp [kdOf] at hk <;> (try (split at hk <;> cases hk))) ?_
    intro Wx hWx
    have HTx := Lib.hid (HT.out.trans hWx)
    clear hWx HT
    have HT := HTx
    clear HTx
    (try clear m0 m1 m2 m3 n0 n1 a0 b0)
    obtain ⟨m0, m1, m2, m3⟩ := cells4 (HBM.out.step HT.out)
    have n0 := (HBl.out.step HT.out).cell 0
    have n1 := (HBl.out.step HT.out).cell 1
    have a0 := (HB2l.out.step HT.out).cell 0
    have b0 := (HB2l.out.step HT.out).cell 1
    simp only [List.getElem?_cons_zero, List.getElem?_cons_succ] at n0 n1 a0 b0
    repeat (first | (refine run_off rfl rfl (by rfl) ?_; (try simp only [Act.put, List.setIfInBounds_toArray, List.set_cons_zero, List.set_cons_succ])) | (refine run_chain_off rfl rfl (by rfl) (K0_mono _) ?_; (try simp only [Act.put, List.setIfInBounds_toArray, List.set_cons_zero, List.set_cons_succ])) | ((refine run_want rfl rfl (by rfl) ⟨?_, fun W hW => ?_, ?_⟩; rotate_left; (· (have d0 := hW.keeps.cell id m0; have d1 := hW.keeps.cell id m1; have d2 := hW.keeps.cell id m2; have d3 := hW.keeps.cell id m3; have d4 := hW.keeps.cell id n0; have d5 := hW.keeps.cell id n1; have d6 := hW.keeps.cell id a0; have d7 := hW.keeps.cell id b0; go_simp; (try with_reducible rfl)))); (try simp only [Act.put, List.setIfInBounds_toArray, List.set_cons_zero, List.set_cons_succ])))
    clear m0 m1 m2 m3 n0 n1 a0 b0
    refine run_chain rfl rfl (by rfl) (fun Wi hWi K' hK => ?_)
    have HTi := Lib.hid (HT.out.trans hWi)
    have HZW := Lib.hid HTi.out.size
    clear hWi HT
    go_simp
    refine (in_any way 1000000 _ (by omega)).mono ?_
    rintro e wn ⟨rfl, hSn⟩
    have HT := Lib.hid (HTi.out.trans (StepX.of hSn))
    clear HTi
    rw [show (withinB way.x (-1000000) 1000000 && withinB way.y (-1000000) 1000000) = false from HWB.out]
    refine hK _ _ (StepX.of hSn) ?_
    clear hSn
    (try simp only [Act.put, List.setIfInBounds_toArray, List.set_cons_zero, List.set_cons_succ])
    repeat (first | (refine run_off rfl rfl (by rfl) ?_; (try simp only [Act.put, List.setIfInBounds_toArray, List.set_cons_zero, List.set_cons_succ])) | (refine run_chain_off rfl rfl (by rfl) (K0_mono _) ?_; (try simp only [Act.put, List.setIfInBounds_toArray, List.set_cons_zero, List.set_cons_succ])) | ((refine run_want rfl rfl (by rfl) ⟨?_, fun W hW => ?_, ?_⟩; rotate_left; (· (skip; go_simp; (try with_reducible rfl)))); (try simp only [Act.put, List.setIfInBounds_toArray, List.set_cons_zero, List.set_cons_succ])))
    refine run_end (L := []) rfl (fun W6 hW6 => ?_)
    have HT6 := Lib.hid (HT.out.trans hW6)
    clear hW6 HT
    have HT := HT6
    clear HT6
    go_wp2
    go_ret
    exact ⟨by rw [HN.out]; rfl, HSl.out.trans HT.out⟩
  | true =>
    have HWB := Lib.hid hwi
    have HN := Lib.hid (show proveWeakL l t i ⟨vx, vy⟩ way = decide (helpL F way < dotV way q) by rw [HN0.out]; unfold isWeakL; rw [hwi]; rfl)
    have HWI := Lib.hid (wayIn_in hwi)
    have HDF := Lib.hid (dot_fits (wayIn_in hwi) HQ.out.2 (by decide))
    clear hwi
    go_upto_region 2 with (fail)
    rw [← HWL.out]
    refine wp_region_seq (kdOf [4, 12, 13, 16] []) [0, 1, 3, 7, 15, 31, 63, 127, 127, 127, 639, 1663, 3967, 8191, 127, 127, 65535, 131071, 262143, 524287] [0, 1, 2, 3, 4, 5, 6, 7, 8, 9, 10, 11, 14, 15, 12, 13, 16, 17, 18, 19] [] (by kernel_rfl) (by kernel_rfl) (fun i T z hi hk => by simp [kdOf] at hk <;> (try (split at hk <;> cases hk))) ?_
    intro Wx hWx
    have HTx := Lib.hid (HT.out.trans hWx)
    clear hWx HT
    have HT := HTx
    clear HTx
    (try clear m0 m1 m2 m3 n0 n1 a0 b0)
    obtain ⟨m0, m1, m2, m3⟩ := cells4 (HBM.out.step HT.out)
    have n0 := (HBl.out.step HT.out).cell 0
    have n1 := (HBl.out.step HT.out).cell 1
    have a0 := (HB2l.out.step HT.out).cell 0
    have b0 := (HB2l.out.step HT.out).cell 1
    simp only [List.getElem?_cons_zero, List.getElem?_cons_succ] at n0 n1 a0 b0
    repeat (first | (refine run_off rfl rfl (by rfl) ?_; (try simp only [Act.put, List.setIfInBounds_toArray, List.set_cons_zero, List.set_cons_succ])) | (refine run_chain_off rfl rfl (by rfl) (K0_mono _) ?_; (try simp only [Act.put, List.setIfInBounds_toArray, List.set_cons_zero, List.set_cons_succ])) | ((refine run_want rfl rfl (by rfl) ⟨?_, fun W hW => ?_, ?_⟩; rotate_left; (· (have d0 := hW.keeps.cell id m0; have d1 := hW.keeps.cell id m1; have d2 := hW.keeps.cell id m2; have d3 := hW.keeps.cell id m3; have d4 := hW.keeps.cell id n0; have d5 := hW.keeps.cell id n1; have d6 := hW.keeps.cell id a0; have d7 := hW.keeps.cell id b0; go_simp; (try with_reducible rfl)))); (try simp only [Act.put, List.setIfInBounds_toArray, List.set_cons_zero, List.set_cons_succ])))
    clear m0 m1 m2 m3 n0 n1 a0 b0
    refine run_chain rfl rfl (by rfl) (fun Wi hWi K' hK => ?_)
    have HTi := Lib.hid (HT.out.trans hWi)
    have HZW := Lib.hid HTi.out.size
    clear hWi HT
    go_simp
    refine (in_any way 1000000 _ (by omega)).mono ?_
    rintro e wn ⟨rfl, hSn⟩
    have HT := Lib.hid (HTi.out.trans (StepX.of hSn))
    clear HTi
    rw [show (withinB way.x (-1000000) 1000000 && withinB way.y (-1000000) 1000000) = true from HWB.out]
    refine hK _ _ (StepX.of hSn) ?_
    clear hSn
    (try simp only [Act.put, List.setIfInBounds_toArray, List.set_cons_zero, List.set_cons_succ])
    (try clear m0 m1 m2 m3 n0 n1 a0 b0)
    obtain ⟨m0, m1, m2, m3⟩ := cells4 (HBM.out.step HT.out)
    have n0 := (HBl.out.step HT.out).cell 0
    have n1 := (HBl.out.step HT.out).cell 1
    have a0 := (HB2l.out.step HT.out).cell 0
    have b0 := (HB2l.out.step HT.out).cell 1
    simp only [List.getElem?_cons_zero, List.getElem?_cons_succ] at n0 n1 a0 b0
    repeat (first | (refine run_off rfl rfl (by rfl) ?_; (try simp only [Act.put, List.setIfInBounds_toArray, List.set_cons_zero, List.set_cons_succ])) | (refine run_chain_off rfl rfl (by rfl) (K0_mono _) ?_; (try simp only [Act.put, List.setIfInBounds_toArray, List.set_cons_zero, List.set_cons_succ])) | ((refine run_want rfl rfl (by rfl) ⟨?_, fun W hW => ?_, ?_⟩; rotate_left; (· (have d0 := hW.keeps.cell id m0; have d1 := hW.keeps.cell id m1; have d2 := hW.keeps.cell id m2; have d3 := hW.keeps.cell id m3; have d4 := hW.keeps.cell id n0; have d5 := hW.keeps.cell id n1; have d6 := hW.keeps.cell id a0; have d7 := hW.keeps.cell id b0; go_simp; (try with_reducible rfl)))); (try simp only [Act.put, List.setIfInBounds_toArray, List.set_cons_zero, List.set_cons_succ])))
    clear m0 m1 m2 m3 n0 n1 a0 b0
    refine run_chain rfl rfl (by rfl) (fun Wi hWi K' hK => ?_)
    have HTi := Lib.hid (HT.out.trans hWi)
    have HZW := Lib.hid HTi.out.size
    clear hWi HT
    go_simp
    refine (times_any ⟨vx, vy⟩ a1 _ HQF.out.1 HQF.out.2).mono ?_
    rintro e wn ⟨rfl, hSn⟩
    have HT := Lib.hid (HTi.out.trans (StepX.of hSn))
    clear HTi
    rw [← HQ.out.1]
    refine hK _ _ (StepX.of hSn) ?_
    clear hSn
    (try simp only [Act.put, List.setIfInBounds_toArray, List.set_cons_zero, List.set_cons_succ])
    (try clear m0 m1 m2 m3 n0 n1 a0 b0)
    obtain ⟨m0, m1, m2, m3⟩ := cells4 (HBM.out.step HT.out)
    have n0 := (HBl.out.step HT.out).cell 0
    have n1 := (HBl.out.step HT.out).cell 1
    have a0 := (HB2l.out.step HT.out).cell 0
    have b0 := (HB2l.out.step HT.out).cell 1
    simp only [List.getElem?_cons_zero, List.getElem?_cons_succ] at n0 n1 a0 b0
    repeat (first | (refine run_off rfl rfl (by rfl) ?_; (try simp only [Act.put, List.setIfInBounds_toArray, List.set_cons_zero, List.set_cons_succ])) | (refine run_chain_off rfl rfl (by rfl) (K0_mono _) ?_; (try simp only [Act.put, List.setIfInBounds_toArray, List.set_cons_zero, List.set_cons_succ])) | ((refine run_want rfl rfl (by rfl) ⟨?_, fun W hW => ?_, ?_⟩; rotate_left; (· (have d0 := hW.keeps.cell id m0; have d1 := hW.keeps.cell id m1; have d2 := hW.keeps.cell id m2; have d3 := hW.keeps.cell id m3; have d4 := hW.keeps.cell id n0; have d5 := hW.keeps.cell id n1; have d6 := hW.keeps.cell id a0; have d7 := hW.keeps.cell id b0; go_simp; (try with_reducible rfl)))); (try simp only [Act.put, List.setIfInBounds_toArray, List.set_cons_zero, List.set_cons_succ])))
    clear m0 m1 m2 m3 n0 n1 a0 b0
    refine run_chain rfl rfl (by rfl) (fun Wi hWi K' hK => ?_)
    have HTi := Lib.hid (HT.out.trans hWi)
    have HZW := Lib.hid HTi.out.size
    clear hWi HT
    go_simp
    refine (dot_any way q _ HDF.out.1 HDF.out.2.1 HDF.out.2.2.1).mono ?_
    rintro e wn ⟨rfl, hSn⟩
    have HT := Lib.hid (HTi.out.trans (StepX.of hSn))
    clear HTi
    refine hK _ _ (StepX.of hSn) ?_
    clear hSn
    (try simp only [Act.put, List.setIfInBounds_toArray, List.set_cons_zero, List.set_cons_succ])
    (try clear m0 m1 m2 m3 n0 n1 a0 b0)
    obtain ⟨m0, m1, m2, m3⟩ := cells4 (HBM.out.step HT.out)
    have n0 := (HBl.out.step HT.out).cell 0
    have n1 := (HBl.out.step HT.out).cell 1
    have a0 := (HB2l.out.step HT.out).cell 0
    have b0 := (HB2l.out.step HT.out).cell 1
    simp only [List.getElem?_cons_zero, List.getElem?_cons_succ] at n0 n1 a0 b0
    repeat (first | (refine run_off rfl rfl (by rfl) ?_; (try simp only [Act.put, List.setIfInBounds_toArray, List.set_cons_zero, List.set_cons_succ])) | (refine run_chain_off rfl rfl (by rfl) (K0_mono _) ?_; (try simp only [Act.put, List.setIfInBounds_toArray, List.set_cons_zero, List.set_cons_succ])) | ((refine run_want rfl rfl (by rfl) ⟨?_, fun W hW => ?_, ?_⟩; rotate_left; (· (have d0 := hW.keeps.cell id m0; have d1 := hW.keeps.cell id m1; have d2 := hW.keeps.cell id m2; have d3 := hW.keeps.cell id m3; have d4 := hW.keeps.cell id n0; have d5 := hW.keeps.cell id n1; have d6 := hW.keeps.cell id a0; have d7 := hW.keeps.cell id b0; go_simp; (try with_reducible rfl)))); (try simp only [Act.put, List.setIfInBounds_toArray, List.set_cons_zero, List.set_cons_succ])))
    clear m0 m1 m2 m3 n0 n1 a0 b0
    refine run_chain rfl rfl (by rfl) (fun Wi hWi K' hK => ?_)
    have HTi := Lib.hid (HT.out.trans hWi)
    have HZW := Lib.hid HTi.out.size
    clear hWi HT
    go_simp
    refine (help_any F a1 way _ _ (HMV.out.step HTi.out) HSM.out HFL.out HWI.out).mono ?_
    rintro e wn ⟨rfl, hSn⟩
    have HT := Lib.hid (HTi.out.trans (StepX.of hSn))
    clear HTi
    refine hK _ _ (StepX.of hSn) ?_
    clear hSn
    (try simp only [Act.put, List.setIfInBounds_toArray, List.set_cons_zero, List.set_cons_succ])
    repeat (first | (refine run_off rfl rfl (by rfl) ?_; (try simp only [Act.put, List.setIfInBounds_toArray, List.set_cons_zero, List.set_cons_succ])) | (refine run_chain_off rfl rfl (by rfl) (K0_mono _) ?_; (try simp only [Act.put, List.setIfInBounds_toArray, List.set_cons_zero, List.set_cons_succ])) | ((refine run_want rfl rfl (by rfl) ⟨?_, fun W hW => ?_, ?_⟩; rotate_left; (· (skip; go_simp; (try with_reducible rfl)))); (try simp only [Act.put, List.setIfInBounds_toArray, List.set_cons_zero, List.set_cons_succ])))
    refine run_end (L := []) rfl (fun W6 hW6 => ?_)
    have HT6 := Lib.hid (HT.out.trans hW6)
    clear hW6 HT
    have HT := HT6
    clear HT6
    go_wp2
    go_ret
    exact ⟨by rw [HN.out]; rfl, HSl.out.trans HT.out⟩
end Go.Proofs.Ytdcjbbeoocldeaa
/- Walks: whether a balance is one, by the program. -/
namespace Go.Proofs.Ytdcjbbeoocldeaa
set_option linter.unusedSimpArgs false
set_option linter.unusedVariables false
open Go.RowKit Go.BT

theorem sum2_fits' {a b : Vec} (ha : fits a.x ∧ fits a.y) (hb : fits (a.x + b.x) ∧ fits (a.y + b.y)) : ∀ k, k ≤ [a, b].length → fits (sumL ([a, b].take k)).x ∧ fits (sumL ([a, b].take k)).y := by
  unfold fits at ha hb
  intro k hk
  match k, hk with
  | 0, _ => simp [sumL, fits]
  | 1, _ => simp [sumL, addV, fits]; omega
  | 2, _ => simp [sumL, addV, fits]; omega
set_option maxRecDepth 100000 in
set_option maxHeartbeats 8000000 in
theorem ProveBalance_any (S : Nat → Prop) (l : List Tst) (t : List Head) (i : Int) (p : Vec) (bb : Bal) (v u vb : Value) (w : World) (hv : SL S w v l) (hu : SL S w u t) (hvb : AV S w vb bb) :
    Calls Try.prog 31 #[v, u, .int .i64 i, .agg #[.int .i64 p.x, .int .i64 p.y], vb] w fun e w' => e = .returned (.bool (proveBalL l t i p bb)) ∧ Step w w' := by
  obtain ⟨vx, vy⟩ := p
  obtain ⟨c1, rfl, hbl⟩ := hvb.bal
  obtain ⟨pb, kb, ob, oo, rfl, _, hmb, hpb, hcb, hob⟩ := hbl.ints
  obtain ⟨W0, hW0⟩ : ∃ W, W = (w.alloc (.cells #[.int .i64 vx, .int .i64 vy] 40)).alloc (.cells #[.int .i64 bb.whole, .slice pb bb.parts.length kb] 31) := ⟨_, rfl⟩
  have hb : Bx W0 w.heap.size [.int .i64 vx, .int .i64 vy] 40 := by subst hW0; exact (Bx.new w [_, _] _).alloc _
  have hb2 : Bx W0 (w.heap.size + 1) [.int .i64 bb.whole, .slice pb bb.parts.length kb] 31 := by subst hW0; exact Bx.new' _ [_, _] _ _ (by simp)
  have hS : Step w W0 := by subst hW0; exact (by repeat (first | (with_reducible assumption) | (with_reducible exact Step.refl _) | (with_reducible apply Step.s_alloc) | (with_reducible apply Step.s_drew) | (with_reducible apply Step.s_drewN) | (with_reducible refine Step.trans ?_ (by with_reducible assumption))))
  have HB := Lib.hid hb
  have HB2 := Lib.hid hb2
  have HV := Lib.hid hv
  have HU := Lib.hid hu
  have HS := Lib.hid hS
  have HW := Lib.hid hW0
  have HPB := Lib.hid (And.intro hpb (And.intro hcb (show 0 < bb.parts.length → ob < w.heap.size from fun h => (hob h).1)))
  obtain ⟨pv, cv, rfl⟩ := hv.form
  obtain ⟨pu, cu, rfl⟩ := hu.form
  clear hb hb2 hS hW0 hv hu hvb hbl hpb hcb hob
  dsimp only
  go_enter Try.func31, Try.ntmps31
  go_wp2_with fail
  rw [← HW.out]
  refine (in_any ⟨vx, vy⟩ 10000 _ (by omega)).mono ?_
  rintro e w1 ⟨rfl, hS1⟩
  have hcb0 : (withinB vx (-10000) 10000 && withinB vy (-10000) 10000) = cornerB ⟨vx, vy⟩ := rfl
  dsimp only
  rw [hcb0]
  obtain ⟨cb, hcb⟩ : ∃ c, c = cornerB ⟨vx, vy⟩ := ⟨_, rfl⟩
  rw [← hcb]
  have HCB0 := Lib.hid hcb
  clear hcb hcb0
  go_wp2_with fail
  refine (at_any S l t i cb _ _ _ (HV.out.keep (.of_step (HS.out.trans hS1))) (HU.out.keep (.of_step (HS.out.trans hS1)))).mono ?_
  rintro e w2 ⟨vm, rfl, ⟨a1, a2, a3, a4, a5, a6, a7, a8, rfl⟩, hok, hS2⟩
  obtain ⟨wl, hwl⟩ : ∃ W, W = w2.alloc (.cells #[.int .i64 a1, .int .i64 a2, .slice a3 a4 a5, .slice a6 a7 a8] 117) := ⟨_, rfl⟩
  have hbm : Bx wl w2.heap.size [.int .i64 a1, .int .i64 a2, .slice a3 a4 a5, .slice a6 a7 a8] 117 := by rw [hwl]; exact Bx.new w2 [_, _, _, _] _
  have hsl2 : Step w2 wl := by rw [hwl]; exact Step.alloc _ _
  have HBM := Lib.hid hbm
  have HT := Lib.hid ((hS1.trans hS2).trans hsl2)
  have HWL := Lib.hid hwl
  have HS2 := Lib.hid hsl2
  obtain ⟨c, hc⟩ : ∃ c, c = atC l t i cb := ⟨_, rfl⟩
  rw [← hc] at hok ⊢
  have HC := Lib.hid (show atC l t i (cornerB ⟨vx, vy⟩) = c by rw [← HCB0.out, hc])
  clear hc hbm hsl2 hwl hS1 hS2
  by_cases h0 : c = 0
  rotate_left
  · have hd : (c != 0) = true := by simpa using h0
    have HN := Lib.hid (show proveBalL l t i ⟨vx, vy⟩ bb = false by unfold proveBalL; rw [HC.out]; simp [h0])
    clear hok h0
    go_upto_region 2 with (fail)
    rw [← HWL.out]
    go_wp2
    go_ret
    exact ⟨by rw [HN.out]; rfl, HS.out.trans HT.out⟩
  subst h0
  have hmv := hok rfl
  obtain ⟨k1, k2, k3, k4, k5⟩ := atC_ok HC.out
  obtain ⟨hpa, hpb, hpn, hpg⟩ := head_parts (headAt_ok k2 k3)
  have HSM := Lib.hid (forces_small k1 hpg)
  have hfl : (forcesL l (headAt t i).guys).length ≤ 8 := by rw [forces_len]; exact hpn
  obtain ⟨F, hF⟩ : ∃ F, F = forcesL l (headAt t i).guys := ⟨_, rfl⟩
  obtain ⟨ar, har⟩ : ∃ a, a = (headAt t i).area := ⟨_, rfl⟩
  rw [← hF] at hmv HSM hfl
  rw [← har] at hmv hpa
  have HFL := Lib.hid hfl
  have HFA := Lib.hid (show headF l t i = F ∧ headP t i ⟨vx, vy⟩ = timesV ⟨vx, vy⟩ ar by unfold headF headP; rw [← hF, ← har]; exact ⟨rfl, rfl⟩)
  have hcor := k4
  clear hF har hok hpb hpn hpg k1 k2 k3 k4 k5 hfl
  have hmv0 := hmv
  obtain ⟨b, p2, n2, q2, p3, q3, hve, hsl⟩ := hmv
  simp at hve
  obtain ⟨rfl, rfl, ⟨rfl, rfl, rfl⟩, rfl, rfl, rfl⟩ := hve
  have HMV := Lib.hid (hmv0.step HS2.out)
  have HSLF := Lib.hid (hsl.keep (.of_step HS2.out))
  obtain ⟨q, hq⟩ : ∃ q, q = timesV ⟨vx, vy⟩ a1 := ⟨_, rfl⟩
  have hqi : inV 10000000 q := by rw [hq]; exact times_in (N := 1000) (corner_in hcor) hpa
  have hqf := in_fits hqi (by decide)
  have HQF := Lib.hid (show fits (a1 * vx) ∧ fits (a1 * vy) by rw [hq] at hqf; exact hqf)
  have HQ := Lib.hid (And.intro hq hqi)
  rw [← hq] at HFA
  have HBl := Lib.hid (HB.out.step HT.out)
  have HB2l := Lib.hid (HB2.out.step HT.out)
  have HSl := Lib.hid (HS.out.trans HT.out)
  clear hmv0 hsl hq hqi hqf hpa hcor HT
  have HT := Lib.hid (Step.refl wl)
  have HN0 := Lib.hid (show proveBalL l t i ⟨vx, vy⟩ bb = isBalL F q bb by unfold proveBalL; rw [HC.out, HFA.out.1, HFA.out.2]; rfl)
  have HSLF' := Lib.hid (HSLF.out.weak (T := fun j => wl.heap.size ≤ j) (fun j h1 h2 => by omega))
  obtain ⟨p3', c3', b3, o3, he3, _, _, hp3, hc3, hb3⟩ := HSLF'.out.vecs
  injection he3 with he31 _ he33
  subst he31 he33
  have HP3 := Lib.hid (And.intro hp3 (And.intro hc3 hb3))
  clear hp3 hc3 hb3
  (try clear m0 m1 m2 m3 n0 n1 a0 b0)
  obtain ⟨m0, m1, m2, m3⟩ := cells4 (HBM.out.step HT.out)
  have n0 := (HBl.out.step HT.out).cell 0
  have n1 := (HBl.out.step HT.out).cell 1
  have a0 := (HB2l.out.step HT.out).cell 0
  have b0 := (HB2l.out.step HT.out).cell 1
  simp only [List.getElem?_cons_zero, List.getElem?_cons_succ] at n0 n1 a0 b0
  go_upto_region 2 with (fail)
  rw [← HWL.out]
  go_wp2_with fail
  refine (canvas.within_any _ _ _ _).mono ?_
  rintro e w' ⟨rfl, rfl⟩
  cases qw : withinB bb.whole 1 500000000000 with
  | false =>
    have HN := Lib.hid ((HN0.out).trans (isBal_whole qw))
    clear qw
    go_wp2
    go_ret
    exact ⟨by rw [HN.out]; rfl, HSl.out⟩
  | true =>
    have HWH := Lib.hid qw
    clear qw
    by_cases qle : (bb.parts.length : Int) = (F.length : Int)
    rotate_left
    · have qld : (((bb.parts.length : Int) : Int) != ((F.length : Int) : Int)) = true := by simp; omega
      have ql := Lib.hid qle
      clear qle
      have HN := Lib.hid ((HN0.out).trans (isBal_len (p := q) (by have := ql.out; omega)))
      go_wp2
      go_ret
      exact ⟨by rw [HN.out]; rfl, HSl.out⟩
    have qld : (((bb.parts.length : Int) : Int) != ((F.length : Int) : Int)) = false := by simp; omega
    have ql := Lib.hid qle
    clear qle
    have hbw := within_iff.1 HWH.out
    have hwx := mul_in (A := 500000000000) (B := 10000000) (show -500000000000 ≤ bb.whole ∧ bb.whole ≤ 500000000000 by omega) HQ.out.2.1
    have hwy := mul_in (A := 500000000000) (B := 10000000) (show -500000000000 ≤ bb.whole ∧ bb.whole ≤ 500000000000 by omega) HQ.out.2.2
    have HXY := Lib.hid (And.intro hwx hwy)
    clear hwx hwy
    go_upto_region 4 with (fail)
    clear m0 m1 m2 m3 n0 n1 a0 b0
    have HSZ0 := Lib.hid (HT.out.size)
    refine wp_region_seq (kdOf [4, 7] [(8, 40, .agg #[.int .i64 0, .int .i64 0])]) [0, 0, 2, 6, 15, 0, 32, 127, 0, 511] [0, 1, 2, 3, 5, 6, 4, 7, 8] [9] (by kernel_rfl) (by kernel_rfl) (fun i T z hi hk => by simp only [List.mem_cons, List.not_mem_nil, or_false] at hi; rcases hi with rfl | rfl | rfl | rfl | rfl | rfl | rfl | rfl | rfl <;> simp [kdOf] at hk <;> (obtain ⟨rfl, rfl⟩ := hk; first | (show Option.bind _ _ = some _; kernel_rfl) | (refine ⟨_, rfl, fun _ _ => ?_⟩; go_simp))) ?_
    intro Wx hWx
    have HTx := Lib.hid (HT.out.trans hWx)
    clear hWx HT
    have HT := HTx
    clear HTx
    (try clear m0 m1 m2 m3 n0 n1 a0 b0)
    obtain ⟨m0, m1, m2, m3⟩ := cells4 (HBM.out.step HT.out)
    have n0 := (HBl.out.step HT.out).cell 0
    have n1 := (HBl.out.step HT.out).cell 1
    have a0 := (HB2l.out.step HT.out).cell 0
    have b0 := (HB2l.out.step HT.out).cell 1
    simp only [List.getElem?_cons_zero, List.getElem?_cons_succ] at n0 n1 a0 b0
    repeat (first | (refine run_off rfl rfl (by rfl) ?_; (try simp only [Act.put, List.setIfInBounds_toArray, List.set_cons_zero, List.set_cons_succ])) | (refine run_chain_off rfl rfl (by rfl) (K0_mono _) ?_; (try simp only [Act.put, List.setIfInBounds_toArray, List.set_cons_zero, List.set_cons_succ])) | ((refine run_want rfl rfl (by rfl) ⟨?_, fun W hW => ?_, ?_⟩; rotate_left; (· (have d0 := hW.keeps.cell id m0; have d1 := hW.keeps.cell id m1; have d2 := hW.keeps.cell id m2; have d3 := hW.keeps.cell id m3; have d4 := hW.keeps.cell id n0; have d5 := hW.keeps.cell id n1; have d6 := hW.keeps.cell id a0; have d7 := hW.keeps.cell id b0; go_simp; (try with_reducible rfl)))); (try simp only [Act.put, List.setIfInBounds_toArray, List.set_cons_zero, List.set_cons_succ])))
    clear m0 m1 m2 m3 n0 n1 a0 b0
    refine run_chain rfl rfl (by rfl) (fun Wi hWi K' hK => ?_)
    have HTi := Lib.hid (HT.out.trans hWi)
    have HZW := Lib.hid HTi.out.size
    clear hWi HT
    go_simp
    refine (times_any ⟨vx, vy⟩ a1 _ HQF.out.1 HQF.out.2).mono ?_
    rintro e wn ⟨rfl, hSn⟩
    have HT := Lib.hid (HTi.out.trans (StepX.of hSn))
    clear HTi
    rw [← HQ.out.1]
    refine hK _ _ (StepX.of hSn) ?_
    clear hSn
    (try simp only [Act.put, List.setIfInBounds_toArray, List.set_cons_zero, List.set_cons_succ])
    (try clear m0 m1 m2 m3 n0 n1 a0 b0)
    obtain ⟨m0, m1, m2, m3⟩ := cells4 (HBM.out.step HT.out)
    have n0 := (HBl.out.step HT.out).cell 0
    have n1 := (HBl.out.step HT.out).cell 1
    have a0 := (HB2l.out.step HT.out).cell 0
    have b0 := (HB2l.out.step HT.out).cell 1
    simp only [List.getElem?_cons_zero, List.getElem?_cons_succ] at n0 n1 a0 b0
    repeat (first | (refine run_off rfl rfl (by rfl) ?_; (try simp only [Act.put, List.setIfInBounds_toArray, List.set_cons_zero, List.set_cons_succ])) | (refine run_chain_off rfl rfl (by rfl) (K0_mono _) ?_; (try simp only [Act.put, List.setIfInBounds_toArray, List.set_cons_zero, List.set_cons_succ])) | ((refine run_want rfl rfl (by rfl) ⟨?_, fun W hW => ?_, ?_⟩; rotate_left; (· (have d0 := hW.keeps.cell id m0; have d1 := hW.keeps.cell id m1; have d2 := hW.keeps.cell id m2; have d3 := hW.keeps.cell id m3; have d4 := hW.keeps.cell id n0; have d5 := hW.keeps.cell id n1; have d6 := hW.keeps.cell id a0; have d7 := hW.keeps.cell id b0; go_simp; (try with_reducible rfl)))); (try simp only [Act.put, List.setIfInBounds_toArray, List.set_cons_zero, List.set_cons_succ])))
    clear m0 m1 m2 m3 n0 n1 a0 b0
    refine run_chain rfl rfl (by rfl) (fun Wi hWi K' hK => ?_)
    have HTi := Lib.hid (HT.out.trans hWi)
    have HZW := Lib.hid HTi.out.size
    clear hWi HT
    go_simp
    refine (times_any q bb.whole _ (by have := HXY.out; unfold fits; omega) (by have := HXY.out; unfold fits; omega)).mono ?_
    rintro e wn ⟨rfl, hSn⟩
    have HT := Lib.hid (HTi.out.trans (StepX.of hSn))
    clear HTi
    refine hK _ _ (StepX.of hSn) ?_
    clear hSn
    (try simp only [Act.put, List.setIfInBounds_toArray, List.set_cons_zero, List.set_cons_succ])
    refine run_alloc rfl rfl (fun W5 g hW5 hg hgb hgN => ?_)
    (try simp only [Act.put, List.setIfInBounds_toArray, List.set_cons_zero, List.set_cons_succ])
    refine run_end (L := [_]) rfl (fun W6 hW6 => ?_)
    have hb6 := Bx.step (w := W5) (cs := [_, _]) hg hW6
    refine wpl_store (v := .agg #[.int .i64 (timesV q bb.whole).x, .int .i64 (timesV q bb.whole).y]) rfl _ _ _ rfl rfl rfl hb6 (by kernel_rfl) (by simp [Value.cells]) (by simp [Value.cells, Value.oneCell']) [.int .i64 (timesV q bb.whole).x, .int .i64 (timesV q bb.whole).y] rfl (fun w7 hb7 hw7 => ?_)
    have hgo : wl.heap.size ≤ g := by have := HSZ0.out; omega
    have HG := Lib.hid hgo
    have HB7 := Lib.hid hb7
    have HTx := Lib.hid (Step.wrote ((HT.out.trans hW5).trans hW6) hw7 (by omega))
    clear hW5 hg hgb hgN hW6 hb6 hb7 hw7 HT HSZ0 hgo
    go_upto_region 5 with (fail)
    have HT := HTx
    obtain ⟨m0, m1, m2, m3⟩ := cells4 (HBM.out.step HT.out)
    clear HT
    go_wp2
    go_loopw [53] (fun i wr => ∃ k : Nat, k ≤ F.length ∧ i = .int .i64 k ∧ Bx wr g [.int .i64 (bb.whole * q.x + sxK F bb.parts k), .int .i64 (bb.whole * q.y + syK F bb.parts k)] 40 ∧ (∀ j (hj : j < k) (hl : j < bb.parts.length), withinB bb.parts[j] 0 bb.whole = true) ∧ StepX (fun j => j = g) w7 wr) (fun i _ => F.length - (intOf i).toNat)
    case atStart => exact ⟨0, Nat.zero_le _, rfl, by simpa [sxK, syK, Zono.sumN, timesV] using HB7.out, fun j hj => absurd hj (by omega), StepX.refl _ _⟩
    case round =>
      obtain ⟨k, hk, rfl, hb3, hin, hX⟩ := hrel
      have HIN := Lib.hid hin
      have HSK := Lib.hid (sK_bound HSM.out (show bb.parts.length = F.length by have := ql.out; omega) hbw.2 k hk hin)
      have HB3 := Lib.hid hb3
      have HX := Lib.hid hX
      clear hin hX hb3 m0 m1 m2 m3
      have hgl := HG.out
      by_cases hlt : k < F.length
      · have hltb : k < bb.parts.length := by have := ql.out; omega
        obtain rfl := HP3.out.1 (by omega)
        obtain rfl := HPB.out.1 (by omega)
        have hbo := HPB.out.2.2 (by omega)
        obtain ⟨e1, e2⟩ := HP3.out.2.1 k hlt
        have hKX : ∀ j, j < wl.heap.size → ¬ (j = g) := fun j hj => by omega
        have hKT : Keeps (fun j => j = g) wl wr := (Keeps.of_step HTx.out).trans HX.out.keeps
        have e1 := hKT.cell (a := ⟨b3, _, none⟩) (by have := (HP3.out.2.2 (by omega)).1; exact hKX _ this) e1
        have e2 := hKT.cell (a := ⟨b3, _, none⟩) (by have := (HP3.out.2.2 (by omega)).1; exact hKX _ this) e2
        have e3 := hKT.cell (a := ⟨ob, _, none⟩) (by have := HSl.out.size; have := HBl.out.lt; show ¬ ob = g; omega) (HSl.out.keeps.cell id (HPB.out.2.1 k hltb))
        have hm := HBM.out.keep hKT (hKX _ HBM.out.lt)
        have hb := HB2l.out.keep hKT (hKX _ HB2l.out.lt)
        have hix : (0 : Int) ≤ (k : Int) ∧ (k : Int) < (F.length : Int) := by omega
        have hjx : (0 : Int) ≤ (k : Int) ∧ (k : Int) < (bb.parts.length : Int) := by omega
        have HNX := Lib.hid (And.intro (sxK_next hlt hltb) (syK_next hlt hltb))
        have hsm := small_get HSM.out hlt
        have HPN := Lib.hid (isBal_part (F := F) (p := q) (b := bb) hltb)
        have HLS := Lib.hid (show ∀ j (hj : j < k + 1) (hl : j < bb.parts.length), withinB bb.parts[k] 0 bb.whole = true → withinB bb.parts[j] 0 bb.whole = true from fun j hj hl h => if e : j = k then by subst e; exact h else HIN.out j (by omega) hl)
        obtain ⟨tt, ht⟩ : ∃ t, t = bb.parts[k] := ⟨_, rfl⟩
        obtain ⟨f, hf⟩ : ∃ f, f = F[k] := ⟨_, rfl⟩
        rw [← ht] at e3
        simp only [← ht] at HNX HPN HLS
        rw [← hf] at e1 e2 HNX hsm
        clear ht hf hKX
        go_upto_region 8 with (fail)
        obtain ⟨wa, hwa⟩ : ∃ W, W = wr.alloc (.cells #[.int .i64 f.x, .int .i64 f.y] 40) := ⟨_, rfl⟩
        rw [← hwa]
        have HGA := Lib.hid (show Bx wa wr.heap.size [.int .i64 f.x, .int .i64 f.y] 40 by rw [hwa]; exact Bx.new wr [_, _] _)
        have hsa : Step wr wa := by rw [hwa]; exact Step.alloc _ _
        have HSA := Lib.hid hsa
        have HM := Lib.hid (hm.step hsa)
        have HB2r := Lib.hid (hb.step hsa)
        have HB3r := Lib.hid (HB3.out.step hsa)
        have HE3 := Lib.hid (hsa.keeps.cell id e3)
        have HT := Lib.hid (Step.refl wa)
        have HSZ := Lib.hid hsa.size
        clear hwa hsa hm hb e1 e2 e3 hKT
        refine wp_region_seq (kdOf [7] []) [0, 1, 0, 7, 15, 0, 32, 127, 255] [0, 1, 2, 3, 4, 5, 6, 7, 8] [] (by kernel_rfl) (by kernel_rfl) (fun i T z hi hk => by simp [kdOf] at hk <;> (try (split at hk <;> cases hk))) ?_
        intro Wx hWx
        have HTy := Lib.hid (HT.out.trans hWx)
        clear hWx HT
        have HT := HTy
        clear HTy
        have y0 := (HB2r.out.step HT.out).cell 0
        have y1 := (HB2r.out.step HT.out).cell 1
        have e3 := HT.out.keeps.cell id HE3.out
        simp only [List.getElem?_cons_zero, List.getElem?_cons_succ] at y0 y1
        repeat (first | (refine run_off rfl rfl (by rfl) ?_; (try simp only [Act.put, List.setIfInBounds_toArray, List.set_cons_zero, List.set_cons_succ])) | (refine run_chain_off rfl rfl (by rfl) (K0_mono _) ?_; (try simp only [Act.put, List.setIfInBounds_toArray, List.set_cons_zero, List.set_cons_succ])) | ((refine run_want rfl rfl (by rfl) ⟨?_, fun W hW => ?_, ?_⟩; rotate_left; (· (have d0 := hW.keeps.cell id y0; have d1 := hW.keeps.cell id y1; have d2 := hW.keeps.cell id e3; go_simp; (try with_reducible rfl)))); (try simp only [Act.put, List.setIfInBounds_toArray, List.set_cons_zero, List.set_cons_succ])))
        refine run_chain rfl rfl (by rfl) (fun Wi hWi K' hK => ?_)
        have HTi := Lib.hid (HT.out.trans hWi)
        have HZW := Lib.hid HTi.out.size
        clear hWi HT
        go_simp
        refine (canvas.within_step tt 0 bb.whole _).mono ?_
        rintro e wn ⟨rfl, hSn⟩
        have HT := Lib.hid (HTi.out.trans (StepX.of hSn))
        clear HTi
        refine hK _ _ (StepX.of hSn) ?_
        clear hSn
        (try simp only [Act.put, List.setIfInBounds_toArray, List.set_cons_zero, List.set_cons_succ])
        clear y0 y1 e3
        repeat (first | (refine run_off rfl rfl (by rfl) ?_; (try simp only [Act.put, List.setIfInBounds_toArray, List.set_cons_zero, List.set_cons_succ])) | (refine run_chain_off rfl rfl (by rfl) (K0_mono _) ?_; (try simp only [Act.put, List.setIfInBounds_toArray, List.set_cons_zero, List.set_cons_succ])) | ((refine run_want rfl rfl (by rfl) ⟨?_, fun W hW => ?_, ?_⟩; rotate_left; (· (skip; go_simp; (try with_reducible rfl)))); (try simp only [Act.put, List.setIfInBounds_toArray, List.set_cons_zero, List.set_cons_succ])))
        refine run_end (L := []) rfl (fun W6 hW6 => ?_)
        have HT6 := Lib.hid (HT.out.trans hW6)
        clear hW6 HT
        have HT := HT6
        clear HT6
        cases qt : withinB tt 0 bb.whole with
        | false =>
          have HN := Lib.hid (HN0.out.trans (HPN.out qt))
          have hst : Step w W6 := HSl.out.trans (StepX.fresh (HTx.out.trans (Step.refl _)) (HX.out.trans (StepX.of (HSA.out.trans HT.out))) (fun j hj => by omega))
          clear qt
          go_wp2
          go_ret
          exact ⟨by rw [HN.out]; rfl, hst⟩
        | true =>
          have HL := Lib.hid (fun j hj hl => HLS.out j hj hl qt)
          have hti := part_in hsm.1 (within_iff.1 qt) hbw.2
          have htj := part_in hsm.2 (within_iff.1 qt) hbw.2
          have hk8 : k ≤ 7 := by have := HFL.out; omega
          obtain ⟨X, hX⟩ : ∃ X, X = bb.whole * q.x + sxK F bb.parts k := ⟨_, rfl⟩
          obtain ⟨Y, hY⟩ : ∃ Y, Y = bb.whole * q.y + syK F bb.parts k := ⟨_, rfl⟩
          have HSF := Lib.hid (show fits (tt * f.x) ∧ fits (tt * f.y) by unfold fits; omega)
          have HSS := Lib.hid (sum2_fits' (a := ⟨X, Y⟩) (b := timesV f tt) (by have h1 := HSK.out; have h2 := HXY.out; unfold fits; dsimp only; omega) (by have h1 := HSK.out; have h2 := HXY.out; unfold fits; show (_ ≤ X + tt * f.x ∧ X + tt * f.x ≤ _) ∧ _ ≤ Y + tt * f.y ∧ Y + tt * f.y ≤ _; omega))
          rw [← hX, ← hY] at HB3r
          have HXV := Lib.hid (And.intro hX hY)
          clear qt hti htj hX hY
          go_upto_region 10 with (fail)
          refine wp_region_seq (kdOf [7, 8, 9] []) [0, 0, 0, 4, 0, 28, 60, 126, 255, 511, 1023] [0, 1, 2, 3, 4, 5, 6, 7, 8, 9] [10] (by kernel_rfl) (by kernel_rfl) (fun i T z hi hk => by simp [kdOf] at hk <;> (try (split at hk <;> cases hk))) ?_
          intro Wx hWx
          have HTy := Lib.hid (HT.out.trans hWx)
          clear hWx HT
          have HT := HTy
          clear HTy
          have y0 := (HB2r.out.step HT.out).cell 0
          have y1 := (HB2r.out.step HT.out).cell 1
          have g0 := (HGA.out.step HT.out).cell 0
          have g1 := (HGA.out.step HT.out).cell 1
          have r0 := (HB3r.out.step HT.out).cell 0
          have r1 := (HB3r.out.step HT.out).cell 1
          have e3 := HT.out.keeps.cell id HE3.out
          simp only [List.getElem?_cons_zero, List.getElem?_cons_succ] at y0 y1 g0 g1 r0 r1
          repeat (first | (refine run_off rfl rfl (by rfl) ?_; (try simp only [Act.put, List.setIfInBounds_toArray, List.set_cons_zero, List.set_cons_succ])) | (refine run_chain_off rfl rfl (by rfl) (K0_mono _) ?_; (try simp only [Act.put, List.setIfInBounds_toArray, List.set_cons_zero, List.set_cons_succ])) | ((refine run_want rfl rfl (by rfl) ⟨?_, fun W hW => ?_, ?_⟩; rotate_left; (· (have d0 := hW.keeps.cell id y0; have d1 := hW.keeps.cell id y1; have d2 := hW.keeps.cell id g0; have d3 := hW.keeps.cell id g1; have d4 := hW.keeps.cell id r0; have d5 := hW.keeps.cell id r1; have d6 := hW.keeps.cell id e3; go_simp; (try with_reducible rfl)))); (try simp only [Act.put, List.setIfInBounds_toArray, List.set_cons_zero, List.set_cons_succ])))
          clear y0 y1 g0 g1 r0 r1 e3
          refine run_chain rfl rfl (by rfl) (fun Wi hWi K' hK => ?_)
          have HTi := Lib.hid (HT.out.trans hWi)
          have HZW := Lib.hid HTi.out.size
          clear hWi HT
          go_simp
          refine (times_any f tt _ HSF.out.1 HSF.out.2).mono ?_
          rintro e wn ⟨rfl, hSn⟩
          have HT := Lib.hid (HTi.out.trans (StepX.of hSn))
          clear HTi
          refine hK _ _ (StepX.of hSn) ?_
          clear hSn
          (try simp only [Act.put, List.setIfInBounds_toArray, List.set_cons_zero, List.set_cons_succ])
          refine run_chain rfl rfl (by rfl) (fun Wi hWi K' hK => ?_)
          have HTi := Lib.hid (HT.out.trans hWi)
          clear hWi HT
          go_simp
          have hsv : SL (fun _ => False) (Wi.alloc (.cells #[.int .i64 X, .int .i64 Y, .int .i64 (timesV f tt).x, .int .i64 (timesV f tt).y] 40)) (.slice (some ⟨Wi.heap.size, 0, none⟩) 2 2) [⟨X, Y⟩, timesV f tt] := by
            have h := sl_vecs Wi [⟨X, Y⟩, timesV f tt] (by simp)
            simpa [cellsV] using h
          refine hK _ _ (StepX.of (Step.alloc _ _)) ?_
          (try simp only [Act.put, List.setIfInBounds_toArray, List.set_cons_zero, List.set_cons_succ])
          have hWA := HTi.out.trans (Step.alloc Wi (.cells #[.int .i64 X, .int .i64 Y, .int .i64 (timesV f tt).x, .int .i64 (timesV f tt).y] 40))
          generalize Wi.alloc (.cells #[.int .i64 X, .int .i64 Y, .int .i64 (timesV f tt).x, .int .i64 (timesV f tt).y] 40) = WA at *
          generalize Wi.heap.size = ga at *
          have HT := Lib.hid hWA
          have HSV := Lib.hid hsv
          clear hsv hWA HTi hK
          refine run_chain rfl rfl (by rfl) (fun Wi hWi K' hK => ?_)
          have hsv2 := HSV.out.keep (.of_step hWi)
          have HTi := Lib.hid (HT.out.trans hWi)
          clear hWi HT
          go_simp
          refine (sum_any (fun _ => False) [⟨X, Y⟩, timesV f tt] _ Wi hsv2 HSS.out).mono ?_
          rintro e wn ⟨rfl, hSn⟩
          rw [sum_two]
          have HT := Lib.hid (HTi.out.trans hSn)
          clear HTi hsv2
          refine hK _ _ (StepX.of hSn) ?_
          clear hSn
          (try simp only [Act.put, List.setIfInBounds_toArray, List.set_cons_zero, List.set_cons_succ])
          refine run_end (L := [_]) rfl (fun W7 hW7 => ?_)
          have hst := HSA.out.trans (HT.out.trans hW7)
          refine wpl_store (v := .agg #[.int .i64 (addV ⟨X, Y⟩ (timesV f tt)).x, .int .i64 (addV ⟨X, Y⟩ (timesV f tt)).y]) rfl _ _ _ rfl rfl rfl ((HB3r.out.step HT.out).step hW7) (by kernel_rfl) (by simp [Value.cells]) (by simp [Value.cells, Value.oneCell']) [.int .i64 (addV ⟨X, Y⟩ (timesV f tt)).x, .int .i64 (addV ⟨X, Y⟩ (timesV f tt)).y] rfl (fun w8 hb8 hw8 => ?_)
          have HX8 := Lib.hid (show StepX (fun j => j = g) w7 w8 from (HX.out.trans (StepX.of hst)).trans ⟨hw8.os, hw8.tape, hw8.output, Nat.le_of_eq hw8.size.symm, fun k _ hk => hw8.block k hk⟩)
          have HB8 := Lib.hid hb8
          clear hst hb8 hw8 hW7 HT
          go_wp2
          go_roundw
          case rel => exact ⟨k + 1, by omega, by go_num, by have h := HB8.out; rw [HNX.out.1, HNX.out.2, ← Int.add_assoc, ← Int.add_assoc, ← HXV.out.1, ← HXV.out.2]; exact h, HL.out, HX8.out⟩
          case measure => simp [intOf]; omega
      · have hkl : k = F.length := by omega
        have HE := Lib.hid (isBal_end (F := F) (p := q) HWH.out (show bb.parts.length = F.length by have := ql.out; omega) (fun j hj hl => HIN.out j (by omega) hl))
        obtain ⟨X, hX⟩ : ∃ X, X = bb.whole * q.x + sxK F bb.parts k := ⟨_, rfl⟩
        obtain ⟨Y, hY⟩ : ∃ Y, Y = bb.whole * q.y + syK F bb.parts k := ⟨_, rfl⟩
        rw [← hX, ← hY] at HB3
        rw [← hkl, ← hX, ← hY] at HE
        have hst : Step w wr := HSl.out.trans (StepX.fresh HTx.out HX.out (fun j hj => by omega))
        have HST := Lib.hid hst
        have r0 := HB3.out.cell 0
        have r1 := HB3.out.cell 1
        simp only [List.getElem?_cons_zero, List.getElem?_cons_succ] at r0 r1
        have HN := Lib.hid (show isBalL F q bb = veq X Y 0 0 by rw [HE.out]; unfold veq; rw [Bool.beq_eq_decide_eq, Bool.beq_eq_decide_eq])
        have hqe := eql_vec X Y 0 0
        clear hkl hst hX hY
        go_wp2
        go_ret
        exact ⟨by rw [HN0.out, HN.out]; rfl, HST.out⟩
end Go.Proofs.Ytdcjbbeoocldeaa
