/- The reference's Lose is walked, and is what the program does. -/
import Derived.Test.YtbgfmikbhiblgaaMf
import Derived.Test.YtbgfmikbhiblgaaMg
import Derived.Test.YtbgfmikbhiblgaaMj
import Derived.Test.YtbgfmikbhiblgaaMk
import Derived.Test.YtbgfmikbhiblgaaRows
/- Plain: a lost show as the document tells it, and as the program does it. -/
namespace Go.Proofs.Ytbgfmikbhiblgaa
set_option linter.unusedSimpArgs false
set_option linter.unusedVariables false
open Go.RowKit Go.BT

theorem range_none {p : Nat → Bool} : ∀ {n : Nat}, (∀ j, j < n → p j = false) → (List.range n).filter p = []
  | n, h => by
    rw [List.filter_eq_nil_iff]
    intro a ha
    rw [h a (List.mem_range.1 ha)]
    simp
theorem range_head {p : Nat → Bool} {n k : Nat} (hk : k < n) (h : ∀ j, j < k → p j = false) (hp : p k = true) : ∃ l, (List.range n).filter p = k :: l := by
  have e : List.range n = List.range k ++ (k :: List.range' (k + 1) (n - (k + 1))) := by
    have h1 : n = k + (1 + (n - (k + 1))) := by omega
    rw [List.range_eq_range', List.range_eq_range']
    conv => lhs; rw [h1, ← List.range'_append_1]
    rw [Nat.zero_add, Nat.add_comm 1 (n - (k + 1)), List.range'_succ]
  rw [e, List.filter_append, range_none h, List.nil_append, List.filter_cons, if_pos hp]
  exact ⟨_, rfl⟩
def openP1 (h : House) (b : Book) (s c : Int) (j : Nat) : Bool := decide (classL h.sectors j = c) && decide (seatAt b s j = 0)
theorem openL_eq (h : House) (b : Book) (s c d : Int) : openL h b s c d = if sellsB h b s d then ((List.range (sizeL h.sectors).toNat).filter (openP1 h b s c)).map (fun (k : Nat) => (k : Int)) else [] := by
  unfold openL freeL ofL ofB
  rw [List.filter_filter]
  have : (fun a => decide (seatAt b s (a : Nat) = 0) && decide (classL h.sectors (a : Nat) = c)) = openP1 h b s c := by
    funext a; simp [openP1, Bool.and_comm]
  rw [this]
theorem open_none {h : House} {b : Book} {s c d : Int} (hn : ∀ j, j < (sizeL h.sectors).toNat → openP1 h b s c j = false) : openL h b s c d = [] := by
  rw [openL_eq, range_none hn]; simp
theorem open_shut {h : House} {b : Book} {s c d : Int} (hn : sellsB h b s d = false) : openL h b s c d = [] := by
  rw [openL_eq, hn]; rfl
theorem open_first {h : House} {b : Book} {s c d : Int} {k : Nat} (hs : sellsB h b s d = true) (hk : k < (sizeL h.sectors).toNat) (hn : ∀ j, j < k → openP1 h b s c j = false) (hp : openP1 h b s c k = true) : ∃ l, openL h b s c d = (k : Int) :: l := by
  obtain ⟨l, hl⟩ := range_head hk hn hp
  rw [openL_eq, hs, if_pos rfl, hl]
  exact ⟨_, rfl⟩
/-- A book with another cash. -/
def withCash (b : Book) (c : Int) : Book := { b with cash := c }
theorem openL_cash (h : House) (b : Book) (x s c d : Int) : openL h (withCash b x) s c d = openL h b s c d := rfl
theorem placeL_cash (h : House) (b : Book) (x c d : Int) : ∀ (m s : Nat), placeL h (withCash b x) c d s m = placeL h b c d s m
  | 0, s => rfl
  | m + 1, s => by
    unfold placeL
    rw [openL_cash, placeL_cash h b x c d m (s + 1)]
theorem putSeat_cash (b : Book) (x : Int) (s j : Nat) (y : Int) : putSeat (withCash b x) s j y = withCash (putSeat b s j y) x := rfl

theorem lset_getD {α : Type} (l : List α) (i j : Nat) (x z : α) : (l.set i x).getD j z = if i = j ∧ i < l.length then x else l.getD j z := by
  simp only [List.getD_eq_getElem?_getD, List.getElem?_set]
  by_cases h : i = j
  · subst h
    by_cases h2 : i < l.length
    · simp [h2]
    · simp [h2]
  · simp [h]
theorem seatAt_put_ne {b : Book} {s j : Nat} {y : Int} {i n : Nat} (h : s ≠ i ∨ j ≠ n) : seatAt (putSeat b s j y) i n = seatAt b i n := by
  unfold seatAt putSeat
  simp only [Int.toNat_natCast, lset_getD]
  by_cases h1 : s = i ∧ s < b.seats.length
  · rw [if_pos h1, lset_getD]
    have : ¬ (j = n ∧ j < (b.seats.getD s []).length) := fun hh => by
      rcases h with h | h
      · exact h h1.1
      · exact h hh.1
    rw [if_neg this, h1.1]
  · rw [if_neg h1]
/-- The lost show's own seats stay till their turn comes. -/
theorem loseTo_keep {h : House} {b : Book} {i : Nat} {d : Int} : ∀ (k n : Nat), k ≤ n → seatAt (loseTo h b i d k).1 i n = seatAt b i n
  | 0, _, _ => rfl
  | k + 1, n, hk => by
    unfold loseTo
    split
    · show seatAt (loseOne h (loseTo h b i d k).1 i d k _).1 i n = _
      unfold loseOne
      split
      · rename_i s j hp
        have := (placeL_some hp).1
        simp only at this
        rw [seatAt_put_ne (.inr (by omega)), seatAt_put_ne (.inl (by omega))]
        exact loseTo_keep k n (by omega)
      · rw [seatAt_put_ne (.inr (by omega))]
        exact loseTo_keep k n (by omega)
    · exact loseTo_keep k n (by omega)

/-- The cash of a row with one seat written. -/
theorem rowCash_set (h : House) (l : List Int) (j : Nat) (y : Int) (hj : j < l.length) : ∀ k : Nat, rowCash h (l.set j y) k = rowCash h l k + if j < k then (if 0 < y then priceL h j else 0) - (if 0 < l.getD j 0 then priceL h j else 0) else 0
  | 0 => by simp [rowCash]
  | k + 1 => by
    unfold rowCash
    rw [rowCash_set h l j y hj k, lset_getD]
    by_cases h1 : j < k
    · have h2 : ¬ (j = k ∧ j < l.length) := by omega
      rw [if_pos h1, if_neg h2, if_pos (by omega : j < k + 1)]
      omega
    · by_cases h2 : j = k
      · subst h2
        have h3 : j = j ∧ j < l.length := ⟨rfl, hj⟩
        rw [if_neg h1, if_pos h3, if_pos (by omega : j < j + 1)]
        omega
      · have h3 : ¬ (j = k ∧ j < l.length) := by omega
        rw [if_neg h1, if_neg h3, if_neg (by omega : ¬ j < k + 1)]
        omega
theorem cashTo_set (h : House) (rows : List (List Int)) (s : Nat) (r : List Int) (hs : s < rows.length) : ∀ k : Nat, cashTo h (rows.set s r) k = cashTo h rows k + if s < k then rowCash h r r.length - rowCash h (rows.getD s []) (rows.getD s []).length else 0
  | 0 => by simp [cashTo]
  | k + 1 => by
    unfold cashTo
    rw [cashTo_set h rows s r hs k, lset_getD]
    by_cases h1 : s < k
    · have h2 : ¬ (s = k ∧ s < rows.length) := by omega
      rw [if_pos h1, if_neg h2, if_pos (by omega : s < k + 1)]
      omega
    · by_cases h2 : s = k
      · subst h2
        have h3 : s = s ∧ s < rows.length := ⟨rfl, hs⟩
        rw [if_neg h1, if_pos h3, if_pos (by omega : s < s + 1)]
        omega
      · have h3 : ¬ (s = k ∧ s < rows.length) := by omega
        rw [if_neg h1, if_neg h3, if_neg (by omega : ¬ s < k + 1)]
        omega
def wt (h : House) (j : Nat) (y : Int) : Int := if 0 < y then priceL h j else 0
theorem cash_put {h : House} {b : Book} {s j : Nat} {y : Int} (hs : s < b.seats.length) (hj : j < b.seats[s].length) : cashL h (putSeat b s j y).seats = cashL h b.seats + wt h j y - wt h j (seatAt b s j) := by
  have hg : b.seats.getD s [] = b.seats[s] := by simp [List.getD_eq_getElem?_getD, hs]
  have hsa : seatAt b s j = b.seats[s].getD j 0 := by unfold seatAt; rw [Int.toNat_natCast, Int.toNat_natCast, hg]
  rw [hsa]
  unfold cashL putSeat wt
  simp only [List.length_set]
  rw [cashTo_set h b.seats s _ hs, if_pos hs, hg, List.length_set, rowCash_set h b.seats[s] j y hj, if_pos hj]
  omega
theorem open_mem {h : House} {b : Book} {s c d k : Int} (hk : k ∈ openL h b s c d) : ∃ n : Nat, k = n ∧ (n : Int) < sizeL h.sectors ∧ classL h.sectors n = c ∧ seatAt b s n = 0 := by
  rw [openL_eq] at hk
  split at hk
  · simp only [List.mem_map, List.mem_filter, List.mem_range, openP1, Bool.and_eq_true, decide_eq_true_eq] at hk
    obtain ⟨n, ⟨h1, h2, h3⟩, rfl⟩ := hk
    exact ⟨n, rfl, by omega, h2, h3⟩
  · cases hk
theorem cash_one {h : House} {b : Book} (hO : OkDesk h b) {i : Nat} (hi : i < h.dates.length) (d : Int) {k : Nat} (hk : (k : Int) < sizeL h.sectors) {y : Int} (hy : 0 < y) (hyk : seatAt b i k = y) (hc : b.cash = cashL h b.seats) :
    (loseOne h b i d k y).1.cash = cashL h (loseOne h b i d k y).1.seats := by
  have hlen := hO.2.2.1
  have hrow : ∀ {b' : Book} {q : Int}, Like b b' q → ∀ {s : Nat}, s < h.dates.length → ∃ h1 : s < b'.seats.length, (b'.seats[s].length : Int) = sizeL h.sectors := fun {b' q} hl {s} hs => by
    have h1 : s < b'.seats.length := by rw [hl.seats]; omega
    exact ⟨h1, by rw [hl.row s (by omega) h1]; exact hO.2.2.2.1 s (by omega)⟩
  unfold loseOne
  split
  · rename_i s j hp
    obtain ⟨h1, h2, h3⟩ := placeL_some hp
    simp only at h1 h2 h3
    obtain ⟨n, rfl, h4, h5, h6⟩ := open_mem h3
    have hsd : s < h.dates.length := by omega
    obtain ⟨q1, q2⟩ := hrow (Like.refl b) hsd
    have hL := like_put b s ((n : Int).toNat) y
    obtain ⟨q3, q4⟩ := hrow hL hi
    show b.cash = _
    rw [cash_put q3 (by omega), Int.toNat_natCast, cash_put q1 (by omega), seatAt_put_ne (.inl (by omega)), h6, hyk, hc]
    have hp1 : priceL h n = priceL h k := by unfold priceL; rw [h5]
    simp only [wt, hp1, if_pos hy]
    simp
  · have hL : Like b { b with cash := b.cash - priceL h k } (priceL h k) := ⟨rfl, rfl, fun _ _ _ => rfl, rfl, rfl, by
      obtain ⟨_, _, _, e, h0, h1⟩ := class_valid hO.1 (n := k) (by omega) hk
      simp only []; omega, by
      obtain ⟨_, _, _, e, h0, h1⟩ := class_valid hO.1 (n := k) (by omega) hk
      simp only []; omega⟩
    obtain ⟨q1, q2⟩ := hrow hL hi
    have := cash_put (h := h) (b := { b with cash := b.cash - priceL h k }) (s := i) (j := k) (y := 0) q1 (by omega)
    show b.cash - priceL h k = _
    rw [this]
    have h7 : seatAt { b with cash := b.cash - priceL h k } i k = y := hyk
    rw [h7]
    simp only [wt, if_pos hy]
    simp
    omega
theorem cash_to {h : House} {b : Book} (hO : OkDesk h b) (hc0 : 0 ≤ b.cash) (hc : b.cash = cashL h b.seats) {i : Nat} (hi : i < h.dates.length) (d : Int) : ∀ k : Nat, (k : Int) ≤ sizeL h.sectors → (loseTo h b i d k).1.cash = cashL h (loseTo h b i d k).1.seats
  | 0, _ => hc
  | k + 1, hk => by
    have ih := cash_to hO hc0 hc hi d k (by omega)
    have hs := (bounds_valid hO.1).2.2.2.2.2.2.2.1
    have hL := like_to hO hc0 i d k (by omega)
    unfold loseTo
    split
    · rename_i hy
      exact cash_one (hL.ok hO (by omega)) hi d (by omega) hy rfl ih
    · exact ih
end Go.Proofs.Ytbgfmikbhiblgaa
/- Walks: the reference's Lose. -/
namespace Go.Proofs.Ytbgfmikbhiblgaa
set_option linter.unusedSimpArgs false
set_option linter.unusedVariables false
open Go.RowKit Go.BT

/-- What may be written behind world wc: the call's own blocks, but for those from zc to zc2 (the classes). -/
def Xc (base zc zc2 : Nat) : Nat → Prop := fun j => base ≤ j ∧ (j < zc ∨ zc2 ≤ j)
def RLoseRel (base zc : Nat) (wc : World) (g : Nat) (h : House) (b : Book) (i : Nat) (d : Int) (vs vo vt : Value) (xs : List Value) (k : Nat) (wr : World) (mv : Value) : Prop :=
  Desk6 base wr g (withCash (loseTo h (offBook b i) i d k).1 b.cash) vs vo vt xs ∧ OwnL (fun _ => False) wc.heap.size 54 wr mv (loseTo h (offBook b i) i d k).2 ∧ StepX (Xc base zc wc.heap.size) wc wr
def RInner (base zc : Nat) (wc : World) (g : Nat) (h : House) (bk : Book) (i k : Nat) (d y : Int) (mb : Nat) (mv : Value) (lk : List BT.Move) (vs vo vt : Value) (xs : List Value) (s : Nat) (wi : World) : Option (Nat × Nat) → Prop
  | none => OwnL (fun _ => False) wc.heap.size 54 wi mv lk ∧ StepX (Xc base zc wc.heap.size) wc wi ∧ Bx wi mb [.int .i64 k, .int .i64 (-1), .int .i64 (-1)] 54 ∧ Desk6 base wi g bk vs vo vt xs ∧ placeL h bk (classL h.sectors k) d (i + 1) (h.dates.length - (i + 1)) = placeL h bk (classL h.sectors k) d s (h.dates.length - s)
  | some (s0, j) => OwnL (fun _ => False) wc.heap.size 54 wi mv lk ∧ StepX (Xc base zc wc.heap.size) wc wi ∧ Bx wi mb [.int .i64 k, .int .i64 s0, .int .i64 j] 54 ∧ Desk6 base wi g (putSeat bk s0 j y) vs vo vt xs ∧ placeL h bk (classL h.sectors k) d (i + 1) (h.dates.length - (i + 1)) = some (s0, (j : Int))
def RIn3 (base zc : Nat) (wc : World) (g : Nat) (h : House) (bk : Book) (k : Nat) (d y : Int) (mb : Nat) (mv : Value) (lk : List BT.Move) (vs vo vt : Value) (xs : List Value) (s kk : Nat) (wi : World) : Option Nat → Prop
  | none => OwnL (fun _ => False) wc.heap.size 54 wi mv lk ∧ StepX (Xc base zc wc.heap.size) wc wi ∧ Bx wi mb [.int .i64 k, .int .i64 (-1), .int .i64 (-1)] 54 ∧ Desk6 base wi g bk vs vo vt xs ∧ ∀ j, j < kk → openP1 h bk s (classL h.sectors k) j = false
  | some j => OwnL (fun _ => False) wc.heap.size 54 wi mv lk ∧ StepX (Xc base zc wc.heap.size) wc wi ∧ Bx wi mb [.int .i64 k, .int .i64 s, .int .i64 j] 54 ∧ Desk6 base wi g (putSeat bk s j y) vs vo vt xs ∧ placeL h bk (classL h.sectors k) d s (h.dates.length - s) = some (s, (j : Int))
/-- What the reference's Lose returns. -/
def RLoseEnds (h : House) (b : Book) (s d : Int) (e : Ending) (w w' : World) : Prop := ∃ v' l', e = .returned (.tuple #[v', l', .int .i64 (actR (bookOf (loseD h b s d))).2]) ∧ AV (Old w) w' v' (actR (bookOf (loseD h b s d))).1 ∧ SL (Old w) w' l' (restOf [] (loseD h b s d)) ∧ Step w w'
theorem RLoseEnds.no {h : House} {b : Book} {s d c : Int} {w w' : World} {v : Value} (hr : loseD h b s d = .error c) (hv : v = .tuple #[.agg #[.int .i64 0, .slice none 0 0, .slice none 0 0, .int .i64 0, .slice none 0 0, .int .i64 0], .slice none 0 0, .int .i64 c]) (hS : Step w w') : RLoseEnds h b s d (.returned v) w w' := by
  unfold RLoseEnds
  rw [hr, hv]
  exact ⟨_, _, rfl, ⟨_, rfl, noBook_rep _ _⟩, SL.nil _ _, hS⟩
theorem okDesk_book {h : House} {b : Book} (hv : valid h = true) (hb : bookB h b = true) : OkDesk h b ∧ b.cash = cashL h b.seats ∧ 0 ≤ b.cash ∧ thinP b := by
  have hc : checkR h b = 0 := by simp [checkR, hv, hb]
  obtain ⟨h1, h2, h3, h4, h5⟩ := okDesk_of hc
  have := (bounds_valid hv).2.1
  exact ⟨h1, h2, okDesk_cash hc, by have := h1.2.2.1; omega, fun i hi => by have := h3 i hi; omega, by omega, by omega⟩
theorem okDesk_withCash {h : House} {b : Book} {c : Int} (hO : OkDesk h b) (h1 : -1000000000 ≤ c) (h2 : c ≤ 1000000000) : OkDesk h (withCash b c) := by
  obtain ⟨a1, a2, a3, a4, a5, a6, a7, a8, a9, a10⟩ := hO
  exact ⟨a1, a2, a3, a4, a5, a6, h1, h2, a9, a10⟩

theorem infoRMove : (Try.prog.info? 54).map (fun i => (i.zero, i.size, i.bytes)) = some (some (.agg #[.int .i64 0, .int .i64 0, .int .i64 0]), 3, 24) := by kernel_rfl
theorem eiRMoves : EI Try.prog 48 54 (.agg #[.int .i64 0, .int .i64 0, .int .i64 0]) 3 24 := .mk' Try.underlying48 infoRMove rfl
section
variable {base : Nat} {w w' : World} {g : Nat} {h : House} {b : Book} {vs vo vt : Value} {xs : List Value}
theorem Desk6.seat_c {gs n cs : Nat} (D : Desk6 base w g b (.slice (some ⟨gs, 0, none⟩) n cs) vo vt xs) {i gi z ci : Nat} (hi : i < b.seats.length) (hx : i < xs.length) (hxi : xs[i] = .slice (some ⟨gi, 0, none⟩) z ci) {j : Nat} (hj : j < b.seats[i].length) :
    w.cell? ⟨gs, i, none⟩ = some (.slice (some ⟨gi, 0, none⟩) z ci) ∧ w.cell? ⟨gi, j, none⟩ = some (.int .i64 (seatAt b i j)) ∧ w.frozen? ⟨gi, j, none⟩ = false ∧ gs < w.heap.size ∧ gi < w.heap.size := by
  obtain ⟨gs', cs', gi', ci', e1, ⟨hx', e2⟩, h1, h2, h3, h4, h5, _⟩ := D.seat_at hi (by omega)
  injection e1 with e1 _ _
  injection e1 with e1
  injection e1 with e1
  rw [hxi] at e2
  injection e2 with e2 e3 e4
  injection e2 with e2
  injection e2 with e2
  subst e1 e2 e3 e4
  refine ⟨h1, ?_, h3 j, h4, h5⟩
  rw [h2 j hj]
  simp [seatAt, List.getD_eq_getElem?_getD, hi, hj]
theorem Desk6.forms (D : Desk6 base w g b vs vo vt xs) (hO : OkDesk h b) {z : Nat} (hz : sizeL h.sectors = z) (hz0 : 0 < z) : (∃ gs cs, vs = .slice (some ⟨gs, 0, none⟩) b.seats.length cs) ∧ ∀ i, i < h.dates.length → ∃ hx : i < xs.length, ∃ gi ci, xs[i] = .slice (some ⟨gi, 0, none⟩) z ci := by
  have hl := hO.2.2.1
  have hd := (bounds_valid hO.1).1
  have hrow : ∀ i (hi : i < b.seats.length), b.seats[i].length = z := fun i hi => by have := hO.2.2.2.1 i hi; omega
  refine ⟨?_, fun i hi => ?_⟩
  · obtain ⟨gs, cs, _, _, e, _⟩ := D.seat_at (i := 0) (by omega) (by rw [hrow]; exact hz0)
    exact ⟨gs, cs, e⟩
  · obtain ⟨_, _, gi, ci, _, ⟨hx, e⟩, _⟩ := D.seat_at (i := i) (by omega) (by rw [hrow]; exact hz0)
    exact ⟨hx, gi, ci, by rw [e, hrow]⟩
theorem rmoves_set {b2 : Nat} {v : Value} {l : List BT.Move} (ho : OwnL (fun _ => False) b2 54 w v l) {k o : Nat} {u : Value} {T : TypeId} (hc : Ty w k T) (hT : T ≠ 54) : OwnL (fun _ => False) b2 54 (w.setCell ⟨k, o, none⟩ u) v l := by
  obtain ⟨ys, hy⟩ := own_rowT ho
  exact ho.keptF fun q hq => (Wrote.setCell w k o u).block q fun e => ne_ty hc hy hT (e ▸ hq)
end

set_option maxRecDepth 100000 in
set_option maxHeartbeats 8000000 in
theorem RLose_any (S : Nat → Prop) (h : House) (b : Book) (v u : Value) (s d : Int) (w : World) (hv : AV S w v h) (hu : AV S w u b) (hok : valid h = true) (hbk : bookB h b = true) :
    Calls Try.prog 19 #[v, u, .int .i64 s, .int .i64 d] w (fun e w' => RLoseEnds h b s d e w w') := by
  obtain ⟨hO, hcash, hc0, hthin⟩ := okDesk_book hok hbk
  obtain ⟨cs, rfl, hr0⟩ := hv
  have hr := hr0
  obtain ⟨c0, c1, c2, c3, c4, rfl, h0, h1, h2, h3, h4⟩ := hr
  obtain ⟨p0, k0, rfl⟩ := h0.form
  obtain ⟨p1, k1, rfl⟩ := h1.form
  obtain ⟨p2, k2, rfl⟩ := h2.form
  obtain ⟨p3, k3, rfl⟩ := h3.form
  obtain ⟨p4, k4, rfl⟩ := h4.form
  obtain ⟨cs, rfl, hq0⟩ := hu
  have hq := hq0
  obtain ⟨d1, d2, d4, rfl, s1, s2, s4⟩ := hq
  obtain ⟨q1, m1, bs, os, rfl, _, _, hp1, hc1, _⟩ := s1.rows
  obtain ⟨q2, m2, bo, oo, rfl, _, n2, hp2, hc2, _⟩ := s2.bools
  obtain ⟨q4, m4, rfl⟩ := s4.form
  have hbv := bounds_valid hok
  obtain ⟨z, hz⟩ : ∃ z : Nat, sizeL h.sectors = z := ⟨(sizeL h.sectors).toNat, by omega⟩
  have hz100 : z ≤ 100 := by omega
  have hz0 : 0 < z := by have := size_pos hok; omega
  obtain ⟨W3, hW3⟩ : ∃ W3, W3 = ((w.alloc (.cells #[.slice p0 h.sectors.length k0, .slice p1 h.prices.length k1, .slice p2 h.dates.length k2, .slice p3 h.frm.length k3, .slice p4 h.holds.length k4] 26)).alloc (.cells #[.int .i64 b.agency, .slice q1 b.seats.length m1, .slice q2 b.off.length m2, .int .i64 b.sent, .slice q4 b.took.length m4, .int .i64 b.cash] 30)).alloc (.cells #[.int .i64 0, .slice none 0 0, .slice none 0 0, .int .i64 0, .slice none 0 0, .int .i64 0] 30) := ⟨_, rfl⟩
  have hbx : Bx W3 w.heap.size [.slice p0 h.sectors.length k0, .slice p1 h.prices.length k1, .slice p2 h.dates.length k2, .slice p3 h.frm.length k3, .slice p4 h.holds.length k4] 26 := by subst hW3; exact ((Bx.new _ _ _).alloc _).alloc _
  have hb2 : Bx W3 (w.heap.size + 1) [.int .i64 b.agency, .slice q1 b.seats.length m1, .slice q2 b.off.length m2, .int .i64 b.sent, .slice q4 b.took.length m4, .int .i64 b.cash] 30 := by subst hW3; exact (Bx.new' _ _ _ _ (by simp)).alloc _
  have hb3 : Bx W3 (w.heap.size + 2) [.int .i64 0, .slice none 0 0, .slice none 0 0, .int .i64 0, .slice none 0 0, .int .i64 0] 30 := by subst hW3; exact Bx.new' _ _ _ _ (by simp)
  have hS : Step w W3 := by subst hW3; exact (by repeat (first | (with_reducible assumption) | (with_reducible exact Step.refl _) | (with_reducible apply Step.s_alloc) | (with_reducible apply Step.s_drew) | (with_reducible apply Step.s_drewN) | (with_reducible refine Step.trans ?_ (by with_reducible assumption))))
  have hz3 : W3.heap.size = w.heap.size + 3 := by subst hW3; simp
  have HO := Lib.hid hO
  have HC0 := Lib.hid (And.intro hc0 hcash)
  have HTH := Lib.hid hthin
  have HB1 := Lib.hid hbx
  have HB2 := Lib.hid hb2
  have HB3 := Lib.hid hb3
  have HR := Lib.hid (Rep.keep (.of_step hS) hr0)
  have HQ := Lib.hid (Rep.keep (.of_step hS) hq0)
  have HS := Lib.hid hS
  have HZ3 := Lib.hid hz3
  have HZ := Lib.hid hz
  have HP1 := Lib.hid (And.intro hp1 hc1)
  have HP2 := Lib.hid (And.intro hp2 hc2)
  have HOK := Lib.hid hok
  have HBV := Lib.hid hbv
  have hn1 : 1 ≤ h.dates.length ∧ h.dates.length ≤ 6 := by omega
  have hwd : IntKind.i64.wrap ((h.dates.length : Int) - 1) = (h.dates.length : Int) - 1 := by rw [IntKind.wrap_i64]; omega
  have HT := Lib.hid (Step.refl W3)
  have HW := Lib.hid hW3
  clear hr0 hq0 h0 h1 h2 h3 h4 s1 s2 s4 hbx hb2 hb3 hS hz3 hz hp1 hc1 hp2 hc2 hok hbk hbv hW3 hO hcash hc0 hthin
  go_enter Try.func19, Try.ntmps19
  go_wp2_with fail
  rw [show w.heap.size + 1 + 1 = w.heap.size + 2 from rfl, ← HW.out]
  go_wp2_with fail
  refine (In_st _ _ _ _).mono ?_
  rintro e wn ⟨rfl, hSn⟩
  have HTi := Lib.hid (HT.out.trans hSn)
  clear hSn HT
  have HT := HTi
  clear HTi
  cases q1 : withinB s 0 ((h.dates.length : Int) - 1) with
  | false =>
    have HF := Lib.hid (show loseE h b s d = 2 by simp [loseE, q1])
    clear q1
    (try clear e0 e1 e2 e3 e4 f0 f1 f2 f3 f4 f5 y1 y2)
    obtain ⟨e0, e1, e2, e3, e4⟩ := cells5 (HB1.out.step HT.out)
    obtain ⟨f0, f1, f2, f3, f4, f5⟩ := cells6 (HB2.out.step HT.out)
    obtain ⟨g0, g1, g2, g3, g4, g5⟩ := cells6 (HB3.out.step HT.out)
    have t0 := (HB3.out.step HT.out).frozen 0
    have t1 := (HB3.out.step HT.out).frozen 1
    have t2 := (HB3.out.step HT.out).frozen 2
    have t3 := (HB3.out.step HT.out).frozen 3
    have t4 := (HB3.out.step HT.out).frozen 4
    have t5 := (HB3.out.step HT.out).frozen 5
    go_wp2
    have b6 := set6 (HB3.out.step HT.out) (.int .i64 0) (.slice none 0 0) (.slice none 0 0) (.int .i64 0) (.slice none 0 0) (.int .i64 0)
    exact ret_struct3 (k := 6) rfl siRefBook rfl b6.1 rfl rfl (.no (loseD_no HF.out (by simp)) rfl (StepX.fresh (HS.out.trans HT.out) b6.2 (fun j hj => by omega)))
  | true =>
  have Q1 := Lib.hid q1
  clear q1
  obtain ⟨i, rfl, hi0, hi1⟩ := within_nat Q1.out (by omega)
  have hi : i < h.dates.length := by omega
  have hio : i < b.off.length := by have := HO.out.2.1; omega
  have his : i < b.seats.length := by have := HO.out.2.2.1; omega
  obtain rfl := HP2.out.1 (by omega)
  obtain rfl := HP1.out.1 (by omega)
  clear hi0 hi1 hwd
  (try clear e0 e1 e2 e3 e4 f0 f1 f2 f3 f4 f5 y1 y2)
  obtain ⟨e0, e1, e2, e3, e4⟩ := cells5 (HB1.out.step HT.out)
  obtain ⟨f0, f1, f2, f3, f4, f5⟩ := cells6 (HB2.out.step HT.out)
  go_wp2_with fail
  refine (In_st _ _ _ _).mono ?_
  rintro e wn ⟨rfl, hSn⟩
  have HTi := Lib.hid (HT.out.trans hSn)
  clear hSn HT
  have HT := HTi
  clear HTi
  cases q2 : withinB d 0 1000 with
  | false =>
    have HF := Lib.hid (show loseE h b i d = 2 by simp [loseE, Q1.out, q2])
    clear q2
    (try clear e0 e1 e2 e3 e4 f0 f1 f2 f3 f4 f5 y1 y2)
    obtain ⟨e0, e1, e2, e3, e4⟩ := cells5 (HB1.out.step HT.out)
    obtain ⟨f0, f1, f2, f3, f4, f5⟩ := cells6 (HB2.out.step HT.out)
    obtain ⟨g0, g1, g2, g3, g4, g5⟩ := cells6 (HB3.out.step HT.out)
    have t0 := (HB3.out.step HT.out).frozen 0
    have t1 := (HB3.out.step HT.out).frozen 1
    have t2 := (HB3.out.step HT.out).frozen 2
    have t3 := (HB3.out.step HT.out).frozen 3
    have t4 := (HB3.out.step HT.out).frozen 4
    have t5 := (HB3.out.step HT.out).frozen 5
    go_wp2
    have b6 := set6 (HB3.out.step HT.out) (.int .i64 0) (.slice none 0 0) (.slice none 0 0) (.int .i64 0) (.slice none 0 0) (.int .i64 0)
    exact ret_struct3 (k := 6) rfl siRefBook rfl b6.1 rfl rfl (.no (loseD_no HF.out (by simp)) rfl (StepX.fresh (HS.out.trans HT.out) b6.2 (fun j hj => by omega)))
  | true =>
  have Q2 := Lib.hid q2
  clear q2
  (try clear e0 e1 e2 e3 e4 f0 f1 f2 f3 f4 f5 y1 y2)
  obtain ⟨e0, e1, e2, e3, e4⟩ := cells5 (HB1.out.step HT.out)
  obtain ⟨f0, f1, f2, f3, f4, f5⟩ := cells6 (HB2.out.step HT.out)
  have m0 := (HS.out.trans HT.out).keeps.cell id (HP2.out.2 i hio)
  have hoff : offAt b i = b.off[i] := by simp [offAt, List.getD_eq_getElem?_getD, hio]
  have HOFF := Lib.hid hoff
  have hx1 : (0 : Int) ≤ (i : Int) ∧ (i : Int) < (b.off.length : Int) := by omega
  clear hoff
  cases q3 : b.off[i] with
  | true =>
    have HF := Lib.hid (show loseE h b i d = 6 by simp [loseE, Q1.out, Q2.out, HOFF.out, q3])
    rw [q3] at m0
    clear q3
    (try clear e0 e1 e2 e3 e4 f0 f1 f2 f3 f4 f5 y1 y2)
    obtain ⟨e0, e1, e2, e3, e4⟩ := cells5 (HB1.out.step HT.out)
    obtain ⟨f0, f1, f2, f3, f4, f5⟩ := cells6 (HB2.out.step HT.out)
    obtain ⟨g0, g1, g2, g3, g4, g5⟩ := cells6 (HB3.out.step HT.out)
    have t0 := (HB3.out.step HT.out).frozen 0
    have t1 := (HB3.out.step HT.out).frozen 1
    have t2 := (HB3.out.step HT.out).frozen 2
    have t3 := (HB3.out.step HT.out).frozen 3
    have t4 := (HB3.out.step HT.out).frozen 4
    have t5 := (HB3.out.step HT.out).frozen 5
    go_wp2
    have b6 := set6 (HB3.out.step HT.out) (.int .i64 0) (.slice none 0 0) (.slice none 0 0) (.int .i64 0) (.slice none 0 0) (.int .i64 0)
    exact ret_struct3 (k := 6) rfl siRefBook rfl b6.1 rfl rfl (.no (loseD_no HF.out (by simp)) rfl (StepX.fresh (HS.out.trans HT.out) b6.2 (fun j hj => by omega)))
  | false =>
  have HF := Lib.hid (show loseE h b i d = 0 by simp [loseE, Q1.out, Q2.out, HOFF.out, q3])
  rw [q3] at m0
  clear q3
  go_wp2_with fail
  refine (Copy_any S b _ _ ⟨_, rfl, Rep.keep (.of_step HT.out) HQ.out⟩ HTH.out).mono ?_
  rintro e wd ⟨vs, vo, vt, xs, rfl, hD0, hSd⟩
  obtain ⟨⟨pvs, cvs, rfl⟩, ⟨pvo, cvo, rfl⟩, ⟨pvt, cvt, rfl⟩⟩ := hD0.form
  clear e0 e1 e2 e3 e4 f0 f1 f2 f3 f4 f5 m0
  have hbase : w.heap.size + 3 ≤ wn.heap.size := by have := HT.out.size; have := HZ3.out; omega
  have hTd := HT.out.trans hSd
  have hbD := Bx.new wd [.int .i64 b.agency, .slice pvs b.seats.length cvs, .slice pvo b.off.length cvo, .int .i64 b.sent, .slice pvt b.took.length cvt, .int .i64 b.cash] 30
  have hsA := Step.alloc wd (.cells #[.int .i64 b.agency, .slice pvs b.seats.length cvs, .slice pvo b.off.length cvo, .int .i64 b.sent, .slice pvt b.took.length cvt, .int .i64 b.cash] 30)
  have hD1 := (hD0.step hsA).desk (b2 := w.heap.size + 3) hbase (by have := hSd.size; omega) hbD
  have hT1 := hTd.trans hsA
  obtain ⟨go, co, hvo, hoc, hof, hgo, hbo⟩ := hD1.off_at hio
  injection hvo with hvo1 hvo2 hvo3
  subst hvo1 hvo3
  clear hvo2
  obtain ⟨_, _, g2, _, _, _⟩ := cells6 hD1.bx
  have m0 := hoc i hio
  have z0 := hof i
  clear hoc hof
  go_upto_region 7 with (fail)
  have hset := hD1.setOff (i := i) rfl true
  have hT2 : Step W3 ((wd.alloc (.cells #[.int .i64 b.agency, .slice pvs b.seats.length cvs, .slice (some ⟨go, 0, none⟩) b.off.length cvo, .int .i64 b.sent, .slice pvt b.took.length cvt, .int .i64 b.cash] 30)).setCell ⟨go, i, none⟩ (.bool true)) := hT1.setNew ⟨go, i, none⟩ _ (by have := HZ3.out; show W3.heap.size ≤ go; omega)
  have hD2 : Desk6 (w.heap.size + 3) ((wd.alloc (.cells #[.int .i64 b.agency, .slice pvs b.seats.length cvs, .slice (some ⟨go, 0, none⟩) b.off.length cvo, .int .i64 b.sent, .slice pvt b.took.length cvt, .int .i64 b.cash] 30)).setCell ⟨go, i, none⟩ (.bool true)) wd.heap.size (offBook b i) (.slice pvs b.seats.length cvs) (.slice (some ⟨go, 0, none⟩) b.off.length cvo) (.slice pvt b.took.length cvt) xs := hset.1
  clear hset hD1 hT1 hsA hbD hTd hD0 hSd g2 m0 z0 hgo hbo HT hbase
  generalize (wd.alloc (.cells #[.int .i64 b.agency, .slice pvs b.seats.length cvs, .slice (some ⟨go, 0, none⟩) b.off.length cvo, .int .i64 b.sent, .slice pvt b.took.length cvt, .int .i64 b.cash] 30)).setCell ⟨go, i, none⟩ (.bool true) = w2 at *
  generalize wd.heap.size = gb at *
  have HT := Lib.hid hT2
  have HD2 := Lib.hid hD2
  clear hT2 hD2
  (try clear e0 e1 e2 e3 e4 f0 f1 f2 f3 f4 f5 y1 y2)
  obtain ⟨e0, e1, e2, e3, e4⟩ := cells5 (HB1.out.step HT.out)
  obtain ⟨f0, f1, f2, f3, f4, f5⟩ := cells6 (HB2.out.step HT.out)
  go_wp2_with fail
  refine (Classes_any S h _ _ ⟨_, rfl, Rep.keep (.of_step HT.out) HR.out⟩ (okSec_valid HOK.out)).mono ?_
  rintro e wc ⟨vc, rfl, hvc, hSc⟩
  obtain ⟨pc, kc, bc, oc, rfl, _, mc, hpc, hcc, hbc⟩ := hvc.ints
  have hlc : (classesL h.sectors).length = z := by have := classesL_len (l := h.sectors) (fun i hi => ((okSec_valid HOK.out).2 i hi).1); have := HZ.out; omega
  have hcc2 : ∀ j, j < z → wc.cell? ⟨bc, oc + j, none⟩ = some (.int .i64 (classL h.sectors j)) := fun j hj => by
    rw [hcc j (by omega), classesL_get (fun i hi => ((okSec_valid HOK.out).2 i hi).1)]
  have hbc2 := hbc (by omega)
  obtain rfl := hpc (by omega)
  rw [hlc] at *
  have HCC := Lib.hid hcc2
  have HBC : Hid (¬ Xc (w.heap.size + 3) w2.heap.size wc.heap.size bc) := Lib.hid (fun hx => by
    obtain ⟨_, h1⟩ := hx
    have h2 := hbc2.1
    have h3 := hbc2.2
    unfold Old at h3
    omega)
  have HTC := Lib.hid (HT.out.trans hSc)
  have HZC := Lib.hid hSc.size
  have HD := Lib.hid (HD2.out.step hSc)
  have HXL : Hid (∀ (i : Nat) (hi : i < b.seats.length) (hx : i < xs.length) (q : Nat), xs[i].ownBlock = some q → q < w2.heap.size ∧ w.heap.size + 3 ≤ q) := Lib.hid (fun i hi hx q hq => ⟨((HD2.out.row i hi hx).lt q hq).2, ((HD2.out.row i hi hx).lt q hq).1⟩)
  have hO9 : OkDesk h (offBook b i) := by
    obtain ⟨o1, o2, o3⟩ := HO.out
    exact ⟨o1, by simp [offBook]; exact o2, o3⟩
  have HO9 := Lib.hid hO9
  obtain ⟨⟨gs, cs, hvs⟩, hforms⟩ := HD.out.forms hO9 HZ.out hz0
  injection hvs with hvs1 hvs2 hvs3
  subst hvs1 hvs3
  clear hvs2
  have HFO := Lib.hid hforms
  obtain ⟨hxi, gi, ci, hxv⟩ := hforms i hi
  have HXV := Lib.hid hxv
  have hrl : ∀ b', OkDesk h b' → ∀ s (hs : s < b'.seats.length), b'.seats[s].length = z := fun b' hb s hs => by have := hb.2.2.2.1 s hs; have := HZ.out; omega
  have HRL := Lib.hid hrl
  obtain ⟨ur, hr1, hr2⟩ := HP1.out.2 i his
  obtain ⟨pr, cr, br, orr, rfl, _, _, hpr, hcr, _⟩ := hr2.ints
  obtain rfl := hpr (by rw [hrl _ HO.out]; exact hz0)
  have hcr2 : ∀ j, j < z → w.cell? ⟨br, orr + j, none⟩ = some (.int .i64 (seatAt b i j)) := fun j hj => by
    rw [hcr j (by rw [hrl _ HO.out]; exact hj)]
    simp [seatAt, List.getD_eq_getElem?_getD, his, show j < b.seats[i].length by rw [hrl _ HO.out]; exact hj]
  rw [hrl _ HO.out] at hr1
  have HROW := Lib.hid (And.intro hr1 hcr2)
  have HBZ := Lib.hid (show w.heap.size + 3 ≤ wc.heap.size by have := HTC.out.size; have := HZ3.out; omega)
  clear hr1 hr2 hpr hcr hcr2 hrl hxv hforms hO9
  clear hvc hcc hcc2 hbc hbc2 hpc hlc hSc HT HD2 e0 e1 e2 e3 e4 f0 f1 f2 f3 f4 f5
  have hstart : RLoseRel (w.heap.size + 3) w2.heap.size wc gb h b i d (.slice (some ⟨gs, 0, none⟩) b.seats.length cvs) (.slice (some ⟨go, 0, none⟩) b.off.length cvo) (.slice pvt b.took.length cvt) xs 0 wc (.slice none 0 0) := ⟨HD.out, OwnL.nil _ _ _ _, StepX.refl _ _⟩
  go_wp2_with fail
  go_loopw [13, 14] (fun mv idx wr => ∃ k : Nat, k ≤ z ∧ idx = .int .i64 k ∧ RLoseRel (w.heap.size + 3) w2.heap.size wc gb h b i d (.slice (some ⟨gs, 0, none⟩) b.seats.length cvs) (.slice (some ⟨go, 0, none⟩) b.off.length cvo) (.slice pvt b.took.length cvt) xs k wr mv) (fun _ idx _ => z - (intOf idx).toNat)
  case atStart => exact ⟨0, Nat.zero_le _, rfl, hstart⟩
  case round =>
    clear hstart
    obtain ⟨k, hk, rfl, hR⟩ := hrel
    obtain ⟨hDk, hown, hX⟩ := hR
    have hlike := like_to HO9.out (show 0 ≤ (offBook b i).cash from HC0.out.1) i d k (by have := HZ.out; omega)
    have hOl := hlike.ok HO9.out (by have := HC0.out.1; simp only [offBook]; omega)
    obtain ⟨P, hP⟩ : ∃ P, P = loseTo h (offBook b i) i d k := ⟨_, rfl⟩
    rw [← hP] at hDk hown hOl
    have hOk : OkDesk h (withCash P.1 b.cash) := okDesk_withCash hOl (by have := HC0.out.1; omega) (by have := HO.out.2.2.2.2.2.2.2.1; exact this)
    obtain ⟨bk, hbk⟩ : ∃ bk, bk = withCash P.1 b.cash := ⟨_, rfl⟩
    rw [← hbk] at hDk hOk
    have HP := Lib.hid hP
    have HBK := Lib.hid hbk
    have HDK := Lib.hid hDk
    obtain ⟨pu, cu, rfl, _, _⟩ := hown.form
    have HOWN := Lib.hid hown
    have HX := Lib.hid hX
    have HOK2 := Lib.hid hOk
    have HLK : Hid (P.2.length ≤ k) := Lib.hid (by rw [hP]; exact loseTo_len _ _ _ _ _)
    have HSA := Lib.hid (show seatAt P.1 i k = seatAt b i k by rw [hP]; exact loseTo_keep k k (Nat.le_refl _))
    have HT := Lib.hid (StepX.fresh HTC.out HX.out (fun j hj => by have := hj.1; have := HZ3.out; omega))
    clear hDk hown hX hOk hlike hP hbk hOl
    by_cases hlt : k < z
    · skip
      (try clear e0 e1 e2 e3 e4 f0 f1 f2 f3 f4 f5 y1 y2)
      obtain ⟨e0, e1, e2, e3, e4⟩ := cells5 (HB1.out.step HT.out)
      obtain ⟨f0, f1, f2, f3, f4, f5⟩ := cells6 (HB2.out.step HT.out)
      have a1 := (HS.out.trans HT.out).keeps.cell id HROW.out.1
      have a2 := (HS.out.trans HT.out).keeps.cell id (HROW.out.2 k hlt)
      have hx2 : (0 : Int) ≤ (i : Int) ∧ (i : Int) < (b.seats.length : Int) := by omega
      have hx3 : (0 : Int) ≤ (k : Int) ∧ (k : Int) < (z : Int) := by omega
      obtain ⟨y, hyy⟩ : ∃ y, y = seatAt b i k := ⟨_, rfl⟩
      rw [← hyy] at a2
      have HYY := Lib.hid hyy
      clear hyy
      by_cases hy : 0 < y
      rotate_left
      · have hN := Lib.hid (show loseTo h (offBook b i) i d (k + 1) = P by rw [loseTo_no (by rw [← HP.out, HSA.out, ← HYY.out]; exact hy), HP.out])
        go_wp2
        go_roundw
        case rel => exact ⟨k + 1, by omega, by go_num, by unfold RLoseRel; rw [hN.out, ← HBK.out]; exact ⟨HDK.out, HOWN.out, HX.out⟩⟩
        case measure => simp [intOf]; omega
      · obtain ⟨wo, hwo⟩ : ∃ wo, wo = wr := ⟨_, rfl⟩
        subst hwo
        have hi2 : (0 : Int) ≤ (i : Int) ∧ (i : Int) < 1000 := by omega
        go_wp2_with fail
        have hb2 := Bx.new wo [.int .i64 k, .int .i64 (-1), .int .i64 (-1)] 54
        have hs2 : Step wo (wo.alloc (.cells #[.int .i64 k, .int .i64 (-1), .int .i64 (-1)] 54)) := Step.alloc _ _
        have hst : RInner (w.heap.size + 3) w2.heap.size wc gb h bk i k d y wo.heap.size (.slice pu P.2.length cu) P.2 (.slice (some ⟨gs, 0, none⟩) b.seats.length cvs) (.slice (some ⟨go, 0, none⟩) b.off.length cvo) (.slice pvt b.took.length cvt) xs (i + 1) (wo.alloc (.cells #[.int .i64 k, .int .i64 (-1), .int .i64 (-1)] 54)) none :=
          ⟨HOWN.out.step hs2, HX.out.trans (.of hs2), hb2, HDK.out.step hs2, rfl⟩
        have hmo : (Value.slice pu P.2.length cu).ownBlock ≠ some wo.heap.size := fun e => by have := (HOWN.out.lt _ e).2; omega
        have hmz : wc.heap.size ≤ wo.heap.size := HX.out.size
        have HMO := Lib.hid (And.intro hmo hmz)
        clear hb2 hs2 hmo hmz a1 a2 e0 e1 e2 e3 e4 f0 f1 f2 f3 f4 f5 HT HX HDK
        generalize wo.alloc (.cells #[.int .i64 k, .int .i64 (-1), .int .i64 (-1)] 54) = W2 at *
        generalize wo.heap.size = mb at *
        have HST := Lib.hid hst
        clear hst
        go_loopw [16] (fun sv wi => ∃ (sN : Nat) (st : Option (Nat × Nat)), i + 1 ≤ sN ∧ sN ≤ h.dates.length ∧ sv = .int .i64 sN ∧ RInner (w.heap.size + 3) w2.heap.size wc gb h bk i k d y mb (.slice pu P.2.length cu) P.2 (.slice (some ⟨gs, 0, none⟩) b.seats.length cvs) (.slice (some ⟨go, 0, none⟩) b.off.length cvo) (.slice pvt b.took.length cvt) xs sN wi st) (fun sv _ => h.dates.length - (intOf sv).toNat)
        case atStart => exact ⟨i + 1, none, Nat.le_refl _, by omega, by go_num, HST.out⟩
        case round =>
          clear HST
          obtain ⟨sN, st, hs1, hs2, rfl, hR⟩ := hrel
          cases st with
          | some sj =>
            obtain ⟨s0, j⟩ := sj
            obtain ⟨hown, hX, hbm, hDi, hpl⟩ := hR
            have HOI := Lib.hid hown
            have HXI := Lib.hid hX
            have HBM := Lib.hid hbm
            have HDI := Lib.hid hDi
            have HPL := Lib.hid hpl
            have HT := Lib.hid (StepX.fresh HTC.out hX (fun j hj => by have := hj.1; have := HZ3.out; omega))
            clear hown hX hbm hDi hpl
            have n0 := HBM.out.cell 0
            have n1 := HBM.out.cell 1
            have n2 := HBM.out.cell 2
            simp only [List.getElem?_cons_zero, List.getElem?_cons_succ] at n0 n1 n2
            (try clear e0 e1 e2 e3 e4 f0 f1 f2 f3 f4 f5 y1 y2)
            obtain ⟨e0, e1, e2, e3, e4⟩ := cells5 (HB1.out.step HT.out)
            obtain ⟨f0, f1, f2, f3, f4, f5⟩ := cells6 (HB2.out.step HT.out)
            have hs0 : (0 : Int) ≤ (s0 : Int) := by omega
            have hOB : OkDesk h (putSeat bk s0 j y) := (like_put bk s0 j y).ok HOK2.out (by have := HOK2.out.2.2.2.2.2.2.1; omega)
            have HOB := Lib.hid hOB
            have HNEXT := Lib.hid (show loseTo h (offBook b i) i d (k + 1) = (putSeat (putSeat P.1 s0 j y) i k 0, P.2 ++ [⟨k, s0, j⟩]) by
              rw [loseTo_yes (by rw [← HP.out, HSA.out, ← HYY.out]; exact hy), ← HP.out, HSA.out, ← HYY.out]
              have h9 := HPL.out
              rw [HBK.out, placeL_cash] at h9
              unfold loseOne
              rw [h9]
              rfl)
            clear hOB
            cases hlts : decide (sN < h.dates.length) with
            | true =>
              have hob : OkDesk h (putSeat bk s0 j y) := HOB.out
              have hisb : i < (putSeat bk s0 j y).seats.length := by have := hob.2.2.1; omega
              have hklb : k < (putSeat bk s0 j y).seats[i].length := by rw [HRL.out _ hob]; exact hlt
              obtain ⟨m0, m1, z1, hgsl, hgil⟩ := HDI.out.seat_c hisb hxi HXV.out hklb
              obtain ⟨_, g1, _, _, _, _⟩ := cells6 HDI.out.bx
              have hown : xs[i].ownBlock = some gi := by rw [HXV.out]; rfl
              have hty : Ty wr gi 3 := owns_ty (HDI.out.row i hisb hxi) hown
              have hne : gi ≠ mb := fun e => HBM.out.neTy hty (by decide) e.symm
              have hgx := HXL.out i his hxi gi hown
              go_upto_region 24 with (fail)
              have hset := HDI.out.setSeat (j := k) hisb hxi (by rw [HRL.out _ hob]; exact HXV.out) 0
              have hown5 := rmoves_set HOI.out (k := gi) (o := k) (u := .int .i64 0) hty (by decide)
              have hbm5 := HBM.out.setOther (b := gi) (o := k) (v := .int .i64 0) (Ne.symm hne)
              have hX5 := HXI.out.setCell ⟨gi, k, none⟩ (.int .i64 0) ⟨hgx.2, .inl hgx.1⟩
              have HD5 := Lib.hid hset.1
              have H5 := Lib.hid (And.intro hown5 (And.intro hbm5 hX5))
              clear hset hown5 hbm5 hX5 m0 m1 z1 g1 hne n0 n1 n2 hown hty hgx
              generalize wr.setCell ⟨gi, k, none⟩ (.int .i64 0) = W5 at *
              have n0 := H5.out.2.1.cell 0
              have n1 := H5.out.2.1.cell 1
              have n2 := H5.out.2.1.cell 2
              simp only [List.getElem?_cons_zero, List.getElem?_cons_succ] at n0 n1 n2
              have hu := SLe.one (S := avoid (fun _ => False) (.slice pu P.2.length cu)) (w := W5) (cs := [.int .i64 ((⟨k, s0, j⟩ : BT.Move)).seat, .int .i64 ((⟨k, s0, j⟩ : BT.Move)).shw, .int .i64 ((⟨k, s0, j⟩ : BT.Move)).at_]) (x := (⟨k, s0, j⟩ : BT.Move)) 54 rfl
              have hown6 := H5.out.1.alloc (.cells #[.int .i64 ((⟨k, s0, j⟩ : BT.Move)).seat, .int .i64 ((⟨k, s0, j⟩ : BT.Move)).shw, .int .i64 ((⟨k, s0, j⟩ : BT.Move)).at_] 54)
              have hlm : P.2.length ≤ k := HLK.out
              have hz6 : wc.heap.size ≤ (W5.alloc (.cells #[.int .i64 ((⟨k, s0, j⟩ : BT.Move)).seat, .int .i64 ((⟨k, s0, j⟩ : BT.Move)).shw, .int .i64 ((⟨k, s0, j⟩ : BT.Move)).at_] 54)).heap.size := by have := H5.out.2.2.size; simp; omega
              go_wp2_with (at_builtin; refine wpl_append (α := BT.Move) (S := fun _ => False) (base := wc.heap.size) (v := .slice pu P.2.length cu) (l := P.2) (m := [(⟨k, s0, j⟩ : BT.Move)]) eiRMoves rfl _ _ rfl rfl rfl hown6 hu (P.2.length + 1) (by simp) (P.2 ++ [(⟨k, s0, j⟩ : BT.Move)]) rfl ?_ ?_ hz6 ?_)
              · simp only [maxLen]; omega
              · omega
              intro p' c' w7 hown7 hg7
              have hD7 := (HD5.out.step (Step.alloc _ _)).grown hown6 hg7 (by decide) (by decide) (by decide) (by decide) (by decide)
              have hX7 := (H5.out.2.2.alloc' (.cells #[.int .i64 ((⟨k, s0, j⟩ : BT.Move)).seat, .int .i64 ((⟨k, s0, j⟩ : BT.Move)).shw, .int .i64 ((⟨k, s0, j⟩ : BT.Move)).at_] 54)).trans (StepX.grown (X := Xc (w.heap.size + 3) w2.heap.size wc.heap.size) hg7 fun j hj _ => by have h1 := (HOWN.out.lt j hj).1; exact ⟨by have := HBZ.out; omega, .inr h1⟩)
              have H7 := Lib.hid (And.intro hD7 (And.intro hown7 hX7))
              clear hown6 hu hlm hz6 hown7 hg7 hD7 hX7 n0 n1 n2
              go_wp2
              go_roundw
              case rel => exact ⟨k + 1, by omega, by go_num, by unfold RLoseRel; rw [HNEXT.out]; have h7 := H7.out; rw [HBK.out] at h7; exact h7⟩
              case measure => simp [intOf]; omega
            | false =>
              have hob : OkDesk h (putSeat bk s0 j y) := HOB.out
              have hisb : i < (putSeat bk s0 j y).seats.length := by have := hob.2.2.1; omega
              have hklb : k < (putSeat bk s0 j y).seats[i].length := by rw [HRL.out _ hob]; exact hlt
              obtain ⟨m0, m1, z1, hgsl, hgil⟩ := HDI.out.seat_c hisb hxi HXV.out hklb
              obtain ⟨_, g1, _, _, _, _⟩ := cells6 HDI.out.bx
              have hown : xs[i].ownBlock = some gi := by rw [HXV.out]; rfl
              have hty : Ty wr gi 3 := owns_ty (HDI.out.row i hisb hxi) hown
              have hne : gi ≠ mb := fun e => HBM.out.neTy hty (by decide) e.symm
              have hgx := HXL.out i his hxi gi hown
              go_upto_region 24 with (fail)
              have hset := HDI.out.setSeat (j := k) hisb hxi (by rw [HRL.out _ hob]; exact HXV.out) 0
              have hown5 := rmoves_set HOI.out (k := gi) (o := k) (u := .int .i64 0) hty (by decide)
              have hbm5 := HBM.out.setOther (b := gi) (o := k) (v := .int .i64 0) (Ne.symm hne)
              have hX5 := HXI.out.setCell ⟨gi, k, none⟩ (.int .i64 0) ⟨hgx.2, .inl hgx.1⟩
              have HD5 := Lib.hid hset.1
              have H5 := Lib.hid (And.intro hown5 (And.intro hbm5 hX5))
              clear hset hown5 hbm5 hX5 m0 m1 z1 g1 hne n0 n1 n2 hown hty hgx
              generalize wr.setCell ⟨gi, k, none⟩ (.int .i64 0) = W5 at *
              have n0 := H5.out.2.1.cell 0
              have n1 := H5.out.2.1.cell 1
              have n2 := H5.out.2.1.cell 2
              simp only [List.getElem?_cons_zero, List.getElem?_cons_succ] at n0 n1 n2
              have hu := SLe.one (S := avoid (fun _ => False) (.slice pu P.2.length cu)) (w := W5) (cs := [.int .i64 ((⟨k, s0, j⟩ : BT.Move)).seat, .int .i64 ((⟨k, s0, j⟩ : BT.Move)).shw, .int .i64 ((⟨k, s0, j⟩ : BT.Move)).at_]) (x := (⟨k, s0, j⟩ : BT.Move)) 54 rfl
              have hown6 := H5.out.1.alloc (.cells #[.int .i64 ((⟨k, s0, j⟩ : BT.Move)).seat, .int .i64 ((⟨k, s0, j⟩ : BT.Move)).shw, .int .i64 ((⟨k, s0, j⟩ : BT.Move)).at_] 54)
              have hlm : P.2.length ≤ k := HLK.out
              have hz6 : wc.heap.size ≤ (W5.alloc (.cells #[.int .i64 ((⟨k, s0, j⟩ : BT.Move)).seat, .int .i64 ((⟨k, s0, j⟩ : BT.Move)).shw, .int .i64 ((⟨k, s0, j⟩ : BT.Move)).at_] 54)).heap.size := by have := H5.out.2.2.size; simp; omega
              go_wp2_with (at_builtin; refine wpl_append (α := BT.Move) (S := fun _ => False) (base := wc.heap.size) (v := .slice pu P.2.length cu) (l := P.2) (m := [(⟨k, s0, j⟩ : BT.Move)]) eiRMoves rfl _ _ rfl rfl rfl hown6 hu (P.2.length + 1) (by simp) (P.2 ++ [(⟨k, s0, j⟩ : BT.Move)]) rfl ?_ ?_ hz6 ?_)
              · simp only [maxLen]; omega
              · omega
              intro p' c' w7 hown7 hg7
              have hD7 := (HD5.out.step (Step.alloc _ _)).grown hown6 hg7 (by decide) (by decide) (by decide) (by decide) (by decide)
              have hX7 := (H5.out.2.2.alloc' (.cells #[.int .i64 ((⟨k, s0, j⟩ : BT.Move)).seat, .int .i64 ((⟨k, s0, j⟩ : BT.Move)).shw, .int .i64 ((⟨k, s0, j⟩ : BT.Move)).at_] 54)).trans (StepX.grown (X := Xc (w.heap.size + 3) w2.heap.size wc.heap.size) hg7 fun j hj _ => by have h1 := (HOWN.out.lt j hj).1; exact ⟨by have := HBZ.out; omega, .inr h1⟩)
              have H7 := Lib.hid (And.intro hD7 (And.intro hown7 hX7))
              clear hown6 hu hlm hz6 hown7 hg7 hD7 hX7 n0 n1 n2
              go_wp2
              go_roundw
              case rel => exact ⟨k + 1, by omega, by go_num, by unfold RLoseRel; rw [HNEXT.out]; have h7 := H7.out; rw [HBK.out] at h7; exact h7⟩
              case measure => simp [intOf]; omega
          | none =>
            obtain ⟨hown, hX, hbm, hDi, hpl⟩ := hR
            have HOI := Lib.hid hown
            have HXI := Lib.hid hX
            have HBM := Lib.hid hbm
            have HDI := Lib.hid hDi
            have HPL := Lib.hid hpl
            have HT := Lib.hid (StepX.fresh HTC.out hX (fun j hj => by have := hj.1; have := HZ3.out; omega))
            clear hown hX hbm hDi hpl
            have n0 := HBM.out.cell 0
            have n1 := HBM.out.cell 1
            have n2 := HBM.out.cell 2
            simp only [List.getElem?_cons_zero, List.getElem?_cons_succ] at n0 n1 n2
            (try clear e0 e1 e2 e3 e4 f0 f1 f2 f3 f4 f5 y1 y2)
            obtain ⟨e0, e1, e2, e3, e4⟩ := cells5 (HB1.out.step HT.out)
            obtain ⟨f0, f1, f2, f3, f4, f5⟩ := cells6 (HB2.out.step HT.out)
            by_cases hsd : sN < h.dates.length
            · have hd1 : decide (sN < h.dates.length) = true := by simpa using hsd
              go_wp2_with fail
              obtain ⟨wq, hwq⟩ : ∃ wq, wq = wr := ⟨_, rfl⟩
              subst hwq
              clear n0 n1 n2 e0 e1 e2 e3 e4 f0 f1 f2 f3 f4 f5 HT
              have hst3 : RIn3 (w.heap.size + 3) w2.heap.size wc gb h bk k d y mb (.slice pu P.2.length cu) P.2 (.slice (some ⟨gs, 0, none⟩) b.seats.length cvs) (.slice (some ⟨go, 0, none⟩) b.off.length cvo) (.slice pvt b.took.length cvt) xs sN 0 wq none := ⟨HOI.out, HXI.out, HBM.out, HDI.out, fun j hj => absurd hj (by omega)⟩
              have HST := Lib.hid hst3
              clear hst3 HOI HXI HBM HDI
              go_loopw [17] (fun kv wj => ∃ (kk : Nat) (st : Option Nat), kk ≤ z ∧ kv = .int .i64 kk ∧ RIn3 (w.heap.size + 3) w2.heap.size wc gb h bk k d y mb (.slice pu P.2.length cu) P.2 (.slice (some ⟨gs, 0, none⟩) b.seats.length cvs) (.slice (some ⟨go, 0, none⟩) b.off.length cvo) (.slice pvt b.took.length cvt) xs sN kk wj st) (fun kv _ => z - (intOf kv).toNat)
              case atStart => exact ⟨0, none, Nat.zero_le _, rfl, HST.out⟩
              case round =>
                clear HST
                obtain ⟨kk, st, hkk, rfl, hR⟩ := hrel
                cases st with
                | some j =>
                  obtain ⟨hown, hX, hbm, hDi, hpl⟩ := hR
                  have HH := Lib.hid (And.intro hown (And.intro hX (And.intro hbm (And.intro hDi hpl))))
                  clear hown hX hbm hDi hpl
                  have n0 := HH.out.2.2.1.cell 0
                  have n1 := HH.out.2.2.1.cell 1
                  have n2 := HH.out.2.2.1.cell 2
                  simp only [List.getElem?_cons_zero, List.getElem?_cons_succ] at n0 n1 n2
                  have hs0 : (0 : Int) ≤ (sN : Int) := by omega
                  cases hlts : decide (kk < z) with
                  | true =>
                    go_wp2
                    go_roundw
                    case rel => exact ⟨sN + 1, some (sN, j), by omega, by omega, by go_num, HH.out.1, HH.out.2.1, HH.out.2.2.1, HH.out.2.2.2.1, HPL.out.trans HH.out.2.2.2.2⟩
                    case measure => simp [intOf]; omega
                  | false =>
                    go_wp2
                    go_roundw
                    case rel => exact ⟨sN + 1, some (sN, j), by omega, by omega, by go_num, HH.out.1, HH.out.2.1, HH.out.2.2.1, HH.out.2.2.2.1, HPL.out.trans HH.out.2.2.2.2⟩
                    case measure => simp [intOf]; omega
                | none =>
                  obtain ⟨hown, hX, hbm, hDi, hno⟩ := hR
                  have HOI := Lib.hid hown
                  have HXI := Lib.hid hX
                  have HBM := Lib.hid hbm
                  have HDI := Lib.hid hDi
                  have HNO := Lib.hid hno
                  have HT := Lib.hid (StepX.fresh HTC.out hX (fun j hj => by have := hj.1; have := HZ3.out; omega))
                  clear hown hX hbm hDi hno
                  have n0 := HBM.out.cell 0
                  have n1 := HBM.out.cell 1
                  have n2 := HBM.out.cell 2
                  simp only [List.getElem?_cons_zero, List.getElem?_cons_succ] at n0 n1 n2
                  by_cases hkz : kk < z
                  rotate_left
                  · have hd2 : decide (kk < z) = false := by simpa using hkz
                    have HNX := Lib.hid (show placeL h bk (classL h.sectors k) d sN (h.dates.length - sN) = placeL h bk (classL h.sectors k) d (sN + 1) (h.dates.length - (sN + 1)) by
                      rw [show h.dates.length - sN = (h.dates.length - (sN + 1)) + 1 by omega]
                      exact placeL_skip (open_none fun j hj => HNO.out j (by have := HZ.out; omega)))
                    go_wp2
                    go_roundw
                    case rel => exact ⟨sN + 1, none, by omega, by omega, by go_num, HOI.out, HXI.out, HBM.out, HDI.out, HPL.out.trans HNX.out⟩
                    case measure => simp [intOf]; omega
                  have hd2 : decide (kk < z) = true := by simpa using hkz
                  (try clear e0 e1 e2 e3 e4 f0 f1 f2 f3 f4 f5 y1 y2)
                  obtain ⟨e0, e1, e2, e3, e4⟩ := cells5 (HB1.out.step HT.out)
                  obtain ⟨f0, f1, f2, f3, f4, f5⟩ := cells6 (HB2.out.step HT.out)
                  obtain ⟨g0, g1, g2, g3, g4, g5⟩ := cells6 HDI.out.bx
                  go_wp2_with fail
                  refine (Sells_any S (fun _ => False) h bk _ _ _ ⟨_, rfl, Rep.keep (.of_step HT.out) HR.out⟩ ⟨_, rfl, HDI.out.book (fun _ _ h => h)⟩ HOK2.out sN hsd d).mono ?_
                  rintro e wz ⟨rfl, hSz⟩
                  have HSZ := Lib.hid hSz
                  clear hSz e0 e1 e2 e3 e4 f0 f1 f2 f3 f4 f5 g0 g1 g2 g3 g4 g5 n0 n1 n2
                  cases q : sellsB h bk sN d with
                  | false =>
                    have HNX := Lib.hid (show placeL h bk (classL h.sectors k) d sN (h.dates.length - sN) = placeL h bk (classL h.sectors k) d (sN + 1) (h.dates.length - (sN + 1)) by
                      rw [show h.dates.length - sN = (h.dates.length - (sN + 1)) + 1 by omega]
                      exact placeL_skip (open_shut q))
                    clear q
                    go_wp2
                    go_roundw
                    case rel => exact ⟨sN + 1, none, by omega, by omega, by go_num, HOI.out.step HSZ.out, HXI.out.trans (.of HSZ.out), HBM.out.step HSZ.out, HDI.out.step HSZ.out, HPL.out.trans HNX.out⟩
                    case measure => simp [intOf]; omega
                  | true =>
                    have HQ := Lib.hid q
                    clear q
                    have HTz := Lib.hid (HT.out.trans HSZ.out)
                    have HXz := Lib.hid (HXI.out.trans (.of HSZ.out))
                    have HDz := Lib.hid (HDI.out.step HSZ.out)
                    have HBz := Lib.hid (HBM.out.step HSZ.out)
                    have HOz := Lib.hid (HOI.out.step HSZ.out)
                    clear HXI HDI HBM HOI HT HSZ
                    obtain ⟨hxs, gis, cis, hxvs⟩ := HFO.out sN hsd
                    have HXVS := Lib.hid hxvs
                    have hisb : sN < bk.seats.length := by have := HOK2.out.2.2.1; omega
                    have hklb : kk < bk.seats[sN].length := by rw [HRL.out _ HOK2.out]; exact hkz
                    obtain ⟨m0, m1, z1, _, hgil⟩ := HDz.out.seat_c hisb hxs hxvs hklb
                    obtain ⟨_, g1, _, _, _, _⟩ := cells6 HDz.out.bx
                    have cA := HXz.out.keeps.cell HBC.out (HCC.out kk hkz)
                    have cB := HXz.out.keeps.cell HBC.out (HCC.out k hlt)
                    have hx4 : (0 : Int) ≤ (kk : Int) ∧ (kk : Int) < (z : Int) := by omega
                    have hx7 : (0 : Int) ≤ (sN : Int) ∧ (sN : Int) < (b.seats.length : Int) := by have := HOK2.out.2.2.1; have := HO.out.2.2.1; omega
                    clear hxvs
                    by_cases hcl : classL h.sectors kk = classL h.sectors k
                    rotate_left
                    · have hcd : (classL h.sectors kk == classL h.sectors k) = false := by simpa using hcl
                      have HNP := Lib.hid (show openP1 h bk sN (classL h.sectors k) kk = false by simp [openP1, hcl])
                      clear hcl
                      go_wp2
                      go_quiet (fail)
                      go_wp2
                      go_roundw
                      case rel => exact ⟨kk + 1, none, by omega, by go_num, HOz.out.step (.drewN _ _), HXz.out.trans (.of (Step.drewN _ _)), HBz.out.step (.drewN _ _), HDz.out.step (.drewN _ _), fun j hj => by
                        rcases Nat.lt_or_ge j kk with h1 | h1
                        · exact HNO.out j h1
                        · rw [show j = kk by omega]; exact HNP.out⟩
                      case measure => simp [intOf]; omega
                    have hcd : (classL h.sectors kk == classL h.sectors k) = true := by simpa using hcl
                    have HCL := Lib.hid hcl
                    clear hcl
                    by_cases hse : seatAt bk sN kk = 0
                    rotate_left
                    · have hed : (seatAt bk sN kk == 0) = false := by simpa using hse
                      have HNP := Lib.hid (show openP1 h bk sN (classL h.sectors k) kk = false by simp [openP1, hse])
                      clear hse
                      go_wp2
                      go_quiet (fail)
                      go_wp2
                      go_roundw
                      case rel => exact ⟨kk + 1, none, by omega, by go_num, HOz.out.step (.drewN _ _), HXz.out.trans (.of (Step.drewN _ _)), HBz.out.step (.drewN _ _), HDz.out.step (.drewN _ _), fun j hj => by
                        rcases Nat.lt_or_ge j kk with h1 | h1
                        · exact HNO.out j h1
                        · rw [show j = kk by omega]; exact HNP.out⟩
                      case measure => simp [intOf]; omega
                    have hed : (seatAt bk sN kk == 0) = true := by simpa using hse
                    have HHIT := Lib.hid (show placeL h bk (classL h.sectors k) d sN (h.dates.length - sN) = some (sN, (kk : Int)) by
                      obtain ⟨l, hl⟩ := open_first (h := h) (b := bk) (s := (sN : Int)) (c := classL h.sectors k) (d := d) HQ.out (k := kk) (by have := HZ.out; omega) HNO.out (by simp [openP1, HCL.out, hse])
                      rw [show h.dates.length - sN = (h.dates.length - (sN + 1)) + 1 by omega]
                      exact placeL_hit hl)
                    clear hse
                    go_wp2
                    go_quiet (fail)
                    have bq := HBz.out.step (.drewN _ nq)
                    have n1 := bq.cell 1
                    have n2 := bq.cell 2
                    have zm := bq.frozen
                    simp only [List.getElem?_cons_zero, List.getElem?_cons_succ] at n1 n2
                    go_upto_region 22 with (fail)
                    have b5 := (bq.setCell 1 (.int .i64 sN)).setCell 2 (.int .i64 kk)
                    have hw5 : Wrote mb (wz.drewN nq) (((wz.drewN nq).setCell ⟨mb, 1, none⟩ (.int .i64 sN)).setCell ⟨mb, 2, none⟩ (.int .i64 kk)) := by
                      have a1 := Wrote.setCell (wz.drewN nq) mb 1 (.int .i64 sN)
                      have a2 := Wrote.setCell ((wz.drewN nq).setCell ⟨mb, 1, none⟩ (.int .i64 sN)) mb 2 (.int .i64 kk)
                      exact ⟨a2.os.trans a1.os, a2.tape.trans a1.tape, a2.output.trans a1.output, a2.size.trans a1.size, fun q hq => (a2.block q hq).trans (a1.block q hq)⟩
                    have hD5 := (HDz.out.step (.drewN _ nq)).other hw5.grown bq.ty (by decide) (by decide) (by decide) (by decide) (by decide)
                    have ho5 := (HOz.out.step (.drewN _ nq)).keptF fun q hq => hw5.block q fun e => HMO.out.1 (e ▸ hq)
                    have hmx : Xc (w.heap.size + 3) w2.heap.size wc.heap.size mb := ⟨by have := HBZ.out; have := HMO.out.2; omega, .inr HMO.out.2⟩
                    have hx5 := ((HXz.out.trans (.of (Step.drewN _ nq))).setCell ⟨mb, 1, none⟩ (.int .i64 sN) hmx).setCell ⟨mb, 2, none⟩ (.int .i64 kk) hmx
                    have H5 := Lib.hid (And.intro b5 (And.intro hD5 (And.intro ho5 hx5)))
                    clear b5 hw5 hD5 ho5 hx5 hmx n1 n2 zm bq m0 m1 z1 g1 cA cB hgil HBz HDz HOz HXz HTz
                    generalize ((wz.drewN nq).setCell ⟨mb, 1, none⟩ (.int .i64 sN)).setCell ⟨mb, 2, none⟩ (.int .i64 kk) = w5 at *
                    have HT5 := Lib.hid (StepX.fresh HTC.out H5.out.2.2.2 (fun j hj => by have := hj.1; have := HZ3.out; omega))
                    obtain ⟨m0, m1, z1, _, hgil⟩ := H5.out.2.1.seat_c hisb hxs HXVS.out hklb
                    obtain ⟨_, g1, _, _, _, _⟩ := cells6 H5.out.2.1.bx
                    obtain ⟨_, f1, _, _, _, _⟩ := cells6 (HB2.out.step HT5.out)
                    have a1 := (HS.out.trans HT5.out).keeps.cell id HROW.out.1
                    have a2 := (HS.out.trans HT5.out).keeps.cell id (HROW.out.2 k hlt)
                    rw [← HYY.out] at a2
                    have HM := Lib.hid (And.intro m0 (And.intro g1 (And.intro f1 (And.intro a1 (And.intro a2 (And.intro z1 hgil))))))
                    clear m0 m1 z1 g1 f1 a1 a2 hgil
                    refine wp_region_seq (kdOf [] []) [0, 1, 0, 7, 15, 0, 0, 64, 0, 448, 960, 0, 4032, 8128, 16383, 32767] [0, 1, 2, 3, 4, 5, 6, 7, 8, 9, 10, 11, 12, 13, 14] [15] (by kernel_rfl) (by kernel_rfl) (fun i T z hi hk => by simp [kdOf] at hk <;> (try (split at hk <;> cases hk))) ?_
                    intro Wx hWx
                    have HT := Lib.hid hWx
                    clear hWx
                    have m0 := HT.out.keeps.cell id HM.out.1
                    have g1 := HT.out.keeps.cell id HM.out.2.1
                    have f1 := HT.out.keeps.cell id HM.out.2.2.1
                    have a1 := HT.out.keeps.cell id HM.out.2.2.2.1
                    have a2 := HT.out.keeps.cell id HM.out.2.2.2.2.1
                    repeat (first | (refine run_off rfl rfl (by rfl) ?_; (try simp only [Act.put, List.setIfInBounds_toArray, List.set_cons_zero, List.set_cons_succ])) | (refine run_chain_off rfl rfl (by rfl) (K0_mono _) ?_; (try simp only [Act.put, List.setIfInBounds_toArray, List.set_cons_zero, List.set_cons_succ])) | ((refine run_want rfl rfl (by rfl) ⟨?_, fun W hW => ?_, ?_⟩; rotate_left; (· (have d0 := hW.keeps.cell id m0; have d1 := hW.keeps.cell id g1; have d2 := hW.keeps.cell id f1; have d3 := hW.keeps.cell id a1; have d4 := hW.keeps.cell id a2; go_simp; (try with_reducible rfl)))); (try simp only [Act.put, List.setIfInBounds_toArray, List.set_cons_zero, List.set_cons_succ])))
                    refine run_end (L := [_]) rfl (fun W6 hW6 => ?_)
                    have HT6 := Lib.hid (HT.out.trans hW6)
                    clear hW6 HT
                    have HT := HT6
                    clear HT6
                    have hD6 := H5.out.2.1.step HT.out
                    have z1 := (HT.out.cells.2 gis kk HM.out.2.2.2.2.2.2).trans HM.out.2.2.2.2.2.1
                    obtain ⟨_, m1, _, _, _⟩ := hD6.seat_c hisb hxs HXVS.out hklb
                    clear m0 g1 f1 a1 a2
                    have hset := hD6.setSeat (j := kk) hisb hxs (by rw [HRL.out _ HOK2.out]; exact HXVS.out) y
                    have hown6 : xs[sN].ownBlock = some gis := by rw [HXVS.out]; rfl
                    have hty : Ty W6 gis 3 := owns_ty (hD6.row sN hisb hxs) hown6
                    have ho7 := rmoves_set (H5.out.2.2.1.step HT.out) (k := gis) (o := kk) (u := .int .i64 y) hty (by decide)
                    have hbm6 := H5.out.1.step HT.out
                    have hne : mb ≠ gis := hbm6.neTy hty (by decide)
                    have hbm7 := hbm6.setOther (b := gis) (o := kk) (v := .int .i64 y) hne
                    have hgx := HXL.out sN (by have := HO.out.2.2.1; omega) hxs gis hown6
                    have hX7 := (H5.out.2.2.2.trans (.of HT.out)).setCell ⟨gis, kk, none⟩ (.int .i64 y) ⟨hgx.2, .inl hgx.1⟩
                    have H7 := Lib.hid (And.intro ho7 (And.intro hX7 (And.intro hbm7 hset.1)))
                    clear hD6 hset hown6 hty ho7 hbm6 hne hbm7 hgx hX7
                    go_wp2
                    go_roundw
                    case rel => exact ⟨kk + 1, some kk, by omega, by go_num, H7.out.1, H7.out.2.1, H7.out.2.2.1, H7.out.2.2.2, HHIT.out⟩
                    case measure => simp [intOf]; omega
            · have hd1 : decide (sN < h.dates.length) = false := by simpa using hsd
              have hpn : placeL h bk (classL h.sectors k) d (i + 1) (h.dates.length - (i + 1)) = none := by
                rw [HPL.out, show h.dates.length - sN = 0 by omega]; rfl
              have HNEXT := Lib.hid (show loseTo h (offBook b i) i d (k + 1) = (putSeat { P.1 with cash := P.1.cash - priceL h k } i k 0, P.2 ++ [⟨k, -1, -1⟩]) by
                rw [loseTo_yes (by rw [← HP.out, HSA.out, ← HYY.out]; exact hy), ← HP.out, HSA.out, ← HYY.out]
                have h9 := hpn
                rw [HBK.out, placeL_cash] at h9
                unfold loseOne
                rw [h9])
              clear hpn
              have HOB := HOK2
              have hob : OkDesk h (bk) := HOB.out
              have hisb : i < (bk).seats.length := by have := hob.2.2.1; omega
              have hklb : k < (bk).seats[i].length := by rw [HRL.out _ hob]; exact hlt
              obtain ⟨m0, m1, z1, hgsl, hgil⟩ := HDI.out.seat_c hisb hxi HXV.out hklb
              obtain ⟨_, g1, _, _, _, _⟩ := cells6 HDI.out.bx
              have hown : xs[i].ownBlock = some gi := by rw [HXV.out]; rfl
              have hty : Ty wr gi 3 := owns_ty (HDI.out.row i hisb hxi) hown
              have hne : gi ≠ mb := fun e => HBM.out.neTy hty (by decide) e.symm
              have hgx := HXL.out i his hxi gi hown
              go_upto_region 24 with (fail)
              have hset := HDI.out.setSeat (j := k) hisb hxi (by rw [HRL.out _ hob]; exact HXV.out) 0
              have hown5 := rmoves_set HOI.out (k := gi) (o := k) (u := .int .i64 0) hty (by decide)
              have hbm5 := HBM.out.setOther (b := gi) (o := k) (v := .int .i64 0) (Ne.symm hne)
              have hX5 := HXI.out.setCell ⟨gi, k, none⟩ (.int .i64 0) ⟨hgx.2, .inl hgx.1⟩
              have HD5 := Lib.hid hset.1
              have H5 := Lib.hid (And.intro hown5 (And.intro hbm5 hX5))
              clear hset hown5 hbm5 hX5 m0 m1 z1 g1 hne n0 n1 n2 hown hty hgx
              generalize wr.setCell ⟨gi, k, none⟩ (.int .i64 0) = W5 at *
              have n0 := H5.out.2.1.cell 0
              have n1 := H5.out.2.1.cell 1
              have n2 := H5.out.2.1.cell 2
              simp only [List.getElem?_cons_zero, List.getElem?_cons_succ] at n0 n1 n2
              have hu := SLe.one (S := avoid (fun _ => False) (.slice pu P.2.length cu)) (w := W5) (cs := [.int .i64 ((⟨k, -1, -1⟩ : BT.Move)).seat, .int .i64 ((⟨k, -1, -1⟩ : BT.Move)).shw, .int .i64 ((⟨k, -1, -1⟩ : BT.Move)).at_]) (x := (⟨k, -1, -1⟩ : BT.Move)) 54 rfl
              have hown6 := H5.out.1.alloc (.cells #[.int .i64 ((⟨k, -1, -1⟩ : BT.Move)).seat, .int .i64 ((⟨k, -1, -1⟩ : BT.Move)).shw, .int .i64 ((⟨k, -1, -1⟩ : BT.Move)).at_] 54)
              have hlm : P.2.length ≤ k := HLK.out
              have hz6 : wc.heap.size ≤ (W5.alloc (.cells #[.int .i64 ((⟨k, -1, -1⟩ : BT.Move)).seat, .int .i64 ((⟨k, -1, -1⟩ : BT.Move)).shw, .int .i64 ((⟨k, -1, -1⟩ : BT.Move)).at_] 54)).heap.size := by have := H5.out.2.2.size; simp; omega
              go_wp2_with (at_builtin; refine wpl_append (α := BT.Move) (S := fun _ => False) (base := wc.heap.size) (v := .slice pu P.2.length cu) (l := P.2) (m := [(⟨k, -1, -1⟩ : BT.Move)]) eiRMoves rfl _ _ rfl rfl rfl hown6 hu (P.2.length + 1) (by simp) (P.2 ++ [(⟨k, -1, -1⟩ : BT.Move)]) rfl ?_ ?_ hz6 ?_)
              · simp only [maxLen]; omega
              · omega
              intro p' c' w7 hown7 hg7
              have hD7 := (HD5.out.step (Step.alloc _ _)).grown hown6 hg7 (by decide) (by decide) (by decide) (by decide) (by decide)
              have hX7 := (H5.out.2.2.alloc' (.cells #[.int .i64 ((⟨k, -1, -1⟩ : BT.Move)).seat, .int .i64 ((⟨k, -1, -1⟩ : BT.Move)).shw, .int .i64 ((⟨k, -1, -1⟩ : BT.Move)).at_] 54)).trans (StepX.grown (X := Xc (w.heap.size + 3) w2.heap.size wc.heap.size) hg7 fun j hj _ => by have h1 := (HOWN.out.lt j hj).1; exact ⟨by have := HBZ.out; omega, .inr h1⟩)
              have H7 := Lib.hid (And.intro hD7 (And.intro hown7 hX7))
              clear hown6 hu hlm hz6 hown7 hg7 hD7 hX7 n0 n1 n2
              go_wp2
              go_roundw
              case rel => exact ⟨k + 1, by omega, by go_num, by unfold RLoseRel; rw [HNEXT.out]; have h7 := H7.out; rw [HBK.out] at h7; exact h7⟩
              case measure => simp [intOf]; omega
    · have hkz : k = z := by omega
      have HKZ := Lib.hid hkz
      have HFIN := Lib.hid (show loseD h b i d = .ok P by
        have hl : (b.seats.getD i []).length = z := by rw [show b.seats.getD i [] = b.seats[i] by simp [List.getD_eq_getElem?_getD, his]]; exact HRL.out _ HO.out i his
        unfold loseD
        rw [HF.out, if_pos rfl, Int.toNat_natCast, hl, HP.out, hkz])
      have HCP := Lib.hid (show P.1.cash = cashL h P.1.seats by
        rw [HP.out]
        exact cash_to HO9.out HC0.out.1 HC0.out.2 hi d k (by have := HZ.out; omega))
      clear hkz
      (try clear e0 e1 e2 e3 e4 f0 f1 f2 f3 f4 f5 y1 y2)
      obtain ⟨e0, e1, e2, e3, e4⟩ := cells5 (HB1.out.step HT.out)
      obtain ⟨f0, f1, f2, f3, f4, f5⟩ := cells6 (HB2.out.step HT.out)
      obtain ⟨g0, g1, g2, g3, g4, g5⟩ := cells6 HDK.out.bx
      go_wp2_with fail
      refine (Cash_any (fun _ => False) h bk _ _ _ ⟨_, rfl, Rep.weak (fun _ _ h => h.elim) (Rep.keep (.of_step HT.out) HR.out)⟩ ⟨_, rfl, HDK.out.book (fun _ _ h => h)⟩ HOK.out (by have := HOK2.out.2.2.1; omega) HOK2.out.2.2.2.1).mono ?_
      rintro e wz ⟨rfl, hSz⟩
      have hcb : cashL h bk.seats = P.1.cash := by rw [HBK.out, HCP.out]; rfl
      rw [hcb]
      clear hcb e0 e1 e2 e3 e4 f0 f1 f2 f3 f4 f5 g0 g1 g2 g3 g4 g5
      have hDz := HDK.out.step hSz
      obtain ⟨_, _, _, _, _, g5⟩ := cells6 hDz.bx
      have z5 := hDz.bx.frozen 5
      have hD8 := hDz.setCash P.1.cash
      have hPP : { bk with cash := P.1.cash } = P.1 := by rw [HBK.out]; rfl
      rw [hPP] at hD8
      have ho8 := rmoves_set (HOWN.out.step hSz) (k := gb) (o := 5) (u := .int .i64 P.1.cash) hDz.bx.ty (by decide)
      have hT8 : Step W3 (wz.setCell ⟨gb, 5, none⟩ (.int .i64 P.1.cash)) := (HT.out.trans hSz).setNew ⟨gb, 5, none⟩ _ (by have := hDz.gb; have := HZ3.out; show W3.heap.size ≤ gb; omega)
      have H8 := Lib.hid (And.intro hD8 (And.intro ho8 hT8))
      have hagency : bk.agency = P.1.agency ∧ bk.sent = P.1.sent ∧ bk.off = P.1.off ∧ bk.seats = P.1.seats ∧ bk.took = P.1.took := by rw [HBK.out]; exact ⟨rfl, rfl, rfl, rfl, rfl⟩
      have HAG := Lib.hid hagency
      go_upto_region 26 with (fail)
      clear hDz g5 z5 hD8 hPP ho8 hT8 hagency hSz
      generalize wz.setCell ⟨gb, 5, none⟩ (.int .i64 P.1.cash) = w8 at *
      obtain ⟨y0, y1, y2, y3, y4, y5⟩ := cells6 H8.out.1.bx
      have HT := Lib.hid H8.out.2.2
      obtain ⟨g0, g1, g2, g3, g4, g5⟩ := cells6 (HB3.out.step HT.out)
      have t0 := (HB3.out.step HT.out).frozen 0
      have t1 := (HB3.out.step HT.out).frozen 1
      have t2 := (HB3.out.step HT.out).frozen 2
      have t3 := (HB3.out.step HT.out).frozen 3
      have t4 := (HB3.out.step HT.out).frozen 4
      have t5 := (HB3.out.step HT.out).frozen 5
      go_wp2
      have b6 := set6 (HB3.out.step HT.out) (.int .i64 P.1.agency) (.slice (some ⟨gs, 0, none⟩) b.seats.length cvs) (.slice (some ⟨go, 0, none⟩) b.off.length cvo) (.int .i64 P.1.sent) (.slice pvt b.took.length cvt) (.int .i64 P.1.cash)
      refine ret_struct3 (k := 6) rfl siRefBook rfl b6.1 rfl rfl ?_
      unfold RLoseEnds
      rw [HFIN.out]
      refine ⟨_, _, rfl, ⟨_, rfl, Rep.weak (S := fun j => j < w.heap.size + 3) (fun j _ hj => by unfold Old at hj; omega) (Rep.keep (b6.2.keeps.mono fun j _ hj => by omega) (H8.out.1.book (fun j h1 h2 => by omega)))⟩, ?_, StepX.fresh (HS.out.trans HT.out) b6.2 (fun j hj => by omega)⟩
      exact ((OwnL.sl (S := fun j => j < w.heap.size + 3) (H8.out.2.1.flat _) (fun j h1 _ h2 => by have := HBZ.out; omega)).keep (b6.2.keeps.mono fun j _ hj => by omega)).weak (fun j _ hj => by unfold Old at hj; omega)
end Go.Proofs.Ytbgfmikbhiblgaa
