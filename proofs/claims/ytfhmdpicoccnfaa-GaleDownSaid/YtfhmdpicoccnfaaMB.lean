/- Walks and plain laws, part b. -/
import Derived.Test.YtfhmdpicoccnfaaMA
import Derived.Test.YtfhmdpicoccnfaaRows
import Derived.BigQuiet
import Derived.Deep.AppendLies
import Derived.Deep.DeepCutAuto
import Derived.Deep.QuietTactic
import Derived.Deep.RegionHeld3
import Derived.Lib.Hide
import Derived.Shelf.Abstract
import Derived.WalkKit
import Derived.WalkLawsBesides
import Derived.WalkSmall
set_option maxHeartbeats 16000000
set_option maxRecDepth 100000
namespace Go.BT
theorem Net.F_congr {H : Net} {b : Nat → Int} {p q : Nat → Nat → Int} (h : ∀ i t, i < H.W → t < H.T → p i t = q i t) (s k : Nat) : H.F b p s k = H.F b q s k := by
 unfold Net.F
 congr 1
 exact sumN_congr fun i hi => sumN_congr fun t ht => by rw [h i t hi ht]
theorem Net.Out.congr {H : Net} {p q : Nat → Nat → Int} (ho : H.Out p) (h : ∀ i t, i < H.W → t < H.T → p i t = q i t) : H.Out q := by
 refine ⟨⟨fun i t hi ht => ?_, fun i t hi ht => ?_, fun i t hi ht he => ?_⟩, fun s k hs hk => ?_, ?_⟩
 ·rw [← h i t hi ht]; exact ho.lo i t hi ht
 ·rw [← h i t hi ht]; exact ho.hi i t hi ht
 ·rw [← h i t hi ht]; exact ho.en i t hi ht he
 ·rw [← Net.F_congr h]; exact ho.there s k hs hk
 ·rw [← Net.F_congr h]; exact ho.out
theorem Out.next {h : Hall} (O : HallOk h) {T : Nat} {pl : Nat → Nat → Int} (ho : (netOf h T).Out pl) : (netOf h (T + 1)).Out fun i t => if t < T then pl i t else 0 := by
 have ok := netOf_ok O T
 refine ⟨⟨fun i t hi ht => ?_, fun i t hi ht => ?_, fun i t hi ht he => ?_⟩, fun s k hs hk => ?_, ?_⟩
 ·show 0 ≤ if t < T then pl i t else 0
  split
  ·rename_i h1; exact ho.lo i t hi h1
  ·exact Int.le_refl _
 ·show (if t < T then pl i t else 0) ≤ (wyAt h i).cap
  split
  ·rename_i h1; exact ho.hi i t hi h1
  ·exact ok.c0 i hi
 ·show (if t < T then pl i t else 0) = 0
  split
  ·rename_i h1
   have he : T + 1 < t + (wyAt h i).mins.toNat := he
   exact ho.en i t hi h1 (show T < t + (wyAt h i).mins.toNat by omega)
  ·rfl
 ·have hF := Feas.next.feas_F ho s k hk
  show 0 ≤ (netOf h (T + 1)).F (netOf h T).pe _ s k
  rw [hF]
  split
  ·exact ho.there s k hs (by assumption)
  ·exact ho.there s T hs (Nat.le_refl _)
 ·have hF := Feas.next.feas_F ho 0 (T + 1) (Nat.le_refl _)
  have : (netOf h (T + 1)).all = (netOf h T).all := rfl
  show (netOf h (T + 1)).F (netOf h T).pe _ 0 (T + 1) = _
  rw [hF, if_neg (by omega), this]; exact ho.out
theorem OutP.next {h : Hall} (O : HallOk h) {T : Nat} {pl : List (List Int)} (P : OutP h T pl) : OutP h (T + 1) (pl.map fun r => r ++ [0]) := by
 have hg : ∀ i, i < h.ways.length → (pl.map fun r => r ++ [0]).getD i [] = pl.getD i [] ++ [0] := fun i hi => by
  have : i < pl.length := by rw [P.len]; exact hi
  simp [List.getD_eq_getElem?_getD, this]
 refine ⟨by simpa using P.len, fun i hi => by rw [hg i hi]; simp [P.row i hi, -List.getD_eq_getElem?_getD], (Out.next O P.out).congr fun i t hi ht => ?_⟩
 show (if t < T then planF pl i t else 0) = ((pl.map fun r => r ++ [0]).getD i []).getD t 0
 rw [hg i hi]
 have hr := P.row i hi
 unfold planF
 split
 ·rename_i q
  generalize pl.getD i [] = r at hr
  rw [List.getD_eq_getElem?_getD, List.getD_eq_getElem?_getD, List.getElem?_append_left (by omega)]
 ·rename_i q
  have ht : t < T + 1 := ht
  have : t = T := by omega
  subst this
  generalize pl.getD i [] = r at hr
  rw [List.getD_eq_getElem?_getD, List.getElem?_append_right (by omega), hr]; simp
section
variable (h : Hall) (T : Nat)
end
section
variable {h : Hall} {T : Nat}
def CutEnd (T m : Nat) (cut cut' : List Int) : Prop := cut'.length = cut.length ∧ cut'.take (cut.length - m) = cut.take (cut.length - m) ∧ ∀ s (hs : s < cut'.length), cut.length - m ≤ s → 0 ≤ cut'[s] ∧ cut'[s] ≤ (T : Int) + 1
theorem CutEnd.next {m : Nat} {cut cut' : List Int} (hm : m + 1 ≤ cut.length) (h : CutEnd T (m + 1) cut cut') : ∃ t : Nat, t < T + 2 ∧ CutEnd T m (cut.set (cut.length - (m + 1)) (t : Int)) cut' := by
 obtain ⟨h1, h2, h3⟩ := h
 have hs : cut.length - (m + 1) < cut'.length := by omega
 have h4 := h3 _ hs (Nat.le_refl _)
 refine ⟨cut'[cut.length - (m + 1)].toNat, by omega, by simpa using h1, ?_, ?_⟩
 ·refine List.ext_getElem? fun j => ?_
  rw [List.getElem?_take, List.getElem?_take]
  simp only [List.length_set]
  by_cases c : j < cut.length - m
  ·rw [if_pos c, if_pos c, List.getElem?_set]
   by_cases e : cut.length - (m + 1) = j
   ·subst e
    rw [if_pos rfl, if_pos (by omega), List.getElem?_eq_getElem hs]
    congr 1; omega
   ·rw [if_neg e]
    have := congrArg (fun l => l[j]?) h2
    simp only [List.getElem?_take] at this
    rw [if_pos (by omega), if_pos (by omega)] at this
    exact this
  ·rw [if_neg c, if_neg c]
 ·intro s hs' hle
  simp only [List.length_set] at hle
  exact h3 s hs' (by omega)
end
end Go.BT
namespace Go.BT
def ringH : Hall := ⟨[0, 50, 20], [⟨1, 0, 10, 1⟩, ⟨2, 1, 5, 2⟩]⟩
theorem ring_ok : hallB ringH = true := by decide
theorem ring_out : outB ringH 7 [[10, 10, 10, 10, 10, 10, 10], [5, 5, 5, 5, 0, 0, 0]] = true := by decide
theorem ring_cut : stuckB ringH 6 [7, 0, 0] = true := by decide
theorem ring7 : Feas ringH 7 := (outB_iff.1 ring_out).feas
theorem ring6 : ¬ Feas ringH 6 := stuckB_not (hallB_iff.1 ring_ok) ring_cut
theorem least_is {h : Hall} (O : HallOk h) {n T : Nat} (hn : Feas h n) (hl : ∀ t, t < n → ¬ Feas h t) (h1 : Feas h (T + 1)) (h2 : ¬ Feas h T) : n = T + 1 := by
 by_cases c : n ≤ T
 ·have := hn.mono O (T - n)
  rw [show n + (T - n) = T by omega] at this
  exact (h2 this).elim
 ·by_cases d : T + 1 < n
  ·exact (hl _ d h1).elim
  ·omega
end Go.BT
namespace Go.BT
section
variable {H : Net}
theorem pcs_len {l : List Pc} (hn : l.Nodup) (hb : ∀ p ∈ l, InB H p) : l.length ≤ H.n * (H.T + 1) := by
 have h1 : (l.map fun p => p.spot.toNat * (H.T + 1) + p.minute.toNat).length = l.length := by simp
 rw [← h1]
 refine nodup_lt _ _ ?_ ?_
 ·have hin : ∀ p q : Pc, p ∈ l → q ∈ l → p.spot.toNat * (H.T + 1) + p.minute.toNat = q.spot.toNat * (H.T + 1) + q.minute.toNat → p = q := by
   intro p q hp hq he
   obtain ⟨a1, a2, a3, a4⟩ := hb p hp
   obtain ⟨b1, b2, b3, b4⟩ := hb q hq
   have h3 : p.minute.toNat < H.T + 1 := by omega
   have h4 : q.minute.toNat < H.T + 1 := by omega
   have h5 : p.minute.toNat = q.minute.toNat := by
    have := congrArg (· % (H.T + 1)) he
    simp only [Nat.mul_add_mod_self_right, Nat.mod_eq_of_lt h3, Nat.mod_eq_of_lt h4] at this
    exact this
   have h6 : p.spot.toNat = q.spot.toNat := by
    have h7 : p.spot.toNat * (H.T + 1) = q.spot.toNat * (H.T + 1) := by omega
    exact Nat.eq_of_mul_eq_mul_right (by omega) h7
   cases p; cases q
   simp only at a1 a3 b1 b3 h5 h6
   congr 1 <;> omega
  have gen : ∀ (l : List Pc), l.Nodup → (∀ p q, p ∈ l → q ∈ l → p.spot.toNat * (H.T + 1) + p.minute.toNat = q.spot.toNat * (H.T + 1) + q.minute.toNat → p = q) → (l.map fun p => p.spot.toNat * (H.T + 1) + p.minute.toNat).Nodup := by
   intro l
   induction l with
   | nil => intro _ _; simp
   | cons x t ih =>
    intro hn hi
    obtain ⟨hx, ht⟩ := List.nodup_cons.1 hn
    rw [List.map_cons, List.nodup_cons]
    refine ⟨fun hm => ?_, ih ht fun p q hp hq => hi p q (List.mem_cons_of_mem _ hp) (List.mem_cons_of_mem _ hq)⟩
    obtain ⟨y, hy, he⟩ := List.mem_map.1 hm
    have := hi y x (List.mem_cons_of_mem _ hy) List.mem_cons_self he
    subst this
    exact hx hy
  exact gen _ hn hin
 ·intro x hx
  obtain ⟨p, hp, rfl⟩ := List.mem_map.1 hx
  obtain ⟨a1, a2, a3, a4⟩ := hb p hp
  have h3 : p.spot.toNat + 1 ≤ H.n := by omega
  have h4 := Nat.mul_le_mul_right (H.T + 1) h3
  rw [Nat.add_mul, Nat.one_mul] at h4
  have h5 : p.minute.toNat ≤ H.T := by omega
  omega
theorem Path.len {f : Fs} {ord : List (Pc × Sp)} {q r : Pc} {P : List Pc} (h : Path H f ord q P r) (hn : P.Nodup) : P.length ≤ H.n * (H.T + 1) :=
 pcs_len hn fun p hp => by obtain ⟨s, _, _, hb, _⟩ := h.mem p hp; exact hb
def Near (B : Int) (f : Fs) : Prop := (∀ i t, -B ≤ f.pl i t ∧ f.pl i t ≤ B) ∧ ∀ p, -B ≤ f.wt p ∧ f.wt p ≤ B
theorem Near.mono {B C : Int} {f : Fs} (h : Near B f) (hc : B ≤ C) : Near C f :=
 ⟨fun i t => by have := h.1 i t; omega, fun p => by have := h.2 p; omega⟩
theorem Near.mv {B n : Int} {f : Fs} (h : Near B f) (hn : 0 ≤ n) (q : Pc) (s : Sp) : Near (B + n) (mvF f q s n) := by
 have up : ∀ (i t : Nat) (x : Int), -(B + n) ≤ x ∧ x ≤ B + n → ∀ j k, -(B + n) ≤ updP f.pl i t x j k ∧ updP f.pl i t x j k ≤ B + n := fun i t x hx j k => by
  unfold updP; split
  ·exact hx
  ·have := h.1 j k; omega
 have uw : ∀ (p : Pc) (x : Int), -(B + n) ≤ x ∧ x ≤ B + n → ∀ r, -(B + n) ≤ updW f.wt p x r ∧ updW f.wt p x r ≤ B + n := fun p x hx r => by
  unfold updW; split
  ·exact hx
  ·have := h.2 r; omega
 have pl0 : ∀ i t, -(B + n) ≤ f.pl i t ∧ f.pl i t ≤ B + n := fun i t => by have := h.1 i t; omega
 have wt0 : ∀ p, -(B + n) ≤ f.wt p ∧ f.wt p ≤ B + n := fun p => by have := h.2 p; omega
 unfold mvF
 split
 ·split
  ·exact ⟨pl0, uw _ _ (by have := h.2 q; omega)⟩
  ·exact ⟨pl0, uw _ _ (by have := h.2 s.frm; omega)⟩
 ·split
  ·exact ⟨up _ _ _ (by have := h.1 s.way.toNat q.minute.toNat; omega), wt0⟩
  ·exact ⟨up _ _ _ (by have := h.1 s.way.toNat s.frm.minute.toNat; omega), wt0⟩
theorem Near.mvL {n : Int} (hn : 0 ≤ n) (ord : List (Pc × Sp)) : ∀ (P : List Pc) {B : Int} {f : Fs}, Near B f → Near (B + n * P.length) (mvL ord n f P)
 | [], B, f, h => by simpa [Go.BT.mvL] using h
 | q :: P, B, f, h => by
  have := Near.mvL hn ord P (h.mv hn q ((lookB ord q).getD default))
  refine this.mono ?_
  rw [List.length_cons]
  have : n * ((P.length + 1 : Nat) : Int) = n * (P.length : Int) + n := by rw [Int.natCast_add, Int.mul_add]; simp
  omega
theorem Near.sub {B : Int} {f : Fs} (h : Near B f) (s0 : Nat) (n : Int) : Near B (subR f s0 n) := h
def nearB (H : Net) (f : Fs) : Int := 40000000 * (H.all - sumN H.n f.rs)
theorem near_next {f : Fs} {ord : List (Pc × Sp)} {q r : Pc} {P : List Pc} (h : Path H f ord q P r) (hnd : P.Nodup) {n : Int} (hn : 1 ≤ n) (hn5 : n ≤ 50000) (hs : r.spot.toNat < H.n) (hcap : H.n * (H.T + 1) ≤ 800)
  (N : Near (nearB H f) f) : Near (nearB H (subR (mvL ord n f P) r.spot.toNat n)) (subR (mvL ord n f P) r.spot.toNat n) := by
 have h1 := (Near.mvL (by omega : 0 ≤ n) ord P N)
 refine (Near.sub h1 r.spot.toNat n).mono ?_
 have hl := h.len hnd
 unfold nearB
 rw [subR_sum hs, mvL_rs]
 have h2 : n * (P.length : Int) ≤ 50000 * 800 := by
  have a : n * (P.length : Int) ≤ 50000 * (P.length : Int) := Int.mul_le_mul_of_nonneg_right hn5 (by omega)
  omega
 omega
end
end Go.BT
namespace Go.BT
section
variable {H : Net}
structure CutD (H : Net) (D : Pc → Prop) (c : List Int) : Prop where
 len : c.length = H.n
 le : ∀ s, s < H.n → c.getD s 0 ≤ (H.T : Int) + 1
 is : ∀ s, s < H.n → c.getD s 0 = (H.T : Int) + 1 ∨ D ⟨s, c.getD s 0⟩
 min : ∀ s, s < H.n → ∀ p, D p → p.spot = s → c.getD s 0 ≤ p.minute
theorem CutD.start : CutD H (fun _ => False) (List.replicate H.n ((H.T : Int) + 1)) :=
 ⟨by simp, fun s hs => by simp [List.getD_eq_getElem?_getD, hs], fun s hs => .inl (by simp [List.getD_eq_getElem?_getD, hs]), fun _ _ _ h => h.elim⟩
theorem CutD.step {D : Pc → Prop} {c : List Int} (C : CutD H D c) {p : Pc} (hp : InB H p) : CutD H (fun q => D q ∨ q = p) (c.set p.spot.toNat (Min.min (c.getD p.spot.toNat 0) p.minute)) := by
 obtain ⟨h1, h2, h3, h4⟩ := hp
 have hlt : p.spot.toNat < H.n := by omega
 have key : ∀ s, s < H.n → (c.set p.spot.toNat (Min.min (c.getD p.spot.toNat 0) p.minute)).getD s 0 = if s = p.spot.toNat then Min.min (c.getD s 0) p.minute else c.getD s 0 := fun s hs => by
  rw [List.getD_eq_getElem?_getD, List.getElem?_set]
  by_cases e : p.spot.toNat = s
  ·subst e
   rw [if_pos rfl, if_pos (by rw [C.len]; omega), if_pos rfl]; rfl
  ·rw [if_neg e, if_neg (Ne.symm e), List.getD_eq_getElem?_getD]
 refine ⟨by simpa using C.len, fun s hs => ?_, fun s hs => ?_, fun s hs q hq hqs => ?_⟩
 ·rw [key s hs]
  have := C.le s hs
  split <;> omega
 ·rw [key s hs]
  split
  ·rename_i e
   by_cases m : c.getD s 0 ≤ p.minute
   ·rw [show Min.min (c.getD s 0) p.minute = c.getD s 0 by omega]
    exact (C.is s hs).imp id .inl
   ·rw [show Min.min (c.getD s 0) p.minute = p.minute by omega]
    refine .inr (.inr ?_)
    have hsp : (s : Int) = p.spot := by omega
    rw [hsp]
  ·exact (C.is s hs).imp id .inl
 ·rw [key s hs]
  rcases hq with hq | rfl
  ·have := C.min s hs q hq hqs
   split <;> omega
  ·rw [if_pos (by omega)]; omega
theorem CutD.isMin {D : Pc → Prop} {c : List Int} (C : CutD H D c) {f : Fs} {ord : List (Pc × Sp)} (F : Found H f ord) (hD : ∀ p, D p ↔ p ∈ keysL ord) : (∀ s, s < H.n → 0 ≤ c.getD s 0) ∧ IsMin H ord fun s => (c.getD s 0).toNat := by
 have nn : ∀ s, s < H.n → 0 ≤ c.getD s 0 := fun s hs => by
  rcases C.is s hs with h | h
  ·omega
  ·obtain ⟨e, he, hk⟩ := List.mem_map.1 ((hD _).1 h)
   have := (F.bd e he).2.2.1
   rw [hk] at this
   exact this
 refine ⟨nn, fun s hs => ⟨fun p hp hps => ?_, ?_, ?_⟩⟩
 ·have := C.min s hs p ((hD p).2 hp) hps
  have := nn s hs
  dsimp only
  omega
 ·have h0 := nn s hs
  rcases C.is s hs with h | h
  ·left; dsimp only; omega
  ·right
   have : (((c.getD s 0).toNat : Nat) : Int) = c.getD s 0 := by omega
   dsimp only
   rw [this]
   exact (hD _).1 h
 ·have := C.le s hs
  dsimp only
  omega
end
theorem cut_stuck {h : Hall} (O : HallOk h) {T : Nat} {f : Fs} {ord : List (Pc × Sp)} (Y : Fly (netOf h T) f) (B : Bfs (netOf h T) f ord ord.length) (hr : ∃ s, s < (netOf h T).n ∧ 0 < f.rs s) {D : Pc → Prop} {c : List Int} (C : CutD (netOf h T) D c) (hD : ∀ p, D p ↔ p ∈ keysL ord) : stuckB h T c = true := by
 have ok := netOf_ok O T
 obtain ⟨nn, hm⟩ := C.isMin B.toFound hD
 obtain ⟨hc, hs⟩ := Y.stuck ok B hm hr
 have h0 : c.getD 0 0 = (T : Int) + 1 := by
  have h1 : (c.getD 0 0).toNat = T + 1 := hc.zero
  omega
 simp only [stuckB, cutOk, Bool.and_eq_true, decide_eq_true_eq, List.all_eq_true]
 refine ⟨⟨⟨C.len, h0⟩, fun x hx => ?_⟩, ?_⟩
 ·obtain ⟨s, hs', rfl⟩ := List.getElem_of_mem hx
  have hs2 : s < (netOf h T).n := by rw [← C.len]; exact hs'
  have a := nn s hs2
  have b := C.le s hs2
  have : c.getD s 0 = c[s] := by simp [List.getD_eq_getElem?_getD, hs']
  rw [this] at a b
  exact ⟨a, b⟩
 ·rw [all_net] at hs; exact hs
end Go.BT
namespace Go.BT
section
variable {H : Net} {f : Fs} {ord : List (Pc × Sp)} {q r x : Pc} {P : List Pc}
theorem Path.nil_inv (h : Path H f ord q [] r) : q = r ∧ lookB ord q = some rootSp ∧ InB H q := by
 cases h with
 | root hs h0 hr hb => exact ⟨rfl, hs, hb⟩
theorem Path.cons_inv (h : Path H f ord q (x :: P) r) : x = q ∧ ∃ s, lookB ord q = some s ∧ StepK H f s.frm q s ∧ InB H q ∧ InB H s.frm ∧ Path H f ord s.frm P r := by
 cases h with
 | step hs hk hb ht => exact ⟨rfl, _, hs, hk, hb, ht.inB, ht⟩
theorem Path.end_root (h : Path H f ord q P r) : lookB ord r = some rootSp := by
 induction h with
 | root hs _ _ _ => exact hs
 | step _ _ _ _ ih => exact ih
theorem Path.ne (h : Path H f ord q (x :: P) r) : q ≠ r := by
 obtain ⟨_, s, hs, _, _, hb, _⟩ := h.cons_inv
 intro e
 rw [e, h.end_root] at hs
 injection hs with hs
 have := hb.1
 rw [← hs] at this
 exact absurd this (by decide)
theorem mvL_snoc (ord : List (Pc × Sp)) (n : Int) (x : Pc) : ∀ (P : List Pc) (f : Fs), mvL ord n f (P ++ [x]) = mvF (mvL ord n f P) x ((lookB ord x).getD default) n
 | [], f => rfl
 | y :: P, f => by show mvL ord n (mvF f y _ n) (P ++ [x]) = mvF (mvL ord n (mvF f y _ n) P) x _ n; exact mvL_snoc ord n x P _
theorem Path.all_pos (ok : H.Ok) (Y : Fly H f) (h : Path H f ord q P r) : 1 ≤ H.all ∧ r.spot.toNat < H.n ∧ 1 ≤ f.rs r.spot.toNat ∧ r.spot = (r.spot.toNat : Int) := by
 obtain ⟨hr0, hrp, hrb⟩ := h.last
 have hrn : r.spot.toNat < H.n := by have := hrb.2.1; have := hrb.1; omega
 have h1 := sumN_ge (f := H.pe) (k := H.n) ok.pe0 r.spot.toNat hrn
 have h2 := (Y.rs_nn hrn).2
 have := hrb.1
 exact ⟨by unfold Net.all; omega, hrn, by omega, by omega⟩
theorem fill_round (ok : H.Ok) (Y : Fly H f) (N : Near (nearB H f) f) (hcap : H.n * (H.T + 1) ≤ 800) (hall : H.all ≤ 50000) (hp : Path H f ord q P r) (hnd : P.Nodup) (hq : q.spot = 0) {n : Int} (h1 : 1 ≤ n) (h2 : n ≤ H.all)
  (h3 : ∀ x ∈ P, n ≤ roomF H f x ((lookB ord x).getD default)) (h4 : n ≤ f.rs r.spot.toNat) :
  Fly H (subR (mvL ord n f P) r.spot.toNat n) ∧ Near (nearB H (subR (mvL ord n f P) r.spot.toNat n)) (subR (mvL ord n f P) r.spot.toNat n) ∧ (sumN H.n (subR (mvL ord n f P) r.spot.toNat n).rs).toNat < (sumN H.n f.rs).toNat := by
 obtain ⟨_, hrn, _, _⟩ := hp.all_pos ok Y
 refine ⟨Y.augment ok hp hnd hq (by omega) h3 h4, near_next hp hnd h1 (by omega) hrn hcap N, ?_⟩
 rw [subR_sum hrn, mvL_rs]
 have h5 := sumN_ge (f := f.rs) (k := H.n) (fun i hi => (Y.rs_nn hi).1) r.spot.toNat hrn
 omega
theorem near_part (Y : Fly H f) (N : Near (nearB H f) f) (hcap : H.n * (H.T + 1) ≤ 800) (hall : H.all ≤ 50000) {n : Int} (h1 : 1 ≤ n) (h2 : n ≤ H.all) {A B : List Pc} (hl : (A ++ B).length ≤ H.n * (H.T + 1)) : Near 5000000000000 (mvL ord n f A) := by
 refine (Near.mvL (by omega : 0 ≤ n) ord A N).mono ?_
 have hs : 0 ≤ sumN H.n f.rs := sumN_nn fun i hi => (Y.rs_nn hi).1
 have h3 : n * (A.length : Int) ≤ 50000 * 800 := by
  have a : n * (A.length : Int) ≤ 50000 * (A.length : Int) := Int.mul_le_mul_of_nonneg_right (by omega) (by omega)
  have : A.length ≤ 800 := by rw [List.length_append] at hl; omega
  omega
 unfold nearB
 omega
theorem near_start (_ : H.Ok) : Near (nearB H (fly0 H)) (fly0 H) := by
 have : nearB H (fly0 H) = 0 := by unfold nearB fly0 Net.all; simp
 rw [this]
 exact ⟨fun i t => ⟨Int.le_refl _, Int.le_refl _⟩, fun p => ⟨Int.le_refl _, Int.le_refl _⟩⟩
end
end Go.BT
namespace Go.BT
section
variable (H : Net) (f : Fs) (p : Pc)
def waitL : List (Pc × Sp) := if p.minute < H.T then [(⟨p.spot, p.minute + 1⟩, ⟨p, -1, false⟩)] else []
def unwL : List (Pc × Sp) := if 0 < f.wt ⟨p.spot, p.minute - 1⟩ then [(⟨p.spot, p.minute - 1⟩, ⟨p, -1, true⟩)] else []
def goL (i : Nat) : List (Pc × Sp) := if (H.u i : Int) = p.spot ∧ p.minute + H.d i ≤ H.T ∧ f.pl i p.minute.toNat < H.c i then [(⟨H.v i, p.minute + H.d i⟩, ⟨p, i, false⟩)] else []
def bkL (i : Nat) : List (Pc × Sp) := if (H.v i : Int) = p.spot ∧ 0 ≤ p.minute - H.d i ∧ 0 < f.pl i (p.minute - H.d i).toNat then [(⟨H.u i, p.minute - H.d i⟩, ⟨p, i, true⟩)] else []
def tillW (i : Nat) : List (Pc × Sp) := (waitL H p ++ unwL f p) ++ outsL H f p i
abbrev StepNo := { e : Pc × Sp // e ∈ stepsL H f p }
end
section
variable {H : Net} {f : Fs} {p : Pc}
theorem till_zero : tillW H f p 0 = waitL H p ++ unwL f p := by simp [tillW, outsL]
theorem till_next (i : Nat) : tillW H f p (i + 1) = (tillW H f p i ++ goL H f p i) ++ bkL H f p i := by
 unfold tillW
 rw [show outsL H f p (i + 1) = outsL H f p i ++ wayL H f p i from rfl, show wayL H f p i = goL H f p i ++ bkL H f p i from rfl]
 simp only [List.append_assoc]
theorem till_all : tillW H f p H.W = stepsL H f p := rfl
theorem outs_pre : ∀ {i k : Nat}, i ≤ k → outsL H f p i <+: outsL H f p k := by
 intro i k h
 induction k with
 | zero => rw [show i = 0 by omega]; exact List.prefix_refl _
 | succ k ih =>
  by_cases e : i = k + 1
  ·subst e; exact List.prefix_refl _
  ·exact (ih (by omega)).trans (List.prefix_append _ _)
theorem till_pre {i k : Nat} (h : i ≤ k) : tillW H f p i <+: tillW H f p k := by
 unfold tillW
 exact (List.prefix_append_right_inj _).2 (outs_pre h)
theorem till_steps {i : Nat} (h : i ≤ H.W) : tillW H f p i <+: stepsL H f p := till_pre h
theorem go_pre {i : Nat} (h : i < H.W) : tillW H f p i ++ goL H f p i <+: stepsL H f p := by
 refine List.IsPrefix.trans ?_ (till_steps (i := i + 1) (by omega))
 rw [till_next]
 exact List.prefix_append _ _
theorem wait_pre : waitL H p <+: stepsL H f p := (List.prefix_append _ _).trans ((List.prefix_append (waitL H p ++ unwL f p) (outsL H f p 0)).trans (till_steps (Nat.zero_le _)))
theorem unw_pre : waitL H p ++ unwL f p <+: stepsL H f p := by rw [← till_zero]; exact till_steps (Nat.zero_le _)
theorem waitL_t (h : p.minute < H.T) : waitL H p = [(⟨p.spot, p.minute + 1⟩, ⟨p, -1, false⟩)] := if_pos h
theorem waitL_f (h : ¬ p.minute < H.T) : waitL H p = [] := if_neg h
theorem unwL_t (h : 0 < f.wt ⟨p.spot, p.minute - 1⟩) : unwL f p = [(⟨p.spot, p.minute - 1⟩, ⟨p, -1, true⟩)] := if_pos h
theorem unwL_f (h : ¬ 0 < f.wt ⟨p.spot, p.minute - 1⟩) : unwL f p = [] := if_neg h
theorem goL_t {i : Nat} (h1 : (H.u i : Int) = p.spot) (h2 : p.minute + H.d i ≤ H.T) (h3 : f.pl i p.minute.toNat < H.c i) : goL H f p i = [(⟨H.v i, p.minute + H.d i⟩, ⟨p, i, false⟩)] := if_pos ⟨h1, h2, h3⟩
theorem goL_f {i : Nat} (h : ¬ ((H.u i : Int) = p.spot ∧ p.minute + H.d i ≤ H.T ∧ f.pl i p.minute.toNat < H.c i)) : goL H f p i = [] := if_neg h
theorem bkL_t {i : Nat} (h1 : (H.v i : Int) = p.spot) (h2 : 0 ≤ p.minute - H.d i) (h3 : 0 < f.pl i (p.minute - H.d i).toNat) : bkL H f p i = [(⟨H.u i, p.minute - H.d i⟩, ⟨p, i, true⟩)] := if_pos ⟨h1, h2, h3⟩
theorem bkL_f {i : Nat} (h : ¬ ((H.v i : Int) = p.spot ∧ 0 ≤ p.minute - H.d i ∧ 0 < f.pl i (p.minute - H.d i).toNat)) : bkL H f p i = [] := if_neg h
theorem outs_len : ∀ i, (outsL H f p i).length ≤ 2 * i
 | 0 => by simp [outsL]
 | i + 1 => by
  have h1 := outs_len i
  have h2 : (wayL H f p i).length ≤ 2 := by
   unfold wayL
   rw [List.length_append]
   split <;> split <;> simp
  rw [show outsL H f p (i + 1) = outsL H f p i ++ wayL H f p i from rfl, List.length_append]; omega
theorem steps_len : (stepsL H f p).length ≤ 2 + 2 * H.W := by
 rw [← till_all]
 unfold tillW waitL unwL
 have := outs_len (H := H) (f := f) (p := p) H.W
 rw [List.length_append, List.length_append]
 split <;> split <;> simp <;> omega
theorem pre_len {l : List (StepNo H f p)} (h : l.map (·.1) <+: stepsL H f p) : l.length ≤ 2 + 2 * H.W := by
 have h1 := h.length_le
 rw [List.length_map] at h1
 exact Nat.le_trans h1 steps_len
end
end Go.BT
namespace Go.Proofs.Ytfhmdpicoccnfaa
set_option linter.unusedSimpArgs false
set_option linter.unusedVariables false
open Go.RowKit Go.BT
abbrev FT (base : Nat) (w : World) (B : FB) (vp vw vl : Value) (sc : Nat) (h : Hall) (T : Nat) (f : Fs) : Prop := Flt 148 26 3 base w B vp vw vl sc h T f
section
variable {base : Nat} {w w' : World} {B : FB} {vp vw vl : Value} {sc : Nat} {h : Hall} {T : Nat} {f f' : Fs}
theorem Flt.cells (F : FT base w B vp vw vl sc h T f) : w.cell? ⟨B.fl, 0, none⟩ = some vp ∧ w.cell? ⟨B.fl, 1, none⟩ = some vw ∧ w.cell? ⟨B.fl, 2, none⟩ = some (.int .i64 T) ∧ w.cell? ⟨B.fl, 3, none⟩ = some vl ∧ w.cell? ⟨B.fl, 4, none⟩ = some (.map (some B.mp)) ∧ w.cell? ⟨B.fl, 5, none⟩ = some (.slice (some ⟨B.sb, 0, none⟩) h.people.length sc) :=
 ⟨F.fl.cell 0, F.fl.cell 1, F.fl.cell 2, F.fl.cell 3, F.fl.cell 4, F.fl.cell 5⟩
theorem Flt.plan (F : FT base w B vp vw vl sc h T f) {i t : Nat} (hi : i < h.ways.length) (ht : t < T) :
  ∃ c, vl = .slice (some ⟨B.pb, 0, none⟩) h.ways.length c ∧ w.cell? ⟨B.pb, i, none⟩ = some (.slice (some ⟨B.rb i, 0, none⟩) T T) ∧ w.cell? ⟨B.rb i, t, none⟩ = some (.int .i64 (f.pl i t)) := by
 obtain ⟨p, c, hv, _, hp⟩ := F.vf
 have h0 : 0 < h.ways.length := by omega
 obtain rfl := hp h0
 obtain ⟨cs, h1, h2⟩ := F.pl h0
 refine ⟨c, hv, ?_, (F.rw i hi).cell ht⟩
 rw [h1.cell]; exact h2 i hi
theorem Flt.row_frozen (F : FT base w B vp vw vl sc h T f) {i : Nat} (hi : i < h.ways.length) (t : Nat) : w.frozen? ⟨B.rb i, t, none⟩ = false := (F.rw i hi).frozen t
theorem Flt.rest (F : FT base w B vp vw vl sc h T f) {s : Nat} (hs : s < h.people.length) : w.cell? ⟨B.sb, s, none⟩ = some (.int .i64 (f.rs s)) := F.rs.cell hs
theorem Flt.av (F : FT base w B vp vw vl sc h T f) : AV (fun j => base ≤ j) w (.agg #[vp, vw]) h := ⟨[vp, vw], rfl, vp, vw, rfl, F.hp, F.hw⟩
end
end Go.Proofs.Ytfhmdpicoccnfaa
namespace Go.Zono
def sumN : Nat → (Nat → Int) → Int
 | 0, _ => 0
 | n + 1, g => sumN n g + g n
theorem sumN_congr {g g' : Nat → Int} : ∀ n, (∀ i, i < n → g i = g' i) → sumN n g = sumN n g'
 | 0, _ => rfl
 | n + 1, h => by rw [sumN, sumN, sumN_congr n (fun i hi => h i (by omega)), h n (by omega)]
theorem sumN_add (g g' : Nat → Int) : ∀ n, sumN n (fun i => g i + g' i) = sumN n g + sumN n g'
 | 0 => rfl
 | n + 1 => by simp only [sumN, sumN_add g g' n]; omega
theorem sumN_mul (c : Int) (g : Nat → Int) : ∀ n, sumN n (fun i => c * g i) = c * sumN n g
 | 0 => by simp [sumN]
 | n + 1 => by simp only [sumN, sumN_mul c g n, Int.mul_add]
theorem sumN_le {g g' : Nat → Int} : ∀ n, (∀ i, i < n → g i ≤ g' i) → sumN n g ≤ sumN n g'
 | 0, _ => Int.le_refl _
 | n + 1, h => Int.add_le_add (sumN_le n (fun i hi => h i (by omega))) (h n (by omega))
theorem sumN_zero : ∀ n, sumN n (fun _ => 0) = 0
 | 0 => rfl
 | n + 1 => by rw [sumN, sumN_zero n]; rfl
theorem sumN_one {g : Nat → Int} {a : Nat} : ∀ n, a < n → (∀ i, i < n → i ≠ a → g i = 0) → sumN n g = g a
 | 0, h, _ => by omega
 | n + 1, h, h0 => by
  rw [sumN]
  by_cases e : a = n
  ·subst e
   rw [sumN_congr (g' := fun _ => 0) a (fun i hi => h0 i (by omega) (by omega)), sumN_zero]; omega
  ·rw [sumN_one n (by omega) (fun i hi hn => h0 i (by omega) hn), h0 n (by omega) (Ne.symm e)]; omega
theorem sumN_two {g : Nat → Int} {a b : Nat} {n : Nat} (ha : a < n) (hb : b < n) (hab : a ≠ b) (h0 : ∀ i, i < n → i ≠ a → i ≠ b → g i = 0) : sumN n g = g a + g b := by
 have h1 : sumN n g = sumN n (fun i => (if i = a then g i else 0) + (if i = a then 0 else g i)) := sumN_congr n fun i _ => by split <;> omega
 rw [h1, sumN_add, sumN_one (a := a) n ha (fun i _ hn => if_neg hn), sumN_one (a := b) n hb (fun i hi hn => by
  by_cases e : i = a
  ·exact if_pos e
  ·rw [if_neg e]; exact h0 i hi e hn), if_pos rfl, if_neg (Ne.symm hab)]
theorem sumN_three {g : Nat → Int} {a b c : Nat} {n : Nat} (ha : a < n) (hb : b < n) (hc : c < n) (hab : a ≠ b) (hac : a ≠ c) (hbc : b ≠ c) (h0 : ∀ i, i < n → i ≠ a → i ≠ b → i ≠ c → g i = 0) : sumN n g = g a + g b + g c := by
 have h1 : sumN n g = sumN n (fun i => (if i = a then g i else 0) + (if i = a then 0 else g i)) := sumN_congr n fun i _ => by split <;> omega
 rw [h1, sumN_add, sumN_one (a := a) n ha (fun i _ hn => if_neg hn), sumN_two (a := b) (b := c) hb hc hbc (fun i hi hn hm => by
  by_cases e : i = a
  ·exact if_pos e
  ·rw [if_neg e]; exact h0 i hi e hn hm), if_pos rfl, if_neg (Ne.symm hab), if_neg (Ne.symm hac)]
 omega
def helpN (n : Nat) (fx fy : Nat → Int) (wx wy : Int) : Int := sumN n fun i => max 0 (-(wx * fx i + wy * fy i))
theorem max_mul {c : Int} (hc : 0 ≤ c) (a : Int) : max 0 (c * a) = c * max 0 a := by
 rcases Int.le_total 0 a with h | h
 ·rw [Int.max_eq_right h, Int.max_eq_right (Int.mul_nonneg hc h)]
 ·rw [Int.max_eq_left h, Int.mul_zero, Int.max_eq_left (Int.mul_nonpos_of_nonneg_of_nonpos hc h)]
theorem helpN_mul {n : Nat} {fx fy : Nat → Int} {c : Int} (hc : 0 ≤ c) (wx wy : Int) : helpN n fx fy (c * wx) (c * wy) = c * helpN n fx fy wx wy := by
 unfold helpN
 rw [← sumN_mul]
 refine sumN_congr n fun i _ => ?_
 rw [← max_mul hc]
 congr 1
 grind
theorem helpN_add (n : Nat) (fx fy : Nat → Int) (wx wy vx vy : Int) : helpN n fx fy (wx + vx) (wy + vy) ≤ helpN n fx fy wx wy + helpN n fx fy vx vy := by
 unfold helpN
 rw [← sumN_add]
 refine sumN_le n fun i _ => ?_
 have h : (wx + vx) * fx i + (wy + vy) * fy i = (wx * fx i + wy * fy i) + (vx * fx i + vy * fy i) := by grind
 rw [h]
 omega
theorem sq_nonneg (a : Int) : 0 ≤ a * a := by
 rcases Int.le_total 0 a with h | h
 ·exact Int.mul_nonneg h h
 ·exact Int.mul_nonneg_of_nonpos_of_nonpos h h
theorem lower (L : List (Int × Int)) (h : ∃ x ∈ L, x.1 < 0) : ∃ x ∈ L, x.1 < 0 ∧ ∀ y ∈ L, y.1 < 0 → y.2 * x.1 ≤ x.2 * y.1 := by
 induction L with
 | nil => obtain ⟨x, hx, _⟩ := h; simp at hx
 | cons z L ih =>
  by_cases hL : ∃ x ∈ L, x.1 < 0
  ·obtain ⟨x, hx, hx1, hx2⟩ := ih hL
   by_cases hz : z.1 < 0
   ·by_cases hc : z.2 * x.1 ≤ x.2 * z.1
    ·refine ⟨x, by simp [hx], hx1, fun y hy hy1 => ?_⟩
     rcases List.mem_cons.1 hy with rfl | hy
     ·exact hc
     ·exact hx2 y hy hy1
    ·refine ⟨z, by simp, hz, fun y hy hy1 => ?_⟩
     rcases List.mem_cons.1 hy with rfl | hy
     ·exact Int.le_refl _
     ·have h1 := hx2 y hy hy1
      -- y2 x1 ≤ x2 y1, x2 z1 < z2 x1
      have h2 : x.2 * z.1 ≤ z.2 * x.1 := by omega
      have h3 := Int.mul_le_mul_of_nonpos_left (a := z.1) (by omega) h1
      have h4 := Int.mul_le_mul_of_nonpos_left (a := y.1) (by omega) h2
      have h5 : x.1 * (z.2 * y.1) ≤ x.1 * (y.2 * z.1) := by grind
      exact Int.not_lt.1 fun hn => by have := Int.mul_lt_mul_of_neg_left hn hx1; omega
   ·refine ⟨x, by simp [hx], hx1, fun y hy hy1 => ?_⟩
    rcases List.mem_cons.1 hy with rfl | hy
    ·exact absurd hy1 hz
    ·exact hx2 y hy hy1
  ·obtain ⟨x, hx, hx1⟩ := h
   rcases List.mem_cons.1 hx with rfl | hx
   ·refine ⟨x, by simp, hx1, fun y hy hy1 => ?_⟩
    rcases List.mem_cons.1 hy with rfl | hy
    ·exact Int.le_refl _
    ·exact absurd ⟨y, hy, hy1⟩ hL
   ·exact absurd ⟨x, hx, hx1⟩ hL
theorem between (L : List (Int × Int)) (h : ∃ x ∈ L, x.1 < 0) (h0 : ∀ x ∈ L, x.1 = 0 → 0 ≤ x.2) (h1 : ∀ x ∈ L, ∀ y ∈ L, 0 < x.1 → y.1 < 0 → 0 ≤ x.1 * y.2 - y.1 * x.2) : ∃ a b : Int, 0 < b ∧ ∀ x ∈ L, a * x.1 ≤ b * x.2 := by
 obtain ⟨z, hz, hz1, hz2⟩ := lower L h
 refine ⟨-z.2, -z.1, by omega, fun x hx => ?_⟩
 rcases Int.lt_trichotomy x.1 0 with q | q | q
 ·have := hz2 x hx q
  have e1 : -z.2 * x.1 = -(z.2 * x.1) := by grind
  have e2 : -z.1 * x.2 = -(x.2 * z.1) := by grind
  omega
 ·rw [q, Int.mul_zero]; exact Int.mul_nonneg (by omega) (h0 x hx q)
 ·have := h1 x hx z hz q hz1
  grind
theorem zonotope (W : List (Int × Int)) (fx fy : Nat → Int) (hax : (1, 0) ∈ W ∧ (0, 1) ∈ W ∧ (-1, 0) ∈ W ∧ (0, -1) ∈ W) : ∀ (n : Nat) (_ : ∀ i, i < n → (fx i ≠ 0 ∨ fy i ≠ 0) → (-(fy i), fx i) ∈ W ∧ (fy i, -(fx i)) ∈ W) (px py D : Int) (_ : 0 < D)
  (_ : ∀ w ∈ W, w.1 * px + w.2 * py ≤ D * helpN n fx fy w.1 w.2), ∃ (E : Int) (t : Nat → Int), 0 < E ∧ (∀ i, i < n → 0 ≤ t i ∧ t i ≤ D * E) ∧ E * px + sumN n (fun i => t i * fx i) = 0 ∧ E * py + sumN n (fun i => t i * fy i) = 0
 | 0, _, px, py, D, hD, h => by
  have h1 := h _ hax.1
  have h2 := h _ hax.2.1
  have h3 := h _ hax.2.2.1
  have h4 := h _ hax.2.2.2
  simp only [helpN, sumN] at h1 h2 h3 h4
  exact ⟨1, fun _ => 0, by omega, fun i hi => by omega, by simp only [sumN]; omega, by simp only [sumN]; omega⟩
 | n + 1, hW, px, py, D, hD, h => by
  let L : List (Int × Int) := (-1, 0) :: (1, D) :: W.map fun w => (w.1 * fx n + w.2 * fy n, D * helpN n fx fy w.1 w.2 - (w.1 * px + w.2 * py))
  have hstep : ∀ w ∈ W, w.1 * px + w.2 * py ≤ D * helpN n fx fy w.1 w.2 + D * max 0 (-(w.1 * fx n + w.2 * fy n)) := fun w hw => by
   have := h w hw
   simp only [helpN, sumN] at this ⊢
   rw [Int.mul_add] at this
   exact this
  have hmem : ∀ x, x ∈ L → x = (-1, 0) ∨ x = (1, D) ∨ ∃ w ∈ W, x = (w.1 * fx n + w.2 * fy n, D * helpN n fx fy w.1 w.2 - (w.1 * px + w.2 * py)) := fun x hx => by
   rcases List.mem_cons.1 hx with hx | hx
   ·exact .inl hx
   rcases List.mem_cons.1 hx with hx | hx
   ·exact .inr (.inl hx)
   obtain ⟨w, hw, e⟩ := List.mem_map.1 hx
   exact .inr (.inr ⟨w, hw, e.symm⟩)
  have hin : ∀ w ∈ W, (w.1 * fx n + w.2 * fy n, D * helpN n fx fy w.1 w.2 - (w.1 * px + w.2 * py)) ∈ L := fun w hw =>
   List.mem_cons.2 (.inr (List.mem_cons.2 (.inr (List.mem_map.2 ⟨w, hw, rfl⟩))))
  obtain ⟨a, b, hb, hab⟩ := between L ⟨(-1, 0), List.mem_cons_self .., by decide⟩ (fun x hx h0 => by
   rcases hmem x hx with rfl | rfl | ⟨w, hw, rfl⟩
   ·simp at h0
   ·simp at h0
   ·have := hstep w hw
    simp only at h0 ⊢
    rw [h0] at this
    simp at this
    omega) (fun x hx y hy h1 h2 => by
   rcases hmem x hx with rfl | rfl | ⟨w, hw, rfl⟩
   ·simp at h1
   ·rcases hmem y hy with rfl | rfl | ⟨v, hv, rfl⟩
    ·simp; omega
    ·simp at h2
    ·have := hstep v hv
     simp only at h2 ⊢
     obtain ⟨c, hc⟩ : ∃ c, c = v.1 * fx n + v.2 * fy n := ⟨_, rfl⟩
     rw [← hc] at h2 this ⊢
     rw [Int.max_eq_right (by omega)] at this
     have e1 : D * -c = -(c * D) := by grind
     omega
   ·rcases hmem y hy with rfl | rfl | ⟨v, hv, rfl⟩
    ·have := hstep w hw
     simp only at h1 ⊢
     rw [Int.max_eq_left (by omega)] at this
     omega
    ·simp at h2
    ·simp only at h1 h2 ⊢
     obtain ⟨c, hc⟩ : ∃ c, c = w.1 * fx n + w.2 * fy n := ⟨_, rfl⟩
     obtain ⟨d, hd⟩ : ∃ d, d = v.1 * fx n + v.2 * fy n := ⟨_, rfl⟩
     rw [← hc] at h1 ⊢
     rw [← hd] at h2 ⊢
     -- u = c v - d w
     have hu : (c * v.1 + (-d) * w.1) * fx n + (c * v.2 + (-d) * w.2) * fy n = 0 := by grind
     have hsub := helpN_add n fx fy (c * v.1) (c * v.2) ((-d) * w.1) ((-d) * w.2)
     rw [helpN_mul (by omega), helpN_mul (by omega)] at hsub
     obtain ⟨ux, hux⟩ : ∃ x, x = c * v.1 + (-d) * w.1 := ⟨_, rfl⟩
     obtain ⟨uy, huy⟩ : ∃ x, x = c * v.2 + (-d) * w.2 := ⟨_, rfl⟩
     rw [← hux, ← huy] at hu hsub
     have hne : fx n ≠ 0 ∨ fy n ≠ 0 := by
      by_cases q : fx n = 0
      ·right; intro q2; rw [q, q2] at hc; simp at hc; omega
      ·exact .inl q
     have hf : 0 < fx n * fx n + fy n * fy n := by
      have a1 := sq_nonneg (fx n)
      have a2 := sq_nonneg (fy n)
      rcases hne with q | q
      ·have : fx n * fx n ≠ 0 := fun e => q ((Int.mul_eq_zero.1 e).elim id id)
       omega
      ·have : fy n * fy n ≠ 0 := fun e => q ((Int.mul_eq_zero.1 e).elim id id)
       omega
     have key : ux * px + uy * py ≤ D * helpN n fx fy ux uy := by
      obtain ⟨w1, w2⟩ := hW n (by omega) hne
      obtain ⟨m, hm⟩ : ∃ m, m = fx n * uy - fy n * ux := ⟨_, rfl⟩
      obtain ⟨q, hq, hq0, k, hk, e1, e2⟩ : ∃ q ∈ W, q.1 * fx n + q.2 * fy n = 0 ∧ ∃ k : Int, 0 ≤ k ∧ (fx n * fx n + fy n * fy n) * ux = k * q.1 ∧ (fx n * fx n + fy n * fy n) * uy = k * q.2 := by
       rcases Int.le_total 0 m with h0 | h0
       ·exact ⟨_, w1, by grind, m, h0, by grind, by grind⟩
       ·exact ⟨_, w2, by grind, -m, by omega, by grind, by grind⟩
      have a1 := hstep q hq
      rw [hq0] at a1
      simp at a1
      have a2 := Int.mul_le_mul_of_nonneg_left a1 hk
      have a3 := helpN_mul (n := n) (fx := fx) (fy := fy) hk q.1 q.2
      have a4 := helpN_mul (n := n) (fx := fx) (fy := fy) (Int.le_of_lt hf) ux uy
      rw [e1, e2] at a4
      have a5 : (fx n * fx n + fy n * fy n) * (ux * px + uy * py) ≤ (fx n * fx n + fy n * fy n) * (D * helpN n fx fy ux uy) := by
       have b1 : (fx n * fx n + fy n * fy n) * (ux * px + uy * py) = k * (q.1 * px + q.2 * py) := by grind
       have b2 : (fx n * fx n + fy n * fy n) * (D * helpN n fx fy ux uy) = k * (D * helpN n fx fy q.1 q.2) := by grind
       rw [b1, b2]; exact a2
      exact Int.le_of_mul_le_mul_left a5 hf
     have hD2 := Int.mul_le_mul_of_nonneg_left hsub (Int.le_of_lt hD)
     rw [hux, huy] at key
     grind)
  have ha0 := hab (-1, 0) (List.mem_cons_self ..)
  have ha1 := hab (1, D) (List.mem_cons.2 (.inr (List.mem_cons_self ..)))
  simp only at ha0 ha1
  obtain ⟨E, t, hE, ht, hx, hy⟩ := zonotope W fx fy hax n (fun i hi => hW i (by omega)) (b * px + a * fx n) (b * py + a * fy n) (D * b) (Int.mul_pos hD hb) (fun w hw => by
   have := hab _ (hin w hw)
   simp only at this
   grind)
  refine ⟨E * b, fun i => if i = n then E * a else t i, Int.mul_pos hE hb, fun i hi => ?_, ?_, ?_⟩
  ·by_cases q : i = n
   ·simp only [q, if_true]
    refine ⟨Int.mul_nonneg (Int.le_of_lt hE) (by omega), ?_⟩
    have := Int.mul_le_mul_of_nonneg_left (show a ≤ b * D by omega) (Int.le_of_lt hE)
    grind
   ·simp only [q, if_false]
    have := ht i (by omega)
    refine ⟨this.1, ?_⟩
    have e : D * b * E = D * (E * b) := by grind
    omega
  ·rw [sumN, sumN_congr (g' := fun i => t i * fx i) n (fun i hi => by simp [show i ≠ n by omega])]
   simp only [if_true]
   grind
  ·rw [sumN, sumN_congr (g' := fun i => t i * fy i) n (fun i hi => by simp [show i ≠ n by omega])]
   simp only [if_true]
   grind
def cnt (p : Nat → Prop) [DecidablePred p] : Nat → Nat
 | 0 => 0
 | n + 1 => cnt p n + if p n then 1 else 0
theorem cnt_le {p q : Nat → Prop} [DecidablePred p] [DecidablePred q] : ∀ n, (∀ i, i < n → p i → q i) → cnt p n ≤ cnt q n
 | 0, _ => Nat.le_refl _
 | n + 1, h => by
  have h1 := cnt_le (p := p) (q := q) n (fun i hi => h i (by omega))
  have h2 := h n (by omega)
  simp only [cnt]
  by_cases a : p n
  ·rw [if_pos a, if_pos (h2 a)]; omega
  ·rw [if_neg a]; omega
theorem cnt_lt {p q : Nat → Prop} [DecidablePred p] [DecidablePred q] {j : Nat} : ∀ n, j < n → (∀ i, i < n → p i → q i) → q j → ¬ p j → cnt p n < cnt q n
 | 0, hj, _, _, _ => by omega
 | n + 1, hj, h, hq, hp => by
  simp only [cnt]
  by_cases e : j = n
  ·subst e
   have h1 := cnt_le (p := p) (q := q) j (fun i hi => h i (by omega))
   rw [if_neg hp, if_pos hq]; omega
  ·have h1 := cnt_lt (p := p) (q := q) n (by omega) (fun i hi => h i (by omega)) hq hp
   have h2 := h n (by omega)
   by_cases a : p n
   ·rw [if_pos a, if_pos (h2 a)]; omega
   ·rw [if_neg a]; omega
structure Sol (n : Nat) (fx fy : Nat → Int) (px py D : Int) (t : Nat → Int) : Prop where
 pos : 0 < D
 rng : ∀ i, i < n → 0 ≤ t i ∧ t i ≤ D
 sx : D * px + sumN n (fun i => t i * fx i) = 0
 sy : D * py + sumN n (fun i => t i * fy i) = 0
abbrev frac (D : Int) (t : Nat → Int) (i : Nat) : Prop := 0 < t i ∧ t i < D
theorem least (r k : Nat → Int) : ∀ n, (∃ i, i < n ∧ k i ≠ 0) → ∃ j, j < n ∧ k j ≠ 0 ∧ ∀ i, i < n → k i ≠ 0 → r j * (k i).natAbs ≤ r i * (k j).natAbs
 | 0, h => by obtain ⟨i, hi, _⟩ := h; omega
 | n + 1, h => by
  by_cases hL : ∃ i, i < n ∧ k i ≠ 0
  ·obtain ⟨j, hj, hj1, hj2⟩ := least r k n hL
   by_cases hz : k n ≠ 0
   ·by_cases hc : r j * (k n).natAbs ≤ r n * (k j).natAbs
    ·refine ⟨j, by omega, hj1, fun i hi hi1 => ?_⟩
     by_cases e : i = n
     ·subst e; exact hc
     ·exact hj2 i (by omega) hi1
    ·refine ⟨n, by omega, hz, fun i hi hi1 => ?_⟩
     by_cases e : i = n
     ·subst e; exact Int.le_refl _
     ·have h1 := hj2 i (by omega) hi1
      have h2 : r n * (k j).natAbs ≤ r j * (k n).natAbs := by omega
      have p1 : (0 : Int) < (k j).natAbs := by omega
      have p2 : (0 : Int) < (k n).natAbs := by omega
      have p3 : (0 : Int) < (k i).natAbs := by omega
      have h3 := Int.mul_le_mul_of_nonneg_left h1 (Int.le_of_lt p2)
      have h4 := Int.mul_le_mul_of_nonneg_left h2 (Int.le_of_lt p3)
      have h5 : ((k j).natAbs : Int) * (r n * (k i).natAbs) ≤ (k j).natAbs * (r i * (k n).natAbs) := by grind
      exact Int.le_of_mul_le_mul_left h5 p1
   ·refine ⟨j, by omega, hj1, fun i hi hi1 => ?_⟩
    by_cases e : i = n
    ·subst e; exact absurd hi1 hz
    ·exact hj2 i (by omega) hi1
  ·obtain ⟨i, hi, hi1⟩ := h
   obtain rfl : i = n := by
    rcases Nat.lt_or_eq_of_le (Nat.le_of_lt_succ hi) with h | h
    ·exact absurd ⟨i, h, hi1⟩ hL
    ·exact h
   refine ⟨i, hi, hi1, fun k hk hk1 => ?_⟩
   by_cases e : k = i
   ·subst e; exact Int.le_refl _
   ·exact absurd ⟨k, by omega, hk1⟩ hL
theorem Sol.reduce {n : Nat} {fx fy : Nat → Int} {px py D : Int} {t : Nat → Int} (h : Sol n fx fy px py D t) (k : Nat → Int) (hk : ∀ i, i < n → k i ≠ 0 → frac D t i) (hne : ∃ i, i < n ∧ k i ≠ 0) (hx : sumN n (fun i => k i * fx i) = 0) (hy : sumN n (fun i => k i * fy i) = 0) :
  ∃ D' t', Sol n fx fy px py D' t' ∧ cnt (frac D' t') n < cnt (frac D t) n := by
 obtain ⟨r, hr⟩ : ∃ r : Nat → Int, r = fun i => if 0 < k i then D - t i else t i := ⟨_, rfl⟩
 obtain ⟨j, hj, hj1, hj2⟩ := least r k n hne
 have hfj := hk j hj hj1
 have hD := h.pos
 obtain ⟨b, hb⟩ : ∃ b : Int, b = (k j).natAbs := ⟨_, rfl⟩
 obtain ⟨a, ha⟩ : ∃ a : Int, a = r j := ⟨_, rfl⟩
 have hb0 : 0 < b := by omega
 have ha0 : 0 < a := by rw [ha, hr]; simp only; split <;> omega
 have hin : ∀ i, i < n → k i ≠ 0 → 0 ≤ b * t i + a * k i ∧ b * t i + a * k i ≤ D * b := fun i hi hi1 => by
  have h1 := hj2 i hi hi1
  rw [← hb, ← ha] at h1
  have h2 := hk i hi hi1
  have h3 := Int.mul_nonneg (Int.le_of_lt hb0) (Int.le_of_lt h2.1)
  have h4 := Int.mul_le_mul_of_nonneg_left (Int.le_of_lt h2.2) (Int.le_of_lt hb0)
  by_cases q : 0 < k i
  ·have e : r i = D - t i := by rw [hr]; simp only [if_pos q]
   rw [e, Int.natAbs_of_nonneg (Int.le_of_lt q)] at h1
   have h5 := Int.mul_nonneg (Int.le_of_lt ha0) (Int.le_of_lt q)
   constructor
   ·omega
   ·grind
  ·have e : r i = t i := by rw [hr]; simp only [if_neg q]
   rw [e, show ((k i).natAbs : Int) = -(k i) by omega] at h1
   have h5 := Int.mul_nonneg (Int.le_of_lt ha0) (show 0 ≤ -(k i) by omega)
   constructor
   ·grind
   ·grind
 refine ⟨D * b, fun i => b * t i + a * k i, ⟨Int.mul_pos hD hb0, fun i hi => ?_, ?_, ?_⟩, cnt_lt n hj (fun i hi hf => ?_) hfj ?_⟩
 ·by_cases q : k i = 0
  ·have h2 := h.rng i hi
   simp only [q, Int.mul_zero, Int.add_zero]
   refine ⟨Int.mul_nonneg (Int.le_of_lt hb0) h2.1, ?_⟩
   rw [Int.mul_comm D]
   exact Int.mul_le_mul_of_nonneg_left h2.2 (Int.le_of_lt hb0)
  ·exact hin i hi q
 ·have e : sumN n (fun i => (b * t i + a * k i) * fx i) = b * sumN n (fun i => t i * fx i) + a * sumN n (fun i => k i * fx i) := by
   rw [← sumN_mul, ← sumN_mul, ← sumN_add]
   exact sumN_congr n fun i _ => by grind
  rw [e, hx]
  have := h.sx
  grind
 ·have e : sumN n (fun i => (b * t i + a * k i) * fy i) = b * sumN n (fun i => t i * fy i) + a * sumN n (fun i => k i * fy i) := by
   rw [← sumN_mul, ← sumN_mul, ← sumN_add]
   exact sumN_congr n fun i _ => by grind
  rw [e, hy]
  have := h.sy
  grind
 ·by_cases q : k i = 0
  ·obtain ⟨f1, f2⟩ := hf
   simp only [q, Int.mul_zero, Int.add_zero] at f1 f2
   refine ⟨?_, ?_⟩
   ·exact Int.pos_of_mul_pos_right f1 hb0
   ·rw [Int.mul_comm D] at f2
    exact Int.lt_of_mul_lt_mul_left f2 (Int.le_of_lt hb0)
  ·exact hk i hi q
 ·intro hf
  obtain ⟨f1, f2⟩ := hf
  dsimp only at f1 f2
  by_cases q : 0 < k j
  ·have e : a = D - t j := by rw [ha, hr]; simp only [if_pos q]
   have e2 : k j = b := by omega
   rw [e2, e] at f2
   have : b * t j + (D - t j) * b = D * b := by grind
   omega
  ·have e : a = t j := by rw [ha, hr]; simp only [if_neg q]
   have e2 : k j = -b := by omega
   rw [e2, e] at f1
   have : b * t j + t j * -b = 0 := by grind
   omega
structure Basic (n : Nat) (fx fy : Nat → Int) (D : Int) (t : Nat → Int) : Prop where
 one : ∀ i, i < n → frac D t i → fx i ≠ 0 ∨ fy i ≠ 0
 two : ∀ i j, i < n → j < n → i ≠ j → frac D t i → frac D t j → fx i * fy j - fy i * fx j ≠ 0
 three : ∀ i j k, i < n → j < n → k < n → i ≠ j → i ≠ k → j ≠ k → frac D t i → frac D t j → ¬ frac D t k
theorem Sol.basic {n : Nat} {fx fy : Nat → Int} {px py : Int} : ∀ (m : Nat) (D : Int) (t : Nat → Int), Sol n fx fy px py D t → cnt (frac D t) n ≤ m → ∃ D' t', Sol n fx fy px py D' t' ∧ Basic n fx fy D' t'
 | m, D, t, h, hm => by
  by_cases hred : ∃ k : Nat → Int, (∀ i, i < n → k i ≠ 0 → frac D t i) ∧ (∃ i, i < n ∧ k i ≠ 0) ∧ sumN n (fun i => k i * fx i) = 0 ∧ sumN n (fun i => k i * fy i) = 0
  ·obtain ⟨k, h1, h2, h3, h4⟩ := hred
   obtain ⟨D', t', hs, hc⟩ := h.reduce k h1 h2 h3 h4
   cases m with
   | zero => omega
   | succ m => exact Sol.basic m D' t' hs (by omega)
  ·have hone : ∀ i, i < n → frac D t i → fx i ≠ 0 ∨ fy i ≠ 0 := fun i hi hf => by
    refine Decidable.byContradiction fun hn => hred ⟨fun j => if j = i then 1 else 0, fun j hj h1 => ?_, ⟨i, hi, by simp⟩, ?_, ?_⟩
    ·by_cases e : j = i
     ·subst e; exact hf
     ·simp [e] at h1
    ·rw [sumN_one (a := i) n hi (fun j _ hj => by simp [hj])]; simp; omega
    ·rw [sumN_one (a := i) n hi (fun j _ hj => by simp [hj])]; simp; omega
   have htwo : ∀ i j, i < n → j < n → i ≠ j → frac D t i → frac D t j → fx i * fy j - fy i * fx j ≠ 0 := fun i j hi hj hij hfi hfj hc => by
    have hgo : ∀ (g : Nat → Int), g j * fx i - g i * fx j = 0 → g j * fy i - g i * fy j = 0 → (g i ≠ 0 ∨ g j ≠ 0) → False := fun g e1 e2 hg => by
     refine hred ⟨fun l => if l = i then g j else if l = j then -(g i) else 0, fun l hl h1 => ?_, ?_, ?_, ?_⟩
     ·by_cases a : l = i
      ·subst a; exact hfi
      ·by_cases b : l = j
       ·subst b; exact hfj
       ·simp [a, b] at h1
     ·rcases hg with q | q
      ·exact ⟨j, hj, by simp [Ne.symm hij]; exact q⟩
      ·exact ⟨i, hi, by simp; exact q⟩
     ·rw [sumN_two (a := i) (b := j) hi hj hij (fun l _ h1 h2 => by simp [h1, h2])]; simp [Ne.symm hij]; grind
     ·rw [sumN_two (a := i) (b := j) hi hj hij (fun l _ h1 h2 => by simp [h1, h2])]; simp [Ne.symm hij]; grind
    by_cases q : fx i ≠ 0 ∨ fx j ≠ 0
    ·exact hgo fx (by grind) (by grind) q
    ·have h1 := hone i hi hfi
     exact hgo fy (by grind) (by grind) (by omega)
   refine ⟨D, t, h, hone, htwo, fun i j k hi hj hk hij hik hjk f1 f2 f3 => ?_⟩
   have h1 := htwo i j hi hj hij f1 f2
   refine hred ⟨fun l => if l = i then fx j * fy k - fy j * fx k else if l = j then fx k * fy i - fy k * fx i else if l = k then fx i * fy j - fy i * fx j else 0, fun l hl h1 => ?_, ⟨k, hk, by simp [Ne.symm hik, Ne.symm hjk]; exact h1⟩, ?_, ?_⟩
   ·by_cases a : l = i
    ·subst a; exact f1
    ·by_cases b : l = j
     ·subst b; exact f2
     ·by_cases c : l = k
      ·subst c; exact f3
      ·simp [a, b, c] at h1
   ·rw [sumN_three (a := i) (b := j) (c := k) hi hj hk hij hik hjk (fun l _ h1 h2 h3 => by simp [h1, h2, h3])]; simp [Ne.symm hij, Ne.symm hik, Ne.symm hjk]; grind
   ·rw [sumN_three (a := i) (b := j) (c := k) hi hj hk hij hik hjk (fun l _ h1 h2 h3 => by simp [h1, h2, h3])]; simp [Ne.symm hij, Ne.symm hik, Ne.symm hjk]; grind
end Go.Zono
namespace Go.BT
open Go
/-! ### The search for a balance, as the program goes about it. -/
def bitB (s i : Nat) : Bool := s.testBit i
def dotV (a b : Vec) : Int := a.x * b.x + a.y * b.y
def crossV (a b : Vec) : Int := a.x * b.y - a.y * b.x
def timesV (v : Vec) (n : Int) : Vec := ⟨n * v.x, n * v.y⟩
def addV (a b : Vec) : Vec := ⟨a.x + b.x, a.y + b.y⟩
def noBal : Bal := ⟨0, []⟩
def atV (F : List Vec) (i : Nat) : Vec := F.getD i ⟨0, 0⟩
def fullK (F : List Vec) (s : Nat) : Nat → Vec
 | 0 => ⟨0, 0⟩
 | k + 1 => if bitB s k then addV (fullK F s k) (atV F k) else fullK F s k
def fullV (F : List Vec) (s : Nat) : Vec := fullK F s F.length
def needV (F : List Vec) (p : Vec) (s : Nat) : Vec := timesV (addV p (fullV F s)) (-1)
def setP (n s : Nat) (wh : Int) : List Int := (List.range n).map fun i => if bitB s i then wh else 0
def parts1 (n s : Nat) (wh : Int) (a : Nat) (u : Int) : Bal := ⟨wh, (setP n s wh).set a u⟩
def parts2 (n s : Nat) (wh : Int) (a : Nat) (u : Int) (b : Nat) (v : Int) : Bal := ⟨wh, ((setP n s wh).set a u).set b v⟩
def withinB (n lo hi : Int) : Bool := decide (lo ≤ n) && decide (n ≤ hi)
def ratio (f need : Vec) : Int × Int :=
 let q := if f.x = 0 then (need.y, f.y) else (need.x, f.x)
 if q.2 < 0 then (-q.1, -q.2) else q
def aloneL (F : List Vec) (need : Vec) (s a : Nat) : Bal × Bool :=
 if dotV (atV F a) (atV F a) = 0 ∨ crossV (atV F a) need ≠ 0 then (noBal, false)
 else (parts1 F.length s (ratio (atV F a) need).2 a (ratio (atV F a) need).1, withinB (ratio (atV F a) need).1 0 (ratio (atV F a) need).2)
def crs (f g need : Vec) : Int × Int × Int := if crossV f g < 0 then (-(crossV f g), -(crossV need g), -(crossV f need)) else (crossV f g, crossV need g, crossV f need)
def bothL (F : List Vec) (need : Vec) (s a b : Nat) : Bal × Bool :=
 (parts2 F.length s (crs (atV F a) (atV F b) need).1 a (crs (atV F a) (atV F b) need).2.1 b (crs (atV F a) (atV F b) need).2.2,
  decide (0 < (crs (atV F a) (atV F b) need).1) && withinB (crs (atV F a) (atV F b) need).2.1 0 (crs (atV F a) (atV F b) need).1 && withinB (crs (atV F a) (atV F b) need).2.2 0 (crs (atV F a) (atV F b) need).1)
/-! ### What the document asks. -/
def helpL (F : List Vec) (w : Vec) : Int := (F.map fun f => max 0 (-(dotV w f))).sum
def waysL (F : List Vec) : List Vec := [⟨1, 0⟩, ⟨0, 1⟩, ⟨-1, 0⟩, ⟨0, -1⟩] ++ F.flatMap fun f => [f, timesV f (-1), ⟨-f.y, f.x⟩, ⟨f.y, -f.x⟩]
def balL (F : List Vec) (p : Vec) : Bool := (waysL F).all fun w => decide (dotV w p ≤ helpL F w)
def sumPX (F : List Vec) (ps : List Int) : Int := Zono.sumN F.length fun i => ps.getD i 0 * (atV F i).x
def sumPY (F : List Vec) (ps : List Int) : Int := Zono.sumN F.length fun i => ps.getD i 0 * (atV F i).y
def isBalL (F : List Vec) (p : Vec) (b : Bal) : Bool :=
 withinB b.whole 1 500000000000 && decide (b.parts.length = F.length) && b.parts.all (fun t => withinB t 0 b.whole) && decide (b.whole * p.x + sumPX F b.parts = 0) && decide (b.whole * p.y + sumPY F b.parts = 0)
/-! ### A search that ends at the first hit. -/
def hitB (F : List Vec) (need : Vec) (s a b : Nat) : Bool := !bitB s b && (bothL F need s a b).2
def hitA (F : List Vec) (need : Vec) (s a : Nat) : Bool := !bitB s a && ((aloneL F need s a).2 || (List.range a).any (hitB F need s a))
def hitS (F : List Vec) (p : Vec) (s : Nat) : Bool := decide (needV F p s = ⟨0, 0⟩) || (List.range F.length).any (hitA F (needV F p s) s)
def okBal (F : List Vec) (p : Vec) (b : Bal) : Prop := b.parts.length = F.length ∧ 1 ≤ b.whole ∧ b.whole ≤ 500000000000 ∧ (∀ t ∈ b.parts, 0 ≤ t ∧ t ≤ b.whole) ∧ b.whole * p.x + sumPX F b.parts = 0 ∧ b.whole * p.y + sumPY F b.parts = 0
theorem okBal.is {F : List Vec} {p : Vec} {b : Bal} (h : okBal F p b) : isBalL F p b = true := by
 obtain ⟨h1, h2, h3, h4, h5, h6⟩ := h
 simp only [isBalL, withinB, Bool.and_eq_true, decide_eq_true_eq, List.all_eq_true]
 exact ⟨⟨⟨⟨⟨h2, h3⟩, h1⟩, fun t ht => h4 t ht⟩, h5⟩, h6⟩
theorem full_x (F : List Vec) (s : Nat) (wh : Int) : ∀ k, Zono.sumN k (fun i => (if bitB s i then wh else 0) * (atV F i).x) = wh * (fullK F s k).x
 | 0 => by simp [Zono.sumN, fullK]
 | k + 1 => by
  simp only [Zono.sumN, fullK, full_x F s wh k]
  cases bitB s k <;> simp [addV, Int.mul_add]
theorem full_y (F : List Vec) (s : Nat) (wh : Int) : ∀ k, Zono.sumN k (fun i => (if bitB s i then wh else 0) * (atV F i).y) = wh * (fullK F s k).y
 | 0 => by simp [Zono.sumN, fullK]
 | k + 1 => by
  simp only [Zono.sumN, fullK, full_y F s wh k]
  cases bitB s k <;> simp [addV, Int.mul_add]
theorem need_x (F : List Vec) (p : Vec) (s : Nat) : (needV F p s).x = -(p.x + (fullV F s).x) := by simp [needV, timesV, addV]
theorem need_y (F : List Vec) (p : Vec) (s : Nat) : (needV F p s).y = -(p.y + (fullV F s).y) := by simp [needV, timesV, addV]
def smallV (F : List Vec) : Prop := ∀ f ∈ F, -500000 ≤ f.x ∧ f.x ≤ 500000 ∧ -500000 ≤ f.y ∧ f.y ≤ 500000
theorem smallV.at {F : List Vec} (h : smallV F) (i : Nat) : -500000 ≤ (atV F i).x ∧ (atV F i).x ≤ 500000 ∧ -500000 ≤ (atV F i).y ∧ (atV F i).y ≤ 500000 := by
 unfold atV
 rw [List.getD_eq_getElem?_getD]
 by_cases q : i < F.length
 ·rw [List.getElem?_eq_getElem q]; exact h _ (List.getElem_mem q)
 ·rw [List.getElem?_eq_none (by omega)]; exact ⟨by decide, by decide, by decide, by decide⟩
theorem ratio_ok {f need : Vec} (hd : ¬ dotV f f = 0) (hc : crossV f need = 0) : 0 < (ratio f need).2 ∧ ((ratio f need).2 = f.x ∨ (ratio f need).2 = -f.x ∨ (ratio f need).2 = f.y ∨ (ratio f need).2 = -f.y) ∧ (ratio f need).2 * need.x = (ratio f need).1 * f.x ∧ (ratio f need).2 * need.y = (ratio f need).1 * f.y := by
 unfold crossV at hc
 unfold dotV at hd
 unfold ratio
 dsimp only
 by_cases q : f.x = 0
 ·rw [if_pos q]
  rw [q] at hc hd
  have hy : f.y ≠ 0 := fun e => hd (by rw [e]; rfl)
  have hn : need.x = 0 := by
   have : f.y * need.x = 0 := by omega
   exact (Int.mul_eq_zero.1 this).resolve_left hy
  dsimp only
  split
  ·refine ⟨by dsimp only; omega, .inr (.inr (.inr rfl)), ?_, ?_⟩
   ·rw [hn, q]; simp
   ·dsimp only; grind
  ·refine ⟨by dsimp only; omega, .inr (.inr (.inl rfl)), ?_, ?_⟩
   ·rw [hn, q]; simp
   ·dsimp only; grind
 ·rw [if_neg q]
  dsimp only
  split
  ·refine ⟨by dsimp only; omega, .inr (.inl rfl), ?_, ?_⟩
   ·dsimp only; grind
   ·dsimp only; grind
  ·refine ⟨by dsimp only; omega, .inl rfl, ?_, ?_⟩
   ·dsimp only; grind
   ·dsimp only; grind
/-! ### Where no direction is a weakness, the search finds a balance. -/
theorem bits (q : Nat → Bool) : ∀ n, ∃ s, s < 2 ^ n ∧ ∀ i, i < n → bitB s i = q i
 | 0 => ⟨0, by decide, fun i hi => by omega⟩
 | n + 1 => by
  obtain ⟨s, hs, h⟩ := bits q n
  cases e : q n with
  | false =>
   refine ⟨s, by rw [Nat.pow_succ]; omega, fun i hi => ?_⟩
   by_cases k : i = n
   ·subst k; rw [e]; exact Nat.testBit_lt_two_pow hs
   ·exact h i (by omega)
  | true =>
   refine ⟨2 ^ n + s, by rw [Nat.pow_succ]; omega, fun i hi => ?_⟩
   by_cases k : i = n
   ·subst k
    rw [e]
    unfold bitB
    rw [Nat.testBit_two_pow_add_eq, Nat.testBit_lt_two_pow hs]; rfl
   ·rw [← h i (by omega)]
    unfold bitB
    exact Nat.testBit_two_pow_add_gt (by omega) s
theorem sum_map (g : Vec → Int) : ∀ F : List Vec, (F.map g).sum = Zono.sumN F.length (fun i => g (atV F i))
 | [] => rfl
 | f :: F => by
  have hshift : ∀ n (k : Nat → Int), Zono.sumN (n + 1) k = k 0 + Zono.sumN n (fun i => k (i + 1)) := fun n => by
   induction n with
   | zero => intro k; simp [Zono.sumN]
   | succ n ih => intro k; rw [Zono.sumN, ih, Zono.sumN]; omega
  rw [List.map_cons, List.sum_cons, sum_map g F, List.length_cons, hshift]
  rfl
theorem help_N (F : List Vec) (w : Vec) : helpL F w = Zono.helpN F.length (fun i => (atV F i).x) (fun i => (atV F i).y) w.x w.y := by
 unfold helpL Zono.helpN dotV
 exact sum_map _ F
theorem solved {F : List Vec} {p : Vec} (h : balL F p = true) : ∃ (D : Int) (t : Nat → Int), Zono.Sol F.length (fun i => (atV F i).x) (fun i => (atV F i).y) p.x p.y D t ∧ Zono.Basic F.length (fun i => (atV F i).x) (fun i => (atV F i).y) D t := by
 have hall : ∀ w ∈ waysL F, dotV w p ≤ helpL F w := fun w hw => by simpa using List.all_eq_true.1 h w hw
 have hmem : ∀ i, i < F.length → (⟨-(atV F i).y, (atV F i).x⟩ : Vec) ∈ waysL F ∧ (⟨(atV F i).y, -(atV F i).x⟩ : Vec) ∈ waysL F := fun i hi => by
  have hm : atV F i ∈ F := by
   unfold atV
   rw [List.getD_eq_getElem?_getD, List.getElem?_eq_getElem hi]
   exact List.getElem_mem hi
  constructor <;> exact List.mem_append.2 (.inr (List.mem_flatMap.2 ⟨_, hm, by simp⟩))
 obtain ⟨E, t, hE, ht, hx, hy⟩ := Zono.zonotope ((waysL F).map fun w => (w.x, w.y)) (fun i => (atV F i).x) (fun i => (atV F i).y)
  ⟨List.mem_map.2 ⟨⟨1, 0⟩, by simp [waysL], rfl⟩, List.mem_map.2 ⟨⟨0, 1⟩, by simp [waysL], rfl⟩, List.mem_map.2 ⟨⟨-1, 0⟩, by simp [waysL], rfl⟩, List.mem_map.2 ⟨⟨0, -1⟩, by simp [waysL], rfl⟩⟩
  F.length (fun i hi _ => ⟨List.mem_map.2 ⟨_, (hmem i hi).1, rfl⟩, List.mem_map.2 ⟨_, (hmem i hi).2, rfl⟩⟩) p.x p.y 1 (by decide) (fun w hw => by
   obtain ⟨v, hv, rfl⟩ := List.mem_map.1 hw
   have := hall v hv
   rw [help_N] at this
   dsimp only
   unfold dotV at this
   omega)
 exact Zono.Sol.basic _ E t ⟨hE, fun i hi => by have := ht i hi; omega, hx, hy⟩ (Nat.le_refl _)
theorem found {F : List Vec} {p : Vec} (h : balL F p = true) : ∃ s, s < 2 ^ F.length ∧ hitS F p s = true := by
 obtain ⟨D, t, hS, hB⟩ := solved h
 obtain ⟨s, hs, hq⟩ := bits (fun i => decide (t i = D)) F.length
 refine ⟨s, hs, ?_⟩
 have hD := hS.pos
 -- what is needed is what the parts bring
 have split : ∀ (g : Nat → Int), Zono.sumN F.length (fun i => t i * g i) = Zono.sumN F.length (fun i => (if bitB s i then D else 0) * g i) + Zono.sumN F.length (fun i => (if Zono.frac D t i then t i else 0) * g i) := fun g => by
  rw [← Zono.sumN_add]
  refine Zono.sumN_congr _ fun i hi => ?_
  have hr := hS.rng i hi
  rw [hq i hi]
  by_cases e : t i = D
  ·have hn : ¬ Zono.frac D t i := fun f => by have := f.2; omega
   rw [if_neg hn]; simp [e]
  ·by_cases z : t i = 0
   ·have hn : ¬ Zono.frac D t i := fun f => by have := f.1; omega
    rw [if_neg hn]; simp [z, show ¬ (0 : Int) = D by omega]
   ·have hy : Zono.frac D t i := ⟨by omega, by omega⟩
    rw [if_pos hy]; simp [e]
 have nx : D * (needV F p s).x = Zono.sumN F.length (fun i => (if Zono.frac D t i then t i else 0) * (atV F i).x) := by
  have h1 := hS.sx
  rw [split, full_x] at h1
  rw [need_x]; unfold fullV; grind
 have ny : D * (needV F p s).y = Zono.sumN F.length (fun i => (if Zono.frac D t i then t i else 0) * (atV F i).y) := by
  have h1 := hS.sy
  rw [split, full_y] at h1
  rw [need_y]; unfold fullV; grind
 unfold hitS
 rw [Bool.or_eq_true]
 by_cases hfr : ∃ a, a < F.length ∧ Zono.frac D t a
 ·right
  by_cases htwo : ∃ a b, a < F.length ∧ b < a ∧ Zono.frac D t a ∧ Zono.frac D t b
  ·obtain ⟨a, b, ha, hb, fa, fb⟩ := htwo
   have hz : ∀ (g : Nat → Int), Zono.sumN F.length (fun i => (if Zono.frac D t i then t i else 0) * g i) = t a * g a + t b * g b := fun g => by
    rw [Zono.sumN_two (a := a) (b := b) ha (by omega) (by omega) (fun i hi h1 h2 => by
     have := hB.three a b i ha (by omega) hi (by omega) (Ne.symm h1) (Ne.symm h2) fa fb
     rw [if_neg this]; simp), if_pos fa, if_pos fb]
   rw [hz] at nx ny
   have hc := hB.two a b ha (by omega) (by omega) fa fb
   refine List.any_eq_true.2 ⟨a, List.mem_range.2 ha, ?_⟩
   unfold hitA
   rw [Bool.and_eq_true, Bool.or_eq_true]
   have sa : bitB s a = false := by rw [hq a ha]; simp; have := fa.2; omega
   have sb : bitB s b = false := by rw [hq b (by omega)]; simp; have := fb.2; omega
   refine ⟨by rw [sa]; rfl, .inr (List.any_eq_true.2 ⟨b, List.mem_range.2 hb, ?_⟩)⟩
   unfold hitB bothL
   rw [sb]
   simp only [Bool.not_false, Bool.true_and, withinB, Bool.and_eq_true, decide_eq_true_eq]
   obtain ⟨f, hf⟩ : ∃ f, f = atV F a := ⟨_, rfl⟩
   obtain ⟨g, hg⟩ : ∃ g, g = atV F b := ⟨_, rfl⟩
   obtain ⟨need, hn⟩ : ∃ n, n = needV F p s := ⟨_, rfl⟩
   simp only [← hf, ← hg, ← hn] at nx ny hc ⊢
   have h1 : D * crossV need g = t a * crossV f g := by unfold crossV; grind
   have h2 : D * crossV f need = t b * crossV f g := by unfold crossV; grind
   have fa1 := fa.1
   have fa2 := fa.2
   have fb1 := fb.1
   have fb2 := fb.2
   have hc' : crossV f g ≠ 0 := by unfold crossV; exact hc
   have rng : ∀ (d n u : Int), 0 < d → D * n = u * d → 0 < u → u < D → 0 ≤ n ∧ n ≤ d := fun d n u hd e h0 h1 => by
    have p1 := Int.mul_pos h0 hd
    have p2 := Int.mul_lt_mul_of_pos_right h1 hd
    refine ⟨Int.not_lt.1 fun hn => ?_, Int.not_lt.1 fun hn => ?_⟩
    ·have := Int.mul_neg_of_pos_of_neg hD hn; omega
    ·have := Int.mul_lt_mul_of_pos_left hn hD; omega
   unfold crs
   split
   ·have r1 := rng (-(crossV f g)) (-(crossV need g)) (t a) (by omega) (by grind) fa1 fa2
    have r2 := rng (-(crossV f g)) (-(crossV f need)) (t b) (by omega) (by grind) fb1 fb2
    exact ⟨⟨by dsimp only; omega, r1⟩, r2⟩
   ·have r1 := rng (crossV f g) (crossV need g) (t a) (by omega) h1 fa1 fa2
    have r2 := rng (crossV f g) (crossV f need) (t b) (by omega) h2 fb1 fb2
    exact ⟨⟨by dsimp only; omega, r1⟩, r2⟩
  ·obtain ⟨a, ha, fa⟩ := hfr
   have hz : ∀ (g : Nat → Int), Zono.sumN F.length (fun i => (if Zono.frac D t i then t i else 0) * g i) = t a * g a := fun g => by
    rw [Zono.sumN_one (a := a) F.length ha (fun i hi h1 => by
     have : ¬ Zono.frac D t i := fun fi => htwo (by
      rcases Nat.lt_or_ge i a with h | h
      ·exact ⟨a, i, ha, h, fa, fi⟩
      ·exact ⟨i, a, hi, by omega, fi, fa⟩)
     rw [if_neg this]; simp), if_pos fa]
   rw [hz] at nx ny
   have hne := hB.one a ha fa
   refine List.any_eq_true.2 ⟨a, List.mem_range.2 ha, ?_⟩
   unfold hitA
   rw [Bool.and_eq_true, Bool.or_eq_true]
   have sa : bitB s a = false := by rw [hq a ha]; simp; have := fa.2; omega
   refine ⟨by rw [sa]; rfl, .inl ?_⟩
   obtain ⟨f, hf⟩ : ∃ f, f = atV F a := ⟨_, rfl⟩
   obtain ⟨need, hn⟩ : ∃ n, n = needV F p s := ⟨_, rfl⟩
   simp only [← hf, ← hn] at nx ny hne ⊢
   have fa1 := fa.1
   have fa2 := fa.2
   have hd : ¬ dotV f f = 0 := fun e => by
    unfold dotV at e
    have a1 := Zono.sq_nonneg f.x
    have a2 := Zono.sq_nonneg f.y
    have b1 : f.x * f.x = 0 := by omega
    have b2 : f.y * f.y = 0 := by omega
    have c1 := (Int.mul_eq_zero.1 b1).elim id id
    have c2 := (Int.mul_eq_zero.1 b2).elim id id
    rw [c1, c2] at hne
    simp at hne
   have hc : crossV f need = 0 := by
    have : D * crossV f need = 0 := by unfold crossV; grind
    exact (Int.mul_eq_zero.1 this).resolve_left (by omega)
   unfold aloneL
   rw [← hf, if_neg (by rw [hc]; simp; exact hd)]
   dsimp only
   obtain ⟨r1, r2, r3, r4⟩ := ratio_ok hd hc
   obtain ⟨u, hu⟩ : ∃ u, u = (ratio f need).1 := ⟨_, rfl⟩
   obtain ⟨d, hdd⟩ : ∃ u, u = (ratio f need).2 := ⟨_, rfl⟩
   simp only [← hu, ← hdd] at r1 r2 r3 r4 ⊢
   have e : D * u = t a * d := by
    by_cases q : f.x = 0
    ·have qy : f.y ≠ 0 := fun e => by rw [q, e] at hne; simp at hne
     have : f.y * (D * u) = f.y * (t a * d) := by grind
     exact Int.eq_of_mul_eq_mul_left qy this
    ·have : f.x * (D * u) = f.x * (t a * d) := by grind
     exact Int.eq_of_mul_eq_mul_left q this
   have p1 := Int.mul_pos fa1 r1
   have p2 := Int.mul_lt_mul_of_pos_right fa2 r1
   simp only [withinB, Bool.and_eq_true, decide_eq_true_eq]
   refine ⟨Int.not_lt.1 fun hn => ?_, Int.not_lt.1 fun hn => ?_⟩
   ·have := Int.mul_neg_of_pos_of_neg hD hn; omega
   ·have := Int.mul_lt_mul_of_pos_left hn hD; omega
 ·left
  have hz : ∀ (g : Nat → Int), Zono.sumN F.length (fun i => (if Zono.frac D t i then t i else 0) * g i) = 0 := fun g => by
   rw [Zono.sumN_congr (g' := fun _ => 0) _ (fun i hi => by rw [if_neg (fun fi => hfr ⟨i, hi, fi⟩)]; simp), Zono.sumN_zero]
  rw [hz] at nx ny
  rw [decide_eq_true_eq]
  have h1 := (Int.mul_eq_zero.1 nx).resolve_left (by omega)
  have h2 := (Int.mul_eq_zero.1 ny).resolve_left (by omega)
  cases hv : needV F p s
  rw [hv] at h1 h2
  simp_all
end Go.BT
namespace Go.BT
open Go
set_option linter.unusedVariables false
/-! ### Tests, stakes, tents. -/
/-! ### Ways and reach. -/
theorem sum_nonneg : ∀ (l : List Int), (∀ x ∈ l, 0 ≤ x) → 0 ≤ l.sum
 | [], _ => by simp
 | x :: l, h => by
  rw [List.sum_cons]
  have := sum_nonneg l (fun y hy => h y (by simp [hy]))
  have := h x (by simp)
  omega
theorem help_nonneg (F : List Vec) (w : Vec) : 0 ≤ helpL F w := sum_nonneg _ fun x hx => by
 obtain ⟨f, _, rfl⟩ := List.mem_map.1 hx
 omega
theorem balL_iff {F : List Vec} {p : Vec} : balL F p = true ↔ ∀ w, dotV w p ≤ helpL F w := by
 refine ⟨fun h w => ?_, fun h => ?_⟩
 ·obtain ⟨D, t, hS, _⟩ := solved h
  have hle : Zono.sumN F.length (fun i => t i * (-(dotV w (atV F i)))) ≤ Zono.sumN F.length (fun i => D * max 0 (-(dotV w (atV F i)))) := by
   refine Zono.sumN_le _ fun i hi => ?_
   have ht := hS.rng i hi
   rcases Int.le_total 0 (-(dotV w (atV F i))) with hm | hm
   ·rw [Int.max_eq_right hm]
    exact Int.mul_le_mul_of_nonneg_right ht.2 hm
   ·rw [Int.max_eq_left hm, Int.mul_zero]
    exact Int.mul_nonpos_of_nonneg_of_nonpos ht.1 hm
  have e1 : Zono.sumN F.length (fun i => t i * (-(dotV w (atV F i)))) = (-w.x) * Zono.sumN F.length (fun i => t i * (atV F i).x) + (-w.y) * Zono.sumN F.length (fun i => t i * (atV F i).y) := by
   rw [← Zono.sumN_mul, ← Zono.sumN_mul, ← Zono.sumN_add]
   exact Zono.sumN_congr _ fun i _ => by unfold dotV; grind
  have e2 : Zono.sumN F.length (fun i => D * max 0 (-(dotV w (atV F i)))) = D * helpL F w := by
   rw [Zono.sumN_mul]
   congr 1
   exact (sum_map (fun f => max 0 (-(dotV w f))) F).symm
  rw [e1, e2] at hle
  refine Int.le_of_mul_le_mul_left (a := D) ?_ hS.pos
  have h1 := hS.sx
  have h2 := hS.sy
  have : D * dotV w p = (-w.x) * Zono.sumN F.length (fun i => t i * (atV F i).x) + (-w.y) * Zono.sumN F.length (fun i => t i * (atV F i).y) := by unfold dotV; grind
  omega
 ·unfold balL
  rw [List.all_eq_true]
  exact fun w _ => decide_eq_true (h w)
theorem dot_times (w p : Vec) (k : Int) : dotV w (timesV p k) = k * dotV w p := by unfold dotV timesV; grind
theorem bal_mono {F : List Vec} {p : Vec} {j k : Int} (h : balL F (timesV p k) = true) (h0 : 0 ≤ j) (hk : j ≤ k) : balL F (timesV p j) = true := by
 rw [balL_iff] at h ⊢
 intro w
 have h1 := h w
 have h2 := help_nonneg F w
 rw [dot_times] at h1 ⊢
 rcases Int.le_total 0 (dotV w p) with q | q
 ·exact Int.le_trans (Int.mul_le_mul_of_nonneg_right hk q) h1
 ·exact Int.le_trans (Int.mul_nonpos_of_nonneg_of_nonpos h0 q) h2
/-! ### The document's first example. -/
/-! ### Heads and corners that are too weak. -/
/-! ### What stands, stands in less. -/
end Go.BT
namespace Go.BT
open Go.RowKit
inductive Kd where
 | silent | chain | alloc (T : TypeId) (z : Value)
def madeV (z : Value) (g : Nat) : Value := match z with
 | .tuple xs => .slice (some ⟨g, 0, none⟩) xs.size xs.size
 | _ => .pointer (some ⟨g, 0, none⟩)
def madeC (z : Value) : Array Value := match z with
 | .tuple xs => xs
 | z => z.cells
def isTup (z : Value) : Bool := match z with
 | .tuple _ => true
 | _ => false
def Makes (P : Program) (ops : Array Oper) (i : Nat) (T : TypeId) (z : Value) : Prop := match z with
 | .tuple xs => ∃ o, ops[i]? = some o ∧ ∀ (a : Act) (w : World), (execOp a.eval o).run P w = .ok (.value (.slice (some ⟨w.heap.size, 0, none⟩) xs.size xs.size)) (w.alloc (.cells xs T))
 | z => (P.info? T).bind (·.zero) = some z
def QF : Exit → Act → World → Prop := fun _ _ _ => False
abbrev Cont := (Nat → Prop) → Act → World → Prop
def ContMono (X : Nat → Prop) (K : Cont) : Prop := ∀ (N N' : Nat → Prop) a w w', (∀ g, N' g → N g) → StepX X w w' → K N a w → K N' a w'
section
variable (P : Program) (ops : Array Oper) (X : Nat → Prop) (base : Nat) (kd : Nat → Kd)
def go (i : Nat) (K : Cont) : Cont := fun N a w =>
 match kd i with
 | .silent => ∃ o v, ops[i]? = some o ∧ YieldsIf P ops (StepX X w) o v a ∧ K N (a.put o.dst v) w
 | .chain => ∀ W, StepX X w W → wpOp P ops QF i (fun a' w' => StepX X W w' ∧ K (fun g => N g ∧ (g < W.heap.size ∨ w'.heap.size ≤ g)) a' w') a W
 | .alloc T z => ∀ W g, StepX X w W → W.heap[g]? = some (.cells (madeC z) T (0, 0)) → base ≤ g → N g → K (fun x => N x ∧ x ≠ g) (a.put ((ops[i]?).bind (·.dst)) (madeV z g)) W
def run (l : List Nat) (K : Cont) : Cont := l.foldr (fun i K => go P ops X base kd i K) K
variable {P ops X base kd}
theorem YieldsIf.step {o : Oper} {v : Value} {a : Act} {w w' : World} (h : YieldsIf P ops (StepX X w) o v a) (hs : StepX X w w') : YieldsIf P ops (StepX X w') o v a :=
 h.imp (fun ⟨hw, hv⟩ => ⟨hw, fun W hW => hv W (hs.trans hW)⟩) id
theorem go_cong {i : Nat} {K K' : Cont} (h : ∀ N a w, K N a w → K' N a w) {N : Nat → Prop} {a : Act} {w : World} (hg : go P ops X base kd i K N a w) : go P ops X base kd i K' N a w := by
 unfold go at *
 split at hg
 ·obtain ⟨o, v, ho, hy, hk⟩ := hg; exact ⟨o, v, ho, hy, h _ _ _ hk⟩
 ·exact fun W hW => wpOp_mono (fun a' w' ⟨hs, hk⟩ => ⟨hs, h _ _ _ hk⟩) (hg W hW)
 ·exact fun W g h1 h2 h3 h4 => h _ _ _ (hg W g h1 h2 h3 h4)
theorem go_mono {i : Nat} {K : Cont} (hK : ContMono X K) : ContMono X (go P ops X base kd i K) := by
 intro N N' a w w' hN hs hg
 unfold go at *
 split at hg
 ·obtain ⟨o, v, ho, hy, hk⟩ := hg; exact ⟨o, v, ho, YieldsIf.step hy hs, hK _ _ _ _ _ hN hs hk⟩
 ·exact fun W hW => wpOp_mono (fun a' w' ⟨hs', hk⟩ => ⟨hs', hK _ _ _ _ _ (fun g ⟨h1, h2⟩ => ⟨hN g h1, h2⟩) (StepX.refl _ _) hk⟩) (hg W (hs.trans hW))
 ·exact fun W g h1 h2 h3 h4 => hK _ _ _ _ _ (fun x ⟨h5, h6⟩ => ⟨hN x h5, h6⟩) (StepX.refl _ _) (hg W g (hs.trans h1) h2 h3 (hN g h4))
theorem run_mono {K : Cont} (hK : ContMono X K) : ∀ l, ContMono X (run P ops X base kd l K)
 | [] => hK
 | _ :: l => go_mono (run_mono hK l)
theorem wpOp_under {j : Nat} {oj : Oper} {dst : Option Tmp} {v : Value} (hj : ops[j]? = some oj) (h1 : ∀ d, dst = some d → d ∉ oj.looksAt ops) (h2 : ∀ d, dst = some d → oj.dst ≠ some d)
  (hsj : ∀ cs b, oj.op ≠ .select cs b) {K : Act → World → Prop} {a : Act} {w : World} (h : wpOp P ops QF j K a w) :
  wpOp P ops QF j (fun a' w' => ∃ a0, a' = a0.put dst v ∧ K a0 w') (a.put dst v) w := by
 unfold wpOp at *
 simp only [hj] at *
 rw [wanted_put oj a dst v h1]
 split
 ·rename_i hw
  simp only [hw, if_true] at h
  rcases h with h | ⟨_, a0, w0, hF⟩
  case inr => exact hF.elim
  refine .inl ?_
  unfold Oper.wp at *
  rw [execOp_put oj hsj a dst v h1]
  generalize (execOp a.eval oj).run P w = r at *
  cases r with
  | ok n w' =>
   cases n <;> simp only [Oper.upon] at h ⊢
   case value u => exact ⟨_, (Act.put_comm a v u h2), h⟩
   case skip => exact ⟨_, (Act.put_comm a v undef h2), h⟩
   case defer d => exact ⟨_, (by rw [← Act.put_comm _ v undef h2]; cases dst <;> rfl), h⟩
   case enter f args =>
    refine Calls.mono h fun e w'' he => ?_
    cases e with
    | returned u => exact ⟨_, (Act.put_comm a v u h2), he⟩
    | panicked c => exact he.elim
    | outgrown => exact he
   case row row args => exact Rows.mono h fun u w'' he => ⟨_, (Act.put_comm a v u h2), he⟩
  | halt x w' =>
   cases x <;> simp only [Oper.upon] at h ⊢
   case panic u => exact h.elim
 ·rename_i hw
  simp only [hw] at h
  exact ⟨_, (Act.put_comm a v undef h2), h⟩
def swaps : Kd → Kd → Bool
 | .silent, _ => true
 | .chain, .alloc _ _ => true
 | .alloc _ _, .alloc _ _ => true
 | _, _ => false
theorem exch {i j : Nat} {oi oj : Oper} (hi : ops[i]? = some oi) (hj : ops[j]? = some oj) (hap : oi.apart ops oj = true)
  (hsi : ∀ cs b, oi.op ≠ .select cs b) (hsj : ∀ cs b, oj.op ≠ .select cs b) (hsw : swaps (kd i) (kd j) = true) (hX : ∀ j, X j → j < base) {K : Cont} (hK : ContMono X K) {N : Nat → Prop} {a : Act} {w : World}
  (h : go P ops X base kd i (go P ops X base kd j K) N a w) : go P ops X base kd j (go P ops X base kd i K) N a w := by
 obtain ⟨h1, h2, h3⟩ := Oper.apart_spec hap
 have keepI : ∀ {S : World → Prop} {v : Value} {a : Act} (u : Value), YieldsIf P ops S oi v a → YieldsIf P ops S oi v (a.put oj.dst u) := fun {S v a} u hy =>
  hy.of_same (execOp_put oi hsi a oj.dst u h3) (wanted_put oi a oj.dst u h3)
 have backJ : ∀ {S : World → Prop} {v u : Value} {a : Act}, YieldsIf P ops S oj v (a.put oi.dst u) → YieldsIf P ops S oj v a := fun {S v u a} hy =>
  hy.of_same (execOp_put oj hsj a oi.dst u h1).symm (wanted_put oj a oi.dst u h1).symm
 have hdi : (ops[i]?).bind (·.dst) = oi.dst := by rw [hi]; rfl
 have hdj : (ops[j]?).bind (·.dst) = oj.dst := by rw [hj]; rfl
 have hsome : ∀ {w w' : World} {g : Nat} {o : Obj}, StepX X w w' → base ≤ g → w.heap[g]? = some o → w'.heap[g]? = some o := fun {w w' g o} hs hb hg => by
  rw [hs.block g (Array.getElem?_eq_some_iff.1 hg).1 (fun hx => by have := hX g hx; omega)]; exact hg
 cases hki : kd i with
 | silent =>
  cases hkj : kd j with
  | silent =>
   simp only [go, hki, hkj] at h ⊢
   obtain ⟨o, v, ho, hy, o', v', ho', hy', hk⟩ := h
   obtain rfl : oi = o := by rw [hi] at ho; exact Option.some.inj ho
   obtain rfl : oj = o' := by rw [hj] at ho'; exact Option.some.inj ho'
   exact ⟨_, v', hj, backJ hy', _, v, hi, keepI _ hy, by rw [← Act.put_comm a v v' h2]; exact hk⟩
  | chain =>
   simp only [go, hki, hkj] at h ⊢
   obtain ⟨o, v, ho, hy, hk⟩ := h
   obtain rfl : oi = o := by rw [hi] at ho; exact Option.some.inj ho
   intro W hW
   refine wpOp_mono (fun a' w' hh => ?_) (wpOp_putIf (S := StepX X w) hj hap hsi hsj (fun _ _ _ hq => hq) hy (hk W hW))
   obtain ⟨hy', hs, hk'⟩ := hh
   exact ⟨hs, _, v, hi, YieldsIf.step hy' (hW.trans hs), hk'⟩
  | alloc T z =>
   simp only [go, hki, hkj] at h ⊢
   obtain ⟨o, v, ho, hy, hk⟩ := h
   obtain rfl : oi = o := by rw [hi] at ho; exact Option.some.inj ho
   refine fun W g hs hb hg hN => ⟨_, v, hi, ?_, ?_⟩
   ·rw [hdj]; exact keepI _ (YieldsIf.step hy hs)
   ·rw [hdj, ← Act.put_comm a v _ h2, ← hdj]
    exact hk W g hs hb hg hN
 | chain =>
  cases hkj : kd j with
  | silent => simp [hki, hkj, swaps] at hsw
  | chain => simp [hki, hkj, swaps] at hsw
  | alloc T z =>
   simp only [go, hki, hkj] at h ⊢
   intro W0 g hs0 hb hg hN W hW
   refine wpOp_mono (fun a' w' hh => ?_) (wpOp_under (dst := (ops[j]?).bind (·.dst)) (v := madeV z g) hi (by rw [hdj]; exact h3) (by rw [hdj]; exact fun d hd he => h2 d he hd) hsi (h W (hs0.trans hW)))
   obtain ⟨a0, rfl, hs, hk⟩ := hh
   have hlt : g < W.heap.size := Nat.lt_of_lt_of_le (Array.getElem?_eq_some_iff.1 hb).1 hW.size
   exact ⟨hs, hK _ _ _ _ _ (fun x ⟨⟨q1, q2⟩, q3⟩ => ⟨⟨q1, q3⟩, q2⟩) (StepX.refl _ _) (hk w' g (StepX.refl _ _) (hsome (hW.trans hs) hg hb) hg ⟨hN, .inl hlt⟩)⟩
 | alloc T z =>
  cases hkj : kd j with
  | silent => simp [hki, hkj, swaps] at hsw
  | chain => simp [hki, hkj, swaps] at hsw
  | alloc T' z' =>
   simp only [go, hki, hkj] at h ⊢
   intro W' g' hs' hb' hg' hN' W g hs hb hg ⟨hN, hne⟩
   rw [hdi, hdj] at *
   rw [← Act.put_comm a _ _ h2]
   exact hK _ _ _ _ _ (fun x ⟨⟨q1, q2⟩, q3⟩ => ⟨⟨q1, q3⟩, q2⟩) (StepX.refl _ _) (h W g (hs'.trans hs) hb hg hN W g' (StepX.refl _ _) (hsome hs hg' hb') hg' ⟨hN', fun e => hne e.symm⟩)
def bitsOf (tab : List Nat) (j : Nat) (l : List Edge) : Nat := l.foldl (fun acc e => if Region.binds .any e && decide (e.on < j) then acc ||| (2 ^ e.on ||| tab.getD e.on 0) else acc) 0
def okTab (tab : List Nat) (ops : Array Oper) : Bool := (List.range ops.size).all fun j => match ops[j]? with
 | none => true
 | some o => tab.getD j 0 == bitsOf tab j o.after.toList
def ancB (tab : List Nat) (i j : Nat) : Bool := (tab.getD j 0).testBit i
theorem bits_of {tab : List Nat} {j i : Nat} : ∀ {l : List Edge} {acc : Nat}, (l.foldl (fun acc e => if Region.binds .any e && decide (e.on < j) then acc ||| (2 ^ e.on ||| tab.getD e.on 0) else acc) acc).testBit i = true →
  acc.testBit i = true ∨ ∃ e ∈ l, Region.binds .any e = true ∧ e.on < j ∧ (e.on = i ∨ ancB tab i e.on = true) := by
 intro l
 induction l with
 | nil => intro acc h; exact .inl h
 | cons x l ih =>
  intro acc h
  rw [List.foldl_cons] at h
  rcases ih h with h1 | ⟨e, he, h2⟩
  ·split at h1
   ·rename_i hx
    simp only [Bool.and_eq_true, decide_eq_true_eq] at hx
    rw [Nat.testBit_or, Nat.testBit_or, Nat.testBit_two_pow, Bool.or_eq_true, Bool.or_eq_true, decide_eq_true_eq] at h1
    rcases h1 with h1 | h1
    ·exact .inl h1
    ·exact .inr ⟨x, List.mem_cons_self, hx.1, hx.2, h1⟩
   ·exact .inl h1
  ·exact .inr ⟨e, List.mem_cons_of_mem _ he, h2⟩
def okPair (tab : List Nat) (ops : Array Oper) (kd : Nat → Kd) (i j : Nat) : Bool :=
 ancB tab i j || match ops[i]?, ops[j]? with
  | some oi, some oj => oi.apart ops oj && swaps (kd i) (kd j)
  | _, _ => false
def okList (tab : List Nat) (ops : Array Oper) (kd : Nat → Kd) : List Nat → Bool
 | [] => true
 | i :: l => l.all (okPair tab ops kd i) && okList tab ops kd l
def okTail (tab : List Nat) (before : List Nat) : List Nat → Bool
 | [] => true
 | x :: t => before.all (fun y => ancB tab y x) && okTail tab (before ++ [x]) t
def isSil : Kd → Bool
 | .silent => true
 | _ => false
def isMove (ops : Array Oper) (i : Nat) : Bool := match ops[i]? with
 | some o => (match o.op with | .move _ => true | .extract _ _ => true | _ => false)
 | none => false
def okWait (strict : Bool) (tab : List Nat) (ops : Array Oper) (kd : Nat → Kd) (y x : Nat) : Bool :=
 ancB tab y x || (!strict && isSil (kd y) && isMove ops y && match ops[y]?, ops[x]? with
  | some oy, some ox => oy.apart ops ox
  | _, _ => false)
def okDeps (ops : Array Oper) (seen : List Nat) : List Nat → Bool
 | [] => true
 | x :: l => (match ops[x]? with
  | none => false
  | some o => o.after.all fun e => !Region.binds .any e || seen.contains e.on) && okDeps ops (seen ++ [x]) l
def okAlloc (ops : Array Oper) (kd : Nat → Kd) (l : List Nat) : Bool :=
 l.all fun i => match kd i, ops[i]? with
  | .alloc T z, some o => o.guard.isNone && (isTup z || match o.op with | .alloc T' => T == T' | _ => false)
  | .alloc _ _, none => false
  | _, _ => true
def okSeq (strict : Bool) (tab : List Nat) (ops : Array Oper) (kd : Nat → Kd) (l t : List Nat) : Bool :=
 okTab tab ops && okList tab ops kd l && (l.all fun y => t.all fun x => okWait strict tab ops kd y x) && okTail tab [] t && okDeps ops [] (l ++ t) && okAlloc ops kd l && Region.noSelect ops && (List.range ops.size).all (fun i => (l ++ t).contains i) && (l ++ t).all (fun i => decide (i < ops.size)) && decide (l ++ t).Nodup
def Closed (ops : Array Oper) (listed : Array Bool) : Prop :=
 ∀ x o, ops[x]? = some o → listed.getD x true = true → ∀ e ∈ o.after, Region.binds .any e = true → listed.getD e.on false = true
theorem getD_tf' {listed : Array Bool} {i : Nat} (h : i < listed.size) (hl : listed.getD i false = true) : listed.getD i true = true := by
 simp [h] at hl ⊢; exact hl
variable {tab : List Nat}
theorem anc_listed {listed : Array Bool} (hsz : listed.size = ops.size) (hc : Closed ops listed) (ht : okTab tab ops = true) : ∀ j i o, ops[j]? = some o → (∀ e ∈ o.after, Region.binds .any e = true → listed.getD e.on false = true) →
  ancB tab i j = true → listed.getD i false = true := by
 intro j
 induction j using Nat.strongRecOn with
 | _ j ih =>
  intro i o ho hd h
  have hj : j < ops.size := (Array.getElem?_eq_some_iff.1 ho).1
  have h1 := List.all_eq_true.1 ht j (List.mem_range.2 hj)
  simp only [ho, beq_iff_eq] at h1
  unfold ancB at h
  rw [h1] at h
  rcases bits_of h with h2 | ⟨e, he, hb, hlt, h2⟩
  ·simp at h2
  ·have hl := hd e (by simpa using he) hb
   rcases h2 with rfl | h2
   ·exact hl
   ·have hej : e.on < ops.size := by omega
    exact ih e.on hlt i ops[e.on] (Array.getElem?_eq_getElem hej) (hc e.on _ (Array.getElem?_eq_getElem hej) (getD_tf' (by omega) hl)) h2
theorem bring (hX : ∀ j, X j → j < base) {K : Cont} (hK : ContMono X K) (hsel : Region.noSelect ops = true) {j : Nat} {oj : Oper} (hj : ops[j]? = some oj) : ∀ (l1 l2 : List Nat) (N : Nat → Prop) (a : Act) (w : World),
  (∀ i ∈ l1, ∃ oi, ops[i]? = some oi ∧ oi.apart ops oj = true ∧ swaps (kd i) (kd j) = true) → run P ops X base kd (l1 ++ j :: l2) K N a w → go P ops X base kd j (run P ops X base kd (l1 ++ l2) K) N a w := by
 intro l1
 induction l1 with
 | nil => intro l2 N a w _ h; exact h
 | cons i l1 ih =>
  intro l2 N a w hall h
  obtain ⟨oi, hi, hap, hsw⟩ := hall i (by simp)
  have h' : go P ops X base kd i (go P ops X base kd j (run P ops X base kd (l1 ++ l2) K)) N a w :=
   go_cong (fun N a w hh => ih l2 N a w (fun k hk => hall k (by simp [hk])) hh) h
  exact exch hi hj hap (Region.noSelect_spec hsel i oi · · hi) (Region.noSelect_spec hsel j oj · · hj) hsw hX (run_mono hK _) h'
theorem okList_drop {l1 l2 : List Nat} {j : Nat} (h : okList tab ops kd (l1 ++ j :: l2) = true) : okList tab ops kd (l1 ++ l2) = true ∧ ∀ i ∈ l1, okPair tab ops kd i j = true := by
 induction l1 with
 | nil => simp only [List.nil_append, okList, Bool.and_eq_true] at h; exact ⟨h.2, by simp⟩
 | cons i l1 ih =>
  simp only [List.cons_append, okList, Bool.and_eq_true, List.all_eq_true] at h ⊢
  obtain ⟨h1, h2⟩ := ih h.2
  refine ⟨⟨fun x hx => h.1 x ?_, h1⟩, fun x hx => ?_⟩
  ·simp only [List.mem_append, List.mem_cons] at hx ⊢; rcases hx with hx | hx <;> simp [hx]
  ·rcases List.mem_cons.1 hx with rfl | hx
   ·exact h.1 j (by simp)
   ·exact h2 x hx
def TailOk (tab : List Nat) (l t : List Nat) : Prop := ∀ t1 x t2, t = t1 ++ x :: t2 → ∀ y ∈ l ++ t1, ancB tab y x = true
def DepsOk (ops : Array Oper) (listed : Array Bool) (L : List Nat) : Prop := ∀ L1 x L2, L = L1 ++ x :: L2 → ∃ o, ops[x]? = some o ∧ ∀ e ∈ o.after, Region.binds .any e = true → listed.getD e.on false = true ∨ e.on ∈ L1
theorem tailOk_of {t : List Nat} : ∀ {b : List Nat}, okTail tab b t = true → TailOk tab b t := by
 induction t with
 | nil => intro b _ t1 x t2 h; exact absurd h (by simp)
 | cons z t ih =>
  intro b h t1 x t2 he y hy
  simp only [okTail, Bool.and_eq_true, List.all_eq_true] at h
  cases t1 with
  | nil =>
   simp only [List.nil_append, List.cons.injEq] at he
   obtain ⟨rfl, rfl⟩ := he
   exact h.1 y (by simpa using hy)
  | cons z' t1 =>
   simp only [List.cons_append, List.cons.injEq] at he
   obtain ⟨rfl, rfl⟩ := he
   exact ih h.2 t1 x t2 rfl y (by simpa using hy)
theorem depsOk_of {listed : Array Bool} {L : List Nat} : ∀ {seen : List Nat}, okDeps ops seen L = true → ∀ L1 x L2, L = L1 ++ x :: L2 → ∃ o, ops[x]? = some o ∧ ∀ e ∈ o.after, Region.binds .any e = true → listed.getD e.on false = true ∨ e.on ∈ seen ++ L1 := by
 induction L with
 | nil => intro b _ t1 x t2 h; exact absurd h (by simp)
 | cons z t ih =>
  intro b h t1 x t2 he
  simp only [okDeps, Bool.and_eq_true] at h
  cases t1 with
  | nil =>
   simp only [List.nil_append, List.cons.injEq] at he
   obtain ⟨rfl, rfl⟩ := he
   cases ho : ops[z]? with
   | none => simp [ho] at h
   | some o =>
    simp only [ho, Array.all_eq_true_iff_forall_mem, Bool.or_eq_true, Bool.not_eq_true', List.contains_iff_mem] at h
    exact ⟨o, rfl, fun e he hb => .inr (by have := (h.1 e he).resolve_left (by simp [hb]); simpa using this)⟩
  | cons z' t1 =>
   simp only [List.cons_append, List.cons.injEq] at he
   obtain ⟨rfl, rfl⟩ := he
   obtain ⟨o, ho, hh⟩ := ih h.2 t1 x t2 rfl
   exact ⟨o, ho, fun e he hb => (hh e he hb).imp id (by simp)⟩
def K0 (P : Program) (ops : Array Oper) (X : Nat → Prop) (Q : Exit → Act → World → Prop) (t : List Nat) : Cont := fun _ a w => ∀ W, StepX X w W → wpOps P ops Q t a W
theorem K0_mono {Q : Exit → Act → World → Prop} (t : List Nat) : ContMono X (K0 P ops X Q t) := fun _ _ _ _ _ _ hs h W hW => h W (hs.trans hW)
theorem wpOp_any {Q : Exit → Act → World → Prop} {i : Nat} {K : Act → World → Prop} {a : Act} {w : World} (h : wpOp P ops QF i K a w) : wpOp P ops Q i K a w := by
 unfold wpOp at *
 cases ho : ops[i]? with
 | none => simp only [ho] at h; exact h
 | some o =>
  simp only [ho] at h ⊢
  split
  ·rename_i hw
   simp only [hw, if_true] at h
   rcases h with h | ⟨_, a0, w0, hF⟩
   case inr => exact hF.elim
   refine .inl ?_
   unfold Oper.wp at *
   generalize (execOp a.eval o).run P w = r at *
   cases r with
   | ok n w' =>
    cases n <;> simp only [Oper.upon] at h ⊢ <;> first
     | exact h
     | exact Calls.mono h (fun e w'' he => by cases e <;> first | exact he | exact he.elim | (obtain ⟨_, _, hF⟩ := he; exact hF.elim))
   | halt x w' => cases x <;> simp only [Oper.upon] at h ⊢ <;> exact h.elim
  ·rename_i hw
   simp only [hw] at h
   exact h
theorem wpOp_alloc {Q : Exit → Act → World → Prop} {i : Nat} {o : Oper} {T : TypeId} {z : Value} {K : Act → World → Prop} {a : Act} {w : World} (ho : ops[i]? = some o) (hop : (isTup z || match o.op with | .alloc T' => T == T' | _ => false) = true) (hg : o.guard = none)
  (hz : Makes P ops i T z) (h : K (a.put o.dst (madeV z w.heap.size)) (w.alloc (.cells (madeC z) T))) : wpOp P ops Q i K a w := by
 unfold wpOp
 simp only [ho, Region.wanted, hg, if_true]
 refine .inl ?_
 unfold Oper.wp
 have hr : (execOp a.eval o).run P w = .ok (.value (madeV z w.heap.size)) (w.alloc (.cells (madeC z) T)) := by
  by_cases ht : ∃ xs, z = .tuple xs
  ·obtain ⟨xs, rfl⟩ := ht
   obtain ⟨o', ho', hrun⟩ := hz
   obtain rfl : o = o' := by rw [ho] at ho'; exact Option.some.inj ho'
   exact hrun _ _
  ·have h1 : isTup z = false := by cases z <;> simp [isTup] at ht ⊢
   have h2 : madeV z w.heap.size = .pointer (some ⟨w.heap.size, 0, none⟩) := by cases z <;> simp [isTup] at h1 <;> rfl
   have h3 : madeC z = z.cells := by cases z <;> simp [isTup] at h1 <;> rfl
   have h4 : (P.info? T).bind (·.zero) = some z := by cases z <;> simp [isTup] at h1 <;> exact hz
   rw [h1, Bool.false_or] at hop
   have hop' : o.op = .alloc T := by
    cases hopp : o.op <;> simp [hopp] at hop
    rw [hop]
   obtain ⟨inf, hi, hzz⟩ := Option.bind_eq_some_iff.1 h4
   rw [h2, h3]
   simp [execOp, hop', Instr.alloc, zeroValue, typeInfo, hi, hzz, newVar, newRow, newObj, Result.andThen]
   rfl
 rw [hr]
 exact h
theorem getD_tf {listed : Array Bool} {i : Nat} (h : i < listed.size) : listed.getD i true = listed.getD i false := by simp [h]
theorem getD_set {listed : Array Bool} {i j : Nat} (hi : i < listed.size) : (listed.setIfInBounds i true).getD j true = (listed.getD j true || decide (i = j)) := by
 by_cases hij : i = j
 ·subst hij; simp [hi]
 ·rw [getD_set_ne true hij]; simp [hij]
theorem depsOk_drop {listed : Array Bool} {L1 L2 : List Nat} {j : Nat} (hj : j < listed.size) (h : DepsOk ops listed (L1 ++ j :: L2)) : DepsOk ops (listed.setIfInBounds j true) (L1 ++ L2) := by
 intro M1 x M2 he
 have keep : ∀ {k}, listed.getD k false = true → (listed.setIfInBounds j true).getD k false = true := fun {k} hk => getD_set_true hk
 rcases List.append_eq_append_iff.1 he with ⟨r, h1, h2⟩ | ⟨r, h1, h2⟩
 ·-- M1 = L1 ++ r, L2 = r ++ x :: M2
  subst h1 h2
  obtain ⟨o, ho, hh⟩ := h (L1 ++ j :: r) x M2 (by simp)
  refine ⟨o, ho, fun e hee hb => ?_⟩
  rcases hh e hee hb with hl | hm
  ·exact .inl (keep hl)
  ·simp only [List.mem_append, List.mem_cons] at hm ⊢
   rcases hm with hm | rfl | hm
   ·exact .inr (.inl hm)
   ·exact .inl (by simp [hj])
   ·exact .inr (.inr hm)
 ·-- L1 = M1 ++ r, x :: M2 = r ++ L2
  cases r with
  | nil =>
   simp only [List.append_nil, List.nil_append] at h1 h2
   subst h1
   obtain ⟨o, ho, hh⟩ := h (L1 ++ [j]) x M2 (by simp [h2])
   refine ⟨o, ho, fun e hee hb => ?_⟩
   rcases hh e hee hb with hl | hm
   ·exact .inl (keep hl)
   ·simp only [List.mem_append, List.mem_singleton] at hm
    rcases hm with hm | rfl
    ·exact .inr hm
    ·exact .inl (by simp [hj])
  | cons y r =>
   simp only [List.cons_append, List.cons.injEq] at h2
   obtain ⟨rfl, rfl⟩ := h2
   subst h1
   obtain ⟨o, ho, hh⟩ := h M1 x (r ++ j :: L2) (by simp)
   exact ⟨o, ho, fun e hee hb => (hh e hee hb).imp keep id⟩
theorem nodup_mid {L1 L2 : List Nat} {j : Nat} (h : (L1 ++ j :: L2).Nodup) : j ∉ L1 ++ L2 ∧ (L1 ++ L2).Nodup := by
 rw [List.nodup_append] at h
 obtain ⟨h1, h2, h3⟩ := h
 rw [List.nodup_cons] at h2
 refine ⟨?_, ?_⟩
 ·rw [List.mem_append]
  rintro (hj | hj)
  ·exact h3 j hj j (by simp) rfl
  ·exact h2.1 hj
 ·rw [List.nodup_append]
  exact ⟨h1, h2.2, fun a ha b hb => h3 a ha b (by simp [hb])⟩
theorem unlisted_drop {listed : Array Bool} {j : Nat} {L1 L2 : List Nat} (hsz : j < listed.size) (hun : ∀ i, i < ops.size → (listed.getD i true = false ↔ i ∈ L1 ++ j :: L2)) (hnd : (L1 ++ j :: L2).Nodup) :
  ∀ i, i < ops.size → ((listed.setIfInBounds j true).getD i true = false ↔ i ∈ L1 ++ L2) := by
 intro i hi
 rw [getD_set hsz, Bool.or_eq_false_iff, decide_eq_false_iff_not, hun i hi]
 obtain ⟨h1, _⟩ := nodup_mid hnd
 simp only [List.mem_append, List.mem_cons] at h1 ⊢
 constructor
 ·rintro ⟨h2 | h2 | h2, h3⟩
  ·exact .inl h2
  ·exact absurd h2.symm h3
  ·exact .inr h2
 ·intro h2
  refine ⟨h2.elim .inl (fun h => .inr (.inr h)), fun e => ?_⟩
  subst e; exact h1 h2
theorem closed_set {listed : Array Bool} {j : Nat} {oj : Oper} (hsz : j < listed.size) (hoj : ops[j]? = some oj) (hdj : ∀ e ∈ oj.after, Region.binds .any e = true → listed.getD e.on false = true) (hcl : Closed ops listed) :
  Closed ops (listed.setIfInBounds j true) := fun x o ho hx e he hb => by
 rw [getD_set hsz, Bool.or_eq_true, decide_eq_true_eq] at hx
 rcases hx with hx | rfl
 ·exact getD_set_true (hcl x o ho hx e he hb)
 ·rw [hoj] at ho; obtain rfl := Option.some.inj ho; exact getD_set_true (hdj e he hb)
theorem tail_sound {Q : Exit → Act → World → Prop} : ∀ (fuel : Nat) (t : List Nat) (listed : Array Bool) (a : Act) (w : World),
  t.length ≤ fuel → listed.size = ops.size → (∀ i, i < ops.size → (listed.getD i true = false ↔ i ∈ t)) → (∀ i ∈ t, i < ops.size) → t.Nodup → Closed ops listed →
  okTab tab ops = true → TailOk tab [] t → DepsOk ops listed t → wpOps P ops Q t a w → wpAny P .any ops Q fuel listed a w := by
 intro fuel
 induction fuel with
 | zero =>
  intro t listed a w hf hsz hun hin hnd hcl htab htail hdeps h
  have ht : t = [] := List.eq_nil_of_length_eq_zero (by omega)
  subst ht
  refine ⟨?_, by simpa [wpOps] using h⟩
  rw [List.eq_nil_iff_forall_not_mem]
  intro j hj
  obtain ⟨h0, o, ho, _⟩ := mem_ready.1 hj
  have := (hun j (Array.getElem?_eq_some_iff.1 ho).1).1 h0
  simp at this
 | succ fuel ih =>
  intro t listed a w hf hsz hun hin hnd hcl htab htail hdeps h
  refine ⟨fun hr => ?_, fun j hj => ?_⟩
  ·cases t with
   | nil => simpa [wpOps] using h
   | cons x L =>
    exfalso
    obtain ⟨o, ho, hh⟩ := hdeps [] x L rfl
    have hx : x ∈ Region.ready .any ops listed := mem_ready.2 ⟨(hun x (hin x (by simp))).2 (by simp), o, ho, fun e he hb => (hh e he hb).resolve_right (by simp)⟩
    rw [hr] at hx; cases hx
  ·obtain ⟨h0, oj, hoj, hdj⟩ := mem_ready.1 hj
   have hjlt := (Array.getElem?_eq_some_iff.1 hoj).1
   have hjsz : j < listed.size := by omega
   obtain ⟨t1, t2, rfl⟩ := List.append_of_mem ((hun j hjlt).1 h0)
   have ht1 : t1 = [] := by
    rw [List.eq_nil_iff_forall_not_mem]
    intro i hi
    have h1 := anc_listed hsz hcl htab j i oj hoj hdj (htail t1 j t2 rfl i (by simp [hi]))
    have h2 := (hun i (hin i (by simp [hi]))).2 (by simp [hi])
    rw [getD_tf (by rw [hsz]; exact hin i (by simp [hi])), h1] at h2
    cases h2
   subst ht1
   rw [List.nil_append, wpOps_cons] at h
   refine wpOp_mono (fun a' w' hk => ?_) h
   have hnd' := nodup_mid hnd
   refine ih t2 _ a' w' (by simp at hf; omega) (by simp [hsz]) (by have := unlisted_drop (L1 := []) (L2 := t2) hjsz hun hnd; simpa using this) (fun i hi => hin i (by simp [hi])) (by simpa using hnd'.2)
    (closed_set hjsz hoj hdj hcl) htab (fun u1 x u2 he y hy => htail (j :: u1) x u2 (by simp [he]) y (by simp at hy ⊢; exact .inr hy)) (by have := depsOk_drop (L1 := []) (L2 := t2) hjsz hdeps; simpa using this) hk
def runM (P : Program) (ops : Array Oper) : List Nat → (Act → Prop) → Act → Prop
 | [], K, a => K a
 | i :: l, K, a => ∃ o v, ops[i]? = some o ∧ YieldsIf P ops (fun _ => True) o v a ∧ runM P ops l K (a.put o.dst v)
theorem runM_mono {K K' : Act → Prop} (h : ∀ a, K a → K' a) : ∀ {l : List Nat} {a : Act}, runM P ops l K a → runM P ops l K' a
 | [], _, hr => h _ hr
 | _ :: _, _, ⟨o, v, ho, hy, hr⟩ => ⟨o, v, ho, hy, runM_mono h hr⟩
theorem move_yields {S : World → Prop} {o : Oper} {v : Value} {a : Act} {w : World} {i : Nat} (ho : ops[i]? = some o) (hm : isMove ops i = true) (hs : S w) (h : YieldsIf P ops S o v a) : YieldsIf P ops (fun _ => True) o v a := by
 rcases h with ⟨hw, hv⟩ | h
 ·refine .inl ⟨hw, fun W _ => ?_⟩
  have h1 := hv w hs
  unfold isMove at hm
  rw [ho] at hm
  simp only at hm
  cases hop : o.op <;> simp [hop] at hm
  ·simp [execOp, hop] at h1 ⊢
   exact h1
  ·rename_i x ix
   have h2 : ∀ (u : Value) (n : Nat), (∃ y, Instr.extract u n = pure y) ∨ ∃ t, Instr.extract u n = stuck t := fun u n => by
    unfold Instr.extract
    split
    ·split
     ·exact .inl ⟨_, rfl⟩
     ·exact .inr ⟨_, rfl⟩
    ·exact .inr ⟨_, rfl⟩
   rcases h2 (a.eval x) ix with ⟨y, h3⟩ | ⟨t, h3⟩
   ·simp [execOp, hop, h3] at h1 ⊢
    exact h1
   ·simp [execOp, hop, h3] at h1
 ·exact .inr h
theorem runM_of_run {Q : Exit → Act → World → Prop} {t : List Nat} {w : World} : ∀ {l : List Nat} {N : Nat → Prop} {a : Act}, (∀ y ∈ l, isSil (kd y) = true ∧ isMove ops y = true) → run P ops X base kd l (K0 P ops X Q t) N a w → runM P ops l (fun a => wpOps P ops Q t a w) a := by
 intro l
 induction l with
 | nil => intro N a _ h; exact h w (StepX.refl _ w)
 | cons i l ih =>
  intro N a hl h
  obtain ⟨h1, h2⟩ := hl i (by simp)
  have h' : go P ops X base kd i (run P ops X base kd l (K0 P ops X Q t)) N a w := h
  unfold go at h'
  cases hk : kd i <;> simp [hk, isSil] at h1
  rw [hk] at h'
  obtain ⟨o, v, ho, hy, hr⟩ := h'
  exact ⟨o, v, ho, move_yields ho h2 (StepX.refl _ w) hy, ih (fun y hy => hl y (by simp [hy])) hr⟩
theorem bringM (hsel : Region.noSelect ops = true) {K : Act → Prop} {j : Nat} {oj : Oper} (hj : ops[j]? = some oj) : ∀ {l1 l2 : List Nat} {a : Act}, (∀ i ∈ l1, ∃ oi, ops[i]? = some oi ∧ oi.apart ops oj = true) → runM P ops (l1 ++ j :: l2) K a →
  ∃ v, YieldsIf P ops (fun _ => True) oj v a ∧ runM P ops (l1 ++ l2) K (a.put oj.dst v) := by
 intro l1
 induction l1 with
 | nil =>
  intro l2 a _ h
  obtain ⟨o, v, ho, hy, hr⟩ := h
  obtain rfl : oj = o := by rw [hj] at ho; exact Option.some.inj ho
  exact ⟨v, hy, hr⟩
 | cons i l1 ih =>
  intro l2 a hall h
  obtain ⟨oi', hi', hap⟩ := hall i (by simp)
  obtain ⟨oi, vi, hi, hyi, hr⟩ := h
  obtain rfl : oi' = oi := by rw [hi] at hi'; exact (Option.some.inj hi').symm
  obtain ⟨v, hyj, hr2⟩ := ih (fun k hk => hall k (by simp [hk])) hr
  obtain ⟨h1, h2, h3⟩ := Oper.apart_spec hap
  have hsi := (Region.noSelect_spec hsel i oi' · · hi)
  have hsj := (Region.noSelect_spec hsel j oj · · hj)
  refine ⟨v, hyj.of_same (execOp_put oj hsj a oi'.dst vi h1).symm (wanted_put oj a oi'.dst vi h1).symm, oi', vi, hi, hyi.of_same (execOp_put oi' hsi a oj.dst v h3) (wanted_put oi' a oj.dst v h3), ?_⟩
  rw [← Act.put_comm a vi v h2]
  exact hr2
theorem tailM (hsel : Region.noSelect ops = true) {Q : Exit → Act → World → Prop} (hQ : ∀ c d v a w, Q (.panic c) (Act.put a d v) w → Q (.panic c) a w) {j : Nat} {oj : Oper} (hj : ops[j]? = some oj) {K : Act → World → Prop} {w : World} : ∀ {l : List Nat} {a : Act},
  (∀ i ∈ l, ∃ oi, ops[i]? = some oi ∧ oi.apart ops oj = true) → runM P ops l (fun a => wpOp P ops Q j K a w) a → wpOp P ops Q j (fun a' w' => runM P ops l (fun a => K a w') a') a w := by
 intro l
 induction l with
 | nil => intro a _ h; exact h
 | cons i l ih =>
  intro a hall h
  obtain ⟨oi', hi', hap⟩ := hall i (by simp)
  obtain ⟨oi, vi, hi, hyi, hr⟩ := h
  obtain rfl : oi' = oi := by rw [hi] at hi'; exact (Option.some.inj hi').symm
  have h1 := ih (fun k hk => hall k (by simp [hk])) hr
  refine wpOp_mono (fun a' w' hh => ?_) (wpOp_putIf (S := fun _ => True) hj hap (Region.noSelect_spec hsel i oi' · · hi) (Region.noSelect_spec hsel j oj · · hj) (fun c a w => hQ c _ _ a w) hyi h1)
  exact ⟨oi', vi, hi, hh.1, hh.2⟩
theorem mixed_sound {Q : Exit → Act → World → Prop} (hsel : Region.noSelect ops = true) (hQ : ∀ c d v a w, Q (.panic c) (Act.put a d v) w → Q (.panic c) a w) : ∀ (fuel : Nat) (l t : List Nat) (listed : Array Bool) (a : Act) (w : World),
  l.length + t.length ≤ fuel → listed.size = ops.size → (∀ i, i < ops.size → (listed.getD i true = false ↔ i ∈ l ++ t)) → (∀ i ∈ l ++ t, i < ops.size) → (l ++ t).Nodup → Closed ops listed →
  okTab tab ops = true → okList tab ops kd l = true → (∀ y ∈ l, ∀ x ∈ t, ancB tab y x = true ∨ ∃ oy ox, ops[y]? = some oy ∧ ops[x]? = some ox ∧ oy.apart ops ox = true) → TailOk tab [] t → DepsOk ops listed (l ++ t) →
  runM P ops l (fun a => wpOps P ops Q t a w) a → wpAny P .any ops Q fuel listed a w := by
 intro fuel
 induction fuel with
 | zero =>
  intro l t listed a w hf hsz hun hin hnd hcl htab _ _ htail hdeps h
  have hl : l = [] := List.eq_nil_of_length_eq_zero (by omega)
  subst hl
  exact tail_sound 0 t listed a w (by simpa using hf) hsz hun hin hnd hcl htab htail hdeps h
 | succ fuel ih =>
  intro l t listed a w hf hsz hun hin hnd hcl htab hlist hwait htail hdeps h
  by_cases hl : l = []
  ·subst hl
   exact tail_sound _ t listed a w (by simpa using hf) hsz hun hin hnd hcl htab htail hdeps h
  refine ⟨fun hr => ?_, fun j hj => ?_⟩
  ·exfalso
   cases l with
   | nil => exact hl rfl
   | cons x L =>
    obtain ⟨o, ho, hh⟩ := hdeps [] x (L ++ t) (by simp)
    have hx : x ∈ Region.ready .any ops listed := mem_ready.2 ⟨(hun x (hin x (by simp))).2 (by simp), o, ho, fun e he hb => (hh e he hb).resolve_right (by simp)⟩
    rw [hr] at hx; cases hx
  ·obtain ⟨h0, oj, hoj, hdj⟩ := mem_ready.1 hj
   have hjlt := (Array.getElem?_eq_some_iff.1 hoj).1
   have hjsz : j < listed.size := by omega
   have hjm := (hun j hjlt).1 h0
   have hcl' := closed_set hjsz hoj hdj hcl
   have notanc : ∀ i ∈ l ++ t, ancB tab i j = true → False := fun i hi ha => by
    have h1 := anc_listed hsz hcl htab j i oj hoj hdj ha
    have h2 := (hun i (hin i hi)).2 hi
    rw [getD_tf (by rw [hsz]; exact hin i hi), h1] at h2
    cases h2
   rcases List.mem_append.1 hjm with hjl | hjt
   ·obtain ⟨l1, l2, rfl⟩ := List.append_of_mem hjl
    obtain ⟨hlist', hpair⟩ := okList_drop hlist
    have hall : ∀ i ∈ l1, ∃ oi, ops[i]? = some oi ∧ oi.apart ops oj = true := fun i hi => by
     have hp := hpair i hi
     simp only [okPair, Bool.or_eq_true] at hp
     rcases hp with hp | hp
     ·exact (notanc i (by simp [hi]) hp).elim
     ·cases hoi : ops[i]? with
      | none => simp [hoi] at hp
      | some oi =>
       simp only [hoi, hoj, Bool.and_eq_true] at hp
       exact ⟨oi, rfl, hp.1⟩
    obtain ⟨v, hy, hr⟩ := bringM hsel hoj hall h
    have he : (l1 ++ j :: l2) ++ t = l1 ++ j :: (l2 ++ t) := by simp
    refine hy.wpOp hoj trivial (ih (l1 ++ l2) t _ _ w (by simp at hf ⊢; omega) (by simp [hsz]) (by have := unlisted_drop (L1 := l1) (L2 := l2 ++ t) hjsz (by rw [← he]; exact hun) (by rw [← he]; exact hnd); simpa using this)
     (fun i hi => hin i (by simp only [List.mem_append, List.mem_cons] at hi ⊢; rcases hi with (hi | hi) | hi <;> simp [hi]))
     (by have := (nodup_mid (by rw [← he]; exact hnd)).2; simpa using this) hcl' htab hlist' (fun y hy x hx => hwait y (by simp only [List.mem_append, List.mem_cons] at hy ⊢; rcases hy with hy | hy <;> simp [hy]) x hx) htail
     (by have := depsOk_drop (L1 := l1) (L2 := l2 ++ t) hjsz (by rw [← he]; exact hdeps); simpa using this) hr)
   ·obtain ⟨t1, t2, rfl⟩ := List.append_of_mem hjt
    have ht1 : t1 = [] := by
     rw [List.eq_nil_iff_forall_not_mem]
     intro i hi
     exact notanc i (by simp [hi]) (htail t1 j t2 rfl i (by simp [hi]))
    subst ht1
    have hall : ∀ i ∈ l, ∃ oi, ops[i]? = some oi ∧ oi.apart ops oj = true := fun i hi => by
     rcases hwait i hi j (by simp) with h1 | ⟨oy, ox, h1, h2, h3⟩
     ·exact (notanc i (by simp [hi]) h1).elim
     ·obtain rfl : oj = ox := by rw [hoj] at h2; exact Option.some.inj h2
      exact ⟨oy, h1, h3⟩
    have h' : runM P ops l (fun a => wpOp P ops Q j (wpOps P ops Q t2) a w) a := runM_mono (fun a hh => by rw [List.nil_append, wpOps_cons] at hh; exact hh) h
    have he : l ++ ([] ++ j :: t2) = l ++ j :: t2 := by simp
    refine wpOp_mono (fun a' w' hk => ?_) (tailM hsel hQ hoj hall h')
    exact ih l t2 _ a' w' (by simp at hf; omega) (by simp [hsz]) (by have := unlisted_drop (L1 := l) (L2 := t2) hjsz (by rw [← he]; exact hun) (by rw [← he]; exact hnd); simpa using this)
     (fun i hi => hin i (by simp only [List.mem_append, List.nil_append, List.mem_cons] at hi ⊢; rcases hi with hi | hi <;> simp [hi])) (by have := (nodup_mid (by rw [← he]; exact hnd)).2; simpa using this) hcl' htab hlist
     (fun y hy x hx => hwait y hy x (by simp [hx])) (fun u1 x u2 hu y hy => htail (j :: u1) x u2 (by simp [hu]) y (by simp at hy ⊢; exact .inr hy)) (by have := depsOk_drop (L1 := l) (L2 := t2) hjsz (by rw [← he]; exact hdeps); simpa using this) hk
theorem seq_sound (hX : ∀ j, X j → j < base) {Q : Exit → Act → World → Prop} (hsel : Region.noSelect ops = true) {strict : Bool} (hQ : strict = true ∨ ∀ c d v a w, Q (.panic c) (Act.put a d v) w → Q (.panic c) a w) : ∀ (fuel : Nat) (l t : List Nat) (listed : Array Bool) (N : Nat → Prop) (a : Act) (w : World),
  l.length + t.length ≤ fuel → listed.size = ops.size → (∀ i, i < ops.size → (listed.getD i true = false ↔ i ∈ l ++ t)) → (∀ i ∈ l ++ t, i < ops.size) → (l ++ t).Nodup → Closed ops listed →
  okTab tab ops = true → okList tab ops kd l = true → (∀ y ∈ l, ∀ x ∈ t, okWait strict tab ops kd y x = true) → TailOk tab [] t → DepsOk ops listed (l ++ t) → okAlloc ops kd l = true → (∀ i T z, i ∈ l → kd i = .alloc T z → Makes P ops i T z) →
  (∀ g, w.heap.size ≤ g → N g) → base ≤ w.heap.size → run P ops X base kd l (K0 P ops X Q t) N a w → wpAny P .any ops Q fuel listed a w := by
 intro fuel
 induction fuel with
 | zero =>
  intro l t listed N a w hf hsz hun hin hnd hcl htab _ _ htail hdeps _ _ _ _ h
  have hl : l = [] := List.eq_nil_of_length_eq_zero (by omega)
  subst hl
  exact tail_sound 0 t listed a w (by simpa using hf) hsz hun hin hnd hcl htab htail hdeps (h w (StepX.refl _ w))
 | succ fuel ih =>
  intro l t listed N a w hf hsz hun hin hnd hcl htab hlist hwait htail hdeps halloc hz hN hbase h
  by_cases hl : l = []
  ·subst hl
   exact tail_sound _ t listed a w (by simpa using hf) hsz hun hin hnd hcl htab htail hdeps (h w (StepX.refl _ w))
  refine ⟨fun hr => ?_, fun j hj => ?_⟩
  ·-- nothing may come up: but something is left
   exfalso
   cases l with
   | nil => exact hl rfl
   | cons x L =>
    obtain ⟨o, ho, hh⟩ := hdeps [] x (L ++ t) (by simp)
    have hx : x ∈ Region.ready .any ops listed := mem_ready.2 ⟨(hun x (hin x (by simp))).2 (by simp), o, ho, fun e he hb => (hh e he hb).resolve_right (by simp)⟩
    rw [hr] at hx; cases hx
  ·obtain ⟨h0, oj, hoj, hdj⟩ := mem_ready.1 hj
   have hjlt := (Array.getElem?_eq_some_iff.1 hoj).1
   have hjsz : j < listed.size := by omega
   have hjm := (hun j hjlt).1 h0
   have hcl' := closed_set hjsz hoj hdj hcl
   have notanc : ∀ i ∈ l ++ t, ancB tab i j = true → False := fun i hi ha => by
    have h1 := anc_listed hsz hcl htab j i oj hoj hdj ha
    have h2 := (hun i (hin i hi)).2 hi
    rw [getD_tf (by rw [hsz]; exact hin i hi), h1] at h2
    cases h2
   rcases List.mem_append.1 hjm with hjl | hjt
   ·-- one of the first part
    obtain ⟨l1, l2, rfl⟩ := List.append_of_mem hjl
    obtain ⟨hlist', hpair⟩ := okList_drop hlist
    have hall : ∀ i ∈ l1, ∃ oi, ops[i]? = some oi ∧ oi.apart ops oj = true ∧ swaps (kd i) (kd j) = true := fun i hi => by
     have hp := hpair i hi
     simp only [okPair, Bool.or_eq_true] at hp
     rcases hp with hp | hp
     ·exact (notanc i (by simp [hi]) hp).elim
     ·cases hoi : ops[i]? with
      | none => simp [hoi] at hp
      | some oi =>
       simp only [hoi, hoj, Bool.and_eq_true] at hp
       exact ⟨oi, rfl, hp.1, hp.2⟩
    have hb := bring hX (K0_mono t) hsel hoj l1 l2 N a w hall h
    have he : (l1 ++ j :: l2) ++ t = l1 ++ j :: (l2 ++ t) := by simp
    have next : ∀ (N' : Nat → Prop) (a' : Act) (w' : World), (∀ g, w'.heap.size ≤ g → N' g) → w.heap.size ≤ w'.heap.size → run P ops X base kd (l1 ++ l2) (K0 P ops X Q t) N' a' w' → wpAny P .any ops Q fuel (listed.setIfInBounds j true) a' w' :=
     fun N' a' w' hN' hsz' hr => ih (l1 ++ l2) t _ N' a' w' (by simp at hf ⊢; omega) (by simp [hsz]) (by have := unlisted_drop (L1 := l1) (L2 := l2 ++ t) hjsz (by rw [← he]; exact hun) (by rw [← he]; exact hnd); simpa using this)
      (fun i hi => hin i (by simp only [List.mem_append, List.mem_cons] at hi ⊢; rcases hi with (hi | hi) | hi <;> simp [hi]))
      (by have := (nodup_mid (by rw [← he]; exact hnd)).2; simpa using this) hcl' htab hlist' (fun y hy x hx => hwait y (by simp only [List.mem_append, List.mem_cons] at hy ⊢; rcases hy with hy | hy <;> simp [hy]) x hx) htail
      (by have := depsOk_drop (L1 := l1) (L2 := l2 ++ t) hjsz (by rw [← he]; exact hdeps); simpa using this)
      (by simp only [okAlloc, List.all_eq_true, List.mem_append, List.mem_cons] at halloc ⊢; exact fun x hx => halloc x (hx.elim .inl (fun h => .inr (.inr h))))
      (fun i T z hi => hz i T z (by simp only [List.mem_append, List.mem_cons] at hi ⊢; rcases hi with hi | hi <;> simp [hi])) hN' (by omega) hr
    cases hk : kd j with
    | silent =>
     simp only [go, hk] at hb
     obtain ⟨o, v, ho, hy, hr⟩ := hb
     exact hy.wpOp ho (StepX.refl _ w) (next N _ w hN (Nat.le_refl _) hr)
    | chain =>
     simp only [go, hk] at hb
     exact wpOp_any (wpOp_mono (fun a' w' ⟨hs, hr⟩ => next _ a' w' (fun g hg => ⟨hN g (Nat.le_trans hs.size hg), .inr hg⟩) hs.size hr) (hb w (StepX.refl _ w)))
    | alloc T z =>
     simp only [go, hk] at hb
     have hal := halloc
     simp only [okAlloc, List.all_eq_true] at hal
     have hal := hal j (by simp)
     simp only [hk, hoj, Bool.and_eq_true] at hal
     obtain ⟨hg, hop⟩ := hal
     refine wpOp_alloc hoj hop (by simpa using hg) (hz j T z (by simp) hk) ?_
     have hd : (ops[j]?).bind (·.dst) = oj.dst := by rw [hoj]; rfl
     rw [hd] at hb
     exact next _ _ _ (fun g hgg => ⟨hN g (by simp at hgg; omega), by simp at hgg; omega⟩) (by simp) (hb (w.alloc (.cells (madeC z) T)) w.heap.size (.of (Step.alloc _ _)) (heap_alloc_new w _) hbase (hN _ (Nat.le_refl _)))
   ·-- the tail waits, but for moves
    have hw1 : ∀ y ∈ l, ancB tab y j = true ∨ (strict = false ∧ isSil (kd y) = true ∧ isMove ops y = true ∧ ∃ oy, ops[y]? = some oy ∧ oy.apart ops oj = true) := fun y hy => by
     have := hwait y hy j hjt
     simp only [okWait, Bool.or_eq_true, Bool.and_eq_true, Bool.not_eq_true'] at this
     rcases this with h1 | ⟨⟨⟨h1, h2⟩, h3⟩, h4⟩
     ·exact .inl h1
     ·cases hoy : ops[y]? with
      | none => simp [hoy] at h4
      | some oy => simp only [hoy, hoj] at h4; exact .inr ⟨h1, h2, h3, oy, rfl, h4⟩
    have hw2 : ∀ y ∈ l, strict = false ∧ isSil (kd y) = true ∧ isMove ops y = true := fun y hy => by
     rcases hw1 y hy with h1 | ⟨h1, h2, h3, _⟩
     ·exact (notanc y (by simp [hy]) h1).elim
     ·exact ⟨h1, h2, h3⟩
    have hst : strict = false := by
     cases l with
     | nil => exact (hl rfl).elim
     | cons x L => exact (hw2 x (by simp)).1
    have hQ' := hQ.resolve_left (by rw [hst]; decide)
    have hm := mixed_sound hsel hQ' (fuel + 1) l t listed a w hf hsz hun hin hnd hcl htab hlist (fun y hy x hx => by
     have := hwait y hy x hx
     simp only [okWait, Bool.or_eq_true, Bool.and_eq_true, Bool.not_eq_true'] at this
     rcases this with h1 | ⟨_, h4⟩
     ·exact .inl h1
     ·cases hoy : ops[y]? with
      | none => simp [hoy] at h4
      | some oy =>
       cases hox : ops[x]? with
       | none => simp [hoy, hox] at h4
       | some ox => simp only [hoy, hox] at h4; exact .inr ⟨oy, ox, rfl, rfl, h4⟩) htail hdeps (runM_of_run (fun y hy => (hw2 y hy).2) h)
    exact hm.2 j hj
theorem wp_region_seqG {id : Nat} {Q : Exit → Act → World → Prop} {a : Act} {w : World} (X : Nat → Prop) (hX : ∀ j, X j → j < w.heap.size) (kd : Nat → Kd) (strict : Bool) (hQ : strict = true ∨ ∀ c d v a w, Q (.panic c) (Act.put a d v) w → Q (.panic c) a w) (tab l t : List Nat) (hm : P.follows .mixedOrders = true) (hok : okSeq strict tab ops kd l t = true)
  (hz : ∀ i T z, i ∈ l → kd i = .alloc T z → Makes P ops i T z)
  (h : ∀ W, StepX X w W → run P ops X w.heap.size kd l (K0 P ops X Q t) (fun _ => True) a W) : (Code.region id ops true).wp P Q a w := by
 simp only [okSeq, Bool.and_eq_true, List.all_eq_true, decide_eq_true_eq, List.mem_range, List.contains_iff_mem] at hok
 obtain ⟨⟨⟨⟨⟨⟨⟨⟨⟨h0, h1⟩, h9⟩, h2⟩, h3⟩, h4⟩, h5⟩, h6⟩, h7⟩, h8⟩ := hok
 refine wp_region_any hm ?_
 refine seq_sound (base := w.heap.size) (kd := kd) hX h5 hQ ops.size l t _ (fun _ => True) a w.drew ?_ (by simp) ?_ h7 h8 ?_ h0 h1 h9 (tailOk_of h2) ?_ h4 hz (fun _ _ => trivial) (by simp) (h w.drew (.of (Step.drew w)))
 ·-- no more than the region has
  have hsub : (l ++ t).length ≤ (List.range ops.size).length := h8.length_le_of_subset (fun i hi => List.mem_range.2 (h7 i hi))
  simpa using hsub
 ·intro i hi
  simp only [Array.getD_eq_getD_getElem?, Array.getElem?_replicate, hi, if_true, Option.getD_some, true_iff]
  exact h6 i hi
 ·intro x o ho hx
  have hlt := (Array.getElem?_eq_some_iff.1 ho).1
  simp [hlt] at hx
 ·intro L1 x L2 he
  obtain ⟨o, ho, hh⟩ := depsOk_of (listed := Array.replicate ops.size false) h3 L1 x L2 he
  exact ⟨o, ho, by simpa using hh⟩
theorem wp_region_seqX {id : Nat} {Q : Exit → Act → World → Prop} {a : Act} {w : World} (X : Nat → Prop) (hX : ∀ j, X j → j < w.heap.size) (kd : Nat → Kd) (tab l t : List Nat) (hm : P.follows .mixedOrders = true) (hok : okSeq true tab ops kd l t = true)
  (hz : ∀ i T z, i ∈ l → kd i = .alloc T z → Makes P ops i T z)
  (h : ∀ W, StepX X w W → run P ops X w.heap.size kd l (K0 P ops X Q t) (fun _ => True) a W) : (Code.region id ops true).wp P Q a w :=
 wp_region_seqG X hX kd true (.inl rfl) tab l t hm hok hz h
theorem wp_region_seq {id : Nat} {Q : Exit → Act → World → Prop} {a : Act} {w : World} (kd : Nat → Kd) (tab l t : List Nat) (hm : P.follows .mixedOrders = true) (hok : okSeq true tab ops kd l t = true)
  (hz : ∀ i T z, i ∈ l → kd i = .alloc T z → Makes P ops i T z)
  (h : ∀ W, Step w W → run P ops (fun _ => False) w.heap.size kd l (K0 P ops (fun _ => False) Q t) (fun _ => True) a W) : (Code.region id ops true).wp P Q a w :=
 wp_region_seqX (fun _ => False) (fun _ h => h.elim) kd tab l t hm hok hz h
theorem wp_region_seqM {id : Nat} {Q : Exit → Act → World → Prop} {a : Act} {w : World} (hQ : ∀ c d v a w, Q (.panic c) (Act.put a d v) w → Q (.panic c) a w) (kd : Nat → Kd) (tab l t : List Nat) (hm : P.follows .mixedOrders = true) (hok : okSeq false tab ops kd l t = true)
  (hz : ∀ i T z, i ∈ l → kd i = .alloc T z → Makes P ops i T z)
  (h : ∀ W, Step w W → run P ops (fun _ => False) w.heap.size kd l (K0 P ops (fun _ => False) Q t) (fun _ => True) a W) : (Code.region id ops true).wp P Q a w :=
 wp_region_seqG (fun _ => False) (fun _ h => h.elim) kd false (.inr hQ) tab l t hm hok hz h
def kdOf (calls : List Nat) (allocs : List (Nat × TypeId × Value)) (i : Nat) : Kd :=
 if calls.contains i then .chain else match allocs.find? (fun x => x.1 == i) with
  | some (_, T, z) => .alloc T z
  | none => .silent
section
variable {K : Cont} {N : Nat → Prop} {a : Act} {w : World} {i : Nat} {l : List Nat} {o : Oper}
theorem run_silent {v : Value} (hk : kd i = .silent) (ho : ops.toList[i]? = some o) (hy : YieldsIf P ops (StepX X w) o v a) (h : run P ops X base kd l K N (a.put o.dst v) w) : run P ops X base kd (i :: l) K N a w := by
 show go P ops X base kd i _ N a w
 unfold go; rw [hk]; exact ⟨o, v, by simpa using ho, hy, h⟩
theorem run_want (hk : kd i = .silent) (ho : ops.toList[i]? = some o) (hw : Region.wanted o (yielded ops a.tmps) = true) (h : ∃ v, (∀ W, StepX X w W → (execOp a.eval o).run P W = .ok (.value v) W) ∧ run P ops X base kd l K N (a.put o.dst v) w) :
  run P ops X base kd (i :: l) K N a w := by
 obtain ⟨v, h1, h2⟩ := h
 exact run_silent hk ho (.inl ⟨hw, h1⟩) h2
theorem run_off (hk : kd i = .silent) (ho : ops.toList[i]? = some o) (hw : Region.wanted o (yielded ops a.tmps) = false) (h : run P ops X base kd l K N (a.put o.dst undef) w) : run P ops X base kd (i :: l) K N a w :=
 run_silent hk ho (.inr ⟨hw, rfl⟩) h
theorem run_chain (hk : kd i = .chain) (ho : ops.toList[i]? = some o) (hw : Region.wanted o (yielded ops a.tmps) = true)
  (h : ∀ W, StepX X w W → ∀ K' : Act → World → Prop, (∀ a' w', StepX X W w' → run P ops X base kd l K (fun g => N g ∧ (g < W.heap.size ∨ w'.heap.size ≤ g)) a' w' → K' a' w') → o.wp P a W K' QF) : run P ops X base kd (i :: l) K N a w := by
 show go P ops X base kd i _ N a w
 have ho : ops[i]? = some o := by simpa using ho
 unfold go; rw [hk]
 intro W hW
 unfold wpOp; simp only [ho, hw, if_true]
 exact .inl (h W hW _ (fun a' w' hs hr => ⟨hs, hr⟩))
theorem run_chain_off (hk : kd i = .chain) (ho : ops.toList[i]? = some o) (hw : Region.wanted o (yielded ops a.tmps) = false) (hK : ContMono X K)
  (h : run P ops X base kd l K N (a.put o.dst undef) w) : run P ops X base kd (i :: l) K N a w := by
 show go P ops X base kd i _ N a w
 have ho : ops[i]? = some o := by simpa using ho
 unfold go; rw [hk]
 intro W hW
 unfold wpOp; simp only [ho, hw]
 exact ⟨StepX.refl _ _, run_mono hK l _ _ _ _ _ (fun g hg => hg.1) hW h⟩
theorem run_alloc {T : TypeId} {z : Value} (hk : kd i = .alloc T z) (ho : ops.toList[i]? = some o)
  (h : ∀ W g, StepX X w W → W.heap[g]? = some (.cells z.cells T (0, 0)) → base ≤ g → N g → run P ops X base kd l K (fun x => N x ∧ x ≠ g) (a.put o.dst (.pointer (some ⟨g, 0, none⟩))) W)
  (hv : ∀ g, madeV z g = .pointer (some ⟨g, 0, none⟩) := by exact fun _ => rfl) (hc : madeC z = z.cells := by exact rfl) : run P ops X base kd (i :: l) K N a w := by
 show go P ops X base kd i _ N a w
 have ho : ops[i]? = some o := by simpa using ho
 unfold go; rw [hk, ho]
 intro W g h1 h2 h3 h4
 rw [hc] at h2
 rw [hv]
 exact h W g h1 h2 h3 h4
theorem run_end {Q : Exit → Act → World → Prop} {t : List Nat} {L : List Oper} (ht : t.map (fun i => ops.toList[i]?) = L.map some) (h : ∀ W, StepX X w W → wpList P ops Q L a W) : run P ops X base kd [] (K0 P ops X Q t) N a w := by
 intro W hW
 have h' := h W hW
 clear h hW
 show wpOps P ops Q t a W
 induction t generalizing L a W with
 | nil =>
  cases L with
  | nil => exact h'
  | cons _ _ => simp at ht
 | cons x t ih =>
  cases L with
  | nil => simp at ht
  | cons o L =>
   simp only [List.map_cons, List.cons.injEq, Array.getElem?_toList] at ht
   rw [wpOps_cons]
   unfold wpOp
   unfold wpList at h'
   simp only [ht.1]
   split
   ·rename_i hw
    rw [if_pos hw] at h'
    exact h'.imp (Oper.wp_mono fun a' w' hh => ih (by simpa using ht.2) w' hh) id
   ·rename_i hw
    rw [if_neg hw] at h'
    exact ih (by simpa using ht.2) W h'
end
end
end Go.BT
namespace Go.Proofs.Ytfhmdpicoccnfaa
set_option linter.unusedSimpArgs false
set_option linter.unusedVariables false
open Go.RowKit Go.BT
def idxOf {α : Type} (p : α → Bool) (l : List α) : Int := match l.findIdx? p with | some i => (i : Int) | none => -1
theorem idxOf_at {α : Type} {p : α → Bool} {l : List α} {k : Nat} (hk : k < l.length) (h : ∀ j (hj : j < k), p (l[j]'(by omega)) = false) (hp : p l[k] = true) : idxOf p l = k := by
 have : l.findIdx? p = some k := by
  rw [List.findIdx?_eq_some_iff_getElem]
  exact ⟨hk, hp, fun j hj => by simpa using h j hj⟩
 simp [idxOf, this]
theorem idxOf_none {α : Type} {p : α → Bool} {l : List α} (h : ∀ j (hj : j < l.length), p l[j] = false) : idxOf p l = -1 := by
 have : l.findIdx? p = none := by
  rw [List.findIdx?_eq_none_iff]
  intro x hx
  obtain ⟨j, hj, rfl⟩ := List.getElem_of_mem hx
  exact h j hj
 simp [idxOf, this]
theorem idxOf_ge {α : Type} (p : α → Bool) (l : List α) : decide (0 ≤ idxOf p l) = l.any p := by
 unfold idxOf
 cases h : l.findIdx? p with
 | none =>
  rw [List.findIdx?_eq_none_iff] at h
  simp only [Int.reduceNeg, Int.reduceLE, decide_false]
  symm; rw [List.any_eq_false]; intro x hx; simpa using h x hx
 | some i =>
  rw [List.findIdx?_eq_some_iff_getElem] at h
  obtain ⟨hi, hp, _⟩ := h
  simp only [Int.natCast_nonneg, decide_true]
  symm; rw [List.any_eq_true]; exact ⟨_, List.getElem_mem hi, hp⟩
def PredJ (g : FuncId) (cap : Array Value) {α : Type} (V : World → Value → α → Prop) (p : α → Bool) (l : List α) (J : Nat → World → Prop) : Prop :=
 ∀ i (h : i < l.length) W u, J i W → (∀ j (hj : j < i), p (l[j]'(by omega)) = false) → V W u l[i] → Calls Try.prog g (#[u] ++ cap) W fun e W' => e = .returned (.bool (p l[i])) ∧ J (i + 1) W'
def PredA (g : FuncId) (cap : Array Value) {α : Type} (V : World → Value → α → Prop) (p : α → Bool) (l : List α) (J : Nat → World → Prop) (X : Nat → Prop) : Prop :=
 ∀ i (h : i < l.length) W u, J i W → (∀ j (hj : j < i), p (l[j]'(by omega)) = true) → V W u l[i] → Calls Try.prog g (#[u] ++ cap) W fun e W' => e = .returned (.bool (p l[i])) ∧ J (i + 1) W' ∧ StepX X W W'
theorem indexFunc_vec (S : Nat → Prop) (l : List Vec) (v : Value) (w : World) (g : FuncId) (cap : Array Value) (eg : ∀ args w, (callFunc g args).run Try.prog w = .ok (.enter g args) w) (p : Vec → Bool) (J : Nat → World → Prop) (hJ : ∀ i W, J i W → SL S W v l) (hw : J 0 w)
  (hp : PredJ g cap (fun _ u x => u = .agg #[.int .i64 x.x, .int .i64 x.y]) p l J) :
  Calls Try.prog 120 #[v, .func (.func g) #[] cap] w fun e w' => e = .returned (.int .i64 (idxOf p l)) ∧ ∃ k, k ≤ l.length ∧ (idxOf p l = -1 → k = l.length) ∧ J k w' := by
 obtain ⟨pv, cv, rfl⟩ := (hJ 0 w hw).form
 have hm := (hJ 0 w hw).len
 have Hp := zH hp
 have HJ := zH hJ
 clear hp hJ
 go_enter Try.func120, Try.ntmps120
 go_wp2
 go_loopw [8] (fun i wr => ∃ k : Nat, k ≤ l.length ∧ i = .int .i64 k ∧ (∀ j (hj : j < k) (hl : j < l.length), p l[j] = false) ∧ J k wr) (fun i _ => l.length - (intOf i).toNat)
 case atStart => exact ⟨0, Nat.zero_le _, rfl, fun j hj => absurd hj (by omega), hw⟩
 case round =>
  obtain ⟨k, hk, rfl, hno, hJk⟩ := hrel
  have HN := zH hno
  clear hno
  by_cases hlt : k < l.length
  ·obtain ⟨p', c', b, o, he, _, _, hpp, hc, _⟩ := (HJ.out k wr hJk).vecs
   injection he with he1 he2 he3
   subst he1 he3
   obtain rfl := hpp (by omega)
   obtain ⟨e1, e2⟩ := hc k hlt
   clear hc hpp he2
   have hcall := zH (Hp.out k hlt wr (.agg #[.int .i64 l[k].x, .int .i64 l[k].y]) hJk (fun j hj => HN.out j hj (by omega)) rfl)
   cases hq : p l[k] with
   | true =>
    have hq := zH hq
    go_wp2_with fail
    refine hcall.out.mono ?_
    rintro e w' ⟨rfl, hJ'⟩
    rw [hq.out]
    go_wp2
    have hi := idxOf_at hlt (fun j hj => HN.out j hj (by omega)) hq.out
    go_ret
    rw [hi]
    exact ⟨rfl, k + 1, by omega, fun h => by omega, hJ'⟩
   | false =>
    have hq := zH hq
    go_wp2_with fail
    refine hcall.out.mono ?_
    rintro e w' ⟨rfl, hJ'⟩
    rw [hq.out]
    go_wp2
    go_roundw
    case rel => exact ⟨k + 1, by omega, by go_num, fun j hj hl => if h : j = k then by subst h; exact hq.out else HN.out j (by omega) hl, hJ'⟩
    case measure => simp [intOf]; omega
  ·go_wp2
   have hi := idxOf_none (fun j hj => HN.out j (by omega) hj)
   go_ret
   rw [hi]
   exact ⟨rfl, k, hk, fun _ => by omega, hJk⟩
theorem containsFunc_vec (S : Nat → Prop) (l : List Vec) (v : Value) (w : World) (g : FuncId) (cap : Array Value) (eg : ∀ args w, (callFunc g args).run Try.prog w = .ok (.enter g args) w) (p : Vec → Bool) (J : Nat → World → Prop) (hJ : ∀ i W, J i W → SL S W v l) (hw : J 0 w)
  (hp : PredJ g cap (fun _ u x => u = .agg #[.int .i64 x.x, .int .i64 x.y]) p l J) :
  Calls Try.prog 112 #[v, .func (.func g) #[] cap] w fun e w' => e = .returned (.bool (l.any p)) ∧ ∃ k, k ≤ l.length ∧ (l.any p = false → k = l.length) ∧ J k w' := by
 have hc := indexFunc_vec S l v w g cap eg p J hJ hw hp
 have HC := zH hc
 clear hc hp hJ eg
 go_enter Try.func112, Try.ntmps112
 go_wp2_with fail
 refine HC.out.mono ?_
 rintro e w' ⟨rfl, hk⟩
 have HK := zH hk
 clear hk
 go_wp2
 have hge := idxOf_ge p l
 go_ret
 obtain ⟨k, h1, h2, h3⟩ := HK.out
 refine ⟨by rw [← hge]; rfl, k, h1, fun h => h2 ?_, h3⟩
 rw [← hge, decide_eq_false_iff_not] at h
 unfold idxOf at h ⊢
 split <;> rename_i hh <;> simp [hh] at h ⊢
theorem infoInt : (Try.prog.info? 3).map (fun i => (i.zero, i.size, i.bytes)) = some (some (.int .i64 0), 1, 8) := by kernel_rfl
def intsB (a b : List Int) : Bool := decide (a = b)
theorem ints_hit {a b : List Int} {k : Nat} (ha : k < a.length) (hb : k < b.length) (ht : a.take k = b.take k) (h : a[k] = b[k]) : a.take (k + 1) = b.take (k + 1) := by
 rw [List.take_succ_eq_append_getElem ha, List.take_succ_eq_append_getElem hb, ht, h]
theorem ints_miss {a b : List Int} {k : Nat} (ha : k < a.length) (hb : k < b.length) (h : a[k] ≠ b[k]) : intsB a b = false := by
 have : a ≠ b := fun e => h (by subst e; rfl)
 simp [intsB, this]
theorem ints_end {a b : List Int} {k : Nat} (hl : a.length = b.length) (hk : a.length ≤ k) (ht : a.take k = b.take k) : intsB a b = true := by
 rw [List.take_of_length_le hk, List.take_of_length_le (by omega)] at ht
 simp [intsB, ht]
theorem eiInts : EI Try.prog 26 3 (.int .i64 0) 1 8 := .mk' Try.underlying26 infoInt rfl
theorem bigtopref01.In_any (n lo hi : Int) (w : World) : Calls Try.prog 31 #[.int .i64 n, .int .i64 lo, .int .i64 hi] w fun e w' => e = .returned (.bool (withinB n lo hi)) ∧ w = w' := by
 by_cases h1 : lo ≤ n
 ·go_enter Try.func31, Try.ntmps31
  go_wp2
  go_ret
  exact ⟨by simp [withinB, h1], rfl⟩
 ·have hd : decide (lo ≤ n) = false := by simpa using h1
  go_enter Try.func31, Try.ntmps31
  go_wp2
  go_ret
  exact ⟨by simp [withinB]; omega, rfl⟩
def veq (a b c d : Int) : Bool := a == c && b == d
theorem indexFunc_wy (S : Nat → Prop) (l : List Wy) (v : Value) (w : World) (g : FuncId) (cap : Array Value) (eg : ∀ args w, (callFunc g args).run Try.prog w = .ok (.enter g args) w) (p : Wy → Bool) (J : Nat → World → Prop) (hJ : ∀ i W, J i W → SL S W v l) (hw : J 0 w)
  (hp : PredJ g cap (fun _ u x => u = .agg #[.int .i64 x.frm, .int .i64 x.dst, .int .i64 x.cap, .int .i64 x.mins]) p l J) :
  Calls Try.prog 122 #[v, .func (.func g) #[] cap] w fun e w' => e = .returned (.int .i64 (idxOf p l)) ∧ ∃ k, k ≤ l.length ∧ (idxOf p l = -1 → k = l.length) ∧ J k w' := by
 obtain ⟨pv, cv, rfl⟩ := (hJ 0 w hw).form
 have hm := (hJ 0 w hw).len
 have Hp := zH hp
 have HJ := zH hJ
 clear hp hJ
 go_enter Try.func122, Try.ntmps122
 go_wp2
 go_loopw [8] (fun i wr => ∃ k : Nat, k ≤ l.length ∧ i = .int .i64 k ∧ (∀ j (hj : j < k) (hl : j < l.length), p l[j] = false) ∧ J k wr) (fun i _ => l.length - (intOf i).toNat)
 case atStart => exact ⟨0, Nat.zero_le _, rfl, fun j hj => absurd hj (by omega), hw⟩
 case round =>
  obtain ⟨k, hk, rfl, hno, hJk⟩ := hrel
  have HN := zH hno
  clear hno
  by_cases hlt : k < l.length
  ·obtain ⟨p', c', b, o, he, _, _, hpp, hc, _⟩ := (HJ.out k wr hJk).wys
   injection he with he1 he2 he3
   subst he1 he3
   obtain rfl := hpp (by omega)
   obtain ⟨e1, e2, e3, e4⟩ := hc k hlt
   clear hc hpp he2
   have hcall := zH (Hp.out k hlt wr (.agg #[.int .i64 l[k].frm, .int .i64 l[k].dst, .int .i64 l[k].cap, .int .i64 l[k].mins]) hJk (fun j hj => HN.out j hj (by omega)) rfl)
   cases hq : p l[k] with
   | true =>
    have hq := zH hq
    go_wp2_with fail
    refine hcall.out.mono ?_
    rintro e w' ⟨rfl, hJ'⟩
    rw [hq.out]
    go_wp2
    have hi := idxOf_at hlt (fun j hj => HN.out j hj (by omega)) hq.out
    go_ret
    rw [hi]
    exact ⟨rfl, k + 1, by omega, fun h => by omega, hJ'⟩
   | false =>
    have hq := zH hq
    go_wp2_with fail
    refine hcall.out.mono ?_
    rintro e w' ⟨rfl, hJ'⟩
    rw [hq.out]
    go_wp2
    go_roundw
    case rel => exact ⟨k + 1, by omega, by go_num, fun j hj hl => if h : j = k then by subst h; exact hq.out else HN.out j (by omega) hl, hJ'⟩
    case measure => simp [intOf]; omega
  ·go_wp2
   have hi := idxOf_none (fun j hj => HN.out j (by omega) hj)
   go_ret
   rw [hi]
   exact ⟨rfl, k, hk, fun _ => by omega, hJk⟩
theorem containsFunc_wy (S : Nat → Prop) (l : List Wy) (v : Value) (w : World) (g : FuncId) (cap : Array Value) (eg : ∀ args w, (callFunc g args).run Try.prog w = .ok (.enter g args) w) (p : Wy → Bool) (J : Nat → World → Prop) (hJ : ∀ i W, J i W → SL S W v l) (hw : J 0 w)
  (hp : PredJ g cap (fun _ u x => u = .agg #[.int .i64 x.frm, .int .i64 x.dst, .int .i64 x.cap, .int .i64 x.mins]) p l J) :
  Calls Try.prog 115 #[v, .func (.func g) #[] cap] w fun e w' => e = .returned (.bool (l.any p)) ∧ ∃ k, k ≤ l.length ∧ (l.any p = false → k = l.length) ∧ J k w' := by
 have hc := indexFunc_wy S l v w g cap eg p J hJ hw hp
 have HC := zH hc
 clear hc hp hJ eg
 go_enter Try.func115, Try.ntmps115
 go_wp2_with fail
 refine HC.out.mono ?_
 rintro e w' ⟨rfl, hk⟩
 have HK := zH hk
 clear hk
 go_wp2
 have hge := idxOf_ge p l
 go_ret
 obtain ⟨k, h1, h2, h3⟩ := HK.out
 refine ⟨by rw [← hge]; rfl, k, h1, fun h => h2 ?_, h3⟩
 rw [← hge, decide_eq_false_iff_not] at h
 unfold idxOf at h ⊢
 split <;> rename_i hh <;> simp [hh] at h ⊢
theorem allNot_wy (l : List Wy) (g : FuncId) (cap : Array Value) (eg : ∀ args w, (callFunc g args).run Try.prog w = .ok (.enter g args) w) (p : Wy → Bool) (J : Nat → World → Prop) (X : Nat → Prop) (b : Nat) (hX : ¬ X b)
  (hJs : ∀ i W W', J i W → Step W W' → J i W') (hp : PredA g cap (fun _ u x => u = .agg #[.int .i64 x.frm, .int .i64 x.dst, .int .i64 x.cap, .int .i64 x.mins]) p l J X) :
  PredJ 116 #[.pointer (some ⟨b, 0, none⟩)] (fun _ u x => u = .agg #[.int .i64 x.frm, .int .i64 x.dst, .int .i64 x.cap, .int .i64 x.mins]) (fun x => !p x) l (fun i W => J i W ∧ W.cell? ⟨b, 0, none⟩ = some (.func (.func g) #[] cap)) := by
 intro i h W u ⟨hJ, hc⟩ hno hV
 have hb := World.block_lt_of_cell? W _ hc
 have hb' : b < W.heap.size := hb
 obtain rfl := hV
 have hcall := zH (hp i h (W.alloc (.cells #[.int .i64 l[i].frm, .int .i64 l[i].dst, .int .i64 l[i].cap, .int .i64 l[i].mins] 108)) (.agg #[.int .i64 l[i].frm, .int .i64 l[i].dst, .int .i64 l[i].cap, .int .i64 l[i].mins]) (hJs _ _ _ hJ (Step.alloc _ _)) (fun j hj => by simpa using hno j hj) rfl)
 show Calls Try.prog 116 #[(.agg #[.int .i64 l[i].frm, .int .i64 l[i].dst, .int .i64 l[i].cap, .int .i64 l[i].mins]), .pointer (some ⟨b, 0, none⟩)] W _
 have HN := zH hno
 have HS := zH hJs
 clear hno hJs hp hJ hb
 go_enter Try.func116, Try.ntmps116
 go_wp2_with fail
 refine hcall.out.mono ?_
 rintro e w' ⟨rfl, hJ', hst⟩
 have hc' := hst.keeps.cell hX (a := ⟨b, 0, none⟩) (by rw [World.cell?_alloc_lt _ _ _ hb']; exact hc)
 go_wp2
 go_ret
 exact ⟨rfl, hJ', hc'⟩
theorem all_wy (S : Nat → Prop) (l : List Wy) (v : Value) (w : World) (g : FuncId) (cap : Array Value) (eg : ∀ args w, (callFunc g args).run Try.prog w = .ok (.enter g args) w) (p : Wy → Bool) (J : Nat → World → Prop) (X : Nat → Prop)
  (hX : ∀ j, X j → j < w.heap.size) (hJ : ∀ i W, J i W → SL S W v l) (hJs : ∀ i W W', J i W → Step W W' → J i W') (hw : J 0 w) (hp : PredA g cap (fun _ u x => u = .agg #[.int .i64 x.frm, .int .i64 x.dst, .int .i64 x.cap, .int .i64 x.mins]) p l J X) :
  Calls Try.prog 100 #[v, .func (.func g) #[] cap] w fun e w' => e = .returned (.bool (l.all p)) ∧ ∃ k, k ≤ l.length ∧ (l.all p = true → k = l.length) ∧ J k w' := by
 have hmf : ∀ (fn : Fn) (first cap : Array Value) (w : World), (Instr.makeFunc fn first cap).run Try.prog w = .ok (.func fn first cap) w := fun _ _ _ _ => rfl
 have hc := containsFunc_wy S l v (w.alloc (.cells #[.func (.func g) #[] cap] 163)) 116 #[.pointer (some ⟨w.heap.size, 0, none⟩)] (Go.Proofs.enters_of Try.func116 (by kernel_rfl) rfl) (fun x => !p x)
  (fun i W => J i W ∧ W.cell? ⟨w.heap.size, 0, none⟩ = some (.func (.func g) #[] cap)) (fun i W h => hJ i W h.1) ⟨hJs _ _ _ hw (Step.alloc _ _), by rw [World.cell?_alloc_new]; rfl⟩
  (allNot_wy l g cap eg p J X w.heap.size (fun h => by have := hX _ h; omega) hJs hp)
 have HC := zH hc
 clear hc hp hJ hJs hX eg
 go_enter Try.func100, Try.ntmps100
 go_wp2_with fail
 refine HC.out.mono ?_
 rintro e w' ⟨rfl, hk⟩
 have HK := zH hk
 clear hk
 have he : (l.any fun x => !p x) = !(l.all p) := by rw [List.not_all_eq_any_not]
 have HE := zH he
 clear he
 go_wp2
 go_ret
 obtain ⟨k, h1, h2, h3, _⟩ := HK.out
 rw [HE.out] at h2 ⊢
 exact ⟨by simp, k, h1, fun h => h2 (by simp [h]), h3⟩
end Go.Proofs.Ytfhmdpicoccnfaa
namespace Go.BT
open Go
set_option linter.unusedVariables false
/-! ### Forecasts and readings. -/
def rangeB (r : Rng) : Bool := decide (0 ≤ r.lo) && decide (r.lo ≤ r.hi) && decide (r.hi ≤ 1000)
def letterB (c : UInt8) : Bool := decide (97 ≤ c.toNat) && decide (c.toNat ≤ 122)
def digitB (c : UInt8) : Bool := decide (48 ≤ c.toNat) && decide (c.toNat ≤ 57)
def nameB (s : ByteArray) : Bool := decide (1 ≤ s.size) && decide (s.size ≤ 16) && letterB (s.data.getD 0 0) && s.data.toList.all fun c => letterB c || digitB c
def hoursN (l : List Fc) : Nat := match l with | [] => 0 | f :: _ => f.hours.length
def fewFB (l : List Fc) : Bool := decide (1 ≤ l.length) && decide (l.length ≤ 10) && l.all fun f => decide (f.hours.length ≤ 48)
def evenFB (l : List Fc) (f : Fc) : Bool := decide (0 < f.hours.length) && decide (f.hours.length = hoursN l) && f.hours.all rangeB
def namesOf (l : List Fc) : List ByteArray := l.map (·.name)
def forecastsC (l : List Fc) : Int := if fewFB l = true then (if l.all (evenFB l) = true then (if l.all (fun f => nameB f.name) = true then (if (namesOf l).Nodup then 0 else 6) else 5) else 1) else 3
def readingsC (l : List Fc) (rs : List Rdg) : Int := if rs.length ≤ 60 then (if rs.all (fun x => withinB x.hour 0 ((hoursN l : Int) - 1)) = true then (if rs.all (fun x => rangeB ⟨x.lo, x.hi⟩) = true then 0 else 1) else 2) else 3
def readC (l : List Fc) (rs : List Rdg) : Int := if forecastsC l = 0 then readingsC l rs else forecastsC l
def hourAt (f : Fc) (h : Int) : Rng := f.hours.getD h.toNat default
def hitsB (f : Fc) (x : Rdg) : Bool := decide (x.hi < (hourAt f x.hour).lo) || decide ((hourAt f x.hour).hi < x.lo)
def leftN (l : List Fc) (rs : List Rdg) (k : Nat) : List Nat := (List.range k).filter fun i => match l[i]? with | some f => !rs.any (hitsB f) | none => false
def leftI (l : List Fc) (rs : List Rdg) (k : Nat) : List Int := (leftN l rs k).map fun (i : Nat) => (i : Int)
def worstF (l : List Fc) (ids : List Nat) (h : Nat) : Int := ids.foldl (fun n i => match l[i]? with | some f => max n (hourAt f h).hi | none => n) 0
def worstL (l : List Fc) (ids : List Nat) : List Int := (List.range (hoursN l)).map (worstF l ids)
def worstC (l : List Fc) (rs : List Rdg) : Int := if readC l rs = 0 then (if leftN l rs l.length = [] then 7 else 0) else readC l rs
def worstR (l : List Fc) (rs : List Rdg) : List Int := if worstC l rs = 0 then worstL l (leftN l rs l.length) else []
theorem forecasts_ok {l : List Fc} (h : forecastsC l = 0) : fewFB l = true ∧ l.all (evenFB l) = true ∧ l.all (fun f => nameB f.name) = true ∧ (namesOf l).Nodup := by
 unfold forecastsC at h
 split at h
 ·split at h
  ·split at h
   ·split at h
    ·exact ⟨by assumption, by assumption, by assumption, by assumption⟩
    ·simp at h
   ·simp at h
  ·simp at h
 ·simp at h
theorem few_parts {l : List Fc} (h : fewFB l = true) : 1 ≤ l.length ∧ l.length ≤ 10 ∧ ∀ f ∈ l, f.hours.length ≤ 48 := by
 simp only [fewFB, Bool.and_eq_true, decide_eq_true_eq, List.all_eq_true] at h
 exact ⟨h.1.1, h.1.2, h.2⟩
theorem even_parts {l : List Fc} (h : l.all (evenFB l) = true) : ∀ f ∈ l, 0 < f.hours.length ∧ f.hours.length = hoursN l ∧ f.hours.all rangeB = true := by
 intro f hf
 have := List.all_eq_true.1 h f hf
 simp only [evenFB, Bool.and_eq_true, decide_eq_true_eq] at this
 exact ⟨this.1.1, this.1.2, this.2⟩
theorem hoursN_le {l : List Fc} (h : forecastsC l = 0) : 1 ≤ hoursN l ∧ hoursN l ≤ 48 := by
 obtain ⟨h1, h2, _, _⟩ := forecasts_ok h
 obtain ⟨a, _, b⟩ := few_parts h1
 have c := even_parts h2
 cases l with
 | nil => simp at a
 | cons f l =>
  have := b f (by simp)
  have := c f (by simp)
  simp only [hoursN]; omega
def windsB (l : List Int) : Bool := decide (1 ≤ l.length) && decide (l.length ≤ 48) && l.all fun n => withinB n 0 1000
/-! ### Sites and limits. -/
def baseB (v : Vec) : Bool := withinB v.x (-100) 100 && withinB v.y (-100) 100
def levelB (l : List Lvl) (i : Nat) : Bool := match l[i]? with
 | some x => withinB x.upto 0 1000 && withinB x.push 0 100 && (match i with | 0 => true | j + 1 => match l[j]? with | some y => decide (y.upto < x.upto) && decide (y.push ≤ x.push) | none => true)
 | none => true
def stageB (l : List Stg) (i : Nat) : Bool := match l[i]? with
 | some x => withinB x.cover 1 100 && withinB x.minutes 1 240 && (match i with | 0 => true | j + 1 => match l[j]? with | some y => decide (x.cover < y.cover) | none => true)
 | none => true
def siteB (s : Site) : Bool := withinB s.base.length 1 12 && s.base.all baseB && withinB s.levels.length 1 10 && withinB s.stages.length 2 8 && (List.range s.levels.length).all (levelB s.levels) && (List.range (s.stages.length - 1)).all (stageB s.stages) && decide (s.stages[s.stages.length - 1]? = some ⟨0, 0⟩) && withinB s.openS 0 ((s.stages.length : Int) - 2)
def limitedB (s : Site) (l : List Int) : Bool := decide (l.length = s.stages.length) && l.all (fun n => withinB n (-1) 1000) && (List.range (l.length - 1)).all (fun i => decide (l.getD i 0 ≤ l.getD (i + 1) 0)) && decide (l.getD (l.length - 1) 0 = 1000)
structure SiteOk (s : Site) : Prop where
 base : 1 ≤ s.base.length ∧ s.base.length ≤ 12
 corners : s.base.all baseB = true
 nlev : 1 ≤ s.levels.length ∧ s.levels.length ≤ 10
 nst : 2 ≤ s.stages.length ∧ s.stages.length ≤ 8
 lev : ∀ i (h : i < s.levels.length), (0 ≤ s.levels[i].upto ∧ s.levels[i].upto ≤ 1000) ∧ 0 ≤ s.levels[i].push ∧ s.levels[i].push ≤ 100
 rise : ∀ i (h : i + 1 < s.levels.length), s.levels[i].upto < s.levels[i + 1].upto ∧ s.levels[i].push ≤ s.levels[i + 1].push
 st : ∀ i (h : i + 1 < s.stages.length), (1 ≤ s.stages[i].cover ∧ s.stages[i].cover ≤ 100) ∧ 1 ≤ s.stages[i].minutes ∧ s.stages[i].minutes ≤ 240
 fall : ∀ i (h : i + 2 < s.stages.length), s.stages[i + 1].cover < s.stages[i].cover
 last : s.stages[s.stages.length - 1]? = some ⟨0, 0⟩
 opn : 0 ≤ s.openS ∧ s.openS ≤ (s.stages.length : Int) - 2
theorem site_ok {s : Site} (h : siteB s = true) : SiteOk s := by
 simp only [siteB, Bool.and_eq_true, decide_eq_true_eq, List.all_eq_true, List.mem_range, withinB] at h
 obtain ⟨⟨⟨⟨⟨⟨⟨h1, h2⟩, h3⟩, h4⟩, h5⟩, h6⟩, h7⟩, h8⟩ := h
 refine ⟨by omega, List.all_eq_true.2 h2, by omega, by omega, fun i hi => ?_, fun i hi => ?_, fun i hi => ?_, fun i hi => ?_, h7, by omega⟩
 ·have := h5 i hi
  simp only [levelB, List.getElem?_eq_getElem hi, Bool.and_eq_true, decide_eq_true_eq, withinB] at this
  omega
 ·have := h5 (i + 1) hi
  simp only [levelB, List.getElem?_eq_getElem hi, List.getElem?_eq_getElem (show i < s.levels.length by omega), Bool.and_eq_true, decide_eq_true_eq, withinB] at this
  omega
 ·have := h6 i (by omega)
  simp only [stageB, List.getElem?_eq_getElem (show i < s.stages.length by omega), Bool.and_eq_true, decide_eq_true_eq, withinB] at this
  omega
 ·have := h6 (i + 1) (by omega)
  simp only [stageB, List.getElem?_eq_getElem (show i < s.stages.length by omega), List.getElem?_eq_getElem (show i + 1 < s.stages.length by omega), Bool.and_eq_true, decide_eq_true_eq, withinB] at this
  omega
end Go.BT
