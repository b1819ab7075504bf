/- The canvas chapter in plain words: data, balances, tests, tents, reach. -/
import Derived.Test.YtdcjbbeoocldeaaMa
import Derived.BigQuiet
import Derived.Deep.AppendLies
import Derived.Deep.DeepCutAuto
import Derived.Deep.QuietTactic
import Derived.Deep.RegionHeld3
import Derived.Lib.Hide
import Derived.WalkKit
import Derived.WalkLawsBesides
import Derived.WalkSmall
/- The data of the canvas chapter as plain structures, and how they lie in memory. -/
namespace Go.BT
open Go.RowKit

structure Tst where
  soil : Int
  depth : Int
  force : Int
  held : Bool
  deriving DecidableEq, Inhabited
structure Rng where
  lo : Int
  hi : Int
  deriving DecidableEq, Inhabited
structure Vec where
  x : Int
  y : Int
  deriving DecidableEq, Inhabited
structure Guy where
  x : Int
  y : Int
  down : Int
  soil : Int
  depth : Int
  deriving DecidableEq, Inhabited
structure Head where
  area : Int
  bears : Int
  guys : List Guy
  deriving DecidableEq, Inhabited
structure Bal where
  whole : Int
  parts : List Int
  deriving DecidableEq, Inhabited
structure Meas where
  area : Int
  bears : Int
  guys : List Guy
  forces : List Vec
  deriving DecidableEq, Inhabited
instance : Rep Tst where
  k := 4
  rep _ _ cs x := cs = [.int .i64 x.soil, .int .i64 x.depth, .int .i64 x.force, .bool x.held]
  len h := by rw [h]; rfl
  keep _ h := h
  weak _ h := h
  one h := by subst h; simp [Value.oneCell']
  pos := by decide
instance : Flat Tst where
  flat h := h
instance : Rep Rng where
  k := 2
  rep _ _ cs x := cs = [.int .i64 x.lo, .int .i64 x.hi]
  len h := by rw [h]; rfl
  keep _ h := h
  weak _ h := h
  one h := by subst h; simp [Value.oneCell']
  pos := by decide
instance : Flat Rng where
  flat h := h
instance : Rep Vec where
  k := 2
  rep _ _ cs x := cs = [.int .i64 x.x, .int .i64 x.y]
  len h := by rw [h]; rfl
  keep _ h := h
  weak _ h := h
  one h := by subst h; simp [Value.oneCell']
  pos := by decide
instance : Flat Vec where
  flat h := h
instance : Rep Guy where
  k := 5
  rep _ _ cs x := cs = [.int .i64 x.x, .int .i64 x.y, .int .i64 x.down, .int .i64 x.soil, .int .i64 x.depth]
  len h := by rw [h]; rfl
  keep _ h := h
  weak _ h := h
  one h := by subst h; simp [Value.oneCell']
  pos := by decide
instance : Flat Guy where
  flat h := h
instance : Rep Head where
  k := 3
  rep S w cs x := ∃ c2, cs = [.int .i64 x.area, .int .i64 x.bears, c2] ∧ SL S w c2 x.guys
  len h := by obtain ⟨_, rfl, _⟩ := h; rfl
  keep hk h := by obtain ⟨c2, e, h2⟩ := h; exact ⟨c2, e, h2.keep hk⟩
  weak hk h := by obtain ⟨c2, e, h2⟩ := h; exact ⟨c2, e, h2.weak hk⟩
  one h := by
    obtain ⟨c2, rfl, h2⟩ := h
    obtain ⟨_, _, rfl⟩ := h2.form
    simp [Value.oneCell']
  pos := by decide
instance : Rep Bal where
  k := 2
  rep S w cs x := ∃ c1, cs = [.int .i64 x.whole, c1] ∧ SL S w c1 x.parts
  len h := by obtain ⟨_, rfl, _⟩ := h; rfl
  keep hk h := by obtain ⟨c1, e, h1⟩ := h; exact ⟨c1, e, h1.keep hk⟩
  weak hk h := by obtain ⟨c1, e, h1⟩ := h; exact ⟨c1, e, h1.weak hk⟩
  one h := by
    obtain ⟨c1, rfl, h1⟩ := h
    obtain ⟨_, _, rfl⟩ := h1.form
    simp [Value.oneCell']
  pos := by decide
instance : Rep Meas where
  k := 4
  rep S w cs x := ∃ c2 c3, cs = [.int .i64 x.area, .int .i64 x.bears, c2, c3] ∧ SL S w c2 x.guys ∧ SL S w c3 x.forces
  len h := by obtain ⟨_, _, rfl, _⟩ := h; rfl
  keep hk h := by obtain ⟨c2, c3, e, h2, h3⟩ := h; exact ⟨c2, c3, e, h2.keep hk, h3.keep hk⟩
  weak hk h := by obtain ⟨c2, c3, e, h2, h3⟩ := h; exact ⟨c2, c3, e, h2.weak hk, h3.weak hk⟩
  one h := by
    obtain ⟨c2, c3, rfl, h2, h3⟩ := h
    obtain ⟨_, _, rfl⟩ := h2.form; obtain ⟨_, _, rfl⟩ := h3.form
    simp [Value.oneCell']
  pos := by decide
/-- A struct handed by value. -/
def AV {α : Type} [Rep α] (S : Nat → Prop) (w : World) (v : Value) (x : α) : Prop := ∃ cs, v = .agg cs.toArray ∧ Rep.rep S w cs x
theorem AV.keep {α : Type} [Rep α] {S : Nat → Prop} {w w' : World} {v : Value} {x : α} (hk : Keeps S w w') (h : AV S w v x) : AV S w' v x := by
  obtain ⟨cs, e, h⟩ := h; exact ⟨cs, e, Rep.keep hk h⟩
theorem AV.weak {α : Type} [Rep α] {S T : Nat → Prop} {w : World} {v : Value} {x : α} (hk : ∀ j, j < w.heap.size → T j → S j) (h : AV S w v x) : AV T w v x := by
  obtain ⟨cs, e, h⟩ := h; exact ⟨cs, e, Rep.weak hk h⟩
theorem AV.triv {α : Type} [Rep α] {S : Nat → Prop} {w : World} {v : Value} {x : α} (h : AV S w v x) : AV (fun _ => False) w v x := h.weak fun _ _ h => h.elim
theorem AV.later {α : Type} [Rep α] {S : Nat → Prop} {W w1 w' : World} {v : Value} {x : α} (h : AV (Old W) w1 v x) (hs : ∀ j, j < w1.heap.size → S j → j < W.heap.size) (hk : Keeps S w1 w') : AV S w' v x :=
  (h.weak hs).keep hk
theorem SL.tsts {S : Nat → Prop} {w : World} {v : Value} {l : List Tst} (h : SL S w v l) :
    ∃ p c b o, v = .slice p l.length c ∧ l.length ≤ c ∧ l.length ≤ 9223372036854775807 ∧ (0 < l.length → p = some ⟨b, o, none⟩) ∧
      (∀ i (h : i < l.length), w.cell? ⟨b, o + i * 4, none⟩ = some (.int .i64 l[i].soil) ∧ w.cell? ⟨b, o + i * 4 + 1, none⟩ = some (.int .i64 l[i].depth) ∧ w.cell? ⟨b, o + i * 4 + 2, none⟩ = some (.int .i64 l[i].force) ∧ w.cell? ⟨b, o + i * 4 + 3, none⟩ = some (.bool l[i].held)) ∧ (0 < l.length → b < w.heap.size ∧ ¬ S b) := by
  obtain ⟨p, c, b, o, hv, hc, hm, hp, ha⟩ := h
  refine ⟨p, c, b, o, hv, hc, hm, hp, fun i hi => ?_, fun h0 => ⟨(ha 0 h0).1, (ha 0 h0).2.1⟩⟩
  obtain ⟨_, _, cs, hr, hcs⟩ := ha i hi
  have hr' : cs = [.int .i64 l[i].soil, .int .i64 l[i].depth, .int .i64 l[i].force, .bool l[i].held] := hr
  subst hr'
  exact ⟨hcs 0 _ rfl, hcs 1 _ rfl, hcs 2 _ rfl, hcs 3 _ rfl⟩
theorem AV.tst {S : Nat → Prop} {w : World} {v : Value} {x : Tst} (hv : AV S w v x) : v = .agg #[.int .i64 x.soil, .int .i64 x.depth, .int .i64 x.force, .bool x.held] := by
  obtain ⟨cs, rfl, hr⟩ := hv
  rw [show cs = [.int .i64 x.soil, .int .i64 x.depth, .int .i64 x.force, .bool x.held] from hr]
theorem SL.rngs {S : Nat → Prop} {w : World} {v : Value} {l : List Rng} (h : SL S w v l) :
    ∃ p c b o, v = .slice p l.length c ∧ l.length ≤ c ∧ l.length ≤ 9223372036854775807 ∧ (0 < l.length → p = some ⟨b, o, none⟩) ∧
      (∀ i (h : i < l.length), w.cell? ⟨b, o + i * 2, none⟩ = some (.int .i64 l[i].lo) ∧ w.cell? ⟨b, o + i * 2 + 1, none⟩ = some (.int .i64 l[i].hi)) ∧ (0 < l.length → b < w.heap.size ∧ ¬ S b) := by
  obtain ⟨p, c, b, o, hv, hc, hm, hp, ha⟩ := h
  refine ⟨p, c, b, o, hv, hc, hm, hp, fun i hi => ?_, fun h0 => ⟨(ha 0 h0).1, (ha 0 h0).2.1⟩⟩
  obtain ⟨_, _, cs, hr, hcs⟩ := ha i hi
  have hr' : cs = [.int .i64 l[i].lo, .int .i64 l[i].hi] := hr
  subst hr'
  exact ⟨hcs 0 _ rfl, hcs 1 _ rfl⟩
theorem AV.rng {S : Nat → Prop} {w : World} {v : Value} {x : Rng} (hv : AV S w v x) : v = .agg #[.int .i64 x.lo, .int .i64 x.hi] := by
  obtain ⟨cs, rfl, hr⟩ := hv
  rw [show cs = [.int .i64 x.lo, .int .i64 x.hi] from hr]
theorem SL.vecs {S : Nat → Prop} {w : World} {v : Value} {l : List Vec} (h : SL S w v l) :
    ∃ p c b o, v = .slice p l.length c ∧ l.length ≤ c ∧ l.length ≤ 9223372036854775807 ∧ (0 < l.length → p = some ⟨b, o, none⟩) ∧
      (∀ i (h : i < l.length), w.cell? ⟨b, o + i * 2, none⟩ = some (.int .i64 l[i].x) ∧ w.cell? ⟨b, o + i * 2 + 1, none⟩ = some (.int .i64 l[i].y)) ∧ (0 < l.length → b < w.heap.size ∧ ¬ S b) := by
  obtain ⟨p, c, b, o, hv, hc, hm, hp, ha⟩ := h
  refine ⟨p, c, b, o, hv, hc, hm, hp, fun i hi => ?_, fun h0 => ⟨(ha 0 h0).1, (ha 0 h0).2.1⟩⟩
  obtain ⟨_, _, cs, hr, hcs⟩ := ha i hi
  have hr' : cs = [.int .i64 l[i].x, .int .i64 l[i].y] := hr
  subst hr'
  exact ⟨hcs 0 _ rfl, hcs 1 _ rfl⟩
theorem AV.vec {S : Nat → Prop} {w : World} {v : Value} {x : Vec} (hv : AV S w v x) : v = .agg #[.int .i64 x.x, .int .i64 x.y] := by
  obtain ⟨cs, rfl, hr⟩ := hv
  rw [show cs = [.int .i64 x.x, .int .i64 x.y] from hr]
theorem SL.guys {S : Nat → Prop} {w : World} {v : Value} {l : List Guy} (h : SL S w v l) :
    ∃ p c b o, v = .slice p l.length c ∧ l.length ≤ c ∧ l.length ≤ 9223372036854775807 ∧ (0 < l.length → p = some ⟨b, o, none⟩) ∧
      (∀ i (h : i < l.length), w.cell? ⟨b, o + i * 5, none⟩ = some (.int .i64 l[i].x) ∧ w.cell? ⟨b, o + i * 5 + 1, none⟩ = some (.int .i64 l[i].y) ∧ w.cell? ⟨b, o + i * 5 + 2, none⟩ = some (.int .i64 l[i].down) ∧ w.cell? ⟨b, o + i * 5 + 3, none⟩ = some (.int .i64 l[i].soil) ∧ w.cell? ⟨b, o + i * 5 + 4, none⟩ = some (.int .i64 l[i].depth)) ∧ (0 < l.length → b < w.heap.size ∧ ¬ S b) := by
  obtain ⟨p, c, b, o, hv, hc, hm, hp, ha⟩ := h
  refine ⟨p, c, b, o, hv, hc, hm, hp, fun i hi => ?_, fun h0 => ⟨(ha 0 h0).1, (ha 0 h0).2.1⟩⟩
  obtain ⟨_, _, cs, hr, hcs⟩ := ha i hi
  have hr' : cs = [.int .i64 l[i].x, .int .i64 l[i].y, .int .i64 l[i].down, .int .i64 l[i].soil, .int .i64 l[i].depth] := hr
  subst hr'
  exact ⟨hcs 0 _ rfl, hcs 1 _ rfl, hcs 2 _ rfl, hcs 3 _ rfl, hcs 4 _ rfl⟩
theorem AV.guy {S : Nat → Prop} {w : World} {v : Value} {x : Guy} (hv : AV S w v x) : v = .agg #[.int .i64 x.x, .int .i64 x.y, .int .i64 x.down, .int .i64 x.soil, .int .i64 x.depth] := by
  obtain ⟨cs, rfl, hr⟩ := hv
  rw [show cs = [.int .i64 x.x, .int .i64 x.y, .int .i64 x.down, .int .i64 x.soil, .int .i64 x.depth] from hr]
theorem AV.head {S : Nat → Prop} {w : World} {v : Value} {x : Head} (hv : AV S w v x) : ∃ c2, v = .agg #[.int .i64 x.area, .int .i64 x.bears, c2] ∧ SL S w c2 x.guys := by
  obtain ⟨cs, rfl, c2, rfl, r⟩ := hv; exact ⟨c2, rfl, r⟩
theorem SL.heads {S : Nat → Prop} {w : World} {v : Value} {l : List Head} (h : SL S w v l) :
    ∃ p c b o, v = .slice p l.length c ∧ l.length ≤ c ∧ l.length ≤ 9223372036854775807 ∧ (0 < l.length → p = some ⟨b, o, none⟩) ∧
      (∀ i (h : i < l.length), ∃ c2, w.cell? ⟨b, o + i * 3, none⟩ = some (.int .i64 l[i].area) ∧ w.cell? ⟨b, o + i * 3 + 1, none⟩ = some (.int .i64 l[i].bears) ∧ w.cell? ⟨b, o + i * 3 + 2, none⟩ = some c2 ∧ SL S w c2 l[i].guys) ∧ (0 < l.length → b < w.heap.size ∧ ¬ S b) := by
  obtain ⟨p, c, b, o, hv, hc, hm, hp, ha⟩ := h
  refine ⟨p, c, b, o, hv, hc, hm, hp, fun i hi => ?_, fun h0 => ⟨(ha 0 h0).1, (ha 0 h0).2.1⟩⟩
  obtain ⟨_, _, cs, hr, hcs⟩ := ha i hi
  obtain ⟨c2, rfl, r⟩ := hr
  exact ⟨c2, hcs 0 _ rfl, hcs 1 _ rfl, hcs 2 _ rfl, r⟩
theorem AV.bal {S : Nat → Prop} {w : World} {v : Value} {x : Bal} (hv : AV S w v x) : ∃ c1, v = .agg #[.int .i64 x.whole, c1] ∧ SL S w c1 x.parts := by
  obtain ⟨cs, rfl, c1, rfl, r⟩ := hv; exact ⟨c1, rfl, r⟩
theorem SL.bals {S : Nat → Prop} {w : World} {v : Value} {l : List Bal} (h : SL S w v l) :
    ∃ p c b o, v = .slice p l.length c ∧ l.length ≤ c ∧ l.length ≤ 9223372036854775807 ∧ (0 < l.length → p = some ⟨b, o, none⟩) ∧
      (∀ i (h : i < l.length), ∃ c1, w.cell? ⟨b, o + i * 2, none⟩ = some (.int .i64 l[i].whole) ∧ w.cell? ⟨b, o + i * 2 + 1, none⟩ = some c1 ∧ SL S w c1 l[i].parts) ∧ (0 < l.length → b < w.heap.size ∧ ¬ S b) := by
  obtain ⟨p, c, b, o, hv, hc, hm, hp, ha⟩ := h
  refine ⟨p, c, b, o, hv, hc, hm, hp, fun i hi => ?_, fun h0 => ⟨(ha 0 h0).1, (ha 0 h0).2.1⟩⟩
  obtain ⟨_, _, cs, hr, hcs⟩ := ha i hi
  obtain ⟨c1, rfl, r⟩ := hr
  exact ⟨c1, hcs 0 _ rfl, hcs 1 _ rfl, r⟩
theorem AV.meas {S : Nat → Prop} {w : World} {v : Value} {x : Meas} (hv : AV S w v x) : ∃ c2 c3, v = .agg #[.int .i64 x.area, .int .i64 x.bears, c2, c3] ∧ SL S w c2 x.guys ∧ SL S w c3 x.forces := by
  obtain ⟨cs, rfl, c2, c3, rfl, r⟩ := hv; exact ⟨c2, c3, rfl, r⟩
theorem SL.meass {S : Nat → Prop} {w : World} {v : Value} {l : List Meas} (h : SL S w v l) :
    ∃ p c b o, v = .slice p l.length c ∧ l.length ≤ c ∧ l.length ≤ 9223372036854775807 ∧ (0 < l.length → p = some ⟨b, o, none⟩) ∧
      (∀ i (h : i < l.length), ∃ c2 c3, w.cell? ⟨b, o + i * 4, none⟩ = some (.int .i64 l[i].area) ∧ w.cell? ⟨b, o + i * 4 + 1, none⟩ = some (.int .i64 l[i].bears) ∧ w.cell? ⟨b, o + i * 4 + 2, none⟩ = some c2 ∧ w.cell? ⟨b, o + i * 4 + 3, none⟩ = some c3 ∧ SL S w c2 l[i].guys ∧ SL S w c3 l[i].forces) ∧ (0 < l.length → b < w.heap.size ∧ ¬ S b) := by
  obtain ⟨p, c, b, o, hv, hc, hm, hp, ha⟩ := h
  refine ⟨p, c, b, o, hv, hc, hm, hp, fun i hi => ?_, fun h0 => ⟨(ha 0 h0).1, (ha 0 h0).2.1⟩⟩
  obtain ⟨_, _, cs, hr, hcs⟩ := ha i hi
  obtain ⟨c2, c3, rfl, r⟩ := hr
  exact ⟨c2, c3, hcs 0 _ rfl, hcs 1 _ rfl, hcs 2 _ rfl, hcs 3 _ rfl, r⟩
end Go.BT
/- The canvas chapter in plain words: the search for a balance, what the document asks, and that both agree. -/

namespace Go.Zono

/-- Sums over the first n numbers. -/
def sumN : Nat → (Nat → Int) → Int
  | 0, _ => 0
  | n + 1, g => sumN n g + g n
theorem sumN_congr {g g' : Nat → Int} : ∀ n, (∀ i, i < n → g i = g' i) → sumN n g = sumN n g'
  | 0, _ => rfl
  | n + 1, h => by rw [sumN, sumN, sumN_congr n (fun i hi => h i (by omega)), h n (by omega)]
theorem sumN_add (g g' : Nat → Int) : ∀ n, sumN n (fun i => g i + g' i) = sumN n g + sumN n g'
  | 0 => rfl
  | n + 1 => by simp only [sumN, sumN_add g g' n]; omega
theorem sumN_mul (c : Int) (g : Nat → Int) : ∀ n, sumN n (fun i => c * g i) = c * sumN n g
  | 0 => by simp [sumN]
  | n + 1 => by simp only [sumN, sumN_mul c g n, Int.mul_add]
theorem sumN_le {g g' : Nat → Int} : ∀ n, (∀ i, i < n → g i ≤ g' i) → sumN n g ≤ sumN n g'
  | 0, _ => Int.le_refl _
  | n + 1, h => Int.add_le_add (sumN_le n (fun i hi => h i (by omega))) (h n (by omega))
theorem sumN_zero : ∀ n, sumN n (fun _ => 0) = 0
  | 0 => rfl
  | n + 1 => by rw [sumN, sumN_zero n]; rfl
theorem sumN_one {g : Nat → Int} {a : Nat} : ∀ n, a < n → (∀ i, i < n → i ≠ a → g i = 0) → sumN n g = g a
  | 0, h, _ => by omega
  | n + 1, h, h0 => by
    rw [sumN]
    by_cases e : a = n
    · subst e
      rw [sumN_congr (g' := fun _ => 0) a (fun i hi => h0 i (by omega) (by omega)), sumN_zero]; omega
    · rw [sumN_one n (by omega) (fun i hi hn => h0 i (by omega) hn), h0 n (by omega) (Ne.symm e)]; omega
theorem sumN_two {g : Nat → Int} {a b : Nat} {n : Nat} (ha : a < n) (hb : b < n) (hab : a ≠ b) (h0 : ∀ i, i < n → i ≠ a → i ≠ b → g i = 0) : sumN n g = g a + g b := by
  have h1 : sumN n g = sumN n (fun i => (if i = a then g i else 0) + (if i = a then 0 else g i)) := sumN_congr n fun i _ => by split <;> omega
  rw [h1, sumN_add, sumN_one (a := a) n ha (fun i _ hn => if_neg hn), sumN_one (a := b) n hb (fun i hi hn => by
    by_cases e : i = a
    · exact if_pos e
    · rw [if_neg e]; exact h0 i hi e hn), if_pos rfl, if_neg (Ne.symm hab)]
theorem sumN_three {g : Nat → Int} {a b c : Nat} {n : Nat} (ha : a < n) (hb : b < n) (hc : c < n) (hab : a ≠ b) (hac : a ≠ c) (hbc : b ≠ c) (h0 : ∀ i, i < n → i ≠ a → i ≠ b → i ≠ c → g i = 0) : sumN n g = g a + g b + g c := by
  have h1 : sumN n g = sumN n (fun i => (if i = a then g i else 0) + (if i = a then 0 else g i)) := sumN_congr n fun i _ => by split <;> omega
  rw [h1, sumN_add, sumN_one (a := a) n ha (fun i _ hn => if_neg hn), sumN_two (a := b) (b := c) hb hc hbc (fun i hi hn hm => by
    by_cases e : i = a
    · exact if_pos e
    · rw [if_neg e]; exact h0 i hi e hn hm), if_pos rfl, if_neg (Ne.symm hab), if_neg (Ne.symm hac)]
  omega

/-- What forces f have against a direction. -/
def helpN (n : Nat) (fx fy : Nat → Int) (wx wy : Int) : Int := sumN n fun i => max 0 (-(wx * fx i + wy * fy i))
theorem max_mul {c : Int} (hc : 0 ≤ c) (a : Int) : max 0 (c * a) = c * max 0 a := by
  rcases Int.le_total 0 a with h | h
  · rw [Int.max_eq_right h, Int.max_eq_right (Int.mul_nonneg hc h)]
  · rw [Int.max_eq_left h, Int.mul_zero, Int.max_eq_left (Int.mul_nonpos_of_nonneg_of_nonpos hc h)]
theorem helpN_mul {n : Nat} {fx fy : Nat → Int} {c : Int} (hc : 0 ≤ c) (wx wy : Int) : helpN n fx fy (c * wx) (c * wy) = c * helpN n fx fy wx wy := by
  unfold helpN
  rw [← sumN_mul]
  refine sumN_congr n fun i _ => ?_
  rw [← max_mul hc]
  congr 1
  grind
theorem helpN_add (n : Nat) (fx fy : Nat → Int) (wx wy vx vy : Int) : helpN n fx fy (wx + vx) (wy + vy) ≤ helpN n fx fy wx wy + helpN n fx fy vx vy := by
  unfold helpN
  rw [← sumN_add]
  refine sumN_le n fun i _ => ?_
  have h : (wx + vx) * fx i + (wy + vy) * fy i = (wx * fx i + wy * fy i) + (vx * fx i + vy * fy i) := by grind
  rw [h]
  omega

theorem sq_nonneg (a : Int) : 0 ≤ a * a := by
  rcases Int.le_total 0 a with h | h
  · exact Int.mul_nonneg h h
  · exact Int.mul_nonneg_of_nonpos_of_nonpos h h
/-- The greatest lower bound that a list of constraints a c ≤ b g sets upon a/b. -/
theorem lower (L : List (Int × Int)) (h : ∃ x ∈ L, x.1 < 0) : ∃ x ∈ L, x.1 < 0 ∧ ∀ y ∈ L, y.1 < 0 → y.2 * x.1 ≤ x.2 * y.1 := by
  induction L with
  | nil => obtain ⟨x, hx, _⟩ := h; simp at hx
  | cons z L ih =>
    by_cases hL : ∃ x ∈ L, x.1 < 0
    · obtain ⟨x, hx, hx1, hx2⟩ := ih hL
      by_cases hz : z.1 < 0
      · by_cases hc : z.2 * x.1 ≤ x.2 * z.1
        · refine ⟨x, by simp [hx], hx1, fun y hy hy1 => ?_⟩
          rcases List.mem_cons.1 hy with rfl | hy
          · exact hc
          · exact hx2 y hy hy1
        · refine ⟨z, by simp, hz, fun y hy hy1 => ?_⟩
          rcases List.mem_cons.1 hy with rfl | hy
          · exact Int.le_refl _
          · have h1 := hx2 y hy hy1
            -- y2 x1 ≤ x2 y1, x2 z1 < z2 x1
            have h2 : x.2 * z.1 ≤ z.2 * x.1 := by omega
            have h3 := Int.mul_le_mul_of_nonpos_left (a := z.1) (by omega) h1
            have h4 := Int.mul_le_mul_of_nonpos_left (a := y.1) (by omega) h2
            have h5 : x.1 * (z.2 * y.1) ≤ x.1 * (y.2 * z.1) := by grind
            exact Int.not_lt.1 fun hn => by have := Int.mul_lt_mul_of_neg_left hn hx1; omega
      · refine ⟨x, by simp [hx], hx1, fun y hy hy1 => ?_⟩
        rcases List.mem_cons.1 hy with rfl | hy
        · exact absurd hy1 hz
        · exact hx2 y hy hy1
    · obtain ⟨x, hx, hx1⟩ := h
      rcases List.mem_cons.1 hx with rfl | hx
      · refine ⟨x, by simp, hx1, fun y hy hy1 => ?_⟩
        rcases List.mem_cons.1 hy with rfl | hy
        · exact Int.le_refl _
        · exact absurd ⟨y, hy, hy1⟩ hL
      · exact absurd ⟨x, hx, hx1⟩ hL
/-- A number between all bounds, if no two bounds exclude each other. -/
theorem between (L : List (Int × Int)) (h : ∃ x ∈ L, x.1 < 0) (h0 : ∀ x ∈ L, x.1 = 0 → 0 ≤ x.2) (h1 : ∀ x ∈ L, ∀ y ∈ L, 0 < x.1 → y.1 < 0 → 0 ≤ x.1 * y.2 - y.1 * x.2) : ∃ a b : Int, 0 < b ∧ ∀ x ∈ L, a * x.1 ≤ b * x.2 := by
  obtain ⟨z, hz, hz1, hz2⟩ := lower L h
  refine ⟨-z.2, -z.1, by omega, fun x hx => ?_⟩
  rcases Int.lt_trichotomy x.1 0 with q | q | q
  · have := hz2 x hx q
    have e1 : -z.2 * x.1 = -(z.2 * x.1) := by grind
    have e2 : -z.1 * x.2 = -(x.2 * z.1) := by grind
    omega
  · rw [q, Int.mul_zero]; exact Int.mul_nonneg (by omega) (h0 x hx q)
  · have := h1 x hx z hz q hz1
    grind

/-- The directions W decide whether a point is balanced: with those across each force, and along the axes, they do. -/
theorem zonotope (W : List (Int × Int)) (fx fy : Nat → Int) (hax : (1, 0) ∈ W ∧ (0, 1) ∈ W ∧ (-1, 0) ∈ W ∧ (0, -1) ∈ W) : ∀ (n : Nat) (_ : ∀ i, i < n → (fx i ≠ 0 ∨ fy i ≠ 0) → (-(fy i), fx i) ∈ W ∧ (fy i, -(fx i)) ∈ W) (px py D : Int) (_ : 0 < D)
    (_ : ∀ w ∈ W, w.1 * px + w.2 * py ≤ D * helpN n fx fy w.1 w.2), ∃ (E : Int) (t : Nat → Int), 0 < E ∧ (∀ i, i < n → 0 ≤ t i ∧ t i ≤ D * E) ∧ E * px + sumN n (fun i => t i * fx i) = 0 ∧ E * py + sumN n (fun i => t i * fy i) = 0
  | 0, _, px, py, D, hD, h => by
    have h1 := h _ hax.1
    have h2 := h _ hax.2.1
    have h3 := h _ hax.2.2.1
    have h4 := h _ hax.2.2.2
    simp only [helpN, sumN] at h1 h2 h3 h4
    exact ⟨1, fun _ => 0, by omega, fun i hi => by omega, by simp only [sumN]; omega, by simp only [sumN]; omega⟩
  | n + 1, hW, px, py, D, hD, h => by
    let L : List (Int × Int) := (-1, 0) :: (1, D) :: W.map fun w => (w.1 * fx n + w.2 * fy n, D * helpN n fx fy w.1 w.2 - (w.1 * px + w.2 * py))
    have hstep : ∀ w ∈ W, w.1 * px + w.2 * py ≤ D * helpN n fx fy w.1 w.2 + D * max 0 (-(w.1 * fx n + w.2 * fy n)) := fun w hw => by
      have := h w hw
      simp only [helpN, sumN] at this ⊢
      rw [Int.mul_add] at this
      exact this
    have hmem : ∀ x, x ∈ L → x = (-1, 0) ∨ x = (1, D) ∨ ∃ w ∈ W, x = (w.1 * fx n + w.2 * fy n, D * helpN n fx fy w.1 w.2 - (w.1 * px + w.2 * py)) := fun x hx => by
      rcases List.mem_cons.1 hx with hx | hx
      · exact .inl hx
      rcases List.mem_cons.1 hx with hx | hx
      · exact .inr (.inl hx)
      obtain ⟨w, hw, e⟩ := List.mem_map.1 hx
      exact .inr (.inr ⟨w, hw, e.symm⟩)
    have hin : ∀ w ∈ W, (w.1 * fx n + w.2 * fy n, D * helpN n fx fy w.1 w.2 - (w.1 * px + w.2 * py)) ∈ L := fun w hw =>
      List.mem_cons.2 (.inr (List.mem_cons.2 (.inr (List.mem_map.2 ⟨w, hw, rfl⟩))))
    obtain ⟨a, b, hb, hab⟩ := between L ⟨(-1, 0), List.mem_cons_self .., by decide⟩ (fun x hx h0 => by
      rcases hmem x hx with rfl | rfl | ⟨w, hw, rfl⟩
      · simp at h0
      · simp at h0
      · have := hstep w hw
        simp only at h0 ⊢
        rw [h0] at this
        simp at this
        omega) (fun x hx y hy h1 h2 => by
      rcases hmem x hx with rfl | rfl | ⟨w, hw, rfl⟩
      · simp at h1
      · rcases hmem y hy with rfl | rfl | ⟨v, hv, rfl⟩
        · simp; omega
        · simp at h2
        · have := hstep v hv
          simp only at h2 ⊢
          obtain ⟨c, hc⟩ : ∃ c, c = v.1 * fx n + v.2 * fy n := ⟨_, rfl⟩
          rw [← hc] at h2 this ⊢
          rw [Int.max_eq_right (by omega)] at this
          have e1 : D * -c = -(c * D) := by grind
          omega
      · rcases hmem y hy with rfl | rfl | ⟨v, hv, rfl⟩
        · have := hstep w hw
          simp only at h1 ⊢
          rw [Int.max_eq_left (by omega)] at this
          omega
        · simp at h2
        · simp only at h1 h2 ⊢
          obtain ⟨c, hc⟩ : ∃ c, c = w.1 * fx n + w.2 * fy n := ⟨_, rfl⟩
          obtain ⟨d, hd⟩ : ∃ d, d = v.1 * fx n + v.2 * fy n := ⟨_, rfl⟩
          rw [← hc] at h1 ⊢
          rw [← hd] at h2 ⊢
          -- u = c v - d w
          have hu : (c * v.1 + (-d) * w.1) * fx n + (c * v.2 + (-d) * w.2) * fy n = 0 := by grind
          have hsub := helpN_add n fx fy (c * v.1) (c * v.2) ((-d) * w.1) ((-d) * w.2)
          rw [helpN_mul (by omega), helpN_mul (by omega)] at hsub
          obtain ⟨ux, hux⟩ : ∃ x, x = c * v.1 + (-d) * w.1 := ⟨_, rfl⟩
          obtain ⟨uy, huy⟩ : ∃ x, x = c * v.2 + (-d) * w.2 := ⟨_, rfl⟩
          rw [← hux, ← huy] at hu hsub
          have hne : fx n ≠ 0 ∨ fy n ≠ 0 := by
            by_cases q : fx n = 0
            · right; intro q2; rw [q, q2] at hc; simp at hc; omega
            · exact .inl q
          have hf : 0 < fx n * fx n + fy n * fy n := by
            have a1 := sq_nonneg (fx n)
            have a2 := sq_nonneg (fy n)
            rcases hne with q | q
            · have : fx n * fx n ≠ 0 := fun e => q ((Int.mul_eq_zero.1 e).elim id id)
              omega
            · have : fy n * fy n ≠ 0 := fun e => q ((Int.mul_eq_zero.1 e).elim id id)
              omega
          have key : ux * px + uy * py ≤ D * helpN n fx fy ux uy := by
            obtain ⟨w1, w2⟩ := hW n (by omega) hne
            obtain ⟨m, hm⟩ : ∃ m, m = fx n * uy - fy n * ux := ⟨_, rfl⟩
            obtain ⟨q, hq, hq0, k, hk, e1, e2⟩ : ∃ q ∈ W, q.1 * fx n + q.2 * fy n = 0 ∧ ∃ k : Int, 0 ≤ k ∧ (fx n * fx n + fy n * fy n) * ux = k * q.1 ∧ (fx n * fx n + fy n * fy n) * uy = k * q.2 := by
              rcases Int.le_total 0 m with h0 | h0
              · exact ⟨_, w1, by grind, m, h0, by grind, by grind⟩
              · exact ⟨_, w2, by grind, -m, by omega, by grind, by grind⟩
            have a1 := hstep q hq
            rw [hq0] at a1
            simp at a1
            have a2 := Int.mul_le_mul_of_nonneg_left a1 hk
            have a3 := helpN_mul (n := n) (fx := fx) (fy := fy) hk q.1 q.2
            have a4 := helpN_mul (n := n) (fx := fx) (fy := fy) (Int.le_of_lt hf) ux uy
            rw [e1, e2] at a4
            have a5 : (fx n * fx n + fy n * fy n) * (ux * px + uy * py) ≤ (fx n * fx n + fy n * fy n) * (D * helpN n fx fy ux uy) := by
              have b1 : (fx n * fx n + fy n * fy n) * (ux * px + uy * py) = k * (q.1 * px + q.2 * py) := by grind
              have b2 : (fx n * fx n + fy n * fy n) * (D * helpN n fx fy ux uy) = k * (D * helpN n fx fy q.1 q.2) := by grind
              rw [b1, b2]; exact a2
            exact Int.le_of_mul_le_mul_left a5 hf
          have hD2 := Int.mul_le_mul_of_nonneg_left hsub (Int.le_of_lt hD)
          rw [hux, huy] at key
          grind)
    have ha0 := hab (-1, 0) (List.mem_cons_self ..)
    have ha1 := hab (1, D) (List.mem_cons.2 (.inr (List.mem_cons_self ..)))
    simp only at ha0 ha1
    obtain ⟨E, t, hE, ht, hx, hy⟩ := zonotope W fx fy hax n (fun i hi => hW i (by omega)) (b * px + a * fx n) (b * py + a * fy n) (D * b) (Int.mul_pos hD hb) (fun w hw => by
      have := hab _ (hin w hw)
      simp only at this
      grind)
    refine ⟨E * b, fun i => if i = n then E * a else t i, Int.mul_pos hE hb, fun i hi => ?_, ?_, ?_⟩
    · by_cases q : i = n
      · simp only [q, if_true]
        refine ⟨Int.mul_nonneg (Int.le_of_lt hE) (by omega), ?_⟩
        have := Int.mul_le_mul_of_nonneg_left (show a ≤ b * D by omega) (Int.le_of_lt hE)
        grind
      · simp only [q, if_false]
        have := ht i (by omega)
        refine ⟨this.1, ?_⟩
        have e : D * b * E = D * (E * b) := by grind
        omega
    · rw [sumN, sumN_congr (g' := fun i => t i * fx i) n (fun i hi => by simp [show i ≠ n by omega])]
      simp only [if_true]
      grind
    · rw [sumN, sumN_congr (g' := fun i => t i * fy i) n (fun i hi => by simp [show i ≠ n by omega])]
      simp only [if_true]
      grind

/-- How many of the first n numbers are right. -/
def cnt (p : Nat → Prop) [DecidablePred p] : Nat → Nat
  | 0 => 0
  | n + 1 => cnt p n + if p n then 1 else 0
theorem cnt_le {p q : Nat → Prop} [DecidablePred p] [DecidablePred q] : ∀ n, (∀ i, i < n → p i → q i) → cnt p n ≤ cnt q n
  | 0, _ => Nat.le_refl _
  | n + 1, h => by
    have h1 := cnt_le (p := p) (q := q) n (fun i hi => h i (by omega))
    have h2 := h n (by omega)
    simp only [cnt]
    by_cases a : p n
    · rw [if_pos a, if_pos (h2 a)]; omega
    · rw [if_neg a]; omega
theorem cnt_lt {p q : Nat → Prop} [DecidablePred p] [DecidablePred q] {j : Nat} : ∀ n, j < n → (∀ i, i < n → p i → q i) → q j → ¬ p j → cnt p n < cnt q n
  | 0, hj, _, _, _ => by omega
  | n + 1, hj, h, hq, hp => by
    simp only [cnt]
    by_cases e : j = n
    · subst e
      have h1 := cnt_le (p := p) (q := q) j (fun i hi => h i (by omega))
      rw [if_neg hp, if_pos hq]; omega
    · have h1 := cnt_lt (p := p) (q := q) n (by omega) (fun i hi => h i (by omega)) hq hp
      have h2 := h n (by omega)
      by_cases a : p n
      · rw [if_pos a, if_pos (h2 a)]; omega
      · rw [if_neg a]; omega
/-- t, of D, balances p. -/
structure Sol (n : Nat) (fx fy : Nat → Int) (px py D : Int) (t : Nat → Int) : Prop where
  pos : 0 < D
  rng : ∀ i, i < n → 0 ≤ t i ∧ t i ≤ D
  sx : D * px + sumN n (fun i => t i * fx i) = 0
  sy : D * py + sumN n (fun i => t i * fy i) = 0
abbrev frac (D : Int) (t : Nat → Int) (i : Nat) : Prop := 0 < t i ∧ t i < D
theorem least (r k : Nat → Int) : ∀ n, (∃ i, i < n ∧ k i ≠ 0) → ∃ j, j < n ∧ k j ≠ 0 ∧ ∀ i, i < n → k i ≠ 0 → r j * (k i).natAbs ≤ r i * (k j).natAbs
  | 0, h => by obtain ⟨i, hi, _⟩ := h; omega
  | n + 1, h => by
    by_cases hL : ∃ i, i < n ∧ k i ≠ 0
    · obtain ⟨j, hj, hj1, hj2⟩ := least r k n hL
      by_cases hz : k n ≠ 0
      · by_cases hc : r j * (k n).natAbs ≤ r n * (k j).natAbs
        · refine ⟨j, by omega, hj1, fun i hi hi1 => ?_⟩
          by_cases e : i = n
          · subst e; exact hc
          · exact hj2 i (by omega) hi1
        · refine ⟨n, by omega, hz, fun i hi hi1 => ?_⟩
          by_cases e : i = n
          · subst e; exact Int.le_refl _
          · have h1 := hj2 i (by omega) hi1
            have h2 : r n * (k j).natAbs ≤ r j * (k n).natAbs := by omega
            have p1 : (0 : Int) < (k j).natAbs := by omega
            have p2 : (0 : Int) < (k n).natAbs := by omega
            have p3 : (0 : Int) < (k i).natAbs := by omega
            have h3 := Int.mul_le_mul_of_nonneg_left h1 (Int.le_of_lt p2)
            have h4 := Int.mul_le_mul_of_nonneg_left h2 (Int.le_of_lt p3)
            have h5 : ((k j).natAbs : Int) * (r n * (k i).natAbs) ≤ (k j).natAbs * (r i * (k n).natAbs) := by grind
            exact Int.le_of_mul_le_mul_left h5 p1
      · refine ⟨j, by omega, hj1, fun i hi hi1 => ?_⟩
        by_cases e : i = n
        · subst e; exact absurd hi1 hz
        · exact hj2 i (by omega) hi1
    · obtain ⟨i, hi, hi1⟩ := h
      obtain rfl : i = n := by
        rcases Nat.lt_or_eq_of_le (Nat.le_of_lt_succ hi) with h | h
        · exact absurd ⟨i, h, hi1⟩ hL
        · exact h
      refine ⟨i, hi, hi1, fun k hk hk1 => ?_⟩
      by_cases e : k = i
      · subst e; exact Int.le_refl _
      · exact absurd ⟨k, by omega, hk1⟩ hL
/-- Along a way on which nothing changes, until one part is none or all. -/
theorem Sol.reduce {n : Nat} {fx fy : Nat → Int} {px py D : Int} {t : Nat → Int} (h : Sol n fx fy px py D t) (k : Nat → Int) (hk : ∀ i, i < n → k i ≠ 0 → frac D t i) (hne : ∃ i, i < n ∧ k i ≠ 0) (hx : sumN n (fun i => k i * fx i) = 0) (hy : sumN n (fun i => k i * fy i) = 0) :
    ∃ D' t', Sol n fx fy px py D' t' ∧ cnt (frac D' t') n < cnt (frac D t) n := by
  obtain ⟨r, hr⟩ : ∃ r : Nat → Int, r = fun i => if 0 < k i then D - t i else t i := ⟨_, rfl⟩
  obtain ⟨j, hj, hj1, hj2⟩ := least r k n hne
  have hfj := hk j hj hj1
  have hD := h.pos
  obtain ⟨b, hb⟩ : ∃ b : Int, b = (k j).natAbs := ⟨_, rfl⟩
  obtain ⟨a, ha⟩ : ∃ a : Int, a = r j := ⟨_, rfl⟩
  have hb0 : 0 < b := by omega
  have ha0 : 0 < a := by rw [ha, hr]; simp only; split <;> omega
  have hin : ∀ i, i < n → k i ≠ 0 → 0 ≤ b * t i + a * k i ∧ b * t i + a * k i ≤ D * b := fun i hi hi1 => by
    have h1 := hj2 i hi hi1
    rw [← hb, ← ha] at h1
    have h2 := hk i hi hi1
    have h3 := Int.mul_nonneg (Int.le_of_lt hb0) (Int.le_of_lt h2.1)
    have h4 := Int.mul_le_mul_of_nonneg_left (Int.le_of_lt h2.2) (Int.le_of_lt hb0)
    by_cases q : 0 < k i
    · have e : r i = D - t i := by rw [hr]; simp only [if_pos q]
      rw [e, Int.natAbs_of_nonneg (Int.le_of_lt q)] at h1
      have h5 := Int.mul_nonneg (Int.le_of_lt ha0) (Int.le_of_lt q)
      constructor
      · omega
      · grind
    · have e : r i = t i := by rw [hr]; simp only [if_neg q]
      rw [e, show ((k i).natAbs : Int) = -(k i) by omega] at h1
      have h5 := Int.mul_nonneg (Int.le_of_lt ha0) (show 0 ≤ -(k i) by omega)
      constructor
      · grind
      · grind
  refine ⟨D * b, fun i => b * t i + a * k i, ⟨Int.mul_pos hD hb0, fun i hi => ?_, ?_, ?_⟩, cnt_lt n hj (fun i hi hf => ?_) hfj ?_⟩
  · by_cases q : k i = 0
    · have h2 := h.rng i hi
      simp only [q, Int.mul_zero, Int.add_zero]
      refine ⟨Int.mul_nonneg (Int.le_of_lt hb0) h2.1, ?_⟩
      rw [Int.mul_comm D]
      exact Int.mul_le_mul_of_nonneg_left h2.2 (Int.le_of_lt hb0)
    · exact hin i hi q
  · have e : sumN n (fun i => (b * t i + a * k i) * fx i) = b * sumN n (fun i => t i * fx i) + a * sumN n (fun i => k i * fx i) := by
      rw [← sumN_mul, ← sumN_mul, ← sumN_add]
      exact sumN_congr n fun i _ => by grind
    rw [e, hx]
    have := h.sx
    grind
  · have e : sumN n (fun i => (b * t i + a * k i) * fy i) = b * sumN n (fun i => t i * fy i) + a * sumN n (fun i => k i * fy i) := by
      rw [← sumN_mul, ← sumN_mul, ← sumN_add]
      exact sumN_congr n fun i _ => by grind
    rw [e, hy]
    have := h.sy
    grind
  · by_cases q : k i = 0
    · obtain ⟨f1, f2⟩ := hf
      simp only [q, Int.mul_zero, Int.add_zero] at f1 f2
      refine ⟨?_, ?_⟩
      · exact Int.pos_of_mul_pos_right f1 hb0
      · rw [Int.mul_comm D] at f2
        exact Int.lt_of_mul_lt_mul_left f2 (Int.le_of_lt hb0)
    · exact hk i hi q
  · intro hf
    obtain ⟨f1, f2⟩ := hf
    dsimp only at f1 f2
    by_cases q : 0 < k j
    · have e : a = D - t j := by rw [ha, hr]; simp only [if_pos q]
      have e2 : k j = b := by omega
      rw [e2, e] at f2
      have : b * t j + (D - t j) * b = D * b := by grind
      omega
    · have e : a = t j := by rw [ha, hr]; simp only [if_neg q]
      have e2 : k j = -b := by omega
      rw [e2, e] at f1
      have : b * t j + t j * -b = 0 := by grind
      omega
/-- A balance in which few forces pull in part. -/
structure Basic (n : Nat) (fx fy : Nat → Int) (D : Int) (t : Nat → Int) : Prop where
  one : ∀ i, i < n → frac D t i → fx i ≠ 0 ∨ fy i ≠ 0
  two : ∀ i j, i < n → j < n → i ≠ j → frac D t i → frac D t j → fx i * fy j - fy i * fx j ≠ 0
  three : ∀ i j k, i < n → j < n → k < n → i ≠ j → i ≠ k → j ≠ k → frac D t i → frac D t j → ¬ frac D t k
theorem Sol.basic {n : Nat} {fx fy : Nat → Int} {px py : Int} : ∀ (m : Nat) (D : Int) (t : Nat → Int), Sol n fx fy px py D t → cnt (frac D t) n ≤ m → ∃ D' t', Sol n fx fy px py D' t' ∧ Basic n fx fy D' t'
  | m, D, t, h, hm => by
    by_cases hred : ∃ k : Nat → Int, (∀ i, i < n → k i ≠ 0 → frac D t i) ∧ (∃ i, i < n ∧ k i ≠ 0) ∧ sumN n (fun i => k i * fx i) = 0 ∧ sumN n (fun i => k i * fy i) = 0
    · obtain ⟨k, h1, h2, h3, h4⟩ := hred
      obtain ⟨D', t', hs, hc⟩ := h.reduce k h1 h2 h3 h4
      cases m with
      | zero => omega
      | succ m => exact Sol.basic m D' t' hs (by omega)
    · have hone : ∀ i, i < n → frac D t i → fx i ≠ 0 ∨ fy i ≠ 0 := fun i hi hf => by
        refine Decidable.byContradiction fun hn => hred ⟨fun j => if j = i then 1 else 0, fun j hj h1 => ?_, ⟨i, hi, by simp⟩, ?_, ?_⟩
        · by_cases e : j = i
          · subst e; exact hf
          · simp [e] at h1
        · rw [sumN_one (a := i) n hi (fun j _ hj => by simp [hj])]; simp; omega
        · rw [sumN_one (a := i) n hi (fun j _ hj => by simp [hj])]; simp; omega
      have htwo : ∀ i j, i < n → j < n → i ≠ j → frac D t i → frac D t j → fx i * fy j - fy i * fx j ≠ 0 := fun i j hi hj hij hfi hfj hc => by
        have hgo : ∀ (g : Nat → Int), g j * fx i - g i * fx j = 0 → g j * fy i - g i * fy j = 0 → (g i ≠ 0 ∨ g j ≠ 0) → False := fun g e1 e2 hg => by
          refine hred ⟨fun l => if l = i then g j else if l = j then -(g i) else 0, fun l hl h1 => ?_, ?_, ?_, ?_⟩
          · by_cases a : l = i
            · subst a; exact hfi
            · by_cases b : l = j
              · subst b; exact hfj
              · simp [a, b] at h1
          · rcases hg with q | q
            · exact ⟨j, hj, by simp [Ne.symm hij]; exact q⟩
            · exact ⟨i, hi, by simp; exact q⟩
          · rw [sumN_two (a := i) (b := j) hi hj hij (fun l _ h1 h2 => by simp [h1, h2])]; simp [Ne.symm hij]; grind
          · rw [sumN_two (a := i) (b := j) hi hj hij (fun l _ h1 h2 => by simp [h1, h2])]; simp [Ne.symm hij]; grind
        by_cases q : fx i ≠ 0 ∨ fx j ≠ 0
        · exact hgo fx (by grind) (by grind) q
        · have h1 := hone i hi hfi
          exact hgo fy (by grind) (by grind) (by omega)
      refine ⟨D, t, h, hone, htwo, fun i j k hi hj hk hij hik hjk f1 f2 f3 => ?_⟩
      have h1 := htwo i j hi hj hij f1 f2
      refine hred ⟨fun l => if l = i then fx j * fy k - fy j * fx k else if l = j then fx k * fy i - fy k * fx i else if l = k then fx i * fy j - fy i * fx j else 0, fun l hl h1 => ?_, ⟨k, hk, by simp [Ne.symm hik, Ne.symm hjk]; exact h1⟩, ?_, ?_⟩
      · by_cases a : l = i
        · subst a; exact f1
        · by_cases b : l = j
          · subst b; exact f2
          · by_cases c : l = k
            · subst c; exact f3
            · simp [a, b, c] at h1
      · rw [sumN_three (a := i) (b := j) (c := k) hi hj hk hij hik hjk (fun l _ h1 h2 h3 => by simp [h1, h2, h3])]; simp [Ne.symm hij, Ne.symm hik, Ne.symm hjk]; grind
      · rw [sumN_three (a := i) (b := j) (c := k) hi hj hk hij hik hjk (fun l _ h1 h2 h3 => by simp [h1, h2, h3])]; simp [Ne.symm hij, Ne.symm hik, Ne.symm hjk]; grind
end Go.Zono
namespace Go.BT
open Go
/-! ### The search for a balance, as the program goes about it. -/
def bitB (s i : Nat) : Bool := s.testBit i
def dotV (a b : Vec) : Int := a.x * b.x + a.y * b.y
def crossV (a b : Vec) : Int := a.x * b.y - a.y * b.x
def timesV (v : Vec) (n : Int) : Vec := ⟨n * v.x, n * v.y⟩
def addV (a b : Vec) : Vec := ⟨a.x + b.x, a.y + b.y⟩
def noBal : Bal := ⟨0, []⟩
def atV (F : List Vec) (i : Nat) : Vec := F.getD i ⟨0, 0⟩
/-- The sum of the forces of a set, of the first k. -/
def fullK (F : List Vec) (s : Nat) : Nat → Vec
  | 0 => ⟨0, 0⟩
  | k + 1 => if bitB s k then addV (fullK F s k) (atV F k) else fullK F s k
def fullV (F : List Vec) (s : Nat) : Vec := fullK F s F.length
def needV (F : List Vec) (p : Vec) (s : Nat) : Vec := timesV (addV p (fullV F s)) (-1)
def setP (n s : Nat) (wh : Int) : List Int := (List.range n).map fun i => if bitB s i then wh else 0
def parts0 (n s : Nat) (wh : Int) : Bal := ⟨wh, setP n s wh⟩
def parts1 (n s : Nat) (wh : Int) (a : Nat) (u : Int) : Bal := ⟨wh, (setP n s wh).set a u⟩
def parts2 (n s : Nat) (wh : Int) (a : Nat) (u : Int) (b : Nat) (v : Int) : Bal := ⟨wh, ((setP n s wh).set a u).set b v⟩
def withinB (n lo hi : Int) : Bool := decide (lo ≤ n) && decide (n ≤ hi)
/-- The fraction that a force pulls of what is needed (numerator, denominator). -/
def ratio (f need : Vec) : Int × Int :=
  let q := if f.x = 0 then (need.y, f.y) else (need.x, f.x)
  if q.2 < 0 then (-q.1, -q.2) else q
def aloneL (F : List Vec) (need : Vec) (s a : Nat) : Bal × Bool :=
  if dotV (atV F a) (atV F a) = 0 ∨ crossV (atV F a) need ≠ 0 then (noBal, false)
  else (parts1 F.length s (ratio (atV F a) need).2 a (ratio (atV F a) need).1, withinB (ratio (atV F a) need).1 0 (ratio (atV F a) need).2)
def crs (f g need : Vec) : Int × Int × Int := if crossV f g < 0 then (-(crossV f g), -(crossV need g), -(crossV f need)) else (crossV f g, crossV need g, crossV f need)
def bothL (F : List Vec) (need : Vec) (s a b : Nat) : Bal × Bool :=
  (parts2 F.length s (crs (atV F a) (atV F b) need).1 a (crs (atV F a) (atV F b) need).2.1 b (crs (atV F a) (atV F b) need).2.2,
    decide (0 < (crs (atV F a) (atV F b) need).1) && withinB (crs (atV F a) (atV F b) need).2.1 0 (crs (atV F a) (atV F b) need).1 && withinB (crs (atV F a) (atV F b) need).2.2 0 (crs (atV F a) (atV F b) need).1)
def stepB (F : List Vec) (need : Vec) (s a : Nat) (st : Bal × Bool) (b : Nat) : Bal × Bool := if st.2 = true then st else if bitB s b = true then st else bothL F need s a b
def stepA (F : List Vec) (need : Vec) (s : Nat) (st : Bal × Bool) (a : Nat) : Bal × Bool :=
  if st.2 = true then st else if bitB s a = true then st else if (aloneL F need s a).2 = true then aloneL F need s a else (List.range a).foldl (stepB F need s a) (aloneL F need s a)
def stepS (F : List Vec) (p : Vec) (st : Bal × Bool) (s : Nat) : Bal × Bool :=
  if st.2 = true then st else if needV F p s = ⟨0, 0⟩ then (parts0 F.length s 1, true) else (List.range F.length).foldl (stepA F (needV F p s) s) st
def searchL (F : List Vec) (p : Vec) : Bal × Bool := (List.range (2 ^ F.length)).foldl (stepS F p) (noBal, false)

/-! ### What the document asks. -/
def helpL (F : List Vec) (w : Vec) : Int := (F.map fun f => max 0 (-(dotV w f))).sum
def waysL (F : List Vec) : List Vec := [⟨1, 0⟩, ⟨0, 1⟩, ⟨-1, 0⟩, ⟨0, -1⟩] ++ F.flatMap fun f => [f, timesV f (-1), ⟨-f.y, f.x⟩, ⟨f.y, -f.x⟩]
def balL (F : List Vec) (p : Vec) : Bool := (waysL F).all fun w => decide (dotV w p ≤ helpL F w)
def sumPX (F : List Vec) (ps : List Int) : Int := Zono.sumN F.length fun i => ps.getD i 0 * (atV F i).x
def sumPY (F : List Vec) (ps : List Int) : Int := Zono.sumN F.length fun i => ps.getD i 0 * (atV F i).y
def isBalL (F : List Vec) (p : Vec) (b : Bal) : Bool :=
  withinB b.whole 1 500000000000 && decide (b.parts.length = F.length) && b.parts.all (fun t => withinB t 0 b.whole) && decide (b.whole * p.x + sumPX F b.parts = 0) && decide (b.whole * p.y + sumPY F b.parts = 0)

/-! ### A search that ends at the first hit. -/
theorem fold_stop {α : Type} {f : Bal × Bool → α → Bal × Bool} {hit : α → Bool} {P : Bal → Prop} (h1 : ∀ st x, st.2 = true → f st x = st) (h2 : ∀ st x, st.2 = false → (f st x).2 = hit x) :
    ∀ (l : List α) (_ : ∀ st x, x ∈ l → st.2 = false → hit x = true → P (f st x).1) (st : Bal × Bool), ((l.foldl f st).2 = true ↔ st.2 = true ∨ l.any hit = true) ∧ ((st.2 = true → P st.1) → (l.foldl f st).2 = true → P (l.foldl f st).1)
  | [], _, st => by simp
  | x :: l, h3, st => by
    obtain ⟨i1, i2⟩ := fold_stop h1 h2 l (fun st y hy => h3 st y (by simp [hy])) (f st x)
    rw [List.foldl_cons]
    cases q : st.2 with
    | true =>
      rw [h1 st x q] at i1 i2 ⊢
      refine ⟨i1.trans ?_, fun hp => i2 (fun _ => hp rfl)⟩
      simp [q]
    | false =>
      refine ⟨i1.trans ?_, fun hp => i2 fun hx => h3 st x (by simp) q (by rw [← h2 st x q]; exact hx)⟩
      rw [h2 st x q]
      simp
theorem fold_stay {α : Type} {f : Bal × Bool → α → Bal × Bool} (h1 : ∀ st x, st.2 = true → f st x = st) (l : List α) (st : Bal × Bool) (h : st.2 = true) : l.foldl f st = st := by
  induction l with
  | nil => rfl
  | cons x l ih => rw [List.foldl_cons, h1 st x h, ih]
def hitB (F : List Vec) (need : Vec) (s a b : Nat) : Bool := !bitB s b && (bothL F need s a b).2
def hitA (F : List Vec) (need : Vec) (s a : Nat) : Bool := !bitB s a && ((aloneL F need s a).2 || (List.range a).any (hitB F need s a))
def hitS (F : List Vec) (p : Vec) (s : Nat) : Bool := decide (needV F p s = ⟨0, 0⟩) || (List.range F.length).any (hitA F (needV F p s) s)
/-- A balance of a push, but for the greatest whole. -/
def okBal (F : List Vec) (p : Vec) (b : Bal) : Prop := b.parts.length = F.length ∧ 1 ≤ b.whole ∧ b.whole ≤ 500000000000 ∧ (∀ t ∈ b.parts, 0 ≤ t ∧ t ≤ b.whole) ∧ b.whole * p.x + sumPX F b.parts = 0 ∧ b.whole * p.y + sumPY F b.parts = 0
theorem okBal.is {F : List Vec} {p : Vec} {b : Bal} (h : okBal F p b) : isBalL F p b = true := by
  obtain ⟨h1, h2, h3, h4, h5, h6⟩ := h
  simp only [isBalL, withinB, Bool.and_eq_true, decide_eq_true_eq, List.all_eq_true]
  exact ⟨⟨⟨⟨⟨h2, h3⟩, h1⟩, fun t ht => h4 t ht⟩, h5⟩, h6⟩
theorem setP_len (n s : Nat) (wh : Int) : (setP n s wh).length = n := by simp [setP]
theorem setP_get {n s i : Nat} {wh : Int} (hi : i < n) : (setP n s wh).getD i 0 = if bitB s i then wh else 0 := by simp [setP, List.getD_eq_getElem?_getD, hi]
theorem setP_mem {n s : Nat} {wh t : Int} (h : t ∈ setP n s wh) : t = wh ∨ t = 0 := by
  obtain ⟨i, _, rfl⟩ := List.mem_map.1 h
  cases bitB s i <;> simp
theorem full_x (F : List Vec) (s : Nat) (wh : Int) : ∀ k, Zono.sumN k (fun i => (if bitB s i then wh else 0) * (atV F i).x) = wh * (fullK F s k).x
  | 0 => by simp [Zono.sumN, fullK]
  | k + 1 => by
    simp only [Zono.sumN, fullK, full_x F s wh k]
    cases bitB s k <;> simp [addV, Int.mul_add]
theorem full_y (F : List Vec) (s : Nat) (wh : Int) : ∀ k, Zono.sumN k (fun i => (if bitB s i then wh else 0) * (atV F i).y) = wh * (fullK F s k).y
  | 0 => by simp [Zono.sumN, fullK]
  | k + 1 => by
    simp only [Zono.sumN, fullK, full_y F s wh k]
    cases bitB s k <;> simp [addV, Int.mul_add]
theorem getD_part {l : List Int} {a i : Nat} {u : Int} (ha : a < l.length) : (l.set a u).getD i 0 = if i = a then u else l.getD i 0 := by
  simp only [List.getD_eq_getElem?_getD, List.getElem?_set]
  by_cases q : a = i
  · subst q; simp [ha]
  · rw [if_neg q, if_neg (Ne.symm q)]
/-- What one more part adds. -/
theorem sum_set {n : Nat} {l : List Int} {g : Nat → Int} {a : Nat} {u : Int} (ha : a < l.length) (hn : a < n) (h0 : l.getD a 0 = 0) : Zono.sumN n (fun i => (l.set a u).getD i 0 * g i) = Zono.sumN n (fun i => l.getD i 0 * g i) + u * g a := by
  have e : ∀ i, i < n → (l.set a u).getD i 0 * g i = l.getD i 0 * g i + (if i = a then u * g a else 0) := fun i _ => by
    rw [getD_part ha]
    by_cases q : i = a
    · subst q; rw [if_pos rfl, if_pos rfl, h0]; simp
    · rw [if_neg q, if_neg q]; simp
  rw [Zono.sumN_congr n e, Zono.sumN_add, Zono.sumN_one (g := fun i => if i = a then u * g a else 0) (a := a) n hn (fun i _ hi => if_neg hi), if_pos rfl]
theorem sumP0 (F : List Vec) (s : Nat) (wh : Int) : sumPX F (setP F.length s wh) = wh * (fullV F s).x ∧ sumPY F (setP F.length s wh) = wh * (fullV F s).y := by
  unfold sumPX sumPY fullV
  rw [← full_x, ← full_y]
  exact ⟨Zono.sumN_congr _ fun i hi => by rw [setP_get hi], Zono.sumN_congr _ fun i hi => by rw [setP_get hi]⟩
theorem need_x (F : List Vec) (p : Vec) (s : Nat) : (needV F p s).x = -(p.x + (fullV F s).x) := by simp [needV, timesV, addV]
theorem need_y (F : List Vec) (p : Vec) (s : Nat) : (needV F p s).y = -(p.y + (fullV F s).y) := by simp [needV, timesV, addV]
theorem vec_zero {v : Vec} (h : v = ⟨0, 0⟩) : v.x = 0 ∧ v.y = 0 := by subst h; exact ⟨rfl, rfl⟩
theorem ok0 {F : List Vec} {p : Vec} {s : Nat} (h : needV F p s = ⟨0, 0⟩) : okBal F p (parts0 F.length s 1) := by
  obtain ⟨h1, h2⟩ := vec_zero h
  obtain ⟨e1, e2⟩ := sumP0 F s 1
  rw [need_x] at h1
  rw [need_y] at h2
  refine ⟨setP_len _ _ _, by show (1 : Int) ≤ 1; decide, by show (1 : Int) ≤ 500000000000; decide, fun t ht => ?_, ?_, ?_⟩
  · show 0 ≤ t ∧ t ≤ 1
    rcases setP_mem ht with rfl | rfl <;> decide
  · show 1 * p.x + sumPX F (setP F.length s 1) = 0
    rw [e1]; omega
  · show 1 * p.y + sumPY F (setP F.length s 1) = 0
    rw [e2]; omega
/-- The forces of valid guys. -/
def smallV (F : List Vec) : Prop := ∀ f ∈ F, -500000 ≤ f.x ∧ f.x ≤ 500000 ∧ -500000 ≤ f.y ∧ f.y ≤ 500000
theorem smallV.at {F : List Vec} (h : smallV F) (i : Nat) : -500000 ≤ (atV F i).x ∧ (atV F i).x ≤ 500000 ∧ -500000 ≤ (atV F i).y ∧ (atV F i).y ≤ 500000 := by
  unfold atV
  rw [List.getD_eq_getElem?_getD]
  by_cases q : i < F.length
  · rw [List.getElem?_eq_getElem q]; exact h _ (List.getElem_mem q)
  · rw [List.getElem?_eq_none (by omega)]; exact ⟨by decide, by decide, by decide, by decide⟩
theorem ratio_ok {f need : Vec} (hd : ¬ dotV f f = 0) (hc : crossV f need = 0) : 0 < (ratio f need).2 ∧ ((ratio f need).2 = f.x ∨ (ratio f need).2 = -f.x ∨ (ratio f need).2 = f.y ∨ (ratio f need).2 = -f.y) ∧ (ratio f need).2 * need.x = (ratio f need).1 * f.x ∧ (ratio f need).2 * need.y = (ratio f need).1 * f.y := by
  unfold crossV at hc
  unfold dotV at hd
  unfold ratio
  dsimp only
  by_cases q : f.x = 0
  · rw [if_pos q]
    rw [q] at hc hd
    have hy : f.y ≠ 0 := fun e => hd (by rw [e]; rfl)
    have hn : need.x = 0 := by
      have : f.y * need.x = 0 := by omega
      exact (Int.mul_eq_zero.1 this).resolve_left hy
    dsimp only
    split
    · refine ⟨by dsimp only; omega, .inr (.inr (.inr rfl)), ?_, ?_⟩
      · rw [hn, q]; simp
      · dsimp only; grind
    · refine ⟨by dsimp only; omega, .inr (.inr (.inl rfl)), ?_, ?_⟩
      · rw [hn, q]; simp
      · dsimp only; grind
  · rw [if_neg q]
    dsimp only
    split
    · refine ⟨by dsimp only; omega, .inr (.inl rfl), ?_, ?_⟩
      · dsimp only; grind
      · dsimp only; grind
    · refine ⟨by dsimp only; omega, .inl rfl, ?_, ?_⟩
      · dsimp only; grind
      · dsimp only; grind
theorem ok1 {F : List Vec} {p : Vec} {s a : Nat} (hF : smallV F) (ha : a < F.length) (hb : bitB s a = false) (h : (aloneL F (needV F p s) s a).2 = true) : okBal F p (aloneL F (needV F p s) s a).1 := by
  unfold aloneL at h ⊢
  split at h
  · simp at h
  · rename_i hn
    rw [if_neg hn]
    dsimp only at h ⊢
    have hd : ¬ dotV (atV F a) (atV F a) = 0 := fun e => hn (.inl e)
    have hc : crossV (atV F a) (needV F p s) = 0 := Decidable.byContradiction fun e => hn (.inr e)
    obtain ⟨r1, r2, r3, r4⟩ := ratio_ok hd hc
    simp only [withinB, Bool.and_eq_true, decide_eq_true_eq] at h
    have hs := hF.at a
    obtain ⟨u, hu⟩ : ∃ u, u = (ratio (atV F a) (needV F p s)).1 := ⟨_, rfl⟩
    obtain ⟨d, hdd⟩ : ∃ u, u = (ratio (atV F a) (needV F p s)).2 := ⟨_, rfl⟩
    simp only [← hu, ← hdd] at r1 r2 r3 r4 h ⊢
    have hsl : a < (setP F.length s d).length := by rw [setP_len]; exact ha
    have h0 : (setP F.length s d).getD a 0 = 0 := by rw [setP_get ha, hb]; rfl
    obtain ⟨e1, e2⟩ := sumP0 F s d
    refine ⟨by simp [parts1, setP_len], by show 1 ≤ d; omega, by show d ≤ 500000000000; omega, fun t ht => ?_, ?_, ?_⟩
    · rcases List.mem_or_eq_of_mem_set ht with ht | rfl
      · show 0 ≤ t ∧ t ≤ d
        rcases setP_mem ht with rfl | rfl <;> omega
      · exact h
    · show d * p.x + sumPX F ((setP F.length s d).set a u) = 0
      unfold sumPX at e1 ⊢
      rw [sum_set hsl ha h0, e1]
      rw [need_x] at r3
      grind
    · show d * p.y + sumPY F ((setP F.length s d).set a u) = 0
      unfold sumPY at e2 ⊢
      rw [sum_set hsl ha h0, e2]
      rw [need_y] at r4
      grind
theorem crs_ok (f g need : Vec) : ((crs f g need).1 = crossV f g ∨ (crs f g need).1 = -crossV f g) ∧ 0 ≤ (crs f g need).1 ∧ (crs f g need).1 * need.x = (crs f g need).2.1 * f.x + (crs f g need).2.2 * g.x ∧ (crs f g need).1 * need.y = (crs f g need).2.1 * f.y + (crs f g need).2.2 * g.y := by
  unfold crs
  split
  · refine ⟨.inr rfl, by dsimp only; omega, ?_, ?_⟩ <;> dsimp only [crossV] <;> grind
  · refine ⟨.inl rfl, by dsimp only; omega, ?_, ?_⟩ <;> dsimp only [crossV] <;> grind
theorem mul_small {a b : Int} (ha : -500000 ≤ a ∧ a ≤ 500000) (hb : -500000 ≤ b ∧ b ≤ 500000) : -250000000000 ≤ a * b ∧ a * b ≤ 250000000000 := by
  have h1 := Int.mul_nonneg (show 0 ≤ 500000 - a by omega) (show 0 ≤ 500000 - b by omega)
  have h2 := Int.mul_nonneg (show 0 ≤ 500000 + a by omega) (show 0 ≤ 500000 + b by omega)
  have h3 := Int.mul_nonneg (show 0 ≤ 500000 - a by omega) (show 0 ≤ 500000 + b by omega)
  have h4 := Int.mul_nonneg (show 0 ≤ 500000 + a by omega) (show 0 ≤ 500000 - b by omega)
  constructor <;> grind
theorem cross_small {F : List Vec} (hF : smallV F) (a b : Nat) : -500000000000 ≤ crossV (atV F a) (atV F b) ∧ crossV (atV F a) (atV F b) ≤ 500000000000 := by
  have h1 := hF.at a
  have h2 := hF.at b
  have m1 := mul_small ⟨h1.1, h1.2.1⟩ ⟨h2.2.2.1, h2.2.2.2⟩
  have m2 := mul_small ⟨h1.2.2.1, h1.2.2.2⟩ ⟨h2.1, h2.2.1⟩
  unfold crossV
  omega
theorem ok2 {F : List Vec} {p : Vec} {s a b : Nat} (hF : smallV F) (ha : a < F.length) (hba : b < a) (hsa : bitB s a = false) (hsb : bitB s b = false) (h : (bothL F (needV F p s) s a b).2 = true) : okBal F p (bothL F (needV F p s) s a b).1 := by
  unfold bothL at h ⊢
  dsimp only at h ⊢
  simp only [withinB, Bool.and_eq_true, decide_eq_true_eq] at h
  obtain ⟨r0, r1, r2, r3⟩ := crs_ok (atV F a) (atV F b) (needV F p s)
  have hcs := cross_small hF a b
  obtain ⟨d, hdd⟩ : ∃ u, u = (crs (atV F a) (atV F b) (needV F p s)).1 := ⟨_, rfl⟩
  obtain ⟨u, hu⟩ : ∃ u, u = (crs (atV F a) (atV F b) (needV F p s)).2.1 := ⟨_, rfl⟩
  obtain ⟨v, hv⟩ : ∃ u, u = (crs (atV F a) (atV F b) (needV F p s)).2.2 := ⟨_, rfl⟩
  simp only [← hdd, ← hu, ← hv] at r0 r1 r2 r3 h ⊢
  obtain ⟨⟨h1, h2, h3⟩, h4, h5⟩ := h
  have hsl : a < (setP F.length s d).length := by rw [setP_len]; exact ha
  have hsl2 : b < ((setP F.length s d).set a u).length := by rw [List.length_set, setP_len]; omega
  have h0 : (setP F.length s d).getD a 0 = 0 := by rw [setP_get ha, hsa]; rfl
  have h02 : ((setP F.length s d).set a u).getD b 0 = 0 := by rw [getD_part hsl, if_neg (by omega), setP_get (by omega), hsb]; rfl
  obtain ⟨e1, e2⟩ := sumP0 F s d
  refine ⟨by simp [parts2, setP_len], by show 1 ≤ d; omega, by show d ≤ 500000000000; omega, fun t ht => ?_, ?_, ?_⟩
  · show 0 ≤ t ∧ t ≤ d
    rcases List.mem_or_eq_of_mem_set ht with ht | rfl
    · rcases List.mem_or_eq_of_mem_set ht with ht | rfl
      · rcases setP_mem ht with rfl | rfl <;> omega
      · omega
    · omega
  · show d * p.x + sumPX F (((setP F.length s d).set a u).set b v) = 0
    unfold sumPX at e1 ⊢
    rw [sum_set hsl2 (by omega) h02, sum_set hsl ha h0, e1]
    rw [need_x] at r2
    grind
  · show d * p.y + sumPY F (((setP F.length s d).set a u).set b v) = 0
    unfold sumPY at e2 ⊢
    rw [sum_set hsl2 (by omega) h02, sum_set hsl ha h0, e2]
    rw [need_y] at r3
    grind

theorem stepB_stop (F : List Vec) (need : Vec) (s a : Nat) (st : Bal × Bool) (b : Nat) (h : st.2 = true) : stepB F need s a st b = st := by unfold stepB; rw [if_pos h]
theorem stepA_stop (F : List Vec) (need : Vec) (s : Nat) (st : Bal × Bool) (a : Nat) (h : st.2 = true) : stepA F need s st a = st := by unfold stepA; rw [if_pos h]
theorem stepS_stop (F : List Vec) (p : Vec) (st : Bal × Bool) (s : Nat) (h : st.2 = true) : stepS F p st s = st := by unfold stepS; rw [if_pos h]
theorem stepB_hit (F : List Vec) (need : Vec) (s a : Nat) (st : Bal × Bool) (b : Nat) (h : st.2 = false) : (stepB F need s a st b).2 = hitB F need s a b := by
  unfold stepB hitB
  rw [if_neg (by rw [h]; decide)]
  cases q : bitB s b with
  | true => simp [h]
  | false => simp
theorem foldB (F : List Vec) (need : Vec) (s a : Nat) {P : Bal → Prop} (hP : ∀ b, b < a → bitB s b = false → (bothL F need s a b).2 = true → P (bothL F need s a b).1) (st : Bal × Bool) :
    (((List.range a).foldl (stepB F need s a) st).2 = true ↔ st.2 = true ∨ (List.range a).any (hitB F need s a) = true) ∧ ((st.2 = true → P st.1) → ((List.range a).foldl (stepB F need s a) st).2 = true → P ((List.range a).foldl (stepB F need s a) st).1) :=
  fold_stop (stepB_stop F need s a) (stepB_hit F need s a) _ (fun st b hb h0 h1 => by
    simp only [hitB, Bool.and_eq_true, Bool.not_eq_true'] at h1
    unfold stepB
    rw [if_neg (by rw [h0]; decide), if_neg (by rw [h1.1]; decide)]
    exact hP b (List.mem_range.1 hb) h1.1 h1.2) st
theorem bool_iff {a b : Bool} (h : a = true ↔ b = true) : a = b := by cases a <;> cases b <;> simp_all
theorem stepA_hit (F : List Vec) (need : Vec) (s : Nat) (st : Bal × Bool) (a : Nat) (h : st.2 = false) : (stepA F need s st a).2 = hitA F need s a := by
  unfold stepA hitA
  rw [if_neg (by rw [h]; decide)]
  cases q : bitB s a with
  | true => simp [h]
  | false =>
    rw [if_neg (by decide)]
    cases q2 : (aloneL F need s a).2 with
    | true => simp [q2]
    | false =>
      rw [if_neg (by decide)]
      have := (foldB F need s a (P := fun _ => True) (fun _ _ _ _ => trivial) (aloneL F need s a)).1
      rw [q2] at this
      simp only [Bool.not_false, Bool.true_and, Bool.false_or]
      exact bool_iff (this.trans (by simp))
theorem foldA (F : List Vec) (p : Vec) (s : Nat) (hF : smallV F) (st : Bal × Bool) :
    (((List.range F.length).foldl (stepA F (needV F p s) s) st).2 = true ↔ st.2 = true ∨ (List.range F.length).any (hitA F (needV F p s) s) = true) ∧ ((st.2 = true → okBal F p st.1) → ((List.range F.length).foldl (stepA F (needV F p s) s) st).2 = true → okBal F p ((List.range F.length).foldl (stepA F (needV F p s) s) st).1) :=
  fold_stop (stepA_stop F _ s) (stepA_hit F _ s) _ (fun st a ha h0 h1 => by
    have ha := List.mem_range.1 ha
    simp only [hitA, Bool.and_eq_true, Bool.not_eq_true'] at h1
    unfold stepA
    rw [if_neg (by rw [h0]; decide), if_neg (by rw [h1.1]; decide)]
    cases q2 : (aloneL F (needV F p s) s a).2 with
    | true => rw [if_pos rfl]; exact ok1 hF ha h1.1 q2
    | false =>
      rw [if_neg (by decide)]
      have hb := foldB F (needV F p s) s a (P := okBal F p) (fun b hb hsb h => ok2 hF ha hb h1.1 hsb h) (aloneL F (needV F p s) s a)
      refine hb.2 (fun e => by rw [q2] at e; simp at e) (hb.1.2 (.inr ?_))
      have := h1.2
      rw [q2] at this
      simpa using this) st
theorem stepS_hit (F : List Vec) (p : Vec) (st : Bal × Bool) (s : Nat) (h : st.2 = false) : (stepS F p st s).2 = hitS F p s := by
  unfold stepS hitS
  rw [if_neg (by rw [h]; decide)]
  by_cases q : needV F p s = ⟨0, 0⟩
  · rw [if_pos q]; simp [q]
  · rw [if_neg q]
    have := (fold_stop (P := fun _ => True) (stepA_stop F (needV F p s) s) (stepA_hit F (needV F p s) s) (List.range F.length) (fun _ _ _ _ _ => trivial) st).1
    rw [h] at this
    exact bool_iff (this.trans (by simp [q]))
/-- The search finds something exactly if there is a hit; what it finds is a balance. -/
theorem search_iff (F : List Vec) (p : Vec) (hF : smallV F) : ((searchL F p).2 = true ↔ (List.range (2 ^ F.length)).any (hitS F p) = true) ∧ ((searchL F p).2 = true → okBal F p (searchL F p).1) := by
  have key := fold_stop (P := okBal F p) (stepS_stop F p) (stepS_hit F p) (List.range (2 ^ F.length)) (fun st s hs h0 h1 => by
    unfold stepS
    rw [if_neg (by rw [h0]; decide)]
    by_cases q : needV F p s = ⟨0, 0⟩
    · rw [if_pos q]; exact ok0 q
    · rw [if_neg q]
      have hA := foldA F p s hF st
      refine hA.2 (fun e => by rw [h0] at e; simp at e) (hA.1.2 (.inr ?_))
      simp only [hitS, Bool.or_eq_true, decide_eq_true_eq] at h1
      exact h1.resolve_left q) (noBal, false)
  refine ⟨key.1.trans (by simp), key.2 (by simp)⟩

/-! ### Where no direction is a weakness, the search finds a balance. -/
theorem bits (q : Nat → Bool) : ∀ n, ∃ s, s < 2 ^ n ∧ ∀ i, i < n → bitB s i = q i
  | 0 => ⟨0, by decide, fun i hi => by omega⟩
  | n + 1 => by
    obtain ⟨s, hs, h⟩ := bits q n
    cases e : q n with
    | false =>
      refine ⟨s, by rw [Nat.pow_succ]; omega, fun i hi => ?_⟩
      by_cases k : i = n
      · subst k; rw [e]; exact Nat.testBit_lt_two_pow hs
      · exact h i (by omega)
    | true =>
      refine ⟨2 ^ n + s, by rw [Nat.pow_succ]; omega, fun i hi => ?_⟩
      by_cases k : i = n
      · subst k
        rw [e]
        unfold bitB
        rw [Nat.testBit_two_pow_add_eq, Nat.testBit_lt_two_pow hs]; rfl
      · rw [← h i (by omega)]
        unfold bitB
        exact Nat.testBit_two_pow_add_gt (by omega) s
theorem sum_map (g : Vec → Int) : ∀ F : List Vec, (F.map g).sum = Zono.sumN F.length (fun i => g (atV F i))
  | [] => rfl
  | f :: F => by
    have hshift : ∀ n (k : Nat → Int), Zono.sumN (n + 1) k = k 0 + Zono.sumN n (fun i => k (i + 1)) := fun n => by
      induction n with
      | zero => intro k; simp [Zono.sumN]
      | succ n ih => intro k; rw [Zono.sumN, ih, Zono.sumN]; omega
    rw [List.map_cons, List.sum_cons, sum_map g F, List.length_cons, hshift]
    rfl
theorem help_N (F : List Vec) (w : Vec) : helpL F w = Zono.helpN F.length (fun i => (atV F i).x) (fun i => (atV F i).y) w.x w.y := by
  unfold helpL Zono.helpN dotV
  exact sum_map _ F
theorem solved {F : List Vec} {p : Vec} (h : balL F p = true) : ∃ (D : Int) (t : Nat → Int), Zono.Sol F.length (fun i => (atV F i).x) (fun i => (atV F i).y) p.x p.y D t ∧ Zono.Basic F.length (fun i => (atV F i).x) (fun i => (atV F i).y) D t := by
  have hall : ∀ w ∈ waysL F, dotV w p ≤ helpL F w := fun w hw => by simpa using List.all_eq_true.1 h w hw
  have hmem : ∀ i, i < F.length → (⟨-(atV F i).y, (atV F i).x⟩ : Vec) ∈ waysL F ∧ (⟨(atV F i).y, -(atV F i).x⟩ : Vec) ∈ waysL F := fun i hi => by
    have hm : atV F i ∈ F := by
      unfold atV
      rw [List.getD_eq_getElem?_getD, List.getElem?_eq_getElem hi]
      exact List.getElem_mem hi
    constructor <;> exact List.mem_append.2 (.inr (List.mem_flatMap.2 ⟨_, hm, by simp⟩))
  obtain ⟨E, t, hE, ht, hx, hy⟩ := Zono.zonotope ((waysL F).map fun w => (w.x, w.y)) (fun i => (atV F i).x) (fun i => (atV F i).y)
    ⟨List.mem_map.2 ⟨⟨1, 0⟩, by simp [waysL], rfl⟩, List.mem_map.2 ⟨⟨0, 1⟩, by simp [waysL], rfl⟩, List.mem_map.2 ⟨⟨-1, 0⟩, by simp [waysL], rfl⟩, List.mem_map.2 ⟨⟨0, -1⟩, by simp [waysL], rfl⟩⟩
    F.length (fun i hi _ => ⟨List.mem_map.2 ⟨_, (hmem i hi).1, rfl⟩, List.mem_map.2 ⟨_, (hmem i hi).2, rfl⟩⟩) p.x p.y 1 (by decide) (fun w hw => by
      obtain ⟨v, hv, rfl⟩ := List.mem_map.1 hw
      have := hall v hv
      rw [help_N] at this
      dsimp only
      unfold dotV at this
      omega)
  exact Zono.Sol.basic _ E t ⟨hE, fun i hi => by have := ht i hi; omega, hx, hy⟩ (Nat.le_refl _)
theorem found {F : List Vec} {p : Vec} (h : balL F p = true) : ∃ s, s < 2 ^ F.length ∧ hitS F p s = true := by
  obtain ⟨D, t, hS, hB⟩ := solved h
  obtain ⟨s, hs, hq⟩ := bits (fun i => decide (t i = D)) F.length
  refine ⟨s, hs, ?_⟩
  have hD := hS.pos
  -- what is needed is what the parts bring
  have split : ∀ (g : Nat → Int), Zono.sumN F.length (fun i => t i * g i) = Zono.sumN F.length (fun i => (if bitB s i then D else 0) * g i) + Zono.sumN F.length (fun i => (if Zono.frac D t i then t i else 0) * g i) := fun g => by
    rw [← Zono.sumN_add]
    refine Zono.sumN_congr _ fun i hi => ?_
    have hr := hS.rng i hi
    rw [hq i hi]
    by_cases e : t i = D
    · have hn : ¬ Zono.frac D t i := fun f => by have := f.2; omega
      rw [if_neg hn]; simp [e]
    · by_cases z : t i = 0
      · have hn : ¬ Zono.frac D t i := fun f => by have := f.1; omega
        rw [if_neg hn]; simp [z, show ¬ (0 : Int) = D by omega]
      · have hy : Zono.frac D t i := ⟨by omega, by omega⟩
        rw [if_pos hy]; simp [e]
  have nx : D * (needV F p s).x = Zono.sumN F.length (fun i => (if Zono.frac D t i then t i else 0) * (atV F i).x) := by
    have h1 := hS.sx
    rw [split, full_x] at h1
    rw [need_x]; unfold fullV; grind
  have ny : D * (needV F p s).y = Zono.sumN F.length (fun i => (if Zono.frac D t i then t i else 0) * (atV F i).y) := by
    have h1 := hS.sy
    rw [split, full_y] at h1
    rw [need_y]; unfold fullV; grind
  unfold hitS
  rw [Bool.or_eq_true]
  by_cases hfr : ∃ a, a < F.length ∧ Zono.frac D t a
  · right
    by_cases htwo : ∃ a b, a < F.length ∧ b < a ∧ Zono.frac D t a ∧ Zono.frac D t b
    · obtain ⟨a, b, ha, hb, fa, fb⟩ := htwo
      have hz : ∀ (g : Nat → Int), Zono.sumN F.length (fun i => (if Zono.frac D t i then t i else 0) * g i) = t a * g a + t b * g b := fun g => by
        rw [Zono.sumN_two (a := a) (b := b) ha (by omega) (by omega) (fun i hi h1 h2 => by
          have := hB.three a b i ha (by omega) hi (by omega) (Ne.symm h1) (Ne.symm h2) fa fb
          rw [if_neg this]; simp), if_pos fa, if_pos fb]
      rw [hz] at nx ny
      have hc := hB.two a b ha (by omega) (by omega) fa fb
      refine List.any_eq_true.2 ⟨a, List.mem_range.2 ha, ?_⟩
      unfold hitA
      rw [Bool.and_eq_true, Bool.or_eq_true]
      have sa : bitB s a = false := by rw [hq a ha]; simp; have := fa.2; omega
      have sb : bitB s b = false := by rw [hq b (by omega)]; simp; have := fb.2; omega
      refine ⟨by rw [sa]; rfl, .inr (List.any_eq_true.2 ⟨b, List.mem_range.2 hb, ?_⟩)⟩
      unfold hitB bothL
      rw [sb]
      simp only [Bool.not_false, Bool.true_and, withinB, Bool.and_eq_true, decide_eq_true_eq]
      obtain ⟨f, hf⟩ : ∃ f, f = atV F a := ⟨_, rfl⟩
      obtain ⟨g, hg⟩ : ∃ g, g = atV F b := ⟨_, rfl⟩
      obtain ⟨need, hn⟩ : ∃ n, n = needV F p s := ⟨_, rfl⟩
      simp only [← hf, ← hg, ← hn] at nx ny hc ⊢
      have h1 : D * crossV need g = t a * crossV f g := by unfold crossV; grind
      have h2 : D * crossV f need = t b * crossV f g := by unfold crossV; grind
      have fa1 := fa.1
      have fa2 := fa.2
      have fb1 := fb.1
      have fb2 := fb.2
      have hc' : crossV f g ≠ 0 := by unfold crossV; exact hc
      have rng : ∀ (d n u : Int), 0 < d → D * n = u * d → 0 < u → u < D → 0 ≤ n ∧ n ≤ d := fun d n u hd e h0 h1 => by
        have p1 := Int.mul_pos h0 hd
        have p2 := Int.mul_lt_mul_of_pos_right h1 hd
        refine ⟨Int.not_lt.1 fun hn => ?_, Int.not_lt.1 fun hn => ?_⟩
        · have := Int.mul_neg_of_pos_of_neg hD hn; omega
        · have := Int.mul_lt_mul_of_pos_left hn hD; omega
      unfold crs
      split
      · have r1 := rng (-(crossV f g)) (-(crossV need g)) (t a) (by omega) (by grind) fa1 fa2
        have r2 := rng (-(crossV f g)) (-(crossV f need)) (t b) (by omega) (by grind) fb1 fb2
        exact ⟨⟨by dsimp only; omega, r1⟩, r2⟩
      · have r1 := rng (crossV f g) (crossV need g) (t a) (by omega) h1 fa1 fa2
        have r2 := rng (crossV f g) (crossV f need) (t b) (by omega) h2 fb1 fb2
        exact ⟨⟨by dsimp only; omega, r1⟩, r2⟩
    · obtain ⟨a, ha, fa⟩ := hfr
      have hz : ∀ (g : Nat → Int), Zono.sumN F.length (fun i => (if Zono.frac D t i then t i else 0) * g i) = t a * g a := fun g => by
        rw [Zono.sumN_one (a := a) F.length ha (fun i hi h1 => by
          have : ¬ Zono.frac D t i := fun fi => htwo (by
            rcases Nat.lt_or_ge i a with h | h
            · exact ⟨a, i, ha, h, fa, fi⟩
            · exact ⟨i, a, hi, by omega, fi, fa⟩)
          rw [if_neg this]; simp), if_pos fa]
      rw [hz] at nx ny
      have hne := hB.one a ha fa
      refine List.any_eq_true.2 ⟨a, List.mem_range.2 ha, ?_⟩
      unfold hitA
      rw [Bool.and_eq_true, Bool.or_eq_true]
      have sa : bitB s a = false := by rw [hq a ha]; simp; have := fa.2; omega
      refine ⟨by rw [sa]; rfl, .inl ?_⟩
      obtain ⟨f, hf⟩ : ∃ f, f = atV F a := ⟨_, rfl⟩
      obtain ⟨need, hn⟩ : ∃ n, n = needV F p s := ⟨_, rfl⟩
      simp only [← hf, ← hn] at nx ny hne ⊢
      have fa1 := fa.1
      have fa2 := fa.2
      have hd : ¬ dotV f f = 0 := fun e => by
        unfold dotV at e
        have a1 := Zono.sq_nonneg f.x
        have a2 := Zono.sq_nonneg f.y
        have b1 : f.x * f.x = 0 := by omega
        have b2 : f.y * f.y = 0 := by omega
        have c1 := (Int.mul_eq_zero.1 b1).elim id id
        have c2 := (Int.mul_eq_zero.1 b2).elim id id
        rw [c1, c2] at hne
        simp at hne
      have hc : crossV f need = 0 := by
        have : D * crossV f need = 0 := by unfold crossV; grind
        exact (Int.mul_eq_zero.1 this).resolve_left (by omega)
      unfold aloneL
      rw [← hf, if_neg (by rw [hc]; simp; exact hd)]
      dsimp only
      obtain ⟨r1, r2, r3, r4⟩ := ratio_ok hd hc
      obtain ⟨u, hu⟩ : ∃ u, u = (ratio f need).1 := ⟨_, rfl⟩
      obtain ⟨d, hdd⟩ : ∃ u, u = (ratio f need).2 := ⟨_, rfl⟩
      simp only [← hu, ← hdd] at r1 r2 r3 r4 ⊢
      have e : D * u = t a * d := by
        by_cases q : f.x = 0
        · have qy : f.y ≠ 0 := fun e => by rw [q, e] at hne; simp at hne
          have : f.y * (D * u) = f.y * (t a * d) := by grind
          exact Int.eq_of_mul_eq_mul_left qy this
        · have : f.x * (D * u) = f.x * (t a * d) := by grind
          exact Int.eq_of_mul_eq_mul_left q this
      have p1 := Int.mul_pos fa1 r1
      have p2 := Int.mul_lt_mul_of_pos_right fa2 r1
      simp only [withinB, Bool.and_eq_true, decide_eq_true_eq]
      refine ⟨Int.not_lt.1 fun hn => ?_, Int.not_lt.1 fun hn => ?_⟩
      · have := Int.mul_neg_of_pos_of_neg hD hn; omega
      · have := Int.mul_lt_mul_of_pos_left hn hD; omega
  · left
    have hz : ∀ (g : Nat → Int), Zono.sumN F.length (fun i => (if Zono.frac D t i then t i else 0) * g i) = 0 := fun g => by
      rw [Zono.sumN_congr (g' := fun _ => 0) _ (fun i hi => by rw [if_neg (fun fi => hfr ⟨i, hi, fi⟩)]; simp), Zono.sumN_zero]
    rw [hz] at nx ny
    rw [decide_eq_true_eq]
    have h1 := (Int.mul_eq_zero.1 nx).resolve_left (by omega)
    have h2 := (Int.mul_eq_zero.1 ny).resolve_left (by omega)
    cases hv : needV F p s
    rw [hv] at h1 h2
    simp_all
theorem dot_zero (w : Vec) : dotV w ⟨0, 0⟩ = 0 := by simp [dotV]
/-- Nothing is balanced that is too strong in a direction. -/
theorem weak_none {F : List Vec} {p w : Vec} {b : Bal} (h : okBal F p b) : dotV w p ≤ helpL F w := by
  obtain ⟨h1, h2, h3, h4, h5, h6⟩ := h
  have hpos : (0 : Int) < b.whole := by omega
  have hle : Zono.sumN F.length (fun i => b.parts.getD i 0 * (-(dotV w (atV F i)))) ≤ Zono.sumN F.length (fun i => b.whole * max 0 (-(dotV w (atV F i)))) := by
    refine Zono.sumN_le _ fun i hi => ?_
    have ht : 0 ≤ b.parts.getD i 0 ∧ b.parts.getD i 0 ≤ b.whole := by
      rw [List.getD_eq_getElem?_getD, List.getElem?_eq_getElem (by omega)]
      exact h4 _ (List.getElem_mem _)
    rcases Int.le_total 0 (-(dotV w (atV F i))) with hm | hm
    · rw [Int.max_eq_right hm]
      exact Int.mul_le_mul_of_nonneg_right ht.2 hm
    · rw [Int.max_eq_left hm, Int.mul_zero]
      exact Int.mul_nonpos_of_nonneg_of_nonpos ht.1 hm
  have e1 : Zono.sumN F.length (fun i => b.parts.getD i 0 * (-(dotV w (atV F i)))) = (-w.x) * sumPX F b.parts + (-w.y) * sumPY F b.parts := by
    unfold sumPX sumPY
    rw [← Zono.sumN_mul, ← Zono.sumN_mul, ← Zono.sumN_add]
    exact Zono.sumN_congr _ fun i _ => by unfold dotV; grind
  have e2 : Zono.sumN F.length (fun i => b.whole * max 0 (-(dotV w (atV F i)))) = b.whole * helpL F w := by
    rw [Zono.sumN_mul]
    congr 1
    exact (sum_map (fun f => max 0 (-(dotV w f))) F).symm
  rw [e1, e2] at hle
  refine Int.le_of_mul_le_mul_left (a := b.whole) ?_ hpos
  have : b.whole * dotV w p = (-w.x) * sumPX F b.parts + (-w.y) * sumPY F b.parts := by unfold dotV; grind
  omega
/-- THE STAGE'S THEOREM, of the search: it finds a balance exactly where no way is a weakness. -/
theorem search_bal {F : List Vec} {p : Vec} (hF : smallV F) : (searchL F p).2 = balL F p := by
  obtain ⟨h1, h2⟩ := search_iff F p hF
  refine bool_iff ⟨fun h => ?_, fun h => ?_⟩
  · unfold balL
    rw [List.all_eq_true]
    exact fun w _ => decide_eq_true (weak_none (h2 h))
  · obtain ⟨s, hs, hh⟩ := found h
    exact h1.2 (List.any_eq_true.2 ⟨s, List.mem_range.2 hs, hh⟩)
theorem search_is {F : List Vec} {p : Vec} (hF : smallV F) (h : (searchL F p).2 = true) : isBalL F p (searchL F p).1 = true := ((search_iff F p hF).2 h).is
end Go.BT
/- The canvas chapter in plain words: tests, stakes, tents, ways, reach. -/
namespace Go.BT
open Go
set_option linter.unusedVariables false
/-! ### Tests, stakes, tents. -/
def tstB (x : Tst) : Bool := withinB x.soil 0 9 && withinB x.depth 1 3000 && withinB x.force 1 5000
def testsC (l : List Tst) : Int := if 40 < l.length then 3 else if l.all tstB = true then 0 else 1
def againstB (x y : Tst) : Bool := x.held && !y.held && decide (x.soil = y.soil) && decide (y.force * x.depth ≤ x.force * y.depth)
def clashB (l : List Tst) : Bool := l.any fun x => l.any (againstB x)
def soundC (l : List Tst) : Int := if clashB l = true then 9 else 0
def guyB (g : Guy) : Bool := withinB g.x (-5000) 5000 && withinB g.y (-5000) 5000 && !(decide (g.x = 0) && decide (g.y = 0)) && withinB g.down 0 5000 && withinB g.soil 0 9 && withinB g.depth 1 3000
def headB (h : Head) : Bool := withinB h.area 0 1000 && withinB h.bears 0 10000000 && decide (h.guys.length ≤ 8) && h.guys.all guyB
def tentB (t : List Head) : Bool := withinB t.length 1 12 && t.all headB
def tentC (t : List Head) : Int := if tentB t = true then 0 else 1
def readyC (l : List Tst) (t : List Head) : Int := if testsC l = 0 then tentC t else testsC l
def cornerB (v : Vec) : Bool := withinB v.x (-10000) 10000 && withinB v.y (-10000) 10000
def windB (l : List Vec) : Bool := withinB l.length 1 12 && l.all cornerB
/-- What one test says about a stake. -/
def stepH (soil depth : Int) (r : Rng) (x : Tst) : Rng :=
  if x.soil = soil then (if x.held = true then ⟨max r.lo (x.force * depth / x.depth), r.hi⟩ else ⟨r.lo, min r.hi ((x.force * depth + x.depth - 1) / x.depth - 1)⟩) else r
def holdsL (l : List Tst) (soil depth : Int) : Rng := l.foldl (stepH soil depth) ⟨0, 10000000⟩
def lenL (q : Int) : Int := ((((List.range 10001).find? fun (n : Nat) => decide (q ≤ (n : Int) * n)).getD 0 : Nat) : Int)
def partL (l : List Tst) (g : Guy) : Int := min 100 (100 * (holdsL l g.soil g.depth).lo / lenL (g.x * g.x + g.y * g.y))
def forceL (l : List Tst) (g : Guy) : Vec := timesV ⟨g.x, g.y⟩ (partL l g)
def forcesL (l : List Tst) (gs : List Guy) : List Vec := gs.map (forceL l)
def downL (gs : List Guy) : Int := (gs.map (·.down)).sum

theorem holds_take {l : List Tst} {s d : Int} {k : Nat} (hk : k < l.length) : holdsL (l.take (k + 1)) s d = stepH s d (holdsL (l.take k) s d) l[k] := by
  unfold holdsL
  rw [List.take_succ_eq_append_getElem hk, List.foldl_append]; rfl
theorem holds_all (l : List Tst) (s d : Int) : holdsL (l.take l.length) s d = holdsL l s d := by rw [List.take_length]
theorem tst_parts {x : Tst} (h : tstB x = true) : (0 ≤ x.soil ∧ x.soil ≤ 9) ∧ (1 ≤ x.depth ∧ x.depth ≤ 3000) ∧ 1 ≤ x.force ∧ x.force ≤ 5000 := by
  simp only [tstB, withinB, Bool.and_eq_true, decide_eq_true_eq] at h
  omega
theorem force_bound {x : Tst} {d : Int} (h : tstB x = true) (hd : 1 ≤ d ∧ d ≤ 3000) : 1 ≤ x.force * d ∧ x.force * d ≤ 15000000 := by
  obtain ⟨_, _, h1, h2⟩ := tst_parts h
  have a := Int.mul_le_mul h1 hd.1 (by decide) (by omega)
  have b := Int.mul_le_mul h2 hd.2 (by omega) (by decide)
  omega
theorem quo_bound {x : Tst} {d : Int} (h : tstB x = true) (hd : 1 ≤ d ∧ d ≤ 3000) : 0 ≤ x.force * d / x.depth ∧ x.force * d / x.depth ≤ 15000000 := by
  have hb := force_bound h hd
  obtain ⟨_, h1, _⟩ := tst_parts h
  exact ⟨Int.ediv_nonneg (by omega) (by omega), Int.le_trans (Int.ediv_le_self _ (by omega)) hb.2⟩
theorem top_bound {x : Tst} {d : Int} (h : tstB x = true) (hd : 1 ≤ d ∧ d ≤ 3000) : 1 ≤ (x.force * d + x.depth - 1) / x.depth ∧ (x.force * d + x.depth - 1) / x.depth ≤ 15003000 := by
  have hb := force_bound h hd
  obtain ⟨_, h1, _⟩ := tst_parts h
  exact ⟨(Int.le_ediv_iff_mul_le (by omega)).2 (by omega), Int.le_trans (Int.ediv_le_self _ (by omega)) (by omega)⟩
theorem step_bound {x : Tst} {s d : Int} {r : Rng} (h : tstB x = true) (hd : 1 ≤ d ∧ d ≤ 3000) (hr : 0 ≤ r.lo ∧ r.lo ≤ 15000000 ∧ 0 ≤ r.hi ∧ r.hi ≤ 10000000) : 0 ≤ (stepH s d r x).lo ∧ (stepH s d r x).lo ≤ 15000000 ∧ 0 ≤ (stepH s d r x).hi ∧ (stepH s d r x).hi ≤ 10000000 := by
  have h1 := quo_bound h hd
  have h2 := top_bound h hd
  unfold stepH
  split
  · split <;> dsimp only <;> omega
  · exact hr
theorem holds_bound {l : List Tst} {s d : Int} (h : l.all tstB = true) (hd : 1 ≤ d ∧ d ≤ 3000) : 0 ≤ (holdsL l s d).lo ∧ (holdsL l s d).lo ≤ 15000000 ∧ 0 ≤ (holdsL l s d).hi ∧ (holdsL l s d).hi ≤ 10000000 := by
  unfold holdsL
  have go : ∀ (l : List Tst) (r : Rng), l.all tstB = true → (0 ≤ r.lo ∧ r.lo ≤ 15000000 ∧ 0 ≤ r.hi ∧ r.hi ≤ 10000000) → 0 ≤ (l.foldl (stepH s d) r).lo ∧ (l.foldl (stepH s d) r).lo ≤ 15000000 ∧ 0 ≤ (l.foldl (stepH s d) r).hi ∧ (l.foldl (stepH s d) r).hi ≤ 10000000 := by
    intro l
    induction l with
    | nil => intro r _ hr; exact hr
    | cons x l ih =>
      intro r ha hr
      rw [List.all_cons, Bool.and_eq_true] at ha
      rw [List.foldl_cons]
      exact ih _ ha.2 (step_bound ha.1 hd hr)
  exact go l _ h ⟨by decide, by decide, by decide, by decide⟩
theorem all_take {α : Type} {p : α → Bool} {l : List α} (h : l.all p = true) (k : Nat) : (l.take k).all p = true := by
  rw [List.all_eq_true] at h ⊢
  exact fun x hx => h x (List.mem_of_mem_take hx)
theorem all_get {α : Type} {p : α → Bool} {l : List α} (h : l.all p = true) {k : Nat} (hk : k < l.length) : p l[k] = true := List.all_eq_true.1 h _ (List.getElem_mem hk)
/-- The quotient rounded up, as the document goes about it. -/
theorem up_quo {n d : Int} (hn : 1 ≤ n) (hd : 1 ≤ d) : (n + d - 1) / d = if n / d * d < n then n / d + 1 else n / d := by
  have h1 := Int.mul_ediv_add_emod n d
  have h2 := Int.emod_nonneg n (show d ≠ 0 by omega)
  have h3 := Int.emod_lt_of_pos n (show 0 < d by omega)
  have e : n / d * d = d * (n / d) := Int.mul_comm _ _
  split
  · rw [show n + d - 1 = (n % d - 1) + d * (n / d + 1) by grind, Int.add_mul_ediv_left _ _ (by omega), Int.ediv_eq_zero_of_lt (by omega) (by omega)]; omega
  · rw [show n + d - 1 = (n % d + (d - 1)) + d * (n / d) by grind, Int.add_mul_ediv_left _ _ (by omega), Int.ediv_eq_zero_of_lt (by omega) (by omega)]; omega
theorem lenL_of {q n : Int} (h0 : 1 ≤ n) (hn : n ≤ 10000) (h1 : q ≤ n * n) (h2 : (n - 1) * (n - 1) < q) : lenL q = n := by
  obtain ⟨m, rfl⟩ : ∃ m : Nat, n = m := ⟨n.toNat, by omega⟩
  unfold lenL
  have hlt : ∀ j : Nat, j < m → ¬ (q ≤ (j : Int) * j) := fun j hj hq => by
    have := Int.mul_le_mul (show (j : Int) ≤ m - 1 by omega) (show (j : Int) ≤ m - 1 by omega) (by omega) (by omega)
    omega
  have : (List.range 10001).find? (fun (n : Nat) => decide (q ≤ (n : Int) * n)) = some m := by
    rw [List.find?_range_eq_some]
    exact ⟨by simp; exact h1, by simp; omega, fun j hj => by simpa using hlt j hj⟩
  rw [this]; rfl
theorem len_sq {q : Int} (h0 : 1 ≤ q) (h1 : q ≤ 100000000) : 1 ≤ lenL q ∧ lenL q ≤ 10000 ∧ q ≤ lenL q * lenL q ∧ (lenL q - 1) * (lenL q - 1) < q := by
  have hex : ∃ m : Nat, 1 ≤ m ∧ m ≤ 10000 ∧ q ≤ (m : Int) * m ∧ ((m : Int) - 1) * (m - 1) < q := by
    have go : ∀ k : Nat, q ≤ (k : Int) * k → k ≤ 10000 → ∃ m : Nat, 1 ≤ m ∧ m ≤ 10000 ∧ q ≤ (m : Int) * m ∧ ((m : Int) - 1) * (m - 1) < q := by
      intro k
      induction k with
      | zero => intro h _; simp at h; omega
      | succ k ih =>
        intro h hk
        by_cases hc : q ≤ (k : Int) * k
        · exact ih hc (by omega)
        · refine ⟨k + 1, by omega, hk, h, ?_⟩
          rw [show ((k + 1 : Nat) : Int) - 1 = k by omega]; omega
    exact go 10000 (by simpa using h1) (by decide)
  obtain ⟨m, m1, m2, m3, m4⟩ := hex
  rw [lenL_of (n := m) (by omega) (by omega) m3 m4]
  exact ⟨by omega, by omega, m3, m4⟩
theorem guy_parts {g : Guy} (h : guyB g = true) : (-5000 ≤ g.x ∧ g.x ≤ 5000) ∧ (-5000 ≤ g.y ∧ g.y ≤ 5000) ∧ (g.x ≠ 0 ∨ g.y ≠ 0) ∧ (0 ≤ g.down ∧ g.down ≤ 5000) ∧ (0 ≤ g.soil ∧ g.soil ≤ 9) ∧ 1 ≤ g.depth ∧ g.depth ≤ 3000 := by
  simp only [guyB, withinB, Bool.and_eq_true, decide_eq_true_eq, Bool.not_eq_true', Bool.and_eq_false_iff, decide_eq_false_iff_not] at h
  omega
theorem sq_bound {a : Int} (h : -5000 ≤ a ∧ a ≤ 5000) : 0 ≤ a * a ∧ a * a ≤ 25000000 := by
  have h1 := Int.mul_nonneg (show 0 ≤ 5000 - a by omega) (show 0 ≤ 5000 + a by omega)
  exact ⟨Zono.sq_nonneg a, by grind⟩
theorem guy_sq {g : Guy} (h : guyB g = true) : 1 ≤ g.x * g.x + g.y * g.y ∧ g.x * g.x + g.y * g.y ≤ 50000000 := by
  obtain ⟨hx, hy, hne, _⟩ := guy_parts h
  have a := sq_bound hx
  have b := sq_bound hy
  rcases hne with q | q
  · have : g.x * g.x ≠ 0 := fun e => q ((Int.mul_eq_zero.1 e).elim id id)
    omega
  · have : g.y * g.y ≠ 0 := fun e => q ((Int.mul_eq_zero.1 e).elim id id)
    omega
theorem part_bound {l : List Tst} {g : Guy} (hl : l.all tstB = true) (hg : guyB g = true) : 0 ≤ partL l g ∧ partL l g ≤ 100 := by
  have hb := holds_bound (s := g.soil) hl (guy_parts hg).2.2.2.2.2
  have hs := guy_sq hg
  have hn := len_sq hs.1 (by omega)
  unfold partL
  have := Int.ediv_nonneg (show 0 ≤ 100 * (holdsL l g.soil g.depth).lo by omega) (show 0 ≤ lenL (g.x * g.x + g.y * g.y) by omega)
  omega
theorem part_mul {p a : Int} (hp : 0 ≤ p ∧ p ≤ 100) (ha : -5000 ≤ a ∧ a ≤ 5000) : -500000 ≤ p * a ∧ p * a ≤ 500000 := by
  have h1 := Int.mul_nonneg hp.1 (show 0 ≤ 5000 - a by omega)
  have h2 := Int.mul_nonneg hp.1 (show 0 ≤ 5000 + a by omega)
  constructor <;> grind
theorem forces_small {l : List Tst} {gs : List Guy} (hl : l.all tstB = true) (hg : gs.all guyB = true) : smallV (forcesL l gs) := fun f hf => by
  obtain ⟨g, hgm, rfl⟩ := List.mem_map.1 hf
  have hgB := List.all_eq_true.1 hg g hgm
  have hp := part_bound hl hgB
  obtain ⟨hx, hy, _⟩ := guy_parts hgB
  have a := part_mul hp hx
  have b := part_mul hp hy
  exact ⟨a.1, a.2, b.1, b.2⟩
theorem head_parts {h : Head} (hh : headB h = true) : (0 ≤ h.area ∧ h.area ≤ 1000) ∧ (0 ≤ h.bears ∧ h.bears ≤ 10000000) ∧ h.guys.length ≤ 8 ∧ h.guys.all guyB = true := by
  simp only [headB, withinB, Bool.and_eq_true, decide_eq_true_eq] at hh
  exact ⟨hh.1.1.1, hh.1.1.2, hh.1.2, hh.2⟩

/-! ### Ways and reach. -/
/-- The ways of the program: no force that is nothing makes any. -/
def waysP (F : List Vec) : List Vec := [⟨1, 0⟩, ⟨0, 1⟩, ⟨-1, 0⟩, ⟨0, -1⟩] ++ F.flatMap fun f => if f = ⟨0, 0⟩ then [] else [f, timesV f (-1), ⟨-f.y, f.x⟩, ⟨f.y, -f.x⟩]
def strongB (F : List Vec) (p : Vec) (w : Vec) : Bool := decide (helpL F w < dotV w p)
theorem sum_nonneg : ∀ (l : List Int), (∀ x ∈ l, 0 ≤ x) → 0 ≤ l.sum
  | [], _ => by simp
  | x :: l, h => by
    rw [List.sum_cons]
    have := sum_nonneg l (fun y hy => h y (by simp [hy]))
    have := h x (by simp)
    omega
theorem help_nonneg (F : List Vec) (w : Vec) : 0 ≤ helpL F w := sum_nonneg _ fun x hx => by
  obtain ⟨f, _, rfl⟩ := List.mem_map.1 hx
  omega
theorem balL_iff {F : List Vec} {p : Vec} : balL F p = true ↔ ∀ w, dotV w p ≤ helpL F w := by
  refine ⟨fun h w => ?_, fun h => ?_⟩
  · obtain ⟨D, t, hS, _⟩ := solved h
    have hle : Zono.sumN F.length (fun i => t i * (-(dotV w (atV F i)))) ≤ Zono.sumN F.length (fun i => D * max 0 (-(dotV w (atV F i)))) := by
      refine Zono.sumN_le _ fun i hi => ?_
      have ht := hS.rng i hi
      rcases Int.le_total 0 (-(dotV w (atV F i))) with hm | hm
      · rw [Int.max_eq_right hm]
        exact Int.mul_le_mul_of_nonneg_right ht.2 hm
      · rw [Int.max_eq_left hm, Int.mul_zero]
        exact Int.mul_nonpos_of_nonneg_of_nonpos ht.1 hm
    have e1 : Zono.sumN F.length (fun i => t i * (-(dotV w (atV F i)))) = (-w.x) * Zono.sumN F.length (fun i => t i * (atV F i).x) + (-w.y) * Zono.sumN F.length (fun i => t i * (atV F i).y) := by
      rw [← Zono.sumN_mul, ← Zono.sumN_mul, ← Zono.sumN_add]
      exact Zono.sumN_congr _ fun i _ => by unfold dotV; grind
    have e2 : Zono.sumN F.length (fun i => D * max 0 (-(dotV w (atV F i)))) = D * helpL F w := by
      rw [Zono.sumN_mul]
      congr 1
      exact (sum_map (fun f => max 0 (-(dotV w f))) F).symm
    rw [e1, e2] at hle
    refine Int.le_of_mul_le_mul_left (a := D) ?_ hS.pos
    have h1 := hS.sx
    have h2 := hS.sy
    have : D * dotV w p = (-w.x) * Zono.sumN F.length (fun i => t i * (atV F i).x) + (-w.y) * Zono.sumN F.length (fun i => t i * (atV F i).y) := by unfold dotV; grind
    omega
  · unfold balL
    rw [List.all_eq_true]
    exact fun w _ => decide_eq_true (h w)
theorem balL_ways {F : List Vec} {p : Vec} : balL F p = !(waysP F).any (strongB F p) := by
  refine bool_iff ⟨fun h => ?_, fun h => ?_⟩
  · rw [Bool.not_eq_true', List.any_eq_false]
    intro w _
    have := balL_iff.1 h w
    simp [strongB]; exact this
  · rw [Bool.not_eq_true', List.any_eq_false] at h
    unfold balL
    rw [List.all_eq_true]
    intro w hw
    rw [decide_eq_true_eq]
    by_cases hz : w = ⟨0, 0⟩
    · subst hz
      have := help_nonneg F ⟨0, 0⟩
      unfold dotV; simp; exact this
    · have hm : w ∈ waysP F := by
        rcases List.mem_append.1 hw with hw | hw
        · exact List.mem_append.2 (.inl hw)
        · obtain ⟨f, hf, hwf⟩ := List.mem_flatMap.1 hw
          refine List.mem_append.2 (.inr (List.mem_flatMap.2 ⟨f, hf, ?_⟩))
          by_cases q : f = ⟨0, 0⟩
          · subst q
            simp [timesV] at hwf
            exact absurd hwf hz
          · rw [if_neg q]; exact hwf
      have := h w hm
      simp [strongB] at this
      exact this
theorem dot_times (w p : Vec) (k : Int) : dotV w (timesV p k) = k * dotV w p := by unfold dotV timesV; grind
theorem bal_mono {F : List Vec} {p : Vec} {j k : Int} (h : balL F (timesV p k) = true) (h0 : 0 ≤ j) (hk : j ≤ k) : balL F (timesV p j) = true := by
  rw [balL_iff] at h ⊢
  intro w
  have h1 := h w
  have h2 := help_nonneg F w
  rw [dot_times] at h1 ⊢
  rcases Int.le_total 0 (dotV w p) with q | q
  · exact Int.le_trans (Int.mul_le_mul_of_nonneg_right hk q) h1
  · exact Int.le_trans (Int.mul_nonpos_of_nonneg_of_nonpos h0 q) h2
theorem bal_zero (F : List Vec) (p : Vec) : balL F (timesV p 0) = true := by
  rw [balL_iff]
  intro w
  rw [dot_times]
  have := help_nonneg F w
  omega
/-- k is how much of p is balanced, of at most 10000. -/
def IsReach (F : List Vec) (p : Vec) (k : Int) : Prop := 0 ≤ k ∧ k ≤ 10000 ∧ balL F (timesV p k) = true ∧ (k < 10000 → balL F (timesV p (k + 1)) = false)
theorem IsReach.unique {F : List Vec} {p : Vec} {j k : Int} (h : IsReach F p j) (h' : IsReach F p k) : j = k := by
  obtain ⟨a1, a2, a3, a4⟩ := h
  obtain ⟨b1, b2, b3, b4⟩ := h'
  rcases Int.lt_trichotomy j k with q | q | q
  · have := a4 (by omega)
    rw [bal_mono b3 (by omega) (by omega)] at this
    exact absurd this (by decide)
  · exact q
  · have := b4 (by omega)
    rw [bal_mono a3 (by omega) (by omega)] at this
    exact absurd this (by decide)
/-! ### The document's first example. -/
def soilL : List Tst := [⟨0, 1000, 800, true⟩, ⟨0, 500, 600, false⟩]
def fourG : List Guy := [⟨1000, 0, 600, 0, 700⟩, ⟨0, 1000, 600, 0, 700⟩, ⟨-1000, 0, 600, 0, 700⟩, ⟨0, -1000, 600, 0, 700⟩]
def fourH : Head := ⟨100, 2000, fourG⟩
def fourL : List Head := [fourH]
def fourF : List Vec := [⟨56000, 0⟩, ⟨0, 56000⟩, ⟨-56000, 0⟩, ⟨0, -56000⟩]
theorem four_len : lenL 1000000 = 1000 := lenL_of (by decide) (by decide) (by decide) (by decide)
theorem four_part (g : Guy) (hq : g.x * g.x + g.y * g.y = 1000000) (hs : g.soil = 0) (hd : g.depth = 700) : partL soilL g = 56 := by
  unfold partL
  rw [hq, four_len, hs, hd]
  decide +kernel
theorem four_forces : forcesL soilL fourG = fourF := by
  unfold forcesL fourG fourF forceL
  simp only [List.map_cons, List.map_nil]
  rw [four_part _ (by decide) rfl rfl, four_part _ (by decide) rfl rfl, four_part _ (by decide) rfl rfl, four_part _ (by decide) rfl rfl]
  decide +kernel
theorem four_holds : holdsL soilL 0 700 = ⟨560, 839⟩ := by decide +kernel
theorem four_tests : testsC soilL = 0 := by decide +kernel
theorem four_tent : tentC fourL = 0 := by decide +kernel
theorem four_sound : soundC soilL = 0 := by decide +kernel
theorem four_search : searchL fourF (timesV ⟨-300, 100⟩ 100) = (⟨3136000000, [1680000000, 0, 0, 560000000]⟩, true) := by decide +kernel
theorem four_reach : IsReach fourF (timesV ⟨3, 4⟩ 100) 140 := ⟨by decide, by decide, by decide +kernel, fun _ => by decide +kernel⟩
theorem four_prove : isBalL fourF (timesV ⟨-300, 100⟩ 100) ⟨3136000000, [1680000000, 0, 0, 560000000]⟩ = true := by decide +kernel
/-! ### Heads and corners that are too weak. -/
def weakK (F : List Vec) (area : Int) (wind : List Vec) : Option Nat := wind.findIdx? fun c => !balL F (timesV c area)
def weakFrom (l : List Tst) (wind : List Vec) : List Head → Nat → Int × Int
  | [], _ => (-1, -1)
  | h :: t, i => match weakK (forcesL l h.guys) h.area wind with
    | some k => (i, k)
    | none => weakFrom l wind t (i + 1)
def weakP (l : List Tst) (t : List Head) (wind : List Vec) : Int × Int := weakFrom l wind t 0
def standH (l : List Tst) (wind : List Vec) (h : Head) : Bool := wind.all fun c => balL (forcesL l h.guys) (timesV c h.area)
def standB (l : List Tst) (t : List Head) (wind : List Vec) : Bool := t.all (standH l wind)
theorem weakK_none {F : List Vec} {area : Int} {wind : List Vec} : weakK F area wind = none ↔ wind.all (fun c => balL F (timesV c area)) = true := by
  unfold weakK
  rw [List.findIdx?_eq_none_iff, List.all_eq_true]
  exact ⟨fun h x hx => by simpa using h x hx, fun h x hx => by simp [h x hx]⟩
theorem weakFrom_ge {l : List Tst} {wind : List Vec} : ∀ (t : List Head) (i : Nat), (weakFrom l wind t i = (-1, -1) ∧ t.all (standH l wind) = true) ∨ (∃ (j k : Nat) (hj : j < t.length) (hk : k < wind.length), weakFrom l wind t i = (((i + j : Nat) : Int), (k : Int)) ∧ balL (forcesL l t[j].guys) (timesV wind[k] t[j].area) = false ∧ t.all (standH l wind) = false)
  | [], i => .inl ⟨rfl, rfl⟩
  | h :: t, i => by
    unfold weakFrom
    cases q : weakK (forcesL l h.guys) h.area wind with
    | some k =>
      right
      unfold weakK at q
      rw [List.findIdx?_eq_some_iff_getElem] at q
      obtain ⟨hk, hq, _⟩ := q
      refine ⟨0, k, by simp, hk, by simp, by simpa using hq, ?_⟩
      rw [List.all_eq_false]
      refine ⟨h, by simp, ?_⟩
      unfold standH
      intro hall
      have := List.all_eq_true.1 hall _ (List.getElem_mem hk)
      simp at hq
      rw [hq] at this
      exact absurd this (by decide)
    | none =>
      have hs : standH l wind h = true := weakK_none.1 q
      rcases weakFrom_ge t (i + 1) with ⟨h1, h2⟩ | ⟨j, k, hj, hk, h1, h2, h3⟩
      · left; exact ⟨h1, by rw [List.all_cons, hs, h2]; rfl⟩
      · right
        refine ⟨j + 1, k, by simp; omega, hk, ?_, by simpa using h2, by rw [List.all_cons, hs, h3]; rfl⟩
        dsimp only
        rw [h1]
        congr 2
        omega
theorem weakP_iff {l : List Tst} {t : List Head} {wind : List Vec} : ((weakP l t wind).1 < 0 ↔ standB l t wind = true) ∧ (standB l t wind = true → weakP l t wind = (-1, -1)) := by
  unfold weakP standB
  rcases weakFrom_ge (l := l) (wind := wind) t 0 with ⟨h1, h2⟩ | ⟨j, k, hj, hk, h1, h2, h3⟩
  · rw [h1, h2]; simp
  · rw [h1, h3]; simp
theorem weakFrom_step {l : List Tst} {wind : List Vec} {t : List Head} {i : Nat} (hi : i < t.length) : weakFrom l wind (t.drop i) i = match weakK (forcesL l t[i].guys) t[i].area wind with | some k => ((i : Int), (k : Int)) | none => weakFrom l wind (t.drop (i + 1)) (i + 1) := by
  rw [List.drop_eq_getElem_cons hi]; rfl
/-! ### What stands, stands in less. -/
theorem bal_mean {F : List Vec} {a b m : Vec} {k : Int} (ha : balL F (timesV a k) = true) (hb : balL F (timesV b k) = true) (hx : 2 * m.x = a.x + b.x) (hy : 2 * m.y = a.y + b.y) : balL F (timesV m k) = true := by
  rw [balL_iff] at *
  intro w
  have h1 := ha w
  have h2 := hb w
  rw [dot_times] at *
  have : 2 * (k * dotV w m) = k * dotV w a + k * dotV w b := by unfold dotV; grind
  omega
theorem sum_le {α : Type} {f g : α → Int} : ∀ {l : List α}, (∀ x ∈ l, f x ≤ g x) → (l.map f).sum ≤ (l.map g).sum
  | [], _ => Int.le_refl _
  | x :: l, h => by
    rw [List.map_cons, List.map_cons, List.sum_cons, List.sum_cons]
    have := sum_le (l := l) (fun y hy => h y (by simp [hy]))
    have := h x (by simp)
    omega
theorem help_snoc (F : List Vec) (f w : Vec) : helpL F w ≤ helpL (F ++ [f]) w := by
  unfold helpL
  rw [List.map_append, List.sum_append]
  simp
  omega
theorem bal_more {F : List Vec} {p f : Vec} (h : balL F p = true) : balL (F ++ [f]) p = true := by
  rw [balL_iff] at *
  exact fun w => Int.le_trans (h w) (help_snoc F f w)
theorem help_scale {f : Vec} {p q : Int} {v w : Vec} (hp : 0 ≤ p) (hq : p ≤ q) : max 0 (-(dotV w (timesV v p))) ≤ max 0 (-(dotV w (timesV v q))) := by
  rw [dot_times, dot_times]
  rcases Int.le_total 0 (dotV w v) with h | h
  · have := Int.mul_nonneg hp h
    omega
  · have := Int.mul_le_mul_of_nonneg_right hq (show 0 ≤ -(dotV w v) by omega)
    have e1 : p * -(dotV w v) = -(p * dotV w v) := by grind
    have e2 : q * -(dotV w v) = -(q * dotV w v) := by grind
    omega
theorem holds_deeper {l : List Tst} {s d e : Int} (hl : l.all tstB = true) (hd : 1 ≤ d) (he : d ≤ e) : (holdsL l s d).lo ≤ (holdsL l s e).lo := by
  unfold holdsL
  have go : ∀ (l : List Tst) (r r' : Rng), l.all tstB = true → r.lo ≤ r'.lo → (l.foldl (stepH s d) r).lo ≤ (l.foldl (stepH s e) r').lo := by
    intro l
    induction l with
    | nil => intro r r' _ hr; exact hr
    | cons x l ih =>
      intro r r' ha hr
      rw [List.all_cons, Bool.and_eq_true] at ha
      rw [List.foldl_cons, List.foldl_cons]
      refine ih _ _ ha.2 ?_
      obtain ⟨_, h1, h2, _⟩ := tst_parts ha.1
      have hq : x.force * d / x.depth ≤ x.force * e / x.depth := Int.ediv_le_ediv (by omega) (Int.mul_le_mul_of_nonneg_left he (by omega))
      unfold stepH
      split
      · split
        · dsimp only; omega
        · exact hr
      · exact hr
  exact go l _ _ hl (Int.le_refl _)
theorem part_deeper {l : List Tst} {g g' : Guy} (hl : l.all tstB = true) (hg : guyB g = true) (h1 : g'.x = g.x ∧ g'.y = g.y ∧ g'.soil = g.soil) (h2 : g.depth ≤ g'.depth) : partL l g ≤ partL l g' := by
  unfold partL
  obtain ⟨a, b, c⟩ := h1
  rw [a, b, c]
  have hs := guy_sq hg
  have hn := len_sq hs.1 (by omega)
  have hd := holds_deeper (s := g.soil) hl (guy_parts hg).2.2.2.2.2.1 h2
  have := Int.ediv_le_ediv (show 0 < lenL (g.x * g.x + g.y * g.y) by omega) (show 100 * (holdsL l g.soil g.depth).lo ≤ 100 * (holdsL l g.soil g'.depth).lo by omega)
  omega
end Go.BT
