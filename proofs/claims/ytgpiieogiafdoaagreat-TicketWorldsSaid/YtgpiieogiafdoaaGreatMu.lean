/- Walks and plain laws, part a. -/
import Derived.Test.YtgpiieogiafdoaaGreatRows
import Derived.Below
import Derived.BigQuiet
import Derived.Carry
import Derived.ChangeSame
import Derived.Deep.AppendLies
import Derived.Deep.DeepCutAuto
import Derived.Deep.QuietTactic
import Derived.Deep.RegionHeld3
import Derived.Deep.Slices
import Derived.Defers
import Derived.Laws.MakeOwn
import Derived.Laws.OwnMore
import Derived.Laws.Pointers
import Derived.Laws.StructEq
import Derived.Lib.Hide
import Derived.LoopIn
import Derived.LoopNIn
import Derived.OpenShut
import Derived.OwnWalkIn
import Derived.ProofKit
import Derived.RangeFuncBound
import Derived.RangeFuncCalls
import Derived.RangeFuncLeaves
import Derived.RangeFuncNested
import Derived.Recover
import Derived.Shelf.Abstract
import Derived.Shelf.RegionOpen
import Derived.TacticsInMore
import Derived.WalkKit
import Derived.WalkLawsBesides
import Derived.WalkSmall
import Derived.WalkSpells
import Derived.WideKeyRuns
import Derived.WideShapes
set_option maxHeartbeats 16000000
set_option maxRecDepth 100000
theorem zA {α : Type} (l : List α) (i : Nat) (a : α) : l.toArray.setIfInBounds i a = (l.set i a).toArray := by simp
theorem zB {α : Type} {x : α} {xs : List α} {a : α} : (x :: xs).set 0 a = a :: xs := rfl
theorem zC {α : Type} {x : α} {xs : List α} {i : Nat} {a : α} : (x :: xs).set (i + 1) a = x :: xs.set i a := rfl
theorem zD {α : Type} {a : α} {l : List α} : (a :: l)[0]? = some a := rfl
theorem zE {α : Type} {a : α} {i : Nat} {l : List α} : (a :: l)[i + 1]? = l[i]? := rfl
theorem zH {p : Prop} (h : p) : Go.RowKit.Hid p := h
namespace Go.BT
open Go.RowKit
@[simp] theorem _root_.Go.World.size_drewN (w : World) (n : Nat) : (w.drewN n).heap.size = w.heap.size := rfl
@[simp] theorem lt_s {a b : Nat} (h : a < b) : a < b + 1 := Nat.lt_succ_of_lt h
def Keeps (S : Nat → Prop) (w w' : World) : Prop := w.heap.size ≤ w'.heap.size ∧ ∀ j, j < w.heap.size → ¬ S j → w'.heap[j]? = w.heap[j]?
theorem Keeps.refl (S : Nat → Prop) (w : World) : Keeps S w w := ⟨Nat.le_refl _, fun _ _ _ => rfl⟩
theorem Keeps.trans {S : Nat → Prop} {a b c : World} (h : Keeps S a b) (k : Keeps S b c) : Keeps S a c :=
 ⟨Nat.le_trans h.1 k.1, fun j hj hs => (k.2 j (Nat.lt_of_lt_of_le hj h.1) hs).trans (h.2 j hj hs)⟩
theorem Keeps.of_below {S : Nat → Prop} {w w' : World} (h : Below w.heap.size w w') : Keeps S w w' := ⟨h.size, fun j hj _ => h.block j hj⟩
theorem Keeps.mono {S T : Nat → Prop} {w w' : World} (h : Keeps S w w') (hs : ∀ j, j < w.heap.size → S j → T j) : Keeps T w w' :=
 ⟨h.1, fun j hj ht => h.2 j hj (fun hsj => ht (hs j hj hsj))⟩
theorem Keeps.alloc {S : Nat → Prop} (w : World) (o : Obj) : Keeps S w (w.alloc o) := .of_below ((Below.refl _ w).alloc (Nat.le_refl _) o)
theorem Keeps.drew {S : Nat → Prop} (w : World) : Keeps S w w.drew := .of_below ((Below.refl _ w).drew)
theorem Keeps.grown {S : Nat → Prop} {w w' : World} {row : Option Nat} (h : w.grownBy w' row) (hr : ∀ k, row = some k → k < w.heap.size → S k) : Keeps S w w' :=
 ⟨h.size, fun j hj hs => h.block j hj (fun e => hs (hr j e.symm hj))⟩
theorem Keeps.setCell {S : Nat → Prop} (w : World) (a : Addr) (v : Value) (h : S a.block) : Keeps S w (w.setCell a v) :=
 ⟨by simp, fun j _ hs => Below.heap_setCell w a v j (fun e => hs (e ▸ h))⟩
theorem Keeps.cell {S : Nat → Prop} {w w' : World} (h : Keeps S w w') {a : Addr} {v : Value} (hs : ¬ S a.block) (hc : w.cell? a = some v) : w'.cell? a = some v :=
 (World.cell?_of_block (w := w) (h.2 a.block (World.block_lt_of_cell? w a hc) hs)).trans hc
structure StepX (X : Nat → Prop) (w w' : World) : Prop where
 os : w'.os = w.os
 tape : w'.tape = w.tape
 output : w'.output = w.output
 size : w.heap.size ≤ w'.heap.size
 block : ∀ k, k < w.heap.size → ¬ X k → w'.heap[k]? = w.heap[k]?
abbrev Step (w w' : World) : Prop := StepX (fun _ => False) w w'
theorem StepX.below {w w' : World} (h : Step w w') : Below w.heap.size w w' := ⟨h.os, h.tape, h.output, h.size, fun k hk => h.block k hk id⟩
theorem Step.of {w w' : World} (h : Below w.heap.size w w') : Step w w' := ⟨h.os, h.tape, h.output, h.size, fun k hk _ => h.block k hk⟩
theorem StepX.refl (X : Nat → Prop) (w : World) : StepX X w w := ⟨rfl, rfl, rfl, Nat.le_refl _, fun _ _ _ => rfl⟩
theorem StepX.trans {X : Nat → Prop} {a b c : World} (h : StepX X a b) (k : StepX X b c) : StepX X a c :=
 ⟨k.os.trans h.os, k.tape.trans h.tape, k.output.trans h.output, Nat.le_trans h.size k.size, fun j hj hx => (k.block j (Nat.lt_of_lt_of_le hj h.size) hx).trans (h.block j hj hx)⟩
theorem StepX.mono {X Y : Nat → Prop} {w w' : World} (h : StepX X w w') (hs : ∀ j, j < w.heap.size → X j → Y j) : StepX Y w w' := ⟨h.os, h.tape, h.output, h.size, fun j hj hy => h.block j hj fun hx => hy (hs j hj hx)⟩
theorem StepX.of {X : Nat → Prop} {w w' : World} (h : Step w w') : StepX X w w' := h.mono fun _ _ h => h.elim
theorem StepX.keeps {X : Nat → Prop} {w w' : World} (h : StepX X w w') : Keeps X w w' := ⟨h.size, h.block⟩
theorem StepX.kc {w w' : World} (h : StepX (fun _ => False) w w') {a : Addr} {v : Value} (hc : w.cell? a = some v) : w'.cell? a = some v := h.keeps.cell id hc
theorem StepX.grown {X : Nat → Prop} {w w' : World} {row : Option Nat} (h : w.grownBy w' row) (hr : ∀ k, row = some k → k < w.heap.size → X k) : StepX X w w' :=
 ⟨h.os, h.tape, h.output, h.size, fun j hj hs => h.block j hj (fun e => hs (hr j e.symm hj))⟩
theorem Keeps.of_step {S : Nat → Prop} {w w' : World} (h : Step w w') : Keeps S w w' := .of_below h.below
theorem Step.refl (w : World) : Step w w := StepX.refl _ _
theorem Step.drewN (w : World) (n : Nat) : Step w (w.drewN n) := .of (below_drewN (Below.refl _ w) n)
theorem Step.drew (w : World) : Step w w.drew := .of ((Below.refl _ w).drew)
theorem Step.alloc (w : World) (o : Obj) : Step w (w.alloc o) := .of ((Below.refl _ w).alloc (Nat.le_refl _) o)
theorem Step.trans {a b c : World} (h : Step a b) (k : Step b c) : Step a c := StepX.trans h k
theorem _root_.Go.RowKit.Below.step {B : Nat} {w w1 w2 : World} (h : Below B w w1) (hB : B ≤ w.heap.size) (k : Step w1 w2) : Below B w w2 :=
 h.trans (k.below.mono (Nat.le_trans hB h.size))
theorem StepX.cells {w w' : World} (h : Step w w') : (∀ b o, b < w.heap.size → w'.cell? ⟨b, o, none⟩ = w.cell? ⟨b, o, none⟩) ∧ (∀ b o, b < w.heap.size → w'.frozen? ⟨b, o, none⟩ = w.frozen? ⟨b, o, none⟩) :=
 ⟨fun b o hb => h.below.cell (p := ⟨b, o, none⟩) hb, fun b o hb => h.below.frozen (p := ⟨b, o, none⟩) hb⟩
theorem Step.setNew {w0 W : World} (h : Step w0 W) (a : Addr) (v : Value) (ha : w0.heap.size ≤ a.block) : Step w0 (W.setCell a v) := .of (h.below.setCell ha v)
theorem StepX.alloc' {X : Nat → Prop} {w0 W : World} (h : StepX X w0 W) (o : Obj) : StepX X w0 (W.alloc o) := h.trans (.of (Step.alloc _ _))
theorem StepX.drew' {X : Nat → Prop} {w0 W : World} (h : StepX X w0 W) : StepX X w0 W.drew := h.trans (.of (Step.drew _))
class Rep (α : Type) where
 k : Nat
 rep : (Nat → Prop) → World → List Value → α → Prop
 len : ∀ {S w cs x}, rep S w cs x → cs.length = k
 keep : ∀ {S w w' cs x}, Keeps S w w' → rep S w cs x → rep S w' cs x
 weak : ∀ {S T : Nat → Prop} {w cs x}, (∀ j, j < w.heap.size → T j → S j) → rep S w cs x → rep T w cs x
 one : ∀ {S w cs x}, rep S w cs x → ∀ u ∈ cs, u.oneCell' = true
 pos : 0 < k
def At {α : Type} [Rep α] (S : Nat → Prop) (w : World) (b o : Nat) (x : α) : Prop :=
 b < w.heap.size ∧ ¬ S b ∧ ∃ cs, Rep.rep S w cs x ∧ ∀ j v, cs[j]? = some v → w.cell? ⟨b, o + j, none⟩ = some v
theorem At.keep {α : Type} [Rep α] {S : Nat → Prop} {w w' : World} {b o : Nat} {x : α} (hk : Keeps S w w') (h : At S w b o x) : At S w' b o x :=
 ⟨Nat.lt_of_lt_of_le h.1 hk.1, h.2.1, by
  obtain ⟨cs, hr, hc⟩ := h.2.2
  exact ⟨cs, Rep.keep hk hr, fun j v hj => hk.cell h.2.1 (hc j v hj)⟩⟩
theorem At.weak {α : Type} [Rep α] {S T : Nat → Prop} {w : World} {b o : Nat} {x : α} (hk : ∀ j, j < w.heap.size → T j → S j) (h : At S w b o x) : At T w b o x :=
 ⟨h.1, fun ht => h.2.1 (hk b h.1 ht), by
  obtain ⟨cs, hr, hc⟩ := h.2.2
  exact ⟨cs, Rep.weak hk hr, hc⟩⟩
def SL {α : Type} [Rep α] (S : Nat → Prop) (w : World) (v : Value) (l : List α) : Prop :=
 ∃ p c b o, v = .slice p l.length c ∧ l.length ≤ c ∧ l.length ≤ 9223372036854775807 ∧ (0 < l.length → p = some ⟨b, o, none⟩) ∧ ∀ i (h : i < l.length), At S w b (o + i * Rep.k α) l[i]
theorem SL.keep {α : Type} [Rep α] {S : Nat → Prop} {w w' : World} {v : Value} {l : List α} (hk : Keeps S w w') (h : SL S w v l) : SL S w' v l := by
 obtain ⟨p, c, b, o, hv, hc, hm, hp, ha⟩ := h
 exact ⟨p, c, b, o, hv, hc, hm, hp, fun i hi => (ha i hi).keep hk⟩
theorem SL.weak {α : Type} [Rep α] {S T : Nat → Prop} {w : World} {v : Value} {l : List α} (hk : ∀ j, j < w.heap.size → T j → S j) (h : SL S w v l) : SL T w v l := by
 obtain ⟨p, c, b, o, hv, hc, hm, hp, ha⟩ := h
 exact ⟨p, c, b, o, hv, hc, hm, hp, fun i hi => (ha i hi).weak hk⟩
theorem SL.nil {α : Type} [Rep α] (S : Nat → Prop) (w : World) : SL S w (.slice none 0 0) ([] : List α) :=
 ⟨none, 0, 0, 0, rfl, Nat.le_refl _, by simp, fun h => absurd h (by simp), fun i hi => absurd hi (by simp)⟩
instance : Rep Int where
 k := 1
 rep _ _ cs n := cs = [.int .i64 n]
 len h := by rw [h]; rfl
 keep _ h := h
 weak _ h := h
 one h := by subst h; simp [Value.oneCell']
 pos := by decide
instance : Rep Bool where
 k := 1
 rep _ _ cs b := cs = [.bool b]
 len h := by rw [h]; rfl
 keep _ h := h
 weak _ h := h
 one h := by subst h; simp [Value.oneCell']
 pos := by decide
instance {α : Type} [Rep α] : Rep (List α) where
 k := 1
 rep S w cs l := ∃ v, cs = [v] ∧ SL S w v l
 len h := by obtain ⟨v, rfl, _⟩ := h; rfl
 keep hk h := by obtain ⟨v, hv, hs⟩ := h; exact ⟨v, hv, hs.keep hk⟩
 weak hk h := by obtain ⟨v, hv, hs⟩ := h; exact ⟨v, hv, hs.weak hk⟩
 one h := by obtain ⟨v, rfl, p, c, b, o, rfl, _⟩ := h; simp [Value.oneCell']
 pos := by decide
def SLe {α : Type} [Rep α] (S : Nat → Prop) (w : World) (v : Value) (l : List α) : Prop :=
 ∃ p c b o, v = .slice p l.length c ∧ l.length ≤ c ∧ l.length ≤ 9223372036854775807 ∧ (0 < l.length → p = some ⟨b, o, none⟩) ∧
  ∀ i (h : i < l.length), ∃ cs, Rep.rep S w cs l[i] ∧ ∀ j v, cs[j]? = some v → w.cell? ⟨b, o + i * Rep.k α + j, none⟩ = some v
theorem SL.e {α : Type} [Rep α] {S : Nat → Prop} {w : World} {v : Value} {l : List α} (h : SL S w v l) : SLe S w v l := by
 obtain ⟨p, c, b, o, hv, hc, hm, hp, ha⟩ := h
 exact ⟨p, c, b, o, hv, hc, hm, hp, fun i hi => (ha i hi).2.2⟩
class Flat (α : Type) extends Rep α where
 flat : ∀ {S T : Nat → Prop} {w w' : World} {cs : List Value} {x : α}, rep S w cs x → rep T w' cs x
instance : Flat Int where
 flat h := h
instance : Flat Bool where
 flat h := h
theorem SL.flat {α : Type} [Flat α] {S : Nat → Prop} (T : Nat → Prop) {w : World} {v : Value} {l : List α} (h : SL S w v l) : SLe T w v l := by
 obtain ⟨p, c, b, o, hv, hc, hm, hp, ha⟩ := h
 refine ⟨p, c, b, o, hv, hc, hm, hp, fun i hi => ?_⟩
 obtain ⟨cs, hr, hcs⟩ := (ha i hi).2.2
 exact ⟨cs, Flat.flat hr, hcs⟩
theorem SL.ints {S : Nat → Prop} {w : World} {v : Value} {l : List Int} (h : SL S w v l) :
  ∃ p c b o, v = .slice p l.length c ∧ l.length ≤ c ∧ l.length ≤ 9223372036854775807 ∧ (0 < l.length → p = some ⟨b, o, none⟩) ∧
   (∀ i (h : i < l.length), w.cell? ⟨b, o + i, none⟩ = some (.int .i64 l[i])) ∧ (0 < l.length → b < w.heap.size ∧ ¬ S b) := by
 obtain ⟨p, c, b, o, hv, hc, hm, hp, ha⟩ := h
 refine ⟨p, c, b, o, hv, hc, hm, hp, fun i hi => ?_, fun h0 => ⟨(ha 0 h0).1, (ha 0 h0).2.1⟩⟩
 obtain ⟨_, _, cs, hr, hcs⟩ := ha i hi
 have hr' : cs = [.int .i64 l[i]] := hr
 subst hr'
 have := hcs 0 _ rfl
 simpa [Rep.k] using this
theorem SL.bools {S : Nat → Prop} {w : World} {v : Value} {l : List Bool} (h : SL S w v l) :
  ∃ p c b o, v = .slice p l.length c ∧ l.length ≤ c ∧ l.length ≤ 9223372036854775807 ∧ (0 < l.length → p = some ⟨b, o, none⟩) ∧
   (∀ i (h : i < l.length), w.cell? ⟨b, o + i, none⟩ = some (.bool l[i])) ∧ (0 < l.length → b < w.heap.size ∧ ¬ S b) := by
 obtain ⟨p, c, b, o, hv, hc, hm, hp, ha⟩ := h
 refine ⟨p, c, b, o, hv, hc, hm, hp, fun i hi => ?_, fun h0 => ⟨(ha 0 h0).1, (ha 0 h0).2.1⟩⟩
 obtain ⟨_, _, cs, hr, hcs⟩ := ha i hi
 have hr' : cs = [.bool l[i]] := hr
 subst hr'
 have := hcs 0 _ rfl
 simpa [Rep.k] using this
theorem SL.rows {α : Type} [Rep α] {S : Nat → Prop} {w : World} {v : Value} {l : List (List α)} (h : SL S w v l) :
  ∃ p c b o, v = .slice p l.length c ∧ l.length ≤ c ∧ l.length ≤ 9223372036854775807 ∧ (0 < l.length → p = some ⟨b, o, none⟩) ∧
   (∀ i (h : i < l.length), ∃ u, w.cell? ⟨b, o + i, none⟩ = some u ∧ SL S w u l[i]) ∧ (0 < l.length → b < w.heap.size ∧ ¬ S b) := by
 obtain ⟨p, c, b, o, hv, hc, hm, hp, ha⟩ := h
 refine ⟨p, c, b, o, hv, hc, hm, hp, fun i hi => ?_, fun h0 => ⟨(ha 0 h0).1, (ha 0 h0).2.1⟩⟩
 obtain ⟨_, _, cs, hr, hcs⟩ := ha i hi
 obtain ⟨u, rfl, hu⟩ : ∃ v, cs = [v] ∧ SL S w v l[i] := hr
 have := hcs 0 _ rfl
 exact ⟨u, by simpa [Rep.k] using this, hu⟩
theorem SL.form {α : Type} [Rep α] {S : Nat → Prop} {w : World} {v : Value} {l : List α} (h : SL S w v l) : ∃ p c, v = .slice p l.length c := by
 obtain ⟨p, c, b, o, hv, _⟩ := h; exact ⟨p, c, hv⟩
theorem SL.len {α : Type} [Rep α] {S : Nat → Prop} {w : World} {v : Value} {l : List α} (h : SL S w v l) : l.length ≤ 9223372036854775807 := by
 obtain ⟨p, c, b, o, hv, hc, hm, _⟩ := h; exact hm
def avoid (S : Nat → Prop) (v : Value) : Nat → Prop := fun j => S j ∨ v.ownBlock = some j
def Old (w : World) : Nat → Prop := fun j => j < w.heap.size
def OwnL {α : Type} [Rep α] (S : Nat → Prop) (base : Nat) (e : TypeId) (w : World) (v : Value) (l : List α) : Prop :=
 ∃ xs, w.ownsRow base e (Rep.k α) v l.length xs ∧ ∀ i (h : i < l.length), Rep.rep (avoid S v) w ((xs.drop (i * Rep.k α)).take (Rep.k α)) l[i]
section
variable {α : Type} [Rep α] {S : Nat → Prop} {base : Nat} {e : TypeId} {w w' : World} {v : Value} {l : List α}
theorem OwnL.nil (S : Nat → Prop) (base : Nat) (e : TypeId) (w : World) : OwnL S base e w (.slice none 0 0) ([] : List α) :=
 ⟨[], World.ownsRow_nil w base e _, fun i h => absurd h (by simp)⟩
theorem OwnL.form (h : OwnL S base e w v l) : ∃ p c, v = .slice p l.length c ∧ l.length ≤ maxLen ∧ l.length ≤ c := by
 obtain ⟨xs, ⟨_, h⟩, _⟩ := h
 rcases h with ⟨rfl, h0⟩ | ⟨g, cap, cur, rfl, _, _, hle, hcap, _⟩
 ·exact ⟨none, 0, by rw [h0], by rw [h0]; exact Nat.zero_le _, by omega⟩
 ·exact ⟨_, cap, rfl, Nat.le_trans hle hcap, hle⟩
theorem OwnL.lt (h : OwnL S base e w v l) : ∀ g, v.ownBlock = some g → base ≤ g ∧ g < w.heap.size := by
 obtain ⟨xs, h, _⟩ := h; exact h.lt
theorem OwnL.kept (h : OwnL S base e w v l) (hk : Keeps S w w') (hrow : ∀ g, v.ownBlock = some g → w'.heap[g]? = w.heap[g]?) : OwnL S base e w' v l := by
 obtain ⟨xs, ⟨hl, ho⟩, hr⟩ := h
 refine ⟨xs, ⟨hl, ?_⟩, fun i hi => Rep.keep (hk.mono fun j _ hs => .inl hs) (hr i hi)⟩
 rcases ho with hn | ⟨g, cap, cur, rfl, hb, hg, hh, r⟩
 ·exact .inl hn
 ·exact .inr ⟨g, cap, cur, rfl, hb, by rw [hrow g rfl]; exact hg, hh, r⟩
theorem OwnL.below (h : OwnL S base e w v l) (hb : Below w.heap.size w w') : OwnL S base e w' v l :=
 h.kept (.of_below hb) fun g hg => hb.block g (h.lt g hg).2
theorem OwnL.alloc (h : OwnL S base e w v l) (o : Obj) : OwnL S base e (w.alloc o) v l := h.below ((Below.refl _ w).alloc (Nat.le_refl _) o)
theorem OwnL.drew (h : OwnL S base e w v l) : OwnL S base e w.drew v l := h.below ((Below.refl _ w).drew)
theorem OwnL.drewN (h : OwnL S base e w v l) (n : Nat) : OwnL S base e (w.drewN n) v l := h.below (below_drewN (Below.refl _ w) n)
theorem OwnL.weak {T : Nat → Prop} (h : OwnL S base e w v l) (hk : ∀ j, j < w.heap.size → T j → S j) : OwnL T base e w v l := by
 obtain ⟨xs, ho, hr⟩ := h
 exact ⟨xs, ho, fun i hi => Rep.weak (fun j hj ht => ht.elim (fun ht => .inl (hk j hj ht)) .inr) (hr i hi)⟩
theorem OwnL.sl (h : OwnL S base e w v l) (hs : ∀ g, base ≤ g → g < w.heap.size → ¬ S g) : SL S w v l := by
 have hm : l.length ≤ 9223372036854775807 := by obtain ⟨_, _, _, hm, _⟩ := h.form; simp only [maxLen] at hm; omega
 have hlt := h.lt
 obtain ⟨xs, h', hr⟩ := h
 have h := h'.2
 rcases h with ⟨rfl, h0⟩ | ⟨g, cap, cur, rfl, hb, hg, hle, hcap, hsz, htk⟩
 ·have : l = [] := List.eq_nil_of_length_eq_zero h0
  subst this; exact SL.nil S w
 ·refine ⟨_, cap, g, 0, rfl, hle, hm, fun _ => rfl, fun i hi => ⟨(hlt g rfl).2, hs g hb (hlt g rfl).2, _, Rep.weak (fun j _ hj => .inl hj) (hr i hi), fun j u hj => ?_⟩⟩
  have hj' : (xs.drop (i * Rep.k α))[j]? = some u := by
   rw [List.getElem?_take] at hj; split at hj
   ·exact hj
   ·cases hj
  rw [List.getElem?_drop] at hj'
  have := h'.cells (g := g) (by simp [Value.ownBlock]) (i * Rep.k α + j) u hj'
  rw [Addr.add_lit] at this
  simpa using this
theorem OwnL.fresh (h : OwnL (Old w) w.heap.size e w' v l) : SL (Old w) w' v l := h.sl fun g hg _ hs => by unfold Old at hs; omega
theorem cells_of_at {b : Nat} (m : List α) : ∀ o, (∀ i (h : i < m.length), ∃ cs, Rep.rep S w cs m[i] ∧ ∀ j v, cs[j]? = some v → w.cell? ⟨b, o + i * Rep.k α + j, none⟩ = some v) →
  ∃ news : List Value, news.length = m.length * Rep.k α ∧ (∀ (j : Nat) (u : Value), news[j]? = some u → w.cell? ⟨b, o + j, none⟩ = some u) ∧ (∀ u ∈ news, u.oneCell' = true) ∧
   ∀ i (h : i < m.length), Rep.rep S w ((news.drop (i * Rep.k α)).take (Rep.k α)) m[i] := by
 induction m with
 | nil => intro o _; exact ⟨[], by simp, by simp, by simp, fun i h => absurd h (by simp)⟩
 | cons x m ih =>
  intro o h
  obtain ⟨cs, hr, hc⟩ := h 0 (by simp)
  obtain ⟨news, hl, hn, h1, hrs⟩ := ih (o + Rep.k α) (fun i hi => by
   have := h (i + 1) (by simp; omega)
   simp only [List.getElem_cons_succ] at this
   rwa [Nat.add_mul, Nat.one_mul, Nat.add_comm (i * Rep.k α), ← Nat.add_assoc] at this)
  have hr' : Rep.rep S w cs x := hr
  have hlen := Rep.len hr'
  refine ⟨cs ++ news, by simp [hlen, hl, Nat.add_mul, Nat.add_comm], fun j u hj => ?_, fun u hu => ?_, fun i hi => ?_⟩
  ·by_cases hjl : j < cs.length
   ·rw [List.getElem?_append_left hjl] at hj
    simpa using hc j u hj
   ·rw [List.getElem?_append_right (by omega)] at hj
    have := hn _ _ hj
    rwa [hlen, show o + Rep.k α + (j - Rep.k α) = o + j by omega] at this
  ·rcases List.mem_append.1 hu with hu | hu
   ·exact Rep.one hr' u hu
   ·exact h1 u hu
  ·cases i with
   | zero => simpa [← hlen] using hr'
   | succ i =>
    have hi' : i < m.length := by simpa using hi
    have := hrs i hi'
    rw [Nat.add_mul, Nat.one_mul, Nat.add_comm, List.drop_append, List.drop_of_length_le (by omega), List.nil_append]
    simp only [List.getElem_cons_succ]
    rwa [show Rep.k α + i * Rep.k α - cs.length = i * Rep.k α by omega]
end
def EI (P : Program) (t e : TypeId) (z : Value) (k bytes : Nat) : Prop :=
 P.underlying t = some (.slice e) ∧ z.cells.size = k ∧ ∃ i, P.info? e = some i ∧ i.zero = some z ∧ i.size = k ∧ i.bytes = bytes
theorem EI.mk' {P : Program} {t e : TypeId} {z : Value} {k bytes : Nat} (h1 : P.underlying t = some (.slice e)) (h2 : (P.info? e).map (fun i => (i.zero, i.size, i.bytes)) = some (some z, k, bytes))
  (h3 : z.cells.size = k) : EI P t e z k bytes := by
 obtain ⟨i, hi, a, b, c⟩ := info_parts h2
 exact ⟨h1, h3, i, hi, a, b, c⟩
section
variable {α : Type} [Rep α] {S : Nat → Prop} {base : Nat} {P : Program} {w : World} {v u : Value} {l m : List α} {t e : TypeId} {z : Value} {bytes : Nat}
theorem run_append_L (ei : EI P t e z (Rep.k α) bytes) (ty : TypeId) (hown : OwnL S base e w v l) (hu : SLe (avoid S v) w u m)
  (n : Nat) (hn : l.length + m.length = n) (lm : List α) (hlm : l ++ m = lm) (h63 : n ≤ maxLen) (hbytes : n * bytes ≤ 140737488355328) (hbase : base ≤ w.heap.size) :
  ∃ p c w', (Builtin.append_ #[t, t] ty #[v, u]).run P w = .ok (.slice p n c) w' ∧ OwnL S base e w' (.slice p n c) lm ∧ w.grownBy w' v.ownBlock := by
 subst hn hlm
 obtain ⟨ht, hzs, i, hi, hz, hsize, hby⟩ := ei
 obtain ⟨xs, ho, hr⟩ := hown
 obtain ⟨pu, cu, b, o, rfl, hcu, _, hp, hat⟩ := hu
 obtain ⟨news, hl, hnw, h1, hrs⟩ := cells_of_at m o hat
 by_cases hm : m = []
 ·subst hm
  have hform := OwnL.form (S := S) ⟨xs, ho, hr⟩
  obtain ⟨p, c, rfl, hle, _⟩ := hform
  have h0 : news = [] := List.eq_nil_of_length_eq_zero (by simpa using hl)
  subst h0
  cases pu with
  | none =>
   refine ⟨p, c, w, ?_, by rw [List.append_nil]; exact (⟨xs, ho, hr⟩ : OwnL S base e w _ l), World.grownBy.refl _ _⟩
   have hc : l.length ≤ c := by
    rcases ho.2 with ⟨h, h0⟩ | ⟨g, cap, cur, hv, _, _, hle, _⟩
    ·rw [h0]; exact Nat.zero_le _
    ·injection hv
   simp [Builtin.append_, run_underlying ht, sizeOf, typeInfo, hi, Builtin.lenOf, Builtin.firstCells, hc]
   cases p <;> simp [storeCells]
  | some a =>
   have hc : l.length ≤ c := by
    rcases ho.2 with ⟨h, h0⟩ | ⟨g, cap, cur, hv, _, _, hle, _⟩
    ·rw [h0]; exact Nat.zero_le _
    ·injection hv
   refine ⟨p, c, w, ?_, by rw [List.append_nil]; exact (⟨xs, ho, hr⟩ : OwnL S base e w _ l), World.grownBy.refl _ _⟩
   simp [Builtin.append_, run_underlying ht, sizeOf, typeInfo, hi, Builtin.lenOf, Builtin.firstCells, hc, loadCells, loadCellsFrom]
   cases p <;> simp [storeCells]
 ·have hpos : 0 < m.length := List.length_pos_iff.2 hm
  obtain rfl := hp hpos
  obtain ⟨g, cap, w', hrun, h2, h3, h4, _⟩ := run_append_lies (P := P) w t ty base e i z (Rep.k α) bytes ht hi hz hsize hby hzs Rep.pos v l.length xs ho ⟨b, o, none⟩ m.length cu news hl
   (fun j x hj => by rw [Addr.add_lit]; exact hnw j x hj) h1 hpos h63 hbytes hbase w.heap.size rfl
  refine ⟨_, _, w', hrun, ⟨xs ++ news, by simpa using h2, fun k hk => ?_⟩, h3⟩
  -- what the elements lead to: kept, and not in the new row
  have hkp : Keeps (avoid S v) w w' := Keeps.grown h3 fun j hj _ => .inr hj
  have fresh : ∀ {cs : List Value} {x : α}, Rep.rep (avoid S v) w cs x → Rep.rep (avoid S (.slice (some ⟨g, 0, none⟩) (l.length + m.length) cap)) w' cs x := fun {cs x} hx => by
   have hT : Rep.rep (fun j => avoid S v j ∨ g = j) w cs x := Rep.weak (fun j hj hs => by
    rcases hs with hs | rfl
    ·exact hs
    ·rcases h4 with h4 | h4
     ·exact .inr h4
     ·omega) hx
   exact Rep.weak (fun j _ hs => by
    rcases hs with hs | hs
    ·exact .inl (.inl hs)
    ·simp [Value.ownBlock] at hs; exact .inr hs) (Rep.keep (hkp.mono fun j _ hs => .inl hs) hT)
  have hxl : xs.length = l.length * Rep.k α := ho.1
  by_cases hkl : k < l.length
  ·have e1 : ((xs ++ news).drop (k * Rep.k α)).take (Rep.k α) = (xs.drop (k * Rep.k α)).take (Rep.k α) := by
    have : k * Rep.k α + Rep.k α ≤ xs.length := by
     rw [hxl, ← Nat.succ_mul]; exact Nat.mul_le_mul_right _ hkl
    rw [List.drop_append_of_le_length (by omega), List.take_append_of_le_length (by rw [List.length_drop]; omega)]
   rw [e1, List.getElem_append_left hkl]
   exact fresh (hr k hkl)
  ·have hk' : k - l.length < m.length := by simp at hk; omega
   have e1 : (xs ++ news).drop (k * Rep.k α) = news.drop ((k - l.length) * Rep.k α) := by
    rw [List.drop_append, List.drop_of_length_le (by rw [hxl]; exact Nat.mul_le_mul_right _ (by omega)), List.nil_append, hxl, ← Nat.sub_mul]
   rw [e1, List.getElem_append_right (by omega)]
   exact fresh (hrs _ hk')
theorem wp_append_L {o : Oper} {a : Act} {K : Act → World → Prop} {Q : Exit → Act → World → Prop} (ei : EI P t e z (Rep.k α) bytes) (s x : Operand)
  (ho : o.op = .call { callee := .builtin .append, args := #[s, x], argTypes := #[t, t] }) (hs : a.eval s = v) (hx : a.eval x = u) (hown : OwnL S base e w v l) (hu : SLe (avoid S v) w u m)
  (n : Nat) (hn : l.length + m.length = n) (lm : List α) (hlm : l ++ m = lm) (h63 : n ≤ maxLen) (hbytes : n * bytes ≤ 140737488355328) (hbase : base ≤ w.heap.size)
  (h : ∀ p c w', OwnL S base e w' (.slice p n c) lm → w.grownBy w' v.ownBlock → K (a.put o.dst (.slice p n c)) w') : o.wp P a w K Q := by
 obtain ⟨p, c, w', hr, h2, h3⟩ := run_append_L ei o.type hown hu n hn lm hlm h63 hbytes hbase
 unfold Oper.wp execOp
 simp only [ho, resolve, invoke, builtin, Sem.run_bind, Sem.run_pure, Result.andThen_ok, List.map_toArray, List.map_cons, List.map_nil, hs, hx, hr]
 exact h p c w' h2 h3
theorem wpl_append {ops : Array Oper} {rest : List Oper} {o : Oper} {a : Act} {Q : Exit → Act → World → Prop} (ei : EI P t e z (Rep.k α) bytes) (hgd : o.guard = none) (s x : Operand)
  (ho : o.op = .call { callee := .builtin .append, args := #[s, x], argTypes := #[t, t] }) (hs : a.eval s = v) (hx : a.eval x = u) (hown : OwnL S base e w v l) (hu : SLe (avoid S v) w u m)
  (n : Nat) (hn : l.length + m.length = n) (lm : List α) (hlm : l ++ m = lm) (h63 : n ≤ maxLen) (hbytes : n * bytes ≤ 140737488355328) (hbase : base ≤ w.heap.size)
  (h : ∀ p c w', OwnL S base e w' (.slice p n c) lm → w.grownBy w' v.ownBlock → wpList P ops Q rest (a.put o.dst (.slice p n c)) w') : wpList P ops Q (o :: rest) a w :=
 wpList_plain hgd fun _ hK => wp_append_L ei s x ho hs hx hown hu n hn lm hlm h63 hbytes hbase fun p c w' h2 h3 => hK _ _ (h p c w' h2 h3)
end
theorem SL.one {α : Type} [Rep α] {S : Nat → Prop} {w : World} {cs : List Value} {x : α} (ty : TypeId) (h : Rep.rep S w cs x) (hs : ¬ S w.heap.size) :
  SL S (w.alloc (.cells cs.toArray ty)) (.slice (some ⟨w.heap.size, 0, none⟩) 1 1) [x] := by
 refine ⟨_, 1, w.heap.size, 0, rfl, Nat.le_refl _, by simp, fun _ => rfl, fun i hi => ?_⟩
 obtain rfl : i = 0 := by simpa using hi
 refine ⟨by simp, hs, cs, Rep.keep (.alloc _ _) h, fun j u hj => ?_⟩
 simp only [Nat.zero_mul, Nat.zero_add, Nat.add_zero]
 rw [World.cell?_alloc_new]
 simpa using hj
theorem SLe.one {α : Type} [Rep α] {S : Nat → Prop} {w : World} {cs : List Value} {x : α} (ty : TypeId) (h : Rep.rep S w cs x) :
  SLe S (w.alloc (.cells cs.toArray ty)) (.slice (some ⟨w.heap.size, 0, none⟩) 1 1) [x] := by
 refine ⟨_, 1, w.heap.size, 0, rfl, Nat.le_refl _, by simp, fun _ => rfl, fun i hi => ?_⟩
 obtain rfl : i = 0 := by simpa using hi
 refine ⟨cs, Rep.keep (.alloc _ _) h, fun j u hj => ?_⟩
 simp only [Nat.zero_mul, Nat.zero_add, Nat.add_zero]
 rw [World.cell?_alloc_new]
 simpa using hj
theorem avoid_old {α : Type} [Rep α] {wr : World} {base : Nat} {e : TypeId} {v : Value} {l : List α} {S : Nat → Prop} (h : OwnL S base e wr v l) (hs : ∀ j, S j → j < wr.heap.size) : ∀ j, avoid S v j → Old wr j := fun j hj => by
 rcases hj with hj | hj
 ·exact hs j hj
 ·exact (h.lt j hj).2
theorem old_lt {w wr : World} {B : Nat} (h : Below B w wr) : ∀ j, Old w j → j < wr.heap.size := fun _ hj => Nat.lt_of_lt_of_le hj h.size
def Bx (w : World) (g : Nat) (cs : List Value) (T : TypeId) : Prop := w.heap[g]? = some (.cells cs.toArray T (0, 0))
structure Wrote (g : Nat) (w w' : World) : Prop where
 os : w'.os = w.os
 tape : w'.tape = w.tape
 output : w'.output = w.output
 size : w'.heap.size = w.heap.size
 block : ∀ k, k ≠ g → w'.heap[k]? = w.heap[k]?
section
variable {w w' : World} {g : Nat} {cs : List Value} {T : TypeId}
theorem Bx.cell (h : Bx w g cs T) (i : Nat) : w.cell? ⟨g, i, none⟩ = cs[i]? := by
 unfold Bx at h; simp [World.cell?, h]
theorem Bx.frozen (h : Bx w g cs T) (i : Nat) : w.frozen? ⟨g, i, none⟩ = false := by
 unfold Bx at h; simp [World.frozen?, h]
theorem Bx.lt (h : Bx w g cs T) : g < w.heap.size := (Array.getElem?_eq_some_iff.1 h).1
theorem Bx.step (h : Bx w g cs T) (hs : Step w w') : Bx w' g cs T := by
 have hl := h.lt
 unfold Bx at *; rw [hs.below.block g hl]; exact h
theorem Bx.keep {S : Nat → Prop} (h : Bx w g cs T) (hk : Keeps S w w') (hs : ¬ S g) : Bx w' g cs T := by
 have hl := h.lt
 unfold Bx at *; rw [hk.2 g hl hs]; exact h
theorem Bx.new (w : World) (cs : List Value) (T : TypeId) : Bx (w.alloc (.cells cs.toArray T)) w.heap.size cs T := heap_alloc_new w _
theorem Bx.alloc (h : Bx w g cs T) (o : Obj) : Bx (w.alloc o) g cs T := h.step (.alloc _ _)
theorem Wrote.keeps (h : Wrote g w w') : Keeps (fun j => j = g) w w' := ⟨Nat.le_of_eq h.size.symm, fun j _ hj => h.block j hj⟩
theorem Wrote.below {B : Nat} (h : Wrote g w w') (hB : B ≤ g) : Below B w w' := ⟨h.os, h.tape, h.output, Nat.le_of_eq h.size.symm, fun k hk => h.block k (by omega)⟩
theorem Wrote.grown (h : Wrote g w w') : w.grownBy w' (some g) := ⟨h.os, h.tape, h.output, Nat.le_of_eq h.size.symm, fun k _ hk => h.block k (fun e => hk (by rw [e]))⟩
theorem Wrote.setCell (w : World) (g o : Nat) (v : Value) : Wrote g w (w.setCell ⟨g, o, none⟩ v) :=
 ⟨rfl, rfl, rfl, by simp, fun k hk => Below.heap_setCell w ⟨g, o, none⟩ v k hk⟩
theorem Bx.setCell (h : Bx w g cs T) (o : Nat) (v : Value) : Bx (w.setCell ⟨g, o, none⟩ v) g (cs.set o v) T := by
 unfold Bx at *
 simp [World.setCell, Array.getElem?_modify, h]
theorem Bx.setOther (h : Bx w g cs T) {b o : Nat} {v : Value} (hb : g ≠ b) : Bx (w.setCell ⟨b, o, none⟩ v) g cs T := by
 unfold Bx at *; rw [Below.heap_setCell w ⟨b, o, none⟩ v g hb]; exact h
theorem wp_store_L {P : Program} {o : Oper} {a : Act} {K : Act → World → Prop} {Q : Exit → Act → World → Prop} {off : Nat} {v : Value} (ty : TypeId) (x y : Operand) (ho : o.op = .store ty x y)
  (hx : a.eval x = .pointer (some ⟨g, off, none⟩)) (hy : a.eval y = v) (hb : Bx w g cs T) (hi : (P.info? ty).map (·.size) = some v.cells.size) (hfit : off + v.cells.size ≤ cs.length) (h1 : ∀ u ∈ v.cells.toList, u.oneCell' = true)
  (new : List Value) (hnew : cs.take off ++ v.cells.toList ++ cs.drop (off + v.cells.size) = new)
  (hK : ∀ w', Bx w' g new T → Wrote g w w' → K (a.put o.dst undef) w') : o.wp P a w K Q := by
 subst hnew
 obtain ⟨i, hi1, hi2⟩ := Option.map_eq_some_iff.1 hi
 have hr := run_storeCells_at P g off T v.cells.toList 0 cs.toArray w hb (by simpa using hfit) h1
 have hs : (storeVar ty ⟨g, off, none⟩ v).run P w = .ok () (w.setRow g (cs.take off ++ v.cells.toList ++ cs.drop (off + v.cells.size)).toArray) := by
  simp only [Nat.add_zero, Array.length_toList] at hr
  simp [storeVar, sizeOf, typeInfo, hi1, hi2, Result.andThen]
  simpa using hr
 unfold Oper.wp execOp
 simp only [ho, hx, hy, Instr.storeAt, Instr.sureAddr, Sem.run_bind, Sem.run_pure, Result.andThen_ok, hs]
 exact hK _ (setRow_heap w g _ _ T (0, 0) hb) ⟨rfl, rfl, rfl, by simp [World.setRow], fun k hk => setRow_other w g k _ hk⟩
theorem wpl_store {P : Program} {ops : Array Oper} {rest : List Oper} {o : Oper} {a : Act} {Q : Exit → Act → World → Prop} {off : Nat} {v : Value} (hgd : o.guard = none) (ty : TypeId) (x y : Operand) (ho : o.op = .store ty x y)
  (hx : a.eval x = .pointer (some ⟨g, off, none⟩)) (hy : a.eval y = v) (hb : Bx w g cs T) (hi : (P.info? ty).map (·.size) = some v.cells.size) (hfit : off + v.cells.size ≤ cs.length) (h1 : ∀ u ∈ v.cells.toList, u.oneCell' = true)
  (new : List Value) (hnew : cs.take off ++ v.cells.toList ++ cs.drop (off + v.cells.size) = new)
  (hK : ∀ w', Bx w' g new T → Wrote g w w' → wpList P ops Q rest (a.put o.dst undef) w') : wpList P ops Q (o :: rest) a w :=
 wpList_plain hgd fun _ hK' => wp_store_L ty x y ho hx hy hb hi hfit h1 new hnew fun w' h2 h3 => hK' _ _ (hK w' h2 h3)
end
theorem Step.wrote {w0 w w' : World} {g : Nat} (h : Step w0 w) (hw : Wrote g w w') (hg : w0.heap.size ≤ g) : Step w0 w' := .of (h.below.trans (hw.below hg))
theorem SL.later {α : Type} [Rep α] {S : Nat → Prop} {W w1 w' : World} {v : Value} {l : List α} (h : SL (Old W) w1 v l) (hs : ∀ j, j < w1.heap.size → S j → j < W.heap.size) (hk : Keeps S w1 w') : SL S w' v l :=
 (h.weak hs).keep hk
theorem Keeps.wrote {S : Nat → Prop} {w w' : World} {g : Nat} (h : Wrote g w w') (hs : S g) : Keeps S w w' := h.keeps.mono fun _ _ hj => hj ▸ hs
section
variable {S : Nat → Prop} {a b c : World}
theorem Keeps.s_step (h : Keeps S a b) (k : Step b c) : Keeps S a c := h.trans (.of_step k)
theorem Keeps.s_alloc (o : Obj) (h : Keeps S a b) : Keeps S a (b.alloc o) := h.trans (.alloc _ _)
theorem Keeps.s_drew (h : Keeps S a b) : Keeps S a b.drew := h.trans (.drew _)
theorem Keeps.s_drewN (n : Nat) (h : Keeps S a b) : Keeps S a (b.drewN n) := h.trans (.of_step (.drewN _ _))
theorem Keeps.s_wrote {g : Nat} (h : Keeps S a b) (k : Wrote g b c) (hs : S g) : Keeps S a c := h.trans (.wrote k hs)
theorem Step.s_alloc (o : Obj) (h : Step a b) : Step a (b.alloc o) := h.alloc' o
theorem Step.s_drew (h : Step a b) : Step a b.drew := h.drew'
theorem Step.s_drewN (n : Nat) (h : Step a b) : Step a (b.drewN n) := Step.trans h (.drewN _ _)
end
theorem SLe.step {α : Type} [Rep α] {S : Nat → Prop} {w w' : World} {v : Value} {l : List α} (h : SLe S w v l) (hs : Step w w') : SLe S w' v l := by
 obtain ⟨p, c, b, o, hv, hc, hm, hp, ha⟩ := h
 refine ⟨p, c, b, o, hv, hc, hm, hp, fun i hi => ?_⟩
 obtain ⟨cs, hr, hcs⟩ := ha i hi
 exact ⟨cs, Rep.keep (.of_step hs) hr, fun j v hj => (Keeps.of_step (S := fun _ => False) hs).cell id (hcs j v hj)⟩
theorem OwnL.step {α : Type} [Rep α] {S : Nat → Prop} {base : Nat} {e : TypeId} {w w' : World} {v : Value} {l : List α} (h : OwnL S base e w v l) (hs : Step w w') : OwnL S base e w' v l := h.below hs.below
theorem OwnL.wrote {α : Type} [Rep α] {S : Nat → Prop} {base : Nat} {e : TypeId} {w w' : World} {v : Value} {l : List α} {g : Nat} (h : OwnL S base e w v l) (hw : Wrote g w w') (hs : S g) (hg : v.ownBlock ≠ some g) : OwnL S base e w' v l :=
 h.kept (.wrote hw hs) fun k hk => hw.block k (fun e => hg (e ▸ hk))
def SI (P : Program) (T : TypeId) (k : Nat) : Prop := (∃ fs, P.underlying T = some (.struct fs)) ∧ (P.info? T).map (·.size) = some k
theorem run_loadVar_bx {P : Program} {T T' : TypeId} {k g : Nat} {cs : List Value} {w : World} (hi : SI P T k) (hb : Bx w g cs T') (hk : cs.length = k) : (loadVar T ⟨g, 0, none⟩).run P w = .ok (.agg cs.toArray) w := by
 obtain ⟨⟨fs, h1⟩, h2⟩ := hi
 exact run_loadVar_row w g T' T cs.toArray (0, 0) _ hb h1 rfl (by simpa [hk] using h2)
theorem ret_struct {P : Program} {fn : Func} {R : Ending → World → Prop} {a : Act} {w : World} {t : Tmp} {T T' : TypeId} {k g : Nat} {cs : List Value} (hr : fn.results = #[.cell t T]) (hi : SI P T k)
  (ht : a.tmps.getD t undef = .pointer (some ⟨g, 0, none⟩)) (hb : Bx w g cs T') (hk : cs.length = k) (hd : a.defers = []) (hR : R (.returned (.agg cs.toArray)) w) : bodyPost P fn R .ret a w := by
 refine bodyPost_ret (v := .agg cs.toArray) ?_ hd hR
 have ht' : a.tmps[t]?.getD undef = .pointer (some ⟨g, 0, none⟩) := by simpa using ht
 simp [results, hr, ht', asAddr, run_loadVar_bx hi hb hk]
end Go.BT
namespace Go.BT
open Go.RowKit
structure Sector where
 cls : Int
 seats : Int
 deriving DecidableEq, Inhabited
structure Key where
 frm : Int
 number : Int
 deriving DecidableEq, Inhabited
structure IKey where
 idx : Nat
 frm : Int
 number : Int
 deriving DecidableEq, Inhabited
structure Move where
 seat : Int
 shw : Int
 at_ : Int
 deriving DecidableEq, Inhabited
structure Count where
 free : Int
 sold : Int
 deriving DecidableEq, Inhabited
structure House where
 sectors : List Sector
 prices : List Int
 dates : List Int
 frm : List (List Int)
 holds : List (List Int)
 deriving DecidableEq, Inhabited
structure Book where
 agency : Int
 seats : List (List Int)
 off : List Bool
 sent : Int
 took : List Key
 cash : Int
 deriving DecidableEq, Inhabited
structure Message where
 frm : Int
 dst : Int
 number : Int
 shw : Int
 seats : List Int
 deriving DecidableEq, Inhabited
instance : Rep Sector where
 k := 2
 rep _ _ cs x := cs = [.int .i64 x.cls, .int .i64 x.seats]
 len h := by rw [h]; rfl
 keep _ h := h
 weak _ h := h
 one h := by subst h; simp [Value.oneCell']
 pos := by decide
instance : Rep Key where
 k := 2
 rep _ _ cs x := cs = [.int .i64 x.frm, .int .i64 x.number]
 len h := by rw [h]; rfl
 keep _ h := h
 weak _ h := h
 one h := by subst h; simp [Value.oneCell']
 pos := by decide
instance : Rep IKey where
 k := 2
 rep _ _ cs x := cs = [.int .i64 x.frm, .int .i64 x.number]
 len h := by rw [h]; rfl
 keep _ h := h
 weak _ h := h
 one h := by subst h; simp [Value.oneCell']
 pos := by decide
instance : Rep Count where
 k := 2
 rep _ _ cs x := cs = [.int .i64 x.free, .int .i64 x.sold]
 len h := by rw [h]; rfl
 keep _ h := h
 weak _ h := h
 one h := by subst h; simp [Value.oneCell']
 pos := by decide
instance : Flat Sector where
 flat h := h
instance : Flat Key where
 flat h := h
instance : Flat Count where
 flat h := h
instance : Rep House where
 k := 5
 rep S w cs h := ∃ c0 c1 c2 c3 c4, cs = [c0, c1, c2, c3, c4] ∧ SL S w c0 h.sectors ∧ SL S w c1 h.prices ∧ SL S w c2 h.dates ∧ SL S w c3 h.frm ∧ SL S w c4 h.holds
 len h := by obtain ⟨_, _, _, _, _, rfl, _⟩ := h; rfl
 keep hk h := by
  obtain ⟨c0, c1, c2, c3, c4, e, h0, h1, h2, h3, h4⟩ := h
  exact ⟨c0, c1, c2, c3, c4, e, h0.keep hk, h1.keep hk, h2.keep hk, h3.keep hk, h4.keep hk⟩
 weak hk h := by
  obtain ⟨c0, c1, c2, c3, c4, e, h0, h1, h2, h3, h4⟩ := h
  exact ⟨c0, c1, c2, c3, c4, e, h0.weak hk, h1.weak hk, h2.weak hk, h3.weak hk, h4.weak hk⟩
 one h := by
  obtain ⟨c0, c1, c2, c3, c4, rfl, h0, h1, h2, h3, h4⟩ := h
  obtain ⟨_, _, rfl⟩ := h0.form; obtain ⟨_, _, rfl⟩ := h1.form; obtain ⟨_, _, rfl⟩ := h2.form; obtain ⟨_, _, rfl⟩ := h3.form; obtain ⟨_, _, rfl⟩ := h4.form
  simp [Value.oneCell']
 pos := by decide
instance : Rep Book where
 k := 6
 rep S w cs b := ∃ c1 c2 c4, cs = [.int .i64 b.agency, c1, c2, .int .i64 b.sent, c4, .int .i64 b.cash] ∧ SL S w c1 b.seats ∧ SL S w c2 b.off ∧ SL S w c4 b.took
 len h := by obtain ⟨_, _, _, rfl, _⟩ := h; rfl
 keep hk h := by
  obtain ⟨c1, c2, c4, e, h1, h2, h4⟩ := h
  exact ⟨c1, c2, c4, e, h1.keep hk, h2.keep hk, h4.keep hk⟩
 weak hk h := by
  obtain ⟨c1, c2, c4, e, h1, h2, h4⟩ := h
  exact ⟨c1, c2, c4, e, h1.weak hk, h2.weak hk, h4.weak hk⟩
 one h := by
  obtain ⟨c1, c2, c4, rfl, h1, h2, h4⟩ := h
  obtain ⟨_, _, rfl⟩ := h1.form; obtain ⟨_, _, rfl⟩ := h2.form; obtain ⟨_, _, rfl⟩ := h4.form
  simp [Value.oneCell']
 pos := by decide
instance : Rep Message where
 k := 5
 rep S w cs m := ∃ c4, cs = [.int .i64 m.frm, .int .i64 m.dst, .int .i64 m.number, .int .i64 m.shw, c4] ∧ SL S w c4 m.seats
 len h := by obtain ⟨_, rfl, _⟩ := h; rfl
 keep hk h := by obtain ⟨c4, e, h4⟩ := h; exact ⟨c4, e, h4.keep hk⟩
 weak hk h := by obtain ⟨c4, e, h4⟩ := h; exact ⟨c4, e, h4.weak hk⟩
 one h := by
  obtain ⟨c4, rfl, h4⟩ := h
  obtain ⟨_, _, rfl⟩ := h4.form
  simp [Value.oneCell']
 pos := by decide
instance : Rep Move where
 k := 3
 rep _ _ cs x := cs = [.int .i64 x.seat, .int .i64 x.shw, .int .i64 x.at_]
 len h := by rw [h]; rfl
 keep _ h := h
 weak _ h := h
 one h := by subst h; simp [Value.oneCell']
 pos := by decide
instance : Flat Move where
 flat h := h
def AV {α : Type} [Rep α] (S : Nat → Prop) (w : World) (v : Value) (x : α) : Prop := ∃ cs, v = .agg cs.toArray ∧ Rep.rep S w cs x
theorem AV.keep {α : Type} [Rep α] {S : Nat → Prop} {w w' : World} {v : Value} {x : α} (hk : Keeps S w w') (h : AV S w v x) : AV S w' v x := by
 obtain ⟨cs, e, h⟩ := h; exact ⟨cs, e, Rep.keep hk h⟩
theorem AV.weak {α : Type} [Rep α] {S T : Nat → Prop} {w : World} {v : Value} {x : α} (hk : ∀ j, j < w.heap.size → T j → S j) (h : AV S w v x) : AV T w v x := by
 obtain ⟨cs, e, h⟩ := h; exact ⟨cs, e, Rep.weak hk h⟩
theorem AV.house {S : Nat → Prop} {w : World} {v : Value} {h : House} (hv : AV S w v h) :
  ∃ c0 c1 c2 c3 c4, v = .agg #[c0, c1, c2, c3, c4] ∧ SL S w c0 h.sectors ∧ SL S w c1 h.prices ∧ SL S w c2 h.dates ∧ SL S w c3 h.frm ∧ SL S w c4 h.holds := by
 obtain ⟨cs, rfl, c0, c1, c2, c3, c4, rfl, r⟩ := hv; exact ⟨c0, c1, c2, c3, c4, rfl, r⟩
theorem AV.book {S : Nat → Prop} {w : World} {v : Value} {b : Book} (hv : AV S w v b) :
  ∃ c1 c2 c4, v = .agg #[.int .i64 b.agency, c1, c2, .int .i64 b.sent, c4, .int .i64 b.cash] ∧ SL S w c1 b.seats ∧ SL S w c2 b.off ∧ SL S w c4 b.took := by
 obtain ⟨cs, rfl, c1, c2, c4, rfl, r⟩ := hv; exact ⟨c1, c2, c4, rfl, r⟩
theorem AV.message {S : Nat → Prop} {w : World} {v : Value} {m : Message} (hv : AV S w v m) :
  ∃ c4, v = .agg #[.int .i64 m.frm, .int .i64 m.dst, .int .i64 m.number, .int .i64 m.shw, c4] ∧ SL S w c4 m.seats := by
 obtain ⟨cs, rfl, c4, rfl, r⟩ := hv; exact ⟨c4, rfl, r⟩
theorem SL.sectors {S : Nat → Prop} {w : World} {v : Value} {l : List Sector} (h : SL S w v l) :
  ∃ p c b o, v = .slice p l.length c ∧ l.length ≤ c ∧ l.length ≤ 9223372036854775807 ∧ (0 < l.length → p = some ⟨b, o, none⟩) ∧
   (∀ i (h : i < l.length), w.cell? ⟨b, o + i * 2, none⟩ = some (.int .i64 l[i].cls) ∧ w.cell? ⟨b, o + i * 2 + 1, none⟩ = some (.int .i64 l[i].seats)) ∧ (0 < l.length → b < w.heap.size ∧ ¬ S b) := by
 obtain ⟨p, c, b, o, hv, hc, hm, hp, ha⟩ := h
 refine ⟨p, c, b, o, hv, hc, hm, hp, fun i hi => ?_, fun h0 => ⟨(ha 0 h0).1, (ha 0 h0).2.1⟩⟩
 obtain ⟨_, _, cs, hr, hcs⟩ := ha i hi
 have hr' : cs = [.int .i64 l[i].cls, .int .i64 l[i].seats] := hr
 subst hr'
 exact ⟨hcs 0 _ rfl, hcs 1 _ rfl⟩
theorem SL.keys {S : Nat → Prop} {w : World} {v : Value} {l : List Key} (h : SL S w v l) :
  ∃ p c b o, v = .slice p l.length c ∧ l.length ≤ c ∧ l.length ≤ 9223372036854775807 ∧ (0 < l.length → p = some ⟨b, o, none⟩) ∧
   (∀ i (h : i < l.length), w.cell? ⟨b, o + i * 2, none⟩ = some (.int .i64 l[i].frm) ∧ w.cell? ⟨b, o + i * 2 + 1, none⟩ = some (.int .i64 l[i].number)) ∧ (0 < l.length → b < w.heap.size ∧ ¬ S b) := by
 obtain ⟨p, c, b, o, hv, hc, hm, hp, ha⟩ := h
 refine ⟨p, c, b, o, hv, hc, hm, hp, fun i hi => ?_, fun h0 => ⟨(ha 0 h0).1, (ha 0 h0).2.1⟩⟩
 obtain ⟨_, _, cs, hr, hcs⟩ := ha i hi
 have hr' : cs = [.int .i64 l[i].frm, .int .i64 l[i].number] := hr
 subst hr'
 exact ⟨hcs 0 _ rfl, hcs 1 _ rfl⟩
theorem SL.ikeys {S : Nat → Prop} {w : World} {v : Value} {l : List IKey} (h : SL S w v l) :
  ∃ p c b o, v = .slice p l.length c ∧ l.length ≤ c ∧ l.length ≤ 9223372036854775807 ∧ (0 < l.length → p = some ⟨b, o, none⟩) ∧
   (∀ i (h : i < l.length), w.cell? ⟨b, o + i * 2, none⟩ = some (.int .i64 l[i].frm) ∧ w.cell? ⟨b, o + i * 2 + 1, none⟩ = some (.int .i64 l[i].number)) ∧ (0 < l.length → b < w.heap.size ∧ ¬ S b) := by
 obtain ⟨p, c, b, o, hv, hc, hm, hp, ha⟩ := h
 refine ⟨p, c, b, o, hv, hc, hm, hp, fun i hi => ?_, fun h0 => ⟨(ha 0 h0).1, (ha 0 h0).2.1⟩⟩
 obtain ⟨_, _, cs, hr, hcs⟩ := ha i hi
 have hr' : cs = [.int .i64 l[i].frm, .int .i64 l[i].number] := hr
 subst hr'
 exact ⟨hcs 0 _ rfl, hcs 1 _ rfl⟩
def idxKeys (l : List Key) : List IKey := l.mapIdx fun i x => ⟨i, x.frm, x.number⟩
theorem idxKeys_len (l : List Key) : (idxKeys l).length = l.length := by simp [idxKeys]
theorem SL.idx {S : Nat → Prop} {w : World} {v : Value} {l : List Key} (h : SL S w v l) : SL S w v (idxKeys l) := by
 obtain ⟨p, c, b, o, hv, hc, hm, hp, ha⟩ := h
 refine ⟨p, c, b, o, by rw [idxKeys_len]; exact hv, by rw [idxKeys_len]; exact hc, by rw [idxKeys_len]; exact hm, by rw [idxKeys_len]; exact hp, fun i hi => ?_⟩
 rw [idxKeys_len] at hi
 obtain ⟨h1, h2, cs, hr, hcs⟩ := ha i hi
 refine ⟨h1, h2, cs, ?_, hcs⟩
 have hr' : cs = [.int .i64 l[i].frm, .int .i64 l[i].number] := hr
 subst hr'
 simp [idxKeys, Rep.rep]
end Go.BT
namespace Go.BT
open Go.RowKit
inductive Kd where
 | silent | chain | alloc (T : TypeId) (z : Value)
def madeV (z : Value) (g : Nat) : Value := match z with
 | .tuple xs => .slice (some ⟨g, 0, none⟩) xs.size xs.size
 | _ => .pointer (some ⟨g, 0, none⟩)
def madeC (z : Value) : Array Value := match z with
 | .tuple xs => xs
 | z => z.cells
def isTup (z : Value) : Bool := match z with
 | .tuple _ => true
 | _ => false
def Makes (P : Program) (ops : Array Oper) (i : Nat) (T : TypeId) (z : Value) : Prop := match z with
 | .tuple xs => ∃ o, ops[i]? = some o ∧ ∀ (a : Act) (w : World), (execOp a.eval o).run P w = .ok (.value (.slice (some ⟨w.heap.size, 0, none⟩) xs.size xs.size)) (w.alloc (.cells xs T))
 | z => (P.info? T).bind (·.zero) = some z
def QF : Exit → Act → World → Prop := fun _ _ _ => False
abbrev Cont := (Nat → Prop) → Act → World → Prop
def ContMono (X : Nat → Prop) (K : Cont) : Prop := ∀ (N N' : Nat → Prop) a w w', (∀ g, N' g → N g) → StepX X w w' → K N a w → K N' a w'
section
variable (P : Program) (ops : Array Oper) (X : Nat → Prop) (base : Nat) (kd : Nat → Kd)
def go (i : Nat) (K : Cont) : Cont := fun N a w =>
 match kd i with
 | .silent => ∃ o v, ops[i]? = some o ∧ YieldsIf P ops (StepX X w) o v a ∧ K N (a.put o.dst v) w
 | .chain => ∀ W, StepX X w W → wpOp P ops QF i (fun a' w' => StepX X W w' ∧ K (fun g => N g ∧ (g < W.heap.size ∨ w'.heap.size ≤ g)) a' w') a W
 | .alloc T z => ∀ W g, StepX X w W → W.heap[g]? = some (.cells (madeC z) T (0, 0)) → base ≤ g → N g → K (fun x => N x ∧ x ≠ g) (a.put ((ops[i]?).bind (·.dst)) (madeV z g)) W
def run (l : List Nat) (K : Cont) : Cont := l.foldr (fun i K => go P ops X base kd i K) K
variable {P ops X base kd}
theorem YieldsIf.step {o : Oper} {v : Value} {a : Act} {w w' : World} (h : YieldsIf P ops (StepX X w) o v a) (hs : StepX X w w') : YieldsIf P ops (StepX X w') o v a :=
 h.imp (fun ⟨hw, hv⟩ => ⟨hw, fun W hW => hv W (hs.trans hW)⟩) id
theorem go_cong {i : Nat} {K K' : Cont} (h : ∀ N a w, K N a w → K' N a w) {N : Nat → Prop} {a : Act} {w : World} (hg : go P ops X base kd i K N a w) : go P ops X base kd i K' N a w := by
 unfold go at *
 split at hg
 ·obtain ⟨o, v, ho, hy, hk⟩ := hg; exact ⟨o, v, ho, hy, h _ _ _ hk⟩
 ·exact fun W hW => wpOp_mono (fun a' w' ⟨hs, hk⟩ => ⟨hs, h _ _ _ hk⟩) (hg W hW)
 ·exact fun W g h1 h2 h3 h4 => h _ _ _ (hg W g h1 h2 h3 h4)
theorem go_mono {i : Nat} {K : Cont} (hK : ContMono X K) : ContMono X (go P ops X base kd i K) := by
 intro N N' a w w' hN hs hg
 unfold go at *
 split at hg
 ·obtain ⟨o, v, ho, hy, hk⟩ := hg; exact ⟨o, v, ho, YieldsIf.step hy hs, hK _ _ _ _ _ hN hs hk⟩
 ·exact fun W hW => wpOp_mono (fun a' w' ⟨hs', hk⟩ => ⟨hs', hK _ _ _ _ _ (fun g ⟨h1, h2⟩ => ⟨hN g h1, h2⟩) (StepX.refl _ _) hk⟩) (hg W (hs.trans hW))
 ·exact fun W g h1 h2 h3 h4 => hK _ _ _ _ _ (fun x ⟨h5, h6⟩ => ⟨hN x h5, h6⟩) (StepX.refl _ _) (hg W g (hs.trans h1) h2 h3 (hN g h4))
theorem run_mono {K : Cont} (hK : ContMono X K) : ∀ l, ContMono X (run P ops X base kd l K)
 | [] => hK
 | _ :: l => go_mono (run_mono hK l)
theorem wpOp_under {j : Nat} {oj : Oper} {dst : Option Tmp} {v : Value} (hj : ops[j]? = some oj) (h1 : ∀ d, dst = some d → d ∉ oj.looksAt ops) (h2 : ∀ d, dst = some d → oj.dst ≠ some d)
  (hsj : ∀ cs b, oj.op ≠ .select cs b) {K : Act → World → Prop} {a : Act} {w : World} (h : wpOp P ops QF j K a w) :
  wpOp P ops QF j (fun a' w' => ∃ a0, a' = a0.put dst v ∧ K a0 w') (a.put dst v) w := by
 unfold wpOp at *
 simp only [hj] at *
 rw [wanted_put oj a dst v h1]
 split
 ·rename_i hw
  simp only [hw, if_true] at h
  rcases h with h | ⟨_, a0, w0, hF⟩
  case inr => exact hF.elim
  refine .inl ?_
  unfold Oper.wp at *
  rw [execOp_put oj hsj a dst v h1]
  generalize (execOp a.eval oj).run P w = r at *
  cases r with
  | ok n w' =>
   cases n <;> simp only [Oper.upon] at h ⊢
   case value u => exact ⟨_, (Act.put_comm a v u h2), h⟩
   case skip => exact ⟨_, (Act.put_comm a v undef h2), h⟩
   case defer d => exact ⟨_, (by rw [← Act.put_comm _ v undef h2]; cases dst <;> rfl), h⟩
   case enter f args =>
    refine Calls.mono h fun e w'' he => ?_
    cases e with
    | returned u => exact ⟨_, (Act.put_comm a v u h2), he⟩
    | panicked c => exact he.elim
    | outgrown => exact he
   case row row args => exact Rows.mono h fun u w'' he => ⟨_, (Act.put_comm a v u h2), he⟩
  | halt x w' =>
   cases x <;> simp only [Oper.upon] at h ⊢
   case panic u => exact h.elim
 ·rename_i hw
  simp only [hw] at h
  exact ⟨_, (Act.put_comm a v undef h2), h⟩
def swaps : Kd → Kd → Bool
 | .silent, _ => true
 | .chain, .alloc _ _ => true
 | .alloc _ _, .alloc _ _ => true
 | _, _ => false
theorem exch {i j : Nat} {oi oj : Oper} (hi : ops[i]? = some oi) (hj : ops[j]? = some oj) (hap : oi.apart ops oj = true)
  (hsi : ∀ cs b, oi.op ≠ .select cs b) (hsj : ∀ cs b, oj.op ≠ .select cs b) (hsw : swaps (kd i) (kd j) = true) (hX : ∀ j, X j → j < base) {K : Cont} (hK : ContMono X K) {N : Nat → Prop} {a : Act} {w : World}
  (h : go P ops X base kd i (go P ops X base kd j K) N a w) : go P ops X base kd j (go P ops X base kd i K) N a w := by
 obtain ⟨h1, h2, h3⟩ := Oper.apart_spec hap
 have keepI : ∀ {S : World → Prop} {v : Value} {a : Act} (u : Value), YieldsIf P ops S oi v a → YieldsIf P ops S oi v (a.put oj.dst u) := fun {S v a} u hy =>
  hy.of_same (execOp_put oi hsi a oj.dst u h3) (wanted_put oi a oj.dst u h3)
 have backJ : ∀ {S : World → Prop} {v u : Value} {a : Act}, YieldsIf P ops S oj v (a.put oi.dst u) → YieldsIf P ops S oj v a := fun {S v u a} hy =>
  hy.of_same (execOp_put oj hsj a oi.dst u h1).symm (wanted_put oj a oi.dst u h1).symm
 have hdi : (ops[i]?).bind (·.dst) = oi.dst := by rw [hi]; rfl
 have hdj : (ops[j]?).bind (·.dst) = oj.dst := by rw [hj]; rfl
 have hsome : ∀ {w w' : World} {g : Nat} {o : Obj}, StepX X w w' → base ≤ g → w.heap[g]? = some o → w'.heap[g]? = some o := fun {w w' g o} hs hb hg => by
  rw [hs.block g (Array.getElem?_eq_some_iff.1 hg).1 (fun hx => by have := hX g hx; omega)]; exact hg
 cases hki : kd i with
 | silent =>
  cases hkj : kd j with
  | silent =>
   simp only [go, hki, hkj] at h ⊢
   obtain ⟨o, v, ho, hy, o', v', ho', hy', hk⟩ := h
   obtain rfl : oi = o := by rw [hi] at ho; exact Option.some.inj ho
   obtain rfl : oj = o' := by rw [hj] at ho'; exact Option.some.inj ho'
   exact ⟨_, v', hj, backJ hy', _, v, hi, keepI _ hy, by rw [← Act.put_comm a v v' h2]; exact hk⟩
  | chain =>
   simp only [go, hki, hkj] at h ⊢
   obtain ⟨o, v, ho, hy, hk⟩ := h
   obtain rfl : oi = o := by rw [hi] at ho; exact Option.some.inj ho
   intro W hW
   refine wpOp_mono (fun a' w' hh => ?_) (wpOp_putIf (S := StepX X w) hj hap hsi hsj (fun _ _ _ hq => hq) hy (hk W hW))
   obtain ⟨hy', hs, hk'⟩ := hh
   exact ⟨hs, _, v, hi, YieldsIf.step hy' (hW.trans hs), hk'⟩
  | alloc T z =>
   simp only [go, hki, hkj] at h ⊢
   obtain ⟨o, v, ho, hy, hk⟩ := h
   obtain rfl : oi = o := by rw [hi] at ho; exact Option.some.inj ho
   refine fun W g hs hb hg hN => ⟨_, v, hi, ?_, ?_⟩
   ·rw [hdj]; exact keepI _ (YieldsIf.step hy hs)
   ·rw [hdj, ← Act.put_comm a v _ h2, ← hdj]
    exact hk W g hs hb hg hN
 | chain =>
  cases hkj : kd j with
  | silent => simp [hki, hkj, swaps] at hsw
  | chain => simp [hki, hkj, swaps] at hsw
  | alloc T z =>
   simp only [go, hki, hkj] at h ⊢
   intro W0 g hs0 hb hg hN W hW
   refine wpOp_mono (fun a' w' hh => ?_) (wpOp_under (dst := (ops[j]?).bind (·.dst)) (v := madeV z g) hi (by rw [hdj]; exact h3) (by rw [hdj]; exact fun d hd he => h2 d he hd) hsi (h W (hs0.trans hW)))
   obtain ⟨a0, rfl, hs, hk⟩ := hh
   have hlt : g < W.heap.size := Nat.lt_of_lt_of_le (Array.getElem?_eq_some_iff.1 hb).1 hW.size
   exact ⟨hs, hK _ _ _ _ _ (fun x ⟨⟨q1, q2⟩, q3⟩ => ⟨⟨q1, q3⟩, q2⟩) (StepX.refl _ _) (hk w' g (StepX.refl _ _) (hsome (hW.trans hs) hg hb) hg ⟨hN, .inl hlt⟩)⟩
 | alloc T z =>
  cases hkj : kd j with
  | silent => simp [hki, hkj, swaps] at hsw
  | chain => simp [hki, hkj, swaps] at hsw
  | alloc T' z' =>
   simp only [go, hki, hkj] at h ⊢
   intro W' g' hs' hb' hg' hN' W g hs hb hg ⟨hN, hne⟩
   rw [hdi, hdj] at *
   rw [← Act.put_comm a _ _ h2]
   exact hK _ _ _ _ _ (fun x ⟨⟨q1, q2⟩, q3⟩ => ⟨⟨q1, q3⟩, q2⟩) (StepX.refl _ _) (h W g (hs'.trans hs) hb hg hN W g' (StepX.refl _ _) (hsome hs hg' hb') hg' ⟨hN', fun e => hne e.symm⟩)
def bitsOf (tab : List Nat) (j : Nat) (l : List Edge) : Nat := l.foldl (fun acc e => if Region.binds .any e && decide (e.on < j) then acc ||| (2 ^ e.on ||| tab.getD e.on 0) else acc) 0
def okTab (tab : List Nat) (ops : Array Oper) : Bool := (List.range ops.size).all fun j => match ops[j]? with
 | none => true
 | some o => tab.getD j 0 == bitsOf tab j o.after.toList
def ancB (tab : List Nat) (i j : Nat) : Bool := (tab.getD j 0).testBit i
theorem bits_of {tab : List Nat} {j i : Nat} : ∀ {l : List Edge} {acc : Nat}, (l.foldl (fun acc e => if Region.binds .any e && decide (e.on < j) then acc ||| (2 ^ e.on ||| tab.getD e.on 0) else acc) acc).testBit i = true →
  acc.testBit i = true ∨ ∃ e ∈ l, Region.binds .any e = true ∧ e.on < j ∧ (e.on = i ∨ ancB tab i e.on = true) := by
 intro l
 induction l with
 | nil => intro acc h; exact .inl h
 | cons x l ih =>
  intro acc h
  rw [List.foldl_cons] at h
  rcases ih h with h1 | ⟨e, he, h2⟩
  ·split at h1
   ·rename_i hx
    simp only [Bool.and_eq_true, decide_eq_true_eq] at hx
    rw [Nat.testBit_or, Nat.testBit_or, Nat.testBit_two_pow, Bool.or_eq_true, Bool.or_eq_true, decide_eq_true_eq] at h1
    rcases h1 with h1 | h1
    ·exact .inl h1
    ·exact .inr ⟨x, List.mem_cons_self, hx.1, hx.2, h1⟩
   ·exact .inl h1
  ·exact .inr ⟨e, List.mem_cons_of_mem _ he, h2⟩
def okPair (tab : List Nat) (ops : Array Oper) (kd : Nat → Kd) (i j : Nat) : Bool :=
 ancB tab i j || match ops[i]?, ops[j]? with
  | some oi, some oj => oi.apart ops oj && swaps (kd i) (kd j)
  | _, _ => false
def okList (tab : List Nat) (ops : Array Oper) (kd : Nat → Kd) : List Nat → Bool
 | [] => true
 | i :: l => l.all (okPair tab ops kd i) && okList tab ops kd l
def okTail (tab : List Nat) (before : List Nat) : List Nat → Bool
 | [] => true
 | x :: t => before.all (fun y => ancB tab y x) && okTail tab (before ++ [x]) t
def isSil : Kd → Bool
 | .silent => true
 | _ => false
def isMove (ops : Array Oper) (i : Nat) : Bool := match ops[i]? with
 | some o => (match o.op with | .move _ => true | .extract _ _ => true | _ => false)
 | none => false
def okWait (strict : Bool) (tab : List Nat) (ops : Array Oper) (kd : Nat → Kd) (y x : Nat) : Bool :=
 ancB tab y x || (!strict && isSil (kd y) && isMove ops y && match ops[y]?, ops[x]? with
  | some oy, some ox => oy.apart ops ox
  | _, _ => false)
def okDeps (ops : Array Oper) (seen : List Nat) : List Nat → Bool
 | [] => true
 | x :: l => (match ops[x]? with
  | none => false
  | some o => o.after.all fun e => !Region.binds .any e || seen.contains e.on) && okDeps ops (seen ++ [x]) l
def okAlloc (ops : Array Oper) (kd : Nat → Kd) (l : List Nat) : Bool :=
 l.all fun i => match kd i, ops[i]? with
  | .alloc T z, some o => o.guard.isNone && (isTup z || match o.op with | .alloc T' => T == T' | _ => false)
  | .alloc _ _, none => false
  | _, _ => true
def okSeq (strict : Bool) (tab : List Nat) (ops : Array Oper) (kd : Nat → Kd) (l t : List Nat) : Bool :=
 okTab tab ops && okList tab ops kd l && (l.all fun y => t.all fun x => okWait strict tab ops kd y x) && okTail tab [] t && okDeps ops [] (l ++ t) && okAlloc ops kd l && Region.noSelect ops && (List.range ops.size).all (fun i => (l ++ t).contains i) && (l ++ t).all (fun i => decide (i < ops.size)) && decide (l ++ t).Nodup
def Closed (ops : Array Oper) (listed : Array Bool) : Prop :=
 ∀ x o, ops[x]? = some o → listed.getD x true = true → ∀ e ∈ o.after, Region.binds .any e = true → listed.getD e.on false = true
theorem getD_tf' {listed : Array Bool} {i : Nat} (h : i < listed.size) (hl : listed.getD i false = true) : listed.getD i true = true := by
 simp [h] at hl ⊢; exact hl
variable {tab : List Nat}
theorem anc_listed {listed : Array Bool} (hsz : listed.size = ops.size) (hc : Closed ops listed) (ht : okTab tab ops = true) : ∀ j i o, ops[j]? = some o → (∀ e ∈ o.after, Region.binds .any e = true → listed.getD e.on false = true) →
  ancB tab i j = true → listed.getD i false = true := by
 intro j
 induction j using Nat.strongRecOn with
 | _ j ih =>
  intro i o ho hd h
  have hj : j < ops.size := (Array.getElem?_eq_some_iff.1 ho).1
  have h1 := List.all_eq_true.1 ht j (List.mem_range.2 hj)
  simp only [ho, beq_iff_eq] at h1
  unfold ancB at h
  rw [h1] at h
  rcases bits_of h with h2 | ⟨e, he, hb, hlt, h2⟩
  ·simp at h2
  ·have hl := hd e (by simpa using he) hb
   rcases h2 with rfl | h2
   ·exact hl
   ·have hej : e.on < ops.size := by omega
    exact ih e.on hlt i ops[e.on] (Array.getElem?_eq_getElem hej) (hc e.on _ (Array.getElem?_eq_getElem hej) (getD_tf' (by omega) hl)) h2
theorem bring (hX : ∀ j, X j → j < base) {K : Cont} (hK : ContMono X K) (hsel : Region.noSelect ops = true) {j : Nat} {oj : Oper} (hj : ops[j]? = some oj) : ∀ (l1 l2 : List Nat) (N : Nat → Prop) (a : Act) (w : World),
  (∀ i ∈ l1, ∃ oi, ops[i]? = some oi ∧ oi.apart ops oj = true ∧ swaps (kd i) (kd j) = true) → run P ops X base kd (l1 ++ j :: l2) K N a w → go P ops X base kd j (run P ops X base kd (l1 ++ l2) K) N a w := by
 intro l1
 induction l1 with
 | nil => intro l2 N a w _ h; exact h
 | cons i l1 ih =>
  intro l2 N a w hall h
  obtain ⟨oi, hi, hap, hsw⟩ := hall i (by simp)
  have h' : go P ops X base kd i (go P ops X base kd j (run P ops X base kd (l1 ++ l2) K)) N a w :=
   go_cong (fun N a w hh => ih l2 N a w (fun k hk => hall k (by simp [hk])) hh) h
  exact exch hi hj hap (Region.noSelect_spec hsel i oi · · hi) (Region.noSelect_spec hsel j oj · · hj) hsw hX (run_mono hK _) h'
theorem okList_drop {l1 l2 : List Nat} {j : Nat} (h : okList tab ops kd (l1 ++ j :: l2) = true) : okList tab ops kd (l1 ++ l2) = true ∧ ∀ i ∈ l1, okPair tab ops kd i j = true := by
 induction l1 with
 | nil => simp only [List.nil_append, okList, Bool.and_eq_true] at h; exact ⟨h.2, by simp⟩
 | cons i l1 ih =>
  simp only [List.cons_append, okList, Bool.and_eq_true, List.all_eq_true] at h ⊢
  obtain ⟨h1, h2⟩ := ih h.2
  refine ⟨⟨fun x hx => h.1 x ?_, h1⟩, fun x hx => ?_⟩
  ·simp only [List.mem_append, List.mem_cons] at hx ⊢; rcases hx with hx | hx <;> simp [hx]
  ·rcases List.mem_cons.1 hx with rfl | hx
   ·exact h.1 j (by simp)
   ·exact h2 x hx
def TailOk (tab : List Nat) (l t : List Nat) : Prop := ∀ t1 x t2, t = t1 ++ x :: t2 → ∀ y ∈ l ++ t1, ancB tab y x = true
def DepsOk (ops : Array Oper) (listed : Array Bool) (L : List Nat) : Prop := ∀ L1 x L2, L = L1 ++ x :: L2 → ∃ o, ops[x]? = some o ∧ ∀ e ∈ o.after, Region.binds .any e = true → listed.getD e.on false = true ∨ e.on ∈ L1
theorem tailOk_of {t : List Nat} : ∀ {b : List Nat}, okTail tab b t = true → TailOk tab b t := by
 induction t with
 | nil => intro b _ t1 x t2 h; exact absurd h (by simp)
 | cons z t ih =>
  intro b h t1 x t2 he y hy
  simp only [okTail, Bool.and_eq_true, List.all_eq_true] at h
  cases t1 with
  | nil =>
   simp only [List.nil_append, List.cons.injEq] at he
   obtain ⟨rfl, rfl⟩ := he
   exact h.1 y (by simpa using hy)
  | cons z' t1 =>
   simp only [List.cons_append, List.cons.injEq] at he
   obtain ⟨rfl, rfl⟩ := he
   exact ih h.2 t1 x t2 rfl y (by simpa using hy)
theorem depsOk_of {listed : Array Bool} {L : List Nat} : ∀ {seen : List Nat}, okDeps ops seen L = true → ∀ L1 x L2, L = L1 ++ x :: L2 → ∃ o, ops[x]? = some o ∧ ∀ e ∈ o.after, Region.binds .any e = true → listed.getD e.on false = true ∨ e.on ∈ seen ++ L1 := by
 induction L with
 | nil => intro b _ t1 x t2 h; exact absurd h (by simp)
 | cons z t ih =>
  intro b h t1 x t2 he
  simp only [okDeps, Bool.and_eq_true] at h
  cases t1 with
  | nil =>
   simp only [List.nil_append, List.cons.injEq] at he
   obtain ⟨rfl, rfl⟩ := he
   cases ho : ops[z]? with
   | none => simp [ho] at h
   | some o =>
    simp only [ho, Array.all_eq_true_iff_forall_mem, Bool.or_eq_true, Bool.not_eq_true', List.contains_iff_mem] at h
    exact ⟨o, rfl, fun e he hb => .inr (by have := (h.1 e he).resolve_left (by simp [hb]); simpa using this)⟩
  | cons z' t1 =>
   simp only [List.cons_append, List.cons.injEq] at he
   obtain ⟨rfl, rfl⟩ := he
   obtain ⟨o, ho, hh⟩ := ih h.2 t1 x t2 rfl
   exact ⟨o, ho, fun e he hb => (hh e he hb).imp id (by simp)⟩
def K0 (P : Program) (ops : Array Oper) (X : Nat → Prop) (Q : Exit → Act → World → Prop) (t : List Nat) : Cont := fun _ a w => ∀ W, StepX X w W → wpOps P ops Q t a W
theorem K0_mono {Q : Exit → Act → World → Prop} (t : List Nat) : ContMono X (K0 P ops X Q t) := fun _ _ _ _ _ _ hs h W hW => h W (hs.trans hW)
theorem wpOp_any {Q : Exit → Act → World → Prop} {i : Nat} {K : Act → World → Prop} {a : Act} {w : World} (h : wpOp P ops QF i K a w) : wpOp P ops Q i K a w := by
 unfold wpOp at *
 cases ho : ops[i]? with
 | none => simp only [ho] at h; exact h
 | some o =>
  simp only [ho] at h ⊢
  split
  ·rename_i hw
   simp only [hw, if_true] at h
   rcases h with h | ⟨_, a0, w0, hF⟩
   case inr => exact hF.elim
   refine .inl ?_
   unfold Oper.wp at *
   generalize (execOp a.eval o).run P w = r at *
   cases r with
   | ok n w' =>
    cases n <;> simp only [Oper.upon] at h ⊢ <;> first
     | exact h
     | exact Calls.mono h (fun e w'' he => by cases e <;> first | exact he | exact he.elim | (obtain ⟨_, _, hF⟩ := he; exact hF.elim))
   | halt x w' => cases x <;> simp only [Oper.upon] at h ⊢ <;> exact h.elim
  ·rename_i hw
   simp only [hw] at h
   exact h
theorem wpOp_alloc {Q : Exit → Act → World → Prop} {i : Nat} {o : Oper} {T : TypeId} {z : Value} {K : Act → World → Prop} {a : Act} {w : World} (ho : ops[i]? = some o) (hop : (isTup z || match o.op with | .alloc T' => T == T' | _ => false) = true) (hg : o.guard = none)
  (hz : Makes P ops i T z) (h : K (a.put o.dst (madeV z w.heap.size)) (w.alloc (.cells (madeC z) T))) : wpOp P ops Q i K a w := by
 unfold wpOp
 simp only [ho, Region.wanted, hg, if_true]
 refine .inl ?_
 unfold Oper.wp
 have hr : (execOp a.eval o).run P w = .ok (.value (madeV z w.heap.size)) (w.alloc (.cells (madeC z) T)) := by
  by_cases ht : ∃ xs, z = .tuple xs
  ·obtain ⟨xs, rfl⟩ := ht
   obtain ⟨o', ho', hrun⟩ := hz
   obtain rfl : o = o' := by rw [ho] at ho'; exact Option.some.inj ho'
   exact hrun _ _
  ·have h1 : isTup z = false := by cases z <;> simp [isTup] at ht ⊢
   have h2 : madeV z w.heap.size = .pointer (some ⟨w.heap.size, 0, none⟩) := by cases z <;> simp [isTup] at h1 <;> rfl
   have h3 : madeC z = z.cells := by cases z <;> simp [isTup] at h1 <;> rfl
   have h4 : (P.info? T).bind (·.zero) = some z := by cases z <;> simp [isTup] at h1 <;> exact hz
   rw [h1, Bool.false_or] at hop
   have hop' : o.op = .alloc T := by
    cases hopp : o.op <;> simp [hopp] at hop
    rw [hop]
   obtain ⟨inf, hi, hzz⟩ := Option.bind_eq_some_iff.1 h4
   rw [h2, h3]
   simp [execOp, hop', Instr.alloc, zeroValue, typeInfo, hi, hzz, newVar, newRow, newObj, Result.andThen]
   rfl
 rw [hr]
 exact h
theorem getD_tf {listed : Array Bool} {i : Nat} (h : i < listed.size) : listed.getD i true = listed.getD i false := by simp [h]
theorem getD_set {listed : Array Bool} {i j : Nat} (hi : i < listed.size) : (listed.setIfInBounds i true).getD j true = (listed.getD j true || decide (i = j)) := by
 by_cases hij : i = j
 ·subst hij; simp [hi]
 ·rw [getD_set_ne true hij]; simp [hij]
theorem depsOk_drop {listed : Array Bool} {L1 L2 : List Nat} {j : Nat} (hj : j < listed.size) (h : DepsOk ops listed (L1 ++ j :: L2)) : DepsOk ops (listed.setIfInBounds j true) (L1 ++ L2) := by
 intro M1 x M2 he
 have keep : ∀ {k}, listed.getD k false = true → (listed.setIfInBounds j true).getD k false = true := fun {k} hk => getD_set_true hk
 rcases List.append_eq_append_iff.1 he with ⟨r, h1, h2⟩ | ⟨r, h1, h2⟩
 ·-- M1 = L1 ++ r, L2 = r ++ x :: M2
  subst h1 h2
  obtain ⟨o, ho, hh⟩ := h (L1 ++ j :: r) x M2 (by simp)
  refine ⟨o, ho, fun e hee hb => ?_⟩
  rcases hh e hee hb with hl | hm
  ·exact .inl (keep hl)
  ·simp only [List.mem_append, List.mem_cons] at hm ⊢
   rcases hm with hm | rfl | hm
   ·exact .inr (.inl hm)
   ·exact .inl (by simp [hj])
   ·exact .inr (.inr hm)
 ·-- L1 = M1 ++ r, x :: M2 = r ++ L2
  cases r with
  | nil =>
   simp only [List.append_nil, List.nil_append] at h1 h2
   subst h1
   obtain ⟨o, ho, hh⟩ := h (L1 ++ [j]) x M2 (by simp [h2])
   refine ⟨o, ho, fun e hee hb => ?_⟩
   rcases hh e hee hb with hl | hm
   ·exact .inl (keep hl)
   ·simp only [List.mem_append, List.mem_singleton] at hm
    rcases hm with hm | rfl
    ·exact .inr hm
    ·exact .inl (by simp [hj])
  | cons y r =>
   simp only [List.cons_append, List.cons.injEq] at h2
   obtain ⟨rfl, rfl⟩ := h2
   subst h1
   obtain ⟨o, ho, hh⟩ := h M1 x (r ++ j :: L2) (by simp)
   exact ⟨o, ho, fun e hee hb => (hh e hee hb).imp keep id⟩
theorem nodup_mid {L1 L2 : List Nat} {j : Nat} (h : (L1 ++ j :: L2).Nodup) : j ∉ L1 ++ L2 ∧ (L1 ++ L2).Nodup := by
 rw [List.nodup_append] at h
 obtain ⟨h1, h2, h3⟩ := h
 rw [List.nodup_cons] at h2
 refine ⟨?_, ?_⟩
 ·rw [List.mem_append]
  rintro (hj | hj)
  ·exact h3 j hj j (by simp) rfl
  ·exact h2.1 hj
 ·rw [List.nodup_append]
  exact ⟨h1, h2.2, fun a ha b hb => h3 a ha b (by simp [hb])⟩
theorem unlisted_drop {listed : Array Bool} {j : Nat} {L1 L2 : List Nat} (hsz : j < listed.size) (hun : ∀ i, i < ops.size → (listed.getD i true = false ↔ i ∈ L1 ++ j :: L2)) (hnd : (L1 ++ j :: L2).Nodup) :
  ∀ i, i < ops.size → ((listed.setIfInBounds j true).getD i true = false ↔ i ∈ L1 ++ L2) := by
 intro i hi
 rw [getD_set hsz, Bool.or_eq_false_iff, decide_eq_false_iff_not, hun i hi]
 obtain ⟨h1, _⟩ := nodup_mid hnd
 simp only [List.mem_append, List.mem_cons] at h1 ⊢
 constructor
 ·rintro ⟨h2 | h2 | h2, h3⟩
  ·exact .inl h2
  ·exact absurd h2.symm h3
  ·exact .inr h2
 ·intro h2
  refine ⟨h2.elim .inl (fun h => .inr (.inr h)), fun e => ?_⟩
  subst e; exact h1 h2
theorem closed_set {listed : Array Bool} {j : Nat} {oj : Oper} (hsz : j < listed.size) (hoj : ops[j]? = some oj) (hdj : ∀ e ∈ oj.after, Region.binds .any e = true → listed.getD e.on false = true) (hcl : Closed ops listed) :
  Closed ops (listed.setIfInBounds j true) := fun x o ho hx e he hb => by
 rw [getD_set hsz, Bool.or_eq_true, decide_eq_true_eq] at hx
 rcases hx with hx | rfl
 ·exact getD_set_true (hcl x o ho hx e he hb)
 ·rw [hoj] at ho; obtain rfl := Option.some.inj ho; exact getD_set_true (hdj e he hb)
theorem tail_sound {Q : Exit → Act → World → Prop} : ∀ (fuel : Nat) (t : List Nat) (listed : Array Bool) (a : Act) (w : World),
  t.length ≤ fuel → listed.size = ops.size → (∀ i, i < ops.size → (listed.getD i true = false ↔ i ∈ t)) → (∀ i ∈ t, i < ops.size) → t.Nodup → Closed ops listed →
  okTab tab ops = true → TailOk tab [] t → DepsOk ops listed t → wpOps P ops Q t a w → wpAny P .any ops Q fuel listed a w := by
 intro fuel
 induction fuel with
 | zero =>
  intro t listed a w hf hsz hun hin hnd hcl htab htail hdeps h
  have ht : t = [] := List.eq_nil_of_length_eq_zero (by omega)
  subst ht
  refine ⟨?_, by simpa [wpOps] using h⟩
  rw [List.eq_nil_iff_forall_not_mem]
  intro j hj
  obtain ⟨h0, o, ho, _⟩ := mem_ready.1 hj
  have := (hun j (Array.getElem?_eq_some_iff.1 ho).1).1 h0
  simp at this
 | succ fuel ih =>
  intro t listed a w hf hsz hun hin hnd hcl htab htail hdeps h
  refine ⟨fun hr => ?_, fun j hj => ?_⟩
  ·cases t with
   | nil => simpa [wpOps] using h
   | cons x L =>
    exfalso
    obtain ⟨o, ho, hh⟩ := hdeps [] x L rfl
    have hx : x ∈ Region.ready .any ops listed := mem_ready.2 ⟨(hun x (hin x (by simp))).2 (by simp), o, ho, fun e he hb => (hh e he hb).resolve_right (by simp)⟩
    rw [hr] at hx; cases hx
  ·obtain ⟨h0, oj, hoj, hdj⟩ := mem_ready.1 hj
   have hjlt := (Array.getElem?_eq_some_iff.1 hoj).1
   have hjsz : j < listed.size := by omega
   obtain ⟨t1, t2, rfl⟩ := List.append_of_mem ((hun j hjlt).1 h0)
   have ht1 : t1 = [] := by
    rw [List.eq_nil_iff_forall_not_mem]
    intro i hi
    have h1 := anc_listed hsz hcl htab j i oj hoj hdj (htail t1 j t2 rfl i (by simp [hi]))
    have h2 := (hun i (hin i (by simp [hi]))).2 (by simp [hi])
    rw [getD_tf (by rw [hsz]; exact hin i (by simp [hi])), h1] at h2
    cases h2
   subst ht1
   rw [List.nil_append, wpOps_cons] at h
   refine wpOp_mono (fun a' w' hk => ?_) h
   have hnd' := nodup_mid hnd
   refine ih t2 _ a' w' (by simp at hf; omega) (by simp [hsz]) (by have := unlisted_drop (L1 := []) (L2 := t2) hjsz hun hnd; simpa using this) (fun i hi => hin i (by simp [hi])) (by simpa using hnd'.2)
    (closed_set hjsz hoj hdj hcl) htab (fun u1 x u2 he y hy => htail (j :: u1) x u2 (by simp [he]) y (by simp at hy ⊢; exact .inr hy)) (by have := depsOk_drop (L1 := []) (L2 := t2) hjsz hdeps; simpa using this) hk
def runM (P : Program) (ops : Array Oper) : List Nat → (Act → Prop) → Act → Prop
 | [], K, a => K a
 | i :: l, K, a => ∃ o v, ops[i]? = some o ∧ YieldsIf P ops (fun _ => True) o v a ∧ runM P ops l K (a.put o.dst v)
theorem runM_mono {K K' : Act → Prop} (h : ∀ a, K a → K' a) : ∀ {l : List Nat} {a : Act}, runM P ops l K a → runM P ops l K' a
 | [], _, hr => h _ hr
 | _ :: _, _, ⟨o, v, ho, hy, hr⟩ => ⟨o, v, ho, hy, runM_mono h hr⟩
theorem move_yields {S : World → Prop} {o : Oper} {v : Value} {a : Act} {w : World} {i : Nat} (ho : ops[i]? = some o) (hm : isMove ops i = true) (hs : S w) (h : YieldsIf P ops S o v a) : YieldsIf P ops (fun _ => True) o v a := by
 rcases h with ⟨hw, hv⟩ | h
 ·refine .inl ⟨hw, fun W _ => ?_⟩
  have h1 := hv w hs
  unfold isMove at hm
  rw [ho] at hm
  simp only at hm
  cases hop : o.op <;> simp [hop] at hm
  ·simp [execOp, hop] at h1 ⊢
   exact h1
  ·rename_i x ix
   have h2 : ∀ (u : Value) (n : Nat), (∃ y, Instr.extract u n = pure y) ∨ ∃ t, Instr.extract u n = stuck t := fun u n => by
    unfold Instr.extract
    split
    ·split
     ·exact .inl ⟨_, rfl⟩
     ·exact .inr ⟨_, rfl⟩
    ·exact .inr ⟨_, rfl⟩
   rcases h2 (a.eval x) ix with ⟨y, h3⟩ | ⟨t, h3⟩
   ·simp [execOp, hop, h3] at h1 ⊢
    exact h1
   ·simp [execOp, hop, h3] at h1
 ·exact .inr h
theorem runM_of_run {Q : Exit → Act → World → Prop} {t : List Nat} {w : World} : ∀ {l : List Nat} {N : Nat → Prop} {a : Act}, (∀ y ∈ l, isSil (kd y) = true ∧ isMove ops y = true) → run P ops X base kd l (K0 P ops X Q t) N a w → runM P ops l (fun a => wpOps P ops Q t a w) a := by
 intro l
 induction l with
 | nil => intro N a _ h; exact h w (StepX.refl _ w)
 | cons i l ih =>
  intro N a hl h
  obtain ⟨h1, h2⟩ := hl i (by simp)
  have h' : go P ops X base kd i (run P ops X base kd l (K0 P ops X Q t)) N a w := h
  unfold go at h'
  cases hk : kd i <;> simp [hk, isSil] at h1
  rw [hk] at h'
  obtain ⟨o, v, ho, hy, hr⟩ := h'
  exact ⟨o, v, ho, move_yields ho h2 (StepX.refl _ w) hy, ih (fun y hy => hl y (by simp [hy])) hr⟩
theorem bringM (hsel : Region.noSelect ops = true) {K : Act → Prop} {j : Nat} {oj : Oper} (hj : ops[j]? = some oj) : ∀ {l1 l2 : List Nat} {a : Act}, (∀ i ∈ l1, ∃ oi, ops[i]? = some oi ∧ oi.apart ops oj = true) → runM P ops (l1 ++ j :: l2) K a →
  ∃ v, YieldsIf P ops (fun _ => True) oj v a ∧ runM P ops (l1 ++ l2) K (a.put oj.dst v) := by
 intro l1
 induction l1 with
 | nil =>
  intro l2 a _ h
  obtain ⟨o, v, ho, hy, hr⟩ := h
  obtain rfl : oj = o := by rw [hj] at ho; exact Option.some.inj ho
  exact ⟨v, hy, hr⟩
 | cons i l1 ih =>
  intro l2 a hall h
  obtain ⟨oi', hi', hap⟩ := hall i (by simp)
  obtain ⟨oi, vi, hi, hyi, hr⟩ := h
  obtain rfl : oi' = oi := by rw [hi] at hi'; exact (Option.some.inj hi').symm
  obtain ⟨v, hyj, hr2⟩ := ih (fun k hk => hall k (by simp [hk])) hr
  obtain ⟨h1, h2, h3⟩ := Oper.apart_spec hap
  have hsi := (Region.noSelect_spec hsel i oi' · · hi)
  have hsj := (Region.noSelect_spec hsel j oj · · hj)
  refine ⟨v, hyj.of_same (execOp_put oj hsj a oi'.dst vi h1).symm (wanted_put oj a oi'.dst vi h1).symm, oi', vi, hi, hyi.of_same (execOp_put oi' hsi a oj.dst v h3) (wanted_put oi' a oj.dst v h3), ?_⟩
  rw [← Act.put_comm a vi v h2]
  exact hr2
theorem tailM (hsel : Region.noSelect ops = true) {Q : Exit → Act → World → Prop} (hQ : ∀ c d v a w, Q (.panic c) (Act.put a d v) w → Q (.panic c) a w) {j : Nat} {oj : Oper} (hj : ops[j]? = some oj) {K : Act → World → Prop} {w : World} : ∀ {l : List Nat} {a : Act},
  (∀ i ∈ l, ∃ oi, ops[i]? = some oi ∧ oi.apart ops oj = true) → runM P ops l (fun a => wpOp P ops Q j K a w) a → wpOp P ops Q j (fun a' w' => runM P ops l (fun a => K a w') a') a w := by
 intro l
 induction l with
 | nil => intro a _ h; exact h
 | cons i l ih =>
  intro a hall h
  obtain ⟨oi', hi', hap⟩ := hall i (by simp)
  obtain ⟨oi, vi, hi, hyi, hr⟩ := h
  obtain rfl : oi' = oi := by rw [hi] at hi'; exact (Option.some.inj hi').symm
  have h1 := ih (fun k hk => hall k (by simp [hk])) hr
  refine wpOp_mono (fun a' w' hh => ?_) (wpOp_putIf (S := fun _ => True) hj hap (Region.noSelect_spec hsel i oi' · · hi) (Region.noSelect_spec hsel j oj · · hj) (fun c a w => hQ c _ _ a w) hyi h1)
  exact ⟨oi', vi, hi, hh.1, hh.2⟩
theorem mixed_sound {Q : Exit → Act → World → Prop} (hsel : Region.noSelect ops = true) (hQ : ∀ c d v a w, Q (.panic c) (Act.put a d v) w → Q (.panic c) a w) : ∀ (fuel : Nat) (l t : List Nat) (listed : Array Bool) (a : Act) (w : World),
  l.length + t.length ≤ fuel → listed.size = ops.size → (∀ i, i < ops.size → (listed.getD i true = false ↔ i ∈ l ++ t)) → (∀ i ∈ l ++ t, i < ops.size) → (l ++ t).Nodup → Closed ops listed →
  okTab tab ops = true → okList tab ops kd l = true → (∀ y ∈ l, ∀ x ∈ t, ancB tab y x = true ∨ ∃ oy ox, ops[y]? = some oy ∧ ops[x]? = some ox ∧ oy.apart ops ox = true) → TailOk tab [] t → DepsOk ops listed (l ++ t) →
  runM P ops l (fun a => wpOps P ops Q t a w) a → wpAny P .any ops Q fuel listed a w := by
 intro fuel
 induction fuel with
 | zero =>
  intro l t listed a w hf hsz hun hin hnd hcl htab _ _ htail hdeps h
  have hl : l = [] := List.eq_nil_of_length_eq_zero (by omega)
  subst hl
  exact tail_sound 0 t listed a w (by simpa using hf) hsz hun hin hnd hcl htab htail hdeps h
 | succ fuel ih =>
  intro l t listed a w hf hsz hun hin hnd hcl htab hlist hwait htail hdeps h
  by_cases hl : l = []
  ·subst hl
   exact tail_sound _ t listed a w (by simpa using hf) hsz hun hin hnd hcl htab htail hdeps h
  refine ⟨fun hr => ?_, fun j hj => ?_⟩
  ·exfalso
   cases l with
   | nil => exact hl rfl
   | cons x L =>
    obtain ⟨o, ho, hh⟩ := hdeps [] x (L ++ t) (by simp)
    have hx : x ∈ Region.ready .any ops listed := mem_ready.2 ⟨(hun x (hin x (by simp))).2 (by simp), o, ho, fun e he hb => (hh e he hb).resolve_right (by simp)⟩
    rw [hr] at hx; cases hx
  ·obtain ⟨h0, oj, hoj, hdj⟩ := mem_ready.1 hj
   have hjlt := (Array.getElem?_eq_some_iff.1 hoj).1
   have hjsz : j < listed.size := by omega
   have hjm := (hun j hjlt).1 h0
   have hcl' := closed_set hjsz hoj hdj hcl
   have notanc : ∀ i ∈ l ++ t, ancB tab i j = true → False := fun i hi ha => by
    have h1 := anc_listed hsz hcl htab j i oj hoj hdj ha
    have h2 := (hun i (hin i hi)).2 hi
    rw [getD_tf (by rw [hsz]; exact hin i hi), h1] at h2
    cases h2
   rcases List.mem_append.1 hjm with hjl | hjt
   ·obtain ⟨l1, l2, rfl⟩ := List.append_of_mem hjl
    obtain ⟨hlist', hpair⟩ := okList_drop hlist
    have hall : ∀ i ∈ l1, ∃ oi, ops[i]? = some oi ∧ oi.apart ops oj = true := fun i hi => by
     have hp := hpair i hi
     simp only [okPair, Bool.or_eq_true] at hp
     rcases hp with hp | hp
     ·exact (notanc i (by simp [hi]) hp).elim
     ·cases hoi : ops[i]? with
      | none => simp [hoi] at hp
      | some oi =>
       simp only [hoi, hoj, Bool.and_eq_true] at hp
       exact ⟨oi, rfl, hp.1⟩
    obtain ⟨v, hy, hr⟩ := bringM hsel hoj hall h
    have he : (l1 ++ j :: l2) ++ t = l1 ++ j :: (l2 ++ t) := by simp
    refine hy.wpOp hoj trivial (ih (l1 ++ l2) t _ _ w (by simp at hf ⊢; omega) (by simp [hsz]) (by have := unlisted_drop (L1 := l1) (L2 := l2 ++ t) hjsz (by rw [← he]; exact hun) (by rw [← he]; exact hnd); simpa using this)
     (fun i hi => hin i (by simp only [List.mem_append, List.mem_cons] at hi ⊢; rcases hi with (hi | hi) | hi <;> simp [hi]))
     (by have := (nodup_mid (by rw [← he]; exact hnd)).2; simpa using this) hcl' htab hlist' (fun y hy x hx => hwait y (by simp only [List.mem_append, List.mem_cons] at hy ⊢; rcases hy with hy | hy <;> simp [hy]) x hx) htail
     (by have := depsOk_drop (L1 := l1) (L2 := l2 ++ t) hjsz (by rw [← he]; exact hdeps); simpa using this) hr)
   ·obtain ⟨t1, t2, rfl⟩ := List.append_of_mem hjt
    have ht1 : t1 = [] := by
     rw [List.eq_nil_iff_forall_not_mem]
     intro i hi
     exact notanc i (by simp [hi]) (htail t1 j t2 rfl i (by simp [hi]))
    subst ht1
    have hall : ∀ i ∈ l, ∃ oi, ops[i]? = some oi ∧ oi.apart ops oj = true := fun i hi => by
     rcases hwait i hi j (by simp) with h1 | ⟨oy, ox, h1, h2, h3⟩
     ·exact (notanc i (by simp [hi]) h1).elim
     ·obtain rfl : oj = ox := by rw [hoj] at h2; exact Option.some.inj h2
      exact ⟨oy, h1, h3⟩
    have h' : runM P ops l (fun a => wpOp P ops Q j (wpOps P ops Q t2) a w) a := runM_mono (fun a hh => by rw [List.nil_append, wpOps_cons] at hh; exact hh) h
    have he : l ++ ([] ++ j :: t2) = l ++ j :: t2 := by simp
    refine wpOp_mono (fun a' w' hk => ?_) (tailM hsel hQ hoj hall h')
    exact ih l t2 _ a' w' (by simp at hf; omega) (by simp [hsz]) (by have := unlisted_drop (L1 := l) (L2 := t2) hjsz (by rw [← he]; exact hun) (by rw [← he]; exact hnd); simpa using this)
     (fun i hi => hin i (by simp only [List.mem_append, List.nil_append, List.mem_cons] at hi ⊢; rcases hi with hi | hi <;> simp [hi])) (by have := (nodup_mid (by rw [← he]; exact hnd)).2; simpa using this) hcl' htab hlist
     (fun y hy x hx => hwait y hy x (by simp [hx])) (fun u1 x u2 hu y hy => htail (j :: u1) x u2 (by simp [hu]) y (by simp at hy ⊢; exact .inr hy)) (by have := depsOk_drop (L1 := l) (L2 := t2) hjsz (by rw [← he]; exact hdeps); simpa using this) hk
theorem seq_sound (hX : ∀ j, X j → j < base) {Q : Exit → Act → World → Prop} (hsel : Region.noSelect ops = true) {strict : Bool} (hQ : strict = true ∨ ∀ c d v a w, Q (.panic c) (Act.put a d v) w → Q (.panic c) a w) : ∀ (fuel : Nat) (l t : List Nat) (listed : Array Bool) (N : Nat → Prop) (a : Act) (w : World),
  l.length + t.length ≤ fuel → listed.size = ops.size → (∀ i, i < ops.size → (listed.getD i true = false ↔ i ∈ l ++ t)) → (∀ i ∈ l ++ t, i < ops.size) → (l ++ t).Nodup → Closed ops listed →
  okTab tab ops = true → okList tab ops kd l = true → (∀ y ∈ l, ∀ x ∈ t, okWait strict tab ops kd y x = true) → TailOk tab [] t → DepsOk ops listed (l ++ t) → okAlloc ops kd l = true → (∀ i T z, i ∈ l → kd i = .alloc T z → Makes P ops i T z) →
  (∀ g, w.heap.size ≤ g → N g) → base ≤ w.heap.size → run P ops X base kd l (K0 P ops X Q t) N a w → wpAny P .any ops Q fuel listed a w := by
 intro fuel
 induction fuel with
 | zero =>
  intro l t listed N a w hf hsz hun hin hnd hcl htab _ _ htail hdeps _ _ _ _ h
  have hl : l = [] := List.eq_nil_of_length_eq_zero (by omega)
  subst hl
  exact tail_sound 0 t listed a w (by simpa using hf) hsz hun hin hnd hcl htab htail hdeps (h w (StepX.refl _ w))
 | succ fuel ih =>
  intro l t listed N a w hf hsz hun hin hnd hcl htab hlist hwait htail hdeps halloc hz hN hbase h
  by_cases hl : l = []
  ·subst hl
   exact tail_sound _ t listed a w (by simpa using hf) hsz hun hin hnd hcl htab htail hdeps (h w (StepX.refl _ w))
  refine ⟨fun hr => ?_, fun j hj => ?_⟩
  ·-- nothing may come up: but something is left
   exfalso
   cases l with
   | nil => exact hl rfl
   | cons x L =>
    obtain ⟨o, ho, hh⟩ := hdeps [] x (L ++ t) (by simp)
    have hx : x ∈ Region.ready .any ops listed := mem_ready.2 ⟨(hun x (hin x (by simp))).2 (by simp), o, ho, fun e he hb => (hh e he hb).resolve_right (by simp)⟩
    rw [hr] at hx; cases hx
  ·obtain ⟨h0, oj, hoj, hdj⟩ := mem_ready.1 hj
   have hjlt := (Array.getElem?_eq_some_iff.1 hoj).1
   have hjsz : j < listed.size := by omega
   have hjm := (hun j hjlt).1 h0
   have hcl' := closed_set hjsz hoj hdj hcl
   have notanc : ∀ i ∈ l ++ t, ancB tab i j = true → False := fun i hi ha => by
    have h1 := anc_listed hsz hcl htab j i oj hoj hdj ha
    have h2 := (hun i (hin i hi)).2 hi
    rw [getD_tf (by rw [hsz]; exact hin i hi), h1] at h2
    cases h2
   rcases List.mem_append.1 hjm with hjl | hjt
   ·-- one of the first part
    obtain ⟨l1, l2, rfl⟩ := List.append_of_mem hjl
    obtain ⟨hlist', hpair⟩ := okList_drop hlist
    have hall : ∀ i ∈ l1, ∃ oi, ops[i]? = some oi ∧ oi.apart ops oj = true ∧ swaps (kd i) (kd j) = true := fun i hi => by
     have hp := hpair i hi
     simp only [okPair, Bool.or_eq_true] at hp
     rcases hp with hp | hp
     ·exact (notanc i (by simp [hi]) hp).elim
     ·cases hoi : ops[i]? with
      | none => simp [hoi] at hp
      | some oi =>
       simp only [hoi, hoj, Bool.and_eq_true] at hp
       exact ⟨oi, rfl, hp.1, hp.2⟩
    have hb := bring hX (K0_mono t) hsel hoj l1 l2 N a w hall h
    have he : (l1 ++ j :: l2) ++ t = l1 ++ j :: (l2 ++ t) := by simp
    have next : ∀ (N' : Nat → Prop) (a' : Act) (w' : World), (∀ g, w'.heap.size ≤ g → N' g) → w.heap.size ≤ w'.heap.size → run P ops X base kd (l1 ++ l2) (K0 P ops X Q t) N' a' w' → wpAny P .any ops Q fuel (listed.setIfInBounds j true) a' w' :=
     fun N' a' w' hN' hsz' hr => ih (l1 ++ l2) t _ N' a' w' (by simp at hf ⊢; omega) (by simp [hsz]) (by have := unlisted_drop (L1 := l1) (L2 := l2 ++ t) hjsz (by rw [← he]; exact hun) (by rw [← he]; exact hnd); simpa using this)
      (fun i hi => hin i (by simp only [List.mem_append, List.mem_cons] at hi ⊢; rcases hi with (hi | hi) | hi <;> simp [hi]))
      (by have := (nodup_mid (by rw [← he]; exact hnd)).2; simpa using this) hcl' htab hlist' (fun y hy x hx => hwait y (by simp only [List.mem_append, List.mem_cons] at hy ⊢; rcases hy with hy | hy <;> simp [hy]) x hx) htail
      (by have := depsOk_drop (L1 := l1) (L2 := l2 ++ t) hjsz (by rw [← he]; exact hdeps); simpa using this)
      (by simp only [okAlloc, List.all_eq_true, List.mem_append, List.mem_cons] at halloc ⊢; exact fun x hx => halloc x (hx.elim .inl (fun h => .inr (.inr h))))
      (fun i T z hi => hz i T z (by simp only [List.mem_append, List.mem_cons] at hi ⊢; rcases hi with hi | hi <;> simp [hi])) hN' (by omega) hr
    cases hk : kd j with
    | silent =>
     simp only [go, hk] at hb
     obtain ⟨o, v, ho, hy, hr⟩ := hb
     exact hy.wpOp ho (StepX.refl _ w) (next N _ w hN (Nat.le_refl _) hr)
    | chain =>
     simp only [go, hk] at hb
     exact wpOp_any (wpOp_mono (fun a' w' ⟨hs, hr⟩ => next _ a' w' (fun g hg => ⟨hN g (Nat.le_trans hs.size hg), .inr hg⟩) hs.size hr) (hb w (StepX.refl _ w)))
    | alloc T z =>
     simp only [go, hk] at hb
     have hal := halloc
     simp only [okAlloc, List.all_eq_true] at hal
     have hal := hal j (by simp)
     simp only [hk, hoj, Bool.and_eq_true] at hal
     obtain ⟨hg, hop⟩ := hal
     refine wpOp_alloc hoj hop (by simpa using hg) (hz j T z (by simp) hk) ?_
     have hd : (ops[j]?).bind (·.dst) = oj.dst := by rw [hoj]; rfl
     rw [hd] at hb
     exact next _ _ _ (fun g hgg => ⟨hN g (by simp at hgg; omega), by simp at hgg; omega⟩) (by simp) (hb (w.alloc (.cells (madeC z) T)) w.heap.size (.of (Step.alloc _ _)) (heap_alloc_new w _) hbase (hN _ (Nat.le_refl _)))
   ·-- the tail waits, but for moves
    have hw1 : ∀ y ∈ l, ancB tab y j = true ∨ (strict = false ∧ isSil (kd y) = true ∧ isMove ops y = true ∧ ∃ oy, ops[y]? = some oy ∧ oy.apart ops oj = true) := fun y hy => by
     have := hwait y hy j hjt
     simp only [okWait, Bool.or_eq_true, Bool.and_eq_true, Bool.not_eq_true'] at this
     rcases this with h1 | ⟨⟨⟨h1, h2⟩, h3⟩, h4⟩
     ·exact .inl h1
     ·cases hoy : ops[y]? with
      | none => simp [hoy] at h4
      | some oy => simp only [hoy, hoj] at h4; exact .inr ⟨h1, h2, h3, oy, rfl, h4⟩
    have hw2 : ∀ y ∈ l, strict = false ∧ isSil (kd y) = true ∧ isMove ops y = true := fun y hy => by
     rcases hw1 y hy with h1 | ⟨h1, h2, h3, _⟩
     ·exact (notanc y (by simp [hy]) h1).elim
     ·exact ⟨h1, h2, h3⟩
    have hst : strict = false := by
     cases l with
     | nil => exact (hl rfl).elim
     | cons x L => exact (hw2 x (by simp)).1
    have hQ' := hQ.resolve_left (by rw [hst]; decide)
    have hm := mixed_sound hsel hQ' (fuel + 1) l t listed a w hf hsz hun hin hnd hcl htab hlist (fun y hy x hx => by
     have := hwait y hy x hx
     simp only [okWait, Bool.or_eq_true, Bool.and_eq_true, Bool.not_eq_true'] at this
     rcases this with h1 | ⟨_, h4⟩
     ·exact .inl h1
     ·cases hoy : ops[y]? with
      | none => simp [hoy] at h4
      | some oy =>
       cases hox : ops[x]? with
       | none => simp [hoy, hox] at h4
       | some ox => simp only [hoy, hox] at h4; exact .inr ⟨oy, ox, rfl, rfl, h4⟩) htail hdeps (runM_of_run (fun y hy => (hw2 y hy).2) h)
    exact hm.2 j hj
theorem wp_region_seqG {id : Nat} {Q : Exit → Act → World → Prop} {a : Act} {w : World} (X : Nat → Prop) (hX : ∀ j, X j → j < w.heap.size) (kd : Nat → Kd) (strict : Bool) (hQ : strict = true ∨ ∀ c d v a w, Q (.panic c) (Act.put a d v) w → Q (.panic c) a w) (tab l t : List Nat) (hm : P.follows .mixedOrders = true) (hok : okSeq strict tab ops kd l t = true)
  (hz : ∀ i T z, i ∈ l → kd i = .alloc T z → Makes P ops i T z)
  (h : ∀ W, StepX X w W → run P ops X w.heap.size kd l (K0 P ops X Q t) (fun _ => True) a W) : (Code.region id ops true).wp P Q a w := by
 simp only [okSeq, Bool.and_eq_true, List.all_eq_true, decide_eq_true_eq, List.mem_range, List.contains_iff_mem] at hok
 obtain ⟨⟨⟨⟨⟨⟨⟨⟨⟨h0, h1⟩, h9⟩, h2⟩, h3⟩, h4⟩, h5⟩, h6⟩, h7⟩, h8⟩ := hok
 refine wp_region_any hm ?_
 refine seq_sound (base := w.heap.size) (kd := kd) hX h5 hQ ops.size l t _ (fun _ => True) a w.drew ?_ (by simp) ?_ h7 h8 ?_ h0 h1 h9 (tailOk_of h2) ?_ h4 hz (fun _ _ => trivial) (by simp) (h w.drew (.of (Step.drew w)))
 ·-- no more than the region has
  have hsub : (l ++ t).length ≤ (List.range ops.size).length := h8.length_le_of_subset (fun i hi => List.mem_range.2 (h7 i hi))
  simpa using hsub
 ·intro i hi
  simp only [Array.getD_eq_getD_getElem?, Array.getElem?_replicate, hi, if_true, Option.getD_some, true_iff]
  exact h6 i hi
 ·intro x o ho hx
  have hlt := (Array.getElem?_eq_some_iff.1 ho).1
  simp [hlt] at hx
 ·intro L1 x L2 he
  obtain ⟨o, ho, hh⟩ := depsOk_of (listed := Array.replicate ops.size false) h3 L1 x L2 he
  exact ⟨o, ho, by simpa using hh⟩
theorem wp_region_seqX {id : Nat} {Q : Exit → Act → World → Prop} {a : Act} {w : World} (X : Nat → Prop) (hX : ∀ j, X j → j < w.heap.size) (kd : Nat → Kd) (tab l t : List Nat) (hm : P.follows .mixedOrders = true) (hok : okSeq true tab ops kd l t = true)
  (hz : ∀ i T z, i ∈ l → kd i = .alloc T z → Makes P ops i T z)
  (h : ∀ W, StepX X w W → run P ops X w.heap.size kd l (K0 P ops X Q t) (fun _ => True) a W) : (Code.region id ops true).wp P Q a w :=
 wp_region_seqG X hX kd true (.inl rfl) tab l t hm hok hz h
theorem wp_region_seq {id : Nat} {Q : Exit → Act → World → Prop} {a : Act} {w : World} (kd : Nat → Kd) (tab l t : List Nat) (hm : P.follows .mixedOrders = true) (hok : okSeq true tab ops kd l t = true)
  (hz : ∀ i T z, i ∈ l → kd i = .alloc T z → Makes P ops i T z)
  (h : ∀ W, Step w W → run P ops (fun _ => False) w.heap.size kd l (K0 P ops (fun _ => False) Q t) (fun _ => True) a W) : (Code.region id ops true).wp P Q a w :=
 wp_region_seqX (fun _ => False) (fun _ h => h.elim) kd tab l t hm hok hz h
theorem wp_region_seqM {id : Nat} {Q : Exit → Act → World → Prop} {a : Act} {w : World} (hQ : ∀ c d v a w, Q (.panic c) (Act.put a d v) w → Q (.panic c) a w) (kd : Nat → Kd) (tab l t : List Nat) (hm : P.follows .mixedOrders = true) (hok : okSeq false tab ops kd l t = true)
  (hz : ∀ i T z, i ∈ l → kd i = .alloc T z → Makes P ops i T z)
  (h : ∀ W, Step w W → run P ops (fun _ => False) w.heap.size kd l (K0 P ops (fun _ => False) Q t) (fun _ => True) a W) : (Code.region id ops true).wp P Q a w :=
 wp_region_seqG (fun _ => False) (fun _ h => h.elim) kd false (.inr hQ) tab l t hm hok hz h
def kdOf (calls : List Nat) (allocs : List (Nat × TypeId × Value)) (i : Nat) : Kd :=
 if calls.contains i then .chain else match allocs.find? (fun x => x.1 == i) with
  | some (_, T, z) => .alloc T z
  | none => .silent
section
variable {K : Cont} {N : Nat → Prop} {a : Act} {w : World} {i : Nat} {l : List Nat} {o : Oper}
theorem run_silent {v : Value} (hk : kd i = .silent) (ho : ops.toList[i]? = some o) (hy : YieldsIf P ops (StepX X w) o v a) (h : run P ops X base kd l K N (a.put o.dst v) w) : run P ops X base kd (i :: l) K N a w := by
 show go P ops X base kd i _ N a w
 unfold go; rw [hk]; exact ⟨o, v, by simpa using ho, hy, h⟩
theorem run_want (hk : kd i = .silent) (ho : ops.toList[i]? = some o) (hw : Region.wanted o (yielded ops a.tmps) = true) (h : ∃ v, (∀ W, StepX X w W → (execOp a.eval o).run P W = .ok (.value v) W) ∧ run P ops X base kd l K N (a.put o.dst v) w) :
  run P ops X base kd (i :: l) K N a w := by
 obtain ⟨v, h1, h2⟩ := h
 exact run_silent hk ho (.inl ⟨hw, h1⟩) h2
theorem run_off (hk : kd i = .silent) (ho : ops.toList[i]? = some o) (hw : Region.wanted o (yielded ops a.tmps) = false) (h : run P ops X base kd l K N (a.put o.dst undef) w) : run P ops X base kd (i :: l) K N a w :=
 run_silent hk ho (.inr ⟨hw, rfl⟩) h
theorem run_chain (hk : kd i = .chain) (ho : ops.toList[i]? = some o) (hw : Region.wanted o (yielded ops a.tmps) = true)
  (h : ∀ W, StepX X w W → ∀ K' : Act → World → Prop, (∀ a' w', StepX X W w' → run P ops X base kd l K (fun g => N g ∧ (g < W.heap.size ∨ w'.heap.size ≤ g)) a' w' → K' a' w') → o.wp P a W K' QF) : run P ops X base kd (i :: l) K N a w := by
 show go P ops X base kd i _ N a w
 have ho : ops[i]? = some o := by simpa using ho
 unfold go; rw [hk]
 intro W hW
 unfold wpOp; simp only [ho, hw, if_true]
 exact .inl (h W hW _ (fun a' w' hs hr => ⟨hs, hr⟩))
theorem run_chain_off (hk : kd i = .chain) (ho : ops.toList[i]? = some o) (hw : Region.wanted o (yielded ops a.tmps) = false) (hK : ContMono X K)
  (h : run P ops X base kd l K N (a.put o.dst undef) w) : run P ops X base kd (i :: l) K N a w := by
 show go P ops X base kd i _ N a w
 have ho : ops[i]? = some o := by simpa using ho
 unfold go; rw [hk]
 intro W hW
 unfold wpOp; simp only [ho, hw]
 exact ⟨StepX.refl _ _, run_mono hK l _ _ _ _ _ (fun g hg => hg.1) hW h⟩
theorem run_alloc {T : TypeId} {z : Value} (hk : kd i = .alloc T z) (ho : ops.toList[i]? = some o)
  (h : ∀ W g, StepX X w W → W.heap[g]? = some (.cells z.cells T (0, 0)) → base ≤ g → N g → run P ops X base kd l K (fun x => N x ∧ x ≠ g) (a.put o.dst (.pointer (some ⟨g, 0, none⟩))) W)
  (hv : ∀ g, madeV z g = .pointer (some ⟨g, 0, none⟩) := by exact fun _ => rfl) (hc : madeC z = z.cells := by exact rfl) : run P ops X base kd (i :: l) K N a w := by
 show go P ops X base kd i _ N a w
 have ho : ops[i]? = some o := by simpa using ho
 unfold go; rw [hk, ho]
 intro W g h1 h2 h3 h4
 rw [hc] at h2
 rw [hv]
 exact h W g h1 h2 h3 h4
theorem run_consts {T : TypeId} {xs : Array Value} (hk : kd i = .alloc T (.tuple xs)) (ho : ops.toList[i]? = some o)
  (h : ∀ W g, StepX X w W → W.heap[g]? = some (.cells xs T (0, 0)) → base ≤ g → N g → run P ops X base kd l K (fun x => N x ∧ x ≠ g) (a.put o.dst (.slice (some ⟨g, 0, none⟩) xs.size xs.size)) W) : run P ops X base kd (i :: l) K N a w := by
 show go P ops X base kd i _ N a w
 have ho : ops[i]? = some o := by simpa using ho
 unfold go; rw [hk, ho]; exact h
theorem run_end {Q : Exit → Act → World → Prop} {t : List Nat} {L : List Oper} (ht : t.map (fun i => ops.toList[i]?) = L.map some) (h : ∀ W, StepX X w W → wpList P ops Q L a W) : run P ops X base kd [] (K0 P ops X Q t) N a w := by
 intro W hW
 have h' := h W hW
 clear h hW
 show wpOps P ops Q t a W
 induction t generalizing L a W with
 | nil =>
  cases L with
  | nil => exact h'
  | cons _ _ => simp at ht
 | cons x t ih =>
  cases L with
  | nil => simp at ht
  | cons o L =>
   simp only [List.map_cons, List.cons.injEq, Array.getElem?_toList] at ht
   rw [wpOps_cons]
   unfold wpOp
   unfold wpList at h'
   simp only [ht.1]
   split
   ·rename_i hw
    rw [if_pos hw] at h'
    exact h'.imp (Oper.wp_mono fun a' w' hh => ih (by simpa using ht.2) w' hh) id
   ·rename_i hw
    rw [if_neg hw] at h'
    exact ih (by simpa using ht.2) W h'
end
end
end Go.BT
namespace Go.Proofs.YtgpiieogiafdoaaGreat
set_option linter.unusedSimpArgs false
set_option linter.unusedVariables false
open Go.RowKit Go.BT
def idxOf {α : Type} (p : α → Bool) (l : List α) : Int := match l.findIdx? p with | some i => (i : Int) | none => -1
theorem idxOf_at {α : Type} {p : α → Bool} {l : List α} {k : Nat} (hk : k < l.length) (h : ∀ j (hj : j < k), p (l[j]'(by omega)) = false) (hp : p l[k] = true) : idxOf p l = k := by
 have : l.findIdx? p = some k := by
  rw [List.findIdx?_eq_some_iff_getElem]
  exact ⟨hk, hp, fun j hj => by simpa using h j hj⟩
 simp [idxOf, this]
theorem idxOf_none {α : Type} {p : α → Bool} {l : List α} (h : ∀ j (hj : j < l.length), p l[j] = false) : idxOf p l = -1 := by
 have : l.findIdx? p = none := by
  rw [List.findIdx?_eq_none_iff]
  intro x hx
  obtain ⟨j, hj, rfl⟩ := List.getElem_of_mem hx
  exact h j hj
 simp [idxOf, this]
theorem idxOf_ge {α : Type} (p : α → Bool) (l : List α) : decide (0 ≤ idxOf p l) = l.any p := by
 unfold idxOf
 cases h : l.findIdx? p with
 | none =>
  rw [List.findIdx?_eq_none_iff] at h
  simp only [Int.reduceNeg, Int.reduceLE, decide_false]
  symm; rw [List.any_eq_false]; intro x hx; simpa using h x hx
 | some i =>
  rw [List.findIdx?_eq_some_iff_getElem] at h
  obtain ⟨hi, hp, _⟩ := h
  simp only [Int.natCast_nonneg, decide_true]
  symm; rw [List.any_eq_true]; exact ⟨_, List.getElem_mem hi, hp⟩
def PredJ (g : FuncId) (cap : Array Value) {α : Type} (V : World → Value → α → Prop) (p : α → Bool) (l : List α) (J : Nat → World → Prop) : Prop :=
 ∀ i (h : i < l.length) W u, J i W → (∀ j (hj : j < i), p (l[j]'(by omega)) = false) → V W u l[i] → Calls Tryz.prog g (#[u] ++ cap) W fun e W' => e = .returned (.bool (p l[i])) ∧ J (i + 1) W'
def PredA (g : FuncId) (cap : Array Value) {α : Type} (V : World → Value → α → Prop) (p : α → Bool) (l : List α) (J : Nat → World → Prop) (X : Nat → Prop) : Prop :=
 ∀ i (h : i < l.length) W u, J i W → (∀ j (hj : j < i), p (l[j]'(by omega)) = true) → V W u l[i] → Calls Tryz.prog g (#[u] ++ cap) W fun e W' => e = .returned (.bool (p l[i])) ∧ J (i + 1) W' ∧ StepX X W W'
theorem indexFunc_int (S : Nat → Prop) (l : List Int) (v : Value) (w : World) (g : FuncId) (cap : Array Value) (eg : ∀ args w, (callFunc g args).run Tryz.prog w = .ok (.enter g args) w) (p : Int → Bool) (J : Nat → World → Prop) (hJ : ∀ i W, J i W → SL S W v l) (hw : J 0 w)
  (hp : PredJ g cap (fun _ u x => u = .int .i64 x) p l J) :
  Calls Tryz.prog 151 #[v, .func (.func g) #[] cap] w fun e w' => e = .returned (.int .i64 (idxOf p l)) ∧ ∃ k, k ≤ l.length ∧ (idxOf p l = -1 → k = l.length) ∧ J k w' := by
 obtain ⟨pv, cv, rfl⟩ := (hJ 0 w hw).form
 have hm := (hJ 0 w hw).len
 have Hp := zH hp
 have HJ := zH hJ
 clear hp hJ
 go_enter Tryz.func151, Tryz.ntmps151
 go_wp2
 go_loopw [8] (fun i wr => ∃ k : Nat, k ≤ l.length ∧ i = .int .i64 k ∧ (∀ j (hj : j < k) (hl : j < l.length), p l[j] = false) ∧ J k wr) (fun i _ => l.length - (intOf i).toNat)
 case atStart => exact ⟨0, Nat.zero_le _, rfl, fun j hj => absurd hj (by omega), hw⟩
 case round =>
  obtain ⟨k, hk, rfl, hno, hJk⟩ := hrel
  have HN := zH hno
  clear hno
  by_cases hlt : k < l.length
  ·obtain ⟨p', c', b, o, he, _, _, hpp, hc, _⟩ := (HJ.out k wr hJk).ints
   injection he with he1 he2 he3
   subst he1 he3
   obtain rfl := hpp (by omega)
   have e1 := hc k hlt
   clear hc hpp he2
   have hcall := zH (Hp.out k hlt wr (.int .i64 l[k]) hJk (fun j hj => HN.out j hj (by omega)) rfl)
   cases hq : p l[k] with
   | true =>
    have hq := zH hq
    go_wp2_with fail
    refine hcall.out.mono ?_
    rintro e w' ⟨rfl, hJ'⟩
    rw [hq.out]
    go_wp2
    have hi := idxOf_at hlt (fun j hj => HN.out j hj (by omega)) hq.out
    go_ret
    rw [hi]
    exact ⟨rfl, k + 1, by omega, fun h => by omega, hJ'⟩
   | false =>
    have hq := zH hq
    go_wp2_with fail
    refine hcall.out.mono ?_
    rintro e w' ⟨rfl, hJ'⟩
    rw [hq.out]
    go_wp2
    go_roundw
    case rel => exact ⟨k + 1, by omega, by go_num, fun j hj hl => if h : j = k then by subst h; exact hq.out else HN.out j (by omega) hl, hJ'⟩
    case measure => simp [intOf]; omega
  ·go_wp2
   have hi := idxOf_none (fun j hj => HN.out j (by omega) hj)
   go_ret
   rw [hi]
   exact ⟨rfl, k, hk, fun _ => by omega, hJk⟩
theorem containsFunc_int (S : Nat → Prop) (l : List Int) (v : Value) (w : World) (g : FuncId) (cap : Array Value) (eg : ∀ args w, (callFunc g args).run Tryz.prog w = .ok (.enter g args) w) (p : Int → Bool) (J : Nat → World → Prop) (hJ : ∀ i W, J i W → SL S W v l) (hw : J 0 w)
  (hp : PredJ g cap (fun _ u x => u = .int .i64 x) p l J) :
  Calls Tryz.prog 143 #[v, .func (.func g) #[] cap] w fun e w' => e = .returned (.bool (l.any p)) ∧ ∃ k, k ≤ l.length ∧ (l.any p = false → k = l.length) ∧ J k w' := by
 have hc := indexFunc_int S l v w g cap eg p J hJ hw hp
 have HC := zH hc
 clear hc hp hJ eg
 go_enter Tryz.func143, Tryz.ntmps143
 go_wp2_with fail
 refine HC.out.mono ?_
 rintro e w' ⟨rfl, hk⟩
 have HK := zH hk
 clear hk
 go_wp2
 have hge := idxOf_ge p l
 go_ret
 obtain ⟨k, h1, h2, h3⟩ := HK.out
 refine ⟨by rw [← hge]; rfl, k, h1, fun h => h2 ?_, h3⟩
 rw [← hge, decide_eq_false_iff_not] at h
 unfold idxOf at h ⊢
 split <;> rename_i hh <;> simp [hh] at h ⊢
theorem allNot_int (l : List Int) (g : FuncId) (cap : Array Value) (eg : ∀ args w, (callFunc g args).run Tryz.prog w = .ok (.enter g args) w) (p : Int → Bool) (J : Nat → World → Prop) (X : Nat → Prop) (b : Nat) (hX : ¬ X b)
  (hJs : ∀ i W W', J i W → Step W W' → J i W') (hp : PredA g cap (fun _ u x => u = .int .i64 x) p l J X) :
  PredJ 144 #[.pointer (some ⟨b, 0, none⟩)] (fun _ u x => u = .int .i64 x) (fun x => !p x) l (fun i W => J i W ∧ W.cell? ⟨b, 0, none⟩ = some (.func (.func g) #[] cap)) := by
 intro i h W u ⟨hJ, hc⟩ hno hV
 have hb := World.block_lt_of_cell? W _ hc
 have hb' : b < W.heap.size := hb
 obtain rfl := hV
 have hcall := zH (hp i h W (.int .i64 l[i]) (hJs _ _ _ hJ (Step.refl _)) (fun j hj => by simpa using hno j hj) rfl)
 show Calls Tryz.prog 144 #[(.int .i64 l[i]), .pointer (some ⟨b, 0, none⟩)] W _
 have HN := zH hno
 have HS := zH hJs
 clear hno hJs hp hJ hb
 go_enter Tryz.func144, Tryz.ntmps144
 go_wp2_with fail
 refine hcall.out.mono ?_
 rintro e w' ⟨rfl, hJ', hst⟩
 have hc' := hst.keeps.cell hX (a := ⟨b, 0, none⟩) hc
 go_wp2
 go_ret
 exact ⟨rfl, hJ', hc'⟩
theorem all_int (S : Nat → Prop) (l : List Int) (v : Value) (w : World) (g : FuncId) (cap : Array Value) (eg : ∀ args w, (callFunc g args).run Tryz.prog w = .ok (.enter g args) w) (p : Int → Bool) (J : Nat → World → Prop) (X : Nat → Prop)
  (hX : ∀ j, X j → j < w.heap.size) (hJ : ∀ i W, J i W → SL S W v l) (hJs : ∀ i W W', J i W → Step W W' → J i W') (hw : J 0 w) (hp : PredA g cap (fun _ u x => u = .int .i64 x) p l J X) :
  Calls Tryz.prog 118 #[v, .func (.func g) #[] cap] w fun e w' => e = .returned (.bool (l.all p)) ∧ ∃ k, k ≤ l.length ∧ (l.all p = true → k = l.length) ∧ J k w' := by
 have hmf : ∀ (fn : Fn) (first cap : Array Value) (w : World), (Instr.makeFunc fn first cap).run Tryz.prog w = .ok (.func fn first cap) w := fun _ _ _ _ => rfl
 have hc := containsFunc_int S l v (w.alloc (.cells #[.func (.func g) #[] cap] 180)) 144 #[.pointer (some ⟨w.heap.size, 0, none⟩)] (Go.Proofs.enters_of Tryz.func144 (by kernel_rfl) rfl) (fun x => !p x)
  (fun i W => J i W ∧ W.cell? ⟨w.heap.size, 0, none⟩ = some (.func (.func g) #[] cap)) (fun i W h => hJ i W h.1) ⟨hJs _ _ _ hw (Step.alloc _ _), by rw [World.cell?_alloc_new]; rfl⟩
  (allNot_int l g cap eg p J X w.heap.size (fun h => by have := hX _ h; omega) hJs hp)
 have HC := zH hc
 clear hc hp hJ hJs hX eg
 go_enter Tryz.func118, Tryz.ntmps118
 go_wp2_with fail
 refine HC.out.mono ?_
 rintro e w' ⟨rfl, hk⟩
 have HK := zH hk
 clear hk
 have he : (l.any fun x => !p x) = !(l.all p) := by rw [List.not_all_eq_any_not]
 have HE := zH he
 clear he
 go_wp2
 go_ret
 obtain ⟨k, h1, h2, h3, _⟩ := HK.out
 rw [HE.out] at h2 ⊢
 exact ⟨by simp, k, h1, fun h => h2 (by simp [h]), h3⟩
theorem indexFunc_sector (S : Nat → Prop) (l : List Sector) (v : Value) (w : World) (g : FuncId) (cap : Array Value) (eg : ∀ args w, (callFunc g args).run Tryz.prog w = .ok (.enter g args) w) (p : Sector → Bool) (J : Nat → World → Prop) (hJ : ∀ i W, J i W → SL S W v l) (hw : J 0 w)
  (hp : PredJ g cap (fun _ u x => u = .agg #[.int .i64 x.cls, .int .i64 x.seats]) p l J) :
  Calls Tryz.prog 146 #[v, .func (.func g) #[] cap] w fun e w' => e = .returned (.int .i64 (idxOf p l)) ∧ ∃ k, k ≤ l.length ∧ (idxOf p l = -1 → k = l.length) ∧ J k w' := by
 obtain ⟨pv, cv, rfl⟩ := (hJ 0 w hw).form
 have hm := (hJ 0 w hw).len
 have Hp := zH hp
 have HJ := zH hJ
 clear hp hJ
 go_enter Tryz.func146, Tryz.ntmps146
 go_wp2
 go_loopw [8] (fun i wr => ∃ k : Nat, k ≤ l.length ∧ i = .int .i64 k ∧ (∀ j (hj : j < k) (hl : j < l.length), p l[j] = false) ∧ J k wr) (fun i _ => l.length - (intOf i).toNat)
 case atStart => exact ⟨0, Nat.zero_le _, rfl, fun j hj => absurd hj (by omega), hw⟩
 case round =>
  obtain ⟨k, hk, rfl, hno, hJk⟩ := hrel
  have HN := zH hno
  clear hno
  by_cases hlt : k < l.length
  ·obtain ⟨p', c', b, o, he, _, _, hpp, hc, _⟩ := (HJ.out k wr hJk).sectors
   injection he with he1 he2 he3
   subst he1 he3
   obtain rfl := hpp (by omega)
   obtain ⟨e1, e2⟩ := hc k hlt
   clear hc hpp he2
   have hcall := zH (Hp.out k hlt wr (.agg #[.int .i64 l[k].cls, .int .i64 l[k].seats]) hJk (fun j hj => HN.out j hj (by omega)) rfl)
   cases hq : p l[k] with
   | true =>
    have hq := zH hq
    go_wp2_with fail
    refine hcall.out.mono ?_
    rintro e w' ⟨rfl, hJ'⟩
    rw [hq.out]
    go_wp2
    have hi := idxOf_at hlt (fun j hj => HN.out j hj (by omega)) hq.out
    go_ret
    rw [hi]
    exact ⟨rfl, k + 1, by omega, fun h => by omega, hJ'⟩
   | false =>
    have hq := zH hq
    go_wp2_with fail
    refine hcall.out.mono ?_
    rintro e w' ⟨rfl, hJ'⟩
    rw [hq.out]
    go_wp2
    go_roundw
    case rel => exact ⟨k + 1, by omega, by go_num, fun j hj hl => if h : j = k then by subst h; exact hq.out else HN.out j (by omega) hl, hJ'⟩
    case measure => simp [intOf]; omega
  ·go_wp2
   have hi := idxOf_none (fun j hj => HN.out j (by omega) hj)
   go_ret
   rw [hi]
   exact ⟨rfl, k, hk, fun _ => by omega, hJk⟩
theorem containsFunc_sector (S : Nat → Prop) (l : List Sector) (v : Value) (w : World) (g : FuncId) (cap : Array Value) (eg : ∀ args w, (callFunc g args).run Tryz.prog w = .ok (.enter g args) w) (p : Sector → Bool) (J : Nat → World → Prop) (hJ : ∀ i W, J i W → SL S W v l) (hw : J 0 w)
  (hp : PredJ g cap (fun _ u x => u = .agg #[.int .i64 x.cls, .int .i64 x.seats]) p l J) :
  Calls Tryz.prog 125 #[v, .func (.func g) #[] cap] w fun e w' => e = .returned (.bool (l.any p)) ∧ ∃ k, k ≤ l.length ∧ (l.any p = false → k = l.length) ∧ J k w' := by
 have hc := indexFunc_sector S l v w g cap eg p J hJ hw hp
 have HC := zH hc
 clear hc hp hJ eg
 go_enter Tryz.func125, Tryz.ntmps125
 go_wp2_with fail
 refine HC.out.mono ?_
 rintro e w' ⟨rfl, hk⟩
 have HK := zH hk
 clear hk
 go_wp2
 have hge := idxOf_ge p l
 go_ret
 obtain ⟨k, h1, h2, h3⟩ := HK.out
 refine ⟨by rw [← hge]; rfl, k, h1, fun h => h2 ?_, h3⟩
 rw [← hge, decide_eq_false_iff_not] at h
 unfold idxOf at h ⊢
 split <;> rename_i hh <;> simp [hh] at h ⊢
theorem allNot_sector (l : List Sector) (g : FuncId) (cap : Array Value) (eg : ∀ args w, (callFunc g args).run Tryz.prog w = .ok (.enter g args) w) (p : Sector → Bool) (J : Nat → World → Prop) (X : Nat → Prop) (b : Nat) (hX : ¬ X b)
  (hJs : ∀ i W W', J i W → Step W W' → J i W') (hp : PredA g cap (fun _ u x => u = .agg #[.int .i64 x.cls, .int .i64 x.seats]) p l J X) :
  PredJ 126 #[.pointer (some ⟨b, 0, none⟩)] (fun _ u x => u = .agg #[.int .i64 x.cls, .int .i64 x.seats]) (fun x => !p x) l (fun i W => J i W ∧ W.cell? ⟨b, 0, none⟩ = some (.func (.func g) #[] cap)) := by
 intro i h W u ⟨hJ, hc⟩ hno hV
 have hb := World.block_lt_of_cell? W _ hc
 have hb' : b < W.heap.size := hb
 obtain rfl := hV
 have hcall := zH (hp i h (W.alloc (.cells #[.int .i64 l[i].cls, .int .i64 l[i].seats] 117)) (.agg #[.int .i64 l[i].cls, .int .i64 l[i].seats]) (hJs _ _ _ hJ (Step.alloc _ _)) (fun j hj => by simpa using hno j hj) rfl)
 show Calls Tryz.prog 126 #[(.agg #[.int .i64 l[i].cls, .int .i64 l[i].seats]), .pointer (some ⟨b, 0, none⟩)] W _
 have HN := zH hno
 have HS := zH hJs
 clear hno hJs hp hJ hb
 go_enter Tryz.func126, Tryz.ntmps126
 go_wp2_with fail
 refine hcall.out.mono ?_
 rintro e w' ⟨rfl, hJ', hst⟩
 have hc' := hst.keeps.cell hX (a := ⟨b, 0, none⟩) (by rw [World.cell?_alloc_lt _ _ _ hb']; exact hc)
 go_wp2
 go_ret
 exact ⟨rfl, hJ', hc'⟩
theorem all_sector (S : Nat → Prop) (l : List Sector) (v : Value) (w : World) (g : FuncId) (cap : Array Value) (eg : ∀ args w, (callFunc g args).run Tryz.prog w = .ok (.enter g args) w) (p : Sector → Bool) (J : Nat → World → Prop) (X : Nat → Prop)
  (hX : ∀ j, X j → j < w.heap.size) (hJ : ∀ i W, J i W → SL S W v l) (hJs : ∀ i W W', J i W → Step W W' → J i W') (hw : J 0 w) (hp : PredA g cap (fun _ u x => u = .agg #[.int .i64 x.cls, .int .i64 x.seats]) p l J X) :
  Calls Tryz.prog 83 #[v, .func (.func g) #[] cap] w fun e w' => e = .returned (.bool (l.all p)) ∧ ∃ k, k ≤ l.length ∧ (l.all p = true → k = l.length) ∧ J k w' := by
 have hmf : ∀ (fn : Fn) (first cap : Array Value) (w : World), (Instr.makeFunc fn first cap).run Tryz.prog w = .ok (.func fn first cap) w := fun _ _ _ _ => rfl
 have hc := containsFunc_sector S l v (w.alloc (.cells #[.func (.func g) #[] cap] 149)) 126 #[.pointer (some ⟨w.heap.size, 0, none⟩)] (Go.Proofs.enters_of Tryz.func126 (by kernel_rfl) rfl) (fun x => !p x)
  (fun i W => J i W ∧ W.cell? ⟨w.heap.size, 0, none⟩ = some (.func (.func g) #[] cap)) (fun i W h => hJ i W h.1) ⟨hJs _ _ _ hw (Step.alloc _ _), by rw [World.cell?_alloc_new]; rfl⟩
  (allNot_sector l g cap eg p J X w.heap.size (fun h => by have := hX _ h; omega) hJs hp)
 have HC := zH hc
 clear hc hp hJ hJs hX eg
 go_enter Tryz.func83, Tryz.ntmps83
 go_wp2_with fail
 refine HC.out.mono ?_
 rintro e w' ⟨rfl, hk⟩
 have HK := zH hk
 clear hk
 have he : (l.any fun x => !p x) = !(l.all p) := by rw [List.not_all_eq_any_not]
 have HE := zH he
 clear he
 go_wp2
 go_ret
 obtain ⟨k, h1, h2, h3, _⟩ := HK.out
 rw [HE.out] at h2 ⊢
 exact ⟨by simp, k, h1, fun h => h2 (by simp [h]), h3⟩
theorem indexFunc_ikey (S : Nat → Prop) (l : List IKey) (v : Value) (w : World) (g : FuncId) (cap : Array Value) (eg : ∀ args w, (callFunc g args).run Tryz.prog w = .ok (.enter g args) w) (p : IKey → Bool) (J : Nat → World → Prop) (hJ : ∀ i W, J i W → SL S W v l) (hw : J 0 w)
  (hp : PredJ g cap (fun _ u x => u = .agg #[.int .i64 x.frm, .int .i64 x.number]) p l J) :
  Calls Tryz.prog 150 #[v, .func (.func g) #[] cap] w fun e w' => e = .returned (.int .i64 (idxOf p l)) ∧ ∃ k, k ≤ l.length ∧ (idxOf p l = -1 → k = l.length) ∧ J k w' := by
 obtain ⟨pv, cv, rfl⟩ := (hJ 0 w hw).form
 have hm := (hJ 0 w hw).len
 have Hp := zH hp
 have HJ := zH hJ
 clear hp hJ
 go_enter Tryz.func150, Tryz.ntmps150
 go_wp2
 go_loopw [8] (fun i wr => ∃ k : Nat, k ≤ l.length ∧ i = .int .i64 k ∧ (∀ j (hj : j < k) (hl : j < l.length), p l[j] = false) ∧ J k wr) (fun i _ => l.length - (intOf i).toNat)
 case atStart => exact ⟨0, Nat.zero_le _, rfl, fun j hj => absurd hj (by omega), hw⟩
 case round =>
  obtain ⟨k, hk, rfl, hno, hJk⟩ := hrel
  have HN := zH hno
  clear hno
  by_cases hlt : k < l.length
  ·obtain ⟨p', c', b, o, he, _, _, hpp, hc, _⟩ := (HJ.out k wr hJk).ikeys
   injection he with he1 he2 he3
   subst he1 he3
   obtain rfl := hpp (by omega)
   obtain ⟨e1, e2⟩ := hc k hlt
   clear hc hpp he2
   have hcall := zH (Hp.out k hlt wr (.agg #[.int .i64 l[k].frm, .int .i64 l[k].number]) hJk (fun j hj => HN.out j hj (by omega)) rfl)
   cases hq : p l[k] with
   | true =>
    have hq := zH hq
    go_wp2_with fail
    refine hcall.out.mono ?_
    rintro e w' ⟨rfl, hJ'⟩
    rw [hq.out]
    go_wp2
    have hi := idxOf_at hlt (fun j hj => HN.out j hj (by omega)) hq.out
    go_ret
    rw [hi]
    exact ⟨rfl, k + 1, by omega, fun h => by omega, hJ'⟩
   | false =>
    have hq := zH hq
    go_wp2_with fail
    refine hcall.out.mono ?_
    rintro e w' ⟨rfl, hJ'⟩
    rw [hq.out]
    go_wp2
    go_roundw
    case rel => exact ⟨k + 1, by omega, by go_num, fun j hj hl => if h : j = k then by subst h; exact hq.out else HN.out j (by omega) hl, hJ'⟩
    case measure => simp [intOf]; omega
  ·go_wp2
   have hi := idxOf_none (fun j hj => HN.out j (by omega) hj)
   go_ret
   rw [hi]
   exact ⟨rfl, k, hk, fun _ => by omega, hJk⟩
theorem containsFunc_ikey (S : Nat → Prop) (l : List IKey) (v : Value) (w : World) (g : FuncId) (cap : Array Value) (eg : ∀ args w, (callFunc g args).run Tryz.prog w = .ok (.enter g args) w) (p : IKey → Bool) (J : Nat → World → Prop) (hJ : ∀ i W, J i W → SL S W v l) (hw : J 0 w)
  (hp : PredJ g cap (fun _ u x => u = .agg #[.int .i64 x.frm, .int .i64 x.number]) p l J) :
  Calls Tryz.prog 139 #[v, .func (.func g) #[] cap] w fun e w' => e = .returned (.bool (l.any p)) ∧ ∃ k, k ≤ l.length ∧ (l.any p = false → k = l.length) ∧ J k w' := by
 have hc := indexFunc_ikey S l v w g cap eg p J hJ hw hp
 have HC := zH hc
 clear hc hp hJ eg
 go_enter Tryz.func139, Tryz.ntmps139
 go_wp2_with fail
 refine HC.out.mono ?_
 rintro e w' ⟨rfl, hk⟩
 have HK := zH hk
 clear hk
 go_wp2
 have hge := idxOf_ge p l
 go_ret
 obtain ⟨k, h1, h2, h3⟩ := HK.out
 refine ⟨by rw [← hge]; rfl, k, h1, fun h => h2 ?_, h3⟩
 rw [← hge, decide_eq_false_iff_not] at h
 unfold idxOf at h ⊢
 split <;> rename_i hh <;> simp [hh] at h ⊢
theorem allNot_ikey (l : List IKey) (g : FuncId) (cap : Array Value) (eg : ∀ args w, (callFunc g args).run Tryz.prog w = .ok (.enter g args) w) (p : IKey → Bool) (J : Nat → World → Prop) (X : Nat → Prop) (b : Nat) (hX : ¬ X b)
  (hJs : ∀ i W W', J i W → Step W W' → J i W') (hp : PredA g cap (fun _ u x => u = .agg #[.int .i64 x.frm, .int .i64 x.number]) p l J X) :
  PredJ 140 #[.pointer (some ⟨b, 0, none⟩)] (fun _ u x => u = .agg #[.int .i64 x.frm, .int .i64 x.number]) (fun x => !p x) l (fun i W => J i W ∧ W.cell? ⟨b, 0, none⟩ = some (.func (.func g) #[] cap)) := by
 intro i h W u ⟨hJ, hc⟩ hno hV
 have hb := World.block_lt_of_cell? W _ hc
 have hb' : b < W.heap.size := hb
 obtain rfl := hV
 have hcall := zH (hp i h (W.alloc (.cells #[.int .i64 l[i].frm, .int .i64 l[i].number] 172)) (.agg #[.int .i64 l[i].frm, .int .i64 l[i].number]) (hJs _ _ _ hJ (Step.alloc _ _)) (fun j hj => by simpa using hno j hj) rfl)
 show Calls Tryz.prog 140 #[(.agg #[.int .i64 l[i].frm, .int .i64 l[i].number]), .pointer (some ⟨b, 0, none⟩)] W _
 have HN := zH hno
 have HS := zH hJs
 clear hno hJs hp hJ hb
 go_enter Tryz.func140, Tryz.ntmps140
 go_wp2_with fail
 refine hcall.out.mono ?_
 rintro e w' ⟨rfl, hJ', hst⟩
 have hc' := hst.keeps.cell hX (a := ⟨b, 0, none⟩) (by rw [World.cell?_alloc_lt _ _ _ hb']; exact hc)
 go_wp2
 go_ret
 exact ⟨rfl, hJ', hc'⟩
theorem all_ikey (S : Nat → Prop) (l : List IKey) (v : Value) (w : World) (g : FuncId) (cap : Array Value) (eg : ∀ args w, (callFunc g args).run Tryz.prog w = .ok (.enter g args) w) (p : IKey → Bool) (J : Nat → World → Prop) (X : Nat → Prop)
  (hX : ∀ j, X j → j < w.heap.size) (hJ : ∀ i W, J i W → SL S W v l) (hJs : ∀ i W W', J i W → Step W W' → J i W') (hw : J 0 w) (hp : PredA g cap (fun _ u x => u = .agg #[.int .i64 x.frm, .int .i64 x.number]) p l J X) :
  Calls Tryz.prog 107 #[v, .func (.func g) #[] cap] w fun e w' => e = .returned (.bool (l.all p)) ∧ ∃ k, k ≤ l.length ∧ (l.all p = true → k = l.length) ∧ J k w' := by
 have hmf : ∀ (fn : Fn) (first cap : Array Value) (w : World), (Instr.makeFunc fn first cap).run Tryz.prog w = .ok (.func fn first cap) w := fun _ _ _ _ => rfl
 have hc := containsFunc_ikey S l v (w.alloc (.cells #[.func (.func g) #[] cap] 178)) 140 #[.pointer (some ⟨w.heap.size, 0, none⟩)] (Go.Proofs.enters_of Tryz.func140 (by kernel_rfl) rfl) (fun x => !p x)
  (fun i W => J i W ∧ W.cell? ⟨w.heap.size, 0, none⟩ = some (.func (.func g) #[] cap)) (fun i W h => hJ i W h.1) ⟨hJs _ _ _ hw (Step.alloc _ _), by rw [World.cell?_alloc_new]; rfl⟩
  (allNot_ikey l g cap eg p J X w.heap.size (fun h => by have := hX _ h; omega) hJs hp)
 have HC := zH hc
 clear hc hp hJ hJs hX eg
 go_enter Tryz.func107, Tryz.ntmps107
 go_wp2_with fail
 refine HC.out.mono ?_
 rintro e w' ⟨rfl, hk⟩
 have HK := zH hk
 clear hk
 have he : (l.any fun x => !p x) = !(l.all p) := by rw [List.not_all_eq_any_not]
 have HE := zH he
 clear he
 go_wp2
 go_ret
 obtain ⟨k, h1, h2, h3, _⟩ := HK.out
 rw [HE.out] at h2 ⊢
 exact ⟨by simp, k, h1, fun h => h2 (by simp [h]), h3⟩
theorem indexFunc_row (S : Nat → Prop) (l : List (List Int)) (v : Value) (w : World) (g : FuncId) (cap : Array Value) (eg : ∀ args w, (callFunc g args).run Tryz.prog w = .ok (.enter g args) w) (p : (List Int) → Bool) (J : Nat → World → Prop) (hJ : ∀ i W, J i W → SL S W v l) (hw : J 0 w)
  (hp : PredJ g cap (fun W u x => SL (fun _ => False) W u x) p l J) :
  Calls Tryz.prog 147 #[v, .func (.func g) #[] cap] w fun e w' => e = .returned (.int .i64 (idxOf p l)) ∧ ∃ k, k ≤ l.length ∧ (idxOf p l = -1 → k = l.length) ∧ J k w' := by
 obtain ⟨pv, cv, rfl⟩ := (hJ 0 w hw).form
 have hm := (hJ 0 w hw).len
 have Hp := zH hp
 have HJ := zH hJ
 clear hp hJ
 go_enter Tryz.func147, Tryz.ntmps147
 go_wp2
 go_loopw [8] (fun i wr => ∃ k : Nat, k ≤ l.length ∧ i = .int .i64 k ∧ (∀ j (hj : j < k) (hl : j < l.length), p l[j] = false) ∧ J k wr) (fun i _ => l.length - (intOf i).toNat)
 case atStart => exact ⟨0, Nat.zero_le _, rfl, fun j hj => absurd hj (by omega), hw⟩
 case round =>
  obtain ⟨k, hk, rfl, hno, hJk⟩ := hrel
  have HN := zH hno
  clear hno
  by_cases hlt : k < l.length
  ·obtain ⟨p', c', b, o, he, _, _, hpp, hc, _⟩ := (HJ.out k wr hJk).rows
   injection he with he1 he2 he3
   subst he1 he3
   obtain rfl := hpp (by omega)
   obtain ⟨u, e1, e2⟩ := hc k hlt
   clear hc hpp he2
   have hcall := zH (Hp.out k hlt wr u hJk (fun j hj => HN.out j hj (by omega)) (e2.weak fun _ _ h => h.elim))
   cases hq : p l[k] with
   | true =>
    have hq := zH hq
    go_wp2_with fail
    refine hcall.out.mono ?_
    rintro e w' ⟨rfl, hJ'⟩
    rw [hq.out]
    go_wp2
    have hi := idxOf_at hlt (fun j hj => HN.out j hj (by omega)) hq.out
    go_ret
    rw [hi]
    exact ⟨rfl, k + 1, by omega, fun h => by omega, hJ'⟩
   | false =>
    have hq := zH hq
    go_wp2_with fail
    refine hcall.out.mono ?_
    rintro e w' ⟨rfl, hJ'⟩
    rw [hq.out]
    go_wp2
    go_roundw
    case rel => exact ⟨k + 1, by omega, by go_num, fun j hj hl => if h : j = k then by subst h; exact hq.out else HN.out j (by omega) hl, hJ'⟩
    case measure => simp [intOf]; omega
  ·go_wp2
   have hi := idxOf_none (fun j hj => HN.out j (by omega) hj)
   go_ret
   rw [hi]
   exact ⟨rfl, k, hk, fun _ => by omega, hJk⟩
theorem containsFunc_row (S : Nat → Prop) (l : List (List Int)) (v : Value) (w : World) (g : FuncId) (cap : Array Value) (eg : ∀ args w, (callFunc g args).run Tryz.prog w = .ok (.enter g args) w) (p : (List Int) → Bool) (J : Nat → World → Prop) (hJ : ∀ i W, J i W → SL S W v l) (hw : J 0 w)
  (hp : PredJ g cap (fun W u x => SL (fun _ => False) W u x) p l J) :
  Calls Tryz.prog 128 #[v, .func (.func g) #[] cap] w fun e w' => e = .returned (.bool (l.any p)) ∧ ∃ k, k ≤ l.length ∧ (l.any p = false → k = l.length) ∧ J k w' := by
 have hc := indexFunc_row S l v w g cap eg p J hJ hw hp
 have HC := zH hc
 clear hc hp hJ eg
 go_enter Tryz.func128, Tryz.ntmps128
 go_wp2_with fail
 refine HC.out.mono ?_
 rintro e w' ⟨rfl, hk⟩
 have HK := zH hk
 clear hk
 go_wp2
 have hge := idxOf_ge p l
 go_ret
 obtain ⟨k, h1, h2, h3⟩ := HK.out
 refine ⟨by rw [← hge]; rfl, k, h1, fun h => h2 ?_, h3⟩
 rw [← hge, decide_eq_false_iff_not] at h
 unfold idxOf at h ⊢
 split <;> rename_i hh <;> simp [hh] at h ⊢
theorem allNot_row (l : List (List Int)) (g : FuncId) (cap : Array Value) (eg : ∀ args w, (callFunc g args).run Tryz.prog w = .ok (.enter g args) w) (p : (List Int) → Bool) (J : Nat → World → Prop) (X : Nat → Prop) (b : Nat) (hX : ¬ X b)
  (hJs : ∀ i W W', J i W → Step W W' → J i W') (hp : PredA g cap (fun W u x => SL (fun _ => False) W u x) p l J X) :
  PredJ 129 #[.pointer (some ⟨b, 0, none⟩)] (fun W u x => SL (fun _ => False) W u x) (fun x => !p x) l (fun i W => J i W ∧ W.cell? ⟨b, 0, none⟩ = some (.func (.func g) #[] cap)) := by
 intro i h W u ⟨hJ, hc⟩ hno hV
 have hb := World.block_lt_of_cell? W _ hc
 have hb' : b < W.heap.size := hb
 have hV' := hV
 have hcall := zH (hp i h W u (hJs _ _ _ hJ (Step.refl _)) (fun j hj => by simpa using hno j hj) hV)
 show Calls Tryz.prog 129 #[u, .pointer (some ⟨b, 0, none⟩)] W _
 have HN := zH hno
 have HS := zH hJs
 clear hno hJs hp hJ hb
 go_enter Tryz.func129, Tryz.ntmps129
 go_wp2_with fail
 refine hcall.out.mono ?_
 rintro e w' ⟨rfl, hJ', hst⟩
 have hc' := hst.keeps.cell hX (a := ⟨b, 0, none⟩) hc
 go_wp2
 go_ret
 exact ⟨rfl, hJ', hc'⟩
theorem all_row (S : Nat → Prop) (l : List (List Int)) (v : Value) (w : World) (g : FuncId) (cap : Array Value) (eg : ∀ args w, (callFunc g args).run Tryz.prog w = .ok (.enter g args) w) (p : (List Int) → Bool) (J : Nat → World → Prop) (X : Nat → Prop)
  (hX : ∀ j, X j → j < w.heap.size) (hJ : ∀ i W, J i W → SL S W v l) (hJs : ∀ i W W', J i W → Step W W' → J i W') (hw : J 0 w) (hp : PredA g cap (fun W u x => SL (fun _ => False) W u x) p l J X) :
  Calls Tryz.prog 86 #[v, .func (.func g) #[] cap] w fun e w' => e = .returned (.bool (l.all p)) ∧ ∃ k, k ≤ l.length ∧ (l.all p = true → k = l.length) ∧ J k w' := by
 have hmf : ∀ (fn : Fn) (first cap : Array Value) (w : World), (Instr.makeFunc fn first cap).run Tryz.prog w = .ok (.func fn first cap) w := fun _ _ _ _ => rfl
 have hc := containsFunc_row S l v (w.alloc (.cells #[.func (.func g) #[] cap] 152)) 129 #[.pointer (some ⟨w.heap.size, 0, none⟩)] (Go.Proofs.enters_of Tryz.func129 (by kernel_rfl) rfl) (fun x => !p x)
  (fun i W => J i W ∧ W.cell? ⟨w.heap.size, 0, none⟩ = some (.func (.func g) #[] cap)) (fun i W h => hJ i W h.1) ⟨hJs _ _ _ hw (Step.alloc _ _), by rw [World.cell?_alloc_new]; rfl⟩
  (allNot_row l g cap eg p J X w.heap.size (fun h => by have := hX _ h; omega) hJs hp)
 have HC := zH hc
 clear hc hp hJ hJs hX eg
 go_enter Tryz.func86, Tryz.ntmps86
 go_wp2_with fail
 refine HC.out.mono ?_
 rintro e w' ⟨rfl, hk⟩
 have HK := zH hk
 clear hk
 have he : (l.any fun x => !p x) = !(l.all p) := by rw [List.not_all_eq_any_not]
 have HE := zH he
 clear he
 go_wp2
 go_ret
 obtain ⟨k, h1, h2, h3, _⟩ := HK.out
 rw [HE.out] at h2 ⊢
 exact ⟨by simp, k, h1, fun h => h2 (by simp [h]), h3⟩
def withinB (n lo hi : Int) : Bool := decide (lo ≤ n ∧ n ≤ hi)
theorem ticket.within_any (n lo hi : Int) (w : World) : Calls Tryz.prog 53 #[.int .i64 n, .int .i64 lo, .int .i64 hi] w fun e w' => e = .returned (.bool (withinB n lo hi)) ∧ w = w' := by
 by_cases h1 : lo ≤ n
 ·go_enter Tryz.func53, Tryz.ntmps53
  go_wp2
  go_ret
  exact ⟨by simp [withinB, h1], rfl⟩
 ·have hd : decide (lo ≤ n) = false := by simpa using h1
  go_enter Tryz.func53, Tryz.ntmps53
  go_wp2
  go_ret
  exact ⟨by simp [withinB]; omega, rfl⟩
theorem bigtopref08.In_any (n lo hi : Int) (w : World) : Calls Tryz.prog 23 #[.int .i64 n, .int .i64 lo, .int .i64 hi] w fun e w' => e = .returned (.bool (withinB n lo hi)) ∧ w = w' := by
 by_cases h1 : lo ≤ n
 ·go_enter Tryz.func23, Tryz.ntmps23
  go_wp2
  go_ret
  exact ⟨by simp [withinB, h1], rfl⟩
 ·have hd : decide (lo ≤ n) = false := by simpa using h1
  go_enter Tryz.func23, Tryz.ntmps23
  go_wp2
  go_ret
  exact ⟨by simp [withinB]; omega, rfl⟩
theorem every1_any (n lo hi : Int) (b c : Nat) (w : World) (h1 : w.cell? ⟨b, 0, none⟩ = some (.int .i64 lo)) (h2 : w.cell? ⟨c, 0, none⟩ = some (.int .i64 hi)) :
  Calls Tryz.prog 127 #[.int .i64 n, .pointer (some ⟨b, 0, none⟩), .pointer (some ⟨c, 0, none⟩)] w fun e w' => e = .returned (.bool (withinB n lo hi)) ∧ w = w' := by
 go_enter Tryz.func127, Tryz.ntmps127
 go_wp2_with fail
 refine (ticket.within_any _ _ _ _).mono ?_
 rintro e w' ⟨rfl, rfl⟩
 go_wp2
 go_ret
 exact ⟨rfl, rfl⟩
theorem every_any (S : Nat → Prop) (l : List Int) (v : Value) (lo hi : Int) (w : World) (h : SL S w v l) :
  Calls Tryz.prog 84 #[v, .int .i64 lo, .int .i64 hi] w fun e w' => e = .returned (.bool (l.all fun n => withinB n lo hi)) ∧ Step w w' := by
 have hmf : ∀ (fn : Fn) (first cap : Array Value) (w : World), (Instr.makeFunc fn first cap).run Tryz.prog w = .ok (.func fn first cap) w := fun _ _ _ _ => rfl
 have hs : Step w ((w.alloc (.cells #[.int .i64 lo] 3)).alloc (.cells #[.int .i64 hi] 3)) := (Step.alloc _ _).trans (Step.alloc _ _)
 have b1 := (Bx.new w [.int .i64 lo] 3).alloc (.cells #[.int .i64 hi] 3)
 have b2 : Bx ((w.alloc (.cells #[.int .i64 lo] 3)).alloc (.cells #[.int .i64 hi] 3)) (w.heap.size + 1) [.int .i64 hi] 3 := by
  have := Bx.new (w.alloc (.cells #[.int .i64 lo] 3)) [.int .i64 hi] 3
  simpa using this
 have hc := all_int S l v ((w.alloc (.cells #[.int .i64 lo] 3)).alloc (.cells #[.int .i64 hi] 3)) 127 #[.pointer (some ⟨w.heap.size, 0, none⟩), .pointer (some ⟨w.heap.size + 1, 0, none⟩)]
  (Go.Proofs.enters_of Tryz.func127 (by kernel_rfl) rfl) (fun n => withinB n lo hi) (fun _ W => Step ((w.alloc (.cells #[.int .i64 lo] 3)).alloc (.cells #[.int .i64 hi] 3)) W) (fun _ => False) (fun _ h => h.elim)
  (fun _ W hW => h.keep (.of_step (hs.trans hW))) (fun _ _ _ h1 h2 => h1.trans h2) (Step.refl _) (fun i hi W u hW _ hu => by
   subst hu
   refine (every1_any l[i] lo _ w.heap.size (w.heap.size + 1) W ((b1.step hW).cell 0) ((b2.step hW).cell 0)).mono ?_
   rintro e w' ⟨rfl, rfl⟩
   exact ⟨rfl, hW, Step.refl _⟩)
 have HC := zH hc
 clear hc b1 b2
 go_enter Tryz.func84, Tryz.ntmps84
 go_wp2_with fail
 refine HC.out.mono ?_
 rintro e w' ⟨rfl, hk⟩
 have HK := zH hk
 clear hk
 go_wp2
 go_ret
 obtain ⟨k, _, _, h3⟩ := HK.out
 exact ⟨rfl, hs.trans h3⟩
def sizeL (l : List Sector) : Int := (l.map (·.seats)).sum
def classL : List Sector → Int → Int
 | [], _ => 0
 | s :: l, n => if n < s.seats then s.cls else classL l (n - s.seats)
def okSec (l : List Sector) : Prop := l.length ≤ 1000 ∧ ∀ i (h : i < l.length), 0 ≤ l[i].seats ∧ l[i].seats ≤ 1000
theorem sizeL_take {l : List Sector} {k : Nat} (h : k < l.length) : sizeL (l.take (k + 1)) = sizeL (l.take k) + l[k].seats := by
 unfold sizeL
 rw [List.take_succ_eq_append_getElem h, List.map_append, List.sum_append]
 simp only [List.map_cons, List.map_nil, List.sum_cons, List.sum_nil, Int.add_zero]
theorem sizeL_bound {l : List Sector} (h : okSec l) : ∀ k, k ≤ l.length → 0 ≤ sizeL (l.take k) ∧ sizeL (l.take k) ≤ 1000 * k
 | 0, _ => by simp [sizeL]
 | k + 1, hk => by
  have := sizeL_bound h k (by omega)
  have h2 := h.2 k (by omega)
  rw [sizeL_take (by omega)]
  omega
theorem size_any (S : Nat → Prop) (h : House) (v : Value) (w : World) (hv : AV S w v h) (hf : okSec h.sectors) :
  Calls Tryz.prog 54 #[v] w fun e w' => e = .returned (.int .i64 (sizeL h.sectors)) ∧ Step w w' := by
 obtain ⟨c0, c1, c2, c3, c4, rfl, h0, h1, h2, h3, h4⟩ := hv.house
 obtain ⟨p0, k0, rfl⟩ := h0.form
 obtain ⟨p1, k1, rfl⟩ := h1.form
 obtain ⟨p2, k2, rfl⟩ := h2.form
 obtain ⟨p3, k3, rfl⟩ := h3.form
 obtain ⟨p4, k4, rfl⟩ := h4.form
 obtain ⟨p', c', b, o, he, _, hm, hp, hc, hb⟩ := h0.sectors
 injection he with he1 he2 he3
 subst he1 he3
 have HF := zH hf
 have HC := zH hc
 have HP := zH hp
 have HB := zH hb
 clear hv h0 h1 h2 h3 h4 hf hc hp hb he2
 go_enter Tryz.func54, Tryz.ntmps54
 go_wp2
 go_loopw [2, 8] (fun s i wr => ∃ k : Nat, k ≤ h.sectors.length ∧ i = .int .i64 k ∧ s = .int .i64 (sizeL (h.sectors.take k)) ∧ Below w.heap.size w wr) (fun _ i _ => h.sectors.length - (intOf i).toNat)
 case atStart => exact ⟨0, Nat.zero_le _, rfl, rfl, (Below.refl _ w).alloc (Nat.le_refl _) _⟩
 case round =>
  obtain ⟨k, hk, rfl, rfl, hB⟩ := hrel
  by_cases hlt : k < h.sectors.length
  ·obtain rfl := HP.out (by omega)
   obtain ⟨e1, e2⟩ := HC.out k hlt
   have hbb := (HB.out (by omega)).1
   have e1 := (hB.cell (p := ⟨b, o + k * 2, none⟩) hbb).trans e1
   have e2 := (hB.cell (p := ⟨b, o + k * 2 + 1, none⟩) hbb).trans e2
   have hx : (0 : Int) ≤ (k : Int) ∧ (k : Int) < (h.sectors.length : Int) := by omega
   have hsb := sizeL_bound HF.out k hk
   have hsk := HF.out.2 k hlt
   have hk1000 := HF.out.1
   go_wp2
   go_roundw
   case rel => exact ⟨k + 1, by omega, by go_num, by rw [sizeL_take hlt], by first | exact (hB.alloc hB.size _) | exact (hB.alloc hB.size _).setCell (by simp [hB.size]) _⟩
   case measure => simp [intOf]; omega
  ·go_wp2
   have hkl : h.sectors.take k = h.sectors := List.take_of_length_le (by omega)
   go_ret
   rw [hkl]
   exact ⟨rfl, .of hB⟩
theorem classL_step {l : List Sector} {k : Nat} {n : Int} (h : k < l.length) (hn : ¬ n < l[k].seats) : classL (l.drop k) n = classL (l.drop (k + 1)) (n - l[k].seats) := by
 rw [List.drop_eq_getElem_cons h]; simp only [classL, hn, if_false]
theorem classL_hit {l : List Sector} {k : Nat} {n : Int} (h : k < l.length) (hn : n < l[k].seats) : classL (l.drop k) n = l[k].cls := by
 rw [List.drop_eq_getElem_cons h]; simp only [classL, hn, if_true]
theorem class_any (S : Nat → Prop) (h : House) (v : Value) (n : Int) (w : World) (hv : AV S w v h) (hf : okSec h.sectors) (hn : 0 ≤ n ∧ n ≤ 1000000000) :
  Calls Tryz.prog 81 #[v, .int .i64 n] w fun e w' => e = .returned (.int .i64 (classL h.sectors n)) ∧ Step w w' := by
 obtain ⟨c0, c1, c2, c3, c4, rfl, h0, h1, h2, h3, h4⟩ := hv.house
 obtain ⟨p0, k0, rfl⟩ := h0.form
 obtain ⟨p1, k1, rfl⟩ := h1.form
 obtain ⟨p2, k2, rfl⟩ := h2.form
 obtain ⟨p3, k3, rfl⟩ := h3.form
 obtain ⟨p4, k4, rfl⟩ := h4.form
 obtain ⟨p', c', b, o, he, _, hm, hp, hc, hb⟩ := h0.sectors
 injection he with he1 he2 he3
 subst he1 he3
 have HF := zH hf
 have HC := zH hc
 have HP := zH hp
 have HB := zH hb
 clear hv h0 h1 h2 h3 h4 hf hc hp hb he2
 go_enter Tryz.func81, Tryz.ntmps81
 go_wp2
 go_loopw [1, 10] (fun s i wr => ∃ (k : Nat) (m : Int), k ≤ h.sectors.length ∧ i = .int .i64 k ∧ s = .int .i64 m ∧ 0 ≤ m ∧ m ≤ n ∧ classL (h.sectors.drop k) m = classL h.sectors n ∧ Below w.heap.size w wr) (fun _ i _ => h.sectors.length - (intOf i).toNat)
 case atStart => exact ⟨0, n, Nat.zero_le _, rfl, rfl, hn.1, Int.le_refl _, rfl, (Below.refl _ w).alloc (Nat.le_refl _) _⟩
 case round =>
  obtain ⟨k, m, hk, rfl, rfl, hm0, hmn, hcl, hB⟩ := hrel
  have HCL := zH hcl
  clear hcl
  by_cases hlt : k < h.sectors.length
  ·obtain rfl := HP.out (by omega)
   obtain ⟨e1, e2⟩ := HC.out k hlt
   have hbb := (HB.out (by omega)).1
   have e1 := (hB.cell (p := ⟨b, o + k * 2, none⟩) hbb).trans e1
   have e2 := (hB.cell (p := ⟨b, o + k * 2 + 1, none⟩) hbb).trans e2
   have hx : (0 : Int) ≤ (k : Int) ∧ (k : Int) < (h.sectors.length : Int) := by omega
   have hsk := HF.out.2 k hlt
   have hk1000 := HF.out.1
   by_cases hs : m < h.sectors[k].seats
   ·go_wp2
    have hh := HCL.out
    rw [classL_hit hlt hs] at hh
    go_ret
    rw [← hh]
    exact ⟨rfl, .of (hB.alloc hB.size _)⟩
   ·go_wp2
    go_roundw
    case rel => exact ⟨k + 1, _, by omega, by go_num, rfl, by omega, by omega, by rw [← classL_step hlt hs]; exact HCL.out, hB.alloc hB.size _⟩
    case measure => simp [intOf]; omega
  ·go_wp2
   have hkl : h.sectors.drop k = [] := List.drop_eq_nil_of_le (by omega)
   have hcl := HCL.out
   rw [hkl] at hcl
   go_ret
   rw [← hcl]
   exact ⟨rfl, .of hB⟩
theorem agencies_any (S : Nat → Prop) (h : House) (v : Value) (w : World) (hv : AV S w v h) (hf : 0 < h.frm.length) :
  Calls Tryz.prog 44 #[v] w fun e w' => e = .returned (.int .i64 (h.frm[0]'hf).length) ∧ Step w w' := by
 obtain ⟨c0, c1, c2, c3, c4, rfl, h0, h1, h2, h3, h4⟩ := hv.house
 obtain ⟨p0, k0, rfl⟩ := h0.form
 obtain ⟨p1, k1, rfl⟩ := h1.form
 obtain ⟨p2, k2, rfl⟩ := h2.form
 obtain ⟨p3, k3, rfl⟩ := h3.form
 obtain ⟨p4, k4, rfl⟩ := h4.form
 obtain ⟨p', c', b, o, he, _, hm, hp, hc, hb⟩ := h3.rows
 injection he with he1 he2 he3
 subst he1 he3
 obtain rfl := hp hf
 obtain ⟨u, e1, hu⟩ := hc 0 hf
 have hbb := (hb hf).1
 obtain ⟨q, r, rfl⟩ := hu.form
 have e1 : w.cell? ⟨b, o, none⟩ = some (.slice q (h.frm[0]'hf).length r) := by simpa using e1
 have e1 := ((Below.refl w.heap.size w).alloc (Nat.le_refl _) (.cells #[.slice p0 h.sectors.length k0, .slice p1 h.prices.length k1, .slice p2 h.dates.length k2, .slice (some ⟨b, o, none⟩) h.frm.length k3, .slice p4 h.holds.length k4] 41)).cell (p := ⟨b, o, none⟩) hbb |>.trans e1
 have hx : (0 : Int) < (h.frm.length : Int) := by omega
 clear hv h0 h1 h2 h3 h4 hc hp hb he2 hu
 go_enter Tryz.func44, Tryz.ntmps44
 go_wp2
 go_ret
 exact ⟨rfl, Step.alloc _ _⟩
theorem price_any (S : Nat → Prop) (h : House) (v : Value) (n : Int) (w : World) (hv : AV S w v h) (hf : okSec h.sectors) (hn : 0 ≤ n ∧ n ≤ 1000000000) (k : Nat) (hkc : classL h.sectors n = k) (hk : k < h.prices.length) :
  Calls Tryz.prog 116 #[v, .int .i64 n] w fun e w' => e = .returned (.int .i64 h.prices[k]) ∧ Step w w' := by
 obtain ⟨c0, c1, c2, c3, c4, rfl, h0, h1, h2, h3, h4⟩ := hv.house
 obtain ⟨p0, k0, rfl⟩ := h0.form
 obtain ⟨p1, k1, rfl⟩ := h1.form
 obtain ⟨p2, k2, rfl⟩ := h2.form
 obtain ⟨p3, k3, rfl⟩ := h3.form
 obtain ⟨p4, k4, rfl⟩ := h4.form
 obtain ⟨p', c', b, o, he, _, hm, hp, hc, hb⟩ := h1.ints
 injection he with he1 he2 he3
 subst he1 he3
 obtain rfl := hp (by omega)
 have e1 := hc k hk
 have hbb := (hb (by omega)).1
 have hB := (Below.refl w.heap.size w).alloc (Nat.le_refl _) (.cells #[.slice p0 h.sectors.length k0, .slice (some ⟨b, o, none⟩) h.prices.length k1, .slice p2 h.dates.length k2, .slice p3 h.frm.length k3, .slice p4 h.holds.length k4] 41)
 have hcall := fun W (hW : Step w W) => class_any S h _ n W (hv.keep (.of_step hW)) hf hn
 have HCALL := zH hcall
 have hx : (0 : Int) ≤ (k : Int) ∧ (k : Int) < (h.prices.length : Int) := by omega
 have HX := zH hkc
 clear hv h0 h1 h2 h3 h4 hc hp hb he2 hcall hkc
 go_enter Tryz.func116, Tryz.ntmps116
 go_upto_region 1 with fail
 refine wp_region_seq (kdOf [4] []) [0, 1, 0, 0, 12, 31, 63, 127] [0, 1, 2, 3, 4, 5, 6, 7] [] (by kernel_rfl) (by kernel_rfl) (fun i T z hi hk => by simp [kdOf] at hk <;> (try (split at hk <;> cases hk))) ?_
 intro W0 hW0
 repeat ((refine run_want rfl rfl (by rfl) ⟨?_, fun W hW => ?_, ?_⟩; rotate_left; (· (have d1 := (hW0.trans hW).kc ((hB.cell (p := ⟨b, o + k, none⟩) hbb).trans e1); obtain ⟨hc'', hf''⟩ := (hW0.trans hW).cells; go_simp; (try with_reducible rfl)))); (try simp only [Act.put, zA, zB, zC]))
 refine run_chain rfl rfl (by rfl) (fun W1 hW1 K' hK => ?_)
 go_simp
 have hst : Step w W1 := ((Step.alloc w _).trans hW0).trans hW1
 refine (HCALL.out W1 hst).mono ?_
 rintro e w1 ⟨rfl, hS1⟩
 rw [HX.out]
 refine hK _ _ hS1 ?_
 (try simp only [Act.put, zA, zB, zC])
 have e1 := (hst.trans hS1).kc e1
 repeat ((refine run_want rfl rfl (by rfl) ⟨?_, fun W hW => ?_, ?_⟩; rotate_left; (· (have d1 := hW.kc e1; obtain ⟨hc'', hf''⟩ := hW.cells; go_simp; (try with_reducible rfl)))); (try simp only [Act.put, zA, zB, zC]))
 refine run_end (L := []) rfl (fun W6 hW6 => ?_)
 have hst := (hst.trans hS1).trans hW6
 clear hW0 hW1 hS1 hW6
 go_wp2
 go_ret
 exact ⟨rfl, hst⟩
def Rises (l : List Int) (k : Nat) : Prop := ∀ i (h : i + 1 < k) (h' : i + 1 < l.length), l[i] < l[i + 1]
instance (l : List Int) (k : Nat) : Decidable (Rises l k) := decidable_of_iff (∀ i, i < k → ∀ (h' : i + 1 < l.length), i + 1 < k → l[i] < l[i + 1]) ⟨fun h i hi hl => h i (by omega) hl hi, fun h i _ hl hk => h i hk hl⟩
def risesB (l : List Int) : Bool := decide (Rises l l.length)
theorem rises_any (S : Nat → Prop) (l : List Int) (v : Value) (w : World) (h : SL S w v l) :
  Calls Tryz.prog 85 #[v] w fun e w' => e = .returned (.bool (risesB l)) ∧ Step w w' := by
 obtain ⟨p, c, b, o, rfl, _, hm, hp, hc, h0⟩ := h.ints
 have HC := zH hc
 have HP := zH hp
 have HB := zH h0
 clear h hc hp h0
 go_enter Tryz.func85, Tryz.ntmps85
 go_wp2
 go_loopw [6] (fun i wr => ∃ k : Nat, k ≤ l.length ∧ i = .int .i64 k ∧ Rises l k ∧ Step w wr) (fun i _ => l.length - (intOf i).toNat)
 case atStart => exact ⟨0, Nat.zero_le _, rfl, fun i h => absurd h (by omega), Step.refl _⟩
 case round =>
  obtain ⟨k, hk, rfl, hr, hB⟩ := hrel
  have HR := zH hr
  clear hr
  by_cases hlt : k < l.length
  ·obtain rfl := HP.out (by omega)
   have hbb := (HB.out (by omega)).1
   by_cases hk0 : 0 < k
   ·have e1 := hB.kc (HC.out k hlt)
    have e2 := hB.kc (HC.out (k - 1) (by omega))
    have hx : (0 : Int) ≤ (k : Int) ∧ (k : Int) < (l.length : Int) := by omega
    have hx2 : (0 : Int) ≤ ((k : Int) - 1) ∧ ((k : Int) - 1) < (l.length : Int) := by omega
    have hd : decide ((0 : Int) < (k : Int)) = true := by simpa using hk0
    have ht : ((k : Int) - 1).toNat = k - 1 := by omega
    by_cases hle : l[k] ≤ l[k - 1]
    ·have hld : decide (l[k] ≤ l[k - 1]) = true := decide_eq_true hle
     go_wp2
     go_quiet (fail)
     go_wp2
     have hn : risesB l = false := by
      unfold risesB
      rw [decide_eq_false_iff_not]
      intro hR
      have := hR (k - 1) (by omega) (by omega)
      have e : k - 1 + 1 = k := by omega
      simp only [e] at this
      omega
     go_ret
     rw [hn]
     exact ⟨rfl, hB.s_drewN _⟩
    ·have hld : decide (l[k] ≤ l[k - 1]) = false := decide_eq_false hle
     go_wp2
     go_quiet (fail)
     go_wp2
     go_roundw
     case rel => exact ⟨k + 1, by omega, by go_num, fun i hi hl => by
      by_cases h : i + 1 = k
      ·subst h; simp only [Nat.add_sub_cancel] at hle; omega
      ·exact HR.out i (by omega) hl, hB.s_drewN _⟩
     case measure => simp [intOf]; omega
   ·have hd : decide ((0 : Int) < (k : Int)) = false := by simp; omega
    go_wp2
    go_quiet (fail)
    go_wp2
    go_roundw
    case rel => exact ⟨k + 1, by omega, by go_num, fun i hi hl => by omega, hB.s_drewN _⟩
    case measure => simp [intOf]; omega
  ·go_wp2
   have hn : risesB l = true := by
    unfold risesB
    rw [decide_eq_true_eq]
    intro i hi hl
    exact HR.out i (by omega) hl
   go_ret
   rw [hn]
   exact ⟨rfl, hB⟩
theorem cells5 {w : World} {g : Nat} {c0 c1 c2 c3 c4 : Value} {T : TypeId} (h : Bx w g [c0, c1, c2, c3, c4] T) :
  w.cell? ⟨g, 0, none⟩ = some c0 ∧ w.cell? ⟨g, 1, none⟩ = some c1 ∧ w.cell? ⟨g, 2, none⟩ = some c2 ∧ w.cell? ⟨g, 3, none⟩ = some c3 ∧ w.cell? ⟨g, 4, none⟩ = some c4 :=
 ⟨h.cell 0, h.cell 1, h.cell 2, h.cell 3, h.cell 4⟩
def secB (h : House) (x : Sector) : Bool := withinB x.cls 0 (h.prices.length - 1) && withinB x.seats 1 50
theorem valid1_any (S : Nat → Prop) (h : House) (x : Sector) (g : Nat) (v : Value) (w : World) (hc : w.cell? ⟨g, 1, none⟩ = some v) (hv : SL S w v h.prices) :
  Calls Tryz.prog 82 #[.agg #[.int .i64 x.cls, .int .i64 x.seats], .pointer (some ⟨g, 0, none⟩)] w fun e w' => e = .returned (.bool (secB h x)) ∧ Step w w' := by
 obtain ⟨p1, k1, rfl⟩ := hv.form
 have hlen := hv.len
 clear hv
 have hc := ((Keeps.alloc (S := fun _ => False) w (.cells #[.int .i64 x.cls, .int .i64 x.seats] 117)).cell id hc)
 cases h1 : withinB x.cls 0 (h.prices.length - 1) with
 | true =>
  go_enter Tryz.func82, Tryz.ntmps82
  go_wp2_with fail
  refine (ticket.within_any _ _ _ _).mono ?_
  rintro e w' ⟨rfl, rfl⟩
  rw [h1]
  go_wp2_with fail
  refine (ticket.within_any _ _ _ _).mono ?_
  rintro e w' ⟨rfl, rfl⟩
  go_wp2
  go_ret
  exact ⟨by simp [secB, h1], Step.alloc _ _⟩
 | false =>
  go_enter Tryz.func82, Tryz.ntmps82
  go_wp2_with fail
  refine (ticket.within_any _ _ _ _).mono ?_
  rintro e w' ⟨rfl, rfl⟩
  rw [h1]
  go_wp2
  go_ret
  exact ⟨by simp [secB, h1], Step.alloc _ _⟩
def fromB (n : Nat) (l : List Int) : Bool := decide (l.length = n) && l.all fun x => withinB x 0 1000
theorem valid2_any (S : Nat → Prop) (h : House) (l : List Int) (u : Value) (g : Nat) (c0 c1 c2 c3 c4 : Value) (w : World) (hb : Bx w g [c0, c1, c2, c3, c4] 41) (hr : Rep.rep S w [c0, c1, c2, c3, c4] h) (hu : SL S w u l) (hf : 0 < h.frm.length) :
  Calls Tryz.prog 87 #[u, .pointer (some ⟨g, 0, none⟩)] w fun e w' => e = .returned (.bool (fromB (h.frm[0]'hf).length l)) ∧ Step w w' := by
 obtain ⟨e0, e1, e2, e3, e4⟩ := cells5 hb
 obtain ⟨p1, k1, rfl⟩ := hu.form
 have hcall := zH (agencies_any S h (.agg #[c0, c1, c2, c3, c4]) w ⟨_, rfl, hr⟩ hf)
 have HU := zH hu
 have HR := zH hr
 clear hu hr hb
 by_cases h1 : l.length = (h.frm[0]'hf).length
 ·have hd : ((l.length : Int) == ((h.frm[0]'hf).length : Int)) = true := by simp [h1]
  have H1 := zH h1
  clear h1
  go_enter Tryz.func87, Tryz.ntmps87
  go_wp2_with fail
  refine hcall.out.mono ?_
  rintro e w' ⟨rfl, hS⟩
  have hcall2 := zH (every_any S l _ 0 1000 w' (HU.out.keep (.of_step hS)))
  go_wp2_with fail
  refine hcall2.out.mono ?_
  rintro e w'' ⟨rfl, hS2⟩
  go_wp2
  go_ret
  refine ⟨?_, hS.trans hS2⟩
  simp only [fromB, H1.out, decide_true, Bool.true_and]
  rfl
 ·have hd : ((l.length : Int) == ((h.frm[0]'hf).length : Int)) = false := by simp; omega
  have H1 := zH h1
  clear h1
  go_enter Tryz.func87, Tryz.ntmps87
  go_wp2_with fail
  refine hcall.out.mono ?_
  rintro e w' ⟨rfl, hS⟩
  go_wp2
  go_ret
  refine ⟨?_, hS⟩
  simp only [fromB, H1.out, decide_false, Bool.false_and]
  rfl
def holdsB (z : Int) (n : Nat) (l : List Int) : Bool := decide ((l.length : Int) = z) && l.all fun x => withinB x 0 (n - 1)
theorem valid3_any (S : Nat → Prop) (h : House) (l : List Int) (u : Value) (g : Nat) (c0 c1 c2 c3 c4 : Value) (w : World) (hb : Bx w g [c0, c1, c2, c3, c4] 41) (hr : Rep.rep S w [c0, c1, c2, c3, c4] h) (hu : SL S w u l) (hf : 0 < h.frm.length) (hs : okSec h.sectors) (hz : (h.frm[0]'hf).length ≤ 1000000) :
  Calls Tryz.prog 88 #[u, .pointer (some ⟨g, 0, none⟩)] w fun e w' => e = .returned (.bool (holdsB (sizeL h.sectors) (h.frm[0]'hf).length l)) ∧ Step w w' := by
 obtain ⟨p1, k1, rfl⟩ := hu.form
 have hcall := zH (size_any S h (.agg #[c0, c1, c2, c3, c4]) w ⟨_, rfl, hr⟩ hs)
 have HU := zH hu
 have HR := zH hr
 have HBX := zH hb
 obtain ⟨e0, e1, e2, e3, e4⟩ := cells5 hb
 clear hu hr hb
 by_cases h1 : (l.length : Int) = sizeL h.sectors
 ·have hd : ((l.length : Int) == sizeL h.sectors) = true := by simp [h1]
  have H1 := zH h1
  clear h1
  go_enter Tryz.func88, Tryz.ntmps88
  go_wp2_with fail
  refine hcall.out.mono ?_
  rintro e w' ⟨rfl, hS⟩
  obtain ⟨e0, e1, e2, e3, e4⟩ := cells5 (HBX.out.step hS)
  have hcall1 := zH (agencies_any S h (.agg #[c0, c1, c2, c3, c4]) w' ⟨_, rfl, Rep.keep (.of_step hS) HR.out⟩ hf)
  go_wp2_with fail
  refine hcall1.out.mono ?_
  rintro e w'' ⟨rfl, hS2⟩
  have hcall2 := zH (every_any S l (.slice p1 l.length k1) 0 ((h.frm[0]'hf).length - 1) w'' (HU.out.keep (.of_step (hS.trans hS2))))
  go_wp2_with fail
  refine hcall2.out.mono ?_
  rintro e w3 ⟨rfl, hS3⟩
  go_wp2
  go_ret
  refine ⟨?_, (hS.trans hS2).trans hS3⟩
  simp only [holdsB, H1.out, decide_true, Bool.true_and]
  rfl
 ·have hd : ((l.length : Int) == sizeL h.sectors) = false := by simp [h1]
  have H1 := zH h1
  clear h1
  go_enter Tryz.func88, Tryz.ntmps88
  go_wp2_with fail
  refine hcall.out.mono ?_
  rintro e w' ⟨rfl, hS⟩
  go_wp2
  go_ret
  refine ⟨?_, hS⟩
  simp only [holdsB, H1.out, decide_false, Bool.false_and]
  rfl
end Go.Proofs.YtgpiieogiafdoaaGreat
namespace Go.BT
open Go.RowKit
def FW (ro : Option Nat) : Fence := { Fence.wide with round := ro }
@[simp] theorem FW_round (ro : Option Nat) : (FW ro).round = ro := rfl
@[simp] theorem FW_depth (ro : Option Nat) : (FW ro).depth = none := rfl
@[simp] theorem FW_fn (ro : Option Nat) (f : FuncId) : (FW ro).fn f = True := rfl
@[simp] theorem FW_inRound (ro : Option Nat) (l : Nat) : (FW ro).inRound l = FW (some l) := rfl
@[simp] theorem semAt_FW (ρ : Operand → Value) (o : Oper) : Oper.semAt none ρ o = execOp ρ o := rfl
theorem callsIn_FW {ro : Option Nat} {n : Nat} {P : Program} {f : FuncId} {args : Array Value} {w : World} {R : Ending → World → Prop} (h : Calls P f args w R) : CallsIn (FW ro) n P f args w R := by
 have h' : CallsIn Fence.wide n P f args w R := callsIn_wide.2 h
 cases ro with
 | none => exact h'
 | some l => exact CallsIn.inRound l h'
theorem rowsIn_FW {ro : Option Nat} {n : Nat} {P : Program} {row : String} {args : Array Value} {w : World} {R : Value → World → Prop} (h : Rows P row args w R) : RowsIn (FW ro) n P row args w R := fun c cs _ => by
 obtain ⟨v, w', r, s⟩ := h c cs
 exact ⟨v, w', r, (StepsIn.of_steps s).mono fun m _ => fenced_wide P m⟩
section
variable {P : Program} {ops : Array Oper} {X : Nat → Prop} {base : Nat} {kd : Nat → Kd} {ro : Option Nat} {n : Nat}
def noDefer (ops : Array Oper) : Bool := ops.all fun o => match o.op with
 | .defer _ => false
 | _ => true
theorem wpOpIn_of (hnd : noDefer ops = true) {Q : Exit → Act → World → Prop} {j : Nat} {K : Act → World → Prop} {a : Act} {w : World} (h : wpOp P ops QF j K a w) : wpOpIn (FW ro) n P ops Q j K a w := by
 unfold wpOp at h
 unfold wpOpIn
 cases ho : ops[j]? with
 | none => simp only [ho] at h; exact h
 | some o =>
  simp only [ho] at h ⊢
  have hd : ∀ c, o.op ≠ .defer c := fun c hc => by
   have := Array.all_eq_true'.1 hnd o (Array.mem_of_getElem? ho)
   simp [hc] at this
  have hsem : o.semAt (FW ro).round a.eval = execOp a.eval o := by
   unfold Oper.semAt
   cases ro with
   | none => rfl
   | some l =>
    show (match some l, o.op with | some l, .defer c => _ | _, _ => _) = _
    split
    ·rename_i c _ hc; exact (hd _ hc).elim
    ·rfl
  split
  ·rename_i hw
   simp only [hw, if_true] at h
   rcases h with h | ⟨_, a0, w0, hF⟩
   case inr => exact hF.elim
   unfold Oper.wp at h
   refine ⟨fun f _ => trivial, ?_⟩
   rw [hsem]
   generalize (execOp a.eval o).run P w = r at *
   cases r with
   | ok x w' =>
    cases x <;> simp only [Oper.upon, Oper.uponIn] at h ⊢ <;> first
     | exact h
     | exact ⟨fun hs => absurd hs (by simp [FW, Fence.wide]), callsIn_FW (Calls.mono h fun e w'' he => by cases e <;> first | exact he | exact he.elim | (obtain ⟨_, _, hF⟩ := he; exact hF.elim))⟩
     | exact ⟨fun hs => absurd hs (by simp [FW, Fence.wide]), rowsIn_FW h⟩
   | halt x w' => cases x <;> simp only [Oper.upon] at h <;> exact h.elim
  ·rename_i hw
   simp only [hw] at h
   exact ⟨fun f _ => trivial, h⟩
def K0I (P : Program) (ops : Array Oper) (X : Nat → Prop) (ro : Option Nat) (n : Nat) (Q : Exit → Act → World → Prop) (t : List Nat) : Cont := fun _ a w => ∀ W, StepX X w W → wpOpsIn (FW ro) n P ops Q t a W
theorem K0I_mono {Q : Exit → Act → World → Prop} (t : List Nat) : ContMono X (K0I P ops X ro n Q t) := fun _ _ _ _ _ _ hs h W hW => h W (hs.trans hW)
variable {tab : List Nat}
theorem tail_soundI {Q : Exit → Act → World → Prop} : ∀ (fuel : Nat) (t : List Nat) (listed : Array Bool) (a : Act) (w : World),
  t.length ≤ fuel → listed.size = ops.size → (∀ i, i < ops.size → (listed.getD i true = false ↔ i ∈ t)) → (∀ i ∈ t, i < ops.size) → t.Nodup → Closed ops listed →
  okTab tab ops = true → TailOk tab [] t → DepsOk ops listed t → wpOpsIn (FW ro) n P ops Q t a w → wpAnyIn (FW ro) n P .any ops Q fuel listed a w := by
 intro fuel
 induction fuel with
 | zero =>
  intro t listed a w hf hsz hun hin hnd hcl htab htail hdeps h
  have ht : t = [] := List.eq_nil_of_length_eq_zero (by omega)
  subst ht
  refine ⟨?_, by simpa [wpOpsIn] using h⟩
  rw [List.eq_nil_iff_forall_not_mem]
  intro j hj
  obtain ⟨h0, o, ho, _⟩ := mem_ready.1 hj
  have := (hun j (Array.getElem?_eq_some_iff.1 ho).1).1 h0
  simp at this
 | succ fuel ih =>
  intro t listed a w hf hsz hun hin hnd hcl htab htail hdeps h
  refine ⟨fun hr => ?_, fun j hj => ?_⟩
  ·cases t with
   | nil => simpa [wpOpsIn] using h
   | cons x L =>
    exfalso
    obtain ⟨o, ho, hh⟩ := hdeps [] x L rfl
    have hx : x ∈ Region.ready .any ops listed := mem_ready.2 ⟨(hun x (hin x (by simp))).2 (by simp), o, ho, fun e he hb => (hh e he hb).resolve_right (by simp)⟩
    rw [hr] at hx; cases hx
  ·obtain ⟨h0, oj, hoj, hdj⟩ := mem_ready.1 hj
   have hjlt := (Array.getElem?_eq_some_iff.1 hoj).1
   have hjsz : j < listed.size := by omega
   obtain ⟨t1, t2, rfl⟩ := List.append_of_mem ((hun j hjlt).1 h0)
   have ht1 : t1 = [] := by
    rw [List.eq_nil_iff_forall_not_mem]
    intro i hi
    have h1 := anc_listed hsz hcl htab j i oj hoj hdj (htail t1 j t2 rfl i (by simp [hi]))
    have h2 := (hun i (hin i (by simp [hi]))).2 (by simp [hi])
    rw [getD_tf (by rw [hsz]; exact hin i (by simp [hi])), h1] at h2
    cases h2
   subst ht1
   rw [List.nil_append, wpOpsIn_cons] at h
   refine wpOpIn_mono (fun a' w' hk => ?_) h
   have hnd' := nodup_mid hnd
   refine ih t2 _ a' w' (by simp at hf; omega) (by simp [hsz]) (by have := unlisted_drop (L1 := []) (L2 := t2) hjsz hun hnd; simpa using this) (fun i hi => hin i (by simp [hi])) (by simpa using hnd'.2)
    (closed_set hjsz hoj hdj hcl) htab (fun u1 x u2 he y hy => htail (j :: u1) x u2 (by simp [he]) y (by simp at hy ⊢; exact .inr hy)) (by have := depsOk_drop (L1 := []) (L2 := t2) hjsz hdeps; simpa using this) hk
theorem seq_soundI (hX : ∀ j, X j → j < base) {Q : Exit → Act → World → Prop} (hdf : noDefer ops = true) (hsel : Region.noSelect ops = true) : ∀ (fuel : Nat) (l t : List Nat) (listed : Array Bool) (N : Nat → Prop) (a : Act) (w : World),
  l.length + t.length ≤ fuel → listed.size = ops.size → (∀ i, i < ops.size → (listed.getD i true = false ↔ i ∈ l ++ t)) → (∀ i ∈ l ++ t, i < ops.size) → (l ++ t).Nodup → Closed ops listed →
  okTab tab ops = true → okList tab ops kd l = true → (∀ y ∈ l, ∀ x ∈ t, ancB tab y x = true) → TailOk tab [] t → DepsOk ops listed (l ++ t) → okAlloc ops kd l = true → (∀ i T z, i ∈ l → kd i = .alloc T z → Makes P ops i T z) →
  (∀ g, w.heap.size ≤ g → N g) → base ≤ w.heap.size → run P ops X base kd l (K0I P ops X ro n Q t) N a w → wpAnyIn (FW ro) n P .any ops Q fuel listed a w := by
 intro fuel
 induction fuel with
 | zero =>
  intro l t listed N a w hf hsz hun hin hnd hcl htab _ _ htail hdeps _ _ _ _ h
  have hl : l = [] := List.eq_nil_of_length_eq_zero (by omega)
  subst hl
  exact tail_soundI 0 t listed a w (by simpa using hf) hsz hun hin hnd hcl htab htail hdeps (h w (StepX.refl _ w))
 | succ fuel ih =>
  intro l t listed N a w hf hsz hun hin hnd hcl htab hlist hwait htail hdeps halloc hz hN hbase h
  by_cases hl : l = []
  ·subst hl
   exact tail_soundI _ t listed a w (by simpa using hf) hsz hun hin hnd hcl htab htail hdeps (h w (StepX.refl _ w))
  refine ⟨fun hr => ?_, fun j hj => ?_⟩
  ·-- nothing may come up: but something is left
   exfalso
   cases l with
   | nil => exact hl rfl
   | cons x L =>
    obtain ⟨o, ho, hh⟩ := hdeps [] x (L ++ t) (by simp)
    have hx : x ∈ Region.ready .any ops listed := mem_ready.2 ⟨(hun x (hin x (by simp))).2 (by simp), o, ho, fun e he hb => (hh e he hb).resolve_right (by simp)⟩
    rw [hr] at hx; cases hx
  ·obtain ⟨h0, oj, hoj, hdj⟩ := mem_ready.1 hj
   have hjlt := (Array.getElem?_eq_some_iff.1 hoj).1
   have hjsz : j < listed.size := by omega
   have hjm := (hun j hjlt).1 h0
   have hcl' := closed_set hjsz hoj hdj hcl
   have notanc : ∀ i ∈ l ++ t, ancB tab i j = true → False := fun i hi ha => by
    have h1 := anc_listed hsz hcl htab j i oj hoj hdj ha
    have h2 := (hun i (hin i hi)).2 hi
    rw [getD_tf (by rw [hsz]; exact hin i hi), h1] at h2
    cases h2
   rcases List.mem_append.1 hjm with hjl | hjt
   ·-- one of the first part
    obtain ⟨l1, l2, rfl⟩ := List.append_of_mem hjl
    obtain ⟨hlist', hpair⟩ := okList_drop hlist
    have hall : ∀ i ∈ l1, ∃ oi, ops[i]? = some oi ∧ oi.apart ops oj = true ∧ swaps (kd i) (kd j) = true := fun i hi => by
     have hp := hpair i hi
     simp only [okPair, Bool.or_eq_true] at hp
     rcases hp with hp | hp
     ·exact (notanc i (by simp [hi]) hp).elim
     ·cases hoi : ops[i]? with
      | none => simp [hoi] at hp
      | some oi =>
       simp only [hoi, hoj, Bool.and_eq_true] at hp
       exact ⟨oi, rfl, hp.1, hp.2⟩
    have hb := bring hX (K0I_mono t) hsel hoj l1 l2 N a w hall h
    have he : (l1 ++ j :: l2) ++ t = l1 ++ j :: (l2 ++ t) := by simp
    have next : ∀ (N' : Nat → Prop) (a' : Act) (w' : World), (∀ g, w'.heap.size ≤ g → N' g) → w.heap.size ≤ w'.heap.size → run P ops X base kd (l1 ++ l2) (K0I P ops X ro n Q t) N' a' w' → wpAnyIn (FW ro) n P .any ops Q fuel (listed.setIfInBounds j true) a' w' :=
     fun N' a' w' hN' hsz' hr => ih (l1 ++ l2) t _ N' a' w' (by simp at hf ⊢; omega) (by simp [hsz]) (by have := unlisted_drop (L1 := l1) (L2 := l2 ++ t) hjsz (by rw [← he]; exact hun) (by rw [← he]; exact hnd); simpa using this)
      (fun i hi => hin i (by simp only [List.mem_append, List.mem_cons] at hi ⊢; rcases hi with (hi | hi) | hi <;> simp [hi]))
      (by have := (nodup_mid (by rw [← he]; exact hnd)).2; simpa using this) hcl' htab hlist' (fun y hy x hx => hwait y (by simp only [List.mem_append, List.mem_cons] at hy ⊢; rcases hy with hy | hy <;> simp [hy]) x hx) htail
      (by have := depsOk_drop (L1 := l1) (L2 := l2 ++ t) hjsz (by rw [← he]; exact hdeps); simpa using this)
      (by simp only [okAlloc, List.all_eq_true, List.mem_append, List.mem_cons] at halloc ⊢; exact fun x hx => halloc x (hx.elim .inl (fun h => .inr (.inr h))))
      (fun i T z hi => hz i T z (by simp only [List.mem_append, List.mem_cons] at hi ⊢; rcases hi with hi | hi <;> simp [hi])) hN' (by omega) hr
    cases hk : kd j with
    | silent =>
     simp only [go, hk] at hb
     obtain ⟨o, v, ho, hy, hr⟩ := hb
     exact wpOpIn_of hdf (hy.wpOp (Q := QF) ho (StepX.refl _ w) (next N _ w hN (Nat.le_refl _) hr))
    | chain =>
     simp only [go, hk] at hb
     exact wpOpIn_of hdf (wpOp_mono (fun a' w' ⟨hs, hr⟩ => next _ a' w' (fun g hg => ⟨hN g (Nat.le_trans hs.size hg), .inr hg⟩) hs.size hr) (hb w (StepX.refl _ w)))
    | alloc T z =>
     simp only [go, hk] at hb
     have hal := halloc
     simp only [okAlloc, List.all_eq_true] at hal
     have hal := hal j (by simp)
     simp only [hk, hoj, Bool.and_eq_true] at hal
     obtain ⟨hg, hop⟩ := hal
     refine wpOpIn_of hdf (wpOp_alloc (Q := QF) hoj hop (by simpa using hg) (hz j T z (by simp) hk) ?_)
     have hd : (ops[j]?).bind (·.dst) = oj.dst := by rw [hoj]; rfl
     rw [hd] at hb
     exact next _ _ _ (fun g hgg => ⟨hN g (by simp at hgg; omega), by simp at hgg; omega⟩) (by simp) (hb (w.alloc (.cells (madeC z) T)) w.heap.size (.of (Step.alloc _ _)) (heap_alloc_new w _) hbase (hN _ (Nat.le_refl _)))
   ·exfalso
    obtain ⟨t1, t2, rfl⟩ := List.append_of_mem hjt
    cases l with
    | nil => exact hl rfl
    | cons x L => exact notanc x (by simp) (hwait x (by simp) j (by simp))
theorem wpIn_region_seq {id : Nat} {Q : Exit → Act → World → Prop} {a : Act} {w : World} (X : Nat → Prop) (hX : ∀ j, X j → j < w.heap.size) (kd : Nat → Kd) (tab l t : List Nat) (hm : P.follows .mixedOrders = true) (hdf : noDefer ops = true) (hok : okSeq true tab ops kd l t = true)
  (hz : ∀ i T z, i ∈ l → kd i = .alloc T z → Makes P ops i T z)
  (h : ∀ W, StepX X w W → run P ops X w.heap.size kd l (K0I P ops X ro n Q t) (fun _ => True) a W) : (Code.region id ops true).wpIn (FW ro) n P Q a w := by
 simp only [okSeq, Bool.and_eq_true, List.all_eq_true, decide_eq_true_eq, List.mem_range, List.contains_iff_mem] at hok
 obtain ⟨⟨⟨⟨⟨⟨⟨⟨⟨h0, h1⟩, h9⟩, h2⟩, h3⟩, h4⟩, h5⟩, h6⟩, h7⟩, h8⟩ := hok
 refine wpIn_region_any hm ?_
 refine seq_soundI (base := w.heap.size) (kd := kd) hX hdf h5 ops.size l t _ (fun _ => True) a w.drew ?_ (by simp) ?_ h7 h8 ?_ h0 h1 (fun y hy x hx => by have := h9 y hy x hx; simpa [okWait] using this) (tailOk_of h2) ?_ h4 hz (fun _ _ => trivial) (by simp) (h w.drew (.of (Step.drew w)))
 ·-- no more than the region has
  have hsub : (l ++ t).length ≤ (List.range ops.size).length := h8.length_le_of_subset (fun i hi => List.mem_range.2 (h7 i hi))
  simpa using hsub
 ·intro i hi
  simp only [Array.getD_eq_getD_getElem?, Array.getElem?_replicate, hi, if_true, Option.getD_some, true_iff]
  exact h6 i hi
 ·intro x o ho hx
  have hlt := (Array.getElem?_eq_some_iff.1 ho).1
  simp [hlt] at hx
 ·intro L1 x L2 he
  obtain ⟨o, ho, hh⟩ := depsOk_of (listed := Array.replicate ops.size false) h3 L1 x L2 he
  exact ⟨o, ho, by simpa using hh⟩
theorem runI_end {N : Nat → Prop} {a : Act} {w : World} {Q : Exit → Act → World → Prop} {t : List Nat} {L : List Oper} (ht : t.map (fun i => ops.toList[i]?) = L.map some) (h : ∀ W, StepX X w W → wpListIn (FW ro) n P ops Q L a W) : run P ops X base kd [] (K0I P ops X ro n Q t) N a w := by
 intro W hW
 have h' := h W hW
 clear h hW
 show wpOpsIn (FW ro) n P ops Q t a W
 induction t generalizing L a W with
 | nil =>
  cases L with
  | nil => exact h'
  | cons _ _ => simp at ht
 | cons x t ih =>
  cases L with
  | nil => simp at ht
  | cons o L =>
   simp only [List.map_cons, List.cons.injEq, Array.getElem?_toList] at ht
   rw [wpOpsIn_cons]
   unfold wpOpIn
   unfold wpListIn at h'
   simp only [ht.1]
   split
   ·rename_i hw
    rw [if_pos hw] at h'
    exact Oper.wpIn_mono (fun a' w' hh => ih (by simpa using ht.2) w' hh) h'
   ·rename_i hw
    rw [if_neg hw] at h'
    exact ⟨h'.1, ih (by simpa using ht.2) W h'.2⟩
end
section
variable {α : Type} [Rep α] {S : Nat → Prop} {base : Nat} {P : Program} {w : World} {v u : Value} {l m : List α} {t e : TypeId} {z : Value} {bytes : Nat} {ro : Option Nat} {nn : Nat}
theorem wplI_append {ops : Array Oper} {rest : List Oper} {o : Oper} {a : Act} {Q : Exit → Act → World → Prop} (ei : EI P t e z (Rep.k α) bytes) (hgd : o.guard = none) (s x : Operand)
  (ho : o.op = .call { callee := .builtin .append, args := #[s, x], argTypes := #[t, t] }) (hs : a.eval s = v) (hx : a.eval x = u) (hown : OwnL S base e w v l) (hu : SLe (avoid S v) w u m)
  (n : Nat) (hn : l.length + m.length = n) (lm : List α) (hlm : l ++ m = lm) (h63 : n ≤ maxLen) (hbytes : n * bytes ≤ 140737488355328) (hbase : base ≤ w.heap.size)
  (h : ∀ p c w', OwnL S base e w' (.slice p n c) lm → w.grownBy w' v.ownBlock → wpListIn (FW ro) nn P ops Q rest (a.put o.dst (.slice p n c)) w') : wpListIn (FW ro) nn P ops Q (o :: rest) a w := by
 obtain ⟨p, c, w', hr, h2, h3⟩ := run_append_L ei o.type hown hu n hn lm hlm h63 hbytes hbase
 have hw : Region.wanted o (yielded ops a.tmps) = true := by simp [Region.wanted, hgd]
 have hsem : o.semAt (FW ro).round a.eval = execOp a.eval o := by
  unfold Oper.semAt
  cases ro with
  | none => rfl
  | some l => simp [ho]
 unfold wpListIn
 rw [if_pos hw]
 refine ⟨fun f _ => trivial, ?_⟩
 rw [hsem]
 unfold execOp
 simp only [ho, resolve, invoke, builtin, Sem.run_bind, Sem.run_pure, Result.andThen_ok, List.map_toArray, List.map_cons, List.map_nil, hs, hx, hr]
 exact h p c w' h2 h3
end
end Go.BT
namespace Go.Proofs.YtgpiieogiafdoaaGreat
set_option linter.unusedSimpArgs false
set_option linter.unusedVariables false
open Go.RowKit Go.BT
attribute [local go_sem] Oper.semAt_some
def manyN : Nat := 1000000
theorem manyN_eq : manyN = 1000000 := rfl
attribute [irreducible] manyN
def ofB (h : House) (c : Int) (k : Nat) : List Nat := (List.range k).filter fun i => decide (classL h.sectors i = c)
def ofL (h : House) (c : Int) : List Nat := ofB h c (sizeL h.sectors).toNat
theorem ofB_hit {h : House} {c : Int} {k : Nat} (hk : classL h.sectors k = c) : ofB h c (k + 1) = ofB h c k ++ [k] := by
 simp [ofB, List.range_succ, List.filter_append, hk]
theorem ofB_miss {h : House} {c : Int} {k : Nat} (hk : ¬ classL h.sectors k = c) : ofB h c (k + 1) = ofB h c k := by
 simp [ofB, List.range_succ, List.filter_append, hk]
theorem ofB_pre {h : House} {c : Int} {k m : Nat} (hk : k ≤ m) : ofB h c k <+: ofB h c m := by
 obtain ⟨d, rfl⟩ : ∃ d, m = k + d := ⟨m - k, by omega⟩
 unfold ofB
 rw [List.range_add, List.filter_append]
 exact List.prefix_append _ _
theorem ofB_len (h : House) (c : Int) (k : Nat) : (ofB h c k).length ≤ k := by
 have := List.length_filter_le (fun i : Nat => decide (classL h.sectors i = c)) (List.range k)
 simpa [ofB] using this
abbrev SeatNo (h : House) := { k : Nat // (k : Int) < sizeL h.sectors }
theorem abides_step {β : Type} {B : Nat} {J : β → World → Prop} (hJ : AbidesFrom B J) {s : β} {W W' : World} (h : J s W) (hs : Step W W') : J s W' :=
 hJ s W W' none h ⟨hs.os, hs.tape, hs.output, hs.size, fun j hj _ => hs.block j hj id⟩ (fun r e => by cases e)
theorem of1_stops (n : Nat) (hn : 1 ≤ n) (S X : Nat → Prop) (h : House) (c : Int) (gh gc : Nat) (c0 c1 c2 c3 c4 : Value) (w : World) (hb : Bx w gh [c0, c1, c2, c3, c4] 41) (hr : Rep.rep S w [c0, c1, c2, c3, c4] h) (hc : w.cell? ⟨gc, 0, none⟩ = some (.int .i64 c))
  (hXh : ¬ X gh) (hXc : ¬ X gc) (hXS : ∀ j, X j → S j) (hok : okSec h.sectors) (hsz : sizeL h.sectors ≤ 1000) :
  SeqStopsK (FW none) n Tryz.prog 111 #[.pointer (some ⟨gh, 0, none⟩), .pointer (some ⟨gc, 0, none⟩)] (fun i : SeatNo h => #[.int .i64 i.1]) (fun W W' => StepX X W W') (fun xs => xs.map (·.1) = ofL h c) (fun pre => pre.map (·.1) <+: ofL h c) manyN w := by
 intro l J Jx W hW hJ hJx hY h0
 have hS := Step.of hW
 have HB := zH (hb.step hS)
 have HR := zH (Rep.keep (.of_step hS) hr)
 have HC := zH (hS.kc hc)
 have HY := zH hY
 have HJ := zH hJ
 have HX := zH (And.intro hXh (And.intro hXc hXS))
 have hbd := sizeL_bound hok h.sectors.length (Nat.le_refl _)
 rw [List.take_length] at hbd
 have HOK := zH hok
 have hsz0 := hbd.1
 clear hb hr hc hW hS hY hJ hJx hXh hXc hXS hbd hok
 refine callsIn_of_wp Tryz.func111 rfl trivial ?_ rfl
 simp only [Tryz.ntmps111, List.size_toArray, List.length_cons, List.length_nil, Nat.reduceAdd, Nat.reduceSub, Array.replicate_succ, Array.replicate_zero, List.push_toArray, List.append_toArray, List.nil_append, List.cons_append]
 obtain ⟨e0, e1, e2, e3, e4⟩ := cells5 HB.out
 gi_wp2_with fail
 refine (callsIn_FW (size_any S h _ W ⟨_, rfl, HR.out⟩ HOK.out)).mono ?_
 rintro e w1 ⟨rfl, hS1⟩
 have h1 := abides_step HJ.out h0 hS1
 have HS1 := zH hS1
 obtain ⟨z, hz⟩ : ∃ z : Nat, sizeL h.sectors = z := ⟨(sizeL h.sectors).toNat, by omega⟩
 rw [hz]
 have HZ := zH hz
 have hz1000 : z ≤ 1000 := by omega
 clear hS1 h0 hsz hsz0 hz
 gi_wp2
 gi_loopw [7] (fun i wr => ∃ k : Nat, k ≤ z ∧ i = .int .i64 k ∧ (∃ pre : List (SeatNo h), pre.map (·.1) = ofB h c k ∧ J pre wr) ∧ StepX X W wr) (fun i _ => z - (intOf i).toNat)
 case atStart => exact ⟨0, Nat.zero_le _, rfl, ⟨[], rfl, h1⟩, .of HS1.out⟩
 case round =>
  obtain ⟨k, hk, rfl, ⟨pre, hpre, hJk⟩, hX⟩ := hrel
  have HPRE := zH hpre
  have HJK := zH hJk
  have HT := zH hX
  have HTR := zH hX
  clear hJk hX h1 hpre
  by_cases hlt : k < z
  ·have hb := HB.out.keep HT.out.keeps HX.out.1
   have hr := Rep.keep (HT.out.keeps.mono fun j _ hj => HX.out.2.2 j hj) HR.out
   have hcc := HT.out.keeps.cell (a := ⟨gc, 0, none⟩) HX.out.2.1 HC.out
   have HB2 := zH hb
   have HR2 := zH hr
   have HC2 := zH hcc
   clear hb hr hcc
   have hcl := zH (fun W1 (hS : Step wr W1) => class_any S h (.agg #[c0, c1, c2, c3, c4]) k W1 ⟨_, rfl, Rep.keep (.of_step hS) HR2.out⟩ HOK.out (by omega))
   gi_wp2_with fail
   refine wpIn_region_seq (fun _ => False) (fun _ h => h.elim) (kdOf [2] []) [0, 0, 3, 0, 15, 31, 63, 63, 255, 511, 1023] [0, 1, 3, 2, 4, 5, 6, 7] [8, 9, 10] (by kernel_rfl) (by kernel_rfl) (by kernel_rfl) (fun i T z hi hk => by simp [kdOf] at hk <;> (try (split at hk <;> cases hk))) ?_
   intro Wx hWx
   have HT := zH hWx
   clear hWx
   obtain ⟨e0, e1, e2, e3, e4⟩ := cells5 (HB2.out.step HT.out)
   have e5 := HT.out.kc HC2.out
   repeat ((first | (refine run_off rfl rfl (by rfl) ?_) | (refine run_chain_off rfl rfl (by rfl) (K0_mono _) ?_) | ((refine run_want rfl rfl (by rfl) ⟨?_, fun W hW => ?_, ?_⟩; rotate_left; (· (have d0 := hW.kc e0; have d1 := hW.kc e1; have d2 := hW.kc e2; have d3 := hW.kc e3; have d4 := hW.kc e4; have d5 := hW.kc e5; go_simp; (try with_reducible rfl)))))); (try simp only [Act.put, zA, zB, zC]))
   refine run_chain rfl rfl (by rfl) (fun Wi hWi K' hK => ?_)
   have HTi := zH (HT.out.trans hWi)
   have HZW := zH HTi.out.size
   clear hWi HT
   go_simp
   refine (hcl.out Wi HTi.out).mono ?_
   rintro e wn ⟨rfl, hSn⟩
   have HT := zH (HTi.out.trans (StepX.of hSn))
   clear HTi
   refine hK _ _ (StepX.of hSn) ?_
   clear hSn
   (try simp only [Act.put, zA, zB, zC])
   clear hcl e0 e1 e2 e3 e4
   have e5 := HT.out.kc HC2.out
   by_cases q : classL h.sectors k = c
   ·have hd : (classL h.sectors (k : Int) == c) = true := by simp [q]
    have Q := zH q
    clear q
    repeat ((first | (refine run_off rfl rfl (by rfl) ?_) | (refine run_chain_off rfl rfl (by rfl) (K0_mono _) ?_) | ((refine run_want rfl rfl (by rfl) ⟨?_, fun W hW => ?_, ?_⟩; rotate_left; (· (have d0 := hW.kc e5; go_simp; (try with_reducible rfl)))))); (try simp only [Act.put, zA, zB, zC]))
    refine runI_end (L := [_, _, _]) rfl (fun W6 hW6 => ?_)
    have HT6 := zH (HT.out.trans hW6)
    have hJ6 := abides_step HJ.out HJK.out HT6.out
    obtain ⟨fn, tmps, assign, body, hy, hR⟩ := HY.out pre ⟨k, by rw [HZ.out]; omega⟩ W6 hJ6 (by rw [manyN_eq]; have := ofB_len h c k; have h9 := congrArg List.length HPRE.out; rw [List.length_map] at h9; omega)
    dsimp only at hy
    clear hW6 hJ6 e5 hd
    gi_wp2_with fail
    refine hR.mono ?_
    rintro e W7 (⟨rfl, hJ7, hX7⟩ | ⟨rfl, hJx7⟩)
    ·have HJ7 := zH hJ7
     have HX7 := zH ((HTR.out.trans (.of HT6.out)).trans hX7)
     clear hJ7 hX7 hy hR
     gi_wp2
     go_roundw
     case rel => exact ⟨k + 1, by omega, by go_num, ⟨_, by rw [ofB_hit Q.out, List.map_append, HPRE.out]; rfl, HJ7.out⟩, HX7.out⟩
     case measure => simp [intOf]; omega
    ·clear hy hR
     gi_wp2
     refine bodyPost_ret (results_none rfl _ _ _) rfl ?_
     refine ⟨⟨_, rfl⟩, .inr ⟨_, ?_, hJx7⟩⟩
     rw [List.map_append, HPRE.out]
     show ofB h c k ++ [k] <+: _
     rw [← ofB_hit Q.out]
     exact ofB_pre (by rw [HZ.out]; simp; omega)
   ·have hd : (classL h.sectors (k : Int) == c) = false := by simp [q]
    have Q := zH q
    clear q
    repeat ((first | (refine run_off rfl rfl (by rfl) ?_) | (refine run_chain_off rfl rfl (by rfl) (K0_mono _) ?_) | ((refine run_want rfl rfl (by rfl) ⟨?_, fun W hW => ?_, ?_⟩; rotate_left; (· (have d0 := hW.kc e5; go_simp; (try with_reducible rfl)))))); (try simp only [Act.put, zA, zB, zC]))
    refine runI_end (L := [_, _, _]) rfl (fun W6 hW6 => ?_)
    have HT6 := zH (HT.out.trans hW6)
    have HX7 := zH (HTR.out.trans (.of HT6.out))
    have HJ7 := zH (abides_step HJ.out HJK.out HT6.out)
    clear hW6 e5 hd
    gi_wp2
    go_roundw
    case rel => exact ⟨k + 1, by omega, by go_num, ⟨_, by rw [ofB_miss Q.out, HPRE.out], HJ7.out⟩, HX7.out⟩
    case measure => simp [intOf]; omega
  ·gi_wp2
   go_end0
   have hkz : k = z := by omega
   refine ⟨⟨_, rfl⟩, .inl ⟨_, ?_, HJK.out⟩⟩
   rw [HPRE.out]
   show ofB h c k = ofB h c (sizeL h.sectors).toNat
   rw [HZ.out, hkz, Int.toNat_natCast]
end Go.Proofs.YtgpiieogiafdoaaGreat
namespace Go.Proofs.YtgpiieogiafdoaaGreat
set_option linter.unusedSimpArgs false
set_option linter.unusedVariables false
open Go.RowKit Go.BT
def agN (h : House) : Nat := (h.frm.headD []).length
theorem head_len {l : List (List Int)} (hf : 0 < l.length) : (l[0]'hf).length = (l.headD []).length := by
 cases l with
 | nil => simp at hf
 | cons a l => simp
theorem agN_eq {h : House} (hf : 0 < h.frm.length) : (h.frm[0]'hf).length = agN h := head_len hf
def validA (h : House) : Bool := withinB h.dates.length 1 6 && decide (h.frm.length = h.dates.length) && decide (h.holds.length = h.dates.length) && withinB (agN h) 1 6
def validB (h : House) : Bool := withinB h.sectors.length 1 10 && h.sectors.all (secB h) && decide (sizeL h.sectors ≤ 100) && withinB h.prices.length 1 5 && (h.prices.all fun x => withinB x 0 10000) && (h.dates.all fun x => withinB x 0 1000) && risesB h.dates && (h.frm.all (fromB (agN h))) && (h.holds.all (holdsB (sizeL h.sectors) (agN h)))
def valid (h : House) : Bool := validA h && validB h
theorem okSec_of {h : House} (h1 : withinB h.sectors.length 1 10 = true) (h2 : h.sectors.all (secB h) = true) : okSec h.sectors := by
 simp [withinB] at h1
 refine ⟨by omega, fun i hi => ?_⟩
 have := List.all_eq_true.1 h2 _ (List.getElem_mem hi)
 simp [secB, withinB] at this
 omega
theorem agN_of {h : House} (h1 : withinB (agN h) 1 6 = true) : 1 ≤ agN h ∧ agN h ≤ 6 := by
 simp [withinB] at h1; omega
theorem frm_pos {h : House} (h1 : withinB h.dates.length 1 6 = true) (h2 : h.frm.length = h.dates.length) : 0 < h.frm.length := by
 simp [withinB] at h1; omega
theorem rep_prices {S : Nat → Prop} {w : World} {c0 c1 c2 c3 c4 : Value} {h : House} (hr : Rep.rep S w [c0, c1, c2, c3, c4] h) : SL S w c1 h.prices := by
 obtain ⟨_, _, _, _, _, he, h0, h1, h2, h3, h4⟩ := hr
 injection he with he0 he
 injection he with he1 he
 subst he1; exact h1
theorem rep_dates {S : Nat → Prop} {w : World} {c0 c1 c2 c3 c4 : Value} {h : House} (hr : Rep.rep S w [c0, c1, c2, c3, c4] h) : SL S w c2 h.dates := by
 obtain ⟨_, _, _, _, _, he, h0, h1, h2, h3, h4⟩ := hr
 injection he with he0 he
 injection he with he1 he
 injection he with he2 he
 subst he2; exact h2
theorem secs_any (h : House) (c0 c1 c2 c3 c4 : Value) (g : Nat) (S : Nat → Prop) (w : World) (hb : Bx w g [c0, c1, c2, c3, c4] 41) (hr : Rep.rep S w [c0, c1, c2, c3, c4] h) :
  Calls Tryz.prog 83 #[c0, .func (.func 82) #[] #[.pointer (some ⟨g, 0, none⟩)]] w fun e w' => e = .returned (.bool (h.sectors.all (secB h))) ∧ Step w w' := by
 obtain ⟨_, _, _, _, _, he, h0, h1, h2, h3, h4⟩ := hr
 injection he with he0 he
 injection he with he1 he
 subst he0 he1
 clear he
 refine (all_sector S h.sectors c0 w 82 #[.pointer (some ⟨g, 0, none⟩)] (Go.Proofs.enters_of Tryz.func82 (by kernel_rfl) rfl) (secB h) (fun _ W => Step w W) (fun _ => False) (fun _ h => h.elim)
  (fun _ W hW => h0.keep (.of_step hW)) (fun _ _ _ h1 h2 => h1.trans h2) (Step.refl _) (fun i hi W u hW _ hu => ?_)).mono ?_
 ·subst hu
  refine (valid1_any S h h.sectors[i] g c1 W ((hb.step hW).cell 1) (h1.keep (.of_step hW))).mono ?_
  rintro e w' ⟨rfl, hS⟩
  exact ⟨rfl, hW.trans hS, hS⟩
 ·rintro e w' ⟨rfl, k, _, _, hS⟩
  exact ⟨rfl, hS⟩
theorem froms_any (h : House) (c0 c1 c2 c3 c4 : Value) (g : Nat) (S : Nat → Prop) (w : World) (hb : Bx w g [c0, c1, c2, c3, c4] 41) (hr : Rep.rep S w [c0, c1, c2, c3, c4] h) (hf : 0 < h.frm.length) :
  Calls Tryz.prog 86 #[c3, .func (.func 87) #[] #[.pointer (some ⟨g, 0, none⟩)]] w fun e w' => e = .returned (.bool (h.frm.all (fromB (agN h)))) ∧ Step w w' := by
 have hr0 := hr
 obtain ⟨_, _, _, _, _, he, h0, h1, h2, h3, h4⟩ := hr
 injection he with he0 he
 injection he with he1 he
 injection he with he2 he
 injection he with he3 he
 subst he0 he1 he2 he3
 clear he
 refine (all_row S h.frm c3 w 87 #[.pointer (some ⟨g, 0, none⟩)] (Go.Proofs.enters_of Tryz.func87 (by kernel_rfl) rfl) (fromB (agN h)) (fun _ W => Step w W) (fun _ => False) (fun _ h => h.elim)
  (fun _ W hW => h3.keep (.of_step hW)) (fun _ _ _ h1 h2 => h1.trans h2) (Step.refl _) (fun i hi W u hW _ hu => ?_)).mono ?_
 ·have hc := valid2_any (fun _ => False) h h.frm[i] u g _ _ _ _ _ W (hb.step hW) (Rep.weak (fun _ _ h => h.elim) (Rep.keep (.of_step hW) hr0)) hu hf
  rw [agN_eq hf] at hc
  refine hc.mono ?_
  rintro e w' ⟨rfl, hS⟩
  exact ⟨rfl, hW.trans hS, hS⟩
 ·rintro e w' ⟨rfl, k, _, _, hS⟩
  exact ⟨rfl, hS⟩
theorem holds_any (h : House) (c0 c1 c2 c3 c4 : Value) (g : Nat) (S : Nat → Prop) (w : World) (hb : Bx w g [c0, c1, c2, c3, c4] 41) (hr : Rep.rep S w [c0, c1, c2, c3, c4] h) (hf : 0 < h.frm.length) (hs : okSec h.sectors) (hz : agN h ≤ 6) :
  Calls Tryz.prog 86 #[c4, .func (.func 88) #[] #[.pointer (some ⟨g, 0, none⟩)]] w fun e w' => e = .returned (.bool (h.holds.all (holdsB (sizeL h.sectors) (agN h)))) ∧ Step w w' := by
 have hr0 := hr
 obtain ⟨_, _, _, _, _, he, h0, h1, h2, h3, h4⟩ := hr
 injection he with he0 he
 injection he with he1 he
 injection he with he2 he
 injection he with he3 he
 injection he with he4 he
 subst he0 he1 he2 he3 he4
 clear he
 refine (all_row S h.holds c4 w 88 #[.pointer (some ⟨g, 0, none⟩)] (Go.Proofs.enters_of Tryz.func88 (by kernel_rfl) rfl) (holdsB (sizeL h.sectors) (agN h)) (fun _ W => Step w W) (fun _ => False) (fun _ h => h.elim)
  (fun _ W hW => h4.keep (.of_step hW)) (fun _ _ _ h1 h2 => h1.trans h2) (Step.refl _) (fun i hi W u hW _ hu => ?_)).mono ?_
 ·have hc := valid3_any (fun _ => False) h h.holds[i] u g _ _ _ _ _ W (hb.step hW) (Rep.weak (fun _ _ h => h.elim) (Rep.keep (.of_step hW) hr0)) hu hf hs (by rw [agN_eq hf]; omega)
  rw [agN_eq hf] at hc
  refine hc.mono ?_
  rintro e w' ⟨rfl, hS⟩
  exact ⟨rfl, hW.trans hS, hS⟩
 ·rintro e w' ⟨rfl, k, _, _, hS⟩
  exact ⟨rfl, hS⟩
theorem valid_any (S : Nat → Prop) (h : House) (v : Value) (w : World) (hv : AV S w v h) :
  Calls Tryz.prog 43 #[v] w fun e w' => e = .returned (.bool (valid h)) ∧ Step w w' := by
 obtain ⟨cs, rfl, hr⟩ := hv
 have hr0 := hr
 obtain ⟨c0, c1, c2, c3, c4, rfl, h0, h1, h2, h3, h4⟩ := hr
 obtain ⟨p0, k0, rfl⟩ := h0.form
 obtain ⟨p1, k1, rfl⟩ := h1.form
 obtain ⟨p2, k2, rfl⟩ := h2.form
 obtain ⟨p3, k3, rfl⟩ := h3.form
 obtain ⟨p4, k4, rfl⟩ := h4.form
 have hmf : ∀ (fn : Fn) (first cap : Array Value) (w : World), (Instr.makeFunc fn first cap).run Tryz.prog w = .ok (.func fn first cap) w := fun _ _ _ _ => rfl
 have hb := Bx.new w [.slice p0 h.sectors.length k0, .slice p1 h.prices.length k1, .slice p2 h.dates.length k2, .slice p3 h.frm.length k3, .slice p4 h.holds.length k4] 41
 have hr1 := Rep.keep (.alloc w (.cells #[.slice p0 h.sectors.length k0, .slice p1 h.prices.length k1, .slice p2 h.dates.length k2, .slice p3 h.frm.length k3, .slice p4 h.holds.length k4] 41)) hr0
 obtain ⟨e0, e1, e2, e3, e4⟩ := cells5 hb
 have hst0 : Step w (w.alloc (.cells #[.slice p0 h.sectors.length k0, .slice p1 h.prices.length k1, .slice p2 h.dates.length k2, .slice p3 h.frm.length k3, .slice p4 h.holds.length k4] 41)) := Step.alloc _ _
 have HB := zH hb
 have HR := zH hr1
 have HS := zH hst0
 clear hb hr1 hst0 hr0 h0 h1 h2 h3 h4
 go_enter Tryz.func43, Tryz.ntmps43
 go_wp2_with fail
 refine (ticket.within_any _ _ _ _).mono ?_
 rintro e w' ⟨rfl, rfl⟩
 cases q1 : withinB h.dates.length 1 6 with
 | false =>
  go_wp2
  go_ret
  exact ⟨by simp [valid, validA, q1], HS.out⟩
 | true =>
 have Q1 := zH q1
 clear q1
 by_cases q2 : h.frm.length = h.dates.length
 rotate_left
 ·have hd : ((h.frm.length : Int) != (h.dates.length : Int)) = true := by simp; omega
  have Q2 := zH q2
  clear q2
  go_wp2
  go_ret
  have hvv : valid h = false := by simp [valid, validA, Q1.out, Q2.out]
  exact ⟨by rw [hvv]; rfl, HS.out⟩
 have hdq2 : ((h.frm.length : Int) != (h.dates.length : Int)) = false := by simp; omega
 have Q2 := zH q2
 clear q2
 by_cases q3 : h.holds.length = h.dates.length
 rotate_left
 ·have hd : ((h.holds.length : Int) != (h.dates.length : Int)) = true := by simp; omega
  have Q3 := zH q3
  clear q3
  go_wp2
  go_ret
  have hvv : valid h = false := by simp [valid, validA, Q1.out, Q2.out, Q3.out]
  exact ⟨by rw [hvv]; rfl, HS.out⟩
 have hdq3 : ((h.holds.length : Int) != (h.dates.length : Int)) = false := by simp; omega
 have Q3 := zH q3
 clear q3
 go_wp2_with fail
 refine (agencies_any S h _ _ ⟨_, rfl, HR.out⟩ (frm_pos Q1.out Q2.out)).mono ?_
 rintro e wa ⟨rfl, hSa⟩
 rw [agN_eq]
 have HT := zH hSa
 clear hSa
 go_wp2_with fail
 refine (ticket.within_any _ _ _ _).mono ?_
 rintro e w' ⟨rfl, rfl⟩
 cases q4 : withinB (agN h) 1 6 with
 | false =>
  go_wp2
  go_ret
  have hvv : valid h = false := by simp [valid, validA, Q1.out, Q2.out, Q3.out, q4]
  exact ⟨by rw [hvv]; rfl, HS.out.trans HT.out⟩
 | true =>
 have qa : validA h = true := by simp [validA, Q1.out, Q2.out, Q3.out, q4]
 have hfp := frm_pos Q1.out Q2.out
 have hag := agN_of q4
 have QA := zH qa
 clear qa q4 Q3 hdq2 hdq3
 obtain ⟨e0, e1, e2, e3, e4⟩ := cells5 (HB.out.step HT.out)
 go_wp2_with fail
 refine (ticket.within_any _ _ _ _).mono ?_
 rintro e w' ⟨rfl, rfl⟩
 cases b1 : withinB h.sectors.length 1 10 with
 | false =>
  go_wp2
  go_ret
  have hvv : valid h = false := by simp only [valid, validB, QA.out, b1, Bool.true_and, Bool.false_and, Bool.and_false, Bool.and_true]
  exact ⟨by rw [hvv]; rfl, HS.out.trans HT.out⟩
 | true =>
 have B1 := zH b1
 clear b1
 have hcall := zH (secs_any h _ _ _ _ _ w.heap.size S _ (HB.out.step HT.out) (Rep.keep (.of_step HT.out) HR.out))
 go_wp2_with fail
 refine hcall.out.mono ?_
 rintro e wn ⟨rfl, hSn⟩
 have HT' := zH (HT.out.trans hSn)
 clear hcall hSn HT
 have HT := HT'
 clear HT'
 obtain ⟨e0, e1, e2, e3, e4⟩ := cells5 (HB.out.step HT.out)
 cases b2 : h.sectors.all (secB h) with
 | false =>
  go_wp2
  go_ret
  have hvv : valid h = false := by simp only [valid, validB, QA.out, B1.out, b2, Bool.true_and, Bool.false_and, Bool.and_false, Bool.and_true]
  exact ⟨by rw [hvv]; rfl, HS.out.trans HT.out⟩
 | true =>
 have B2 := zH b2
 clear b2
 have hcall := zH (size_any S h _ _ ⟨_, rfl, Rep.keep (.of_step HT.out) HR.out⟩ (okSec_of B1.out B2.out))
 go_wp2_with fail
 refine hcall.out.mono ?_
 rintro e wn ⟨rfl, hSn⟩
 have HT' := zH (HT.out.trans hSn)
 clear hcall hSn HT
 have HT := HT'
 clear HT'
 obtain ⟨e0, e1, e2, e3, e4⟩ := cells5 (HB.out.step HT.out)
 cases b3 : decide (sizeL h.sectors ≤ 100) with
 | false =>
  go_wp2
  go_ret
  have hvv : valid h = false := by simp only [valid, validB, QA.out, B1.out, B2.out, b3, Bool.true_and, Bool.false_and, Bool.and_false, Bool.and_true]
  exact ⟨by rw [hvv]; rfl, HS.out.trans HT.out⟩
 | true =>
 have B3 := zH b3
 go_wp2_with fail
 clear b3
 refine (ticket.within_any _ _ _ _).mono ?_
 rintro e w' ⟨rfl, rfl⟩
 cases b4 : withinB h.prices.length 1 5 with
 | false =>
  go_wp2
  go_ret
  have hvv : valid h = false := by simp only [valid, validB, QA.out, B1.out, B2.out, B3.out, b4, Bool.true_and, Bool.false_and, Bool.and_false, Bool.and_true]
  exact ⟨by rw [hvv]; rfl, HS.out.trans HT.out⟩
 | true =>
 have B4 := zH b4
 clear b4
 have hcall := zH (every_any S h.prices _ 0 10000 _ ((rep_prices HR.out).keep (.of_step HT.out)))
 go_wp2_with fail
 refine hcall.out.mono ?_
 rintro e wn ⟨rfl, hSn⟩
 have HT' := zH (HT.out.trans hSn)
 clear hcall hSn HT
 have HT := HT'
 clear HT'
 obtain ⟨e0, e1, e2, e3, e4⟩ := cells5 (HB.out.step HT.out)
 cases b5 : h.prices.all fun x => withinB x 0 10000 with
 | false =>
  go_wp2
  go_ret
  have hvv : valid h = false := by simp only [valid, validB, QA.out, B1.out, B2.out, B3.out, B4.out, b5, Bool.true_and, Bool.false_and, Bool.and_false, Bool.and_true]
  exact ⟨by rw [hvv]; rfl, HS.out.trans HT.out⟩
 | true =>
 have B5 := zH b5
 clear b5
 have hcall := zH (every_any S h.dates _ 0 1000 _ ((rep_dates HR.out).keep (.of_step HT.out)))
 go_wp2_with fail
 refine hcall.out.mono ?_
 rintro e wn ⟨rfl, hSn⟩
 have HT' := zH (HT.out.trans hSn)
 clear hcall hSn HT
 have HT := HT'
 clear HT'
 obtain ⟨e0, e1, e2, e3, e4⟩ := cells5 (HB.out.step HT.out)
 cases b6 : h.dates.all fun x => withinB x 0 1000 with
 | false =>
  go_wp2
  go_ret
  have hvv : valid h = false := by simp only [valid, validB, QA.out, B1.out, B2.out, B3.out, B4.out, B5.out, b6, Bool.true_and, Bool.false_and, Bool.and_false, Bool.and_true]
  exact ⟨by rw [hvv]; rfl, HS.out.trans HT.out⟩
 | true =>
 have B6 := zH b6
 clear b6
 have hcall := zH (rises_any S h.dates _ _ ((rep_dates HR.out).keep (.of_step HT.out)))
 go_wp2_with fail
 refine hcall.out.mono ?_
 rintro e wn ⟨rfl, hSn⟩
 have HT' := zH (HT.out.trans hSn)
 clear hcall hSn HT
 have HT := HT'
 clear HT'
 obtain ⟨e0, e1, e2, e3, e4⟩ := cells5 (HB.out.step HT.out)
 cases b7 : risesB h.dates with
 | false =>
  go_wp2
  go_ret
  have hvv : valid h = false := by simp only [valid, validB, QA.out, B1.out, B2.out, B3.out, B4.out, B5.out, B6.out, b7, Bool.true_and, Bool.false_and, Bool.and_false, Bool.and_true]
  exact ⟨by rw [hvv]; rfl, HS.out.trans HT.out⟩
 | true =>
 have B7 := zH b7
 clear b7
 have hcall := zH (froms_any h _ _ _ _ _ w.heap.size S _ (HB.out.step HT.out) (Rep.keep (.of_step HT.out) HR.out) hfp)
 go_wp2_with fail
 refine hcall.out.mono ?_
 rintro e wn ⟨rfl, hSn⟩
 have HT' := zH (HT.out.trans hSn)
 clear hcall hSn HT
 have HT := HT'
 clear HT'
 obtain ⟨e0, e1, e2, e3, e4⟩ := cells5 (HB.out.step HT.out)
 cases b8 : h.frm.all (fromB (agN h)) with
 | false =>
  go_wp2
  go_ret
  have hvv : valid h = false := by simp only [valid, validB, QA.out, B1.out, B2.out, B3.out, B4.out, B5.out, B6.out, B7.out, b8, Bool.true_and, Bool.false_and, Bool.and_false, Bool.and_true]
  exact ⟨by rw [hvv]; rfl, HS.out.trans HT.out⟩
 | true =>
 have B8 := zH b8
 clear b8
 have hcall := zH (holds_any h _ _ _ _ _ w.heap.size S _ (HB.out.step HT.out) (Rep.keep (.of_step HT.out) HR.out) hfp (okSec_of B1.out B2.out) hag.2)
 go_wp2_with fail
 refine hcall.out.mono ?_
 rintro e wn ⟨rfl, hSn⟩
 have HT' := zH (HT.out.trans hSn)
 clear hcall hSn HT
 have HT := HT'
 clear HT'
 obtain ⟨e0, e1, e2, e3, e4⟩ := cells5 (HB.out.step HT.out)
 cases b9 : h.holds.all (holdsB (sizeL h.sectors) (agN h)) with
 | false =>
  go_wp2
  go_ret
  have hvv : valid h = false := by simp only [valid, validB, QA.out, B1.out, B2.out, B3.out, B4.out, B5.out, B6.out, B7.out, B8.out, b9, Bool.true_and, Bool.false_and, Bool.and_false, Bool.and_true]
  exact ⟨by rw [hvv]; rfl, HS.out.trans HT.out⟩
 | true =>
  go_wp2
  go_ret
  have hvv : valid h = true := by simp only [valid, validB, QA.out, B1.out, B2.out, B3.out, B4.out, B5.out, B6.out, B7.out, B8.out, b9, Bool.true_and, Bool.false_and, Bool.and_false, Bool.and_true]
  exact ⟨by rw [hvv]; rfl, HS.out.trans HT.out⟩
theorem okSec_valid {h : House} (hv : valid h = true) : okSec h.sectors := by
 simp only [valid, validB, Bool.and_eq_true] at hv
 exact okSec_of hv.2.1.1.1.1.1.1.1.1 hv.2.1.1.1.1.1.1.1.2
def classR (h : House) (n : Int) : Int × Int := if valid h then (if withinB n 0 (sizeL h.sectors - 1) then (classL h.sectors n, 0) else (0, 2)) else (0, 1)
theorem Class_any (S : Nat → Prop) (h : House) (n : Int) (v : Value) (w : World) (hv : AV S w v h) :
  Calls Tryz.prog 41 #[v, .int .i64 n] w fun e w' => e = .returned (.tuple #[.int .i64 (classR h n).1, .int .i64 (classR h n).2]) ∧ Step w w' := by
 obtain ⟨cs, rfl, hr⟩ := hv
 have hr0 := hr
 obtain ⟨c0, c1, c2, c3, c4, rfl, h0, h1, h2, h3, h4⟩ := hr
 obtain ⟨p0, k0, rfl⟩ := h0.form
 obtain ⟨p1, k1, rfl⟩ := h1.form
 obtain ⟨p2, k2, rfl⟩ := h2.form
 obtain ⟨p3, k3, rfl⟩ := h3.form
 obtain ⟨p4, k4, rfl⟩ := h4.form
 have hb := Bx.new w [.slice p0 h.sectors.length k0, .slice p1 h.prices.length k1, .slice p2 h.dates.length k2, .slice p3 h.frm.length k3, .slice p4 h.holds.length k4] 41
 have hr1 := Rep.keep (.alloc w (.cells #[.slice p0 h.sectors.length k0, .slice p1 h.prices.length k1, .slice p2 h.dates.length k2, .slice p3 h.frm.length k3, .slice p4 h.holds.length k4] 41)) hr0
 have hcall := zH (valid_any S h _ _ ⟨_, rfl, hr1⟩)
 have HB := zH hb
 have HR := zH hr1
 have HS : Hid (Step w (w.alloc (.cells #[.slice p0 h.sectors.length k0, .slice p1 h.prices.length k1, .slice p2 h.dates.length k2, .slice p3 h.frm.length k3, .slice p4 h.holds.length k4] 41))) := zH (Step.alloc _ _)
 clear hr0 h0 h1 h2 h3 h4 hb hr1
 cases q : valid h with
 | true =>
  have Q := zH q
  clear q
  go_enter Tryz.func41, Tryz.ntmps41
  go_wp2_with fail
  refine hcall.out.mono ?_
  rintro e w' ⟨rfl, hS⟩
  rw [Q.out]
  obtain ⟨e0, e1, e2, e3, e4⟩ := cells5 (HB.out.step hS)
  have hcall2 := zH (size_any S h _ _ ⟨_, rfl, Rep.keep (.of_step hS) HR.out⟩ (okSec_valid Q.out))
  go_wp2_with fail
  refine hcall2.out.mono ?_
  rintro e w2 ⟨rfl, hS2⟩
  have hst := zH (hS.trans hS2)
  clear hS hS2 hcall hcall2 e0 e1 e2 e3 e4
  have hz := sizeL_bound (okSec_valid Q.out) h.sectors.length (Nat.le_refl _)
  rw [List.take_length] at hz
  have hz2 := (okSec_valid Q.out).1
  cases q2 : withinB n 0 (sizeL h.sectors - 1) with
  | true =>
   have Q2 := zH q2
   clear q2
   go_wp2_with fail
   refine (ticket.within_any _ _ _ _).mono ?_
   rintro e w' ⟨rfl, rfl⟩
   rw [Q2.out]
   obtain ⟨e0, e1, e2, e3, e4⟩ := cells5 (HB.out.step hst.out)
   have hcall2 := zH (class_any S h _ n _ ⟨_, rfl, Rep.keep (.of_step hst.out) HR.out⟩ (okSec_valid Q.out) (by have := Q2.out; simp [withinB] at this; omega))
   go_wp2_with fail
   refine hcall2.out.mono ?_
   rintro e w3 ⟨rfl, hS3⟩
   go_wp2
   go_ret2
   have hx : classR h n = (classL h.sectors n, 0) := by simp [classR, Q.out, Q2.out]
   rw [hx]
   exact ⟨rfl, (HS.out.trans hst.out).trans hS3⟩
  | false =>
   have Q2 := zH q2
   clear q2
   go_wp2_with fail
   refine (ticket.within_any _ _ _ _).mono ?_
   rintro e w' ⟨rfl, rfl⟩
   rw [Q2.out]
   go_wp2
   go_ret2
   have hx : classR h n = (0, 2) := by simp [classR, Q.out, Q2.out]
   rw [hx]
   exact ⟨rfl, HS.out.trans hst.out⟩
 | false =>
  have Q := zH q
  clear q
  go_enter Tryz.func41, Tryz.ntmps41
  go_wp2_with fail
  refine hcall.out.mono ?_
  rintro e w' ⟨rfl, hS⟩
  rw [Q.out]
  go_wp2
  go_ret2
  have hx : classR h n = (0, 1) := by simp [classR, Q.out]
  rw [hx]
  exact ⟨rfl, HS.out.trans hS⟩
end Go.Proofs.YtgpiieogiafdoaaGreat
namespace Go.Proofs.YtgpiieogiafdoaaGreat
open Go.RowKit Go.BT
theorem infoInt : (Tryz.prog.info? 3).map (fun i => (i.zero, i.size, i.bytes)) = some (some (.int .i64 0), 1, 8) := by kernel_rfl
theorem infoInts : (Tryz.prog.info? 23).map (fun i => (i.zero, i.size, i.bytes)) = some (some (.slice none 0 0), 1, 24) := by kernel_rfl
def intsB (a b : List Int) : Bool := decide (a = b)
theorem ints_hit {a b : List Int} {k : Nat} (ha : k < a.length) (hb : k < b.length) (ht : a.take k = b.take k) (h : a[k] = b[k]) : a.take (k + 1) = b.take (k + 1) := by
 rw [List.take_succ_eq_append_getElem ha, List.take_succ_eq_append_getElem hb, ht, h]
theorem ints_miss {a b : List Int} {k : Nat} (ha : k < a.length) (hb : k < b.length) (h : a[k] ≠ b[k]) : intsB a b = false := by
 have : a ≠ b := fun e => h (by subst e; rfl)
 simp [intsB, this]
theorem ints_end {a b : List Int} {k : Nat} (hl : a.length = b.length) (hk : a.length ≤ k) (ht : a.take k = b.take k) : intsB a b = true := by
 rw [List.take_of_length_le hk, List.take_of_length_le (by omega)] at ht
 simp [intsB, ht]
theorem ints_any (S : Nat → Prop) (a b : List Int) (va vb : Value) (w : World) (ha : SL S w va a) (hb : SL S w vb b) :
  Calls Tryz.prog 35 #[va, vb] w fun e w' => e = .returned (.bool (intsB a b)) ∧ Step w w' := by
 obtain ⟨pa, ca, ba, oa, rfl, _, hma, hpa, hca, h0a⟩ := ha.ints
 obtain ⟨pb, cb, bb, ob, rfl, _, hmb, hpb, hcb, h0b⟩ := hb.ints
 by_cases hl : a.length = b.length
 ·have hne : ((a.length : Int) != (b.length : Int)) = false := by simp [hl]
  have Hl := zH hl
  clear hl
  go_enter Tryz.func35, Tryz.ntmps35
  go_wp2
  go_loopw [5] (fun i wr => ∃ k : Nat, k ≤ a.length ∧ i = .int .i64 k ∧ a.take k = b.take k ∧ Below w.heap.size w wr) (fun i _ => a.length - (intOf i).toNat)
  case atStart => exact ⟨0, Nat.zero_le _, rfl, rfl, Below.refl _ _⟩
  case round =>
   obtain ⟨k, hk, rfl, ht, hB⟩ := hrel
   have HT := zH ht
   clear ht
   by_cases hlt : k < a.length
   ·have hltb : k < b.length := by have := Hl.out; omega
    obtain rfl := hpa (by omega)
    obtain rfl := hpb (by omega)
    have e1 := (hB.cell (p := ⟨ba, oa + k, none⟩) (h0a (by omega)).1).trans (hca k hlt)
    have e2 := (hB.cell (p := ⟨bb, ob + k, none⟩) (h0b (by omega)).1).trans (hcb k hltb)
    have hx : (0 : Int) ≤ (k : Int) ∧ (k : Int) < (a.length : Int) := by omega
    have hy : (0 : Int) ≤ (k : Int) ∧ (k : Int) < (b.length : Int) := by omega
    clear hpa hpb hca hcb h0a h0b
    go_wp2
    go_quiet (fail)
    go_wp2
    ·have hx : (a[k] != b[k]) = true := by assumption
     go_ret
     exact ⟨by rw [ints_miss hlt hltb (by simpa using hx)]; rfl, .of (below_drewN hB _)⟩
    ·have hx : (a[k] != b[k]) = false := by assumption
     go_roundw
     case rel => exact ⟨k + 1, by omega, by go_num, ints_hit hlt hltb HT.out (by simpa using hx), below_drewN hB _⟩
     case measure => simp [intOf]; omega
   ·go_wp2
    go_ret
    exact ⟨by rw [ints_end Hl.out (by omega) HT.out]; rfl, .of hB⟩
 ·have hne : ((a.length : Int) != (b.length : Int)) = true := by simp; omega
  go_enter Tryz.func35, Tryz.ntmps35
  go_wp2
  go_ret
  refine ⟨?_, Step.refl _⟩
  have : a ≠ b := fun h => hl (by rw [h])
  simp [intsB, this]
theorem eiInts : EI Tryz.prog 23 3 (.int .i64 0) 1 8 := .mk' Tryz.underlying23 infoInt rfl
theorem eiRows : EI Tryz.prog 24 23 (.slice none 0 0) 1 24 := .mk' Tryz.underlying24 infoInts rfl
theorem list_any (S : Nat → Prop) (l : List Int) (v : Value) (w : World) (h : SL S w v l) (hl : l.length ≤ 1000000) :
  Calls Tryz.prog 47 #[v] w fun e w' => ∃ v', e = .returned v' ∧ SL (Old w) w' v' l ∧ Step w w' := by
 go_enter Tryz.func47, Tryz.ntmps47
 go_wp2_with (at_builtin; refine wpl_append (α := Int) (S := Old w) (base := w.heap.size) (v := .slice none 0 0) (l := []) (m := l) eiInts rfl _ _ rfl rfl rfl (OwnL.nil _ _ _ _) (h.flat _) l.length (by simp) l rfl ?_ ?_ (Nat.le_refl _) ?_)
 ·simp only [maxLen]; omega
 ·omega
 intro p c w' hown hg
 go_wp2
 go_ret
 exact ⟨_, rfl, hown.fresh, .of ((Below.refl _ w).grown hg (Nat.le_refl _) (by simp [Value.ownBlock]))⟩
theorem rows_any (S : Nat → Prop) (l : List (List Int)) (v : Value) (w : World) (h : SL S w v l) (hl : l.length ≤ 1000) (hr : ∀ i (h : i < l.length), l[i].length ≤ 1000000) :
  Calls Tryz.prog 48 #[v] w fun e w' => ∃ v', e = .returned v' ∧ SL (Old w) w' v' l ∧ Step w w' := by
 obtain ⟨p, c, b, o, rfl, _, hm, hp, hc, h0⟩ := h.rows
 go_enter Tryz.func48, Tryz.ntmps48
 go_wp2
 go_loopw [3, 4] (fun out i wr => ∃ k : Nat, k ≤ l.length ∧ i = .int .i64 k ∧ OwnL (Old w) w.heap.size 23 wr out (l.take k) ∧ Below w.heap.size w wr) (fun _ i _ => l.length - (intOf i).toNat)
 case atStart => exact ⟨0, Nat.zero_le _, rfl, OwnL.nil _ _ _ _, Below.refl _ _⟩
 case round =>
  obtain ⟨k, hk, rfl, hown, hB⟩ := hrel
  by_cases hlt : k < l.length
  ·obtain rfl := hp (by omega)
   obtain ⟨u, e1, hu⟩ := hc k hlt
   have e1 := (hB.cell (p := ⟨b, o + k, none⟩) (h0 (by omega)).1).trans e1
   have hu := hu.keep (.of_below hB)
   have hrk := hr k hlt
   clear hp hc h0 hr
   go_wp2_with fail
   refine (list_any _ _ _ _ hu hrk).mono ?_
   rintro e w1 ⟨v', rfl, hv', hS1⟩
   have hB1 := hS1.below
   obtain ⟨pv, cv, rfl⟩ := hv'.form
   have hlen : (l.take k).length = k := by simp; omega
   have hx : Rep.rep (avoid (Old w) u3) w1 [.slice pv l[k].length cv] l[k] := ⟨_, rfl, hv'.weak fun j _ hj => avoid_old hown (old_lt hB) j hj⟩
   go_wp2_with (at_builtin; refine wpl_append (α := List Int) (S := Old w) (base := w.heap.size) (v := u3) (l := l.take k) (m := [l[k]]) eiRows rfl _ _ rfl rfl rfl ((hown.below hB1).alloc _) (SLe.one _ hx) (k + 1) ?_ (l.take (k + 1)) ?_ ?_ ?_ ?_ ?_)
   ·simp; omega
   ·exact (List.take_succ_eq_append_getElem hlt).symm
   ·simp only [maxLen]; omega
   ·omega
   ·have := hB.size; have := hB1.size; simp; omega
   intro p' c' w2 hown2 hg
   have hB2 : Below w.heap.size w w2 := ((hB.trans (hB1.mono hB.size)).alloc (by have := hB.size; have := hB1.size; omega) _).grown hg (by have := hB.size; have := hB1.size; simp; omega) (fun j hj => (hown.lt j hj).1)
   go_wp2
   go_roundw
   case rel => exact ⟨k + 1, by omega, by go_num, hown2, hB2⟩
   case measure => simp [intOf]; omega
  ·go_wp2
   have hkl : l.take k = l := List.take_of_length_le (by omega)
   rw [hkl] at hown
   go_ret
   exact ⟨_, rfl, hown.fresh, .of hB⟩
end Go.Proofs.YtgpiieogiafdoaaGreat
namespace Go.Proofs.YtgpiieogiafdoaaGreat
set_option linter.unusedSimpArgs false
set_option linter.unusedVariables false
open Go.RowKit Go.BT
def Opens (t : TypeId) (α : Type) [Rep α] : Prop := ∀ {H : Type} (enc : TypeId × Value → H) (w : World) (fuel : Nat) (cs : List Value) (x : DataW H × List MemPlace), DataW.trod enc Tryz.prog w 0 (fun _ => true) true fuel t cs = some x → ∃ y : α, Rep.rep (fun _ => False) w cs y
theorem opens_int {t : TypeId} (ht : Tryz.prog.underlying t = some (.int .i64)) : Opens t Int := by
 intro H enc w fuel cs x h
 cases fuel with
 | zero => simp [DataW.trod] at h
 | succ n =>
  unfold DataW.trod at h
  rw [ht] at h
  have h1 : ∃ n : Int, cs = [.int .i64 n] := by
   split at h
   case h_2 =>
    rename_i k k' n' hk
    split at h
    ·rename_i hc
     simp only [Option.some.injEq] at hk
     injection hk with hk
     exact ⟨n', by rw [hc.1, ← hk]⟩
    ·cases h
   all_goals simp_all
  obtain ⟨n', rfl⟩ := h1
  exact ⟨n', rfl⟩
theorem opens_bool {t : TypeId} (ht : Tryz.prog.underlying t = some .bool) : Opens t Bool := by
 intro H enc w fuel cs x h
 cases fuel with
 | zero => simp [DataW.trod] at h
 | succ n =>
  unfold DataW.trod at h
  rw [ht] at h
  have h1 : ∃ b, cs = [.bool b] := by
   split at h <;> first | exact ⟨_, rfl⟩ | simp_all
  obtain ⟨b, rfl⟩ := h1
  exact ⟨b, rfl⟩
theorem cells_get {w : World} {a : Addr} {n : Nat} {cs : List Value} (h : w.cells? 0 a n = some cs) : cs.length = n ∧ ∀ j v, cs[j]? = some v → w.cell? (a.add j) = some v := by
 unfold World.cells? at h
 rw [if_pos (Nat.zero_le _)] at h
 have hl : cs.length = n := by simpa using mapM_some_length h
 refine ⟨hl, fun j v hj => ?_⟩
 have hjn : j < n := by rw [← hl]; exact (List.getElem?_eq_some_iff.1 hj).1
 have := mapM_some_get h j j (by simp [hjn])
 rw [this, hj]
theorem opens_slice {t e : TypeId} {α : Type} [Rep α] (ht : Tryz.prog.underlying t = some (.slice e)) (hc : Tryz.prog.cellsOf e = Rep.k α) (he : Opens e α) : Opens t (List α) := by
 intro H enc w fuel cs x h
 rcases Deep.open_slice ht h with ⟨rfl, _⟩ | ⟨a, len, cap, m, n, D, Pl, rfl, hb, hl, hm, hmm, rfl, hx⟩
 ·exact ⟨[], _, rfl, SL.nil _ _⟩
 ·simp only [if_true] at hmm
  have each : ∀ i : Fin len, ∃ y : α, ∃ cs', Rep.rep (fun _ => False) w cs' y ∧ ∀ j v, cs'[j]? = some v → w.cell? (a.add (i.1 * Rep.k α + j)) = some v := fun i => by
   obtain ⟨cs', h1, h2⟩ := hx i.1 (by omega)
   obtain ⟨y, hy⟩ := he enc w n cs' _ h2
   refine ⟨y, cs', hy, fun j v hj => ?_⟩
   have := (cells_get h1).2 j v hj
   rw [Deep.add_add, hc] at this
   exact this
  let f : Fin len → α := fun i => Classical.choose (each i)
  have hf : ∀ i, ∃ cs', Rep.rep (fun _ => False) w cs' (f i) ∧ ∀ j v, cs'[j]? = some v → w.cell? (a.add (i.1 * Rep.k α + j)) = some v := fun i => Classical.choose_spec (each i)
  have hlen : (List.ofFn f).length = len := by simp
  have hspot : 0 < len → a = ⟨a.block, a.off, none⟩ := fun h0 => by
   obtain ⟨cs', h1, h2⟩ := hf ⟨0, h0⟩
   have hk : cs'.length = Rep.k α := Rep.len h1
   have hp : 0 < cs'.length := by rw [hk]; exact Rep.pos
   have h3 := h2 0 cs'[0] (by simp)
   obtain ⟨b, o, sp⟩ := a
   have : sp = none := by simpa [Addr.add] using World.cell?_spot h3
   rw [this]
  refine ⟨List.ofFn f, _, rfl, some a, cap, a.block, a.off, by rw [hlen], by rw [hlen]; exact hl, by rw [hlen]; unfold maxLen at hm; omega, fun h0 => by rw [hlen] at h0; rw [← hspot h0], fun i hi => ?_⟩
  have hi' : i < len := by rw [← hlen]; exact hi
  obtain ⟨cs', h1, h2⟩ := hf ⟨i, hi'⟩
  have hcell : ∀ j v, cs'[j]? = some v → w.cell? ⟨a.block, a.off + i * Rep.k α + j, none⟩ = some v := fun j v hj => by
   have := h2 j v hj
   rw [hspot (by omega)] at this
   rw [Addr.add_lit] at this
   rw [Nat.add_assoc]
   exact this
  have hk : cs'.length = Rep.k α := Rep.len h1
  have hp : 0 < cs'.length := by rw [hk]; exact Rep.pos
  refine ⟨?_, id, cs', by simpa using h1, hcell⟩
  have := hcell 0 cs'[0] (by simp)
  exact World.block_lt_of_cell? w ⟨a.block, _, none⟩ this
theorem field_opens {H : Type} {enc : TypeId × Value → H} {w : World} {n t : Nat} {α : Type} [Rep α] (ho : Opens t α) {cs : List Value} {xs : List (DataW H × List MemPlace)} {i : Nat} (hi : i < xs.length) (h : DataW.trod enc Tryz.prog w 0 (fun _ => true) true n t cs = xs[i]?) : ∃ y : α, Rep.rep (fun _ => False) w cs y := by
 rw [List.getElem?_eq_getElem hi] at h
 exact ho enc w n cs _ h
theorem opens_ints : Opens 23 (List Int) := opens_slice Tryz.underlying23 (by kernel_rfl) (opens_int Tryz.underlying3)
theorem opens_bools : Opens 53 (List Bool) := opens_slice Tryz.underlying53 (by kernel_rfl) (opens_bool Tryz.underlying4)
theorem opens_rows : Opens 24 (List (List Int)) := opens_slice Tryz.underlying24 (by kernel_rfl) opens_ints
theorem two_fields {cs : List Value} (h : cs.length = 2) : ∃ a b, cs = [a, b] := by
 match cs, h with
 | [a, b], _ => exact ⟨a, b, rfl⟩
theorem five_fields {cs : List Value} (h : cs.length = 5) : ∃ a b c d e, cs = [a, b, c, d, e] := by
 match cs, h with
 | [a, b, c, d, e], _ => exact ⟨a, b, c, d, e, rfl⟩
theorem six_fields {cs : List Value} (h : cs.length = 6) : ∃ a b c d e f, cs = [a, b, c, d, e, f] := by
 match cs, h with
 | [a, b, c, d, e, f], _ => exact ⟨a, b, c, d, e, f, rfl⟩
theorem opens_sector : Opens 104 Sector := by
 intro H enc w fuel cs x h
 obtain ⟨xs, n, rfl, rfl, hl, hx, hf⟩ := DataW.trod_struct Tryz.underlying104 h
 rw [show Tryz.prog.cellsOf 104 = 2 from by kernel_rfl] at hl
 obtain ⟨a, b, rfl⟩ := two_fields hl
 have hx2 : xs.length = 2 := hx
 have h0 : DataW.trod enc Tryz.prog w 0 (fun _ => true) true n 3 [a] = xs[0]? := by
  have q : DataW.trod enc Tryz.prog w 0 (fun _ => true) true n 3 (([a, b].drop 0).take (Tryz.prog.cellsOf 3)) = xs[0]? := hf 0 _ rfl
  rw [show Tryz.prog.cellsOf 3 = 1 from by kernel_rfl] at q
  exact q
 have h1 : DataW.trod enc Tryz.prog w 0 (fun _ => true) true n 3 [b] = xs[1]? := by
  have q : DataW.trod enc Tryz.prog w 0 (fun _ => true) true n 3 (([a, b].drop 1).take (Tryz.prog.cellsOf 3)) = xs[1]? := hf 1 _ rfl
  rw [show Tryz.prog.cellsOf 3 = 1 from by kernel_rfl] at q
  exact q
 obtain ⟨y0, r0⟩ := field_opens (opens_int Tryz.underlying3) (by omega) h0
 obtain ⟨y1, r1⟩ := field_opens (opens_int Tryz.underlying3) (by omega) h1
 have e0 : [a] = [Value.int .i64 y0] := r0
 have e1 : [b] = [Value.int .i64 y1] := r1
 injection e0 with e0
 injection e1 with e1
 exact ⟨⟨y0, y1⟩, by rw [e0, e1]; rfl⟩
theorem opens_key : Opens 131 Key := by
 intro H enc w fuel cs x h
 obtain ⟨xs, n, rfl, rfl, hl, hx, hf⟩ := DataW.trod_struct Tryz.underlying131 h
 rw [show Tryz.prog.cellsOf 131 = 2 from by kernel_rfl] at hl
 obtain ⟨a, b, rfl⟩ := two_fields hl
 have hx2 : xs.length = 2 := hx
 have h0 : DataW.trod enc Tryz.prog w 0 (fun _ => true) true n 3 [a] = xs[0]? := by
  have q : DataW.trod enc Tryz.prog w 0 (fun _ => true) true n 3 (([a, b].drop 0).take (Tryz.prog.cellsOf 3)) = xs[0]? := hf 0 _ rfl
  rw [show Tryz.prog.cellsOf 3 = 1 from by kernel_rfl] at q
  exact q
 have h1 : DataW.trod enc Tryz.prog w 0 (fun _ => true) true n 3 [b] = xs[1]? := by
  have q : DataW.trod enc Tryz.prog w 0 (fun _ => true) true n 3 (([a, b].drop 1).take (Tryz.prog.cellsOf 3)) = xs[1]? := hf 1 _ rfl
  rw [show Tryz.prog.cellsOf 3 = 1 from by kernel_rfl] at q
  exact q
 obtain ⟨y0, r0⟩ := field_opens (opens_int Tryz.underlying3) (by omega) h0
 obtain ⟨y1, r1⟩ := field_opens (opens_int Tryz.underlying3) (by omega) h1
 have e0 : [a] = [Value.int .i64 y0] := r0
 have e1 : [b] = [Value.int .i64 y1] := r1
 injection e0 with e0
 injection e1 with e1
 exact ⟨⟨y0, y1⟩, by rw [e0, e1]; rfl⟩
theorem opens_sectors : Opens 22 (List Sector) := opens_slice Tryz.underlying22 (by kernel_rfl) opens_sector
theorem opens_keys : Opens 54 (List Key) := opens_slice Tryz.underlying54 (by kernel_rfl) opens_key
theorem rep_list {α : Type} [Rep α] {w : World} {v : Value} {l : List α} (h : Rep.rep (fun _ => False) w [v] l) : SL (fun _ => False) w v l := by
 obtain ⟨u, e, hs⟩ : ∃ u, [v] = [u] ∧ SL (fun _ => False) w u l := h
 injection e with e
 rw [e]; exact hs
theorem opens_House : Opens 26 House := by
 intro H enc w fuel cs x h
 obtain ⟨xs, n, rfl, rfl, hl, hx, hf⟩ := DataW.trod_struct Tryz.underlying26 h
 rw [show Tryz.prog.cellsOf 26 = 5 from by kernel_rfl] at hl
 obtain ⟨a, b, c, d, e, rfl⟩ := five_fields hl
 have hx2 : xs.length = 5 := hx
 have h0 : DataW.trod enc Tryz.prog w 0 (fun _ => true) true n 22 [a] = xs[0]? := by
  have q : DataW.trod enc Tryz.prog w 0 (fun _ => true) true n 22 (([a, b, c, d, e].drop 0).take (Tryz.prog.cellsOf 22)) = xs[0]? := hf 0 _ rfl
  rw [show Tryz.prog.cellsOf 22 = 1 from by kernel_rfl] at q
  exact q
 have h1 : DataW.trod enc Tryz.prog w 0 (fun _ => true) true n 23 [b] = xs[1]? := by
  have q : DataW.trod enc Tryz.prog w 0 (fun _ => true) true n 23 (([a, b, c, d, e].drop 1).take (Tryz.prog.cellsOf 23)) = xs[1]? := hf 1 _ rfl
  rw [show Tryz.prog.cellsOf 23 = 1 from by kernel_rfl] at q
  exact q
 have h2 : DataW.trod enc Tryz.prog w 0 (fun _ => true) true n 23 [c] = xs[2]? := by
  have q : DataW.trod enc Tryz.prog w 0 (fun _ => true) true n 23 (([a, b, c, d, e].drop 2).take (Tryz.prog.cellsOf 23)) = xs[2]? := hf 2 _ rfl
  rw [show Tryz.prog.cellsOf 23 = 1 from by kernel_rfl] at q
  exact q
 have h3 : DataW.trod enc Tryz.prog w 0 (fun _ => true) true n 24 [d] = xs[3]? := by
  have q : DataW.trod enc Tryz.prog w 0 (fun _ => true) true n 24 (([a, b, c, d, e].drop 3).take (Tryz.prog.cellsOf 24)) = xs[3]? := hf 3 _ rfl
  rw [show Tryz.prog.cellsOf 24 = 1 from by kernel_rfl] at q
  exact q
 have h4 : DataW.trod enc Tryz.prog w 0 (fun _ => true) true n 24 [e] = xs[4]? := by
  have q : DataW.trod enc Tryz.prog w 0 (fun _ => true) true n 24 (([a, b, c, d, e].drop 4).take (Tryz.prog.cellsOf 24)) = xs[4]? := hf 4 _ rfl
  rw [show Tryz.prog.cellsOf 24 = 1 from by kernel_rfl] at q
  exact q
 obtain ⟨y0, r0⟩ := field_opens opens_sectors (by omega) h0
 obtain ⟨y1, r1⟩ := field_opens opens_ints (by omega) h1
 obtain ⟨y2, r2⟩ := field_opens opens_ints (by omega) h2
 obtain ⟨y3, r3⟩ := field_opens opens_rows (by omega) h3
 obtain ⟨y4, r4⟩ := field_opens opens_rows (by omega) h4
 exact ⟨⟨y0, y1, y2, y3, y4⟩, _, _, _, _, _, rfl, rep_list r0, rep_list r1, rep_list r2, rep_list r3, rep_list r4⟩
theorem opens_Book : Opens 56 Book := by
 intro H enc w fuel cs x h
 obtain ⟨xs, n, rfl, rfl, hl, hx, hf⟩ := DataW.trod_struct Tryz.underlying56 h
 rw [show Tryz.prog.cellsOf 56 = 6 from by kernel_rfl] at hl
 obtain ⟨a, b, c, d, e, f, rfl⟩ := six_fields hl
 have hx2 : xs.length = 6 := hx
 have h0 : DataW.trod enc Tryz.prog w 0 (fun _ => true) true n 3 [a] = xs[0]? := by
  have q : DataW.trod enc Tryz.prog w 0 (fun _ => true) true n 3 (([a, b, c, d, e, f].drop 0).take (Tryz.prog.cellsOf 3)) = xs[0]? := hf 0 _ rfl
  rw [show Tryz.prog.cellsOf 3 = 1 from by kernel_rfl] at q
  exact q
 have h1 : DataW.trod enc Tryz.prog w 0 (fun _ => true) true n 24 [b] = xs[1]? := by
  have q : DataW.trod enc Tryz.prog w 0 (fun _ => true) true n 24 (([a, b, c, d, e, f].drop 1).take (Tryz.prog.cellsOf 24)) = xs[1]? := hf 1 _ rfl
  rw [show Tryz.prog.cellsOf 24 = 1 from by kernel_rfl] at q
  exact q
 have h2 : DataW.trod enc Tryz.prog w 0 (fun _ => true) true n 53 [c] = xs[2]? := by
  have q : DataW.trod enc Tryz.prog w 0 (fun _ => true) true n 53 (([a, b, c, d, e, f].drop 2).take (Tryz.prog.cellsOf 53)) = xs[2]? := hf 2 _ rfl
  rw [show Tryz.prog.cellsOf 53 = 1 from by kernel_rfl] at q
  exact q
 have h3 : DataW.trod enc Tryz.prog w 0 (fun _ => true) true n 3 [d] = xs[3]? := by
  have q : DataW.trod enc Tryz.prog w 0 (fun _ => true) true n 3 (([a, b, c, d, e, f].drop 3).take (Tryz.prog.cellsOf 3)) = xs[3]? := hf 3 _ rfl
  rw [show Tryz.prog.cellsOf 3 = 1 from by kernel_rfl] at q
  exact q
 have h4 : DataW.trod enc Tryz.prog w 0 (fun _ => true) true n 54 [e] = xs[4]? := by
  have q : DataW.trod enc Tryz.prog w 0 (fun _ => true) true n 54 (([a, b, c, d, e, f].drop 4).take (Tryz.prog.cellsOf 54)) = xs[4]? := hf 4 _ rfl
  rw [show Tryz.prog.cellsOf 54 = 1 from by kernel_rfl] at q
  exact q
 have h5 : DataW.trod enc Tryz.prog w 0 (fun _ => true) true n 3 [f] = xs[5]? := by
  have q : DataW.trod enc Tryz.prog w 0 (fun _ => true) true n 3 (([a, b, c, d, e, f].drop 5).take (Tryz.prog.cellsOf 3)) = xs[5]? := hf 5 _ rfl
  rw [show Tryz.prog.cellsOf 3 = 1 from by kernel_rfl] at q
  exact q
 obtain ⟨y0, r0⟩ := field_opens (opens_int Tryz.underlying3) (by omega) h0
 obtain ⟨y1, r1⟩ := field_opens opens_rows (by omega) h1
 obtain ⟨y2, r2⟩ := field_opens opens_bools (by omega) h2
 obtain ⟨y3, r3⟩ := field_opens (opens_int Tryz.underlying3) (by omega) h3
 obtain ⟨y4, r4⟩ := field_opens opens_keys (by omega) h4
 obtain ⟨y5, r5⟩ := field_opens (opens_int Tryz.underlying3) (by omega) h5
 have e0 : [a] = [Value.int .i64 y0] := r0
 have e3 : [d] = [Value.int .i64 y3] := r3
 have e5 : [f] = [Value.int .i64 y5] := r5
 injection e0 with e0
 injection e3 with e3
 injection e5 with e5
 exact ⟨⟨y0, y1, y2, y3, y4, y5⟩, _, _, _, by rw [e0, e3, e5], rep_list r1, rep_list r2, rep_list r4⟩
end Go.Proofs.YtgpiieogiafdoaaGreat
namespace Go.Proofs.YtgpiieogiafdoaaGreat
open Go.ChangeShapes Go.WideShapes Go.ChangeAt Go.RowKit Go.BT
set_option linter.unusedVariables false
set_option linter.unusedSimpArgs false
theorem own : ownKnob Tryz.prog.godebug = none := by kernel_rfl
theorem laid : laidOutB Tryz.prog = true := by kernel_rfl
section
variable {H : Type} {enc : TypeId × Value → H} {P : Program}
theorem post_of_below {f : Func} {s : ChangeSpec} {apart fresh handsOn again : Bool} {W W' : World} {args : Array Value} {v : Value} {ds gs : List (DataW H)} {before pa pv : List MemPlace}
  (hW : DataW.Whole enc P f.params.toList s.vars apart W args.toList ds gs before)
  (hres : ∀ (b : Nat) (sp : Nat → Bool) (hd : Bool), DataW.TrodAll enc P W' b sp hd f.resultTypes.toList (v.resultList f.resultTypes.size) (s.fn H (ds ++ gs)).results [])
  (hargs : ∀ sp : Nat → Bool, (∀ p ∈ before, sp p.block = true) → DataW.TrodAll enc P W' 0 sp true f.params.toList args.toList (s.fn H (ds ++ gs)).args pa)
  (hvars : ∀ sp : Nat → Bool, (∀ p ∈ before, sp p.block = true) → DataW.TrodVars enc P W' sp s.vars (s.fn H (ds ++ gs)).vars pv)
  (hps : before = pa ++ pv) (hb : Below W.heap.size W W')
  (hok : ∀ (j : Nat) (t : TypeId) (r : Value), f.resultTypes[j]? = some t → (v.resultList f.resultTypes.size)[j]? = some r → Value.okWide P W' .any 0 t r) :
  s.post enc P f apart fresh handsOn again W args v W' := by
 have hlt : ∀ p ∈ before, p.block < W.heap.size := fun p hp => hW.lt p hp
 have hold : ∀ p ∈ before, (fun b => decide (b < W.heap.size)) p.block = true := fun p hp => by simpa using hlt p hp
 refine ⟨ds, gs, before, [], pa, pv, hW, hres _ _ _, hargs _ hold, hvars _ hold, World.keptBut_mono (fun p hp => ⟨hp, ?_⟩) (hb.frame (· ∈ before)), fun _ => ?_⟩
 ·rw [hps, List.mem_append] at hp
  exact Or.inr hp
 ·obtain ⟨_, _, _, _, _, hz, hn⟩ := hW
  refine ⟨hok, _, _, ([] ++ pa) ++ pv, ⟨[] ++ pa, pv, trodAll_append (hargs _ (fun _ _ => rfl)) (hres _ _ _), hvars _ (fun _ _ => rfl), rfl, ?_, ?_⟩, ?_⟩
  ·intro b off hp
   have hin : MemPlace.cell b off ∈ before := by rw [hps]; simpa using hp
   rw [hb.frozen (hlt _ hin)]
   exact hz b off hin
  ·intro ha
   have := hn ha
   rw [hps] at this
   simpa using this
  ·intro p hp _
   rw [hps]
   simpa using hp
theorem all_stays (hl : laidOutB P = true) {W W' : World} (hb : Below W.heap.size W W') {sp : Nat → Bool} : ∀ {ts : List TypeId} {vs : List Value} {ds : List (DataW H)} {ps : List MemPlace}, (∀ t ∈ ts, P.readableRec t = true ∧ t < P.types.size) →
  DataW.TrodAll enc P W 0 (fun _ => true) true ts vs ds ps → (∀ x ∈ ps, x.block < W.heap.size) → (∀ x ∈ ps, sp x.block = true) → DataW.TrodAll enc P W' 0 sp true ts vs ds ps
 | [], [], [], _, _, h, _, _ => h
 | t :: ts, v :: vs, d :: ds, ps, ht, h, hlt, hs => by
  obtain ⟨p, q, h1, h2, rfl⟩ := h
  have ht0 := ht t List.mem_cons_self
  exact ⟨p, q, WideElems.Trod_stays hl ht0.1 ht0.2 h1 (fun x hx => hb.same (hlt x (by simp [hx]))) (fun x hx => hs x (by simp [hx])),
   all_stays hl hb (fun t ht' => ht t (List.mem_cons_of_mem _ ht')) h2 (fun x hx => hlt x (by simp [hx])) (fun x hx => hs x (by simp [hx])), rfl⟩
end
theorem agg_of {P : Program} {W : World} {r : Reach} {b0 : Nat} {t : TypeId} {fs : Array Field} {v : Value} (hs : P.underlying t = some (.struct fs)) (hv : Value.okWide P W r b0 t v) : ∃ cs, v = .agg cs := by
 obtain ⟨cs, rfl, hsz⟩ := okWide_struct hs hv
 exact ⟨cs, rfl⟩
theorem av_of {H : Type} {enc : TypeId × Value → H} {W : World} {r : Reach} {b0 : Nat} {t : TypeId} {fs : Array Field} {α : Type} [Rep α] {v : Value} {d : DataW H} {p : List MemPlace} (ho : Opens t α) (hs : Tryz.prog.underlying t = some (.struct fs)) (hv : Value.okWide Tryz.prog W r b0 t v)
  (h : DataW.Trod enc Tryz.prog W 0 (fun _ => true) true t v d p) : ∃ x : α, AV (fun _ => False) W v x := by
 have hq := @agg_of Tryz.prog W r b0 t fs v hs hv
 obtain ⟨cs, rfl⟩ := hq
 obtain ⟨fuel, hf⟩ := h
 obtain ⟨y, hy⟩ := ho enc W fuel _ _ hf
 exact ⟨y, cs.toList, by rw [Array.toArray_toList], hy⟩
end Go.Proofs.YtgpiieogiafdoaaGreat
namespace Go.Proofs.YtgpiieogiafdoaaGreat
open Go.ChangeShapes Go.WideShapes Go.ChangeAt Go.RowKit Go.BT
set_option linter.unusedVariables false
set_option linter.unusedSimpArgs false
theorem opens_Message : Opens 58 BT.Message := by
 intro H enc w fuel cs x h
 obtain ⟨xs, n, rfl, rfl, hl, hx, hf⟩ := DataW.trod_struct Tryz.underlying58 h
 rw [show Tryz.prog.cellsOf 58 = 5 from by kernel_rfl] at hl
 obtain ⟨a, b, c, d, e, rfl⟩ := five_fields hl
 have hx2 : xs.length = 5 := hx
 have h0 : DataW.trod enc Tryz.prog w 0 (fun _ => true) true n 3 [a] = xs[0]? := by
  have q : DataW.trod enc Tryz.prog w 0 (fun _ => true) true n 3 (([a, b, c, d, e].drop 0).take (Tryz.prog.cellsOf 3)) = xs[0]? := hf 0 _ rfl
  rw [show Tryz.prog.cellsOf 3 = 1 from by kernel_rfl] at q
  exact q
 have h1 : DataW.trod enc Tryz.prog w 0 (fun _ => true) true n 3 [b] = xs[1]? := by
  have q : DataW.trod enc Tryz.prog w 0 (fun _ => true) true n 3 (([a, b, c, d, e].drop 1).take (Tryz.prog.cellsOf 3)) = xs[1]? := hf 1 _ rfl
  rw [show Tryz.prog.cellsOf 3 = 1 from by kernel_rfl] at q
  exact q
 have h2 : DataW.trod enc Tryz.prog w 0 (fun _ => true) true n 3 [c] = xs[2]? := by
  have q : DataW.trod enc Tryz.prog w 0 (fun _ => true) true n 3 (([a, b, c, d, e].drop 2).take (Tryz.prog.cellsOf 3)) = xs[2]? := hf 2 _ rfl
  rw [show Tryz.prog.cellsOf 3 = 1 from by kernel_rfl] at q
  exact q
 have h3 : DataW.trod enc Tryz.prog w 0 (fun _ => true) true n 3 [d] = xs[3]? := by
  have q : DataW.trod enc Tryz.prog w 0 (fun _ => true) true n 3 (([a, b, c, d, e].drop 3).take (Tryz.prog.cellsOf 3)) = xs[3]? := hf 3 _ rfl
  rw [show Tryz.prog.cellsOf 3 = 1 from by kernel_rfl] at q
  exact q
 have h4 : DataW.trod enc Tryz.prog w 0 (fun _ => true) true n 23 [e] = xs[4]? := by
  have q : DataW.trod enc Tryz.prog w 0 (fun _ => true) true n 23 (([a, b, c, d, e].drop 4).take (Tryz.prog.cellsOf 23)) = xs[4]? := hf 4 _ rfl
  rw [show Tryz.prog.cellsOf 23 = 1 from by kernel_rfl] at q
  exact q
 obtain ⟨y0, r0⟩ := field_opens (opens_int Tryz.underlying3) (by omega) h0
 obtain ⟨y1, r1⟩ := field_opens (opens_int Tryz.underlying3) (by omega) h1
 obtain ⟨y2, r2⟩ := field_opens (opens_int Tryz.underlying3) (by omega) h2
 obtain ⟨y3, r3⟩ := field_opens (opens_int Tryz.underlying3) (by omega) h3
 obtain ⟨y4, r4⟩ := field_opens opens_ints (by omega) h4
 have e0 : [a] = [Value.int .i64 y0] := r0
 have e1 : [b] = [Value.int .i64 y1] := r1
 have e2 : [c] = [Value.int .i64 y2] := r2
 have e3 : [d] = [Value.int .i64 y3] := r3
 injection e0 with e0
 injection e1 with e1
 injection e2 with e2
 injection e3 with e3
 exact ⟨⟨y0, y1, y2, y3, y4⟩, _, by rw [e0, e1, e2, e3], rep_list r4⟩
theorem slice_of {P : Program} {W : World} {r : Reach} {b0 : Nat} {t e : TypeId} {v : Value} (hs : P.underlying t = some (.slice e)) (hv : Value.okWide P W r b0 t v) : v.cells.toList = [v] := by
 obtain ⟨a, n, c, rfl⟩ := okWide_slice hs hv
 rfl
theorem sl_of {H : Type} {enc : TypeId × Value → H} {W : World} {r : Reach} {b0 : Nat} {t e : TypeId} {α : Type} [Rep α] {v : Value} {d : DataW H} {p : List MemPlace} (ho : Opens t (List α)) (hs : Tryz.prog.underlying t = some (.slice e)) (hv : Value.okWide Tryz.prog W r b0 t v)
  (h : DataW.Trod enc Tryz.prog W 0 (fun _ => true) true t v d p) : ∃ x : List α, SL (fun _ => False) W v x := by
 have hq := @slice_of Tryz.prog W r b0 t e v hs hv
 obtain ⟨fuel, hf⟩ := h
 obtain ⟨y, hy⟩ := ho enc W fuel _ _ hf
 rw [hq] at hy
 exact ⟨y, rep_list hy⟩
end Go.Proofs.YtgpiieogiafdoaaGreat
