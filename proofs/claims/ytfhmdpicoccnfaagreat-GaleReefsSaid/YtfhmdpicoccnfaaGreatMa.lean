/- Walks and plain laws, part a. -/
import Derived.Test.YtfhmdpicoccnfaaGreatRows
import Derived.Below
import Derived.BigQuiet
import Derived.Carry
import Derived.ChangeSame
import Derived.Deep.AppendLies
import Derived.Deep.DeepCutAuto
import Derived.Deep.QuietTactic
import Derived.Deep.RegionHeld3
import Derived.Deep.Slices
import Derived.Laws.MakeOwn
import Derived.Lib.Hide
import Derived.OpenShut
import Derived.ProofKit
import Derived.Shelf.Abstract
import Derived.WalkKit
import Derived.WalkLawsBesides
import Derived.WalkSmall
import Derived.WideShapes
set_option maxHeartbeats 16000000
set_option maxRecDepth 100000
theorem zA {α : Type} (l : List α) (i : Nat) (a : α) : l.toArray.setIfInBounds i a = (l.set i a).toArray := by simp
theorem zB {α : Type} {x : α} {xs : List α} {a : α} : (x :: xs).set 0 a = a :: xs := rfl
theorem zC {α : Type} {x : α} {xs : List α} {i : Nat} {a : α} : (x :: xs).set (i + 1) a = x :: xs.set i a := rfl
theorem zD {α : Type} {a : α} {l : List α} : (a :: l)[0]? = some a := rfl
theorem zE {α : Type} {a : α} {i : Nat} {l : List α} : (a :: l)[i + 1]? = l[i]? := rfl
theorem zH {p : Prop} (h : p) : Go.RowKit.Hid p := h
namespace Go.BT
open Go.RowKit
@[simp] theorem _root_.Go.World.size_drewN (w : World) (n : Nat) : (w.drewN n).heap.size = w.heap.size := rfl
@[simp] theorem lt_s {a b : Nat} (h : a < b) : a < b + 1 := Nat.lt_succ_of_lt h
def Keeps (S : Nat → Prop) (w w' : World) : Prop := w.heap.size ≤ w'.heap.size ∧ ∀ j, j < w.heap.size → ¬ S j → w'.heap[j]? = w.heap[j]?
theorem Keeps.refl (S : Nat → Prop) (w : World) : Keeps S w w := ⟨Nat.le_refl _, fun _ _ _ => rfl⟩
theorem Keeps.trans {S : Nat → Prop} {a b c : World} (h : Keeps S a b) (k : Keeps S b c) : Keeps S a c :=
 ⟨Nat.le_trans h.1 k.1, fun j hj hs => (k.2 j (Nat.lt_of_lt_of_le hj h.1) hs).trans (h.2 j hj hs)⟩
theorem Keeps.of_below {S : Nat → Prop} {w w' : World} (h : Below w.heap.size w w') : Keeps S w w' := ⟨h.size, fun j hj _ => h.block j hj⟩
theorem Keeps.mono {S T : Nat → Prop} {w w' : World} (h : Keeps S w w') (hs : ∀ j, j < w.heap.size → S j → T j) : Keeps T w w' :=
 ⟨h.1, fun j hj ht => h.2 j hj (fun hsj => ht (hs j hj hsj))⟩
theorem Keeps.alloc {S : Nat → Prop} (w : World) (o : Obj) : Keeps S w (w.alloc o) := .of_below ((Below.refl _ w).alloc (Nat.le_refl _) o)
theorem Keeps.drew {S : Nat → Prop} (w : World) : Keeps S w w.drew := .of_below ((Below.refl _ w).drew)
theorem Keeps.grown {S : Nat → Prop} {w w' : World} {row : Option Nat} (h : w.grownBy w' row) (hr : ∀ k, row = some k → k < w.heap.size → S k) : Keeps S w w' :=
 ⟨h.size, fun j hj hs => h.block j hj (fun e => hs (hr j e.symm hj))⟩
theorem Keeps.setCell {S : Nat → Prop} (w : World) (a : Addr) (v : Value) (h : S a.block) : Keeps S w (w.setCell a v) :=
 ⟨by simp, fun j _ hs => Below.heap_setCell w a v j (fun e => hs (e ▸ h))⟩
theorem Keeps.cell {S : Nat → Prop} {w w' : World} (h : Keeps S w w') {a : Addr} {v : Value} (hs : ¬ S a.block) (hc : w.cell? a = some v) : w'.cell? a = some v :=
 (World.cell?_of_block (w := w) (h.2 a.block (World.block_lt_of_cell? w a hc) hs)).trans hc
structure StepX (X : Nat → Prop) (w w' : World) : Prop where
 os : w'.os = w.os
 tape : w'.tape = w.tape
 output : w'.output = w.output
 size : w.heap.size ≤ w'.heap.size
 block : ∀ k, k < w.heap.size → ¬ X k → w'.heap[k]? = w.heap[k]?
abbrev Step (w w' : World) : Prop := StepX (fun _ => False) w w'
theorem StepX.below {w w' : World} (h : Step w w') : Below w.heap.size w w' := ⟨h.os, h.tape, h.output, h.size, fun k hk => h.block k hk id⟩
theorem Step.of {w w' : World} (h : Below w.heap.size w w') : Step w w' := ⟨h.os, h.tape, h.output, h.size, fun k hk _ => h.block k hk⟩
theorem StepX.refl (X : Nat → Prop) (w : World) : StepX X w w := ⟨rfl, rfl, rfl, Nat.le_refl _, fun _ _ _ => rfl⟩
theorem StepX.trans {X : Nat → Prop} {a b c : World} (h : StepX X a b) (k : StepX X b c) : StepX X a c :=
 ⟨k.os.trans h.os, k.tape.trans h.tape, k.output.trans h.output, Nat.le_trans h.size k.size, fun j hj hx => (k.block j (Nat.lt_of_lt_of_le hj h.size) hx).trans (h.block j hj hx)⟩
theorem StepX.mono {X Y : Nat → Prop} {w w' : World} (h : StepX X w w') (hs : ∀ j, j < w.heap.size → X j → Y j) : StepX Y w w' := ⟨h.os, h.tape, h.output, h.size, fun j hj hy => h.block j hj fun hx => hy (hs j hj hx)⟩
theorem StepX.of {X : Nat → Prop} {w w' : World} (h : Step w w') : StepX X w w' := h.mono fun _ _ h => h.elim
theorem StepX.keeps {X : Nat → Prop} {w w' : World} (h : StepX X w w') : Keeps X w w' := ⟨h.size, h.block⟩
theorem StepX.kc {w w' : World} (h : StepX (fun _ => False) w w') {a : Addr} {v : Value} (hc : w.cell? a = some v) : w'.cell? a = some v := h.keeps.cell id hc
theorem StepX.grown {X : Nat → Prop} {w w' : World} {row : Option Nat} (h : w.grownBy w' row) (hr : ∀ k, row = some k → k < w.heap.size → X k) : StepX X w w' :=
 ⟨h.os, h.tape, h.output, h.size, fun j hj hs => h.block j hj (fun e => hs (hr j e.symm hj))⟩
theorem Keeps.of_step {S : Nat → Prop} {w w' : World} (h : Step w w') : Keeps S w w' := .of_below h.below
theorem Step.refl (w : World) : Step w w := StepX.refl _ _
theorem Step.drewN (w : World) (n : Nat) : Step w (w.drewN n) := .of (below_drewN (Below.refl _ w) n)
theorem Step.drew (w : World) : Step w w.drew := .of ((Below.refl _ w).drew)
theorem Step.alloc (w : World) (o : Obj) : Step w (w.alloc o) := .of ((Below.refl _ w).alloc (Nat.le_refl _) o)
theorem Step.trans {a b c : World} (h : Step a b) (k : Step b c) : Step a c := StepX.trans h k
theorem _root_.Go.RowKit.Below.step {B : Nat} {w w1 w2 : World} (h : Below B w w1) (hB : B ≤ w.heap.size) (k : Step w1 w2) : Below B w w2 :=
 h.trans (k.below.mono (Nat.le_trans hB h.size))
theorem StepX.cells {w w' : World} (h : Step w w') : (∀ b o, b < w.heap.size → w'.cell? ⟨b, o, none⟩ = w.cell? ⟨b, o, none⟩) ∧ (∀ b o, b < w.heap.size → w'.frozen? ⟨b, o, none⟩ = w.frozen? ⟨b, o, none⟩) :=
 ⟨fun b o hb => h.below.cell (p := ⟨b, o, none⟩) hb, fun b o hb => h.below.frozen (p := ⟨b, o, none⟩) hb⟩
theorem Step.setNew {w0 W : World} (h : Step w0 W) (a : Addr) (v : Value) (ha : w0.heap.size ≤ a.block) : Step w0 (W.setCell a v) := .of (h.below.setCell ha v)
theorem StepX.alloc' {X : Nat → Prop} {w0 W : World} (h : StepX X w0 W) (o : Obj) : StepX X w0 (W.alloc o) := h.trans (.of (Step.alloc _ _))
theorem StepX.drew' {X : Nat → Prop} {w0 W : World} (h : StepX X w0 W) : StepX X w0 W.drew := h.trans (.of (Step.drew _))
class Rep (α : Type) where
 k : Nat
 rep : (Nat → Prop) → World → List Value → α → Prop
 len : ∀ {S w cs x}, rep S w cs x → cs.length = k
 keep : ∀ {S w w' cs x}, Keeps S w w' → rep S w cs x → rep S w' cs x
 weak : ∀ {S T : Nat → Prop} {w cs x}, (∀ j, j < w.heap.size → T j → S j) → rep S w cs x → rep T w cs x
 one : ∀ {S w cs x}, rep S w cs x → ∀ u ∈ cs, u.oneCell' = true
 pos : 0 < k
def At {α : Type} [Rep α] (S : Nat → Prop) (w : World) (b o : Nat) (x : α) : Prop :=
 b < w.heap.size ∧ ¬ S b ∧ ∃ cs, Rep.rep S w cs x ∧ ∀ j v, cs[j]? = some v → w.cell? ⟨b, o + j, none⟩ = some v
theorem At.keep {α : Type} [Rep α] {S : Nat → Prop} {w w' : World} {b o : Nat} {x : α} (hk : Keeps S w w') (h : At S w b o x) : At S w' b o x :=
 ⟨Nat.lt_of_lt_of_le h.1 hk.1, h.2.1, by
  obtain ⟨cs, hr, hc⟩ := h.2.2
  exact ⟨cs, Rep.keep hk hr, fun j v hj => hk.cell h.2.1 (hc j v hj)⟩⟩
theorem At.weak {α : Type} [Rep α] {S T : Nat → Prop} {w : World} {b o : Nat} {x : α} (hk : ∀ j, j < w.heap.size → T j → S j) (h : At S w b o x) : At T w b o x :=
 ⟨h.1, fun ht => h.2.1 (hk b h.1 ht), by
  obtain ⟨cs, hr, hc⟩ := h.2.2
  exact ⟨cs, Rep.weak hk hr, hc⟩⟩
def SL {α : Type} [Rep α] (S : Nat → Prop) (w : World) (v : Value) (l : List α) : Prop :=
 ∃ p c b o, v = .slice p l.length c ∧ l.length ≤ c ∧ l.length ≤ 9223372036854775807 ∧ (0 < l.length → p = some ⟨b, o, none⟩) ∧ ∀ i (h : i < l.length), At S w b (o + i * Rep.k α) l[i]
theorem SL.keep {α : Type} [Rep α] {S : Nat → Prop} {w w' : World} {v : Value} {l : List α} (hk : Keeps S w w') (h : SL S w v l) : SL S w' v l := by
 obtain ⟨p, c, b, o, hv, hc, hm, hp, ha⟩ := h
 exact ⟨p, c, b, o, hv, hc, hm, hp, fun i hi => (ha i hi).keep hk⟩
theorem SL.weak {α : Type} [Rep α] {S T : Nat → Prop} {w : World} {v : Value} {l : List α} (hk : ∀ j, j < w.heap.size → T j → S j) (h : SL S w v l) : SL T w v l := by
 obtain ⟨p, c, b, o, hv, hc, hm, hp, ha⟩ := h
 exact ⟨p, c, b, o, hv, hc, hm, hp, fun i hi => (ha i hi).weak hk⟩
theorem SL.nil {α : Type} [Rep α] (S : Nat → Prop) (w : World) : SL S w (.slice none 0 0) ([] : List α) :=
 ⟨none, 0, 0, 0, rfl, Nat.le_refl _, by simp, fun h => absurd h (by simp), fun i hi => absurd hi (by simp)⟩
instance : Rep Int where
 k := 1
 rep _ _ cs n := cs = [.int .i64 n]
 len h := by rw [h]; rfl
 keep _ h := h
 weak _ h := h
 one h := by subst h; simp [Value.oneCell']
 pos := by decide
instance : Rep Bool where
 k := 1
 rep _ _ cs b := cs = [.bool b]
 len h := by rw [h]; rfl
 keep _ h := h
 weak _ h := h
 one h := by subst h; simp [Value.oneCell']
 pos := by decide
instance {α : Type} [Rep α] : Rep (List α) where
 k := 1
 rep S w cs l := ∃ v, cs = [v] ∧ SL S w v l
 len h := by obtain ⟨v, rfl, _⟩ := h; rfl
 keep hk h := by obtain ⟨v, hv, hs⟩ := h; exact ⟨v, hv, hs.keep hk⟩
 weak hk h := by obtain ⟨v, hv, hs⟩ := h; exact ⟨v, hv, hs.weak hk⟩
 one h := by obtain ⟨v, rfl, p, c, b, o, rfl, _⟩ := h; simp [Value.oneCell']
 pos := by decide
def SLe {α : Type} [Rep α] (S : Nat → Prop) (w : World) (v : Value) (l : List α) : Prop :=
 ∃ p c b o, v = .slice p l.length c ∧ l.length ≤ c ∧ l.length ≤ 9223372036854775807 ∧ (0 < l.length → p = some ⟨b, o, none⟩) ∧
  ∀ i (h : i < l.length), ∃ cs, Rep.rep S w cs l[i] ∧ ∀ j v, cs[j]? = some v → w.cell? ⟨b, o + i * Rep.k α + j, none⟩ = some v
theorem SL.e {α : Type} [Rep α] {S : Nat → Prop} {w : World} {v : Value} {l : List α} (h : SL S w v l) : SLe S w v l := by
 obtain ⟨p, c, b, o, hv, hc, hm, hp, ha⟩ := h
 exact ⟨p, c, b, o, hv, hc, hm, hp, fun i hi => (ha i hi).2.2⟩
class Flat (α : Type) extends Rep α where
 flat : ∀ {S T : Nat → Prop} {w w' : World} {cs : List Value} {x : α}, rep S w cs x → rep T w' cs x
instance : Flat Int where
 flat h := h
instance : Flat Bool where
 flat h := h
theorem SL.flat {α : Type} [Flat α] {S : Nat → Prop} (T : Nat → Prop) {w : World} {v : Value} {l : List α} (h : SL S w v l) : SLe T w v l := by
 obtain ⟨p, c, b, o, hv, hc, hm, hp, ha⟩ := h
 refine ⟨p, c, b, o, hv, hc, hm, hp, fun i hi => ?_⟩
 obtain ⟨cs, hr, hcs⟩ := (ha i hi).2.2
 exact ⟨cs, Flat.flat hr, hcs⟩
theorem SL.ints {S : Nat → Prop} {w : World} {v : Value} {l : List Int} (h : SL S w v l) :
  ∃ p c b o, v = .slice p l.length c ∧ l.length ≤ c ∧ l.length ≤ 9223372036854775807 ∧ (0 < l.length → p = some ⟨b, o, none⟩) ∧
   (∀ i (h : i < l.length), w.cell? ⟨b, o + i, none⟩ = some (.int .i64 l[i])) ∧ (0 < l.length → b < w.heap.size ∧ ¬ S b) := by
 obtain ⟨p, c, b, o, hv, hc, hm, hp, ha⟩ := h
 refine ⟨p, c, b, o, hv, hc, hm, hp, fun i hi => ?_, fun h0 => ⟨(ha 0 h0).1, (ha 0 h0).2.1⟩⟩
 obtain ⟨_, _, cs, hr, hcs⟩ := ha i hi
 have hr' : cs = [.int .i64 l[i]] := hr
 subst hr'
 have := hcs 0 _ rfl
 simpa [Rep.k] using this
theorem SL.rows {α : Type} [Rep α] {S : Nat → Prop} {w : World} {v : Value} {l : List (List α)} (h : SL S w v l) :
  ∃ p c b o, v = .slice p l.length c ∧ l.length ≤ c ∧ l.length ≤ 9223372036854775807 ∧ (0 < l.length → p = some ⟨b, o, none⟩) ∧
   (∀ i (h : i < l.length), ∃ u, w.cell? ⟨b, o + i, none⟩ = some u ∧ SL S w u l[i]) ∧ (0 < l.length → b < w.heap.size ∧ ¬ S b) := by
 obtain ⟨p, c, b, o, hv, hc, hm, hp, ha⟩ := h
 refine ⟨p, c, b, o, hv, hc, hm, hp, fun i hi => ?_, fun h0 => ⟨(ha 0 h0).1, (ha 0 h0).2.1⟩⟩
 obtain ⟨_, _, cs, hr, hcs⟩ := ha i hi
 obtain ⟨u, rfl, hu⟩ : ∃ v, cs = [v] ∧ SL S w v l[i] := hr
 have := hcs 0 _ rfl
 exact ⟨u, by simpa [Rep.k] using this, hu⟩
theorem SL.form {α : Type} [Rep α] {S : Nat → Prop} {w : World} {v : Value} {l : List α} (h : SL S w v l) : ∃ p c, v = .slice p l.length c := by
 obtain ⟨p, c, b, o, hv, _⟩ := h; exact ⟨p, c, hv⟩
theorem SL.len {α : Type} [Rep α] {S : Nat → Prop} {w : World} {v : Value} {l : List α} (h : SL S w v l) : l.length ≤ 9223372036854775807 := by
 obtain ⟨p, c, b, o, hv, hc, hm, _⟩ := h; exact hm
def avoid (S : Nat → Prop) (v : Value) : Nat → Prop := fun j => S j ∨ v.ownBlock = some j
def Old (w : World) : Nat → Prop := fun j => j < w.heap.size
def OwnL {α : Type} [Rep α] (S : Nat → Prop) (base : Nat) (e : TypeId) (w : World) (v : Value) (l : List α) : Prop :=
 ∃ xs, w.ownsRow base e (Rep.k α) v l.length xs ∧ ∀ i (h : i < l.length), Rep.rep (avoid S v) w ((xs.drop (i * Rep.k α)).take (Rep.k α)) l[i]
section
variable {α : Type} [Rep α] {S : Nat → Prop} {base : Nat} {e : TypeId} {w w' : World} {v : Value} {l : List α}
theorem OwnL.nil (S : Nat → Prop) (base : Nat) (e : TypeId) (w : World) : OwnL S base e w (.slice none 0 0) ([] : List α) :=
 ⟨[], World.ownsRow_nil w base e _, fun i h => absurd h (by simp)⟩
theorem OwnL.form (h : OwnL S base e w v l) : ∃ p c, v = .slice p l.length c ∧ l.length ≤ maxLen ∧ l.length ≤ c := by
 obtain ⟨xs, ⟨_, h⟩, _⟩ := h
 rcases h with ⟨rfl, h0⟩ | ⟨g, cap, cur, rfl, _, _, hle, hcap, _⟩
 ·exact ⟨none, 0, by rw [h0], by rw [h0]; exact Nat.zero_le _, by omega⟩
 ·exact ⟨_, cap, rfl, Nat.le_trans hle hcap, hle⟩
theorem OwnL.lt (h : OwnL S base e w v l) : ∀ g, v.ownBlock = some g → base ≤ g ∧ g < w.heap.size := by
 obtain ⟨xs, h, _⟩ := h; exact h.lt
theorem OwnL.kept (h : OwnL S base e w v l) (hk : Keeps S w w') (hrow : ∀ g, v.ownBlock = some g → w'.heap[g]? = w.heap[g]?) : OwnL S base e w' v l := by
 obtain ⟨xs, ⟨hl, ho⟩, hr⟩ := h
 refine ⟨xs, ⟨hl, ?_⟩, fun i hi => Rep.keep (hk.mono fun j _ hs => .inl hs) (hr i hi)⟩
 rcases ho with hn | ⟨g, cap, cur, rfl, hb, hg, hh, r⟩
 ·exact .inl hn
 ·exact .inr ⟨g, cap, cur, rfl, hb, by rw [hrow g rfl]; exact hg, hh, r⟩
theorem OwnL.below (h : OwnL S base e w v l) (hb : Below w.heap.size w w') : OwnL S base e w' v l :=
 h.kept (.of_below hb) fun g hg => hb.block g (h.lt g hg).2
theorem OwnL.alloc (h : OwnL S base e w v l) (o : Obj) : OwnL S base e (w.alloc o) v l := h.below ((Below.refl _ w).alloc (Nat.le_refl _) o)
theorem OwnL.drew (h : OwnL S base e w v l) : OwnL S base e w.drew v l := h.below ((Below.refl _ w).drew)
theorem OwnL.drewN (h : OwnL S base e w v l) (n : Nat) : OwnL S base e (w.drewN n) v l := h.below (below_drewN (Below.refl _ w) n)
theorem OwnL.weak {T : Nat → Prop} (h : OwnL S base e w v l) (hk : ∀ j, j < w.heap.size → T j → S j) : OwnL T base e w v l := by
 obtain ⟨xs, ho, hr⟩ := h
 exact ⟨xs, ho, fun i hi => Rep.weak (fun j hj ht => ht.elim (fun ht => .inl (hk j hj ht)) .inr) (hr i hi)⟩
theorem OwnL.sl (h : OwnL S base e w v l) (hs : ∀ g, base ≤ g → g < w.heap.size → ¬ S g) : SL S w v l := by
 have hm : l.length ≤ 9223372036854775807 := by obtain ⟨_, _, _, hm, _⟩ := h.form; simp only [maxLen] at hm; omega
 have hlt := h.lt
 obtain ⟨xs, h', hr⟩ := h
 have h := h'.2
 rcases h with ⟨rfl, h0⟩ | ⟨g, cap, cur, rfl, hb, hg, hle, hcap, hsz, htk⟩
 ·have : l = [] := List.eq_nil_of_length_eq_zero h0
  subst this; exact SL.nil S w
 ·refine ⟨_, cap, g, 0, rfl, hle, hm, fun _ => rfl, fun i hi => ⟨(hlt g rfl).2, hs g hb (hlt g rfl).2, _, Rep.weak (fun j _ hj => .inl hj) (hr i hi), fun j u hj => ?_⟩⟩
  have hj' : (xs.drop (i * Rep.k α))[j]? = some u := by
   rw [List.getElem?_take] at hj; split at hj
   ·exact hj
   ·cases hj
  rw [List.getElem?_drop] at hj'
  have := h'.cells (g := g) (by simp [Value.ownBlock]) (i * Rep.k α + j) u hj'
  rw [Addr.add_lit] at this
  simpa using this
theorem OwnL.fresh (h : OwnL (Old w) w.heap.size e w' v l) : SL (Old w) w' v l := h.sl fun g hg _ hs => by unfold Old at hs; omega
theorem cells_of_at {b : Nat} (m : List α) : ∀ o, (∀ i (h : i < m.length), ∃ cs, Rep.rep S w cs m[i] ∧ ∀ j v, cs[j]? = some v → w.cell? ⟨b, o + i * Rep.k α + j, none⟩ = some v) →
  ∃ news : List Value, news.length = m.length * Rep.k α ∧ (∀ (j : Nat) (u : Value), news[j]? = some u → w.cell? ⟨b, o + j, none⟩ = some u) ∧ (∀ u ∈ news, u.oneCell' = true) ∧
   ∀ i (h : i < m.length), Rep.rep S w ((news.drop (i * Rep.k α)).take (Rep.k α)) m[i] := by
 induction m with
 | nil => intro o _; exact ⟨[], by simp, by simp, by simp, fun i h => absurd h (by simp)⟩
 | cons x m ih =>
  intro o h
  obtain ⟨cs, hr, hc⟩ := h 0 (by simp)
  obtain ⟨news, hl, hn, h1, hrs⟩ := ih (o + Rep.k α) (fun i hi => by
   have := h (i + 1) (by simp; omega)
   simp only [List.getElem_cons_succ] at this
   rwa [Nat.add_mul, Nat.one_mul, Nat.add_comm (i * Rep.k α), ← Nat.add_assoc] at this)
  have hr' : Rep.rep S w cs x := hr
  have hlen := Rep.len hr'
  refine ⟨cs ++ news, by simp [hlen, hl, Nat.add_mul, Nat.add_comm], fun j u hj => ?_, fun u hu => ?_, fun i hi => ?_⟩
  ·by_cases hjl : j < cs.length
   ·rw [List.getElem?_append_left hjl] at hj
    simpa using hc j u hj
   ·rw [List.getElem?_append_right (by omega)] at hj
    have := hn _ _ hj
    rwa [hlen, show o + Rep.k α + (j - Rep.k α) = o + j by omega] at this
  ·rcases List.mem_append.1 hu with hu | hu
   ·exact Rep.one hr' u hu
   ·exact h1 u hu
  ·cases i with
   | zero => simpa [← hlen] using hr'
   | succ i =>
    have hi' : i < m.length := by simpa using hi
    have := hrs i hi'
    rw [Nat.add_mul, Nat.one_mul, Nat.add_comm, List.drop_append, List.drop_of_length_le (by omega), List.nil_append]
    simp only [List.getElem_cons_succ]
    rwa [show Rep.k α + i * Rep.k α - cs.length = i * Rep.k α by omega]
end
def EI (P : Program) (t e : TypeId) (z : Value) (k bytes : Nat) : Prop :=
 P.underlying t = some (.slice e) ∧ z.cells.size = k ∧ ∃ i, P.info? e = some i ∧ i.zero = some z ∧ i.size = k ∧ i.bytes = bytes
theorem EI.mk' {P : Program} {t e : TypeId} {z : Value} {k bytes : Nat} (h1 : P.underlying t = some (.slice e)) (h2 : (P.info? e).map (fun i => (i.zero, i.size, i.bytes)) = some (some z, k, bytes))
  (h3 : z.cells.size = k) : EI P t e z k bytes := by
 obtain ⟨i, hi, a, b, c⟩ := info_parts h2
 exact ⟨h1, h3, i, hi, a, b, c⟩
section
variable {α : Type} [Rep α] {S : Nat → Prop} {base : Nat} {P : Program} {w : World} {v u : Value} {l m : List α} {t e : TypeId} {z : Value} {bytes : Nat}
theorem run_append_L (ei : EI P t e z (Rep.k α) bytes) (ty : TypeId) (hown : OwnL S base e w v l) (hu : SLe (avoid S v) w u m)
  (n : Nat) (hn : l.length + m.length = n) (lm : List α) (hlm : l ++ m = lm) (h63 : n ≤ maxLen) (hbytes : n * bytes ≤ 140737488355328) (hbase : base ≤ w.heap.size) :
  ∃ p c w', (Builtin.append_ #[t, t] ty #[v, u]).run P w = .ok (.slice p n c) w' ∧ OwnL S base e w' (.slice p n c) lm ∧ w.grownBy w' v.ownBlock := by
 subst hn hlm
 obtain ⟨ht, hzs, i, hi, hz, hsize, hby⟩ := ei
 obtain ⟨xs, ho, hr⟩ := hown
 obtain ⟨pu, cu, b, o, rfl, hcu, _, hp, hat⟩ := hu
 obtain ⟨news, hl, hnw, h1, hrs⟩ := cells_of_at m o hat
 by_cases hm : m = []
 ·subst hm
  have hform := OwnL.form (S := S) ⟨xs, ho, hr⟩
  obtain ⟨p, c, rfl, hle, _⟩ := hform
  have h0 : news = [] := List.eq_nil_of_length_eq_zero (by simpa using hl)
  subst h0
  cases pu with
  | none =>
   refine ⟨p, c, w, ?_, by rw [List.append_nil]; exact (⟨xs, ho, hr⟩ : OwnL S base e w _ l), World.grownBy.refl _ _⟩
   have hc : l.length ≤ c := by
    rcases ho.2 with ⟨h, h0⟩ | ⟨g, cap, cur, hv, _, _, hle, _⟩
    ·rw [h0]; exact Nat.zero_le _
    ·injection hv
   simp [Builtin.append_, run_underlying ht, sizeOf, typeInfo, hi, Builtin.lenOf, Builtin.firstCells, hc]
   cases p <;> simp [storeCells]
  | some a =>
   have hc : l.length ≤ c := by
    rcases ho.2 with ⟨h, h0⟩ | ⟨g, cap, cur, hv, _, _, hle, _⟩
    ·rw [h0]; exact Nat.zero_le _
    ·injection hv
   refine ⟨p, c, w, ?_, by rw [List.append_nil]; exact (⟨xs, ho, hr⟩ : OwnL S base e w _ l), World.grownBy.refl _ _⟩
   simp [Builtin.append_, run_underlying ht, sizeOf, typeInfo, hi, Builtin.lenOf, Builtin.firstCells, hc, loadCells, loadCellsFrom]
   cases p <;> simp [storeCells]
 ·have hpos : 0 < m.length := List.length_pos_iff.2 hm
  obtain rfl := hp hpos
  obtain ⟨g, cap, w', hrun, h2, h3, h4, _⟩ := run_append_lies (P := P) w t ty base e i z (Rep.k α) bytes ht hi hz hsize hby hzs Rep.pos v l.length xs ho ⟨b, o, none⟩ m.length cu news hl
   (fun j x hj => by rw [Addr.add_lit]; exact hnw j x hj) h1 hpos h63 hbytes hbase w.heap.size rfl
  refine ⟨_, _, w', hrun, ⟨xs ++ news, by simpa using h2, fun k hk => ?_⟩, h3⟩
  -- what the elements lead to: kept, and not in the new row
  have hkp : Keeps (avoid S v) w w' := Keeps.grown h3 fun j hj _ => .inr hj
  have fresh : ∀ {cs : List Value} {x : α}, Rep.rep (avoid S v) w cs x → Rep.rep (avoid S (.slice (some ⟨g, 0, none⟩) (l.length + m.length) cap)) w' cs x := fun {cs x} hx => by
   have hT : Rep.rep (fun j => avoid S v j ∨ g = j) w cs x := Rep.weak (fun j hj hs => by
    rcases hs with hs | rfl
    ·exact hs
    ·rcases h4 with h4 | h4
     ·exact .inr h4
     ·omega) hx
   exact Rep.weak (fun j _ hs => by
    rcases hs with hs | hs
    ·exact .inl (.inl hs)
    ·simp [Value.ownBlock] at hs; exact .inr hs) (Rep.keep (hkp.mono fun j _ hs => .inl hs) hT)
  have hxl : xs.length = l.length * Rep.k α := ho.1
  by_cases hkl : k < l.length
  ·have e1 : ((xs ++ news).drop (k * Rep.k α)).take (Rep.k α) = (xs.drop (k * Rep.k α)).take (Rep.k α) := by
    have : k * Rep.k α + Rep.k α ≤ xs.length := by
     rw [hxl, ← Nat.succ_mul]; exact Nat.mul_le_mul_right _ hkl
    rw [List.drop_append_of_le_length (by omega), List.take_append_of_le_length (by rw [List.length_drop]; omega)]
   rw [e1, List.getElem_append_left hkl]
   exact fresh (hr k hkl)
  ·have hk' : k - l.length < m.length := by simp at hk; omega
   have e1 : (xs ++ news).drop (k * Rep.k α) = news.drop ((k - l.length) * Rep.k α) := by
    rw [List.drop_append, List.drop_of_length_le (by rw [hxl]; exact Nat.mul_le_mul_right _ (by omega)), List.nil_append, hxl, ← Nat.sub_mul]
   rw [e1, List.getElem_append_right (by omega)]
   exact fresh (hrs _ hk')
theorem wp_append_L {o : Oper} {a : Act} {K : Act → World → Prop} {Q : Exit → Act → World → Prop} (ei : EI P t e z (Rep.k α) bytes) (s x : Operand)
  (ho : o.op = .call { callee := .builtin .append, args := #[s, x], argTypes := #[t, t] }) (hs : a.eval s = v) (hx : a.eval x = u) (hown : OwnL S base e w v l) (hu : SLe (avoid S v) w u m)
  (n : Nat) (hn : l.length + m.length = n) (lm : List α) (hlm : l ++ m = lm) (h63 : n ≤ maxLen) (hbytes : n * bytes ≤ 140737488355328) (hbase : base ≤ w.heap.size)
  (h : ∀ p c w', OwnL S base e w' (.slice p n c) lm → w.grownBy w' v.ownBlock → K (a.put o.dst (.slice p n c)) w') : o.wp P a w K Q := by
 obtain ⟨p, c, w', hr, h2, h3⟩ := run_append_L ei o.type hown hu n hn lm hlm h63 hbytes hbase
 unfold Oper.wp execOp
 simp only [ho, resolve, invoke, builtin, Sem.run_bind, Sem.run_pure, Result.andThen_ok, List.map_toArray, List.map_cons, List.map_nil, hs, hx, hr]
 exact h p c w' h2 h3
theorem wpl_append {ops : Array Oper} {rest : List Oper} {o : Oper} {a : Act} {Q : Exit → Act → World → Prop} (ei : EI P t e z (Rep.k α) bytes) (hgd : o.guard = none) (s x : Operand)
  (ho : o.op = .call { callee := .builtin .append, args := #[s, x], argTypes := #[t, t] }) (hs : a.eval s = v) (hx : a.eval x = u) (hown : OwnL S base e w v l) (hu : SLe (avoid S v) w u m)
  (n : Nat) (hn : l.length + m.length = n) (lm : List α) (hlm : l ++ m = lm) (h63 : n ≤ maxLen) (hbytes : n * bytes ≤ 140737488355328) (hbase : base ≤ w.heap.size)
  (h : ∀ p c w', OwnL S base e w' (.slice p n c) lm → w.grownBy w' v.ownBlock → wpList P ops Q rest (a.put o.dst (.slice p n c)) w') : wpList P ops Q (o :: rest) a w :=
 wpList_plain hgd fun _ hK => wp_append_L ei s x ho hs hx hown hu n hn lm hlm h63 hbytes hbase fun p c w' h2 h3 => hK _ _ (h p c w' h2 h3)
end
theorem SL.one {α : Type} [Rep α] {S : Nat → Prop} {w : World} {cs : List Value} {x : α} (ty : TypeId) (h : Rep.rep S w cs x) (hs : ¬ S w.heap.size) :
  SL S (w.alloc (.cells cs.toArray ty)) (.slice (some ⟨w.heap.size, 0, none⟩) 1 1) [x] := by
 refine ⟨_, 1, w.heap.size, 0, rfl, Nat.le_refl _, by simp, fun _ => rfl, fun i hi => ?_⟩
 obtain rfl : i = 0 := by simpa using hi
 refine ⟨by simp, hs, cs, Rep.keep (.alloc _ _) h, fun j u hj => ?_⟩
 simp only [Nat.zero_mul, Nat.zero_add, Nat.add_zero]
 rw [World.cell?_alloc_new]
 simpa using hj
theorem SLe.one {α : Type} [Rep α] {S : Nat → Prop} {w : World} {cs : List Value} {x : α} (ty : TypeId) (h : Rep.rep S w cs x) :
  SLe S (w.alloc (.cells cs.toArray ty)) (.slice (some ⟨w.heap.size, 0, none⟩) 1 1) [x] := by
 refine ⟨_, 1, w.heap.size, 0, rfl, Nat.le_refl _, by simp, fun _ => rfl, fun i hi => ?_⟩
 obtain rfl : i = 0 := by simpa using hi
 refine ⟨cs, Rep.keep (.alloc _ _) h, fun j u hj => ?_⟩
 simp only [Nat.zero_mul, Nat.zero_add, Nat.add_zero]
 rw [World.cell?_alloc_new]
 simpa using hj
def Bx (w : World) (g : Nat) (cs : List Value) (T : TypeId) : Prop := w.heap[g]? = some (.cells cs.toArray T (0, 0))
structure Wrote (g : Nat) (w w' : World) : Prop where
 os : w'.os = w.os
 tape : w'.tape = w.tape
 output : w'.output = w.output
 size : w'.heap.size = w.heap.size
 block : ∀ k, k ≠ g → w'.heap[k]? = w.heap[k]?
section
variable {w w' : World} {g : Nat} {cs : List Value} {T : TypeId}
theorem Bx.cell (h : Bx w g cs T) (i : Nat) : w.cell? ⟨g, i, none⟩ = cs[i]? := by
 unfold Bx at h; simp [World.cell?, h]
theorem Bx.frozen (h : Bx w g cs T) (i : Nat) : w.frozen? ⟨g, i, none⟩ = false := by
 unfold Bx at h; simp [World.frozen?, h]
theorem Bx.lt (h : Bx w g cs T) : g < w.heap.size := (Array.getElem?_eq_some_iff.1 h).1
theorem Bx.step (h : Bx w g cs T) (hs : Step w w') : Bx w' g cs T := by
 have hl := h.lt
 unfold Bx at *; rw [hs.below.block g hl]; exact h
theorem Bx.keep {S : Nat → Prop} (h : Bx w g cs T) (hk : Keeps S w w') (hs : ¬ S g) : Bx w' g cs T := by
 have hl := h.lt
 unfold Bx at *; rw [hk.2 g hl hs]; exact h
theorem Bx.new (w : World) (cs : List Value) (T : TypeId) : Bx (w.alloc (.cells cs.toArray T)) w.heap.size cs T := heap_alloc_new w _
theorem Bx.alloc (h : Bx w g cs T) (o : Obj) : Bx (w.alloc o) g cs T := h.step (.alloc _ _)
theorem Wrote.keeps (h : Wrote g w w') : Keeps (fun j => j = g) w w' := ⟨Nat.le_of_eq h.size.symm, fun j _ hj => h.block j hj⟩
theorem Wrote.below {B : Nat} (h : Wrote g w w') (hB : B ≤ g) : Below B w w' := ⟨h.os, h.tape, h.output, Nat.le_of_eq h.size.symm, fun k hk => h.block k (by omega)⟩
theorem Wrote.grown (h : Wrote g w w') : w.grownBy w' (some g) := ⟨h.os, h.tape, h.output, Nat.le_of_eq h.size.symm, fun k _ hk => h.block k (fun e => hk (by rw [e]))⟩
theorem Wrote.setCell (w : World) (g o : Nat) (v : Value) : Wrote g w (w.setCell ⟨g, o, none⟩ v) :=
 ⟨rfl, rfl, rfl, by simp, fun k hk => Below.heap_setCell w ⟨g, o, none⟩ v k hk⟩
theorem Bx.setCell (h : Bx w g cs T) (o : Nat) (v : Value) : Bx (w.setCell ⟨g, o, none⟩ v) g (cs.set o v) T := by
 unfold Bx at *
 simp [World.setCell, Array.getElem?_modify, h]
theorem Bx.setOther (h : Bx w g cs T) {b o : Nat} {v : Value} (hb : g ≠ b) : Bx (w.setCell ⟨b, o, none⟩ v) g cs T := by
 unfold Bx at *; rw [Below.heap_setCell w ⟨b, o, none⟩ v g hb]; exact h
theorem wp_store_L {P : Program} {o : Oper} {a : Act} {K : Act → World → Prop} {Q : Exit → Act → World → Prop} {off : Nat} {v : Value} (ty : TypeId) (x y : Operand) (ho : o.op = .store ty x y)
  (hx : a.eval x = .pointer (some ⟨g, off, none⟩)) (hy : a.eval y = v) (hb : Bx w g cs T) (hi : (P.info? ty).map (·.size) = some v.cells.size) (hfit : off + v.cells.size ≤ cs.length) (h1 : ∀ u ∈ v.cells.toList, u.oneCell' = true)
  (new : List Value) (hnew : cs.take off ++ v.cells.toList ++ cs.drop (off + v.cells.size) = new)
  (hK : ∀ w', Bx w' g new T → Wrote g w w' → K (a.put o.dst undef) w') : o.wp P a w K Q := by
 subst hnew
 obtain ⟨i, hi1, hi2⟩ := Option.map_eq_some_iff.1 hi
 have hr := run_storeCells_at P g off T v.cells.toList 0 cs.toArray w hb (by simpa using hfit) h1
 have hs : (storeVar ty ⟨g, off, none⟩ v).run P w = .ok () (w.setRow g (cs.take off ++ v.cells.toList ++ cs.drop (off + v.cells.size)).toArray) := by
  simp only [Nat.add_zero, Array.length_toList] at hr
  simp [storeVar, sizeOf, typeInfo, hi1, hi2, Result.andThen]
  simpa using hr
 unfold Oper.wp execOp
 simp only [ho, hx, hy, Instr.storeAt, Instr.sureAddr, Sem.run_bind, Sem.run_pure, Result.andThen_ok, hs]
 exact hK _ (setRow_heap w g _ _ T (0, 0) hb) ⟨rfl, rfl, rfl, by simp [World.setRow], fun k hk => setRow_other w g k _ hk⟩
theorem wpl_store {P : Program} {ops : Array Oper} {rest : List Oper} {o : Oper} {a : Act} {Q : Exit → Act → World → Prop} {off : Nat} {v : Value} (hgd : o.guard = none) (ty : TypeId) (x y : Operand) (ho : o.op = .store ty x y)
  (hx : a.eval x = .pointer (some ⟨g, off, none⟩)) (hy : a.eval y = v) (hb : Bx w g cs T) (hi : (P.info? ty).map (·.size) = some v.cells.size) (hfit : off + v.cells.size ≤ cs.length) (h1 : ∀ u ∈ v.cells.toList, u.oneCell' = true)
  (new : List Value) (hnew : cs.take off ++ v.cells.toList ++ cs.drop (off + v.cells.size) = new)
  (hK : ∀ w', Bx w' g new T → Wrote g w w' → wpList P ops Q rest (a.put o.dst undef) w') : wpList P ops Q (o :: rest) a w :=
 wpList_plain hgd fun _ hK' => wp_store_L ty x y ho hx hy hb hi hfit h1 new hnew fun w' h2 h3 => hK' _ _ (hK w' h2 h3)
end
theorem Step.wrote {w0 w w' : World} {g : Nat} (h : Step w0 w) (hw : Wrote g w w') (hg : w0.heap.size ≤ g) : Step w0 w' := .of (h.below.trans (hw.below hg))
theorem SL.later {α : Type} [Rep α] {S : Nat → Prop} {W w1 w' : World} {v : Value} {l : List α} (h : SL (Old W) w1 v l) (hs : ∀ j, j < w1.heap.size → S j → j < W.heap.size) (hk : Keeps S w1 w') : SL S w' v l :=
 (h.weak hs).keep hk
theorem Keeps.wrote {S : Nat → Prop} {w w' : World} {g : Nat} (h : Wrote g w w') (hs : S g) : Keeps S w w' := h.keeps.mono fun _ _ hj => hj ▸ hs
section
variable {S : Nat → Prop} {a b c : World}
theorem Keeps.s_alloc (o : Obj) (h : Keeps S a b) : Keeps S a (b.alloc o) := h.trans (.alloc _ _)
theorem Keeps.s_drew (h : Keeps S a b) : Keeps S a b.drew := h.trans (.drew _)
theorem Keeps.s_drewN (n : Nat) (h : Keeps S a b) : Keeps S a (b.drewN n) := h.trans (.of_step (.drewN _ _))
theorem Step.s_alloc (o : Obj) (h : Step a b) : Step a (b.alloc o) := h.alloc' o
theorem Step.s_drew (h : Step a b) : Step a b.drew := h.drew'
theorem Step.s_drewN (n : Nat) (h : Step a b) : Step a (b.drewN n) := Step.trans h (.drewN _ _)
end
theorem SLe.step {α : Type} [Rep α] {S : Nat → Prop} {w w' : World} {v : Value} {l : List α} (h : SLe S w v l) (hs : Step w w') : SLe S w' v l := by
 obtain ⟨p, c, b, o, hv, hc, hm, hp, ha⟩ := h
 refine ⟨p, c, b, o, hv, hc, hm, hp, fun i hi => ?_⟩
 obtain ⟨cs, hr, hcs⟩ := ha i hi
 exact ⟨cs, Rep.keep (.of_step hs) hr, fun j v hj => (Keeps.of_step (S := fun _ => False) hs).cell id (hcs j v hj)⟩
theorem OwnL.step {α : Type} [Rep α] {S : Nat → Prop} {base : Nat} {e : TypeId} {w w' : World} {v : Value} {l : List α} (h : OwnL S base e w v l) (hs : Step w w') : OwnL S base e w' v l := h.below hs.below
theorem OwnL.wrote {α : Type} [Rep α] {S : Nat → Prop} {base : Nat} {e : TypeId} {w w' : World} {v : Value} {l : List α} {g : Nat} (h : OwnL S base e w v l) (hw : Wrote g w w') (hs : S g) (hg : v.ownBlock ≠ some g) : OwnL S base e w' v l :=
 h.kept (.wrote hw hs) fun k hk => hw.block k (fun e => hg (e ▸ hk))
def SI (P : Program) (T : TypeId) (k : Nat) : Prop := (∃ fs, P.underlying T = some (.struct fs)) ∧ (P.info? T).map (·.size) = some k
theorem run_loadVar_bx {P : Program} {T T' : TypeId} {k g : Nat} {cs : List Value} {w : World} (hi : SI P T k) (hb : Bx w g cs T') (hk : cs.length = k) : (loadVar T ⟨g, 0, none⟩).run P w = .ok (.agg cs.toArray) w := by
 obtain ⟨⟨fs, h1⟩, h2⟩ := hi
 exact run_loadVar_row w g T' T cs.toArray (0, 0) _ hb h1 rfl (by simpa [hk] using h2)
theorem ret_struct {P : Program} {fn : Func} {R : Ending → World → Prop} {a : Act} {w : World} {t : Tmp} {T T' : TypeId} {k g : Nat} {cs : List Value} (hr : fn.results = #[.cell t T]) (hi : SI P T k)
  (ht : a.tmps.getD t undef = .pointer (some ⟨g, 0, none⟩)) (hb : Bx w g cs T') (hk : cs.length = k) (hd : a.defers = []) (hR : R (.returned (.agg cs.toArray)) w) : bodyPost P fn R .ret a w := by
 refine bodyPost_ret (v := .agg cs.toArray) ?_ hd hR
 have ht' : a.tmps[t]?.getD undef = .pointer (some ⟨g, 0, none⟩) := by simpa using ht
 simp [results, hr, ht', asAddr, run_loadVar_bx hi hb hk]
end Go.BT
namespace Go.BT
open Go.RowKit
structure Tst where
 soil : Int
 depth : Int
 force : Int
 held : Bool
 deriving DecidableEq, Inhabited
structure Rng where
 lo : Int
 hi : Int
 deriving DecidableEq, Inhabited
structure Vec where
 x : Int
 y : Int
 deriving DecidableEq, Inhabited
structure Guy where
 x : Int
 y : Int
 down : Int
 soil : Int
 depth : Int
 deriving DecidableEq, Inhabited
structure Head where
 area : Int
 bears : Int
 guys : List Guy
 deriving DecidableEq, Inhabited
structure Bal where
 whole : Int
 parts : List Int
 deriving DecidableEq, Inhabited
structure Meas where
 area : Int
 bears : Int
 guys : List Guy
 forces : List Vec
 deriving DecidableEq, Inhabited
instance : Rep Tst where
 k := 4
 rep _ _ cs x := cs = [.int .i64 x.soil, .int .i64 x.depth, .int .i64 x.force, .bool x.held]
 len h := by rw [h]; rfl
 keep _ h := h
 weak _ h := h
 one h := by subst h; simp [Value.oneCell']
 pos := by decide
instance : Flat Tst where
 flat h := h
instance : Rep Rng where
 k := 2
 rep _ _ cs x := cs = [.int .i64 x.lo, .int .i64 x.hi]
 len h := by rw [h]; rfl
 keep _ h := h
 weak _ h := h
 one h := by subst h; simp [Value.oneCell']
 pos := by decide
instance : Flat Rng where
 flat h := h
instance : Rep Vec where
 k := 2
 rep _ _ cs x := cs = [.int .i64 x.x, .int .i64 x.y]
 len h := by rw [h]; rfl
 keep _ h := h
 weak _ h := h
 one h := by subst h; simp [Value.oneCell']
 pos := by decide
instance : Flat Vec where
 flat h := h
instance : Rep Guy where
 k := 5
 rep _ _ cs x := cs = [.int .i64 x.x, .int .i64 x.y, .int .i64 x.down, .int .i64 x.soil, .int .i64 x.depth]
 len h := by rw [h]; rfl
 keep _ h := h
 weak _ h := h
 one h := by subst h; simp [Value.oneCell']
 pos := by decide
instance : Flat Guy where
 flat h := h
instance : Rep Head where
 k := 3
 rep S w cs x := ∃ c2, cs = [.int .i64 x.area, .int .i64 x.bears, c2] ∧ SL S w c2 x.guys
 len h := by obtain ⟨_, rfl, _⟩ := h; rfl
 keep hk h := by obtain ⟨c2, e, h2⟩ := h; exact ⟨c2, e, h2.keep hk⟩
 weak hk h := by obtain ⟨c2, e, h2⟩ := h; exact ⟨c2, e, h2.weak hk⟩
 one h := by
  obtain ⟨c2, rfl, h2⟩ := h
  obtain ⟨_, _, rfl⟩ := h2.form
  simp [Value.oneCell']
 pos := by decide
instance : Rep Bal where
 k := 2
 rep S w cs x := ∃ c1, cs = [.int .i64 x.whole, c1] ∧ SL S w c1 x.parts
 len h := by obtain ⟨_, rfl, _⟩ := h; rfl
 keep hk h := by obtain ⟨c1, e, h1⟩ := h; exact ⟨c1, e, h1.keep hk⟩
 weak hk h := by obtain ⟨c1, e, h1⟩ := h; exact ⟨c1, e, h1.weak hk⟩
 one h := by
  obtain ⟨c1, rfl, h1⟩ := h
  obtain ⟨_, _, rfl⟩ := h1.form
  simp [Value.oneCell']
 pos := by decide
instance : Rep Meas where
 k := 4
 rep S w cs x := ∃ c2 c3, cs = [.int .i64 x.area, .int .i64 x.bears, c2, c3] ∧ SL S w c2 x.guys ∧ SL S w c3 x.forces
 len h := by obtain ⟨_, _, rfl, _⟩ := h; rfl
 keep hk h := by obtain ⟨c2, c3, e, h2, h3⟩ := h; exact ⟨c2, c3, e, h2.keep hk, h3.keep hk⟩
 weak hk h := by obtain ⟨c2, c3, e, h2, h3⟩ := h; exact ⟨c2, c3, e, h2.weak hk, h3.weak hk⟩
 one h := by
  obtain ⟨c2, c3, rfl, h2, h3⟩ := h
  obtain ⟨_, _, rfl⟩ := h2.form; obtain ⟨_, _, rfl⟩ := h3.form
  simp [Value.oneCell']
 pos := by decide
def AV {α : Type} [Rep α] (S : Nat → Prop) (w : World) (v : Value) (x : α) : Prop := ∃ cs, v = .agg cs.toArray ∧ Rep.rep S w cs x
theorem AV.keep {α : Type} [Rep α] {S : Nat → Prop} {w w' : World} {v : Value} {x : α} (hk : Keeps S w w') (h : AV S w v x) : AV S w' v x := by
 obtain ⟨cs, e, h⟩ := h; exact ⟨cs, e, Rep.keep hk h⟩
theorem AV.weak {α : Type} [Rep α] {S T : Nat → Prop} {w : World} {v : Value} {x : α} (hk : ∀ j, j < w.heap.size → T j → S j) (h : AV S w v x) : AV T w v x := by
 obtain ⟨cs, e, h⟩ := h; exact ⟨cs, e, Rep.weak hk h⟩
theorem AV.triv {α : Type} [Rep α] {S : Nat → Prop} {w : World} {v : Value} {x : α} (h : AV S w v x) : AV (fun _ => False) w v x := h.weak fun _ _ h => h.elim
theorem AV.later {α : Type} [Rep α] {S : Nat → Prop} {W w1 w' : World} {v : Value} {x : α} (h : AV (Old W) w1 v x) (hs : ∀ j, j < w1.heap.size → S j → j < W.heap.size) (hk : Keeps S w1 w') : AV S w' v x :=
 (h.weak hs).keep hk
theorem SL.tsts {S : Nat → Prop} {w : World} {v : Value} {l : List Tst} (h : SL S w v l) :
  ∃ p c b o, v = .slice p l.length c ∧ l.length ≤ c ∧ l.length ≤ 9223372036854775807 ∧ (0 < l.length → p = some ⟨b, o, none⟩) ∧
   (∀ i (h : i < l.length), w.cell? ⟨b, o + i * 4, none⟩ = some (.int .i64 l[i].soil) ∧ w.cell? ⟨b, o + i * 4 + 1, none⟩ = some (.int .i64 l[i].depth) ∧ w.cell? ⟨b, o + i * 4 + 2, none⟩ = some (.int .i64 l[i].force) ∧ w.cell? ⟨b, o + i * 4 + 3, none⟩ = some (.bool l[i].held)) ∧ (0 < l.length → b < w.heap.size ∧ ¬ S b) := by
 obtain ⟨p, c, b, o, hv, hc, hm, hp, ha⟩ := h
 refine ⟨p, c, b, o, hv, hc, hm, hp, fun i hi => ?_, fun h0 => ⟨(ha 0 h0).1, (ha 0 h0).2.1⟩⟩
 obtain ⟨_, _, cs, hr, hcs⟩ := ha i hi
 have hr' : cs = [.int .i64 l[i].soil, .int .i64 l[i].depth, .int .i64 l[i].force, .bool l[i].held] := hr
 subst hr'
 exact ⟨hcs 0 _ rfl, hcs 1 _ rfl, hcs 2 _ rfl, hcs 3 _ rfl⟩
theorem SL.rngs {S : Nat → Prop} {w : World} {v : Value} {l : List Rng} (h : SL S w v l) :
  ∃ p c b o, v = .slice p l.length c ∧ l.length ≤ c ∧ l.length ≤ 9223372036854775807 ∧ (0 < l.length → p = some ⟨b, o, none⟩) ∧
   (∀ i (h : i < l.length), w.cell? ⟨b, o + i * 2, none⟩ = some (.int .i64 l[i].lo) ∧ w.cell? ⟨b, o + i * 2 + 1, none⟩ = some (.int .i64 l[i].hi)) ∧ (0 < l.length → b < w.heap.size ∧ ¬ S b) := by
 obtain ⟨p, c, b, o, hv, hc, hm, hp, ha⟩ := h
 refine ⟨p, c, b, o, hv, hc, hm, hp, fun i hi => ?_, fun h0 => ⟨(ha 0 h0).1, (ha 0 h0).2.1⟩⟩
 obtain ⟨_, _, cs, hr, hcs⟩ := ha i hi
 have hr' : cs = [.int .i64 l[i].lo, .int .i64 l[i].hi] := hr
 subst hr'
 exact ⟨hcs 0 _ rfl, hcs 1 _ rfl⟩
theorem AV.rng {S : Nat → Prop} {w : World} {v : Value} {x : Rng} (hv : AV S w v x) : v = .agg #[.int .i64 x.lo, .int .i64 x.hi] := by
 obtain ⟨cs, rfl, hr⟩ := hv
 rw [show cs = [.int .i64 x.lo, .int .i64 x.hi] from hr]
theorem SL.vecs {S : Nat → Prop} {w : World} {v : Value} {l : List Vec} (h : SL S w v l) :
  ∃ p c b o, v = .slice p l.length c ∧ l.length ≤ c ∧ l.length ≤ 9223372036854775807 ∧ (0 < l.length → p = some ⟨b, o, none⟩) ∧
   (∀ i (h : i < l.length), w.cell? ⟨b, o + i * 2, none⟩ = some (.int .i64 l[i].x) ∧ w.cell? ⟨b, o + i * 2 + 1, none⟩ = some (.int .i64 l[i].y)) ∧ (0 < l.length → b < w.heap.size ∧ ¬ S b) := by
 obtain ⟨p, c, b, o, hv, hc, hm, hp, ha⟩ := h
 refine ⟨p, c, b, o, hv, hc, hm, hp, fun i hi => ?_, fun h0 => ⟨(ha 0 h0).1, (ha 0 h0).2.1⟩⟩
 obtain ⟨_, _, cs, hr, hcs⟩ := ha i hi
 have hr' : cs = [.int .i64 l[i].x, .int .i64 l[i].y] := hr
 subst hr'
 exact ⟨hcs 0 _ rfl, hcs 1 _ rfl⟩
theorem SL.guys {S : Nat → Prop} {w : World} {v : Value} {l : List Guy} (h : SL S w v l) :
  ∃ p c b o, v = .slice p l.length c ∧ l.length ≤ c ∧ l.length ≤ 9223372036854775807 ∧ (0 < l.length → p = some ⟨b, o, none⟩) ∧
   (∀ i (h : i < l.length), w.cell? ⟨b, o + i * 5, none⟩ = some (.int .i64 l[i].x) ∧ w.cell? ⟨b, o + i * 5 + 1, none⟩ = some (.int .i64 l[i].y) ∧ w.cell? ⟨b, o + i * 5 + 2, none⟩ = some (.int .i64 l[i].down) ∧ w.cell? ⟨b, o + i * 5 + 3, none⟩ = some (.int .i64 l[i].soil) ∧ w.cell? ⟨b, o + i * 5 + 4, none⟩ = some (.int .i64 l[i].depth)) ∧ (0 < l.length → b < w.heap.size ∧ ¬ S b) := by
 obtain ⟨p, c, b, o, hv, hc, hm, hp, ha⟩ := h
 refine ⟨p, c, b, o, hv, hc, hm, hp, fun i hi => ?_, fun h0 => ⟨(ha 0 h0).1, (ha 0 h0).2.1⟩⟩
 obtain ⟨_, _, cs, hr, hcs⟩ := ha i hi
 have hr' : cs = [.int .i64 l[i].x, .int .i64 l[i].y, .int .i64 l[i].down, .int .i64 l[i].soil, .int .i64 l[i].depth] := hr
 subst hr'
 exact ⟨hcs 0 _ rfl, hcs 1 _ rfl, hcs 2 _ rfl, hcs 3 _ rfl, hcs 4 _ rfl⟩
theorem AV.head {S : Nat → Prop} {w : World} {v : Value} {x : Head} (hv : AV S w v x) : ∃ c2, v = .agg #[.int .i64 x.area, .int .i64 x.bears, c2] ∧ SL S w c2 x.guys := by
 obtain ⟨cs, rfl, c2, rfl, r⟩ := hv; exact ⟨c2, rfl, r⟩
theorem SL.heads {S : Nat → Prop} {w : World} {v : Value} {l : List Head} (h : SL S w v l) :
  ∃ p c b o, v = .slice p l.length c ∧ l.length ≤ c ∧ l.length ≤ 9223372036854775807 ∧ (0 < l.length → p = some ⟨b, o, none⟩) ∧
   (∀ i (h : i < l.length), ∃ c2, w.cell? ⟨b, o + i * 3, none⟩ = some (.int .i64 l[i].area) ∧ w.cell? ⟨b, o + i * 3 + 1, none⟩ = some (.int .i64 l[i].bears) ∧ w.cell? ⟨b, o + i * 3 + 2, none⟩ = some c2 ∧ SL S w c2 l[i].guys) ∧ (0 < l.length → b < w.heap.size ∧ ¬ S b) := by
 obtain ⟨p, c, b, o, hv, hc, hm, hp, ha⟩ := h
 refine ⟨p, c, b, o, hv, hc, hm, hp, fun i hi => ?_, fun h0 => ⟨(ha 0 h0).1, (ha 0 h0).2.1⟩⟩
 obtain ⟨_, _, cs, hr, hcs⟩ := ha i hi
 obtain ⟨c2, rfl, r⟩ := hr
 exact ⟨c2, hcs 0 _ rfl, hcs 1 _ rfl, hcs 2 _ rfl, r⟩
end Go.BT
namespace Go.BT
open Go.RowKit
structure Rdg where
 hour : Int
 lo : Int
 hi : Int
 deriving DecidableEq, Inhabited
structure Lvl where
 upto : Int
 push : Int
 deriving DecidableEq, Inhabited
structure Stg where
 cover : Int
 minutes : Int
 deriving DecidableEq, Inhabited
structure Site where
 base : List Vec
 levels : List Lvl
 stages : List Stg
 openS : Int
 deriving DecidableEq, Inhabited
instance : Rep Rdg where
 k := 3
 rep _ _ cs x := cs = [.int .i64 x.hour, .int .i64 x.lo, .int .i64 x.hi]
 len h := by rw [h]; rfl
 keep _ h := h
 weak _ h := h
 one h := by subst h; simp [Value.oneCell']
 pos := by decide
instance : Flat Rdg where
 flat h := h
instance : Rep Lvl where
 k := 2
 rep _ _ cs x := cs = [.int .i64 x.upto, .int .i64 x.push]
 len h := by rw [h]; rfl
 keep _ h := h
 weak _ h := h
 one h := by subst h; simp [Value.oneCell']
 pos := by decide
instance : Flat Lvl where
 flat h := h
instance : Rep Stg where
 k := 2
 rep _ _ cs x := cs = [.int .i64 x.cover, .int .i64 x.minutes]
 len h := by rw [h]; rfl
 keep _ h := h
 weak _ h := h
 one h := by subst h; simp [Value.oneCell']
 pos := by decide
instance : Flat Stg where
 flat h := h
instance : Rep Site where
 k := 4
 rep S w cs x := ∃ c0 c1 c2, cs = [c0, c1, c2, .int .i64 x.openS] ∧ SL S w c0 x.base ∧ SL S w c1 x.levels ∧ SL S w c2 x.stages
 len h := by obtain ⟨_, _, _, rfl, _⟩ := h; rfl
 keep hk h := by obtain ⟨c0, c1, c2, e, h0, h1, h2⟩ := h; exact ⟨c0, c1, c2, e, h0.keep hk, h1.keep hk, h2.keep hk⟩
 weak hk h := by obtain ⟨c0, c1, c2, e, h0, h1, h2⟩ := h; exact ⟨c0, c1, c2, e, h0.weak hk, h1.weak hk, h2.weak hk⟩
 one h := by
  obtain ⟨c0, c1, c2, rfl, h0, h1, h2⟩ := h
  obtain ⟨_, _, rfl⟩ := h0.form; obtain ⟨_, _, rfl⟩ := h1.form; obtain ⟨_, _, rfl⟩ := h2.form
  simp [Value.oneCell']
 pos := by decide
theorem SL.rdgs {S : Nat → Prop} {w : World} {v : Value} {l : List Rdg} (h : SL S w v l) :
  ∃ p c b o, v = .slice p l.length c ∧ l.length ≤ c ∧ l.length ≤ 9223372036854775807 ∧ (0 < l.length → p = some ⟨b, o, none⟩) ∧
   (∀ i (h : i < l.length), w.cell? ⟨b, o + i * 3, none⟩ = some (.int .i64 l[i].hour) ∧ w.cell? ⟨b, o + i * 3 + 1, none⟩ = some (.int .i64 l[i].lo) ∧ w.cell? ⟨b, o + i * 3 + 2, none⟩ = some (.int .i64 l[i].hi)) ∧ (0 < l.length → b < w.heap.size ∧ ¬ S b) := by
 obtain ⟨p, c, b, o, hv, hc, hm, hp, ha⟩ := h
 refine ⟨p, c, b, o, hv, hc, hm, hp, fun i hi => ?_, fun h0 => ⟨(ha 0 h0).1, (ha 0 h0).2.1⟩⟩
 obtain ⟨_, _, cs, hr, hcs⟩ := ha i hi
 have hr' : cs = [.int .i64 l[i].hour, .int .i64 l[i].lo, .int .i64 l[i].hi] := hr
 subst hr'
 exact ⟨hcs 0 _ rfl, hcs 1 _ rfl, hcs 2 _ rfl⟩
theorem SL.lvls {S : Nat → Prop} {w : World} {v : Value} {l : List Lvl} (h : SL S w v l) :
  ∃ p c b o, v = .slice p l.length c ∧ l.length ≤ c ∧ l.length ≤ 9223372036854775807 ∧ (0 < l.length → p = some ⟨b, o, none⟩) ∧
   (∀ i (h : i < l.length), w.cell? ⟨b, o + i * 2, none⟩ = some (.int .i64 l[i].upto) ∧ w.cell? ⟨b, o + i * 2 + 1, none⟩ = some (.int .i64 l[i].push)) ∧ (0 < l.length → b < w.heap.size ∧ ¬ S b) := by
 obtain ⟨p, c, b, o, hv, hc, hm, hp, ha⟩ := h
 refine ⟨p, c, b, o, hv, hc, hm, hp, fun i hi => ?_, fun h0 => ⟨(ha 0 h0).1, (ha 0 h0).2.1⟩⟩
 obtain ⟨_, _, cs, hr, hcs⟩ := ha i hi
 have hr' : cs = [.int .i64 l[i].upto, .int .i64 l[i].push] := hr
 subst hr'
 exact ⟨hcs 0 _ rfl, hcs 1 _ rfl⟩
theorem SL.stgs {S : Nat → Prop} {w : World} {v : Value} {l : List Stg} (h : SL S w v l) :
  ∃ p c b o, v = .slice p l.length c ∧ l.length ≤ c ∧ l.length ≤ 9223372036854775807 ∧ (0 < l.length → p = some ⟨b, o, none⟩) ∧
   (∀ i (h : i < l.length), w.cell? ⟨b, o + i * 2, none⟩ = some (.int .i64 l[i].cover) ∧ w.cell? ⟨b, o + i * 2 + 1, none⟩ = some (.int .i64 l[i].minutes)) ∧ (0 < l.length → b < w.heap.size ∧ ¬ S b) := by
 obtain ⟨p, c, b, o, hv, hc, hm, hp, ha⟩ := h
 refine ⟨p, c, b, o, hv, hc, hm, hp, fun i hi => ?_, fun h0 => ⟨(ha 0 h0).1, (ha 0 h0).2.1⟩⟩
 obtain ⟨_, _, cs, hr, hcs⟩ := ha i hi
 have hr' : cs = [.int .i64 l[i].cover, .int .i64 l[i].minutes] := hr
 subst hr'
 exact ⟨hcs 0 _ rfl, hcs 1 _ rfl⟩
theorem AV.site {S : Nat → Prop} {w : World} {v : Value} {x : Site} (hv : AV S w v x) : ∃ c0 c1 c2, v = .agg #[c0, c1, c2, .int .i64 x.openS] ∧ SL S w c0 x.base ∧ SL S w c1 x.levels ∧ SL S w c2 x.stages := by
 obtain ⟨cs, rfl, c0, c1, c2, rfl, r⟩ := hv; exact ⟨c0, c1, c2, rfl, r⟩
structure Fc where
 name : ByteArray
 hours : List Rng
 deriving DecidableEq, Inhabited
instance : Rep Fc where
 k := 2
 rep S w cs x := ∃ c1, cs = [.string x.name, c1] ∧ SL S w c1 x.hours ∧ x.name.size ≤ 9223372036854775807
 len h := by obtain ⟨_, rfl, _⟩ := h; rfl
 keep hk h := by obtain ⟨c1, e, h1, h2⟩ := h; exact ⟨c1, e, h1.keep hk, h2⟩
 weak hk h := by obtain ⟨c1, e, h1, h2⟩ := h; exact ⟨c1, e, h1.weak hk, h2⟩
 one h := by
  obtain ⟨c1, rfl, h1, _⟩ := h
  obtain ⟨_, _, rfl⟩ := h1.form
  simp [Value.oneCell']
 pos := by decide
theorem AV.fc {S : Nat → Prop} {w : World} {v : Value} {x : Fc} (hv : AV S w v x) : ∃ c1, v = .agg #[.string x.name, c1] ∧ SL S w c1 x.hours ∧ x.name.size ≤ 9223372036854775807 := by
 obtain ⟨cs, rfl, c1, rfl, r⟩ := hv; exact ⟨c1, rfl, r⟩
theorem SL.fcs {S : Nat → Prop} {w : World} {v : Value} {l : List Fc} (h : SL S w v l) :
  ∃ p c b o, v = .slice p l.length c ∧ l.length ≤ c ∧ l.length ≤ 9223372036854775807 ∧ (0 < l.length → p = some ⟨b, o, none⟩) ∧
   (∀ i (h : i < l.length), ∃ c1, w.cell? ⟨b, o + i * 2, none⟩ = some (.string l[i].name) ∧ w.cell? ⟨b, o + i * 2 + 1, none⟩ = some c1 ∧ SL S w c1 l[i].hours ∧ l[i].name.size ≤ 9223372036854775807) ∧ (0 < l.length → b < w.heap.size ∧ ¬ S b) := by
 obtain ⟨p, c, b, o, hv, hc, hm, hp, ha⟩ := h
 refine ⟨p, c, b, o, hv, hc, hm, hp, fun i hi => ?_, fun h0 => ⟨(ha 0 h0).1, (ha 0 h0).2.1⟩⟩
 obtain ⟨_, _, cs, hr, hcs⟩ := ha i hi
 obtain ⟨c1, rfl, r⟩ := hr
 exact ⟨c1, hcs 0 _ rfl, hcs 1 _ rfl, r⟩
instance : Rep UInt8 where
 k := 1
 rep _ _ cs x := cs = [.int .u8 (x.toNat : Int)]
 len h := by rw [h]; rfl
 keep _ h := h
 weak _ h := h
 one h := by subst h; simp [Value.oneCell']
 pos := by decide
theorem SL.bytes {S : Nat → Prop} {w : World} {v : Value} {l : List UInt8} (h : SL S w v l) :
  ∃ p c b o, v = .slice p l.length c ∧ l.length ≤ c ∧ l.length ≤ 9223372036854775807 ∧ (0 < l.length → p = some ⟨b, o, none⟩) ∧
   (∀ i (h : i < l.length), w.cell? ⟨b, o + i, none⟩ = some (.int .u8 (l[i].toNat : Int))) ∧ (0 < l.length → b < w.heap.size ∧ ¬ S b) := by
 obtain ⟨p, c, b, o, hv, hc, hm, hp, ha⟩ := h
 refine ⟨p, c, b, o, hv, hc, hm, hp, fun i hi => ?_, fun h0 => ⟨(ha 0 h0).1, (ha 0 h0).2.1⟩⟩
 obtain ⟨_, _, cs, hr, hcs⟩ := ha i hi
 have hr' : cs = [.int .u8 (l[i].toNat : Int)] := hr
 subst hr'
 have := hcs 0 _ rfl
 simpa [Rep.k] using this
end Go.BT
namespace Go.Proofs.YtfhmdpicoccnfaaGreat
set_option linter.unusedSimpArgs false
set_option linter.unusedVariables false
open Go.ChangeShapes Go.WideShapes Go.ChangeAt Go.RowKit Go.BT
theorem fields2 {cs : List Value} (h : cs.length = 2) : ∃ a b, cs = [a, b] := by
 match cs, h with
 | [a, b], _ => exact ⟨a, b, rfl⟩
theorem fields3 {cs : List Value} (h : cs.length = 3) : ∃ a b c, cs = [a, b, c] := by
 match cs, h with
 | [a, b, c], _ => exact ⟨a, b, c, rfl⟩
theorem fields4 {cs : List Value} (h : cs.length = 4) : ∃ a b c d, cs = [a, b, c, d] := by
 match cs, h with
 | [a, b, c, d], _ => exact ⟨a, b, c, d, rfl⟩
theorem fields5 {cs : List Value} (h : cs.length = 5) : ∃ a b c d e, cs = [a, b, c, d, e] := by
 match cs, h with
 | [a, b, c, d, e], _ => exact ⟨a, b, c, d, e, rfl⟩
def Opens (t : TypeId) (α : Type) [Rep α] : Prop := ∀ {H : Type} (enc : TypeId × Value → H) (w : World) (fuel : Nat) (cs : List Value) (x : DataW H × List MemPlace), DataW.trod enc Tryz.prog w 0 (fun _ => true) true fuel t cs = some x → ∃ y : α, Rep.rep (fun _ => False) w cs y
theorem opens_int {t : TypeId} (ht : Tryz.prog.underlying t = some (.int .i64)) : Opens t Int := by
 intro H enc w fuel cs x h
 cases fuel with
 | zero => simp [DataW.trod] at h
 | succ n =>
  unfold DataW.trod at h
  rw [ht] at h
  have h1 : ∃ n : Int, cs = [.int .i64 n] := by
   split at h
   case h_2 =>
    rename_i k k' n' hk
    split at h
    ·rename_i hc
     simp only [Option.some.injEq] at hk
     injection hk with hk
     exact ⟨n', by rw [hc.1, ← hk]⟩
    ·cases h
   all_goals simp_all
  obtain ⟨n', rfl⟩ := h1
  exact ⟨n', rfl⟩
theorem opens_bool {t : TypeId} (ht : Tryz.prog.underlying t = some .bool) : Opens t Bool := by
 intro H enc w fuel cs x h
 cases fuel with
 | zero => simp [DataW.trod] at h
 | succ n =>
  unfold DataW.trod at h
  rw [ht] at h
  have h1 : ∃ b, cs = [.bool b] := by
   split at h <;> first | exact ⟨_, rfl⟩ | simp_all
  obtain ⟨b, rfl⟩ := h1
  exact ⟨b, rfl⟩
theorem cells_get {w : World} {a : Addr} {n : Nat} {cs : List Value} (h : w.cells? 0 a n = some cs) : cs.length = n ∧ ∀ j v, cs[j]? = some v → w.cell? (a.add j) = some v := by
 unfold World.cells? at h
 rw [if_pos (Nat.zero_le _)] at h
 have hl : cs.length = n := by simpa using mapM_some_length h
 refine ⟨hl, fun j v hj => ?_⟩
 have hjn : j < n := by rw [← hl]; exact (List.getElem?_eq_some_iff.1 hj).1
 have := mapM_some_get h j j (by simp [hjn])
 rw [this, hj]
theorem opens_slice {t e : TypeId} {α : Type} [Rep α] (ht : Tryz.prog.underlying t = some (.slice e)) (hc : Tryz.prog.cellsOf e = Rep.k α) (he : Opens e α) : Opens t (List α) := by
 intro H enc w fuel cs x h
 rcases Deep.open_slice ht h with ⟨rfl, _⟩ | ⟨a, len, cap, m, n, D, Pl, rfl, hb, hl, hm, hmm, rfl, hx⟩
 ·exact ⟨[], _, rfl, SL.nil _ _⟩
 ·simp only [if_true] at hmm
  have each : ∀ i : Fin len, ∃ y : α, ∃ cs', Rep.rep (fun _ => False) w cs' y ∧ ∀ j v, cs'[j]? = some v → w.cell? (a.add (i.1 * Rep.k α + j)) = some v := fun i => by
   obtain ⟨cs', h1, h2⟩ := hx i.1 (by omega)
   obtain ⟨y, hy⟩ := he enc w n cs' _ h2
   refine ⟨y, cs', hy, fun j v hj => ?_⟩
   have := (cells_get h1).2 j v hj
   rw [Deep.add_add, hc] at this
   exact this
  let f : Fin len → α := fun i => Classical.choose (each i)
  have hf : ∀ i, ∃ cs', Rep.rep (fun _ => False) w cs' (f i) ∧ ∀ j v, cs'[j]? = some v → w.cell? (a.add (i.1 * Rep.k α + j)) = some v := fun i => Classical.choose_spec (each i)
  have hlen : (List.ofFn f).length = len := by simp
  have hspot : 0 < len → a = ⟨a.block, a.off, none⟩ := fun h0 => by
   obtain ⟨cs', h1, h2⟩ := hf ⟨0, h0⟩
   have hk : cs'.length = Rep.k α := Rep.len h1
   have hp : 0 < cs'.length := by rw [hk]; exact Rep.pos
   have h3 := h2 0 cs'[0] (by simp)
   obtain ⟨b, o, sp⟩ := a
   have : sp = none := by simpa [Addr.add] using World.cell?_spot h3
   rw [this]
  refine ⟨List.ofFn f, _, rfl, some a, cap, a.block, a.off, by rw [hlen], by rw [hlen]; exact hl, by rw [hlen]; unfold maxLen at hm; omega, fun h0 => by rw [hlen] at h0; rw [← hspot h0], fun i hi => ?_⟩
  have hi' : i < len := by rw [← hlen]; exact hi
  obtain ⟨cs', h1, h2⟩ := hf ⟨i, hi'⟩
  have hcell : ∀ j v, cs'[j]? = some v → w.cell? ⟨a.block, a.off + i * Rep.k α + j, none⟩ = some v := fun j v hj => by
   have := h2 j v hj
   rw [hspot (by omega)] at this
   rw [Addr.add_lit] at this
   rw [Nat.add_assoc]
   exact this
  have hk : cs'.length = Rep.k α := Rep.len h1
  have hp : 0 < cs'.length := by rw [hk]; exact Rep.pos
  refine ⟨?_, id, cs', by simpa using h1, hcell⟩
  have := hcell 0 cs'[0] (by simp)
  exact World.block_lt_of_cell? w ⟨a.block, _, none⟩ this
theorem field_opens {H : Type} {enc : TypeId × Value → H} {w : World} {n t : Nat} {α : Type} [Rep α] (ho : Opens t α) {cs : List Value} {xs : List (DataW H × List MemPlace)} {i : Nat} (hi : i < xs.length) (h : DataW.trod enc Tryz.prog w 0 (fun _ => true) true n t cs = xs[i]?) : ∃ y : α, Rep.rep (fun _ => False) w cs y := by
 rw [List.getElem?_eq_getElem hi] at h
 exact ho enc w n cs _ h
theorem rep_list {α : Type} [Rep α] {w : World} {v : Value} {l : List α} (h : Rep.rep (fun _ => False) w [v] l) : SL (fun _ => False) w v l := by
 obtain ⟨u, e, hs⟩ : ∃ u, [v] = [u] ∧ SL (fun _ => False) w u l := h
 injection e with e
 rw [e]; exact hs
theorem opens_Tst : Opens 122 Tst := by
 intro H enc w fuel cs x h
 obtain ⟨xs, n, rfl, rfl, hl, hx, hf⟩ := DataW.trod_struct Tryz.underlying122 h
 rw [show Tryz.prog.cellsOf 122 = 4 from by kernel_rfl] at hl
 obtain ⟨a, b, c, d, rfl⟩ := fields4 hl
 have hx2 : xs.length = 4 := hx
 have h0 : DataW.trod enc Tryz.prog w 0 (fun _ => true) true n 3 [a] = xs[0]? := by
  have q : DataW.trod enc Tryz.prog w 0 (fun _ => true) true n 3 (([a, b, c, d].drop 0).take (Tryz.prog.cellsOf 3)) = xs[0]? := hf 0 _ rfl
  rw [show Tryz.prog.cellsOf 3 = 1 from by kernel_rfl] at q
  exact q
 have h1 : DataW.trod enc Tryz.prog w 0 (fun _ => true) true n 3 [b] = xs[1]? := by
  have q : DataW.trod enc Tryz.prog w 0 (fun _ => true) true n 3 (([a, b, c, d].drop 1).take (Tryz.prog.cellsOf 3)) = xs[1]? := hf 1 _ rfl
  rw [show Tryz.prog.cellsOf 3 = 1 from by kernel_rfl] at q
  exact q
 have h2 : DataW.trod enc Tryz.prog w 0 (fun _ => true) true n 3 [c] = xs[2]? := by
  have q : DataW.trod enc Tryz.prog w 0 (fun _ => true) true n 3 (([a, b, c, d].drop 2).take (Tryz.prog.cellsOf 3)) = xs[2]? := hf 2 _ rfl
  rw [show Tryz.prog.cellsOf 3 = 1 from by kernel_rfl] at q
  exact q
 have h3 : DataW.trod enc Tryz.prog w 0 (fun _ => true) true n 4 [d] = xs[3]? := by
  have q : DataW.trod enc Tryz.prog w 0 (fun _ => true) true n 4 (([a, b, c, d].drop 3).take (Tryz.prog.cellsOf 4)) = xs[3]? := hf 3 _ rfl
  rw [show Tryz.prog.cellsOf 4 = 1 from by kernel_rfl] at q
  exact q
 obtain ⟨y0, r0⟩ := field_opens (opens_int Tryz.underlying3) (by omega) h0
 obtain ⟨y1, r1⟩ := field_opens (opens_int Tryz.underlying3) (by omega) h1
 obtain ⟨y2, r2⟩ := field_opens (opens_int Tryz.underlying3) (by omega) h2
 obtain ⟨y3, r3⟩ := field_opens (opens_bool Tryz.underlying4) (by omega) h3
 have e0 : [a] = [Value.int .i64 y0] := r0
 injection e0 with e0
 have e1 : [b] = [Value.int .i64 y1] := r1
 injection e1 with e1
 have e2 : [c] = [Value.int .i64 y2] := r2
 injection e2 with e2
 have e3 : [d] = [Value.bool y3] := r3
 injection e3 with e3
 exact ⟨⟨y0, y1, y2, y3⟩, by rw [e0, e1, e2, e3]; rfl⟩
theorem opens_Vec : Opens 113 Vec := by
 intro H enc w fuel cs x h
 obtain ⟨xs, n, rfl, rfl, hl, hx, hf⟩ := DataW.trod_struct Tryz.underlying113 h
 rw [show Tryz.prog.cellsOf 113 = 2 from by kernel_rfl] at hl
 obtain ⟨a, b, rfl⟩ := fields2 hl
 have hx2 : xs.length = 2 := hx
 have h0 : DataW.trod enc Tryz.prog w 0 (fun _ => true) true n 3 [a] = xs[0]? := by
  have q : DataW.trod enc Tryz.prog w 0 (fun _ => true) true n 3 (([a, b].drop 0).take (Tryz.prog.cellsOf 3)) = xs[0]? := hf 0 _ rfl
  rw [show Tryz.prog.cellsOf 3 = 1 from by kernel_rfl] at q
  exact q
 have h1 : DataW.trod enc Tryz.prog w 0 (fun _ => true) true n 3 [b] = xs[1]? := by
  have q : DataW.trod enc Tryz.prog w 0 (fun _ => true) true n 3 (([a, b].drop 1).take (Tryz.prog.cellsOf 3)) = xs[1]? := hf 1 _ rfl
  rw [show Tryz.prog.cellsOf 3 = 1 from by kernel_rfl] at q
  exact q
 obtain ⟨y0, r0⟩ := field_opens (opens_int Tryz.underlying3) (by omega) h0
 obtain ⟨y1, r1⟩ := field_opens (opens_int Tryz.underlying3) (by omega) h1
 have e0 : [a] = [Value.int .i64 y0] := r0
 injection e0 with e0
 have e1 : [b] = [Value.int .i64 y1] := r1
 injection e1 with e1
 exact ⟨⟨y0, y1⟩, by rw [e0, e1]; rfl⟩
theorem opens_Guy : Opens 123 Guy := by
 intro H enc w fuel cs x h
 obtain ⟨xs, n, rfl, rfl, hl, hx, hf⟩ := DataW.trod_struct Tryz.underlying123 h
 rw [show Tryz.prog.cellsOf 123 = 5 from by kernel_rfl] at hl
 obtain ⟨a, b, c, d, e, rfl⟩ := fields5 hl
 have hx2 : xs.length = 5 := hx
 have h0 : DataW.trod enc Tryz.prog w 0 (fun _ => true) true n 3 [a] = xs[0]? := by
  have q : DataW.trod enc Tryz.prog w 0 (fun _ => true) true n 3 (([a, b, c, d, e].drop 0).take (Tryz.prog.cellsOf 3)) = xs[0]? := hf 0 _ rfl
  rw [show Tryz.prog.cellsOf 3 = 1 from by kernel_rfl] at q
  exact q
 have h1 : DataW.trod enc Tryz.prog w 0 (fun _ => true) true n 3 [b] = xs[1]? := by
  have q : DataW.trod enc Tryz.prog w 0 (fun _ => true) true n 3 (([a, b, c, d, e].drop 1).take (Tryz.prog.cellsOf 3)) = xs[1]? := hf 1 _ rfl
  rw [show Tryz.prog.cellsOf 3 = 1 from by kernel_rfl] at q
  exact q
 have h2 : DataW.trod enc Tryz.prog w 0 (fun _ => true) true n 3 [c] = xs[2]? := by
  have q : DataW.trod enc Tryz.prog w 0 (fun _ => true) true n 3 (([a, b, c, d, e].drop 2).take (Tryz.prog.cellsOf 3)) = xs[2]? := hf 2 _ rfl
  rw [show Tryz.prog.cellsOf 3 = 1 from by kernel_rfl] at q
  exact q
 have h3 : DataW.trod enc Tryz.prog w 0 (fun _ => true) true n 3 [d] = xs[3]? := by
  have q : DataW.trod enc Tryz.prog w 0 (fun _ => true) true n 3 (([a, b, c, d, e].drop 3).take (Tryz.prog.cellsOf 3)) = xs[3]? := hf 3 _ rfl
  rw [show Tryz.prog.cellsOf 3 = 1 from by kernel_rfl] at q
  exact q
 have h4 : DataW.trod enc Tryz.prog w 0 (fun _ => true) true n 3 [e] = xs[4]? := by
  have q : DataW.trod enc Tryz.prog w 0 (fun _ => true) true n 3 (([a, b, c, d, e].drop 4).take (Tryz.prog.cellsOf 3)) = xs[4]? := hf 4 _ rfl
  rw [show Tryz.prog.cellsOf 3 = 1 from by kernel_rfl] at q
  exact q
 obtain ⟨y0, r0⟩ := field_opens (opens_int Tryz.underlying3) (by omega) h0
 obtain ⟨y1, r1⟩ := field_opens (opens_int Tryz.underlying3) (by omega) h1
 obtain ⟨y2, r2⟩ := field_opens (opens_int Tryz.underlying3) (by omega) h2
 obtain ⟨y3, r3⟩ := field_opens (opens_int Tryz.underlying3) (by omega) h3
 obtain ⟨y4, r4⟩ := field_opens (opens_int Tryz.underlying3) (by omega) h4
 have e0 : [a] = [Value.int .i64 y0] := r0
 injection e0 with e0
 have e1 : [b] = [Value.int .i64 y1] := r1
 injection e1 with e1
 have e2 : [c] = [Value.int .i64 y2] := r2
 injection e2 with e2
 have e3 : [d] = [Value.int .i64 y3] := r3
 injection e3 with e3
 have e4 : [e] = [Value.int .i64 y4] := r4
 injection e4 with e4
 exact ⟨⟨y0, y1, y2, y3, y4⟩, by rw [e0, e1, e2, e3, e4]; rfl⟩
theorem opens_guys : Opens 110 (List Guy) := opens_slice Tryz.underlying110 (by kernel_rfl) opens_Guy
theorem opens_Head : Opens 112 Head := by
 intro H enc w fuel cs x h
 obtain ⟨xs, n, rfl, rfl, hl, hx, hf⟩ := DataW.trod_struct Tryz.underlying112 h
 rw [show Tryz.prog.cellsOf 112 = 3 from by kernel_rfl] at hl
 obtain ⟨a, b, c, rfl⟩ := fields3 hl
 have hx2 : xs.length = 3 := hx
 have h0 : DataW.trod enc Tryz.prog w 0 (fun _ => true) true n 3 [a] = xs[0]? := by
  have q : DataW.trod enc Tryz.prog w 0 (fun _ => true) true n 3 (([a, b, c].drop 0).take (Tryz.prog.cellsOf 3)) = xs[0]? := hf 0 _ rfl
  rw [show Tryz.prog.cellsOf 3 = 1 from by kernel_rfl] at q
  exact q
 have h1 : DataW.trod enc Tryz.prog w 0 (fun _ => true) true n 3 [b] = xs[1]? := by
  have q : DataW.trod enc Tryz.prog w 0 (fun _ => true) true n 3 (([a, b, c].drop 1).take (Tryz.prog.cellsOf 3)) = xs[1]? := hf 1 _ rfl
  rw [show Tryz.prog.cellsOf 3 = 1 from by kernel_rfl] at q
  exact q
 have h2 : DataW.trod enc Tryz.prog w 0 (fun _ => true) true n 110 [c] = xs[2]? := by
  have q : DataW.trod enc Tryz.prog w 0 (fun _ => true) true n 110 (([a, b, c].drop 2).take (Tryz.prog.cellsOf 110)) = xs[2]? := hf 2 _ rfl
  rw [show Tryz.prog.cellsOf 110 = 1 from by kernel_rfl] at q
  exact q
 obtain ⟨y0, r0⟩ := field_opens (opens_int Tryz.underlying3) (by omega) h0
 obtain ⟨y1, r1⟩ := field_opens (opens_int Tryz.underlying3) (by omega) h1
 obtain ⟨y2, r2⟩ := field_opens opens_guys (by omega) h2
 have e0 : [a] = [Value.int .i64 y0] := r0
 injection e0 with e0
 have e1 : [b] = [Value.int .i64 y1] := r1
 injection e1 with e1
 exact ⟨⟨y0, y1, y2⟩, _, by rw [e0, e1], rep_list r2⟩
theorem opens_tent : Opens 24 (List Head) := opens_slice Tryz.underlying24 (by kernel_rfl) opens_Head
theorem opens_tests : Opens 22 (List Tst) := opens_slice Tryz.underlying22 (by kernel_rfl) opens_Tst
theorem opens_vecs : Opens 25 (List Vec) := opens_slice Tryz.underlying25 (by kernel_rfl) opens_Vec
theorem own : ownKnob Tryz.prog.godebug = none := by kernel_rfl
theorem laid : laidOutB Tryz.prog = true := by kernel_rfl
section
variable {H : Type} {enc : TypeId × Value → H} {P : Program}
theorem post_of_below {f : Func} {s : ChangeSpec} {apart fresh handsOn again : Bool} {W W' : World} {args : Array Value} {v : Value} {ds gs : List (DataW H)} {before pa pv : List MemPlace}
  (hW : DataW.Whole enc P f.params.toList s.vars apart W args.toList ds gs before)
  (hres : ∀ (b : Nat) (sp : Nat → Bool) (hd : Bool), DataW.TrodAll enc P W' b sp hd f.resultTypes.toList (v.resultList f.resultTypes.size) (s.fn H (ds ++ gs)).results [])
  (hargs : ∀ sp : Nat → Bool, (∀ p ∈ before, sp p.block = true) → DataW.TrodAll enc P W' 0 sp true f.params.toList args.toList (s.fn H (ds ++ gs)).args pa)
  (hvars : ∀ sp : Nat → Bool, (∀ p ∈ before, sp p.block = true) → DataW.TrodVars enc P W' sp s.vars (s.fn H (ds ++ gs)).vars pv)
  (hps : before = pa ++ pv) (hb : Below W.heap.size W W')
  (hok : ∀ (j : Nat) (t : TypeId) (r : Value), f.resultTypes[j]? = some t → (v.resultList f.resultTypes.size)[j]? = some r → Value.okWide P W' .any 0 t r) :
  s.post enc P f apart fresh handsOn again W args v W' := by
 have hlt : ∀ p ∈ before, p.block < W.heap.size := fun p hp => hW.lt p hp
 have hold : ∀ p ∈ before, (fun b => decide (b < W.heap.size)) p.block = true := fun p hp => by simpa using hlt p hp
 refine ⟨ds, gs, before, [], pa, pv, hW, hres _ _ _, hargs _ hold, hvars _ hold, World.keptBut_mono (fun p hp => ⟨hp, ?_⟩) (hb.frame (· ∈ before)), fun _ => ?_⟩
 ·rw [hps, List.mem_append] at hp
  exact Or.inr hp
 ·obtain ⟨_, _, _, _, _, hz, hn⟩ := hW
  refine ⟨hok, _, _, ([] ++ pa) ++ pv, ⟨[] ++ pa, pv, trodAll_append (hargs _ (fun _ _ => rfl)) (hres _ _ _), hvars _ (fun _ _ => rfl), rfl, ?_, ?_⟩, ?_⟩
  ·intro b off hp
   have hin : MemPlace.cell b off ∈ before := by rw [hps]; simpa using hp
   rw [hb.frozen (hlt _ hin)]
   exact hz b off hin
  ·intro ha
   have := hn ha
   rw [hps] at this
   simpa using this
  ·intro p hp _
   rw [hps]
   simpa using hp
theorem all_stays (hl : laidOutB P = true) {W W' : World} (hb : Below W.heap.size W W') {sp : Nat → Bool} : ∀ {ts : List TypeId} {vs : List Value} {ds : List (DataW H)} {ps : List MemPlace}, (∀ t ∈ ts, P.readableRec t = true ∧ t < P.types.size) →
  DataW.TrodAll enc P W 0 (fun _ => true) true ts vs ds ps → (∀ x ∈ ps, x.block < W.heap.size) → (∀ x ∈ ps, sp x.block = true) → DataW.TrodAll enc P W' 0 sp true ts vs ds ps
 | [], [], [], _, _, h, _, _ => h
 | t :: ts, v :: vs, d :: ds, ps, ht, h, hlt, hs => by
  obtain ⟨p, q, h1, h2, rfl⟩ := h
  have ht0 := ht t List.mem_cons_self
  exact ⟨p, q, WideElems.Trod_stays hl ht0.1 ht0.2 h1 (fun x hx => hb.same (hlt x (by simp [hx]))) (fun x hx => hs x (by simp [hx])),
   all_stays hl hb (fun t ht' => ht t (List.mem_cons_of_mem _ ht')) h2 (fun x hx => hlt x (by simp [hx])) (fun x hx => hs x (by simp [hx])), rfl⟩
end
theorem agg_of {P : Program} {W : World} {r : Reach} {b0 : Nat} {t : TypeId} {fs : Array Field} {v : Value} (hs : P.underlying t = some (.struct fs)) (hv : Value.okWide P W r b0 t v) : ∃ cs, v = .agg cs := by
 obtain ⟨cs, rfl, hsz⟩ := okWide_struct hs hv
 exact ⟨cs, rfl⟩
theorem av_of {H : Type} {enc : TypeId × Value → H} {W : World} {r : Reach} {b0 : Nat} {t : TypeId} {fs : Array Field} {α : Type} [Rep α] {v : Value} {d : DataW H} {p : List MemPlace} (ho : Opens t α) (hs : Tryz.prog.underlying t = some (.struct fs)) (hv : Value.okWide Tryz.prog W r b0 t v)
  (h : DataW.Trod enc Tryz.prog W 0 (fun _ => true) true t v d p) : ∃ x : α, AV (fun _ => False) W v x := by
 have hq := @agg_of Tryz.prog W r b0 t fs v hs hv
 obtain ⟨cs, rfl⟩ := hq
 obtain ⟨fuel, hf⟩ := h
 obtain ⟨y, hy⟩ := ho enc W fuel _ _ hf
 exact ⟨y, cs.toList, by rw [Array.toArray_toList], hy⟩
theorem slice_of {P : Program} {W : World} {r : Reach} {b0 : Nat} {t e : TypeId} {v : Value} (hs : P.underlying t = some (.slice e)) (hv : Value.okWide P W r b0 t v) : v.cells.toList = [v] := by
 obtain ⟨a, n, c, rfl⟩ := okWide_slice hs hv
 rfl
theorem sl_of {H : Type} {enc : TypeId × Value → H} {W : World} {r : Reach} {b0 : Nat} {t e : TypeId} {α : Type} [Rep α] {v : Value} {d : DataW H} {p : List MemPlace} (ho : Opens t (List α)) (hs : Tryz.prog.underlying t = some (.slice e)) (hv : Value.okWide Tryz.prog W r b0 t v)
  (h : DataW.Trod enc Tryz.prog W 0 (fun _ => true) true t v d p) : ∃ x : List α, SL (fun _ => False) W v x := by
 have hq := @slice_of Tryz.prog W r b0 t e v hs hv
 obtain ⟨fuel, hf⟩ := h
 obtain ⟨y, hy⟩ := ho enc W fuel _ _ hf
 rw [hq] at hy
 exact ⟨y, rep_list hy⟩
end Go.Proofs.YtfhmdpicoccnfaaGreat
namespace Go.Proofs.YtfhmdpicoccnfaaGreat
set_option linter.unusedSimpArgs false
set_option linter.unusedVariables false
open Go.ChangeShapes Go.WideShapes Go.ChangeAt Go.RowKit Go.BT
theorem opens_LvlG : Opens 58 Lvl := by
 intro H enc w fuel cs x h
 obtain ⟨xs, n, rfl, rfl, hl, hx, hf⟩ := DataW.trod_struct Tryz.underlying58 h
 rw [show Tryz.prog.cellsOf 58 = 2 from by kernel_rfl] at hl
 obtain ⟨a, b, rfl⟩ := fields2 hl
 have hx2 : xs.length = 2 := hx
 have h0 : DataW.trod enc Tryz.prog w 0 (fun _ => true) true n 3 [a] = xs[0]? := by
  have q : DataW.trod enc Tryz.prog w 0 (fun _ => true) true n 3 (([a, b].drop 0).take (Tryz.prog.cellsOf 3)) = xs[0]? := hf 0 _ rfl
  rw [show Tryz.prog.cellsOf 3 = 1 from by kernel_rfl] at q
  exact q
 have h1 : DataW.trod enc Tryz.prog w 0 (fun _ => true) true n 3 [b] = xs[1]? := by
  have q : DataW.trod enc Tryz.prog w 0 (fun _ => true) true n 3 (([a, b].drop 1).take (Tryz.prog.cellsOf 3)) = xs[1]? := hf 1 _ rfl
  rw [show Tryz.prog.cellsOf 3 = 1 from by kernel_rfl] at q
  exact q
 obtain ⟨y0, r0⟩ := field_opens (opens_int Tryz.underlying3) (by omega) h0
 obtain ⟨y1, r1⟩ := field_opens (opens_int Tryz.underlying3) (by omega) h1
 have e0 : [a] = [Value.int .i64 y0] := r0
 injection e0 with e0
 have e1 : [b] = [Value.int .i64 y1] := r1
 injection e1 with e1
 exact ⟨⟨y0, y1⟩, by rw [e0, e1]; rfl⟩
theorem opens_lvls : Opens 26 (List Lvl) := opens_slice Tryz.underlying26 (by kernel_rfl) opens_LvlG
theorem opens_StgG : Opens 66 Stg := by
 intro H enc w fuel cs x h
 obtain ⟨xs, n, rfl, rfl, hl, hx, hf⟩ := DataW.trod_struct Tryz.underlying66 h
 rw [show Tryz.prog.cellsOf 66 = 2 from by kernel_rfl] at hl
 obtain ⟨a, b, rfl⟩ := fields2 hl
 have hx2 : xs.length = 2 := hx
 have h0 : DataW.trod enc Tryz.prog w 0 (fun _ => true) true n 3 [a] = xs[0]? := by
  have q : DataW.trod enc Tryz.prog w 0 (fun _ => true) true n 3 (([a, b].drop 0).take (Tryz.prog.cellsOf 3)) = xs[0]? := hf 0 _ rfl
  rw [show Tryz.prog.cellsOf 3 = 1 from by kernel_rfl] at q
  exact q
 have h1 : DataW.trod enc Tryz.prog w 0 (fun _ => true) true n 3 [b] = xs[1]? := by
  have q : DataW.trod enc Tryz.prog w 0 (fun _ => true) true n 3 (([a, b].drop 1).take (Tryz.prog.cellsOf 3)) = xs[1]? := hf 1 _ rfl
  rw [show Tryz.prog.cellsOf 3 = 1 from by kernel_rfl] at q
  exact q
 obtain ⟨y0, r0⟩ := field_opens (opens_int Tryz.underlying3) (by omega) h0
 obtain ⟨y1, r1⟩ := field_opens (opens_int Tryz.underlying3) (by omega) h1
 have e0 : [a] = [Value.int .i64 y0] := r0
 injection e0 with e0
 have e1 : [b] = [Value.int .i64 y1] := r1
 injection e1 with e1
 exact ⟨⟨y0, y1⟩, by rw [e0, e1]; rfl⟩
theorem opens_stgs : Opens 27 (List Stg) := opens_slice Tryz.underlying27 (by kernel_rfl) opens_StgG
theorem opens_Site : Opens 29 Site := by
 intro H enc w fuel cs x h
 obtain ⟨xs, n, rfl, rfl, hl, hx, hf⟩ := DataW.trod_struct Tryz.underlying29 h
 rw [show Tryz.prog.cellsOf 29 = 4 from by kernel_rfl] at hl
 obtain ⟨a, b, c, d, rfl⟩ := fields4 hl
 have hx2 : xs.length = 4 := hx
 have h0 : DataW.trod enc Tryz.prog w 0 (fun _ => true) true n 25 [a] = xs[0]? := by
  have q : DataW.trod enc Tryz.prog w 0 (fun _ => true) true n 25 (([a, b, c, d].drop 0).take (Tryz.prog.cellsOf 25)) = xs[0]? := hf 0 _ rfl
  rw [show Tryz.prog.cellsOf 25 = 1 from by kernel_rfl] at q
  exact q
 have h1 : DataW.trod enc Tryz.prog w 0 (fun _ => true) true n 26 [b] = xs[1]? := by
  have q : DataW.trod enc Tryz.prog w 0 (fun _ => true) true n 26 (([a, b, c, d].drop 1).take (Tryz.prog.cellsOf 26)) = xs[1]? := hf 1 _ rfl
  rw [show Tryz.prog.cellsOf 26 = 1 from by kernel_rfl] at q
  exact q
 have h2 : DataW.trod enc Tryz.prog w 0 (fun _ => true) true n 27 [c] = xs[2]? := by
  have q : DataW.trod enc Tryz.prog w 0 (fun _ => true) true n 27 (([a, b, c, d].drop 2).take (Tryz.prog.cellsOf 27)) = xs[2]? := hf 2 _ rfl
  rw [show Tryz.prog.cellsOf 27 = 1 from by kernel_rfl] at q
  exact q
 have h3 : DataW.trod enc Tryz.prog w 0 (fun _ => true) true n 3 [d] = xs[3]? := by
  have q : DataW.trod enc Tryz.prog w 0 (fun _ => true) true n 3 (([a, b, c, d].drop 3).take (Tryz.prog.cellsOf 3)) = xs[3]? := hf 3 _ rfl
  rw [show Tryz.prog.cellsOf 3 = 1 from by kernel_rfl] at q
  exact q
 obtain ⟨y0, r0⟩ := field_opens opens_vecs (by omega) h0
 obtain ⟨y1, r1⟩ := field_opens opens_lvls (by omega) h1
 obtain ⟨y2, r2⟩ := field_opens opens_stgs (by omega) h2
 obtain ⟨y3, r3⟩ := field_opens (opens_int Tryz.underlying3) (by omega) h3
 have e3 : [d] = [Value.int .i64 y3] := r3
 injection e3 with e3
 exact ⟨⟨y0, y1, y2, y3⟩, _, _, _, by rw [e3], rep_list r0, rep_list r1, rep_list r2⟩
end Go.Proofs.YtfhmdpicoccnfaaGreat
namespace Go.Zono
def sumN : Nat → (Nat → Int) → Int
 | 0, _ => 0
 | n + 1, g => sumN n g + g n
theorem sumN_congr {g g' : Nat → Int} : ∀ n, (∀ i, i < n → g i = g' i) → sumN n g = sumN n g'
 | 0, _ => rfl
 | n + 1, h => by rw [sumN, sumN, sumN_congr n (fun i hi => h i (by omega)), h n (by omega)]
theorem sumN_add (g g' : Nat → Int) : ∀ n, sumN n (fun i => g i + g' i) = sumN n g + sumN n g'
 | 0 => rfl
 | n + 1 => by simp only [sumN, sumN_add g g' n]; omega
theorem sumN_mul (c : Int) (g : Nat → Int) : ∀ n, sumN n (fun i => c * g i) = c * sumN n g
 | 0 => by simp [sumN]
 | n + 1 => by simp only [sumN, sumN_mul c g n, Int.mul_add]
theorem sumN_le {g g' : Nat → Int} : ∀ n, (∀ i, i < n → g i ≤ g' i) → sumN n g ≤ sumN n g'
 | 0, _ => Int.le_refl _
 | n + 1, h => Int.add_le_add (sumN_le n (fun i hi => h i (by omega))) (h n (by omega))
theorem sumN_zero : ∀ n, sumN n (fun _ => 0) = 0
 | 0 => rfl
 | n + 1 => by rw [sumN, sumN_zero n]; rfl
theorem sumN_one {g : Nat → Int} {a : Nat} : ∀ n, a < n → (∀ i, i < n → i ≠ a → g i = 0) → sumN n g = g a
 | 0, h, _ => by omega
 | n + 1, h, h0 => by
  rw [sumN]
  by_cases e : a = n
  ·subst e
   rw [sumN_congr (g' := fun _ => 0) a (fun i hi => h0 i (by omega) (by omega)), sumN_zero]; omega
  ·rw [sumN_one n (by omega) (fun i hi hn => h0 i (by omega) hn), h0 n (by omega) (Ne.symm e)]; omega
theorem sumN_two {g : Nat → Int} {a b : Nat} {n : Nat} (ha : a < n) (hb : b < n) (hab : a ≠ b) (h0 : ∀ i, i < n → i ≠ a → i ≠ b → g i = 0) : sumN n g = g a + g b := by
 have h1 : sumN n g = sumN n (fun i => (if i = a then g i else 0) + (if i = a then 0 else g i)) := sumN_congr n fun i _ => by split <;> omega
 rw [h1, sumN_add, sumN_one (a := a) n ha (fun i _ hn => if_neg hn), sumN_one (a := b) n hb (fun i hi hn => by
  by_cases e : i = a
  ·exact if_pos e
  ·rw [if_neg e]; exact h0 i hi e hn), if_pos rfl, if_neg (Ne.symm hab)]
theorem sumN_three {g : Nat → Int} {a b c : Nat} {n : Nat} (ha : a < n) (hb : b < n) (hc : c < n) (hab : a ≠ b) (hac : a ≠ c) (hbc : b ≠ c) (h0 : ∀ i, i < n → i ≠ a → i ≠ b → i ≠ c → g i = 0) : sumN n g = g a + g b + g c := by
 have h1 : sumN n g = sumN n (fun i => (if i = a then g i else 0) + (if i = a then 0 else g i)) := sumN_congr n fun i _ => by split <;> omega
 rw [h1, sumN_add, sumN_one (a := a) n ha (fun i _ hn => if_neg hn), sumN_two (a := b) (b := c) hb hc hbc (fun i hi hn hm => by
  by_cases e : i = a
  ·exact if_pos e
  ·rw [if_neg e]; exact h0 i hi e hn hm), if_pos rfl, if_neg (Ne.symm hab), if_neg (Ne.symm hac)]
 omega
def helpN (n : Nat) (fx fy : Nat → Int) (wx wy : Int) : Int := sumN n fun i => max 0 (-(wx * fx i + wy * fy i))
theorem max_mul {c : Int} (hc : 0 ≤ c) (a : Int) : max 0 (c * a) = c * max 0 a := by
 rcases Int.le_total 0 a with h | h
 ·rw [Int.max_eq_right h, Int.max_eq_right (Int.mul_nonneg hc h)]
 ·rw [Int.max_eq_left h, Int.mul_zero, Int.max_eq_left (Int.mul_nonpos_of_nonneg_of_nonpos hc h)]
theorem helpN_mul {n : Nat} {fx fy : Nat → Int} {c : Int} (hc : 0 ≤ c) (wx wy : Int) : helpN n fx fy (c * wx) (c * wy) = c * helpN n fx fy wx wy := by
 unfold helpN
 rw [← sumN_mul]
 refine sumN_congr n fun i _ => ?_
 rw [← max_mul hc]
 congr 1
 grind
theorem helpN_add (n : Nat) (fx fy : Nat → Int) (wx wy vx vy : Int) : helpN n fx fy (wx + vx) (wy + vy) ≤ helpN n fx fy wx wy + helpN n fx fy vx vy := by
 unfold helpN
 rw [← sumN_add]
 refine sumN_le n fun i _ => ?_
 have h : (wx + vx) * fx i + (wy + vy) * fy i = (wx * fx i + wy * fy i) + (vx * fx i + vy * fy i) := by grind
 rw [h]
 omega
theorem sq_nonneg (a : Int) : 0 ≤ a * a := by
 rcases Int.le_total 0 a with h | h
 ·exact Int.mul_nonneg h h
 ·exact Int.mul_nonneg_of_nonpos_of_nonpos h h
theorem lower (L : List (Int × Int)) (h : ∃ x ∈ L, x.1 < 0) : ∃ x ∈ L, x.1 < 0 ∧ ∀ y ∈ L, y.1 < 0 → y.2 * x.1 ≤ x.2 * y.1 := by
 induction L with
 | nil => obtain ⟨x, hx, _⟩ := h; simp at hx
 | cons z L ih =>
  by_cases hL : ∃ x ∈ L, x.1 < 0
  ·obtain ⟨x, hx, hx1, hx2⟩ := ih hL
   by_cases hz : z.1 < 0
   ·by_cases hc : z.2 * x.1 ≤ x.2 * z.1
    ·refine ⟨x, by simp [hx], hx1, fun y hy hy1 => ?_⟩
     rcases List.mem_cons.1 hy with rfl | hy
     ·exact hc
     ·exact hx2 y hy hy1
    ·refine ⟨z, by simp, hz, fun y hy hy1 => ?_⟩
     rcases List.mem_cons.1 hy with rfl | hy
     ·exact Int.le_refl _
     ·have h1 := hx2 y hy hy1
      -- y2 x1 ≤ x2 y1, x2 z1 < z2 x1
      have h2 : x.2 * z.1 ≤ z.2 * x.1 := by omega
      have h3 := Int.mul_le_mul_of_nonpos_left (a := z.1) (by omega) h1
      have h4 := Int.mul_le_mul_of_nonpos_left (a := y.1) (by omega) h2
      have h5 : x.1 * (z.2 * y.1) ≤ x.1 * (y.2 * z.1) := by grind
      exact Int.not_lt.1 fun hn => by have := Int.mul_lt_mul_of_neg_left hn hx1; omega
   ·refine ⟨x, by simp [hx], hx1, fun y hy hy1 => ?_⟩
    rcases List.mem_cons.1 hy with rfl | hy
    ·exact absurd hy1 hz
    ·exact hx2 y hy hy1
  ·obtain ⟨x, hx, hx1⟩ := h
   rcases List.mem_cons.1 hx with rfl | hx
   ·refine ⟨x, by simp, hx1, fun y hy hy1 => ?_⟩
    rcases List.mem_cons.1 hy with rfl | hy
    ·exact Int.le_refl _
    ·exact absurd ⟨y, hy, hy1⟩ hL
   ·exact absurd ⟨x, hx, hx1⟩ hL
theorem between (L : List (Int × Int)) (h : ∃ x ∈ L, x.1 < 0) (h0 : ∀ x ∈ L, x.1 = 0 → 0 ≤ x.2) (h1 : ∀ x ∈ L, ∀ y ∈ L, 0 < x.1 → y.1 < 0 → 0 ≤ x.1 * y.2 - y.1 * x.2) : ∃ a b : Int, 0 < b ∧ ∀ x ∈ L, a * x.1 ≤ b * x.2 := by
 obtain ⟨z, hz, hz1, hz2⟩ := lower L h
 refine ⟨-z.2, -z.1, by omega, fun x hx => ?_⟩
 rcases Int.lt_trichotomy x.1 0 with q | q | q
 ·have := hz2 x hx q
  have e1 : -z.2 * x.1 = -(z.2 * x.1) := by grind
  have e2 : -z.1 * x.2 = -(x.2 * z.1) := by grind
  omega
 ·rw [q, Int.mul_zero]; exact Int.mul_nonneg (by omega) (h0 x hx q)
 ·have := h1 x hx z hz q hz1
  grind
theorem zonotope (W : List (Int × Int)) (fx fy : Nat → Int) (hax : (1, 0) ∈ W ∧ (0, 1) ∈ W ∧ (-1, 0) ∈ W ∧ (0, -1) ∈ W) : ∀ (n : Nat) (_ : ∀ i, i < n → (fx i ≠ 0 ∨ fy i ≠ 0) → (-(fy i), fx i) ∈ W ∧ (fy i, -(fx i)) ∈ W) (px py D : Int) (_ : 0 < D)
  (_ : ∀ w ∈ W, w.1 * px + w.2 * py ≤ D * helpN n fx fy w.1 w.2), ∃ (E : Int) (t : Nat → Int), 0 < E ∧ (∀ i, i < n → 0 ≤ t i ∧ t i ≤ D * E) ∧ E * px + sumN n (fun i => t i * fx i) = 0 ∧ E * py + sumN n (fun i => t i * fy i) = 0
 | 0, _, px, py, D, hD, h => by
  have h1 := h _ hax.1
  have h2 := h _ hax.2.1
  have h3 := h _ hax.2.2.1
  have h4 := h _ hax.2.2.2
  simp only [helpN, sumN] at h1 h2 h3 h4
  exact ⟨1, fun _ => 0, by omega, fun i hi => by omega, by simp only [sumN]; omega, by simp only [sumN]; omega⟩
 | n + 1, hW, px, py, D, hD, h => by
  let L : List (Int × Int) := (-1, 0) :: (1, D) :: W.map fun w => (w.1 * fx n + w.2 * fy n, D * helpN n fx fy w.1 w.2 - (w.1 * px + w.2 * py))
  have hstep : ∀ w ∈ W, w.1 * px + w.2 * py ≤ D * helpN n fx fy w.1 w.2 + D * max 0 (-(w.1 * fx n + w.2 * fy n)) := fun w hw => by
   have := h w hw
   simp only [helpN, sumN] at this ⊢
   rw [Int.mul_add] at this
   exact this
  have hmem : ∀ x, x ∈ L → x = (-1, 0) ∨ x = (1, D) ∨ ∃ w ∈ W, x = (w.1 * fx n + w.2 * fy n, D * helpN n fx fy w.1 w.2 - (w.1 * px + w.2 * py)) := fun x hx => by
   rcases List.mem_cons.1 hx with hx | hx
   ·exact .inl hx
   rcases List.mem_cons.1 hx with hx | hx
   ·exact .inr (.inl hx)
   obtain ⟨w, hw, e⟩ := List.mem_map.1 hx
   exact .inr (.inr ⟨w, hw, e.symm⟩)
  have hin : ∀ w ∈ W, (w.1 * fx n + w.2 * fy n, D * helpN n fx fy w.1 w.2 - (w.1 * px + w.2 * py)) ∈ L := fun w hw =>
   List.mem_cons.2 (.inr (List.mem_cons.2 (.inr (List.mem_map.2 ⟨w, hw, rfl⟩))))
  obtain ⟨a, b, hb, hab⟩ := between L ⟨(-1, 0), List.mem_cons_self .., by decide⟩ (fun x hx h0 => by
   rcases hmem x hx with rfl | rfl | ⟨w, hw, rfl⟩
   ·simp at h0
   ·simp at h0
   ·have := hstep w hw
    simp only at h0 ⊢
    rw [h0] at this
    simp at this
    omega) (fun x hx y hy h1 h2 => by
   rcases hmem x hx with rfl | rfl | ⟨w, hw, rfl⟩
   ·simp at h1
   ·rcases hmem y hy with rfl | rfl | ⟨v, hv, rfl⟩
    ·simp; omega
    ·simp at h2
    ·have := hstep v hv
     simp only at h2 ⊢
     obtain ⟨c, hc⟩ : ∃ c, c = v.1 * fx n + v.2 * fy n := ⟨_, rfl⟩
     rw [← hc] at h2 this ⊢
     rw [Int.max_eq_right (by omega)] at this
     have e1 : D * -c = -(c * D) := by grind
     omega
   ·rcases hmem y hy with rfl | rfl | ⟨v, hv, rfl⟩
    ·have := hstep w hw
     simp only at h1 ⊢
     rw [Int.max_eq_left (by omega)] at this
     omega
    ·simp at h2
    ·simp only at h1 h2 ⊢
     obtain ⟨c, hc⟩ : ∃ c, c = w.1 * fx n + w.2 * fy n := ⟨_, rfl⟩
     obtain ⟨d, hd⟩ : ∃ d, d = v.1 * fx n + v.2 * fy n := ⟨_, rfl⟩
     rw [← hc] at h1 ⊢
     rw [← hd] at h2 ⊢
     -- u = c v - d w
     have hu : (c * v.1 + (-d) * w.1) * fx n + (c * v.2 + (-d) * w.2) * fy n = 0 := by grind
     have hsub := helpN_add n fx fy (c * v.1) (c * v.2) ((-d) * w.1) ((-d) * w.2)
     rw [helpN_mul (by omega), helpN_mul (by omega)] at hsub
     obtain ⟨ux, hux⟩ : ∃ x, x = c * v.1 + (-d) * w.1 := ⟨_, rfl⟩
     obtain ⟨uy, huy⟩ : ∃ x, x = c * v.2 + (-d) * w.2 := ⟨_, rfl⟩
     rw [← hux, ← huy] at hu hsub
     have hne : fx n ≠ 0 ∨ fy n ≠ 0 := by
      by_cases q : fx n = 0
      ·right; intro q2; rw [q, q2] at hc; simp at hc; omega
      ·exact .inl q
     have hf : 0 < fx n * fx n + fy n * fy n := by
      have a1 := sq_nonneg (fx n)
      have a2 := sq_nonneg (fy n)
      rcases hne with q | q
      ·have : fx n * fx n ≠ 0 := fun e => q ((Int.mul_eq_zero.1 e).elim id id)
       omega
      ·have : fy n * fy n ≠ 0 := fun e => q ((Int.mul_eq_zero.1 e).elim id id)
       omega
     have key : ux * px + uy * py ≤ D * helpN n fx fy ux uy := by
      obtain ⟨w1, w2⟩ := hW n (by omega) hne
      obtain ⟨m, hm⟩ : ∃ m, m = fx n * uy - fy n * ux := ⟨_, rfl⟩
      obtain ⟨q, hq, hq0, k, hk, e1, e2⟩ : ∃ q ∈ W, q.1 * fx n + q.2 * fy n = 0 ∧ ∃ k : Int, 0 ≤ k ∧ (fx n * fx n + fy n * fy n) * ux = k * q.1 ∧ (fx n * fx n + fy n * fy n) * uy = k * q.2 := by
       rcases Int.le_total 0 m with h0 | h0
       ·exact ⟨_, w1, by grind, m, h0, by grind, by grind⟩
       ·exact ⟨_, w2, by grind, -m, by omega, by grind, by grind⟩
      have a1 := hstep q hq
      rw [hq0] at a1
      simp at a1
      have a2 := Int.mul_le_mul_of_nonneg_left a1 hk
      have a3 := helpN_mul (n := n) (fx := fx) (fy := fy) hk q.1 q.2
      have a4 := helpN_mul (n := n) (fx := fx) (fy := fy) (Int.le_of_lt hf) ux uy
      rw [e1, e2] at a4
      have a5 : (fx n * fx n + fy n * fy n) * (ux * px + uy * py) ≤ (fx n * fx n + fy n * fy n) * (D * helpN n fx fy ux uy) := by
       have b1 : (fx n * fx n + fy n * fy n) * (ux * px + uy * py) = k * (q.1 * px + q.2 * py) := by grind
       have b2 : (fx n * fx n + fy n * fy n) * (D * helpN n fx fy ux uy) = k * (D * helpN n fx fy q.1 q.2) := by grind
       rw [b1, b2]; exact a2
      exact Int.le_of_mul_le_mul_left a5 hf
     have hD2 := Int.mul_le_mul_of_nonneg_left hsub (Int.le_of_lt hD)
     rw [hux, huy] at key
     grind)
  have ha0 := hab (-1, 0) (List.mem_cons_self ..)
  have ha1 := hab (1, D) (List.mem_cons.2 (.inr (List.mem_cons_self ..)))
  simp only at ha0 ha1
  obtain ⟨E, t, hE, ht, hx, hy⟩ := zonotope W fx fy hax n (fun i hi => hW i (by omega)) (b * px + a * fx n) (b * py + a * fy n) (D * b) (Int.mul_pos hD hb) (fun w hw => by
   have := hab _ (hin w hw)
   simp only at this
   grind)
  refine ⟨E * b, fun i => if i = n then E * a else t i, Int.mul_pos hE hb, fun i hi => ?_, ?_, ?_⟩
  ·by_cases q : i = n
   ·simp only [q, if_true]
    refine ⟨Int.mul_nonneg (Int.le_of_lt hE) (by omega), ?_⟩
    have := Int.mul_le_mul_of_nonneg_left (show a ≤ b * D by omega) (Int.le_of_lt hE)
    grind
   ·simp only [q, if_false]
    have := ht i (by omega)
    refine ⟨this.1, ?_⟩
    have e : D * b * E = D * (E * b) := by grind
    omega
  ·rw [sumN, sumN_congr (g' := fun i => t i * fx i) n (fun i hi => by simp [show i ≠ n by omega])]
   simp only [if_true]
   grind
  ·rw [sumN, sumN_congr (g' := fun i => t i * fy i) n (fun i hi => by simp [show i ≠ n by omega])]
   simp only [if_true]
   grind
def cnt (p : Nat → Prop) [DecidablePred p] : Nat → Nat
 | 0 => 0
 | n + 1 => cnt p n + if p n then 1 else 0
theorem cnt_le {p q : Nat → Prop} [DecidablePred p] [DecidablePred q] : ∀ n, (∀ i, i < n → p i → q i) → cnt p n ≤ cnt q n
 | 0, _ => Nat.le_refl _
 | n + 1, h => by
  have h1 := cnt_le (p := p) (q := q) n (fun i hi => h i (by omega))
  have h2 := h n (by omega)
  simp only [cnt]
  by_cases a : p n
  ·rw [if_pos a, if_pos (h2 a)]; omega
  ·rw [if_neg a]; omega
theorem cnt_lt {p q : Nat → Prop} [DecidablePred p] [DecidablePred q] {j : Nat} : ∀ n, j < n → (∀ i, i < n → p i → q i) → q j → ¬ p j → cnt p n < cnt q n
 | 0, hj, _, _, _ => by omega
 | n + 1, hj, h, hq, hp => by
  simp only [cnt]
  by_cases e : j = n
  ·subst e
   have h1 := cnt_le (p := p) (q := q) j (fun i hi => h i (by omega))
   rw [if_neg hp, if_pos hq]; omega
  ·have h1 := cnt_lt (p := p) (q := q) n (by omega) (fun i hi => h i (by omega)) hq hp
   have h2 := h n (by omega)
   by_cases a : p n
   ·rw [if_pos a, if_pos (h2 a)]; omega
   ·rw [if_neg a]; omega
structure Sol (n : Nat) (fx fy : Nat → Int) (px py D : Int) (t : Nat → Int) : Prop where
 pos : 0 < D
 rng : ∀ i, i < n → 0 ≤ t i ∧ t i ≤ D
 sx : D * px + sumN n (fun i => t i * fx i) = 0
 sy : D * py + sumN n (fun i => t i * fy i) = 0
abbrev frac (D : Int) (t : Nat → Int) (i : Nat) : Prop := 0 < t i ∧ t i < D
theorem least (r k : Nat → Int) : ∀ n, (∃ i, i < n ∧ k i ≠ 0) → ∃ j, j < n ∧ k j ≠ 0 ∧ ∀ i, i < n → k i ≠ 0 → r j * (k i).natAbs ≤ r i * (k j).natAbs
 | 0, h => by obtain ⟨i, hi, _⟩ := h; omega
 | n + 1, h => by
  by_cases hL : ∃ i, i < n ∧ k i ≠ 0
  ·obtain ⟨j, hj, hj1, hj2⟩ := least r k n hL
   by_cases hz : k n ≠ 0
   ·by_cases hc : r j * (k n).natAbs ≤ r n * (k j).natAbs
    ·refine ⟨j, by omega, hj1, fun i hi hi1 => ?_⟩
     by_cases e : i = n
     ·subst e; exact hc
     ·exact hj2 i (by omega) hi1
    ·refine ⟨n, by omega, hz, fun i hi hi1 => ?_⟩
     by_cases e : i = n
     ·subst e; exact Int.le_refl _
     ·have h1 := hj2 i (by omega) hi1
      have h2 : r n * (k j).natAbs ≤ r j * (k n).natAbs := by omega
      have p1 : (0 : Int) < (k j).natAbs := by omega
      have p2 : (0 : Int) < (k n).natAbs := by omega
      have p3 : (0 : Int) < (k i).natAbs := by omega
      have h3 := Int.mul_le_mul_of_nonneg_left h1 (Int.le_of_lt p2)
      have h4 := Int.mul_le_mul_of_nonneg_left h2 (Int.le_of_lt p3)
      have h5 : ((k j).natAbs : Int) * (r n * (k i).natAbs) ≤ (k j).natAbs * (r i * (k n).natAbs) := by grind
      exact Int.le_of_mul_le_mul_left h5 p1
   ·refine ⟨j, by omega, hj1, fun i hi hi1 => ?_⟩
    by_cases e : i = n
    ·subst e; exact absurd hi1 hz
    ·exact hj2 i (by omega) hi1
  ·obtain ⟨i, hi, hi1⟩ := h
   obtain rfl : i = n := by
    rcases Nat.lt_or_eq_of_le (Nat.le_of_lt_succ hi) with h | h
    ·exact absurd ⟨i, h, hi1⟩ hL
    ·exact h
   refine ⟨i, hi, hi1, fun k hk hk1 => ?_⟩
   by_cases e : k = i
   ·subst e; exact Int.le_refl _
   ·exact absurd ⟨k, by omega, hk1⟩ hL
theorem Sol.reduce {n : Nat} {fx fy : Nat → Int} {px py D : Int} {t : Nat → Int} (h : Sol n fx fy px py D t) (k : Nat → Int) (hk : ∀ i, i < n → k i ≠ 0 → frac D t i) (hne : ∃ i, i < n ∧ k i ≠ 0) (hx : sumN n (fun i => k i * fx i) = 0) (hy : sumN n (fun i => k i * fy i) = 0) :
  ∃ D' t', Sol n fx fy px py D' t' ∧ cnt (frac D' t') n < cnt (frac D t) n := by
 obtain ⟨r, hr⟩ : ∃ r : Nat → Int, r = fun i => if 0 < k i then D - t i else t i := ⟨_, rfl⟩
 obtain ⟨j, hj, hj1, hj2⟩ := least r k n hne
 have hfj := hk j hj hj1
 have hD := h.pos
 obtain ⟨b, hb⟩ : ∃ b : Int, b = (k j).natAbs := ⟨_, rfl⟩
 obtain ⟨a, ha⟩ : ∃ a : Int, a = r j := ⟨_, rfl⟩
 have hb0 : 0 < b := by omega
 have ha0 : 0 < a := by rw [ha, hr]; simp only; split <;> omega
 have hin : ∀ i, i < n → k i ≠ 0 → 0 ≤ b * t i + a * k i ∧ b * t i + a * k i ≤ D * b := fun i hi hi1 => by
  have h1 := hj2 i hi hi1
  rw [← hb, ← ha] at h1
  have h2 := hk i hi hi1
  have h3 := Int.mul_nonneg (Int.le_of_lt hb0) (Int.le_of_lt h2.1)
  have h4 := Int.mul_le_mul_of_nonneg_left (Int.le_of_lt h2.2) (Int.le_of_lt hb0)
  by_cases q : 0 < k i
  ·have e : r i = D - t i := by rw [hr]; simp only [if_pos q]
   rw [e, Int.natAbs_of_nonneg (Int.le_of_lt q)] at h1
   have h5 := Int.mul_nonneg (Int.le_of_lt ha0) (Int.le_of_lt q)
   constructor
   ·omega
   ·grind
  ·have e : r i = t i := by rw [hr]; simp only [if_neg q]
   rw [e, show ((k i).natAbs : Int) = -(k i) by omega] at h1
   have h5 := Int.mul_nonneg (Int.le_of_lt ha0) (show 0 ≤ -(k i) by omega)
   constructor
   ·grind
   ·grind
 refine ⟨D * b, fun i => b * t i + a * k i, ⟨Int.mul_pos hD hb0, fun i hi => ?_, ?_, ?_⟩, cnt_lt n hj (fun i hi hf => ?_) hfj ?_⟩
 ·by_cases q : k i = 0
  ·have h2 := h.rng i hi
   simp only [q, Int.mul_zero, Int.add_zero]
   refine ⟨Int.mul_nonneg (Int.le_of_lt hb0) h2.1, ?_⟩
   rw [Int.mul_comm D]
   exact Int.mul_le_mul_of_nonneg_left h2.2 (Int.le_of_lt hb0)
  ·exact hin i hi q
 ·have e : sumN n (fun i => (b * t i + a * k i) * fx i) = b * sumN n (fun i => t i * fx i) + a * sumN n (fun i => k i * fx i) := by
   rw [← sumN_mul, ← sumN_mul, ← sumN_add]
   exact sumN_congr n fun i _ => by grind
  rw [e, hx]
  have := h.sx
  grind
 ·have e : sumN n (fun i => (b * t i + a * k i) * fy i) = b * sumN n (fun i => t i * fy i) + a * sumN n (fun i => k i * fy i) := by
   rw [← sumN_mul, ← sumN_mul, ← sumN_add]
   exact sumN_congr n fun i _ => by grind
  rw [e, hy]
  have := h.sy
  grind
 ·by_cases q : k i = 0
  ·obtain ⟨f1, f2⟩ := hf
   simp only [q, Int.mul_zero, Int.add_zero] at f1 f2
   refine ⟨?_, ?_⟩
   ·exact Int.pos_of_mul_pos_right f1 hb0
   ·rw [Int.mul_comm D] at f2
    exact Int.lt_of_mul_lt_mul_left f2 (Int.le_of_lt hb0)
  ·exact hk i hi q
 ·intro hf
  obtain ⟨f1, f2⟩ := hf
  dsimp only at f1 f2
  by_cases q : 0 < k j
  ·have e : a = D - t j := by rw [ha, hr]; simp only [if_pos q]
   have e2 : k j = b := by omega
   rw [e2, e] at f2
   have : b * t j + (D - t j) * b = D * b := by grind
   omega
  ·have e : a = t j := by rw [ha, hr]; simp only [if_neg q]
   have e2 : k j = -b := by omega
   rw [e2, e] at f1
   have : b * t j + t j * -b = 0 := by grind
   omega
structure Basic (n : Nat) (fx fy : Nat → Int) (D : Int) (t : Nat → Int) : Prop where
 one : ∀ i, i < n → frac D t i → fx i ≠ 0 ∨ fy i ≠ 0
 two : ∀ i j, i < n → j < n → i ≠ j → frac D t i → frac D t j → fx i * fy j - fy i * fx j ≠ 0
 three : ∀ i j k, i < n → j < n → k < n → i ≠ j → i ≠ k → j ≠ k → frac D t i → frac D t j → ¬ frac D t k
theorem Sol.basic {n : Nat} {fx fy : Nat → Int} {px py : Int} : ∀ (m : Nat) (D : Int) (t : Nat → Int), Sol n fx fy px py D t → cnt (frac D t) n ≤ m → ∃ D' t', Sol n fx fy px py D' t' ∧ Basic n fx fy D' t'
 | m, D, t, h, hm => by
  by_cases hred : ∃ k : Nat → Int, (∀ i, i < n → k i ≠ 0 → frac D t i) ∧ (∃ i, i < n ∧ k i ≠ 0) ∧ sumN n (fun i => k i * fx i) = 0 ∧ sumN n (fun i => k i * fy i) = 0
  ·obtain ⟨k, h1, h2, h3, h4⟩ := hred
   obtain ⟨D', t', hs, hc⟩ := h.reduce k h1 h2 h3 h4
   cases m with
   | zero => omega
   | succ m => exact Sol.basic m D' t' hs (by omega)
  ·have hone : ∀ i, i < n → frac D t i → fx i ≠ 0 ∨ fy i ≠ 0 := fun i hi hf => by
    refine Decidable.byContradiction fun hn => hred ⟨fun j => if j = i then 1 else 0, fun j hj h1 => ?_, ⟨i, hi, by simp⟩, ?_, ?_⟩
    ·by_cases e : j = i
     ·subst e; exact hf
     ·simp [e] at h1
    ·rw [sumN_one (a := i) n hi (fun j _ hj => by simp [hj])]; simp; omega
    ·rw [sumN_one (a := i) n hi (fun j _ hj => by simp [hj])]; simp; omega
   have htwo : ∀ i j, i < n → j < n → i ≠ j → frac D t i → frac D t j → fx i * fy j - fy i * fx j ≠ 0 := fun i j hi hj hij hfi hfj hc => by
    have hgo : ∀ (g : Nat → Int), g j * fx i - g i * fx j = 0 → g j * fy i - g i * fy j = 0 → (g i ≠ 0 ∨ g j ≠ 0) → False := fun g e1 e2 hg => by
     refine hred ⟨fun l => if l = i then g j else if l = j then -(g i) else 0, fun l hl h1 => ?_, ?_, ?_, ?_⟩
     ·by_cases a : l = i
      ·subst a; exact hfi
      ·by_cases b : l = j
       ·subst b; exact hfj
       ·simp [a, b] at h1
     ·rcases hg with q | q
      ·exact ⟨j, hj, by simp [Ne.symm hij]; exact q⟩
      ·exact ⟨i, hi, by simp; exact q⟩
     ·rw [sumN_two (a := i) (b := j) hi hj hij (fun l _ h1 h2 => by simp [h1, h2])]; simp [Ne.symm hij]; grind
     ·rw [sumN_two (a := i) (b := j) hi hj hij (fun l _ h1 h2 => by simp [h1, h2])]; simp [Ne.symm hij]; grind
    by_cases q : fx i ≠ 0 ∨ fx j ≠ 0
    ·exact hgo fx (by grind) (by grind) q
    ·have h1 := hone i hi hfi
     exact hgo fy (by grind) (by grind) (by omega)
   refine ⟨D, t, h, hone, htwo, fun i j k hi hj hk hij hik hjk f1 f2 f3 => ?_⟩
   have h1 := htwo i j hi hj hij f1 f2
   refine hred ⟨fun l => if l = i then fx j * fy k - fy j * fx k else if l = j then fx k * fy i - fy k * fx i else if l = k then fx i * fy j - fy i * fx j else 0, fun l hl h1 => ?_, ⟨k, hk, by simp [Ne.symm hik, Ne.symm hjk]; exact h1⟩, ?_, ?_⟩
   ·by_cases a : l = i
    ·subst a; exact f1
    ·by_cases b : l = j
     ·subst b; exact f2
     ·by_cases c : l = k
      ·subst c; exact f3
      ·simp [a, b, c] at h1
   ·rw [sumN_three (a := i) (b := j) (c := k) hi hj hk hij hik hjk (fun l _ h1 h2 h3 => by simp [h1, h2, h3])]; simp [Ne.symm hij, Ne.symm hik, Ne.symm hjk]; grind
   ·rw [sumN_three (a := i) (b := j) (c := k) hi hj hk hij hik hjk (fun l _ h1 h2 h3 => by simp [h1, h2, h3])]; simp [Ne.symm hij, Ne.symm hik, Ne.symm hjk]; grind
end Go.Zono
namespace Go.BT
open Go
/-! ### The search for a balance, as the program goes about it. -/
def bitB (s i : Nat) : Bool := s.testBit i
def dotV (a b : Vec) : Int := a.x * b.x + a.y * b.y
def crossV (a b : Vec) : Int := a.x * b.y - a.y * b.x
def timesV (v : Vec) (n : Int) : Vec := ⟨n * v.x, n * v.y⟩
def addV (a b : Vec) : Vec := ⟨a.x + b.x, a.y + b.y⟩
def noBal : Bal := ⟨0, []⟩
def atV (F : List Vec) (i : Nat) : Vec := F.getD i ⟨0, 0⟩
def fullK (F : List Vec) (s : Nat) : Nat → Vec
 | 0 => ⟨0, 0⟩
 | k + 1 => if bitB s k then addV (fullK F s k) (atV F k) else fullK F s k
def fullV (F : List Vec) (s : Nat) : Vec := fullK F s F.length
def needV (F : List Vec) (p : Vec) (s : Nat) : Vec := timesV (addV p (fullV F s)) (-1)
def setP (n s : Nat) (wh : Int) : List Int := (List.range n).map fun i => if bitB s i then wh else 0
def parts1 (n s : Nat) (wh : Int) (a : Nat) (u : Int) : Bal := ⟨wh, (setP n s wh).set a u⟩
def parts2 (n s : Nat) (wh : Int) (a : Nat) (u : Int) (b : Nat) (v : Int) : Bal := ⟨wh, ((setP n s wh).set a u).set b v⟩
def withinB (n lo hi : Int) : Bool := decide (lo ≤ n) && decide (n ≤ hi)
def ratio (f need : Vec) : Int × Int :=
 let q := if f.x = 0 then (need.y, f.y) else (need.x, f.x)
 if q.2 < 0 then (-q.1, -q.2) else q
def aloneL (F : List Vec) (need : Vec) (s a : Nat) : Bal × Bool :=
 if dotV (atV F a) (atV F a) = 0 ∨ crossV (atV F a) need ≠ 0 then (noBal, false)
 else (parts1 F.length s (ratio (atV F a) need).2 a (ratio (atV F a) need).1, withinB (ratio (atV F a) need).1 0 (ratio (atV F a) need).2)
def crs (f g need : Vec) : Int × Int × Int := if crossV f g < 0 then (-(crossV f g), -(crossV need g), -(crossV f need)) else (crossV f g, crossV need g, crossV f need)
def bothL (F : List Vec) (need : Vec) (s a b : Nat) : Bal × Bool :=
 (parts2 F.length s (crs (atV F a) (atV F b) need).1 a (crs (atV F a) (atV F b) need).2.1 b (crs (atV F a) (atV F b) need).2.2,
  decide (0 < (crs (atV F a) (atV F b) need).1) && withinB (crs (atV F a) (atV F b) need).2.1 0 (crs (atV F a) (atV F b) need).1 && withinB (crs (atV F a) (atV F b) need).2.2 0 (crs (atV F a) (atV F b) need).1)
/-! ### What the document asks. -/
def helpL (F : List Vec) (w : Vec) : Int := (F.map fun f => max 0 (-(dotV w f))).sum
def waysL (F : List Vec) : List Vec := [⟨1, 0⟩, ⟨0, 1⟩, ⟨-1, 0⟩, ⟨0, -1⟩] ++ F.flatMap fun f => [f, timesV f (-1), ⟨-f.y, f.x⟩, ⟨f.y, -f.x⟩]
def balL (F : List Vec) (p : Vec) : Bool := (waysL F).all fun w => decide (dotV w p ≤ helpL F w)
def sumPX (F : List Vec) (ps : List Int) : Int := Zono.sumN F.length fun i => ps.getD i 0 * (atV F i).x
def sumPY (F : List Vec) (ps : List Int) : Int := Zono.sumN F.length fun i => ps.getD i 0 * (atV F i).y
def isBalL (F : List Vec) (p : Vec) (b : Bal) : Bool :=
 withinB b.whole 1 500000000000 && decide (b.parts.length = F.length) && b.parts.all (fun t => withinB t 0 b.whole) && decide (b.whole * p.x + sumPX F b.parts = 0) && decide (b.whole * p.y + sumPY F b.parts = 0)
/-! ### A search that ends at the first hit. -/
def hitB (F : List Vec) (need : Vec) (s a b : Nat) : Bool := !bitB s b && (bothL F need s a b).2
def hitA (F : List Vec) (need : Vec) (s a : Nat) : Bool := !bitB s a && ((aloneL F need s a).2 || (List.range a).any (hitB F need s a))
def hitS (F : List Vec) (p : Vec) (s : Nat) : Bool := decide (needV F p s = ⟨0, 0⟩) || (List.range F.length).any (hitA F (needV F p s) s)
def okBal (F : List Vec) (p : Vec) (b : Bal) : Prop := b.parts.length = F.length ∧ 1 ≤ b.whole ∧ b.whole ≤ 500000000000 ∧ (∀ t ∈ b.parts, 0 ≤ t ∧ t ≤ b.whole) ∧ b.whole * p.x + sumPX F b.parts = 0 ∧ b.whole * p.y + sumPY F b.parts = 0
theorem okBal.is {F : List Vec} {p : Vec} {b : Bal} (h : okBal F p b) : isBalL F p b = true := by
 obtain ⟨h1, h2, h3, h4, h5, h6⟩ := h
 simp only [isBalL, withinB, Bool.and_eq_true, decide_eq_true_eq, List.all_eq_true]
 exact ⟨⟨⟨⟨⟨h2, h3⟩, h1⟩, fun t ht => h4 t ht⟩, h5⟩, h6⟩
theorem full_x (F : List Vec) (s : Nat) (wh : Int) : ∀ k, Zono.sumN k (fun i => (if bitB s i then wh else 0) * (atV F i).x) = wh * (fullK F s k).x
 | 0 => by simp [Zono.sumN, fullK]
 | k + 1 => by
  simp only [Zono.sumN, fullK, full_x F s wh k]
  cases bitB s k <;> simp [addV, Int.mul_add]
theorem full_y (F : List Vec) (s : Nat) (wh : Int) : ∀ k, Zono.sumN k (fun i => (if bitB s i then wh else 0) * (atV F i).y) = wh * (fullK F s k).y
 | 0 => by simp [Zono.sumN, fullK]
 | k + 1 => by
  simp only [Zono.sumN, fullK, full_y F s wh k]
  cases bitB s k <;> simp [addV, Int.mul_add]
theorem need_x (F : List Vec) (p : Vec) (s : Nat) : (needV F p s).x = -(p.x + (fullV F s).x) := by simp [needV, timesV, addV]
theorem need_y (F : List Vec) (p : Vec) (s : Nat) : (needV F p s).y = -(p.y + (fullV F s).y) := by simp [needV, timesV, addV]
def smallV (F : List Vec) : Prop := ∀ f ∈ F, -500000 ≤ f.x ∧ f.x ≤ 500000 ∧ -500000 ≤ f.y ∧ f.y ≤ 500000
theorem smallV.at {F : List Vec} (h : smallV F) (i : Nat) : -500000 ≤ (atV F i).x ∧ (atV F i).x ≤ 500000 ∧ -500000 ≤ (atV F i).y ∧ (atV F i).y ≤ 500000 := by
 unfold atV
 rw [List.getD_eq_getElem?_getD]
 by_cases q : i < F.length
 ·rw [List.getElem?_eq_getElem q]; exact h _ (List.getElem_mem q)
 ·rw [List.getElem?_eq_none (by omega)]; exact ⟨by decide, by decide, by decide, by decide⟩
theorem ratio_ok {f need : Vec} (hd : ¬ dotV f f = 0) (hc : crossV f need = 0) : 0 < (ratio f need).2 ∧ ((ratio f need).2 = f.x ∨ (ratio f need).2 = -f.x ∨ (ratio f need).2 = f.y ∨ (ratio f need).2 = -f.y) ∧ (ratio f need).2 * need.x = (ratio f need).1 * f.x ∧ (ratio f need).2 * need.y = (ratio f need).1 * f.y := by
 unfold crossV at hc
 unfold dotV at hd
 unfold ratio
 dsimp only
 by_cases q : f.x = 0
 ·rw [if_pos q]
  rw [q] at hc hd
  have hy : f.y ≠ 0 := fun e => hd (by rw [e]; rfl)
  have hn : need.x = 0 := by
   have : f.y * need.x = 0 := by omega
   exact (Int.mul_eq_zero.1 this).resolve_left hy
  dsimp only
  split
  ·refine ⟨by dsimp only; omega, .inr (.inr (.inr rfl)), ?_, ?_⟩
   ·rw [hn, q]; simp
   ·dsimp only; grind
  ·refine ⟨by dsimp only; omega, .inr (.inr (.inl rfl)), ?_, ?_⟩
   ·rw [hn, q]; simp
   ·dsimp only; grind
 ·rw [if_neg q]
  dsimp only
  split
  ·refine ⟨by dsimp only; omega, .inr (.inl rfl), ?_, ?_⟩
   ·dsimp only; grind
   ·dsimp only; grind
  ·refine ⟨by dsimp only; omega, .inl rfl, ?_, ?_⟩
   ·dsimp only; grind
   ·dsimp only; grind
theorem bool_iff {a b : Bool} (h : a = true ↔ b = true) : a = b := by cases a <;> cases b <;> simp_all
/-! ### Where no direction is a weakness, the search finds a balance. -/
theorem bits (q : Nat → Bool) : ∀ n, ∃ s, s < 2 ^ n ∧ ∀ i, i < n → bitB s i = q i
 | 0 => ⟨0, by decide, fun i hi => by omega⟩
 | n + 1 => by
  obtain ⟨s, hs, h⟩ := bits q n
  cases e : q n with
  | false =>
   refine ⟨s, by rw [Nat.pow_succ]; omega, fun i hi => ?_⟩
   by_cases k : i = n
   ·subst k; rw [e]; exact Nat.testBit_lt_two_pow hs
   ·exact h i (by omega)
  | true =>
   refine ⟨2 ^ n + s, by rw [Nat.pow_succ]; omega, fun i hi => ?_⟩
   by_cases k : i = n
   ·subst k
    rw [e]
    unfold bitB
    rw [Nat.testBit_two_pow_add_eq, Nat.testBit_lt_two_pow hs]; rfl
   ·rw [← h i (by omega)]
    unfold bitB
    exact Nat.testBit_two_pow_add_gt (by omega) s
theorem sum_map (g : Vec → Int) : ∀ F : List Vec, (F.map g).sum = Zono.sumN F.length (fun i => g (atV F i))
 | [] => rfl
 | f :: F => by
  have hshift : ∀ n (k : Nat → Int), Zono.sumN (n + 1) k = k 0 + Zono.sumN n (fun i => k (i + 1)) := fun n => by
   induction n with
   | zero => intro k; simp [Zono.sumN]
   | succ n ih => intro k; rw [Zono.sumN, ih, Zono.sumN]; omega
  rw [List.map_cons, List.sum_cons, sum_map g F, List.length_cons, hshift]
  rfl
theorem help_N (F : List Vec) (w : Vec) : helpL F w = Zono.helpN F.length (fun i => (atV F i).x) (fun i => (atV F i).y) w.x w.y := by
 unfold helpL Zono.helpN dotV
 exact sum_map _ F
theorem solved {F : List Vec} {p : Vec} (h : balL F p = true) : ∃ (D : Int) (t : Nat → Int), Zono.Sol F.length (fun i => (atV F i).x) (fun i => (atV F i).y) p.x p.y D t ∧ Zono.Basic F.length (fun i => (atV F i).x) (fun i => (atV F i).y) D t := by
 have hall : ∀ w ∈ waysL F, dotV w p ≤ helpL F w := fun w hw => by simpa using List.all_eq_true.1 h w hw
 have hmem : ∀ i, i < F.length → (⟨-(atV F i).y, (atV F i).x⟩ : Vec) ∈ waysL F ∧ (⟨(atV F i).y, -(atV F i).x⟩ : Vec) ∈ waysL F := fun i hi => by
  have hm : atV F i ∈ F := by
   unfold atV
   rw [List.getD_eq_getElem?_getD, List.getElem?_eq_getElem hi]
   exact List.getElem_mem hi
  constructor <;> exact List.mem_append.2 (.inr (List.mem_flatMap.2 ⟨_, hm, by simp⟩))
 obtain ⟨E, t, hE, ht, hx, hy⟩ := Zono.zonotope ((waysL F).map fun w => (w.x, w.y)) (fun i => (atV F i).x) (fun i => (atV F i).y)
  ⟨List.mem_map.2 ⟨⟨1, 0⟩, by simp [waysL], rfl⟩, List.mem_map.2 ⟨⟨0, 1⟩, by simp [waysL], rfl⟩, List.mem_map.2 ⟨⟨-1, 0⟩, by simp [waysL], rfl⟩, List.mem_map.2 ⟨⟨0, -1⟩, by simp [waysL], rfl⟩⟩
  F.length (fun i hi _ => ⟨List.mem_map.2 ⟨_, (hmem i hi).1, rfl⟩, List.mem_map.2 ⟨_, (hmem i hi).2, rfl⟩⟩) p.x p.y 1 (by decide) (fun w hw => by
   obtain ⟨v, hv, rfl⟩ := List.mem_map.1 hw
   have := hall v hv
   rw [help_N] at this
   dsimp only
   unfold dotV at this
   omega)
 exact Zono.Sol.basic _ E t ⟨hE, fun i hi => by have := ht i hi; omega, hx, hy⟩ (Nat.le_refl _)
theorem found {F : List Vec} {p : Vec} (h : balL F p = true) : ∃ s, s < 2 ^ F.length ∧ hitS F p s = true := by
 obtain ⟨D, t, hS, hB⟩ := solved h
 obtain ⟨s, hs, hq⟩ := bits (fun i => decide (t i = D)) F.length
 refine ⟨s, hs, ?_⟩
 have hD := hS.pos
 -- what is needed is what the parts bring
 have split : ∀ (g : Nat → Int), Zono.sumN F.length (fun i => t i * g i) = Zono.sumN F.length (fun i => (if bitB s i then D else 0) * g i) + Zono.sumN F.length (fun i => (if Zono.frac D t i then t i else 0) * g i) := fun g => by
  rw [← Zono.sumN_add]
  refine Zono.sumN_congr _ fun i hi => ?_
  have hr := hS.rng i hi
  rw [hq i hi]
  by_cases e : t i = D
  ·have hn : ¬ Zono.frac D t i := fun f => by have := f.2; omega
   rw [if_neg hn]; simp [e]
  ·by_cases z : t i = 0
   ·have hn : ¬ Zono.frac D t i := fun f => by have := f.1; omega
    rw [if_neg hn]; simp [z, show ¬ (0 : Int) = D by omega]
   ·have hy : Zono.frac D t i := ⟨by omega, by omega⟩
    rw [if_pos hy]; simp [e]
 have nx : D * (needV F p s).x = Zono.sumN F.length (fun i => (if Zono.frac D t i then t i else 0) * (atV F i).x) := by
  have h1 := hS.sx
  rw [split, full_x] at h1
  rw [need_x]; unfold fullV; grind
 have ny : D * (needV F p s).y = Zono.sumN F.length (fun i => (if Zono.frac D t i then t i else 0) * (atV F i).y) := by
  have h1 := hS.sy
  rw [split, full_y] at h1
  rw [need_y]; unfold fullV; grind
 unfold hitS
 rw [Bool.or_eq_true]
 by_cases hfr : ∃ a, a < F.length ∧ Zono.frac D t a
 ·right
  by_cases htwo : ∃ a b, a < F.length ∧ b < a ∧ Zono.frac D t a ∧ Zono.frac D t b
  ·obtain ⟨a, b, ha, hb, fa, fb⟩ := htwo
   have hz : ∀ (g : Nat → Int), Zono.sumN F.length (fun i => (if Zono.frac D t i then t i else 0) * g i) = t a * g a + t b * g b := fun g => by
    rw [Zono.sumN_two (a := a) (b := b) ha (by omega) (by omega) (fun i hi h1 h2 => by
     have := hB.three a b i ha (by omega) hi (by omega) (Ne.symm h1) (Ne.symm h2) fa fb
     rw [if_neg this]; simp), if_pos fa, if_pos fb]
   rw [hz] at nx ny
   have hc := hB.two a b ha (by omega) (by omega) fa fb
   refine List.any_eq_true.2 ⟨a, List.mem_range.2 ha, ?_⟩
   unfold hitA
   rw [Bool.and_eq_true, Bool.or_eq_true]
   have sa : bitB s a = false := by rw [hq a ha]; simp; have := fa.2; omega
   have sb : bitB s b = false := by rw [hq b (by omega)]; simp; have := fb.2; omega
   refine ⟨by rw [sa]; rfl, .inr (List.any_eq_true.2 ⟨b, List.mem_range.2 hb, ?_⟩)⟩
   unfold hitB bothL
   rw [sb]
   simp only [Bool.not_false, Bool.true_and, withinB, Bool.and_eq_true, decide_eq_true_eq]
   obtain ⟨f, hf⟩ : ∃ f, f = atV F a := ⟨_, rfl⟩
   obtain ⟨g, hg⟩ : ∃ g, g = atV F b := ⟨_, rfl⟩
   obtain ⟨need, hn⟩ : ∃ n, n = needV F p s := ⟨_, rfl⟩
   simp only [← hf, ← hg, ← hn] at nx ny hc ⊢
   have h1 : D * crossV need g = t a * crossV f g := by unfold crossV; grind
   have h2 : D * crossV f need = t b * crossV f g := by unfold crossV; grind
   have fa1 := fa.1
   have fa2 := fa.2
   have fb1 := fb.1
   have fb2 := fb.2
   have hc' : crossV f g ≠ 0 := by unfold crossV; exact hc
   have rng : ∀ (d n u : Int), 0 < d → D * n = u * d → 0 < u → u < D → 0 ≤ n ∧ n ≤ d := fun d n u hd e h0 h1 => by
    have p1 := Int.mul_pos h0 hd
    have p2 := Int.mul_lt_mul_of_pos_right h1 hd
    refine ⟨Int.not_lt.1 fun hn => ?_, Int.not_lt.1 fun hn => ?_⟩
    ·have := Int.mul_neg_of_pos_of_neg hD hn; omega
    ·have := Int.mul_lt_mul_of_pos_left hn hD; omega
   unfold crs
   split
   ·have r1 := rng (-(crossV f g)) (-(crossV need g)) (t a) (by omega) (by grind) fa1 fa2
    have r2 := rng (-(crossV f g)) (-(crossV f need)) (t b) (by omega) (by grind) fb1 fb2
    exact ⟨⟨by dsimp only; omega, r1⟩, r2⟩
   ·have r1 := rng (crossV f g) (crossV need g) (t a) (by omega) h1 fa1 fa2
    have r2 := rng (crossV f g) (crossV f need) (t b) (by omega) h2 fb1 fb2
    exact ⟨⟨by dsimp only; omega, r1⟩, r2⟩
  ·obtain ⟨a, ha, fa⟩ := hfr
   have hz : ∀ (g : Nat → Int), Zono.sumN F.length (fun i => (if Zono.frac D t i then t i else 0) * g i) = t a * g a := fun g => by
    rw [Zono.sumN_one (a := a) F.length ha (fun i hi h1 => by
     have : ¬ Zono.frac D t i := fun fi => htwo (by
      rcases Nat.lt_or_ge i a with h | h
      ·exact ⟨a, i, ha, h, fa, fi⟩
      ·exact ⟨i, a, hi, by omega, fi, fa⟩)
     rw [if_neg this]; simp), if_pos fa]
   rw [hz] at nx ny
   have hne := hB.one a ha fa
   refine List.any_eq_true.2 ⟨a, List.mem_range.2 ha, ?_⟩
   unfold hitA
   rw [Bool.and_eq_true, Bool.or_eq_true]
   have sa : bitB s a = false := by rw [hq a ha]; simp; have := fa.2; omega
   refine ⟨by rw [sa]; rfl, .inl ?_⟩
   obtain ⟨f, hf⟩ : ∃ f, f = atV F a := ⟨_, rfl⟩
   obtain ⟨need, hn⟩ : ∃ n, n = needV F p s := ⟨_, rfl⟩
   simp only [← hf, ← hn] at nx ny hne ⊢
   have fa1 := fa.1
   have fa2 := fa.2
   have hd : ¬ dotV f f = 0 := fun e => by
    unfold dotV at e
    have a1 := Zono.sq_nonneg f.x
    have a2 := Zono.sq_nonneg f.y
    have b1 : f.x * f.x = 0 := by omega
    have b2 : f.y * f.y = 0 := by omega
    have c1 := (Int.mul_eq_zero.1 b1).elim id id
    have c2 := (Int.mul_eq_zero.1 b2).elim id id
    rw [c1, c2] at hne
    simp at hne
   have hc : crossV f need = 0 := by
    have : D * crossV f need = 0 := by unfold crossV; grind
    exact (Int.mul_eq_zero.1 this).resolve_left (by omega)
   unfold aloneL
   rw [← hf, if_neg (by rw [hc]; simp; exact hd)]
   dsimp only
   obtain ⟨r1, r2, r3, r4⟩ := ratio_ok hd hc
   obtain ⟨u, hu⟩ : ∃ u, u = (ratio f need).1 := ⟨_, rfl⟩
   obtain ⟨d, hdd⟩ : ∃ u, u = (ratio f need).2 := ⟨_, rfl⟩
   simp only [← hu, ← hdd] at r1 r2 r3 r4 ⊢
   have e : D * u = t a * d := by
    by_cases q : f.x = 0
    ·have qy : f.y ≠ 0 := fun e => by rw [q, e] at hne; simp at hne
     have : f.y * (D * u) = f.y * (t a * d) := by grind
     exact Int.eq_of_mul_eq_mul_left qy this
    ·have : f.x * (D * u) = f.x * (t a * d) := by grind
     exact Int.eq_of_mul_eq_mul_left q this
   have p1 := Int.mul_pos fa1 r1
   have p2 := Int.mul_lt_mul_of_pos_right fa2 r1
   simp only [withinB, Bool.and_eq_true, decide_eq_true_eq]
   refine ⟨Int.not_lt.1 fun hn => ?_, Int.not_lt.1 fun hn => ?_⟩
   ·have := Int.mul_neg_of_pos_of_neg hD hn; omega
   ·have := Int.mul_lt_mul_of_pos_left hn hD; omega
 ·left
  have hz : ∀ (g : Nat → Int), Zono.sumN F.length (fun i => (if Zono.frac D t i then t i else 0) * g i) = 0 := fun g => by
   rw [Zono.sumN_congr (g' := fun _ => 0) _ (fun i hi => by rw [if_neg (fun fi => hfr ⟨i, hi, fi⟩)]; simp), Zono.sumN_zero]
  rw [hz] at nx ny
  rw [decide_eq_true_eq]
  have h1 := (Int.mul_eq_zero.1 nx).resolve_left (by omega)
  have h2 := (Int.mul_eq_zero.1 ny).resolve_left (by omega)
  cases hv : needV F p s
  rw [hv] at h1 h2
  simp_all
end Go.BT
namespace Go.BT
open Go
set_option linter.unusedVariables false
/-! ### Tests, stakes, tents. -/
def tstB (x : Tst) : Bool := withinB x.soil 0 9 && withinB x.depth 1 3000 && withinB x.force 1 5000
def testsC (l : List Tst) : Int := if 40 < l.length then 3 else if l.all tstB = true then 0 else 1
def againstB (x y : Tst) : Bool := x.held && !y.held && decide (x.soil = y.soil) && decide (y.force * x.depth ≤ x.force * y.depth)
def clashB (l : List Tst) : Bool := l.any fun x => l.any (againstB x)
def soundC (l : List Tst) : Int := if clashB l = true then 9 else 0
def guyB (g : Guy) : Bool := withinB g.x (-5000) 5000 && withinB g.y (-5000) 5000 && !(decide (g.x = 0) && decide (g.y = 0)) && withinB g.down 0 5000 && withinB g.soil 0 9 && withinB g.depth 1 3000
def headB (h : Head) : Bool := withinB h.area 0 1000 && withinB h.bears 0 10000000 && decide (h.guys.length ≤ 8) && h.guys.all guyB
def tentB (t : List Head) : Bool := withinB t.length 1 12 && t.all headB
def tentC (t : List Head) : Int := if tentB t = true then 0 else 1
def readyC (l : List Tst) (t : List Head) : Int := if testsC l = 0 then tentC t else testsC l
def cornerB (v : Vec) : Bool := withinB v.x (-10000) 10000 && withinB v.y (-10000) 10000
def windB (l : List Vec) : Bool := withinB l.length 1 12 && l.all cornerB
def stepH (soil depth : Int) (r : Rng) (x : Tst) : Rng :=
 if x.soil = soil then (if x.held = true then ⟨max r.lo (x.force * depth / x.depth), r.hi⟩ else ⟨r.lo, min r.hi ((x.force * depth + x.depth - 1) / x.depth - 1)⟩) else r
def holdsL (l : List Tst) (soil depth : Int) : Rng := l.foldl (stepH soil depth) ⟨0, 10000000⟩
def lenL (q : Int) : Int := ((((List.range 10001).find? fun (n : Nat) => decide (q ≤ (n : Int) * n)).getD 0 : Nat) : Int)
def partL (l : List Tst) (g : Guy) : Int := min 100 (100 * (holdsL l g.soil g.depth).lo / lenL (g.x * g.x + g.y * g.y))
def forceL (l : List Tst) (g : Guy) : Vec := timesV ⟨g.x, g.y⟩ (partL l g)
def forcesL (l : List Tst) (gs : List Guy) : List Vec := gs.map (forceL l)
theorem holds_take {l : List Tst} {s d : Int} {k : Nat} (hk : k < l.length) : holdsL (l.take (k + 1)) s d = stepH s d (holdsL (l.take k) s d) l[k] := by
 unfold holdsL
 rw [List.take_succ_eq_append_getElem hk, List.foldl_append]; rfl
theorem tst_parts {x : Tst} (h : tstB x = true) : (0 ≤ x.soil ∧ x.soil ≤ 9) ∧ (1 ≤ x.depth ∧ x.depth ≤ 3000) ∧ 1 ≤ x.force ∧ x.force ≤ 5000 := by
 simp only [tstB, withinB, Bool.and_eq_true, decide_eq_true_eq] at h
 omega
theorem force_bound {x : Tst} {d : Int} (h : tstB x = true) (hd : 1 ≤ d ∧ d ≤ 3000) : 1 ≤ x.force * d ∧ x.force * d ≤ 15000000 := by
 obtain ⟨_, _, h1, h2⟩ := tst_parts h
 have a := Int.mul_le_mul h1 hd.1 (by decide) (by omega)
 have b := Int.mul_le_mul h2 hd.2 (by omega) (by decide)
 omega
theorem quo_bound {x : Tst} {d : Int} (h : tstB x = true) (hd : 1 ≤ d ∧ d ≤ 3000) : 0 ≤ x.force * d / x.depth ∧ x.force * d / x.depth ≤ 15000000 := by
 have hb := force_bound h hd
 obtain ⟨_, h1, _⟩ := tst_parts h
 exact ⟨Int.ediv_nonneg (by omega) (by omega), Int.le_trans (Int.ediv_le_self _ (by omega)) hb.2⟩
theorem top_bound {x : Tst} {d : Int} (h : tstB x = true) (hd : 1 ≤ d ∧ d ≤ 3000) : 1 ≤ (x.force * d + x.depth - 1) / x.depth ∧ (x.force * d + x.depth - 1) / x.depth ≤ 15003000 := by
 have hb := force_bound h hd
 obtain ⟨_, h1, _⟩ := tst_parts h
 exact ⟨(Int.le_ediv_iff_mul_le (by omega)).2 (by omega), Int.le_trans (Int.ediv_le_self _ (by omega)) (by omega)⟩
theorem step_bound {x : Tst} {s d : Int} {r : Rng} (h : tstB x = true) (hd : 1 ≤ d ∧ d ≤ 3000) (hr : 0 ≤ r.lo ∧ r.lo ≤ 15000000 ∧ 0 ≤ r.hi ∧ r.hi ≤ 10000000) : 0 ≤ (stepH s d r x).lo ∧ (stepH s d r x).lo ≤ 15000000 ∧ 0 ≤ (stepH s d r x).hi ∧ (stepH s d r x).hi ≤ 10000000 := by
 have h1 := quo_bound h hd
 have h2 := top_bound h hd
 unfold stepH
 split
 ·split <;> dsimp only <;> omega
 ·exact hr
theorem holds_bound {l : List Tst} {s d : Int} (h : l.all tstB = true) (hd : 1 ≤ d ∧ d ≤ 3000) : 0 ≤ (holdsL l s d).lo ∧ (holdsL l s d).lo ≤ 15000000 ∧ 0 ≤ (holdsL l s d).hi ∧ (holdsL l s d).hi ≤ 10000000 := by
 unfold holdsL
 have go : ∀ (l : List Tst) (r : Rng), l.all tstB = true → (0 ≤ r.lo ∧ r.lo ≤ 15000000 ∧ 0 ≤ r.hi ∧ r.hi ≤ 10000000) → 0 ≤ (l.foldl (stepH s d) r).lo ∧ (l.foldl (stepH s d) r).lo ≤ 15000000 ∧ 0 ≤ (l.foldl (stepH s d) r).hi ∧ (l.foldl (stepH s d) r).hi ≤ 10000000 := by
  intro l
  induction l with
  | nil => intro r _ hr; exact hr
  | cons x l ih =>
   intro r ha hr
   rw [List.all_cons, Bool.and_eq_true] at ha
   rw [List.foldl_cons]
   exact ih _ ha.2 (step_bound ha.1 hd hr)
 exact go l _ h ⟨by decide, by decide, by decide, by decide⟩
theorem all_get {α : Type} {p : α → Bool} {l : List α} (h : l.all p = true) {k : Nat} (hk : k < l.length) : p l[k] = true := List.all_eq_true.1 h _ (List.getElem_mem hk)
theorem up_quo {n d : Int} (hn : 1 ≤ n) (hd : 1 ≤ d) : (n + d - 1) / d = if n / d * d < n then n / d + 1 else n / d := by
 have h1 := Int.mul_ediv_add_emod n d
 have h2 := Int.emod_nonneg n (show d ≠ 0 by omega)
 have h3 := Int.emod_lt_of_pos n (show 0 < d by omega)
 have e : n / d * d = d * (n / d) := Int.mul_comm _ _
 split
 ·rw [show n + d - 1 = (n % d - 1) + d * (n / d + 1) by grind, Int.add_mul_ediv_left _ _ (by omega), Int.ediv_eq_zero_of_lt (by omega) (by omega)]; omega
 ·rw [show n + d - 1 = (n % d + (d - 1)) + d * (n / d) by grind, Int.add_mul_ediv_left _ _ (by omega), Int.ediv_eq_zero_of_lt (by omega) (by omega)]; omega
theorem lenL_of {q n : Int} (h0 : 1 ≤ n) (hn : n ≤ 10000) (h1 : q ≤ n * n) (h2 : (n - 1) * (n - 1) < q) : lenL q = n := by
 obtain ⟨m, rfl⟩ : ∃ m : Nat, n = m := ⟨n.toNat, by omega⟩
 unfold lenL
 have hlt : ∀ j : Nat, j < m → ¬ (q ≤ (j : Int) * j) := fun j hj hq => by
  have := Int.mul_le_mul (show (j : Int) ≤ m - 1 by omega) (show (j : Int) ≤ m - 1 by omega) (by omega) (by omega)
  omega
 have : (List.range 10001).find? (fun (n : Nat) => decide (q ≤ (n : Int) * n)) = some m := by
  rw [List.find?_range_eq_some]
  exact ⟨by simp; exact h1, by simp; omega, fun j hj => by simpa using hlt j hj⟩
 rw [this]; rfl
theorem len_sq {q : Int} (h0 : 1 ≤ q) (h1 : q ≤ 100000000) : 1 ≤ lenL q ∧ lenL q ≤ 10000 ∧ q ≤ lenL q * lenL q ∧ (lenL q - 1) * (lenL q - 1) < q := by
 have hex : ∃ m : Nat, 1 ≤ m ∧ m ≤ 10000 ∧ q ≤ (m : Int) * m ∧ ((m : Int) - 1) * (m - 1) < q := by
  have go : ∀ k : Nat, q ≤ (k : Int) * k → k ≤ 10000 → ∃ m : Nat, 1 ≤ m ∧ m ≤ 10000 ∧ q ≤ (m : Int) * m ∧ ((m : Int) - 1) * (m - 1) < q := by
   intro k
   induction k with
   | zero => intro h _; simp at h; omega
   | succ k ih =>
    intro h hk
    by_cases hc : q ≤ (k : Int) * k
    ·exact ih hc (by omega)
    ·refine ⟨k + 1, by omega, hk, h, ?_⟩
     rw [show ((k + 1 : Nat) : Int) - 1 = k by omega]; omega
  exact go 10000 (by simpa using h1) (by decide)
 obtain ⟨m, m1, m2, m3, m4⟩ := hex
 rw [lenL_of (n := m) (by omega) (by omega) m3 m4]
 exact ⟨by omega, by omega, m3, m4⟩
theorem guy_parts {g : Guy} (h : guyB g = true) : (-5000 ≤ g.x ∧ g.x ≤ 5000) ∧ (-5000 ≤ g.y ∧ g.y ≤ 5000) ∧ (g.x ≠ 0 ∨ g.y ≠ 0) ∧ (0 ≤ g.down ∧ g.down ≤ 5000) ∧ (0 ≤ g.soil ∧ g.soil ≤ 9) ∧ 1 ≤ g.depth ∧ g.depth ≤ 3000 := by
 simp only [guyB, withinB, Bool.and_eq_true, decide_eq_true_eq, Bool.not_eq_true', Bool.and_eq_false_iff, decide_eq_false_iff_not] at h
 omega
theorem sq_bound {a : Int} (h : -5000 ≤ a ∧ a ≤ 5000) : 0 ≤ a * a ∧ a * a ≤ 25000000 := by
 have h1 := Int.mul_nonneg (show 0 ≤ 5000 - a by omega) (show 0 ≤ 5000 + a by omega)
 exact ⟨Zono.sq_nonneg a, by grind⟩
theorem guy_sq {g : Guy} (h : guyB g = true) : 1 ≤ g.x * g.x + g.y * g.y ∧ g.x * g.x + g.y * g.y ≤ 50000000 := by
 obtain ⟨hx, hy, hne, _⟩ := guy_parts h
 have a := sq_bound hx
 have b := sq_bound hy
 rcases hne with q | q
 ·have : g.x * g.x ≠ 0 := fun e => q ((Int.mul_eq_zero.1 e).elim id id)
  omega
 ·have : g.y * g.y ≠ 0 := fun e => q ((Int.mul_eq_zero.1 e).elim id id)
  omega
theorem part_bound {l : List Tst} {g : Guy} (hl : l.all tstB = true) (hg : guyB g = true) : 0 ≤ partL l g ∧ partL l g ≤ 100 := by
 have hb := holds_bound (s := g.soil) hl (guy_parts hg).2.2.2.2.2
 have hs := guy_sq hg
 have hn := len_sq hs.1 (by omega)
 unfold partL
 have := Int.ediv_nonneg (show 0 ≤ 100 * (holdsL l g.soil g.depth).lo by omega) (show 0 ≤ lenL (g.x * g.x + g.y * g.y) by omega)
 omega
theorem part_mul {p a : Int} (hp : 0 ≤ p ∧ p ≤ 100) (ha : -5000 ≤ a ∧ a ≤ 5000) : -500000 ≤ p * a ∧ p * a ≤ 500000 := by
 have h1 := Int.mul_nonneg hp.1 (show 0 ≤ 5000 - a by omega)
 have h2 := Int.mul_nonneg hp.1 (show 0 ≤ 5000 + a by omega)
 constructor <;> grind
theorem forces_small {l : List Tst} {gs : List Guy} (hl : l.all tstB = true) (hg : gs.all guyB = true) : smallV (forcesL l gs) := fun f hf => by
 obtain ⟨g, hgm, rfl⟩ := List.mem_map.1 hf
 have hgB := List.all_eq_true.1 hg g hgm
 have hp := part_bound hl hgB
 obtain ⟨hx, hy, _⟩ := guy_parts hgB
 have a := part_mul hp hx
 have b := part_mul hp hy
 exact ⟨a.1, a.2, b.1, b.2⟩
theorem head_parts {h : Head} (hh : headB h = true) : (0 ≤ h.area ∧ h.area ≤ 1000) ∧ (0 ≤ h.bears ∧ h.bears ≤ 10000000) ∧ h.guys.length ≤ 8 ∧ h.guys.all guyB = true := by
 simp only [headB, withinB, Bool.and_eq_true, decide_eq_true_eq] at hh
 exact ⟨hh.1.1.1, hh.1.1.2, hh.1.2, hh.2⟩
/-! ### Ways and reach. -/
def waysP (F : List Vec) : List Vec := [⟨1, 0⟩, ⟨0, 1⟩, ⟨-1, 0⟩, ⟨0, -1⟩] ++ F.flatMap fun f => if f = ⟨0, 0⟩ then [] else [f, timesV f (-1), ⟨-f.y, f.x⟩, ⟨f.y, -f.x⟩]
def strongB (F : List Vec) (p : Vec) (w : Vec) : Bool := decide (helpL F w < dotV w p)
theorem sum_nonneg : ∀ (l : List Int), (∀ x ∈ l, 0 ≤ x) → 0 ≤ l.sum
 | [], _ => by simp
 | x :: l, h => by
  rw [List.sum_cons]
  have := sum_nonneg l (fun y hy => h y (by simp [hy]))
  have := h x (by simp)
  omega
theorem help_nonneg (F : List Vec) (w : Vec) : 0 ≤ helpL F w := sum_nonneg _ fun x hx => by
 obtain ⟨f, _, rfl⟩ := List.mem_map.1 hx
 omega
theorem balL_iff {F : List Vec} {p : Vec} : balL F p = true ↔ ∀ w, dotV w p ≤ helpL F w := by
 refine ⟨fun h w => ?_, fun h => ?_⟩
 ·obtain ⟨D, t, hS, _⟩ := solved h
  have hle : Zono.sumN F.length (fun i => t i * (-(dotV w (atV F i)))) ≤ Zono.sumN F.length (fun i => D * max 0 (-(dotV w (atV F i)))) := by
   refine Zono.sumN_le _ fun i hi => ?_
   have ht := hS.rng i hi
   rcases Int.le_total 0 (-(dotV w (atV F i))) with hm | hm
   ·rw [Int.max_eq_right hm]
    exact Int.mul_le_mul_of_nonneg_right ht.2 hm
   ·rw [Int.max_eq_left hm, Int.mul_zero]
    exact Int.mul_nonpos_of_nonneg_of_nonpos ht.1 hm
  have e1 : Zono.sumN F.length (fun i => t i * (-(dotV w (atV F i)))) = (-w.x) * Zono.sumN F.length (fun i => t i * (atV F i).x) + (-w.y) * Zono.sumN F.length (fun i => t i * (atV F i).y) := by
   rw [← Zono.sumN_mul, ← Zono.sumN_mul, ← Zono.sumN_add]
   exact Zono.sumN_congr _ fun i _ => by unfold dotV; grind
  have e2 : Zono.sumN F.length (fun i => D * max 0 (-(dotV w (atV F i)))) = D * helpL F w := by
   rw [Zono.sumN_mul]
   congr 1
   exact (sum_map (fun f => max 0 (-(dotV w f))) F).symm
  rw [e1, e2] at hle
  refine Int.le_of_mul_le_mul_left (a := D) ?_ hS.pos
  have h1 := hS.sx
  have h2 := hS.sy
  have : D * dotV w p = (-w.x) * Zono.sumN F.length (fun i => t i * (atV F i).x) + (-w.y) * Zono.sumN F.length (fun i => t i * (atV F i).y) := by unfold dotV; grind
  omega
 ·unfold balL
  rw [List.all_eq_true]
  exact fun w _ => decide_eq_true (h w)
theorem balL_ways {F : List Vec} {p : Vec} : balL F p = !(waysP F).any (strongB F p) := by
 refine bool_iff ⟨fun h => ?_, fun h => ?_⟩
 ·rw [Bool.not_eq_true', List.any_eq_false]
  intro w _
  have := balL_iff.1 h w
  simp [strongB]; exact this
 ·rw [Bool.not_eq_true', List.any_eq_false] at h
  unfold balL
  rw [List.all_eq_true]
  intro w hw
  rw [decide_eq_true_eq]
  by_cases hz : w = ⟨0, 0⟩
  ·subst hz
   have := help_nonneg F ⟨0, 0⟩
   unfold dotV; simp; exact this
  ·have hm : w ∈ waysP F := by
    rcases List.mem_append.1 hw with hw | hw
    ·exact List.mem_append.2 (.inl hw)
    ·obtain ⟨f, hf, hwf⟩ := List.mem_flatMap.1 hw
     refine List.mem_append.2 (.inr (List.mem_flatMap.2 ⟨f, hf, ?_⟩))
     by_cases q : f = ⟨0, 0⟩
     ·subst q
      simp [timesV] at hwf
      exact absurd hwf hz
     ·rw [if_neg q]; exact hwf
   have := h w hm
   simp [strongB] at this
   exact this
theorem dot_times (w p : Vec) (k : Int) : dotV w (timesV p k) = k * dotV w p := by unfold dotV timesV; grind
theorem bal_mono {F : List Vec} {p : Vec} {j k : Int} (h : balL F (timesV p k) = true) (h0 : 0 ≤ j) (hk : j ≤ k) : balL F (timesV p j) = true := by
 rw [balL_iff] at h ⊢
 intro w
 have h1 := h w
 have h2 := help_nonneg F w
 rw [dot_times] at h1 ⊢
 rcases Int.le_total 0 (dotV w p) with q | q
 ·exact Int.le_trans (Int.mul_le_mul_of_nonneg_right hk q) h1
 ·exact Int.le_trans (Int.mul_nonpos_of_nonneg_of_nonpos h0 q) h2
/-! ### The document's first example. -/
/-! ### Heads and corners that are too weak. -/
def weakK (F : List Vec) (area : Int) (wind : List Vec) : Option Nat := wind.findIdx? fun c => !balL F (timesV c area)
def weakFrom (l : List Tst) (wind : List Vec) : List Head → Nat → Int × Int
 | [], _ => (-1, -1)
 | h :: t, i => match weakK (forcesL l h.guys) h.area wind with
  | some k => (i, k)
  | none => weakFrom l wind t (i + 1)
def weakP (l : List Tst) (t : List Head) (wind : List Vec) : Int × Int := weakFrom l wind t 0
def standH (l : List Tst) (wind : List Vec) (h : Head) : Bool := wind.all fun c => balL (forcesL l h.guys) (timesV c h.area)
def standB (l : List Tst) (t : List Head) (wind : List Vec) : Bool := t.all (standH l wind)
theorem weakK_none {F : List Vec} {area : Int} {wind : List Vec} : weakK F area wind = none ↔ wind.all (fun c => balL F (timesV c area)) = true := by
 unfold weakK
 rw [List.findIdx?_eq_none_iff, List.all_eq_true]
 exact ⟨fun h x hx => by simpa using h x hx, fun h x hx => by simp [h x hx]⟩
theorem weakFrom_ge {l : List Tst} {wind : List Vec} : ∀ (t : List Head) (i : Nat), (weakFrom l wind t i = (-1, -1) ∧ t.all (standH l wind) = true) ∨ (∃ (j k : Nat) (hj : j < t.length) (hk : k < wind.length), weakFrom l wind t i = (((i + j : Nat) : Int), (k : Int)) ∧ balL (forcesL l t[j].guys) (timesV wind[k] t[j].area) = false ∧ t.all (standH l wind) = false)
 | [], i => .inl ⟨rfl, rfl⟩
 | h :: t, i => by
  unfold weakFrom
  cases q : weakK (forcesL l h.guys) h.area wind with
  | some k =>
   right
   unfold weakK at q
   rw [List.findIdx?_eq_some_iff_getElem] at q
   obtain ⟨hk, hq, _⟩ := q
   refine ⟨0, k, by simp, hk, by simp, by simpa using hq, ?_⟩
   rw [List.all_eq_false]
   refine ⟨h, by simp, ?_⟩
   unfold standH
   intro hall
   have := List.all_eq_true.1 hall _ (List.getElem_mem hk)
   simp at hq
   rw [hq] at this
   exact absurd this (by decide)
  | none =>
   have hs : standH l wind h = true := weakK_none.1 q
   rcases weakFrom_ge t (i + 1) with ⟨h1, h2⟩ | ⟨j, k, hj, hk, h1, h2, h3⟩
   ·left; exact ⟨h1, by rw [List.all_cons, hs, h2]; rfl⟩
   ·right
    refine ⟨j + 1, k, by simp; omega, hk, ?_, by simpa using h2, by rw [List.all_cons, hs, h3]; rfl⟩
    dsimp only
    rw [h1]
    congr 2
    omega
theorem weakP_iff {l : List Tst} {t : List Head} {wind : List Vec} : ((weakP l t wind).1 < 0 ↔ standB l t wind = true) ∧ (standB l t wind = true → weakP l t wind = (-1, -1)) := by
 unfold weakP standB
 rcases weakFrom_ge (l := l) (wind := wind) t 0 with ⟨h1, h2⟩ | ⟨j, k, hj, hk, h1, h2, h3⟩
 ·rw [h1, h2]; simp
 ·rw [h1, h3]; simp
theorem weakFrom_step {l : List Tst} {wind : List Vec} {t : List Head} {i : Nat} (hi : i < t.length) : weakFrom l wind (t.drop i) i = match weakK (forcesL l t[i].guys) t[i].area wind with | some k => ((i : Int), (k : Int)) | none => weakFrom l wind (t.drop (i + 1)) (i + 1) := by
 rw [List.drop_eq_getElem_cons hi]; rfl
/-! ### What stands, stands in less. -/
end Go.BT
namespace Go.BT
open Go.RowKit
inductive Kd where
 | silent | chain | alloc (T : TypeId) (z : Value)
def madeV (z : Value) (g : Nat) : Value := match z with
 | .tuple xs => .slice (some ⟨g, 0, none⟩) xs.size xs.size
 | _ => .pointer (some ⟨g, 0, none⟩)
def madeC (z : Value) : Array Value := match z with
 | .tuple xs => xs
 | z => z.cells
def isTup (z : Value) : Bool := match z with
 | .tuple _ => true
 | _ => false
def Makes (P : Program) (ops : Array Oper) (i : Nat) (T : TypeId) (z : Value) : Prop := match z with
 | .tuple xs => ∃ o, ops[i]? = some o ∧ ∀ (a : Act) (w : World), (execOp a.eval o).run P w = .ok (.value (.slice (some ⟨w.heap.size, 0, none⟩) xs.size xs.size)) (w.alloc (.cells xs T))
 | z => (P.info? T).bind (·.zero) = some z
def QF : Exit → Act → World → Prop := fun _ _ _ => False
abbrev Cont := (Nat → Prop) → Act → World → Prop
def ContMono (X : Nat → Prop) (K : Cont) : Prop := ∀ (N N' : Nat → Prop) a w w', (∀ g, N' g → N g) → StepX X w w' → K N a w → K N' a w'
section
variable (P : Program) (ops : Array Oper) (X : Nat → Prop) (base : Nat) (kd : Nat → Kd)
def go (i : Nat) (K : Cont) : Cont := fun N a w =>
 match kd i with
 | .silent => ∃ o v, ops[i]? = some o ∧ YieldsIf P ops (StepX X w) o v a ∧ K N (a.put o.dst v) w
 | .chain => ∀ W, StepX X w W → wpOp P ops QF i (fun a' w' => StepX X W w' ∧ K (fun g => N g ∧ (g < W.heap.size ∨ w'.heap.size ≤ g)) a' w') a W
 | .alloc T z => ∀ W g, StepX X w W → W.heap[g]? = some (.cells (madeC z) T (0, 0)) → base ≤ g → N g → K (fun x => N x ∧ x ≠ g) (a.put ((ops[i]?).bind (·.dst)) (madeV z g)) W
def run (l : List Nat) (K : Cont) : Cont := l.foldr (fun i K => go P ops X base kd i K) K
variable {P ops X base kd}
theorem YieldsIf.step {o : Oper} {v : Value} {a : Act} {w w' : World} (h : YieldsIf P ops (StepX X w) o v a) (hs : StepX X w w') : YieldsIf P ops (StepX X w') o v a :=
 h.imp (fun ⟨hw, hv⟩ => ⟨hw, fun W hW => hv W (hs.trans hW)⟩) id
theorem go_cong {i : Nat} {K K' : Cont} (h : ∀ N a w, K N a w → K' N a w) {N : Nat → Prop} {a : Act} {w : World} (hg : go P ops X base kd i K N a w) : go P ops X base kd i K' N a w := by
 unfold go at *
 split at hg
 ·obtain ⟨o, v, ho, hy, hk⟩ := hg; exact ⟨o, v, ho, hy, h _ _ _ hk⟩
 ·exact fun W hW => wpOp_mono (fun a' w' ⟨hs, hk⟩ => ⟨hs, h _ _ _ hk⟩) (hg W hW)
 ·exact fun W g h1 h2 h3 h4 => h _ _ _ (hg W g h1 h2 h3 h4)
theorem go_mono {i : Nat} {K : Cont} (hK : ContMono X K) : ContMono X (go P ops X base kd i K) := by
 intro N N' a w w' hN hs hg
 unfold go at *
 split at hg
 ·obtain ⟨o, v, ho, hy, hk⟩ := hg; exact ⟨o, v, ho, YieldsIf.step hy hs, hK _ _ _ _ _ hN hs hk⟩
 ·exact fun W hW => wpOp_mono (fun a' w' ⟨hs', hk⟩ => ⟨hs', hK _ _ _ _ _ (fun g ⟨h1, h2⟩ => ⟨hN g h1, h2⟩) (StepX.refl _ _) hk⟩) (hg W (hs.trans hW))
 ·exact fun W g h1 h2 h3 h4 => hK _ _ _ _ _ (fun x ⟨h5, h6⟩ => ⟨hN x h5, h6⟩) (StepX.refl _ _) (hg W g (hs.trans h1) h2 h3 (hN g h4))
theorem run_mono {K : Cont} (hK : ContMono X K) : ∀ l, ContMono X (run P ops X base kd l K)
 | [] => hK
 | _ :: l => go_mono (run_mono hK l)
theorem wpOp_under {j : Nat} {oj : Oper} {dst : Option Tmp} {v : Value} (hj : ops[j]? = some oj) (h1 : ∀ d, dst = some d → d ∉ oj.looksAt ops) (h2 : ∀ d, dst = some d → oj.dst ≠ some d)
  (hsj : ∀ cs b, oj.op ≠ .select cs b) {K : Act → World → Prop} {a : Act} {w : World} (h : wpOp P ops QF j K a w) :
  wpOp P ops QF j (fun a' w' => ∃ a0, a' = a0.put dst v ∧ K a0 w') (a.put dst v) w := by
 unfold wpOp at *
 simp only [hj] at *
 rw [wanted_put oj a dst v h1]
 split
 ·rename_i hw
  simp only [hw, if_true] at h
  rcases h with h | ⟨_, a0, w0, hF⟩
  case inr => exact hF.elim
  refine .inl ?_
  unfold Oper.wp at *
  rw [execOp_put oj hsj a dst v h1]
  generalize (execOp a.eval oj).run P w = r at *
  cases r with
  | ok n w' =>
   cases n <;> simp only [Oper.upon] at h ⊢
   case value u => exact ⟨_, (Act.put_comm a v u h2), h⟩
   case skip => exact ⟨_, (Act.put_comm a v undef h2), h⟩
   case defer d => exact ⟨_, (by rw [← Act.put_comm _ v undef h2]; cases dst <;> rfl), h⟩
   case enter f args =>
    refine Calls.mono h fun e w'' he => ?_
    cases e with
    | returned u => exact ⟨_, (Act.put_comm a v u h2), he⟩
    | panicked c => exact he.elim
    | outgrown => exact he
   case row row args => exact Rows.mono h fun u w'' he => ⟨_, (Act.put_comm a v u h2), he⟩
  | halt x w' =>
   cases x <;> simp only [Oper.upon] at h ⊢
   case panic u => exact h.elim
 ·rename_i hw
  simp only [hw] at h
  exact ⟨_, (Act.put_comm a v undef h2), h⟩
def swaps : Kd → Kd → Bool
 | .silent, _ => true
 | .chain, .alloc _ _ => true
 | .alloc _ _, .alloc _ _ => true
 | _, _ => false
theorem exch {i j : Nat} {oi oj : Oper} (hi : ops[i]? = some oi) (hj : ops[j]? = some oj) (hap : oi.apart ops oj = true)
  (hsi : ∀ cs b, oi.op ≠ .select cs b) (hsj : ∀ cs b, oj.op ≠ .select cs b) (hsw : swaps (kd i) (kd j) = true) (hX : ∀ j, X j → j < base) {K : Cont} (hK : ContMono X K) {N : Nat → Prop} {a : Act} {w : World}
  (h : go P ops X base kd i (go P ops X base kd j K) N a w) : go P ops X base kd j (go P ops X base kd i K) N a w := by
 obtain ⟨h1, h2, h3⟩ := Oper.apart_spec hap
 have keepI : ∀ {S : World → Prop} {v : Value} {a : Act} (u : Value), YieldsIf P ops S oi v a → YieldsIf P ops S oi v (a.put oj.dst u) := fun {S v a} u hy =>
  hy.of_same (execOp_put oi hsi a oj.dst u h3) (wanted_put oi a oj.dst u h3)
 have backJ : ∀ {S : World → Prop} {v u : Value} {a : Act}, YieldsIf P ops S oj v (a.put oi.dst u) → YieldsIf P ops S oj v a := fun {S v u a} hy =>
  hy.of_same (execOp_put oj hsj a oi.dst u h1).symm (wanted_put oj a oi.dst u h1).symm
 have hdi : (ops[i]?).bind (·.dst) = oi.dst := by rw [hi]; rfl
 have hdj : (ops[j]?).bind (·.dst) = oj.dst := by rw [hj]; rfl
 have hsome : ∀ {w w' : World} {g : Nat} {o : Obj}, StepX X w w' → base ≤ g → w.heap[g]? = some o → w'.heap[g]? = some o := fun {w w' g o} hs hb hg => by
  rw [hs.block g (Array.getElem?_eq_some_iff.1 hg).1 (fun hx => by have := hX g hx; omega)]; exact hg
 cases hki : kd i with
 | silent =>
  cases hkj : kd j with
  | silent =>
   simp only [go, hki, hkj] at h ⊢
   obtain ⟨o, v, ho, hy, o', v', ho', hy', hk⟩ := h
   obtain rfl : oi = o := by rw [hi] at ho; exact Option.some.inj ho
   obtain rfl : oj = o' := by rw [hj] at ho'; exact Option.some.inj ho'
   exact ⟨_, v', hj, backJ hy', _, v, hi, keepI _ hy, by rw [← Act.put_comm a v v' h2]; exact hk⟩
  | chain =>
   simp only [go, hki, hkj] at h ⊢
   obtain ⟨o, v, ho, hy, hk⟩ := h
   obtain rfl : oi = o := by rw [hi] at ho; exact Option.some.inj ho
   intro W hW
   refine wpOp_mono (fun a' w' hh => ?_) (wpOp_putIf (S := StepX X w) hj hap hsi hsj (fun _ _ _ hq => hq) hy (hk W hW))
   obtain ⟨hy', hs, hk'⟩ := hh
   exact ⟨hs, _, v, hi, YieldsIf.step hy' (hW.trans hs), hk'⟩
  | alloc T z =>
   simp only [go, hki, hkj] at h ⊢
   obtain ⟨o, v, ho, hy, hk⟩ := h
   obtain rfl : oi = o := by rw [hi] at ho; exact Option.some.inj ho
   refine fun W g hs hb hg hN => ⟨_, v, hi, ?_, ?_⟩
   ·rw [hdj]; exact keepI _ (YieldsIf.step hy hs)
   ·rw [hdj, ← Act.put_comm a v _ h2, ← hdj]
    exact hk W g hs hb hg hN
 | chain =>
  cases hkj : kd j with
  | silent => simp [hki, hkj, swaps] at hsw
  | chain => simp [hki, hkj, swaps] at hsw
  | alloc T z =>
   simp only [go, hki, hkj] at h ⊢
   intro W0 g hs0 hb hg hN W hW
   refine wpOp_mono (fun a' w' hh => ?_) (wpOp_under (dst := (ops[j]?).bind (·.dst)) (v := madeV z g) hi (by rw [hdj]; exact h3) (by rw [hdj]; exact fun d hd he => h2 d he hd) hsi (h W (hs0.trans hW)))
   obtain ⟨a0, rfl, hs, hk⟩ := hh
   have hlt : g < W.heap.size := Nat.lt_of_lt_of_le (Array.getElem?_eq_some_iff.1 hb).1 hW.size
   exact ⟨hs, hK _ _ _ _ _ (fun x ⟨⟨q1, q2⟩, q3⟩ => ⟨⟨q1, q3⟩, q2⟩) (StepX.refl _ _) (hk w' g (StepX.refl _ _) (hsome (hW.trans hs) hg hb) hg ⟨hN, .inl hlt⟩)⟩
 | alloc T z =>
  cases hkj : kd j with
  | silent => simp [hki, hkj, swaps] at hsw
  | chain => simp [hki, hkj, swaps] at hsw
  | alloc T' z' =>
   simp only [go, hki, hkj] at h ⊢
   intro W' g' hs' hb' hg' hN' W g hs hb hg ⟨hN, hne⟩
   rw [hdi, hdj] at *
   rw [← Act.put_comm a _ _ h2]
   exact hK _ _ _ _ _ (fun x ⟨⟨q1, q2⟩, q3⟩ => ⟨⟨q1, q3⟩, q2⟩) (StepX.refl _ _) (h W g (hs'.trans hs) hb hg hN W g' (StepX.refl _ _) (hsome hs hg' hb') hg' ⟨hN', fun e => hne e.symm⟩)
def bitsOf (tab : List Nat) (j : Nat) (l : List Edge) : Nat := l.foldl (fun acc e => if Region.binds .any e && decide (e.on < j) then acc ||| (2 ^ e.on ||| tab.getD e.on 0) else acc) 0
def okTab (tab : List Nat) (ops : Array Oper) : Bool := (List.range ops.size).all fun j => match ops[j]? with
 | none => true
 | some o => tab.getD j 0 == bitsOf tab j o.after.toList
def ancB (tab : List Nat) (i j : Nat) : Bool := (tab.getD j 0).testBit i
theorem bits_of {tab : List Nat} {j i : Nat} : ∀ {l : List Edge} {acc : Nat}, (l.foldl (fun acc e => if Region.binds .any e && decide (e.on < j) then acc ||| (2 ^ e.on ||| tab.getD e.on 0) else acc) acc).testBit i = true →
  acc.testBit i = true ∨ ∃ e ∈ l, Region.binds .any e = true ∧ e.on < j ∧ (e.on = i ∨ ancB tab i e.on = true) := by
 intro l
 induction l with
 | nil => intro acc h; exact .inl h
 | cons x l ih =>
  intro acc h
  rw [List.foldl_cons] at h
  rcases ih h with h1 | ⟨e, he, h2⟩
  ·split at h1
   ·rename_i hx
    simp only [Bool.and_eq_true, decide_eq_true_eq] at hx
    rw [Nat.testBit_or, Nat.testBit_or, Nat.testBit_two_pow, Bool.or_eq_true, Bool.or_eq_true, decide_eq_true_eq] at h1
    rcases h1 with h1 | h1
    ·exact .inl h1
    ·exact .inr ⟨x, List.mem_cons_self, hx.1, hx.2, h1⟩
   ·exact .inl h1
  ·exact .inr ⟨e, List.mem_cons_of_mem _ he, h2⟩
def okPair (tab : List Nat) (ops : Array Oper) (kd : Nat → Kd) (i j : Nat) : Bool :=
 ancB tab i j || match ops[i]?, ops[j]? with
  | some oi, some oj => oi.apart ops oj && swaps (kd i) (kd j)
  | _, _ => false
def okList (tab : List Nat) (ops : Array Oper) (kd : Nat → Kd) : List Nat → Bool
 | [] => true
 | i :: l => l.all (okPair tab ops kd i) && okList tab ops kd l
def okTail (tab : List Nat) (before : List Nat) : List Nat → Bool
 | [] => true
 | x :: t => before.all (fun y => ancB tab y x) && okTail tab (before ++ [x]) t
def isSil : Kd → Bool
 | .silent => true
 | _ => false
def isMove (ops : Array Oper) (i : Nat) : Bool := match ops[i]? with
 | some o => (match o.op with | .move _ => true | .extract _ _ => true | _ => false)
 | none => false
def okWait (strict : Bool) (tab : List Nat) (ops : Array Oper) (kd : Nat → Kd) (y x : Nat) : Bool :=
 ancB tab y x || (!strict && isSil (kd y) && isMove ops y && match ops[y]?, ops[x]? with
  | some oy, some ox => oy.apart ops ox
  | _, _ => false)
def okDeps (ops : Array Oper) (seen : List Nat) : List Nat → Bool
 | [] => true
 | x :: l => (match ops[x]? with
  | none => false
  | some o => o.after.all fun e => !Region.binds .any e || seen.contains e.on) && okDeps ops (seen ++ [x]) l
def okAlloc (ops : Array Oper) (kd : Nat → Kd) (l : List Nat) : Bool :=
 l.all fun i => match kd i, ops[i]? with
  | .alloc T z, some o => o.guard.isNone && (isTup z || match o.op with | .alloc T' => T == T' | _ => false)
  | .alloc _ _, none => false
  | _, _ => true
def okSeq (strict : Bool) (tab : List Nat) (ops : Array Oper) (kd : Nat → Kd) (l t : List Nat) : Bool :=
 okTab tab ops && okList tab ops kd l && (l.all fun y => t.all fun x => okWait strict tab ops kd y x) && okTail tab [] t && okDeps ops [] (l ++ t) && okAlloc ops kd l && Region.noSelect ops && (List.range ops.size).all (fun i => (l ++ t).contains i) && (l ++ t).all (fun i => decide (i < ops.size)) && decide (l ++ t).Nodup
def Closed (ops : Array Oper) (listed : Array Bool) : Prop :=
 ∀ x o, ops[x]? = some o → listed.getD x true = true → ∀ e ∈ o.after, Region.binds .any e = true → listed.getD e.on false = true
theorem getD_tf' {listed : Array Bool} {i : Nat} (h : i < listed.size) (hl : listed.getD i false = true) : listed.getD i true = true := by
 simp [h] at hl ⊢; exact hl
variable {tab : List Nat}
theorem anc_listed {listed : Array Bool} (hsz : listed.size = ops.size) (hc : Closed ops listed) (ht : okTab tab ops = true) : ∀ j i o, ops[j]? = some o → (∀ e ∈ o.after, Region.binds .any e = true → listed.getD e.on false = true) →
  ancB tab i j = true → listed.getD i false = true := by
 intro j
 induction j using Nat.strongRecOn with
 | _ j ih =>
  intro i o ho hd h
  have hj : j < ops.size := (Array.getElem?_eq_some_iff.1 ho).1
  have h1 := List.all_eq_true.1 ht j (List.mem_range.2 hj)
  simp only [ho, beq_iff_eq] at h1
  unfold ancB at h
  rw [h1] at h
  rcases bits_of h with h2 | ⟨e, he, hb, hlt, h2⟩
  ·simp at h2
  ·have hl := hd e (by simpa using he) hb
   rcases h2 with rfl | h2
   ·exact hl
   ·have hej : e.on < ops.size := by omega
    exact ih e.on hlt i ops[e.on] (Array.getElem?_eq_getElem hej) (hc e.on _ (Array.getElem?_eq_getElem hej) (getD_tf' (by omega) hl)) h2
theorem bring (hX : ∀ j, X j → j < base) {K : Cont} (hK : ContMono X K) (hsel : Region.noSelect ops = true) {j : Nat} {oj : Oper} (hj : ops[j]? = some oj) : ∀ (l1 l2 : List Nat) (N : Nat → Prop) (a : Act) (w : World),
  (∀ i ∈ l1, ∃ oi, ops[i]? = some oi ∧ oi.apart ops oj = true ∧ swaps (kd i) (kd j) = true) → run P ops X base kd (l1 ++ j :: l2) K N a w → go P ops X base kd j (run P ops X base kd (l1 ++ l2) K) N a w := by
 intro l1
 induction l1 with
 | nil => intro l2 N a w _ h; exact h
 | cons i l1 ih =>
  intro l2 N a w hall h
  obtain ⟨oi, hi, hap, hsw⟩ := hall i (by simp)
  have h' : go P ops X base kd i (go P ops X base kd j (run P ops X base kd (l1 ++ l2) K)) N a w :=
   go_cong (fun N a w hh => ih l2 N a w (fun k hk => hall k (by simp [hk])) hh) h
  exact exch hi hj hap (Region.noSelect_spec hsel i oi · · hi) (Region.noSelect_spec hsel j oj · · hj) hsw hX (run_mono hK _) h'
theorem okList_drop {l1 l2 : List Nat} {j : Nat} (h : okList tab ops kd (l1 ++ j :: l2) = true) : okList tab ops kd (l1 ++ l2) = true ∧ ∀ i ∈ l1, okPair tab ops kd i j = true := by
 induction l1 with
 | nil => simp only [List.nil_append, okList, Bool.and_eq_true] at h; exact ⟨h.2, by simp⟩
 | cons i l1 ih =>
  simp only [List.cons_append, okList, Bool.and_eq_true, List.all_eq_true] at h ⊢
  obtain ⟨h1, h2⟩ := ih h.2
  refine ⟨⟨fun x hx => h.1 x ?_, h1⟩, fun x hx => ?_⟩
  ·simp only [List.mem_append, List.mem_cons] at hx ⊢; rcases hx with hx | hx <;> simp [hx]
  ·rcases List.mem_cons.1 hx with rfl | hx
   ·exact h.1 j (by simp)
   ·exact h2 x hx
def TailOk (tab : List Nat) (l t : List Nat) : Prop := ∀ t1 x t2, t = t1 ++ x :: t2 → ∀ y ∈ l ++ t1, ancB tab y x = true
def DepsOk (ops : Array Oper) (listed : Array Bool) (L : List Nat) : Prop := ∀ L1 x L2, L = L1 ++ x :: L2 → ∃ o, ops[x]? = some o ∧ ∀ e ∈ o.after, Region.binds .any e = true → listed.getD e.on false = true ∨ e.on ∈ L1
theorem tailOk_of {t : List Nat} : ∀ {b : List Nat}, okTail tab b t = true → TailOk tab b t := by
 induction t with
 | nil => intro b _ t1 x t2 h; exact absurd h (by simp)
 | cons z t ih =>
  intro b h t1 x t2 he y hy
  simp only [okTail, Bool.and_eq_true, List.all_eq_true] at h
  cases t1 with
  | nil =>
   simp only [List.nil_append, List.cons.injEq] at he
   obtain ⟨rfl, rfl⟩ := he
   exact h.1 y (by simpa using hy)
  | cons z' t1 =>
   simp only [List.cons_append, List.cons.injEq] at he
   obtain ⟨rfl, rfl⟩ := he
   exact ih h.2 t1 x t2 rfl y (by simpa using hy)
theorem depsOk_of {listed : Array Bool} {L : List Nat} : ∀ {seen : List Nat}, okDeps ops seen L = true → ∀ L1 x L2, L = L1 ++ x :: L2 → ∃ o, ops[x]? = some o ∧ ∀ e ∈ o.after, Region.binds .any e = true → listed.getD e.on false = true ∨ e.on ∈ seen ++ L1 := by
 induction L with
 | nil => intro b _ t1 x t2 h; exact absurd h (by simp)
 | cons z t ih =>
  intro b h t1 x t2 he
  simp only [okDeps, Bool.and_eq_true] at h
  cases t1 with
  | nil =>
   simp only [List.nil_append, List.cons.injEq] at he
   obtain ⟨rfl, rfl⟩ := he
   cases ho : ops[z]? with
   | none => simp [ho] at h
   | some o =>
    simp only [ho, Array.all_eq_true_iff_forall_mem, Bool.or_eq_true, Bool.not_eq_true', List.contains_iff_mem] at h
    exact ⟨o, rfl, fun e he hb => .inr (by have := (h.1 e he).resolve_left (by simp [hb]); simpa using this)⟩
  | cons z' t1 =>
   simp only [List.cons_append, List.cons.injEq] at he
   obtain ⟨rfl, rfl⟩ := he
   obtain ⟨o, ho, hh⟩ := ih h.2 t1 x t2 rfl
   exact ⟨o, ho, fun e he hb => (hh e he hb).imp id (by simp)⟩
def K0 (P : Program) (ops : Array Oper) (X : Nat → Prop) (Q : Exit → Act → World → Prop) (t : List Nat) : Cont := fun _ a w => ∀ W, StepX X w W → wpOps P ops Q t a W
theorem K0_mono {Q : Exit → Act → World → Prop} (t : List Nat) : ContMono X (K0 P ops X Q t) := fun _ _ _ _ _ _ hs h W hW => h W (hs.trans hW)
theorem wpOp_any {Q : Exit → Act → World → Prop} {i : Nat} {K : Act → World → Prop} {a : Act} {w : World} (h : wpOp P ops QF i K a w) : wpOp P ops Q i K a w := by
 unfold wpOp at *
 cases ho : ops[i]? with
 | none => simp only [ho] at h; exact h
 | some o =>
  simp only [ho] at h ⊢
  split
  ·rename_i hw
   simp only [hw, if_true] at h
   rcases h with h | ⟨_, a0, w0, hF⟩
   case inr => exact hF.elim
   refine .inl ?_
   unfold Oper.wp at *
   generalize (execOp a.eval o).run P w = r at *
   cases r with
   | ok n w' =>
    cases n <;> simp only [Oper.upon] at h ⊢ <;> first
     | exact h
     | exact Calls.mono h (fun e w'' he => by cases e <;> first | exact he | exact he.elim | (obtain ⟨_, _, hF⟩ := he; exact hF.elim))
   | halt x w' => cases x <;> simp only [Oper.upon] at h ⊢ <;> exact h.elim
  ·rename_i hw
   simp only [hw] at h
   exact h
theorem wpOp_alloc {Q : Exit → Act → World → Prop} {i : Nat} {o : Oper} {T : TypeId} {z : Value} {K : Act → World → Prop} {a : Act} {w : World} (ho : ops[i]? = some o) (hop : (isTup z || match o.op with | .alloc T' => T == T' | _ => false) = true) (hg : o.guard = none)
  (hz : Makes P ops i T z) (h : K (a.put o.dst (madeV z w.heap.size)) (w.alloc (.cells (madeC z) T))) : wpOp P ops Q i K a w := by
 unfold wpOp
 simp only [ho, Region.wanted, hg, if_true]
 refine .inl ?_
 unfold Oper.wp
 have hr : (execOp a.eval o).run P w = .ok (.value (madeV z w.heap.size)) (w.alloc (.cells (madeC z) T)) := by
  by_cases ht : ∃ xs, z = .tuple xs
  ·obtain ⟨xs, rfl⟩ := ht
   obtain ⟨o', ho', hrun⟩ := hz
   obtain rfl : o = o' := by rw [ho] at ho'; exact Option.some.inj ho'
   exact hrun _ _
  ·have h1 : isTup z = false := by cases z <;> simp [isTup] at ht ⊢
   have h2 : madeV z w.heap.size = .pointer (some ⟨w.heap.size, 0, none⟩) := by cases z <;> simp [isTup] at h1 <;> rfl
   have h3 : madeC z = z.cells := by cases z <;> simp [isTup] at h1 <;> rfl
   have h4 : (P.info? T).bind (·.zero) = some z := by cases z <;> simp [isTup] at h1 <;> exact hz
   rw [h1, Bool.false_or] at hop
   have hop' : o.op = .alloc T := by
    cases hopp : o.op <;> simp [hopp] at hop
    rw [hop]
   obtain ⟨inf, hi, hzz⟩ := Option.bind_eq_some_iff.1 h4
   rw [h2, h3]
   simp [execOp, hop', Instr.alloc, zeroValue, typeInfo, hi, hzz, newVar, newRow, newObj, Result.andThen]
   rfl
 rw [hr]
 exact h
theorem getD_tf {listed : Array Bool} {i : Nat} (h : i < listed.size) : listed.getD i true = listed.getD i false := by simp [h]
theorem getD_set {listed : Array Bool} {i j : Nat} (hi : i < listed.size) : (listed.setIfInBounds i true).getD j true = (listed.getD j true || decide (i = j)) := by
 by_cases hij : i = j
 ·subst hij; simp [hi]
 ·rw [getD_set_ne true hij]; simp [hij]
theorem depsOk_drop {listed : Array Bool} {L1 L2 : List Nat} {j : Nat} (hj : j < listed.size) (h : DepsOk ops listed (L1 ++ j :: L2)) : DepsOk ops (listed.setIfInBounds j true) (L1 ++ L2) := by
 intro M1 x M2 he
 have keep : ∀ {k}, listed.getD k false = true → (listed.setIfInBounds j true).getD k false = true := fun {k} hk => getD_set_true hk
 rcases List.append_eq_append_iff.1 he with ⟨r, h1, h2⟩ | ⟨r, h1, h2⟩
 ·-- M1 = L1 ++ r, L2 = r ++ x :: M2
  subst h1 h2
  obtain ⟨o, ho, hh⟩ := h (L1 ++ j :: r) x M2 (by simp)
  refine ⟨o, ho, fun e hee hb => ?_⟩
  rcases hh e hee hb with hl | hm
  ·exact .inl (keep hl)
  ·simp only [List.mem_append, List.mem_cons] at hm ⊢
   rcases hm with hm | rfl | hm
   ·exact .inr (.inl hm)
   ·exact .inl (by simp [hj])
   ·exact .inr (.inr hm)
 ·-- L1 = M1 ++ r, x :: M2 = r ++ L2
  cases r with
  | nil =>
   simp only [List.append_nil, List.nil_append] at h1 h2
   subst h1
   obtain ⟨o, ho, hh⟩ := h (L1 ++ [j]) x M2 (by simp [h2])
   refine ⟨o, ho, fun e hee hb => ?_⟩
   rcases hh e hee hb with hl | hm
   ·exact .inl (keep hl)
   ·simp only [List.mem_append, List.mem_singleton] at hm
    rcases hm with hm | rfl
    ·exact .inr hm
    ·exact .inl (by simp [hj])
  | cons y r =>
   simp only [List.cons_append, List.cons.injEq] at h2
   obtain ⟨rfl, rfl⟩ := h2
   subst h1
   obtain ⟨o, ho, hh⟩ := h M1 x (r ++ j :: L2) (by simp)
   exact ⟨o, ho, fun e hee hb => (hh e hee hb).imp keep id⟩
theorem nodup_mid {L1 L2 : List Nat} {j : Nat} (h : (L1 ++ j :: L2).Nodup) : j ∉ L1 ++ L2 ∧ (L1 ++ L2).Nodup := by
 rw [List.nodup_append] at h
 obtain ⟨h1, h2, h3⟩ := h
 rw [List.nodup_cons] at h2
 refine ⟨?_, ?_⟩
 ·rw [List.mem_append]
  rintro (hj | hj)
  ·exact h3 j hj j (by simp) rfl
  ·exact h2.1 hj
 ·rw [List.nodup_append]
  exact ⟨h1, h2.2, fun a ha b hb => h3 a ha b (by simp [hb])⟩
theorem unlisted_drop {listed : Array Bool} {j : Nat} {L1 L2 : List Nat} (hsz : j < listed.size) (hun : ∀ i, i < ops.size → (listed.getD i true = false ↔ i ∈ L1 ++ j :: L2)) (hnd : (L1 ++ j :: L2).Nodup) :
  ∀ i, i < ops.size → ((listed.setIfInBounds j true).getD i true = false ↔ i ∈ L1 ++ L2) := by
 intro i hi
 rw [getD_set hsz, Bool.or_eq_false_iff, decide_eq_false_iff_not, hun i hi]
 obtain ⟨h1, _⟩ := nodup_mid hnd
 simp only [List.mem_append, List.mem_cons] at h1 ⊢
 constructor
 ·rintro ⟨h2 | h2 | h2, h3⟩
  ·exact .inl h2
  ·exact absurd h2.symm h3
  ·exact .inr h2
 ·intro h2
  refine ⟨h2.elim .inl (fun h => .inr (.inr h)), fun e => ?_⟩
  subst e; exact h1 h2
theorem closed_set {listed : Array Bool} {j : Nat} {oj : Oper} (hsz : j < listed.size) (hoj : ops[j]? = some oj) (hdj : ∀ e ∈ oj.after, Region.binds .any e = true → listed.getD e.on false = true) (hcl : Closed ops listed) :
  Closed ops (listed.setIfInBounds j true) := fun x o ho hx e he hb => by
 rw [getD_set hsz, Bool.or_eq_true, decide_eq_true_eq] at hx
 rcases hx with hx | rfl
 ·exact getD_set_true (hcl x o ho hx e he hb)
 ·rw [hoj] at ho; obtain rfl := Option.some.inj ho; exact getD_set_true (hdj e he hb)
theorem tail_sound {Q : Exit → Act → World → Prop} : ∀ (fuel : Nat) (t : List Nat) (listed : Array Bool) (a : Act) (w : World),
  t.length ≤ fuel → listed.size = ops.size → (∀ i, i < ops.size → (listed.getD i true = false ↔ i ∈ t)) → (∀ i ∈ t, i < ops.size) → t.Nodup → Closed ops listed →
  okTab tab ops = true → TailOk tab [] t → DepsOk ops listed t → wpOps P ops Q t a w → wpAny P .any ops Q fuel listed a w := by
 intro fuel
 induction fuel with
 | zero =>
  intro t listed a w hf hsz hun hin hnd hcl htab htail hdeps h
  have ht : t = [] := List.eq_nil_of_length_eq_zero (by omega)
  subst ht
  refine ⟨?_, by simpa [wpOps] using h⟩
  rw [List.eq_nil_iff_forall_not_mem]
  intro j hj
  obtain ⟨h0, o, ho, _⟩ := mem_ready.1 hj
  have := (hun j (Array.getElem?_eq_some_iff.1 ho).1).1 h0
  simp at this
 | succ fuel ih =>
  intro t listed a w hf hsz hun hin hnd hcl htab htail hdeps h
  refine ⟨fun hr => ?_, fun j hj => ?_⟩
  ·cases t with
   | nil => simpa [wpOps] using h
   | cons x L =>
    exfalso
    obtain ⟨o, ho, hh⟩ := hdeps [] x L rfl
    have hx : x ∈ Region.ready .any ops listed := mem_ready.2 ⟨(hun x (hin x (by simp))).2 (by simp), o, ho, fun e he hb => (hh e he hb).resolve_right (by simp)⟩
    rw [hr] at hx; cases hx
  ·obtain ⟨h0, oj, hoj, hdj⟩ := mem_ready.1 hj
   have hjlt := (Array.getElem?_eq_some_iff.1 hoj).1
   have hjsz : j < listed.size := by omega
   obtain ⟨t1, t2, rfl⟩ := List.append_of_mem ((hun j hjlt).1 h0)
   have ht1 : t1 = [] := by
    rw [List.eq_nil_iff_forall_not_mem]
    intro i hi
    have h1 := anc_listed hsz hcl htab j i oj hoj hdj (htail t1 j t2 rfl i (by simp [hi]))
    have h2 := (hun i (hin i (by simp [hi]))).2 (by simp [hi])
    rw [getD_tf (by rw [hsz]; exact hin i (by simp [hi])), h1] at h2
    cases h2
   subst ht1
   rw [List.nil_append, wpOps_cons] at h
   refine wpOp_mono (fun a' w' hk => ?_) h
   have hnd' := nodup_mid hnd
   refine ih t2 _ a' w' (by simp at hf; omega) (by simp [hsz]) (by have := unlisted_drop (L1 := []) (L2 := t2) hjsz hun hnd; simpa using this) (fun i hi => hin i (by simp [hi])) (by simpa using hnd'.2)
    (closed_set hjsz hoj hdj hcl) htab (fun u1 x u2 he y hy => htail (j :: u1) x u2 (by simp [he]) y (by simp at hy ⊢; exact .inr hy)) (by have := depsOk_drop (L1 := []) (L2 := t2) hjsz hdeps; simpa using this) hk
def runM (P : Program) (ops : Array Oper) : List Nat → (Act → Prop) → Act → Prop
 | [], K, a => K a
 | i :: l, K, a => ∃ o v, ops[i]? = some o ∧ YieldsIf P ops (fun _ => True) o v a ∧ runM P ops l K (a.put o.dst v)
theorem runM_mono {K K' : Act → Prop} (h : ∀ a, K a → K' a) : ∀ {l : List Nat} {a : Act}, runM P ops l K a → runM P ops l K' a
 | [], _, hr => h _ hr
 | _ :: _, _, ⟨o, v, ho, hy, hr⟩ => ⟨o, v, ho, hy, runM_mono h hr⟩
theorem move_yields {S : World → Prop} {o : Oper} {v : Value} {a : Act} {w : World} {i : Nat} (ho : ops[i]? = some o) (hm : isMove ops i = true) (hs : S w) (h : YieldsIf P ops S o v a) : YieldsIf P ops (fun _ => True) o v a := by
 rcases h with ⟨hw, hv⟩ | h
 ·refine .inl ⟨hw, fun W _ => ?_⟩
  have h1 := hv w hs
  unfold isMove at hm
  rw [ho] at hm
  simp only at hm
  cases hop : o.op <;> simp [hop] at hm
  ·simp [execOp, hop] at h1 ⊢
   exact h1
  ·rename_i x ix
   have h2 : ∀ (u : Value) (n : Nat), (∃ y, Instr.extract u n = pure y) ∨ ∃ t, Instr.extract u n = stuck t := fun u n => by
    unfold Instr.extract
    split
    ·split
     ·exact .inl ⟨_, rfl⟩
     ·exact .inr ⟨_, rfl⟩
    ·exact .inr ⟨_, rfl⟩
   rcases h2 (a.eval x) ix with ⟨y, h3⟩ | ⟨t, h3⟩
   ·simp [execOp, hop, h3] at h1 ⊢
    exact h1
   ·simp [execOp, hop, h3] at h1
 ·exact .inr h
theorem runM_of_run {Q : Exit → Act → World → Prop} {t : List Nat} {w : World} : ∀ {l : List Nat} {N : Nat → Prop} {a : Act}, (∀ y ∈ l, isSil (kd y) = true ∧ isMove ops y = true) → run P ops X base kd l (K0 P ops X Q t) N a w → runM P ops l (fun a => wpOps P ops Q t a w) a := by
 intro l
 induction l with
 | nil => intro N a _ h; exact h w (StepX.refl _ w)
 | cons i l ih =>
  intro N a hl h
  obtain ⟨h1, h2⟩ := hl i (by simp)
  have h' : go P ops X base kd i (run P ops X base kd l (K0 P ops X Q t)) N a w := h
  unfold go at h'
  cases hk : kd i <;> simp [hk, isSil] at h1
  rw [hk] at h'
  obtain ⟨o, v, ho, hy, hr⟩ := h'
  exact ⟨o, v, ho, move_yields ho h2 (StepX.refl _ w) hy, ih (fun y hy => hl y (by simp [hy])) hr⟩
theorem bringM (hsel : Region.noSelect ops = true) {K : Act → Prop} {j : Nat} {oj : Oper} (hj : ops[j]? = some oj) : ∀ {l1 l2 : List Nat} {a : Act}, (∀ i ∈ l1, ∃ oi, ops[i]? = some oi ∧ oi.apart ops oj = true) → runM P ops (l1 ++ j :: l2) K a →
  ∃ v, YieldsIf P ops (fun _ => True) oj v a ∧ runM P ops (l1 ++ l2) K (a.put oj.dst v) := by
 intro l1
 induction l1 with
 | nil =>
  intro l2 a _ h
  obtain ⟨o, v, ho, hy, hr⟩ := h
  obtain rfl : oj = o := by rw [hj] at ho; exact Option.some.inj ho
  exact ⟨v, hy, hr⟩
 | cons i l1 ih =>
  intro l2 a hall h
  obtain ⟨oi', hi', hap⟩ := hall i (by simp)
  obtain ⟨oi, vi, hi, hyi, hr⟩ := h
  obtain rfl : oi' = oi := by rw [hi] at hi'; exact (Option.some.inj hi').symm
  obtain ⟨v, hyj, hr2⟩ := ih (fun k hk => hall k (by simp [hk])) hr
  obtain ⟨h1, h2, h3⟩ := Oper.apart_spec hap
  have hsi := (Region.noSelect_spec hsel i oi' · · hi)
  have hsj := (Region.noSelect_spec hsel j oj · · hj)
  refine ⟨v, hyj.of_same (execOp_put oj hsj a oi'.dst vi h1).symm (wanted_put oj a oi'.dst vi h1).symm, oi', vi, hi, hyi.of_same (execOp_put oi' hsi a oj.dst v h3) (wanted_put oi' a oj.dst v h3), ?_⟩
  rw [← Act.put_comm a vi v h2]
  exact hr2
theorem tailM (hsel : Region.noSelect ops = true) {Q : Exit → Act → World → Prop} (hQ : ∀ c d v a w, Q (.panic c) (Act.put a d v) w → Q (.panic c) a w) {j : Nat} {oj : Oper} (hj : ops[j]? = some oj) {K : Act → World → Prop} {w : World} : ∀ {l : List Nat} {a : Act},
  (∀ i ∈ l, ∃ oi, ops[i]? = some oi ∧ oi.apart ops oj = true) → runM P ops l (fun a => wpOp P ops Q j K a w) a → wpOp P ops Q j (fun a' w' => runM P ops l (fun a => K a w') a') a w := by
 intro l
 induction l with
 | nil => intro a _ h; exact h
 | cons i l ih =>
  intro a hall h
  obtain ⟨oi', hi', hap⟩ := hall i (by simp)
  obtain ⟨oi, vi, hi, hyi, hr⟩ := h
  obtain rfl : oi' = oi := by rw [hi] at hi'; exact (Option.some.inj hi').symm
  have h1 := ih (fun k hk => hall k (by simp [hk])) hr
  refine wpOp_mono (fun a' w' hh => ?_) (wpOp_putIf (S := fun _ => True) hj hap (Region.noSelect_spec hsel i oi' · · hi) (Region.noSelect_spec hsel j oj · · hj) (fun c a w => hQ c _ _ a w) hyi h1)
  exact ⟨oi', vi, hi, hh.1, hh.2⟩
theorem mixed_sound {Q : Exit → Act → World → Prop} (hsel : Region.noSelect ops = true) (hQ : ∀ c d v a w, Q (.panic c) (Act.put a d v) w → Q (.panic c) a w) : ∀ (fuel : Nat) (l t : List Nat) (listed : Array Bool) (a : Act) (w : World),
  l.length + t.length ≤ fuel → listed.size = ops.size → (∀ i, i < ops.size → (listed.getD i true = false ↔ i ∈ l ++ t)) → (∀ i ∈ l ++ t, i < ops.size) → (l ++ t).Nodup → Closed ops listed →
  okTab tab ops = true → okList tab ops kd l = true → (∀ y ∈ l, ∀ x ∈ t, ancB tab y x = true ∨ ∃ oy ox, ops[y]? = some oy ∧ ops[x]? = some ox ∧ oy.apart ops ox = true) → TailOk tab [] t → DepsOk ops listed (l ++ t) →
  runM P ops l (fun a => wpOps P ops Q t a w) a → wpAny P .any ops Q fuel listed a w := by
 intro fuel
 induction fuel with
 | zero =>
  intro l t listed a w hf hsz hun hin hnd hcl htab _ _ htail hdeps h
  have hl : l = [] := List.eq_nil_of_length_eq_zero (by omega)
  subst hl
  exact tail_sound 0 t listed a w (by simpa using hf) hsz hun hin hnd hcl htab htail hdeps h
 | succ fuel ih =>
  intro l t listed a w hf hsz hun hin hnd hcl htab hlist hwait htail hdeps h
  by_cases hl : l = []
  ·subst hl
   exact tail_sound _ t listed a w (by simpa using hf) hsz hun hin hnd hcl htab htail hdeps h
  refine ⟨fun hr => ?_, fun j hj => ?_⟩
  ·exfalso
   cases l with
   | nil => exact hl rfl
   | cons x L =>
    obtain ⟨o, ho, hh⟩ := hdeps [] x (L ++ t) (by simp)
    have hx : x ∈ Region.ready .any ops listed := mem_ready.2 ⟨(hun x (hin x (by simp))).2 (by simp), o, ho, fun e he hb => (hh e he hb).resolve_right (by simp)⟩
    rw [hr] at hx; cases hx
  ·obtain ⟨h0, oj, hoj, hdj⟩ := mem_ready.1 hj
   have hjlt := (Array.getElem?_eq_some_iff.1 hoj).1
   have hjsz : j < listed.size := by omega
   have hjm := (hun j hjlt).1 h0
   have hcl' := closed_set hjsz hoj hdj hcl
   have notanc : ∀ i ∈ l ++ t, ancB tab i j = true → False := fun i hi ha => by
    have h1 := anc_listed hsz hcl htab j i oj hoj hdj ha
    have h2 := (hun i (hin i hi)).2 hi
    rw [getD_tf (by rw [hsz]; exact hin i hi), h1] at h2
    cases h2
   rcases List.mem_append.1 hjm with hjl | hjt
   ·obtain ⟨l1, l2, rfl⟩ := List.append_of_mem hjl
    obtain ⟨hlist', hpair⟩ := okList_drop hlist
    have hall : ∀ i ∈ l1, ∃ oi, ops[i]? = some oi ∧ oi.apart ops oj = true := fun i hi => by
     have hp := hpair i hi
     simp only [okPair, Bool.or_eq_true] at hp
     rcases hp with hp | hp
     ·exact (notanc i (by simp [hi]) hp).elim
     ·cases hoi : ops[i]? with
      | none => simp [hoi] at hp
      | some oi =>
       simp only [hoi, hoj, Bool.and_eq_true] at hp
       exact ⟨oi, rfl, hp.1⟩
    obtain ⟨v, hy, hr⟩ := bringM hsel hoj hall h
    have he : (l1 ++ j :: l2) ++ t = l1 ++ j :: (l2 ++ t) := by simp
    refine hy.wpOp hoj trivial (ih (l1 ++ l2) t _ _ w (by simp at hf ⊢; omega) (by simp [hsz]) (by have := unlisted_drop (L1 := l1) (L2 := l2 ++ t) hjsz (by rw [← he]; exact hun) (by rw [← he]; exact hnd); simpa using this)
     (fun i hi => hin i (by simp only [List.mem_append, List.mem_cons] at hi ⊢; rcases hi with (hi | hi) | hi <;> simp [hi]))
     (by have := (nodup_mid (by rw [← he]; exact hnd)).2; simpa using this) hcl' htab hlist' (fun y hy x hx => hwait y (by simp only [List.mem_append, List.mem_cons] at hy ⊢; rcases hy with hy | hy <;> simp [hy]) x hx) htail
     (by have := depsOk_drop (L1 := l1) (L2 := l2 ++ t) hjsz (by rw [← he]; exact hdeps); simpa using this) hr)
   ·obtain ⟨t1, t2, rfl⟩ := List.append_of_mem hjt
    have ht1 : t1 = [] := by
     rw [List.eq_nil_iff_forall_not_mem]
     intro i hi
     exact notanc i (by simp [hi]) (htail t1 j t2 rfl i (by simp [hi]))
    subst ht1
    have hall : ∀ i ∈ l, ∃ oi, ops[i]? = some oi ∧ oi.apart ops oj = true := fun i hi => by
     rcases hwait i hi j (by simp) with h1 | ⟨oy, ox, h1, h2, h3⟩
     ·exact (notanc i (by simp [hi]) h1).elim
     ·obtain rfl : oj = ox := by rw [hoj] at h2; exact Option.some.inj h2
      exact ⟨oy, h1, h3⟩
    have h' : runM P ops l (fun a => wpOp P ops Q j (wpOps P ops Q t2) a w) a := runM_mono (fun a hh => by rw [List.nil_append, wpOps_cons] at hh; exact hh) h
    have he : l ++ ([] ++ j :: t2) = l ++ j :: t2 := by simp
    refine wpOp_mono (fun a' w' hk => ?_) (tailM hsel hQ hoj hall h')
    exact ih l t2 _ a' w' (by simp at hf; omega) (by simp [hsz]) (by have := unlisted_drop (L1 := l) (L2 := t2) hjsz (by rw [← he]; exact hun) (by rw [← he]; exact hnd); simpa using this)
     (fun i hi => hin i (by simp only [List.mem_append, List.nil_append, List.mem_cons] at hi ⊢; rcases hi with hi | hi <;> simp [hi])) (by have := (nodup_mid (by rw [← he]; exact hnd)).2; simpa using this) hcl' htab hlist
     (fun y hy x hx => hwait y hy x (by simp [hx])) (fun u1 x u2 hu y hy => htail (j :: u1) x u2 (by simp [hu]) y (by simp at hy ⊢; exact .inr hy)) (by have := depsOk_drop (L1 := l) (L2 := t2) hjsz (by rw [← he]; exact hdeps); simpa using this) hk
theorem seq_sound (hX : ∀ j, X j → j < base) {Q : Exit → Act → World → Prop} (hsel : Region.noSelect ops = true) {strict : Bool} (hQ : strict = true ∨ ∀ c d v a w, Q (.panic c) (Act.put a d v) w → Q (.panic c) a w) : ∀ (fuel : Nat) (l t : List Nat) (listed : Array Bool) (N : Nat → Prop) (a : Act) (w : World),
  l.length + t.length ≤ fuel → listed.size = ops.size → (∀ i, i < ops.size → (listed.getD i true = false ↔ i ∈ l ++ t)) → (∀ i ∈ l ++ t, i < ops.size) → (l ++ t).Nodup → Closed ops listed →
  okTab tab ops = true → okList tab ops kd l = true → (∀ y ∈ l, ∀ x ∈ t, okWait strict tab ops kd y x = true) → TailOk tab [] t → DepsOk ops listed (l ++ t) → okAlloc ops kd l = true → (∀ i T z, i ∈ l → kd i = .alloc T z → Makes P ops i T z) →
  (∀ g, w.heap.size ≤ g → N g) → base ≤ w.heap.size → run P ops X base kd l (K0 P ops X Q t) N a w → wpAny P .any ops Q fuel listed a w := by
 intro fuel
 induction fuel with
 | zero =>
  intro l t listed N a w hf hsz hun hin hnd hcl htab _ _ htail hdeps _ _ _ _ h
  have hl : l = [] := List.eq_nil_of_length_eq_zero (by omega)
  subst hl
  exact tail_sound 0 t listed a w (by simpa using hf) hsz hun hin hnd hcl htab htail hdeps (h w (StepX.refl _ w))
 | succ fuel ih =>
  intro l t listed N a w hf hsz hun hin hnd hcl htab hlist hwait htail hdeps halloc hz hN hbase h
  by_cases hl : l = []
  ·subst hl
   exact tail_sound _ t listed a w (by simpa using hf) hsz hun hin hnd hcl htab htail hdeps (h w (StepX.refl _ w))
  refine ⟨fun hr => ?_, fun j hj => ?_⟩
  ·-- nothing may come up: but something is left
   exfalso
   cases l with
   | nil => exact hl rfl
   | cons x L =>
    obtain ⟨o, ho, hh⟩ := hdeps [] x (L ++ t) (by simp)
    have hx : x ∈ Region.ready .any ops listed := mem_ready.2 ⟨(hun x (hin x (by simp))).2 (by simp), o, ho, fun e he hb => (hh e he hb).resolve_right (by simp)⟩
    rw [hr] at hx; cases hx
  ·obtain ⟨h0, oj, hoj, hdj⟩ := mem_ready.1 hj
   have hjlt := (Array.getElem?_eq_some_iff.1 hoj).1
   have hjsz : j < listed.size := by omega
   have hjm := (hun j hjlt).1 h0
   have hcl' := closed_set hjsz hoj hdj hcl
   have notanc : ∀ i ∈ l ++ t, ancB tab i j = true → False := fun i hi ha => by
    have h1 := anc_listed hsz hcl htab j i oj hoj hdj ha
    have h2 := (hun i (hin i hi)).2 hi
    rw [getD_tf (by rw [hsz]; exact hin i hi), h1] at h2
    cases h2
   rcases List.mem_append.1 hjm with hjl | hjt
   ·-- one of the first part
    obtain ⟨l1, l2, rfl⟩ := List.append_of_mem hjl
    obtain ⟨hlist', hpair⟩ := okList_drop hlist
    have hall : ∀ i ∈ l1, ∃ oi, ops[i]? = some oi ∧ oi.apart ops oj = true ∧ swaps (kd i) (kd j) = true := fun i hi => by
     have hp := hpair i hi
     simp only [okPair, Bool.or_eq_true] at hp
     rcases hp with hp | hp
     ·exact (notanc i (by simp [hi]) hp).elim
     ·cases hoi : ops[i]? with
      | none => simp [hoi] at hp
      | some oi =>
       simp only [hoi, hoj, Bool.and_eq_true] at hp
       exact ⟨oi, rfl, hp.1, hp.2⟩
    have hb := bring hX (K0_mono t) hsel hoj l1 l2 N a w hall h
    have he : (l1 ++ j :: l2) ++ t = l1 ++ j :: (l2 ++ t) := by simp
    have next : ∀ (N' : Nat → Prop) (a' : Act) (w' : World), (∀ g, w'.heap.size ≤ g → N' g) → w.heap.size ≤ w'.heap.size → run P ops X base kd (l1 ++ l2) (K0 P ops X Q t) N' a' w' → wpAny P .any ops Q fuel (listed.setIfInBounds j true) a' w' :=
     fun N' a' w' hN' hsz' hr => ih (l1 ++ l2) t _ N' a' w' (by simp at hf ⊢; omega) (by simp [hsz]) (by have := unlisted_drop (L1 := l1) (L2 := l2 ++ t) hjsz (by rw [← he]; exact hun) (by rw [← he]; exact hnd); simpa using this)
      (fun i hi => hin i (by simp only [List.mem_append, List.mem_cons] at hi ⊢; rcases hi with (hi | hi) | hi <;> simp [hi]))
      (by have := (nodup_mid (by rw [← he]; exact hnd)).2; simpa using this) hcl' htab hlist' (fun y hy x hx => hwait y (by simp only [List.mem_append, List.mem_cons] at hy ⊢; rcases hy with hy | hy <;> simp [hy]) x hx) htail
      (by have := depsOk_drop (L1 := l1) (L2 := l2 ++ t) hjsz (by rw [← he]; exact hdeps); simpa using this)
      (by simp only [okAlloc, List.all_eq_true, List.mem_append, List.mem_cons] at halloc ⊢; exact fun x hx => halloc x (hx.elim .inl (fun h => .inr (.inr h))))
      (fun i T z hi => hz i T z (by simp only [List.mem_append, List.mem_cons] at hi ⊢; rcases hi with hi | hi <;> simp [hi])) hN' (by omega) hr
    cases hk : kd j with
    | silent =>
     simp only [go, hk] at hb
     obtain ⟨o, v, ho, hy, hr⟩ := hb
     exact hy.wpOp ho (StepX.refl _ w) (next N _ w hN (Nat.le_refl _) hr)
    | chain =>
     simp only [go, hk] at hb
     exact wpOp_any (wpOp_mono (fun a' w' ⟨hs, hr⟩ => next _ a' w' (fun g hg => ⟨hN g (Nat.le_trans hs.size hg), .inr hg⟩) hs.size hr) (hb w (StepX.refl _ w)))
    | alloc T z =>
     simp only [go, hk] at hb
     have hal := halloc
     simp only [okAlloc, List.all_eq_true] at hal
     have hal := hal j (by simp)
     simp only [hk, hoj, Bool.and_eq_true] at hal
     obtain ⟨hg, hop⟩ := hal
     refine wpOp_alloc hoj hop (by simpa using hg) (hz j T z (by simp) hk) ?_
     have hd : (ops[j]?).bind (·.dst) = oj.dst := by rw [hoj]; rfl
     rw [hd] at hb
     exact next _ _ _ (fun g hgg => ⟨hN g (by simp at hgg; omega), by simp at hgg; omega⟩) (by simp) (hb (w.alloc (.cells (madeC z) T)) w.heap.size (.of (Step.alloc _ _)) (heap_alloc_new w _) hbase (hN _ (Nat.le_refl _)))
   ·-- the tail waits, but for moves
    have hw1 : ∀ y ∈ l, ancB tab y j = true ∨ (strict = false ∧ isSil (kd y) = true ∧ isMove ops y = true ∧ ∃ oy, ops[y]? = some oy ∧ oy.apart ops oj = true) := fun y hy => by
     have := hwait y hy j hjt
     simp only [okWait, Bool.or_eq_true, Bool.and_eq_true, Bool.not_eq_true'] at this
     rcases this with h1 | ⟨⟨⟨h1, h2⟩, h3⟩, h4⟩
     ·exact .inl h1
     ·cases hoy : ops[y]? with
      | none => simp [hoy] at h4
      | some oy => simp only [hoy, hoj] at h4; exact .inr ⟨h1, h2, h3, oy, rfl, h4⟩
    have hw2 : ∀ y ∈ l, strict = false ∧ isSil (kd y) = true ∧ isMove ops y = true := fun y hy => by
     rcases hw1 y hy with h1 | ⟨h1, h2, h3, _⟩
     ·exact (notanc y (by simp [hy]) h1).elim
     ·exact ⟨h1, h2, h3⟩
    have hst : strict = false := by
     cases l with
     | nil => exact (hl rfl).elim
     | cons x L => exact (hw2 x (by simp)).1
    have hQ' := hQ.resolve_left (by rw [hst]; decide)
    have hm := mixed_sound hsel hQ' (fuel + 1) l t listed a w hf hsz hun hin hnd hcl htab hlist (fun y hy x hx => by
     have := hwait y hy x hx
     simp only [okWait, Bool.or_eq_true, Bool.and_eq_true, Bool.not_eq_true'] at this
     rcases this with h1 | ⟨_, h4⟩
     ·exact .inl h1
     ·cases hoy : ops[y]? with
      | none => simp [hoy] at h4
      | some oy =>
       cases hox : ops[x]? with
       | none => simp [hoy, hox] at h4
       | some ox => simp only [hoy, hox] at h4; exact .inr ⟨oy, ox, rfl, rfl, h4⟩) htail hdeps (runM_of_run (fun y hy => (hw2 y hy).2) h)
    exact hm.2 j hj
theorem wp_region_seqG {id : Nat} {Q : Exit → Act → World → Prop} {a : Act} {w : World} (X : Nat → Prop) (hX : ∀ j, X j → j < w.heap.size) (kd : Nat → Kd) (strict : Bool) (hQ : strict = true ∨ ∀ c d v a w, Q (.panic c) (Act.put a d v) w → Q (.panic c) a w) (tab l t : List Nat) (hm : P.follows .mixedOrders = true) (hok : okSeq strict tab ops kd l t = true)
  (hz : ∀ i T z, i ∈ l → kd i = .alloc T z → Makes P ops i T z)
  (h : ∀ W, StepX X w W → run P ops X w.heap.size kd l (K0 P ops X Q t) (fun _ => True) a W) : (Code.region id ops true).wp P Q a w := by
 simp only [okSeq, Bool.and_eq_true, List.all_eq_true, decide_eq_true_eq, List.mem_range, List.contains_iff_mem] at hok
 obtain ⟨⟨⟨⟨⟨⟨⟨⟨⟨h0, h1⟩, h9⟩, h2⟩, h3⟩, h4⟩, h5⟩, h6⟩, h7⟩, h8⟩ := hok
 refine wp_region_any hm ?_
 refine seq_sound (base := w.heap.size) (kd := kd) hX h5 hQ ops.size l t _ (fun _ => True) a w.drew ?_ (by simp) ?_ h7 h8 ?_ h0 h1 h9 (tailOk_of h2) ?_ h4 hz (fun _ _ => trivial) (by simp) (h w.drew (.of (Step.drew w)))
 ·-- no more than the region has
  have hsub : (l ++ t).length ≤ (List.range ops.size).length := h8.length_le_of_subset (fun i hi => List.mem_range.2 (h7 i hi))
  simpa using hsub
 ·intro i hi
  simp only [Array.getD_eq_getD_getElem?, Array.getElem?_replicate, hi, if_true, Option.getD_some, true_iff]
  exact h6 i hi
 ·intro x o ho hx
  have hlt := (Array.getElem?_eq_some_iff.1 ho).1
  simp [hlt] at hx
 ·intro L1 x L2 he
  obtain ⟨o, ho, hh⟩ := depsOk_of (listed := Array.replicate ops.size false) h3 L1 x L2 he
  exact ⟨o, ho, by simpa using hh⟩
theorem wp_region_seqX {id : Nat} {Q : Exit → Act → World → Prop} {a : Act} {w : World} (X : Nat → Prop) (hX : ∀ j, X j → j < w.heap.size) (kd : Nat → Kd) (tab l t : List Nat) (hm : P.follows .mixedOrders = true) (hok : okSeq true tab ops kd l t = true)
  (hz : ∀ i T z, i ∈ l → kd i = .alloc T z → Makes P ops i T z)
  (h : ∀ W, StepX X w W → run P ops X w.heap.size kd l (K0 P ops X Q t) (fun _ => True) a W) : (Code.region id ops true).wp P Q a w :=
 wp_region_seqG X hX kd true (.inl rfl) tab l t hm hok hz h
theorem wp_region_seq {id : Nat} {Q : Exit → Act → World → Prop} {a : Act} {w : World} (kd : Nat → Kd) (tab l t : List Nat) (hm : P.follows .mixedOrders = true) (hok : okSeq true tab ops kd l t = true)
  (hz : ∀ i T z, i ∈ l → kd i = .alloc T z → Makes P ops i T z)
  (h : ∀ W, Step w W → run P ops (fun _ => False) w.heap.size kd l (K0 P ops (fun _ => False) Q t) (fun _ => True) a W) : (Code.region id ops true).wp P Q a w :=
 wp_region_seqX (fun _ => False) (fun _ h => h.elim) kd tab l t hm hok hz h
theorem wp_region_seqM {id : Nat} {Q : Exit → Act → World → Prop} {a : Act} {w : World} (hQ : ∀ c d v a w, Q (.panic c) (Act.put a d v) w → Q (.panic c) a w) (kd : Nat → Kd) (tab l t : List Nat) (hm : P.follows .mixedOrders = true) (hok : okSeq false tab ops kd l t = true)
  (hz : ∀ i T z, i ∈ l → kd i = .alloc T z → Makes P ops i T z)
  (h : ∀ W, Step w W → run P ops (fun _ => False) w.heap.size kd l (K0 P ops (fun _ => False) Q t) (fun _ => True) a W) : (Code.region id ops true).wp P Q a w :=
 wp_region_seqG (fun _ => False) (fun _ h => h.elim) kd false (.inr hQ) tab l t hm hok hz h
def kdOf (calls : List Nat) (allocs : List (Nat × TypeId × Value)) (i : Nat) : Kd :=
 if calls.contains i then .chain else match allocs.find? (fun x => x.1 == i) with
  | some (_, T, z) => .alloc T z
  | none => .silent
section
variable {K : Cont} {N : Nat → Prop} {a : Act} {w : World} {i : Nat} {l : List Nat} {o : Oper}
theorem run_silent {v : Value} (hk : kd i = .silent) (ho : ops.toList[i]? = some o) (hy : YieldsIf P ops (StepX X w) o v a) (h : run P ops X base kd l K N (a.put o.dst v) w) : run P ops X base kd (i :: l) K N a w := by
 show go P ops X base kd i _ N a w
 unfold go; rw [hk]; exact ⟨o, v, by simpa using ho, hy, h⟩
theorem run_want (hk : kd i = .silent) (ho : ops.toList[i]? = some o) (hw : Region.wanted o (yielded ops a.tmps) = true) (h : ∃ v, (∀ W, StepX X w W → (execOp a.eval o).run P W = .ok (.value v) W) ∧ run P ops X base kd l K N (a.put o.dst v) w) :
  run P ops X base kd (i :: l) K N a w := by
 obtain ⟨v, h1, h2⟩ := h
 exact run_silent hk ho (.inl ⟨hw, h1⟩) h2
theorem run_off (hk : kd i = .silent) (ho : ops.toList[i]? = some o) (hw : Region.wanted o (yielded ops a.tmps) = false) (h : run P ops X base kd l K N (a.put o.dst undef) w) : run P ops X base kd (i :: l) K N a w :=
 run_silent hk ho (.inr ⟨hw, rfl⟩) h
theorem run_chain (hk : kd i = .chain) (ho : ops.toList[i]? = some o) (hw : Region.wanted o (yielded ops a.tmps) = true)
  (h : ∀ W, StepX X w W → ∀ K' : Act → World → Prop, (∀ a' w', StepX X W w' → run P ops X base kd l K (fun g => N g ∧ (g < W.heap.size ∨ w'.heap.size ≤ g)) a' w' → K' a' w') → o.wp P a W K' QF) : run P ops X base kd (i :: l) K N a w := by
 show go P ops X base kd i _ N a w
 have ho : ops[i]? = some o := by simpa using ho
 unfold go; rw [hk]
 intro W hW
 unfold wpOp; simp only [ho, hw, if_true]
 exact .inl (h W hW _ (fun a' w' hs hr => ⟨hs, hr⟩))
theorem run_chain_off (hk : kd i = .chain) (ho : ops.toList[i]? = some o) (hw : Region.wanted o (yielded ops a.tmps) = false) (hK : ContMono X K)
  (h : run P ops X base kd l K N (a.put o.dst undef) w) : run P ops X base kd (i :: l) K N a w := by
 show go P ops X base kd i _ N a w
 have ho : ops[i]? = some o := by simpa using ho
 unfold go; rw [hk]
 intro W hW
 unfold wpOp; simp only [ho, hw]
 exact ⟨StepX.refl _ _, run_mono hK l _ _ _ _ _ (fun g hg => hg.1) hW h⟩
theorem run_alloc {T : TypeId} {z : Value} (hk : kd i = .alloc T z) (ho : ops.toList[i]? = some o)
  (h : ∀ W g, StepX X w W → W.heap[g]? = some (.cells z.cells T (0, 0)) → base ≤ g → N g → run P ops X base kd l K (fun x => N x ∧ x ≠ g) (a.put o.dst (.pointer (some ⟨g, 0, none⟩))) W)
  (hv : ∀ g, madeV z g = .pointer (some ⟨g, 0, none⟩) := by exact fun _ => rfl) (hc : madeC z = z.cells := by exact rfl) : run P ops X base kd (i :: l) K N a w := by
 show go P ops X base kd i _ N a w
 have ho : ops[i]? = some o := by simpa using ho
 unfold go; rw [hk, ho]
 intro W g h1 h2 h3 h4
 rw [hc] at h2
 rw [hv]
 exact h W g h1 h2 h3 h4
theorem run_end {Q : Exit → Act → World → Prop} {t : List Nat} {L : List Oper} (ht : t.map (fun i => ops.toList[i]?) = L.map some) (h : ∀ W, StepX X w W → wpList P ops Q L a W) : run P ops X base kd [] (K0 P ops X Q t) N a w := by
 intro W hW
 have h' := h W hW
 clear h hW
 show wpOps P ops Q t a W
 induction t generalizing L a W with
 | nil =>
  cases L with
  | nil => exact h'
  | cons _ _ => simp at ht
 | cons x t ih =>
  cases L with
  | nil => simp at ht
  | cons o L =>
   simp only [List.map_cons, List.cons.injEq, Array.getElem?_toList] at ht
   rw [wpOps_cons]
   unfold wpOp
   unfold wpList at h'
   simp only [ht.1]
   split
   ·rename_i hw
    rw [if_pos hw] at h'
    exact h'.imp (Oper.wp_mono fun a' w' hh => ih (by simpa using ht.2) w' hh) id
   ·rename_i hw
    rw [if_neg hw] at h'
    exact ih (by simpa using ht.2) W h'
end
end
end Go.BT
namespace Go.Proofs.YtfhmdpicoccnfaaGreat
set_option linter.unusedSimpArgs false
set_option linter.unusedVariables false
open Go.RowKit Go.BT
def idxOf {α : Type} (p : α → Bool) (l : List α) : Int := match l.findIdx? p with | some i => (i : Int) | none => -1
theorem idxOf_at {α : Type} {p : α → Bool} {l : List α} {k : Nat} (hk : k < l.length) (h : ∀ j (hj : j < k), p (l[j]'(by omega)) = false) (hp : p l[k] = true) : idxOf p l = k := by
 have : l.findIdx? p = some k := by
  rw [List.findIdx?_eq_some_iff_getElem]
  exact ⟨hk, hp, fun j hj => by simpa using h j hj⟩
 simp [idxOf, this]
theorem idxOf_none {α : Type} {p : α → Bool} {l : List α} (h : ∀ j (hj : j < l.length), p l[j] = false) : idxOf p l = -1 := by
 have : l.findIdx? p = none := by
  rw [List.findIdx?_eq_none_iff]
  intro x hx
  obtain ⟨j, hj, rfl⟩ := List.getElem_of_mem hx
  exact h j hj
 simp [idxOf, this]
theorem idxOf_ge {α : Type} (p : α → Bool) (l : List α) : decide (0 ≤ idxOf p l) = l.any p := by
 unfold idxOf
 cases h : l.findIdx? p with
 | none =>
  rw [List.findIdx?_eq_none_iff] at h
  simp only [Int.reduceNeg, Int.reduceLE, decide_false]
  symm; rw [List.any_eq_false]; intro x hx; simpa using h x hx
 | some i =>
  rw [List.findIdx?_eq_some_iff_getElem] at h
  obtain ⟨hi, hp, _⟩ := h
  simp only [Int.natCast_nonneg, decide_true]
  symm; rw [List.any_eq_true]; exact ⟨_, List.getElem_mem hi, hp⟩
def PredJ (g : FuncId) (cap : Array Value) {α : Type} (V : World → Value → α → Prop) (p : α → Bool) (l : List α) (J : Nat → World → Prop) : Prop :=
 ∀ i (h : i < l.length) W u, J i W → (∀ j (hj : j < i), p (l[j]'(by omega)) = false) → V W u l[i] → Calls Tryz.prog g (#[u] ++ cap) W fun e W' => e = .returned (.bool (p l[i])) ∧ J (i + 1) W'
def PredA (g : FuncId) (cap : Array Value) {α : Type} (V : World → Value → α → Prop) (p : α → Bool) (l : List α) (J : Nat → World → Prop) (X : Nat → Prop) : Prop :=
 ∀ i (h : i < l.length) W u, J i W → (∀ j (hj : j < i), p (l[j]'(by omega)) = true) → V W u l[i] → Calls Tryz.prog g (#[u] ++ cap) W fun e W' => e = .returned (.bool (p l[i])) ∧ J (i + 1) W' ∧ StepX X W W'
theorem indexFunc_tst (S : Nat → Prop) (l : List Tst) (v : Value) (w : World) (g : FuncId) (cap : Array Value) (eg : ∀ args w, (callFunc g args).run Tryz.prog w = .ok (.enter g args) w) (p : Tst → Bool) (J : Nat → World → Prop) (hJ : ∀ i W, J i W → SL S W v l) (hw : J 0 w)
  (hp : PredJ g cap (fun _ u x => u = .agg #[.int .i64 x.soil, .int .i64 x.depth, .int .i64 x.force, .bool x.held]) p l J) :
  Calls Tryz.prog 124 #[v, .func (.func g) #[] cap] w fun e w' => e = .returned (.int .i64 (idxOf p l)) ∧ ∃ k, k ≤ l.length ∧ (idxOf p l = -1 → k = l.length) ∧ J k w' := by
 obtain ⟨pv, cv, rfl⟩ := (hJ 0 w hw).form
 have hm := (hJ 0 w hw).len
 have Hp := zH hp
 have HJ := zH hJ
 clear hp hJ
 go_enter Tryz.func124, Tryz.ntmps124
 go_wp2
 go_loopw [8] (fun i wr => ∃ k : Nat, k ≤ l.length ∧ i = .int .i64 k ∧ (∀ j (hj : j < k) (hl : j < l.length), p l[j] = false) ∧ J k wr) (fun i _ => l.length - (intOf i).toNat)
 case atStart => exact ⟨0, Nat.zero_le _, rfl, fun j hj => absurd hj (by omega), hw⟩
 case round =>
  obtain ⟨k, hk, rfl, hno, hJk⟩ := hrel
  have HN := zH hno
  clear hno
  by_cases hlt : k < l.length
  ·obtain ⟨p', c', b, o, he, _, _, hpp, hc, _⟩ := (HJ.out k wr hJk).tsts
   injection he with he1 he2 he3
   subst he1 he3
   obtain rfl := hpp (by omega)
   obtain ⟨e1, e2, e3, e4⟩ := hc k hlt
   clear hc hpp he2
   have hcall := zH (Hp.out k hlt wr (.agg #[.int .i64 l[k].soil, .int .i64 l[k].depth, .int .i64 l[k].force, .bool l[k].held]) hJk (fun j hj => HN.out j hj (by omega)) rfl)
   cases hq : p l[k] with
   | true =>
    have hq := zH hq
    go_wp2_with fail
    refine hcall.out.mono ?_
    rintro e w' ⟨rfl, hJ'⟩
    rw [hq.out]
    go_wp2
    have hi := idxOf_at hlt (fun j hj => HN.out j hj (by omega)) hq.out
    go_ret
    rw [hi]
    exact ⟨rfl, k + 1, by omega, fun h => by omega, hJ'⟩
   | false =>
    have hq := zH hq
    go_wp2_with fail
    refine hcall.out.mono ?_
    rintro e w' ⟨rfl, hJ'⟩
    rw [hq.out]
    go_wp2
    go_roundw
    case rel => exact ⟨k + 1, by omega, by go_num, fun j hj hl => if h : j = k then by subst h; exact hq.out else HN.out j (by omega) hl, hJ'⟩
    case measure => simp [intOf]; omega
  ·go_wp2
   have hi := idxOf_none (fun j hj => HN.out j (by omega) hj)
   go_ret
   rw [hi]
   exact ⟨rfl, k, hk, fun _ => by omega, hJk⟩
theorem containsFunc_tst (S : Nat → Prop) (l : List Tst) (v : Value) (w : World) (g : FuncId) (cap : Array Value) (eg : ∀ args w, (callFunc g args).run Tryz.prog w = .ok (.enter g args) w) (p : Tst → Bool) (J : Nat → World → Prop) (hJ : ∀ i W, J i W → SL S W v l) (hw : J 0 w)
  (hp : PredJ g cap (fun _ u x => u = .agg #[.int .i64 x.soil, .int .i64 x.depth, .int .i64 x.force, .bool x.held]) p l J) :
  Calls Tryz.prog 116 #[v, .func (.func g) #[] cap] w fun e w' => e = .returned (.bool (l.any p)) ∧ ∃ k, k ≤ l.length ∧ (l.any p = false → k = l.length) ∧ J k w' := by
 have hc := indexFunc_tst S l v w g cap eg p J hJ hw hp
 have HC := zH hc
 clear hc hp hJ eg
 go_enter Tryz.func116, Tryz.ntmps116
 go_wp2_with fail
 refine HC.out.mono ?_
 rintro e w' ⟨rfl, hk⟩
 have HK := zH hk
 clear hk
 go_wp2
 have hge := idxOf_ge p l
 go_ret
 obtain ⟨k, h1, h2, h3⟩ := HK.out
 refine ⟨by rw [← hge]; rfl, k, h1, fun h => h2 ?_, h3⟩
 rw [← hge, decide_eq_false_iff_not] at h
 unfold idxOf at h ⊢
 split <;> rename_i hh <;> simp [hh] at h ⊢
theorem allNot_tst (l : List Tst) (g : FuncId) (cap : Array Value) (eg : ∀ args w, (callFunc g args).run Tryz.prog w = .ok (.enter g args) w) (p : Tst → Bool) (J : Nat → World → Prop) (X : Nat → Prop) (b : Nat) (hX : ¬ X b)
  (hJs : ∀ i W W', J i W → Step W W' → J i W') (hp : PredA g cap (fun _ u x => u = .agg #[.int .i64 x.soil, .int .i64 x.depth, .int .i64 x.force, .bool x.held]) p l J X) :
  PredJ 117 #[.pointer (some ⟨b, 0, none⟩)] (fun _ u x => u = .agg #[.int .i64 x.soil, .int .i64 x.depth, .int .i64 x.force, .bool x.held]) (fun x => !p x) l (fun i W => J i W ∧ W.cell? ⟨b, 0, none⟩ = some (.func (.func g) #[] cap)) := by
 intro i h W u ⟨hJ, hc⟩ hno hV
 have hb := World.block_lt_of_cell? W _ hc
 have hb' : b < W.heap.size := hb
 obtain rfl := hV
 have hcall := zH (hp i h (W.alloc (.cells #[.int .i64 l[i].soil, .int .i64 l[i].depth, .int .i64 l[i].force, .bool l[i].held] 83)) (.agg #[.int .i64 l[i].soil, .int .i64 l[i].depth, .int .i64 l[i].force, .bool l[i].held]) (hJs _ _ _ hJ (Step.alloc _ _)) (fun j hj => by simpa using hno j hj) rfl)
 show Calls Tryz.prog 117 #[(.agg #[.int .i64 l[i].soil, .int .i64 l[i].depth, .int .i64 l[i].force, .bool l[i].held]), .pointer (some ⟨b, 0, none⟩)] W _
 have HN := zH hno
 have HS := zH hJs
 clear hno hJs hp hJ hb
 go_enter Tryz.func117, Tryz.ntmps117
 go_wp2_with fail
 refine hcall.out.mono ?_
 rintro e w' ⟨rfl, hJ', hst⟩
 have hc' := hst.keeps.cell hX (a := ⟨b, 0, none⟩) (by rw [World.cell?_alloc_lt _ _ _ hb']; exact hc)
 go_wp2
 go_ret
 exact ⟨rfl, hJ', hc'⟩
theorem all_tst (S : Nat → Prop) (l : List Tst) (v : Value) (w : World) (g : FuncId) (cap : Array Value) (eg : ∀ args w, (callFunc g args).run Tryz.prog w = .ok (.enter g args) w) (p : Tst → Bool) (J : Nat → World → Prop) (X : Nat → Prop)
  (hX : ∀ j, X j → j < w.heap.size) (hJ : ∀ i W, J i W → SL S W v l) (hJs : ∀ i W W', J i W → Step W W' → J i W') (hw : J 0 w) (hp : PredA g cap (fun _ u x => u = .agg #[.int .i64 x.soil, .int .i64 x.depth, .int .i64 x.force, .bool x.held]) p l J X) :
  Calls Tryz.prog 76 #[v, .func (.func g) #[] cap] w fun e w' => e = .returned (.bool (l.all p)) ∧ ∃ k, k ≤ l.length ∧ (l.all p = true → k = l.length) ∧ J k w' := by
 have hmf : ∀ (fn : Fn) (first cap : Array Value) (w : World), (Instr.makeFunc fn first cap).run Tryz.prog w = .ok (.func fn first cap) w := fun _ _ _ _ => rfl
 have hc := containsFunc_tst S l v (w.alloc (.cells #[.func (.func g) #[] cap] 160)) 117 #[.pointer (some ⟨w.heap.size, 0, none⟩)] (Go.Proofs.enters_of Tryz.func117 (by kernel_rfl) rfl) (fun x => !p x)
  (fun i W => J i W ∧ W.cell? ⟨w.heap.size, 0, none⟩ = some (.func (.func g) #[] cap)) (fun i W h => hJ i W h.1) ⟨hJs _ _ _ hw (Step.alloc _ _), by rw [World.cell?_alloc_new]; rfl⟩
  (allNot_tst l g cap eg p J X w.heap.size (fun h => by have := hX _ h; omega) hJs hp)
 have HC := zH hc
 clear hc hp hJ hJs hX eg
 go_enter Tryz.func76, Tryz.ntmps76
 go_wp2_with fail
 refine HC.out.mono ?_
 rintro e w' ⟨rfl, hk⟩
 have HK := zH hk
 clear hk
 have he : (l.any fun x => !p x) = !(l.all p) := by rw [List.not_all_eq_any_not]
 have HE := zH he
 clear he
 go_wp2
 go_ret
 obtain ⟨k, h1, h2, h3, _⟩ := HK.out
 rw [HE.out] at h2 ⊢
 exact ⟨by simp, k, h1, fun h => h2 (by simp [h]), h3⟩
theorem indexFunc_guy (S : Nat → Prop) (l : List Guy) (v : Value) (w : World) (g : FuncId) (cap : Array Value) (eg : ∀ args w, (callFunc g args).run Tryz.prog w = .ok (.enter g args) w) (p : Guy → Bool) (J : Nat → World → Prop) (hJ : ∀ i W, J i W → SL S W v l) (hw : J 0 w)
  (hp : PredJ g cap (fun _ u x => u = .agg #[.int .i64 x.x, .int .i64 x.y, .int .i64 x.down, .int .i64 x.soil, .int .i64 x.depth]) p l J) :
  Calls Tryz.prog 160 #[v, .func (.func g) #[] cap] w fun e w' => e = .returned (.int .i64 (idxOf p l)) ∧ ∃ k, k ≤ l.length ∧ (idxOf p l = -1 → k = l.length) ∧ J k w' := by
 obtain ⟨pv, cv, rfl⟩ := (hJ 0 w hw).form
 have hm := (hJ 0 w hw).len
 have Hp := zH hp
 have HJ := zH hJ
 clear hp hJ
 go_enter Tryz.func160, Tryz.ntmps160
 go_wp2
 go_loopw [8] (fun i wr => ∃ k : Nat, k ≤ l.length ∧ i = .int .i64 k ∧ (∀ j (hj : j < k) (hl : j < l.length), p l[j] = false) ∧ J k wr) (fun i _ => l.length - (intOf i).toNat)
 case atStart => exact ⟨0, Nat.zero_le _, rfl, fun j hj => absurd hj (by omega), hw⟩
 case round =>
  obtain ⟨k, hk, rfl, hno, hJk⟩ := hrel
  have HN := zH hno
  clear hno
  by_cases hlt : k < l.length
  ·obtain ⟨p', c', b, o, he, _, _, hpp, hc, _⟩ := (HJ.out k wr hJk).guys
   injection he with he1 he2 he3
   subst he1 he3
   obtain rfl := hpp (by omega)
   obtain ⟨e1, e2, e3, e4, e5⟩ := hc k hlt
   clear hc hpp he2
   have hcall := zH (Hp.out k hlt wr (.agg #[.int .i64 l[k].x, .int .i64 l[k].y, .int .i64 l[k].down, .int .i64 l[k].soil, .int .i64 l[k].depth]) hJk (fun j hj => HN.out j hj (by omega)) rfl)
   cases hq : p l[k] with
   | true =>
    have hq := zH hq
    go_wp2_with fail
    refine hcall.out.mono ?_
    rintro e w' ⟨rfl, hJ'⟩
    rw [hq.out]
    go_wp2
    have hi := idxOf_at hlt (fun j hj => HN.out j hj (by omega)) hq.out
    go_ret
    rw [hi]
    exact ⟨rfl, k + 1, by omega, fun h => by omega, hJ'⟩
   | false =>
    have hq := zH hq
    go_wp2_with fail
    refine hcall.out.mono ?_
    rintro e w' ⟨rfl, hJ'⟩
    rw [hq.out]
    go_wp2
    go_roundw
    case rel => exact ⟨k + 1, by omega, by go_num, fun j hj hl => if h : j = k then by subst h; exact hq.out else HN.out j (by omega) hl, hJ'⟩
    case measure => simp [intOf]; omega
  ·go_wp2
   have hi := idxOf_none (fun j hj => HN.out j (by omega) hj)
   go_ret
   rw [hi]
   exact ⟨rfl, k, hk, fun _ => by omega, hJk⟩
theorem containsFunc_guy (S : Nat → Prop) (l : List Guy) (v : Value) (w : World) (g : FuncId) (cap : Array Value) (eg : ∀ args w, (callFunc g args).run Tryz.prog w = .ok (.enter g args) w) (p : Guy → Bool) (J : Nat → World → Prop) (hJ : ∀ i W, J i W → SL S W v l) (hw : J 0 w)
  (hp : PredJ g cap (fun _ u x => u = .agg #[.int .i64 x.x, .int .i64 x.y, .int .i64 x.down, .int .i64 x.soil, .int .i64 x.depth]) p l J) :
  Calls Tryz.prog 148 #[v, .func (.func g) #[] cap] w fun e w' => e = .returned (.bool (l.any p)) ∧ ∃ k, k ≤ l.length ∧ (l.any p = false → k = l.length) ∧ J k w' := by
 have hc := indexFunc_guy S l v w g cap eg p J hJ hw hp
 have HC := zH hc
 clear hc hp hJ eg
 go_enter Tryz.func148, Tryz.ntmps148
 go_wp2_with fail
 refine HC.out.mono ?_
 rintro e w' ⟨rfl, hk⟩
 have HK := zH hk
 clear hk
 go_wp2
 have hge := idxOf_ge p l
 go_ret
 obtain ⟨k, h1, h2, h3⟩ := HK.out
 refine ⟨by rw [← hge]; rfl, k, h1, fun h => h2 ?_, h3⟩
 rw [← hge, decide_eq_false_iff_not] at h
 unfold idxOf at h ⊢
 split <;> rename_i hh <;> simp [hh] at h ⊢
theorem allNot_guy (l : List Guy) (g : FuncId) (cap : Array Value) (eg : ∀ args w, (callFunc g args).run Tryz.prog w = .ok (.enter g args) w) (p : Guy → Bool) (J : Nat → World → Prop) (X : Nat → Prop) (b : Nat) (hX : ¬ X b)
  (hJs : ∀ i W W', J i W → Step W W' → J i W') (hp : PredA g cap (fun _ u x => u = .agg #[.int .i64 x.x, .int .i64 x.y, .int .i64 x.down, .int .i64 x.soil, .int .i64 x.depth]) p l J X) :
  PredJ 149 #[.pointer (some ⟨b, 0, none⟩)] (fun _ u x => u = .agg #[.int .i64 x.x, .int .i64 x.y, .int .i64 x.down, .int .i64 x.soil, .int .i64 x.depth]) (fun x => !p x) l (fun i W => J i W ∧ W.cell? ⟨b, 0, none⟩ = some (.func (.func g) #[] cap)) := by
 intro i h W u ⟨hJ, hc⟩ hno hV
 have hb := World.block_lt_of_cell? W _ hc
 have hb' : b < W.heap.size := hb
 obtain rfl := hV
 have hcall := zH (hp i h (W.alloc (.cells #[.int .i64 l[i].x, .int .i64 l[i].y, .int .i64 l[i].down, .int .i64 l[i].soil, .int .i64 l[i].depth] 85)) (.agg #[.int .i64 l[i].x, .int .i64 l[i].y, .int .i64 l[i].down, .int .i64 l[i].soil, .int .i64 l[i].depth]) (hJs _ _ _ hJ (Step.alloc _ _)) (fun j hj => by simpa using hno j hj) rfl)
 show Calls Tryz.prog 149 #[(.agg #[.int .i64 l[i].x, .int .i64 l[i].y, .int .i64 l[i].down, .int .i64 l[i].soil, .int .i64 l[i].depth]), .pointer (some ⟨b, 0, none⟩)] W _
 have HN := zH hno
 have HS := zH hJs
 clear hno hJs hp hJ hb
 go_enter Tryz.func149, Tryz.ntmps149
 go_wp2_with fail
 refine hcall.out.mono ?_
 rintro e w' ⟨rfl, hJ', hst⟩
 have hc' := hst.keeps.cell hX (a := ⟨b, 0, none⟩) (by rw [World.cell?_alloc_lt _ _ _ hb']; exact hc)
 go_wp2
 go_ret
 exact ⟨rfl, hJ', hc'⟩
theorem all_guy (S : Nat → Prop) (l : List Guy) (v : Value) (w : World) (g : FuncId) (cap : Array Value) (eg : ∀ args w, (callFunc g args).run Tryz.prog w = .ok (.enter g args) w) (p : Guy → Bool) (J : Nat → World → Prop) (X : Nat → Prop)
  (hX : ∀ j, X j → j < w.heap.size) (hJ : ∀ i W, J i W → SL S W v l) (hJs : ∀ i W W', J i W → Step W W' → J i W') (hw : J 0 w) (hp : PredA g cap (fun _ u x => u = .agg #[.int .i64 x.x, .int .i64 x.y, .int .i64 x.down, .int .i64 x.soil, .int .i64 x.depth]) p l J X) :
  Calls Tryz.prog 120 #[v, .func (.func g) #[] cap] w fun e w' => e = .returned (.bool (l.all p)) ∧ ∃ k, k ≤ l.length ∧ (l.all p = true → k = l.length) ∧ J k w' := by
 have hmf : ∀ (fn : Fn) (first cap : Array Value) (w : World), (Instr.makeFunc fn first cap).run Tryz.prog w = .ok (.func fn first cap) w := fun _ _ _ _ => rfl
 have hc := containsFunc_guy S l v (w.alloc (.cells #[.func (.func g) #[] cap] 193)) 149 #[.pointer (some ⟨w.heap.size, 0, none⟩)] (Go.Proofs.enters_of Tryz.func149 (by kernel_rfl) rfl) (fun x => !p x)
  (fun i W => J i W ∧ W.cell? ⟨w.heap.size, 0, none⟩ = some (.func (.func g) #[] cap)) (fun i W h => hJ i W h.1) ⟨hJs _ _ _ hw (Step.alloc _ _), by rw [World.cell?_alloc_new]; rfl⟩
  (allNot_guy l g cap eg p J X w.heap.size (fun h => by have := hX _ h; omega) hJs hp)
 have HC := zH hc
 clear hc hp hJ hJs hX eg
 go_enter Tryz.func120, Tryz.ntmps120
 go_wp2_with fail
 refine HC.out.mono ?_
 rintro e w' ⟨rfl, hk⟩
 have HK := zH hk
 clear hk
 have he : (l.any fun x => !p x) = !(l.all p) := by rw [List.not_all_eq_any_not]
 have HE := zH he
 clear he
 go_wp2
 go_ret
 obtain ⟨k, h1, h2, h3, _⟩ := HK.out
 rw [HE.out] at h2 ⊢
 exact ⟨by simp, k, h1, fun h => h2 (by simp [h]), h3⟩
theorem indexFunc_vec (S : Nat → Prop) (l : List Vec) (v : Value) (w : World) (g : FuncId) (cap : Array Value) (eg : ∀ args w, (callFunc g args).run Tryz.prog w = .ok (.enter g args) w) (p : Vec → Bool) (J : Nat → World → Prop) (hJ : ∀ i W, J i W → SL S W v l) (hw : J 0 w)
  (hp : PredJ g cap (fun _ u x => u = .agg #[.int .i64 x.x, .int .i64 x.y]) p l J) :
  Calls Tryz.prog 150 #[v, .func (.func g) #[] cap] w fun e w' => e = .returned (.int .i64 (idxOf p l)) ∧ ∃ k, k ≤ l.length ∧ (idxOf p l = -1 → k = l.length) ∧ J k w' := by
 obtain ⟨pv, cv, rfl⟩ := (hJ 0 w hw).form
 have hm := (hJ 0 w hw).len
 have Hp := zH hp
 have HJ := zH hJ
 clear hp hJ
 go_enter Tryz.func150, Tryz.ntmps150
 go_wp2
 go_loopw [8] (fun i wr => ∃ k : Nat, k ≤ l.length ∧ i = .int .i64 k ∧ (∀ j (hj : j < k) (hl : j < l.length), p l[j] = false) ∧ J k wr) (fun i _ => l.length - (intOf i).toNat)
 case atStart => exact ⟨0, Nat.zero_le _, rfl, fun j hj => absurd hj (by omega), hw⟩
 case round =>
  obtain ⟨k, hk, rfl, hno, hJk⟩ := hrel
  have HN := zH hno
  clear hno
  by_cases hlt : k < l.length
  ·obtain ⟨p', c', b, o, he, _, _, hpp, hc, _⟩ := (HJ.out k wr hJk).vecs
   injection he with he1 he2 he3
   subst he1 he3
   obtain rfl := hpp (by omega)
   obtain ⟨e1, e2⟩ := hc k hlt
   clear hc hpp he2
   have hcall := zH (Hp.out k hlt wr (.agg #[.int .i64 l[k].x, .int .i64 l[k].y]) hJk (fun j hj => HN.out j hj (by omega)) rfl)
   cases hq : p l[k] with
   | true =>
    have hq := zH hq
    go_wp2_with fail
    refine hcall.out.mono ?_
    rintro e w' ⟨rfl, hJ'⟩
    rw [hq.out]
    go_wp2
    have hi := idxOf_at hlt (fun j hj => HN.out j hj (by omega)) hq.out
    go_ret
    rw [hi]
    exact ⟨rfl, k + 1, by omega, fun h => by omega, hJ'⟩
   | false =>
    have hq := zH hq
    go_wp2_with fail
    refine hcall.out.mono ?_
    rintro e w' ⟨rfl, hJ'⟩
    rw [hq.out]
    go_wp2
    go_roundw
    case rel => exact ⟨k + 1, by omega, by go_num, fun j hj hl => if h : j = k then by subst h; exact hq.out else HN.out j (by omega) hl, hJ'⟩
    case measure => simp [intOf]; omega
  ·go_wp2
   have hi := idxOf_none (fun j hj => HN.out j (by omega) hj)
   go_ret
   rw [hi]
   exact ⟨rfl, k, hk, fun _ => by omega, hJk⟩
theorem containsFunc_vec (S : Nat → Prop) (l : List Vec) (v : Value) (w : World) (g : FuncId) (cap : Array Value) (eg : ∀ args w, (callFunc g args).run Tryz.prog w = .ok (.enter g args) w) (p : Vec → Bool) (J : Nat → World → Prop) (hJ : ∀ i W, J i W → SL S W v l) (hw : J 0 w)
  (hp : PredJ g cap (fun _ u x => u = .agg #[.int .i64 x.x, .int .i64 x.y]) p l J) :
  Calls Tryz.prog 122 #[v, .func (.func g) #[] cap] w fun e w' => e = .returned (.bool (l.any p)) ∧ ∃ k, k ≤ l.length ∧ (l.any p = false → k = l.length) ∧ J k w' := by
 have hc := indexFunc_vec S l v w g cap eg p J hJ hw hp
 have HC := zH hc
 clear hc hp hJ eg
 go_enter Tryz.func122, Tryz.ntmps122
 go_wp2_with fail
 refine HC.out.mono ?_
 rintro e w' ⟨rfl, hk⟩
 have HK := zH hk
 clear hk
 go_wp2
 have hge := idxOf_ge p l
 go_ret
 obtain ⟨k, h1, h2, h3⟩ := HK.out
 refine ⟨by rw [← hge]; rfl, k, h1, fun h => h2 ?_, h3⟩
 rw [← hge, decide_eq_false_iff_not] at h
 unfold idxOf at h ⊢
 split <;> rename_i hh <;> simp [hh] at h ⊢
theorem allNot_vec (l : List Vec) (g : FuncId) (cap : Array Value) (eg : ∀ args w, (callFunc g args).run Tryz.prog w = .ok (.enter g args) w) (p : Vec → Bool) (J : Nat → World → Prop) (X : Nat → Prop) (b : Nat) (hX : ¬ X b)
  (hJs : ∀ i W W', J i W → Step W W' → J i W') (hp : PredA g cap (fun _ u x => u = .agg #[.int .i64 x.x, .int .i64 x.y]) p l J X) :
  PredJ 151 #[.pointer (some ⟨b, 0, none⟩)] (fun _ u x => u = .agg #[.int .i64 x.x, .int .i64 x.y]) (fun x => !p x) l (fun i W => J i W ∧ W.cell? ⟨b, 0, none⟩ = some (.func (.func g) #[] cap)) := by
 intro i h W u ⟨hJ, hc⟩ hno hV
 have hb := World.block_lt_of_cell? W _ hc
 have hb' : b < W.heap.size := hb
 obtain rfl := hV
 have hcall := zH (hp i h (W.alloc (.cells #[.int .i64 l[i].x, .int .i64 l[i].y] 52)) (.agg #[.int .i64 l[i].x, .int .i64 l[i].y]) (hJs _ _ _ hJ (Step.alloc _ _)) (fun j hj => by simpa using hno j hj) rfl)
 show Calls Tryz.prog 151 #[(.agg #[.int .i64 l[i].x, .int .i64 l[i].y]), .pointer (some ⟨b, 0, none⟩)] W _
 have HN := zH hno
 have HS := zH hJs
 clear hno hJs hp hJ hb
 go_enter Tryz.func151, Tryz.ntmps151
 go_wp2_with fail
 refine hcall.out.mono ?_
 rintro e w' ⟨rfl, hJ', hst⟩
 have hc' := hst.keeps.cell hX (a := ⟨b, 0, none⟩) (by rw [World.cell?_alloc_lt _ _ _ hb']; exact hc)
 go_wp2
 go_ret
 exact ⟨rfl, hJ', hc'⟩
theorem all_vec (S : Nat → Prop) (l : List Vec) (v : Value) (w : World) (g : FuncId) (cap : Array Value) (eg : ∀ args w, (callFunc g args).run Tryz.prog w = .ok (.enter g args) w) (p : Vec → Bool) (J : Nat → World → Prop) (X : Nat → Prop)
  (hX : ∀ j, X j → j < w.heap.size) (hJ : ∀ i W, J i W → SL S W v l) (hJs : ∀ i W W', J i W → Step W W' → J i W') (hw : J 0 w) (hp : PredA g cap (fun _ u x => u = .agg #[.int .i64 x.x, .int .i64 x.y]) p l J X) :
  Calls Tryz.prog 126 #[v, .func (.func g) #[] cap] w fun e w' => e = .returned (.bool (l.all p)) ∧ ∃ k, k ≤ l.length ∧ (l.all p = true → k = l.length) ∧ J k w' := by
 have hmf : ∀ (fn : Fn) (first cap : Array Value) (w : World), (Instr.makeFunc fn first cap).run Tryz.prog w = .ok (.func fn first cap) w := fun _ _ _ _ => rfl
 have hc := containsFunc_vec S l v (w.alloc (.cells #[.func (.func g) #[] cap] 164)) 151 #[.pointer (some ⟨w.heap.size, 0, none⟩)] (Go.Proofs.enters_of Tryz.func151 (by kernel_rfl) rfl) (fun x => !p x)
  (fun i W => J i W ∧ W.cell? ⟨w.heap.size, 0, none⟩ = some (.func (.func g) #[] cap)) (fun i W h => hJ i W h.1) ⟨hJs _ _ _ hw (Step.alloc _ _), by rw [World.cell?_alloc_new]; rfl⟩
  (allNot_vec l g cap eg p J X w.heap.size (fun h => by have := hX _ h; omega) hJs hp)
 have HC := zH hc
 clear hc hp hJ hJs hX eg
 go_enter Tryz.func126, Tryz.ntmps126
 go_wp2_with fail
 refine HC.out.mono ?_
 rintro e w' ⟨rfl, hk⟩
 have HK := zH hk
 clear hk
 have he : (l.any fun x => !p x) = !(l.all p) := by rw [List.not_all_eq_any_not]
 have HE := zH he
 clear he
 go_wp2
 go_ret
 obtain ⟨k, h1, h2, h3, _⟩ := HK.out
 rw [HE.out] at h2 ⊢
 exact ⟨by simp, k, h1, fun h => h2 (by simp [h]), h3⟩
theorem indexFunc_head (S : Nat → Prop) (l : List Head) (v : Value) (w : World) (g : FuncId) (cap : Array Value) (eg : ∀ args w, (callFunc g args).run Tryz.prog w = .ok (.enter g args) w) (p : Head → Bool) (J : Nat → World → Prop) (hJ : ∀ i W, J i W → SL S W v l) (hw : J 0 w)
  (hp : PredJ g cap (fun W u x => AV (fun _ => False) W u x) p l J) :
  Calls Tryz.prog 147 #[v, .func (.func g) #[] cap] w fun e w' => e = .returned (.int .i64 (idxOf p l)) ∧ ∃ k, k ≤ l.length ∧ (idxOf p l = -1 → k = l.length) ∧ J k w' := by
 obtain ⟨pv, cv, rfl⟩ := (hJ 0 w hw).form
 have hm := (hJ 0 w hw).len
 have Hp := zH hp
 have HJ := zH hJ
 clear hp hJ
 go_enter Tryz.func147, Tryz.ntmps147
 go_wp2
 go_loopw [8] (fun i wr => ∃ k : Nat, k ≤ l.length ∧ i = .int .i64 k ∧ (∀ j (hj : j < k) (hl : j < l.length), p l[j] = false) ∧ J k wr) (fun i _ => l.length - (intOf i).toNat)
 case atStart => exact ⟨0, Nat.zero_le _, rfl, fun j hj => absurd hj (by omega), hw⟩
 case round =>
  obtain ⟨k, hk, rfl, hno, hJk⟩ := hrel
  have HN := zH hno
  clear hno
  by_cases hlt : k < l.length
  ·obtain ⟨p', c', b, o, he, _, _, hpp, hc, _⟩ := (HJ.out k wr hJk).heads
   injection he with he1 he2 he3
   subst he1 he3
   obtain rfl := hpp (by omega)
   obtain ⟨c2, e1, e2, e3, e4⟩ := hc k hlt; obtain ⟨p2, k2, rfl⟩ := e4.form
   clear hc hpp he2
   have hcall := zH (Hp.out k hlt wr (.agg #[.int .i64 l[k].area, .int .i64 l[k].bears, .slice p2 l[k].guys.length k2]) hJk (fun j hj => HN.out j hj (by omega)) ⟨_, rfl, _, rfl, e4.weak fun _ _ h => h.elim⟩)
   cases hq : p l[k] with
   | true =>
    have hq := zH hq
    go_wp2_with fail
    refine hcall.out.mono ?_
    rintro e w' ⟨rfl, hJ'⟩
    rw [hq.out]
    go_wp2
    have hi := idxOf_at hlt (fun j hj => HN.out j hj (by omega)) hq.out
    go_ret
    rw [hi]
    exact ⟨rfl, k + 1, by omega, fun h => by omega, hJ'⟩
   | false =>
    have hq := zH hq
    go_wp2_with fail
    refine hcall.out.mono ?_
    rintro e w' ⟨rfl, hJ'⟩
    rw [hq.out]
    go_wp2
    go_roundw
    case rel => exact ⟨k + 1, by omega, by go_num, fun j hj hl => if h : j = k then by subst h; exact hq.out else HN.out j (by omega) hl, hJ'⟩
    case measure => simp [intOf]; omega
  ·go_wp2
   have hi := idxOf_none (fun j hj => HN.out j (by omega) hj)
   go_ret
   rw [hi]
   exact ⟨rfl, k, hk, fun _ => by omega, hJk⟩
theorem containsFunc_head (S : Nat → Prop) (l : List Head) (v : Value) (w : World) (g : FuncId) (cap : Array Value) (eg : ∀ args w, (callFunc g args).run Tryz.prog w = .ok (.enter g args) w) (p : Head → Bool) (J : Nat → World → Prop) (hJ : ∀ i W, J i W → SL S W v l) (hw : J 0 w)
  (hp : PredJ g cap (fun W u x => AV (fun _ => False) W u x) p l J) :
  Calls Tryz.prog 118 #[v, .func (.func g) #[] cap] w fun e w' => e = .returned (.bool (l.any p)) ∧ ∃ k, k ≤ l.length ∧ (l.any p = false → k = l.length) ∧ J k w' := by
 have hc := indexFunc_head S l v w g cap eg p J hJ hw hp
 have HC := zH hc
 clear hc hp hJ eg
 go_enter Tryz.func118, Tryz.ntmps118
 go_wp2_with fail
 refine HC.out.mono ?_
 rintro e w' ⟨rfl, hk⟩
 have HK := zH hk
 clear hk
 go_wp2
 have hge := idxOf_ge p l
 go_ret
 obtain ⟨k, h1, h2, h3⟩ := HK.out
 refine ⟨by rw [← hge]; rfl, k, h1, fun h => h2 ?_, h3⟩
 rw [← hge, decide_eq_false_iff_not] at h
 unfold idxOf at h ⊢
 split <;> rename_i hh <;> simp [hh] at h ⊢
theorem allNot_head (l : List Head) (g : FuncId) (cap : Array Value) (eg : ∀ args w, (callFunc g args).run Tryz.prog w = .ok (.enter g args) w) (p : Head → Bool) (J : Nat → World → Prop) (X : Nat → Prop) (b : Nat) (hX : ¬ X b)
  (hJs : ∀ i W W', J i W → Step W W' → J i W') (hp : PredA g cap (fun W u x => AV (fun _ => False) W u x) p l J X) :
  PredJ 119 #[.pointer (some ⟨b, 0, none⟩)] (fun W u x => AV (fun _ => False) W u x) (fun x => !p x) l (fun i W => J i W ∧ W.cell? ⟨b, 0, none⟩ = some (.func (.func g) #[] cap)) := by
 intro i h W u ⟨hJ, hc⟩ hno hV
 have hb := World.block_lt_of_cell? W _ hc
 have hb' : b < W.heap.size := hb
 obtain ⟨c2, rfl, e4⟩ := AV.head hV; obtain ⟨p2, k2, rfl⟩ := e4.form
 have hcall := zH (hp i h (W.alloc (.cells #[.int .i64 l[i].area, .int .i64 l[i].bears, .slice p2 l[i].guys.length k2] 88)) (.agg #[.int .i64 l[i].area, .int .i64 l[i].bears, .slice p2 l[i].guys.length k2]) (hJs _ _ _ hJ (Step.alloc _ _)) (fun j hj => by simpa using hno j hj) ⟨_, rfl, _, rfl, e4.keep (.alloc _ _)⟩)
 show Calls Tryz.prog 119 #[(.agg #[.int .i64 l[i].area, .int .i64 l[i].bears, .slice p2 l[i].guys.length k2]), .pointer (some ⟨b, 0, none⟩)] W _
 have HN := zH hno
 have HS := zH hJs
 clear hno hJs hp hJ hb
 go_enter Tryz.func119, Tryz.ntmps119
 go_wp2_with fail
 refine hcall.out.mono ?_
 rintro e w' ⟨rfl, hJ', hst⟩
 have hc' := hst.keeps.cell hX (a := ⟨b, 0, none⟩) (by rw [World.cell?_alloc_lt _ _ _ hb']; exact hc)
 go_wp2
 go_ret
 exact ⟨rfl, hJ', hc'⟩
theorem all_head (S : Nat → Prop) (l : List Head) (v : Value) (w : World) (g : FuncId) (cap : Array Value) (eg : ∀ args w, (callFunc g args).run Tryz.prog w = .ok (.enter g args) w) (p : Head → Bool) (J : Nat → World → Prop) (X : Nat → Prop)
  (hX : ∀ j, X j → j < w.heap.size) (hJ : ∀ i W, J i W → SL S W v l) (hJs : ∀ i W W', J i W → Step W W' → J i W') (hw : J 0 w) (hp : PredA g cap (fun W u x => AV (fun _ => False) W u x) p l J X) :
  Calls Tryz.prog 79 #[v, .func (.func g) #[] cap] w fun e w' => e = .returned (.bool (l.all p)) ∧ ∃ k, k ≤ l.length ∧ (l.all p = true → k = l.length) ∧ J k w' := by
 have hmf : ∀ (fn : Fn) (first cap : Array Value) (w : World), (Instr.makeFunc fn first cap).run Tryz.prog w = .ok (.func fn first cap) w := fun _ _ _ _ => rfl
 have hc := containsFunc_head S l v (w.alloc (.cells #[.func (.func g) #[] cap] 162)) 119 #[.pointer (some ⟨w.heap.size, 0, none⟩)] (Go.Proofs.enters_of Tryz.func119 (by kernel_rfl) rfl) (fun x => !p x)
  (fun i W => J i W ∧ W.cell? ⟨w.heap.size, 0, none⟩ = some (.func (.func g) #[] cap)) (fun i W h => hJ i W h.1) ⟨hJs _ _ _ hw (Step.alloc _ _), by rw [World.cell?_alloc_new]; rfl⟩
  (allNot_head l g cap eg p J X w.heap.size (fun h => by have := hX _ h; omega) hJs hp)
 have HC := zH hc
 clear hc hp hJ hJs hX eg
 go_enter Tryz.func79, Tryz.ntmps79
 go_wp2_with fail
 refine HC.out.mono ?_
 rintro e w' ⟨rfl, hk⟩
 have HK := zH hk
 clear hk
 have he : (l.any fun x => !p x) = !(l.all p) := by rw [List.not_all_eq_any_not]
 have HE := zH he
 clear he
 go_wp2
 go_ret
 obtain ⟨k, h1, h2, h3, _⟩ := HK.out
 rw [HE.out] at h2 ⊢
 exact ⟨by simp, k, h1, fun h => h2 (by simp [h]), h3⟩
theorem infoInt : (Tryz.prog.info? 3).map (fun i => (i.zero, i.size, i.bytes)) = some (some (.int .i64 0), 1, 8) := by kernel_rfl
def intsB (a b : List Int) : Bool := decide (a = b)
theorem ints_hit {a b : List Int} {k : Nat} (ha : k < a.length) (hb : k < b.length) (ht : a.take k = b.take k) (h : a[k] = b[k]) : a.take (k + 1) = b.take (k + 1) := by
 rw [List.take_succ_eq_append_getElem ha, List.take_succ_eq_append_getElem hb, ht, h]
theorem ints_miss {a b : List Int} {k : Nat} (ha : k < a.length) (hb : k < b.length) (h : a[k] ≠ b[k]) : intsB a b = false := by
 have : a ≠ b := fun e => h (by subst e; rfl)
 simp [intsB, this]
theorem ints_end {a b : List Int} {k : Nat} (hl : a.length = b.length) (hk : a.length ≤ k) (ht : a.take k = b.take k) : intsB a b = true := by
 rw [List.take_of_length_le hk, List.take_of_length_le (by omega)] at ht
 simp [intsB, ht]
theorem eiInts : EI Tryz.prog 35 3 (.int .i64 0) 1 8 := .mk' Tryz.underlying35 infoInt rfl
theorem canvas.within_any (n lo hi : Int) (w : World) : Calls Tryz.prog 78 #[.int .i64 n, .int .i64 lo, .int .i64 hi] w fun e w' => e = .returned (.bool (withinB n lo hi)) ∧ w = w' := by
 by_cases h1 : lo ≤ n
 ·go_enter Tryz.func78, Tryz.ntmps78
  go_wp2
  go_ret
  exact ⟨by simp [withinB, h1], rfl⟩
 ·have hd : decide (lo ≤ n) = false := by simpa using h1
  go_enter Tryz.func78, Tryz.ntmps78
  go_wp2
  go_ret
  exact ⟨by simp [withinB]; omega, rfl⟩
theorem bigtopref01.In_any (n lo hi : Int) (w : World) : Calls Tryz.prog 21 #[.int .i64 n, .int .i64 lo, .int .i64 hi] w fun e w' => e = .returned (.bool (withinB n lo hi)) ∧ w = w' := by
 by_cases h1 : lo ≤ n
 ·go_enter Tryz.func21, Tryz.ntmps21
  go_wp2
  go_ret
  exact ⟨by simp [withinB, h1], rfl⟩
 ·have hd : decide (lo ≤ n) = false := by simpa using h1
  go_enter Tryz.func21, Tryz.ntmps21
  go_wp2
  go_ret
  exact ⟨by simp [withinB]; omega, rfl⟩
def veq (a b c d : Int) : Bool := a == c && b == d
end Go.Proofs.YtfhmdpicoccnfaaGreat
namespace Go.BT
open Go
set_option linter.unusedVariables false
/-! ### Forecasts and readings. -/
def rangeB (r : Rng) : Bool := decide (0 ≤ r.lo) && decide (r.lo ≤ r.hi) && decide (r.hi ≤ 1000)
def letterB (c : UInt8) : Bool := decide (97 ≤ c.toNat) && decide (c.toNat ≤ 122)
def digitB (c : UInt8) : Bool := decide (48 ≤ c.toNat) && decide (c.toNat ≤ 57)
def nameB (s : ByteArray) : Bool := decide (1 ≤ s.size) && decide (s.size ≤ 16) && letterB (s.data.getD 0 0) && s.data.toList.all fun c => letterB c || digitB c
def hoursN (l : List Fc) : Nat := match l with | [] => 0 | f :: _ => f.hours.length
def fewFB (l : List Fc) : Bool := decide (1 ≤ l.length) && decide (l.length ≤ 10) && l.all fun f => decide (f.hours.length ≤ 48)
def evenFB (l : List Fc) (f : Fc) : Bool := decide (0 < f.hours.length) && decide (f.hours.length = hoursN l) && f.hours.all rangeB
def namesOf (l : List Fc) : List ByteArray := l.map (·.name)
def forecastsC (l : List Fc) : Int := if fewFB l = true then (if l.all (evenFB l) = true then (if l.all (fun f => nameB f.name) = true then (if (namesOf l).Nodup then 0 else 6) else 5) else 1) else 3
def readingsC (l : List Fc) (rs : List Rdg) : Int := if rs.length ≤ 60 then (if rs.all (fun x => withinB x.hour 0 ((hoursN l : Int) - 1)) = true then (if rs.all (fun x => rangeB ⟨x.lo, x.hi⟩) = true then 0 else 1) else 2) else 3
def readC (l : List Fc) (rs : List Rdg) : Int := if forecastsC l = 0 then readingsC l rs else forecastsC l
def hourAt (f : Fc) (h : Int) : Rng := f.hours.getD h.toNat default
def hitsB (f : Fc) (x : Rdg) : Bool := decide (x.hi < (hourAt f x.hour).lo) || decide ((hourAt f x.hour).hi < x.lo)
def leftN (l : List Fc) (rs : List Rdg) (k : Nat) : List Nat := (List.range k).filter fun i => match l[i]? with | some f => !rs.any (hitsB f) | none => false
def leftI (l : List Fc) (rs : List Rdg) (k : Nat) : List Int := (leftN l rs k).map fun (i : Nat) => (i : Int)
def worstF (l : List Fc) (ids : List Nat) (h : Nat) : Int := ids.foldl (fun n i => match l[i]? with | some f => max n (hourAt f h).hi | none => n) 0
def worstL (l : List Fc) (ids : List Nat) : List Int := (List.range (hoursN l)).map (worstF l ids)
def worstC (l : List Fc) (rs : List Rdg) : Int := if readC l rs = 0 then (if leftN l rs l.length = [] then 7 else 0) else readC l rs
def worstR (l : List Fc) (rs : List Rdg) : List Int := if worstC l rs = 0 then worstL l (leftN l rs l.length) else []
theorem forecasts_ok {l : List Fc} (h : forecastsC l = 0) : fewFB l = true ∧ l.all (evenFB l) = true ∧ l.all (fun f => nameB f.name) = true ∧ (namesOf l).Nodup := by
 unfold forecastsC at h
 split at h
 ·split at h
  ·split at h
   ·split at h
    ·exact ⟨by assumption, by assumption, by assumption, by assumption⟩
    ·simp at h
   ·simp at h
  ·simp at h
 ·simp at h
theorem few_parts {l : List Fc} (h : fewFB l = true) : 1 ≤ l.length ∧ l.length ≤ 10 ∧ ∀ f ∈ l, f.hours.length ≤ 48 := by
 simp only [fewFB, Bool.and_eq_true, decide_eq_true_eq, List.all_eq_true] at h
 exact ⟨h.1.1, h.1.2, h.2⟩
theorem even_parts {l : List Fc} (h : l.all (evenFB l) = true) : ∀ f ∈ l, 0 < f.hours.length ∧ f.hours.length = hoursN l ∧ f.hours.all rangeB = true := by
 intro f hf
 have := List.all_eq_true.1 h f hf
 simp only [evenFB, Bool.and_eq_true, decide_eq_true_eq] at this
 exact ⟨this.1.1, this.1.2, this.2⟩
theorem hoursN_le {l : List Fc} (h : forecastsC l = 0) : 1 ≤ hoursN l ∧ hoursN l ≤ 48 := by
 obtain ⟨h1, h2, _, _⟩ := forecasts_ok h
 obtain ⟨a, _, b⟩ := few_parts h1
 have c := even_parts h2
 cases l with
 | nil => simp at a
 | cons f l =>
  have := b f (by simp)
  have := c f (by simp)
  simp only [hoursN]; omega
def windsB (l : List Int) : Bool := decide (1 ≤ l.length) && decide (l.length ≤ 48) && l.all fun n => withinB n 0 1000
/-! ### Sites and limits. -/
def baseB (v : Vec) : Bool := withinB v.x (-100) 100 && withinB v.y (-100) 100
def levelB (l : List Lvl) (i : Nat) : Bool := match l[i]? with
 | some x => withinB x.upto 0 1000 && withinB x.push 0 100 && (match i with | 0 => true | j + 1 => match l[j]? with | some y => decide (y.upto < x.upto) && decide (y.push ≤ x.push) | none => true)
 | none => true
def stageB (l : List Stg) (i : Nat) : Bool := match l[i]? with
 | some x => withinB x.cover 1 100 && withinB x.minutes 1 240 && (match i with | 0 => true | j + 1 => match l[j]? with | some y => decide (x.cover < y.cover) | none => true)
 | none => true
def siteB (s : Site) : Bool := withinB s.base.length 1 12 && s.base.all baseB && withinB s.levels.length 1 10 && withinB s.stages.length 2 8 && (List.range s.levels.length).all (levelB s.levels) && (List.range (s.stages.length - 1)).all (stageB s.stages) && decide (s.stages[s.stages.length - 1]? = some ⟨0, 0⟩) && withinB s.openS 0 ((s.stages.length : Int) - 2)
def reefA (a c : Int) : Int := (a * c + 99) / 100
def reefH (c : Int) (h : Head) : Head := ⟨reefA h.area c, h.bears, h.guys⟩
def reefL (c : Int) (t : List Head) : List Head := t.map (reefH c)
def blowL (base : List Vec) (push : Int) : List Vec := base.map fun v => timesV v push
def standN (l : List Tst) (t : List Head) (base : List Vec) : List Lvl → Nat
 | [] => 0
 | x :: r => if standB l t (blowL base x.push) = true then standN l t base r + 1 else 0
def uptoN (lv : List Lvl) (n : Nat) : Int := match n with | 0 => -1 | k + 1 => match lv[k]? with | some x => x.upto | none => -1
def limitL (l : List Tst) (t : List Head) (s : Site) (c : Int) : Int := if c = 0 then 1000 else uptoN s.levels (standN l (reefL c t) s.base s.levels)
def limitsL (l : List Tst) (t : List Head) (s : Site) : List Int := s.stages.map fun x => limitL l t s x.cover
def limitedB (s : Site) (l : List Int) : Bool := decide (l.length = s.stages.length) && l.all (fun n => withinB n (-1) 1000) && (List.range (l.length - 1)).all (fun i => decide (l.getD i 0 ≤ l.getD (i + 1) 0)) && decide (l.getD (l.length - 1) 0 = 1000)
theorem stand_reef {l : List Tst} {t : List Head} {wind : List Vec} {c d : Int} (h0 : 0 ≤ c) (hc : c ≤ d) (ha : ∀ h ∈ t, 0 ≤ h.area) (h : standB l (reefL d t) wind = true) : standB l (reefL c t) wind = true := by
 unfold standB reefL at *
 rw [List.all_map, List.all_eq_true] at *
 intro x hx
 have h1 := h x hx
 have h2 := ha x hx
 simp only [Function.comp_apply, standH, List.all_eq_true] at h1 ⊢
 intro v hv
 have h3 := h1 v hv
 have hm : x.area * c ≤ x.area * d := Int.mul_le_mul_of_nonneg_left hc h2
 have hz : 0 ≤ x.area * c := Int.mul_nonneg h2 h0
 exact bal_mono h3 (show 0 ≤ reefA x.area c by unfold reefA; omega) (show reefA x.area c ≤ reefA x.area d by unfold reefA; omega)
theorem standN_mono {l : List Tst} {t : List Head} {base : List Vec} {c d : Int} (h0 : 0 ≤ c) (hc : c ≤ d) (ha : ∀ h ∈ t, 0 ≤ h.area) : ∀ (lv : List Lvl), standN l (reefL d t) base lv ≤ standN l (reefL c t) base lv
 | [] => Nat.le_refl _
 | x :: r => by
  unfold standN
  split
  ·rename_i h
   rw [if_pos (stand_reef h0 hc ha h)]
   exact Nat.succ_le_succ (standN_mono h0 hc ha r)
  ·exact Nat.zero_le _
theorem standN_le {l : List Tst} {t : List Head} {base : List Vec} : ∀ (lv : List Lvl), standN l t base lv ≤ lv.length
 | [] => Nat.le_refl _
 | x :: r => by
  unfold standN
  split
  ·exact Nat.succ_le_succ (standN_le r)
  ·exact Nat.zero_le _
theorem standN_at {l : List Tst} {t : List Head} {base : List Vec} : ∀ (lv : List Lvl) (k : Nat) (hk : k < lv.length), k < standN l t base lv → standB l t (blowL base lv[k].push) = true
 | [], k, hk, _ => by simp at hk
 | x :: r, 0, hk, h => by
  unfold standN at h
  split at h
  ·assumption
  ·omega
 | x :: r, k + 1, hk, h => by
  unfold standN at h
  split at h
  ·exact standN_at r k (by simpa using hk) (by omega)
  ·omega
theorem standN_end {l : List Tst} {t : List Head} {base : List Vec} : ∀ (lv : List Lvl) (k : Nat) (hk : k < lv.length), k = standN l t base lv → standB l t (blowL base lv[k].push) = false
 | [], k, hk, _ => by simp at hk
 | x :: r, 0, hk, h => by
  unfold standN at h
  split at h
  ·omega
  ·rename_i q
   simpa using q
 | x :: r, k + 1, hk, h => by
  unfold standN at h
  split at h
  ·exact standN_end r k (by simpa using hk) (by omega)
  ·omega
structure SiteOk (s : Site) : Prop where
 base : 1 ≤ s.base.length ∧ s.base.length ≤ 12
 corners : s.base.all baseB = true
 nlev : 1 ≤ s.levels.length ∧ s.levels.length ≤ 10
 nst : 2 ≤ s.stages.length ∧ s.stages.length ≤ 8
 lev : ∀ i (h : i < s.levels.length), (0 ≤ s.levels[i].upto ∧ s.levels[i].upto ≤ 1000) ∧ 0 ≤ s.levels[i].push ∧ s.levels[i].push ≤ 100
 rise : ∀ i (h : i + 1 < s.levels.length), s.levels[i].upto < s.levels[i + 1].upto ∧ s.levels[i].push ≤ s.levels[i + 1].push
 st : ∀ i (h : i + 1 < s.stages.length), (1 ≤ s.stages[i].cover ∧ s.stages[i].cover ≤ 100) ∧ 1 ≤ s.stages[i].minutes ∧ s.stages[i].minutes ≤ 240
 fall : ∀ i (h : i + 2 < s.stages.length), s.stages[i + 1].cover < s.stages[i].cover
 last : s.stages[s.stages.length - 1]? = some ⟨0, 0⟩
 opn : 0 ≤ s.openS ∧ s.openS ≤ (s.stages.length : Int) - 2
theorem site_ok {s : Site} (h : siteB s = true) : SiteOk s := by
 simp only [siteB, Bool.and_eq_true, decide_eq_true_eq, List.all_eq_true, List.mem_range, withinB] at h
 obtain ⟨⟨⟨⟨⟨⟨⟨h1, h2⟩, h3⟩, h4⟩, h5⟩, h6⟩, h7⟩, h8⟩ := h
 refine ⟨by omega, List.all_eq_true.2 h2, by omega, by omega, fun i hi => ?_, fun i hi => ?_, fun i hi => ?_, fun i hi => ?_, h7, by omega⟩
 ·have := h5 i hi
  simp only [levelB, List.getElem?_eq_getElem hi, Bool.and_eq_true, decide_eq_true_eq, withinB] at this
  omega
 ·have := h5 (i + 1) hi
  simp only [levelB, List.getElem?_eq_getElem hi, List.getElem?_eq_getElem (show i < s.levels.length by omega), Bool.and_eq_true, decide_eq_true_eq, withinB] at this
  omega
 ·have := h6 i (by omega)
  simp only [stageB, List.getElem?_eq_getElem (show i < s.stages.length by omega), Bool.and_eq_true, decide_eq_true_eq, withinB] at this
  omega
 ·have := h6 (i + 1) (by omega)
  simp only [stageB, List.getElem?_eq_getElem (show i < s.stages.length by omega), List.getElem?_eq_getElem (show i + 1 < s.stages.length by omega), Bool.and_eq_true, decide_eq_true_eq, withinB] at this
  omega
theorem uptoN_mono {s : Site} (hs : SiteOk s) : ∀ {m n : Nat}, m ≤ n → n ≤ s.levels.length → uptoN s.levels m ≤ uptoN s.levels n
 | m, 0, h, _ => by
  obtain rfl : m = 0 := by omega
  exact Int.le_refl _
 | m, n + 1, h, hn => by
  by_cases e : m = n + 1
  ·subst e; exact Int.le_refl _
  ·refine Int.le_trans (uptoN_mono hs (show m ≤ n by omega) (by omega)) ?_
   have h1 := hs.lev n (by omega)
   cases n with
   | zero => simp only [uptoN, List.getElem?_eq_getElem (show 0 < s.levels.length by omega)]; omega
   | succ k =>
    have h2 := hs.rise k (by omega)
    simp only [uptoN, List.getElem?_eq_getElem (show k < s.levels.length by omega), List.getElem?_eq_getElem (show k + 1 < s.levels.length by omega)]; omega
theorem uptoN_bound {s : Site} (hs : SiteOk s) {n : Nat} (hn : n ≤ s.levels.length) : -1 ≤ uptoN s.levels n ∧ uptoN s.levels n ≤ 1000 := by
 cases n with
 | zero => simp [uptoN]
 | succ k =>
  have h1 := hs.lev k (by omega)
  simp only [uptoN, List.getElem?_eq_getElem (show k < s.levels.length by omega)]; omega
theorem limit_bound {l : List Tst} {t : List Head} {s : Site} (hs : SiteOk s) (c : Int) : -1 ≤ limitL l t s c ∧ limitL l t s c ≤ 1000 := by
 unfold limitL
 split
 ·omega
 ·exact uptoN_bound hs (standN_le _)
theorem limits_limited {l : List Tst} {t : List Head} {s : Site} (hs : siteB s = true) (ha : ∀ h ∈ t, 0 ≤ h.area) : limitedB s (limitsL l t s) = true := by
 have hk := site_ok hs
 have hlen : (limitsL l t s).length = s.stages.length := by simp [limitsL]
 simp only [limitedB, Bool.and_eq_true, decide_eq_true_eq, List.all_eq_true, List.mem_range]
 have hget : ∀ i (hi : i < s.stages.length), (limitsL l t s).getD i 0 = limitL l t s s.stages[i].cover := fun i hi => by
  rw [List.getD_eq_getElem?_getD, limitsL, List.getElem?_map, List.getElem?_eq_getElem hi]; rfl
 refine ⟨⟨⟨hlen, fun x hx => ?_⟩, fun i hi => ?_⟩, ?_⟩
 ·simp only [limitsL, List.mem_map] at hx
  obtain ⟨y, _, rfl⟩ := hx
  have := limit_bound (l := l) (t := t) hk y.cover
  simp only [withinB, Bool.and_eq_true, decide_eq_true_eq]; omega
 ·rw [hlen] at hi
  rw [hget i (by omega), hget (i + 1) (by omega)]
  have h1 := hk.st i (by omega)
  have hl := hk.last
  by_cases e : i + 2 = s.stages.length
  ·have h2 : s.stages[i + 1].cover = 0 := by
    rw [show s.stages.length - 1 = i + 1 by omega, List.getElem?_eq_getElem (by omega)] at hl
    rw [Option.some.inj hl]
   rw [h2]
   have := limit_bound (l := l) (t := t) hk s.stages[i].cover
   have h3 : limitL l t s 0 = 1000 := by simp [limitL]
   omega
  ·have h2 := hk.st (i + 1) (by omega)
   have h3 := hk.fall i (by omega)
   unfold limitL
   rw [if_neg (by omega), if_neg (by omega)]
   exact uptoN_mono hk (standN_mono (by omega) (by omega) ha _) (standN_le _)
 ·rw [hlen, hget _ (by have := hk.nst; omega)]
  have hl := hk.last
  rw [List.getElem?_eq_getElem (by have := hk.nst; omega)] at hl
  rw [Option.some.inj hl]
  simp [limitL]
end Go.BT
namespace Go.Proofs.YtfhmdpicoccnfaaGreat
set_option linter.unusedSimpArgs false
set_option linter.unusedVariables false
open Go.RowKit Go.BT
theorem indexFunc_rng (S : Nat → Prop) (l : List Rng) (v : Value) (w : World) (g : FuncId) (cap : Array Value) (eg : ∀ args w, (callFunc g args).run Tryz.prog w = .ok (.enter g args) w) (p : Rng → Bool) (J : Nat → World → Prop) (hJ : ∀ i W, J i W → SL S W v l) (hw : J 0 w)
  (hp : PredJ g cap (fun _ u x => u = .agg #[.int .i64 x.lo, .int .i64 x.hi]) p l J) :
  Calls Tryz.prog 144 #[v, .func (.func g) #[] cap] w fun e w' => e = .returned (.int .i64 (idxOf p l)) ∧ ∃ k, k ≤ l.length ∧ (idxOf p l = -1 → k = l.length) ∧ J k w' := by
 obtain ⟨pv, cv, rfl⟩ := (hJ 0 w hw).form
 have hm := (hJ 0 w hw).len
 have Hp := zH hp
 have HJ := zH hJ
 clear hp hJ
 go_enter Tryz.func144, Tryz.ntmps144
 go_wp2
 go_loopw [8] (fun i wr => ∃ k : Nat, k ≤ l.length ∧ i = .int .i64 k ∧ (∀ j (hj : j < k) (hl : j < l.length), p l[j] = false) ∧ J k wr) (fun i _ => l.length - (intOf i).toNat)
 case atStart => exact ⟨0, Nat.zero_le _, rfl, fun j hj => absurd hj (by omega), hw⟩
 case round =>
  obtain ⟨k, hk, rfl, hno, hJk⟩ := hrel
  have HN := zH hno
  clear hno
  by_cases hlt : k < l.length
  ·obtain ⟨p', c', b, o, he, _, _, hpp, hc, _⟩ := (HJ.out k wr hJk).rngs
   injection he with he1 he2 he3
   subst he1 he3
   obtain rfl := hpp (by omega)
   obtain ⟨e1, e2⟩ := hc k hlt
   clear hc hpp he2
   have hcall := zH (Hp.out k hlt wr (.agg #[.int .i64 l[k].lo, .int .i64 l[k].hi]) hJk (fun j hj => HN.out j hj (by omega)) rfl)
   cases hq : p l[k] with
   | true =>
    have hq := zH hq
    go_wp2_with fail
    refine hcall.out.mono ?_
    rintro e w' ⟨rfl, hJ'⟩
    rw [hq.out]
    go_wp2
    have hi := idxOf_at hlt (fun j hj => HN.out j hj (by omega)) hq.out
    go_ret
    rw [hi]
    exact ⟨rfl, k + 1, by omega, fun h => by omega, hJ'⟩
   | false =>
    have hq := zH hq
    go_wp2_with fail
    refine hcall.out.mono ?_
    rintro e w' ⟨rfl, hJ'⟩
    rw [hq.out]
    go_wp2
    go_roundw
    case rel => exact ⟨k + 1, by omega, by go_num, fun j hj hl => if h : j = k then by subst h; exact hq.out else HN.out j (by omega) hl, hJ'⟩
    case measure => simp [intOf]; omega
  ·go_wp2
   have hi := idxOf_none (fun j hj => HN.out j (by omega) hj)
   go_ret
   rw [hi]
   exact ⟨rfl, k, hk, fun _ => by omega, hJk⟩
theorem containsFunc_rng (S : Nat → Prop) (l : List Rng) (v : Value) (w : World) (g : FuncId) (cap : Array Value) (eg : ∀ args w, (callFunc g args).run Tryz.prog w = .ok (.enter g args) w) (p : Rng → Bool) (J : Nat → World → Prop) (hJ : ∀ i W, J i W → SL S W v l) (hw : J 0 w)
  (hp : PredJ g cap (fun _ u x => u = .agg #[.int .i64 x.lo, .int .i64 x.hi]) p l J) :
  Calls Tryz.prog 112 #[v, .func (.func g) #[] cap] w fun e w' => e = .returned (.bool (l.any p)) ∧ ∃ k, k ≤ l.length ∧ (l.any p = false → k = l.length) ∧ J k w' := by
 have hc := indexFunc_rng S l v w g cap eg p J hJ hw hp
 have HC := zH hc
 clear hc hp hJ eg
 go_enter Tryz.func112, Tryz.ntmps112
 go_wp2_with fail
 refine HC.out.mono ?_
 rintro e w' ⟨rfl, hk⟩
 have HK := zH hk
 clear hk
 go_wp2
 have hge := idxOf_ge p l
 go_ret
 obtain ⟨k, h1, h2, h3⟩ := HK.out
 refine ⟨by rw [← hge]; rfl, k, h1, fun h => h2 ?_, h3⟩
 rw [← hge, decide_eq_false_iff_not] at h
 unfold idxOf at h ⊢
 split <;> rename_i hh <;> simp [hh] at h ⊢
theorem allNot_rng (l : List Rng) (g : FuncId) (cap : Array Value) (eg : ∀ args w, (callFunc g args).run Tryz.prog w = .ok (.enter g args) w) (p : Rng → Bool) (J : Nat → World → Prop) (X : Nat → Prop) (b : Nat) (hX : ¬ X b)
  (hJs : ∀ i W W', J i W → Step W W' → J i W') (hp : PredA g cap (fun _ u x => u = .agg #[.int .i64 x.lo, .int .i64 x.hi]) p l J X) :
  PredJ 113 #[.pointer (some ⟨b, 0, none⟩)] (fun _ u x => u = .agg #[.int .i64 x.lo, .int .i64 x.hi]) (fun x => !p x) l (fun i W => J i W ∧ W.cell? ⟨b, 0, none⟩ = some (.func (.func g) #[] cap)) := by
 intro i h W u ⟨hJ, hc⟩ hno hV
 have hb := World.block_lt_of_cell? W _ hc
 have hb' : b < W.heap.size := hb
 obtain rfl := hV
 have hcall := zH (hp i h (W.alloc (.cells #[.int .i64 l[i].lo, .int .i64 l[i].hi] 77)) (.agg #[.int .i64 l[i].lo, .int .i64 l[i].hi]) (hJs _ _ _ hJ (Step.alloc _ _)) (fun j hj => by simpa using hno j hj) rfl)
 show Calls Tryz.prog 113 #[(.agg #[.int .i64 l[i].lo, .int .i64 l[i].hi]), .pointer (some ⟨b, 0, none⟩)] W _
 have HN := zH hno
 have HS := zH hJs
 clear hno hJs hp hJ hb
 go_enter Tryz.func113, Tryz.ntmps113
 go_wp2_with fail
 refine hcall.out.mono ?_
 rintro e w' ⟨rfl, hJ', hst⟩
 have hc' := hst.keeps.cell hX (a := ⟨b, 0, none⟩) (by rw [World.cell?_alloc_lt _ _ _ hb']; exact hc)
 go_wp2
 go_ret
 exact ⟨rfl, hJ', hc'⟩
theorem all_rng (S : Nat → Prop) (l : List Rng) (v : Value) (w : World) (g : FuncId) (cap : Array Value) (eg : ∀ args w, (callFunc g args).run Tryz.prog w = .ok (.enter g args) w) (p : Rng → Bool) (J : Nat → World → Prop) (X : Nat → Prop)
  (hX : ∀ j, X j → j < w.heap.size) (hJ : ∀ i W, J i W → SL S W v l) (hJs : ∀ i W W', J i W → Step W W' → J i W') (hw : J 0 w) (hp : PredA g cap (fun _ u x => u = .agg #[.int .i64 x.lo, .int .i64 x.hi]) p l J X) :
  Calls Tryz.prog 72 #[v, .func (.func g) #[] cap] w fun e w' => e = .returned (.bool (l.all p)) ∧ ∃ k, k ≤ l.length ∧ (l.all p = true → k = l.length) ∧ J k w' := by
 have hmf : ∀ (fn : Fn) (first cap : Array Value) (w : World), (Instr.makeFunc fn first cap).run Tryz.prog w = .ok (.func fn first cap) w := fun _ _ _ _ => rfl
 have hc := containsFunc_rng S l v (w.alloc (.cells #[.func (.func g) #[] cap] 157)) 113 #[.pointer (some ⟨w.heap.size, 0, none⟩)] (Go.Proofs.enters_of Tryz.func113 (by kernel_rfl) rfl) (fun x => !p x)
  (fun i W => J i W ∧ W.cell? ⟨w.heap.size, 0, none⟩ = some (.func (.func g) #[] cap)) (fun i W h => hJ i W h.1) ⟨hJs _ _ _ hw (Step.alloc _ _), by rw [World.cell?_alloc_new]; rfl⟩
  (allNot_rng l g cap eg p J X w.heap.size (fun h => by have := hX _ h; omega) hJs hp)
 have HC := zH hc
 clear hc hp hJ hJs hX eg
 go_enter Tryz.func72, Tryz.ntmps72
 go_wp2_with fail
 refine HC.out.mono ?_
 rintro e w' ⟨rfl, hk⟩
 have HK := zH hk
 clear hk
 have he : (l.any fun x => !p x) = !(l.all p) := by rw [List.not_all_eq_any_not]
 have HE := zH he
 clear he
 go_wp2
 go_ret
 obtain ⟨k, h1, h2, h3, _⟩ := HK.out
 rw [HE.out] at h2 ⊢
 exact ⟨by simp, k, h1, fun h => h2 (by simp [h]), h3⟩
theorem indexFunc_rdg (S : Nat → Prop) (l : List Rdg) (v : Value) (w : World) (g : FuncId) (cap : Array Value) (eg : ∀ args w, (callFunc g args).run Tryz.prog w = .ok (.enter g args) w) (p : Rdg → Bool) (J : Nat → World → Prop) (hJ : ∀ i W, J i W → SL S W v l) (hw : J 0 w)
  (hp : PredJ g cap (fun _ u x => u = .agg #[.int .i64 x.hour, .int .i64 x.lo, .int .i64 x.hi]) p l J) :
  Calls Tryz.prog 97 #[v, .func (.func g) #[] cap] w fun e w' => e = .returned (.int .i64 (idxOf p l)) ∧ ∃ k, k ≤ l.length ∧ (idxOf p l = -1 → k = l.length) ∧ J k w' := by
 obtain ⟨pv, cv, rfl⟩ := (hJ 0 w hw).form
 have hm := (hJ 0 w hw).len
 have Hp := zH hp
 have HJ := zH hJ
 clear hp hJ
 go_enter Tryz.func97, Tryz.ntmps97
 go_wp2
 go_loopw [8] (fun i wr => ∃ k : Nat, k ≤ l.length ∧ i = .int .i64 k ∧ (∀ j (hj : j < k) (hl : j < l.length), p l[j] = false) ∧ J k wr) (fun i _ => l.length - (intOf i).toNat)
 case atStart => exact ⟨0, Nat.zero_le _, rfl, fun j hj => absurd hj (by omega), hw⟩
 case round =>
  obtain ⟨k, hk, rfl, hno, hJk⟩ := hrel
  have HN := zH hno
  clear hno
  by_cases hlt : k < l.length
  ·obtain ⟨p', c', b, o, he, _, _, hpp, hc, _⟩ := (HJ.out k wr hJk).rdgs
   injection he with he1 he2 he3
   subst he1 he3
   obtain rfl := hpp (by omega)
   obtain ⟨e1, e2, e3⟩ := hc k hlt
   clear hc hpp he2
   have hcall := zH (Hp.out k hlt wr (.agg #[.int .i64 l[k].hour, .int .i64 l[k].lo, .int .i64 l[k].hi]) hJk (fun j hj => HN.out j hj (by omega)) rfl)
   cases hq : p l[k] with
   | true =>
    have hq := zH hq
    go_wp2_with fail
    refine hcall.out.mono ?_
    rintro e w' ⟨rfl, hJ'⟩
    rw [hq.out]
    go_wp2
    have hi := idxOf_at hlt (fun j hj => HN.out j hj (by omega)) hq.out
    go_ret
    rw [hi]
    exact ⟨rfl, k + 1, by omega, fun h => by omega, hJ'⟩
   | false =>
    have hq := zH hq
    go_wp2_with fail
    refine hcall.out.mono ?_
    rintro e w' ⟨rfl, hJ'⟩
    rw [hq.out]
    go_wp2
    go_roundw
    case rel => exact ⟨k + 1, by omega, by go_num, fun j hj hl => if h : j = k then by subst h; exact hq.out else HN.out j (by omega) hl, hJ'⟩
    case measure => simp [intOf]; omega
  ·go_wp2
   have hi := idxOf_none (fun j hj => HN.out j (by omega) hj)
   go_ret
   rw [hi]
   exact ⟨rfl, k, hk, fun _ => by omega, hJk⟩
theorem containsFunc_rdg (S : Nat → Prop) (l : List Rdg) (v : Value) (w : World) (g : FuncId) (cap : Array Value) (eg : ∀ args w, (callFunc g args).run Tryz.prog w = .ok (.enter g args) w) (p : Rdg → Bool) (J : Nat → World → Prop) (hJ : ∀ i W, J i W → SL S W v l) (hw : J 0 w)
  (hp : PredJ g cap (fun _ u x => u = .agg #[.int .i64 x.hour, .int .i64 x.lo, .int .i64 x.hi]) p l J) :
  Calls Tryz.prog 136 #[v, .func (.func g) #[] cap] w fun e w' => e = .returned (.bool (l.any p)) ∧ ∃ k, k ≤ l.length ∧ (l.any p = false → k = l.length) ∧ J k w' := by
 have hc := indexFunc_rdg S l v w g cap eg p J hJ hw hp
 have HC := zH hc
 clear hc hp hJ eg
 go_enter Tryz.func136, Tryz.ntmps136
 go_wp2_with fail
 refine HC.out.mono ?_
 rintro e w' ⟨rfl, hk⟩
 have HK := zH hk
 clear hk
 go_wp2
 have hge := idxOf_ge p l
 go_ret
 obtain ⟨k, h1, h2, h3⟩ := HK.out
 refine ⟨by rw [← hge]; rfl, k, h1, fun h => h2 ?_, h3⟩
 rw [← hge, decide_eq_false_iff_not] at h
 unfold idxOf at h ⊢
 split <;> rename_i hh <;> simp [hh] at h ⊢
theorem allNot_rdg (l : List Rdg) (g : FuncId) (cap : Array Value) (eg : ∀ args w, (callFunc g args).run Tryz.prog w = .ok (.enter g args) w) (p : Rdg → Bool) (J : Nat → World → Prop) (X : Nat → Prop) (b : Nat) (hX : ¬ X b)
  (hJs : ∀ i W W', J i W → Step W W' → J i W') (hp : PredA g cap (fun _ u x => u = .agg #[.int .i64 x.hour, .int .i64 x.lo, .int .i64 x.hi]) p l J X) :
  PredJ 137 #[.pointer (some ⟨b, 0, none⟩)] (fun _ u x => u = .agg #[.int .i64 x.hour, .int .i64 x.lo, .int .i64 x.hi]) (fun x => !p x) l (fun i W => J i W ∧ W.cell? ⟨b, 0, none⟩ = some (.func (.func g) #[] cap)) := by
 intro i h W u ⟨hJ, hc⟩ hno hV
 have hb := World.block_lt_of_cell? W _ hc
 have hb' : b < W.heap.size := hb
 obtain rfl := hV
 have hcall := zH (hp i h (W.alloc (.cells #[.int .i64 l[i].hour, .int .i64 l[i].lo, .int .i64 l[i].hi] 79)) (.agg #[.int .i64 l[i].hour, .int .i64 l[i].lo, .int .i64 l[i].hi]) (hJs _ _ _ hJ (Step.alloc _ _)) (fun j hj => by simpa using hno j hj) rfl)
 show Calls Tryz.prog 137 #[(.agg #[.int .i64 l[i].hour, .int .i64 l[i].lo, .int .i64 l[i].hi]), .pointer (some ⟨b, 0, none⟩)] W _
 have HN := zH hno
 have HS := zH hJs
 clear hno hJs hp hJ hb
 go_enter Tryz.func137, Tryz.ntmps137
 go_wp2_with fail
 refine hcall.out.mono ?_
 rintro e w' ⟨rfl, hJ', hst⟩
 have hc' := hst.keeps.cell hX (a := ⟨b, 0, none⟩) (by rw [World.cell?_alloc_lt _ _ _ hb']; exact hc)
 go_wp2
 go_ret
 exact ⟨rfl, hJ', hc'⟩
theorem all_rdg (S : Nat → Prop) (l : List Rdg) (v : Value) (w : World) (g : FuncId) (cap : Array Value) (eg : ∀ args w, (callFunc g args).run Tryz.prog w = .ok (.enter g args) w) (p : Rdg → Bool) (J : Nat → World → Prop) (X : Nat → Prop)
  (hX : ∀ j, X j → j < w.heap.size) (hJ : ∀ i W, J i W → SL S W v l) (hJs : ∀ i W W', J i W → Step W W' → J i W') (hw : J 0 w) (hp : PredA g cap (fun _ u x => u = .agg #[.int .i64 x.hour, .int .i64 x.lo, .int .i64 x.hi]) p l J X) :
  Calls Tryz.prog 94 #[v, .func (.func g) #[] cap] w fun e w' => e = .returned (.bool (l.all p)) ∧ ∃ k, k ≤ l.length ∧ (l.all p = true → k = l.length) ∧ J k w' := by
 have hmf : ∀ (fn : Fn) (first cap : Array Value) (w : World), (Instr.makeFunc fn first cap).run Tryz.prog w = .ok (.func fn first cap) w := fun _ _ _ _ => rfl
 have hc := containsFunc_rdg S l v (w.alloc (.cells #[.func (.func g) #[] cap] 179)) 137 #[.pointer (some ⟨w.heap.size, 0, none⟩)] (Go.Proofs.enters_of Tryz.func137 (by kernel_rfl) rfl) (fun x => !p x)
  (fun i W => J i W ∧ W.cell? ⟨w.heap.size, 0, none⟩ = some (.func (.func g) #[] cap)) (fun i W h => hJ i W h.1) ⟨hJs _ _ _ hw (Step.alloc _ _), by rw [World.cell?_alloc_new]; rfl⟩
  (allNot_rdg l g cap eg p J X w.heap.size (fun h => by have := hX _ h; omega) hJs hp)
 have HC := zH hc
 clear hc hp hJ hJs hX eg
 go_enter Tryz.func94, Tryz.ntmps94
 go_wp2_with fail
 refine HC.out.mono ?_
 rintro e w' ⟨rfl, hk⟩
 have HK := zH hk
 clear hk
 have he : (l.any fun x => !p x) = !(l.all p) := by rw [List.not_all_eq_any_not]
 have HE := zH he
 clear he
 go_wp2
 go_ret
 obtain ⟨k, h1, h2, h3, _⟩ := HK.out
 rw [HE.out] at h2 ⊢
 exact ⟨by simp, k, h1, fun h => h2 (by simp [h]), h3⟩
theorem indexFunc_int (S : Nat → Prop) (l : List Int) (v : Value) (w : World) (g : FuncId) (cap : Array Value) (eg : ∀ args w, (callFunc g args).run Tryz.prog w = .ok (.enter g args) w) (p : Int → Bool) (J : Nat → World → Prop) (hJ : ∀ i W, J i W → SL S W v l) (hw : J 0 w)
  (hp : PredJ g cap (fun _ u x => u = .int .i64 x) p l J) :
  Calls Tryz.prog 58 #[v, .func (.func g) #[] cap] w fun e w' => e = .returned (.int .i64 (idxOf p l)) ∧ ∃ k, k ≤ l.length ∧ (idxOf p l = -1 → k = l.length) ∧ J k w' := by
 obtain ⟨pv, cv, rfl⟩ := (hJ 0 w hw).form
 have hm := (hJ 0 w hw).len
 have Hp := zH hp
 have HJ := zH hJ
 clear hp hJ
 go_enter Tryz.func58, Tryz.ntmps58
 go_wp2
 go_loopw [8] (fun i wr => ∃ k : Nat, k ≤ l.length ∧ i = .int .i64 k ∧ (∀ j (hj : j < k) (hl : j < l.length), p l[j] = false) ∧ J k wr) (fun i _ => l.length - (intOf i).toNat)
 case atStart => exact ⟨0, Nat.zero_le _, rfl, fun j hj => absurd hj (by omega), hw⟩
 case round =>
  obtain ⟨k, hk, rfl, hno, hJk⟩ := hrel
  have HN := zH hno
  clear hno
  by_cases hlt : k < l.length
  ·obtain ⟨p', c', b, o, he, _, _, hpp, hc, _⟩ := (HJ.out k wr hJk).ints
   injection he with he1 he2 he3
   subst he1 he3
   obtain rfl := hpp (by omega)
   have e1 := hc k hlt
   clear hc hpp he2
   have hcall := zH (Hp.out k hlt wr (.int .i64 l[k]) hJk (fun j hj => HN.out j hj (by omega)) rfl)
   cases hq : p l[k] with
   | true =>
    have hq := zH hq
    go_wp2_with fail
    refine hcall.out.mono ?_
    rintro e w' ⟨rfl, hJ'⟩
    rw [hq.out]
    go_wp2
    have hi := idxOf_at hlt (fun j hj => HN.out j hj (by omega)) hq.out
    go_ret
    rw [hi]
    exact ⟨rfl, k + 1, by omega, fun h => by omega, hJ'⟩
   | false =>
    have hq := zH hq
    go_wp2_with fail
    refine hcall.out.mono ?_
    rintro e w' ⟨rfl, hJ'⟩
    rw [hq.out]
    go_wp2
    go_roundw
    case rel => exact ⟨k + 1, by omega, by go_num, fun j hj hl => if h : j = k then by subst h; exact hq.out else HN.out j (by omega) hl, hJ'⟩
    case measure => simp [intOf]; omega
  ·go_wp2
   have hi := idxOf_none (fun j hj => HN.out j (by omega) hj)
   go_ret
   rw [hi]
   exact ⟨rfl, k, hk, fun _ => by omega, hJk⟩
theorem containsFunc_int (S : Nat → Prop) (l : List Int) (v : Value) (w : World) (g : FuncId) (cap : Array Value) (eg : ∀ args w, (callFunc g args).run Tryz.prog w = .ok (.enter g args) w) (p : Int → Bool) (J : Nat → World → Prop) (hJ : ∀ i W, J i W → SL S W v l) (hw : J 0 w)
  (hp : PredJ g cap (fun _ u x => u = .int .i64 x) p l J) :
  Calls Tryz.prog 101 #[v, .func (.func g) #[] cap] w fun e w' => e = .returned (.bool (l.any p)) ∧ ∃ k, k ≤ l.length ∧ (l.any p = false → k = l.length) ∧ J k w' := by
 have hc := indexFunc_int S l v w g cap eg p J hJ hw hp
 have HC := zH hc
 clear hc hp hJ eg
 go_enter Tryz.func101, Tryz.ntmps101
 go_wp2_with fail
 refine HC.out.mono ?_
 rintro e w' ⟨rfl, hk⟩
 have HK := zH hk
 clear hk
 go_wp2
 have hge := idxOf_ge p l
 go_ret
 obtain ⟨k, h1, h2, h3⟩ := HK.out
 refine ⟨by rw [← hge]; rfl, k, h1, fun h => h2 ?_, h3⟩
 rw [← hge, decide_eq_false_iff_not] at h
 unfold idxOf at h ⊢
 split <;> rename_i hh <;> simp [hh] at h ⊢
theorem allNot_int (l : List Int) (g : FuncId) (cap : Array Value) (eg : ∀ args w, (callFunc g args).run Tryz.prog w = .ok (.enter g args) w) (p : Int → Bool) (J : Nat → World → Prop) (X : Nat → Prop) (b : Nat) (hX : ¬ X b)
  (hJs : ∀ i W W', J i W → Step W W' → J i W') (hp : PredA g cap (fun _ u x => u = .int .i64 x) p l J X) :
  PredJ 102 #[.pointer (some ⟨b, 0, none⟩)] (fun _ u x => u = .int .i64 x) (fun x => !p x) l (fun i W => J i W ∧ W.cell? ⟨b, 0, none⟩ = some (.func (.func g) #[] cap)) := by
 intro i h W u ⟨hJ, hc⟩ hno hV
 have hb := World.block_lt_of_cell? W _ hc
 have hb' : b < W.heap.size := hb
 obtain rfl := hV
 have hcall := zH (hp i h W (.int .i64 l[i]) (hJs _ _ _ hJ (Step.refl _)) (fun j hj => by simpa using hno j hj) rfl)
 show Calls Tryz.prog 102 #[(.int .i64 l[i]), .pointer (some ⟨b, 0, none⟩)] W _
 have HN := zH hno
 have HS := zH hJs
 clear hno hJs hp hJ hb
 go_enter Tryz.func102, Tryz.ntmps102
 go_wp2_with fail
 refine hcall.out.mono ?_
 rintro e w' ⟨rfl, hJ', hst⟩
 have hc' := hst.keeps.cell hX (a := ⟨b, 0, none⟩) hc
 go_wp2
 go_ret
 exact ⟨rfl, hJ', hc'⟩
theorem all_int (S : Nat → Prop) (l : List Int) (v : Value) (w : World) (g : FuncId) (cap : Array Value) (eg : ∀ args w, (callFunc g args).run Tryz.prog w = .ok (.enter g args) w) (p : Int → Bool) (J : Nat → World → Prop) (X : Nat → Prop)
  (hX : ∀ j, X j → j < w.heap.size) (hJ : ∀ i W, J i W → SL S W v l) (hJs : ∀ i W W', J i W → Step W W' → J i W') (hw : J 0 w) (hp : PredA g cap (fun _ u x => u = .int .i64 x) p l J X) :
  Calls Tryz.prog 56 #[v, .func (.func g) #[] cap] w fun e w' => e = .returned (.bool (l.all p)) ∧ ∃ k, k ≤ l.length ∧ (l.all p = true → k = l.length) ∧ J k w' := by
 have hmf : ∀ (fn : Fn) (first cap : Array Value) (w : World), (Instr.makeFunc fn first cap).run Tryz.prog w = .ok (.func fn first cap) w := fun _ _ _ _ => rfl
 have hc := containsFunc_int S l v (w.alloc (.cells #[.func (.func g) #[] cap] 136)) 102 #[.pointer (some ⟨w.heap.size, 0, none⟩)] (Go.Proofs.enters_of Tryz.func102 (by kernel_rfl) rfl) (fun x => !p x)
  (fun i W => J i W ∧ W.cell? ⟨w.heap.size, 0, none⟩ = some (.func (.func g) #[] cap)) (fun i W h => hJ i W h.1) ⟨hJs _ _ _ hw (Step.alloc _ _), by rw [World.cell?_alloc_new]; rfl⟩
  (allNot_int l g cap eg p J X w.heap.size (fun h => by have := hX _ h; omega) hJs hp)
 have HC := zH hc
 clear hc hp hJ hJs hX eg
 go_enter Tryz.func56, Tryz.ntmps56
 go_wp2_with fail
 refine HC.out.mono ?_
 rintro e w' ⟨rfl, hk⟩
 have HK := zH hk
 clear hk
 have he : (l.any fun x => !p x) = !(l.all p) := by rw [List.not_all_eq_any_not]
 have HE := zH he
 clear he
 go_wp2
 go_ret
 obtain ⟨k, h1, h2, h3, _⟩ := HK.out
 rw [HE.out] at h2 ⊢
 exact ⟨by simp, k, h1, fun h => h2 (by simp [h]), h3⟩
theorem indexFunc_byte (S : Nat → Prop) (l : List UInt8) (v : Value) (w : World) (g : FuncId) (cap : Array Value) (eg : ∀ args w, (callFunc g args).run Tryz.prog w = .ok (.enter g args) w) (p : UInt8 → Bool) (J : Nat → World → Prop) (hJ : ∀ i W, J i W → SL S W v l) (hw : J 0 w)
  (hp : PredJ g cap (fun _ u x => u = .int .u8 (x.toNat : Int)) p l J) :
  Calls Tryz.prog 159 #[v, .func (.func g) #[] cap] w fun e w' => e = .returned (.int .i64 (idxOf p l)) ∧ ∃ k, k ≤ l.length ∧ (idxOf p l = -1 → k = l.length) ∧ J k w' := by
 obtain ⟨pv, cv, rfl⟩ := (hJ 0 w hw).form
 have hm := (hJ 0 w hw).len
 have Hp := zH hp
 have HJ := zH hJ
 clear hp hJ
 go_enter Tryz.func159, Tryz.ntmps159
 go_wp2
 go_loopw [8] (fun i wr => ∃ k : Nat, k ≤ l.length ∧ i = .int .i64 k ∧ (∀ j (hj : j < k) (hl : j < l.length), p l[j] = false) ∧ J k wr) (fun i _ => l.length - (intOf i).toNat)
 case atStart => exact ⟨0, Nat.zero_le _, rfl, fun j hj => absurd hj (by omega), hw⟩
 case round =>
  obtain ⟨k, hk, rfl, hno, hJk⟩ := hrel
  have HN := zH hno
  clear hno
  by_cases hlt : k < l.length
  ·obtain ⟨p', c', b, o, he, _, _, hpp, hc, _⟩ := (HJ.out k wr hJk).bytes
   injection he with he1 he2 he3
   subst he1 he3
   obtain rfl := hpp (by omega)
   have e1 := hc k hlt
   clear hc hpp he2
   have hcall := zH (Hp.out k hlt wr (.int .u8 (l[k].toNat : Int)) hJk (fun j hj => HN.out j hj (by omega)) rfl)
   cases hq : p l[k] with
   | true =>
    have hq := zH hq
    go_wp2_with fail
    refine hcall.out.mono ?_
    rintro e w' ⟨rfl, hJ'⟩
    rw [hq.out]
    go_wp2
    have hi := idxOf_at hlt (fun j hj => HN.out j hj (by omega)) hq.out
    go_ret
    rw [hi]
    exact ⟨rfl, k + 1, by omega, fun h => by omega, hJ'⟩
   | false =>
    have hq := zH hq
    go_wp2_with fail
    refine hcall.out.mono ?_
    rintro e w' ⟨rfl, hJ'⟩
    rw [hq.out]
    go_wp2
    go_roundw
    case rel => exact ⟨k + 1, by omega, by go_num, fun j hj hl => if h : j = k then by subst h; exact hq.out else HN.out j (by omega) hl, hJ'⟩
    case measure => simp [intOf]; omega
  ·go_wp2
   have hi := idxOf_none (fun j hj => HN.out j (by omega) hj)
   go_ret
   rw [hi]
   exact ⟨rfl, k, hk, fun _ => by omega, hJk⟩
theorem containsFunc_byte (S : Nat → Prop) (l : List UInt8) (v : Value) (w : World) (g : FuncId) (cap : Array Value) (eg : ∀ args w, (callFunc g args).run Tryz.prog w = .ok (.enter g args) w) (p : UInt8 → Bool) (J : Nat → World → Prop) (hJ : ∀ i W, J i W → SL S W v l) (hw : J 0 w)
  (hp : PredJ g cap (fun _ u x => u = .int .u8 (x.toNat : Int)) p l J) :
  Calls Tryz.prog 145 #[v, .func (.func g) #[] cap] w fun e w' => e = .returned (.bool (l.any p)) ∧ ∃ k, k ≤ l.length ∧ (l.any p = false → k = l.length) ∧ J k w' := by
 have hc := indexFunc_byte S l v w g cap eg p J hJ hw hp
 have HC := zH hc
 clear hc hp hJ eg
 go_enter Tryz.func145, Tryz.ntmps145
 go_wp2_with fail
 refine HC.out.mono ?_
 rintro e w' ⟨rfl, hk⟩
 have HK := zH hk
 clear hk
 go_wp2
 have hge := idxOf_ge p l
 go_ret
 obtain ⟨k, h1, h2, h3⟩ := HK.out
 refine ⟨by rw [← hge]; rfl, k, h1, fun h => h2 ?_, h3⟩
 rw [← hge, decide_eq_false_iff_not] at h
 unfold idxOf at h ⊢
 split <;> rename_i hh <;> simp [hh] at h ⊢
theorem allNot_byte (l : List UInt8) (g : FuncId) (cap : Array Value) (eg : ∀ args w, (callFunc g args).run Tryz.prog w = .ok (.enter g args) w) (p : UInt8 → Bool) (J : Nat → World → Prop) (X : Nat → Prop) (b : Nat) (hX : ¬ X b)
  (hJs : ∀ i W W', J i W → Step W W' → J i W') (hp : PredA g cap (fun _ u x => u = .int .u8 (x.toNat : Int)) p l J X) :
  PredJ 146 #[.pointer (some ⟨b, 0, none⟩)] (fun _ u x => u = .int .u8 (x.toNat : Int)) (fun x => !p x) l (fun i W => J i W ∧ W.cell? ⟨b, 0, none⟩ = some (.func (.func g) #[] cap)) := by
 intro i h W u ⟨hJ, hc⟩ hno hV
 have hb := World.block_lt_of_cell? W _ hc
 have hb' : b < W.heap.size := hb
 obtain rfl := hV
 have hcall := zH (hp i h W (.int .u8 (l[i].toNat : Int)) (hJs _ _ _ hJ (Step.refl _)) (fun j hj => by simpa using hno j hj) rfl)
 show Calls Tryz.prog 146 #[(.int .u8 (l[i].toNat : Int)), .pointer (some ⟨b, 0, none⟩)] W _
 have HN := zH hno
 have HS := zH hJs
 clear hno hJs hp hJ hb
 go_enter Tryz.func146, Tryz.ntmps146
 go_wp2_with fail
 refine hcall.out.mono ?_
 rintro e w' ⟨rfl, hJ', hst⟩
 have hc' := hst.keeps.cell hX (a := ⟨b, 0, none⟩) hc
 go_wp2
 go_ret
 exact ⟨rfl, hJ', hc'⟩
theorem all_byte (S : Nat → Prop) (l : List UInt8) (v : Value) (w : World) (g : FuncId) (cap : Array Value) (eg : ∀ args w, (callFunc g args).run Tryz.prog w = .ok (.enter g args) w) (p : UInt8 → Bool) (J : Nat → World → Prop) (X : Nat → Prop)
  (hX : ∀ j, X j → j < w.heap.size) (hJ : ∀ i W, J i W → SL S W v l) (hJs : ∀ i W W', J i W → Step W W' → J i W') (hw : J 0 w) (hp : PredA g cap (fun _ u x => u = .int .u8 (x.toNat : Int)) p l J X) :
  Calls Tryz.prog 114 #[v, .func (.func g) #[] cap] w fun e w' => e = .returned (.bool (l.all p)) ∧ ∃ k, k ≤ l.length ∧ (l.all p = true → k = l.length) ∧ J k w' := by
 have hmf : ∀ (fn : Fn) (first cap : Array Value) (w : World), (Instr.makeFunc fn first cap).run Tryz.prog w = .ok (.func fn first cap) w := fun _ _ _ _ => rfl
 have hc := containsFunc_byte S l v (w.alloc (.cells #[.func (.func g) #[] cap] 191)) 146 #[.pointer (some ⟨w.heap.size, 0, none⟩)] (Go.Proofs.enters_of Tryz.func146 (by kernel_rfl) rfl) (fun x => !p x)
  (fun i W => J i W ∧ W.cell? ⟨w.heap.size, 0, none⟩ = some (.func (.func g) #[] cap)) (fun i W h => hJ i W h.1) ⟨hJs _ _ _ hw (Step.alloc _ _), by rw [World.cell?_alloc_new]; rfl⟩
  (allNot_byte l g cap eg p J X w.heap.size (fun h => by have := hX _ h; omega) hJs hp)
 have HC := zH hc
 clear hc hp hJ hJs hX eg
 go_enter Tryz.func114, Tryz.ntmps114
 go_wp2_with fail
 refine HC.out.mono ?_
 rintro e w' ⟨rfl, hk⟩
 have HK := zH hk
 clear hk
 have he : (l.any fun x => !p x) = !(l.all p) := by rw [List.not_all_eq_any_not]
 have HE := zH he
 clear he
 go_wp2
 go_ret
 obtain ⟨k, h1, h2, h3, _⟩ := HK.out
 rw [HE.out] at h2 ⊢
 exact ⟨by simp, k, h1, fun h => h2 (by simp [h]), h3⟩
theorem indexFunc_fc (S : Nat → Prop) (l : List Fc) (v : Value) (w : World) (g : FuncId) (cap : Array Value) (eg : ∀ args w, (callFunc g args).run Tryz.prog w = .ok (.enter g args) w) (p : Fc → Bool) (J : Nat → World → Prop) (hJ : ∀ i W, J i W → SL S W v l) (hw : J 0 w)
  (hp : PredJ g cap (fun W u x => AV (fun _ => False) W u x) p l J) :
  Calls Tryz.prog 143 #[v, .func (.func g) #[] cap] w fun e w' => e = .returned (.int .i64 (idxOf p l)) ∧ ∃ k, k ≤ l.length ∧ (idxOf p l = -1 → k = l.length) ∧ J k w' := by
 obtain ⟨pv, cv, rfl⟩ := (hJ 0 w hw).form
 have hm := (hJ 0 w hw).len
 have Hp := zH hp
 have HJ := zH hJ
 clear hp hJ
 go_enter Tryz.func143, Tryz.ntmps143
 go_wp2
 go_loopw [8] (fun i wr => ∃ k : Nat, k ≤ l.length ∧ i = .int .i64 k ∧ (∀ j (hj : j < k) (hl : j < l.length), p l[j] = false) ∧ J k wr) (fun i _ => l.length - (intOf i).toNat)
 case atStart => exact ⟨0, Nat.zero_le _, rfl, fun j hj => absurd hj (by omega), hw⟩
 case round =>
  obtain ⟨k, hk, rfl, hno, hJk⟩ := hrel
  have HN := zH hno
  clear hno
  by_cases hlt : k < l.length
  ·obtain ⟨p', c', b, o, he, _, _, hpp, hc, _⟩ := (HJ.out k wr hJk).fcs
   injection he with he1 he2 he3
   subst he1 he3
   obtain rfl := hpp (by omega)
   obtain ⟨c2, e1, e2, e4, e5⟩ := hc k hlt; obtain ⟨p2, k2, rfl⟩ := e4.form
   clear hc hpp he2
   have hcall := zH (Hp.out k hlt wr (.agg #[.string l[k].name, .slice p2 l[k].hours.length k2]) hJk (fun j hj => HN.out j hj (by omega)) ⟨_, rfl, _, rfl, e4.weak fun _ _ h => h.elim, e5⟩)
   cases hq : p l[k] with
   | true =>
    have hq := zH hq
    go_wp2_with fail
    refine hcall.out.mono ?_
    rintro e w' ⟨rfl, hJ'⟩
    rw [hq.out]
    go_wp2
    have hi := idxOf_at hlt (fun j hj => HN.out j hj (by omega)) hq.out
    go_ret
    rw [hi]
    exact ⟨rfl, k + 1, by omega, fun h => by omega, hJ'⟩
   | false =>
    have hq := zH hq
    go_wp2_with fail
    refine hcall.out.mono ?_
    rintro e w' ⟨rfl, hJ'⟩
    rw [hq.out]
    go_wp2
    go_roundw
    case rel => exact ⟨k + 1, by omega, by go_num, fun j hj hl => if h : j = k then by subst h; exact hq.out else HN.out j (by omega) hl, hJ'⟩
    case measure => simp [intOf]; omega
  ·go_wp2
   have hi := idxOf_none (fun j hj => HN.out j (by omega) hj)
   go_ret
   rw [hi]
   exact ⟨rfl, k, hk, fun _ => by omega, hJk⟩
theorem containsFunc_fc (S : Nat → Prop) (l : List Fc) (v : Value) (w : World) (g : FuncId) (cap : Array Value) (eg : ∀ args w, (callFunc g args).run Tryz.prog w = .ok (.enter g args) w) (p : Fc → Bool) (J : Nat → World → Prop) (hJ : ∀ i W, J i W → SL S W v l) (hw : J 0 w)
  (hp : PredJ g cap (fun W u x => AV (fun _ => False) W u x) p l J) :
  Calls Tryz.prog 110 #[v, .func (.func g) #[] cap] w fun e w' => e = .returned (.bool (l.any p)) ∧ ∃ k, k ≤ l.length ∧ (l.any p = false → k = l.length) ∧ J k w' := by
 have hc := indexFunc_fc S l v w g cap eg p J hJ hw hp
 have HC := zH hc
 clear hc hp hJ eg
 go_enter Tryz.func110, Tryz.ntmps110
 go_wp2_with fail
 refine HC.out.mono ?_
 rintro e w' ⟨rfl, hk⟩
 have HK := zH hk
 clear hk
 go_wp2
 have hge := idxOf_ge p l
 go_ret
 obtain ⟨k, h1, h2, h3⟩ := HK.out
 refine ⟨by rw [← hge]; rfl, k, h1, fun h => h2 ?_, h3⟩
 rw [← hge, decide_eq_false_iff_not] at h
 unfold idxOf at h ⊢
 split <;> rename_i hh <;> simp [hh] at h ⊢
theorem allNot_fc (l : List Fc) (g : FuncId) (cap : Array Value) (eg : ∀ args w, (callFunc g args).run Tryz.prog w = .ok (.enter g args) w) (p : Fc → Bool) (J : Nat → World → Prop) (X : Nat → Prop) (b : Nat) (hX : ¬ X b)
  (hJs : ∀ i W W', J i W → Step W W' → J i W') (hp : PredA g cap (fun W u x => AV (fun _ => False) W u x) p l J X) :
  PredJ 111 #[.pointer (some ⟨b, 0, none⟩)] (fun W u x => AV (fun _ => False) W u x) (fun x => !p x) l (fun i W => J i W ∧ W.cell? ⟨b, 0, none⟩ = some (.func (.func g) #[] cap)) := by
 intro i h W u ⟨hJ, hc⟩ hno hV
 have hb := World.block_lt_of_cell? W _ hc
 have hb' : b < W.heap.size := hb
 obtain ⟨c2, rfl, e4, e5⟩ := AV.fc hV; obtain ⟨p2, k2, rfl⟩ := e4.form
 have hcall := zH (hp i h (W.alloc (.cells #[.string l[i].name, .slice p2 l[i].hours.length k2] 107)) (.agg #[.string l[i].name, .slice p2 l[i].hours.length k2]) (hJs _ _ _ hJ (Step.alloc _ _)) (fun j hj => by simpa using hno j hj) ⟨_, rfl, _, rfl, e4.keep (.alloc _ _), e5⟩)
 show Calls Tryz.prog 111 #[(.agg #[.string l[i].name, .slice p2 l[i].hours.length k2]), .pointer (some ⟨b, 0, none⟩)] W _
 have HN := zH hno
 have HS := zH hJs
 clear hno hJs hp hJ hb
 go_enter Tryz.func111, Tryz.ntmps111
 go_wp2_with fail
 refine hcall.out.mono ?_
 rintro e w' ⟨rfl, hJ', hst⟩
 have hc' := hst.keeps.cell hX (a := ⟨b, 0, none⟩) (by rw [World.cell?_alloc_lt _ _ _ hb']; exact hc)
 go_wp2
 go_ret
 exact ⟨rfl, hJ', hc'⟩
theorem all_fc (S : Nat → Prop) (l : List Fc) (v : Value) (w : World) (g : FuncId) (cap : Array Value) (eg : ∀ args w, (callFunc g args).run Tryz.prog w = .ok (.enter g args) w) (p : Fc → Bool) (J : Nat → World → Prop) (X : Nat → Prop)
  (hX : ∀ j, X j → j < w.heap.size) (hJ : ∀ i W, J i W → SL S W v l) (hJs : ∀ i W W', J i W → Step W W' → J i W') (hw : J 0 w) (hp : PredA g cap (fun W u x => AV (fun _ => False) W u x) p l J X) :
  Calls Tryz.prog 69 #[v, .func (.func g) #[] cap] w fun e w' => e = .returned (.bool (l.all p)) ∧ ∃ k, k ≤ l.length ∧ (l.all p = true → k = l.length) ∧ J k w' := by
 have hmf : ∀ (fn : Fn) (first cap : Array Value) (w : World), (Instr.makeFunc fn first cap).run Tryz.prog w = .ok (.func fn first cap) w := fun _ _ _ _ => rfl
 have hc := containsFunc_fc S l v (w.alloc (.cells #[.func (.func g) #[] cap] 155)) 111 #[.pointer (some ⟨w.heap.size, 0, none⟩)] (Go.Proofs.enters_of Tryz.func111 (by kernel_rfl) rfl) (fun x => !p x)
  (fun i W => J i W ∧ W.cell? ⟨w.heap.size, 0, none⟩ = some (.func (.func g) #[] cap)) (fun i W h => hJ i W h.1) ⟨hJs _ _ _ hw (Step.alloc _ _), by rw [World.cell?_alloc_new]; rfl⟩
  (allNot_fc l g cap eg p J X w.heap.size (fun h => by have := hX _ h; omega) hJs hp)
 have HC := zH hc
 clear hc hp hJ hJs hX eg
 go_enter Tryz.func69, Tryz.ntmps69
 go_wp2_with fail
 refine HC.out.mono ?_
 rintro e w' ⟨rfl, hk⟩
 have HK := zH hk
 clear hk
 have he : (l.any fun x => !p x) = !(l.all p) := by rw [List.not_all_eq_any_not]
 have HE := zH he
 clear he
 go_wp2
 go_ret
 obtain ⟨k, h1, h2, h3, _⟩ := HK.out
 rw [HE.out] at h2 ⊢
 exact ⟨by simp, k, h1, fun h => h2 (by simp [h]), h3⟩
theorem allNot_gvec (l : List Vec) (g : FuncId) (cap : Array Value) (eg : ∀ args w, (callFunc g args).run Tryz.prog w = .ok (.enter g args) w) (p : Vec → Bool) (J : Nat → World → Prop) (X : Nat → Prop) (b : Nat) (hX : ¬ X b)
  (hJs : ∀ i W W', J i W → Step W W' → J i W') (hp : PredA g cap (fun _ u x => u = .agg #[.int .i64 x.x, .int .i64 x.y]) p l J X) :
  PredJ 123 #[.pointer (some ⟨b, 0, none⟩)] (fun _ u x => u = .agg #[.int .i64 x.x, .int .i64 x.y]) (fun x => !p x) l (fun i W => J i W ∧ W.cell? ⟨b, 0, none⟩ = some (.func (.func g) #[] cap)) := by
 intro i h W u ⟨hJ, hc⟩ hno hV
 have hb := World.block_lt_of_cell? W _ hc
 have hb' : b < W.heap.size := hb
 obtain rfl := hV
 have hcall := zH (hp i h (W.alloc (.cells #[.int .i64 l[i].x, .int .i64 l[i].y] 52)) (.agg #[.int .i64 l[i].x, .int .i64 l[i].y]) (hJs _ _ _ hJ (Step.alloc _ _)) (fun j hj => by simpa using hno j hj) rfl)
 show Calls Tryz.prog 123 #[(.agg #[.int .i64 l[i].x, .int .i64 l[i].y]), .pointer (some ⟨b, 0, none⟩)] W _
 have HN := zH hno
 have HS := zH hJs
 clear hno hJs hp hJ hb
 go_enter Tryz.func123, Tryz.ntmps123
 go_wp2_with fail
 refine hcall.out.mono ?_
 rintro e w' ⟨rfl, hJ', hst⟩
 have hc' := hst.keeps.cell hX (a := ⟨b, 0, none⟩) (by rw [World.cell?_alloc_lt _ _ _ hb']; exact hc)
 go_wp2
 go_ret
 exact ⟨rfl, hJ', hc'⟩
theorem all_gvec (S : Nat → Prop) (l : List Vec) (v : Value) (w : World) (g : FuncId) (cap : Array Value) (eg : ∀ args w, (callFunc g args).run Tryz.prog w = .ok (.enter g args) w) (p : Vec → Bool) (J : Nat → World → Prop) (X : Nat → Prop)
  (hX : ∀ j, X j → j < w.heap.size) (hJ : ∀ i W, J i W → SL S W v l) (hJs : ∀ i W W', J i W → Step W W' → J i W') (hw : J 0 w) (hp : PredA g cap (fun _ u x => u = .agg #[.int .i64 x.x, .int .i64 x.y]) p l J X) :
  Calls Tryz.prog 81 #[v, .func (.func g) #[] cap] w fun e w' => e = .returned (.bool (l.all p)) ∧ ∃ k, k ≤ l.length ∧ (l.all p = true → k = l.length) ∧ J k w' := by
 have hmf : ∀ (fn : Fn) (first cap : Array Value) (w : World), (Instr.makeFunc fn first cap).run Tryz.prog w = .ok (.func fn first cap) w := fun _ _ _ _ => rfl
 have hc := containsFunc_vec S l v (w.alloc (.cells #[.func (.func g) #[] cap] 164)) 123 #[.pointer (some ⟨w.heap.size, 0, none⟩)] (Go.Proofs.enters_of Tryz.func123 (by kernel_rfl) rfl) (fun x => !p x)
  (fun i W => J i W ∧ W.cell? ⟨w.heap.size, 0, none⟩ = some (.func (.func g) #[] cap)) (fun i W h => hJ i W h.1) ⟨hJs _ _ _ hw (Step.alloc _ _), by rw [World.cell?_alloc_new]; rfl⟩
  (allNot_gvec l g cap eg p J X w.heap.size (fun h => by have := hX _ h; omega) hJs hp)
 have HC := zH hc
 clear hc hp hJ hJs hX eg
 go_enter Tryz.func81, Tryz.ntmps81
 go_wp2_with fail
 refine HC.out.mono ?_
 rintro e w' ⟨rfl, hk⟩
 have HK := zH hk
 clear hk
 have he : (l.any fun x => !p x) = !(l.all p) := by rw [List.not_all_eq_any_not]
 have HE := zH he
 clear he
 go_wp2
 go_ret
 obtain ⟨k, h1, h2, h3, _⟩ := HK.out
 rw [HE.out] at h2 ⊢
 exact ⟨by simp, k, h1, fun h => h2 (by simp [h]), h3⟩
end Go.Proofs.YtfhmdpicoccnfaaGreat
namespace Go.BT
open Go.RowKit
theorem madeCells_one (z : Value) (n : Nat) (hz : z.cells = #[z]) : madeCells z.cells n = (List.replicate n z).toArray := by
 rw [hz]
 apply Array.ext
 ·simp [size_madeCells]
 ·intro i h1 h2
  simp [madeCells, Nat.mod_one]
theorem wpl_make {P : Program} {w : World} {ops : Array Oper} {rest : List Oper} {o : Oper} {a : Act} {Q : Exit → Act → World → Prop} {t e : TypeId} {z : Value} {bytes : Nat} (ei : EI P t e z 1 bytes) (hg : o.guard = none) (l c : Operand) (hop : o.op = Op.makeSlice t l c)
  (hz : z.cells = #[z]) (kl kc : IntKind) (n : Nat) (hl : a.eval l = .int kl n) (hc : a.eval c = .int kc n) (hn : n ≤ 9223372036854775807) (hb : bytes * n ≤ 281474976710656)
  (hK : wpList P ops Q rest (a.put o.dst (.slice (some ⟨w.heap.size, 0, none⟩) n n)) (w.alloc (.cells (List.replicate n z).toArray e))) : wpList P ops Q (o :: rest) a w := by
 obtain ⟨h1, _, i, hi, h2, h3, h4⟩ := ei
 refine wpList_plain hg fun K hK' => ?_
 subst h4
 have hb' : (i.bytes : Int) * (n : Int) ≤ 281474976710656 := by
  have h : ((i.bytes * n : Nat) : Int) ≤ 281474976710656 := by omega
  rwa [Int.natCast_mul] at h
 have hr := run_make (P := P) w t e i z h1 hi h2 kl kc n n (by omega) (Int.le_refl _) hb' (by omega)
 simp only [Int.toNat_natCast, h3, Nat.mul_one, madeCells_one z n hz] at hr
 unfold Oper.wp
 simp [execOp, hop, hl, hc, hr, Result.andThen]
 exact hK' _ _ hK
theorem Bx.new' (w : World) (cs : List Value) (T : TypeId) (n : Nat) (h : w.heap.size = n) : Bx (w.alloc (.cells cs.toArray T)) n cs T := by subst h; exact Bx.new w cs T
theorem SL.bx {α : Type} [Rep α] {S : Nat → Prop} {w : World} {g : Nat} {cs : List Value} {T : TypeId} {l : List α} (h : Bx w g cs T) (hs : ¬ S g) (c : Nat) (hc : l.length ≤ c) (hm : l.length ≤ 9223372036854775807)
  (hr : ∀ i (hi : i < l.length), Rep.rep S w ((cs.drop (i * Rep.k α)).take (Rep.k α)) l[i]) : SL S w (.slice (some ⟨g, 0, none⟩) l.length c) l := by
 refine ⟨_, c, g, 0, rfl, hc, hm, fun _ => rfl, fun i hi => ⟨h.lt, hs, _, hr i hi, fun j v hj => ?_⟩⟩
 rw [Nat.zero_add, h.cell]
 rw [List.getElem?_take] at hj
 split at hj
 ·rw [List.getElem?_drop] at hj; exact hj
 ·cases hj
theorem SL.bx_ints {S : Nat → Prop} {w : World} {g : Nat} {T : TypeId} {l : List Int} (h : Bx w g (l.map (Value.int .i64)) T) (hs : ¬ S g) (c : Nat) (hc : l.length ≤ c) (hm : l.length ≤ 9223372036854775807) : SL S w (.slice (some ⟨g, 0, none⟩) l.length c) l := by
 refine SL.bx h hs c hc hm fun i hi => ?_
 show ((l.map (Value.int .i64)).drop (i * 1)).take 1 = [_]
 rw [Nat.mul_one, List.drop_eq_getElem_cons (by simpa using hi)]
 simp
theorem StepX.setCell {X : Nat → Prop} {w0 w : World} (h : StepX X w0 w) (a : Addr) (v : Value) (ha : X a.block) : StepX X w0 (w.setCell a v) :=
 h.trans ⟨rfl, rfl, rfl, by simp, fun j _ hs => Below.heap_setCell w a v j (fun e => hs (e ▸ ha))⟩
theorem StepX.set1 {g : Nat} {w0 w : World} (h : StepX (fun j => j = g) w0 w) (o : Nat) (v : Value) : StepX (fun j => j = g) w0 (w.setCell ⟨g, o, none⟩ v) := h.setCell ⟨g, o, none⟩ v rfl
theorem StepX.fresh {X : Nat → Prop} {w0 w w' : World} (h : Step w0 w) (k : StepX X w w') (hX : ∀ j, X j → w0.heap.size ≤ j) : Step w0 w' :=
 ⟨k.os.trans h.os, k.tape.trans h.tape, k.output.trans h.output, Nat.le_trans h.size k.size, fun j hj _ => (k.block j (Nat.lt_of_lt_of_le hj h.size) (fun hx => by have := hX j hx; omega)).trans (h.block j hj id)⟩
section
variable {P : Program} {fn : Func} {R : Ending → World → Prop} {a : Act} {w : World}
theorem ret_struct2 {t u : Tmp} {T T' : TypeId} {k g : Nat} {cs : List Value} (hr : fn.results = #[.cell t T, .tmp u]) (hi : SI P T k)
  (ht : a.tmps.getD t undef = .pointer (some ⟨g, 0, none⟩)) (hb : Bx w g cs T') (hk : cs.length = k) (hd : a.defers = []) (hR : R (.returned (.tuple #[.agg cs.toArray, a.tmps.getD u undef])) w) : bodyPost P fn R .ret a w := by
 refine bodyPost_ret (v := .tuple #[.agg cs.toArray, a.tmps.getD u undef]) ?_ hd hR
 have ht' : a.tmps[t]?.getD undef = .pointer (some ⟨g, 0, none⟩) := by simpa using ht
 simp [results, hr, ht', asAddr, run_loadVar_bx hi hb hk]
end
end Go.BT
namespace Go.Proofs.YtfhmdpicoccnfaaGreat
set_option linter.unusedSimpArgs false
set_option linter.unusedVariables false
open Go.RowKit Go.BT
def fits (n : Int) : Prop := -9223372036854775808 ≤ n ∧ n ≤ 9223372036854775807
theorem fits.wrap {n : Int} (h : fits n) : IntKind.i64.wrap n = n := by rw [IntKind.wrap_i64]; unfold fits at h; omega
theorem siVec : SI Tryz.prog 52 2 := ⟨⟨_, Tryz.underlying52⟩, by kernel_rfl⟩
theorem siRVec : SI Tryz.prog 113 2 := ⟨⟨_, Tryz.underlying113⟩, by kernel_rfl⟩
theorem set2 {w : World} {g : Nat} {a0 a1 : Value} {T : TypeId} (h : Bx w g [a0, a1] T) (c0 c1 : Value) : Bx ((w.setCell ⟨g, 0, none⟩ c0).setCell ⟨g, 1, none⟩ c1) g [c0, c1] T ∧ StepX (fun j => j = g) w ((w.setCell ⟨g, 0, none⟩ c0).setCell ⟨g, 1, none⟩ c1) :=
 ⟨(h.setCell 0 c0).setCell 1 c1, ((StepX.refl _ w).set1 0 c0).set1 1 c1⟩
theorem set4 {w : World} {g : Nat} {a0 a1 a2 a3 : Value} {T : TypeId} (h : Bx w g [a0, a1, a2, a3] T) (c0 c1 c2 c3 : Value) : Bx ((((w.setCell ⟨g, 0, none⟩ c0).setCell ⟨g, 1, none⟩ c1).setCell ⟨g, 2, none⟩ c2).setCell ⟨g, 3, none⟩ c3) g [c0, c1, c2, c3] T ∧ StepX (fun j => j = g) w ((((w.setCell ⟨g, 0, none⟩ c0).setCell ⟨g, 1, none⟩ c1).setCell ⟨g, 2, none⟩ c2).setCell ⟨g, 3, none⟩ c3) :=
 ⟨(((h.setCell 0 c0).setCell 1 c1).setCell 2 c2).setCell 3 c3, ((((StepX.refl _ w).set1 0 c0).set1 1 c1).set1 2 c2).set1 3 c3⟩
theorem times_any (v : Vec) (n : Int) (w : World) (h1 : fits (n * v.x)) (h2 : fits (n * v.y)) :
  Calls Tryz.prog 91 #[.agg #[.int .i64 v.x, .int .i64 v.y], .int .i64 n] w fun e w' => e = .returned (.agg #[.int .i64 (timesV v n).x, .int .i64 (timesV v n).y]) ∧ Step w w' := by
 have h1 := h1.wrap
 have h2 := h2.wrap
 go_enter Tryz.func91, Tryz.ntmps91
 go_wp2
 exact ret_struct (k := 2) rfl siVec rfl (Bx.new' _ [.int .i64 (n * v.x), .int .i64 (n * v.y)] _ _ (by simp)) rfl rfl ⟨rfl, (by with_reducible repeat (first | assumption | exact Step.refl _ | apply Step.s_alloc | apply Step.s_drew | apply Step.s_drewN | refine Step.trans ?_ (by assumption)))⟩
theorem Times_any (v : Vec) (n : Int) (w : World) (h1 : fits (n * v.x)) (h2 : fits (n * v.y)) :
  Calls Tryz.prog 50 #[.agg #[.int .i64 v.x, .int .i64 v.y], .int .i64 n] w fun e w' => e = .returned (.agg #[.int .i64 (timesV v n).x, .int .i64 (timesV v n).y]) ∧ Step w w' := by
 have h1 := h1.wrap
 have h2 := h2.wrap
 go_enter Tryz.func50, Tryz.ntmps50
 go_wp2
 exact ret_struct (k := 2) rfl siRVec rfl (Bx.new' _ [.int .i64 (n * v.x), .int .i64 (n * v.y)] _ _ (by simp)) rfl rfl ⟨rfl, (by with_reducible repeat (first | assumption | exact Step.refl _ | apply Step.s_alloc | apply Step.s_drew | apply Step.s_drewN | refine Step.trans ?_ (by assumption)))⟩
theorem dot_any (v o : Vec) (w : World) (h1 : fits (v.x * o.x)) (h2 : fits (v.y * o.y)) (h3 : fits (v.x * o.x + v.y * o.y)) :
  Calls Tryz.prog 131 #[.agg #[.int .i64 v.x, .int .i64 v.y], .agg #[.int .i64 o.x, .int .i64 o.y]] w fun e w' => e = .returned (.int .i64 (dotV v o)) ∧ Step w w' := by
 have h1 := h1.wrap
 have h2 := h2.wrap
 have h3 := h3.wrap
 go_enter Tryz.func131, Tryz.ntmps131
 go_wp2
 go_ret
 exact ⟨rfl, (by with_reducible repeat (first | assumption | exact Step.refl _ | apply Step.s_alloc | apply Step.s_drew | apply Step.s_drewN | refine Step.trans ?_ (by assumption)))⟩
theorem Dot_any (v o : Vec) (w : World) (h1 : fits (v.x * o.x)) (h2 : fits (v.y * o.y)) (h3 : fits (v.x * o.x + v.y * o.y)) :
  Calls Tryz.prog 134 #[.agg #[.int .i64 v.x, .int .i64 v.y], .agg #[.int .i64 o.x, .int .i64 o.y]] w fun e w' => e = .returned (.int .i64 (dotV v o)) ∧ Step w w' := by
 have h1 := h1.wrap
 have h2 := h2.wrap
 have h3 := h3.wrap
 go_enter Tryz.func134, Tryz.ntmps134
 go_wp2
 go_ret
 exact ⟨rfl, (by with_reducible repeat (first | assumption | exact Step.refl _ | apply Step.s_alloc | apply Step.s_drew | apply Step.s_drewN | refine Step.trans ?_ (by assumption)))⟩
theorem Vector_any (v : Vec) (w : World) :
  Calls Tryz.prog 49 #[.agg #[.int .i64 v.x, .int .i64 v.y]] w fun e w' => e = .returned (.agg #[.int .i64 v.x, .int .i64 v.y]) ∧ Step w w' := by
 go_enter Tryz.func49, Tryz.ntmps49
 go_wp2
 exact ret_struct (k := 2) rfl siVec rfl (Bx.new' _ [.int .i64 v.x, .int .i64 v.y] _ _ (by simp)) rfl rfl ⟨rfl, (by with_reducible repeat (first | assumption | exact Step.refl _ | apply Step.s_alloc | apply Step.s_drew | apply Step.s_drewN | refine Step.trans ?_ (by assumption)))⟩
end Go.Proofs.YtfhmdpicoccnfaaGreat
