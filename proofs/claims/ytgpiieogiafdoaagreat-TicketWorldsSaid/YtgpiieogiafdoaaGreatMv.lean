/- Walks and plain laws, part b. -/
import Derived.Test.YtgpiieogiafdoaaGreatMu
import Derived.Test.YtgpiieogiafdoaaGreatRows
import Derived.BigQuiet
import Derived.Deep.AppendLies
import Derived.Deep.DeepCutAuto
import Derived.Deep.QuietTactic
import Derived.Deep.RegionHeld3
import Derived.Defers
import Derived.Laws.MakeOwn
import Derived.Laws.OwnMore
import Derived.Laws.Pointers
import Derived.Laws.StructEq
import Derived.Lib.Hide
import Derived.LoopIn
import Derived.LoopNIn
import Derived.OwnWalkIn
import Derived.RangeFuncBound
import Derived.RangeFuncCalls
import Derived.RangeFuncLeaves
import Derived.RangeFuncNested
import Derived.Recover
import Derived.Shelf.Abstract
import Derived.Shelf.RegionOpen
import Derived.TacticsInMore
import Derived.WalkKit
import Derived.WalkLawsBesides
import Derived.WalkSmall
import Derived.WalkSpells
import Derived.WideKeyRuns
set_option maxHeartbeats 16000000
set_option maxRecDepth 100000
namespace Go.BT
open Go.RowKit
theorem madeCells_one (z : Value) (n : Nat) (hz : z.cells = #[z]) : madeCells z.cells n = (List.replicate n z).toArray := by
 rw [hz]
 apply Array.ext
 ·simp [size_madeCells]
 ·intro i h1 h2
  simp [madeCells, Nat.mod_one]
theorem wpl_make {P : Program} {w : World} {ops : Array Oper} {rest : List Oper} {o : Oper} {a : Act} {Q : Exit → Act → World → Prop} {t e : TypeId} {z : Value} {bytes : Nat} (ei : EI P t e z 1 bytes) (hg : o.guard = none) (l c : Operand) (hop : o.op = Op.makeSlice t l c)
  (hz : z.cells = #[z]) (kl kc : IntKind) (n : Nat) (hl : a.eval l = .int kl n) (hc : a.eval c = .int kc n) (hn : n ≤ 9223372036854775807) (hb : bytes * n ≤ 281474976710656)
  (hK : wpList P ops Q rest (a.put o.dst (.slice (some ⟨w.heap.size, 0, none⟩) n n)) (w.alloc (.cells (List.replicate n z).toArray e))) : wpList P ops Q (o :: rest) a w := by
 obtain ⟨h1, _, i, hi, h2, h3, h4⟩ := ei
 refine wpList_plain hg fun K hK' => ?_
 subst h4
 have hb' : (i.bytes : Int) * (n : Int) ≤ 281474976710656 := by
  have h : ((i.bytes * n : Nat) : Int) ≤ 281474976710656 := by omega
  rwa [Int.natCast_mul] at h
 have hr := run_make (P := P) w t e i z h1 hi h2 kl kc n n (by omega) (Int.le_refl _) hb' (by omega)
 simp only [Int.toNat_natCast, h3, Nat.mul_one, madeCells_one z n hz] at hr
 unfold Oper.wp
 simp [execOp, hop, hl, hc, hr, Result.andThen]
 exact hK' _ _ hK
theorem Bx.new' (w : World) (cs : List Value) (T : TypeId) (n : Nat) (h : w.heap.size = n) : Bx (w.alloc (.cells cs.toArray T)) n cs T := by subst h; exact Bx.new w cs T
theorem SL.bx {α : Type} [Rep α] {S : Nat → Prop} {w : World} {g : Nat} {cs : List Value} {T : TypeId} {l : List α} (h : Bx w g cs T) (hs : ¬ S g) (c : Nat) (hc : l.length ≤ c) (hm : l.length ≤ 9223372036854775807)
  (hr : ∀ i (hi : i < l.length), Rep.rep S w ((cs.drop (i * Rep.k α)).take (Rep.k α)) l[i]) : SL S w (.slice (some ⟨g, 0, none⟩) l.length c) l := by
 refine ⟨_, c, g, 0, rfl, hc, hm, fun _ => rfl, fun i hi => ⟨h.lt, hs, _, hr i hi, fun j v hj => ?_⟩⟩
 rw [Nat.zero_add, h.cell]
 rw [List.getElem?_take] at hj
 split at hj
 ·rw [List.getElem?_drop] at hj; exact hj
 ·cases hj
theorem SL.bx_ints {S : Nat → Prop} {w : World} {g : Nat} {T : TypeId} {l : List Int} (h : Bx w g (l.map (Value.int .i64)) T) (hs : ¬ S g) (c : Nat) (hc : l.length ≤ c) (hm : l.length ≤ 9223372036854775807) : SL S w (.slice (some ⟨g, 0, none⟩) l.length c) l := by
 refine SL.bx h hs c hc hm fun i hi => ?_
 show ((l.map (Value.int .i64)).drop (i * 1)).take 1 = [_]
 rw [Nat.mul_one, List.drop_eq_getElem_cons (by simpa using hi)]
 simp
theorem SL.bx_bools {S : Nat → Prop} {w : World} {g : Nat} {T : TypeId} {l : List Bool} (h : Bx w g (l.map Value.bool) T) (hs : ¬ S g) (c : Nat) (hc : l.length ≤ c) (hm : l.length ≤ 9223372036854775807) : SL S w (.slice (some ⟨g, 0, none⟩) l.length c) l := by
 refine SL.bx h hs c hc hm fun i hi => ?_
 show ((l.map Value.bool).drop (i * 1)).take 1 = [_]
 rw [Nat.mul_one, List.drop_eq_getElem_cons (by simpa using hi)]
 simp
def mix (l : List Int) (f : Int → Int) (k : Nat) : List Int := l.mapIdx fun i x => if i < k then f x else 0
theorem mix_len (l : List Int) (f : Int → Int) (k : Nat) : (mix l f k).length = l.length := by simp [mix]
theorem mix_zero (l : List Int) (f : Int → Int) : mix l f 0 = List.replicate l.length 0 := by
 apply List.ext_getElem
 ·simp [mix]
 ·intro i h1 h2; simp [mix]
theorem mix_full (l : List Int) (f : Int → Int) {k : Nat} (h : l.length ≤ k) : mix l f k = l.map f := by
 apply List.ext_getElem
 ·simp [mix]
 ·intro i h1 h2
  simp at h2
  simp [mix, show i < k by omega]
theorem mix_set (l : List Int) (f : Int → Int) {k : Nat} (h : k < l.length) : (mix l f k).set k (f l[k]) = mix l f (k + 1) := by
 apply List.ext_getElem
 ·simp [mix]
 ·intro i h1 h2
  rw [List.getElem_set]
  split
  ·subst_vars; simp [mix]
  ·simp only [mix, List.getElem_mapIdx]
   by_cases h3 : i < k
   ·simp [h3, show i < k + 1 by omega]
   ·simp [h3, show ¬ i < k + 1 by omega]
theorem mix_keep (l : List Int) (f : Int → Int) {k : Nat} (h : k < l.length) (h0 : f l[k] = 0) : mix l f k = mix l f (k + 1) := by
 rw [← mix_set l f h, h0]
 apply List.ext_getElem
 ·simp
 ·intro i h1 h2
  rw [List.getElem_set]
  split
  ·subst_vars; simp [mix]
  ·rfl
theorem StepX.setCell {X : Nat → Prop} {w0 w : World} (h : StepX X w0 w) (a : Addr) (v : Value) (ha : X a.block) : StepX X w0 (w.setCell a v) :=
 h.trans ⟨rfl, rfl, rfl, by simp, fun j _ hs => Below.heap_setCell w a v j (fun e => hs (e ▸ ha))⟩
theorem StepX.set1 {g : Nat} {w0 w : World} (h : StepX (fun j => j = g) w0 w) (o : Nat) (v : Value) : StepX (fun j => j = g) w0 (w.setCell ⟨g, o, none⟩ v) := h.setCell ⟨g, o, none⟩ v rfl
theorem set6 {w : World} {g : Nat} {a0 a1 a2 a3 a4 a5 : Value} {T : TypeId} (h : Bx w g [a0, a1, a2, a3, a4, a5] T) (c0 c1 c2 c3 c4 c5 : Value) :
    Bx ((((((w.setCell ⟨g, 0, none⟩ c0).setCell ⟨g, 1, none⟩ c1).setCell ⟨g, 2, none⟩ c2).setCell ⟨g, 3, none⟩ c3).setCell ⟨g, 4, none⟩ c4).setCell ⟨g, 5, none⟩ c5) g [c0, c1, c2, c3, c4, c5] T ∧
    StepX (fun j => j = g) w ((((((w.setCell ⟨g, 0, none⟩ c0).setCell ⟨g, 1, none⟩ c1).setCell ⟨g, 2, none⟩ c2).setCell ⟨g, 3, none⟩ c3).setCell ⟨g, 4, none⟩ c4).setCell ⟨g, 5, none⟩ c5) :=
  ⟨(((((h.setCell 0 c0).setCell 1 c1).setCell 2 c2).setCell 3 c3).setCell 4 c4).setCell 5 c5,
   ((((((StepX.refl _ w).set1 0 c0).set1 1 c1).set1 2 c2).set1 3 c3).set1 4 c4).set1 5 c5⟩
theorem StepX.fresh {X : Nat → Prop} {w0 w w' : World} (h : Step w0 w) (k : StepX X w w') (hX : ∀ j, X j → w0.heap.size ≤ j) : Step w0 w' :=
 ⟨k.os.trans h.os, k.tape.trans h.tape, k.output.trans h.output, Nat.le_trans h.size k.size, fun j hj _ => (k.block j (Nat.lt_of_lt_of_le hj h.size) (fun hx => by have := hX j hx; omega)).trans (h.block j hj id)⟩
section
variable {P : Program} {fn : Func} {R : Ending → World → Prop} {a : Act} {w : World}
theorem ret_struct2 {t u : Tmp} {T T' : TypeId} {k g : Nat} {cs : List Value} (hr : fn.results = #[.cell t T, .tmp u]) (hi : SI P T k)
  (ht : a.tmps.getD t undef = .pointer (some ⟨g, 0, none⟩)) (hb : Bx w g cs T') (hk : cs.length = k) (hd : a.defers = []) (hR : R (.returned (.tuple #[.agg cs.toArray, a.tmps.getD u undef])) w) : bodyPost P fn R .ret a w := by
 refine bodyPost_ret (v := .tuple #[.agg cs.toArray, a.tmps.getD u undef]) ?_ hd hR
 have ht' : a.tmps[t]?.getD undef = .pointer (some ⟨g, 0, none⟩) := by simpa using ht
 simp [results, hr, ht', asAddr, run_loadVar_bx hi hb hk]
theorem ret_struct3 {t u x : Tmp} {T T' : TypeId} {k g : Nat} {cs : List Value} (hr : fn.results = #[.cell t T, .tmp u, .tmp x]) (hi : SI P T k)
  (ht : a.tmps.getD t undef = .pointer (some ⟨g, 0, none⟩)) (hb : Bx w g cs T') (hk : cs.length = k) (hd : a.defers = []) (hR : R (.returned (.tuple #[.agg cs.toArray, a.tmps.getD u undef, a.tmps.getD x undef])) w) : bodyPost P fn R .ret a w := by
 refine bodyPost_ret (v := .tuple #[.agg cs.toArray, a.tmps.getD u undef, a.tmps.getD x undef]) ?_ hd hR
 have ht' : a.tmps[t]?.getD undef = .pointer (some ⟨g, 0, none⟩) := by simpa using ht
 simp [results, hr, ht', asAddr, run_loadVar_bx hi hb hk]
end
end Go.BT
namespace Go.Proofs.YtgpiieogiafdoaaGreat
set_option linter.unusedSimpArgs false
set_option linter.unusedVariables false
open Go.RowKit Go.BT
def heldV (a x : Int) : Int := if x = a then 0 else -1
def openP (h : House) (a : Int) : Book := { agency := a, seats := h.holds.map (fun r => r.map (heldV a)), off := List.replicate h.dates.length false, sent := 0, took := [], cash := 0 }
theorem siBook : SI Tryz.prog 77 6 := ⟨⟨_, Tryz.underlying77⟩, by kernel_rfl⟩
theorem infoBool : (Tryz.prog.info? 4).map (fun i => (i.zero, i.size, i.bytes)) = some (some (.bool false), 1, 1) := by kernel_rfl
theorem eiBools : EI Tryz.prog 53 4 (.bool false) 1 1 := .mk' Tryz.underlying53 infoBool rfl
theorem cells6 {w : World} {g : Nat} {c0 c1 c2 c3 c4 c5 : Value} {T : TypeId} (h : Bx w g [c0, c1, c2, c3, c4, c5] T) :
  w.cell? ⟨g, 0, none⟩ = some c0 ∧ w.cell? ⟨g, 1, none⟩ = some c1 ∧ w.cell? ⟨g, 2, none⟩ = some c2 ∧ w.cell? ⟨g, 3, none⟩ = some c3 ∧ w.cell? ⟨g, 4, none⟩ = some c4 ∧ w.cell? ⟨g, 5, none⟩ = some c5 :=
 ⟨h.cell 0, h.cell 1, h.cell 2, h.cell 3, h.cell 4, h.cell 5⟩
theorem open_any (S : Nat → Prop) (h : House) (n : Int) (v : Value) (w : World) (hv : AV S w v h) (hd : h.dates.length ≤ 1000) (hh : h.holds.length ≤ 1000) (hr : ∀ i (hi : i < h.holds.length), h.holds[i].length ≤ 1000000) :
  Calls Tryz.prog 45 #[v, .int .i64 n] w fun e w' => ∃ v', e = .returned v' ∧ AV (Old w) w' v' (openP h n) ∧ Step w w' := by
 obtain ⟨c0, c1, c2, c3, c4, rfl, h0, h1, h2, h3, h4⟩ := hv.house
 obtain ⟨p0, k0, rfl⟩ := h0.form
 obtain ⟨p1, k1, rfl⟩ := h1.form
 obtain ⟨p2, k2, rfl⟩ := h2.form
 obtain ⟨p3, k3, rfl⟩ := h3.form
 obtain ⟨p4, k4, rfl⟩ := h4.form
 obtain ⟨p', c', b, o, he, _, hm, hp, hc, hb⟩ := h4.rows
 injection he with he1 he2 he3
 subst he1 he3
 have HC := zH hc
 have HP := zH hp
 have HB := zH hb
 have HRR := zH hr
 clear hv h0 h1 h2 h3 h4 hc hp hb he2 hr
 have hx2 : (0 : Int) ≤ (h.dates.length : Int) := by omega
 go_enter Tryz.func45, Tryz.ntmps45
 go_wp2_with (at_make; refine wpl_make (z := .bool false) eiBools rfl _ _ rfl rfl .i64 .i64 h.dates.length rfl rfl (by omega) (by omega) ?_)
 go_loopw [20] (fun i wr => ∃ (k : Nat) (q : Value), k ≤ h.holds.length ∧ i = .int .i64 k ∧ Bx wr (w.heap.size + 1 + 1 + 1) [.int .i64 n, q, .slice (some ⟨w.heap.size + 1 + 1, 0, none⟩) h.dates.length h.dates.length, .int .i64 0, .slice none 0 0, .int .i64 0] 77 ∧
   Bx wr (w.heap.size + 1 + 1) (List.replicate h.dates.length (.bool false)) 4 ∧ Bx wr (w.heap.size + 1) [.int .i64 0, .slice none 0 0, .slice none 0 0, .int .i64 0, .slice none 0 0, .int .i64 0] 77 ∧
   OwnL (fun j => j < w.heap.size + 4) (w.heap.size + 4) 23 wr q ((openP h n).seats.take k) ∧ Below w.heap.size w wr ∧ w.heap.size + 4 ≤ wr.heap.size) (fun i _ => h.holds.length - (intOf i).toNat)
 case atStart =>
  have hS : Step w ((((w.alloc (.cells #[.slice p0 h.sectors.length k0, .slice p1 h.prices.length k1, .slice p2 h.dates.length k2, .slice p3 h.frm.length k3, .slice p4 h.holds.length k4] 41)).alloc (.cells #[.int .i64 0, .slice none 0 0, .slice none 0 0, .int .i64 0, .slice none 0 0, .int .i64 0] 77)).alloc (.cells (Array.replicate h.dates.length (.bool false)) 4)).alloc (.cells #[.int .i64 n, .slice none 0 0, .slice (some ⟨w.heap.size + 1 + 1, 0, none⟩) h.dates.length h.dates.length, .int .i64 0, .slice none 0 0, .int .i64 0] 77)) := (by with_reducible repeat (first | assumption | exact Step.refl _ | apply Step.s_alloc | apply Step.s_drew | apply Step.s_drewN | refine Step.trans ?_ (by assumption)))
  refine ⟨0, _, Nat.zero_le _, rfl, Bx.new' _ _ _ _ (by simp), Bx.alloc (by rw [← List.toArray_replicate]; exact Bx.new' _ _ _ _ (by simp)) _, Bx.alloc (Bx.alloc (Bx.new' _ _ _ _ (by simp)) _) _, OwnL.nil _ _ _ _, hS.below, by simp⟩
 case round =>
  obtain ⟨k, q, hk, rfl, hb, hbb, hbr, hown, hB, hsz⟩ := hrel
  obtain ⟨wo, hwo⟩ : ∃ W, W = wr := ⟨_, rfl⟩
  subst hwo
  by_cases hlt : k < h.holds.length
  ·obtain rfl := HP.out (by omega)
   obtain ⟨u, e1, hu⟩ := HC.out k hlt
   have hbl := (HB.out (by omega)).1
   have hrk := HRR.out k hlt
   have e1 := (hB.cell (p := ⟨b, o + k, none⟩) hbl).trans e1
   have hx : (0 : Int) ≤ (k : Int) ∧ (k : Int) < (h.holds.length : Int) := by omega
   obtain ⟨pu, cu, bu, ou, rfl, _, _, hpu, hcu, hbu⟩ := hu.ints
   have HCU := zH hcu
   have HPU := zH hpu
   have HBU := zH hbu
   clear hu hcu hpu hbu
   have hx3 : (0 : Int) ≤ (h.holds[k].length : Int) := by omega
   go_wp2_with (at_make; refine wpl_make (z := .int .i64 0) eiInts rfl _ _ rfl rfl .i64 .i64 h.holds[k].length rfl rfl (by omega) (by omega) ?_)
   go_loopw [29] (fun i wi => ∃ k2 : Nat, k2 ≤ h.holds[k].length ∧ i = .int .i64 k2 ∧ Bx wi wo.heap.size ((mix h.holds[k] (heldV n) k2).map (Value.int .i64)) 3 ∧ Step wo wi) (fun i _ => h.holds[k].length - (intOf i).toNat)
   case atStart => exact ⟨0, Nat.zero_le _, rfl, by rw [mix_zero, List.map_replicate, ← List.toArray_replicate]; exact Bx.new' _ _ _ _ rfl, Step.alloc _ _⟩
   case round =>
    obtain ⟨k2, hk2, rfl, hbx, hS⟩ := hrel
    by_cases hlt2 : k2 < h.holds[k].length
    ·obtain rfl := HPU.out (by omega)
     have hbl2 := (HBU.out (by omega)).1
     have a1 := hS.kc ((hB.cell (p := ⟨bu, ou + k2, none⟩) hbl2).trans (HCU.out k2 hlt2))
     have hx4 : (0 : Int) ≤ (k2 : Int) ∧ (k2 : Int) < (h.holds[k].length : Int) := by omega
     by_cases hne : h.holds[k][k2] = n
     ·have hne' : (h.holds[k][k2] != n) = false := by simp [hne]
      have hv0 : heldV n h.holds[k][k2] = 0 := by simp [heldV, hne]
      have HBX := zH hbx
      clear hne hbx
      go_wp2
      go_roundw
      case rel => exact ⟨k2 + 1, by omega, by go_num, by rw [← mix_keep _ _ hlt2 hv0]; exact HBX.out, hS⟩
      case measure => simp [intOf]; omega
     ·have hne' : (h.holds[k][k2] != n) = true := by simp [hne]
      have hv0 : heldV n h.holds[k][k2] = -1 := by simp [heldV, hne]
      have f1 := hbx.frozen k2
      have a2 := hbx.cell k2
      rw [List.getElem?_eq_getElem (by simp [mix_len]; exact hlt2), List.getElem_map] at a2
      have HBX := zH hbx
      clear hne hbx
      go_wp2
      go_roundw
      case rel => exact ⟨k2 + 1, by omega, by go_num, by rw [← mix_set _ _ hlt2, hv0, List.map_set]; exact HBX.out.setCell _ _, hS.setNew _ _ (Nat.le_refl _)⟩
      case measure => simp [intOf]; omega
    ·have hfull : mix h.holds[k] (heldV n) k2 = h.holds[k].map (heldV n) := mix_full _ _ (by omega)
     rw [hfull] at hbx
     have hb2 := hb.step hS
     have hbb2 := hbb.step hS
     have hbr2 := hbr.step hS
     have hown2 := (hown.step hS).alloc (.cells #[.slice (some ⟨wo.heap.size, 0, none⟩) h.holds[k].length h.holds[k].length] 23)
     have hgt : wo.heap.size < wr.heap.size := hbx.lt
     have x1 : ¬ avoid (fun j => j < w.heap.size + 4) q wo.heap.size := fun e => by
      rcases e with e | e
      ·omega
      ·have := (hown.lt _ e).2; omega
     have hrow : SL (avoid (fun j => j < w.heap.size + 4) q) wr (.slice (some ⟨wo.heap.size, 0, none⟩) (h.holds[k].map (heldV n)).length h.holds[k].length) (h.holds[k].map (heldV n)) := SL.bx_ints hbx x1 _ (by simp) (by simp; omega)
     rw [List.length_map] at hrow
     have hu := SLe.one (S := avoid (fun j => j < w.heap.size + 4) q) (w := wr) (cs := [.slice (some ⟨wo.heap.size, 0, none⟩) h.holds[k].length h.holds[k].length]) (x := h.holds[k].map (heldV n)) 23 ⟨_, rfl, hrow⟩
     have hkl : k < (openP h n).seats.length := by simpa [openP] using hlt
     have hn1 : ((openP h n).seats.take k).length + [h.holds[k].map (heldV n)].length = k + 1 := by simp; omega
     have hn2 : k + 1 ≤ maxLen := by simp only [maxLen]; omega
     have hn3 : w.heap.size + 4 ≤ (wr.alloc (.cells #[.slice (some ⟨wo.heap.size, 0, none⟩) h.holds[k].length h.holds[k].length] 23)).heap.size := by simp; omega
     have hn4 : (openP h n).seats.take k ++ [h.holds[k].map (heldV n)] = (openP h n).seats.take (k + 1) := by
      rw [List.take_succ_eq_append_getElem hkl]; simp [openP]
     obtain ⟨e0, e1, e2, e3, e4, e5⟩ := cells6 hb2
     have HH := zH (And.intro hbb2 (And.intro hbr2 (And.intro hB (And.intro hS (And.intro hb2 hbx)))))
     have HX := zH hrow
     clear hrow hb hbb hbr hown hbb2 hbr2 hB hS hb2 hbx hfull
     go_wp2_with (at_builtin; refine wpl_append (S := fun j => j < w.heap.size + 4) (base := w.heap.size + 4) (v := q) (l := (openP h n).seats.take k) (m := [h.holds[k].map (heldV n)]) eiRows rfl _ _ rfl rfl rfl hown2 hu (k + 1) hn1 ((openP h n).seats.take (k + 1)) hn4 hn2 (by omega) hn3 ?_)
     intro p' c' w2 hown3 hg
     obtain ⟨hbb, hbr, hB, hS, hb, hbx⟩ := HH.out
     have hq : ∀ j, q.ownBlock = some j → w.heap.size + 4 ≤ j := fun j hj => (hown2.lt j hj).1
     have hS1 := (hS.trans (Step.alloc wr (.cells #[.slice (some ⟨wo.heap.size, 0, none⟩) h.holds[k].length h.holds[k].length] 23)))
     have hB2 : Below (w.heap.size + 4) wo w2 := by
      refine Below.grown (hS1.below.mono hsz) hg hn3 hq
     have kp : ∀ j, j < w.heap.size + 4 → w2.heap[j]? = wo.heap[j]? := fun j hj => hB2.block j hj
     have kp2 : Keeps (fun j => ¬ j < w.heap.size + 4) wr w2 := ⟨by have := hg.size; simp at this; omega, fun j hj hs => by
      rw [kp j (by omega), hS.below.block j (by omega)]⟩
     have hb2 := hb.keep kp2 (by omega)
     have hbb2 := hbb.keep kp2 (by omega)
     have hbr2 := hbr.keep kp2 (by omega)
     have f1 := hb2.frozen 1
     have a1 := hb2.cell 1
     simp only [zD, zE] at a1
     have HZ := zH (And.intro hb2 (And.intro hbb2 (And.intro hbr2 (And.intro hB hB2))))
     have HO := zH hown3
     clear hb2 hbb2 hbr2 hB hB2 hown3 hg hS hS1 hb hbb hbr hbx kp kp2 hq
     go_wp2
     go_roundw
     case rel =>
      obtain ⟨hb2, hbb2, hbr2, hB, hB2⟩ := HZ.out
      have hsz2 := hB2.size
      refine ⟨k + 1, _, by omega, by go_num, hb2.setCell 1 _, hbb2.setOther (by omega), hbr2.setOther (by omega), HO.out.wrote (.setCell _ _ _ _) (by omega) (fun e => by have := (HO.out.lt _ e).1; omega), Below.setCell (p := ⟨w.heap.size + 1 + 1 + 1, 1, none⟩) (hB.trans (hB2.mono (by omega))) (by simp; omega) _, by simp; omega⟩
     case measure => simp [intOf]; omega
  ·have hkl : (openP h n).seats.take k = (openP h n).seats := List.take_of_length_le (by simp [openP]; omega)
   rw [hkl] at hown
   obtain ⟨e0, e1, e2, e3, e4, e5⟩ := cells6 hb
   obtain ⟨y0, y1, y2, y3, y4, y5⟩ := cells6 hbr
   have hfr := fun j => hbr.frozen j
   obtain ⟨q1, q2, rfl, _⟩ := hown.form
   have HH := zH (And.intro hb (And.intro hbb (And.intro hbr (And.intro hown hB))))
   clear hb hbb hbr hown hB hkl
   go_wp2
   obtain ⟨hb, hbb, hbr, hown, hB⟩ := HH.out
   have b6 := (((((hbr.setCell 0 (.int .i64 n)).setCell 1 (.slice q1 (openP h n).seats.length q2)).setCell 2 (.slice (some ⟨w.heap.size + 1 + 1, 0, none⟩) h.dates.length h.dates.length)).setCell 3 (.int .i64 0)).setCell 4 (.slice none 0 0)).setCell 5 (.int .i64 0)
   have hK6 := ((((((Keeps.refl (fun j => j = w.heap.size + 1) wo).s_wrote (.setCell _ (w.heap.size + 1) 0 (.int .i64 n)) rfl).s_wrote (.setCell _ (w.heap.size + 1) 1 (.slice q1 (openP h n).seats.length q2)) rfl).s_wrote (.setCell _ (w.heap.size + 1) 2 (.slice (some ⟨w.heap.size + 1 + 1, 0, none⟩) h.dates.length h.dates.length)) rfl).s_wrote (.setCell _ (w.heap.size + 1) 3 (.int .i64 0)) rfl).s_wrote (.setCell _ (w.heap.size + 1) 4 (.slice none 0 0)) rfl).s_wrote (.setCell _ (w.heap.size + 1) 5 (.int .i64 0)) rfl
   have hB6 := (((((hB.setCell (p := ⟨w.heap.size + 1, 0, none⟩) (by simp) (.int .i64 n)).setCell (p := ⟨w.heap.size + 1, 1, none⟩) (by simp) (.slice q1 (openP h n).seats.length q2)).setCell (p := ⟨w.heap.size + 1, 2, none⟩) (by simp) (.slice (some ⟨w.heap.size + 1 + 1, 0, none⟩) h.dates.length h.dates.length)).setCell (p := ⟨w.heap.size + 1, 3, none⟩) (by simp) (.int .i64 0)).setCell (p := ⟨w.heap.size + 1, 4, none⟩) (by simp) (.slice none 0 0)).setCell (p := ⟨w.heap.size + 1, 5, none⟩) (by simp) (.int .i64 0)
   have hoff : SL (fun j => j < w.heap.size + 2) wo (.slice (some ⟨w.heap.size + 1 + 1, 0, none⟩) (openP h n).off.length h.dates.length) (openP h n).off := SL.bx_bools (by simpa [openP] using hbb) (by omega) _ (by simp [openP]) (by simp [openP]; omega)
   have hol : (openP h n).off.length = h.dates.length := by simp [openP]
   rw [hol] at hoff
   refine ret_struct (k := 6) rfl siBook rfl b6 rfl rfl ⟨_, rfl, ⟨_, rfl, ⟨_, _, _, rfl, ?_, ?_, ?_⟩⟩, .of hB6⟩
   all_goals refine SL.keep (S := fun j => j < w.heap.size + 2) (hK6.mono fun j _ hj => by omega) ?_ |>.weak fun j _ hj => by unfold Old at hj; omega
   ·exact hown.sl (fun g' h1 h2 h3 => by omega) |>.weak fun j _ hj => by omega
   ·exact hoff
   ·exact SL.nil _ _
def noBook : Book := { agency := 0, seats := [], off := [], sent := 0, took := [], cash := 0 }
def openR (h : House) (n : Int) : Book × Int := if valid h then (if withinB n 0 (agN h - 1) then (openP h n, 0) else (noBook, 2)) else (noBook, 1)
theorem noBook_rep (S : Nat → Prop) (w : World) : Rep.rep S w [.int .i64 0, .slice none 0 0, .slice none 0 0, .int .i64 0, .slice none 0 0, .int .i64 0] noBook := ⟨_, _, _, rfl, SL.nil _ _, SL.nil _ _, SL.nil _ _⟩
theorem bounds_valid {h : House} (hv : valid h = true) : 1 ≤ h.dates.length ∧ h.dates.length ≤ 6 ∧ h.frm.length = h.dates.length ∧ h.holds.length = h.dates.length ∧ 1 ≤ agN h ∧ agN h ≤ 6 ∧ 0 ≤ sizeL h.sectors ∧ sizeL h.sectors ≤ 100 ∧ (∀ i (hi : i < h.holds.length), (h.holds[i].length : Int) = sizeL h.sectors) ∧ h.sectors.length ≤ 10 := by
 have hs := sizeL_bound (okSec_valid hv) h.sectors.length (Nat.le_refl _)
 rw [List.take_length] at hs
 simp only [valid, validA, validB, withinB, Bool.and_eq_true, decide_eq_true_eq] at hv
 obtain ⟨⟨⟨⟨h1, h2⟩, h3⟩, h4⟩, ⟨⟨⟨⟨⟨⟨⟨⟨b1, b2⟩, b3⟩, b4⟩, b5⟩, b6⟩, b7⟩, b8⟩, b9⟩⟩ := hv
 refine ⟨by omega, by omega, h2, h3, by omega, by omega, by omega, b3, fun i hi => ?_, by omega⟩
 have := List.all_eq_true.1 b9 _ (List.getElem_mem hi)
 simp only [holdsB, Bool.and_eq_true, decide_eq_true_eq] at this
 exact this.1
theorem Open_any (S : Nat → Prop) (h : House) (n : Int) (v : Value) (w : World) (hv : AV S w v h) :
  Calls Tryz.prog 30 #[v, .int .i64 n] w fun e w' => ∃ v', e = .returned (.tuple #[v', .int .i64 (openR h n).2]) ∧ AV (Old w) w' v' (openR h n).1 ∧ Step w w' := by
 obtain ⟨cs, rfl, hr⟩ := hv
 have hr0 := hr
 obtain ⟨c0, c1, c2, c3, c4, rfl, h0, h1, h2, h3, h4⟩ := hr
 obtain ⟨p0, k0, rfl⟩ := h0.form
 obtain ⟨p1, k1, rfl⟩ := h1.form
 obtain ⟨p2, k2, rfl⟩ := h2.form
 obtain ⟨p3, k3, rfl⟩ := h3.form
 obtain ⟨p4, k4, rfl⟩ := h4.form
 obtain ⟨W0, hW0⟩ : ∃ W0, W0 = (w.alloc (.cells #[.slice p0 h.sectors.length k0, .slice p1 h.prices.length k1, .slice p2 h.dates.length k2, .slice p3 h.frm.length k3, .slice p4 h.holds.length k4] 41)).alloc (.cells #[.int .i64 0, .slice none 0 0, .slice none 0 0, .int .i64 0, .slice none 0 0, .int .i64 0] 77) := ⟨_, rfl⟩
 have hb : Bx W0 w.heap.size [.slice p0 h.sectors.length k0, .slice p1 h.prices.length k1, .slice p2 h.dates.length k2, .slice p3 h.frm.length k3, .slice p4 h.holds.length k4] 41 := by subst hW0; exact (Bx.new _ _ _).alloc _
 have hq : Bx W0 (w.heap.size + 1) [.int .i64 0, .slice none 0 0, .slice none 0 0, .int .i64 0, .slice none 0 0, .int .i64 0] 77 := by subst hW0; exact Bx.new' _ _ _ _ (by simp)
 have hS : Step w W0 := by subst hW0; exact (by with_reducible repeat (first | assumption | exact Step.refl _ | apply Step.s_alloc | apply Step.s_drew | apply Step.s_drewN | refine Step.trans ?_ (by assumption)))
 have hr1 := Rep.keep (.of_step hS) hr0
 have hcall := zH (valid_any S h _ _ ⟨_, rfl, hr1⟩)
 have hz : W0.heap.size = w.heap.size + 2 := by subst hW0; simp
 have HB := zH hb
 have HQ := zH hq
 have HR := zH hr1
 have HS := zH hS
 clear hr0 h0 h1 h2 h3 h4 hb hr1 hq hS
 cases q : valid h with
 | true =>
  have Q := zH q
  clear q
  subst hW0
  go_enter Tryz.func30, Tryz.ntmps30
  go_wp2_with fail
  refine hcall.out.mono ?_
  rintro e w' ⟨rfl, hS⟩
  rw [Q.out]
  obtain ⟨e0, e1, e2, e3, e4⟩ := cells5 (HB.out.step hS)
  have BD := zH (bounds_valid Q.out)
  have hag : 1 ≤ agN h ∧ agN h ≤ 6 := ⟨BD.out.2.2.2.2.1, BD.out.2.2.2.2.2.1⟩
  have hcall2 := agencies_any S h _ _ ⟨_, rfl, Rep.keep (.of_step hS) HR.out⟩ (by have := BD.out; omega)
  rw [agN_eq] at hcall2
  have hcall2 := zH hcall2
  go_wp2_with fail
  refine hcall2.out.mono ?_
  rintro e w2 ⟨rfl, hS2⟩
  have hst := zH (hS.trans hS2)
  clear hS hS2 hcall hcall2 e0 e1 e2 e3 e4
  cases q2 : withinB n 0 (agN h - 1) with
  | true =>
   have Q2 := zH q2
   clear q2
   go_wp2_with fail
   refine (ticket.within_any _ _ _ _).mono ?_
   rintro e w' ⟨rfl, rfl⟩
   rw [Q2.out]
   obtain ⟨e0, e1, e2, e3, e4⟩ := cells5 (HB.out.step hst.out)
   have hcall2 := zH (open_any S h n _ _ ⟨_, rfl, Rep.keep (.of_step hst.out) HR.out⟩ (by have := BD.out; omega) (by have := BD.out; omega) (fun i hi => by have := BD.out.2.2.2.2.2.2.2.2.1 i hi; have := BD.out; omega))
   go_wp2_with fail
   refine hcall2.out.mono ?_
   rintro e w3 ⟨v', rfl, hv', hS3⟩
   obtain ⟨a1, a2, a4, rfl, s1, s2, s4⟩ := hv'.book
   obtain ⟨y1, x1, rfl⟩ := s1.form
   obtain ⟨y2, x2, rfl⟩ := s2.form
   obtain ⟨y4, x4, rfl⟩ := s4.form
   obtain ⟨e0, e1, e2, e3, e4, e5⟩ := cells6 (HQ.out.step (hst.out.trans hS3))
   have f0 := fun j => (HQ.out.step (hst.out.trans hS3)).frozen j
   have HV := zH (And.intro s1 (And.intro s2 (And.intro s4 hS3)))
   clear s1 s2 s4 hS3 hv' hcall2
   go_wp2
   obtain ⟨s1, s2, s4, hS3⟩ := HV.out
   have hq3 := HQ.out.step (hst.out.trans hS3)
   obtain ⟨b6, hX⟩ := set6 hq3 (.int .i64 (openP h n).agency) (.slice y1 (openP h n).seats.length x1) (.slice y2 (openP h n).off.length x2) (.int .i64 (openP h n).sent) (.slice y4 (openP h n).took.length x4) (.int .i64 (openP h n).cash)
   have hall : Step w _ := StepX.fresh (HS.out.trans (hst.out.trans hS3)) hX (fun j hj => by omega)
   have hzs := hst.out.size
   simp only [World.size_alloc] at hzs
   have hx : openR h n = (openP h n, 0) := by simp [openR, Q.out, Q2.out]
   rw [hx]
   refine ret_struct2 (k := 6) rfl siBook rfl b6 rfl rfl ⟨_, rfl, ⟨_, rfl, ⟨_, _, _, rfl, ?_, ?_, ?_⟩⟩, hall⟩
   all_goals refine SL.keep (S := fun j => j < w.heap.size + 2) (hX.keeps.mono fun j _ hj => by omega) ?_ |>.weak fun j _ hj => by unfold Old at hj; omega
   ·exact s1.weak fun j _ hj => by unfold Old; omega
   ·exact s2.weak fun j _ hj => by unfold Old; omega
   ·exact s4.weak fun j _ hj => by unfold Old; omega
  | false =>
   have Q2 := zH q2
   clear q2
   go_wp2_with fail
   refine (ticket.within_any _ _ _ _).mono ?_
   rintro e w' ⟨rfl, rfl⟩
   rw [Q2.out]
   obtain ⟨e0, e1, e2, e3, e4, e5⟩ := cells6 (HQ.out.step hst.out)
   have f0 := fun j => (HQ.out.step hst.out).frozen j
   go_wp2
   obtain ⟨b6, hX⟩ := set6 (HQ.out.step hst.out) (.int .i64 0) (.slice none 0 0) (.slice none 0 0) (.int .i64 0) (.slice none 0 0) (.int .i64 0)
   have hall : Step w _ := StepX.fresh (HS.out.trans hst.out) hX (fun j hj => by omega)
   have hx : openR h n = (noBook, 2) := by simp [openR, Q.out, Q2.out]
   rw [hx]
   exact ret_struct2 (k := 6) rfl siBook rfl b6 rfl rfl ⟨_, rfl, ⟨_, rfl, noBook_rep _ _⟩, hall⟩
 | false =>
  have Q := zH q
  clear q
  subst hW0
  go_enter Tryz.func30, Tryz.ntmps30
  go_wp2_with fail
  refine hcall.out.mono ?_
  rintro e w' ⟨rfl, hS⟩
  rw [Q.out]
  obtain ⟨e0, e1, e2, e3, e4, e5⟩ := cells6 (HQ.out.step hS)
  have f0 := fun j => (HQ.out.step hS).frozen j
  have hst := zH hS
  clear hS
  go_wp2
  obtain ⟨b6, hX⟩ := set6 (HQ.out.step hst.out) (.int .i64 0) (.slice none 0 0) (.slice none 0 0) (.int .i64 0) (.slice none 0 0) (.int .i64 0)
  have hall : Step w _ := StepX.fresh (HS.out.trans hst.out) hX (fun j hj => by omega)
  have hx : openR h n = (noBook, 1) := by simp [openR, Q.out]
  rw [hx]
  exact ret_struct2 (k := 6) rfl siBook rfl b6 rfl rfl ⟨_, rfl, ⟨_, rfl, noBook_rep _ _⟩, hall⟩
def priceL (h : House) (i : Int) : Int := h.prices.getD (classL h.sectors i).toNat 0
def rowCash (h : House) (l : List Int) : Nat → Int
 | 0 => 0
 | k + 1 => rowCash h l k + (if 0 < l.getD k 0 then priceL h k else 0)
def cashTo (h : House) (rows : List (List Int)) : Nat → Int
 | 0 => 0
 | k + 1 => cashTo h rows k + rowCash h (rows.getD k []) (rows.getD k []).length
def cashL (h : House) (rows : List (List Int)) : Int := cashTo h rows rows.length
theorem rowCash_succ (h : House) (l : List Int) (k : Nat) : rowCash h l (k + 1) = rowCash h l k + (if 0 < l.getD k 0 then priceL h k else 0) := rfl
theorem classL_range {m : Int} : ∀ {l : List Sector} {n : Int}, (∀ s ∈ l, 0 ≤ s.cls ∧ s.cls < m) → 0 ≤ n → n < sizeL l → 0 ≤ classL l n ∧ classL l n < m
 | [], n, _, h0, h1 => by simp [sizeL] at h1; omega
 | s :: l, n, hs, h0, h1 => by
  unfold classL
  split
  ·exact hs s List.mem_cons_self
  ·refine classL_range (fun s hs' => hs s (List.mem_cons_of_mem _ hs')) (by omega) ?_
   simp only [sizeL, List.map_cons, List.sum_cons] at h1 ⊢
   omega
theorem class_valid {h : House} (hv : valid h = true) {n : Int} (h0 : 0 ≤ n) (h1 : n < sizeL h.sectors) : ∃ k : Nat, classL h.sectors n = k ∧ ∃ hk : k < h.prices.length, priceL h n = h.prices[k] ∧ 0 ≤ h.prices[k] ∧ h.prices[k] ≤ 10000 := by
 simp only [valid, validB, Bool.and_eq_true] at hv
 have hb := hv.2.1.1.1.1.1.1.1.2
 have hp := hv.2.1.1.1.1.2
 have := classL_range (m := h.prices.length) (l := h.sectors) (n := n) (fun s hs => by
  have := List.all_eq_true.1 hb s hs
  simp [secB, withinB] at this
  omega) h0 h1
 refine ⟨(classL h.sectors n).toNat, by omega, by omega, ?_⟩
 have hk : (classL h.sectors n).toNat < h.prices.length := by omega
 refine ⟨by simp [priceL, List.getD_eq_getElem?_getD, hk], ?_⟩
 have := List.all_eq_true.1 hp _ (List.getElem_mem hk)
 simp [withinB] at this
 exact this
theorem rowCash_bound {h : House} (hv : valid h = true) (l : List Int) : ∀ k : Nat, (k : Int) ≤ sizeL h.sectors → 0 ≤ rowCash h l k ∧ rowCash h l k ≤ 10000 * k
 | 0, _ => by simp [rowCash]
 | k + 1, hk => by
  have := rowCash_bound hv l k (by omega)
  obtain ⟨_, _, _, e, h0, h1⟩ := class_valid hv (n := k) (by omega) (by omega)
  unfold rowCash
  split <;> omega
theorem cashTo_bound {h : House} (hv : valid h = true) {rows : List (List Int)} (hr : ∀ i (hi : i < rows.length), (rows[i].length : Int) = sizeL h.sectors) : ∀ k : Nat, k ≤ rows.length → 0 ≤ cashTo h rows k ∧ cashTo h rows k ≤ 1000000 * k
 | 0, _ => by simp [cashTo]
 | k + 1, hk => by
  have := cashTo_bound hv hr k (by omega)
  have e : rows.getD k [] = rows[k] := by simp [List.getD_eq_getElem?_getD, show k < rows.length by omega]
  have hrk := hr k (by omega)
  have h2 := rowCash_bound hv rows[k] rows[k].length (by omega)
  have h3 := (bounds_valid hv).2.2.2.2.2.2.2.1
  unfold cashTo
  rw [e]
  omega
theorem cash_any (S : Nat → Prop) (h : House) (b : Book) (v u : Value) (w : World) (hv : AV S w v h) (hu : AV S w u b) (hok : valid h = true) (hl : b.seats.length ≤ 1000) (hrow : ∀ i (hi : i < b.seats.length), (b.seats[i].length : Int) = sizeL h.sectors) :
  Calls Tryz.prog 136 #[v, u] w fun e w' => e = .returned (.int .i64 (cashL h b.seats)) ∧ Step w w' := by
 obtain ⟨cs, rfl, hr0⟩ := hv
 have hr := hr0
 obtain ⟨c0, c1, c2, c3, c4, rfl, h0, h1, h2, h3, h4⟩ := hr
 obtain ⟨p0, k0, rfl⟩ := h0.form
 obtain ⟨p1, k1, rfl⟩ := h1.form
 obtain ⟨p2, k2, rfl⟩ := h2.form
 obtain ⟨p3, k3, rfl⟩ := h3.form
 obtain ⟨p4, k4, rfl⟩ := h4.form
 obtain ⟨d1, d2, d4, rfl, s1, s2, s4⟩ := hu.book
 obtain ⟨q1, m1, rfl⟩ := s1.form
 obtain ⟨q2, m2, rfl⟩ := s2.form
 obtain ⟨q4, m4, rfl⟩ := s4.form
 obtain ⟨p', c', bb, o, he, _, hm, hp, hc, hb⟩ := s1.rows
 injection he with he1 he2 he3
 subst he1 he3
 obtain ⟨W0, hW0⟩ : ∃ W0, W0 = (w.alloc (.cells #[.slice p0 h.sectors.length k0, .slice p1 h.prices.length k1, .slice p2 h.dates.length k2, .slice p3 h.frm.length k3, .slice p4 h.holds.length k4] 41)).alloc (.cells #[.int .i64 b.agency, .slice q1 b.seats.length m1, .slice q2 b.off.length m2, .int .i64 b.sent, .slice q4 b.took.length m4, .int .i64 b.cash] 77) := ⟨_, rfl⟩
 have hbx : Bx W0 w.heap.size [.slice p0 h.sectors.length k0, .slice p1 h.prices.length k1, .slice p2 h.dates.length k2, .slice p3 h.frm.length k3, .slice p4 h.holds.length k4] 41 := by subst hW0; exact (Bx.new _ _ _).alloc _
 have hS : Step w W0 := by subst hW0; exact (by with_reducible repeat (first | assumption | exact Step.refl _ | apply Step.s_alloc | apply Step.s_drew | apply Step.s_drewN | refine Step.trans ?_ (by assumption)))
 have HB := zH hbx
 have HR := zH (Rep.keep (.of_step hS) hr0)
 have HS := zH hS
 have HC := zH hc
 have HP := zH hp
 have HBB := zH hb
 have HROW := zH hrow
 have HL := zH (And.intro hok hl)
 clear hr0 h0 h1 h2 h3 h4 hbx hS hu s1 s2 s4 he2 hc hp hb hrow hok hl
 have HW := zH hW0
 clear hW0
 go_enter Tryz.func136, Tryz.ntmps136
 go_wp2
 go_loopw [4, 12] (fun s i wr => ∃ k : Nat, k ≤ b.seats.length ∧ i = .int .i64 k ∧ s = .int .i64 (cashTo h b.seats k) ∧ Step W0 wr) (fun _ i _ => b.seats.length - (intOf i).toNat)
 case atStart => exact ⟨0, Nat.zero_le _, rfl, rfl, by rw [HW.out]; exact Step.refl _⟩
 case round =>
  obtain ⟨k, hk, rfl, rfl, hT⟩ := hrel
  by_cases hlt : k < b.seats.length
  ·obtain rfl := HP.out (by omega)
   obtain ⟨x, e1, hx⟩ := HC.out k hlt
   have e1 := (HS.out.trans hT).kc e1
   obtain ⟨pu, cu, bu, ou, rfl, _, _, hpu, hcu, hbu⟩ := hx.ints
   have hix : (0 : Int) ≤ (k : Int) ∧ (k : Int) < (b.seats.length : Int) := by omega
   have HCU := zH hcu
   have HPU := zH hpu
   clear hx hcu hpu hbu
   have hcb := cashTo_bound HL.out.1 HROW.out k hk
   have hl := HL.out.2
   go_wp2
   go_loopw [4, 18] (fun s i wi => ∃ k2 : Nat, k2 ≤ b.seats[k].length ∧ i = .int .i64 k2 ∧ s = .int .i64 (cashTo h b.seats k + rowCash h b.seats[k] k2) ∧ Step W0 wi) (fun _ i _ => b.seats[k].length - (intOf i).toNat)
   case atStart => exact ⟨0, Nat.zero_le _, rfl, by simp [rowCash], hT⟩
   case round =>
    obtain ⟨k2, hk2, rfl, rfl, hT⟩ := hrel
    have hrk := HROW.out k hlt
    have hrb := rowCash_bound HL.out.1 b.seats[k] k2 (by omega)
    have hsz := (bounds_valid HL.out.1).2.2.2.2.2.2.2.1
    have hkk : (k2 : Int) ≤ 100 := by omega
    have HRK := zH hrk
    clear hrk
    by_cases hlt2 : k2 < b.seats[k].length
    ·obtain rfl := HPU.out (by omega)
     have a1 := (HS.out.trans hT).kc (HCU.out k2 hlt2)
     have hx4 : (0 : Int) ≤ (k2 : Int) ∧ (k2 : Int) < (b.seats[k].length : Int) := by omega
     have hg : b.seats[k].getD k2 0 = b.seats[k][k2] := by simp [List.getD_eq_getElem?_getD, hlt2]
     have HG := zH hg
     clear hg
     by_cases hpos : 0 < b.seats[k][k2]
     ·obtain ⟨kc, hkc, hkl, hpr, hp0, hp1⟩ := class_valid HL.out.1 (n := k2) (by omega) (by have := HRK.out; omega)
      obtain ⟨e0, e1, e2, e3, e4⟩ := cells5 (HB.out.step hT)
      have hcall := zH (price_any S h _ k2 _ ⟨_, rfl, Rep.keep (.of_step hT) HR.out⟩ (okSec_valid HL.out.1) (by omega) kc hkc hkl)
      have hstep : rowCash h b.seats[k] (k2 + 1) = rowCash h b.seats[k] k2 + h.prices[kc] := by
       rw [rowCash_succ, HG.out, if_pos hpos, hpr]
      have HST := zH hstep
      have HT := zH hT
      clear hkc hpr hstep hT
      go_wp2_with fail
      refine hcall.out.mono ?_
      rintro e w' ⟨rfl, hS1⟩
      go_wp2
      go_roundw
      case rel => exact ⟨k2 + 1, by omega, by go_num, by rw [HST.out, Int.add_assoc], HT.out.trans hS1⟩
      case measure => simp [intOf]; omega
     ·have hstep : rowCash h b.seats[k] (k2 + 1) = rowCash h b.seats[k] k2 := by
       rw [rowCash_succ, HG.out, if_neg hpos, Int.add_zero]
      have HST := zH hstep
      clear hstep
      go_wp2
      go_roundw
      case rel => exact ⟨k2 + 1, by omega, by go_num, by rw [HST.out], hT⟩
      case measure => simp [intOf]; omega
    ·have hge : b.seats.getD k [] = b.seats[k] := by simp [List.getD_eq_getElem?_getD, hlt]
     have hkk2 : k2 = b.seats[k].length := by omega
     have hstep : cashTo h b.seats (k + 1) = cashTo h b.seats k + rowCash h b.seats[k] k2 := by
      rw [hkk2]
      show cashTo h b.seats k + rowCash h (b.seats.getD k []) (b.seats.getD k []).length = _
      rw [hge]
     have HST := zH hstep
     clear hstep hge hkk2
     go_wp2
     go_roundw
     case rel => exact ⟨k + 1, by omega, by go_num, by rw [HST.out], hT⟩
     case measure => simp [intOf]; omega
  ·have hkk : k = b.seats.length := by omega
   have hfin : cashTo h b.seats k = cashL h b.seats := by rw [hkk]; rfl
   have HF := zH hfin
   clear hfin hkk
   go_wp2
   go_ret
   rw [HF.out]
   exact ⟨rfl, HS.out.trans hT⟩
def rowB (z : Int) (l : List Int) : Bool := decide ((l.length : Int) = z) && l.all fun x => withinB x (-1) 1000000
theorem book1_any (S : Nat → Prop) (h : House) (l : List Int) (u : Value) (g : Nat) (c0 c1 c2 c3 c4 : Value) (w : World) (hb : Bx w g [c0, c1, c2, c3, c4] 41) (hr : Rep.rep S w [c0, c1, c2, c3, c4] h) (hu : SL S w u l) (hs : okSec h.sectors) :
  Calls Tryz.prog 135 #[u, .pointer (some ⟨g, 0, none⟩)] w fun e w' => e = .returned (.bool (rowB (sizeL h.sectors) l)) ∧ Step w w' := by
 obtain ⟨p1, k1, rfl⟩ := hu.form
 have hcall := zH (size_any S h (.agg #[c0, c1, c2, c3, c4]) w ⟨_, rfl, hr⟩ hs)
 have HU := zH hu
 obtain ⟨e0, e1, e2, e3, e4⟩ := cells5 hb
 clear hu hr hb
 by_cases h1 : (l.length : Int) = sizeL h.sectors
 ·have hd : ((l.length : Int) == sizeL h.sectors) = true := by simp [h1]
  have H1 := zH h1
  clear h1
  go_enter Tryz.func135, Tryz.ntmps135
  go_wp2_with fail
  refine hcall.out.mono ?_
  rintro e w' ⟨rfl, hS⟩
  have hcall2 := zH (every_any S l (.slice p1 l.length k1) (-1) 1000000 w' (HU.out.keep (.of_step hS)))
  go_wp2_with fail
  refine hcall2.out.mono ?_
  rintro e w3 ⟨rfl, hS3⟩
  go_wp2
  go_ret
  refine ⟨?_, hS.trans hS3⟩
  simp only [rowB, H1.out, decide_true, Bool.true_and]
  rfl
 ·have hd : ((l.length : Int) == sizeL h.sectors) = false := by simp [h1]
  have H1 := zH h1
  clear h1
  go_enter Tryz.func135, Tryz.ntmps135
  go_wp2_with fail
  refine hcall.out.mono ?_
  rintro e w' ⟨rfl, hS⟩
  go_wp2
  go_ret
  refine ⟨?_, hS⟩
  simp only [rowB, H1.out, decide_false, Bool.false_and]
  rfl
theorem rows1_any (h : House) (rows : List (List Int)) (v c0 c1 c2 c3 c4 : Value) (g : Nat) (S : Nat → Prop) (w : World) (hb : Bx w g [c0, c1, c2, c3, c4] 41) (hr : Rep.rep S w [c0, c1, c2, c3, c4] h) (hv : SL S w v rows) (hs : okSec h.sectors) :
  Calls Tryz.prog 86 #[v, .func (.func 135) #[] #[.pointer (some ⟨g, 0, none⟩)]] w fun e w' => e = .returned (.bool (rows.all (rowB (sizeL h.sectors)))) ∧ Step w w' := by
 refine (all_row S rows v w 135 #[.pointer (some ⟨g, 0, none⟩)] (Go.Proofs.enters_of Tryz.func135 (by kernel_rfl) rfl) (rowB (sizeL h.sectors)) (fun _ W => Step w W) (fun _ => False) (fun _ h => h.elim)
  (fun _ W hW => hv.keep (.of_step hW)) (fun _ _ _ h1 h2 => h1.trans h2) (Step.refl _) (fun i hi W u hW _ hu => ?_)).mono ?_
 ·refine (book1_any (fun _ => False) h rows[i] u g _ _ _ _ _ W (hb.step hW) (Rep.weak (fun _ _ h => h.elim) (Rep.keep (.of_step hW) hr)) hu hs).mono ?_
  rintro e w' ⟨rfl, hS⟩
  exact ⟨rfl, hW.trans hS, hS⟩
 ·rintro e w' ⟨rfl, k, _, _, hS⟩
  exact ⟨rfl, hS⟩
def kv (x : Key) : Value := .agg #[.int .i64 x.frm, .int .i64 x.number]
theorem equal_key (a b : Key) (w : World) : (Op.equal 172 (kv a) (kv b)).run Tryz.prog w = .ok (decide (a = b)) w := by
 have h : (a.frm == b.frm && a.number == b.number) = decide (a = b) := by
  cases a; cases b; simp [Bool.beq_eq_decide_eq]
 rw [← h]
 unfold Op.equal Op.maxDepth kv
 rw [run_equalIn_agg (w := w) 9999 172 _ _ (by kernel_rfl) (by kernel_rfl)]
 have hf : (Tryz.prog.fieldsOf 172).toList.map (fun f => (f.name, f.type, f.offset)) = [("From", 3, 0), ("Number", 3, 1)] := by kernel_rfl
 obtain ⟨f, g, hfg⟩ : ∃ f g, (Tryz.prog.fieldsOf 172).toList = [f, g] := by
  cases hl : (Tryz.prog.fieldsOf 172).toList with
  | nil => simp [hl] at hf
  | cons f l =>
   cases l with
   | nil => simp [hl] at hf
   | cons g l =>
    cases l with
    | nil => exact ⟨f, g, rfl⟩
    | cons _ _ => simp [hl] at hf
 rw [hfg] at hf ⊢
 simp only [List.map_cons, List.map_nil, List.cons.injEq, Prod.mk.injEq, and_true] at hf
 obtain ⟨⟨n1, t1, o1⟩, n2, t2, o2⟩ := hf
 have hi : Tryz.prog.underlying 3 = some (.int .i64) := by kernel_rfl
 simp [Op.eqFields, n1, n2, t1, t2, o1, o2, hi, part, run_underlying hi]
 have hq : ∀ (a b : Int) (w : World), (Op.equalIn 9999 3 (.int .i64 a) (.int .i64 b)).run Tryz.prog w = .ok (a == b) w := fun a b w => run_equalIn_int (w := w) 9998 _ _ .i64 _ _ hi
 simp only [hq, Result.andThen_ok]
 cases a.frm == b.frm <;> cases a.number == b.number <;> simp [Result.andThen]
def KM (w : World) (r : Nat) (l : List Key) : Prop := ∃ es clock, w.heap[r]? = some (.map es clock) ∧ (∀ e ∈ es.toList, ∃ x ∈ l, e.key = kv x ∧ e.val = .bool true) ∧ (∀ x ∈ l, ∃ e ∈ es.toList, e.key = kv x)
theorem KM.step {w w' : World} {r : Nat} {l : List Key} (h : KM w r l) (hs : Step w w') : KM w' r l := by
 obtain ⟨es, cl, h1, h2⟩ := h
 exact ⟨es, cl, (hs.block r (Array.getElem?_eq_some_iff.1 h1).1 id).trans h1, h2⟩
theorem kv_inj {a b : Key} (h : kv a = kv b) : a = b := by
 cases a; cases b; simp [kv] at h; simp [h]
theorem find_key (x : Key) (w : World) : ∀ (es : List MapEntry) (l : List Key) (i : Nat), (∀ e ∈ es, ∃ y ∈ l, e.key = kv y ∧ e.val = .bool true) →
  ((∃ e ∈ es, e.key = kv x) → ∃ j, (Instr.findAsking 172 (kv x) es i).run Tryz.prog w = .ok (some (i + j, .bool true)) w ∧ ∃ h : j < es.length, es[j].key = kv x) ∧
  ((¬ ∃ e ∈ es, e.key = kv x) → (Instr.findAsking 172 (kv x) es i).run Tryz.prog w = .ok none w)
 | [], l, i, _ => ⟨fun h => by simp at h, fun _ => by simp [Instr.findAsking]⟩
 | e :: es, l, i, hl => by
  obtain ⟨y, hy, hk, hv⟩ := hl e List.mem_cons_self
  obtain ⟨r1, r2⟩ := find_key x w es l (i + 1) fun e he => hl e (List.mem_cons_of_mem _ he)
  by_cases hxy : x = y
  ·refine ⟨fun _ => ⟨0, by simp [Instr.findAsking, hk, hv, equal_key, hxy], by simp, by simp [hk, hxy]⟩, fun hn => absurd ⟨e, List.mem_cons_self, by rw [hk, hxy]⟩ hn⟩
  ·have hne : ¬ e.key = kv x := fun h => hxy (kv_inj (by rw [← h, hk]))
   have hstep : (Instr.findAsking 172 (kv x) (e :: es) i).run Tryz.prog w = (Instr.findAsking 172 (kv x) es (i + 1)).run Tryz.prog w := by
    simp [Instr.findAsking, hk, equal_key, hxy]
   rw [hstep]
   refine ⟨fun h => ?_, fun h => r2 fun h' => h ?_⟩
   ·obtain ⟨j, h1, h2, h3⟩ := r1 (by
     obtain ⟨e', he', hke⟩ := h
     rcases List.mem_cons.1 he' with rfl | he'
     ·exact absurd hke hne
     ·exact ⟨e', he', hke⟩)
    exact ⟨j + 1, by rw [h1]; simp; omega, by simp; omega, by simpa using h3⟩
   ·obtain ⟨e', he', hke⟩ := h'
    exact ⟨e', List.mem_cons_of_mem _ he', hke⟩
theorem check_int (d : Nat) (n : Int) (em : Bool) (w : World) : (Instr.checkKey em (d + 1) 3 (.int .i64 n)).run Tryz.prog w = .ok () w := by
 have hi : Tryz.prog.underlying 3 = some (.int .i64) := by kernel_rfl
 simp [Instr.checkKey, run_underlying hi]
theorem check_key' (d : Nat) (x : Key) (em : Bool) (w : World) : (Instr.checkKey em (d + 1 + 1) 172 (kv x)).run Tryz.prog w = .ok () w := by
 have hi : Tryz.prog.underlying 3 = some (.int .i64) := by kernel_rfl
 have hu := Tryz.underlying172
 unfold kv
 rw [Instr.checkKey]
 simp [run_underlying hu, part, hi, check_int]
theorem check_key (x : Key) (em : Bool) (w : World) : (Instr.checkKey em 10000 172 (kv x)).run Tryz.prog w = .ok () w := check_key' 9998 x em w
theorem mapUnder : Tryz.prog.underlying 194 = some (.map 172 4) := by kernel_rfl
theorem zeroBool (w : World) : (zeroValue 4).run Tryz.prog w = .ok (.bool false) w := by kernel_rfl
theorem run_lookup_key {w : World} {r : Nat} {l : List Key} (x : Key) (h : KM w r l) : (Instr.lookup 194 (.map (some r)) (kv x) false).run Tryz.prog w = .ok (.bool (decide (x ∈ l))) w := by
 obtain ⟨es, clock, hh, h1, h2⟩ := h
 have hfk : (Instr.findKey 172 (kv x) es.toList).run Tryz.prog w = (Instr.findAsking 172 (kv x) es.toList).run Tryz.prog w := run_findKey_eq w (by rw [Tryz.underlying172]) _ _
 obtain ⟨r1, r2⟩ := find_key x w es.toList l 0 h1
 have hck := fun em => check_key x em w
 have hgo : (getObj r).run Tryz.prog w = .ok (.map es clock) w := by simp [getObj, Sem.run, hh]
 by_cases hx : x ∈ l
 ·obtain ⟨j, hj, _⟩ := r1 (h2 x hx)
  simp [Instr.lookup, run_underlying mapUnder, hgo, hck, hfk, hj, hx]
 ·have hn : ¬ ∃ e ∈ es.toList, e.key = kv x := fun ⟨e, he, hk⟩ => by
   obtain ⟨y, hy, hky, _⟩ := h1 e he
   exact hx (by rw [kv_inj (hk.symm.trans hky)]; exact hy)
  simp [Instr.lookup, run_underlying mapUnder, hgo, hck, hfk, r2 hn, hx, zeroBool]
def putM (w : World) (r : Nat) (o : Obj) : World := { w with heap := w.heap.setIfInBounds r o }
theorem putM_at {w : World} {r : Nat} {o : Obj} (h : r < w.heap.size) : (putM w r o).heap[r]? = some o := by simp [putM, h]
theorem putM_wrote (w : World) (r : Nat) (o : Obj) : Wrote r w (putM w r o) := ⟨rfl, rfl, rfl, by simp [putM], fun k hk => by simp [putM, Array.getElem?_setIfInBounds_ne (Ne.symm hk)]⟩
theorem sameBits_kv (x : Key) (d : Nat) : Instr.sameBits (d + 1) (kv x) (kv x) = true := by
 simp [kv, Instr.sameBits]
theorem run_mapUpdate_key {w : World} {r : Nat} {l : List Key} (x : Key) (h : KM w r l) : ∃ w', (Instr.mapUpdate 194 (.map (some r)) (kv x) (.bool true)).run Tryz.prog w = .ok () w' ∧ KM w' r (l ++ [x]) ∧ Wrote r w w' := by
 obtain ⟨es, clock, hh, h1, h2⟩ := h
 have hfk : (Instr.findKey 172 (kv x) es.toList).run Tryz.prog w = (Instr.findAsking 172 (kv x) es.toList).run Tryz.prog w := run_findKey_eq w (by rw [Tryz.underlying172]) _ _
 obtain ⟨r1, r2⟩ := find_key x w es.toList l 0 h1
 have hck := fun em => check_key x em w
 have hgo : (getObj r).run Tryz.prog w = .ok (.map es clock) w := by simp [getObj, Sem.run, hh]
 have hso : ∀ o, (setObj r o).run Tryz.prog w = .ok () (putM w r o) := fun o => by simp [setObj, Sem.run, hh, putM]
 by_cases hx : ∃ e ∈ es.toList, e.key = kv x
 ·obtain ⟨j, hj, hjl, hjk⟩ := r1 hx
  have hjs : j < es.size := by simpa using hjl
  have hjk' : es[j]?.map (·.key) = some (kv x) := by
   rw [Array.getElem?_eq_getElem hjs, Option.map_some]
   congr 1
  have hst : (Instr.keyThatStays (kv x) (kv x)).run Tryz.prog w = .ok (kv x) w := by
   simp only [Instr.keyThatStays, sameBits_kv x 9999, if_true, Sem.run_pure]
  have hxl : x ∈ l := by
   obtain ⟨e, he, hk⟩ := hx
   obtain ⟨y, hy, hky, _⟩ := h1 e he
   rw [kv_inj (hk.symm.trans hky)]; exact hy
  have hmod : ∀ e ∈ (es.modify j fun e => { e with key := kv x, val := .bool true }).toList, (e.key = kv x ∧ e.val = .bool true) ∨ e ∈ es.toList := by
   intro e he
   rw [Array.toList_modify] at he
   obtain ⟨i, hi, rfl⟩ := List.getElem_of_mem he
   rw [List.getElem_modify]
   split
   ·exact .inl ⟨rfl, rfl⟩
   ·exact .inr (List.getElem_mem _)
  refine ⟨putM w r (.map (es.modify j fun e => { e with key := kv x, val := .bool true }) clock), ?_, ⟨_, _, putM_at (Array.getElem?_eq_some_iff.1 hh).1, ?_, ?_⟩, putM_wrote _ _ _⟩
  ·simp [Instr.mapUpdate, run_underlying mapUnder, hgo, hck, hfk, hj, hjk', hst, hso]
  ·intro e he
   rcases hmod e he with ⟨h3, h4⟩ | h3
   ·exact ⟨x, by simp, h3, h4⟩
   ·obtain ⟨y, hy, h5, h6⟩ := h1 e h3
    exact ⟨y, by simp [hy], h5, h6⟩
  ·intro y hy
   have hyl : y ∈ l := by
    rcases List.mem_append.1 hy with hy | hy
    ·exact hy
    ·simp at hy; subst hy; exact hxl
   obtain ⟨e, he, hk⟩ := h2 y hyl
   obtain ⟨i, hi, rfl⟩ := List.getElem_of_mem he
   refine ⟨(es.modify j fun e => { e with key := kv x, val := .bool true }).toList[i]'(by simpa using hi), List.getElem_mem _, ?_⟩
   simp only [Array.toList_modify, List.getElem_modify]
   split
   ·rename_i hij
    subst hij
    show kv x = kv y
    rw [← hk]; exact hjk.symm
   ·exact hk
 ·refine ⟨putM w r (.map (es.push { key := kv x, val := .bool true, born := clock }) (clock + 1)), ?_, ⟨_, _, putM_at (Array.getElem?_eq_some_iff.1 hh).1, ?_, ?_⟩, putM_wrote _ _ _⟩
  ·simp [Instr.mapUpdate, run_underlying mapUnder, hgo, hck, hfk, r2 hx, hso]
  ·intro e he
   simp only [Array.toList_push, List.mem_append, List.mem_singleton] at he
   rcases he with he | rfl
   ·obtain ⟨y, hy, h5, h6⟩ := h1 e he
    exact ⟨y, by simp [hy], h5, h6⟩
   ·exact ⟨x, by simp, rfl, rfl⟩
  ·intro y hy
   rcases List.mem_append.1 hy with hy | hy
   ·obtain ⟨e, he, hk⟩ := h2 y hy
    exact ⟨e, by simp [he], hk⟩
   ·simp at hy; subst hy
    exact ⟨{ key := kv y, val := .bool true, born := clock }, by simp, rfl⟩
def keyB (h : House) (ag : Int) (x : Key) : Bool := withinB x.frm 0 (agN h - 1) && decide (x.frm ≠ ag) && withinB x.number 1 1000
theorem book2_any (S : Nat → Prop) (h : House) (x : Key) (seen : List Key) (m r g gb : Nat) (ag : Int) (c0 c1 c2 c3 c4 : Value) (w : World) (hm : w.cell? ⟨m, 0, none⟩ = some (.map (some r))) (hk : KM w r seen) (hb : Bx w g [c0, c1, c2, c3, c4] 41) (hr : Rep.rep S w [c0, c1, c2, c3, c4] h) (hgb : w.cell? ⟨gb, 0, none⟩ = some (.int .i64 ag))
  (hSr : S r) (hf : 0 < h.frm.length) (hz : agN h ≤ 6) :
  Calls Tryz.prog 137 #[kv x, .pointer (some ⟨m, 0, none⟩), .pointer (some ⟨g, 0, none⟩), .pointer (some ⟨gb, 0, none⟩)] w fun e w' => e = .returned (.bool (!decide (x ∈ seen) && keyB h ag x)) ∧ KM w' r (seen ++ [x]) ∧ StepX (fun j => j = r) w w' := by
 unfold kv
 have hka : KM (w.alloc (.cells #[.int .i64 x.frm, .int .i64 x.number] 172)) r seen := by
  obtain ⟨es, cl, h1, h2⟩ := hk
  exact ⟨es, cl, ((Step.alloc w _).block r (Array.getElem?_eq_some_iff.1 h1).1 id).trans h1, h2⟩
 have hlk := run_lookup_key x hka
 obtain ⟨w2, hmu, hk2, hw2⟩ := run_mapUpdate_key x hka
 unfold kv at hlk hmu
 have hrl : r < w.heap.size := by
  obtain ⟨es, cl, h1, _⟩ := hk; exact (Array.getElem?_eq_some_iff.1 h1).1
 have hgr : g ≠ r := fun e => by
  obtain ⟨es, cl, h1, _⟩ := hk; subst e; unfold Bx at hb; rw [hb] at h1; cases h1
 have hmr : m ≠ r := fun e => by
  obtain ⟨es, cl, h1, _⟩ := hk; subst e; simp [World.cell?, h1] at hm
 have hbr : gb ≠ r := fun e => by
  obtain ⟨es, cl, h1, _⟩ := hk; subst e; simp [World.cell?, h1] at hgb
 have a1 := (Keeps.alloc (S := fun _ => False) w (.cells #[.int .i64 x.frm, .int .i64 x.number] 172)).cell id hm
 have HB := zH hb
 have HR := zH hr
 have HK := zH (And.intro hk2 hw2)
 have HD := zH (And.intro hgr (And.intro hmr hbr))
 have HA := zH hgb
 clear hb hr hk hka hk2 hw2 hgr hmr hbr hm hgb
 have HST : Hid (StepX (fun j => j = r) w w2) := zH ((StepX.of (Step.alloc w _)).trans ⟨HK.out.2.os, HK.out.2.tape, HK.out.2.output, Nat.le_of_eq HK.out.2.size.symm, fun k _ hk => HK.out.2.block k hk⟩)
 cases hs : decide (x ∈ seen) with
 | true =>
  rw [hs] at hlk
  clear hs
  go_enter Tryz.func137, Tryz.ntmps137
  go_wp2_with fail
  refine wp_region_seq (kdOf [5, 7, 19] []) [0, 1, 3, 7, 3, 19, 51, 127, 255, 511, 1023, 2047, 1023, 5119, 16383, 32767, 65535, 131071, 262143, 524287, 1048575, 2097151] [0, 1, 2, 3, 4, 5, 6, 7, 8, 9, 10, 11, 12, 13, 14, 15, 16, 17, 18, 19, 20, 21] [] (by kernel_rfl) (by kernel_rfl) (fun i T z hi hk => by simp [kdOf] at hk <;> (try (split at hk <;> cases hk))) ?_
  intro W0 hW0
  repeat ((first | (refine run_off rfl rfl (by rfl) ?_) | (refine run_chain_off rfl rfl (by rfl) (K0_mono _) ?_) | ((refine run_want rfl rfl (by rfl) ⟨?_, fun W hW => ?_, ?_⟩; rotate_left; (· (obtain ⟨hc'', hf''⟩ := hW.cells; go_simp; (try with_reducible rfl)))))); (try simp only [Act.put, zA, zB, zC]))
  refine run_end (L := []) rfl (fun W6 hW6 => ?_)
  have hS := hW0.trans hW6
  have HS := zH hS
  clear hW0 hW6 hS
  go_wp2
  go_ret
  refine ⟨rfl, ?_, HST.out.trans (.of HS.out)⟩
  exact HK.out.1.step HS.out
 | false =>
  rw [hs] at hlk
  clear hs
  have hb2 := HB.out.keep (S := fun j => j = r) HST.out.keeps HD.out.1
  have hr2 := Rep.keep (HST.out.keeps.mono (fun j _ hj => hj ▸ hSr)) HR.out
  have hg2 := HST.out.keeps.cell (S := fun j => j = r) (a := ⟨gb, 0, none⟩) HD.out.2.2 HA.out
  have hx2 : w2.cell? ⟨w.heap.size, 0, none⟩ = some (.int .i64 x.frm) ∧ w2.cell? ⟨w.heap.size, 1, none⟩ = some (.int .i64 x.number) := by
   have hbx := (Bx.new w [.int .i64 x.frm, .int .i64 x.number] 172).keep HK.out.2.keeps (by omega)
   exact ⟨hbx.cell 0, hbx.cell 1⟩
  have HB2 := zH (And.intro hb2 hr2)
  have HX2 := zH (And.intro hx2 hg2)
  clear hb2 hr2 hx2 hg2
  go_enter Tryz.func137, Tryz.ntmps137
  go_wp2_with fail
  refine wp_region_seq (kdOf [5, 7, 19] []) [0, 1, 3, 7, 3, 19, 51, 127, 255, 511, 1023, 2047, 1023, 5119, 16383, 32767, 65535, 131071, 262143, 524287, 1048575, 2097151] [0, 1, 2, 3, 4, 5, 6, 7, 8, 9, 10, 11, 12, 13, 14, 15, 16, 17, 18, 19, 20, 21] [] (by kernel_rfl) (by kernel_rfl) (fun i T z hi hk => by simp [kdOf] at hk <;> (try (split at hk <;> cases hk))) ?_
  intro W0 hW0
  obtain ⟨e0, e1, e2, e3, e4⟩ := cells5 (HB2.out.1.step hW0)
  have y0 := hW0.kc HX2.out.1.1
  have y1 := hW0.kc HX2.out.1.2
  have y2 := hW0.kc HX2.out.2
  repeat ((first | (refine run_off rfl rfl (by rfl) ?_) | (refine run_chain_off rfl rfl (by rfl) (K0_mono _) ?_) | ((refine run_want rfl rfl (by rfl) ⟨?_, fun W hW => ?_, ?_⟩; rotate_left; (· (have d0 := hW.kc e0; have d1 := hW.kc e1; have d2 := hW.kc e2; have d3 := hW.kc e3; have d4 := hW.kc e4; have d5 := hW.kc y0; have d6 := hW.kc y1; have d7 := hW.kc y2; go_simp; (try with_reducible rfl)))))); (try simp only [Act.put, zA, zB, zC]))
  refine run_chain rfl rfl (by rfl) (fun W1 hW1 K' hK => ?_)
  go_simp
  have hcall := agencies_any S h _ W1 ⟨_, rfl, Rep.keep (.of_step (hW0.trans hW1)) HB2.out.2⟩ hf
  rw [agN_eq] at hcall
  refine hcall.mono ?_
  rintro e w1 ⟨rfl, hS1⟩
  refine hK _ _ hS1 ?_
  (try simp only [Act.put, zA, zB, zC])
  have hwr : IntKind.i64.wrap ((agN h : Int) - 1) = (agN h : Int) - 1 := by rw [IntKind.wrap_i64]; omega
  repeat ((first | (refine run_off rfl rfl (by rfl) ?_) | (refine run_chain_off rfl rfl (by rfl) (K0_mono _) ?_) | ((refine run_want rfl rfl (by rfl) ⟨?_, fun W hW => ?_, ?_⟩; rotate_left; (· (obtain ⟨hc'', hf''⟩ := hW.cells; go_simp; (try with_reducible rfl)))))); (try simp only [Act.put, zA, zB, zC]))
  have hS01 := (hW0.trans hW1).trans hS1
  have HS01 := zH hS01
  clear hW0 hW1 hS1 hS01 hcall e0 e1 e2 e3 e4 y0 y1 y2
  refine run_chain rfl rfl (by rfl) (fun W2 hW2 K' hK => ?_)
  go_simp
  refine (ticket.within_any _ _ _ _).mono ?_
  rintro e w' ⟨rfl, rfl⟩
  have hS02 := HS01.out.trans hW2
  have HS02 := zH hS02
  clear hW2 HS01
  cases q1 : withinB x.frm 0 (agN h - 1) with
  | false =>
   refine hK _ _ (Step.refl _) ?_
   (try simp only [Act.put, zA, zB, zC])
   repeat ((first | (refine run_off rfl rfl (by rfl) ?_) | (refine run_chain_off rfl rfl (by rfl) (K0_mono _) ?_) | ((refine run_want rfl rfl (by rfl) ⟨?_, fun W hW => ?_, ?_⟩; rotate_left; (· (obtain ⟨hc'', hf''⟩ := hW.cells; go_simp; (try with_reducible rfl)))))); (try simp only [Act.put, zA, zB, zC]))
   refine run_end (L := []) rfl (fun W6 hW6 => ?_)
   have HS := zH (HS02.out.trans hW6)
   clear hW6 hS02
   have hres : keyB h ag x = false := by simp [keyB, q1]
   go_wp2
   go_ret
   exact ⟨by simp [hres], HK.out.1.step HS.out, HST.out.trans (.of HS.out)⟩
  | true =>
   have y0 := hS02.kc HX2.out.1.1
   have y1 := hS02.kc HX2.out.1.2
   have y2 := hS02.kc HX2.out.2
   clear hS02
   by_cases q2 : x.frm = ag
   ·have hd : (x.frm != ag) = false := by simp [q2]
    have Q2 := zH q2
    clear q2
    refine hK _ _ (Step.refl _) ?_
    (try simp only [Act.put, zA, zB, zC])
    repeat ((first | (refine run_off rfl rfl (by rfl) ?_) | (refine run_chain_off rfl rfl (by rfl) (K0_mono _) ?_) | ((refine run_want rfl rfl (by rfl) ⟨?_, fun W hW => ?_, ?_⟩; rotate_left; (· (have d0 := hW.kc y0; have d1 := hW.kc y2; go_simp; (try with_reducible rfl)))))); (try simp only [Act.put, zA, zB, zC]))
    refine run_end (L := []) rfl (fun W6 hW6 => ?_)
    have HS := zH (HS02.out.trans hW6)
    clear hW6
    have hres : keyB h ag x = false := by simp [keyB, q1, Q2.out]
    go_wp2
    go_ret
    exact ⟨by simp [hres], HK.out.1.step HS.out, HST.out.trans (.of HS.out)⟩
   ·have hd : (x.frm != ag) = true := by simp [q2]
    have Q2 := zH q2
    clear q2
    refine hK _ _ (Step.refl _) ?_
    (try simp only [Act.put, zA, zB, zC])
    repeat ((first | (refine run_off rfl rfl (by rfl) ?_) | (refine run_chain_off rfl rfl (by rfl) (K0_mono _) ?_) | ((refine run_want rfl rfl (by rfl) ⟨?_, fun W hW => ?_, ?_⟩; rotate_left; (· (have d0 := hW.kc y0; have d1 := hW.kc y2; have d2 := hW.kc y1; go_simp; (try with_reducible rfl)))))); (try simp only [Act.put, zA, zB, zC]))
    refine run_chain rfl rfl (by rfl) (fun W3 hW3 K' hK => ?_)
    go_simp
    refine (ticket.within_any _ _ _ _).mono ?_
    rintro e w' ⟨rfl, rfl⟩
    refine hK _ _ (Step.refl _) ?_
    (try simp only [Act.put, zA, zB, zC])
    repeat ((first | (refine run_off rfl rfl (by rfl) ?_) | (refine run_chain_off rfl rfl (by rfl) (K0_mono _) ?_) | ((refine run_want rfl rfl (by rfl) ⟨?_, fun W hW => ?_, ?_⟩; rotate_left; (· (obtain ⟨hc'', hf''⟩ := hW.cells; go_simp; (try with_reducible rfl)))))); (try simp only [Act.put, zA, zB, zC]))
    refine run_end (L := []) rfl (fun W6 hW6 => ?_)
    have HS := zH ((HS02.out.trans hW3).trans hW6)
    clear hW6 hW3
    have hres : keyB h ag x = withinB x.number 1 1000 := by simp [keyB, q1, Q2.out]
    go_wp2
    go_ret
    exact ⟨by simp [hres], HK.out.1.step HS.out, HST.out.trans (.of HS.out)⟩
def bookA (h : House) (b : Book) : Bool := withinB b.agency 0 (agN h - 1) && decide (b.off.length = h.dates.length) && decide (b.seats.length = h.dates.length) && withinB b.sent 0 1000 && decide (b.took.length ≤ 1000)
def toKey (x : IKey) : Key := ⟨x.frm, x.number⟩
def ikeyB (h : House) (b : Book) (x : IKey) : Bool := !decide (toKey x ∈ b.took.take x.idx) && keyB h b.agency (toKey x)
def tookB (h : House) (b : Book) : Bool := (idxKeys b.took).all (ikeyB h b)
def bookB (h : House) (b : Book) : Bool := bookA h b && b.seats.all (rowB (sizeL h.sectors)) && decide (b.cash = cashL h b.seats) && tookB h b
theorem within_st (n lo hi : Int) (w : World) : Calls Tryz.prog 53 #[.int .i64 n, .int .i64 lo, .int .i64 hi] w fun e w' => e = .returned (.bool (withinB n lo hi)) ∧ Step w w' :=
 (ticket.within_any n lo hi w).mono fun e w' ⟨h1, h2⟩ => ⟨h1, h2 ▸ Step.refl _⟩
theorem tooks_any (S : Nat → Prop) (h : House) (b : Book) (v c0 c1 c2 c3 c4 : Value) (g gb m r : Nat) (W : World) (hb : Bx W g [c0, c1, c2, c3, c4] 41) (hr : Rep.rep S W [c0, c1, c2, c3, c4] h) (hv : SL S W v b.took)
  (hgb : W.cell? ⟨gb, 0, none⟩ = some (.int .i64 b.agency)) (hm : W.cell? ⟨m, 0, none⟩ = some (.map (some r))) (hk : KM W r []) (hSr : S r) (hf : 0 < h.frm.length) (hz : agN h ≤ 6) :
  Calls Tryz.prog 107 #[v, .func (.func 137) #[] #[.pointer (some ⟨m, 0, none⟩), .pointer (some ⟨g, 0, none⟩), .pointer (some ⟨gb, 0, none⟩)]] W fun e W' => e = .returned (.bool (tookB h b)) ∧ StepX (fun j => j = r) W W' := by
 have hrl : r < W.heap.size := by
  obtain ⟨es, cl, h1, _⟩ := hk; exact (Array.getElem?_eq_some_iff.1 h1).1
 have hgr : g ≠ r := fun e => by
  obtain ⟨es, cl, h1, _⟩ := hk; subst e; unfold Bx at hb; rw [hb] at h1; cases h1
 have hmr : m ≠ r := fun e => by
  obtain ⟨es, cl, h1, _⟩ := hk; subst e; simp [World.cell?, h1] at hm
 have hbr : gb ≠ r := fun e => by
  obtain ⟨es, cl, h1, _⟩ := hk; subst e; simp [World.cell?, h1] at hgb
 have hX : ∀ j, (fun j => j = r) j → S j := fun j hj => hj ▸ hSr
 refine (all_ikey S (idxKeys b.took) v W 137 #[.pointer (some ⟨m, 0, none⟩), .pointer (some ⟨g, 0, none⟩), .pointer (some ⟨gb, 0, none⟩)] (Go.Proofs.enters_of Tryz.func137 (by kernel_rfl) rfl) (ikeyB h b)
  (fun k W' => StepX (fun j => j = r) W W' ∧ KM W' r (b.took.take k)) (fun j => j = r) (fun j hj => hj ▸ hrl) (fun _ W' hW' => (hv.keep (hW'.1.keeps.mono fun j _ hj => hX j hj)).idx)
  (fun _ _ _ h1 h2 => ⟨h1.1.trans (.of h2), h1.2.step h2⟩) ⟨StepX.refl _ _, hk⟩ (fun i hi W1 u hW _ hu => ?_)).mono ?_
 ·subst hu
  have hi' : i < b.took.length := by rw [idxKeys_len] at hi; exact hi
  have hx : (idxKeys b.took)[i] = ⟨i, b.took[i].frm, b.took[i].number⟩ := by simp [idxKeys]
  have hp : ikeyB h b (idxKeys b.took)[i] = (!decide (b.took[i] ∈ b.took.take i) && keyB h b.agency b.took[i]) := by rw [hx]; rfl
  rw [hp, hx]
  refine (book2_any S h b.took[i] (b.took.take i) m r g gb b.agency _ _ _ _ _ W1 (hW.1.keeps.cell hmr hm) hW.2 (hb.keep hW.1.keeps hgr) (Rep.keep (hW.1.keeps.mono fun j _ hj => hX j hj) hr) (hW.1.keeps.cell hbr hgb) hSr hf hz).mono ?_
  rintro e w' ⟨rfl, hK, hS⟩
  refine ⟨rfl, ⟨hW.1.trans hS, ?_⟩, hS⟩
  rw [List.take_succ_eq_append_getElem hi']; exact hK
 ·rintro e w' ⟨rfl, k, _, _, hS, _⟩
  exact ⟨rfl, hS⟩
theorem book_any (S : Nat → Prop) (h : House) (b : Book) (v u : Value) (w : World) (hv : AV S w v h) (hu : AV S w u b) (hok : valid h = true) :
  Calls Tryz.prog 104 #[v, u] w fun e w' => e = .returned (.bool (bookB h b)) ∧ Step w w' := by
 obtain ⟨cs, rfl, hr⟩ := hv
 have hr0 := hr
 obtain ⟨c0, c1, c2, c3, c4, rfl, h0, h1, h2, h3, h4⟩ := hr
 obtain ⟨p0, k0, rfl⟩ := h0.form
 obtain ⟨p1, k1, rfl⟩ := h1.form
 obtain ⟨p2, k2, rfl⟩ := h2.form
 obtain ⟨p3, k3, rfl⟩ := h3.form
 obtain ⟨p4, k4, rfl⟩ := h4.form
 obtain ⟨cs, rfl, hq⟩ := hu
 have hq0 := hq
 obtain ⟨d1, d2, d4, rfl, s1, s2, s4⟩ := hq
 obtain ⟨q1, m1, rfl⟩ := s1.form
 obtain ⟨q2, m2, rfl⟩ := s2.form
 obtain ⟨q4, m4, rfl⟩ := s4.form
 have hmf : ∀ (fn : Fn) (first cap : Array Value) (w : World), (Instr.makeFunc fn first cap).run Tryz.prog w = .ok (.func fn first cap) w := fun _ _ _ _ => rfl
 have hbd := bounds_valid hok
 have hwr : IntKind.i64.wrap ((agN h : Int) - 1) = (agN h : Int) - 1 := by rw [IntKind.wrap_i64]; omega
 have HBD := zH hbd
 obtain ⟨W0, hW0⟩ : ∃ W0, W0 = (w.alloc (.cells #[.slice p0 h.sectors.length k0, .slice p1 h.prices.length k1, .slice p2 h.dates.length k2, .slice p3 h.frm.length k3, .slice p4 h.holds.length k4] 41)).alloc (.cells #[.int .i64 b.agency, .slice q1 b.seats.length m1, .slice q2 b.off.length m2, .int .i64 b.sent, .slice q4 b.took.length m4, .int .i64 b.cash] 77) := ⟨_, rfl⟩
 have hb1 : Bx W0 w.heap.size [.slice p0 h.sectors.length k0, .slice p1 h.prices.length k1, .slice p2 h.dates.length k2, .slice p3 h.frm.length k3, .slice p4 h.holds.length k4] 41 := by subst hW0; exact (Bx.new _ _ _).alloc _
 have hb2 : Bx W0 (w.heap.size + 1) [.int .i64 b.agency, .slice q1 b.seats.length m1, .slice q2 b.off.length m2, .int .i64 b.sent, .slice q4 b.took.length m4, .int .i64 b.cash] 77 := by subst hW0; exact Bx.new' _ _ _ _ (by simp)
 have hS : Step w W0 := by subst hW0; exact (by with_reducible repeat (first | assumption | exact Step.refl _ | apply Step.s_alloc | apply Step.s_drew | apply Step.s_drewN | refine Step.trans ?_ (by assumption)))
 have HB1 := zH hb1
 have HB2 := zH hb2
 have HR := zH (Rep.keep (.of_step hS) hr0)
 have HQ := zH (Rep.keep (.of_step hS) hq0)
 have HS := zH hS
 have HOK := zH hok
 have HT := zH (Step.refl W0)
 have HW := zH hW0
 clear hb1 hb2 hS hok h0 h1 h2 h3 h4 s1 s2 s4 hr0 hq0 hbd hW0
 go_enter Tryz.func104, Tryz.ntmps104
 go_upto_region 1 with fail
 rw [← HW.out]
 clear HW
 refine wp_region_seq (kdOf [3, 5, 28] []) (0 :: 1 :: 0 :: 4 :: 12 :: 31 :: 63 :: 127 :: 255 :: 511 :: 1023 :: 255 :: 2303 :: 6399 :: 16383 :: 32767 :: 65535 :: 131071 :: 262143 :: 524287 :: 131071 :: 1179647 :: 3276799 :: 8388607 :: 16777215 :: 33554431 :: 67108863 :: 134217727 :: 268435455 :: 536870911 :: 1073741823 :: 2147483647 :: 4294967295 :: 8589934591 :: 17179869183 :: 34359738367 :: 68719476735 :: []) (0 :: 1 :: 2 :: 3 :: 4 :: 5 :: 6 :: 7 :: 8 :: 9 :: 10 :: 11 :: 12 :: 13 :: 14 :: 15 :: 16 :: 17 :: 18 :: 19 :: 20 :: 21 :: 22 :: 23 :: 24 :: 25 :: 26 :: 27 :: 28 :: 29 :: 30 :: 31 :: 32 :: 33 :: 34 :: 35 :: 36 :: []) [] (by kernel_rfl) (by kernel_rfl) (fun i T z hi hk => by simp [kdOf] at hk <;> (try (split at hk <;> cases hk))) ?_
 intro Wx hWx
 have HT := zH hWx
 clear hWx
 (try clear e0 e1 e2 e3 e4 f0 f1 f2 f3 f4 f5 y1 y2)
 obtain ⟨e0, e1, e2, e3, e4⟩ := cells5 (HB1.out.step HT.out)
 obtain ⟨f0, f1, f2, f3, f4, f5⟩ := cells6 (HB2.out.step HT.out)
 have y1 := (HB1.out.step HT.out).lt
 have y2 := (HB2.out.step HT.out).lt
 repeat ((first | (refine run_off rfl rfl (by rfl) ?_) | (refine run_chain_off rfl rfl (by rfl) (K0_mono _) ?_) | ((refine run_want rfl rfl (by rfl) ⟨?_, fun W hW => ?_, ?_⟩; rotate_left; (· (obtain ⟨hc'', hf''⟩ := hW.cells; go_simp; (try with_reducible rfl)))))); (try simp only [Act.put, zA, zB, zC]))
 have hcall := zH (fun W (hW : Step W0 W) => agencies_any S h (.agg #[.slice p0 h.sectors.length k0, .slice p1 h.prices.length k1, .slice p2 h.dates.length k2, .slice p3 h.frm.length k3, .slice p4 h.holds.length k4]) W ⟨_, rfl, Rep.keep (.of_step hW) HR.out⟩ (by have := HBD.out; omega))
 refine run_chain rfl rfl (by rfl) (fun Wi hWi K' hK => ?_)
 have HTi := zH (HT.out.trans hWi)
 have HZW := zH HTi.out.size
 clear hWi HT
 go_simp
 refine (hcall.out Wi HTi.out).mono ?_
 rintro e wn ⟨rfl, hSn⟩
 have HT := zH (HTi.out.trans (StepX.of hSn))
 clear HTi
 rw [agN_eq]
 refine hK _ _ (StepX.of hSn) ?_
 clear hSn
 (try simp only [Act.put, zA, zB, zC])
 clear hcall
 (try clear e0 e1 e2 e3 e4 f0 f1 f2 f3 f4 f5 y1 y2)
 obtain ⟨e0, e1, e2, e3, e4⟩ := cells5 (HB1.out.step HT.out)
 obtain ⟨f0, f1, f2, f3, f4, f5⟩ := cells6 (HB2.out.step HT.out)
 have y1 := (HB1.out.step HT.out).lt
 have y2 := (HB2.out.step HT.out).lt
 repeat ((first | (refine run_off rfl rfl (by rfl) ?_) | (refine run_chain_off rfl rfl (by rfl) (K0_mono _) ?_) | ((refine run_want rfl rfl (by rfl) ⟨?_, fun W hW => ?_, ?_⟩; rotate_left; (· (obtain ⟨hc'', hf''⟩ := hW.cells; go_simp; (try with_reducible rfl)))))); (try simp only [Act.put, zA, zB, zC]))
 refine run_chain rfl rfl (by rfl) (fun Wi hWi K' hK => ?_)
 have HTi := zH (HT.out.trans hWi)
 have HZW := zH HTi.out.size
 clear hWi HT
 go_simp
 refine (within_st _ _ _ _).mono ?_
 rintro e wn ⟨rfl, hSn⟩
 have HT := zH (HTi.out.trans (StepX.of hSn))
 clear HTi
 cases a1 : withinB b.agency 0 (agN h - 1) with
 | false =>
  have a1 := zH a1
  have HF := zH (show bookB h b = false by simp [bookB, bookA, a1.out])
  refine hK _ _ (StepX.of hSn) ?_
  clear hSn
  (try simp only [Act.put, zA, zB, zC])
  repeat ((first | (refine run_off rfl rfl (by rfl) ?_) | (refine run_chain_off rfl rfl (by rfl) (K0_mono _) ?_) | ((refine run_want rfl rfl (by rfl) ⟨?_, fun W hW => ?_, ?_⟩; rotate_left; (· (obtain ⟨hc'', hf''⟩ := hW.cells; go_simp; (try with_reducible rfl)))))); (try simp only [Act.put, zA, zB, zC]))
  refine run_end (L := []) rfl (fun W6 hW6 => ?_)
  have HT6 := zH (HT.out.trans hW6)
  clear hW6 HT
  have HT := HT6
  clear HT6
  go_wp2
  go_ret
  exact ⟨by rw [HF.out]; rfl, HS.out.trans HT.out⟩
 | true =>
 have A1 := zH a1
 clear a1
 refine hK _ _ (StepX.of hSn) ?_
 clear hSn
 (try simp only [Act.put, zA, zB, zC])
 (try clear e0 e1 e2 e3 e4 f0 f1 f2 f3 f4 f5 y1 y2)
 obtain ⟨e0, e1, e2, e3, e4⟩ := cells5 (HB1.out.step HT.out)
 obtain ⟨f0, f1, f2, f3, f4, f5⟩ := cells6 (HB2.out.step HT.out)
 have y1 := (HB1.out.step HT.out).lt
 have y2 := (HB2.out.step HT.out).lt
 by_cases a2 : b.off.length = h.dates.length
 rotate_left
 ·have hd : ((b.off.length : Int) != (h.dates.length : Int)) = true := by simp; omega
  have a2 := zH a2
  have HF := zH (show bookB h b = false by simp [bookB, bookA, a2.out])
  repeat ((first | (refine run_off rfl rfl (by rfl) ?_) | (refine run_chain_off rfl rfl (by rfl) (K0_mono _) ?_) | ((refine run_want rfl rfl (by rfl) ⟨?_, fun W hW => ?_, ?_⟩; rotate_left; (· (obtain ⟨hc'', hf''⟩ := hW.cells; go_simp; (try with_reducible rfl)))))); (try simp only [Act.put, zA, zB, zC]))
  refine run_end (L := []) rfl (fun W6 hW6 => ?_)
  have HT6 := zH (HT.out.trans hW6)
  clear hW6 HT
  have HT := HT6
  clear HT6
  go_wp2
  go_ret
  exact ⟨by rw [HF.out]; rfl, HS.out.trans HT.out⟩
 have hd2 : ((b.off.length : Int) != (h.dates.length : Int)) = false := by simp; omega
 have A2 := zH a2
 clear a2
 by_cases a3 : b.seats.length = h.dates.length
 rotate_left
 ·have hd : ((b.seats.length : Int) != (h.dates.length : Int)) = true := by simp; omega
  have a3 := zH a3
  have HF := zH (show bookB h b = false by simp [bookB, bookA, a3.out])
  repeat ((first | (refine run_off rfl rfl (by rfl) ?_) | (refine run_chain_off rfl rfl (by rfl) (K0_mono _) ?_) | ((refine run_want rfl rfl (by rfl) ⟨?_, fun W hW => ?_, ?_⟩; rotate_left; (· (obtain ⟨hc'', hf''⟩ := hW.cells; go_simp; (try with_reducible rfl)))))); (try simp only [Act.put, zA, zB, zC]))
  refine run_end (L := []) rfl (fun W6 hW6 => ?_)
  have HT6 := zH (HT.out.trans hW6)
  clear hW6 HT
  have HT := HT6
  clear HT6
  go_wp2
  go_ret
  exact ⟨by rw [HF.out]; rfl, HS.out.trans HT.out⟩
 have hd3 : ((b.seats.length : Int) != (h.dates.length : Int)) = false := by simp; omega
 have A3 := zH a3
 clear a3
 repeat ((first | (refine run_off rfl rfl (by rfl) ?_) | (refine run_chain_off rfl rfl (by rfl) (K0_mono _) ?_) | ((refine run_want rfl rfl (by rfl) ⟨?_, fun W hW => ?_, ?_⟩; rotate_left; (· (obtain ⟨hc'', hf''⟩ := hW.cells; go_simp; (try with_reducible rfl)))))); (try simp only [Act.put, zA, zB, zC]))
 refine run_chain rfl rfl (by rfl) (fun Wi hWi K' hK => ?_)
 have HTi := zH (HT.out.trans hWi)
 have HZW := zH HTi.out.size
 clear hWi HT
 go_simp
 refine (within_st _ _ _ _).mono ?_
 rintro e wn ⟨rfl, hSn⟩
 have HT := zH (HTi.out.trans (StepX.of hSn))
 clear HTi
 clear hd2 hd3
 clear e0 e1 e2 e3 e4 f0 f1 f2 f3 f4 f5 y1 y2
 cases a4 : withinB b.sent 0 1000 with
 | false =>
  have a4 := zH a4
  have HF := zH (show bookB h b = false by simp [bookB, bookA, a4.out])
  refine hK _ _ (StepX.of hSn) ?_
  clear hSn
  (try simp only [Act.put, zA, zB, zC])
  repeat ((first | (refine run_off rfl rfl (by rfl) ?_) | (refine run_chain_off rfl rfl (by rfl) (K0_mono _) ?_) | ((refine run_want rfl rfl (by rfl) ⟨?_, fun W hW => ?_, ?_⟩; rotate_left; (· (obtain ⟨hc'', hf''⟩ := hW.cells; go_simp; (try with_reducible rfl)))))); (try simp only [Act.put, zA, zB, zC]))
  refine run_end (L := []) rfl (fun W6 hW6 => ?_)
  have HT6 := zH (HT.out.trans hW6)
  clear hW6 HT
  have HT := HT6
  clear HT6
  go_wp2
  go_ret
  exact ⟨by rw [HF.out]; rfl, HS.out.trans HT.out⟩
 | true =>
 have A4 := zH a4
 clear a4
 refine hK _ _ (StepX.of hSn) ?_
 clear hSn
 (try simp only [Act.put, zA, zB, zC])
 (try clear e0 e1 e2 e3 e4 f0 f1 f2 f3 f4 f5 y1 y2)
 obtain ⟨e0, e1, e2, e3, e4⟩ := cells5 (HB1.out.step HT.out)
 obtain ⟨f0, f1, f2, f3, f4, f5⟩ := cells6 (HB2.out.step HT.out)
 have y1 := (HB1.out.step HT.out).lt
 have y2 := (HB2.out.step HT.out).lt
 by_cases a5 : b.took.length ≤ 1000
 rotate_left
 ·have hd : decide ((1000 : Int) < (b.took.length : Int)) = true := by simp; omega
  have a5 := zH a5
  have HF := zH (show bookB h b = false by simp [bookB, bookA, a5.out])
  repeat ((first | (refine run_off rfl rfl (by rfl) ?_) | (refine run_chain_off rfl rfl (by rfl) (K0_mono _) ?_) | ((refine run_want rfl rfl (by rfl) ⟨?_, fun W hW => ?_, ?_⟩; rotate_left; (· (obtain ⟨hc'', hf''⟩ := hW.cells; go_simp; (try with_reducible rfl)))))); (try simp only [Act.put, zA, zB, zC]))
  refine run_end (L := []) rfl (fun W6 hW6 => ?_)
  have HT6 := zH (HT.out.trans hW6)
  clear hW6 HT
  have HT := HT6
  clear HT6
  go_wp2
  go_ret
  exact ⟨by rw [HF.out]; rfl, HS.out.trans HT.out⟩
 have hd5 : decide ((1000 : Int) < (b.took.length : Int)) = false := by simp; omega
 have hA : bookA h b = true := by simp [bookA, A1.out, A2.out, A3.out, A4.out, a5]
 have HA := zH hA
 clear a5 hA
 repeat ((first | (refine run_off rfl rfl (by rfl) ?_) | (refine run_chain_off rfl rfl (by rfl) (K0_mono _) ?_) | ((refine run_want rfl rfl (by rfl) ⟨?_, fun W hW => ?_, ?_⟩; rotate_left; (· (obtain ⟨hc'', hf''⟩ := hW.cells; go_simp; (try with_reducible rfl)))))); (try simp only [Act.put, zA, zB, zC]))
 refine run_end (L := []) rfl (fun W6 hW6 => ?_)
 have HT6 := zH (HT.out.trans hW6)
 clear hW6 HT
 have HT := HT6
 clear HT6
 clear hd5
 clear e0 e1 e2 e3 e4 f0 f1 f2 f3 f4 f5 y1 y2
 (try clear e0 e1 e2 e3 e4 f0 f1 f2 f3 f4 f5 y1 y2)
 obtain ⟨e0, e1, e2, e3, e4⟩ := cells5 (HB1.out.step HT.out)
 obtain ⟨f0, f1, f2, f3, f4, f5⟩ := cells6 (HB2.out.step HT.out)
 have y1 := (HB1.out.step HT.out).lt
 have y2 := (HB2.out.step HT.out).lt
 have hr3 : SL S W6 (.slice q1 b.seats.length m1) b.seats := by
  obtain ⟨_, _, _, he, x1, x2, x4⟩ := Rep.keep (.of_step HT.out) HQ.out
  injection he with _ he
  injection he with he _
  exact he ▸ x1
 have hcall := zH (rows1_any h b.seats (.slice q1 b.seats.length m1) _ _ _ _ _ w.heap.size S W6 (HB1.out.step HT.out) (Rep.keep (.of_step HT.out) HR.out) hr3 (okSec_valid HOK.out))
 go_wp2_with fail
 refine hcall.out.mono ?_
 clear hcall
 rintro e wn ⟨rfl, hSn⟩
 have HTi := zH (HT.out.trans hSn)
 clear hSn HT
 have HT := HTi
 clear HTi
 clear hr3
 clear e0 e1 e2 e3 e4 f0 f1 f2 f3 f4 f5 y1 y2
 cases a6 : b.seats.all (rowB (sizeL h.sectors)) with
 | false =>
  have hfin : bookB h b = false := by simp [bookB, HA.out, a6]
  have HF := zH hfin
  clear a6 hfin
  go_wp2
  go_ret
  exact ⟨by rw [HF.out]; rfl, HS.out.trans HT.out⟩
 | true =>
 have A6 := zH a6
 clear a6
 have hmm := @run_makeMap Tryz.prog
 go_wp2_with fail
 clear hmm
 have HT1 := zH ((HT.out.s_alloc (.map #[] 0)).s_alloc (.cells #[.map (some wn.heap.size)] 194))
 have hlt := HT.out.size
 have hlt1 := (HB1.out.step HT.out).lt
 have hlt2 := (HB2.out.step HT.out).lt
 have hk0 : KM ((wn.alloc (.map #[] 0)).alloc (.cells #[.map (some wn.heap.size)] 194)) wn.heap.size [] := KM.step (w := wn.alloc (.map #[] 0)) ⟨#[], 0, heap_alloc_new wn _, by simp, by simp⟩ (Step.alloc _ _)
 have hm0 : ((wn.alloc (.map #[] 0)).alloc (.cells #[.map (some wn.heap.size)] 194)).cell? ⟨wn.heap.size + 1, 0, none⟩ = some (.map (some wn.heap.size)) := (Bx.new' (wn.alloc (.map #[] 0)) [.map (some wn.heap.size)] 194 _ (by simp)).cell 0
 have hlt3 : wn.heap.size < ((wn.alloc (.map #[] 0)).alloc (.cells #[.map (some wn.heap.size)] 194)).heap.size := by simp
 have HT1 : Hid (Step W0 ((wn.alloc (.map #[] 0)).alloc (.cells #[.map (some wn.heap.size)] 194))) := HT1
 generalize (wn.alloc (.map #[] 0)).alloc (.cells #[.map (some wn.heap.size)] 194) = V0 at *
 generalize wn.heap.size = r at *
 have HL := zH hlt
 have HROW : Hid (∀ i (hi : i < b.seats.length), (b.seats[i].length : Int) = sizeL h.sectors) := zH fun i hi => by
  have := List.all_eq_true.1 A6.out _ (List.getElem_mem hi)
  simp [rowB] at this
  exact this.1
 have HK := zH hk0
 have HM := zH hm0
 clear HT hk0 hm0
 have hr0 : W0.heap.size ≤ r := hlt
 have hT : ∀ j, j < W0.heap.size → (S j ∨ j = r) → S j := fun j hj hs => hs.resolve_right (by omega)
 have HR := zH (Rep.keep (.of_step HT1.out) (Rep.weak hT HR.out))
 have HQ := zH (Rep.keep (.of_step HT1.out) (Rep.weak hT HQ.out))
 have HB1 := zH (HB1.out.step HT1.out)
 have HB2 := zH (HB2.out.step HT1.out)
 have HS := zH (HS.out.trans HT1.out)
 have hn1 : ¬ w.heap.size = r := by omega
 have hn2 : ¬ w.heap.size + 1 = r := by omega
 have hwr0 : w.heap.size ≤ r := by omega
 have HT := zH (Step.refl V0)
 clear hlt hT hr0 HT1
 refine wp_region_seq (kdOf [4] []) [0, 1, 0, 0, 12, 31, 63, 127, 255, 127, 1023, 2047, 4095] [0, 1, 2, 3, 4, 5, 6, 7, 8, 9] [10, 11, 12] (by kernel_rfl) (by kernel_rfl) (fun i T z hi hk => by simp [kdOf] at hk <;> (try (split at hk <;> cases hk))) ?_
 intro Wx hWx
 have HT := zH hWx
 clear hWx
 (try clear e0 e1 e2 e3 e4 f0 f1 f2 f3 f4 f5 y1 y2)
 obtain ⟨e0, e1, e2, e3, e4⟩ := cells5 (HB1.out.step HT.out)
 obtain ⟨f0, f1, f2, f3, f4, f5⟩ := cells6 (HB2.out.step HT.out)
 have y1 := (HB1.out.step HT.out).lt
 have y2 := (HB2.out.step HT.out).lt
 repeat ((first | (refine run_off rfl rfl (by rfl) ?_) | (refine run_chain_off rfl rfl (by rfl) (K0_mono _) ?_) | ((refine run_want rfl rfl (by rfl) ⟨?_, fun W hW => ?_, ?_⟩; rotate_left; (· (obtain ⟨hc'', hf''⟩ := hW.cells; go_simp; (try with_reducible rfl)))))); (try simp only [Act.put, zA, zB, zC]))
 refine run_chain rfl rfl (by rfl) (fun Wi hWi K' hK => ?_)
 have HTi := zH (HT.out.trans hWi)
 have HZW := zH HTi.out.size
 clear hWi HT
 go_simp
 refine (cash_any (fun j => S j ∨ j = r) h b _ _ Wi ⟨_, rfl, Rep.keep (.of_step HTi.out) HR.out⟩ ⟨_, rfl, Rep.keep (.of_step HTi.out) HQ.out⟩ HOK.out (by have := HBD.out; have := A3.out; omega) HROW.out).mono ?_
 rintro e wn ⟨rfl, hSn⟩
 have HT := zH (HTi.out.trans (StepX.of hSn))
 clear HTi
 refine hK _ _ (StepX.of hSn) ?_
 clear hSn
 (try simp only [Act.put, zA, zB, zC])
 (try clear e0 e1 e2 e3 e4 f0 f1 f2 f3 f4 f5 y1 y2)
 obtain ⟨e0, e1, e2, e3, e4⟩ := cells5 (HB1.out.step HT.out)
 obtain ⟨f0, f1, f2, f3, f4, f5⟩ := cells6 (HB2.out.step HT.out)
 have y1 := (HB1.out.step HT.out).lt
 have y2 := (HB2.out.step HT.out).lt
 by_cases a7 : b.cash = cashL h b.seats
 rotate_left
 ·have hd : (b.cash == cashL h b.seats) = false := by simp [a7]
  have hfin : bookB h b = false := by simp [bookB, a7]
  have HF := zH hfin
  clear a7 hfin
  repeat ((first | (refine run_off rfl rfl (by rfl) ?_) | (refine run_chain_off rfl rfl (by rfl) (K0_mono _) ?_) | ((refine run_want rfl rfl (by rfl) ⟨?_, fun W hW => ?_, ?_⟩; rotate_left; (· (obtain ⟨hc'', hf''⟩ := hW.cells; go_simp; (try with_reducible rfl)))))); (try simp only [Act.put, zA, zB, zC]))
  refine run_end (L := [_, _, _]) rfl (fun W6 hW6 => ?_)
  have HT := zH (HT.out.trans hW6)
  clear hW6
  go_wp2
  go_ret
  exact ⟨by rw [HF.out]; rfl, HS.out.trans HT.out⟩
 have hd : (b.cash == cashL h b.seats) = true := by simp [a7]
 have hfin : bookB h b = tookB h b := by simp [bookB, HA.out, A6.out, a7]
 have HF := zH hfin
 clear a7 hfin
 repeat ((first | (refine run_off rfl rfl (by rfl) ?_) | (refine run_chain_off rfl rfl (by rfl) (K0_mono _) ?_) | ((refine run_want rfl rfl (by rfl) ⟨?_, fun W hW => ?_, ?_⟩; rotate_left; (· (obtain ⟨hc'', hf''⟩ := hW.cells; go_simp; (try with_reducible rfl)))))); (try simp only [Act.put, zA, zB, zC]))
 refine run_end (L := [_, _, _]) rfl (fun W6 hW6 => ?_)
 have HT6 := zH (HT.out.trans hW6)
 clear hW6 HT
 have HT := HT6
 clear HT6
 clear e0 e1 e2 e3 e4 f0 f1 f2 f3 f4 f5 y1 y2
 have ha := zH (tooks_any (fun j => S j ∨ j = r) h b (.slice q4 b.took.length m4) _ _ _ _ _ w.heap.size (w.heap.size + 1) (r + 1) r W6 (HB1.out.step HT.out) (Rep.keep (.of_step HT.out) HR.out) (by
   obtain ⟨_, _, _, he, x1, x2, x4⟩ := Rep.keep (.of_step HT.out) HQ.out
   injection he with _ he
   injection he with he he2
   injection he2 with _ he2
   injection he2 with _ he2
   injection he2 with he2 _
   exact he2 ▸ x4) ((HB2.out.step HT.out).cell 0) (HT.out.kc HM.out) (HK.out.step HT.out) (.inr rfl) (by have := HBD.out; omega) (by have := HBD.out; omega))
 go_wp2_with fail
 refine ha.out.mono ?_
 rintro e w' ⟨rfl, hS⟩
 have HS1 := zH (HS.out.trans HT.out)
 have HS2 := zH (StepX.fresh HS1.out hS (fun j hj => by omega))
 clear hS ha HS1
 go_wp2
 go_ret
 exact ⟨by rw [HF.out]; rfl, HS2.out⟩
def OwnI (base : Nat) (e : TypeId) (w : World) (v : Value) (l : List Int) : Prop := w.ownsRow base e 1 v l.length (l.map (Value.int .i64))
def OwnB (base : Nat) (e : TypeId) (w : World) (v : Value) (l : List Bool) : Prop := w.ownsRow base e 1 v l.length (l.map Value.bool)
theorem map_of_drops {α : Type} {f : α → Value} {xs : List Value} {l : List α} (hl : xs.length = l.length * 1) (hr : ∀ i (h : i < l.length), (xs.drop (i * 1)).take 1 = [f l[i]]) : xs = l.map f := by
 apply List.ext_getElem
 ·simpa using hl
 ·intro i h1 h2
  have hi : i < l.length := by simpa using h2
  have := hr i hi
  rw [Nat.mul_one, List.drop_eq_getElem_cons h1, List.take_succ_cons, List.take_zero] at this
  rw [List.getElem_map]
  exact List.head_eq_of_cons_eq this
theorem _root_.Go.BT.OwnL.flat {α : Type} [Flat α] {S : Nat → Prop} (T : Nat → Prop) {base : Nat} {e : TypeId} {w : World} {v : Value} {l : List α} (h : OwnL S base e w v l) : OwnL T base e w v l := by
 obtain ⟨xs, ho, hr⟩ := h; exact ⟨xs, ho, fun i hi => Flat.flat (hr i hi)⟩
theorem _root_.Go.BT.OwnL.slb {α : Type} [Rep α] {S : Nat → Prop} {base : Nat} {e : TypeId} {w : World} {v : Value} {l : List α} (h : OwnL S base e w v l) (hs : ∀ g, v.ownBlock = some g → ¬ S g) : SL S w v l := by
 have hm : l.length ≤ 9223372036854775807 := by obtain ⟨_, _, _, hm, _⟩ := h.form; simp only [maxLen] at hm; omega
 have hlt := h.lt
 obtain ⟨xs, h', hr⟩ := h
 have h := h'.2
 rcases h with ⟨rfl, h0⟩ | ⟨g, cap, cur, rfl, hb, hg, hle, hcap, hsz, htk⟩
 ·have : l = [] := List.eq_nil_of_length_eq_zero h0
  subst this; exact SL.nil S w
 ·refine ⟨_, cap, g, 0, rfl, hle, hm, fun _ => rfl, fun i hi => ⟨(hlt g rfl).2, hs g rfl, _, Rep.weak (fun j _ hj => .inl hj) (hr i hi), fun j u hj => ?_⟩⟩
  have hj' : (xs.drop (i * Rep.k α))[j]? = some u := by
   rw [List.getElem?_take] at hj; split at hj
   ·exact hj
   ·cases hj
  rw [List.getElem?_drop] at hj'
  have := h'.cells (g := g) (by simp [Value.ownBlock]) (i * Rep.k α + j) u hj'
  rw [Addr.add_lit] at this
  simpa using this
theorem _root_.Go.BT.OwnL.keptF {α : Type} [Flat α] {S : Nat → Prop} {base : Nat} {e : TypeId} {w w' : World} {v : Value} {l : List α} (h : OwnL S base e w v l) (hrow : ∀ g, v.ownBlock = some g → w'.heap[g]? = w.heap[g]?) : OwnL S base e w' v l := by
 obtain ⟨xs, ⟨hl, ho⟩, hr⟩ := h
 refine ⟨xs, ⟨hl, ?_⟩, fun i hi => Flat.flat (hr i hi)⟩
 rcases ho with hn | ⟨g, cap, cur, rfl, hb, hg, r⟩
 ·exact .inl hn
 ·exact .inr ⟨g, cap, cur, rfl, hb, by rw [hrow g rfl]; exact hg, r⟩
section
variable {S : Nat → Prop} {base : Nat} {e : TypeId} {w w' : World} {v : Value}
theorem OwnI.of {l : List Int} (h : OwnL S base e w v l) : OwnI base e w v l := by
 obtain ⟨xs, ho, hr⟩ := h
 have : xs = l.map (Value.int .i64) := map_of_drops ho.1 fun i hi => hr i hi
 subst this
 exact ho
theorem OwnB.of {l : List Bool} (h : OwnL S base e w v l) : OwnB base e w v l := by
 obtain ⟨xs, ho, hr⟩ := h
 have : xs = l.map Value.bool := map_of_drops ho.1 fun i hi => hr i hi
 subst this
 exact ho
theorem OwnI.own {l : List Int} (h : OwnI base e w v l) : OwnL S base e w v l := by
 refine ⟨_, h, fun i hi => ?_⟩
 show ((l.map (Value.int .i64)).drop (i * 1)).take 1 = [_]
 rw [Nat.mul_one, List.drop_eq_getElem_cons (by simpa using hi)]
 simp
theorem OwnB.own {l : List Bool} (h : OwnB base e w v l) : OwnL S base e w v l := by
 refine ⟨_, h, fun i hi => ?_⟩
 show ((l.map Value.bool).drop (i * 1)).take 1 = [_]
 rw [Nat.mul_one, List.drop_eq_getElem_cons (by simpa using hi)]
 simp
theorem owns_at {xs : List Value} {n : Nat} (h : w.ownsRow base e 1 v n xs) (hn : 0 < n) : ∃ g c, v = .slice (some ⟨g, 0, none⟩) n c ∧ n ≤ c ∧ base ≤ g ∧ g < w.heap.size ∧ (∀ j, j < n → w.cell? ⟨g, j, none⟩ = xs[j]?) ∧ (∀ j, w.frozen? ⟨g, j, none⟩ = false) := by
 rcases h.2 with ⟨_, h0⟩ | ⟨g, cap, cur, rfl, hb, hg, hnc, r⟩
 ·omega
 ·exact ⟨g, cap, rfl, hnc, hb, (Array.getElem?_eq_some_iff.1 hg).1, fun j hj => h.cellAt j (by omega), fun j => h.frozenAt j⟩
theorem owns_form {xs : List Value} {n : Nat} (h : w.ownsRow base e 1 v n xs) : ∃ p c, v = .slice p n c ∧ n ≤ c ∧ n ≤ maxLen := by
 rcases h.2 with ⟨rfl, h0⟩ | ⟨g, cap, cur, rfl, _, _, hle, hcap, _⟩
 ·exact ⟨none, 0, by rw [h0], by omega, by rw [h0]; exact Nat.zero_le _⟩
 ·exact ⟨_, cap, rfl, hle, Nat.le_trans hle hcap⟩
end
def Apart (l : List Value) : Prop := l.Pairwise fun a b => ∀ k, a.ownBlock = some k → b.ownBlock ≠ some k
def blk (g : Nat) : Value := .slice (some ⟨g, 0, none⟩) 0 0
theorem own_blk (g : Nat) : (blk g).ownBlock = some g := rfl
structure Desk (base : Nat) (w : World) (g : Nat) (h : House) (b : Book) (c0 c1 c2 c3 c4 vs vo vt : Value) (xs : List Value) : Prop where
 bx : Bx w g [c0, c1, c2, c3, c4, .int .i64 b.agency, vs, vo, .int .i64 b.sent, vt, .int .i64 b.cash] 186
 gb : base ≤ g
 house : Rep.rep (fun j => base ≤ j) w [c0, c1, c2, c3, c4] h
 outer : w.ownsRow base 23 1 vs b.seats.length xs
 row : ∀ i (hi : i < b.seats.length) (hx : i < xs.length), OwnI base 3 w xs[i] b.seats[i]
 off : OwnB base 4 w vo b.off
 took : OwnL (fun _ => False) base 172 w vt b.took
 apart : Apart (blk g :: vs :: vo :: vt :: xs)
section
variable {base : Nat} {w w' : World} {g : Nat} {h : House} {b : Book} {c0 c1 c2 c3 c4 vs vo vt : Value} {xs : List Value}
theorem Desk.len (D : Desk base w g h b c0 c1 c2 c3 c4 vs vo vt xs) : xs.length = b.seats.length := by have := D.outer.1; omega
theorem Desk.lt (D : Desk base w g h b c0 c1 c2 c3 c4 vs vo vt xs) : g < w.heap.size := D.bx.lt
theorem Desk.step (D : Desk base w g h b c0 c1 c2 c3 c4 vs vo vt xs) (hs : Step w w') : Desk base w' g h b c0 c1 c2 c3 c4 vs vo vt xs :=
  have hg : w.grownBy w' none := ⟨hs.os, hs.tape, hs.output, hs.size, fun k hk _ => hs.block k hk id⟩
  { bx := D.bx.step hs, gb := D.gb, house := Rep.keep (.of_step hs) D.house, outer := D.outer.kept hg (by cases hv : vs.ownBlock <;> simp), row := fun i hi hx => (D.row i hi hx).kept hg (by cases hv : (xs[i]).ownBlock <;> simp),
    off := D.off.kept hg (by cases hv : vo.ownBlock <;> simp), took := D.took.step hs, apart := D.apart }
theorem keeps_of_wrote {k : Nat} (hw : Wrote k w w') (hk : base ≤ k) : Keeps (fun j => base ≤ j) w w' := .wrote hw hk
theorem Apart.at {l : List Value} (ha : Apart l) {i j : Nat} (hi : i < l.length) (hj : j < l.length) (hne : i ≠ j) {k : Nat} (hk : l[i].ownBlock = some k) : l[j].ownBlock ≠ some k := by
 have := List.pairwise_iff_getElem.1 ha
 rcases Nat.lt_or_gt_of_ne hne with h1 | h1
 ·exact this i j hi hj h1 k hk
 ·intro he
  exact this j i hj hi h1 k he hk
theorem Desk.setBook (D : Desk base w g h b c0 c1 c2 c3 c4 vs vo vt xs) (hw : Wrote g w w') (b' : Book) (e1 : b'.seats = b.seats) (e2 : b'.off = b.off) (e3 : b'.took = b.took)
    (hb : Bx w' g [c0, c1, c2, c3, c4, .int .i64 b'.agency, vs, vo, .int .i64 b'.sent, vt, .int .i64 b'.cash] 186) : Desk base w' g h b' c0 c1 c2 c3 c4 vs vo vt xs :=
  have hn : ∀ i (hi : i < (blk g :: vs :: vo :: vt :: xs).length), i ≠ 0 → ((blk g :: vs :: vo :: vt :: xs)[i]).ownBlock ≠ some g := fun i hi h0 => D.apart.at (i := 0) (by simp) hi (Ne.symm h0) rfl
  { bx := hb, gb := D.gb, house := Rep.keep (keeps_of_wrote hw D.gb) D.house, outer := by rw [e1]; exact D.outer.kept hw.grown (.inr (hn 1 (by simp) (by simp))),
    row := fun i hi hx => by
      have hi' : i < b.seats.length := by rw [← e1]; exact hi
      have he : b'.seats[i] = b.seats[i] := by simp [e1]
      rw [he]
      exact (D.row i hi' hx).kept hw.grown (.inr (hn (i + 4) (by simp; omega) (by simp)))
    off := by rw [e2]; exact D.off.kept hw.grown (.inr (hn 2 (by simp) (by simp))),
    took := by
      rw [e3]
      exact D.took.keptF (fun k hk => hw.block k (fun e => hn 3 (by simp) (by simp) (e ▸ hk)))
    apart := D.apart }
def putSeat (b : Book) (i j : Nat) (x : Int) : Book := { b with seats := b.seats.set i ((b.seats.getD i []).set j x) }
theorem Desk.setSeat (D : Desk base w g h b c0 c1 c2 c3 c4 vs vo vt xs) {i j gi : Nat} {c : Nat} (hi : i < b.seats.length) (hx : i < xs.length) (hv : xs[i] = .slice (some ⟨gi, 0, none⟩) b.seats[i].length c) (x : Int) :
  Desk base (w.setCell ⟨gi, j, none⟩ (.int .i64 x)) g h (putSeat b i j x) c0 c1 c2 c3 c4 vs vo vt xs ∧ base ≤ gi := by
 have hrow := D.row i hi hx
 have hown : xs[i].ownBlock = some gi := by rw [hv]; rfl
 have hgi : base ≤ gi := (hrow.lt _ hown).1
 have hw : Wrote gi w (w.setCell ⟨gi, j, none⟩ (.int .i64 x)) := Wrote.setCell w gi j _
 have hn : ∀ k (hk : k < (blk g :: vs :: vo :: vt :: xs).length), k ≠ i + 4 → ((blk g :: vs :: vo :: vt :: xs)[k]).ownBlock ≠ some gi := fun k hk h0 => D.apart.at (i := i + 4) (by simp; omega) hk (Ne.symm h0) (by simpa using hown)
 have hg0 : g ≠ gi := fun e => hn 0 (by simp) (by omega) (by rw [← e]; rfl)
 have hgd : b.seats.getD i [] = b.seats[i] := by simp [List.getD_eq_getElem?_getD, hi]
 refine ⟨⟨D.bx.keep hw.keeps hg0, D.gb, Rep.keep (keeps_of_wrote hw hgi) D.house, ?_, fun k hk hkx => ?_, D.off.kept hw.grown (.inr (hn 2 (by simp) (by omega))), D.took.keptF (fun k hk => hw.block k (fun e => hn 3 (by simp) (by omega) (e ▸ hk))), D.apart⟩, hgi⟩
 ·have := D.outer.kept hw.grown (.inr (hn 1 (by simp) (by omega)))
  simpa [putSeat] using this
 ·have hk' : k < b.seats.length := by simpa [putSeat] using hk
  by_cases hki : k = i
  ·subst hki
   have he : (putSeat b k j x).seats[k] = b.seats[k].set j x := by simp [putSeat, List.getElem?_eq_getElem hk']
   rw [he]
   unfold OwnI at hrow ⊢
   rw [hv] at hrow ⊢
   have := (World.ownsRow.stored hrow j (.int .i64 x)).1
   rw [List.length_set, List.map_set]
   exact this
  ·have he : (putSeat b i j x).seats[k] = b.seats[k] := by simp only [putSeat]; rw [List.getElem_set_ne (Ne.symm hki)]
   rw [he]
   exact (D.row k hk' hkx).kept hw.grown (.inr (hn (k + 4) (by simp; omega) (by omega)))
theorem Desk.setOff (D : Desk base w g h b c0 c1 c2 c3 c4 vs vo vt xs) {i go : Nat} {c : Nat} (hv : vo = .slice (some ⟨go, 0, none⟩) b.off.length c) (x : Bool) :
  Desk base (w.setCell ⟨go, i, none⟩ (.bool x)) g h { b with off := b.off.set i x } c0 c1 c2 c3 c4 vs vo vt xs ∧ base ≤ go := by
 have hown : vo.ownBlock = some go := by rw [hv]; rfl
 have hgo : base ≤ go := (D.off.lt _ hown).1
 have hw : Wrote go w (w.setCell ⟨go, i, none⟩ (.bool x)) := Wrote.setCell w go i _
 have hn : ∀ k (hk : k < (blk g :: vs :: vo :: vt :: xs).length), k ≠ 2 → ((blk g :: vs :: vo :: vt :: xs)[k]).ownBlock ≠ some go := fun k hk h0 => D.apart.at (i := 2) (by simp) hk (Ne.symm h0) (by simpa using hown)
 have hg0 : g ≠ go := fun e => hn 0 (by simp) (by omega) (by rw [← e]; rfl)
 refine ⟨⟨D.bx.keep hw.keeps hg0, D.gb, Rep.keep (keeps_of_wrote hw hgo) D.house, D.outer.kept hw.grown (.inr (hn 1 (by simp) (by omega))), fun k hk hkx => (D.row k hk hkx).kept hw.grown (.inr (hn (k + 4) (by simp; omega) (by omega))), ?_, D.took.keptF (fun k hk => hw.block k (fun e => hn 3 (by simp) (by omega) (e ▸ hk))), D.apart⟩, hgo⟩
 have hoff := D.off
 unfold OwnB at hoff ⊢
 rw [hv] at hoff ⊢
 have := (World.ownsRow.stored hoff i (.bool x)).1
 simpa [List.map_set] using this
theorem Desk.book (D : Desk base w g h b c0 c1 c2 c3 c4 vs vo vt xs) {S : Nat → Prop} (hS : ∀ j, base ≤ j → ¬ S j) : Rep.rep S w [.int .i64 b.agency, vs, vo, .int .i64 b.sent, vt, .int .i64 b.cash] b := by
 have hk : ∀ j, base ≤ j → j < w.heap.size → ¬ S j := fun j h _ => hS j h
 refine ⟨vs, vo, vt, rfl, ?_, (OwnL.sl (S := S) D.off.own hk), OwnL.sl (S := S) (D.took.flat S) hk⟩
 have hl := D.len
 have : OwnL S base 23 w vs b.seats := by
  refine ⟨xs, D.outer, fun i hi => ⟨xs[i]'(by omega), ?_, OwnL.slb (S := avoid S vs) (D.row i hi (by omega)).own fun k hq ha => ?_⟩⟩
  ·show (xs.drop (i * 1)).take 1 = _
   rw [Nat.mul_one, List.drop_eq_getElem_cons (by omega), List.take_succ_cons, List.take_zero]
  ·rcases ha with ha | ha
   ·exact hk k ((D.row i hi (by omega)).lt k hq).1 ((D.row i hi (by omega)).lt k hq).2 ha
   ·exact D.apart.at (i := 1) (j := i + 4) (by simp) (by simp; omega) (by omega) (by simpa using ha) (by simpa using hq)
 exact this.sl hk
end
end Go.Proofs.YtgpiieogiafdoaaGreat
namespace Go.Proofs.YtgpiieogiafdoaaGreat
set_option linter.unusedSimpArgs false
set_option linter.unusedVariables false
open Go.RowKit Go.BT
def refusal (c : Int) : List PanicEntry := [{ v := .iface 182 (.agg #[.int .i64 c]), recovered := false }]
theorem ask_yes (c : Int) (w : World) : Calls Tryz.prog 77 #[.bool true, .int .i64 c] w fun e w' => e = .returned (.tuple #[]) ∧ Step w w' := by
 go_enter Tryz.func77, Tryz.ntmps77
 go_wp2
 go_end0
 exact ⟨rfl, Step.refl _⟩
theorem ask_no (c : Int) (w : World) : Calls Tryz.prog 77 #[.bool false, .int .i64 c] w fun e w' => e = .panicked (refusal c) ∧ Step w w' := by
 go_enter Tryz.func77, Tryz.ntmps77
 go_wp2
 exact ⟨rfl, rfl, Step.refl _⟩
def checkR (h : House) (b : Book) : Int := if valid h && bookB h b then 0 else 1
theorem check_any (S : Nat → Prop) (h : House) (b : Book) (v u : Value) (w : World) (hv : AV S w v h) (hu : AV S w u b) :
  Calls Tryz.prog 64 #[v, u] w fun e w' => e = .returned (.int .i64 (checkR h b)) ∧ Step w w' := by
 obtain ⟨cs, rfl, hr⟩ := hv
 have hr0 := hr
 obtain ⟨c0, c1, c2, c3, c4, rfl, h0, h1, h2, h3, h4⟩ := hr
 obtain ⟨cs, rfl, hq⟩ := hu
 have hq0 := hq
 obtain ⟨d1, d2, d4, rfl, s1, s2, s4⟩ := hq
 have hS : Step w ((w.alloc (.cells #[c0, c1, c2, c3, c4] 41)).alloc (.cells #[.int .i64 b.agency, d1, d2, .int .i64 b.sent, d4, .int .i64 b.cash] 77)) := (by with_reducible repeat (first | assumption | exact Step.refl _ | apply Step.s_alloc | apply Step.s_drew | apply Step.s_drewN | refine Step.trans ?_ (by assumption)))
 obtain ⟨p0, k0, rfl⟩ := h0.form
 obtain ⟨p1, k1, rfl⟩ := h1.form
 obtain ⟨p2, k2, rfl⟩ := h2.form
 obtain ⟨p3, k3, rfl⟩ := h3.form
 obtain ⟨p4, k4, rfl⟩ := h4.form
 obtain ⟨q1, m1, rfl⟩ := s1.form
 obtain ⟨q2, m2, rfl⟩ := s2.form
 obtain ⟨q4, m4, rfl⟩ := s4.form
 have HS := zH hS
 have HR := zH (Rep.keep (.of_step hS) hr0)
 have HQ := zH (Rep.keep (.of_step hS) hq0)
 clear hS hr0 hq0 h0 h1 h2 h3 h4 s1 s2 s4
 go_enter Tryz.func64, Tryz.ntmps64
 go_wp2_with fail
 refine (valid_any S h _ _ ⟨_, rfl, HR.out⟩).mono ?_
 rintro e wn ⟨rfl, hSn⟩
 have HT := zH hSn
 clear hSn
 cases q : valid h with
 | false =>
  have hfin : checkR h b = 1 := by simp [checkR, q]
  have HF := zH hfin
  clear q hfin
  go_wp2
  go_ret
  exact ⟨by rw [HF.out]; rfl, HS.out.trans HT.out⟩
 | true =>
 have Q := zH q
 clear q
 obtain ⟨hc'', hf''⟩ := HT.out.cells
 go_wp2_with fail
 refine (book_any S h b _ _ _ ⟨_, rfl, Rep.keep (.of_step HT.out) HR.out⟩ ⟨_, rfl, Rep.keep (.of_step HT.out) HQ.out⟩ Q.out).mono ?_
 rintro e wn2 ⟨rfl, hSn⟩
 have HT2 := zH hSn
 clear hSn hc'' hf''
 cases q : bookB h b with
 | false =>
  have hfin : checkR h b = 1 := by simp [checkR, q]
  have HF := zH hfin
  clear q hfin
  go_wp2
  go_ret
  exact ⟨by rw [HF.out]; rfl, HS.out.trans (HT.out.trans HT2.out)⟩
 | true =>
  have hfin : checkR h b = 0 := by simp [checkR, q, Q.out]
  have HF := zH hfin
  clear q hfin
  go_wp2
  go_ret
  exact ⟨by rw [HF.out]; rfl, HS.out.trans (HT.out.trans HT2.out)⟩
theorem cells11 {w : World} {g : Nat} {c0 c1 c2 c3 c4 c5 c6 c7 c8 c9 c10 : Value} {T : TypeId} (h : Bx w g [c0, c1, c2, c3, c4, c5, c6, c7, c8, c9, c10] T) :
  (w.cell? ⟨g, 0, none⟩ = some c0 ∧ w.cell? ⟨g, 1, none⟩ = some c1 ∧ w.cell? ⟨g, 2, none⟩ = some c2 ∧ w.cell? ⟨g, 3, none⟩ = some c3 ∧ w.cell? ⟨g, 4, none⟩ = some c4) ∧
  (w.cell? ⟨g, 5, none⟩ = some c5 ∧ w.cell? ⟨g, 6, none⟩ = some c6 ∧ w.cell? ⟨g, 7, none⟩ = some c7 ∧ w.cell? ⟨g, 8, none⟩ = some c8 ∧ w.cell? ⟨g, 9, none⟩ = some c9 ∧ w.cell? ⟨g, 10, none⟩ = some c10) :=
 ⟨⟨h.cell 0, h.cell 1, h.cell 2, h.cell 3, h.cell 4⟩, h.cell 5, h.cell 6, h.cell 7, h.cell 8, h.cell 9, h.cell 10⟩
theorem rep5 {S : Nat → Prop} {w : World} {c0 c1 c2 c3 c4 : Value} {h : House} (hr : Rep.rep S w [c0, c1, c2, c3, c4] h) : SL S w c0 h.sectors ∧ SL S w c1 h.prices ∧ SL S w c2 h.dates ∧ SL S w c3 h.frm ∧ SL S w c4 h.holds := by
 obtain ⟨_, _, _, _, _, he, x0, x1, x2, x3, x4⟩ := hr
 injection he with e0 he
 injection he with e1 he
 injection he with e2 he
 injection he with e3 he
 injection he with e4 _
 exact ⟨e0 ▸ x0, e1 ▸ x1, e2 ▸ x2, e3 ▸ x3, e4 ▸ x4⟩
section
variable {base : Nat} {w : World} {g : Nat} {h : House} {b : Book} {c0 c1 c2 c3 c4 vs vo vt : Value} {xs : List Value}
theorem show_yes (D : Desk base w g h b c0 c1 c2 c3 c4 vs vo vt xs) (n : Int) (hn : withinB n 0 (h.dates.length - 1) = true) :
  Calls Tryz.prog 76 #[.pointer (some ⟨g, 0, none⟩), .int .i64 n] w fun e w' => e = .returned (.tuple #[]) ∧ Step w w' := by
 obtain ⟨⟨f0, f1, f2, f3, f4⟩, _⟩ := cells11 D.bx
 obtain ⟨p2, k2, rfl⟩ := (rep5 D.house).2.2.1.form
 have hl := (rep5 D.house).2.2.1.len
 have HN := zH hn
 clear hn D
 go_enter Tryz.func76, Tryz.ntmps76
 go_wp2_with fail
 refine (within_st _ _ _ _).mono ?_
 rintro e w1 ⟨rfl, hS⟩
 rw [HN.out]
 have HS := zH hS
 clear hS
 go_wp2_with fail
 refine (ask_yes _ _).mono ?_
 rintro e w2 ⟨rfl, hS⟩
 have HS2 := zH hS
 clear hS
 go_wp2
 go_end0
 exact ⟨rfl, HS.out.trans HS2.out⟩
theorem show_no (D : Desk base w g h b c0 c1 c2 c3 c4 vs vo vt xs) (n : Int) (hn : withinB n 0 (h.dates.length - 1) = false) :
  Calls Tryz.prog 76 #[.pointer (some ⟨g, 0, none⟩), .int .i64 n] w fun e w' => e = .panicked (refusal 2) ∧ Step w w' := by
 obtain ⟨⟨f0, f1, f2, f3, f4⟩, _⟩ := cells11 D.bx
 obtain ⟨p2, k2, rfl⟩ := (rep5 D.house).2.2.1.form
 have hl := (rep5 D.house).2.2.1.len
 have HN := zH hn
 clear hn D
 go_enter Tryz.func76, Tryz.ntmps76
 go_wp2_with fail
 refine (within_st _ _ _ _).mono ?_
 rintro e w1 ⟨rfl, hS⟩
 rw [HN.out]
 have HS := zH hS
 clear hS
 go_wp2_with fail
 refine (ask_no _ _).mono ?_
 rintro e w2 ⟨rfl, hS⟩
 exact ⟨rfl, rfl, HS.out.trans hS⟩
end
end Go.Proofs.YtgpiieogiafdoaaGreat
namespace Go.Proofs.YtgpiieogiafdoaaGreat
set_option linter.unusedSimpArgs false
set_option linter.unusedVariables false
open Go.RowKit Go.BT
def OkDesk (h : House) (b : Book) : Prop := valid h = true ∧ b.off.length = h.dates.length ∧ b.seats.length = h.dates.length ∧ (∀ i (hi : i < b.seats.length), (b.seats[i].length : Int) = sizeL h.sectors) ∧ 0 ≤ b.agency ∧ b.agency < agN h ∧ -1000000000 ≤ b.cash ∧ b.cash ≤ 1000000000 ∧ 0 ≤ b.sent ∧ b.sent ≤ 1000
def offAt (b : Book) (s : Int) : Bool := b.off.getD s.toNat false
def dateAt (h : House) (s : Int) : Int := h.dates.getD s.toNat 0
def fromAt (h : House) (s a : Int) : Int := (h.frm.getD s.toNat []).getD a.toNat 0
def seatAt (b : Book) (s i : Int) : Int := (b.seats.getD s.toNat []).getD i.toNat 0
def DeskE (base : Nat) (w : World) (g : Nat) (h : House) (b : Book) : Prop := ∃ c0 c1 c2 c3 c4 vs vo vt xs, Desk base w g h b c0 c1 c2 c3 c4 vs vo vt xs
def DeskEnds (base g : Nat) (h : House) (r : Except Int Book) (e : Ending) (w w' : World) : Prop := StepX (fun j => base ≤ j) w w' ∧ match r with
 | .ok b' => e = .returned (.tuple #[]) ∧ DeskE base w' g h b'
 | .error c => e = .panicked (refusal c)
theorem DeskEnds.no {base g : Nat} {h : House} {r : Except Int Book} {w w' : World} {c : Int} (hr : r = .error c) (hS : Step w w') : DeskEnds base g h r (.panicked (refusal c)) w w' := by
 subst hr; exact ⟨.of hS, rfl⟩
theorem DeskEnds.noX {base g : Nat} {h : House} {r : Except Int Book} {w w' : World} {c : Int} (hr : r = .error c) (hS : StepX (fun j => base ≤ j) w w') : DeskEnds base g h r (.panicked (refusal c)) w w' := by
 subst hr; exact ⟨hS, rfl⟩
theorem DeskEnds.yes {base g : Nat} {h : House} {r : Except Int Book} {w w' : World} {b' : Book} (hr : r = .ok b') (hS : StepX (fun j => base ≤ j) w w') (hD : DeskE base w' g h b') : DeskEnds base g h r (.returned (.tuple #[])) w w' := by
 subst hr; exact ⟨hS, rfl, hD⟩
theorem within_nat {n lo hi : Int} (h : withinB n lo hi = true) (h0 : 0 ≤ lo) : ∃ k : Nat, n = k ∧ lo ≤ (k : Int) ∧ (k : Int) ≤ hi := by
 simp [withinB] at h
 exact ⟨n.toNat, by omega, by omega, by omega⟩
section
variable {base : Nat} {w : World} {g : Nat} {h : House} {b : Book} {c0 c1 c2 c3 c4 vs vo vt : Value} {xs : List Value}
theorem Desk.seat_at (D : Desk base w g h b c0 c1 c2 c3 c4 vs vo vt xs) {i : Nat} (hi : i < b.seats.length) (h0 : 0 < b.seats[i].length) :
  ∃ go co gi ci, vs = .slice (some ⟨go, 0, none⟩) b.seats.length co ∧ (∃ hx : i < xs.length, xs[i] = .slice (some ⟨gi, 0, none⟩) b.seats[i].length ci) ∧ w.cell? ⟨go, i, none⟩ = some (.slice (some ⟨gi, 0, none⟩) b.seats[i].length ci) ∧
   (∀ j (hj : j < b.seats[i].length), w.cell? ⟨gi, j, none⟩ = some (.int .i64 b.seats[i][j])) ∧ (∀ j, w.frozen? ⟨gi, j, none⟩ = false) ∧ go < w.heap.size ∧ gi < w.heap.size := by
 obtain ⟨go, co, hv, _, _, hgo, hc, _⟩ := owns_at D.outer (by omega)
 have hx : i < xs.length := by have := D.len; omega
 obtain ⟨gi, ci, hvi, _, _, hgi, hci, hfi⟩ := owns_at (D.row i hi hx) h0
 refine ⟨go, co, gi, ci, hv, ⟨hx, hvi⟩, ?_, fun j hj => ?_, hfi, hgo, hgi⟩
 ·rw [hc i (by omega), List.getElem?_eq_getElem hx, hvi]
 ·rw [hci j hj]; simp [hj]
theorem Desk.off_at (D : Desk base w g h b c0 c1 c2 c3 c4 vs vo vt xs) {i : Nat} (hi : i < b.off.length) :
  ∃ go co, vo = .slice (some ⟨go, 0, none⟩) b.off.length co ∧ (∀ j (hj : j < b.off.length), w.cell? ⟨go, j, none⟩ = some (.bool b.off[j])) ∧ (∀ j, w.frozen? ⟨go, j, none⟩ = false) ∧ go < w.heap.size := by
 obtain ⟨go, co, hv, _, _, hgo, hc, hf⟩ := owns_at D.off (by omega)
 exact ⟨go, co, hv, fun j hj => by rw [hc j hj]; simp [hj], hf, hgo⟩
theorem seat_yes (D : Desk base w g h b c0 c1 c2 c3 c4 vs vo vt xs) (n : Int) (hok : valid h = true) (hn : withinB n 0 (sizeL h.sectors - 1) = true) :
  Calls Tryz.prog 114 #[.pointer (some ⟨g, 0, none⟩), .int .i64 n] w fun e w' => e = .returned (.tuple #[]) ∧ Step w w' := by
 obtain ⟨⟨f0, f1, f2, f3, f4⟩, _⟩ := cells11 D.bx
 have hb := (bounds_valid hok).2.2.2.2.2.2
 have hs0 := hb.1
 have hs1 := hb.2.1
 have hcall := zH (size_any (fun j => base ≤ j) h (.agg #[c0, c1, c2, c3, c4]) w ⟨_, rfl, D.house⟩ (okSec_valid hok))
 have HN := zH hn
 clear hn D hok hb
 go_enter Tryz.func114, Tryz.ntmps114
 go_wp2_with fail
 refine hcall.out.mono ?_
 rintro e w0 ⟨rfl, hS⟩
 have HS0 := zH hS
 clear hS hcall
 go_wp2_with fail
 refine (within_st _ _ _ _).mono ?_
 rintro e w1 ⟨rfl, hS⟩
 rw [HN.out]
 have HS := zH (HS0.out.trans hS)
 clear hS
 go_wp2_with fail
 refine (ask_yes _ _).mono ?_
 rintro e w2 ⟨rfl, hS⟩
 have HS2 := zH (HS.out.trans hS)
 clear hS
 go_wp2
 go_end0
 exact ⟨rfl, HS2.out⟩
theorem seat_no (D : Desk base w g h b c0 c1 c2 c3 c4 vs vo vt xs) (n : Int) (hok : valid h = true) (hn : withinB n 0 (sizeL h.sectors - 1) = false) :
  Calls Tryz.prog 114 #[.pointer (some ⟨g, 0, none⟩), .int .i64 n] w fun e w' => e = .panicked (refusal 2) ∧ Step w w' := by
 obtain ⟨⟨f0, f1, f2, f3, f4⟩, _⟩ := cells11 D.bx
 have hb := (bounds_valid hok).2.2.2.2.2.2
 have hs0 := hb.1
 have hs1 := hb.2.1
 have hcall := zH (size_any (fun j => base ≤ j) h (.agg #[c0, c1, c2, c3, c4]) w ⟨_, rfl, D.house⟩ (okSec_valid hok))
 have HN := zH hn
 clear hn D hok hb
 go_enter Tryz.func114, Tryz.ntmps114
 go_wp2_with fail
 refine hcall.out.mono ?_
 rintro e w0 ⟨rfl, hS⟩
 have HS0 := zH hS
 clear hS hcall
 go_wp2_with fail
 refine (within_st _ _ _ _).mono ?_
 rintro e w1 ⟨rfl, hS⟩
 rw [HN.out]
 have HS := zH (HS0.out.trans hS)
 clear hS
 go_wp2_with fail
 refine (ask_no _ _).mono ?_
 rintro e w2 ⟨rfl, hS⟩
 have HS2 := zH (HS.out.trans hS)
 clear hS
 exact ⟨rfl, rfl, HS2.out⟩
theorem sold_any (D : Desk base w g h b c0 c1 c2 c3 c4 vs vo vt xs) (i j : Nat) (hi : i < b.seats.length) (hj : j < b.seats[i].length) :
  Calls Tryz.prog 115 #[.pointer (some ⟨g, 0, none⟩), .int .i64 i, .int .i64 j] w fun e w' => e = .returned (.bool (decide (0 < b.seats[i][j]))) ∧ Step w w' := by
 obtain ⟨⟨f0, f1, f2, f3, f4⟩, f5, f6, f7, f8, f9, f10⟩ := cells11 D.bx
 obtain ⟨go, co, gi, ci, rfl, _, hc, hcj, _, _, _⟩ := D.seat_at hi (by omega)
 have hcj := hcj j hj
 have hx : (0 : Int) ≤ (i : Int) ∧ (i : Int) < (b.seats.length : Int) := by omega
 have hy : (0 : Int) ≤ (j : Int) ∧ (j : Int) < (b.seats[i].length : Int) := by omega
 clear D
 go_enter Tryz.func115, Tryz.ntmps115
 go_wp2
 go_ret
 exact ⟨rfl, Step.refl _⟩
end
end Go.Proofs.YtgpiieogiafdoaaGreat
namespace Go.Proofs.YtgpiieogiafdoaaGreat
set_option linter.unusedSimpArgs false
set_option linter.unusedVariables false
open Go.RowKit Go.BT
def sellE (h : House) (b : Book) (s n y d : Int) : Int :=
 if withinB s 0 (h.dates.length - 1) = false then 2 else if withinB n 0 (sizeL h.sectors - 1) = false then 2 else if withinB y 1 1000000 = false then 2 else
 if offAt b s = true then 8 else if d < fromAt h s b.agency then 8 else if dateAt h s < d then 11 else if seatAt b s n = -1 then 7 else if 0 < seatAt b s n then 6 else 0
def sellP (h : House) (b : Book) (s n y : Int) : Book := { putSeat b s.toNat n.toNat y with cash := b.cash + priceL h n }
def sellD (h : House) (b : Book) (s n y d : Int) : Except Int Book := if sellE h b s n y d = 0 then .ok (sellP h b s n y) else .error (sellE h b s n y d)
theorem sellD_no {h : House} {b : Book} {s n y d c : Int} (hc : sellE h b s n y d = c) (h0 : c ≠ 0) : sellD h b s n y d = .error c := by simp [sellD, hc, h0]
theorem sellD_yes {h : House} {b : Book} {s n y d : Int} (hc : sellE h b s n y d = 0) : sellD h b s n y d = .ok (sellP h b s n y) := by simp [sellD, hc]
theorem from_row {h : House} (hok : valid h = true) {i : Nat} (hi : i < h.frm.length) : h.frm[i].length = agN h := by
 simp only [valid, validB, Bool.and_eq_true] at hok
 have := List.all_eq_true.1 hok.2.1.2 _ (List.getElem_mem hi)
 simp [fromB] at this
 exact this.1
theorem sellE_1 {h : House} {b : Book} {s n y d : Int} (q1 : withinB s 0 (h.dates.length - 1) = true) (q2 : withinB n 0 (sizeL h.sectors - 1) = true) (q3 : withinB y 1 1000000 = true) (q4 : offAt b s = false) :
  sellE h b s n y d = if d < fromAt h s b.agency then 8 else if dateAt h s < d then 11 else if seatAt b s n = -1 then 7 else if 0 < seatAt b s n then 6 else 0 := by
 simp [sellE, q1, q2, q3, q4]
section
variable {base : Nat} {w : World} {g : Nat} {h : House} {b : Book} {c0 c1 c2 c3 c4 vs vo vt : Value} {xs : List Value}
theorem sell_any (D : Desk base w g h b c0 c1 c2 c3 c4 vs vo vt xs) (hO : OkDesk h b) (s n y d : Int) :
  Calls Tryz.prog 68 #[.pointer (some ⟨g, 0, none⟩), .int .i64 s, .int .i64 n, .int .i64 y, .int .i64 d] w (fun e w' => DeskEnds base g h (sellD h b s n y d) e w w') := by
 have HD := zH D
 have HO := zH hO
 have HT := zH (Step.refl w)
 clear D hO
 go_enter Tryz.func68, Tryz.ntmps68
 cases q1 : withinB s 0 (h.dates.length - 1) with
 | false =>
  have HF := zH (show sellE h b s n y d = 2 by simp [sellE, q1])
  have hcall := zH (show_no HD.out s q1)
  go_wp2_with fail
  refine hcall.out.mono ?_
  clear hcall
  rintro e wn ⟨rfl, hSn⟩
  have HTi := zH (HT.out.trans hSn)
  clear hSn HT
  have HT := HTi
  clear HTi
  exact ⟨rfl, .no (sellD_no HF.out (by simp)) HT.out⟩
 | true =>
 have hcall := zH (show_yes HD.out s q1)
 go_wp2_with fail
 refine hcall.out.mono ?_
 clear hcall
 rintro e wn ⟨rfl, hSn⟩
 have HTi := zH (HT.out.trans hSn)
 clear hSn HT
 have HT := HTi
 clear HTi
 have Q1 := zH q1
 clear q1
 cases q2 : withinB n 0 (sizeL h.sectors - 1) with
 | false =>
  have HF := zH (show sellE h b s n y d = 2 by simp [sellE, Q1.out, q2])
  have hcall := zH (seat_no (HD.out.step HT.out) n HO.out.1 q2)
  go_wp2_with fail
  refine hcall.out.mono ?_
  clear hcall
  rintro e wn ⟨rfl, hSn⟩
  have HTi := zH (HT.out.trans hSn)
  clear hSn HT
  have HT := HTi
  clear HTi
  exact ⟨rfl, .no (sellD_no HF.out (by simp)) HT.out⟩
 | true =>
 have hcall := zH (seat_yes (HD.out.step HT.out) n HO.out.1 q2)
 go_wp2_with fail
 refine hcall.out.mono ?_
 clear hcall
 rintro e wn ⟨rfl, hSn⟩
 have HTi := zH (HT.out.trans hSn)
 clear hSn HT
 have HT := HTi
 clear HTi
 have Q2 := zH q2
 clear q2
 go_wp2_with fail
 refine (within_st _ _ _ _).mono ?_
 rintro e wn ⟨rfl, hSn⟩
 have HTi := zH (HT.out.trans hSn)
 clear hSn HT
 have HT := HTi
 clear HTi
 cases q3 : withinB y 1 1000000 with
 | false =>
  have HF := zH (show sellE h b s n y d = 2 by simp [sellE, Q1.out, Q2.out, q3])
  clear q3
  go_wp2_with fail
  refine (ask_no _ _).mono ?_
  rintro e wn ⟨rfl, hSn⟩
  have HTi := zH (HT.out.trans hSn)
  clear hSn HT
  have HT := HTi
  clear HTi
  exact ⟨rfl, .no (sellD_no HF.out (by simp)) HT.out⟩
 | true =>
 have Q3 := zH q3
 clear q3
 go_wp2_with fail
 refine (ask_yes _ _).mono ?_
 rintro e wn ⟨rfl, hSn⟩
 have HTi := zH (HT.out.trans hSn)
 clear hSn HT
 have HT := HTi
 clear HTi
 obtain ⟨i, rfl, hi0, hi1⟩ := within_nat Q1.out (by omega)
 obtain ⟨j, rfl, hj0, hj1⟩ := within_nat Q2.out (by omega)
 have hbv := bounds_valid HO.out.1
 have hD := HO.out.2.1
 have hD2 := HO.out.2.2.1
 have hio : i < b.off.length := by omega
 have his : i < b.seats.length := by omega
 have hjs : j < b.seats[i].length := by have := HO.out.2.2.2.1 i his; omega
 have hif : i < h.frm.length := by omega
 have hid : i < h.dates.length := by omega
 have hag0 := HO.out.2.2.2.2.1
 have hag1 := HO.out.2.2.2.2.2.1
 obtain ⟨ag, hag⟩ : ∃ ag : Nat, b.agency = ag := ⟨b.agency.toNat, by omega⟩
 have hagf : ag < h.frm[i].length := by rw [from_row HO.out.1 hif]; omega
 have HAG := zH hag
 have hx1 : (0 : Int) ≤ (i : Int) ∧ (i : Int) < (b.off.length : Int) := by omega
 have hx2 : (0 : Int) ≤ (i : Int) ∧ (i : Int) < (b.seats.length : Int) := by omega
 have hx3 : (0 : Int) ≤ (j : Int) ∧ (j : Int) < (b.seats[i].length : Int) := by omega
 have hx4 : (0 : Int) ≤ (i : Int) ∧ (i : Int) < (h.frm.length : Int) := by omega
 have hx5 : (0 : Int) ≤ (ag : Int) ∧ (ag : Int) < (h.frm[i].length : Int) := by omega
 have hx6 : (0 : Int) ≤ (i : Int) ∧ (i : Int) < (h.dates.length : Int) := by omega
 clear hbv hD hD2 hag0 hag1 hag hi0 hi1 hj0 hj1
 obtain ⟨go, co, rfl, hoc, _, _⟩ := HD.out.off_at hio
 obtain ⟨gs, cs, gi, ci, rfl, ⟨hxi, hxv⟩, hsc, hsj, hsf, _, hgl⟩ := HD.out.seat_at his (by omega)
 obtain ⟨r0, r1, r2, r3, r4⟩ := rep5 HD.out.house
 obtain ⟨pf, kf, bf, of, rfl, _, _, hpf, hcf, hbf⟩ := r3.rows
 obtain rfl := hpf (by omega)
 obtain ⟨fv, hfc, hfs⟩ := hcf i hif
 obtain ⟨pg, kg, bg, og, rfl, _, _, hpg, hcg, hbg⟩ := hfs.ints
 obtain rfl := hpg (by omega)
 have hgc := hcg ag hagf
 obtain ⟨pp, kp, rfl⟩ := r1.form
 obtain ⟨pd, kd, bd, od, rfl, _, _, hpd, hcd, hbd⟩ := r2.ints
 obtain rfl := hpd (by omega)
 have hdc := hcd i hid
 have HC := zH (And.intro (hoc i hio) (And.intro hsc (And.intro (hsj j hjs) (And.intro hfc (And.intro hgc hdc)))))
 have HSF := zH (And.intro hgl (hsf j))
 clear r0 r1 r2 r3 r4 hpf hcf hbf hpg hcg hbg hfs hpd hcd hbd hoc hsc hsj hfc hgc hdc hsf
 have hoff : offAt b i = b.off[i] := by simp [offAt, List.getD_eq_getElem?_getD, hio]
 have hfrom : fromAt h i b.agency = h.frm[i][ag] := by rw [HAG.out]; simp [fromAt, List.getD_eq_getElem?_getD, hif, hagf]
 have hdate : dateAt h i = h.dates[i] := by simp [dateAt, List.getD_eq_getElem?_getD, hid]
 have hseat : seatAt b i j = b.seats[i][j] := by simp [seatAt, List.getD_eq_getElem?_getD, his, hjs]
 have HE := zH (And.intro hoff (And.intro hfrom (And.intro hdate hseat)))
 clear hoff hfrom hdate hseat
 (try clear f0 f1 f2 f3 f4 f5 f6 f7 f8 f9 f10 m0 m1 m2 m3 m4 m5 y0)
 obtain ⟨⟨f0, f1, f2, f3, f4⟩, f5, f6, f7, f8, f9, f10⟩ := cells11 (HD.out.step HT.out).bx
 rw [HAG.out] at f5
 have m0 := HT.out.kc HC.out.1
 have m1 := HT.out.kc HC.out.2.1
 have m2 := HT.out.kc HC.out.2.2.1
 have m3 := HT.out.kc HC.out.2.2.2.1
 have m4 := HT.out.kc HC.out.2.2.2.2.1
 have m5 := HT.out.kc HC.out.2.2.2.2.2
 go_upto_region 3 with (fail)
 refine wp_region_seq (kdOf [] []) (0 :: 1 :: 3 :: 7 :: 15 :: 0 :: 63 :: 127 :: 255 :: 511 :: 1023 :: 1023 :: 3071 :: 7167 :: 15359 :: 31743 :: 1023 :: 130047 :: 261119 :: 1023 :: 525311 :: 1573887 :: 3671039 :: 7865343 :: 16776191 :: 33553407 :: 67108863 :: 134217727 :: 268435455 :: []) (0 :: 1 :: 2 :: 3 :: 4 :: 5 :: 6 :: 7 :: 8 :: 9 :: 10 :: 11 :: 12 :: 13 :: 14 :: 15 :: 16 :: 17 :: 18 :: 19 :: 20 :: 21 :: 22 :: 23 :: 24 :: 25 :: 26 :: 27 :: []) [28] (by kernel_rfl) (by kernel_rfl) (fun i T z hi hk => by simp [kdOf] at hk <;> (try (split at hk <;> cases hk))) ?_
 intro Wx hWx
 have HTi := zH (HT.out.trans hWx)
 clear hWx HT
 have HT := HTi
 clear HTi
 (try clear f0 f1 f2 f3 f4 f5 f6 f7 f8 f9 f10 m0 m1 m2 m3 m4 m5 y0)
 obtain ⟨⟨f0, f1, f2, f3, f4⟩, f5, f6, f7, f8, f9, f10⟩ := cells11 (HD.out.step HT.out).bx
 rw [HAG.out] at f5
 have m0 := HT.out.kc HC.out.1
 have m1 := HT.out.kc HC.out.2.1
 have m2 := HT.out.kc HC.out.2.2.1
 have m3 := HT.out.kc HC.out.2.2.2.1
 have m4 := HT.out.kc HC.out.2.2.2.2.1
 have m5 := HT.out.kc HC.out.2.2.2.2.2
 cases q4 : b.off[i] with
 | true =>
  have HF := zH (show sellE h b i j y d = 8 by simp [sellE, Q1.out, Q2.out, Q3.out, HE.out.1, q4])
  repeat ((first | (refine run_off rfl rfl (by rfl) ?_) | (refine run_chain_off rfl rfl (by rfl) (K0_mono _) ?_) | ((refine run_want rfl rfl (by rfl) ⟨?_, fun W hW => ?_, ?_⟩; rotate_left; (· (have d0 := hW.kc f7; have d1 := hW.kc m0; go_simp; (try with_reducible rfl)))))); (try simp only [Act.put, zA, zB, zC]))
  refine run_end (L := [_]) rfl (fun W6 hW6 => ?_)
  have HT6 := zH (HT.out.trans hW6)
  clear hW6 HT
  have HT := HT6
  clear HT6
  clear q4
  go_wp2_with fail
  refine (ask_no _ _).mono ?_
  rintro e wn ⟨rfl, hSn⟩
  have HTi := zH (HT.out.trans hSn)
  clear hSn HT
  have HT := HTi
  clear HTi
  exact ⟨rfl, .no (sellD_no HF.out (by simp)) HT.out⟩
 | false =>
 by_cases q5 : h.frm[i][ag] ≤ d
 rotate_left
 ·have HF := zH (show sellE h b i j y d = 8 by rw [sellE_1 Q1.out Q2.out Q3.out (HE.out.1.trans q4), if_pos (by rw [HE.out.2.1]; omega)])
  have hd : decide (h.frm[i][ag] ≤ d) = false := by simp; omega
  repeat ((first | (refine run_off rfl rfl (by rfl) ?_) | (refine run_chain_off rfl rfl (by rfl) (K0_mono _) ?_) | ((refine run_want rfl rfl (by rfl) ⟨?_, fun W hW => ?_, ?_⟩; rotate_left; (· (have d0 := hW.kc f7; have d1 := hW.kc m0; have d2 := hW.kc f3; have d3 := hW.kc m3; have d4 := hW.kc f5; have d5 := hW.kc m4; go_simp; (try with_reducible rfl)))))); (try simp only [Act.put, zA, zB, zC]))
  refine run_end (L := [_]) rfl (fun W6 hW6 => ?_)
  have HT6 := zH (HT.out.trans hW6)
  clear hW6 HT
  have HT := HT6
  clear HT6
  clear q4 q5 hd
  go_wp2_with fail
  refine (ask_no _ _).mono ?_
  rintro e wn ⟨rfl, hSn⟩
  have HTi := zH (HT.out.trans hSn)
  clear hSn HT
  have HT := HTi
  clear HTi
  exact ⟨rfl, .no (sellD_no HF.out (by simp)) HT.out⟩
 have hd : decide (h.frm[i][ag] ≤ d) = true := by simp; omega
 repeat ((first | (refine run_off rfl rfl (by rfl) ?_) | (refine run_chain_off rfl rfl (by rfl) (K0_mono _) ?_) | ((refine run_want rfl rfl (by rfl) ⟨?_, fun W hW => ?_, ?_⟩; rotate_left; (· (have d0 := hW.kc f7; have d1 := hW.kc m0; have d2 := hW.kc f3; have d3 := hW.kc m3; have d4 := hW.kc f5; have d5 := hW.kc m4; go_simp; (try with_reducible rfl)))))); (try simp only [Act.put, zA, zB, zC]))
 refine run_end (L := [_]) rfl (fun W6 hW6 => ?_)
 have HT6 := zH (HT.out.trans hW6)
 clear hW6 HT
 have HT := HT6
 clear HT6
 have Q4 := zH (And.intro q4 (show ¬ d < fromAt h i b.agency by rw [HE.out.2.1]; omega))
 clear q4 q5 hd
 go_wp2_with fail
 refine (ask_yes _ _).mono ?_
 rintro e wn ⟨rfl, hSn⟩
 have HTi := zH (HT.out.trans hSn)
 clear hSn HT
 have HT := HTi
 clear HTi
 (try clear f0 f1 f2 f3 f4 f5 f6 f7 f8 f9 f10 m0 m1 m2 m3 m4 m5 y0)
 obtain ⟨⟨f0, f1, f2, f3, f4⟩, f5, f6, f7, f8, f9, f10⟩ := cells11 (HD.out.step HT.out).bx
 rw [HAG.out] at f5
 have m0 := HT.out.kc HC.out.1
 have m1 := HT.out.kc HC.out.2.1
 have m2 := HT.out.kc HC.out.2.2.1
 have m3 := HT.out.kc HC.out.2.2.2.1
 have m4 := HT.out.kc HC.out.2.2.2.2.1
 have m5 := HT.out.kc HC.out.2.2.2.2.2
 by_cases q6 : d ≤ h.dates[i]
 rotate_left
 ·have HF := zH (show sellE h b i j y d = 11 by rw [sellE_1 Q1.out Q2.out Q3.out (HE.out.1.trans Q4.out.1), if_neg (by have := Q4.out.2; omega), if_pos (by rw [HE.out.2.2.1]; omega)])
  have hd : decide (d ≤ h.dates[i]) = false := by simp; omega
  go_wp2_with fail
  refine (ask_no _ _).mono ?_
  rintro e wn ⟨rfl, hSn⟩
  have HTi := zH (HT.out.trans hSn)
  clear hSn HT
  have HT := HTi
  clear HTi
  exact ⟨rfl, .no (sellD_no HF.out (by simp)) HT.out⟩
 have hd : decide (d ≤ h.dates[i]) = true := by simp; omega
 go_wp2_with fail
 refine (ask_yes _ _).mono ?_
 rintro e wn ⟨rfl, hSn⟩
 have HTi := zH (HT.out.trans hSn)
 clear hSn HT
 have HT := HTi
 clear HTi
 have Q6 := zH (show ¬ dateAt h i < d by rw [HE.out.2.2.1]; omega)
 clear hd q6
 (try clear f0 f1 f2 f3 f4 f5 f6 f7 f8 f9 f10 m0 m1 m2 m3 m4 m5 y0)
 obtain ⟨⟨f0, f1, f2, f3, f4⟩, f5, f6, f7, f8, f9, f10⟩ := cells11 (HD.out.step HT.out).bx
 rw [HAG.out] at f5
 have m0 := HT.out.kc HC.out.1
 have m1 := HT.out.kc HC.out.2.1
 have m2 := HT.out.kc HC.out.2.2.1
 have m3 := HT.out.kc HC.out.2.2.2.1
 have m4 := HT.out.kc HC.out.2.2.2.2.1
 have m5 := HT.out.kc HC.out.2.2.2.2.2
 by_cases q7 : b.seats[i][j] = -1
 ·have HF := zH (show sellE h b i j y d = 7 by rw [sellE_1 Q1.out Q2.out Q3.out (HE.out.1.trans Q4.out.1), if_neg (by have := Q4.out.2; omega), if_neg (by have := Q6.out; omega), if_pos (by rw [HE.out.2.2.2]; exact q7)])
  have hd : (b.seats[i][j] != -1) = false := by simp [q7]
  clear q7
  go_wp2_with fail
  refine (ask_no _ _).mono ?_
  rintro e wn ⟨rfl, hSn⟩
  have HTi := zH (HT.out.trans hSn)
  clear hSn HT
  have HT := HTi
  clear HTi
  exact ⟨rfl, .no (sellD_no HF.out (by simp)) HT.out⟩
 have hd : (b.seats[i][j] != -1) = true := by simp [q7]
 have Q7 := zH (show ¬ seatAt b i j = -1 by rw [HE.out.2.2.2]; exact q7)
 clear q7
 go_wp2_with fail
 refine (ask_yes _ _).mono ?_
 rintro e wn ⟨rfl, hSn⟩
 have HTi := zH (HT.out.trans hSn)
 clear hSn HT
 have HT := HTi
 clear HTi
 clear hd
 have hcall := zH (sold_any (HD.out.step HT.out) i j his hjs)
 go_wp2_with fail
 refine hcall.out.mono ?_
 clear hcall
 rintro e wn ⟨rfl, hSn⟩
 have HTi := zH (HT.out.trans hSn)
 clear hSn HT
 have HT := HTi
 clear HTi
 by_cases q8 : 0 < b.seats[i][j]
 ·have HF := zH (show sellE h b i j y d = 6 by rw [sellE_1 Q1.out Q2.out Q3.out (HE.out.1.trans Q4.out.1), if_neg (by have := Q4.out.2; omega), if_neg (by have := Q6.out; omega), if_neg Q7.out, if_pos (by rw [HE.out.2.2.2]; exact q8)])
  have hd : decide (0 < b.seats[i][j]) = true := by simpa using q8
  rw [hd]
  clear hd q8
  go_wp2_with fail
  refine (ask_no _ _).mono ?_
  rintro e wn ⟨rfl, hSn⟩
  have HTi := zH (HT.out.trans hSn)
  clear hSn HT
  have HT := HTi
  clear HTi
  exact ⟨rfl, .no (sellD_no HF.out (by simp)) HT.out⟩
 have hd : decide (0 < b.seats[i][j]) = false := by simpa using q8
 have HF := zH (show sellE h b i j y d = 0 by rw [sellE_1 Q1.out Q2.out Q3.out (HE.out.1.trans Q4.out.1), if_neg (by have := Q4.out.2; omega), if_neg (by have := Q6.out; omega), if_neg Q7.out, if_neg (by rw [HE.out.2.2.2]; exact q8)])
 rw [hd]
 clear hd q8
 go_wp2_with fail
 refine (ask_yes _ _).mono ?_
 rintro e wn ⟨rfl, hSn⟩
 have HTi := zH (HT.out.trans hSn)
 clear hSn HT
 have HT := HTi
 clear HTi
 (try clear f0 f1 f2 f3 f4 f5 f6 f7 f8 f9 f10 m0 m1 m2 m3 m4 m5 y0)
 obtain ⟨⟨f0, f1, f2, f3, f4⟩, f5, f6, f7, f8, f9, f10⟩ := cells11 (HD.out.step HT.out).bx
 rw [HAG.out] at f5
 have m0 := HT.out.kc HC.out.1
 have m1 := HT.out.kc HC.out.2.1
 have m2 := HT.out.kc HC.out.2.2.1
 have m3 := HT.out.kc HC.out.2.2.2.1
 have m4 := HT.out.kc HC.out.2.2.2.2.1
 have m5 := HT.out.kc HC.out.2.2.2.2.2
 have z0 := (HT.out.cells.2 gi j HSF.out.1).trans HSF.out.2
 go_upto_region 8 with (fail)
 have hset := (HD.out.step HT.out).setSeat (j := j) his hxi hxv y
 have HD2 := zH hset.1
 have HSX : Hid (StepX (fun k => base ≤ k) w (wn.setCell ⟨gi, j, none⟩ (.int .i64 y))) := zH ((StepX.of HT.out).setCell ⟨gi, j, none⟩ _ hset.2)
 generalize wn.setCell ⟨gi, j, none⟩ (.int .i64 y) = w9 at *
 clear hset f0 f1 f2 f3 f4 f5 f6 f7 f8 f9 f10 m0 m1 m2 m3 m4 m5 z0 HC HSF
 obtain ⟨kc, hkc, hkl, hpr, hp0, hp1⟩ := class_valid HO.out.1 (n := j) (by omega) (by have := HO.out.2.2.2.1 i his; omega)
 have hcb := HO.out.2.2.2.2.2.2
 have hcb0 := hcb.1
 have hcb1 := hcb.2.1
 have hO := okSec_valid HO.out.1
 have hj9 : (0 : Int) ≤ (j : Int) ∧ (j : Int) ≤ 1000000000 := by have := (bounds_valid HO.out.1).2.2.2.2.2.2.2.1; have := HO.out.2.2.2.1 i his; omega
 have HPR := zH hpr
 have HP := zH (fun W (hW : Step w9 W) => price_any (fun k => base ≤ k) h (.agg #[c0, .slice pp h.prices.length kp, .slice (some ⟨bd, od, none⟩) h.dates.length kd, .slice (some ⟨bf, of, none⟩) h.frm.length kf, c4]) j W ⟨_, rfl, (HD2.out.step hW).house⟩ hO hj9 kc hkc hkl)
 clear hkc hpr hcb hO
 have HT := zH (Step.refl w9)
 refine wp_region_seq (kdOf [10] []) [0, 1, 3, 7, 15, 0, 32, 96, 224, 0, 992, 2047, 4095, 8191, 16383, 32767] [0, 1, 2, 3, 4, 5, 6, 7, 8, 9, 10, 11, 12, 13, 14] [15] (by kernel_rfl) (by kernel_rfl) (fun i T z hi hk => by simp [kdOf] at hk <;> (try (split at hk <;> cases hk))) ?_
 intro Wx hWx
 have HT := zH hWx
 clear hWx
 obtain ⟨⟨f0, f1, f2, f3, f4⟩, f5, f6, f7, f8, f9, f10⟩ := cells11 (HD2.out.step HT.out).bx
 have f10 : Wx.cell? ⟨g, 10, none⟩ = some (.int .i64 b.cash) := f10
 repeat ((first | (refine run_off rfl rfl (by rfl) ?_) | (refine run_chain_off rfl rfl (by rfl) (K0_mono _) ?_) | ((refine run_want rfl rfl (by rfl) ⟨?_, fun W hW => ?_, ?_⟩; rotate_left; (· (have d0 := hW.kc f0; have d1 := hW.kc f1; have d2 := hW.kc f2; have d3 := hW.kc f3; have d4 := hW.kc f4; have d5 := hW.kc f10; go_simp; (try with_reducible rfl)))))); (try simp only [Act.put, zA, zB, zC]))
 clear f0 f1 f2 f3 f4 f5 f6 f7 f8 f9 f10
 refine run_chain rfl rfl (by rfl) (fun Wi hWi K' hK => ?_)
 have HTi := zH (HT.out.trans hWi)
 have HZW := zH HTi.out.size
 clear hWi HT
 go_simp
 refine (HP.out Wi HTi.out).mono ?_
 rintro e wn ⟨rfl, hSn⟩
 have HT := zH (HTi.out.trans (StepX.of hSn))
 clear HTi
 refine hK _ _ (StepX.of hSn) ?_
 clear hSn
 (try simp only [Act.put, zA, zB, zC])
 clear HP
 repeat ((first | (refine run_off rfl rfl (by rfl) ?_) | (refine run_chain_off rfl rfl (by rfl) (K0_mono _) ?_) | ((refine run_want rfl rfl (by rfl) ⟨?_, fun W hW => ?_, ?_⟩; rotate_left; (· (skip; go_simp; (try with_reducible rfl)))))); (try simp only [Act.put, zA, zB, zC]))
 refine run_end (L := [_]) rfl (fun W6 hW6 => ?_)
 have HT6 := zH (HT.out.trans hW6)
 clear hW6 HT
 have HT := HT6
 clear HT6
 obtain ⟨⟨f0, f1, f2, f3, f4⟩, f5, f6, f7, f8, f9, f10⟩ := cells11 (HD2.out.step HT.out).bx
 have z0 := (HD2.out.step HT.out).bx.frozen 10
 go_wp2
 go_end0
 have hD9 := HD2.out.step HT.out
 have hb9 := hD9.bx.setCell 10 (.int .i64 (b.cash + h.prices[kc]))
 have hD10 := hD9.setBook (Wrote.setCell _ g 10 _) (sellP h b i j y) rfl rfl rfl (by simpa [sellP, HPR.out, putSeat] using hb9)
 exact .yes (sellD_yes HF.out) ((HSX.out.trans (.of HT.out)).setCell ⟨g, 10, none⟩ _ hD9.gb) ⟨_, _, _, _, _, _, _, _, _, hD10⟩
end
end Go.Proofs.YtgpiieogiafdoaaGreat
namespace Go.Proofs.YtgpiieogiafdoaaGreat
set_option linter.unusedSimpArgs false
set_option linter.unusedVariables false
open Go.RowKit Go.BT
theorem infoKey : (Tryz.prog.info? 172).map (fun i => (i.zero, i.size, i.bytes)) = some (some (.agg #[.int .i64 0, .int .i64 0]), 2, 16) := by kernel_rfl
theorem eiKeys : EI Tryz.prog 75 172 (.agg #[.int .i64 0, .int .i64 0]) 2 16 := .mk' Tryz.underlying75 infoKey rfl
theorem clone_ints (S : Nat → Prop) (l : List Int) (v : Value) (w : World) (h : SL S w v l) (hl : l.length ≤ 1000000) :
  Calls Tryz.prog 121 #[v] w fun e w' => ∃ v', e = .returned v' ∧ OwnL (Old w) w.heap.size 3 w' v' l ∧ Step w w' := by
 have hq : ∀ (w : World) (a : Option Addr) (n c n' c' : Nat), (binOp .eql 23 (.slice a n c) (.slice none n' c')).run Tryz.prog w = .ok (.bool a.isNone) w := fun w a n c n' c' => Lib.run_eql_slice_nil w _ _ a n c n' c' Tryz.underlying23
 obtain ⟨p, c, rfl⟩ := h.form
 cases p with
 | none =>
  have h0 : l = [] := by
   obtain ⟨p', c', b, o, he, _, _, hp, _⟩ := h
   injection he with he _ _
   cases l with
   | nil => rfl
   | cons x l => rw [← he] at hp; have := hp (by simp); cases this
  subst h0
  have hc : (none : Option Addr).isNone = true := rfl
  go_enter Tryz.func121, Tryz.ntmps121
  go_wp2
  go_ret
  exact ⟨_, rfl, OwnL.nil _ _ _ _, Step.refl _⟩
 | some a =>
  have hc : (some a : Option Addr).isNone = false := rfl
  go_enter Tryz.func121, Tryz.ntmps121
  go_wp2_with (at_builtin; refine wpl_append (α := Int) (S := Old w) (base := w.heap.size) (v := .slice (some ⟨w.heap.size, 0, none⟩) 0 0) (l := []) (m := l) eiInts rfl _ _ rfl rfl rfl ⟨[], World.ownsRow_lit w #[] 0 (Nat.le_refl _) (by simp [maxLen]) (by simp), fun i h => absurd h (by simp)⟩ (SL.flat _ (h.keep (.alloc _ _))) l.length (by simp) l rfl ?_ ?_ ?_ ?_)
  ·simp only [maxLen]; omega
  ·omega
  ·simp
  intro p' c' w' hown hg
  go_wp2
  go_ret
  exact ⟨_, rfl, hown, .of (((Below.refl _ w).alloc (Nat.le_refl _) _).grown hg (by simp) (by simp [Value.ownBlock]))⟩
theorem clone_bools (S : Nat → Prop) (l : List Bool) (v : Value) (w : World) (h : SL S w v l) (hl : l.length ≤ 1000000) :
  Calls Tryz.prog 141 #[v] w fun e w' => ∃ v', e = .returned v' ∧ OwnL (Old w) w.heap.size 4 w' v' l ∧ Step w w' := by
 have hq : ∀ (w : World) (a : Option Addr) (n c n' c' : Nat), (binOp .eql 53 (.slice a n c) (.slice none n' c')).run Tryz.prog w = .ok (.bool a.isNone) w := fun w a n c n' c' => Lib.run_eql_slice_nil w _ _ a n c n' c' Tryz.underlying53
 obtain ⟨p, c, rfl⟩ := h.form
 cases p with
 | none =>
  have h0 : l = [] := by
   obtain ⟨p', c', b, o, he, _, _, hp, _⟩ := h
   injection he with he _ _
   cases l with
   | nil => rfl
   | cons x l => rw [← he] at hp; have := hp (by simp); cases this
  subst h0
  have hc : (none : Option Addr).isNone = true := rfl
  go_enter Tryz.func141, Tryz.ntmps141
  go_wp2
  go_ret
  exact ⟨_, rfl, OwnL.nil _ _ _ _, Step.refl _⟩
 | some a =>
  have hc : (some a : Option Addr).isNone = false := rfl
  go_enter Tryz.func141, Tryz.ntmps141
  go_wp2_with (at_builtin; refine wpl_append (α := Bool) (S := Old w) (base := w.heap.size) (v := .slice (some ⟨w.heap.size, 0, none⟩) 0 0) (l := []) (m := l) eiBools rfl _ _ rfl rfl rfl ⟨[], World.ownsRow_lit w #[] 0 (Nat.le_refl _) (by simp [maxLen]) (by simp), fun i h => absurd h (by simp)⟩ (SL.flat _ (h.keep (.alloc _ _))) l.length (by simp) l rfl ?_ ?_ ?_ ?_)
  ·simp only [maxLen]; omega
  ·omega
  ·simp
  intro p' c' w' hown hg
  go_wp2
  go_ret
  exact ⟨_, rfl, hown, .of (((Below.refl _ w).alloc (Nat.le_refl _) _).grown hg (by simp) (by simp [Value.ownBlock]))⟩
theorem clone_keys (S : Nat → Prop) (l : List Key) (v : Value) (w : World) (h : SL S w v l) (hl : l.length ≤ 1000000) :
  Calls Tryz.prog 142 #[v] w fun e w' => ∃ v', e = .returned v' ∧ OwnL (Old w) w.heap.size 172 w' v' l ∧ Step w w' := by
 have hq : ∀ (w : World) (a : Option Addr) (n c n' c' : Nat), (binOp .eql 75 (.slice a n c) (.slice none n' c')).run Tryz.prog w = .ok (.bool a.isNone) w := fun w a n c n' c' => Lib.run_eql_slice_nil w _ _ a n c n' c' Tryz.underlying75
 obtain ⟨p, c, rfl⟩ := h.form
 cases p with
 | none =>
  have h0 : l = [] := by
   obtain ⟨p', c', b, o, he, _, _, hp, _⟩ := h
   injection he with he _ _
   cases l with
   | nil => rfl
   | cons x l => rw [← he] at hp; have := hp (by simp); cases this
  subst h0
  have hc : (none : Option Addr).isNone = true := rfl
  go_enter Tryz.func142, Tryz.ntmps142
  go_wp2
  go_ret
  exact ⟨_, rfl, OwnL.nil _ _ _ _, Step.refl _⟩
 | some a =>
  have hc : (some a : Option Addr).isNone = false := rfl
  go_enter Tryz.func142, Tryz.ntmps142
  go_wp2_with (at_builtin; refine wpl_append (α := Key) (S := Old w) (base := w.heap.size) (v := .slice (some ⟨w.heap.size, 0, none⟩) 0 0) (l := []) (m := l) eiKeys rfl _ _ rfl rfl rfl ⟨[], World.ownsRow_lit w #[] 0 (Nat.le_refl _) (by simp [maxLen]) (by simp), fun i h => absurd h (by simp)⟩ (SL.flat _ (h.keep (.alloc _ _))) l.length (by simp) l rfl ?_ ?_ ?_ ?_)
  ·simp only [maxLen]; omega
  ·omega
  ·simp
  intro p' c' w' hown hg
  go_wp2
  go_ret
  exact ⟨_, rfl, hown, .of (((Below.refl _ w).alloc (Nat.le_refl _) _).grown hg (by simp) (by simp [Value.ownBlock]))⟩
structure Raw where
 v : Value
 one : v.oneCell' = true
instance : Rep Raw where
 k := 1
 rep _ _ cs x := cs = [x.v]
 len h := by rw [h]; rfl
 keep _ h := h
 weak _ h := h
 one {_ _ _ x} h := by subst h; simp [x.one]
 pos := by decide
instance : Flat Raw where
 flat h := h
theorem own_raw {S : Nat → Prop} {base : Nat} {e : TypeId} {w : World} {v : Value} {l : List Raw} (h : OwnL S base e w v l) : w.ownsRow base e 1 v l.length (l.map (·.v)) := by
 obtain ⟨xs, ho, hr⟩ := h
 have : xs = l.map (·.v) := map_of_drops ho.1 fun i hi => hr i hi
 subst this
 exact ho
theorem owns_mono {w : World} {b b' s : Nat} {e : TypeId} {v : Value} {n : Nat} {x : List Value} (h : w.ownsRow b e s v n x) (hb : b' ≤ b) : w.ownsRow b' e s v n x :=
 ⟨h.1, h.2.imp id fun ⟨g, cap, cur, h1, h2, h3⟩ => ⟨g, cap, cur, h1, Nat.le_trans hb h2, h3⟩⟩
theorem apart_rows {w : World} {b1 b2 s1 s2 : Nat} {e1 e2 : TypeId} {v1 v2 : Value} {n1 n2 : Nat} {x1 x2 : List Value} (h1 : w.ownsRow b1 e1 s1 v1 n1 x1) (h2 : w.ownsRow b2 e2 s2 v2 n2 x2) (hne : e1 ≠ e2) : ∀ k, v1.ownBlock = some k → v2.ownBlock ≠ some k := by
 intro k hk1 hk2
 rcases h1.2 with ⟨rfl, _⟩ | ⟨g, cap, cur, rfl, _, hg, _⟩
 ·simp [Value.ownBlock] at hk1
 rcases h2.2 with ⟨rfl, _⟩ | ⟨g', cap', cur', rfl, _, hg', _⟩
 ·simp [Value.ownBlock] at hk2
 simp [Value.ownBlock] at hk1 hk2
 subst hk1 hk2
 rw [hg] at hg'
 simp at hg'
 exact hne hg'.2
theorem apart_bx {w : World} {b2 s2 g : Nat} {e1 e2 : TypeId} {cs : List Value} {v2 : Value} {n2 : Nat} {x2 : List Value} (h1 : Bx w g cs e1) (h2 : w.ownsRow b2 e2 s2 v2 n2 x2) (hne : e1 ≠ e2) : v2.ownBlock ≠ some g := by
 intro hk2
 rcases h2.2 with ⟨rfl, _⟩ | ⟨g', cap', cur', rfl, _, hg', _⟩
 ·simp [Value.ownBlock] at hk2
 simp [Value.ownBlock] at hk2
 subst hk2
 unfold Bx at h1
 rw [h1] at hg'
 simp at hg'
 exact hne hg'.2
theorem Apart.snoc {l : List Value} {x : Value} (h : Apart l) (hx : ∀ y ∈ l, ∀ k, y.ownBlock = some k → x.ownBlock ≠ some k) : Apart (l ++ [x]) := by
 unfold Apart at *
 rw [List.pairwise_append]
 exact ⟨h, by simp, fun a ha b hb => by simp at hb; subst hb; exact hx a ha⟩
theorem Desk.of {base : Nat} {w : World} {g : Nat} {h : House} {b : Book} {c0 c1 c2 c3 c4 vs vo vt : Value} {xs : List Value} (bx : Bx w g [c0, c1, c2, c3, c4, .int .i64 b.agency, vs, vo, .int .i64 b.sent, vt, .int .i64 b.cash] 186)
  (gb : base ≤ g) (house : Rep.rep (fun j => base ≤ j) w [c0, c1, c2, c3, c4] h) (outer : w.ownsRow base 23 1 vs b.seats.length xs) (row : ∀ i (hi : i < b.seats.length) (hx : i < xs.length), OwnI base 3 w xs[i] b.seats[i])
  (off : OwnB base 4 w vo b.off) (took : OwnL (fun _ => False) base 172 w vt b.took) (ha : Apart xs) : Desk base w g h b c0 c1 c2 c3 c4 vs vo vt xs := by
 have hlen : xs.length = b.seats.length := by have := outer.1; omega
 obtain ⟨ts, ht, _⟩ := took
 have rowx : ∀ x ∈ xs, ∃ n l, w.ownsRow base 3 1 x n l := fun x hx => by
  obtain ⟨i, hi, rfl⟩ := List.getElem_of_mem hx
  exact ⟨_, _, row i (by omega) hi⟩
 refine ⟨bx, gb, house, outer, row, off, ⟨ts, ht, by assumption⟩, ?_⟩
 unfold Apart at *
 simp only [List.pairwise_cons, List.mem_cons, forall_eq_or_imp]
 refine ⟨⟨fun k hk => ?_, fun k hk => ?_, fun k hk => ?_, fun x hx k hk => ?_⟩, ⟨apart_rows outer off (by decide), apart_rows outer ht (by decide), fun x hx => ?_⟩, ⟨apart_rows off ht (by decide), fun x hx => ?_⟩, fun x hx => ?_, ha⟩
 ·obtain rfl : g = k := by simpa [own_blk] using hk
  exact apart_bx bx outer (by decide)
 ·obtain rfl : g = k := by simpa [own_blk] using hk
  exact apart_bx bx off (by decide)
 ·obtain rfl : g = k := by simpa [own_blk] using hk
  exact apart_bx bx ht (by decide)
 ·obtain rfl : g = k := by simpa [own_blk] using hk
  obtain ⟨n, l, hr⟩ := rowx x hx
  exact apart_bx bx hr (by decide)
 ·obtain ⟨n, l, hr⟩ := rowx x hx
  exact apart_rows outer hr (by decide)
 ·obtain ⟨n, l, hr⟩ := rowx x hx
  exact apart_rows off hr (by decide)
 ·obtain ⟨n, l, hr⟩ := rowx x hx
  exact apart_rows ht hr (by decide)
def AtRel (w W1 : World) (b : Book) (e0 e1 e2 e3 e4 vo vt : Value) (k : Nat) (wr : World) (vs : Value) (xs : List Raw) : Prop :=
 Bx wr (w.heap.size + 2) [e0, e1, e2, e3, e4, .int .i64 b.agency, vs, vo, .int .i64 b.sent, vt, .int .i64 b.cash] 186 ∧ OwnL (fun _ => False) W1.heap.size 23 wr vs xs ∧ xs.length = k ∧
 (∀ i (hi : i < b.seats.length) (hx : i < xs.length), OwnI w.heap.size 3 wr xs[i].v b.seats[i]) ∧ Apart (xs.map (·.v)) ∧ Step W1 wr
theorem AtRel.grown {w W1 wr W6 w2 : World} {b : Book} {e0 e1 e2 e3 e4 vo vt vs : Value} {xs : List Raw} {k : Nat} (h : AtRel w W1 b e0 e1 e2 e3 e4 vo vt k wr vs xs) (hT : Step wr W6) (hg : W6.grownBy w2 vs.ownBlock) :
  Bx w2 (w.heap.size + 2) [e0, e1, e2, e3, e4, .int .i64 b.agency, vs, vo, .int .i64 b.sent, vt, .int .i64 b.cash] 186 := by
 have ho := own_raw h.2.1
 exact (h.1.step hT).keep (S := fun j => vs.ownBlock = some j) (.grown hg fun j hj _ => hj) (apart_bx h.1 ho (by decide))
theorem AtRel.next {w W1 wr W6 w2 : World} {b : Book} {e0 e1 e2 e3 e4 vo vt vs vs' : Value} {xs : List Raw} {k : Nat} (h : AtRel w W1 b e0 e1 e2 e3 e4 vo vt k wr vs xs) (hz : W1.heap.size = w.heap.size + 2) (hlt : k < b.seats.length) (hT : Step wr W6) (x : Raw)
  (hx : OwnI wr.heap.size 3 W6 x.v b.seats[k]) (hown : OwnL (fun _ => False) W1.heap.size 23 w2 vs' (xs ++ [x])) (hg : W6.grownBy w2 vs.ownBlock) :
  AtRel w W1 b e0 e1 e2 e3 e4 vo vt (k + 1) (w2.setCell ⟨w.heap.size + 2, 6, none⟩ vs') vs' (xs ++ [x]) := by
 have hb := h.grown hT hg
 obtain ⟨h1, h2, h3, h4, h5, h6⟩ := h
 have ho := own_raw h2
 have ho' := own_raw hown
 have hw : Wrote (w.heap.size + 2) w2 (w2.setCell ⟨w.heap.size + 2, 6, none⟩ vs') := Wrote.setCell _ _ _ _
 have hwz : w.heap.size ≤ wr.heap.size := by have := h6.size; omega
 have grownNone : wr.grownBy W6 none := ⟨hT.os, hT.tape, hT.output, hT.size, fun j hj _ => hT.block j hj id⟩
 have keepRow : ∀ {base n : Nat} {u : Value} {l : List Value}, W6.ownsRow base 3 1 u n l → (w2.setCell ⟨w.heap.size + 2, 6, none⟩ vs').ownsRow base 3 1 u n l := fun {base n u l} hr => by
  have h7 := hr.kept hg (by
   cases hq : u.ownBlock with
   | none => exact .inl rfl
   | some q => exact .inr fun he => apart_rows hr (ho.kept grownNone (by cases vs.ownBlock <;> simp)) (by decide) q hq he.symm)
  refine h7.kept hw.grown (.inr ?_)
  exact apart_bx hb h7 (by decide)
 have h61 : Step W1 w2 := by
  have := h6.trans hT
  exact StepX.fresh (w := W6) (X := fun j => vs.ownBlock = some j) this (StepX.grown hg fun j hj _ => hj) (fun j hj => (h2.lt j hj).1)
 refine ⟨hb.setCell 6 vs', hown.keptF fun g' hg' => hw.block g' fun e => apart_bx hb ho' (by decide) (e ▸ hg'), by simp [h3], fun i hi hxi => ?_, ?_, ?_⟩
 ·by_cases hik : i < xs.length
  ·have : (xs ++ [x])[i] = xs[i] := List.getElem_append_left hik
   rw [this]
   exact keepRow ((h4 i hi hik).kept grownNone (by cases (xs[i]).v.ownBlock <;> simp))
  ·have hi2 : i = k := by simp at hxi; omega
   subst hi2
   have : (xs ++ [x])[i] = x := by simp [List.getElem_append, h3]
   rw [this]
   exact keepRow (owns_mono hx hwz)
 ·rw [List.map_append]
  refine h5.snoc fun y hy k' hk' he => ?_
  obtain ⟨y', hy', rfl⟩ := List.mem_map.1 hy
  obtain ⟨i, hi, rfl⟩ := List.getElem_of_mem hy'
  have a1 := ((h4 i (by omega) hi).lt k' hk').2
  have a2 := (hx.lt k' he).1
  omega
 ·exact h61.setNew ⟨w.heap.size + 2, 6, none⟩ vs' (by show W1.heap.size ≤ w.heap.size + 2; omega)
theorem AtRel.done {w W1 wr W6 : World} {h : House} {b : Book} {e0 e1 e2 e3 e4 vo vt vs vo' vt' : Value} {xs : List Raw} {k : Nat} (hr : AtRel w W1 b e0 e1 e2 e3 e4 vo vt k wr vs xs) (hz : W1.heap.size = w.heap.size + 2) (hk : k = b.seats.length) (hT : Step wr W6)
  (hS : Step w W1) (hR : Rep.rep (fun j => w.heap.size ≤ j) w [e0, e1, e2, e3, e4] h) (ho : OwnB wr.heap.size 4 W6 vo' b.off) (ht : OwnL (fun _ => False) wr.heap.size 172 W6 vt' b.took) :
  DeskE w.heap.size ((W6.setCell ⟨w.heap.size + 2, 7, none⟩ vo').setCell ⟨w.heap.size + 2, 9, none⟩ vt') (w.heap.size + 2) h b ∧ Step w ((W6.setCell ⟨w.heap.size + 2, 7, none⟩ vo').setCell ⟨w.heap.size + 2, 9, none⟩ vt') := by
 obtain ⟨h1, h2, h3, h4, h5, h6⟩ := hr
 have hwz : w.heap.size ≤ wr.heap.size := by have := h6.size; omega
 have hw : Wrote (w.heap.size + 2) W6 ((W6.setCell ⟨w.heap.size + 2, 7, none⟩ vo').setCell ⟨w.heap.size + 2, 9, none⟩ vt') := by
  have a := Wrote.setCell W6 (w.heap.size + 2) 7 vo'
  have b := Wrote.setCell (W6.setCell ⟨w.heap.size + 2, 7, none⟩ vo') (w.heap.size + 2) 9 vt'
  exact ⟨b.os.trans a.os, b.tape.trans a.tape, b.output.trans a.output, b.size.trans a.size, fun j hj => (b.block j hj).trans (a.block j hj)⟩
 have hb6 := h1.step hT
 have hb := (hb6.setCell 7 vo').setCell 9 vt'
 have grownNone : wr.grownBy W6 none := ⟨hT.os, hT.tape, hT.output, hT.size, fun j hj _ => hT.block j hj id⟩
 have hst : Step w W6 := hS.trans (h6.trans hT)
 have how := (own_raw h2).kept grownNone (by cases vs.ownBlock <;> simp)
 have hRw : ∀ i (hi : i < b.seats.length) (hx : i < xs.length), OwnI w.heap.size 3 W6 xs[i].v b.seats[i] := fun i hi hx => (h4 i hi hx).kept grownNone (by cases (xs[i]).v.ownBlock <;> simp)
 obtain ⟨ts, ht1, ht2⟩ := ht
 refine ⟨⟨e0, e1, e2, e3, e4, vs, vo', vt', xs.map (·.v), Desk.of hb (by omega) ?_ ?_ ?_ ?_ ?_ h5⟩, Step.wrote hst hw (by omega)⟩
 ·exact Rep.keep (keeps_of_wrote hw (by omega)) (Rep.keep (.of_step hst) hR)
 ·have := owns_mono (b' := w.heap.size) (how.kept hw.grown (.inr (apart_bx hb6 how (by decide)))) (by omega)
  rw [h3, hk] at this
  exact this
 ·intro i hi hx
  have hx' : i < xs.length := by simpa using hx
  rw [List.getElem_map]
  exact (hRw i hi hx').kept hw.grown (.inr (apart_bx hb6 (hRw i hi hx') (by decide)))
 ·exact owns_mono (ho.kept hw.grown (.inr (apart_bx hb6 ho (by decide)))) hwz
 ·refine OwnL.keptF (w := W6) ⟨ts, owns_mono ht1 hwz, ht2⟩ fun g hg => hw.block g fun e => apart_bx hb6 ht1 (by decide) (e ▸ hg)
theorem at_any (S : Nat → Prop) (h : House) (b : Book) (v u : Value) (w : World) (hv : AV S w v h) (hu : AV S w u b) (hs : b.seats.length ≤ 1000) (hr : ∀ i (hi : i < b.seats.length), b.seats[i].length ≤ 1000000) (ho : b.off.length ≤ 1000) (ht : b.took.length ≤ 1002) :
  Calls Tryz.prog 113 #[v, u] w fun e w' => ∃ g, e = .returned (.pointer (some ⟨g, 0, none⟩)) ∧ DeskE w.heap.size w' g h b ∧ Step w w' := by
 obtain ⟨cs, rfl, hr0⟩ := hv
 obtain ⟨c0, c1, c2, c3, c4, rfl, h0, h1, h2, h3, h4⟩ := hr0
 obtain ⟨p0, k0, rfl⟩ := h0.form
 obtain ⟨p1, k1, rfl⟩ := h1.form
 obtain ⟨p2, k2, rfl⟩ := h2.form
 obtain ⟨p3, k3, rfl⟩ := h3.form
 obtain ⟨p4, k4, rfl⟩ := h4.form
 have hold : ∀ j, j < w.heap.size → w.heap.size ≤ j → S j := fun j h1 h2 => by omega
 have hR : Rep.rep (fun j => w.heap.size ≤ j) w [.slice p0 h.sectors.length k0, .slice p1 h.prices.length k1, .slice p2 h.dates.length k2, .slice p3 h.frm.length k3, .slice p4 h.holds.length k4] h := ⟨_, _, _, _, _, rfl, h0.weak hold, h1.weak hold, h2.weak hold, h3.weak hold, h4.weak hold⟩
 obtain ⟨d1, d2, d4, rfl, s1, s2, s4⟩ := hu.book
 obtain ⟨q1, m1, rfl⟩ := s1.form
 obtain ⟨q2, m2, rfl⟩ := s2.form
 obtain ⟨q4, m4, rfl⟩ := s4.form
 obtain ⟨W1, hW1⟩ : ∃ W1, W1 = (w.alloc (.cells #[.slice p0 h.sectors.length k0, .slice p1 h.prices.length k1, .slice p2 h.dates.length k2, .slice p3 h.frm.length k3, .slice p4 h.holds.length k4] 41)).alloc (.cells #[.int .i64 b.agency, .slice q1 b.seats.length m1, .slice q2 b.off.length m2, .int .i64 b.sent, .slice q4 b.took.length m4, .int .i64 b.cash] 77) := ⟨_, rfl⟩
 have hb2 : Bx W1 (w.heap.size + 1) [.int .i64 b.agency, .slice q1 b.seats.length m1, .slice q2 b.off.length m2, .int .i64 b.sent, .slice q4 b.took.length m4, .int .i64 b.cash] 77 := by subst hW1; exact Bx.new' _ _ _ _ (by simp)
 have hS : Step w W1 := by subst hW1; exact (by with_reducible repeat (first | assumption | exact Step.refl _ | apply Step.s_alloc | apply Step.s_drew | apply Step.s_drewN | refine Step.trans ?_ (by assumption)))
 have hz1 : W1.heap.size = w.heap.size + 2 := by subst hW1; simp
 have HR := zH hR
 have HB2 := zH hb2
 have HS := zH hS
 have HZ1 := zH hz1
 have H1 := zH s1
 have H2 := zH s2
 have H4 := zH s4
 have HRL := zH hr
 have HW := zH hW1
 clear hR hb2 hS hz1 h0 h1 h2 h3 h4 s1 s2 s4 hu hold hr hW1
 go_enter Tryz.func113, Tryz.ntmps113
 go_wp2
 rw [← HW.out]
 have hb3 := Bx.new' W1 [.slice p0 h.sectors.length k0, .slice p1 h.prices.length k1, .slice p2 h.dates.length k2, .slice p3 h.frm.length k3, .slice p4 h.holds.length k4, .int .i64 b.agency, .slice none 0 0, .slice q2 b.off.length m2, .int .i64 b.sent, .slice q4 b.took.length m4, .int .i64 b.cash] 186 _ HZ1.out
 have h30 : AtRel w W1 b (.slice p0 h.sectors.length k0) (.slice p1 h.prices.length k1) (.slice p2 h.dates.length k2) (.slice p3 h.frm.length k3) (.slice p4 h.holds.length k4) (.slice q2 b.off.length m2) (.slice q4 b.took.length m4) 0 _ _ [] :=
  ⟨hb3, OwnL.nil _ _ _ _, rfl, fun i _ hx => absurd hx (by simp), List.Pairwise.nil, Step.alloc _ _⟩
 go_loopw [19] (fun i wr => ∃ (k : Nat) (vs : Value) (xs : List Raw), k ≤ b.seats.length ∧ i = .int .i64 k ∧ AtRel w W1 b (.slice p0 h.sectors.length k0) (.slice p1 h.prices.length k1) (.slice p2 h.dates.length k2) (.slice p3 h.frm.length k3) (.slice p4 h.holds.length k4) (.slice q2 b.off.length m2) (.slice q4 b.took.length m4) k wr vs xs) (fun i _ => b.seats.length - (intOf i).toNat)
 case atStart => exact ⟨0, _, _, Nat.zero_le _, rfl, h30⟩
 case round =>
  clear hb3 h30
  obtain ⟨k, vs, xs, hk, rfl, hR⟩ := hrel
  have HA := zH hR
  clear hR
  by_cases hlt : k < b.seats.length
  ·obtain ⟨p', c', bb, oo, he, _, _, hp, hc, hbb⟩ := H1.out.rows
   injection he with he1 _ he3
   subst he1 he3
   obtain rfl := hp (by omega)
   obtain ⟨u, hu1, hu2⟩ := hc k hlt
   have HU := zH (And.intro hu1 hu2)
   clear hp hc hbb hu1 hu2
   have e1 := (HS.out.trans HA.out.2.2.2.2.2).kc HU.out.1
   have hx : (0 : Int) ≤ (k : Int) ∧ (k : Int) < (b.seats.length : Int) := by omega
   go_upto_region 6 with (fail)
   have HT := zH (Step.refl wr)
   refine wp_region_seqM (fun c d v a w h => by cases d <;> exact h) (kdOf [7, 8] []) [0, 0, 2, 6, 14, 30, 0, 64, 192, 510, 1023, 2047, 4095, 8191] [0, 1, 2, 3, 4, 5, 6, 7, 8] [9, 10, 11, 12, 13] (by kernel_rfl) (by kernel_rfl) (fun i T z hi hk => by simp [kdOf] at hk <;> (try (split at hk <;> cases hk))) ?_
   intro Wx hWx
   have HT := zH hWx
   clear hWx e1
   have f6 := (HA.out.1.step HT.out).cell 6
   simp only [zD, zE] at f6
   repeat ((first | (refine run_off rfl rfl (by rfl) ?_) | (refine run_chain_off rfl rfl (by rfl) (K0_mono _) ?_) | ((refine run_want rfl rfl (by rfl) ⟨?_, fun W hW => ?_, ?_⟩; rotate_left; (· (have d0 := hW.kc f6; go_simp; (try with_reducible rfl)))))); (try simp only [Act.put, zA, zB, zC]))
   refine run_chain rfl rfl (by rfl) (fun Wi hWi K' hK => ?_)
   have HTi := zH (HT.out.trans hWi)
   have HZW := zH HTi.out.size
   clear hWi HT
   go_simp
   refine (clone_ints S b.seats[k] u Wi (HU.out.2.keep (.of_step ((HS.out.trans HA.out.2.2.2.2.2).trans HTi.out))) (HRL.out k hlt)).mono ?_
   rintro e wn ⟨v', rfl, hv', hSn⟩
   have HT := zH (HTi.out.trans (StepX.of hSn))
   clear HTi
   have HZI : Hid (wr.heap.size ≤ Wi.heap.size) := HZW
   obtain ⟨pv, cv, rfl, _, _⟩ := hv'.form
   refine hK _ _ (StepX.of hSn) ?_
   clear hSn
   (try simp only [Act.put, zA, zB, zC])
   refine run_chain rfl rfl (by rfl) (fun Wj hWj K'' hK'' => ?_)
   go_simp
   refine hK'' _ _ (.of (Step.alloc _ _)) ?_
   (try simp only [Act.put, zA, zB, zC])
   refine run_end (L := [_, _, _, _, _]) rfl (fun W6 hW6 => ?_)
   have hu := (SLe.one (S := avoid (fun _ => False) vs) (w := Wj) (cs := [.slice pv b.seats[k].length cv]) (x := (⟨.slice pv b.seats[k].length cv, rfl⟩ : Raw)) 23 rfl).step hW6
   have hTj : Step wn W6 := (hWj.trans (Step.alloc _ _)).trans hW6
   have hv6 : OwnI wr.heap.size 3 W6 (.slice pv b.seats[k].length cv) b.seats[k] := owns_mono (OwnI.of (hv'.step hTj)) HZI.out
   have HV6 := zH hv6
   have HT6 := zH (HT.out.trans hTj)
   have hown := HA.out.2.1.step HT6.out
   have hlen := HA.out.2.2.1
   have hn1 : xs.length + [(⟨.slice pv b.seats[k].length cv, rfl⟩ : Raw)].length = k + 1 := by simp; exact hlen
   have hn2 : k + 1 ≤ maxLen := by simp only [maxLen]; omega
   have hn3 : W1.heap.size ≤ W6.heap.size := Nat.le_trans HA.out.2.2.2.2.2.size HT6.out.size
   clear hv' hWj hW6 hTj hv6 HT f6 hlen
   go_wp2_with (at_builtin; refine wpl_append (α := Raw) (S := fun _ => False) (base := W1.heap.size) (v := vs) (l := xs) (m := [⟨.slice pv b.seats[k].length cv, rfl⟩]) eiRows rfl _ _ rfl rfl rfl hown hu (k + 1) hn1 (xs ++ [⟨.slice pv b.seats[k].length cv, rfl⟩]) rfl hn2 (by omega) hn3 ?_)
   intro p2 c2 w2 hown4 hg4
   have hb4 := HA.out.grown HT6.out hg4
   have f6 := hb4.cell 6
   have z6 := hb4.frozen 6
   simp only [zD, zE] at f6
   have hN := zH (HA.out.next HZ1.out hlt HT6.out _ HV6.out hown4 hg4)
   clear hb4 hown hu hown4 hg4 hn1 hn2 hn3
   go_wp2
   go_roundw
   case rel => exact ⟨k + 1, _, _, by omega, by go_num, hN.out⟩
   case measure => simp [intOf]; omega
  ·have hkk : k = b.seats.length := by omega
   have HK := zH hkk
   clear hkk
   have f6 := (HA.out.1).cell 6
   have hg2 : w.heap.size + 1 ≠ w.heap.size + 2 := by omega
   obtain ⟨y0, y1, y2, y3, y4, y5⟩ := cells6 (HB2.out.step HA.out.2.2.2.2.2)
   go_upto_region 8 with (fail)
   have HT := zH (Step.refl wr)
   refine wp_region_seqM (fun c d v a w h => by cases d <;> exact h) (kdOf [4, 7] []) [0, 0, 0, 4, 12, 0, 32, 124, 253, 509, 1021, 2045, 4095, 8191, 16383, 32767] [0, 1, 2, 3, 5, 6, 4, 7, 8, 9, 10] [11, 12, 13, 14, 15] (by kernel_rfl) (by kernel_rfl) (fun i T z hi hk => by simp [kdOf] at hk <;> (try (split at hk <;> cases hk))) ?_
   intro Wx hWx
   have HT := zH hWx
   clear hWx
   have y2 := HT.out.kc y2
   have y4 := HT.out.kc y4
   repeat ((first | (refine run_off rfl rfl (by rfl) ?_) | (refine run_chain_off rfl rfl (by rfl) (K0_mono _) ?_) | ((refine run_want rfl rfl (by rfl) ⟨?_, fun W hW => ?_, ?_⟩; rotate_left; (· (have d0 := hW.kc y2; have d1 := hW.kc y4; go_simp; (try with_reducible rfl)))))); (try simp only [Act.put, zA, zB, zC]))
   refine run_chain rfl rfl (by rfl) (fun Wi hWi K' hK => ?_)
   have HTi := zH (HT.out.trans hWi)
   have HZW := zH HTi.out.size
   clear hWi HT
   go_simp
   refine (clone_bools S b.off _ Wi (H2.out.keep (.of_step ((HS.out.trans HA.out.2.2.2.2.2).trans HTi.out))) (by omega)).mono ?_
   rintro e wn ⟨vo, rfl, hvo, hSn⟩
   have HT := zH (HTi.out.trans (StepX.of hSn))
   clear HTi
   obtain ⟨po, co, rfl, _, _⟩ := hvo.form
   have HVO := zH (OwnB.of hvo)
   have HZI := HZW
   have HT1 := HT
   have HT := zH (Step.refl wn)
   have HWN : Hid (Step wr wn) := HT1
   refine hK _ _ (StepX.of hSn) ?_
   clear hSn
   (try simp only [Act.put, zA, zB, zC])
   clear hvo HT1
   have y4 := ((HA.out.2.2.2.2.2.trans HWN.out).trans HT.out).kc ((HB2.out).cell 4)
   repeat ((first | (refine run_off rfl rfl (by rfl) ?_) | (refine run_chain_off rfl rfl (by rfl) (K0_mono _) ?_) | ((refine run_want rfl rfl (by rfl) ⟨?_, fun W hW => ?_, ?_⟩; rotate_left; (· (have d0 := hW.kc y4; go_simp; (try with_reducible rfl)))))); (try simp only [Act.put, zA, zB, zC]))
   refine run_chain rfl rfl (by rfl) (fun Wi hWi K' hK => ?_)
   have HTi := zH (HT.out.trans hWi)
   have HZW := zH HTi.out.size
   clear hWi HT
   go_simp
   refine (clone_keys S b.took _ Wi (H4.out.keep (.of_step (((HS.out.trans HA.out.2.2.2.2.2).trans HWN.out).trans HTi.out))) (by omega)).mono ?_
   rintro e wn ⟨vt, rfl, hvt, hSn⟩
   have HT := zH (HTi.out.trans (StepX.of hSn))
   clear HTi
   obtain ⟨pt, ct, rfl, _, _⟩ := hvt.form
   have HVT := zH (OwnL.flat (fun _ => False) hvt)
   have HZI2 := HZW
   have HSI := zH hSn
   refine hK _ _ (StepX.of hSn) ?_
   clear hSn
   (try simp only [Act.put, zA, zB, zC])
   clear hvt
   repeat ((first | (refine run_off rfl rfl (by rfl) ?_) | (refine run_chain_off rfl rfl (by rfl) (K0_mono _) ?_) | ((refine run_want rfl rfl (by rfl) ⟨?_, fun W hW => ?_, ?_⟩; rotate_left; (· (skip; go_simp; (try with_reducible rfl)))))); (try simp only [Act.put, zA, zB, zC]))
   refine run_end (L := [_, _, _, _, _]) rfl (fun W6 hW6 => ?_)
   have HTn := zH (HT.out.trans hW6)
   have HT6 := zH (HWN.out.trans HTn.out)
   have hnn : ∀ v : Value, v.ownBlock = none ∨ v.ownBlock ≠ none := fun v => by cases v.ownBlock <;> simp
   have HO6 : Hid (OwnB wr.heap.size 4 W6 (.slice po b.off.length co) b.off) := zH (World.ownsRow.kept (owns_mono HVO.out HZI.out) ⟨HTn.out.os, HTn.out.tape, HTn.out.output, HTn.out.size, fun j hj _ => HTn.out.block j hj id⟩ (hnn _))
   have b6 := HA.out.1.step HT6.out
   have f7 := b6.cell 7
   have z7 := b6.frozen 7
   have f9 := b6.cell 9
   have z9 := b6.frozen 9
   simp only [zD, zE] at f7 f9
   have HF := zH (HA.out.done HZ1.out HK.out HT6.out HS.out HR.out HO6.out (OwnL.step (by obtain ⟨xs', h1, h2⟩ := HVT.out; exact ⟨xs', owns_mono h1 (Nat.le_trans HWN.out.size HZI2.out), h2⟩) hW6))
   clear b6 hW6 y4 y2 y0 y1 y3 y5 f6
   go_wp2
   go_ret
   exact ⟨_, rfl, HF.out⟩
theorem of_any (S : Nat → Prop) (h : House) (v : Value) (c : Int) (w : World) (hv : AV S w v h) :
  Calls Tryz.prog 65 #[v, .int .i64 c] w fun e w' => ∃ c0 c1 c2 c3 c4, e = .returned (.func (.func 111) #[] #[.pointer (some ⟨w.heap.size, 0, none⟩), .pointer (some ⟨w.heap.size + 1, 0, none⟩)]) ∧ Bx w' w.heap.size [c0, c1, c2, c3, c4] 41 ∧ Rep.rep S w' [c0, c1, c2, c3, c4] h ∧ Bx w' (w.heap.size + 1) [.int .i64 c] 3 ∧ Step w w' ∧ w'.heap.size = w.heap.size + 2 := by
 obtain ⟨cs, rfl, hr⟩ := hv
 have hr0 := hr
 obtain ⟨c0, c1, c2, c3, c4, rfl, h0, h1, h2, h3, h4⟩ := hr
 have hmf : ∀ (fn : Fn) (first cap : Array Value) (w : World), (Instr.makeFunc fn first cap).run Tryz.prog w = .ok (.func fn first cap) w := fun _ _ _ _ => rfl
 obtain ⟨p0, k0, rfl⟩ := h0.form
 obtain ⟨p1, k1, rfl⟩ := h1.form
 obtain ⟨p2, k2, rfl⟩ := h2.form
 obtain ⟨p3, k3, rfl⟩ := h3.form
 obtain ⟨p4, k4, rfl⟩ := h4.form
 clear h0 h1 h2 h3 h4
 have HR := zH hr0
 clear hr0
 go_enter Tryz.func65, Tryz.ntmps65
 go_wp2
 go_ret
 have hS : Step w ((w.alloc (.cells #[.slice p0 h.sectors.length k0, .slice p1 h.prices.length k1, .slice p2 h.dates.length k2, .slice p3 h.frm.length k3, .slice p4 h.holds.length k4] 41)).alloc (.cells #[.int .i64 c] 3)) := (by with_reducible repeat (first | assumption | exact Step.refl _ | apply Step.s_alloc | apply Step.s_drew | apply Step.s_drewN | refine Step.trans ?_ (by assumption)))
 exact ⟨_, _, _, _, _, rfl, (Bx.new _ [_, _, _, _, _] _).alloc _, Rep.keep (.of_step hS) HR.out, Bx.new' _ [_] _ _ (by simp), hS, by simp⟩
def sellsB (h : House) (b : Book) (s d : Int) : Bool := !offAt b s && withinB d (fromAt h s b.agency) (dateAt h s)
section
variable {base : Nat} {w : World} {g : Nat} {h : House} {b : Book} {c0 c1 c2 c3 c4 vs vo vt : Value} {xs : List Value}
theorem Desk.show_at (D : Desk base w g h b c0 c1 c2 c3 c4 vs vo vt xs) (hO : OkDesk h b) {i : Nat} (hi : i < h.dates.length) : ∃ go co bf of kf bg og kg bd od kd ag : Nat, vo = .slice (some ⟨go, 0, none⟩) b.off.length co ∧ c3 = .slice (some ⟨bf, of, none⟩) h.frm.length kf ∧
  c2 = .slice (some ⟨bd, od, none⟩) h.dates.length kd ∧ b.agency = ag ∧ w.cell? ⟨go, i, none⟩ = some (.bool (offAt b i)) ∧ w.cell? ⟨bf, of + i, none⟩ = some (.slice (some ⟨bg, og, none⟩) (agN h) kg) ∧ w.cell? ⟨bg, og + ag, none⟩ = some (.int .i64 (fromAt h i b.agency)) ∧
  w.cell? ⟨bd, od + i, none⟩ = some (.int .i64 (dateAt h i)) ∧ i < b.off.length ∧ i < h.frm.length ∧ ag < agN h ∧ w.frozen? ⟨go, i, none⟩ = false ∧ go < w.heap.size := by
 have hbv := bounds_valid hO.1
 have hio : i < b.off.length := by have := hO.2.1; omega
 have hif : i < h.frm.length := by omega
 have hag0 := hO.2.2.2.2.1
 have hag1 := hO.2.2.2.2.2.1
 obtain ⟨ag, hag⟩ : ∃ ag : Nat, b.agency = ag := ⟨b.agency.toNat, by omega⟩
 have hagf : ag < h.frm[i].length := by rw [from_row hO.1 hif]; omega
 obtain ⟨go, co, rfl, hoc, hof, hol⟩ := D.off_at hio
 obtain ⟨r0, r1, r2, r3, r4⟩ := rep5 D.house
 obtain ⟨pf, kf, bf, of, rfl, _, _, hpf, hcf, hbf⟩ := r3.rows
 obtain rfl := hpf (by omega)
 obtain ⟨fv, hfc, hfs⟩ := hcf i hif
 obtain ⟨pg, kg, bg, og, rfl, _, _, hpg, hcg, hbg⟩ := hfs.ints
 obtain rfl := hpg (by omega)
 obtain ⟨pd, kd, bd, od, rfl, _, _, hpd, hcd, hbd⟩ := r2.ints
 obtain rfl := hpd (by omega)
 have hrow := from_row hO.1 hif
 refine ⟨go, co, bf, of, kf, bg, og, kg, bd, od, kd, ag, rfl, rfl, rfl, hag, ?_, ?_, ?_, ?_, hio, hif, by omega, hof i, hol⟩
 ·rw [hoc i hio]; simp [offAt, List.getD_eq_getElem?_getD, hio]
 ·rw [hfc, hrow]
 ·rw [hcg ag hagf]; rw [hag]; simp [fromAt, List.getD_eq_getElem?_getD, hif, hagf]
 ·rw [hcd i hi]; simp [dateAt, List.getD_eq_getElem?_getD, hi]
theorem sells_any (D : Desk base w g h b c0 c1 c2 c3 c4 vs vo vt xs) (hO : OkDesk h b) (i : Nat) (hi : i < h.dates.length) (d : Int) :
  Calls Tryz.prog 124 #[.pointer (some ⟨g, 0, none⟩), .int .i64 i, .int .i64 d] w fun e w' => e = .returned (.bool (sellsB h b i d)) ∧ Step w w' := by
 obtain ⟨go, co, bf, of, kf, bg, og, kg, bd, od, kd, ag, rfl, rfl, rfl, hag, m0, m1, m2, m3, hio, hif, hagl, _⟩ := D.show_at hO hi
 have hx1 : (0 : Int) ≤ (i : Int) ∧ (i : Int) < (b.off.length : Int) := by omega
 have hx4 : (0 : Int) ≤ (i : Int) ∧ (i : Int) < (h.frm.length : Int) := by omega
 have hx5 : (0 : Int) ≤ (ag : Int) ∧ (ag : Int) < (agN h : Int) := by omega
 have hx6 : (0 : Int) ≤ (i : Int) ∧ (i : Int) < (h.dates.length : Int) := by omega
 have HD := zH D
 have HM := zH (And.intro m0 (And.intro m1 (And.intro m2 m3)))
 have HAG := zH hag
 clear D hO m0 m1 m2 m3 hag
 go_enter Tryz.func124, Tryz.ntmps124
 go_upto_region 1 with (fail)
 refine wp_region_seq (kdOf [34] []) (0 :: 1 :: 3 :: 7 :: 15 :: 0 :: 63 :: 127 :: 255 :: 511 :: 1023 :: 1023 :: 3071 :: 7167 :: 15359 :: 31743 :: 1023 :: 130047 :: 261119 :: 1023 :: 525311 :: 1573887 :: 3671039 :: 7865343 :: 16776191 :: 33553407 :: 1023 :: 67109887 :: 201327615 :: 469763071 :: 1006633983 :: 1023 :: 4227859455 :: 8522826751 :: 17179869183 :: 34359738367 :: 68719476735 :: []) (0 :: 1 :: 2 :: 3 :: 4 :: 5 :: 6 :: 7 :: 8 :: 9 :: 10 :: 11 :: 12 :: 13 :: 14 :: 15 :: 16 :: 17 :: 18 :: 19 :: 20 :: 21 :: 22 :: 23 :: 24 :: 25 :: 26 :: 27 :: 28 :: 29 :: 30 :: 31 :: 32 :: 33 :: 34 :: 35 :: 36 :: []) [] (by kernel_rfl) (by kernel_rfl) (fun i T z hi hk => by simp [kdOf] at hk <;> (try (split at hk <;> cases hk))) ?_
 intro Wx hWx
 have HT := zH hWx
 clear hWx
 obtain ⟨⟨f0, f1, f2, f3, f4⟩, f5, f6, f7, f8, f9, f10⟩ := cells11 (HD.out.step HT.out).bx
 rw [HAG.out] at f5
 have m0 := HT.out.kc HM.out.1
 have m1 := HT.out.kc HM.out.2.1
 have m2 := HT.out.kc HM.out.2.2.1
 have m3 := HT.out.kc HM.out.2.2.2
 cases q : offAt b i with
 | true =>
  rw [q] at m0
  have HF := zH (show sellsB h b i d = false by simp [sellsB, q])
  clear q
  repeat ((first | (refine run_off rfl rfl (by rfl) ?_) | (refine run_chain_off rfl rfl (by rfl) (K0_mono _) ?_) | ((refine run_want rfl rfl (by rfl) ⟨?_, fun W hW => ?_, ?_⟩; rotate_left; (· (have d0 := hW.kc f7; have d1 := hW.kc m0; go_simp; (try with_reducible rfl)))))); (try simp only [Act.put, zA, zB, zC]))
  refine run_end (L := []) rfl (fun W6 hW6 => ?_)
  have HT6 := zH (HT.out.trans hW6)
  clear hW6 HT
  have HT := HT6
  clear HT6
  go_wp2
  go_ret
  exact ⟨by rw [HF.out]; rfl, HT.out⟩
 | false =>
  rw [q] at m0
  have HF := zH (show sellsB h b i d = withinB d (fromAt h i b.agency) (dateAt h i) by simp [sellsB, q])
  clear q
  repeat ((first | (refine run_off rfl rfl (by rfl) ?_) | (refine run_chain_off rfl rfl (by rfl) (K0_mono _) ?_) | ((refine run_want rfl rfl (by rfl) ⟨?_, fun W hW => ?_, ?_⟩; rotate_left; (· (have d0 := hW.kc f7; have d1 := hW.kc m0; have d2 := hW.kc f3; have d3 := hW.kc m1; have d4 := hW.kc f5; have d5 := hW.kc m2; have d6 := hW.kc f2; have d7 := hW.kc m3; go_simp; (try with_reducible rfl)))))); (try simp only [Act.put, zA, zB, zC]))
  refine run_chain rfl rfl (by rfl) (fun Wi hWi K' hK => ?_)
  have HTi := zH (HT.out.trans hWi)
  have HZW := zH HTi.out.size
  clear hWi HT
  go_simp
  refine (within_st _ _ _ _).mono ?_
  rintro e wn ⟨rfl, hSn⟩
  have HT := zH (HTi.out.trans (StepX.of hSn))
  clear HTi
  refine hK _ _ (StepX.of hSn) ?_
  clear hSn
  (try simp only [Act.put, zA, zB, zC])
  repeat ((first | (refine run_off rfl rfl (by rfl) ?_) | (refine run_chain_off rfl rfl (by rfl) (K0_mono _) ?_) | ((refine run_want rfl rfl (by rfl) ⟨?_, fun W hW => ?_, ?_⟩; rotate_left; (· (skip; go_simp; (try with_reducible rfl)))))); (try simp only [Act.put, zA, zB, zC]))
  refine run_end (L := []) rfl (fun W6 hW6 => ?_)
  have HT6 := zH (HT.out.trans hW6)
  clear hW6 HT
  have HT := HT6
  clear HT6
  go_wp2
  go_ret
  exact ⟨by rw [HF.out]; rfl, HT.out⟩
end
end Go.Proofs.YtgpiieogiafdoaaGreat
namespace Go.Proofs.YtgpiieogiafdoaaGreat
set_option linter.unusedSimpArgs false
set_option linter.unusedVariables false
open Go.RowKit Go.BT
attribute [local go_sem] Oper.semAt_some
def freeL (b : Book) (s : Int) (l : List Nat) : List Int := (l.filter fun (k : Nat) => decide (seatAt b s k = 0)).map fun (k : Nat) => (k : Int)
def openL (h : House) (b : Book) (s c d : Int) : List Int := if sellsB h b s d then freeL b s (ofL h c) else []
def seatsOf {h : House} (pre : List (SeatNo h)) : List Nat := pre.map (·.1)
theorem seatsOf_len {h : House} (pre : List (SeatNo h)) : (seatsOf pre).length = pre.length := by simp [seatsOf]
theorem seatsOf_snoc {h : House} (pre : List (SeatNo h)) (x : SeatNo h) : seatsOf (pre ++ [x]) = seatsOf pre ++ [x.1] := by simp [seatsOf]
def OpenI (w0 : World) (ob : Nat) (h : House) (b : Book) (s : Int) (pre : List (SeatNo h)) (W : World) : Prop :=
 ∃ v, Bx W ob [v] 23 ∧ OwnL (fun _ => False) w0.heap.size 3 W v (freeL b s (seatsOf pre)) ∧ StepX (fun j => j = ob ∨ w0.heap.size ≤ j) w0 W
theorem stepX_b {X : Nat → Prop} {w : World} (hX : ∀ j, w.heap.size ≤ j → X j) (W : World) (l : Nat) (o o' : Obj) (hl : w.heap.size ≤ l) (h : W.heap[l]? = some o) (_ : o.isCells = false) (_ : o.isWalk = false) : StepX X W (W.putObj l o') :=
 have hg := grownBy_putObj' W l o'
 ⟨hg.os, hg.tape, hg.output, hg.size, fun k hk hn => hg.block k hk (fun e => hn (by cases e; exact hX _ hl))⟩
theorem OpenI.own {w0 : World} {ob : Nat} {h : House} {b : Book} {s : Int} : OwnFrom w0.heap.size (OpenI w0 ob h b s) := by
 intro pre A B row ⟨v, h1, h2, h3⟩ hg hr
 have h4 : ∀ g, (∃ (cs : Array Value) (T : TypeId) (f : Nat × Nat), A.heap[g]? = some (Obj.cells cs T f)) → B.heap[g]? = A.heap[g]? := fun g hcs => by
  obtain ⟨cs, T, f, hc⟩ := hcs
  refine hg.block g (Array.getElem?_eq_some_iff.1 hc).1 fun e => ?_
  obtain ⟨_, o, ho, hn⟩ := hr g e.symm
  rw [hc] at ho
  obtain rfl := Option.some.inj ho
  simp [Obj.isCells] at hn
 refine ⟨v, ?_, h2.keptF fun g hgv => ?_, h3.trans ⟨hg.os, hg.tape, hg.output, hg.size, fun k hk hn => hg.block k hk fun e => hn (.inr (hr k e.symm).1)⟩⟩
 ·unfold Bx at *; rw [h4 ob ⟨_, _, _, h1⟩]; exact h1
 ·obtain ⟨xs, ho, _⟩ := h2
  rcases ho.2 with ⟨rfl, _⟩ | ⟨g', cap, cur, rfl, _, hg', _⟩
  ·simp [Value.ownBlock] at hgv
  ·simp [Value.ownBlock] at hgv
   subst hgv
   exact h4 _ ⟨_, _, _, hg'⟩
theorem keepsFrom_step (B : Nat) {W W' : World} (h : Step W W') : KeepsFrom B W W' := ⟨h.size, fun k o _ hk _ => (h.block k (Array.getElem?_eq_some_iff.1 hk).1 id).trans hk⟩
theorem keepsFrom_own (B : Nat) {S : Nat → Prop} {base : Nat} {e : TypeId} {α : Type} [Rep α] {v : Value} {l : List α} {W W' : World} (h : OwnL S base e W v l) (hg : W.grownBy W' v.ownBlock) : KeepsFrom B W W' := ⟨hg.size, fun k o _ hk ho => by
 refine (hg.block k (Array.getElem?_eq_some_iff.1 hk).1 fun e => ?_).trans hk
 obtain ⟨xs, hx, _⟩ := h
 rcases hx.2 with ⟨rfl, _⟩ | ⟨g, cap, cur, rfl, _, hg', _⟩
 ·simp [Value.ownBlock] at e
 ·simp [Value.ownBlock] at e
  subst e
  rw [hk] at hg'
  obtain rfl := Option.some.inj hg'
  simp [Obj.isCells] at ho⟩
theorem freeL_snoc_yes {b : Book} {s : Int} {l : List Nat} {k : Nat} (h : seatAt b s k = 0) : freeL b s (l ++ [k]) = freeL b s l ++ [(k : Int)] := by simp [freeL, List.filter_append, h]
theorem freeL_snoc_no {b : Book} {s : Int} {l : List Nat} {k : Nat} (h : ¬ seatAt b s k = 0) : freeL b s (l ++ [k]) = freeL b s l := by simp [freeL, List.filter_append, h]
theorem freeL_len (b : Book) (s : Int) (l : List Nat) : (freeL b s l).length ≤ l.length := by simp [freeL]; exact List.length_filter_le _ _
section
variable {base : Nat} {w : World} {g : Nat} {h : House} {b : Book} {c0 c1 c2 c3 c4 vs vo vt : Value} {xs : List Value}
theorem open2_any (D : Desk base w g h b c0 c1 c2 c3 c4 vs vo vt xs) (hO : OkDesk h b) (i : Nat) (hi : i < h.dates.length) (c d : Int) :
  Calls Tryz.prog 78 #[.pointer (some ⟨g, 0, none⟩), .int .i64 i, .int .i64 c, .int .i64 d] w fun e w' => ∃ v', e = .returned v' ∧ SL (Old w) w' v' (openL h b i c d) ∧ Step w w' := by
 obtain ⟨W3, hW3⟩ : ∃ W3, W3 = ((w.alloc (.cells #[.pointer (some ⟨g, 0, none⟩)] 138)).alloc (.cells #[.int .i64 i] 3)).alloc (.cells #[.slice none 0 0] 23) := ⟨_, rfl⟩
 have hS : Step w W3 := by subst hW3; exact (by with_reducible repeat (first | assumption | exact Step.refl _ | apply Step.s_alloc | apply Step.s_drew | apply Step.s_drewN | refine Step.trans ?_ (by assumption)))
 have hb0 : Bx W3 w.heap.size [.pointer (some ⟨g, 0, none⟩)] 138 := by subst hW3; exact ((Bx.new _ [_] _).alloc _).alloc _
 have hb1 : Bx W3 (w.heap.size + 1) [.int .i64 i] 3 := by subst hW3; exact (Bx.new' _ [_] _ _ (by simp)).alloc _
 have hb2 : Bx W3 (w.heap.size + 2) [.slice none 0 0] 23 := by subst hW3; exact Bx.new' _ [_] _ _ (by simp)
 have hz3 : W3.heap.size = w.heap.size + 3 := by subst hW3; simp
 have HS := zH hS
 have HB0 := zH hb0
 have HB1 := zH hb1
 have HB2 := zH hb2
 have HZ3 := zH hz3
 have HD := zH (D.step hS)
 have HO := zH hO
 have HLT := zH D.lt
 have HD0 := zH D
 have HW := zH hW3
 clear hS hb0 hb1 hb2 hz3 D hO hW3
 refine callsIn_wide.1 (show CallsIn (FW none) 5 Tryz.prog 78 _ w _ from ?_)
 refine callsIn_of_wp_marks Tryz.func78 rfl trivial ?_ rfl
 simp only [Tryz.ntmps78, List.size_toArray, List.length_cons, List.length_nil, Nat.reduceAdd, Nat.reduceSub, Array.replicate_succ, Array.replicate_zero, List.push_toArray, List.append_toArray, List.nil_append, List.cons_append]
 gi_wp2_with fail
 rw [← HW.out]
 clear HW
 refine (callsIn_FW (sells_any HD.out HO.out i hi d)).mono ?_
 rintro e w1 ⟨rfl, hS1⟩
 have HT := zH hS1
 clear hS1
 cases q : sellsB h b i d with
 | false =>
  have HF := zH (show openL h b i c d = [] by simp [openL, q])
  clear q
  have f0 := (HB2.out.step HT.out).cell 0
  simp only [List.getElem?_cons_zero] at f0
  gi_wp2
  refine ⟨_, results_tmp rfl _ _ _, _, rfl, ?_, HS.out.trans HT.out⟩
  rw [HF.out]; exact SL.nil _ _
 | true =>
  have HF := zH (show openL h b i c d = freeL b i (ofL h c) by simp [openL, q])
  clear q
  obtain ⟨⟨f0, f1, f2, f3, f4⟩, _⟩ := cells11 (HD.out.step HT.out).bx
  have y0 := (HB0.out.step HT.out).cell 0
  simp only [List.getElem?_cons_zero] at y0
  have hcall := zH (of_any (fun j => base ≤ j) h (.agg #[c0, c1, c2, c3, c4]) c w1 ⟨_, rfl, (HD.out.step HT.out).house⟩)
  obtain ⟨p0, k0, rfl⟩ := (rep5 HD.out.house).1.form
  obtain ⟨p1, k1, rfl⟩ := (rep5 HD.out.house).2.1.form
  obtain ⟨p2, k2, rfl⟩ := (rep5 HD.out.house).2.2.1.form
  obtain ⟨p3, k3, rfl⟩ := (rep5 HD.out.house).2.2.2.1.form
  obtain ⟨p4, k4, rfl⟩ := (rep5 HD.out.house).2.2.2.2.form
  gi_wp2_with fail
  refine (callsIn_FW hcall.out).mono ?_
  rintro e w2 ⟨x0, x1, x2, x3, x4, rfl, hbh, hrh, hbc, hS2, hz2⟩
  have HBH := zH hbh
  have HRH := zH hrh
  have HBC := zH hbc
  have HT2 := zH (HT.out.trans hS2)
  have hz1 := HT.out.size
  have hz3 := HZ3.out
  have HZ := zH (And.intro hz1 (And.intro hz2 hz3))
  clear hcall f0 f1 f2 f3 f4 y0 hbh hrh hbc hS2 hz1 hz2 hz3
  gi_wp2_with fail
  have hseq := zH (of1_stops 4 (by omega) (fun j => base ≤ j) (fun j => j = w.heap.size + 2 ∨ w2.heap.size ≤ j) h c w1.heap.size (w1.heap.size + 1) x0 x1 x2 x3 x4 w2 HBH.out HRH.out (HBC.out.cell 0) (by have := HZ.out; omega) (by have := HZ.out; omega)
   (fun j hj => by have := HZ.out; have := HD.out.gb; have := HD.out.lt; have := HLT.out; omega) (okSec_valid HO.out.1) (by have := (bounds_valid HO.out.1).2.2.2.2.2.2.2.1; omega))
  have h00 : OpenI w2 (w.heap.size + 2) h b i [] w2 := ⟨_, HB2.out.step HT2.out, OwnL.nil _ _ _ _, StepX.refl _ _⟩
  refine wpIn_rangeFunc_ownG rfl (by omega) rfl trivial (Go.Proofs.enters_of Tryz.func111 (by kernel_rfl) rfl) hseq.out (fun h1 h2 => h1.trans h2) (stepX_b (fun j hj => .inr hj)) (Below.refl _ _) (fun _ => rfl)
   (OpenI w2 (w.heap.size + 2) h b i) (fun _ _ _ => False) OpenI.own (fun _ _ _ _ _ hf _ _ => hf) h00 ?a1 ?assign ?body ?done ?stop
  case assign =>
   intro l x W K hK
   rw [FW_inRound]
   gi_wp2
   exact hK
  case stop => exact fun _ _ _ _ _ _ hf _ => hf.elim
  case done =>
   intro D ys W hDl hys hI hK
   obtain ⟨v, hbv, hown, hX⟩ := hI
   rw [show seatsOf ys = ofL h c from hys] at hown
   have HK := zH hK
   have HOWN := zH hown
   have HX := zH hX
   have f0 := hbv.cell 0
   simp only [List.getElem?_cons_zero] at f0
   have HBV := zH hbv
   clear hK hown hX hbv hys
   gi_wp2
   refine ⟨by simp, .inl ⟨_, _, rfl, run_takeDeferred HK.out, ?_⟩⟩
   have hg := grownBy_putObj' W D (.deferred none)
   have hstep : Step w (W.putObj D (.deferred none)) := by
    have a1 : Step w w2 := HS.out.trans HT2.out
    have a2 := StepX.fresh a1 HX.out (fun j hj => by have := HZ.out; omega)
    exact StepX.fresh (X := fun j => j = D) a2 ⟨hg.os, hg.tape, hg.output, hg.size, fun k hk hn => hg.block k hk (fun e => hn (by cases e; rfl))⟩ (fun j hj => by have := HZ.out; omega)
   refine ⟨_, results_tmp rfl _ _ _, v, rfl, ?_, hstep⟩
   rw [HF.out]
   have hown2 : OwnL (fun _ => False) w2.heap.size 3 (W.putObj D (.deferred none)) v (freeL b i (ofL h c)) := HOWN.out.keptF fun g' hg' => hg.block g' (HOWN.out.lt g' hg').2 fun e => by
    cases e
    obtain ⟨xs', hx, _⟩ := HOWN.out
    rcases hx.2 with ⟨rfl, _⟩ | ⟨g2, cap, cur, rfl, _, hg2, _⟩
    ·simp [Value.ownBlock] at hg'
    ·simp [Value.ownBlock] at hg'
     subst hg'
     rw [HK.out] at hg2
     simp at hg2
   exact OwnL.sl (hown2.flat (Old w)) fun j hj _ ho => by unfold Old at ho; have := HZ.out; omega
  case body =>
   intro l pre x W hI hlen
   rw [FW_inRound]
   have his : i < b.seats.length := by have := HO.out.2.2.1; omega
   have hrow := HO.out.2.2.2.1 i his
   obtain ⟨xk, hxk⟩ := x
   have hxs : xk < b.seats[i].length := by omega
   obtain ⟨v, hbv, hown, hX⟩ := hI
   obtain ⟨gs, cs, gi, ci, rfl, _, hsc, hsj, _, hgs, hgi⟩ := HD0.out.seat_at his (by omega)
   obtain ⟨_, _, hf6, _⟩ := cells11 (HD.out.step HT2.out).bx
   have hsc := (HS.out.trans HT2.out).kc hsc
   have hsj := (HS.out.trans HT2.out).kc (hsj xk hxs)
   have HBD := zH (And.intro HD.out.gb (And.intro (HD.out.step HT2.out).lt HLT.out))
   have hcell : ∀ b o u, w2.cell? ⟨b, o, none⟩ = some u → ¬ (b = w.heap.size + 2 ∨ w2.heap.size ≤ b) → W.cell? ⟨b, o, none⟩ = some u := fun b o u hu hn => hX.keeps.cell (a := ⟨b, o, none⟩) hn hu
   have hzz := HZ.out
   have gb := HBD.out.1
   have y0 := hcell w.heap.size 0 _ ((HB0.out.step HT2.out).cell 0) (by omega)
   have y1 := hcell (w.heap.size + 1) 0 _ ((HB1.out.step HT2.out).cell 0) (by omega)
   have y2 := hcell g 6 _ hf6 (by have := HBD.out; omega)
   have y3 := hcell gs i _ hsc (by omega)
   have y4 := hcell gi xk _ hsj (by have := hgi; omega)
   have HY := zH (And.intro y0 (And.intro y1 (And.intro y2 (And.intro y3 y4))))
   have hbx1 : (0 : Int) ≤ (i : Int) ∧ (i : Int) < (b.seats.length : Int) := by omega
   have hbx2 : (0 : Int) ≤ (xk : Int) ∧ (xk : Int) < (b.seats[i].length : Int) := by omega
   have HBV := zH hbv
   have HOWN := zH hown
   have HX := zH hX
   have HLEN := zH (show (freeL b i (seatsOf pre)).length ≤ 1000000 by have := freeL_len b i (seatsOf pre); rw [seatsOf_len] at this; have := manyN_eq; omega)
   clear y0 y1 y2 y3 y4 hsc hsj hf6 hbv hown hX hcell hzz gb hlen
   gi_wp2_with fail
   refine wpIn_region_seq (fun _ => False) (fun _ h => h.elim) (kdOf [] []) [0, 1, 3, 7, 15, 0, 63, 127, 0, 511, 1023, 2047] [0, 1, 2, 3, 4, 5, 6, 7, 8, 9, 10, 11] [] (by kernel_rfl) (by kernel_rfl) (by kernel_rfl) (fun i T z hi hk => by simp [kdOf] at hk <;> (try (split at hk <;> cases hk))) ?_
   intro Wx hWx
   have HT := zH hWx
   clear hWx
   have y0 := HT.out.kc HY.out.1
   have y1 := HT.out.kc HY.out.2.1
   have y2 := HT.out.kc HY.out.2.2.1
   have y3 := HT.out.kc HY.out.2.2.2.1
   have y4 := HT.out.kc HY.out.2.2.2.2
   have hseat : seatAt b i xk = b.seats[i][xk] := by simp [seatAt, List.getD_eq_getElem?_getD, his, hxs]
   have HSE := zH hseat
   clear hseat
   by_cases q : b.seats[i][xk] = 0
   ·have hd : (b.seats[i][xk] == 0) = true := by simp [q]
    have HN := zH (show freeL b i (seatsOf pre ++ [xk]) = freeL b i (seatsOf pre) ++ [(xk : Int)] from freeL_snoc_yes (HSE.out.trans q))
    clear q
    repeat ((first | (refine run_off rfl rfl (by rfl) ?_) | (refine run_chain_off rfl rfl (by rfl) (K0_mono _) ?_) | ((refine run_want rfl rfl (by rfl) ⟨?_, fun W hW => ?_, ?_⟩; rotate_left; (· (have d0 := hW.kc y0; have d1 := hW.kc y1; have d2 := hW.kc y2; have d3 := hW.kc y3; have d4 := hW.kc y4; go_simp; (try with_reducible rfl)))))); (try simp only [Act.put, zA, zB, zC]))
    refine runI_end (L := []) rfl (fun W6 hW6 => ?_)
    have HT6 := zH (HT.out.trans hW6)
    have f0 := (HBV.out.step HT6.out).cell 0
    simp only [List.getElem?_cons_zero] at f0
    obtain ⟨pv, cv, rfl, _, _⟩ := HOWN.out.form
    clear hW6 y0 y1 y2 y3 y4 hd
    have hown6 := (HOWN.out.step HT6.out).alloc (.cells #[.int .i64 xk] 3)
    have hu := SLe.one (S := avoid (fun _ => False) (.slice pv (freeL b i (seatsOf pre)).length cv)) (w := W6) (cs := [.int .i64 xk]) (x := (xk : Int)) 3 rfl
    have hlen := HLEN.out
    have hz6 : w2.heap.size ≤ (W6.alloc (.cells #[.int .i64 xk] 3)).heap.size := by have := HX.out.size; have := HT6.out.size; simp; omega
    gi_wp2_with (gi_at_builtin; refine wplI_append (α := Int) (S := fun _ => False) (base := w2.heap.size) (v := .slice pv (freeL b i (seatsOf pre)).length cv) (l := freeL b i (seatsOf pre)) (m := [(xk : Int)]) eiInts rfl _ _ rfl rfl rfl hown6 hu ((freeL b i (seatsOf pre)).length + 1) (by simp) (freeL b i (seatsOf pre) ++ [(xk : Int)]) rfl ?_ ?_ hz6 ?_)
    ·simp only [maxLen]; omega
    ·omega
    intro p' c' w7 hown7 hg7
    have hob := ((HBV.out.step HT6.out).alloc (.cells #[.int .i64 xk] 3))
    have hne : (Value.slice pv (freeL b i (seatsOf pre)).length cv).ownBlock ≠ some (w.heap.size + 2) := fun e => by have := (HOWN.out.lt _ e).1; have := HZ.out; omega
    have hob7 := hob.keep (S := fun j => (Value.slice pv (freeL b i (seatsOf pre)).length cv).ownBlock = some j) (.grown hg7 fun j hj _ => hj) hne
    have f7 := hob7.cell 0
    have z7 := hob7.frozen 0
    simp only [List.getElem?_cons_zero] at f7
    have H7 := zH (And.intro hown7 (And.intro hg7 hob7))
    have H6 := zH hown6
    clear hown6 hu hlen hz6 hown7 hg7 hob hob7 f0
    gi_wp2
    obtain ⟨hown7, hg7, hob7⟩ := H7.out
    have hne7 : (Value.slice p' ((freeL b i (seatsOf pre)).length + 1) c').ownBlock ≠ some (w.heap.size + 2) := fun e => by have := (hown7.lt _ e).1; have := HZ.out; omega
    have hw9 := Wrote.setCell w7 (w.heap.size + 2) 0 (Value.slice p' ((freeL b i (seatsOf pre)).length + 1) c')
    have hX6 : StepX (fun j => j = w.heap.size + 2 ∨ w2.heap.size ≤ j) W (w7.setCell ⟨w.heap.size + 2, 0, none⟩ (.slice p' ((freeL b i (seatsOf pre)).length + 1) c')) :=
     StepX.setCell (((StepX.of HT6.out).alloc' _).trans (.grown hg7 fun j hj _ => .inr (HOWN.out.lt j hj).1)) ⟨w.heap.size + 2, 0, none⟩ _ (.inl rfl)
    have hK6 : KeepsFrom w2.heap.size W (w7.setCell ⟨w.heap.size + 2, 0, none⟩ (.slice p' ((freeL b i (seatsOf pre)).length + 1) c')) :=
     ((keepsFrom_step _ (Step.s_alloc _ HT6.out)).trans (keepsFrom_own _ H6.out hg7)).trans ((KeepsOthers.setCell _ _ _).from _)
    refine ⟨hK6, hX6, _, hob7.setCell 0 _, ?_, HX.out.trans hX6⟩
    rw [seatsOf_snoc, HN.out]
    exact hown7.keptF fun g' hg' => hw9.block g' fun e => hne7 (e ▸ hg')
   ·have hd : (b.seats[i][xk] == 0) = false := by simp [q]
    have HN := zH (show freeL b i (seatsOf pre ++ [xk]) = freeL b i (seatsOf pre) from freeL_snoc_no (fun h => q (HSE.out.symm.trans h)))
    clear q
    repeat ((first | (refine run_off rfl rfl (by rfl) ?_) | (refine run_chain_off rfl rfl (by rfl) (K0_mono _) ?_) | ((refine run_want rfl rfl (by rfl) ⟨?_, fun W hW => ?_, ?_⟩; rotate_left; (· (have d0 := hW.kc y0; have d1 := hW.kc y1; have d2 := hW.kc y2; have d3 := hW.kc y3; have d4 := hW.kc y4; go_simp; (try with_reducible rfl)))))); (try simp only [Act.put, zA, zB, zC]))
    refine runI_end (L := []) rfl (fun W6 hW6 => ?_)
    have HT6 := zH (HT.out.trans hW6)
    clear hW6 y0 y1 y2 y3 y4 hd
    gi_wp2
    exact ⟨keepsFrom_step _ HT6.out, .of HT6.out, _, HBV.out.step HT6.out, by rw [seatsOf_snoc, HN.out]; exact HOWN.out.step HT6.out, HX.out.trans (.of HT6.out)⟩
end
end Go.Proofs.YtgpiieogiafdoaaGreat
namespace Go.Proofs.YtgpiieogiafdoaaGreat
set_option linter.unusedSimpArgs false
set_option linter.unusedVariables false
open Go.RowKit Go.BT
def placeL (h : House) (b : Book) (c d : Int) : Nat → Nat → Option (Nat × Int)
 | _, 0 => none
 | s, m + 1 => match openL h b s c d with
  | k :: _ => some (s, k)
  | [] => placeL h b c d (s + 1) m
def loseOne (h : House) (b : Book) (i : Nat) (d : Int) (k : Nat) (y : Int) : Book × BT.Move := match placeL h b (classL h.sectors k) d (i + 1) (h.dates.length - (i + 1)) with
 | some (s, j) => (putSeat (putSeat b s j.toNat y) i k 0, ⟨k, s, j⟩)
 | none => (putSeat { b with cash := b.cash - priceL h k } i k 0, ⟨k, -1, -1⟩)
def loseTo (h : House) (b : Book) (i : Nat) (d : Int) : Nat → Book × List BT.Move
 | 0 => (b, [])
 | k + 1 => if 0 < seatAt (loseTo h b i d k).1 i k then
   ((loseOne h (loseTo h b i d k).1 i d k (seatAt (loseTo h b i d k).1 i k)).1, (loseTo h b i d k).2 ++ [(loseOne h (loseTo h b i d k).1 i d k (seatAt (loseTo h b i d k).1 i k)).2])
  else loseTo h b i d k
def loseE (h : House) (b : Book) (s d : Int) : Int := if withinB s 0 (h.dates.length - 1) = false then 2 else if withinB d 0 1000 = false then 2 else if offAt b s = true then 6 else 0
def offBook (b : Book) (i : Nat) : Book := { b with off := b.off.set i true }
def loseD (h : House) (b : Book) (s d : Int) : Except Int (Book × List BT.Move) := if loseE h b s d = 0 then .ok (loseTo h (offBook b s.toNat) s.toNat d (b.seats.getD s.toNat []).length) else .error (loseE h b s d)
theorem placeL_skip {h : House} {b : Book} {c d : Int} {s m : Nat} (hs : openL h b s c d = []) : placeL h b c d s (m + 1) = placeL h b c d (s + 1) m := by simp [placeL, hs]
theorem placeL_hit {h : House} {b : Book} {c d : Int} {s m : Nat} {k : Int} {l : List Int} (hs : openL h b s c d = k :: l) : placeL h b c d s (m + 1) = some (s, k) := by simp [placeL, hs]
theorem freeL_mem {h : House} {b : Book} {s c d k : Int} (hk : k ∈ openL h b s c d) : 0 ≤ k ∧ k < sizeL h.sectors ∧ seatAt b s k = 0 := by
 unfold openL at hk
 split at hk
 ·simp only [freeL, ofL, ofB, List.mem_map, List.mem_filter, List.mem_range, decide_eq_true_eq] at hk
  obtain ⟨n, ⟨⟨h1, h2⟩, h3⟩, rfl⟩ := hk
  exact ⟨by omega, by omega, h3⟩
 ·cases hk
theorem placeL_some {h : House} {b : Book} {c d : Int} : ∀ {m s : Nat} {r : Nat × Int}, placeL h b c d s m = some r → s ≤ r.1 ∧ r.1 < s + m ∧ r.2 ∈ openL h b r.1 c d
 | 0, s, r, hr => by simp [placeL] at hr
 | m + 1, s, r, hr => by
  unfold placeL at hr
  split at hr
  ·rename_i k l ho
   obtain rfl := Option.some.inj hr
   exact ⟨Nat.le_refl _, by simp, by rw [ho]; exact List.mem_cons_self⟩
  ·have := placeL_some hr
   exact ⟨by omega, by omega, this.2.2⟩
structure Like (b b' : Book) (q : Int) : Prop where
 off : b'.off.length = b.off.length
 seats : b'.seats.length = b.seats.length
 row : ∀ i (hi : i < b.seats.length) (hi' : i < b'.seats.length), b'.seats[i].length = b.seats[i].length
 agency : b'.agency = b.agency
 sent : b'.sent = b.sent
 cash : b.cash - q ≤ b'.cash ∧ b'.cash ≤ b.cash
theorem Like.refl (b : Book) : Like b b 0 := ⟨rfl, rfl, fun _ _ _ => rfl, rfl, rfl, by omega, by omega⟩
theorem Like.trans {a b c : Book} {p q : Int} (h : Like a b p) (k : Like b c q) : Like a c (p + q) :=
 ⟨k.off.trans h.off, k.seats.trans h.seats, fun i hi hi' => (k.row i (by rw [h.seats]; exact hi) hi').trans (h.row i hi (by rw [h.seats]; exact hi)), k.agency.trans h.agency, k.sent.trans h.sent, by have := h.cash; have := k.cash; omega, by have := h.cash; have := k.cash; omega⟩
theorem Like.mono {a b : Book} {p q : Int} (h : Like a b p) (hq : p ≤ q) : Like a b q := { h with cash := ⟨by have := h.cash; omega, h.cash.2⟩ }
theorem like_put (b : Book) (i j : Nat) (x : Int) : Like b (putSeat b i j x) 0 := by
 refine ⟨rfl, by simp [putSeat], fun k hk hk' => ?_, rfl, rfl, by simp [putSeat], by simp [putSeat]⟩
 simp only [putSeat, List.getElem_set]
 split
 ·subst_vars; simp [List.getD_eq_getElem?_getD, hk]
 ·rfl
theorem Like.ok {h : House} {b b' : Book} {q : Int} (hl : Like b b' q) (hO : OkDesk h b) (hq : -1000000000 ≤ b.cash - q) : OkDesk h b' := by
 obtain ⟨h1, h2, h3, h4, h5, h6, h7, h8, h9, h10⟩ := hO
 refine ⟨h1, hl.off.trans h2, hl.seats.trans h3, fun i hi => ?_, by rw [hl.agency]; exact h5, by rw [hl.agency]; exact h6, by have := hl.cash; omega, by have := hl.cash; omega, by rw [hl.sent]; exact h9, by rw [hl.sent]; exact h10⟩
 have hi' : i < b.seats.length := by rw [← hl.seats]; exact hi
 rw [hl.row i hi' hi]; exact h4 i hi'
theorem like_one {h : House} {b : Book} (hO : OkDesk h b) (i : Nat) (d : Int) (k : Nat) (hk : (k : Int) < sizeL h.sectors) (y : Int) : Like b (loseOne h b i d k y).1 10000 := by
 unfold loseOne
 split
 ·exact ((like_put _ _ _ _).trans (like_put _ _ _ _)).mono (by omega)
 ·obtain ⟨_, _, _, e, h0, h1⟩ := class_valid hO.1 (n := k) (by omega) hk
  have a : Like b { b with cash := b.cash - priceL h k } 10000 := ⟨rfl, rfl, fun _ _ _ => rfl, rfl, rfl, by simp only []; omega, by simp only []; omega⟩
  exact (a.trans (like_put _ _ _ _)).mono (by omega)
theorem like_to {h : House} {b : Book} (hO : OkDesk h b) (hc : 0 ≤ b.cash) (i : Nat) (d : Int) : ∀ k : Nat, (k : Int) ≤ sizeL h.sectors → Like b (loseTo h b i d k).1 (10000 * k)
 | 0, _ => Like.refl b
 | k + 1, hk => by
  have ih := like_to hO hc i d k (by omega)
  have hs := (bounds_valid hO.1).2.2.2.2.2.2.2.1
  have hO' := ih.ok hO (by omega)
  unfold loseTo
  split
  ·exact (ih.trans (like_one hO' i d k (by omega) _)).mono (by omega)
  ·exact ih.mono (by omega)
theorem loseTo_yes {h : House} {b : Book} {i : Nat} {d : Int} {k : Nat} (hy : 0 < seatAt (loseTo h b i d k).1 i k) : loseTo h b i d (k + 1) = ((loseOne h (loseTo h b i d k).1 i d k (seatAt (loseTo h b i d k).1 i k)).1, (loseTo h b i d k).2 ++ [(loseOne h (loseTo h b i d k).1 i d k (seatAt (loseTo h b i d k).1 i k)).2]) := by
 rw [loseTo, if_pos hy]
theorem loseTo_no {h : House} {b : Book} {i : Nat} {d : Int} {k : Nat} (hy : ¬ 0 < seatAt (loseTo h b i d k).1 i k) : loseTo h b i d (k + 1) = loseTo h b i d k := by
 rw [loseTo, if_neg hy]
theorem infoMove : (Tryz.prog.info? 97).map (fun i => (i.zero, i.size, i.bytes)) = some (some (.agg #[.int .i64 0, .int .i64 0, .int .i64 0]), 3, 24) := by kernel_rfl
theorem eiMoves : EI Tryz.prog 91 97 (.agg #[.int .i64 0, .int .i64 0, .int .i64 0]) 3 24 := .mk' Tryz.underlying91 infoMove rfl
section
variable {base b2 : Nat} {w w' : World} {g : Nat} {h : House} {b : Book} {c0 c1 c2 c3 c4 vs vo vt v : Value} {xs : List Value} {l : List BT.Move}
theorem own_row' {α : Type} [Rep α] {S : Nat → Prop} {e : TypeId} {l : List α} (h : OwnL S b2 e w v l) : ∃ ys, w.ownsRow b2 e (Rep.k α) v l.length ys := by obtain ⟨ys, h, _⟩ := h; exact ⟨ys, h⟩
theorem Desk.grown (D : Desk base w g h b c0 c1 c2 c3 c4 vs vo vt xs) (ho : OwnL (fun _ => False) b2 97 w v l) (hb : base ≤ b2) (hg : w.grownBy w' v.ownBlock) : Desk base w' g h b c0 c1 c2 c3 c4 vs vo vt xs := by
 obtain ⟨ys, hy⟩ := own_row' ho
 have hne : ∀ {b3 s3 : Nat} {e3 : TypeId} {v3 : Value} {n3 : Nat} {x3 : List Value}, w.ownsRow b3 e3 s3 v3 n3 x3 → e3 ≠ 97 → v3.ownBlock = none ∨ v3.ownBlock ≠ v.ownBlock := fun {b3 s3 e3 v3 n3 x3} h3 h4 => by
  cases hq : v3.ownBlock with
  | none => exact .inl rfl
  | some q => exact .inr fun he => apart_rows h3 hy h4 q hq he.symm
 have hk : Keeps (fun j => base ≤ j) w w' := .grown hg fun k hk _ => by have := (ho.lt k hk).1; omega
 refine ⟨D.bx.keep (S := fun j => v.ownBlock = some j) (.grown hg fun j hj _ => hj) (apart_bx D.bx hy (by decide)), D.gb, Rep.keep hk D.house, D.outer.kept hg (hne D.outer (by decide)), fun i hi hx => (D.row i hi hx).kept hg (hne (D.row i hi hx) (by decide)), D.off.kept hg (hne D.off (by decide)), ?_, D.apart⟩
 obtain ⟨ts, ht, _⟩ := D.took
 refine D.took.keptF fun q hq => hg.block q (D.took.lt q hq).2 fun e => ?_
 rcases hne ht (by decide) with h1 | h1
 ·rw [h1] at hq; cases hq
 ·exact h1 (hq.trans e)
theorem moves_set (ho : OwnL (fun _ => False) b2 97 w v l) {k o : Nat} {u : Value} {cs : Array Value} {T : TypeId} (hc : w.heap[k]? = some (.cells cs T (0, 0))) (hT : T ≠ 97) : OwnL (fun _ => False) b2 97 (w.setCell ⟨k, o, none⟩ u) v l := by
 obtain ⟨ys, hy⟩ := own_row' ho
 refine ho.keptF fun q hq => (Wrote.setCell w k o u).block q fun e => ?_
 subst e
 rcases hy.2 with ⟨rfl, _⟩ | ⟨g', cap, cur, rfl, _, hg', _⟩
 ·simp [Value.ownBlock] at hq
 ·simp [Value.ownBlock] at hq
  subst hq
  rw [hc] at hg'
  simp at hg'
  exact hT hg'.2
theorem owns_block {s : Nat} {e : TypeId} {n : Nat} {x : List Value} {p c : Nat} {k : Nat} (h : w.ownsRow b2 e s (.slice (some ⟨p, 0, none⟩) n c) k x) : ∃ cs, w.heap[p]? = some (.cells cs e (0, 0)) := by
 rcases h.2 with ⟨h1, _⟩ | ⟨g', cap, cur, h1, _, hg', _⟩
 ·cases h1
 ·injection h1 with h1 _ _
  injection h1 with h1
  injection h1 with h1
  subst h1
  exact ⟨_, hg'⟩
end
end Go.Proofs.YtgpiieogiafdoaaGreat
namespace Go.Proofs.YtgpiieogiafdoaaGreat
set_option linter.unusedSimpArgs false
set_option linter.unusedVariables false
open Go.RowKit Go.BT
theorem range_none {p : Nat → Bool} : ∀ {n : Nat}, (∀ j, j < n → p j = false) → (List.range n).filter p = []
 | n, h => by
  rw [List.filter_eq_nil_iff]
  intro a ha
  rw [h a (List.mem_range.1 ha)]
  simp
theorem range_head {p : Nat → Bool} {n k : Nat} (hk : k < n) (h : ∀ j, j < k → p j = false) (hp : p k = true) : ∃ l, (List.range n).filter p = k :: l := by
 have e : List.range n = List.range k ++ (k :: List.range' (k + 1) (n - (k + 1))) := by
  have h1 : n = k + (1 + (n - (k + 1))) := by omega
  rw [List.range_eq_range', List.range_eq_range']
  conv => lhs; rw [h1, ← List.range'_append_1]
  rw [Nat.zero_add, Nat.add_comm 1 (n - (k + 1)), List.range'_succ]
 rw [e, List.filter_append, range_none h, List.nil_append, List.filter_cons, if_pos hp]
 exact ⟨_, rfl⟩
def openP1 (h : House) (b : Book) (s c : Int) (j : Nat) : Bool := decide (classL h.sectors j = c) && decide (seatAt b s j = 0)
theorem openL_eq (h : House) (b : Book) (s c d : Int) : openL h b s c d = if sellsB h b s d then ((List.range (sizeL h.sectors).toNat).filter (openP1 h b s c)).map (fun (k : Nat) => (k : Int)) else [] := by
 unfold openL freeL ofL ofB
 rw [List.filter_filter]
 have : (fun a => decide (seatAt b s (a : Nat) = 0) && decide (classL h.sectors (a : Nat) = c)) = openP1 h b s c := by
  funext a; simp [openP1, Bool.and_comm]
 rw [this]
theorem open_none {h : House} {b : Book} {s c d : Int} (hn : ∀ j, j < (sizeL h.sectors).toNat → openP1 h b s c j = false) : openL h b s c d = [] := by
 rw [openL_eq, range_none hn]; simp
theorem open_shut {h : House} {b : Book} {s c d : Int} (hn : sellsB h b s d = false) : openL h b s c d = [] := by
 rw [openL_eq, hn]; rfl
theorem open_first {h : House} {b : Book} {s c d : Int} {k : Nat} (hs : sellsB h b s d = true) (hk : k < (sizeL h.sectors).toNat) (hn : ∀ j, j < k → openP1 h b s c j = false) (hp : openP1 h b s c k = true) : ∃ l, openL h b s c d = (k : Int) :: l := by
 obtain ⟨l, hl⟩ := range_head hk hn hp
 rw [openL_eq, hs, if_pos rfl, hl]
 exact ⟨_, rfl⟩
def withCash (b : Book) (c : Int) : Book := { b with cash := c }
theorem openL_cash (h : House) (b : Book) (x s c d : Int) : openL h (withCash b x) s c d = openL h b s c d := rfl
theorem placeL_cash (h : House) (b : Book) (x c d : Int) : ∀ (m s : Nat), placeL h (withCash b x) c d s m = placeL h b c d s m
 | 0, s => rfl
 | m + 1, s => by
  unfold placeL
  rw [openL_cash, placeL_cash h b x c d m (s + 1)]
theorem lset_getD {α : Type} (l : List α) (i j : Nat) (x z : α) : (l.set i x).getD j z = if i = j ∧ i < l.length then x else l.getD j z := by
 simp only [List.getD_eq_getElem?_getD, List.getElem?_set]
 by_cases h : i = j
 ·subst h
  by_cases h2 : i < l.length
  ·simp [h2]
  ·simp [h2]
 ·simp [h]
theorem seatAt_put_ne {b : Book} {s j : Nat} {y : Int} {i n : Nat} (h : s ≠ i ∨ j ≠ n) : seatAt (putSeat b s j y) i n = seatAt b i n := by
 unfold seatAt putSeat
 simp only [Int.toNat_natCast, lset_getD]
 by_cases h1 : s = i ∧ s < b.seats.length
 ·rw [if_pos h1, lset_getD]
  have : ¬ (j = n ∧ j < (b.seats.getD s []).length) := fun hh => by
   rcases h with h | h
   ·exact h h1.1
   ·exact h hh.1
  rw [if_neg this, h1.1]
 ·rw [if_neg h1]
theorem loseTo_keep {h : House} {b : Book} {i : Nat} {d : Int} : ∀ (k n : Nat), k ≤ n → seatAt (loseTo h b i d k).1 i n = seatAt b i n
 | 0, _, _ => rfl
 | k + 1, n, hk => by
  unfold loseTo
  split
  ·show seatAt (loseOne h (loseTo h b i d k).1 i d k _).1 i n = _
   unfold loseOne
   split
   ·rename_i s j hp
    have := (placeL_some hp).1
    simp only at this
    rw [seatAt_put_ne (.inr (by omega)), seatAt_put_ne (.inl (by omega))]
    exact loseTo_keep k n (by omega)
   ·rw [seatAt_put_ne (.inr (by omega))]
    exact loseTo_keep k n (by omega)
  ·exact loseTo_keep k n (by omega)
theorem rowCash_set (h : House) (l : List Int) (j : Nat) (y : Int) (hj : j < l.length) : ∀ k : Nat, rowCash h (l.set j y) k = rowCash h l k + if j < k then (if 0 < y then priceL h j else 0) - (if 0 < l.getD j 0 then priceL h j else 0) else 0
 | 0 => by simp [rowCash]
 | k + 1 => by
  unfold rowCash
  rw [rowCash_set h l j y hj k, lset_getD]
  by_cases h1 : j < k
  ·have h2 : ¬ (j = k ∧ j < l.length) := by omega
   rw [if_pos h1, if_neg h2, if_pos (by omega : j < k + 1)]
   omega
  ·by_cases h2 : j = k
   ·subst h2
    have h3 : j = j ∧ j < l.length := ⟨rfl, hj⟩
    rw [if_neg h1, if_pos h3, if_pos (by omega : j < j + 1)]
    omega
   ·have h3 : ¬ (j = k ∧ j < l.length) := by omega
    rw [if_neg h1, if_neg h3, if_neg (by omega : ¬ j < k + 1)]
    omega
theorem cashTo_set (h : House) (rows : List (List Int)) (s : Nat) (r : List Int) (hs : s < rows.length) : ∀ k : Nat, cashTo h (rows.set s r) k = cashTo h rows k + if s < k then rowCash h r r.length - rowCash h (rows.getD s []) (rows.getD s []).length else 0
 | 0 => by simp [cashTo]
 | k + 1 => by
  unfold cashTo
  rw [cashTo_set h rows s r hs k, lset_getD]
  by_cases h1 : s < k
  ·have h2 : ¬ (s = k ∧ s < rows.length) := by omega
   rw [if_pos h1, if_neg h2, if_pos (by omega : s < k + 1)]
   omega
  ·by_cases h2 : s = k
   ·subst h2
    have h3 : s = s ∧ s < rows.length := ⟨rfl, hs⟩
    rw [if_neg h1, if_pos h3, if_pos (by omega : s < s + 1)]
    omega
   ·have h3 : ¬ (s = k ∧ s < rows.length) := by omega
    rw [if_neg h1, if_neg h3, if_neg (by omega : ¬ s < k + 1)]
    omega
def wt (h : House) (j : Nat) (y : Int) : Int := if 0 < y then priceL h j else 0
theorem cash_put {h : House} {b : Book} {s j : Nat} {y : Int} (hs : s < b.seats.length) (hj : j < b.seats[s].length) : cashL h (putSeat b s j y).seats = cashL h b.seats + wt h j y - wt h j (seatAt b s j) := by
 have hg : b.seats.getD s [] = b.seats[s] := by simp [List.getD_eq_getElem?_getD, hs]
 have hsa : seatAt b s j = b.seats[s].getD j 0 := by unfold seatAt; rw [Int.toNat_natCast, Int.toNat_natCast, hg]
 rw [hsa]
 unfold cashL putSeat wt
 simp only [List.length_set]
 rw [cashTo_set h b.seats s _ hs, if_pos hs, hg, List.length_set, rowCash_set h b.seats[s] j y hj, if_pos hj]
 omega
theorem open_mem {h : House} {b : Book} {s c d k : Int} (hk : k ∈ openL h b s c d) : ∃ n : Nat, k = n ∧ (n : Int) < sizeL h.sectors ∧ classL h.sectors n = c ∧ seatAt b s n = 0 := by
 rw [openL_eq] at hk
 split at hk
 ·simp only [List.mem_map, List.mem_filter, List.mem_range, openP1, Bool.and_eq_true, decide_eq_true_eq] at hk
  obtain ⟨n, ⟨h1, h2, h3⟩, rfl⟩ := hk
  exact ⟨n, rfl, by omega, h2, h3⟩
 ·cases hk
theorem cash_one {h : House} {b : Book} (hO : OkDesk h b) {i : Nat} (hi : i < h.dates.length) (d : Int) {k : Nat} (hk : (k : Int) < sizeL h.sectors) {y : Int} (hy : 0 < y) (hyk : seatAt b i k = y) (hc : b.cash = cashL h b.seats) :
  (loseOne h b i d k y).1.cash = cashL h (loseOne h b i d k y).1.seats := by
 have hlen := hO.2.2.1
 have hrow : ∀ {b' : Book} {q : Int}, Like b b' q → ∀ {s : Nat}, s < h.dates.length → ∃ h1 : s < b'.seats.length, (b'.seats[s].length : Int) = sizeL h.sectors := fun {b' q} hl {s} hs => by
  have h1 : s < b'.seats.length := by rw [hl.seats]; omega
  exact ⟨h1, by rw [hl.row s (by omega) h1]; exact hO.2.2.2.1 s (by omega)⟩
 unfold loseOne
 split
 ·rename_i s j hp
  obtain ⟨h1, h2, h3⟩ := placeL_some hp
  simp only at h1 h2 h3
  obtain ⟨n, rfl, h4, h5, h6⟩ := open_mem h3
  have hsd : s < h.dates.length := by omega
  obtain ⟨q1, q2⟩ := hrow (Like.refl b) hsd
  have hL := like_put b s ((n : Int).toNat) y
  obtain ⟨q3, q4⟩ := hrow hL hi
  show b.cash = _
  rw [cash_put q3 (by omega), Int.toNat_natCast, cash_put q1 (by omega), seatAt_put_ne (.inl (by omega)), h6, hyk, hc]
  have hp1 : priceL h n = priceL h k := by unfold priceL; rw [h5]
  simp only [wt, hp1, if_pos hy]
  simp
 ·have hL : Like b { b with cash := b.cash - priceL h k } (priceL h k) := ⟨rfl, rfl, fun _ _ _ => rfl, rfl, rfl, by
   obtain ⟨_, _, _, e, h0, h1⟩ := class_valid hO.1 (n := k) (by omega) hk
   simp only []; omega, by
   obtain ⟨_, _, _, e, h0, h1⟩ := class_valid hO.1 (n := k) (by omega) hk
   simp only []; omega⟩
  obtain ⟨q1, q2⟩ := hrow hL hi
  have := cash_put (h := h) (b := { b with cash := b.cash - priceL h k }) (s := i) (j := k) (y := 0) q1 (by omega)
  show b.cash - priceL h k = _
  rw [this]
  have h7 : seatAt { b with cash := b.cash - priceL h k } i k = y := hyk
  rw [h7]
  simp only [wt, if_pos hy]
  simp
  omega
theorem cash_to {h : House} {b : Book} (hO : OkDesk h b) (hc0 : 0 ≤ b.cash) (hc : b.cash = cashL h b.seats) {i : Nat} (hi : i < h.dates.length) (d : Int) : ∀ k : Nat, (k : Int) ≤ sizeL h.sectors → (loseTo h b i d k).1.cash = cashL h (loseTo h b i d k).1.seats
 | 0, _ => hc
 | k + 1, hk => by
  have ih := cash_to hO hc0 hc hi d k (by omega)
  have hs := (bounds_valid hO.1).2.2.2.2.2.2.2.1
  have hL := like_to hO hc0 i d k (by omega)
  unfold loseTo
  split
  ·rename_i hy
   exact cash_one (hL.ok hO (by omega)) hi d (by omega) hy rfl ih
  ·exact ih
structure Desk6 (base : Nat) (w : World) (g : Nat) (b : Book) (vs vo vt : Value) (xs : List Value) : Prop where
 bx : Bx w g [.int .i64 b.agency, vs, vo, .int .i64 b.sent, vt, .int .i64 b.cash] 56
 gb : base ≤ g
 outer : w.ownsRow base 23 1 vs b.seats.length xs
 row : ∀ i (hi : i < b.seats.length) (hx : i < xs.length), OwnI base 3 w xs[i] b.seats[i]
 off : OwnB base 4 w vo b.off
 took : OwnL (fun _ => False) base 131 w vt b.took
 apart : Apart xs
def Ty (w : World) (k : Nat) (T : TypeId) : Prop := ∃ cs, Bx w k cs T
theorem _root_.Go.BT.Bx.ty {w : World} {k : Nat} {cs : List Value} {T : TypeId} (h : Bx w k cs T) : Ty w k T := ⟨cs, h⟩
theorem ne_ty {w : World} {b s : Nat} {e T : TypeId} {v : Value} {n k : Nat} {x : List Value} (hk : Ty w k T) (h : w.ownsRow b e s v n x) (hne : T ≠ e) : v.ownBlock ≠ some k := by
 obtain ⟨cs, hb⟩ := hk
 exact apart_bx hb h hne
theorem owns_ty {w : World} {b s : Nat} {e : TypeId} {v : Value} {n k : Nat} {x : List Value} (h : w.ownsRow b e s v n x) (hk : v.ownBlock = some k) : Ty w k e := by
 rcases h.2 with ⟨rfl, _⟩ | ⟨g, cap, cur, rfl, _, hg, _⟩
 ·simp [Value.ownBlock] at hk
 ·simp [Value.ownBlock] at hk
  subst hk
  exact ⟨cur.toList, by unfold Bx; simpa using hg⟩
theorem own_rowT {α : Type} [Rep α] {S : Nat → Prop} {base : Nat} {e : TypeId} {w : World} {v : Value} {l : List α} (h : OwnL S base e w v l) : ∃ ys, w.ownsRow base e (Rep.k α) v l.length ys := by obtain ⟨ys, h, _⟩ := h; exact ⟨ys, h⟩
theorem _root_.Go.BT.Bx.neTy {w : World} {g k : Nat} {cs : List Value} {T U : TypeId} (h : Bx w g cs T) (hk : Ty w k U) (hne : T ≠ U) : g ≠ k := by
 obtain ⟨ds, hb⟩ := hk
 intro e
 subst e
 unfold Bx at h hb
 rw [h] at hb
 simp at hb
 exact hne hb.2
section
variable {base : Nat} {w w' : World} {g : Nat} {b : Book} {vs vo vt : Value} {xs : List Value}
theorem Desk6.len (D : Desk6 base w g b vs vo vt xs) : xs.length = b.seats.length := by have := D.outer.1; omega
theorem Desk6.lt (D : Desk6 base w g b vs vo vt xs) : g < w.heap.size := D.bx.lt
theorem Desk6.step (D : Desk6 base w g b vs vo vt xs) (hs : Step w w') : Desk6 base w' g b vs vo vt xs :=
  have hg : w.grownBy w' none := ⟨hs.os, hs.tape, hs.output, hs.size, fun k hk _ => hs.block k hk id⟩
  { bx := D.bx.step hs, gb := D.gb, outer := D.outer.kept hg (by cases hv : vs.ownBlock <;> simp), row := fun i hi hx => (D.row i hi hx).kept hg (by cases hv : (xs[i]).ownBlock <;> simp),
    off := D.off.kept hg (by cases hv : vo.ownBlock <;> simp), took := D.took.step hs, apart := D.apart }
theorem Desk6.weak (D : Desk6 base w g b vs vo vt xs) {b2 : Nat} (h : b2 ≤ base) : Desk6 b2 w g b vs vo vt xs := by
 obtain ⟨ts, ht, hr⟩ := D.took
 exact ⟨D.bx, Nat.le_trans h D.gb, owns_mono D.outer h, fun i hi hx => owns_mono (D.row i hi hx) h, owns_mono D.off h, ⟨ts, owns_mono ht h, hr⟩, D.apart⟩
theorem Desk6.other (D : Desk6 base w g b vs vo vt xs) {k : Nat} {T : TypeId} (hg : w.grownBy w' (some k)) (hk : Ty w k T) (h1 : T ≠ 23) (h2 : T ≠ 3) (h3 : T ≠ 4) (h4 : T ≠ 131) (h5 : T ≠ 56) : Desk6 base w' g b vs vo vt xs := by
  obtain ⟨ys, hy⟩ := own_rowT D.took
  exact
    { bx := D.bx.keep (S := fun j => j = k) (.grown hg fun j hj _ => by injection hj with e; exact e.symm) (D.bx.neTy hk (Ne.symm h5)), gb := D.gb, outer := D.outer.kept hg (.inr (ne_ty hk D.outer h1)), row := fun i hi hx => (D.row i hi hx).kept hg (.inr (ne_ty hk (D.row i hi hx) h2)),
      off := D.off.kept hg (.inr (ne_ty hk D.off h3)), took := D.took.keptF fun q hq => hg.block q (D.took.lt q hq).2 fun e => ne_ty hk hy h4 (hq.trans e), apart := D.apart }
theorem Desk6.grown (D : Desk6 base w g b vs vo vt xs) {α : Type} [Rep α] {S : Nat → Prop} {b2 : Nat} {e : TypeId} {v : Value} {l : List α} (ho : OwnL S b2 e w v l) (hg : w.grownBy w' v.ownBlock) (h1 : e ≠ 23) (h2 : e ≠ 3) (h3 : e ≠ 4) (h4 : e ≠ 131) (h5 : e ≠ 56) : Desk6 base w' g b vs vo vt xs := by
 obtain ⟨ys, hy⟩ := own_rowT ho
 cases hq : v.ownBlock with
 | none =>
  rw [hq] at hg
  exact D.step ⟨hg.os, hg.tape, hg.output, hg.size, fun k hk _ => hg.block k hk (by simp)⟩
 | some k =>
  rw [hq] at hg
  exact D.other hg (owns_ty hy hq) h1 h2 h3 h4 h5
theorem Desk6.setBook (D : Desk6 base w g b vs vo vt xs) (hw : Wrote g w w') (b' : Book) (e1 : b'.seats = b.seats) (e2 : b'.off = b.off) (e3 : b'.took = b.took)
    (hb : Bx w' g [.int .i64 b'.agency, vs, vo, .int .i64 b'.sent, vt, .int .i64 b'.cash] 56) : Desk6 base w' g b' vs vo vt xs := by
  obtain ⟨ys, hy⟩ := own_rowT D.took
  have hk := D.bx.ty
  exact
    { bx := hb, gb := D.gb, outer := by rw [e1]; exact D.outer.kept hw.grown (.inr (ne_ty hk D.outer (by decide))),
      row := fun i hi hx => by
        have hi' : i < b.seats.length := by rw [← e1]; exact hi
        have he : b'.seats[i] = b.seats[i] := by simp [e1]
        rw [he]
        exact (D.row i hi' hx).kept hw.grown (.inr (ne_ty hk (D.row i hi' hx) (by decide)))
      off := by rw [e2]; exact D.off.kept hw.grown (.inr (ne_ty hk D.off (by decide)))
      took := by
        rw [e3]
        exact D.took.keptF (fun k hk' => hw.block k (fun e => ne_ty hk hy (by decide) (e ▸ hk')))
      apart := D.apart }
theorem Desk6.setCash (D : Desk6 base w g b vs vo vt xs) (n : Int) : Desk6 base (w.setCell ⟨g, 5, none⟩ (.int .i64 n)) g { b with cash := n } vs vo vt xs :=
 D.setBook (.setCell w g 5 _) _ rfl rfl rfl (D.bx.setCell 5 _)
theorem Desk6.setSent (D : Desk6 base w g b vs vo vt xs) (n : Int) : Desk6 base (w.setCell ⟨g, 3, none⟩ (.int .i64 n)) g { b with sent := n } vs vo vt xs :=
 D.setBook (.setCell w g 3 _) _ rfl rfl rfl (D.bx.setCell 3 _)
theorem Desk6.setSeat (D : Desk6 base w g b vs vo vt xs) {i j gi : Nat} {c : Nat} (hi : i < b.seats.length) (hx : i < xs.length) (hv : xs[i] = .slice (some ⟨gi, 0, none⟩) b.seats[i].length c) (x : Int) :
  Desk6 base (w.setCell ⟨gi, j, none⟩ (.int .i64 x)) g (putSeat b i j x) vs vo vt xs ∧ base ≤ gi := by
 have hrow := D.row i hi hx
 have hown : xs[i].ownBlock = some gi := by rw [hv]; rfl
 have hgi : base ≤ gi := (hrow.lt _ hown).1
 have hk : Ty w gi 3 := owns_ty hrow hown
 have hw : Wrote gi w (w.setCell ⟨gi, j, none⟩ (.int .i64 x)) := Wrote.setCell w gi j _
 have hgd : b.seats.getD i [] = b.seats[i] := by simp [List.getD_eq_getElem?_getD, hi]
 obtain ⟨ys, hy⟩ := own_rowT D.took
 refine ⟨⟨D.bx.keep hw.keeps (D.bx.neTy hk (by decide)), D.gb, ?_, fun k hk2 hkx => ?_, D.off.kept hw.grown (.inr (ne_ty hk D.off (by decide))), D.took.keptF (fun k hk2 => hw.block k (fun e => ne_ty hk hy (by decide) (e ▸ hk2))), D.apart⟩, hgi⟩
 ·have := D.outer.kept hw.grown (.inr (ne_ty hk D.outer (by decide)))
  simpa [putSeat] using this
 ·have hk' : k < b.seats.length := by simpa [putSeat] using hk2
  by_cases hki : k = i
  ·subst hki
   have he : (putSeat b k j x).seats[k] = b.seats[k].set j x := by simp [putSeat, List.getElem?_eq_getElem hk']
   rw [he]
   unfold OwnI at hrow ⊢
   rw [hv] at hrow ⊢
   have := (World.ownsRow.stored hrow j (.int .i64 x)).1
   rw [List.length_set, List.map_set]
   exact this
  ·have he : (putSeat b i j x).seats[k] = b.seats[k] := by simp only [putSeat]; rw [List.getElem_set_ne (Ne.symm hki)]
   rw [he]
   exact (D.row k hk' hkx).kept hw.grown (.inr (D.apart.at hx hkx (Ne.symm hki) hown))
theorem Desk6.setOff (D : Desk6 base w g b vs vo vt xs) {i go : Nat} {c : Nat} (hv : vo = .slice (some ⟨go, 0, none⟩) b.off.length c) (x : Bool) :
  Desk6 base (w.setCell ⟨go, i, none⟩ (.bool x)) g { b with off := b.off.set i x } vs vo vt xs ∧ base ≤ go := by
 have hown : vo.ownBlock = some go := by rw [hv]; rfl
 have hgo : base ≤ go := (D.off.lt _ hown).1
 have hk : Ty w go 4 := owns_ty D.off hown
 have hw : Wrote go w (w.setCell ⟨go, i, none⟩ (.bool x)) := Wrote.setCell w go i _
 obtain ⟨ys, hy⟩ := own_rowT D.took
 refine ⟨⟨D.bx.keep hw.keeps (D.bx.neTy hk (by decide)), D.gb, D.outer.kept hw.grown (.inr (ne_ty hk D.outer (by decide))), fun k hk2 hkx => (D.row k hk2 hkx).kept hw.grown (.inr (ne_ty hk (D.row k hk2 hkx) (by decide))), ?_, D.took.keptF (fun k hk2 => hw.block k (fun e => ne_ty hk hy (by decide) (e ▸ hk2))), D.apart⟩, hgo⟩
 have hoff := D.off
 unfold OwnB at hoff ⊢
 rw [hv] at hoff ⊢
 have := (World.ownsRow.stored hoff i (.bool x)).1
 simpa [List.map_set] using this
theorem Desk6.book (D : Desk6 base w g b vs vo vt xs) {S : Nat → Prop} (hS : ∀ j, base ≤ j → ¬ S j) : Rep.rep S w [.int .i64 b.agency, vs, vo, .int .i64 b.sent, vt, .int .i64 b.cash] b := by
 have hk : ∀ j, base ≤ j → j < w.heap.size → ¬ S j := fun j h _ => hS j h
 refine ⟨vs, vo, vt, rfl, ?_, (OwnL.sl (S := S) D.off.own hk), OwnL.sl (S := S) (D.took.flat S) hk⟩
 have hl := D.len
 have : OwnL S base 23 w vs b.seats := by
  refine ⟨xs, D.outer, fun i hi => ⟨xs[i]'(by omega), ?_, OwnL.slb (S := avoid S vs) (D.row i hi (by omega)).own fun k hq ha => ?_⟩⟩
  ·show (xs.drop (i * 1)).take 1 = _
   rw [Nat.mul_one, List.drop_eq_getElem_cons (by omega), List.take_succ_cons, List.take_zero]
  ·rcases ha with ha | ha
   ·exact hk k ((D.row i hi (by omega)).lt k hq).1 ((D.row i hi (by omega)).lt k hq).2 ha
   ·exact apart_rows (D.row i hi (by omega)) D.outer (by decide) k hq ha
 exact this.sl hk
theorem Desk6.seat_at (D : Desk6 base w g b vs vo vt xs) {i : Nat} (hi : i < b.seats.length) (h0 : 0 < b.seats[i].length) :
  ∃ go co gi ci, vs = .slice (some ⟨go, 0, none⟩) b.seats.length co ∧ (∃ hx : i < xs.length, xs[i] = .slice (some ⟨gi, 0, none⟩) b.seats[i].length ci) ∧ w.cell? ⟨go, i, none⟩ = some (.slice (some ⟨gi, 0, none⟩) b.seats[i].length ci) ∧
   (∀ j (hj : j < b.seats[i].length), w.cell? ⟨gi, j, none⟩ = some (.int .i64 b.seats[i][j])) ∧ (∀ j, w.frozen? ⟨gi, j, none⟩ = false) ∧ go < w.heap.size ∧ gi < w.heap.size ∧ base ≤ go ∧ base ≤ gi := by
 obtain ⟨go, co, hv, _, hbo, hgo, hc, _⟩ := owns_at D.outer (by omega)
 have hx : i < xs.length := by have := D.len; omega
 obtain ⟨gi, ci, hvi, _, hbi, hgi, hci, hfi⟩ := owns_at (D.row i hi hx) h0
 refine ⟨go, co, gi, ci, hv, ⟨hx, hvi⟩, ?_, fun j hj => ?_, hfi, hgo, hgi, hbo, hbi⟩
 ·rw [hc i (by omega), List.getElem?_eq_getElem hx, hvi]
 ·rw [hci j hj]; simp [hj]
theorem Desk6.off_at (D : Desk6 base w g b vs vo vt xs) {i : Nat} (hi : i < b.off.length) :
  ∃ go co, vo = .slice (some ⟨go, 0, none⟩) b.off.length co ∧ (∀ j (hj : j < b.off.length), w.cell? ⟨go, j, none⟩ = some (.bool b.off[j])) ∧ (∀ j, w.frozen? ⟨go, j, none⟩ = false) ∧ go < w.heap.size ∧ base ≤ go := by
 obtain ⟨go, co, hv, _, hbo, hgo, hc, hf⟩ := owns_at D.off (by omega)
 exact ⟨go, co, hv, fun j hj => by rw [hc j hj]; simp [hj], hf, hgo, hbo⟩
end
structure Rows6 (base : Nat) (w : World) (b : Book) (vs vo vt : Value) (xs : List Value) : Prop where
 outer : w.ownsRow base 23 1 vs b.seats.length xs
 row : ∀ i (hi : i < b.seats.length) (hx : i < xs.length), OwnI base 3 w xs[i] b.seats[i]
 off : OwnB base 4 w vo b.off
 took : OwnL (fun _ => False) base 131 w vt b.took
 apart : Apart xs
section
variable {base : Nat} {w w' : World} {b : Book} {vs vo vt : Value} {xs : List Value}
theorem Rows6.step (D : Rows6 base w b vs vo vt xs) (hs : Step w w') : Rows6 base w' b vs vo vt xs :=
  have hg : w.grownBy w' none := ⟨hs.os, hs.tape, hs.output, hs.size, fun k hk _ => hs.block k hk id⟩
  { outer := D.outer.kept hg (by cases hv : vs.ownBlock <;> simp), row := fun i hi hx => (D.row i hi hx).kept hg (by cases hv : (xs[i]).ownBlock <;> simp),
    off := D.off.kept hg (by cases hv : vo.ownBlock <;> simp), took := D.took.step hs, apart := D.apart }
theorem Rows6.desk (D : Rows6 base w b vs vo vt xs) {b2 g : Nat} (h : b2 ≤ base) (hg : b2 ≤ g) (hb : Bx w g [.int .i64 b.agency, vs, vo, .int .i64 b.sent, vt, .int .i64 b.cash] 56) : Desk6 b2 w g b vs vo vt xs := by
 obtain ⟨ts, ht, hr⟩ := D.took
 exact ⟨hb, hg, owns_mono D.outer h, fun i hi hx => owns_mono (D.row i hi hx) h, owns_mono D.off h, ⟨ts, owns_mono ht h, hr⟩, D.apart⟩
theorem Rows6.form (D : Rows6 base w b vs vo vt xs) : (∃ p c, vs = .slice p b.seats.length c) ∧ (∃ p c, vo = .slice p b.off.length c) ∧ (∃ p c, vt = .slice p b.took.length c) := by
 obtain ⟨p, c, h, _⟩ := owns_form D.outer
 obtain ⟨p2, c2, h2, _⟩ := owns_form D.off
 obtain ⟨p3, c3, h3, _⟩ := D.took.form
 exact ⟨⟨p, c, h⟩, ⟨p2, c2, h2⟩, ⟨p3, c3, h3⟩⟩
end
end Go.Proofs.YtgpiieogiafdoaaGreat
namespace Go.Proofs.YtgpiieogiafdoaaGreat
set_option linter.unusedSimpArgs false
set_option linter.unusedVariables false
open Go.RowKit Go.BT
def thinP (b : Book) : Prop := b.seats.length ≤ 1000 ∧ (∀ i (hi : i < b.seats.length), b.seats[i].length ≤ 1000000) ∧ b.off.length ≤ 1000000 ∧ b.took.length ≤ 1000000
theorem Book_any (S : Nat → Prop) (b : Book) (v : Value) (w : World) (hv : AV S w v b) (hf : thinP b) :
  Calls Tryz.prog 56 #[v] w fun e w' => ∃ v', e = .returned v' ∧ AV (Old w) w' v' b ∧ Step w w' := by
 obtain ⟨d1, d2, d4, rfl, s1, s2, s4⟩ := hv.book
 obtain ⟨p1, k1, rfl⟩ := s1.form
 obtain ⟨p2, k2, rfl⟩ := s2.form
 obtain ⟨p4, k4, rfl⟩ := s4.form
 obtain ⟨f1, f2, f3, f4⟩ := hf
 go_enter Tryz.func56, Tryz.ntmps56
 go_upto_region 1 with fail
 go_cut [3] (fun s3 wx => ∃ g q1 q2, s3 = .pointer (some ⟨g, 0, none⟩) ∧ w.heap.size + 2 ≤ g ∧ g < wx.heap.size ∧
   Bx wx g [.int .i64 b.agency, q1, q2, .int .i64 b.sent, .slice none 0 0, .int .i64 b.cash] 77 ∧
   (SL (fun j => j < w.heap.size + 2 ∨ j = g) wx q1 b.seats ∧ SL (fun j => j < w.heap.size + 2 ∨ j = g) wx q2 b.off) ∧ Step ((w.alloc
   (.cells #[.int .i64 b.agency, .slice p1 b.seats.length k1, .slice p2 b.off.length k2, .int .i64 b.sent, .slice p4 b.took.length k4, .int .i64 b.cash] 56)).alloc
 (.cells #[.int .i64 0, .slice none 0 0, .slice none 0 0, .int .i64 0, .slice none 0 0, .int .i64 0] 77)) wx)
 case first =>
  refine wp_region_seq (kdOf [4, 7] [(13, 77, .agg #[.int .i64 0, .slice none 0 0, .slice none 0 0, .int .i64 0, .slice none 0 0, .int .i64 0])]) [0, 1, 0, 4, 12, 0, 32, 124, 0, 256, 0, 1024, 4095, 0, 16383] [0, 1, 2, 3, 5, 6, 8, 9, 10, 11, 4, 7, 12, 13] [14] (by kernel_rfl) (by kernel_rfl) (fun i T z hi hk => by simp only [List.mem_cons, List.not_mem_nil, or_false] at hi; rcases hi with rfl | rfl | rfl | rfl | rfl | rfl | rfl | rfl | rfl | rfl | rfl | rfl | rfl | rfl <;> simp [kdOf] at hk <;> (obtain ⟨rfl, rfl⟩ := hk; first | (show Option.bind _ _ = some _; kernel_rfl) | (refine ⟨_, rfl, fun _ _ => ?_⟩; go_simp))) ?_
  intro W0 hW0
  obtain ⟨hc, hf⟩ := hW0.cells
  have z0 := hW0.size
  (try simp only [World.size_alloc, World.size_drew, World.size_setCell, World.size_drewN, Nat.add_one_le_iff] at z0)
  have y0 : w.heap.size < W0.heap.size := by omega
  repeat ((refine run_want rfl rfl (by rfl) ⟨?_, fun W hW => ?_, ?_⟩; rotate_left; (· (obtain ⟨hc'', hf''⟩ := hW.cells; go_simp; (try with_reducible rfl)))); (try simp only [Act.put, zA, zB, zC]))
  clear hc hf
  refine run_chain rfl rfl (by rfl) (fun W1 hW1 K' hK => ?_)
  go_simp
  refine (rows_any _ _ _ _ (s1.keep (by repeat (first | (with_reducible exact Keeps.refl _ _) | (with_reducible apply Keeps.s_alloc) | (with_reducible apply Keeps.s_drew) | (with_reducible apply Keeps.s_drewN) | (with_reducible refine Keeps.s_step ?_ (by with_reducible assumption)) | (with_reducible refine Keeps.s_wrote ?_ (by with_reducible assumption) (by first | exact Or.inr rfl | exact rfl))))) f1 f2).mono ?_
  rintro e w1 ⟨v1, rfl, hv1, hS1⟩
  obtain ⟨r1, m1, rfl⟩ := hv1.form
  refine hK _ _ hS1 ?_
  (try simp only [Act.put, zA, zB, zC])
  refine run_chain rfl rfl (by rfl) (fun W2 hW2 K' hK => ?_)
  refine wp_append_L (α := Bool) (S := Old W2) (base := W2.heap.size) (v := .slice none 0 0) (l := []) (m := b.off) eiBools _ _ rfl rfl rfl (OwnL.nil _ _ _ _) ((s2.keep (by repeat (first | (with_reducible exact Keeps.refl _ _) | (with_reducible apply Keeps.s_alloc) | (with_reducible apply Keeps.s_drew) | (with_reducible apply Keeps.s_drewN) | (with_reducible refine Keeps.s_step ?_ (by with_reducible assumption)) | (with_reducible refine Keeps.s_wrote ?_ (by with_reducible assumption) (by first | exact Or.inr rfl | exact rfl))))).flat _) b.off.length (by simp) b.off rfl (by simp only [maxLen]; omega) (by omega) (Nat.le_refl _) (fun r2 m2 w2 hown2 hg2 => ?_)
  have hv2 := hown2.fresh
  have hS2 : Step W2 w2 := .of ((Below.refl _ W2).grown hg2 (Nat.le_refl _) (by simp [Value.ownBlock]))
  refine hK _ _ hS2 ?_
  (try simp only [Act.put, zA, zB, zC])
  repeat ((refine run_want rfl rfl (by rfl) ⟨?_, fun W hW => ?_, ?_⟩; rotate_left; (· (obtain ⟨hc'', hf''⟩ := hW.cells; go_simp; (try with_reducible rfl)))); (try simp only [Act.put, zA, zB, zC]))
  refine run_alloc rfl rfl (fun W5 g hW5 hg hgb hgN => ?_)
  (try simp only [Act.put, zA, zB, zC])
  refine run_end (L := [_]) rfl (fun W6 hW6 => ?_)
  have hb6 := Bx.step (w := W5) (cs := [_, _, _, _, _, _]) hg hW6
  refine wpl_store (v := .agg #[.int .i64 b.agency, .slice r1 b.seats.length m1, .slice r2 b.off.length m2, .int .i64 b.sent, .slice none 0 0, .int .i64 b.cash]) rfl _ _ _ rfl rfl rfl hb6 (by kernel_rfl) (by simp [Value.cells]) (by simp [Value.cells, Value.oneCell']) [.int .i64 b.agency, .slice r1 b.seats.length m1, .slice r2 b.off.length m2, .int .i64 b.sent, .slice none 0 0, .int .i64 b.cash] rfl (fun w7 hb7 hw7 => ?_)
  obtain ⟨⟨_, n1⟩, n2⟩ := hgN
  have zhW1 := hW1.size; have zhW2 := hW2.size; have zhS1 := hS1.size; have zhS2 := hS2.size
  have hgb' : w.heap.size + 2 ≤ g := by simpa using hgb
  have o1 : ∀ j, j < w1.heap.size → j < w.heap.size + 2 ∨ j = g → j < W1.heap.size := fun j hj hs => by omega
  have o2 : ∀ j, j < w2.heap.size → j < w.heap.size + 2 ∨ j = g → j < W2.heap.size := fun j hj hs => by omega
  have q1 := hv1.later (w' := w7) o1 (by repeat (first | (with_reducible exact Keeps.refl _ _) | (with_reducible apply Keeps.s_alloc) | (with_reducible apply Keeps.s_drew) | (with_reducible apply Keeps.s_drewN) | (with_reducible refine Keeps.s_step ?_ (by with_reducible assumption)) | (with_reducible refine Keeps.s_wrote ?_ (by with_reducible assumption) (by first | exact Or.inr rfl | exact rfl))))
  have q2 := hv2.later (w' := w7) o2 (by repeat (first | (with_reducible exact Keeps.refl _ _) | (with_reducible apply Keeps.s_alloc) | (with_reducible apply Keeps.s_drew) | (with_reducible apply Keeps.s_drewN) | (with_reducible refine Keeps.s_step ?_ (by with_reducible assumption)) | (with_reducible refine Keeps.s_wrote ?_ (by with_reducible assumption) (by first | exact Or.inr rfl | exact rfl))))
  have q5 := Step.wrote (w' := w7) (Step.trans hW0 (by with_reducible repeat (first | assumption | exact Step.refl _ | apply Step.s_alloc | apply Step.s_drew | apply Step.s_drewN | refine Step.trans ?_ (by assumption)))) hw7 (by simpa using hgb)
  clear hv1 hv2 hS1 hS2 hW0 hW1 hW2 hW5 hW6
  go_wp2_with fail
  go_meet
  exact ⟨g, _, _, rfl, hgb', hb7.lt, hb7, ⟨q1, q2⟩, q5⟩
 case rest =>
  obtain ⟨g, q1, q2, rfl, hg, hgl, b3, ⟨t1, t2⟩, hS⟩ := hcut
  have b1 := (Bx.new w [.int .i64 b.agency, .slice p1 b.seats.length k1, .slice p2 b.off.length k2, .int .i64 b.sent, .slice p4 b.took.length k4, .int .i64 b.cash] 56).alloc (.cells #[.int .i64 0, .slice none 0 0, .slice none 0 0, .int .i64 0, .slice none 0 0, .int .i64 0] 77) |>.step hS
  have b2 : Bx wc (w.heap.size + 1) [.int .i64 0, .slice none 0 0, .slice none 0 0, .int .i64 0, .slice none 0 0, .int .i64 0] 77 := by
   have := (Bx.new (w.alloc (.cells #[.int .i64 b.agency, .slice p1 b.seats.length k1, .slice p2 b.off.length k2, .int .i64 b.sent, .slice p4 b.took.length k4, .int .i64 b.cash] 56)) [.int .i64 0, .slice none 0 0, .slice none 0 0, .int .i64 0, .slice none 0 0, .int .i64 0] 77).step hS
   simpa using this
  have hB0 : Below w.heap.size w wc := Below.trans (((Below.refl _ w).alloc (Nat.le_refl _) _).alloc (by simp) _) (hS.below.mono (by simp; omega))
  clear hS
  go_wp2
  go_loopw [4] (fun i wr => ∃ (k : Nat) (q0 : Value), k ≤ b.took.length ∧ i = .int .i64 k ∧ Bx wr g [.int .i64 b.agency, q1, q2, .int .i64 b.sent, q0, .int .i64 b.cash] 77 ∧ OwnL (fun j => j < w.heap.size + 2 ∨ j = g) wc.heap.size 172 wr q0 (b.took.take k) ∧ Keeps (fun j => j = g) wc wr ∧ Below w.heap.size w wr) (fun i _ => b.took.length - (intOf i).toNat)
  case atStart => exact ⟨0, _, Nat.zero_le _, rfl, b3, OwnL.nil _ _ _ _, Keeps.refl _ _, hB0⟩
  case round =>
   obtain ⟨k, q0, hk, rfl, b3, hown, hK, hB⟩ := hrel
   have b1 := b1.keep hK (by omega)
   have c1 := b1.cell 4
   simp only [zD, zE] at c1
   by_cases hlt : k < b.took.length
   ·go_wp2_with fail
    obtain ⟨p4', k4', sb, so, he0, _, _, hsp, hsc, hs0⟩ := s4.keys
    injection he0 with he1 he2 he3
    subst he1 he3
    obtain rfl := hsp (by omega)
    have hsb := hs0 (by omega)
    obtain ⟨a1, a2⟩ := hsc k hlt
    have a1 := (hB.cell (p := ⟨sb, so + k * 2, none⟩) hsb.1).trans a1
    have a2 := (hB.cell (p := ⟨sb, so + k * 2 + 1, none⟩) hsb.1).trans a2
    have c3 := b3.cell 4
    simp only [zD, zE] at c3
    have x1 : ¬ q0.ownBlock = some w.heap.size := fun e => by have := (hown.lt _ e).1; have := hB0.size; omega
    have x2 : ¬ q0.ownBlock = some sb := fun e => by have := (hown.lt _ e).1; have := hB0.size; omega
    have x3 : ¬ q0.ownBlock = some g := fun e => by have := (hown.lt _ e).1; omega
    have hx : (0 : Int) ≤ (k : Int) ∧ (k : Int) < (b.took.length : Int) := by omega
    refine wp_region_seq (kdOf [15] []) [0, 1, 0, 4, 0, 28, 60, 124, 0, 256, 0, 1792, 3840, 7936, 16380, 32764, 65535, 131071, 262143] [0, 1, 2, 3, 4, 5, 6, 7, 8, 9, 10, 11, 12, 13, 14, 15] [16, 17, 18] (by kernel_rfl) (by kernel_rfl) (fun i T z hi hk => by simp [kdOf] at hk <;> (try (split at hk <;> cases hk))) ?_
    intro W0 hW0
    repeat ((refine run_want rfl rfl (by rfl) ⟨?_, fun W hW => ?_, ?_⟩; rotate_left; (· (have d1 := (hW0.trans hW).kc c1; have d3 := (hW0.trans hW).kc c3; have e1 := (hW0.trans hW).kc a1; have e2 := (hW0.trans hW).kc a2; go_simp; (try with_reducible rfl)))); (try simp only [Act.put, zA, zB, zC]))
    refine run_chain rfl rfl (by rfl) (fun W1 hW1 K' hK' => ?_)
    go_simp
    refine hK' _ _ (.of (Step.alloc _ _)) ?_
    (try simp only [Act.put, zA, zB, zC])
    refine run_end (L := [_, _, _]) rfl (fun W2 hW2 => ?_)
    have hown2 := ((hown.below hW0.below).below hW1.below).alloc (.cells #[.int .i64 b.took[k].frm, .int .i64 b.took[k].number] 172)
    have hu := SLe.one (S := avoid (fun j => j < w.heap.size + 2 ∨ j = g) q0) (w := W1) (cs := [.int .i64 b.took[k].frm, .int .i64 b.took[k].number]) (x := b.took[k]) 172 rfl
    have hown3 := hown2.step hW2
    have hu3 := hu.step hW2
    have b3 := ((b3.step hW0).step hW1).alloc (.cells #[.int .i64 b.took[k].frm, .int .i64 b.took[k].number] 172) |>.step hW2
    have hST : Step wr W2 := ((hW0.trans hW1).trans (Step.alloc _ _)).trans hW2
    clear hW0 hW1 hown2 hu
    have hn1 : (b.took.take k).length + [b.took[k]].length = k + 1 := by simp; omega
    have hn2 : k + 1 ≤ maxLen := by simp only [maxLen]; omega
    have hn3 : wc.heap.size ≤ W2.heap.size := Nat.le_trans hK.1 hST.size
    have hn4 := (List.take_succ_eq_append_getElem hlt).symm
    go_wp2_with (at_builtin; refine wpl_append (S := fun j => j < w.heap.size + 2 ∨ j = g) (base := wc.heap.size) (v := q0) (l := b.took.take k) (m := [b.took[k]]) eiKeys rfl _ _ rfl rfl rfl hown3 hu3 (k + 1) hn1 (b.took.take (k + 1)) hn4 hn2 (by omega) hn3 ?_)
    intro p' c' w2 hown4 hg4
    have b4 := b3.keep (S := fun j => q0.ownBlock = some j) (.grown hg4 fun j hj _ => hj) x3
    have c4 := b4.cell 4
    simp only [zD, zE] at c4
    have f4 := b4.frozen 4
    have hz2 := hST.size
    have hz4 := hg4.size
    have hz0 := hK.1
    have hK4 : Keeps (fun j => j = g) wc w2 := ⟨by omega, fun j hj hs => (hg4.block j (by omega) (fun e => by have := (hown.lt j e.symm).1; omega)).trans ((hK.trans (.of_step hST)).2 j hj hs)⟩
    have hB4 : Below w.heap.size w w2 := (hB.step (Nat.le_refl _) hST).grown hg4 (by have := hB.size; omega) (fun j hj => by have := (hown.lt j hj).1; have := hB0.size; omega)
    have x4 : (Value.slice p' (k + 1) c').ownBlock ≠ some g := fun e => by have := (hown4.lt _ e).1; omega
    go_wp2
    go_roundw
    case rel =>
     exact ⟨k + 1, _, by omega, by go_num, b4.setCell 4 _, hown4.wrote (.setCell _ _ _ _) (.inr rfl) x4, hK4.s_wrote (.setCell _ _ _ _) rfl, hB4.setCell (p := ⟨g, 4, none⟩) (by show w.heap.size ≤ g; omega) _⟩
    case measure => simp [intOf]; omega
   ·have b2 := b2.keep hK (by omega)
    have hkl : b.took.take k = b.took := List.take_of_length_le (by omega)
    rw [hkl] at hown
    obtain ⟨e0, e1, e2, e3, e4, e5⟩ := cells6 b3
    obtain ⟨g0, g1, g2, g3, g4, g5⟩ := cells6 b2
    have tf0 := b2.frozen 0
    have tf1 := b2.frozen 1
    have tf2 := b2.frozen 2
    have tf3 := b2.frozen 3
    have tf4 := b2.frozen 4
    have tf5 := b2.frozen 5
    obtain ⟨y4, x4, rfl, _⟩ := hown.form
    obtain ⟨y1, x1', rfl⟩ := t1.form
    obtain ⟨y2, x2, rfl⟩ := t2.form
    go_wp2
    have b5 := ((((((b2.setCell 0 (.int .i64 b.agency)).setCell 1 (.slice y1 b.seats.length x1')).setCell 2 (.slice y2 b.off.length x2)).setCell 3 (.int .i64 b.sent)).setCell 4 (.slice y4 b.took.length x4)).setCell 5 (.int .i64 b.cash))
    have hK5 := ((((((Keeps.refl (fun j => j = w.heap.size + 1) wr).s_wrote (.setCell _ (w.heap.size + 1) 0 (.int .i64 b.agency)) rfl).s_wrote (.setCell _ (w.heap.size + 1) 1 (.slice y1 b.seats.length x1')) rfl).s_wrote (.setCell _ (w.heap.size + 1) 2 (.slice y2 b.off.length x2)) rfl).s_wrote (.setCell _ (w.heap.size + 1) 3 (.int .i64 b.sent)) rfl).s_wrote (.setCell _ (w.heap.size + 1) 4 (.slice y4 b.took.length x4)) rfl).s_wrote (.setCell _ (w.heap.size + 1) 5 (.int .i64 b.cash)) rfl
    have hB5 := (((((hB.setCell (p := ⟨w.heap.size + 1, 0, none⟩) (by simp) (.int .i64 b.agency)).setCell (p := ⟨w.heap.size + 1, 1, none⟩) (by simp) (.slice y1 b.seats.length x1')).setCell (p := ⟨w.heap.size + 1, 2, none⟩) (by simp) (.slice y2 b.off.length x2)).setCell (p := ⟨w.heap.size + 1, 3, none⟩) (by simp) (.int .i64 b.sent)).setCell (p := ⟨w.heap.size + 1, 4, none⟩) (by simp) (.slice y4 b.took.length x4)).setCell (p := ⟨w.heap.size + 1, 5, none⟩) (by simp) (.int .i64 b.cash)
    refine ret_struct (k := 6) rfl siBook rfl b5 rfl rfl ⟨_, rfl, ⟨_, rfl, ⟨_, _, _, rfl, ?_, ?_, ?_⟩⟩, .of hB5⟩
    all_goals refine SL.keep (S := fun j => j < w.heap.size + 2 ∨ j = g) (hK5.mono fun j _ hj => by omega) ?_ |>.weak fun j _ hj => by unfold Old at hj; omega
    ·exact t1.keep (hK.mono fun j _ hj => .inr hj)
    ·exact t2.keep (hK.mono fun j _ hj => .inr hj)
    ·exact hown.sl fun g' h1 h2 h3 => by omega
theorem siRefBook : SI Tryz.prog 56 6 := ⟨⟨_, Tryz.underlying56⟩, by kernel_rfl⟩
theorem infoRefKey : (Tryz.prog.info? 131).map (fun i => (i.zero, i.size, i.bytes)) = some (some (.agg #[.int .i64 0, .int .i64 0]), 2, 16) := by kernel_rfl
theorem eiRefKeys : EI Tryz.prog 54 131 (.agg #[.int .i64 0, .int .i64 0]) 2 16 := .mk' Tryz.underlying54 infoRefKey rfl
structure RowsP (base : Nat) (w : World) (b : Book) (k : Nat) (vs : Value) (xs : List Value) : Prop where
 outer : w.ownsRow base 23 1 vs k xs
 row : ∀ i (hi : i < b.seats.length) (hx : i < xs.length), OwnI base 3 w xs[i] b.seats[i]
 apart : Apart xs
section
variable {base : Nat} {w w' : World} {b : Book} {k : Nat} {vs vo vt : Value} {xs : List Value}
theorem owns_step {s n : Nat} {e : TypeId} {v : Value} {x : List Value} (h : w.ownsRow base e s v n x) (hs : Step w w') : w'.ownsRow base e s v n x :=
 have hg : w.grownBy w' none := ⟨hs.os, hs.tape, hs.output, hs.size, fun k hk _ => hs.block k hk id⟩
 h.kept hg (by cases v.ownBlock <;> simp)
theorem grown_of {q : Nat} (h : StepX (fun j => j = q) w w') : w.grownBy w' (some q) := ⟨h.os, h.tape, h.output, h.size, fun k hk hne => h.block k hk fun e => hne (by rw [e])⟩
theorem owns_wrote {s n q : Nat} {e T : TypeId} {v : Value} {x : List Value} (h : w.ownsRow base e s v n x) (hw : w.grownBy w' (some q)) (hq : Ty w q T) (hne : T ≠ e) : w'.ownsRow base e s v n x :=
 h.kept hw (.inr (ne_ty hq h hne))
theorem RowsP.step (P : RowsP base w b k vs xs) (hs : Step w w') : RowsP base w' b k vs xs :=
 ⟨owns_step P.outer hs, fun i hi hx => owns_step (P.row i hi hx) hs, P.apart⟩
theorem RowsP.wrote (P : RowsP base w b k vs xs) {q : Nat} {T : TypeId} (hw : w.grownBy w' (some q)) (hq : Ty w q T) (h1 : T ≠ 23) (h2 : T ≠ 3) : RowsP base w' b k vs xs :=
 ⟨owns_wrote P.outer hw hq h1, fun i hi hx => owns_wrote (P.row i hi hx) hw hq h2, P.apart⟩
theorem keys_wrote {l : List Key} {q : Nat} {T : TypeId} (h : OwnL (fun _ => False) base 131 w vt l) (hw : w.grownBy w' (some q)) (hq : Ty w q T) (hne : T ≠ 131) : OwnL (fun _ => False) base 131 w' vt l := by
 obtain ⟨ys, hy⟩ := own_rowT h
 exact h.keptF fun g hg => hw.block g (h.lt g hg).2 fun e => ne_ty hq hy hne (hg.trans e)
end
def CopyRel (w W1 : World) (b : Book) (vo vt : Value) (k : Nat) (wr : World) (vs : Value) (xs : List Raw) : Prop :=
 Bx wr (w.heap.size + 2) [.int .i64 b.agency, vs, vo, .int .i64 b.sent, vt, .int .i64 b.cash] 56 ∧ OwnL (fun _ => False) W1.heap.size 23 wr vs xs ∧ xs.length = k ∧
 (∀ i (hi : i < b.seats.length) (hx : i < xs.length), OwnI w.heap.size 3 wr xs[i].v b.seats[i]) ∧ Apart (xs.map (·.v)) ∧ Step W1 wr
theorem CopyRel.grown {w W1 wr W6 w2 : World} {b : Book} {vo vt vs : Value} {xs : List Raw} {k : Nat} (h : CopyRel w W1 b vo vt k wr vs xs) (hT : Step wr W6) (hg : W6.grownBy w2 vs.ownBlock) :
  Bx w2 (w.heap.size + 2) [.int .i64 b.agency, vs, vo, .int .i64 b.sent, vt, .int .i64 b.cash] 56 := by
 have ho := own_raw h.2.1
 exact (h.1.step hT).keep (S := fun j => vs.ownBlock = some j) (.grown hg fun j hj _ => hj) (apart_bx h.1 ho (by decide))
theorem CopyRel.next {w W1 wr W6 w2 : World} {b : Book} {vo vt vs vs' : Value} {xs : List Raw} {k : Nat} (h : CopyRel w W1 b vo vt k wr vs xs) (hz : W1.heap.size = w.heap.size + 2) (hlt : k < b.seats.length) (hT : Step wr W6) (x : Raw)
  (hx : OwnI wr.heap.size 3 W6 x.v b.seats[k]) (hown : OwnL (fun _ => False) W1.heap.size 23 w2 vs' (xs ++ [x])) (hg : W6.grownBy w2 vs.ownBlock) :
  CopyRel w W1 b vo vt (k + 1) (w2.setCell ⟨w.heap.size + 2, 1, none⟩ vs') vs' (xs ++ [x]) := by
 have hb := h.grown hT hg
 obtain ⟨h1, h2, h3, h4, h5, h6⟩ := h
 have ho := own_raw h2
 have ho' := own_raw hown
 have hw : Wrote (w.heap.size + 2) w2 (w2.setCell ⟨w.heap.size + 2, 1, none⟩ vs') := Wrote.setCell _ _ _ _
 have hwz : w.heap.size ≤ wr.heap.size := by have := h6.size; omega
 have grownNone : wr.grownBy W6 none := ⟨hT.os, hT.tape, hT.output, hT.size, fun j hj _ => hT.block j hj id⟩
 have keepRow : ∀ {base n : Nat} {u : Value} {l : List Value}, W6.ownsRow base 3 1 u n l → (w2.setCell ⟨w.heap.size + 2, 1, none⟩ vs').ownsRow base 3 1 u n l := fun {base n u l} hr => by
  have h7 := hr.kept hg (by
   cases hq : u.ownBlock with
   | none => exact .inl rfl
   | some q => exact .inr fun he => apart_rows hr (ho.kept grownNone (by cases vs.ownBlock <;> simp)) (by decide) q hq he.symm)
  refine h7.kept hw.grown (.inr ?_)
  exact apart_bx hb h7 (by decide)
 have h61 : Step W1 w2 := by
  have := h6.trans hT
  exact StepX.fresh (w := W6) (X := fun j => vs.ownBlock = some j) this (StepX.grown hg fun j hj _ => hj) (fun j hj => (h2.lt j hj).1)
 refine ⟨hb.setCell 1 vs', hown.keptF fun g' hg' => hw.block g' fun e => apart_bx hb ho' (by decide) (e ▸ hg'), by simp [h3], fun i hi hxi => ?_, ?_, ?_⟩
 ·by_cases hik : i < xs.length
  ·have : (xs ++ [x])[i] = xs[i] := List.getElem_append_left hik
   rw [this]
   exact keepRow ((h4 i hi hik).kept grownNone (by cases (xs[i]).v.ownBlock <;> simp))
  ·have hi2 : i = k := by simp at hxi; omega
   subst hi2
   have : (xs ++ [x])[i] = x := by simp [List.getElem_append, h3]
   rw [this]
   exact keepRow (owns_mono hx hwz)
 ·rw [List.map_append]
  refine h5.snoc fun y hy k' hk' he => ?_
  obtain ⟨y', hy', rfl⟩ := List.mem_map.1 hy
  obtain ⟨i, hi, rfl⟩ := List.getElem_of_mem hy'
  have a1 := ((h4 i (by omega) hi).lt k' hk').2
  have a2 := (hx.lt k' he).1
  omega
 ·exact h61.setNew ⟨w.heap.size + 2, 1, none⟩ vs' (by show W1.heap.size ≤ w.heap.size + 2; omega)
theorem CopyRel.rows {w W1 wr : World} {b : Book} {vo vt vs : Value} {xs : List Raw} {k : Nat} (h : CopyRel w W1 b vo vt k wr vs xs) (hz : W1.heap.size = w.heap.size + 2) : RowsP w.heap.size wr b k vs (xs.map (·.v)) := by
 obtain ⟨h1, h2, h3, h4, h5, h6⟩ := h
 refine ⟨?_, fun i hi hx => ?_, h5⟩
 ·have := owns_mono (b' := w.heap.size) (own_raw h2) (by omega)
  rw [h3] at this
  exact this
 ·rw [List.getElem_map]; exact h4 i hi (by simpa using hx)
theorem Copy_any (S : Nat → Prop) (b : Book) (v : Value) (w : World) (hv : AV S w v b) (hf : thinP b) :
  Calls Tryz.prog 131 #[v] w fun e w' => ∃ vs vo vt xs, e = .returned (.agg #[.int .i64 b.agency, vs, vo, .int .i64 b.sent, vt, .int .i64 b.cash]) ∧ Rows6 w.heap.size w' b vs vo vt xs ∧ Step w w' := by
 obtain ⟨d1, d2, d4, rfl, s1, s2, s4⟩ := hv.book
 obtain ⟨p1, k1, rfl⟩ := s1.form
 obtain ⟨p2, k2, rfl⟩ := s2.form
 obtain ⟨p4, k4, rfl⟩ := s4.form
 obtain ⟨f1, f2, f3, f4⟩ := hf
 obtain ⟨W1, hW1⟩ : ∃ W1, W1 = (w.alloc (.cells #[.int .i64 b.agency, .slice p1 b.seats.length k1, .slice p2 b.off.length k2, .int .i64 b.sent, .slice p4 b.took.length k4, .int .i64 b.cash] 56)).alloc (.cells #[.int .i64 0, .slice none 0 0, .slice none 0 0, .int .i64 0, .slice none 0 0, .int .i64 0] 56) := ⟨_, rfl⟩
 have b1 : Bx W1 w.heap.size [.int .i64 b.agency, .slice p1 b.seats.length k1, .slice p2 b.off.length k2, .int .i64 b.sent, .slice p4 b.took.length k4, .int .i64 b.cash] 56 := by subst hW1; exact (Bx.new _ _ _).alloc _
 have b2 : Bx W1 (w.heap.size + 1) [.int .i64 0, .slice none 0 0, .slice none 0 0, .int .i64 0, .slice none 0 0, .int .i64 0] 56 := by subst hW1; exact Bx.new' _ _ _ _ (by simp)
 have hS : Step w W1 := by subst hW1; exact (by with_reducible repeat (first | assumption | exact Step.refl _ | apply Step.s_alloc | apply Step.s_drew | apply Step.s_drewN | refine Step.trans ?_ (by assumption)))
 have hz : W1.heap.size = w.heap.size + 2 := by subst hW1; simp
 have HB1 := zH b1
 have HB2 := zH b2
 have HS := zH hS
 have HZ := zH hz
 have H1 := zH s1
 have H2 := zH s2
 have H4 := zH s4
 have HF2 := zH f2
 have HW := zH hW1
 clear hW1 b1 b2 hS hz s1 s2 s4 hv f2
 go_enter Tryz.func131, Tryz.ntmps131
 go_wp2_with fail
 rw [show w.heap.size + 1 + 1 = w.heap.size + 2 from rfl, ← HW.out]
 have hb3 := Bx.new' W1 [.int .i64 b.agency, .slice none 0 0, .slice p2 b.off.length k2, .int .i64 b.sent, .slice p4 b.took.length k4, .int .i64 b.cash] 56 _ HZ.out
 have h30 : CopyRel w W1 b (.slice p2 b.off.length k2) (.slice p4 b.took.length k4) 0 _ _ [] :=
  ⟨hb3, OwnL.nil _ _ _ _, rfl, fun i _ hx => absurd hx (by simp), List.Pairwise.nil, Step.alloc _ _⟩
 go_loopw [4] (fun i wr => ∃ (k : Nat) (vs : Value) (xs : List Raw), k ≤ b.seats.length ∧ i = .int .i64 k ∧ CopyRel w W1 b (.slice p2 b.off.length k2) (.slice p4 b.took.length k4) k wr vs xs) (fun i _ => b.seats.length - (intOf i).toNat)
 case atStart => exact ⟨0, _, _, Nat.zero_le _, rfl, h30⟩
 case round =>
  clear hb3 h30
  obtain ⟨k, vs, xs, hk, rfl, hR⟩ := hrel
  have HA := zH hR
  clear hR
  by_cases hlt : k < b.seats.length
  ·obtain ⟨p', c', bb, oo, he, _, _, hp, hc, hbb⟩ := H1.out.rows
   injection he with he1 _ he3
   subst he1 he3
   obtain rfl := hp (by omega)
   obtain ⟨u, hu1, hu2⟩ := hc k hlt
   have HU := zH (And.intro hu1 hu2)
   clear hp hc hbb hu1 hu2
   have e1 := (HS.out.trans HA.out.2.2.2.2.2).kc HU.out.1
   have q1 := (HB1.out.step HA.out.2.2.2.2.2).cell 1
   simp only [zD, zE] at q1
   have hx : (0 : Int) ≤ (k : Int) ∧ (k : Int) < (b.seats.length : Int) := by omega
   go_upto_region 6 with (fail)
   refine wp_region_seqM (fun c d v a w h => by cases d <;> exact h) (kdOf [7, 8] []) [0, 1, 0, 4, 0, 28, 60, 124, 252, 511, 1023, 2047] [0, 1, 2, 3, 4, 5, 6, 7, 8] [9, 10, 11] (by kernel_rfl) (by kernel_rfl) (fun i T z hi hk => by simp [kdOf] at hk <;> (try (split at hk <;> cases hk))) ?_
   intro Wx hWx
   have HT := zH hWx
   clear hWx
   have c3 := (HA.out.1.step HT.out).cell 1
   have c1 := HT.out.kc q1
   have a1 := HT.out.kc e1
   simp only [zD, zE] at c3
   clear e1 q1
   repeat ((first | (refine run_off rfl rfl (by rfl) ?_) | (refine run_chain_off rfl rfl (by rfl) (K0_mono _) ?_) | ((refine run_want rfl rfl (by rfl) ⟨?_, fun W hW => ?_, ?_⟩; rotate_left; (· (have d0 := hW.kc c1; have d1 := hW.kc c3; have d2 := hW.kc a1; go_simp; (try with_reducible rfl)))))); (try simp only [Act.put, zA, zB, zC]))
   refine run_chain rfl rfl (by rfl) (fun Wi hWi K' hK' => ?_)
   have hrow := HF2.out k hlt
   obtain ⟨pu, cu, rfl⟩ := HU.out.2.form
   refine wp_append_L (α := Int) (S := fun _ => False) (base := Wi.heap.size) (v := .slice none 0 0) (l := []) (m := b.seats[k]) eiInts _ _ rfl rfl rfl (OwnL.nil _ _ _ _) ((HU.out.2.keep (.of_step ((HS.out.trans HA.out.2.2.2.2.2).trans (HT.out.trans hWi)))).flat _) b.seats[k].length (by simp) b.seats[k] rfl (by simp only [maxLen]; omega) (by omega) (Nat.le_refl _) (fun pv cv w2 hown2 hg2 => ?_)
   have hS2 : Step Wi w2 := .of ((Below.refl _ Wi).grown hg2 (Nat.le_refl _) (by simp [Value.ownBlock]))
   have HZI : Hid (wr.heap.size ≤ Wi.heap.size) := zH (HT.out.trans hWi).size
   have HT2 := zH ((HT.out.trans hWi).trans hS2)
   have HOW := zH hown2
   refine hK' _ _ hS2 ?_
   clear hK' hS2 hg2 hown2 hWi HT c1 c3 a1
   (try simp only [Act.put, zA, zB, zC])
   refine run_chain rfl rfl (by rfl) (fun Wj hWj K'' hK'' => ?_)
   go_simp
   refine hK'' _ _ (.of (Step.alloc _ _)) ?_
   (try simp only [Act.put, zA, zB, zC])
   refine run_end (L := [_, _, _]) rfl (fun W6 hW6 => ?_)
   have hu := (SLe.one (S := avoid (fun _ => False) vs) (w := Wj) (cs := [.slice pv b.seats[k].length cv]) (x := (⟨.slice pv b.seats[k].length cv, rfl⟩ : Raw)) 23 rfl).step hW6
   have hTj : Step w2 W6 := (hWj.trans (Step.alloc _ _)).trans hW6
   have hv6 : OwnI wr.heap.size 3 W6 (.slice pv b.seats[k].length cv) b.seats[k] := owns_mono (OwnI.of (HOW.out.step hTj)) HZI.out
   have HV6 := zH hv6
   have HT6 := zH (HT2.out.trans hTj)
   have hown := HA.out.2.1.step HT6.out
   have hlen := HA.out.2.2.1
   have hn1 : xs.length + [(⟨.slice pv b.seats[k].length cv, rfl⟩ : Raw)].length = k + 1 := by simp; exact hlen
   have hn2 : k + 1 ≤ maxLen := by simp only [maxLen]; omega
   have hn3 : W1.heap.size ≤ W6.heap.size := Nat.le_trans HA.out.2.2.2.2.2.size HT6.out.size
   clear hWj hW6 hTj hv6 HT2 hlen
   go_wp2_with (at_builtin; refine wpl_append (α := Raw) (S := fun _ => False) (base := W1.heap.size) (v := vs) (l := xs) (m := [⟨.slice pv b.seats[k].length cv, rfl⟩]) eiRows rfl _ _ rfl rfl rfl hown hu (k + 1) hn1 (xs ++ [⟨.slice pv b.seats[k].length cv, rfl⟩]) rfl hn2 (by omega) hn3 ?_)
   intro p2 c2 w2 hown4 hg4
   have hb4 := HA.out.grown HT6.out hg4
   have f6 := hb4.cell 1
   have z6 := hb4.frozen 1
   simp only [zD, zE] at f6
   have hN := zH (HA.out.next HZ.out hlt HT6.out _ HV6.out hown4 hg4)
   clear hb4 hown hu hown4 hg4 hn1 hn2 hn3
   go_wp2
   go_roundw
   case rel => exact ⟨k + 1, _, _, by omega, by go_num, hN.out⟩
   case measure => simp [intOf]; omega
  ·have hkk : k = b.seats.length := by omega
   have HK := zH hkk
   clear hkk
   have HP := zH (HA.out.rows HZ.out)
   have q1 := (HB1.out.step HA.out.2.2.2.2.2).cell 1
   have q2 := (HB1.out.step HA.out.2.2.2.2.2).cell 2
   have x2 := HA.out.1.cell 2
   simp only [zD, zE] at q1 q2 x2
   have hsrc := zH ((H2.out.keep (.of_step (HS.out.trans HA.out.2.2.2.2.2))).flat (avoid (fun _ => False) (.slice none 0 0)))
   go_wp2_with (at_builtin; refine wpl_append (α := Bool) (S := fun _ => False) (base := wr.heap.size) (v := .slice none 0 0) (l := []) (m := b.off) eiBools rfl _ _ rfl rfl rfl (OwnL.nil _ _ _ _) hsrc.out b.off.length (by simp) b.off rfl ?_ ?_ (Nat.le_refl _) ?_)
   ·simp only [maxLen]; omega
   ·omega
   intro po co w2 hown2 hg2
   have hS2 : Step wr w2 := .of ((Below.refl _ wr).grown hg2 (Nat.le_refl _) (by simp [Value.ownBlock]))
   have hb2 := HA.out.1.step hS2
   have x2 := hb2.cell 2
   have z2 := hb2.frozen 2
   simp only [zD, zE] at x2
   have HC := zH (And.intro hS2 (And.intro hown2 hb2))
   clear hown2 hg2 hS2 hb2 hsrc q1 q2
   have hw2 := Wrote.setCell w2 (w.heap.size + 2) 2 (.slice po b.off.length co)
   have hb3 := HC.out.2.2.setCell 2 (.slice po b.off.length co)
   have hty := HC.out.2.2.ty
   have hT3 : Step W1 (w2.setCell ⟨w.heap.size + 2, 2, none⟩ (.slice po b.off.length co)) := (HA.out.2.2.2.2.2.trans HC.out.1).setNew ⟨w.heap.size + 2, 2, none⟩ _ (by have := HZ.out; show W1.heap.size ≤ w.heap.size + 2; omega)
   have hP3 := (HP.out.step HC.out.1).wrote hw2.grown hty (by decide) (by decide)
   have hO3 := owns_wrote (OwnB.of HC.out.2.1) hw2.grown hty (by decide)
   have q4 := (HB1.out.step hT3).cell 4
   simp only [zD, zE] at q4
   have hsrc := zH ((H4.out.keep (.of_step (HS.out.trans hT3))).flat (avoid (fun _ => False) (.slice none 0 0)))
   have HD := zH (And.intro hb3 (And.intro hT3 (And.intro hP3 hO3)))
   have HZW := zH (show wr.heap.size ≤ (w2.setCell ⟨w.heap.size + 2, 2, none⟩ (.slice po b.off.length co)).heap.size by have := HC.out.1.size; simp; omega)
   clear hb3 hT3 hP3 hO3 hw2 hty HC HP
   go_wp2_with (at_builtin; refine wpl_append (α := Key) (S := fun _ => False) (base := wr.heap.size) (v := .slice none 0 0) (l := []) (m := b.took) eiRefKeys rfl _ _ rfl rfl rfl (OwnL.nil _ _ _ _) hsrc.out b.took.length (by simp) b.took rfl ?_ ?_ HZW.out ?_)
   ·simp only [maxLen]; omega
   ·omega
   intro pt ct w4 hown4 hg4
   have hS4 : Step (w2.setCell ⟨w.heap.size + 2, 2, none⟩ (.slice po b.off.length co)) w4 := by
    have hn : Option.none = Value.ownBlock (.slice none 0 0) := rfl
    rw [← hn] at hg4
    exact ⟨hg4.os, hg4.tape, hg4.output, hg4.size, fun j hj _ => hg4.block j hj (by simp)⟩
   have hb4 := HD.out.1.step hS4
   have x4 := hb4.cell 4
   have z4 := hb4.frozen 4
   simp only [List.set_cons_zero, List.set_cons_succ, zD, zE] at x4
   have hw5 := Wrote.setCell w4 (w.heap.size + 2) 4 (.slice pt b.took.length ct)
   have hty := hb4.ty
   have hb5 := hb4.setCell 4 (.slice pt b.took.length ct)
   simp only [List.set_cons_zero, List.set_cons_succ] at hb5
   have hwz : w.heap.size ≤ wr.heap.size := by have := HA.out.2.2.2.2.2.size; have := HZ.out; omega
   have hP5 := (HD.out.2.2.1.step hS4).wrote hw5.grown hty (by decide) (by decide)
   have hO5 := owns_wrote (owns_step HD.out.2.2.2 hS4) hw5.grown hty (by decide)
   have hK5 := keys_wrote (vt := .slice pt b.took.length ct) hown4 hw5.grown hty (by decide)
   have hT5 : Step W1 (w4.setCell ⟨w.heap.size + 2, 4, none⟩ (.slice pt b.took.length ct)) := (HD.out.2.1.trans hS4).setNew ⟨w.heap.size + 2, 4, none⟩ _ (by have := HZ.out; show W1.heap.size ≤ w.heap.size + 2; omega)
   have hb2 := HB2.out.step hT5
   obtain ⟨y0, y1, y2, y3, y4, y5⟩ := cells6 hb5
   obtain ⟨g0, g1, g2, g3, g4, g5⟩ := cells6 hb2
   have tf0 := hb2.frozen 0
   have tf1 := hb2.frozen 1
   have tf2 := hb2.frozen 2
   have tf3 := hb2.frozen 3
   have tf4 := hb2.frozen 4
   have tf5 := hb2.frozen 5
   obtain ⟨pv, cv, rfl, _⟩ := owns_form hP5.outer
   have HE := zH (And.intro hb5 (And.intro hT5 (And.intro hP5 (And.intro hO5 (And.intro hK5 hb2)))))
   have HWZ := zH hwz
   clear hown4 hg4 hS4 hb4 hw5 hty hb5 hP5 hO5 hK5 hT5 hb2 hsrc HD hwz
   go_wp2
   have hb5 := set6 HE.out.2.2.2.2.2 (.int .i64 b.agency) (.slice pv k cv) (.slice po b.off.length co) (.int .i64 b.sent) (.slice pt b.took.length ct) (.int .i64 b.cash)
   have hty := HE.out.2.2.2.2.2.ty
   have hg5 := grown_of hb5.2
   have hP := HE.out.2.2.1.wrote hg5 hty (by decide) (by decide)
   have hO := owns_wrote HE.out.2.2.2.1 hg5 hty (by decide)
   have hQ := keys_wrote HE.out.2.2.2.2.1 hg5 hty (by decide)
   have hSS : Step w _ := StepX.fresh (HS.out.trans HE.out.2.1) hb5.2 (fun j hj => by have := HZ.out; omega)
   refine ret_struct (k := 6) rfl siRefBook rfl hb5.1 rfl rfl ⟨_, _, _, _, rfl, ⟨?_, hP.row, owns_mono hO HWZ.out, ?_, hP.apart⟩, hSS⟩
   ·have := hP.outer
    rw [HK.out] at this ⊢
    exact this
   ·obtain ⟨ys, h1, h2⟩ := hQ
    exact ⟨ys, owns_mono h1 HWZ.out, h2⟩
end Go.Proofs.YtgpiieogiafdoaaGreat
namespace Go.Proofs.YtgpiieogiafdoaaGreat
set_option linter.unusedSimpArgs false
set_option linter.unusedVariables false
open Go.RowKit Go.BT
theorem all_take {α : Type} {l : List α} {p : α → Bool} {k : Nat} (ht : (l.take k).all p = true) (h : k < l.length) (hp : p l[k] = true) : (l.take (k + 1)).all p = true := by
 rw [List.take_succ_eq_append_getElem h, List.all_append, ht]
 simp [hp]
theorem all_miss {α : Type} {l : List α} {p : α → Bool} {k : Nat} (h : k < l.length) (hp : p l[k] = false) : l.all p = false := by
 rw [List.all_eq_false]
 exact ⟨_, List.getElem_mem h, by simp [hp]⟩
theorem all_done {α : Type} {l : List α} {p : α → Bool} {k : Nat} (ht : (l.take k).all p = true) (h : ¬ k < l.length) : l.all p = true := by
 rwa [List.take_of_length_le (by omega)] at ht
def fewA (h : House) : Bool := decide ((h.sectors.length : Int) ≤ 12) && decide ((h.prices.length : Int) ≤ 8) && decide ((h.dates.length : Int) ≤ 8) && decide ((h.frm.length : Int) ≤ 8) && decide ((h.holds.length : Int) ≤ 8)
def few (h : House) : Bool := h.sectors.all (fun s => decide (s.seats ≤ 60)) && h.holds.all (fun l => decide (l.length ≤ 120)) && h.frm.all (fun l => decide (l.length ≤ 8)) && fewA h
def thinA (b : Book) : Bool := decide ((b.seats.length : Int) ≤ 8) && decide ((b.off.length : Int) ≤ 8) && (decide ((b.took.length : Int) ≤ 40) || decide ((b.took.length : Int) > 1000) && decide ((b.took.length : Int) ≤ 1002))
def thin (b : Book) : Bool := b.seats.all (fun l => decide (l.length ≤ 120)) && thinA b
theorem few_a {h : House} (e : h.sectors.all (fun s => decide (s.seats ≤ 60)) = false) : few h = false := by simp [few, e]
theorem few_b {h : House} (e : h.holds.all (fun l => decide (l.length ≤ 120)) = false) : few h = false := by simp [few, e]
theorem few_c {h : House} (e : h.frm.all (fun l => decide (l.length ≤ 8)) = false) : few h = false := by simp [few, e]
theorem few_d {h : House} (a : h.sectors.all (fun s => decide (s.seats ≤ 60)) = true) (b : h.holds.all (fun l => decide (l.length ≤ 120)) = true) (c : h.frm.all (fun l => decide (l.length ≤ 8)) = true) : few h = fewA h := by simp [few, a, b, c]
theorem Few_any (S : Nat → Prop) (h : House) (v : Value) (w : World) (hv : AV S w v h) :
  Calls Tryz.prog 8 #[v] w fun e w' => e = .returned (.bool (few h)) ∧ Step w w' := by
 obtain ⟨cs, rfl, hr⟩ := hv
 obtain ⟨c0, c1, c2, c3, c4, rfl, h0, h1, h2, h3, h4⟩ := hr
 obtain ⟨p0, k0, b0, o0, rfl, _, m0, hp0, hc0, hb0⟩ := h0.sectors
 obtain ⟨p1, k1, rfl⟩ := h1.form
 obtain ⟨p2, k2, rfl⟩ := h2.form
 obtain ⟨p3, k3, b3, o3, rfl, _, m3, hp3, hc3, hb3⟩ := h3.rows
 obtain ⟨p4, k4, b4, o4, rfl, _, m4, hp4, hc4, hb4⟩ := h4.rows
 have n1 := h1.len
 have n2 := h2.len
 obtain ⟨W0, hW0⟩ : ∃ W0, W0 = w.alloc (.cells #[.slice p0 h.sectors.length k0, .slice p1 h.prices.length k1, .slice p2 h.dates.length k2, .slice p3 h.frm.length k3, .slice p4 h.holds.length k4] 26) := ⟨_, rfl⟩
 have hbx : Bx W0 w.heap.size [.slice p0 h.sectors.length k0, .slice p1 h.prices.length k1, .slice p2 h.dates.length k2, .slice p3 h.frm.length k3, .slice p4 h.holds.length k4] 26 := by subst hW0; exact Bx.new _ _ _
 have hS : Step w W0 := by subst hW0; exact (by with_reducible repeat (first | assumption | exact Step.refl _ | apply Step.s_alloc | apply Step.s_drew | apply Step.s_drewN | refine Step.trans ?_ (by assumption)))
 have HB := zH hbx
 have HS := zH hS
 have H0 := zH (And.intro hp0 hc0)
 have H3 := zH (And.intro hp3 hc3)
 have H4 := zH (And.intro hp4 hc4)
 have HW := zH hW0
 clear h0 h1 h2 h3 h4 hbx hS hp0 hc0 hb0 hp3 hc3 hb3 hp4 hc4 hb4 hW0
 go_enter Tryz.func8, Tryz.ntmps8
 go_wp2
 go_loopw [3] (fun i wr => ∃ k : Nat, k ≤ h.sectors.length ∧ i = .int .i64 k ∧ (h.sectors.take k).all (fun s => decide (s.seats ≤ 60)) = true ∧ Step W0 wr) (fun i _ => h.sectors.length - (intOf i).toNat)
 case atStart => exact ⟨0, Nat.zero_le _, rfl, rfl, by rw [HW.out]; exact Step.refl _⟩
 case round =>
  obtain ⟨k, hk, rfl, ht, hT⟩ := hrel
  have HA := zH ht
  have HT := zH hT
  clear ht hT
  obtain ⟨e0, e1, e2, e3, e4⟩ := cells5 (HB.out.step HT.out)
  by_cases hlt : k < h.sectors.length
  ·obtain rfl := H0.out.1 (by omega)
   obtain ⟨_, a1⟩ := H0.out.2 k hlt
   have a1 := (HS.out.trans HT.out).kc a1
   have hix : (0 : Int) ≤ (k : Int) ∧ (k : Int) < (h.sectors.length : Int) := by omega
   by_cases hx : h.sectors[k].seats > 60
   ·have HF := zH (few_a (h := h) (all_miss hlt (by simp; omega)))
    go_wp2
    go_ret
    exact ⟨by rw [HF.out]; rfl, HS.out.trans HT.out⟩
   ·go_wp2
    go_roundw
    case rel => exact ⟨k + 1, by omega, by go_num, all_take HA.out hlt (by simp; omega), HT.out⟩
    case measure => simp [intOf]; omega
  ·have HA := zH (all_done HA.out hlt)
   go_wp2
   obtain ⟨wo, hwo⟩ : ∃ W, W = wr := ⟨_, rfl⟩
   subst hwo
   clear e0 e1 e2 e3 e4
   go_loopw [4] (fun i wr => ∃ k : Nat, k ≤ h.holds.length ∧ i = .int .i64 k ∧ (h.holds.take k).all (fun l => decide (l.length ≤ 120)) = true ∧ Step W0 wr) (fun i _ => h.holds.length - (intOf i).toNat)
   case atStart => exact ⟨0, Nat.zero_le _, rfl, rfl, HT.out⟩
   case round =>
    obtain ⟨k, hk, rfl, ht, hT⟩ := hrel
    have HA2 := zH ht
    have HT := zH hT
    clear ht hT
    obtain ⟨e0, e1, e2, e3, e4⟩ := cells5 (HB.out.step HT.out)
    by_cases hlt : k < h.holds.length
    ·obtain rfl := H4.out.1 (by omega)
     obtain ⟨u, a1, hu⟩ := H4.out.2 k hlt
     have a1 := (HS.out.trans HT.out).kc a1
     have hul := hu.len
     obtain ⟨pu, ku, rfl⟩ := hu.form
     clear hu
     have hix : (0 : Int) ≤ (k : Int) ∧ (k : Int) < (h.holds.length : Int) := by omega
     by_cases hx : h.holds[k].length > 120
     ·have HF := zH (few_b (h := h) (all_miss hlt (by simp; omega)))
      go_wp2
      go_ret
      exact ⟨by rw [HF.out]; rfl, HS.out.trans HT.out⟩
     ·go_wp2
      go_roundw
      case rel => exact ⟨k + 1, by omega, by go_num, all_take HA2.out hlt (by simp; omega), HT.out⟩
      case measure => simp [intOf]; omega
    ·have HA2 := zH (all_done HA2.out hlt)
     go_wp2
     obtain ⟨wo, hwo⟩ : ∃ W, W = wr := ⟨_, rfl⟩
     subst hwo
     clear e0 e1 e2 e3 e4
     go_loopw [5] (fun i wr => ∃ k : Nat, k ≤ h.frm.length ∧ i = .int .i64 k ∧ (h.frm.take k).all (fun l => decide (l.length ≤ 8)) = true ∧ Step W0 wr) (fun i _ => h.frm.length - (intOf i).toNat)
     case atStart => exact ⟨0, Nat.zero_le _, rfl, rfl, HT.out⟩
     case round =>
      obtain ⟨k, hk, rfl, ht, hT⟩ := hrel
      have HA3 := zH ht
      have HT := zH hT
      clear ht hT
      obtain ⟨e0, e1, e2, e3, e4⟩ := cells5 (HB.out.step HT.out)
      by_cases hlt : k < h.frm.length
      ·obtain rfl := H3.out.1 (by omega)
       obtain ⟨u, a1, hu⟩ := H3.out.2 k hlt
       have a1 := (HS.out.trans HT.out).kc a1
       have hul := hu.len
       obtain ⟨pu, ku, rfl⟩ := hu.form
       clear hu
       have hix : (0 : Int) ≤ (k : Int) ∧ (k : Int) < (h.frm.length : Int) := by omega
       by_cases hx : h.frm[k].length > 8
       ·have HF := zH (few_c (h := h) (all_miss hlt (by simp; omega)))
        go_wp2
        go_ret
        exact ⟨by rw [HF.out]; rfl, HS.out.trans HT.out⟩
       ·go_wp2
        go_roundw
        case rel => exact ⟨k + 1, by omega, by go_num, all_take HA3.out hlt (by simp; omega), HT.out⟩
        case measure => simp [intOf]; omega
      ·have HA3 := zH (all_done HA3.out hlt)
       have HF := zH (few_d HA.out HA2.out HA3.out)
       by_cases q0 : (h.sectors.length : Int) ≤ 12
       rotate_left
       ·have hfin : few h = false := HF.out.trans (by simp [fewA]; omega)
        clear HF
        have HF := zH hfin
        clear hfin
        go_wp2
        go_ret
        exact ⟨by rw [HF.out]; rfl, HS.out.trans HT.out⟩
       by_cases q1 : (h.prices.length : Int) ≤ 8
       rotate_left
       ·have hfin : few h = false := HF.out.trans (by simp [fewA]; omega)
        clear HF
        have HF := zH hfin
        clear hfin
        go_wp2
        go_ret
        exact ⟨by rw [HF.out]; rfl, HS.out.trans HT.out⟩
       by_cases q2 : (h.dates.length : Int) ≤ 8
       rotate_left
       ·have hfin : few h = false := HF.out.trans (by simp [fewA]; omega)
        clear HF
        have HF := zH hfin
        clear hfin
        go_wp2
        go_ret
        exact ⟨by rw [HF.out]; rfl, HS.out.trans HT.out⟩
       by_cases q3 : (h.frm.length : Int) ≤ 8
       rotate_left
       ·have hfin : few h = false := HF.out.trans (by simp [fewA]; omega)
        clear HF
        have HF := zH hfin
        clear hfin
        go_wp2
        go_ret
        exact ⟨by rw [HF.out]; rfl, HS.out.trans HT.out⟩
       by_cases q4 : (h.holds.length : Int) ≤ 8
       rotate_left
       ·have hfin : few h = false := HF.out.trans (by simp [fewA]; omega)
        clear HF
        have HF := zH hfin
        clear hfin
        go_wp2
        go_ret
        exact ⟨by rw [HF.out]; rfl, HS.out.trans HT.out⟩
       have hfin : few h = true := HF.out.trans (by simp [fewA]; omega)
       clear HF
       have HF := zH hfin
       clear hfin
       go_wp2
       go_ret
       exact ⟨by rw [HF.out]; rfl, HS.out.trans HT.out⟩
theorem thin_a {b : Book} (e : b.seats.all (fun l => decide (l.length ≤ 120)) = false) : thin b = false := by simp [thin, e]
theorem thin_d {b : Book} (a : b.seats.all (fun l => decide (l.length ≤ 120)) = true) : thin b = thinA b := by simp [thin, a]
theorem thin_any (S : Nat → Prop) (b : Book) (v : Value) (w : World) (hv : AV S w v b) :
  Calls Tryz.prog 17 #[v] w fun e w' => e = .returned (.bool (thin b)) ∧ Step w w' := by
 obtain ⟨d1, d2, d4, rfl, s1, s2, s4⟩ := hv.book
 obtain ⟨q1, m1, b1, o1, rfl, _, n1, hp1, hc1, hb1⟩ := s1.rows
 obtain ⟨q2, m2, rfl⟩ := s2.form
 obtain ⟨q4, m4, rfl⟩ := s4.form
 have n2 := s2.len
 have n4 := s4.len
 obtain ⟨W0, hW0⟩ : ∃ W0, W0 = w.alloc (.cells #[.int .i64 b.agency, .slice q1 b.seats.length m1, .slice q2 b.off.length m2, .int .i64 b.sent, .slice q4 b.took.length m4, .int .i64 b.cash] 56) := ⟨_, rfl⟩
 have hbx : Bx W0 w.heap.size [.int .i64 b.agency, .slice q1 b.seats.length m1, .slice q2 b.off.length m2, .int .i64 b.sent, .slice q4 b.took.length m4, .int .i64 b.cash] 56 := by subst hW0; exact Bx.new _ _ _
 have hS : Step w W0 := by subst hW0; exact (by with_reducible repeat (first | assumption | exact Step.refl _ | apply Step.s_alloc | apply Step.s_drew | apply Step.s_drewN | refine Step.trans ?_ (by assumption)))
 have HB := zH hbx
 have HS := zH hS
 have H1 := zH (And.intro hp1 hc1)
 have HW := zH hW0
 clear hv s1 s2 s4 hbx hS hp1 hc1 hb1 hW0
 go_enter Tryz.func17, Tryz.ntmps17
 go_wp2
 go_loopw [3] (fun i wr => ∃ k : Nat, k ≤ b.seats.length ∧ i = .int .i64 k ∧ (b.seats.take k).all (fun l => decide (l.length ≤ 120)) = true ∧ Step W0 wr) (fun i _ => b.seats.length - (intOf i).toNat)
 case atStart => exact ⟨0, Nat.zero_le _, rfl, rfl, by rw [HW.out]; exact Step.refl _⟩
 case round =>
  obtain ⟨k, hk, rfl, ht, hT⟩ := hrel
  have HA := zH ht
  have HT := zH hT
  clear ht hT
  obtain ⟨e0, e1, e2, e3, e4, e5⟩ := cells6 (HB.out.step HT.out)
  by_cases hlt : k < b.seats.length
  ·obtain rfl := H1.out.1 (by omega)
   obtain ⟨u, a1, hu⟩ := H1.out.2 k hlt
   have a1 := (HS.out.trans HT.out).kc a1
   have hul := hu.len
   obtain ⟨pu, ku, rfl⟩ := hu.form
   clear hu
   have hix : (0 : Int) ≤ (k : Int) ∧ (k : Int) < (b.seats.length : Int) := by omega
   by_cases hx : b.seats[k].length > 120
   ·have HF := zH (thin_a (b := b) (all_miss hlt (by simp; omega)))
    go_wp2
    go_ret
    exact ⟨by rw [HF.out]; rfl, HS.out.trans HT.out⟩
   ·go_wp2
    go_roundw
    case rel => exact ⟨k + 1, by omega, by go_num, all_take HA.out hlt (by simp; omega), HT.out⟩
    case measure => simp [intOf]; omega
  ·have HA := zH (all_done HA.out hlt)
   have HF := zH (thin_d HA.out)
   by_cases q0 : (b.seats.length : Int) ≤ 8
   rotate_left
   ·have hfin : thin b = false := HF.out.trans (by simp [thinA]; omega)
    clear HF
    have HF := zH hfin
    clear hfin
    go_wp2
    go_ret
    exact ⟨by rw [HF.out]; rfl, HS.out.trans HT.out⟩
   by_cases q1' : (b.off.length : Int) ≤ 8
   rotate_left
   ·have hfin : thin b = false := HF.out.trans (by simp [thinA]; omega)
    clear HF
    have HF := zH hfin
    clear hfin
    go_wp2
    go_ret
    exact ⟨by rw [HF.out]; rfl, HS.out.trans HT.out⟩
   by_cases q2' : (b.took.length : Int) ≤ 40
   ·have hfin : thin b = true := HF.out.trans (by simp [thinA]; omega)
    clear HF
    have HF := zH hfin
    clear hfin
    go_wp2
    go_ret
    exact ⟨by rw [HF.out]; rfl, HS.out.trans HT.out⟩
   by_cases q3 : (b.took.length : Int) > 1000
   rotate_left
   ·have hfin : thin b = false := HF.out.trans (by simp [thinA]; omega)
    clear HF
    have HF := zH hfin
    clear hfin
    go_wp2
    go_ret
    exact ⟨by rw [HF.out]; rfl, HS.out.trans HT.out⟩
   by_cases q4' : (b.took.length : Int) ≤ 1002
   ·have hfin : thin b = true := HF.out.trans (by simp [thinA]; omega)
    clear HF
    have HF := zH hfin
    clear hfin
    go_wp2
    go_ret
    exact ⟨by rw [HF.out]; rfl, HS.out.trans HT.out⟩
   have hfin : thin b = false := HF.out.trans (by simp [thinA]; omega)
   clear HF
   have HF := zH hfin
   clear hfin
   go_wp2
   go_ret
   exact ⟨by rw [HF.out]; rfl, HS.out.trans HT.out⟩
end Go.Proofs.YtgpiieogiafdoaaGreat
