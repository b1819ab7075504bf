/- Walks and plain laws, part m. -/
import Derived.Test.YtgpiieogiafdoaaGreatMu
import Derived.Test.YtgpiieogiafdoaaGreatMv
import Derived.Test.YtgpiieogiafdoaaGreatMw
import Derived.Test.YtgpiieogiafdoaaGreatMx
import Derived.Test.YtgpiieogiafdoaaGreatRows
import Derived.BigQuiet
import Derived.Deep.AppendLies
import Derived.Deep.DeepCutAuto
import Derived.Deep.QuietTactic
import Derived.Deep.RegionHeld3
import Derived.Lib.Hide
import Derived.WalkKit
import Derived.WalkLawsBesides
import Derived.WalkSmall
set_option maxHeartbeats 16000000
set_option maxRecDepth 100000
namespace Go.BT
open Go.RowKit
def KeepB (base : Nat) (w w' : World) : Prop := w.heap.size ≤ w'.heap.size ∧ ∀ g o, base ≤ g → w.heap[g]? = some o → w'.heap[g]? = some o
namespace Sc
open Go.RowKit
inductive Kd where
 | silent | chain | alloc (T : TypeId) (z : Value)
def madeV (z : Value) (g : Nat) : Value := match z with
 | .tuple xs => .slice (some ⟨g, 0, none⟩) xs.size xs.size
 | _ => .pointer (some ⟨g, 0, none⟩)
def madeC (z : Value) : Array Value := match z with
 | .tuple xs => xs
 | z => z.cells
def QF : Exit → Act → World → Prop := fun _ _ _ => False
abbrev Cont := (Nat → Prop) → Act → World → Prop
def ContMono (K : Cont) : Prop := ∀ (N N' : Nat → Prop) a w w', (∀ g, N' g → N g) → Step w w' → K N a w → K N' a w'
section
variable (P : Program) (ops : Array Oper) (base : Nat) (kd : Nat → Kd)
def go (i : Nat) (K : Cont) : Cont := fun N a w =>
 match kd i with
 | .silent => ∃ o v, ops[i]? = some o ∧ YieldsIf P ops (Step w) o v a ∧ K N (a.put o.dst v) w
 | .chain => ∀ W, Step w W → wpOp P ops QF i (fun a' w' => KeepB base W w' ∧ K (fun g => N g ∧ (g < W.heap.size ∨ w'.heap.size ≤ g)) a' w') a W
 | .alloc T z => ∀ W g, Step w W → W.heap[g]? = some (.cells (madeC z) T (0, 0)) → base ≤ g → N g → K (fun x => N x ∧ x ≠ g) (a.put ((ops[i]?).bind (·.dst)) (madeV z g)) W
def run (l : List Nat) (K : Cont) : Cont := l.foldr (fun i K => go P ops base kd i K) K
variable {P ops base kd}
theorem YieldsIf.step {o : Oper} {v : Value} {a : Act} {w w' : World} (h : YieldsIf P ops (Step w) o v a) (hs : Step w w') : YieldsIf P ops (Step w') o v a :=
 h.imp (fun ⟨hw, hv⟩ => ⟨hw, fun W hW => hv W (hs.trans hW)⟩) id
theorem go_mono {i : Nat} {K : Cont} (hK : ContMono K) : ContMono (go P ops base kd i K) := by
 intro N N' a w w' hN hs hg
 unfold go at *
 split at hg
 ·obtain ⟨o, v, ho, hy, hk⟩ := hg; exact ⟨o, v, ho, YieldsIf.step hy hs, hK _ _ _ _ _ hN hs hk⟩
 ·exact fun W hW => wpOp_mono (fun a' w' ⟨hs', hk⟩ => ⟨hs', hK _ _ _ _ _ (fun g ⟨h1, h2⟩ => ⟨hN g h1, h2⟩) (Step.refl _) hk⟩) (hg W (hs.trans hW))
 ·exact fun W g h1 h2 h3 h4 => hK _ _ _ _ _ (fun x ⟨h5, h6⟩ => ⟨hN x h5, h6⟩) (Step.refl _) (hg W g (hs.trans h1) h2 h3 (hN g h4))
theorem run_mono {K : Cont} (hK : ContMono K) : ∀ l, ContMono (run P ops base kd l K)
 | [] => hK
 | _ :: l => go_mono (run_mono hK l)
variable {tab : List Nat}
def K0 (P : Program) (ops : Array Oper) (Q : Exit → Act → World → Prop) (t : List Nat) : Cont := fun _ a w => ∀ W, Step w W → wpOps P ops Q t a W
theorem K0_mono {Q : Exit → Act → World → Prop} (t : List Nat) : ContMono (K0 P ops Q t) := fun _ _ _ _ _ _ hs h W hW => h W (hs.trans hW)
def kdOf (calls : List Nat) (allocs : List (Nat × TypeId × Value)) (i : Nat) : Kd :=
 if calls.contains i then .chain else match allocs.find? (fun x => x.1 == i) with
  | some (_, T, z) => .alloc T z
  | none => .silent
section
variable {K : Cont} {N : Nat → Prop} {a : Act} {w : World} {i : Nat} {l : List Nat} {o : Oper}
theorem run_silent {v : Value} (hk : kd i = .silent) (ho : ops.toList[i]? = some o) (hy : YieldsIf P ops (Step w) o v a) (h : run P ops base kd l K N (a.put o.dst v) w) : run P ops base kd (i :: l) K N a w := by
 show go P ops base kd i _ N a w
 unfold go; rw [hk]; exact ⟨o, v, by simpa using ho, hy, h⟩
theorem run_want (hk : kd i = .silent) (ho : ops.toList[i]? = some o) (hw : Region.wanted o (yielded ops a.tmps) = true) (h : ∃ v, (∀ W, Step w W → (execOp a.eval o).run P W = .ok (.value v) W) ∧ run P ops base kd l K N (a.put o.dst v) w) :
  run P ops base kd (i :: l) K N a w := by
 obtain ⟨v, h1, h2⟩ := h
 exact run_silent hk ho (.inl ⟨hw, h1⟩) h2
theorem run_off (hk : kd i = .silent) (ho : ops.toList[i]? = some o) (hw : Region.wanted o (yielded ops a.tmps) = false) (h : run P ops base kd l K N (a.put o.dst undef) w) : run P ops base kd (i :: l) K N a w :=
 run_silent hk ho (.inr ⟨hw, rfl⟩) h
theorem run_chain (hk : kd i = .chain) (ho : ops.toList[i]? = some o) (hw : Region.wanted o (yielded ops a.tmps) = true)
  (h : ∀ W, Step w W → ∀ K' : Act → World → Prop, (∀ a' w', KeepB base W w' → run P ops base kd l K (fun g => N g ∧ (g < W.heap.size ∨ w'.heap.size ≤ g)) a' w' → K' a' w') → o.wp P a W K' QF) : run P ops base kd (i :: l) K N a w := by
 show go P ops base kd i _ N a w
 have ho : ops[i]? = some o := by simpa using ho
 unfold go; rw [hk]
 intro W hW
 unfold wpOp; simp only [ho, hw, if_true]
 exact .inl (h W hW _ (fun a' w' hs hr => ⟨hs, hr⟩))
theorem run_chain_off (hk : kd i = .chain) (ho : ops.toList[i]? = some o) (hw : Region.wanted o (yielded ops a.tmps) = false) (hK : ContMono K)
  (h : run P ops base kd l K N (a.put o.dst undef) w) : run P ops base kd (i :: l) K N a w := by
 show go P ops base kd i _ N a w
 have ho : ops[i]? = some o := by simpa using ho
 unfold go; rw [hk]
 intro W hW
 unfold wpOp; simp only [ho, hw]
 exact ⟨⟨Nat.le_refl _, fun _ _ _ h => h⟩, run_mono hK l _ _ _ _ _ (fun g hg => hg.1) hW h⟩
theorem run_alloc {T : TypeId} {z : Value} (hk : kd i = .alloc T z) (ho : ops.toList[i]? = some o)
  (h : ∀ W g, Step w W → W.heap[g]? = some (.cells z.cells T (0, 0)) → base ≤ g → N g → run P ops base kd l K (fun x => N x ∧ x ≠ g) (a.put o.dst (.pointer (some ⟨g, 0, none⟩))) W)
  (hv : ∀ g, madeV z g = .pointer (some ⟨g, 0, none⟩) := by exact fun _ => rfl) (hc : madeC z = z.cells := by exact rfl) : run P ops base kd (i :: l) K N a w := by
 show go P ops base kd i _ N a w
 have ho : ops[i]? = some o := by simpa using ho
 unfold go; rw [hk, ho]
 intro W g h1 h2 h3 h4
 rw [hc] at h2
 rw [hv]
 exact h W g h1 h2 h3 h4
theorem run_end {Q : Exit → Act → World → Prop} {t : List Nat} {L : List Oper} (ht : t.map (fun i => ops.toList[i]?) = L.map some) (h : ∀ W, Step w W → wpList P ops Q L a W) : run P ops base kd [] (K0 P ops Q t) N a w := by
 intro W hW
 have h' := h W hW
 clear h hW
 show wpOps P ops Q t a W
 induction t generalizing L a W with
 | nil =>
  cases L with
  | nil => exact h'
  | cons _ _ => simp at ht
 | cons x t ih =>
  cases L with
  | nil => simp at ht
  | cons o L =>
   simp only [List.map_cons, List.cons.injEq, Array.getElem?_toList] at ht
   rw [wpOps_cons]
   unfold wpOp
   unfold wpList at h'
   simp only [ht.1]
   split
   ·rename_i hw
    rw [if_pos hw] at h'
    exact h'.imp (Oper.wp_mono fun a' w' hh => ih (by simpa using ht.2) w' hh) id
   ·rename_i hw
    rw [if_neg hw] at h'
    exact ih (by simpa using ht.2) W h'
end
end
end Sc
end Go.BT
namespace Go.Proofs.YtgpiieogiafdoaaGreat
set_option linter.unusedSimpArgs false
set_option linter.unusedVariables false
open Go.RowKit Go.BT
theorem actE_kind {w : Wd} {x : ActT} (hk : x.kind < 1 ∨ 5 < x.kind) : actE w x = 1 := by unfold actE; rw [if_pos hk]
theorem actE_agency {w : Wd} {x : ActT} (hk : ¬ (x.kind < 1 ∨ 5 < x.kind)) (ha : withinB x.agency 0 (w.books.length - 1) = false) : actE w x = 2 := by unfold actE; rw [if_neg hk, if_pos ha]
theorem actE_mess {w : Wd} {x : ActT} (hk : ¬ (x.kind < 1 ∨ 5 < x.kind)) (ha : withinB x.agency 0 (w.books.length - 1) = true) (hm : x.kind = 4 ∧ withinB x.msg 0 (w.msgs.length - 1) = false) : actE w x = 2 := by unfold actE; rw [if_neg hk, if_neg (by simp [ha]), if_pos hm]
theorem actE_zero {w : Wd} {x : ActT} (hk : ¬ (x.kind < 1 ∨ 5 < x.kind)) (ha : withinB x.agency 0 (w.books.length - 1) = true) (hm : x.kind = 4 → withinB x.msg 0 (w.msgs.length - 1) = true) : actE w x = 0 := by
 unfold actE
 rw [if_neg hk, if_neg (by simp [ha]), if_neg (fun hh => by rw [hm hh.1] at hh; exact absurd hh.2 (by decide))]
theorem actD_err {h : House} {w : Wd} {x : ActT} {c : Int} (he : actE w x = c) (hc : c ≠ 0) : actD h w x = (w, c) := by
 unfold actD
 rw [he, if_neg hc]
theorem actD_refused {h : House} {w : Wd} {x : ActT} {b : Book} {i : Nat} {c : Int} (hv : valid h = true) (he : actE w x = 0) (hi : x.agency = i) (hb : w.books.getD i noBook = b) (hk : bookB h b = true) (hr : deskD h w b x = .error c) : actD h w x = (w, c) := by
 unfold actD
 rw [if_pos he, hi, Int.toNat_natCast, hb, gate_ok hv hk, hr]
 rfl
theorem actD_done {h : House} {w : Wd} {x : ActT} {b b' : Book} {ms : List BT.Message} {i : Nat} (hv : valid h = true) (he : actE w x = 0) (hi : x.agency = i) (hb : w.books.getD i noBook = b) (hk : bookB h b = true) (hr : deskD h w b x = .ok (b', ms)) : actD h w x = (⟨w.books.set i b', w.msgs ++ ms⟩, 0) := by
 unfold actD
 rw [if_pos he, hi, Int.toNat_natCast, hb, gate_ok hv hk, hr]
 rfl
theorem Play.put {X : Nat → Prop} {n0 : Nat} {w : World} {gp : Nat} {h : House} {W : Wd} {c0 c1 c2 c3 c4 vb vm : Value} (P : Play X n0 w gp h W c0 c1 c2 c3 c4 vb vm) {i : Nat} (hi : i < W.books.length) :
    ∃ g cap cs, vb = .slice (some ⟨g, 0, none⟩) W.books.length cap ∧ Bx w g cs 77 ∧ i * 6 + 6 ≤ cs.length ∧ ∀ w' ds (b' : Book), Rep.rep (avoid (fun j => (X j ∨ j < n0) ∨ j = gp ∨ vm.ownBlock = some j) vb) w ds b' → Wrote g w w' → Bx w' g (cs.take (i * 6) ++ ds ++ cs.drop (i * 6 + 6)) 77 →
      Play X n0 w' gp h ⟨W.books.set i b', W.msgs⟩ c0 c1 c2 c3 c4 vb vm := by
  obtain ⟨g, cap, cs, hvb, hgb, hbx, hcs, _, hput⟩ := P.books.row_put hi
  refine ⟨g, cap, cs, hvb, hbx, hcs, fun w' ds b' hr hw hb => ?_⟩
  have hown : vb.ownBlock = some g := by rw [hvb]; rfl
  have hng := P.bxx g hown
  exact { bx := P.bx.keep hw.keeps fun e => hng.2 e.symm, low := P.low, house := Rep.keep (.wrote hw hgb) P.house, books := hput w' ds b' hr hw hb,
          msgs := P.msgs.wrote hw (.inr (.inr hown)) (P.apart g hown), xlow := P.xlow, gx := P.gx, bxx := P.bxx, mxx := P.mxx }
theorem _root_.Go.BT.Wrote.stepX {g : Nat} {w w' : World} (h : Wrote g w w') : StepX (fun j => j = g) w w' := ⟨h.os, h.tape, h.output, Nat.le_of_eq h.size.symm, fun j _ hn => h.block j hn⟩
theorem infoBook : (Tryz.prog.info? 77).map (fun i => (i.zero, i.size, i.bytes)) = some (some (.agg #[.int .i64 0, .slice none 0 0, .slice none 0 0, .int .i64 0, .slice none 0 0, .int .i64 0]), 6, 96) := by kernel_rfl
theorem eiBooks : EI Tryz.prog 31 77 (.agg #[.int .i64 0, .slice none 0 0, .slice none 0 0, .int .i64 0, .slice none 0 0, .int .i64 0]) 6 96 := .mk' Tryz.underlying31 infoBook rfl
theorem msgs_le {h : House} (hv : valid h = true) (l : List ActT) : ∀ k, (worldAt h l k).msgs.length ≤ k
 | 0 => by simp [worldAt, startD]
 | k + 1 => by
  obtain ⟨ms, e, h1, _⟩ := (act_ok hv (world_ok hv l k) (l.getD k noAct)).2
  show (actD h (worldAt h l k) (l.getD k noAct)).1.msgs.length ≤ k + 1
  rw [e, List.length_append]
  have := msgs_le hv l k
  omega
def openTo (h : House) (k : Nat) : List Book := (List.range k).map fun (a : Nat) => openP h (a : Int)
theorem openTo_succ (h : House) (k : Nat) : openTo h (k + 1) = openTo h k ++ [openP h (k : Int)] := by simp [openTo, List.range_succ]
theorem openTo_len (h : House) (k : Nat) : (openTo h k).length = k := by simp [openTo]
def actsA (l : List ActT) : Bool := decide ((l.length : Int) ≤ 40) || decide ((l.length : Int) > 200) && decide ((l.length : Int) ≤ 202)
def actsB (l : List ActT) : Bool := l.all (fun x => decide (x.seats.length ≤ 120)) && actsA l
theorem acts_any (S : Nat → Prop) (l : List ActT) (v : Value) (w : World) (hv : SL S w v l) :
  Calls Tryz.prog 9 #[v] w fun e w' => e = .returned (.bool (actsB l)) ∧ Step w w' := by
 obtain ⟨p, c, bb, bo, rfl, _, hm, hp, hc, hb⟩ := hv.acts
 have HC := zH (And.intro hp hc)
 clear hp hc hb hv
 go_enter Tryz.func9, Tryz.ntmps9
 go_wp2
 go_loopw [2, 3] (fun r i wr => ∃ k : Nat, k ≤ l.length ∧ i = .int .i64 k ∧ (l.take k).all (fun x => decide (x.seats.length ≤ 120)) = true ∧ Step w wr) (fun _ i _ => l.length - (intOf i).toNat)
 case atStart => exact ⟨0, Nat.zero_le _, rfl, rfl, Step.refl _⟩
 case round =>
  obtain ⟨k, hk, rfl, ht, hT⟩ := hrel
  have HA := zH ht
  have HT := zH hT
  clear ht hT
  by_cases hlt : k < l.length
  ·obtain rfl := HC.out.1 (by omega)
   obtain ⟨c8, ⟨_, _, _, _, _, _, _, _, q8⟩, hs8, _⟩ := HC.out.2 k hlt
   have q8 := HT.out.kc q8
   obtain ⟨p8, k8, rfl⟩ := hs8.form
   have hsl := hs8.len
   have hix : (0 : Int) ≤ (k : Int) ∧ (k : Int) < (l.length : Int) := by omega
   by_cases hx : l[k].seats.length > 120
   ·have HF := zH (show actsB l = false by unfold actsB; rw [all_miss hlt (by simp; omega)]; rfl)
    have d : decide ((120 : Int) < (l[k].seats.length : Int)) = true := decide_eq_true (by omega)
    have dn : decide (120 < l[k].seats.length) = true := decide_eq_true hx
    go_wp2
    go_ret
    exact ⟨by rw [HF.out]; rfl, HT.out⟩
   ·have d : decide ((120 : Int) < (l[k].seats.length : Int)) = false := decide_eq_false (by omega)
    have dn : decide (120 < l[k].seats.length) = false := decide_eq_false hx
    go_wp2
    go_roundw
    case rel => exact ⟨k + 1, by omega, by go_num, all_take HA.out hlt (by simp; omega), HT.out⟩
    case measure => simp [intOf]; omega
  ·have HA := zH (all_done HA.out hlt)
   have HF := zH (show actsB l = actsA l by unfold actsB; rw [HA.out]; rfl)
   by_cases h1 : l.length ≤ 40
   ·have d1 : decide ((l.length : Int) ≤ 40) = true := decide_eq_true (by omega)
    have d1n : decide (l.length ≤ 40) = true := decide_eq_true h1
    have HR := zH (show actsA l = true by unfold actsA; rw [d1]; rfl)
    go_wp2
    go_ret
    exact ⟨by rw [HF.out, HR.out]; rfl, HT.out⟩
   have d1 : decide ((l.length : Int) ≤ 40) = false := decide_eq_false (by omega)
   have d1n : decide (l.length ≤ 40) = false := decide_eq_false h1
   by_cases h2 : 200 < l.length
   ·have d2 : decide ((200 : Int) < (l.length : Int)) = true := decide_eq_true (by omega)
    have d2n : decide (200 < l.length) = true := decide_eq_true h2
    obtain ⟨r, hr⟩ : ∃ r, decide ((l.length : Int) ≤ 202) = r := ⟨_, rfl⟩
    have hrn : decide (l.length ≤ 202) = r := by rw [← hr]; exact decide_eq_decide.2 (by omega)
    have HR := zH (show actsA l = r by unfold actsA; rw [d1, hr]; simp; omega)
    go_wp2
    go_ret
    exact ⟨by rw [HF.out, HR.out]; rfl, HT.out⟩
   have d2 : decide ((200 : Int) < (l.length : Int)) = false := decide_eq_false (by omega)
   have d2n : decide (200 < l.length) = false := decide_eq_false h2
   have HR := zH (show actsA l = false by unfold actsA; rw [d1]; simp; omega)
   go_wp2
   go_ret
   exact ⟨by rw [HF.out, HR.out]; rfl, HT.out⟩
end Go.Proofs.YtgpiieogiafdoaaGreat
namespace Go.Proofs.YtgpiieogiafdoaaGreat
set_option linter.unusedSimpArgs false
open Go.RowKit Go.BT
def fewB (h : House) : Prop := h.sectors.length ≤ 1000 ∧ h.prices.length ≤ 1000 ∧ h.dates.length ≤ 1000 ∧ h.frm.length ≤ 1000 ∧ h.holds.length ≤ 1000 ∧ (∀ i (hi : i < h.frm.length), h.frm[i].length ≤ 1000000) ∧ (∀ i (hi : i < h.holds.length), h.holds[i].length ≤ 1000000)
theorem siHouse : SI Tryz.prog 41 5 := ⟨⟨_, Tryz.underlying41⟩, by kernel_rfl⟩
theorem infoSector : (Tryz.prog.info? 117).map (fun i => (i.zero, i.size, i.bytes)) = some (some (.agg #[.int .i64 0, .int .i64 0]), 2, 16) := by kernel_rfl
theorem eiSectors : EI Tryz.prog 39 117 (.agg #[.int .i64 0, .int .i64 0]) 2 16 := .mk' Tryz.underlying39 infoSector rfl
theorem House_any (S : Nat → Prop) (h : House) (v : Value) (w : World) (hv : AV S w v h) (hf : fewB h) :
  Calls Tryz.prog 12 #[v] w fun e w' => ∃ v', e = .returned v' ∧ AV (Old w) w' v' h ∧ Step w w' := by
 obtain ⟨c0, c1, c2, c3, c4, rfl, h0, h1, h2, h3, h4⟩ := hv.house
 obtain ⟨p0, k0, rfl⟩ := h0.form
 obtain ⟨p1, k1, rfl⟩ := h1.form
 obtain ⟨p2, k2, rfl⟩ := h2.form
 obtain ⟨p3, k3, rfl⟩ := h3.form
 obtain ⟨p4, k4, rfl⟩ := h4.form
 obtain ⟨f0, f1, f2, f3, f4, f5, f6⟩ := hf
 go_enter Tryz.func12, Tryz.ntmps12
 go_upto_region 1 with fail
 go_cut [3] (fun s3 wx => ∃ g q1 q2 q3 q4, s3 = .pointer (some ⟨g, 0, none⟩) ∧ w.heap.size + 2 ≤ g ∧ g < wx.heap.size ∧
   (wx.cell? ⟨g, 0, none⟩ = some (.slice none 0 0) ∧ wx.cell? ⟨g, 1, none⟩ = some q1 ∧ wx.cell? ⟨g, 2, none⟩ = some q2 ∧ wx.cell? ⟨g, 3, none⟩ = some q3 ∧ wx.cell? ⟨g, 4, none⟩ = some q4 ∧ wx.frozen? ⟨g, 0, none⟩ = false) ∧ Bx wx g [.slice none 0 0, q1, q2, q3, q4] 41 ∧
   (SL (fun j => j < w.heap.size + 2 ∨ j = g) wx q1 h.prices ∧ SL (fun j => j < w.heap.size + 2 ∨ j = g) wx q2 h.dates ∧ SL (fun j => j < w.heap.size + 2 ∨ j = g) wx q3 h.frm ∧ SL (fun j => j < w.heap.size + 2 ∨ j = g) wx q4 h.holds) ∧ Step ((w.alloc
   (.cells #[.slice p0 h.sectors.length k0, .slice p1 h.prices.length k1, .slice p2 h.dates.length k2, .slice p3 h.frm.length k3, .slice p4 h.holds.length k4] 26)).alloc
 (.cells #[.slice none 0 0, .slice none 0 0, .slice none 0 0, .slice none 0 0, .slice none 0 0] 41)) wx)
 case first =>
  refine wp_region_seq (kdOf [2, 5, 8, 11] [(13, 41, .agg #[.slice none 0 0, .slice none 0 0, .slice none 0 0, .slice none 0 0, .slice none 0 0])]) [0, 1, 3, 0, 8, 31, 0, 64, 255, 0, 512, 2047, 4095, 0, 16383] [0, 1, 3, 4, 6, 7, 9, 10, 2, 5, 8, 11, 12, 13] [14] (by kernel_rfl) (by kernel_rfl) (fun i T z hi hk => by simp only [List.mem_cons, List.not_mem_nil, or_false] at hi; rcases hi with rfl | rfl | rfl | rfl | rfl | rfl | rfl | rfl | rfl | rfl | rfl | rfl | rfl | rfl <;> simp [kdOf] at hk <;> (obtain ⟨rfl, rfl⟩ := hk; first | (show Option.bind _ _ = some _; kernel_rfl) | (refine ⟨_, rfl, fun _ _ => ?_⟩; go_simp))) ?_
  intro W0 hW0
  obtain ⟨hc, hf⟩ := hW0.cells
  have z0 := hW0.size
  (try simp only [World.size_alloc, World.size_drew, World.size_setCell, World.size_drewN, Nat.add_one_le_iff] at z0)
  have y0 : w.heap.size < W0.heap.size := by omega
  repeat ((refine run_want rfl rfl (by rfl) ⟨?_, fun W hW => ?_, ?_⟩; rotate_left; (· (obtain ⟨hc'', hf''⟩ := hW.cells; go_simp; (try with_reducible rfl)))); (try simp only [Act.put, zA, zB, zC]))
  clear hc hf
  refine run_chain rfl rfl (by rfl) (fun W1 hW1 K' hK => ?_)
  go_simp
  refine (list_any _ _ _ _ (h1.keep (by repeat (first | (with_reducible exact Keeps.refl _ _) | (with_reducible apply Keeps.s_alloc) | (with_reducible apply Keeps.s_drew) | (with_reducible apply Keeps.s_drewN) | (with_reducible refine Keeps.s_step ?_ (by with_reducible assumption)) | (with_reducible refine Keeps.s_wrote ?_ (by with_reducible assumption) (by first | exact Or.inr rfl | exact rfl))))) (by omega)).mono ?_
  rintro e w1 ⟨v1, rfl, hv1, hS1⟩
  obtain ⟨r1, m1, rfl⟩ := hv1.form
  refine hK _ _ hS1 ?_
  (try simp only [Act.put, zA, zB, zC])
  refine run_chain rfl rfl (by rfl) (fun W2 hW2 K' hK => ?_)
  go_simp
  refine (list_any _ _ _ _ (h2.keep (by repeat (first | (with_reducible exact Keeps.refl _ _) | (with_reducible apply Keeps.s_alloc) | (with_reducible apply Keeps.s_drew) | (with_reducible apply Keeps.s_drewN) | (with_reducible refine Keeps.s_step ?_ (by with_reducible assumption)) | (with_reducible refine Keeps.s_wrote ?_ (by with_reducible assumption) (by first | exact Or.inr rfl | exact rfl))))) (by omega)).mono ?_
  rintro e w2 ⟨v2, rfl, hv2, hS2⟩
  obtain ⟨r2, m2, rfl⟩ := hv2.form
  refine hK _ _ hS2 ?_
  (try simp only [Act.put, zA, zB, zC])
  refine run_chain rfl rfl (by rfl) (fun W3 hW3 K' hK => ?_)
  go_simp
  refine (rows_any _ _ _ _ (h3.keep (by repeat (first | (with_reducible exact Keeps.refl _ _) | (with_reducible apply Keeps.s_alloc) | (with_reducible apply Keeps.s_drew) | (with_reducible apply Keeps.s_drewN) | (with_reducible refine Keeps.s_step ?_ (by with_reducible assumption)) | (with_reducible refine Keeps.s_wrote ?_ (by with_reducible assumption) (by first | exact Or.inr rfl | exact rfl))))) (by omega) f5).mono ?_
  rintro e w3 ⟨v3, rfl, hv3, hS3⟩
  obtain ⟨r3, m3, rfl⟩ := hv3.form
  refine hK _ _ hS3 ?_
  (try simp only [Act.put, zA, zB, zC])
  refine run_chain rfl rfl (by rfl) (fun W4 hW4 K' hK => ?_)
  go_simp
  refine (rows_any _ _ _ _ (h4.keep (by repeat (first | (with_reducible exact Keeps.refl _ _) | (with_reducible apply Keeps.s_alloc) | (with_reducible apply Keeps.s_drew) | (with_reducible apply Keeps.s_drewN) | (with_reducible refine Keeps.s_step ?_ (by with_reducible assumption)) | (with_reducible refine Keeps.s_wrote ?_ (by with_reducible assumption) (by first | exact Or.inr rfl | exact rfl))))) (by omega) f6).mono ?_
  rintro e w4 ⟨v4, rfl, hv4, hS4⟩
  obtain ⟨r4, m4, rfl⟩ := hv4.form
  refine hK _ _ hS4 ?_
  (try simp only [Act.put, zA, zB, zC])
  repeat ((refine run_want rfl rfl (by rfl) ⟨?_, fun W hW => ?_, ?_⟩; rotate_left; (· (obtain ⟨hc'', hf''⟩ := hW.cells; go_simp; (try with_reducible rfl)))); (try simp only [Act.put, zA, zB, zC]))
  refine run_alloc rfl rfl (fun W5 g hW5 hg hgb hgN => ?_)
  (try simp only [Act.put, zA, zB, zC])
  refine run_end (L := [_]) rfl (fun W6 hW6 => ?_)
  have hb6 := Bx.step (w := W5) (cs := [_, _, _, _, _]) hg hW6
  refine wpl_store (v := .agg #[.slice none 0 0, .slice r1 h.prices.length m1, .slice r2 h.dates.length m2, .slice r3 h.frm.length m3, .slice r4 h.holds.length m4]) rfl _ _ _ rfl rfl rfl hb6 (by kernel_rfl) (by simp [Value.cells]) (by simp [Value.cells, Value.oneCell']) [.slice none 0 0, .slice r1 h.prices.length m1, .slice r2 h.dates.length m2, .slice r3 h.frm.length m3, .slice r4 h.holds.length m4] rfl (fun w7 hb7 hw7 => ?_)
  obtain ⟨⟨⟨⟨_, n1⟩, n2⟩, n3⟩, n4⟩ := hgN
  have zhW1 := hW1.size; have zhW2 := hW2.size; have zhW3 := hW3.size; have zhW4 := hW4.size; have zhS1 := hS1.size; have zhS2 := hS2.size; have zhS3 := hS3.size; have zhS4 := hS4.size
  have hgb' : w.heap.size + 2 ≤ g := by simpa using hgb
  have o1 : ∀ j, j < w1.heap.size → j < w.heap.size + 2 ∨ j = g → j < W1.heap.size := fun j hj hs => by omega
  have o2 : ∀ j, j < w2.heap.size → j < w.heap.size + 2 ∨ j = g → j < W2.heap.size := fun j hj hs => by omega
  have o3 : ∀ j, j < w3.heap.size → j < w.heap.size + 2 ∨ j = g → j < W3.heap.size := fun j hj hs => by omega
  have o4 : ∀ j, j < w4.heap.size → j < w.heap.size + 2 ∨ j = g → j < W4.heap.size := fun j hj hs => by omega
  have q1 := hv1.later (w' := w7) o1 (by repeat (first | (with_reducible exact Keeps.refl _ _) | (with_reducible apply Keeps.s_alloc) | (with_reducible apply Keeps.s_drew) | (with_reducible apply Keeps.s_drewN) | (with_reducible refine Keeps.s_step ?_ (by with_reducible assumption)) | (with_reducible refine Keeps.s_wrote ?_ (by with_reducible assumption) (by first | exact Or.inr rfl | exact rfl))))
  have q2 := hv2.later (w' := w7) o2 (by repeat (first | (with_reducible exact Keeps.refl _ _) | (with_reducible apply Keeps.s_alloc) | (with_reducible apply Keeps.s_drew) | (with_reducible apply Keeps.s_drewN) | (with_reducible refine Keeps.s_step ?_ (by with_reducible assumption)) | (with_reducible refine Keeps.s_wrote ?_ (by with_reducible assumption) (by first | exact Or.inr rfl | exact rfl))))
  have q3 := hv3.later (w' := w7) o3 (by repeat (first | (with_reducible exact Keeps.refl _ _) | (with_reducible apply Keeps.s_alloc) | (with_reducible apply Keeps.s_drew) | (with_reducible apply Keeps.s_drewN) | (with_reducible refine Keeps.s_step ?_ (by with_reducible assumption)) | (with_reducible refine Keeps.s_wrote ?_ (by with_reducible assumption) (by first | exact Or.inr rfl | exact rfl))))
  have q4 := hv4.later (w' := w7) o4 (by repeat (first | (with_reducible exact Keeps.refl _ _) | (with_reducible apply Keeps.s_alloc) | (with_reducible apply Keeps.s_drew) | (with_reducible apply Keeps.s_drewN) | (with_reducible refine Keeps.s_step ?_ (by with_reducible assumption)) | (with_reducible refine Keeps.s_wrote ?_ (by with_reducible assumption) (by first | exact Or.inr rfl | exact rfl))))
  have q5 := Step.wrote (w' := w7) (Step.trans hW0 (by with_reducible repeat (first | assumption | exact Step.refl _ | apply Step.s_alloc | apply Step.s_drew | apply Step.s_drewN | refine Step.trans ?_ (by assumption)))) hw7 (by simpa using hgb)
  clear hv1 hv2 hv3 hv4 hS1 hS2 hS3 hS4 hW0 hW1 hW2 hW3 hW4 hW5 hW6
  go_wp2_with fail
  go_meet
  exact ⟨g, _, _, _, _, rfl, hgb', hb7.lt, ⟨hb7.cell 0, hb7.cell 1, hb7.cell 2, hb7.cell 3, hb7.cell 4, hb7.frozen 0⟩, hb7, ⟨q1, q2, q3, q4⟩, q5⟩
 case rest =>
  obtain ⟨g, q1, q2, q3, q4, rfl, hg, hgl, ⟨e0, e1, e2, e3, e4, ef⟩, hb, ⟨s1, s2, s3, s4⟩, hS⟩ := hcut
  have b1 := (Bx.new w [.slice p0 h.sectors.length k0, .slice p1 h.prices.length k1, .slice p2 h.dates.length k2, .slice p3 h.frm.length k3, .slice p4 h.holds.length k4] 26).alloc (.cells #[.slice none 0 0, .slice none 0 0, .slice none 0 0, .slice none 0 0, .slice none 0 0] 41) |>.step hS
  have b2 : Bx wc (w.heap.size + 1) [.slice none 0 0, .slice none 0 0, .slice none 0 0, .slice none 0 0, .slice none 0 0] 41 := by
   have := (Bx.new (w.alloc (.cells #[.slice p0 h.sectors.length k0, .slice p1 h.prices.length k1, .slice p2 h.dates.length k2, .slice p3 h.frm.length k3, .slice p4 h.holds.length k4] 26)) [.slice none 0 0, .slice none 0 0, .slice none 0 0, .slice none 0 0, .slice none 0 0] 41).step hS
   simpa using this
  have b3 : Bx wc g [.slice none 0 0, q1, q2, q3, q4] 41 := hb
  have hB0 : Below w.heap.size w wc := Below.trans (((Below.refl _ w).alloc (Nat.le_refl _) _).alloc (by simp) _) (hS.below.mono (by simp; omega))
  clear hS
  go_wp2
  go_loopw [4] (fun i wr => ∃ (k : Nat) (q0 : Value), k ≤ h.sectors.length ∧ i = .int .i64 k ∧ Bx wr g [q0, q1, q2, q3, q4] 41 ∧ OwnL (fun j => j < w.heap.size + 2 ∨ j = g) wc.heap.size 117 wr q0 (h.sectors.take k) ∧ Keeps (fun j => j = g) wc wr ∧ Below w.heap.size w wr) (fun i _ => h.sectors.length - (intOf i).toNat)
  case atStart => exact ⟨0, _, Nat.zero_le _, rfl, b3, OwnL.nil _ _ _ _, Keeps.refl _ _, hB0⟩
  case round =>
   obtain ⟨k, q0, hk, rfl, b3, hown, hK, hB⟩ := hrel
   have b1 := b1.keep hK (by omega)
   have c1 := b1.cell 0
   simp only [List.getElem?_cons_zero] at c1
   by_cases hlt : k < h.sectors.length
   ·go_wp2_with fail
    obtain ⟨p0', k0', sb, so, he0, _, _, hsp, hsc, hs0⟩ := h0.sectors
    injection he0 with he1 he2 he3
    subst he1 he3
    obtain rfl := hsp (by omega)
    have hsb := hs0 (by omega)
    obtain ⟨a1, a2⟩ := hsc k hlt
    have a1 := (hB.cell (p := ⟨sb, so + k * 2, none⟩) hsb.1).trans a1
    have a2 := (hB.cell (p := ⟨sb, so + k * 2 + 1, none⟩) hsb.1).trans a2
    have c3 := b3.cell 0
    simp only [List.getElem?_cons_zero] at c3
    have x1 : ¬ q0.ownBlock = some w.heap.size := fun e => by have := (hown.lt _ e).1; have := hB0.size; omega
    have x2 : ¬ q0.ownBlock = some sb := fun e => by have := (hown.lt _ e).1; have := hB0.size; omega
    have x3 : ¬ q0.ownBlock = some g := fun e => by have := (hown.lt _ e).1; omega
    have hx : (0 : Int) ≤ (k : Int) ∧ (k : Int) < (h.sectors.length : Int) := by omega
    refine wp_region_seq (kdOf [15] []) [0, 1, 0, 4, 0, 28, 60, 124, 0, 256, 0, 1792, 3840, 7936, 16380, 32764, 65535, 131071, 262143] [0, 1, 2, 3, 4, 5, 6, 7, 8, 9, 10, 11, 12, 13, 14, 15] [16, 17, 18] (by kernel_rfl) (by kernel_rfl) (fun i T z hi hk => by simp [kdOf] at hk <;> (try (split at hk <;> cases hk))) ?_
    intro W0 hW0
    repeat ((refine run_want rfl rfl (by rfl) ⟨?_, fun W hW => ?_, ?_⟩; rotate_left; (· (have d1 := (hW0.trans hW).kc c1; have d3 := (hW0.trans hW).kc c3; have e1 := (hW0.trans hW).kc a1; have e2 := (hW0.trans hW).kc a2; go_simp; (try with_reducible rfl)))); (try simp only [Act.put, zA, zB, zC]))
    refine run_chain rfl rfl (by rfl) (fun W1 hW1 K' hK' => ?_)
    go_simp
    refine hK' _ _ (.of (Step.alloc _ _)) ?_
    (try simp only [Act.put, zA, zB, zC])
    refine run_end (L := [_, _, _]) rfl (fun W2 hW2 => ?_)
    have hown2 := ((hown.below hW0.below).below hW1.below).alloc (.cells #[.int .i64 h.sectors[k].cls, .int .i64 h.sectors[k].seats] 117)
    have hu := SLe.one (S := avoid (fun j => j < w.heap.size + 2 ∨ j = g) q0) (w := W1) (cs := [.int .i64 h.sectors[k].cls, .int .i64 h.sectors[k].seats]) (x := h.sectors[k]) 117 rfl
    have hown3 := hown2.step hW2
    have hu3 := hu.step hW2
    have b3 := ((b3.step hW0).step hW1).alloc (.cells #[.int .i64 h.sectors[k].cls, .int .i64 h.sectors[k].seats] 117) |>.step hW2
    have hST : Step wr W2 := ((hW0.trans hW1).trans (Step.alloc _ _)).trans hW2
    clear hW0 hW1 hown2 hu
    have hn1 : (h.sectors.take k).length + [h.sectors[k]].length = k + 1 := by simp; omega
    have hn2 : k + 1 ≤ maxLen := by simp only [maxLen]; omega
    have hn3 : wc.heap.size ≤ W2.heap.size := Nat.le_trans hK.1 hST.size
    have hn4 := (List.take_succ_eq_append_getElem hlt).symm
    go_wp2_with (at_builtin; refine wpl_append (S := fun j => j < w.heap.size + 2 ∨ j = g) (base := wc.heap.size) (v := q0) (l := h.sectors.take k) (m := [h.sectors[k]]) eiSectors rfl _ _ rfl rfl rfl hown3 hu3 (k + 1) hn1 (h.sectors.take (k + 1)) hn4 hn2 (by omega) hn3 ?_)
    intro p' c' w2 hown4 hg4
    have b4 := b3.keep (S := fun j => q0.ownBlock = some j) (.grown hg4 fun j hj _ => hj) x3
    have c4 := b4.cell 0
    simp only [List.getElem?_cons_zero] at c4
    have f4 := b4.frozen 0
    have hz2 := hST.size
    have hz4 := hg4.size
    have hz0 := hK.1
    have hK4 : Keeps (fun j => j = g) wc w2 := ⟨by omega, fun j hj hs => (hg4.block j (by omega) (fun e => by have := (hown.lt j e.symm).1; omega)).trans ((hK.trans (.of_step hST)).2 j hj hs)⟩
    have hB4 : Below w.heap.size w w2 := (hB.step (Nat.le_refl _) hST).grown hg4 (by have := hB.size; omega) (fun j hj => by have := (hown.lt j hj).1; have := hB0.size; omega)
    have x4 : (Value.slice p' (k + 1) c').ownBlock ≠ some g := fun e => by have := (hown4.lt _ e).1; omega
    go_wp2
    go_roundw
    case rel =>
     exact ⟨k + 1, _, by omega, by go_num, b4.setCell 0 _, hown4.wrote (.setCell _ _ _ _) (.inr rfl) x4, hK4.s_wrote (.setCell _ _ _ _) rfl, hB4.setCell (p := ⟨g, 0, none⟩) (by show w.heap.size ≤ g; omega) _⟩
    case measure => simp [intOf]; omega
   ·have b2 := b2.keep hK (by omega)
    have hkl : h.sectors.take k = h.sectors := List.take_of_length_le (by omega)
    rw [hkl] at hown
    have e0 := b3.cell 0
    have e1 := b3.cell 1
    have e2 := b3.cell 2
    have e3 := b3.cell 3
    have e4 := b3.cell 4
    simp only [zD, zE] at e0 e1 e2 e3 e4
    have t0 := b2.cell 0
    have t1 := b2.cell 1
    have t2 := b2.cell 2
    have t3 := b2.cell 3
    have t4 := b2.cell 4
    simp only [zD, zE] at t0 t1 t2 t3 t4
    have tf0 := b2.frozen 0
    have tf1 := b2.frozen 1
    have tf2 := b2.frozen 2
    have tf3 := b2.frozen 3
    have tf4 := b2.frozen 4
    obtain ⟨y0, x0, rfl, _⟩ := hown.form
    obtain ⟨y1, x1', rfl⟩ := s1.form
    obtain ⟨y2, x2, rfl⟩ := s2.form
    obtain ⟨y3, x3, rfl⟩ := s3.form
    obtain ⟨y4, x4, rfl⟩ := s4.form
    go_wp2
    have b5 := ((((b2.setCell 0 (.slice y0 h.sectors.length x0)).setCell 1 (.slice y1 h.prices.length x1')).setCell 2 (.slice y2 h.dates.length x2)).setCell 3 (.slice y3 h.frm.length x3)).setCell 4 (.slice y4 h.holds.length x4)
    have hK5 := (((((Keeps.refl (fun j => j = w.heap.size + 1) wr).s_wrote (.setCell _ (w.heap.size + 1) 0 (.slice y0 h.sectors.length x0)) rfl).s_wrote (.setCell _ (w.heap.size + 1) 1 (.slice y1 h.prices.length x1')) rfl).s_wrote (.setCell _ (w.heap.size + 1) 2 (.slice y2 h.dates.length x2)) rfl).s_wrote (.setCell _ (w.heap.size + 1) 3 (.slice y3 h.frm.length x3)) rfl).s_wrote (.setCell _ (w.heap.size + 1) 4 (.slice y4 h.holds.length x4)) rfl
    have hB5 := ((((hB.setCell (p := ⟨w.heap.size + 1, 0, none⟩) (by simp) (.slice y0 h.sectors.length x0)).setCell (p := ⟨w.heap.size + 1, 1, none⟩) (by simp) (.slice y1 h.prices.length x1')).setCell (p := ⟨w.heap.size + 1, 2, none⟩) (by simp) (.slice y2 h.dates.length x2)).setCell (p := ⟨w.heap.size + 1, 3, none⟩) (by simp) (.slice y3 h.frm.length x3)).setCell (p := ⟨w.heap.size + 1, 4, none⟩) (by simp) (.slice y4 h.holds.length x4)
    refine ret_struct (k := 5) rfl siHouse rfl b5 rfl rfl ⟨_, rfl, ⟨_, rfl, ⟨_, _, _, _, _, rfl, ?_, ?_, ?_, ?_, ?_⟩⟩, .of hB5⟩
    all_goals refine SL.keep (S := fun j => j < w.heap.size + 2 ∨ j = g) (hK5.mono fun j _ hj => by omega) ?_ |>.weak fun j _ hj => by unfold Old at hj; omega
    ·exact hown.sl fun g' h1 h2 h3 => by omega
    ·exact s1.keep (hK.mono fun j _ hj => .inr hj)
    ·exact s2.keep (hK.mono fun j _ hj => .inr hj)
    ·exact s3.keep (hK.mono fun j _ hj => .inr hj)
    ·exact s4.keep (hK.mono fun j _ hj => .inr hj)
end Go.Proofs.YtgpiieogiafdoaaGreat
namespace Go.Proofs.YtgpiieogiafdoaaGreat
set_option linter.unusedSimpArgs false
set_option linter.unusedVariables false
open Go.RowKit Go.BT
theorem acts_seats {l : List ActT} (ha : actsB l = true) : ∀ i (hi : i < l.length), l[i].seats.length ≤ 120 := by
 intro i hi
 unfold actsB at ha
 simp only [Bool.and_eq_true] at ha
 have := List.all_eq_true.1 ha.1 _ (List.getElem_mem hi)
 simpa using this
end Go.Proofs.YtgpiieogiafdoaaGreat
