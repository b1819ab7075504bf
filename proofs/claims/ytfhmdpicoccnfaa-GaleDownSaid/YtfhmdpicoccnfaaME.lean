/- Walks and plain laws, part e. -/
import Derived.Test.YtfhmdpicoccnfaaMB
import Derived.Test.YtfhmdpicoccnfaaMC
import Derived.Test.YtfhmdpicoccnfaaMD
import Derived.Test.YtfhmdpicoccnfaaRows
import Derived.BigQuiet
import Derived.BigRegionIn
import Derived.Deep.AppendLies
import Derived.Deep.DeepCutAuto
import Derived.Deep.LoopGhost
import Derived.Deep.QuietTactic
import Derived.Deep.RegionHeld3
import Derived.Defers
import Derived.Laws.StructEq
import Derived.Lib.Hide
import Derived.LoopIn
import Derived.LoopNIn
import Derived.OwnWalkIn
import Derived.RangeFuncBound
import Derived.RangeFuncCalls
import Derived.RangeFuncLeaves
import Derived.RangeFuncNested
import Derived.RangeFuncWrites
import Derived.Recover
import Derived.Scope
import Derived.Sort.CutIn
import Derived.TacticsInMore
import Derived.WalkKit
import Derived.WalkLawsBesides
import Derived.WalkMore
import Derived.WalkSmall
import Derived.WalkSpells
set_option maxHeartbeats 16000000
set_option maxRecDepth 100000
namespace Go.Proofs.Ytfhmdpicoccnfaa
set_option linter.unusedSimpArgs false
set_option linter.unusedVariables false
open Go.RowKit Go.BT
attribute [local go_sem] Oper.semAt_some
def manyH : Nat := 1000000
theorem manyH_eq : manyH = 1000000 := rfl
attribute [irreducible] manyH
theorem abidesH {β : Type} {B : Nat} {J : β → World → Prop} (hJ : AbidesFrom B J) {s : β} {W W' : World} (h : J s W) (hs : Step W W') : J s W' :=
 hJ s W W' none h ⟨hs.os, hs.tape, hs.output, hs.size, fun j hj _ => hs.block j hj id⟩ (fun r e => by cases e)
theorem steps_any (p : Pc) (b : Nat) (w : World) :
  Calls Try.prog 118 #[.pointer (some ⟨b, 0, none⟩), kvP p] w fun e w' => e = .returned (.func (.func 123) #[] #[.pointer (some ⟨w.heap.size + 1, 0, none⟩), .pointer (some ⟨w.heap.size, 0, none⟩)]) ∧ Bx w' w.heap.size [.pointer (some ⟨b, 0, none⟩)] 139 ∧ Bx w' (w.heap.size + 1) [.int .i64 p.spot, .int .i64 p.minute] 144 ∧ Step w w' ∧ w'.heap.size = w.heap.size + 2 := by
 have hmf : ∀ (fn : Fn) (first cap : Array Value) (w : World), (Instr.makeFunc fn first cap).run Try.prog w = .ok (.func fn first cap) w := fun _ _ _ _ => rfl
 unfold kvP
 go_enter Try.func118, Try.ntmps118
 go_wp2
 go_ret
 exact ⟨rfl, (Bx.new w [_] _).alloc _, Bx.new' _ [_, _] _ _ (by simp), (Step.alloc _ _).trans (Step.alloc _ _), by simp⟩
section
variable {base : Nat} {B : FB} {vp vw vl : Value} {sc : Nat} {h : Hall} {T : Nat} {f : Fs} {p : Pc}
structure StW (base : Nat) (B : FB) (vp vw vl : Value) (sc : Nat) (h : Hall) (T : Nat) (f : Fs) (p : Pc) (gp gf : Nat) (w : World) : Prop where
 fl : FT base w B vp vw vl sc h T f
 bp : Bx w gp [.int .i64 p.spot, .int .i64 p.minute] 144
 bf : Bx w gf [.pointer (some ⟨B.fl, 0, none⟩)] 139
structure StX (base : Nat) (B : FB) (W : Nat) (gp gf : Nat) (X : Nat → Prop) : Prop where
 xp : ¬ X gp
 xf : ¬ X gf
 xB : ∀ g, B.In W g → ¬ X g
 xb : ∀ j, X j → base ≤ j
theorem StW.keep {gp gf : Nat} {w w' : World} {X : Nat → Prop} (s : StW base B vp vw vl sc h T f p gp gf w) (x : StX base B h.ways.length gp gf X) (k : StepX X w w') : StW base B vp vw vl sc h T f p gp gf w' :=
 ⟨s.fl.kept k.keeps x.xb x.xB, s.bp.keep k.keeps x.xp, s.bf.keep k.keeps x.xf⟩
theorem StW.step {gp gf : Nat} {w w' : World} (s : StW base B vp vw vl sc h T f p gp gf w) (k : Step w w') : StW base B vp vw vl sc h T f p gp gf w' :=
 ⟨s.fl.step k, s.bp.step k, s.bf.step k⟩
theorem StW.cells {gp gf : Nat} {w : World} (s : StW base B vp vw vl sc h T f p gp gf w) : (w.cell? ⟨gp, 0, none⟩ = some (.int .i64 p.spot) ∧ w.cell? ⟨gp, 1, none⟩ = some (.int .i64 p.minute) ∧ w.cell? ⟨gf, 0, none⟩ = some (.pointer (some ⟨B.fl, 0, none⟩))) ∧
  w.cell? ⟨B.fl, 1, none⟩ = some vw ∧ w.cell? ⟨B.fl, 2, none⟩ = some (.int .i64 T) ∧ w.cell? ⟨B.fl, 3, none⟩ = some vl ∧ w.cell? ⟨B.fl, 4, none⟩ = some (.map (some B.mp)) := by
 obtain ⟨e0, e1, e2, e3, e4, e5⟩ := s.fl.cells
 exact ⟨⟨s.bp.cell 0, s.bp.cell 1, s.bf.cell 0⟩, e1, e2, e3, e4⟩
theorem StW.wait {gp gf : Nat} {w : World} (s : StW base B vp vw vl sc h T f p gp gf w) (q : Pc) : (Instr.lookup 146 (.map (some B.mp)) (.agg #[.int .i64 q.spot, .int .i64 q.minute]) false).run Try.prog w = .ok (.int .i64 (f.wt q)) w := by
 obtain ⟨g, hm, hg⟩ := s.fl.ws
 have := look_wait hm q
 rw [hg] at this
 exact this
end
theorem way_conds {h : Hall} (O : HallOk h) (T : Nat) {i : Nat} (hi : i < h.ways.length) : (((netOf h T).u i : Nat) : Int) = h.ways[i].frm ∧ (((netOf h T).v i : Nat) : Int) = h.ways[i].dst ∧ (((netOf h T).d i : Nat) : Int) = h.ways[i].mins ∧ (netOf h T).c i = h.ways[i].cap := by
 have := O.way i hi
 refine ⟨?_, ?_, ?_, ?_⟩
 ·show (((wyAt h i).frm.toNat : Nat) : Int) = _; rw [wyAt_at hi]; omega
 ·show (((wyAt h i).dst.toNat : Nat) : Int) = _; rw [wyAt_at hi]; omega
 ·show (((wyAt h i).mins.toNat : Nat) : Int) = _; rw [wyAt_at hi]; omega
 ·show (wyAt h i).cap = _; rw [wyAt_at hi]
section
variable {h : Hall} {T : Nat} {f : Fs} {ps : Int} {t k : Nat} {x : Wy}
theorem go_data (O : HallOk h) (hk : k < h.ways.length) (hx : x = h.ways[k]) (h1 : x.frm = ps) (h2 : (t : Int) + x.mins ≤ (T : Int)) (h3 : f.pl k t < x.cap) :
  goL (netOf h T) f ⟨ps, t⟩ k = [(⟨x.dst, (t : Int) + x.mins⟩, ⟨⟨ps, t⟩, k, false⟩)] ∧ ((⟨x.dst, (t : Int) + x.mins⟩, ⟨⟨ps, t⟩, k, false⟩) : Pc × Sp) ∈ stepsL (netOf h T) f ⟨ps, t⟩ := by
 obtain ⟨a, b, c, d⟩ := way_conds O T hk
 rw [← hx] at a b c d
 have q1 : (((netOf h T).u k : Nat) : Int) = (⟨ps, (t : Int)⟩ : Pc).spot := by rw [a]; exact h1
 have q2 : (⟨ps, (t : Int)⟩ : Pc).minute + (((netOf h T).d k : Nat) : Int) ≤ ((netOf h T).T : Int) := by rw [c]; exact h2
 have q3 : f.pl k (⟨ps, (t : Int)⟩ : Pc).minute.toNat < (netOf h T).c k := by rw [d]; simpa using h3
 have hg := goL_t (f := f) q1 q2 q3
 have hm := mem_stepsL.2 (StepK.go (H := netOf h T) (f := f) k hk q1 q2 q3)
 rw [b, c] at hg hm
 exact ⟨hg, hm⟩
theorem go_none (O : HallOk h) (hk : k < h.ways.length) (hx : x = h.ways[k]) (hn : ¬ (x.frm = ps ∧ (t : Int) + x.mins ≤ (T : Int) ∧ f.pl k t < x.cap)) : goL (netOf h T) f ⟨ps, t⟩ k = [] := by
 obtain ⟨a, b, c, d⟩ := way_conds O T hk
 rw [← hx] at a b c d
 refine goL_f fun ⟨q1, q2, q3⟩ => hn ⟨?_, ?_, ?_⟩
 ·rw [a] at q1; exact q1
 ·rw [c] at q2; exact q2
 ·rw [d] at q3; simpa using q3
theorem bk_data (O : HallOk h) (hk : k < h.ways.length) (hx : x = h.ways[k]) (h1 : x.dst = ps) {b : Nat} (hb : (t : Int) - x.mins = b) (h3 : 0 < f.pl k b) :
  bkL (netOf h T) f ⟨ps, t⟩ k = [(⟨x.frm, (t : Int) - x.mins⟩, ⟨⟨ps, t⟩, k, true⟩)] ∧ ((⟨x.frm, (t : Int) - x.mins⟩, ⟨⟨ps, t⟩, k, true⟩) : Pc × Sp) ∈ stepsL (netOf h T) f ⟨ps, t⟩ := by
 obtain ⟨a, b', c, d⟩ := way_conds O T hk
 rw [← hx] at a b' c d
 have q1 : (((netOf h T).v k : Nat) : Int) = (⟨ps, (t : Int)⟩ : Pc).spot := by rw [b']; exact h1
 have q2 : 0 ≤ (⟨ps, (t : Int)⟩ : Pc).minute - (((netOf h T).d k : Nat) : Int) := by rw [c]; show 0 ≤ (t : Int) - x.mins; omega
 have q3 : 0 < f.pl k ((⟨ps, (t : Int)⟩ : Pc).minute - (((netOf h T).d k : Nat) : Int)).toNat := by rw [c]; show 0 < f.pl k ((t : Int) - x.mins).toNat; rw [hb]; simpa using h3
 have hg := bkL_t q1 q2 q3
 have hm := mem_stepsL.2 (StepK.back (H := netOf h T) (f := f) k hk q1 q2 q3)
 rw [a, c] at hg hm
 exact ⟨hg, hm⟩
theorem bk_none (O : HallOk h) (hk : k < h.ways.length) (hx : x = h.ways[k]) (hn : ¬ (x.dst = ps ∧ 0 ≤ (t : Int) - x.mins ∧ 0 < f.pl k ((t : Int) - x.mins).toNat)) : bkL (netOf h T) f ⟨ps, t⟩ k = [] := by
 obtain ⟨a, b', c, d⟩ := way_conds O T hk
 rw [← hx] at a b' c d
 refine bkL_f fun ⟨q1, q2, q3⟩ => hn ⟨?_, ?_, ?_⟩
 ·rw [b'] at q1; exact q1
 ·rw [c] at q2; exact q2
 ·rw [c] at q3; exact q3
end
def KeepT (T : TypeId) (W W' : World) : Prop := ∀ (k : Nat) (cs : Array Value) (fr : Nat × Nat), W.heap[k]? = some (.cells cs T fr) → W'.heap[k]? = W.heap[k]?
theorem KeepT.of_step {T : TypeId} {W W' : World} (h : Step W W') : KeepT T W W' := fun k _ _ hk => h.block k (Array.getElem?_eq_some_iff.1 hk).1 id
theorem KeepT.trans {T : TypeId} {A B C : World} (h : KeepT T A B) (k : KeepT T B C) : KeepT T A C := fun i cs fr hi => (k i cs fr ((h i cs fr hi).trans hi)).trans (h i cs fr hi)
theorem _root_.Go.BT.Bx.keepT {T : TypeId} {W W' : World} {g : Nat} {cs : List Value} (h : Bx W g cs T) (k : KeepT T W W') : Bx W' g cs T := by
 unfold Bx at *
 rw [k g _ _ h]; exact h
theorem cellsW {w : World} {g : Nat} {c0 c1 c2 c3 : Value} {T : TypeId} (h : Bx w g [c0, c1, c2, c3] T) :
  w.cell? ⟨g, 0, none⟩ = some c0 ∧ w.cell? ⟨g, 1, none⟩ = some c1 ∧ w.cell? ⟨g, 2, none⟩ = some c2 ∧ w.cell? ⟨g, 3, none⟩ = some c3 := ⟨h.cell 0, h.cell 1, h.cell 2, h.cell 3⟩
theorem steps1_stops {base : Nat} {B : FB} {vp vw vl : Value} {sc : Nat} {h : Hall} {T : Nat} {f : Fs} {p : Pc} (n : Nat) (hn : 1 ≤ n) (X : Nat → Prop) (gp gf : Nat) (w : World) (s0 : StW base B vp vw vl sc h T f p gp gf w) (x0 : StX base B h.ways.length gp gf X) (O : HallOk h) (hT : T ≤ 61) (hp : InB (netOf h T) p) :
  SeqStopsK (FW none) n Try.prog 123 #[.pointer (some ⟨gp, 0, none⟩), .pointer (some ⟨gf, 0, none⟩)] (fun e : StepNo (netOf h T) f p => #[kvP e.1.1, kvS e.1.2]) (fun W W' => StepX X W W' ∧ KeepT 108 W W') (fun xs => xs.map (·.1) = stepsL (netOf h T) f p) (fun pre => pre.map (·.1) <+: stepsL (netOf h T) f p) manyH w := by
 obtain ⟨ps, pm⟩ := p
 obtain ⟨t, rfl⟩ : ∃ t : Nat, pm = t := ⟨pm.toNat, by have := hp.2.2.1; simp only at this; omega⟩
 have htT : t ≤ T := by have : (t : Int) ≤ (T : Int) := hp.2.2.2; omega
 obtain ⟨pl_, cl_, rfl, _, hplp⟩ := s0.fl.vf
 obtain ⟨pw, cw, bw, ow, rfl, _, hwl, hpw, hcw, _⟩ := s0.fl.hw.wys
 intro l J Jx W hW hJ hJx hY h0
 have hS := Step.of hW
 have HSW := zH (s0.step hS)
 have HX := zH x0
 have HO := zH O
 have HP := zH hp
 have HY := zH hY
 have HJ := zH hJ
 have H0 := zH h0
 have HPLP := zH hplp
 have HPW := zH hpw
 have HLN : Hid (∀ pre : List (StepNo (netOf h T) f ⟨ps, t⟩), pre.map (·.1) <+: stepsL (netOf h T) f ⟨ps, t⟩ → pre.length < 1000000) := zH fun pre hpre => by
  have h1 := pre_len hpre
  have h2 : (netOf h T).W ≤ 20 := O.w20
  omega
 clear s0 x0 hW hS hY hJ hJx h0 hplp hpw hcw O hp
 refine callsIn_of_wp Try.func123 rfl trivial ?_ rfl
 simp only [Try.ntmps123, List.size_toArray, List.length_cons, List.length_nil, Nat.reduceAdd, Nat.reduceSub, Array.replicate_succ, Array.replicate_zero, List.push_toArray, List.append_toArray, List.nil_append, List.cons_append]
 have hw1 : IntKind.i64.wrap ((t : Int) + 1) = (t : Int) + 1 := by rw [IntKind.wrap_i64]; omega
 have hw2 : IntKind.i64.wrap ((t : Int) - 1) = (t : Int) - 1 := by rw [IntKind.wrap_i64]; omega
 gi_upto_region 0 with (fail)
 gi_cut [28] from 147 (fun u wc => ∃ pre : List (StepNo (netOf h T) f ⟨ps, t⟩), pre.map (·.1) = waitL (netOf h T) ⟨ps, t⟩ ∧ ((u = .bool false ∧ J pre wc ∧ StepX X W wc) ∨ (u = .bool true ∧ Jx pre wc)))
 case first =>
  by_cases hm : (t : Int) < (T : Int)
  ·have hd : decide ((t : Int) < (T : Int)) = true := by simpa using hm
   refine wpIn_region_seq (fun _ => False) (fun _ h => h.elim) (kdOf [] []) [0, 1, 0, 4, 12, 28, 63, 127, 255, 255, 767, 255, 2303, 6399, 16127, 255, 33023, 131071, 262143, 524287] [0, 1, 2, 3, 4, 5, 6, 7, 8, 9, 10, 11, 12, 13, 14, 15, 16] [17, 18, 19] (by kernel_rfl) (by kernel_rfl) (by kernel_rfl) (fun i T z hi hk => by simp [kdOf] at hk <;> (try (split at hk <;> cases hk))) ?_
   intro Wx hWx
   have HT := zH hWx
   clear hWx
   obtain ⟨⟨p0, p1, g0⟩, e1, e2, e3, e4⟩ := (HSW.out.step HT.out).cells
   repeat ((first | (refine run_off rfl rfl (by rfl) ?_) | (refine run_chain_off rfl rfl (by rfl) (K0_mono _) ?_) | ((refine run_want rfl rfl (by rfl) ⟨?_, fun W hW => ?_, ?_⟩; rotate_left; (· (have d0 := hW.kc p0; have d1 := hW.kc p1; have d2 := hW.kc g0; have d3 := hW.kc e2; go_simp; (try with_reducible rfl)))))); (try simp only [Act.put, zA, zB, zC]))
   refine runI_end (L := [_, _, _]) rfl (fun W6 hW6 => ?_)
   clear p0 p1 g0 e1 e2 e3 e4
   have HT6 := zH (HT.out.trans hW6)
   have hJ6 := abidesH HJ.out (H0.out) HT6.out
   obtain ⟨fn, tmps, assign, body, hy, hR⟩ := HY.out [] ⟨(⟨ps, (t : Int) + 1⟩, ⟨⟨ps, t⟩, -1, false⟩), mem_stepsL.2 (.wait hm)⟩ W6 hJ6 (by rw [manyH_eq]; simp)
   unfold kvP kvS at hy
   dsimp only at hy hR
   clear hW6 hJ6
   gi_wp2_with fail
   refine hR.mono ?_
   clear hR
   rintro e W7 (⟨rfl, hJ7, hX7, hK7⟩ | ⟨rfl, hJx7⟩)
   ·gi_wp2_with fail
    gi_meet
    case rel => exact ⟨_, by rw [waitL_t hm]; rfl, .inl ⟨rfl, hJ7, (StepX.of HT6.out).trans hX7⟩⟩
   ·gi_wp2_with fail
    gi_meet
    case rel => exact ⟨_, by rw [waitL_t hm]; rfl, .inr ⟨rfl, hJx7⟩⟩
  ·have hd : decide ((t : Int) < (T : Int)) = false := by simpa using hm
   refine wpIn_region_seq (fun _ => False) (fun _ h => h.elim) (kdOf [] []) [0, 1, 0, 4, 12, 28, 63, 127, 255, 255, 767, 255, 2303, 6399, 16127, 255, 33023, 131071, 262143, 524287] [0, 1, 2, 3, 4, 5, 6, 7, 8, 9, 10, 11, 12, 13, 14, 15, 16] [17, 18, 19] (by kernel_rfl) (by kernel_rfl) (by kernel_rfl) (fun i T z hi hk => by simp [kdOf] at hk <;> (try (split at hk <;> cases hk))) ?_
   intro Wx hWx
   have HT := zH hWx
   clear hWx
   obtain ⟨⟨p0, p1, g0⟩, e1, e2, e3, e4⟩ := (HSW.out.step HT.out).cells
   repeat ((first | (refine run_off rfl rfl (by rfl) ?_) | (refine run_chain_off rfl rfl (by rfl) (K0_mono _) ?_) | ((refine run_want rfl rfl (by rfl) ⟨?_, fun W hW => ?_, ?_⟩; rotate_left; (· (have d0 := hW.kc p0; have d1 := hW.kc p1; have d2 := hW.kc g0; have d3 := hW.kc e2; go_simp; (try with_reducible rfl)))))); (try simp only [Act.put, zA, zB, zC]))
   refine runI_end (L := [_, _, _]) rfl (fun W6 hW6 => ?_)
   clear p0 p1 g0 e1 e2 e3 e4
   have HT6 := zH (HT.out.trans hW6)
   clear hW6
   gi_wp2_with fail
   gi_meet
   case rel => exact ⟨[], by rw [waitL_f (by show ¬ (t : Int) < (T : Int); omega)]; rfl, .inl ⟨rfl, abidesH HJ.out H0.out HT6.out, .of HT6.out⟩⟩
 case rest =>
  obtain ⟨pre, hpre, ⟨rfl, hJ1, hX1⟩ | ⟨rfl, hJx1⟩⟩ := hcut
  rotate_left
  ·gi_wp2
   refine bodyPost_ret (results_none rfl _ _ _) rfl ?_
   exact ⟨⟨_, rfl⟩, .inr ⟨pre, by rw [hpre]; exact wait_pre, hJx1⟩⟩
  have HS1 := zH (HSW.out.keep HX.out hX1)
  have HX1 := zH hX1
  have HJ1 := zH hJ1
  have HPRE := zH hpre
  clear hpre hJ1 hX1 H0
  obtain ⟨⟨p0, p1, g0⟩, e1, e2, e3, e4⟩ := HS1.out.cells
  gi_upto_region 2 with (fail)
  clear p0 p1 g0 e1 e2 e3 e4
  obtain ⟨W2, hW2⟩ : ∃ W2, W2 = wc.alloc (.cells #[.int .i64 ps, .int .i64 ((t : Int) - 1)] 144) := ⟨_, rfl⟩
  have hbb : Bx W2 wc.heap.size [.int .i64 ps, .int .i64 ((t : Int) - 1)] 144 := by subst hW2; exact Bx.new _ [_, _] _
  have hS2 : Step wc W2 := by subst hW2; exact Step.alloc _ _
  obtain ⟨gb, hgb⟩ : ∃ gb, gb = wc.heap.size := ⟨_, rfl⟩
  rw [← hgb] at hbb
  rw [← hW2, ← hgb]
  have HBB := zH hbb
  have HS2 := zH (HS1.out.step hS2)
  have HX2 := zH (HX1.out.trans (.of hS2))
  have HJ2 := zH (abidesH HJ.out HJ1.out hS2)
  clear hbb hS2 hW2 hgb HS1 HX1 HJ1
  gi_cut [49] from 147 (fun u wc => ∃ pre : List (StepNo (netOf h T) f ⟨ps, t⟩), pre.map (·.1) = waitL (netOf h T) ⟨ps, t⟩ ++ unwL f ⟨ps, t⟩ ∧ ((u = .bool false ∧ J pre wc ∧ StepX X W wc) ∨ (u = .bool true ∧ Jx pre wc)))
  case first =>
   by_cases hm : 0 < f.wt ⟨ps, (t : Int) - 1⟩
   ·have hd' : decide (0 < f.wt ⟨ps, (t : Int) - 1⟩) = true := by simpa using hm
    have hmm := hm
    have HM := zH (unwL_t (f := f) (p := ⟨ps, t⟩) hmm)
    have HK := zH (mem_stepsL.2 (StepK.unwait (H := netOf h T) (p := ⟨ps, t⟩) hmm))
    clear hmm
    refine wpIn_region_seq (fun _ => False) (fun _ h => h.elim) (kdOf [] []) [0, 1, 3, 7, 0, 31, 63, 127, 255, 255, 255, 1279, 4095, 8191, 16383] [0, 1, 2, 3, 4, 5, 6, 7, 8, 9, 10, 11] [12, 13, 14] (by kernel_rfl) (by kernel_rfl) (by kernel_rfl) (fun i T z hi hk => by simp [kdOf] at hk <;> (try (split at hk <;> cases hk))) ?_
    intro Wx hWx
    have HT := zH hWx
    clear hWx
    have HLK : Hid (∀ W', Step Wx W' → (Instr.lookup 146 (.map (some B.mp)) (.agg #[.int .i64 ps, .int .i64 ((t : Int) - 1)]) false).run Try.prog W' = .ok (.int .i64 (f.wt ⟨ps, (t : Int) - 1⟩)) W') := zH fun W' hW' => by
     exact (HS2.out.step (HT.out.trans hW')).wait ⟨ps, (t : Int) - 1⟩
    obtain ⟨⟨p0, p1, g0⟩, e1, e2, e3, e4⟩ := (HS2.out.step HT.out).cells
    have b0 := (HBB.out.step HT.out).cell 0
    have b1 := (HBB.out.step HT.out).cell 1
    simp only [zD, zE] at b0 b1
    repeat ((first | (refine run_off rfl rfl (by rfl) ?_) | (refine run_chain_off rfl rfl (by rfl) (K0_mono _) ?_) | ((refine run_want rfl rfl (by rfl) ⟨?_, fun W hW => ?_, ?_⟩; rotate_left; (· (have d0 := hW.kc p0; have d1 := hW.kc p1; have d2 := hW.kc g0; have d3 := hW.kc e4; have d4 := hW.kc b0; have d5 := hW.kc b1; have d6 := HLK.out _ hW; go_simp; (try with_reducible rfl)))))); (try simp only [Act.put, zA, zB, zC]))
    refine runI_end (L := [_, _, _]) rfl (fun W6 hW6 => ?_)
    clear p0 p1 g0 e1 e2 e3 e4 b0 b1
    have HT6 := zH (HT.out.trans hW6)
    have hJ6 := abidesH HJ.out (HJ2.out) HT6.out
    obtain ⟨fn, tmps, assign, body, hy, hR⟩ := HY.out pre ⟨(⟨ps, (t : Int) - 1⟩, ⟨⟨ps, t⟩, -1, true⟩), HK.out⟩ W6 hJ6 (by rw [manyH_eq]; exact HLN.out pre (by rw [HPRE.out]; exact wait_pre))
    unfold kvP kvS at hy
    dsimp only at hy hR
    clear hW6 hJ6
    gi_wp2_with fail
    refine hR.mono ?_
    clear hR
    rintro e W7 (⟨rfl, hJ7, hX7, hK7⟩ | ⟨rfl, hJx7⟩)
    ·gi_wp2_with fail
     gi_meet
     case rel => exact ⟨_, by rw [List.map_append, HPRE.out, HM.out]; rfl, .inl ⟨rfl, hJ7, (HX2.out.trans (.of HT6.out)).trans hX7⟩⟩
    ·gi_wp2_with fail
     gi_meet
     case rel => exact ⟨_, by rw [List.map_append, HPRE.out, HM.out]; rfl, .inr ⟨rfl, hJx7⟩⟩
   ·have hd' : decide (0 < f.wt ⟨ps, (t : Int) - 1⟩) = false := by simpa using hm
    have HM := zH (unwL_f (f := f) (p := ⟨ps, t⟩) hm)
    refine wpIn_region_seq (fun _ => False) (fun _ h => h.elim) (kdOf [] []) [0, 1, 3, 7, 0, 31, 63, 127, 255, 255, 255, 1279, 4095, 8191, 16383] [0, 1, 2, 3, 4, 5, 6, 7, 8, 9, 10, 11] [12, 13, 14] (by kernel_rfl) (by kernel_rfl) (by kernel_rfl) (fun i T z hi hk => by simp [kdOf] at hk <;> (try (split at hk <;> cases hk))) ?_
    intro Wx hWx
    have HT := zH hWx
    clear hWx
    have HLK : Hid (∀ W', Step Wx W' → (Instr.lookup 146 (.map (some B.mp)) (.agg #[.int .i64 ps, .int .i64 ((t : Int) - 1)]) false).run Try.prog W' = .ok (.int .i64 (f.wt ⟨ps, (t : Int) - 1⟩)) W') := zH fun W' hW' => by
     exact (HS2.out.step (HT.out.trans hW')).wait ⟨ps, (t : Int) - 1⟩
    obtain ⟨⟨p0, p1, g0⟩, e1, e2, e3, e4⟩ := (HS2.out.step HT.out).cells
    have b0 := (HBB.out.step HT.out).cell 0
    have b1 := (HBB.out.step HT.out).cell 1
    simp only [zD, zE] at b0 b1
    repeat ((first | (refine run_off rfl rfl (by rfl) ?_) | (refine run_chain_off rfl rfl (by rfl) (K0_mono _) ?_) | ((refine run_want rfl rfl (by rfl) ⟨?_, fun W hW => ?_, ?_⟩; rotate_left; (· (have d0 := hW.kc p0; have d1 := hW.kc p1; have d2 := hW.kc g0; have d3 := hW.kc e4; have d4 := hW.kc b0; have d5 := hW.kc b1; have d6 := HLK.out _ hW; go_simp; (try with_reducible rfl)))))); (try simp only [Act.put, zA, zB, zC]))
    refine runI_end (L := [_, _, _]) rfl (fun W6 hW6 => ?_)
    clear p0 p1 g0 e1 e2 e3 e4 b0 b1
    have HT6 := zH (HT.out.trans hW6)
    clear hW6
    gi_wp2_with fail
    gi_meet
    case rel => exact ⟨pre, by rw [HM.out, HPRE.out, List.append_nil], .inl ⟨rfl, abidesH HJ.out HJ2.out HT6.out, HX2.out.trans (.of HT6.out)⟩⟩
  case rest =>
   obtain ⟨pre, hpre, ⟨rfl, hJ1, hX1⟩ | ⟨rfl, hJx1⟩⟩ := hcut
   rotate_left
   ·gi_wp2
    refine bodyPost_ret (results_none rfl _ _ _) rfl ?_
    exact ⟨⟨_, rfl⟩, .inr ⟨pre, by rw [hpre]; exact unw_pre, hJx1⟩⟩
   rw [← till_zero] at hpre
   have hs1 := HSW.out.keep HX.out hX1
   obtain ⟨⟨p0, p1, g0⟩, e1, e2, e3, e4⟩ := hs1.cells
   clear HS2 HX2 HJ2 HBB HPRE hs1
   gi_upto_region 3 with (fail)
   gi_upto_region 4 with (fail)
   clear p0 p1 g0 e1 e2 e3 e4
   gi_loopw [56] (fun i wr => ∃ k : Nat, k ≤ h.ways.length ∧ i = .int .i64 k ∧ (∃ pre : List (StepNo (netOf h T) f ⟨ps, t⟩), pre.map (·.1) = tillW (netOf h T) f ⟨ps, t⟩ k ∧ J pre wr) ∧ StepX X W wr) (fun i _ => h.ways.length - (intOf i).toNat)
   case atStart => exact ⟨0, Nat.zero_le _, rfl, ⟨pre, hpre, hJ1⟩, hX1⟩
   case round =>
    clear hpre hJ1 hX1
    obtain ⟨k, hk, rfl, ⟨pre, hpre, hJ1⟩, hX1⟩ := hrel
    by_cases hlt : k < h.ways.length
    ·have hW20 : h.ways.length ≤ 20 := HO.out.w20
     have hs1 := HSW.out.keep HX.out hX1
     obtain rfl := HPLP.out (by omega)
     obtain rfl := HPW.out (by omega)
     obtain ⟨pw', cw', bw', ow', he, _, _, hpw', hcw', _⟩ := hs1.fl.hw.wys
     injection he with he1 he2 he3
     have hpp := hpw' (by omega)
     rw [← he1] at hpp
     injection hpp with hpp
     injection hpp with hpb hpo
     subst hpb hpo
     obtain ⟨y0, y1, y2, y3⟩ := hcw' k hlt
     have HWO := zH (HO.out.way k hlt)
     obtain ⟨x, hx⟩ : ∃ x, x = h.ways[k] := ⟨_, rfl⟩
     rw [← hx] at y0 y1 y2 y3 HWO
     have HXX := zH hx
     have hxm : 1 ≤ x.mins ∧ x.mins ≤ 15 := HWO.out.2.2.2.2
     have hix : (0 : Int) ≤ (k : Int) ∧ (k : Int) < (h.ways.length : Int) := by omega
     have hw3 : IntKind.i64.wrap ((t : Int) + x.mins) = (t : Int) + x.mins := by rw [IntKind.wrap_i64]; omega
     have hw4 : IntKind.i64.wrap ((t : Int) - x.mins) = (t : Int) - x.mins := by rw [IntKind.wrap_i64]; omega
     obtain ⟨⟨p0, p1, g0⟩, e1, e2, e3, e4⟩ := hs1.cells
     have l1 := hs1.bp.lt
     have HS1 := zH hs1
     have HX1 := zH hX1
     have HJ1 := zH hJ1
     have HPRE := zH hpre
     have HPP := zH (show pre.map (·.1) <+: stepsL (netOf h T) f ⟨ps, t⟩ by rw [hpre]; exact till_steps (show k ≤ (netOf h T).W from hk))
     clear hs1 hX1 hJ1 hpre hx he2 he3 hpw' hcw' he1
     gi_upto_region 7 with (fail)
     clear p0 p1 g0 e1 e2 e3 e4 y0 y1 y2 y3 l1
     obtain ⟨W5, hW5⟩ : ∃ W5, W5 = wr.alloc (.cells #[.int .i64 x.frm, .int .i64 x.dst, .int .i64 x.cap, .int .i64 x.mins] 108) := ⟨_, rfl⟩
     have hbx : Bx W5 wr.heap.size [.int .i64 x.frm, .int .i64 x.dst, .int .i64 x.cap, .int .i64 x.mins] 108 := by subst hW5; exact Bx.new _ [_, _, _, _] _
     have hS5 : Step wr W5 := by subst hW5; exact Step.alloc _ _
     obtain ⟨gx, hgx⟩ : ∃ gx, gx = wr.heap.size := ⟨_, rfl⟩
     rw [← hgx] at hbx
     rw [← hW5, ← hgx]
     have HBX := zH hbx
     have HS5 := zH (HS1.out.step hS5)
     have HX5 := zH (HX1.out.trans (.of hS5))
     have HJ5 := zH (abidesH HJ.out HJ1.out hS5)
     clear hbx hS5 hW5 hgx HS1 HX1 HJ1
     gi_cut [106] from 147 (fun u wc => ∃ pre : List (StepNo (netOf h T) f ⟨ps, t⟩), pre.map (·.1) = tillW (netOf h T) f ⟨ps, t⟩ k ++ goL (netOf h T) f ⟨ps, t⟩ k ∧ ((u = .bool false ∧ J pre wc ∧ StepX X W wc ∧ Bx wc gx [.int .i64 x.frm, .int .i64 x.dst, .int .i64 x.cap, .int .i64 x.mins] 108) ∨ (u = .bool true ∧ Jx pre wc)))
     case first =>
      by_cases q1 : x.frm = ps
      rotate_left
      ·have hd : (x.frm == ps) = false := by simpa using q1
       have HM := zH (go_none (ps := ps) (T := T) (f := f) (t := t) HO.out hlt HXX.out (fun e => q1 e.1))
       clear q1
       refine wpIn_region_seq (fun _ => False) (fun _ h => h.elim) (kdOf [] []) (0 :: 1 :: 0 :: 4 :: 15 :: 31 :: 63 :: 63 :: 191 :: 447 :: 959 :: 2047 :: 4095 :: 8191 :: 16383 :: 32767 :: 65535 :: 131071 :: 16383 :: 524287 :: 1048575 :: 16383 :: 2113535 :: 8388607 :: 16777215 :: 16383 :: 33570815 :: 134217727 :: 268435455 :: 536870911 :: 1073741823 :: 1073741823 :: 3221225471 :: 1073741823 :: 16106127359 :: 1073741823 :: 1073741823 :: 104152956927 :: 274877906943 :: 549755813887 :: 1099511627775 :: []) (0 :: 1 :: 2 :: 3 :: 4 :: 5 :: 6 :: 7 :: 8 :: 9 :: 10 :: 11 :: 12 :: 13 :: 14 :: 15 :: 16 :: 17 :: 18 :: 19 :: 20 :: 21 :: 22 :: 23 :: 24 :: 25 :: 26 :: 27 :: 28 :: 29 :: 30 :: 31 :: 32 :: 33 :: 34 :: 35 :: 36 :: 37 :: []) [38, 39, 40] (by kernel_rfl) (by kernel_rfl) (by kernel_rfl) (fun i T z hi hk => by simp [kdOf] at hk <;> (try (split at hk <;> cases hk))) ?_
       intro Wx hWx
       have HT := zH hWx
       clear hWx
       obtain ⟨⟨p0, p1, g0⟩, e1, e2, e3, e4⟩ := (HS5.out.step HT.out).cells
       obtain ⟨c0, c1, c2, c3⟩ := cellsW (HBX.out.step HT.out)
       skip
       repeat ((first | (refine run_off rfl rfl (by rfl) ?_) | (refine run_chain_off rfl rfl (by rfl) (K0_mono _) ?_) | ((refine run_want rfl rfl (by rfl) ⟨?_, fun W hW => ?_, ?_⟩; rotate_left; (· (have d0 := hW.kc p0; have d1 := hW.kc p1; have d2 := hW.kc g0; have d3 := hW.kc e2; have d4 := hW.kc e3; have d5 := hW.kc c0; have d6 := hW.kc c1; have d7 := hW.kc c2; have d8 := hW.kc c3; go_simp; (try with_reducible rfl)))))); (try simp only [Act.put, zA, zB, zC]))
       clear p0 p1 g0 e1 e2 e3 e4 c0 c1 c2 c3
       refine runI_end (L := [_, _, _]) rfl (fun W6 hW6 => ?_)
       have HT6 := zH (HT.out.trans hW6)
       clear hW6
       gi_wp2_with fail
       gi_meet
       case rel => exact ⟨pre, by rw [HM.out, List.append_nil]; exact HPRE.out, .inl ⟨rfl, abidesH HJ.out HJ5.out HT6.out, HX5.out.trans (.of HT6.out), HBX.out.step HT6.out⟩⟩
      have hd : (x.frm == ps) = true := by simpa using q1
      have Q1 := zH q1
      clear q1
      by_cases q2 : (t : Int) + x.mins ≤ (T : Int)
      rotate_left
      ·have hd2 : decide ((t : Int) + x.mins ≤ (T : Int)) = false := by simpa using q2
       have HM := zH (go_none (ps := ps) (T := T) (f := f) (t := t) HO.out hlt HXX.out (fun e => q2 e.2.1))
       clear q2
       refine wpIn_region_seq (fun _ => False) (fun _ h => h.elim) (kdOf [] []) (0 :: 1 :: 0 :: 4 :: 15 :: 31 :: 63 :: 63 :: 191 :: 447 :: 959 :: 2047 :: 4095 :: 8191 :: 16383 :: 32767 :: 65535 :: 131071 :: 16383 :: 524287 :: 1048575 :: 16383 :: 2113535 :: 8388607 :: 16777215 :: 16383 :: 33570815 :: 134217727 :: 268435455 :: 536870911 :: 1073741823 :: 1073741823 :: 3221225471 :: 1073741823 :: 16106127359 :: 1073741823 :: 1073741823 :: 104152956927 :: 274877906943 :: 549755813887 :: 1099511627775 :: []) (0 :: 1 :: 2 :: 3 :: 4 :: 5 :: 6 :: 7 :: 8 :: 9 :: 10 :: 11 :: 12 :: 13 :: 14 :: 15 :: 16 :: 17 :: 18 :: 19 :: 20 :: 21 :: 22 :: 23 :: 24 :: 25 :: 26 :: 27 :: 28 :: 29 :: 30 :: 31 :: 32 :: 33 :: 34 :: 35 :: 36 :: 37 :: []) [38, 39, 40] (by kernel_rfl) (by kernel_rfl) (by kernel_rfl) (fun i T z hi hk => by simp [kdOf] at hk <;> (try (split at hk <;> cases hk))) ?_
       intro Wx hWx
       have HT := zH hWx
       clear hWx
       obtain ⟨⟨p0, p1, g0⟩, e1, e2, e3, e4⟩ := (HS5.out.step HT.out).cells
       obtain ⟨c0, c1, c2, c3⟩ := cellsW (HBX.out.step HT.out)
       skip
       repeat ((first | (refine run_off rfl rfl (by rfl) ?_) | (refine run_chain_off rfl rfl (by rfl) (K0_mono _) ?_) | ((refine run_want rfl rfl (by rfl) ⟨?_, fun W hW => ?_, ?_⟩; rotate_left; (· (have d0 := hW.kc p0; have d1 := hW.kc p1; have d2 := hW.kc g0; have d3 := hW.kc e2; have d4 := hW.kc e3; have d5 := hW.kc c0; have d6 := hW.kc c1; have d7 := hW.kc c2; have d8 := hW.kc c3; go_simp; (try with_reducible rfl)))))); (try simp only [Act.put, zA, zB, zC]))
       clear p0 p1 g0 e1 e2 e3 e4 c0 c1 c2 c3
       refine runI_end (L := [_, _, _]) rfl (fun W6 hW6 => ?_)
       have HT6 := zH (HT.out.trans hW6)
       clear hW6
       gi_wp2_with fail
       gi_meet
       case rel => exact ⟨pre, by rw [HM.out, List.append_nil]; exact HPRE.out, .inl ⟨rfl, abidesH HJ.out HJ5.out HT6.out, HX5.out.trans (.of HT6.out), HBX.out.step HT6.out⟩⟩
      have hd2 : decide ((t : Int) + x.mins ≤ (T : Int)) = true := by simpa using q2
      have Q2 := zH q2
      have htx : t < T := by omega
      have hix2 : (0 : Int) ≤ (t : Int) ∧ (t : Int) < (T : Int) := by omega
      clear q2
      by_cases q3 : f.pl k t < x.cap
      rotate_left
      ·have hd3 : decide (f.pl k t < x.cap) = false := by simpa using q3
       have HM := zH (go_none (ps := ps) (T := T) (f := f) (t := t) HO.out hlt HXX.out (fun e => q3 e.2.2))
       clear q3
       refine wpIn_region_seq (fun _ => False) (fun _ h => h.elim) (kdOf [] []) (0 :: 1 :: 0 :: 4 :: 15 :: 31 :: 63 :: 63 :: 191 :: 447 :: 959 :: 2047 :: 4095 :: 8191 :: 16383 :: 32767 :: 65535 :: 131071 :: 16383 :: 524287 :: 1048575 :: 16383 :: 2113535 :: 8388607 :: 16777215 :: 16383 :: 33570815 :: 134217727 :: 268435455 :: 536870911 :: 1073741823 :: 1073741823 :: 3221225471 :: 1073741823 :: 16106127359 :: 1073741823 :: 1073741823 :: 104152956927 :: 274877906943 :: 549755813887 :: 1099511627775 :: []) (0 :: 1 :: 2 :: 3 :: 4 :: 5 :: 6 :: 7 :: 8 :: 9 :: 10 :: 11 :: 12 :: 13 :: 14 :: 15 :: 16 :: 17 :: 18 :: 19 :: 20 :: 21 :: 22 :: 23 :: 24 :: 25 :: 26 :: 27 :: 28 :: 29 :: 30 :: 31 :: 32 :: 33 :: 34 :: 35 :: 36 :: 37 :: []) [38, 39, 40] (by kernel_rfl) (by kernel_rfl) (by kernel_rfl) (fun i T z hi hk => by simp [kdOf] at hk <;> (try (split at hk <;> cases hk))) ?_
       intro Wx hWx
       have HT := zH hWx
       clear hWx
       obtain ⟨⟨p0, p1, g0⟩, e1, e2, e3, e4⟩ := (HS5.out.step HT.out).cells
       obtain ⟨c0, c1, c2, c3⟩ := cellsW (HBX.out.step HT.out)
       skip
       obtain ⟨c, hvl, r1, r2⟩ := (HS5.out.step HT.out).fl.plan hlt htx
       clear hvl
       repeat ((first | (refine run_off rfl rfl (by rfl) ?_) | (refine run_chain_off rfl rfl (by rfl) (K0_mono _) ?_) | ((refine run_want rfl rfl (by rfl) ⟨?_, fun W hW => ?_, ?_⟩; rotate_left; (· (have d0 := hW.kc p0; have d1 := hW.kc p1; have d2 := hW.kc g0; have d3 := hW.kc e2; have d4 := hW.kc e3; have d5 := hW.kc c0; have d6 := hW.kc c1; have d7 := hW.kc c2; have d8 := hW.kc c3; have d9 := hW.kc r1; have d10 := hW.kc r2; go_simp; (try with_reducible rfl)))))); (try simp only [Act.put, zA, zB, zC]))
       clear p0 p1 g0 e1 e2 e3 e4 c0 c1 c2 c3 r1 r2
       refine runI_end (L := [_, _, _]) rfl (fun W6 hW6 => ?_)
       have HT6 := zH (HT.out.trans hW6)
       clear hW6
       gi_wp2_with fail
       gi_meet
       case rel => exact ⟨pre, by rw [HM.out, List.append_nil]; exact HPRE.out, .inl ⟨rfl, abidesH HJ.out HJ5.out HT6.out, HX5.out.trans (.of HT6.out), HBX.out.step HT6.out⟩⟩
      have hd3 : decide (f.pl k t < x.cap) = true := by simpa using q3
      obtain ⟨hm1, hm2⟩ := go_data (ps := ps) (T := T) (f := f) (t := t) HO.out hlt HXX.out Q1.out Q2.out q3
      have HM := zH hm1
      have HK := zH hm2
      clear q3 hm1 hm2
      refine wpIn_region_seq (fun _ => False) (fun _ h => h.elim) (kdOf [] []) (0 :: 1 :: 0 :: 4 :: 15 :: 31 :: 63 :: 63 :: 191 :: 447 :: 959 :: 2047 :: 4095 :: 8191 :: 16383 :: 32767 :: 65535 :: 131071 :: 16383 :: 524287 :: 1048575 :: 16383 :: 2113535 :: 8388607 :: 16777215 :: 16383 :: 33570815 :: 134217727 :: 268435455 :: 536870911 :: 1073741823 :: 1073741823 :: 3221225471 :: 1073741823 :: 16106127359 :: 1073741823 :: 1073741823 :: 104152956927 :: 274877906943 :: 549755813887 :: 1099511627775 :: []) (0 :: 1 :: 2 :: 3 :: 4 :: 5 :: 6 :: 7 :: 8 :: 9 :: 10 :: 11 :: 12 :: 13 :: 14 :: 15 :: 16 :: 17 :: 18 :: 19 :: 20 :: 21 :: 22 :: 23 :: 24 :: 25 :: 26 :: 27 :: 28 :: 29 :: 30 :: 31 :: 32 :: 33 :: 34 :: 35 :: 36 :: 37 :: []) [38, 39, 40] (by kernel_rfl) (by kernel_rfl) (by kernel_rfl) (fun i T z hi hk => by simp [kdOf] at hk <;> (try (split at hk <;> cases hk))) ?_
      intro Wx hWx
      have HT := zH hWx
      clear hWx
      obtain ⟨⟨p0, p1, g0⟩, e1, e2, e3, e4⟩ := (HS5.out.step HT.out).cells
      obtain ⟨c0, c1, c2, c3⟩ := cellsW (HBX.out.step HT.out)
      skip
      obtain ⟨c, hvl, r1, r2⟩ := (HS5.out.step HT.out).fl.plan hlt htx
      clear hvl
      repeat ((first | (refine run_off rfl rfl (by rfl) ?_) | (refine run_chain_off rfl rfl (by rfl) (K0_mono _) ?_) | ((refine run_want rfl rfl (by rfl) ⟨?_, fun W hW => ?_, ?_⟩; rotate_left; (· (have d0 := hW.kc p0; have d1 := hW.kc p1; have d2 := hW.kc g0; have d3 := hW.kc e2; have d4 := hW.kc e3; have d5 := hW.kc c0; have d6 := hW.kc c1; have d7 := hW.kc c2; have d8 := hW.kc c3; have d9 := hW.kc r1; have d10 := hW.kc r2; go_simp; (try with_reducible rfl)))))); (try simp only [Act.put, zA, zB, zC]))
      clear r1 r2
      refine runI_end (L := [_, _, _]) rfl (fun W6 hW6 => ?_)
      clear p0 p1 g0 e1 e2 e3 e4 c0 c1 c2 c3
      have HT6 := zH (HT.out.trans hW6)
      have hJ6 := abidesH HJ.out (HJ5.out) HT6.out
      obtain ⟨fn, tmps, assign, body, hy, hR⟩ := HY.out pre ⟨(⟨x.dst, (t : Int) + x.mins⟩, ⟨⟨ps, t⟩, k, false⟩), HK.out⟩ W6 hJ6 (by rw [manyH_eq]; exact HLN.out pre HPP.out)
      unfold kvP kvS at hy
      dsimp only at hy hR
      clear hW6 hJ6
      gi_wp2_with fail
      refine hR.mono ?_
      clear hR
      rintro e W7 (⟨rfl, hJ7, hX7, hK7⟩ | ⟨rfl, hJx7⟩)
      ·gi_wp2_with fail
       gi_meet
       case rel => exact ⟨_, by rw [List.map_append, HPRE.out, HM.out]; rfl, .inl ⟨rfl, hJ7, (HX5.out.trans (.of HT6.out)).trans hX7, (HBX.out.step HT6.out).keepT hK7⟩⟩
      ·gi_wp2_with fail
       gi_meet
       case rel => exact ⟨_, by rw [List.map_append, HPRE.out, HM.out]; rfl, .inr ⟨rfl, hJx7⟩⟩
     case rest =>
      obtain ⟨pre9, hpre, ⟨rfl, hJ1, hX1, hbx⟩ | ⟨rfl, hJx1⟩⟩ := hcut
      rotate_left
      ·gi_wp2
       refine bodyPost_ret (results_none rfl _ _ _) rfl ?_
       exact ⟨⟨_, rfl⟩, .inr ⟨pre9, by rw [hpre]; exact go_pre (show k < (netOf h T).W from hlt), hJx1⟩⟩
      clear HS5 HX5 HJ5 HBX HPRE HPP
      have hs1 := HSW.out.keep HX.out hX1
      have hpp9 : pre9.map (·.1) <+: stepsL (netOf h T) f ⟨ps, t⟩ := by rw [hpre]; exact go_pre (show k < (netOf h T).W from hlt)
      obtain ⟨pre, hpe⟩ : ∃ z, z = pre9 := ⟨_, rfl⟩
      rw [← hpe] at hpre hJ1 hpp9
      clear hpe pre9
      have HPP := zH hpp9
      have HPRE := zH hpre
      have HBX := zH hbx
      have HS5 := zH hs1
      have HX5 := zH hX1
      have HJ5 := zH hJ1
      obtain ⟨⟨p0, p1, g0⟩, e1, e2, e3, e4⟩ := hs1.cells
      obtain ⟨c0, c1, c2, c3⟩ := cellsW hbx
      clear hs1 hbx hpre hJ1 hX1 hpp9
      gi_upto_region 9 with (fail)
      clear p0 p1 g0 e1 e2 e3 e4 c0 c1 c2 c3
      gi_cut [145] from 147 (fun u wc => ∃ pre : List (StepNo (netOf h T) f ⟨ps, t⟩), pre.map (·.1) = (tillW (netOf h T) f ⟨ps, t⟩ k ++ goL (netOf h T) f ⟨ps, t⟩ k) ++ bkL (netOf h T) f ⟨ps, t⟩ k ∧ ((u = .bool false ∧ J pre wc ∧ StepX X W wc) ∨ (u = .bool true ∧ Jx pre wc)))
      case first =>
       by_cases q1 : x.dst = ps
       rotate_left
       ·have hd : (x.dst == ps) = false := by simpa using q1
        have HM := zH (bk_none (ps := ps) (T := T) (f := f) (t := t) HO.out hlt HXX.out (fun e => q1 e.1))
        clear q1
        obtain ⟨⟨p0, p1, g0⟩, e1, e2, e3, e4⟩ := HS5.out.cells
        obtain ⟨c0, c1, c2, c3⟩ := cellsW HBX.out
        skip
        gi_wp2_with fail
        gi_meet
        case rel => exact ⟨pre, by rw [HM.out, List.append_nil]; exact HPRE.out, .inl ⟨rfl, HJ5.out, HX5.out⟩⟩
       have hd : (x.dst == ps) = true := by simpa using q1
       have Q1 := zH q1
       clear q1
       by_cases q2 : 0 ≤ (t : Int) - x.mins
       rotate_left
       ·have hd2 : decide ((t : Int) - x.mins ≥ 0) = false := by simpa using q2
        have hd2' : decide (x.mins ≤ (t : Int)) = false := by simp; omega
        have HM := zH (bk_none (ps := ps) (T := T) (f := f) (t := t) HO.out hlt HXX.out (fun e => q2 e.2.1))
        clear q2
        obtain ⟨⟨p0, p1, g0⟩, e1, e2, e3, e4⟩ := HS5.out.cells
        obtain ⟨c0, c1, c2, c3⟩ := cellsW HBX.out
        skip
        gi_wp2_with fail
        gi_meet
        case rel => exact ⟨pre, by rw [HM.out, List.append_nil]; exact HPRE.out, .inl ⟨rfl, HJ5.out, HX5.out⟩⟩
       have hd2 : decide ((t : Int) - x.mins ≥ 0) = true := by simpa using q2
       have hd2' : decide (x.mins ≤ (t : Int)) = true := by simp; omega
       obtain ⟨b, hb⟩ : ∃ b : Nat, (t : Int) - x.mins = b := ⟨((t : Int) - x.mins).toNat, by omega⟩
       have hbT : b < T := by omega
       have htn : ((t : Int) - x.mins).toNat = b := by omega
       have hix2 : (0 : Int) ≤ (t : Int) - x.mins ∧ (t : Int) - x.mins < (T : Int) := by omega
       have HB := zH hb
       clear q2 hb
       by_cases q3 : 0 < f.pl k b
       rotate_left
       ·have hd3 : decide (0 < f.pl k b) = false := by simpa using q3
        have HM := zH (bk_none (ps := ps) (T := T) (f := f) (t := t) HO.out hlt HXX.out (fun e => q3 (by have := e.2.2; rw [htn] at this; exact this)))
        clear q3
        obtain ⟨c, hvl, r1, r2⟩ := HS5.out.fl.plan hlt hbT
        clear hvl
        obtain ⟨⟨p0, p1, g0⟩, e1, e2, e3, e4⟩ := HS5.out.cells
        obtain ⟨c0, c1, c2, c3⟩ := cellsW HBX.out
        skip
        gi_wp2_with fail
        gi_meet
        case rel => exact ⟨pre, by rw [HM.out, List.append_nil]; exact HPRE.out, .inl ⟨rfl, HJ5.out, HX5.out⟩⟩
       have hd3 : decide (0 < f.pl k b) = true := by simpa using q3
       obtain ⟨hm1, hm2⟩ := bk_data (ps := ps) (T := T) (f := f) (t := t) HO.out hlt HXX.out Q1.out HB.out q3
       have HM := zH hm1
       have HK := zH hm2
       clear q3 hm1 hm2
       obtain ⟨c, hvl, r1, r2⟩ := HS5.out.fl.plan hlt hbT
       clear hvl
       obtain ⟨⟨p0, p1, g0⟩, e1, e2, e3, e4⟩ := HS5.out.cells
       obtain ⟨c0, c1, c2, c3⟩ := cellsW HBX.out
       obtain ⟨fn, tmps, assign, body, hy, hR⟩ := HY.out pre ⟨(⟨x.frm, (t : Int) - x.mins⟩, ⟨⟨ps, t⟩, k, true⟩), HK.out⟩ wc HJ5.out (by rw [manyH_eq]; exact HLN.out pre HPP.out)
       unfold kvP kvS at hy
       dsimp only at hy hR
       gi_wp2_with fail
       refine hR.mono ?_
       clear hR
       rintro e W7 (⟨rfl, hJ7, hX7, hK7⟩ | ⟨rfl, hJx7⟩)
       ·gi_wp2_with fail
        gi_meet
        case rel => exact ⟨_, by rw [List.map_append, HPRE.out, HM.out]; rfl, .inl ⟨rfl, hJ7, HX5.out.trans hX7⟩⟩
       ·gi_wp2_with fail
        gi_meet
        case rel => exact ⟨_, by rw [List.map_append, HPRE.out, HM.out]; rfl, .inr ⟨rfl, hJx7⟩⟩
      case rest =>
       obtain ⟨pre9, hpre, ⟨rfl, hJ1, hX1⟩ | ⟨rfl, hJx1⟩⟩ := hcut
       all_goals rw [← till_next] at hpre
       rotate_left
       ·gi_wp2
        refine bodyPost_ret (results_none rfl _ _ _) rfl ?_
        exact ⟨⟨_, rfl⟩, .inr ⟨pre9, by rw [hpre]; exact till_steps (show k + 1 ≤ (netOf h T).W from hlt), hJx1⟩⟩
       gi_wp2
       go_roundw
       case rel => exact ⟨k + 1, by omega, by go_num, ⟨pre9, hpre, hJ1⟩, hX1⟩
       case measure => simp [intOf]; omega
    ·gi_wp2
     go_end0
     have hkz : k = h.ways.length := by omega
     subst hkz
     exact ⟨⟨_, rfl⟩, .inl ⟨pre, by rw [hpre]; exact till_all, hJ1⟩⟩
end Go.Proofs.Ytfhmdpicoccnfaa
namespace Go.BT
open Go.RowKit
def markD (D : Nat) : Deferred := { target := .collected D, args := #[] }
def MarksAt (Ds : List Nat) (W : World) : Prop := ∀ D ∈ Ds, W.heap[D]? = some (.deferred (some []))
structure MarkStep (W W' : World) : Prop where
 os : W'.os = W.os
 tape : W'.tape = W.tape
 output : W'.output = W.output
 size : W'.heap.size = W.heap.size
 block : ∀ k : Nat, (∀ x, W.heap[k]? ≠ some (Obj.deferred x)) → W'.heap[k]? = W.heap[k]?
theorem MarkStep.refl (W : World) : MarkStep W W := ⟨rfl, rfl, rfl, rfl, fun _ _ => rfl⟩
theorem MarkStep.bx {W W' : World} (m : MarkStep W W') {g : Nat} {cs : List Value} {T : TypeId} (h : Bx W g cs T) : Bx W' g cs T := by
 unfold Bx at *
 rw [m.block g (fun x e => by rw [h] at e; cases e)]; exact h
theorem MarkStep.step {w W W' : World} (h : Step w W) (m : MarkStep W W') (hm : ∀ (k : Nat) x, k < w.heap.size → W.heap[k]? = some (Obj.deferred x) → W'.heap[k]? = W.heap[k]?) : Step w W' :=
 ⟨m.os.trans h.os, m.tape.trans h.tape, m.output.trans h.output, by have := h.size; have := m.size; omega, fun k hk _ => by
  have h1 := h.block k hk id
  rw [← h1]
  cases q : W.heap[k]? with
  | none => rw [m.block k (fun x e => by rw [q] at e; cases e), q]
  | some o =>
   cases o with
   | deferred x => rw [hm k x hk q, q]
   | _ => rw [m.block k (fun x e => by rw [q] at e; cases e), q]⟩
theorem leaves_marks {P : Program} {F : Fence} {n : Nat} {fn : Func} {tmps : Array Value} {R : Ending → World → Prop} : ∀ (Ds : List Nat) (W : World), Ds.Nodup → MarksAt Ds W →
  (∀ W', MarkStep W W' → (∀ k : Nat, k ∉ Ds → W'.heap[k]? = W.heap[k]?) → LeavesInM F n P fn tmps R [] .returning W') → LeavesInM F n P fn tmps R (Ds.map markD) .returning W
 | [], W, _, _, h => h W (MarkStep.refl W) fun _ _ => rfl
 | D :: Ds, W, hn, hm, h => by
  obtain ⟨hD, hn'⟩ := List.nodup_cons.1 hn
  have h1 := hm D List.mem_cons_self
  have hg := grownBy_putObj' W D (.deferred none)
  have hlt : D < W.heap.size := (Array.getElem?_eq_some_iff.1 h1).1
  have hblk : ∀ k : Nat, k ≠ D → (W.putObj D (.deferred none)).heap[k]? = W.heap[k]? := fun k hk => by
   by_cases hkl : k < W.heap.size
   ·exact hg.block k hkl (fun e => by cases e; exact hk rfl)
   ·have hs : (W.putObj D (.deferred none)).heap.size = W.heap.size := by simp [World.putObj]
    rw [Array.getElem?_eq_none (by omega), Array.getElem?_eq_none (by omega)]
  refine ⟨by simp, .inl ⟨D, _, rfl, run_takeDeferred h1, ?_⟩⟩
  refine leaves_marks Ds _ hn' (fun D' hD' => ?_) fun W' m hk => h W' ?_ fun k hkn => ?_
  ·rw [hblk D' (fun e => hD (e ▸ hD'))]; exact hm D' (List.mem_cons_of_mem _ hD')
  ·refine ⟨m.os.trans hg.os, m.tape.trans hg.tape, m.output.trans hg.output, by rw [m.size]; simp [World.putObj], fun k hk => ?_⟩
   have hkD : k ≠ D := fun e => hk _ (e ▸ h1)
   rw [m.block k (fun x e => hk x (by rw [← hblk k hkD]; exact e)), hblk k hkD]
  ·rw [hk k (fun h => hkn (List.mem_cons_of_mem _ h)), hblk k (fun e => hkn (e ▸ List.mem_cons_self))]
theorem results_tct {P : Program} {fn : Func} {tmps : Array Value} {w : World} {t u x : Tmp} {T T' : TypeId} {k g : Nat} {cs : List Value} (hr : fn.results = #[.tmp t, .cell u T, .tmp x]) (hi : SI P T k)
  (hu : tmps.getD u undef = .pointer (some ⟨g, 0, none⟩)) (hb : Bx w g cs T') (hk : cs.length = k) : (results fn tmps).run P w = .ok (.tuple #[tmps.getD t undef, .agg cs.toArray, tmps.getD x undef]) w := by
 have hu' : tmps[u]?.getD undef = .pointer (some ⟨g, 0, none⟩) := by simpa using hu
 simp [results, hr, hu', asAddr, run_loadVar_bx hi hb hk]
theorem stepH_scope {P : Program} {b : Frame} {a : Act} {k : List Item} {cs : List Frame} {w : World} {c : Code} : step P (lone (b.atR a (.code (.scope c) :: k)) cs w) = .next (lone (b.atR a (.code c :: .inScope c :: k)) cs w) :=
 step_lone_go (by simp [stepG, stepG.exec, Frame.atR])
theorem stepH_inScope {P : Program} {b : Frame} {a : Act} {k : List Item} {cs : List Frame} {w : World} {c : Code} : step P (lone (b.atR a (.inScope c :: k)) cs w) = .next (lone (b.atR a k) cs w) :=
 step_lone_go (by simp [stepG, stepG.exec, Frame.atR])
theorem wpIn_scopeH {F : Fence} {n : Nat} {P : Program} {Q : Exit → Act → World → Prop} {a : Act} {w : World} {c : Code} (h : c.wpIn F n P (Exit.noGoto Q) a w) : (Code.scope c).wpIn F n P Q a w := by
 intro b k cs hro hb hr
 have h0 : (lone (b.atR a (.code (.scope c) :: k)) cs w).fenced P F := fenced_calm hb hr rfl
 obtain ⟨e, a₁, w₁, hq, harr⟩ := h b (.inScope c :: k) cs hro hb hr
 cases e with
 | normal => exact ⟨.normal, a₁, w₁, hq, .head h0 stepH_scope (StepsIn.trans harr (.one (fenced_calm hb hr rfl) stepH_inScope))⟩
 | exit id =>
  have hx : exitTo id (.inScope c :: k) = exitTo id k := by simp [exitTo]
  exact ⟨.exit id, a₁, w₁, hq, fun k' hk => .head h0 stepH_scope (harr.1 k' (by rw [hx]; exact hk)),
   fun hr' hk => let ⟨k₁, h1, h2⟩ := harr.2 hr' (by rw [hx]; exact hk); ⟨k₁, h1, .head h0 stepH_scope h2⟩⟩
 | goto l => exact hq.elim
 | ret => exact ⟨_, a₁, w₁, hq, .of_steps (.one h0 stepH_scope) harr⟩
 | panic ch => exact ⟨_, a₁, w₁, hq, .of_steps (.one h0 stepH_scope) harr⟩
 | outgrown => exact ⟨_, a₁, w₁, hq, .of_steps (.one h0 stepH_scope) harr⟩
theorem wpIn_part {F : Fence} {n : Nat} {P : Program} {s : Code} {K : Act → World → Prop} {Q' : Exit → Act → World → Prop} {a : Act} {w : World} (R : Act → World → Prop)
  (first : s.wpIn F n P (fun e a w => e = .normal ∧ R a w) a w) (rest : ∀ a' w', R a' w' → K a' w') : s.wpIn F n P (Exit.then K Q') a w :=
 wpIn_mono first (by rintro e a' w' ⟨rfl, h⟩; exact rest _ _ h)
end Go.BT
namespace Go.Proofs.Ytfhmdpicoccnfaa
set_option linter.unusedSimpArgs false
set_option linter.unusedVariables false
open Go.RowKit Go.BT
theorem siPlace : SI Try.prog 144 2 := ⟨⟨_, Try.underlying144⟩, by kernel_rfl⟩
theorem slice_tail (w : World) (p : Option Addr) (n c : Nat) (hn : 1 ≤ n) (hc : n ≤ c) (g off : Nat) (hp : p = some ⟨g, off, none⟩) :
  (Instr.slice 173 (.slice p n c) (some (.int .i64 1)) none none).run Try.prog w = .ok (.slice (some (if c = 1 then ⟨g, off, none⟩ else ⟨g, off + 2, none⟩)) (n - 1) (c - 1)) w := by
 subst hp
 have hu := Try.underlying173
 have hi : (Try.prog.info? 144).map (·.size) = some 2 := by kernel_rfl
 obtain ⟨i, hi1, hi2⟩ := Option.map_eq_some_iff.1 hi
 have h1 : (1 : Int) ≤ n := by omega
 by_cases e : c = 1
 ·subst e
  simp [Instr.slice, run_underlying hu, Instr.sliceBounds, Instr.sliceBound, asIntOf, h1, sizeOf, typeInfo, hi1, hi2, Result.andThen]
 ·simp [Instr.slice, run_underlying hu, Instr.sliceBounds, Instr.sliceBound, asIntOf, h1, sizeOf, typeInfo, hi1, hi2, Result.andThen, e, Addr.add_lit]
attribute [local go_sem] Oper.semAt_some
theorem addQ_keys (ord : List (Pc × Sp)) (p : Pc) (s : Sp) : addQ ord p (keysL ord) = keysL (addB ord (p, s)) := by
 unfold addQ addB
 split
 ·rfl
 ·simp [keysL]
theorem addQ_drop (ord : List (Pc × Sp)) (p : Pc) (s : Sp) {k : Nat} (hk : k ≤ ord.length) : addQ ord p ((keysL ord).drop k) = (keysL (addB ord (p, s))).drop k := by
 unfold addQ addB
 split
 ·rfl
 ·simp only [keysL, List.map_append, List.map_cons, List.map_nil]
  rw [List.drop_append_of_le_length (by simpa using hk)]
theorem found_len {h : Hall} {T : Nat} {f : Fs} (O : HallOk h) (hT : T ≤ 61) {ord : List (Pc × Sp)} (F : Go.BT.Found (netOf h T) f ord) : ord.length ≤ 620 := by
 have h1 := F.len
 have h2 : (netOf h T).n * ((netOf h T).T + 1) ≤ 10 * 62 := Nat.mul_le_mul (show h.people.length ≤ 10 from O.n10) (show T + 1 ≤ 62 by omega)
 omega
theorem srch_keeps {base : Nat} {W W' : World} {gs gq r : Nat} {v : Value} {ord : List (Pc × Sp)} {Q : List Pc} (S : Srch base W gs gq r v ord Q) (hX : StepX (SrchX gq r v) W W') {k : Nat} {o : Obj} (hk : W.heap[k]? = some o)
  (h1 : ∀ cs fr, o ≠ .cells cs 173 fr) (h2 : ∀ es c, o ≠ .map es c) (h3 : v.ownBlock ≠ some k) : W'.heap[k]? = some o := by
 rw [hX.block k (Array.getElem?_eq_some_iff.1 hk).1 ?_]
 ·exact hk
 ·rintro (rfl | rfl | e)
  ·have := S.qb
   unfold Bx at this
   rw [hk] at this
   injection this with this
   exact h1 _ _ this
  ·obtain ⟨es, c, hm, _⟩ := S.mg
   rw [hk] at hm
   injection hm with hm
   exact h2 _ _ hm
  ·exact h3 e
theorem own_cells {base : Nat} {W : World} {v : Value} {l : List Pc} (h : OwnQ base 144 W v l) {k : Nat} {o : Obj} (hk : W.heap[k]? = some o) (ho : ∀ cs fr, o ≠ .cells cs 144 fr) : v.ownBlock ≠ some k := by
 rcases h with ⟨rfl, _⟩ | ⟨g, off, cap, cur, rfl, _, hg, _⟩
 ·simp [Value.ownBlock]
 ·intro e
  simp [Value.ownBlock] at e
  subst e
  rw [hk] at hg
  injection hg with hg
  exact ho _ _ hg
def addV (gs gq : Nat) : Value := .func (.func 117) #[] #[.pointer (some ⟨gs, 0, none⟩), .pointer (some ⟨gq, 0, none⟩)]
structure RSt (w0 : World) (g3 gs gq ga r : Nat) (v : Value) (ord : List (Pc × Sp)) (Q : List Pc) (W : World) : Prop where
 s : Srch w0.heap.size W gs gq r v ord Q
 b3 : Bx W g3 [.int .i64 0, .int .i64 0] 144
 ba : Bx W ga [addV gs gq] 175
 st : Step w0 W
 n3 : v.ownBlock ≠ some g3
section
variable {w0 W W' : World} {g3 gs gq ga r : Nat} {v v' : Value} {ord ord' : List (Pc × Sp)} {Q Q' : List Pc}
theorem RSt.step (h : RSt w0 g3 gs gq ga r v ord Q W) (k : Step W W') : RSt w0 g3 gs gq ga r v ord Q W' := ⟨h.s.step k, h.b3.step k, h.ba.step k, h.st.trans k, h.n3⟩
theorem RSt.add (h : RSt w0 g3 gs gq ga r v ord Q W) (s' : Srch w0.heap.size W' gs gq r v' ord' Q') (hX : StepX (SrchX gq r v) W W') (hn : ∀ k, v'.ownBlock = some k → v.ownBlock = some k ∨ W.heap.size ≤ k) : RSt w0 g3 gs gq ga r v' ord' Q' W' := by
 have hown : ∀ g, v.ownBlock = some g → w0.heap.size ≤ g := fun g hg => (h.s.qu.lt g hg).1
 refine ⟨s', srch_keeps h.s hX h.b3 (fun cs fr e => by injection e with _ e; exact absurd e (by decide)) (fun es c e => by cases e) h.n3, srch_keeps h.s hX h.ba (fun cs fr e => by injection e with _ e; exact absurd e (by decide)) (fun es c e => by cases e) (h.s.qu.ne_bx h.ba (by decide)),
  StepX.fresh h.st hX (fun j hj => by
   rcases hj with rfl | rfl | e
   ·exact h.s.hq
   ·exact h.s.hr
   ·exact hown j e), fun e => ?_⟩
 rcases hn g3 e with h1 | h1
 ·exact h.n3 h1
 ·have := h.b3.lt; omega
end
theorem own_cs {A C : World} {row : Option Nat} {N : Nat} (hg : A.grownBy C row) (hr : ∀ k, row = some k → N ≤ k ∧ ∃ o : Obj, A.heap[k]? = some o ∧ o.isCells = false) (g : Nat) (h : ∃ cs T fr, A.heap[g]? = some (Obj.cells cs T fr)) : C.heap[g]? = A.heap[g]? := by
 obtain ⟨cs, T, fr, h⟩ := h
 refine hg.block g (Array.getElem?_eq_some_iff.1 h).1 fun e => ?_
 obtain ⟨_, ob, ho, hn⟩ := hr g e.symm
 rw [h] at ho
 obtain rfl := Option.some.inj ho
 simp [Obj.isCells] at hn
theorem own_lt {A C : World} {row : Option Nat} {N : Nat} (hg : A.grownBy C row) (hr : ∀ k, row = some k → N ≤ k ∧ ∃ o : Obj, A.heap[k]? = some o ∧ o.isCells = false) (g : Nat) (h : g < A.heap.size) (hn : g < N) : C.heap[g]? = A.heap[g]? :=
 hg.block g h fun e => by have := (hr g e.symm).1; omega
theorem own_bx {A C : World} {row : Option Nat} {N : Nat} (hg : A.grownBy C row) (hr : ∀ k, row = some k → N ≤ k ∧ ∃ o : Obj, A.heap[k]? = some o ∧ o.isCells = false) {g : Nat} {cs : List Value} {T : TypeId} (h : Bx A g cs T) : Bx C g cs T := by
 have := own_cs hg hr g ⟨_, _, _, h⟩
 unfold Bx at *
 rw [this]; exact h
theorem own_step {w A C : World} {row : Option Nat} {N : Nat} (hg : A.grownBy C row) (hr : ∀ k, row = some k → N ≤ k ∧ ∃ o : Obj, A.heap[k]? = some o ∧ o.isCells = false) (hN : w.heap.size ≤ N) (h : Step w A) : Step w C :=
 StepX.fresh (X := fun j => row = some j) h (StepX.grown hg fun k hk _ => hk) fun j hj => Nat.le_trans hN (hr j hj).1
theorem set2H {w : World} {g : Nat} {a0 a1 : Value} {T : TypeId} (h : Bx w g [a0, a1] T) (c0 c1 : Value) : Bx ((w.setCell ⟨g, 0, none⟩ c0).setCell ⟨g, 1, none⟩ c1) g [c0, c1] T ∧ StepX (fun j => j = g) w ((w.setCell ⟨g, 0, none⟩ c0).setCell ⟨g, 1, none⟩ c1) :=
 ⟨(h.setCell 0 c0).setCell 1 c1, ((StepX.refl _ w).set1 0 c0).set1 1 c1⟩
theorem RSt.own {w0 A C : World} {g3 gs gq ga r : Nat} {v : Value} {ord : List (Pc × Sp)} {Q : List Pc} {row : Option Nat} {N : Nat} (h : RSt w0 g3 gs gq ga r v ord Q A) (hg : A.grownBy C row) (hr : ∀ k, row = some k → N ≤ k ∧ ∃ o : Obj, A.heap[k]? = some o ∧ o.isCells = false) (hrN : r < N) (hN : w0.heap.size ≤ N) : RSt w0 g3 gs gq ga r v ord Q C := by
 refine ⟨⟨own_bx hg hr h.s.sb, own_bx hg hr h.s.qb, h.s.mg.at_block (own_lt hg hr r h.s.mg.lt hrN), h.s.qu.kept fun g hgo => ?_, h.s.hr, h.s.hq⟩, own_bx hg hr h.b3, own_bx hg hr h.ba, own_step hg hr hN h.st, h.n3⟩
 refine own_cs hg hr g ?_
 rcases h.s.qu with ⟨rfl, _⟩ | ⟨g', off, cap, cur, rfl, _, hg', _⟩
 ·simp [Value.ownBlock] at hgo
 ·simp [Value.ownBlock] at hgo
  subst hgo
  exact ⟨_, _, _, hg'⟩
structure RL (w0 : World) (g3 gs gq ga r go gf : Nat) (H : Net) (f : Fs) (Ds : List Nat) (ord : List (Pc × Sp)) (v : Value) (W : World) : Prop where
 s : RSt w0 g3 gs gq ga r v ord ((keysL ord).drop Ds.length) W
 b : Bfs H f ord Ds.length
 bo : Bx W go [.int .i64 0, .int .i64 0] 144
 bf : Bx W gf [.bool false] 4
 no : v.ownBlock ≠ some go
 ng : go ≠ g3
 nd : Ds.Nodup
 ms : MarksAt Ds W
 ml : ∀ D ∈ Ds, w0.heap.size ≤ D
theorem RSt.setQ {w0 W : World} {g3 gs gq ga r : Nat} {v v' : Value} {ord : List (Pc × Sp)} {Q Q' : List Pc} (h : RSt w0 g3 gs gq ga r v ord Q W) (hq : OwnQ w0.heap.size 144 W v' Q') (hg : ∀ k, v'.ownBlock = some k → v.ownBlock = some k) : RSt w0 g3 gs gq ga r v' ord Q' (W.setCell ⟨gq, 0, none⟩ v') := by
 have n1 : gs ≠ gq := bx_ne h.s.sb h.s.qb (by decide)
 have n2 : r ≠ gq := (h.s.mg.nob h.s.qb).symm
 have n3 : g3 ≠ gq := bx_ne h.b3 h.s.qb (by decide)
 have n4 : ga ≠ gq := bx_ne h.ba h.s.qb (by decide)
 have n5 : v'.ownBlock ≠ some gq := hq.ne_bx h.s.qb (by decide)
 exact ⟨⟨h.s.sb.setOther n1, h.s.qb.setCell 0 _, h.s.mg.at_block (Below.heap_setCell W ⟨gq, 0, none⟩ _ r n2), hq.kept fun k hk => Below.heap_setCell W ⟨gq, 0, none⟩ _ k (fun e => n5 (by have e' : k = gq := e; rw [← e']; exact hk)), h.s.hr, h.s.hq⟩, h.b3.setOther n3, h.ba.setOther n4,
  StepX.fresh h.st ((StepX.refl (fun j => j = gq) W).setCell ⟨gq, 0, none⟩ v' rfl) fun j hj => by subst hj; exact h.s.hq, fun e => h.n3 (hg _ e)⟩
theorem RL.pop {w0 W : World} {g3 gs gq ga r go gf : Nat} {H : Net} {f : Fs} {Ds : List Nat} {ord : List (Pc × Sp)} {v v' : Value} {Q : List Pc} (h : RL w0 g3 gs gq ga r go gf H f Ds ord v W) (hq : OwnQ w0.heap.size 144 W v' Q) (hg : ∀ k, v'.ownBlock = some k → v.ownBlock = some k) (o : Obj) :
  RSt w0 g3 gs gq ga r v' ord Q ((W.setCell ⟨gq, 0, none⟩ v').alloc o) ∧ Bx ((W.setCell ⟨gq, 0, none⟩ v').alloc o) go [.int .i64 0, .int .i64 0] 144 ∧ Bx ((W.setCell ⟨gq, 0, none⟩ v').alloc o) gf [.bool false] 4 ∧ v'.ownBlock ≠ some go ∧ MarksAt Ds ((W.setCell ⟨gq, 0, none⟩ v').alloc o) := by
 have hA := Step.alloc (W.setCell ⟨gq, 0, none⟩ v') o
 refine ⟨(h.s.setQ hq hg).step hA, (h.bo.setOther (bx_ne h.bo h.s.s.qb (by decide))).step hA, (h.bf.setOther (bx_ne h.bf h.s.s.qb (by decide))).step hA, fun e => h.no (hg _ e), fun D hD => ?_⟩
 have h1 := h.ms D hD
 have hne : D ≠ gq := fun e => by
  have h2 := h.s.s.qb
  unfold Bx at h2
  rw [← e, h1] at h2
  cases h2
 have h3 : (W.setCell ⟨gq, 0, none⟩ v').heap[D]? = some (.deferred (some [])) := by rw [Below.heap_setCell W ⟨gq, 0, none⟩ v' D hne]; exact h1
 rw [hA.block D (Array.getElem?_eq_some_iff.1 h3).1 id]; exact h3
def RI (w0 : World) (g3 gs gq ga r go gf gp gff : Nat) (H : Net) (f : Fs) (Ds : List Nat) (p : Pc) (N : Nat) (pre : List (StepNo H f p)) (W : World) : Prop :=
 ∃ ord v, RSt w0 g3 gs gq ga r v ord ((keysL ord).drop (Ds.length + 1)) W ∧ Vis H f ord Ds.length p (pre.map (·.1)) ∧ Bx W go [.int .i64 0, .int .i64 0] 144 ∧ Bx W gf [.bool false] 4 ∧ v.ownBlock ≠ some go ∧ v.ownBlock ≠ some gp ∧ v.ownBlock ≠ some gff ∧ MarksAt Ds W ∧ N ≤ W.heap.size
def RIx (w0 : World) (g3 gs r go gf : Nat) (H : Net) (f : Fs) (Ds : List Nat) {p : Pc} (c : Code) (pre : List (StepNo H f p)) (W : World) : Prop :=
 c = .exit 2 ∧ ∃ ord q, MG kvP kvS W r (lookB ord) ∧ Bx W gs [.map (some r)] 141 ∧ Bx W g3 [.int .i64 0, .int .i64 0] 144 ∧ Bx W go [.int .i64 q.spot, .int .i64 q.minute] 144 ∧ Bx W gf [.bool true] 4 ∧ Step w0 W ∧ FoundOut H f ord q ∧ MarksAt Ds W
theorem marks_own {A C : World} {row : Option Nat} {N : Nat} {Ds : List Nat} (hg : A.grownBy C row) (hr : ∀ k, row = some k → N ≤ k ∧ ∃ o : Obj, A.heap[k]? = some o ∧ o.isCells = false) (hD : ∀ D ∈ Ds, D < N) (h : MarksAt Ds A) : MarksAt Ds C := fun D hd => by
 have h1 := h D hd
 rw [own_lt hg hr D (Array.getElem?_eq_some_iff.1 h1).1 (hD D hd)]; exact h1
theorem RI.own {w0 : World} {g3 gs gq ga r go gf gp gff : Nat} {H : Net} {f : Fs} {Ds : List Nat} {p : Pc} {N M : Nat} (h1 : r < N) (h2 : w0.heap.size ≤ N) (h3 : ∀ D ∈ Ds, D < N) (h4 : M ≤ N) : OwnFrom N (RI w0 g3 gs gq ga r go gf gp gff H f Ds p M) := by
 rintro pre A C row ⟨ord, v, a1, a2, a3, a4, a5, a6, a7, a8, a9⟩ hg hr
 exact ⟨ord, v, a1.own hg hr h1 h2, a2, own_bx hg hr a3, own_bx hg hr a4, a5, a6, a7, marks_own hg hr h3 a8, Nat.le_trans a9 hg.size⟩
theorem RIx.own {w0 : World} {g3 gs r go gf : Nat} {H : Net} {f : Fs} {Ds : List Nat} {p : Pc} {N : Nat} (c : Code) (h1 : r < N) (h2 : w0.heap.size ≤ N) (h3 : ∀ D ∈ Ds, D < N) : OwnFrom N (RIx w0 g3 gs r go gf H f Ds (p := p) c) := by
 rintro pre A C row ⟨e, ord, q, a1, a2, a3, a4, a5, a6, a7, a8⟩ hg hr
 exact ⟨e, ord, q, a1.at_block (own_lt hg hr r a1.lt h1), own_bx hg hr a2, own_bx hg hr a3, own_bx hg hr a4, own_bx hg hr a5, own_step hg hr h2 a6, a7, marks_own hg hr h3 a8⟩
theorem marks_step {W W' : World} {Ds : List Nat} (h : MarksAt Ds W) (k : Step W W') : MarksAt Ds W' := fun D hD => by
 have h1 := h D hD
 rw [k.block D (Array.getElem?_eq_some_iff.1 h1).1 id]; exact h1
theorem RI.step {w0 : World} {g3 gs gq ga r go gf gp gff : Nat} {H : Net} {f : Fs} {Ds : List Nat} {p : Pc} {N : Nat} {pre : List (StepNo H f p)} {W W' : World} (h : RI w0 g3 gs gq ga r go gf gp gff H f Ds p N pre W) (k : Step W W') : RI w0 g3 gs gq ga r go gf gp gff H f Ds p N pre W' := by
 obtain ⟨ord, v, a1, a2, a3, a4, a5, a6, a7, a8, a9⟩ := h
 exact ⟨ord, v, a1.step k, a2, a3.step k, a4.step k, a5, a6, a7, marks_step a8 k, Nat.le_trans a9 k.size⟩
theorem keepsFrom_step {N : Nat} {W W' : World} (k : Step W W') : KeepsFrom N W W' := ⟨k.size, fun i o _ hi _ => by rw [k.block i (Array.getElem?_eq_some_iff.1 hi).1 id]; exact hi⟩
theorem srch_from {base N : Nat} {W W' : World} {gs gq r : Nat} {v : Value} {ord : List (Pc × Sp)} {Q : List Pc} (S : Srch base W gs gq r v ord Q) (hX : StepX (SrchX gq r v) W W') (h1 : gq < N) (h2 : r < N) : KeepsFrom N W W' :=
 ⟨hX.size, fun k o hk hi ho => by
  rw [hX.block k (Array.getElem?_eq_some_iff.1 hi).1 ?_]
  ·exact hi
  ·rintro (rfl | rfl | e)
   ·omega
   ·omega
   ·exact own_cells S.qu hi (fun cs fr e' => by rw [e'] at ho; simp [Obj.isCells] at ho) e⟩
theorem srch_keepT {base : Nat} {W W' : World} {gs gq r : Nat} {v : Value} {ord : List (Pc × Sp)} {Q : List Pc} (S : Srch base W gs gq r v ord Q) (hX : StepX (SrchX gq r v) W W') : KeepT 108 W W' := fun k cs fr hk => by
 rw [srch_keeps S hX hk (fun cs' fr' e => by injection e with _ e; exact absurd e (by decide)) (fun es c e => by cases e) (own_cells S.qu hk fun cs' fr' e => by injection e with _ e; exact absurd e (by decide)), hk]
theorem keepsFrom_bx {N g : Nat} {W W' : World} {cs : List Value} {T : TypeId} (h : Bx W g cs T) (k : StepX (fun j => j = g) W W') : KeepsFrom N W W' := ⟨k.size, fun i o _ hi ho => by
 rw [k.block i (Array.getElem?_eq_some_iff.1 hi).1 ?_]
 ·exact hi
 ·intro e
  unfold Bx at h
  rw [← e, hi] at h
  injection h with h
  subst h
  simp [Obj.isCells] at ho⟩
theorem kpx_b {W : World} {X : Nat → Prop} {l N : Nat} {o o' : Obj} {T : TypeId} (hX : X l) (hl : N ≤ l) (h : W.heap[l]? = some o) (hc : o.isCells = false) : StepX X W (W.putObj l o') ∧ KeepT T W (W.putObj l o') := by
 have hg := grownBy_putObj' W l o'
 refine ⟨⟨hg.os, hg.tape, hg.output, hg.size, fun k hk hn => hg.block k hk (fun e => hn (by cases e; exact hX))⟩, fun k cs fr hk => hg.block k (Array.getElem?_eq_some_iff.1 hk).1 fun e => ?_⟩
 cases e
 rw [h] at hk
 injection hk with hk
 subst hk
 simp [Obj.isCells] at hc
structure RE (w0 : World) (g3 gs r go gf : Nat) (H : Net) (f : Fs) (Ds : List Nat) (ord : List (Pc × Sp)) (q : Pc) (fnd : Bool) (W : World) : Prop where
 mg : MG kvP kvS W r (lookB ord)
 sb : Bx W gs [.map (some r)] 141
 b3 : Bx W g3 [.int .i64 0, .int .i64 0] 144
 bo : Bx W go [.int .i64 q.spot, .int .i64 q.minute] 144
 bf : Bx W gf [.bool fnd] 4
 st : Step w0 W
 yes : fnd = true → FoundOut H f ord q
 no : fnd = false → Bfs H f ord ord.length
 ng : go ≠ g3
 nd : Ds.Nodup
 ms : MarksAt Ds W
 ml : ∀ D ∈ Ds, w0.heap.size ≤ D
theorem reach_any {base : Nat} {B : FB} {vp vw vl : Value} {sc : Nat} {h : Hall} {T : Nat} {f : Fs} (w : World) (F : FT base w B vp vw vl sc h T f) (O : HallOk h) (hT : T ≤ 61) (Y : Fly (netOf h T) f) :
  Calls Try.prog 102 #[.pointer (some ⟨B.fl, 0, none⟩)] w fun e w' => ∃ r ord q fnd, e = .returned (.tuple #[.map (some r), kvP q, .bool fnd]) ∧ w.heap.size ≤ r ∧ MG kvP kvS w' r (lookB ord) ∧ (fnd = true → FoundOut (netOf h T) f ord q) ∧ (fnd = false → Bfs (netOf h T) f ord ord.length) ∧ Step w w' := by
 have hmf : ∀ (fn : Fn) (first cap : Array Value) (w : World), (Instr.makeFunc fn first cap).run Try.prog w = .ok (.func fn first cap) w := fun _ _ _ _ => rfl
 have hmm := @run_makeMap Try.prog
 have hsf : ∀ (w : World) (a : Addr) (f : Fn) (x y : Array Value), (store a (.func f x y)).run Try.prog w = stored Try.prog w a (.func f x y) .plain := fun w a f x y => run_store Try.prog w a (.func f x y) .plain rfl
 obtain ⟨e0, e1, e2, e3, e4, e5⟩ := F.cells
 have hl := F.fl.lt
 have HF := zH F
 have HO := zH O
 have HY := zH Y
 clear F O Y
 refine callsIn_wide.1 (show CallsIn (FW none) 5 Try.prog 102 _ w _ from ?_)
 refine callsIn_of_wp_marks Try.func102 rfl trivial ?_ rfl
 simp only [Try.ntmps102, List.size_toArray, List.length_cons, List.length_nil, Nat.reduceAdd, Nat.reduceSub, Array.replicate_succ, Array.replicate_zero, List.push_toArray, List.append_toArray, List.nil_append, List.cons_append]
 gi_wp2_with fail
 refine wpIn_scopeH ?_
 gi_upto_region 4 with (fail)
 clear hmm hmf hsf
 obtain ⟨ga, hga⟩ : ∃ g, g = w.heap.size + 1 + 1 + 1 + 1 := ⟨_, rfl⟩
 obtain ⟨gq, hgq⟩ : ∃ g, g = w.heap.size + 1 + 1 + 1 := ⟨_, rfl⟩
 obtain ⟨gs, hgs⟩ : ∃ g, g = w.heap.size + 1 + 1 := ⟨_, rfl⟩
 obtain ⟨r, hr⟩ : ∃ g, g = w.heap.size + 1 := ⟨_, rfl⟩
 obtain ⟨g3, hg3⟩ : ∃ g, g = w.heap.size := ⟨_, rfl⟩
 obtain ⟨W1, hW1⟩ : ∃ W1, W1 = ((((w.alloc (.cells #[.int .i64 0, .int .i64 0] 144)).alloc (.map #[] 0)).alloc (.cells #[.map (some r)] 141)).alloc (.cells #[.slice none 0 0] 173)).alloc (.cells #[addV gs gq] 175) := ⟨_, rfl⟩
 have hS1 : Step w W1 := by subst hW1; exact ((((Step.alloc _ _).trans (Step.alloc _ _)).trans (Step.alloc _ _)).trans (Step.alloc _ _)).trans (Step.alloc _ _)
 have hst : RSt w g3 gs gq ga r (.slice none 0 0) [] [] W1 := by
  have a1 : Step (w.alloc (.cells #[.int .i64 0, .int .i64 0] 144)) W1 := by subst hW1; exact (((Step.alloc _ _).trans (Step.alloc _ _)).trans (Step.alloc _ _)).trans (Step.alloc _ _)
  have a2 : Step ((w.alloc (.cells #[.int .i64 0, .int .i64 0] 144)).alloc (.map #[] 0)) W1 := by subst hW1; exact ((Step.alloc _ _).trans (Step.alloc _ _)).trans (Step.alloc _ _)
  have a3 : Step (((w.alloc (.cells #[.int .i64 0, .int .i64 0] 144)).alloc (.map #[] 0)).alloc (.cells #[.map (some r)] 141)) W1 := by subst hW1; exact (Step.alloc _ _).trans (Step.alloc _ _)
  have a4 : Step ((((w.alloc (.cells #[.int .i64 0, .int .i64 0] 144)).alloc (.map #[] 0)).alloc (.cells #[.map (some r)] 141)).alloc (.cells #[.slice none 0 0] 173)) W1 := by subst hW1; exact Step.alloc _ _
  have c1 : Bx W1 g3 [.int .i64 0, .int .i64 0] 144 := by rw [hg3]; exact (Bx.new w [_, _] _).step a1
  have c2 : MG kvP kvS W1 r (lookB []) := (MG.new kvP kvS ((w.alloc (.cells #[.int .i64 0, .int .i64 0] 144)).alloc (.map #[] 0)) r 0 (by rw [hr]; have := heap_alloc_new (w.alloc (.cells #[.int .i64 0, .int .i64 0] 144)) (.map #[] 0); simpa using this)).keep (.of_step (S := fun _ => False) a2) id
  have c3 : Bx W1 gs [.map (some r)] 141 := (Bx.new' _ [_] _ _ (by rw [hgs]; simp)).step a3
  have c4 : Bx W1 gq [.slice none 0 0] 173 := (Bx.new' _ [_] _ _ (by rw [hgq]; simp)).step a4
  have c5 : Bx W1 ga [addV gs gq] 175 := by rw [hW1]; exact Bx.new' _ [_] _ _ (by rw [hga]; simp)
  exact ⟨⟨c3, c4, c2, OwnQ.nil _ _ _, by omega, by omega⟩, c1, c5, hS1, by simp [Value.ownBlock]⟩
 have hwe : ((((w.alloc (.cells #[.int .i64 0, .int .i64 0] 144)).alloc (.map #[] 0)).alloc (.cells #[.map (some (w.heap.size + 1))] 141)).alloc (.cells #[.slice none 0 0] 173)).alloc (.cells #[.func (.func 117) #[] #[.pointer (some ⟨w.heap.size + 1 + 1, 0, none⟩), .pointer (some ⟨w.heap.size + 1 + 1 + 1, 0, none⟩)]] 175) = W1 := by rw [hW1, hr, hgs, hgq]; rfl
 rw [hwe, ← hga, ← hgq, ← hgs, ← hr, ← hg3]
 have hrw : w.heap.size ≤ r := by omega
 have HG3 := zH (show w.heap.size ≤ g3 by omega)
 clear hwe hW1 hga hgq hgs hr hg3
 have HST := zH hst
 have HRW := zH hrw
 obtain ⟨e0, e1, e2, e3, e4, e5⟩ := (HF.out.step hS1).cells
 clear hst hrw hS1
 gi_upto_region 5 with (fail)
 clear e0 e1 e2 e3 e4 e5 hl
 gi_loopw [22] (fun i wr => ∃ k : Nat, k ≤ h.people.length ∧ i = .int .i64 k ∧ ∃ ord v, RSt w g3 gs gq ga r v ord (keysL ord) wr ∧ Roots (netOf h T) f ord k) (fun i _ => h.people.length - (intOf i).toNat)
 case atStart => exact ⟨0, Nat.zero_le _, rfl, [], _, HST.out, Roots.start f⟩
 case round =>
  obtain ⟨k, hk, rfl, ord, v, hR, hRo⟩ := hrel
  clear HST
  have hn10 : h.people.length ≤ 10 := HO.out.n10
  by_cases hlt : k < h.people.length
  ·have e1 := (HF.out.step hR.st).rest hlt
   have hix : (0 : Int) ≤ (k : Int) ∧ (k : Int) < (h.people.length : Int) := by omega
   by_cases hp : 0 < f.rs k
   ·have hd : decide (0 < f.rs k) = true := by simpa using hp
    have HR := zH hR
    have hcall := add_any wr hR.s ⟨k, 0⟩ rootSp (by have := found_len HO.out hT hRo.toFound; simp [keysL]; omega) hR.st.size
    unfold kvP kvS rootSp at hcall
    have HC := zH hcall
    have a0 := hR.ba.cell 0
    simp only [List.getElem?_cons_zero] at a0
    unfold addV at a0
    have HRo := zH (hRo.add (show k < (netOf h T).n from hlt) hp (HY.out.rs0 (netOf_ok HO.out T)))
    clear hR hRo hp hcall
    gi_wp2_with fail
    refine (callsIn_FW HC.out).mono ?_
    rintro e w2 ⟨rfl, v', hs', hX', hn'⟩
    have hs2 := HR.out.add hs' hX' hn'
    rw [show (⟨⟨-1, 0⟩, -1, false⟩ : Sp) = rootSp from rfl, addQ_keys ord ⟨k, 0⟩ rootSp] at hs2
    have HR2 := zH hs2
    clear hs' hX' hn' hs2 HC HR a0 e1
    gi_wp2
    go_roundw
    case rel => exact ⟨k + 1, by omega, by go_num, _, v', HR2.out, HRo.out⟩
    case measure => simp [intOf]; omega
   ·have hd : decide (0 < f.rs k) = false := by simpa using hp
    have HR := zH hR
    have HRo := zH (hRo.skip hp)
    clear hR hRo hp
    gi_wp2
    go_roundw
    case rel => exact ⟨k + 1, by omega, by go_num, _, v, HR.out, HRo.out⟩
    case measure => simp [intOf]; omega
  ·have hkn : k = h.people.length := by omega
   subst hkn
   have HR := zH hR
   have HB := zH (show Bfs (netOf h T) f ord 0 from hRo.bfs)
   clear hR hRo hlt hk
   gi_upto_region 12 with (fail)
   refine wpIn_label ?_
   gi_step
   gi_step
   gi_step
   obtain ⟨go, hgo⟩ : ∃ g, g = wr.heap.size := ⟨_, rfl⟩
   obtain ⟨gf, hgf⟩ : ∃ g, g = wr.heap.size + 1 := ⟨_, rfl⟩
   obtain ⟨Wl, hWl⟩ : ∃ W, W = (wr.alloc (.cells #[.int .i64 0, .int .i64 0] 144)).alloc (.cells #[.bool false] 4) := ⟨_, rfl⟩
   have hl0 : RL w g3 gs gq ga r go gf (netOf h T) f [] ord v Wl := by
    have a1 : Step wr Wl := by subst hWl; exact (Step.alloc _ _).trans (Step.alloc _ _)
    have a2 : Bx Wl go [.int .i64 0, .int .i64 0] 144 := by subst hWl hgo; exact (Bx.new wr [_, _] _).alloc _
    have a3 : Bx Wl gf [.bool false] 4 := by subst hWl hgf; exact Bx.new' _ [_] _ _ (by simp)
    exact ⟨HR.out.step a1, HB.out, a2, a3, fun e => by have := (HR.out.s.qu.lt go e).2; omega, by have := HR.out.b3.lt; omega, List.nodup_nil, fun _ h => (by cases h), fun _ h => (by cases h)⟩
   have HGO := zH (show w.heap.size ≤ go ∧ w.heap.size ≤ gf from ⟨by have := HR.out.st.size; omega, by have := HR.out.st.size; omega⟩)
   rw [← hWl, ← hgf, ← hgo]
   clear hWl hgo hgf HR HB
   have HL0 := zH hl0
   clear hl0
   refine wpIn_part (fun a W => ∃ x8 x9 x12 x13 x14 x15 x16 x17 x18 x19 x20 x21 x22 x23 x24 x25 x26 x27 x28 x29 x30 x31 x32 x33 x34 x35 x36 x37 x38 x39 x40 x41 x42 x43 x44 x45 x46 x47 x48 x49 x50 x51 x52 x53 x54 x55 x56 x57 x58 x59 Ds ord q fnd, a = { tmps := #[.pointer (some ⟨B.fl, 0, none⟩), undef, .map none, .pointer (some ⟨g3, 0, none⟩), .bool false, .pointer (some ⟨gs, 0, none⟩), .pointer (some ⟨gq, 0, none⟩), .pointer (some ⟨ga, 0, none⟩), x8, x9, .pointer (some ⟨go, 0, none⟩), .pointer (some ⟨gf, 0, none⟩), x12, x13, x14, x15, x16, x17, x18, x19, x20, x21, x22, x23, x24, x25, x26, x27, x28, x29, x30, x31, x32, x33, x34, x35, x36, x37, x38, x39, x40, x41, x42, x43, x44, x45, x46, x47, x48, x49, x50, x51, x52, x53, x54, x55, x56, x57, x58, x59], defers := Ds.map markD } ∧ RE w g3 gs r go gf (netOf h T) f Ds ord q fnd W) ?first ?rest
   case rest =>
    rintro a W ⟨x8, x9, x12, x13, x14, x15, x16, x17, x18, x19, x20, x21, x22, x23, x24, x25, x26, x27, x28, x29, x30, x31, x32, x33, x34, x35, x36, x37, x38, x39, x40, x41, x42, x43, x44, x45, x46, x47, x48, x49, x50, x51, x52, x53, x54, x55, x56, x57, x58, x59, Ds, ord', q, fnd, rfl, hE⟩
    clear HL0
    have HE := zH hE
    have m0 := hE.sb.cell 0
    have q0 := hE.bo.cell 0
    have q1 := hE.bo.cell 1
    have f0 := hE.bf.cell 0
    have t0 := hE.b3.cell 0
    have t1 := hE.b3.cell 1
    have z0 := hE.b3.frozen 0
    have z1 := hE.b3.frozen 1
    have tl := hE.b3.lt
    have n1 : gf ≠ g3 := bx_ne hE.bf hE.b3 (by decide)
    have n2 : gs ≠ g3 := bx_ne hE.sb hE.b3 (by decide)
    have n3 : go ≠ g3 := hE.ng
    simp only [zD, zE] at m0 q0 q1 f0 t0 t1
    clear hE
    gi_wp2_with fail
    gi_region
    gi_wp2
    rw [Exit.noGoto_ret]
    have b2 := set2H HE.out.b3 (.int .i64 q.spot) (.int .i64 q.minute)
    obtain ⟨W9, hW9⟩ : ∃ W', W' = ((W.setCell ⟨g3, 0, none⟩ (.int .i64 q.spot)).setCell ⟨g3, 1, none⟩ (.int .i64 q.minute)).drew := ⟨_, rfl⟩
    have hb9 : Bx W9 g3 [.int .i64 q.spot, .int .i64 q.minute] 144 := by rw [hW9]; exact b2.1.step (Step.drew _)
    have hx9 : StepX (fun j => j = g3) W W9 := by rw [hW9]; exact b2.2.drew'
    have hm9 : MG kvP kvS W9 r (lookB ord') := HE.out.mg.keep hx9.keeps (HE.out.mg.nob HE.out.b3).symm
    have hs9 : Step w W9 := StepX.fresh HE.out.st hx9 fun j hj => by subst hj; exact HG3.out
    have hms : MarksAt Ds W9 := fun D hD => by
     have h1 := HE.out.ms D hD
     rw [hx9.block D (Array.getElem?_eq_some_iff.1 h1).1 (fun e => by
      have h2 := HE.out.b3
      unfold Bx at h2
      rw [← e, h1] at h2
      cases h2)]
     exact h1
    first | rw [← hW9] | skip
    show LeavesInM _ _ _ _ _ _ (Ds.map markD) .returning W9
    refine leaves_marks Ds W9 HE.out.nd hms fun W' m hk => ?_
    have hq : ∃ z9, z9 = q := ⟨_, rfl⟩
    refine ⟨_, results_tct rfl siPlace rfl (m.bx hb9) rfl, r, ord', q, fnd, rfl, HRW.out, hm9.at_block (m.block r fun x e => ?_), HE.out.yes, HE.out.no, m.step hs9 fun k x hk1 hk2 => hk k fun hD => ?_⟩
    ·obtain ⟨es, c, hh, _⟩ := hm9
     rw [hh] at e
     cases e
    ·have := HE.out.ml k hD
     omega
   case first =>
    refine wpIn_block (wpIn_loop (fun a W => ∃ x8 x9 x12 x13 x14 x15 x16 x17 x18 x19 x20 x21 x22 x23 x24 x25 x26 x27 x28 x29 x30 x31 x32 x33 x34 x35 x36 x37 x38 x39 x40 x41 x42 x43 x44 x45 x46 x47 x48 x49 x50 x51 x52 x53 x54 x55 x56 x57 x58 x59 Ds ord v, a = { tmps := #[.pointer (some ⟨B.fl, 0, none⟩), undef, .map none, .pointer (some ⟨g3, 0, none⟩), .bool false, .pointer (some ⟨gs, 0, none⟩), .pointer (some ⟨gq, 0, none⟩), .pointer (some ⟨ga, 0, none⟩), x8, x9, .pointer (some ⟨go, 0, none⟩), .pointer (some ⟨gf, 0, none⟩), x12, x13, x14, x15, x16, x17, x18, x19, x20, x21, x22, x23, x24, x25, x26, x27, x28, x29, x30, x31, x32, x33, x34, x35, x36, x37, x38, x39, x40, x41, x42, x43, x44, x45, x46, x47, x48, x49, x50, x51, x52, x53, x54, x55, x56, x57, x58, x59], defers := Ds.map markD } ∧ RL w g3 gs gq ga r go gf (netOf h T) f Ds ord v W) (fun a _ => 1000 - a.defers.length) ?start ?round)
    case start => exact ⟨_, _, _, _, _, _, _, _, _, _, _, _, _, _, _, _, _, _, _, _, _, _, _, _, _, _, _, _, _, _, _, _, _, _, _, _, _, _, _, _, _, _, _, _, _, _, _, _, _, _, [], ord, v, rfl, HL0.out⟩
    case round =>
     clear HL0
     rintro a W ⟨x8, x9, x12, x13, x14, x15, x16, x17, x18, x19, x20, x21, x22, x23, x24, x25, x26, x27, x28, x29, x30, x31, x32, x33, x34, x35, x36, x37, x38, x39, x40, x41, x42, x43, x44, x45, x46, x47, x48, x49, x50, x51, x52, x53, x54, x55, x56, x57, x58, x59, Ds, ord, v, rfl, hRL⟩
     have HRL := zH hRL
     have q0 := hRL.s.s.qb.cell 0
     simp only [List.getElem?_cons_zero] at q0
     obtain ⟨pv, cv, hvf⟩ := hRL.s.s.qu.form
     have hkl := hRL.b.kl
     have hlen := found_len HO.out hT hRL.b.toFound
     have hdl : ((keysL ord).drop Ds.length).length = ord.length - Ds.length := by simp [keysL]
     rw [hdl] at hvf
     subst hvf
     clear hRL hdl
     by_cases hlt : Ds.length < ord.length
     rotate_left
     ·have hz : ord.length - Ds.length = 0 := by omega
      have HB := zH (show Bfs (netOf h T) f ord ord.length by have := HRL.out.b; rwa [show Ds.length = ord.length by omega] at this)
      have hz2 : ((ord.length - Ds.length : Nat) : Int) = 0 := by omega
      gi_wp2
      exact ⟨trivial, _, _, _, _, _, _, _, _, _, _, _, _, _, _, _, _, _, _, _, _, _, _, _, _, _, _, _, _, _, _, _, _, _, _, _, _, _, _, _, _, _, _, _, _, _, _, _, _, _, _, Ds, ord, ⟨0, 0⟩, false, rfl, HRL.out.s.s.mg, HRL.out.s.s.sb, HRL.out.s.b3, HRL.out.bo, HRL.out.bf, HRL.out.s.st, (fun e => by cases e), (fun _ => HB.out), HRL.out.ng, HRL.out.nd, HRL.out.ms, HRL.out.ml⟩
     obtain ⟨p, hp⟩ : ∃ p, p = ord[Ds.length].1 := ⟨_, rfl⟩
     obtain ⟨L, hL⟩ : ∃ L, ord.length - Ds.length = L + 1 := ⟨ord.length - Ds.length - 1, by omega⟩
     rw [hL] at HRL q0
     obtain ⟨Q, hQ⟩ : ∃ Q, Q = (keysL ord).drop (Ds.length + 1) := ⟨_, rfl⟩
     have hdrop : (keysL ord).drop Ds.length = p :: Q := by
      rw [List.drop_eq_getElem_cons (by simpa [keysL] using hlt), hQ]
      simp [keysL, hp]
     have hQL : Q.length = L := by rw [hQ]; simp [keysL]; omega
     have hqu := HRL.out.s.s.qu
     rw [hdrop] at hqu
     obtain ⟨g, off, hpv, -, hle, hcm, -, hown⟩ := hqu.tail
     obtain ⟨p', c', b', o', he, -, -, hpp, hcc, -⟩ := (hqu.sl (S := fun _ => False) fun _ _ h => h).pcs
     injection he with he1 he2 he3
     have hpp := hpp (by simp)
     rw [← he1, hpv] at hpp
     injection hpp with hpp
     injection hpp with hg1 ho1
     obtain ⟨y0, y1⟩ := hcc 0 (by simp)
     rw [← hg1, ← ho1] at y0 y1
     simp only [Nat.zero_mul, Nat.add_zero, List.getElem_cons_zero] at y0 y1
     subst hpv
     obtain ⟨pn, hpn⟩ : ∃ z, z = (some (if cv = 1 then ⟨g, off, none⟩ else ⟨g, off + 2, none⟩) : Option Addr) := ⟨_, rfl⟩
     have HPE := zH (show (if cv = 1 then some ⟨g, off, none⟩ else some ⟨g, off + 2, none⟩ : Option Addr) = pn by rw [hpn]; split <;> rfl)
     have hown : OwnQ w.heap.size 144 W (.slice pn L (cv - 1)) Q := by rw [hpn, ← hQL]; exact hown
     have hsl : ∀ W : World, (Instr.slice 173 (.slice (some ⟨g, off, none⟩) (L + 1) cv) (some (.int .i64 1)) none none).run Try.prog W = .ok (.slice pn L (cv - 1)) W := fun W => by
      rw [hpn]; exact slice_tail W _ (L + 1) cv (by omega) (by omega) g off rfl
     have hsl' : ∀ W : World, (Instr.slice 173 (.slice (some ⟨g, off, none⟩) (L + 1) cv) (some (.int .i64 ((1 : Nat) : Int))) none none).run Try.prog W = .ok (.slice pn L (cv - 1)) W := hsl
     have z0 := HRL.out.s.s.qb.frozen 0
     have ql := HRL.out.s.s.qb.lt
     have hgl : g < W.heap.size := World.block_lt_of_cell? W ⟨g, off, none⟩ y0
     have HOW := zH hown
     have HP := zH hp
     have HQ := zH hQ
     have HQL := zH hQL
     have HPN : Hid (∀ k, (Value.slice pn L (cv - 1)).ownBlock = some k → k = g) := zH fun k hk => by
      rw [hpn] at hk
      simp only [Value.ownBlock] at hk
      split at hk <;> (injection hk with hk; exact hk.symm)
     have hLn : (0 : Int) < ((L + 1 : Nat) : Int) := by omega
     have hLn2 : (0 : Int) ≤ (0 : Int) ∧ (0 : Int) < ((L + 1 : Nat) : Int) := by omega
     clear hown hpn hdrop hqu hle hcm he1 he2 he3 hg1 ho1 hcc hp hQ hQL hL
     gi_upto_region 15 with (fail)
     (try rw [HPE.out])
     clear hsl hsl' z0 ql hgl y0 y1 q0
     have hpop := HRL.out.pop HOW.out (fun k hk => by rw [HPN.out k hk]; rfl) (.cells #[.int .i64 p.spot, .int .i64 p.minute] 144)
     obtain ⟨W2, hW2⟩ : ∃ W2, W2 = (W.setCell ⟨gq, 0, none⟩ (.slice pn L (cv - 1))).alloc (.cells #[.int .i64 p.spot, .int .i64 p.minute] 144) := ⟨_, rfl⟩
     have hpb : Bx W2 W.heap.size [.int .i64 p.spot, .int .i64 p.minute] 144 := by rw [hW2]; exact Bx.new' _ [_, _] _ _ (by simp)
     rw [← hW2] at hpop
     rw [← hW2]
     have HPOP := zH hpop
     have b0 := hpb.cell 0
     have b1 := hpb.cell 1
     simp only [zD, zE] at b0 b1
     clear hpop hpb hW2
     have hcs := steps_any p B.fl W2
     unfold kvP at hcs
     gi_wp2_with fail
     refine (callsIn_FW hcs).mono ?_
     rintro e W3 ⟨rfl, hbf, hbp, hS3, hz3⟩
     clear b0 b1 hcs
     obtain ⟨gff, hgff⟩ : ∃ z, z = W2.heap.size := ⟨_, rfl⟩
     obtain ⟨gp, hgp⟩ : ∃ z, z = W2.heap.size + 1 := ⟨_, rfl⟩
     rw [← hgff] at hbf
     rw [← hgp] at hbp
     rw [← hgp, ← hgff]
     obtain ⟨h1, h2, h3, h4, h5⟩ := HPOP.out
     have HN := zH (show gq < gff ∧ r < gff ∧ gff < gp ∧ W3.heap.size = gp + 1 ∧ (∀ D ∈ Ds, D < gff) from ⟨by rw [hgff]; exact h1.s.qb.lt, by rw [hgff]; exact h1.s.mg.lt, by omega, by omega, fun D hD => by rw [hgff]; exact (Array.getElem?_eq_some_iff.1 (h5 D hD)).1⟩)
     have hown2 : ∀ k, (Value.slice pn L (cv - 1)).ownBlock = some k → k < gff := fun k hk => by rw [hgff]; exact (h1.s.qu.lt k hk).2
     have hFT := HF.out.step (h1.st.trans hS3)
     have hBl := HF.out.lt
     have hbase : base ≤ w.heap.size := Nat.le_trans (HF.out.own _ (.inl rfl)) (Nat.le_of_lt (hBl _ (.inl rfl)))
     have hwg : w.heap.size ≤ gff := by rw [hgff]; exact h1.st.size
     have hpin : InB (netOf h T) p := by rw [HP.out]; exact HRL.out.b.bd _ (List.getElem_mem hlt)
     have hseq := zH (steps1_stops 4 (by omega) (fun j => w.heap.size ≤ j ∧ j ≠ gp ∧ j ≠ gff) gp gff W3 ⟨hFT, hbp, hbf⟩ ⟨fun e => e.2.1 rfl, fun e => e.2.2 rfl, fun g hg e => by have := hBl g hg; omega, fun j hj => Nat.le_trans hbase hj.1⟩ HO.out hT hpin)
     have h00 : RI w g3 gs gq ga r go gf gp gff (netOf h T) f Ds p W3.heap.size [] W3 := by
      refine ⟨ord, _, ?_, ?_, h2.step hS3, h3.step hS3, h4, fun e => by have := hown2 _ e; omega, fun e => by have := hown2 _ e; omega, fun D hD => ?_, Nat.le_refl _⟩
      ·rw [← HQ.out]; exact h1.step hS3
      ·rw [HP.out]; exact HRL.out.b.visit hlt
      ·have := h5 D hD
       rw [hS3.block D (Array.getElem?_eq_some_iff.1 this).1 id]; exact this
     have H00 := zH h00
     have HPI := zH (And.intro hwg hbase)
     clear h1 h2 h3 h4 h5 hown2 hFT hBl hbase hwg hpin h00 hgff hgp hbf hbp hS3 hz3
     gi_wp2_with fail
     have hn := HN.out
     have HNG := zH HRL.out.ng
     have hpi := HPI.out
     refine wpIn_rangeFunc_ownH rfl (by omega) rfl trivial (Go.Proofs.enters_of Try.func123 (by kernel_rfl) rfl) hseq.out (fun h1 h2 => ⟨h1.1.trans h2.1, h1.2.trans h2.2⟩) (fun W l o o' hl hh hc hw => kpx_b (by omega) hl hh hc) (Below.refl _ _) (fun _ => rfl)
      (RI w g3 gs gq ga r go gf gp gff (netOf h T) f Ds p W3.heap.size) (RIx w g3 gs r go gf (netOf h T) f Ds) (RI.own (by omega) (by omega) (fun D hD => by have := hn.2.2.2.2 D hD; omega) (Nat.le_refl _)) (fun c => RIx.own c (by omega) (by omega) (fun D hD => by have := hn.2.2.2.2 D hD; omega)) H00.out
      (fun x a' W => ∃ y8 y9 y12 y15 y16 y17 y18 y19 y20 y21 y22 y23 y24 y25 y26 y27 y28 y29 y30 y31 y32 y33 y34 y35 y36 y37 y38 y39 y40 y41 y42 y43 y44 y45 y46 y47 y48 y49 y50 y51 y52 y53 y54 y55 y56 y57 y58 y59 g13 g14 v0, a' = { tmps := #[.pointer (some ⟨B.fl, 0, none⟩), undef, .map none, .pointer (some ⟨g3, 0, none⟩), .bool false, .pointer (some ⟨gs, 0, none⟩), .pointer (some ⟨gq, 0, none⟩), .pointer (some ⟨ga, 0, none⟩), y8, y9, .pointer (some ⟨go, 0, none⟩), .pointer (some ⟨gf, 0, none⟩), y12, .pointer (some ⟨g13, 0, none⟩), .pointer (some ⟨g14, 0, none⟩), y15, y16, y17, y18, y19, y20, y21, y22, y23, y24, y25, y26, y27, y28, y29, y30, y31, y32, y33, y34, y35, y36, y37, y38, y39, y40, y41, y42, y43, y44, y45, y46, y47, y48, y49, y50, y51, y52, y53, y54, y55, y56, y57, y58, y59], defers := [] } ∧ Bx W g13 [.int .i64 x.1.1.spot, .int .i64 x.1.1.minute] 144 ∧ Bx W g14 [.int .i64 x.1.2.frm.spot, .int .i64 x.1.2.frm.minute, .int .i64 x.1.2.way, .bool x.1.2.back] 167 ∧ Bx W gq [v0] 173 ∧ v0.ownBlock ≠ some g13)
      ?ax ?assign ?body ?done ?stop
     case ax =>
      rintro x a' _ A C row ⟨y8, y9, y12, y15, y16, y17, y18, y19, y20, y21, y22, y23, y24, y25, y26, y27, y28, y29, y30, y31, y32, y33, y34, y35, y36, y37, y38, y39, y40, y41, y42, y43, y44, y45, y46, y47, y48, y49, y50, y51, y52, y53, y54, y55, y56, y57, y58, y59, g13, g14, v0, h1, h2, h3, h4, h5⟩ hg hr
      exact ⟨y8, y9, y12, y15, y16, y17, y18, y19, y20, y21, y22, y23, y24, y25, y26, y27, y28, y29, y30, y31, y32, y33, y34, y35, y36, y37, y38, y39, y40, y41, y42, y43, y44, y45, y46, y47, y48, y49, y50, y51, y52, y53, y54, y55, y56, y57, y58, y59, g13, g14, v0, h1, own_bx hg hr h2, own_bx hg hr h3, own_bx hg hr h4, h5⟩
     case assign =>
      intro l pre x W9 K9 hI hK
      obtain ⟨⟨⟨qs, qm⟩, ⟨⟨ss, sm⟩, way, back⟩⟩, hx⟩ := x
      rw [FW_inRound]
      obtain ⟨ord9, v9, a1, a2⟩ := hI
      have hI : RI w g3 gs gq ga r go gf gp gff (netOf h T) f Ds p W3.heap.size pre W9 := ⟨ord9, v9, a1, a2⟩
      have HI := zH hI
      have HA1 := zH a1
      have HK := zH hK
      clear hI hK a1 a2 H00 hseq HPOP HRL
      dsimp only [kvP, kvS]
      gi_wp2
      have hS9 := (Step.alloc W9 (.cells #[.int .i64 qs, .int .i64 qm] 144)).trans (Step.alloc _ (.cells #[.int .i64 ss, .int .i64 sm, .int .i64 way, .bool back] 167))
      refine HK.out _ _ (keepsFrom_step hS9) ⟨.of hS9, KeepT.of_step hS9⟩ (HI.out.step hS9) ⟨_, _, _, _, _, _, _, _, _, _, _, _, _, _, _, _, _, _, _, _, _, _, _, _, _, _, _, _, _, _, _, _, _, _, _, _, _, _, _, _, _, _, _, _, _, _, _, _, W9.heap.size, W9.heap.size + 1, v9, rfl, (Bx.new W9 [_, _] _).alloc _, Bx.new' _ [_, _, _, _] _ _ (by simp), HA1.out.s.qb.step hS9, fun e => ?_⟩
      have := (HA1.out.s.qu.lt _ e).2
      omega
     case body =>
      rintro l pre ⟨⟨⟨qs, qm⟩, ⟨⟨ss, sm⟩, way, back⟩⟩, hx⟩ a' W9 hl hlr ⟨ord9, v9, a1, a2, a3, a4, a5, a6, a7, a8, a9⟩ ⟨y8, y9, y12, y15, y16, y17, y18, y19, y20, y21, y22, y23, y24, y25, y26, y27, y28, y29, y30, y31, y32, y33, y34, y35, y36, y37, y38, y39, y40, y41, y42, y43, y44, y45, y46, y47, y48, y49, y50, y51, y52, y53, y54, y55, y56, y57, y58, y59, g13, g14, v0, rfl, hb13, hb14, hbq, hvb⟩ hlen9
      rw [FW_inRound]
      have hv0 : v0 = v9 := by
       have h1 := a1.s.qb
       unfold Bx at h1 hbq
       rw [hbq] at h1
       injection h1 with h1
       injection h1 with h1 _ _
       have h1 := congrArg Array.toList h1
       simpa using h1
      subst hv0
      dsimp only at hb13 hb14
      have hle9 := found_len HO.out hT a2.toFound
      have hcall := add_any W9 a1.s ⟨qs, qm⟩ ⟨⟨ss, sm⟩, way, back⟩ (by simp [keysL]; omega) a1.st.size
      unfold kvP kvS at hcall
      have HC := zH hcall
      have A1 := zH a1
      have A2 := zH a2
      have A3 := zH (And.intro a3 a4)
      have A5 := zH (And.intro a5 (And.intro a6 a7))
      have A8 := zH (And.intro a8 a9)
      have HB13 := zH hb13
      have HVB := zH hvb
      have HX9 := zH hx
      have d0 := hb13.cell 0
      have d1 := hb13.cell 1
      have f0 := hb14.cell 0
      have f1 := hb14.cell 1
      have f2 := hb14.cell 2
      have f3 := hb14.cell 3
      have c0 := a1.ba.cell 0
      unfold addV at c0
      simp only [zD, zE] at c0 d0 d1 f0 f1 f2 f3
      clear hcall a1 a2 a3 a4 a5 a6 a7 a8 a9 hb13 hb14 hbq hvb H00 hseq HPOP HRL
      gi_wp2_with fail
      refine (callsIn_FW HC.out).mono ?_
      rintro e W10 ⟨rfl, v', hs', hX', hn'⟩
      rw [addQ_drop ord9 ⟨qs, qm⟩ ⟨⟨ss, sm⟩, way, back⟩ (show Ds.length + 1 ≤ ord9.length from A2.out.kl)] at hs'
      have hr' := A1.out.add hs' hX' hn'
      have hb' : Bx W10 g13 [.int .i64 qs, .int .i64 qm] 144 := srch_keeps A1.out.s hX' HB13.out (fun cs fr e => by injection e with _ e; exact absurd e (by decide)) (fun es c e => by cases e) HVB.out
      have ho' : Bx W10 go [.int .i64 0, .int .i64 0] 144 := srch_keeps A1.out.s hX' A3.out.1 (fun cs fr e => by injection e with _ e; exact absurd e (by decide)) (fun es c e => by cases e) A5.out.1
      have hf' : Bx W10 gf [.bool false] 4 := srch_keeps A1.out.s hX' A3.out.2 (fun cs fr e => by injection e with _ e; exact absurd e (by decide)) (fun es c e => by cases e) (A1.out.s.qu.ne_bx A3.out.2 (by decide))
      have hm' : MarksAt Ds W10 := fun D hD => srch_keeps A1.out.s hX' (A8.out.1 D hD) (fun cs fr e => by cases e) (fun es c e => by cases e) (own_cells A1.out.s.qu (A8.out.1 D hD) fun cs fr e => by cases e)
      have hkf : KeepsFrom W3.heap.size W9 W10 := srch_from A1.out.s hX' (by omega) (by omega)
      have HR' := zH hr'
      have HB' := zH (And.intro ho' (And.intro hf' hm'))
      have HKF := zH hkf
      have HXX := zH hX'
      have HNN := zH hn'
      have d0 := hb'.cell 0
      have d1 := hb'.cell 1
      simp only [zD, zE] at d0 d1
      clear hs' hX' hn' hr' hb' ho' hf' hm' hkf HC c0 f0 f1 f2 f3
      by_cases hz : qs = 0
      ·have hd : (qs == 0) = true := by simpa using hz
       have HV := zH (show FoundOut (netOf h T) f (addB ord9 (⟨qs, qm⟩, ⟨⟨ss, sm⟩, way, back⟩)) ⟨qs, qm⟩ from ⟨A2.out.found (netOf_ok HO.out T) HY.out.wok HX9.out, addB_mem ord9 (⟨qs, qm⟩, ⟨⟨ss, sm⟩, way, back⟩), hz⟩)
       have o0 := HB'.out.1.cell 0
       have o1 := HB'.out.1.cell 1
       have w0 := HB'.out.1.frozen 0
       have w1 := HB'.out.1.frozen 1
       have k0 := HB'.out.2.1.cell 0
       have w2 := HB'.out.2.1.frozen 0
       have ol := HB'.out.1.lt
       have kl := HB'.out.2.1.lt
       have nf : gf ≠ go := bx_ne HB'.out.2.1 HB'.out.1 (by decide)
       simp only [zD, zE] at o0 o1 k0
       clear hz
       gi_wp2_with fail
       gi_wp2
       obtain ⟨W11, hW11⟩ : ∃ z, z = (W10.setCell ⟨go, 0, none⟩ (.int .i64 qs)).setCell ⟨go, 1, none⟩ (.int .i64 qm) := ⟨_, rfl⟩
       obtain ⟨W12, hW12⟩ : ∃ z, z = W11.setCell ⟨gf, 0, none⟩ (.bool true) := ⟨_, rfl⟩
       have b2 := set2H HB'.out.1 (.int .i64 qs) (.int .i64 qm)
       rw [← hW11] at b2
       have hgf1 : Bx W11 gf [.bool false] 4 := HB'.out.2.1.keep b2.2.keeps nf
       have x2 : StepX (fun j => j = gf) W11 W12 := by rw [hW12]; exact (StepX.refl _ _).set1 0 _
       have hgf2 : Bx W12 gf [.bool true] 4 := by rw [hW12]; exact hgf1.setCell 0 _
       have hgo2 : Bx W12 go [.int .i64 qs, .int .i64 qm] 144 := b2.1.keep x2.keeps (Ne.symm nf)
       have hs10 := HR'.out.s.sb
       have h310 := HR'.out.b3
       have hm10 := HR'.out.s.mg
       have hgs2 : Bx W12 gs [.map (some r)] 141 := (hs10.keep b2.2.keeps (bx_ne hs10 HB'.out.1 (by decide))).keep x2.keeps (bx_ne hs10 HB'.out.2.1 (by decide))
       have h32 : Bx W12 g3 [.int .i64 0, .int .i64 0] 144 := (h310.keep b2.2.keeps (Ne.symm HNG.out)).keep x2.keeps (bx_ne h310 HB'.out.2.1 (by decide))
       have hm2 : MG kvP kvS W12 r (lookB (addB ord9 (⟨qs, qm⟩, ⟨⟨ss, sm⟩, way, back⟩))) := (hm10.keep b2.2.keeps (hm10.nob HB'.out.1).symm).keep x2.keeps (hm10.nob HB'.out.2.1).symm
       have hst2 : Step w W12 := StepX.fresh (StepX.fresh HR'.out.st b2.2 fun j hj => by subst hj; exact HGO.out.1) x2 fun j hj => by subst hj; exact HGO.out.2
       have hmk : MarksAt Ds W12 := fun D hD => by
        have h1 := HB'.out.2.2 D hD
        have e1 : D ≠ go := fun e => by
         have h2 := HB'.out.1
         unfold Bx at h2
         rw [← e, h1] at h2
         cases h2
        have e2 : D ≠ gf := fun e => by
         have h2 := HB'.out.2.1
         unfold Bx at h2
         rw [← e, h1] at h2
         cases h2
        have h3 := (b2.2.block D (Array.getElem?_eq_some_iff.1 h1).1 e1).trans h1
        exact (x2.block D (Array.getElem?_eq_some_iff.1 h3).1 e2).trans h3
       have hkf2 : KeepsFrom W3.heap.size W10 W12 := (keepsFrom_bx HB'.out.1 b2.2).trans (keepsFrom_bx hgf1 x2)
       (try rw [← hW11])
       (try rw [← hW12])
       exact ⟨HKF.out.trans hkf2, rfl, _, ⟨qs, qm⟩, hm2, hgs2, h32, hgo2, hgf2, hst2, HV.out, hmk⟩
      ·have hd : (qs == 0) = false := by simpa using hz
       have HV := zH (A2.out.add (netOf_ok HO.out T) HY.out.wok HX9.out hz)
       clear hz
       gi_wp2
       refine ⟨HKF.out, ⟨HXX.out.mono fun j hj hs => ?_, srch_keepT A1.out.s HXX.out⟩, _, v', HR'.out, by rw [List.map_append]; exact HV.out, HB'.out.1, HB'.out.2.1, fun e => ?_, fun e => ?_, fun e => ?_, HB'.out.2.2, Nat.le_trans A8.out.2 HKF.out.size⟩
       ·rcases hs with rfl | rfl | e
        ·exact ⟨A1.out.s.hq, by omega, by omega⟩
        ·exact ⟨A1.out.s.hr, by omega, by omega⟩
        ·exact ⟨(A1.out.s.qu.lt j e).1, fun e' => A5.out.2.1 (e' ▸ e), fun e' => A5.out.2.2 (e' ▸ e)⟩
       ·rcases HNN.out go e with h1 | h1
        ·exact A5.out.1 h1
        ·have := A3.out.1.lt; omega
       ·rcases HNN.out gp e with h1 | h1
        ·exact A5.out.2.1 h1
        ·have := A8.out.2; omega
       ·rcases HNN.out gff e with h1 | h1
        ·exact A5.out.2.2 h1
        ·have := A8.out.2; omega
     case done =>
      intro D ys W9 hDl hys hI hK9
      obtain ⟨ord9, v9, a1, a2, a3, a4, a5, a6, a7, a8, a9⟩ := hI
      rw [show ys.map (·.1) = stepsL (netOf h T) f p from hys] at a2
      have hbd := a2.done
      have hnD : D ∉ Ds := fun hD => by have := hn.2.2.2.2 D hD; omega
      have hnew : RL w g3 gs gq ga r go gf (netOf h T) f (D :: Ds) ord9 v9 W9 := ⟨a1, hbd, a3, a4, a5, HRL.out.ng, List.nodup_cons.2 ⟨hnD, HRL.out.nd⟩, fun d hd => (List.mem_cons.1 hd).elim (fun e => e ▸ hK9) (a8 d), fun d hd => (List.mem_cons.1 hd).elim (fun e => by rw [e]; omega) (HRL.out.ml d)⟩
      have HNEW := zH hnew
      have hlD : Ds.length ≤ 620 := by omega
      clear hseq H00 a1 a2 a3 a4 a5 a6 a7 a8 a9 hbd hys hK9 hnew
      gi_wp2
      refine ⟨⟨_, _, _, _, _, _, _, _, _, _, _, _, _, _, _, _, _, _, _, _, _, _, _, _, _, _, _, _, _, _, _, _, _, _, _, _, _, _, _, _, _, _, _, _, _, _, _, _, _, _, D :: Ds, ord9, v9, rfl, HNEW.out⟩, ?_⟩
      simp
      omega
     case stop =>
      intro D c pre W9 hDl hpre hI hK9
      obtain ⟨rfl, ord9, q9, a1, a2, a3, a4, a5, a6, a7, a8⟩ := hI
      have hnD : D ∉ Ds := fun hD => by have := hn.2.2.2.2 D hD; omega
      have hnew : RE w g3 gs r go gf (netOf h T) f (D :: Ds) ord9 q9 true W9 := ⟨a1, a2, a3, a4, a5, a6, fun _ => a7, (fun e => by cases e), HRL.out.ng, List.nodup_cons.2 ⟨hnD, HRL.out.nd⟩, fun d hd => (List.mem_cons.1 hd).elim (fun e => e ▸ hK9) (a8 d), fun d hd => (List.mem_cons.1 hd).elim (fun e => by rw [e]; omega) (HRL.out.ml d)⟩
      have HNEW := zH hnew
      clear hseq H00 a1 a2 a3 a4 a5 a6 a7 a8 hpre hK9 hnew
      refine wpIn_exit ?_
      gi_wp2
      exact ⟨trivial, _, _, _, _, _, _, _, _, _, _, _, _, _, _, _, _, _, _, _, _, _, _, _, _, _, _, _, _, _, _, _, _, _, _, _, _, _, _, _, _, _, _, _, _, _, _, _, _, _, _, D :: Ds, ord9, q9, true, rfl, HNEW.out⟩
end Go.Proofs.Ytfhmdpicoccnfaa
namespace Go.BT
theorem StepK.bounds {h : Hall} {T : Nat} {f : Fs} (O : HallOk h) {q : Pc} {s : Sp} (hk : StepK (netOf h T) f s.frm q s) (hp : InB (netOf h T) s.frm) (hq : InB (netOf h T) q) :
  (s.way = -1) ∨ (0 ≤ s.way ∧ s.way < (h.ways.length : Int) ∧ (s.back = true → 0 ≤ q.minute ∧ q.minute < (T : Int)) ∧ (s.back = false → 0 ≤ s.frm.minute ∧ s.frm.minute < (T : Int))) := by
 have ok := netOf_ok O T
 have hp4 : s.frm.minute ≤ (T : Int) := hp.2.2.2
 have hp3 := hp.2.2.1
 have hq4 : q.minute ≤ (T : Int) := hq.2.2.2
 have hq3 := hq.2.2.1
 generalize hf : s.frm = p at *
 cases hk with
 | wait _ => exact .inl rfl
 | unwait _ => exact .inl rfl
 | go i hi a c d =>
  have hd := ok.d0 i hi
  have hi : i < h.ways.length := hi
  have hc : p.minute + ((netOf h T).d i : Int) ≤ (T : Int) := c
  exact .inr ⟨by show (0 : Int) ≤ i; omega, by show (i : Int) < _; omega, fun e => (by cases e), fun _ => ⟨hp3, by omega⟩⟩
 | back i hi a c d =>
  have hd := ok.d0 i hi
  have hi : i < h.ways.length := hi
  exact .inr ⟨by show (0 : Int) ≤ i; omega, by show (i : Int) < _; omega, fun _ => ⟨hq3, by simp only at hq4 ⊢; omega⟩, fun e => (by cases e)⟩
end Go.BT
namespace Go.Proofs.Ytfhmdpicoccnfaa
set_option linter.unusedSimpArgs false
set_option linter.unusedVariables false
open Go.RowKit Go.BT
theorem room_any {base : Nat} {B : FB} {vp vw vl : Value} {sc : Nat} {h : Hall} {T : Nat} {f f0 : Fs} (w : World) (F : FT base w B vp vw vl sc h T f) (O : HallOk h) (N : Near 5000000000000 f) (q : Pc) (s : Sp)
  (hk : StepK (netOf h T) f0 s.frm q s) (hp : InB (netOf h T) s.frm) (hq : InB (netOf h T) q) :
  Calls Try.prog 103 #[.pointer (some ⟨B.fl, 0, none⟩), kvP q, kvS s] w fun e w' => e = .returned (.int .i64 (roomF (netOf h T) f q s)) ∧ Step w w' := by
 have hb := StepK.bounds O hk hp hq
 clear hk hp hq
 obtain ⟨⟨fs, fm⟩, way, back⟩ := s
 obtain ⟨qs, qm⟩ := q
 dsimp only at hb
 obtain ⟨W0, hW0⟩ : ∃ W, W = (w.alloc (.cells #[.int .i64 qs, .int .i64 qm] 144)).alloc (.cells #[.int .i64 fs, .int .i64 fm, .int .i64 way, .bool back] 167) := ⟨_, rfl⟩
 have hbq : Bx W0 w.heap.size [.int .i64 qs, .int .i64 qm] 144 := by subst hW0; exact (Bx.new w [_, _] _).alloc _
 have hbs : Bx W0 (w.heap.size + 1) [.int .i64 fs, .int .i64 fm, .int .i64 way, .bool back] 167 := by subst hW0; exact Bx.new' _ [_, _, _, _] _ _ (by simp)
 have hS : Step w W0 := by subst hW0; exact (Step.alloc _ _).trans (Step.alloc _ _)
 have FW := F.step hS
 obtain ⟨e0, e1, e2, e3, e4, e5⟩ := FW.cells
 have q0 := hbq.cell 0
 have q1 := hbq.cell 1
 have s0 := hbs.cell 0
 have s1 := hbs.cell 1
 have s2 := hbs.cell 2
 have s3 := hbs.cell 3
 simp only [zD, zE] at q0 q1 s0 s1 s2 s3
 have HF := zH FW
 have HO := zH O
 have HN := zH N
 have HS := zH hS
 have HW := zH hW0
 clear F FW hbq hbs hS hW0 O N
 unfold kvP kvS
 rcases hb with hb | ⟨b1, b2, b3, b4⟩
 ·have hd : decide (way < 0) = true := by simp; omega
  cases back with
  | true =>
   have HR := zH (show roomF (netOf h T) f ⟨qs, qm⟩ ⟨⟨fs, fm⟩, way, true⟩ = f.wt ⟨qs, qm⟩ by unfold roomF; rw [if_pos (by show way < 0; omega), if_pos rfl])
   obtain ⟨g, hm, hg⟩ := HF.out.ws
   have hlk := look_wait hm ⟨qs, qm⟩
   rw [hg] at hlk
   unfold kvP kvI at hlk
   have HM := zH hlk
   clear hm hlk hb
   go_enter Try.func103, Try.ntmps103
   go_upto_region 2 with (fail)
   rw [← HW.out]
   have hlk : ∀ W, Step W0 W → (Instr.lookup 146 (.map (some B.mp)) (.agg #[.int .i64 qs, .int .i64 qm]) false).run Try.prog W = .ok (.int .i64 (f.wt ⟨qs, qm⟩)) W := fun W hW => by
    obtain ⟨g, hm, hg⟩ := (HF.out.step hW).ws
    have hlk := look_wait hm ⟨qs, qm⟩
    rw [hg] at hlk
    exact hlk
   have hlk0 := hlk W0 (Step.refl _)
   have hlk1 := hlk W0.drew (Step.drew _)
   clear hlk
   go_region
   go_wp2
   go_ret
   exact ⟨by rw [HR.out]; rfl, by first | exact HS.out | exact HS.out.trans (Step.drew _) | exact HS.out.trans (Step.drewN _ _)⟩
  | false =>
   have HR := zH (show roomF (netOf h T) f ⟨qs, qm⟩ ⟨⟨fs, fm⟩, way, false⟩ = allH h by unfold roomF; rw [if_pos (by show way < 0; omega), if_neg (by simp), all_net])
   clear hb
   go_enter Try.func103, Try.ntmps103
   go_upto_region 4 with (fail)
   rw [← HW.out]
   go_wp2_with fail
   refine (hall_all _ h _ _ HF.out.av HO.out).mono ?_
   rintro e w1 ⟨rfl, hS1⟩
   rw [← HR.out]
   go_wp2
   go_ret
   exact ⟨rfl, HS.out.trans hS1⟩
 ·have hd : decide (way < 0) = false := by simp; omega
  obtain ⟨i, rfl⟩ : ∃ i : Nat, way = i := ⟨way.toNat, by omega⟩
  have hi : i < h.ways.length := by omega
  have hix : (0 : Int) ≤ (i : Int) ∧ (i : Int) < (h.ways.length : Int) := by omega
  cases back with
  | true =>
   obtain ⟨c1, c2⟩ := b3 rfl
   obtain ⟨t, rfl⟩ : ∃ t : Nat, qm = t := ⟨qm.toNat, by omega⟩
   have ht : t < T := by omega
   have htx : (0 : Int) ≤ (t : Int) ∧ (t : Int) < (T : Int) := by omega
   have HR := zH (show roomF (netOf h T) f ⟨qs, t⟩ ⟨⟨fs, fm⟩, i, true⟩ = f.pl i t by unfold roomF; rw [if_neg (by show ¬ (i : Int) < 0; omega), if_pos rfl]; simp)
   obtain ⟨c, hvl, p1, p2⟩ := HF.out.plan hi ht
   subst hvl
   clear b3 b4 b1 b2 c1 c2
   go_enter Try.func103, Try.ntmps103
   go_upto_region 6 with (fail)
   rw [← HW.out]
   go_quiet (fail)
   go_wp2
   go_ret
   exact ⟨by rw [HR.out]; rfl, by first | exact HS.out | exact HS.out.trans (Step.drew _) | exact HS.out.trans (Step.drewN _ _)⟩
  | false =>
   obtain ⟨c1, c2⟩ := b4 rfl
   obtain ⟨t, rfl⟩ : ∃ t : Nat, fm = t := ⟨fm.toNat, by omega⟩
   have ht : t < T := by omega
   have htx : (0 : Int) ≤ (t : Int) ∧ (t : Int) < (T : Int) := by omega
   obtain ⟨pw, cw, bw, ow, hvw, _, _, hpw, hcw, _⟩ := HF.out.hw.wys
   obtain ⟨w1, w2, w3, w4⟩ := hcw i hi
   obtain rfl := hpw (by omega)
   subst hvw
   have hcb := (HO.out.way i hi).2.2.2.1
   have hpb := HN.out.1 i t
   have HR := zH (show roomF (netOf h T) f ⟨qs, qm⟩ ⟨⟨fs, t⟩, i, false⟩ = h.ways[i].cap - f.pl i t by
    unfold roomF; rw [if_neg (by show ¬ (i : Int) < 0; omega), if_neg (by simp)]
    show (wyAt h (i : Int).toNat).cap - f.pl (i : Int).toNat (t : Int).toNat = _
    simp [wyAt_at hi])
   have hwr : IntKind.i64.wrap (h.ways[i].cap - f.pl i t) = h.ways[i].cap - f.pl i t := by rw [IntKind.wrap_i64]; omega
   obtain ⟨c, hvl, p1, p2⟩ := HF.out.plan hi ht
   subst hvl
   clear b3 b4 b1 b2 c1 c2 hcw hpw w1 w2 w4 hcb hpb
   go_enter Try.func103, Try.ntmps103
   go_upto_region 7 with (fail)
   rw [← HW.out]
   go_quiet (fail)
   go_wp2
   go_ret
   exact ⟨by first | (rw [HR.out, hwr]; rfl) | (rw [HR.out]; rfl), by first | exact HS.out | exact HS.out.trans (Step.drew _) | exact HS.out.trans (Step.drewN _ _)⟩
theorem entry_wait {w : World} {r : Nat} {g : Pc → Option Int} (h : MG kvP kvI w r g) (p : Pc) :
  ∃ (st : Nat) (w1 : World), (Instr.mapEntry 146 (.map (some r)) (kvP p)).run Try.prog w = .ok (.tuple #[kvI ((g p).getD 0), .int .i64 st]) w1 ∧ MG kvP kvI w1 r (fun y => if y = p then some ((g p).getD 0) else g y) ∧ Wrote r w w1 ∧
   ∀ (w2 : World) (v : Int), w2.heap[r]? = w1.heap[r]? → ∃ w3, (Instr.entryStore 146 (.map (some r)) (.int .i64 st) (kvI v)).run Try.prog w2 = .ok () w3 ∧ MG kvP kvI w3 r (fun y => if y = p then some v else g y) ∧ Wrote r w2 w3 :=
 run_entry_mg underMI keyG_place p h 0 zero_int
theorem move_any {base : Nat} {B : FB} {vp vw vl : Value} {sc : Nat} {h : Hall} {T : Nat} {f f0 : Fs} (w : World) (F : FT base w B vp vw vl sc h T f) (O : HallOk h) (N : Near 5000000000000 f) (q : Pc) (s : Sp)
  (hk : StepK (netOf h T) f0 s.frm q s) (hp : InB (netOf h T) s.frm) (hq : InB (netOf h T) q) (n : Int) (hn : 0 ≤ n ∧ n ≤ 1000000000) :
  Calls Try.prog 104 #[.pointer (some ⟨B.fl, 0, none⟩), kvP q, kvS s, .int .i64 n] w fun e w' => e = .returned (.tuple #[]) ∧ FT base w' B vp vw vl sc h T (mvF f q s n) ∧ StepX (B.In h.ways.length) w w' := by
 have hb := StepK.bounds O hk hp hq
 clear hk hp hq
 obtain ⟨⟨fs, fm⟩, way, back⟩ := s
 obtain ⟨qs, qm⟩ := q
 dsimp only at hb
 obtain ⟨W0, hW0⟩ : ∃ W, W = (w.alloc (.cells #[.int .i64 qs, .int .i64 qm] 144)).alloc (.cells #[.int .i64 fs, .int .i64 fm, .int .i64 way, .bool back] 167) := ⟨_, rfl⟩
 have hbq : Bx W0 w.heap.size [.int .i64 qs, .int .i64 qm] 144 := by subst hW0; exact (Bx.new w [_, _] _).alloc _
 have hbs : Bx W0 (w.heap.size + 1) [.int .i64 fs, .int .i64 fm, .int .i64 way, .bool back] 167 := by subst hW0; exact Bx.new' _ [_, _, _, _] _ _ (by simp)
 have hS : Step w W0 := by subst hW0; exact (Step.alloc _ _).trans (Step.alloc _ _)
 have FW := F.step hS
 obtain ⟨e0, e1, e2, e3, e4, e5⟩ := FW.cells
 have q0 := hbq.cell 0
 have q1 := hbq.cell 1
 have s0 := hbs.cell 0
 have s1 := hbs.cell 1
 have s2 := hbs.cell 2
 have s3 := hbs.cell 3
 simp only [zD, zE] at q0 q1 s0 s1 s2 s3
 have HF := zH FW
 have HO := zH O
 have HN := zH N
 have HS := zH hS
 have HW := zH hW0
 clear F FW hbq hbs hS hW0 O N
 unfold kvP kvS
 rcases hb with hb | ⟨b1, b2, b3, b4⟩
 ·have hd : decide (way < 0) = true := by simp; omega
  cases back with
  | true =>
   have HMV := zH (show mvF f ⟨qs, qm⟩ ⟨⟨fs, fm⟩, way, true⟩ n = { f with wt := updW f.wt ⟨qs, qm⟩ (f.wt ⟨qs, qm⟩ - n) } by unfold mvF; rw [if_pos (by show way < 0; omega), if_pos rfl])
   have hwb := HN.out.2 ⟨qs, qm⟩
   have hwr : IntKind.i64.wrap (f.wt ⟨qs, qm⟩ - n) = f.wt ⟨qs, qm⟩ - n := by rw [IntKind.wrap_i64]; omega
   clear hb hwb
   obtain ⟨g, hm, hg⟩ := (HF.out.step (Step.drew W0)).ws
   obtain ⟨st, w1, hme, hm1, hw1, hes⟩ := entry_wait hm ⟨qs, qm⟩
   have hlk := look_wait hm ⟨qs, qm⟩
   have hlk1 := look_wait hm1 ⟨qs, qm⟩
   rw [if_pos rfl, Option.getD_some] at hlk1
   obtain ⟨w3, hse, hm3, hw3⟩ := hes w1 (f.wt ⟨qs, qm⟩ - n) rfl
   rw [hg] at hlk hlk1 hme
   unfold kvP kvI at hlk hlk1 hme
   unfold kvI at hse
   have HM3 := zH hm3
   have HW1 := zH hw1
   have HW3 := zH hw3
   have HG := zH hg
   clear hm hm1 hes hm3 hw1 hw3 hg
   go_enter Try.func104, Try.ntmps104
   go_upto_region 3 with (fail)
   rw [← HW.out]
   go_region
   go_wp2
   go_end0
   have hS0 := HS.out.trans (Step.drew W0)
   have hwr : Wrote B.mp W0.drew w3 := HW1.out.trans HW3.out
   refine ⟨rfl, ?_, (StepX.of hS0).trans (Wrote.stepX hwr (.inr (.inr (.inr (.inl rfl)))))⟩
   rw [HMV.out]
   exact (HF.out.step (Step.drew W0)).setWait hwr HG.out HM3.out
  | false =>
   have HMV := zH (show mvF f ⟨qs, qm⟩ ⟨⟨fs, fm⟩, way, false⟩ n = { f with wt := updW f.wt ⟨fs, fm⟩ (f.wt ⟨fs, fm⟩ + n) } by unfold mvF; rw [if_pos (by show way < 0; omega), if_neg (by simp)])
   have hwb := HN.out.2 ⟨fs, fm⟩
   have hwr : IntKind.i64.wrap (f.wt ⟨fs, fm⟩ + n) = f.wt ⟨fs, fm⟩ + n := by rw [IntKind.wrap_i64]; omega
   clear hb hwb
   obtain ⟨g, hm, hg⟩ := (HF.out.step (Step.drew W0)).ws
   obtain ⟨st, w1, hme, hm1, hw1, hes⟩ := entry_wait hm ⟨fs, fm⟩
   have hlk := look_wait hm ⟨fs, fm⟩
   have hlk1 := look_wait hm1 ⟨fs, fm⟩
   rw [if_pos rfl, Option.getD_some] at hlk1
   obtain ⟨w3, hse, hm3, hw3⟩ := hes w1 (f.wt ⟨fs, fm⟩ + n) rfl
   rw [hg] at hlk hlk1 hme
   unfold kvP kvI at hlk hlk1 hme
   unfold kvI at hse
   have HM3 := zH hm3
   have HW1 := zH hw1
   have HW3 := zH hw3
   have HG := zH hg
   clear hm hm1 hes hm3 hw1 hw3 hg
   go_enter Try.func104, Try.ntmps104
   go_upto_region 5 with (fail)
   rw [← HW.out]
   go_region
   go_wp2
   go_end0
   have hS0 := HS.out.trans (Step.drew W0)
   have hwr : Wrote B.mp W0.drew w3 := HW1.out.trans HW3.out
   refine ⟨rfl, ?_, (StepX.of hS0).trans (Wrote.stepX hwr (.inr (.inr (.inr (.inl rfl)))))⟩
   rw [HMV.out]
   exact (HF.out.step (Step.drew W0)).setWait hwr HG.out HM3.out
 ·have hd : decide (way < 0) = false := by simp; omega
  obtain ⟨i, rfl⟩ : ∃ i : Nat, way = i := ⟨way.toNat, by omega⟩
  have hi : i < h.ways.length := by omega
  have hix : (0 : Int) ≤ (i : Int) ∧ (i : Int) < (h.ways.length : Int) := by omega
  cases back with
  | true =>
   obtain ⟨c1, c2⟩ := b3 rfl
   obtain ⟨t, rfl⟩ : ∃ t : Nat, qm = t := ⟨qm.toNat, by omega⟩
   have ht : t < T := by omega
   have htx : (0 : Int) ≤ (t : Int) ∧ (t : Int) < (T : Int) := by omega
   have HMV := zH (show mvF f ⟨qs, t⟩ ⟨⟨fs, fm⟩, i, true⟩ n = { f with pl := updP f.pl i t (f.pl i t - n) } by unfold mvF; rw [if_neg (by show ¬ (i : Int) < 0; omega), if_pos rfl]; simp)
   obtain ⟨c, hvl, p1, p2⟩ := HF.out.plan hi ht
   have p3 := HF.out.row_frozen hi t
   have p4 := (HF.out.rw i hi).lt
   have hpb := HN.out.1 i t
   have hwr : IntKind.i64.wrap (f.pl i t - n) = f.pl i t - n := by rw [IntKind.wrap_i64]; omega
   subst hvl
   clear b3 b4 b1 b2 c1 c2 hpb
   go_enter Try.func104, Try.ntmps104
   go_upto_region 7 with (fail)
   rw [← HW.out]
   go_region
   go_wp2
   go_end0
   have hS0 := HS.out.trans (Step.drew W0)
   refine ⟨rfl, ?_, ((StepX.of hS0).setCell ⟨B.rb i, t, none⟩ _ (.inr (.inr (.inr (.inr ⟨i, hi, rfl⟩)))))⟩
   rw [HMV.out]
   exact (HF.out.step (Step.drew W0)).setPlan (by decide) (by decide) hi _
  | false =>
   obtain ⟨c1, c2⟩ := b4 rfl
   obtain ⟨t, rfl⟩ : ∃ t : Nat, fm = t := ⟨fm.toNat, by omega⟩
   have ht : t < T := by omega
   have htx : (0 : Int) ≤ (t : Int) ∧ (t : Int) < (T : Int) := by omega
   have HMV := zH (show mvF f ⟨qs, qm⟩ ⟨⟨fs, t⟩, i, false⟩ n = { f with pl := updP f.pl i t (f.pl i t + n) } by unfold mvF; rw [if_neg (by show ¬ (i : Int) < 0; omega), if_neg (by simp)]; simp)
   obtain ⟨c, hvl, p1, p2⟩ := HF.out.plan hi ht
   have p3 := HF.out.row_frozen hi t
   have p4 := (HF.out.rw i hi).lt
   have hpb := HN.out.1 i t
   have hwr : IntKind.i64.wrap (f.pl i t + n) = f.pl i t + n := by rw [IntKind.wrap_i64]; omega
   subst hvl
   clear b3 b4 b1 b2 c1 c2 hpb
   go_enter Try.func104, Try.ntmps104
   go_upto_region 1 with (fail)
   rw [← HW.out]
   go_region
   go_wp2
   go_end0
   have hS0 := HS.out.trans (Step.drew W0)
   refine ⟨rfl, ?_, ((StepX.of hS0).setCell ⟨B.rb i, t, none⟩ _ (.inr (.inr (.inr (.inr ⟨i, hi, rfl⟩)))))⟩
   rw [HMV.out]
   exact (HF.out.step (Step.drew W0)).setPlan (by decide) (by decide) hi _
end Go.Proofs.Ytfhmdpicoccnfaa
namespace Go.BT.Mk
open Go.BT
open Go.RowKit
inductive Kd where
 | silent | chain | alloc (T : TypeId) (z : Value) | make (T : TypeId) (n : Nat) (xs : Array Value) | pure
def madeV (z : Value) (g : Nat) : Value := match z with
 | .tuple xs => .slice (some ⟨g, 0, none⟩) xs.size xs.size
 | _ => .pointer (some ⟨g, 0, none⟩)
def madeC (z : Value) : Array Value := match z with
 | .tuple xs => xs
 | z => z.cells
def isTup (z : Value) : Bool := match z with
 | .tuple _ => true
 | _ => false
def Makes (P : Program) (ops : Array Oper) (i : Nat) (T : TypeId) (z : Value) : Prop := match z with
 | .tuple xs => ∃ o, ops[i]? = some o ∧ ∀ (a : Act) (w : World), (execOp a.eval o).run P w = .ok (.value (.slice (some ⟨w.heap.size, 0, none⟩) xs.size xs.size)) (w.alloc (.cells xs T))
 | z => (P.info? T).bind (·.zero) = some z
def MakesAt (P : Program) (ops : Array Oper) (i : Nat) (T : TypeId) (n : Nat) (xs : Array Value) (a : Act) : Prop :=
 ∃ o, ops[i]? = some o ∧ Region.wanted o (yielded ops a.tmps) = true ∧ ∀ w : World, (execOp a.eval o).run P w = .ok (.value (.slice (some ⟨w.heap.size, 0, none⟩) n n)) (w.alloc (.cells xs T))
def QF : Exit → Act → World → Prop := fun _ _ _ => False
abbrev Cont := (Nat → Prop) → Act → World → Prop
def ContMono (X : Nat → Prop) (K : Cont) : Prop := ∀ (N N' : Nat → Prop) a w w', (∀ g, N' g → N g) → StepX X w w' → K N a w → K N' a w'
section
variable (P : Program) (ops : Array Oper) (X : Nat → Prop) (base : Nat) (kd : Nat → Kd)
def go (i : Nat) (K : Cont) : Cont := fun N a w =>
 match kd i with
 | .silent => ∃ o v, ops[i]? = some o ∧ YieldsIf P ops (StepX X w) o v a ∧ K N (a.put o.dst v) w
 | .chain => ∀ W, StepX X w W → wpOp P ops QF i (fun a' w' => StepX X W w' ∧ K (fun g => N g ∧ (g < W.heap.size ∨ w'.heap.size ≤ g)) a' w') a W
 | .alloc T z => ∀ W g, StepX X w W → W.heap[g]? = some (.cells (madeC z) T (0, 0)) → base ≤ g → N g → K (fun x => N x ∧ x ≠ g) (a.put ((ops[i]?).bind (·.dst)) (madeV z g)) W
 | .make T n xs => MakesAt P ops i T n xs a ∧ ∀ W g, StepX X w W → W.heap[g]? = some (.cells xs T (0, 0)) → base ≤ g → N g → K (fun x => N x ∧ x ≠ g) (a.put ((ops[i]?).bind (·.dst)) (.slice (some ⟨g, 0, none⟩) n n)) W
 | .pure => ∃ o v, ops[i]? = some o ∧ YieldsIf P ops (fun _ => True) o v a ∧ K N (a.put o.dst v) w
def run (l : List Nat) (K : Cont) : Cont := l.foldr (fun i K => go P ops X base kd i K) K
variable {P ops X base kd}
theorem YieldsIf.step {o : Oper} {v : Value} {a : Act} {w w' : World} (h : YieldsIf P ops (StepX X w) o v a) (hs : StepX X w w') : YieldsIf P ops (StepX X w') o v a :=
 h.imp (fun ⟨hw, hv⟩ => ⟨hw, fun W hW => hv W (hs.trans hW)⟩) id
theorem go_cong {i : Nat} {K K' : Cont} (h : ∀ N a w, K N a w → K' N a w) {N : Nat → Prop} {a : Act} {w : World} (hg : go P ops X base kd i K N a w) : go P ops X base kd i K' N a w := by
 unfold go at *
 split at hg
 ·obtain ⟨o, v, ho, hy, hk⟩ := hg; exact ⟨o, v, ho, hy, h _ _ _ hk⟩
 ·exact fun W hW => wpOp_mono (fun a' w' ⟨hs, hk⟩ => ⟨hs, h _ _ _ hk⟩) (hg W hW)
 ·exact fun W g h1 h2 h3 h4 => h _ _ _ (hg W g h1 h2 h3 h4)
 ·exact ⟨hg.1, fun W g h1 h2 h3 h4 => h _ _ _ (hg.2 W g h1 h2 h3 h4)⟩
 ·obtain ⟨o, v, ho, hy, hk⟩ := hg; exact ⟨o, v, ho, hy, h _ _ _ hk⟩
theorem go_mono {i : Nat} {K : Cont} (hK : ContMono X K) : ContMono X (go P ops X base kd i K) := by
 intro N N' a w w' hN hs hg
 unfold go at *
 split at hg
 ·obtain ⟨o, v, ho, hy, hk⟩ := hg; exact ⟨o, v, ho, YieldsIf.step hy hs, hK _ _ _ _ _ hN hs hk⟩
 ·exact fun W hW => wpOp_mono (fun a' w' ⟨hs', hk⟩ => ⟨hs', hK _ _ _ _ _ (fun g ⟨h1, h2⟩ => ⟨hN g h1, h2⟩) (StepX.refl _ _) hk⟩) (hg W (hs.trans hW))
 ·exact fun W g h1 h2 h3 h4 => hK _ _ _ _ _ (fun x ⟨h5, h6⟩ => ⟨hN x h5, h6⟩) (StepX.refl _ _) (hg W g (hs.trans h1) h2 h3 (hN g h4))
 ·exact ⟨hg.1, fun W g h1 h2 h3 h4 => hK _ _ _ _ _ (fun x ⟨h5, h6⟩ => ⟨hN x h5, h6⟩) (StepX.refl _ _) (hg.2 W g (hs.trans h1) h2 h3 (hN g h4))⟩
 ·obtain ⟨o, v, ho, hy, hk⟩ := hg; exact ⟨o, v, ho, hy, hK _ _ _ _ _ hN hs hk⟩
theorem run_mono {K : Cont} (hK : ContMono X K) : ∀ l, ContMono X (run P ops X base kd l K)
 | [] => hK
 | _ :: l => go_mono (run_mono hK l)
theorem wpOp_under {j : Nat} {oj : Oper} {dst : Option Tmp} {v : Value} (hj : ops[j]? = some oj) (h1 : ∀ d, dst = some d → d ∉ oj.looksAt ops) (h2 : ∀ d, dst = some d → oj.dst ≠ some d)
  (hsj : ∀ cs b, oj.op ≠ .select cs b) {K : Act → World → Prop} {a : Act} {w : World} (h : wpOp P ops QF j K a w) :
  wpOp P ops QF j (fun a' w' => ∃ a0, a' = a0.put dst v ∧ K a0 w') (a.put dst v) w := by
 unfold wpOp at *
 simp only [hj] at *
 rw [wanted_put oj a dst v h1]
 split
 ·rename_i hw
  simp only [hw, if_true] at h
  rcases h with h | ⟨_, a0, w0, hF⟩
  case inr => exact hF.elim
  refine .inl ?_
  unfold Oper.wp at *
  rw [execOp_put oj hsj a dst v h1]
  generalize (execOp a.eval oj).run P w = r at *
  cases r with
  | ok n w' =>
   cases n <;> simp only [Oper.upon] at h ⊢
   case value u => exact ⟨_, (Act.put_comm a v u h2), h⟩
   case skip => exact ⟨_, (Act.put_comm a v undef h2), h⟩
   case defer d => exact ⟨_, (by rw [← Act.put_comm _ v undef h2]; cases dst <;> rfl), h⟩
   case enter f args =>
    refine Calls.mono h fun e w'' he => ?_
    cases e with
    | returned u => exact ⟨_, (Act.put_comm a v u h2), he⟩
    | panicked c => exact he.elim
    | outgrown => exact he
   case row row args => exact Rows.mono h fun u w'' he => ⟨_, (Act.put_comm a v u h2), he⟩
  | halt x w' =>
   cases x <;> simp only [Oper.upon] at h ⊢
   case panic u => exact h.elim
 ·rename_i hw
  simp only [hw] at h
  exact ⟨_, (Act.put_comm a v undef h2), h⟩
theorem calls_ex {f : FuncId} {args : Array Value} {w : World} {R : Ending → World → Prop} (h : Calls P f args w R) : ∃ e w', R e w' := by
 obtain ⟨e, w', _, hR, _⟩ := h []
 exact ⟨e, w', hR⟩
theorem wpOp_pure {i : Nat} {oi : Oper} (hi : ops[i]? = some oi) {Φ : Act → Prop} (hΦ : ∀ a v, Φ (a.put oi.dst v) → Φ a) (hD : ∀ (a : Act) (d : Deferred), Φ { a with defers := d :: a.defers } → Φ a) {K : Act → World → Prop} {a : Act} {w : World} (h : wpOp P ops QF i K a w) (hK : ∀ a' w', K a' w' → Φ a') : Φ a := by
 unfold wpOp at h
 simp only [hi] at h
 split at h
 ·rcases h with h | ⟨_, a0, w0, hF⟩
  case inr => exact hF.elim
  unfold Oper.wp at h
  generalize (execOp a.eval oi).run P w = r at h
  cases r with
  | ok n w' =>
   cases n <;> simp only [Oper.upon] at h
   case value u => exact hΦ a u (hK _ _ h)
   case skip => exact hΦ a undef (hK _ _ h)
   case defer d => exact hD a d (hΦ _ undef (hK _ _ h))
   case enter f args =>
    obtain ⟨e, w'', he⟩ := calls_ex h
    cases e with
    | returned u => exact hΦ a u (hK _ _ he)
    | panicked c => exact he.elim
    | outgrown => obtain ⟨_, _, hF⟩ := he; exact hF.elim
   case row row args =>
    obtain ⟨u, w'', he, _⟩ := h (Frame.enter P 0 #[] .normal) []
    exact hΦ a u (hK _ _ he)
   all_goals exact h.elim
  | halt x w' => cases x <;> simp only [Oper.upon] at h <;> exact h.elim
 ·exact hΦ a undef (hK _ _ h)
theorem wpOp_keep {i : Nat} {oi : Oper} (hi : ops[i]? = some oi) {Φ : Act → Prop} (hΦ : ∀ a v, Φ a → Φ (a.put oi.dst v)) (hD : ∀ (a : Act) (d : Deferred), Φ a → Φ { a with defers := d :: a.defers }) {K : Act → World → Prop} {a : Act} {w : World} (h : wpOp P ops QF i K a w) (ha : Φ a) : wpOp P ops QF i (fun a' w' => K a' w' ∧ Φ a') a w := by
 unfold wpOp at *
 simp only [hi] at *
 split
 ·rename_i hw
  simp only [hw, if_true] at h
  rcases h with h | ⟨_, a0, w0, hF⟩
  case inr => exact hF.elim
  refine .inl ?_
  unfold Oper.wp at *
  generalize (execOp a.eval oi).run P w = r at *
  cases r with
  | ok n w' =>
   cases n <;> simp only [Oper.upon] at h ⊢
   case value u => exact ⟨h, hΦ _ _ ha⟩
   case skip => exact ⟨h, hΦ _ _ ha⟩
   case defer d => exact ⟨h, hΦ _ _ (hD _ _ ha)⟩
   case enter f args =>
    refine Calls.mono h fun e w'' he => ?_
    cases e with
    | returned u => exact ⟨he, hΦ _ _ ha⟩
    | panicked c => exact he.elim
    | outgrown => exact he
   case row row args => exact Rows.mono h fun u w'' he => ⟨he, hΦ _ _ ha⟩
  | halt x w' =>
   cases x <;> simp only [Oper.upon] at h ⊢
   case panic u => exact h.elim
 ·rename_i hw
  simp only [hw] at h
  exact ⟨h, hΦ _ _ ha⟩
theorem YieldsIf.same {o : Oper} {v v' : Value} {a : Act} (h : YieldsIf P ops (fun _ => True) o v a) (h' : YieldsIf P ops (fun _ => True) o v' a) (w : World) : v = v' := by
 rcases h with ⟨h1, h2⟩ | ⟨h1, h2⟩ <;> rcases h' with ⟨k1, k2⟩ | ⟨k1, k2⟩
 ·have e := (h2 w trivial).symm.trans (k2 w trivial)
  injection e with e
  injection e
 ·rw [h1] at k1; cases k1
 ·rw [h1] at k1; cases k1
 ·rw [h2, k2]
def swaps : Kd → Kd → Bool
 | .silent, _ => true
 | .pure, _ => true
 | .chain, .pure => true
 | .chain, .alloc _ _ => true
 | .alloc _ _, .alloc _ _ => true
 | .chain, .make _ _ _ => true
 | .make _ _ _, .alloc _ _ => true
 | _, _ => false
theorem exch {i j : Nat} {oi oj : Oper} (hi : ops[i]? = some oi) (hj : ops[j]? = some oj) (hap : oi.apart ops oj = true)
  (hsi : ∀ cs b, oi.op ≠ .select cs b) (hsj : ∀ cs b, oj.op ≠ .select cs b) (hsw : swaps (kd i) (kd j) = true) (hX : ∀ j, X j → j < base) {K : Cont} (hK : ContMono X K) {N : Nat → Prop} {a : Act} {w : World}
  (h : go P ops X base kd i (go P ops X base kd j K) N a w) : go P ops X base kd j (go P ops X base kd i K) N a w := by
 obtain ⟨h1, h2, h3⟩ := Oper.apart_spec hap
 have keepI : ∀ {S : World → Prop} {v : Value} {a : Act} (u : Value), YieldsIf P ops S oi v a → YieldsIf P ops S oi v (a.put oj.dst u) := fun {S v a} u hy =>
  hy.of_same (execOp_put oi hsi a oj.dst u h3) (wanted_put oi a oj.dst u h3)
 have backJ : ∀ {S : World → Prop} {v u : Value} {a : Act}, YieldsIf P ops S oj v (a.put oi.dst u) → YieldsIf P ops S oj v a := fun {S v u a} hy =>
  hy.of_same (execOp_put oj hsj a oi.dst u h1).symm (wanted_put oj a oi.dst u h1).symm
 have hdi : (ops[i]?).bind (·.dst) = oi.dst := by rw [hi]; rfl
 have hdj : (ops[j]?).bind (·.dst) = oj.dst := by rw [hj]; rfl
 have hsome : ∀ {w w' : World} {g : Nat} {o : Obj}, StepX X w w' → base ≤ g → w.heap[g]? = some o → w'.heap[g]? = some o := fun {w w' g o} hs hb hg => by
  rw [hs.block g (Array.getElem?_eq_some_iff.1 hg).1 (fun hx => by have := hX g hx; omega)]; exact hg
 have makesBack : ∀ {T : TypeId} {n : Nat} {xs : Array Value} {a : Act} {v : Value}, MakesAt P ops j T n xs (a.put oi.dst v) → MakesAt P ops j T n xs a := fun {T n xs a v} ⟨o, ho, hg, hr⟩ => by
  obtain rfl : oj = o := by rw [hj] at ho; exact Option.some.inj ho
  exact ⟨oj, hj, by rw [← wanted_put oj a oi.dst v h1]; exact hg, fun w => by rw [← execOp_put oj hsj a oi.dst v h1]; exact hr w⟩
 have makesKeep : ∀ {T : TypeId} {n : Nat} {xs : Array Value} {a : Act} {v : Value}, MakesAt P ops i T n xs a → MakesAt P ops i T n xs (a.put oj.dst v) := fun {T n xs a v} ⟨o, ho, hg, hr⟩ => by
  obtain rfl : oi = o := by rw [hi] at ho; exact Option.some.inj ho
  exact ⟨oi, hi, by rw [wanted_put oi a oj.dst v h3]; exact hg, fun w => by rw [execOp_put oi hsi a oj.dst v h3]; exact hr w⟩
 cases hki : kd i with
 | make T n xs =>
  cases hkj : kd j with
  | silent => simp [hki, hkj, swaps] at hsw
  | chain => simp [hki, hkj, swaps] at hsw
  | make T' n' xs' => simp [hki, hkj, swaps] at hsw
  | pure => simp [hki, hkj, swaps] at hsw
  | alloc T' z' =>
   simp only [go, hki, hkj] at h ⊢
   intro W' g' hs' hb' hg' hN'
   refine ⟨by rw [hdj]; exact makesKeep h.1, ?_⟩
   intro W g hs hb hg ⟨hN, hne⟩
   have h := h.2
   rw [hdi, hdj] at *
   rw [← Act.put_comm a _ _ h2]
   exact hK _ _ _ _ _ (fun x ⟨⟨q1, q2⟩, q3⟩ => ⟨⟨q1, q3⟩, q2⟩) (StepX.refl _ _) (h W g (hs'.trans hs) hb hg hN W g' (StepX.refl _ _) (hsome hs hg' hb') hg' ⟨hN', fun e => hne e.symm⟩)
 | silent =>
  cases hkj : kd j with
  | make T n xs =>
   simp only [go, hki, hkj] at h ⊢
   obtain ⟨o, v, ho, hy, hm, hk⟩ := h
   obtain rfl : oi = o := by rw [hi] at ho; exact Option.some.inj ho
   refine ⟨makesBack hm, fun W g hs hb hg hN => ⟨_, v, hi, ?_, ?_⟩⟩
   ·rw [hdj]; exact keepI _ (YieldsIf.step hy hs)
   ·rw [hdj, ← Act.put_comm a v _ h2, ← hdj]
    exact hk W g hs hb hg hN
  | silent =>
   simp only [go, hki, hkj] at h ⊢
   obtain ⟨o, v, ho, hy, o', v', ho', hy', hk⟩ := h
   obtain rfl : oi = o := by rw [hi] at ho; exact Option.some.inj ho
   obtain rfl : oj = o' := by rw [hj] at ho'; exact Option.some.inj ho'
   exact ⟨_, v', hj, backJ hy', _, v, hi, keepI _ hy, by rw [← Act.put_comm a v v' h2]; exact hk⟩
  | chain =>
   simp only [go, hki, hkj] at h ⊢
   obtain ⟨o, v, ho, hy, hk⟩ := h
   obtain rfl : oi = o := by rw [hi] at ho; exact Option.some.inj ho
   intro W hW
   refine wpOp_mono (fun a' w' hh => ?_) (wpOp_putIf (S := StepX X w) hj hap hsi hsj (fun _ _ _ hq => hq) hy (hk W hW))
   obtain ⟨hy', hs, hk'⟩ := hh
   exact ⟨hs, _, v, hi, YieldsIf.step hy' (hW.trans hs), hk'⟩
  | alloc T z =>
   simp only [go, hki, hkj] at h ⊢
   obtain ⟨o, v, ho, hy, hk⟩ := h
   obtain rfl : oi = o := by rw [hi] at ho; exact Option.some.inj ho
   refine fun W g hs hb hg hN => ⟨_, v, hi, ?_, ?_⟩
   ·rw [hdj]; exact keepI _ (YieldsIf.step hy hs)
   ·rw [hdj, ← Act.put_comm a v _ h2, ← hdj]
    exact hk W g hs hb hg hN
  | pure =>
   simp only [go, hki, hkj] at h ⊢
   obtain ⟨o, v, ho, hy, o', v', ho', hy', hk⟩ := h
   obtain rfl : oi = o := by rw [hi] at ho; exact Option.some.inj ho
   obtain rfl : oj = o' := by rw [hj] at ho'; exact Option.some.inj ho'
   exact ⟨_, v', hj, backJ hy', _, v, hi, keepI _ hy, by rw [← Act.put_comm a v v' h2]; exact hk⟩
 | pure =>
  cases hkj : kd j with
  | make T n xs =>
   simp only [go, hki, hkj] at h ⊢
   obtain ⟨o, v, ho, hy, hm, hk⟩ := h
   obtain rfl : oi = o := by rw [hi] at ho; exact Option.some.inj ho
   refine ⟨makesBack hm, fun W g hs hb hg hN => ⟨_, v, hi, ?_, ?_⟩⟩
   ·rw [hdj]; exact keepI _ hy
   ·rw [hdj, ← Act.put_comm a v _ h2, ← hdj]
    exact hk W g hs hb hg hN
  | silent =>
   simp only [go, hki, hkj] at h ⊢
   obtain ⟨o, v, ho, hy, o', v', ho', hy', hk⟩ := h
   obtain rfl : oi = o := by rw [hi] at ho; exact Option.some.inj ho
   obtain rfl : oj = o' := by rw [hj] at ho'; exact Option.some.inj ho'
   exact ⟨_, v', hj, backJ hy', _, v, hi, keepI _ hy, by rw [← Act.put_comm a v v' h2]; exact hk⟩
  | chain =>
   simp only [go, hki, hkj] at h ⊢
   obtain ⟨o, v, ho, hy, hk⟩ := h
   obtain rfl : oi = o := by rw [hi] at ho; exact Option.some.inj ho
   intro W hW
   refine wpOp_mono (fun a' w' hh => ?_) (wpOp_putIf (S := fun _ => True) hj hap hsi hsj (fun _ _ _ hq => hq) hy (hk W hW))
   obtain ⟨hy', hs, hk'⟩ := hh
   exact ⟨hs, _, v, hi, hy', hk'⟩
  | alloc T z =>
   simp only [go, hki, hkj] at h ⊢
   obtain ⟨o, v, ho, hy, hk⟩ := h
   obtain rfl : oi = o := by rw [hi] at ho; exact Option.some.inj ho
   refine fun W g hs hb hg hN => ⟨_, v, hi, ?_, ?_⟩
   ·rw [hdj]; exact keepI _ hy
   ·rw [hdj, ← Act.put_comm a v _ h2, ← hdj]
    exact hk W g hs hb hg hN
  | pure =>
   simp only [go, hki, hkj] at h ⊢
   obtain ⟨o, v, ho, hy, o', v', ho', hy', hk⟩ := h
   obtain rfl : oi = o := by rw [hi] at ho; exact Option.some.inj ho
   obtain rfl : oj = o' := by rw [hj] at ho'; exact Option.some.inj ho'
   exact ⟨_, v', hj, backJ hy', _, v, hi, keepI _ hy, by rw [← Act.put_comm a v v' h2]; exact hk⟩
 | chain =>
  cases hkj : kd j with
  | silent => simp [hki, hkj, swaps] at hsw
  | chain => simp [hki, hkj, swaps] at hsw
  | pure =>
   simp only [go, hki, hkj] at h ⊢
   obtain ⟨v, hv⟩ : ∃ v, YieldsIf P ops (fun _ => True) oj v a := wpOp_pure hi (Φ := fun a => ∃ v, YieldsIf P ops (fun _ => True) oj v a) (fun a u ⟨v, hm⟩ => ⟨v, backJ hm⟩) (fun a d ⟨v, hm⟩ => ⟨v, hm.of_same rfl rfl⟩) (h w (StepX.refl _ _)) (fun a' w' hh => by
    obtain ⟨_, o, v, ho, hy, _⟩ := hh
    obtain rfl : oj = o := by rw [hj] at ho; exact Option.some.inj ho
    exact ⟨v, hy⟩)
   refine ⟨_, v, hj, hv, fun W hW => ?_⟩
   have hkeep := wpOp_keep hi (Φ := fun a => YieldsIf P ops (fun _ => True) oj v a) (fun a u hm => hm.of_same (execOp_put oj hsj a oi.dst u h1) (wanted_put oj a oi.dst u h1)) (fun a d hm => hm.of_same rfl rfl) (h W hW) hv
   refine wpOp_mono (fun a' w' hh => ?_) (wpOp_under (dst := oj.dst) (v := v) hi h3 (fun d hd he => h2 d he hd) hsi hkeep)
   obtain ⟨a0, rfl, ⟨hs, o, v', ho, hy, hk⟩, hv0⟩ := hh
   obtain rfl : oj = o := by rw [hj] at ho; exact Option.some.inj ho
   obtain rfl := YieldsIf.same hv0 hy w'
   exact ⟨hs, hk⟩
  | make T n xs =>
   simp only [go, hki, hkj] at h ⊢
   have hmk : MakesAt P ops j T n xs a := wpOp_pure hi (Φ := MakesAt P ops j T n xs) (fun a v hm => makesBack hm) (fun a d hm => hm) (h w (StepX.refl _ _)) (fun a' w' hh => hh.2.1)
   refine ⟨hmk, ?_⟩
   intro W0 g hs0 hb hg hN W hW
   refine wpOp_mono (fun a' w' hh => ?_) (wpOp_under (dst := (ops[j]?).bind (·.dst)) (v := .slice (some ⟨g, 0, none⟩) n n) hi (by rw [hdj]; exact h3) (by rw [hdj]; exact fun d hd he => h2 d he hd) hsi (h W (hs0.trans hW)))
   obtain ⟨a0, rfl, hs, hk⟩ := hh
   have hlt : g < W.heap.size := Nat.lt_of_lt_of_le (Array.getElem?_eq_some_iff.1 hb).1 hW.size
   exact ⟨hs, hK _ _ _ _ _ (fun x ⟨⟨q1, q2⟩, q3⟩ => ⟨⟨q1, q3⟩, q2⟩) (StepX.refl _ _) (hk.2 w' g (StepX.refl _ _) (hsome (hW.trans hs) hg hb) hg ⟨hN, .inl hlt⟩)⟩
  | alloc T z =>
   simp only [go, hki, hkj] at h ⊢
   intro W0 g hs0 hb hg hN W hW
   refine wpOp_mono (fun a' w' hh => ?_) (wpOp_under (dst := (ops[j]?).bind (·.dst)) (v := madeV z g) hi (by rw [hdj]; exact h3) (by rw [hdj]; exact fun d hd he => h2 d he hd) hsi (h W (hs0.trans hW)))
   obtain ⟨a0, rfl, hs, hk⟩ := hh
   have hlt : g < W.heap.size := Nat.lt_of_lt_of_le (Array.getElem?_eq_some_iff.1 hb).1 hW.size
   exact ⟨hs, hK _ _ _ _ _ (fun x ⟨⟨q1, q2⟩, q3⟩ => ⟨⟨q1, q3⟩, q2⟩) (StepX.refl _ _) (hk w' g (StepX.refl _ _) (hsome (hW.trans hs) hg hb) hg ⟨hN, .inl hlt⟩)⟩
 | alloc T z =>
  cases hkj : kd j with
  | silent => simp [hki, hkj, swaps] at hsw
  | chain => simp [hki, hkj, swaps] at hsw
  | make T' n' xs' => simp [hki, hkj, swaps] at hsw
  | pure => simp [hki, hkj, swaps] at hsw
  | alloc T' z' =>
   simp only [go, hki, hkj] at h ⊢
   intro W' g' hs' hb' hg' hN' W g hs hb hg ⟨hN, hne⟩
   rw [hdi, hdj] at *
   rw [← Act.put_comm a _ _ h2]
   exact hK _ _ _ _ _ (fun x ⟨⟨q1, q2⟩, q3⟩ => ⟨⟨q1, q3⟩, q2⟩) (StepX.refl _ _) (h W g (hs'.trans hs) hb hg hN W g' (StepX.refl _ _) (hsome hs hg' hb') hg' ⟨hN', fun e => hne e.symm⟩)
def bitsOf (tab : List Nat) (j : Nat) (l : List Edge) : Nat := l.foldl (fun acc e => if Region.binds .any e && decide (e.on < j) then acc ||| (2 ^ e.on ||| tab.getD e.on 0) else acc) 0
def okTab (tab : List Nat) (ops : Array Oper) : Bool := (List.range ops.size).all fun j => match ops[j]? with
 | none => true
 | some o => tab.getD j 0 == bitsOf tab j o.after.toList
def ancB (tab : List Nat) (i j : Nat) : Bool := (tab.getD j 0).testBit i
theorem bits_of {tab : List Nat} {j i : Nat} : ∀ {l : List Edge} {acc : Nat}, (l.foldl (fun acc e => if Region.binds .any e && decide (e.on < j) then acc ||| (2 ^ e.on ||| tab.getD e.on 0) else acc) acc).testBit i = true →
  acc.testBit i = true ∨ ∃ e ∈ l, Region.binds .any e = true ∧ e.on < j ∧ (e.on = i ∨ ancB tab i e.on = true) := by
 intro l
 induction l with
 | nil => intro acc h; exact .inl h
 | cons x l ih =>
  intro acc h
  rw [List.foldl_cons] at h
  rcases ih h with h1 | ⟨e, he, h2⟩
  ·split at h1
   ·rename_i hx
    simp only [Bool.and_eq_true, decide_eq_true_eq] at hx
    rw [Nat.testBit_or, Nat.testBit_or, Nat.testBit_two_pow, Bool.or_eq_true, Bool.or_eq_true, decide_eq_true_eq] at h1
    rcases h1 with h1 | h1
    ·exact .inl h1
    ·exact .inr ⟨x, List.mem_cons_self, hx.1, hx.2, h1⟩
   ·exact .inl h1
  ·exact .inr ⟨e, List.mem_cons_of_mem _ he, h2⟩
def okPair (tab : List Nat) (ops : Array Oper) (kd : Nat → Kd) (i j : Nat) : Bool :=
 ancB tab i j || match ops[i]?, ops[j]? with
  | some oi, some oj => oi.apart ops oj && swaps (kd i) (kd j)
  | _, _ => false
def okList (tab : List Nat) (ops : Array Oper) (kd : Nat → Kd) : List Nat → Bool
 | [] => true
 | i :: l => l.all (okPair tab ops kd i) && okList tab ops kd l
def okTail (tab : List Nat) (before : List Nat) : List Nat → Bool
 | [] => true
 | x :: t => before.all (fun y => ancB tab y x) && okTail tab (before ++ [x]) t
def isSil : Kd → Bool
 | .silent => true
 | _ => false
def isMove (ops : Array Oper) (i : Nat) : Bool := match ops[i]? with
 | some o => (match o.op with | .move _ => true | .extract _ _ => true | _ => false)
 | none => false
def okWait (strict : Bool) (tab : List Nat) (ops : Array Oper) (kd : Nat → Kd) (y x : Nat) : Bool :=
 ancB tab y x || (!strict && isSil (kd y) && isMove ops y && match ops[y]?, ops[x]? with
  | some oy, some ox => oy.apart ops ox
  | _, _ => false)
def okDeps (ops : Array Oper) (seen : List Nat) : List Nat → Bool
 | [] => true
 | x :: l => (match ops[x]? with
  | none => false
  | some o => o.after.all fun e => !Region.binds .any e || seen.contains e.on) && okDeps ops (seen ++ [x]) l
def okAlloc (ops : Array Oper) (kd : Nat → Kd) (l : List Nat) : Bool :=
 l.all fun i => match kd i, ops[i]? with
  | .alloc T z, some o => o.guard.isNone && (isTup z || match o.op with | .alloc T' => T == T' | _ => false)
  | .alloc _ _, none => false
  | _, _ => true
def okSeq (strict : Bool) (tab : List Nat) (ops : Array Oper) (kd : Nat → Kd) (l t : List Nat) : Bool :=
 okTab tab ops && okList tab ops kd l && (l.all fun y => t.all fun x => okWait strict tab ops kd y x) && okTail tab [] t && okDeps ops [] (l ++ t) && okAlloc ops kd l && Region.noSelect ops && (List.range ops.size).all (fun i => (l ++ t).contains i) && (l ++ t).all (fun i => decide (i < ops.size)) && decide (l ++ t).Nodup
def Closed (ops : Array Oper) (listed : Array Bool) : Prop :=
 ∀ x o, ops[x]? = some o → listed.getD x true = true → ∀ e ∈ o.after, Region.binds .any e = true → listed.getD e.on false = true
theorem getD_tf' {listed : Array Bool} {i : Nat} (h : i < listed.size) (hl : listed.getD i false = true) : listed.getD i true = true := by
 simp [h] at hl ⊢; exact hl
variable {tab : List Nat}
theorem anc_listed {listed : Array Bool} (hsz : listed.size = ops.size) (hc : Closed ops listed) (ht : okTab tab ops = true) : ∀ j i o, ops[j]? = some o → (∀ e ∈ o.after, Region.binds .any e = true → listed.getD e.on false = true) →
  ancB tab i j = true → listed.getD i false = true := by
 intro j
 induction j using Nat.strongRecOn with
 | _ j ih =>
  intro i o ho hd h
  have hj : j < ops.size := (Array.getElem?_eq_some_iff.1 ho).1
  have h1 := List.all_eq_true.1 ht j (List.mem_range.2 hj)
  simp only [ho, beq_iff_eq] at h1
  unfold ancB at h
  rw [h1] at h
  rcases bits_of h with h2 | ⟨e, he, hb, hlt, h2⟩
  ·simp at h2
  ·have hl := hd e (by simpa using he) hb
   rcases h2 with rfl | h2
   ·exact hl
   ·have hej : e.on < ops.size := by omega
    exact ih e.on hlt i ops[e.on] (Array.getElem?_eq_getElem hej) (hc e.on _ (Array.getElem?_eq_getElem hej) (getD_tf' (by omega) hl)) h2
theorem bring (hX : ∀ j, X j → j < base) {K : Cont} (hK : ContMono X K) (hsel : Region.noSelect ops = true) {j : Nat} {oj : Oper} (hj : ops[j]? = some oj) : ∀ (l1 l2 : List Nat) (N : Nat → Prop) (a : Act) (w : World),
  (∀ i ∈ l1, ∃ oi, ops[i]? = some oi ∧ oi.apart ops oj = true ∧ swaps (kd i) (kd j) = true) → run P ops X base kd (l1 ++ j :: l2) K N a w → go P ops X base kd j (run P ops X base kd (l1 ++ l2) K) N a w := by
 intro l1
 induction l1 with
 | nil => intro l2 N a w _ h; exact h
 | cons i l1 ih =>
  intro l2 N a w hall h
  obtain ⟨oi, hi, hap, hsw⟩ := hall i (by simp)
  have h' : go P ops X base kd i (go P ops X base kd j (run P ops X base kd (l1 ++ l2) K)) N a w :=
   go_cong (fun N a w hh => ih l2 N a w (fun k hk => hall k (by simp [hk])) hh) h
  exact exch hi hj hap (Region.noSelect_spec hsel i oi · · hi) (Region.noSelect_spec hsel j oj · · hj) hsw hX (run_mono hK _) h'
theorem okList_drop {l1 l2 : List Nat} {j : Nat} (h : okList tab ops kd (l1 ++ j :: l2) = true) : okList tab ops kd (l1 ++ l2) = true ∧ ∀ i ∈ l1, okPair tab ops kd i j = true := by
 induction l1 with
 | nil => simp only [List.nil_append, okList, Bool.and_eq_true] at h; exact ⟨h.2, by simp⟩
 | cons i l1 ih =>
  simp only [List.cons_append, okList, Bool.and_eq_true, List.all_eq_true] at h ⊢
  obtain ⟨h1, h2⟩ := ih h.2
  refine ⟨⟨fun x hx => h.1 x ?_, h1⟩, fun x hx => ?_⟩
  ·simp only [List.mem_append, List.mem_cons] at hx ⊢; rcases hx with hx | hx <;> simp [hx]
  ·rcases List.mem_cons.1 hx with rfl | hx
   ·exact h.1 j (by simp)
   ·exact h2 x hx
def TailOk (tab : List Nat) (l t : List Nat) : Prop := ∀ t1 x t2, t = t1 ++ x :: t2 → ∀ y ∈ l ++ t1, ancB tab y x = true
def DepsOk (ops : Array Oper) (listed : Array Bool) (L : List Nat) : Prop := ∀ L1 x L2, L = L1 ++ x :: L2 → ∃ o, ops[x]? = some o ∧ ∀ e ∈ o.after, Region.binds .any e = true → listed.getD e.on false = true ∨ e.on ∈ L1
theorem tailOk_of {t : List Nat} : ∀ {b : List Nat}, okTail tab b t = true → TailOk tab b t := by
 induction t with
 | nil => intro b _ t1 x t2 h; exact absurd h (by simp)
 | cons z t ih =>
  intro b h t1 x t2 he y hy
  simp only [okTail, Bool.and_eq_true, List.all_eq_true] at h
  cases t1 with
  | nil =>
   simp only [List.nil_append, List.cons.injEq] at he
   obtain ⟨rfl, rfl⟩ := he
   exact h.1 y (by simpa using hy)
  | cons z' t1 =>
   simp only [List.cons_append, List.cons.injEq] at he
   obtain ⟨rfl, rfl⟩ := he
   exact ih h.2 t1 x t2 rfl y (by simpa using hy)
theorem depsOk_of {listed : Array Bool} {L : List Nat} : ∀ {seen : List Nat}, okDeps ops seen L = true → ∀ L1 x L2, L = L1 ++ x :: L2 → ∃ o, ops[x]? = some o ∧ ∀ e ∈ o.after, Region.binds .any e = true → listed.getD e.on false = true ∨ e.on ∈ seen ++ L1 := by
 induction L with
 | nil => intro b _ t1 x t2 h; exact absurd h (by simp)
 | cons z t ih =>
  intro b h t1 x t2 he
  simp only [okDeps, Bool.and_eq_true] at h
  cases t1 with
  | nil =>
   simp only [List.nil_append, List.cons.injEq] at he
   obtain ⟨rfl, rfl⟩ := he
   cases ho : ops[z]? with
   | none => simp [ho] at h
   | some o =>
    simp only [ho, Array.all_eq_true_iff_forall_mem, Bool.or_eq_true, Bool.not_eq_true', List.contains_iff_mem] at h
    exact ⟨o, rfl, fun e he hb => .inr (by have := (h.1 e he).resolve_left (by simp [hb]); simpa using this)⟩
  | cons z' t1 =>
   simp only [List.cons_append, List.cons.injEq] at he
   obtain ⟨rfl, rfl⟩ := he
   obtain ⟨o, ho, hh⟩ := ih h.2 t1 x t2 rfl
   exact ⟨o, ho, fun e he hb => (hh e he hb).imp id (by simp)⟩
def K0 (P : Program) (ops : Array Oper) (X : Nat → Prop) (Q : Exit → Act → World → Prop) (t : List Nat) : Cont := fun _ a w => ∀ W, StepX X w W → wpOps P ops Q t a W
theorem K0_mono {Q : Exit → Act → World → Prop} (t : List Nat) : ContMono X (K0 P ops X Q t) := fun _ _ _ _ _ _ hs h W hW => h W (hs.trans hW)
theorem wpOp_any {Q : Exit → Act → World → Prop} {i : Nat} {K : Act → World → Prop} {a : Act} {w : World} (h : wpOp P ops QF i K a w) : wpOp P ops Q i K a w := by
 unfold wpOp at *
 cases ho : ops[i]? with
 | none => simp only [ho] at h; exact h
 | some o =>
  simp only [ho] at h ⊢
  split
  ·rename_i hw
   simp only [hw, if_true] at h
   rcases h with h | ⟨_, a0, w0, hF⟩
   case inr => exact hF.elim
   refine .inl ?_
   unfold Oper.wp at *
   generalize (execOp a.eval o).run P w = r at *
   cases r with
   | ok n w' =>
    cases n <;> simp only [Oper.upon] at h ⊢ <;> first
     | exact h
     | exact Calls.mono h (fun e w'' he => by cases e <;> first | exact he | exact he.elim | (obtain ⟨_, _, hF⟩ := he; exact hF.elim))
   | halt x w' => cases x <;> simp only [Oper.upon] at h ⊢ <;> exact h.elim
  ·rename_i hw
   simp only [hw] at h
   exact h
theorem wpOp_alloc {Q : Exit → Act → World → Prop} {i : Nat} {o : Oper} {T : TypeId} {z : Value} {K : Act → World → Prop} {a : Act} {w : World} (ho : ops[i]? = some o) (hop : (isTup z || match o.op with | .alloc T' => T == T' | _ => false) = true) (hg : o.guard = none)
  (hz : Makes P ops i T z) (h : K (a.put o.dst (madeV z w.heap.size)) (w.alloc (.cells (madeC z) T))) : wpOp P ops Q i K a w := by
 unfold wpOp
 simp only [ho, Region.wanted, hg, if_true]
 refine .inl ?_
 unfold Oper.wp
 have hr : (execOp a.eval o).run P w = .ok (.value (madeV z w.heap.size)) (w.alloc (.cells (madeC z) T)) := by
  by_cases ht : ∃ xs, z = .tuple xs
  ·obtain ⟨xs, rfl⟩ := ht
   obtain ⟨o', ho', hrun⟩ := hz
   obtain rfl : o = o' := by rw [ho] at ho'; exact Option.some.inj ho'
   exact hrun _ _
  ·have h1 : isTup z = false := by cases z <;> simp [isTup] at ht ⊢
   have h2 : madeV z w.heap.size = .pointer (some ⟨w.heap.size, 0, none⟩) := by cases z <;> simp [isTup] at h1 <;> rfl
   have h3 : madeC z = z.cells := by cases z <;> simp [isTup] at h1 <;> rfl
   have h4 : (P.info? T).bind (·.zero) = some z := by cases z <;> simp [isTup] at h1 <;> exact hz
   rw [h1, Bool.false_or] at hop
   have hop' : o.op = .alloc T := by
    cases hopp : o.op <;> simp [hopp] at hop
    rw [hop]
   obtain ⟨inf, hi, hzz⟩ := Option.bind_eq_some_iff.1 h4
   rw [h2, h3]
   simp [execOp, hop', Instr.alloc, zeroValue, typeInfo, hi, hzz, newVar, newRow, newObj, Result.andThen]
   rfl
 rw [hr]
 exact h
theorem getD_tf {listed : Array Bool} {i : Nat} (h : i < listed.size) : listed.getD i true = listed.getD i false := by simp [h]
theorem getD_set {listed : Array Bool} {i j : Nat} (hi : i < listed.size) : (listed.setIfInBounds i true).getD j true = (listed.getD j true || decide (i = j)) := by
 by_cases hij : i = j
 ·subst hij; simp [hi]
 ·rw [getD_set_ne true hij]; simp [hij]
theorem depsOk_drop {listed : Array Bool} {L1 L2 : List Nat} {j : Nat} (hj : j < listed.size) (h : DepsOk ops listed (L1 ++ j :: L2)) : DepsOk ops (listed.setIfInBounds j true) (L1 ++ L2) := by
 intro M1 x M2 he
 have keep : ∀ {k}, listed.getD k false = true → (listed.setIfInBounds j true).getD k false = true := fun {k} hk => getD_set_true hk
 rcases List.append_eq_append_iff.1 he with ⟨r, h1, h2⟩ | ⟨r, h1, h2⟩
 ·-- M1 = L1 ++ r, L2 = r ++ x :: M2
  subst h1 h2
  obtain ⟨o, ho, hh⟩ := h (L1 ++ j :: r) x M2 (by simp)
  refine ⟨o, ho, fun e hee hb => ?_⟩
  rcases hh e hee hb with hl | hm
  ·exact .inl (keep hl)
  ·simp only [List.mem_append, List.mem_cons] at hm ⊢
   rcases hm with hm | rfl | hm
   ·exact .inr (.inl hm)
   ·exact .inl (by simp [hj])
   ·exact .inr (.inr hm)
 ·-- L1 = M1 ++ r, x :: M2 = r ++ L2
  cases r with
  | nil =>
   simp only [List.append_nil, List.nil_append] at h1 h2
   subst h1
   obtain ⟨o, ho, hh⟩ := h (L1 ++ [j]) x M2 (by simp [h2])
   refine ⟨o, ho, fun e hee hb => ?_⟩
   rcases hh e hee hb with hl | hm
   ·exact .inl (keep hl)
   ·simp only [List.mem_append, List.mem_singleton] at hm
    rcases hm with hm | rfl
    ·exact .inr hm
    ·exact .inl (by simp [hj])
  | cons y r =>
   simp only [List.cons_append, List.cons.injEq] at h2
   obtain ⟨rfl, rfl⟩ := h2
   subst h1
   obtain ⟨o, ho, hh⟩ := h M1 x (r ++ j :: L2) (by simp)
   exact ⟨o, ho, fun e hee hb => (hh e hee hb).imp keep id⟩
theorem nodup_mid {L1 L2 : List Nat} {j : Nat} (h : (L1 ++ j :: L2).Nodup) : j ∉ L1 ++ L2 ∧ (L1 ++ L2).Nodup := by
 rw [List.nodup_append] at h
 obtain ⟨h1, h2, h3⟩ := h
 rw [List.nodup_cons] at h2
 refine ⟨?_, ?_⟩
 ·rw [List.mem_append]
  rintro (hj | hj)
  ·exact h3 j hj j (by simp) rfl
  ·exact h2.1 hj
 ·rw [List.nodup_append]
  exact ⟨h1, h2.2, fun a ha b hb => h3 a ha b (by simp [hb])⟩
theorem unlisted_drop {listed : Array Bool} {j : Nat} {L1 L2 : List Nat} (hsz : j < listed.size) (hun : ∀ i, i < ops.size → (listed.getD i true = false ↔ i ∈ L1 ++ j :: L2)) (hnd : (L1 ++ j :: L2).Nodup) :
  ∀ i, i < ops.size → ((listed.setIfInBounds j true).getD i true = false ↔ i ∈ L1 ++ L2) := by
 intro i hi
 rw [getD_set hsz, Bool.or_eq_false_iff, decide_eq_false_iff_not, hun i hi]
 obtain ⟨h1, _⟩ := nodup_mid hnd
 simp only [List.mem_append, List.mem_cons] at h1 ⊢
 constructor
 ·rintro ⟨h2 | h2 | h2, h3⟩
  ·exact .inl h2
  ·exact absurd h2.symm h3
  ·exact .inr h2
 ·intro h2
  refine ⟨h2.elim .inl (fun h => .inr (.inr h)), fun e => ?_⟩
  subst e; exact h1 h2
theorem closed_set {listed : Array Bool} {j : Nat} {oj : Oper} (hsz : j < listed.size) (hoj : ops[j]? = some oj) (hdj : ∀ e ∈ oj.after, Region.binds .any e = true → listed.getD e.on false = true) (hcl : Closed ops listed) :
  Closed ops (listed.setIfInBounds j true) := fun x o ho hx e he hb => by
 rw [getD_set hsz, Bool.or_eq_true, decide_eq_true_eq] at hx
 rcases hx with hx | rfl
 ·exact getD_set_true (hcl x o ho hx e he hb)
 ·rw [hoj] at ho; obtain rfl := Option.some.inj ho; exact getD_set_true (hdj e he hb)
theorem tail_sound {Q : Exit → Act → World → Prop} : ∀ (fuel : Nat) (t : List Nat) (listed : Array Bool) (a : Act) (w : World),
  t.length ≤ fuel → listed.size = ops.size → (∀ i, i < ops.size → (listed.getD i true = false ↔ i ∈ t)) → (∀ i ∈ t, i < ops.size) → t.Nodup → Closed ops listed →
  okTab tab ops = true → TailOk tab [] t → DepsOk ops listed t → wpOps P ops Q t a w → wpAny P .any ops Q fuel listed a w := by
 intro fuel
 induction fuel with
 | zero =>
  intro t listed a w hf hsz hun hin hnd hcl htab htail hdeps h
  have ht : t = [] := List.eq_nil_of_length_eq_zero (by omega)
  subst ht
  refine ⟨?_, by simpa [wpOps] using h⟩
  rw [List.eq_nil_iff_forall_not_mem]
  intro j hj
  obtain ⟨h0, o, ho, _⟩ := mem_ready.1 hj
  have := (hun j (Array.getElem?_eq_some_iff.1 ho).1).1 h0
  simp at this
 | succ fuel ih =>
  intro t listed a w hf hsz hun hin hnd hcl htab htail hdeps h
  refine ⟨fun hr => ?_, fun j hj => ?_⟩
  ·cases t with
   | nil => simpa [wpOps] using h
   | cons x L =>
    exfalso
    obtain ⟨o, ho, hh⟩ := hdeps [] x L rfl
    have hx : x ∈ Region.ready .any ops listed := mem_ready.2 ⟨(hun x (hin x (by simp))).2 (by simp), o, ho, fun e he hb => (hh e he hb).resolve_right (by simp)⟩
    rw [hr] at hx; cases hx
  ·obtain ⟨h0, oj, hoj, hdj⟩ := mem_ready.1 hj
   have hjlt := (Array.getElem?_eq_some_iff.1 hoj).1
   have hjsz : j < listed.size := by omega
   obtain ⟨t1, t2, rfl⟩ := List.append_of_mem ((hun j hjlt).1 h0)
   have ht1 : t1 = [] := by
    rw [List.eq_nil_iff_forall_not_mem]
    intro i hi
    have h1 := anc_listed hsz hcl htab j i oj hoj hdj (htail t1 j t2 rfl i (by simp [hi]))
    have h2 := (hun i (hin i (by simp [hi]))).2 (by simp [hi])
    rw [getD_tf (by rw [hsz]; exact hin i (by simp [hi])), h1] at h2
    cases h2
   subst ht1
   rw [List.nil_append, wpOps_cons] at h
   refine wpOp_mono (fun a' w' hk => ?_) h
   have hnd' := nodup_mid hnd
   refine ih t2 _ a' w' (by simp at hf; omega) (by simp [hsz]) (by have := unlisted_drop (L1 := []) (L2 := t2) hjsz hun hnd; simpa using this) (fun i hi => hin i (by simp [hi])) (by simpa using hnd'.2)
    (closed_set hjsz hoj hdj hcl) htab (fun u1 x u2 he y hy => htail (j :: u1) x u2 (by simp [he]) y (by simp at hy ⊢; exact .inr hy)) (by have := depsOk_drop (L1 := []) (L2 := t2) hjsz hdeps; simpa using this) hk
def runM (P : Program) (ops : Array Oper) : List Nat → (Act → Prop) → Act → Prop
 | [], K, a => K a
 | i :: l, K, a => ∃ o v, ops[i]? = some o ∧ YieldsIf P ops (fun _ => True) o v a ∧ runM P ops l K (a.put o.dst v)
theorem runM_mono {K K' : Act → Prop} (h : ∀ a, K a → K' a) : ∀ {l : List Nat} {a : Act}, runM P ops l K a → runM P ops l K' a
 | [], _, hr => h _ hr
 | _ :: _, _, ⟨o, v, ho, hy, hr⟩ => ⟨o, v, ho, hy, runM_mono h hr⟩
theorem move_yields {S : World → Prop} {o : Oper} {v : Value} {a : Act} {w : World} {i : Nat} (ho : ops[i]? = some o) (hm : isMove ops i = true) (hs : S w) (h : YieldsIf P ops S o v a) : YieldsIf P ops (fun _ => True) o v a := by
 rcases h with ⟨hw, hv⟩ | h
 ·refine .inl ⟨hw, fun W _ => ?_⟩
  have h1 := hv w hs
  unfold isMove at hm
  rw [ho] at hm
  simp only at hm
  cases hop : o.op <;> simp [hop] at hm
  ·simp [execOp, hop] at h1 ⊢
   exact h1
  ·rename_i x ix
   have h2 : ∀ (u : Value) (n : Nat), (∃ y, Instr.extract u n = pure y) ∨ ∃ t, Instr.extract u n = stuck t := fun u n => by
    unfold Instr.extract
    split
    ·split
     ·exact .inl ⟨_, rfl⟩
     ·exact .inr ⟨_, rfl⟩
    ·exact .inr ⟨_, rfl⟩
   rcases h2 (a.eval x) ix with ⟨y, h3⟩ | ⟨t, h3⟩
   ·simp [execOp, hop, h3] at h1 ⊢
    exact h1
   ·simp [execOp, hop, h3] at h1
 ·exact .inr h
theorem runM_of_run {Q : Exit → Act → World → Prop} {t : List Nat} {w : World} : ∀ {l : List Nat} {N : Nat → Prop} {a : Act}, (∀ y ∈ l, isSil (kd y) = true ∧ isMove ops y = true) → run P ops X base kd l (K0 P ops X Q t) N a w → runM P ops l (fun a => wpOps P ops Q t a w) a := by
 intro l
 induction l with
 | nil => intro N a _ h; exact h w (StepX.refl _ w)
 | cons i l ih =>
  intro N a hl h
  obtain ⟨h1, h2⟩ := hl i (by simp)
  have h' : go P ops X base kd i (run P ops X base kd l (K0 P ops X Q t)) N a w := h
  unfold go at h'
  cases hk : kd i <;> simp [hk, isSil] at h1
  rw [hk] at h'
  obtain ⟨o, v, ho, hy, hr⟩ := h'
  exact ⟨o, v, ho, move_yields ho h2 (StepX.refl _ w) hy, ih (fun y hy => hl y (by simp [hy])) hr⟩
theorem bringM (hsel : Region.noSelect ops = true) {K : Act → Prop} {j : Nat} {oj : Oper} (hj : ops[j]? = some oj) : ∀ {l1 l2 : List Nat} {a : Act}, (∀ i ∈ l1, ∃ oi, ops[i]? = some oi ∧ oi.apart ops oj = true) → runM P ops (l1 ++ j :: l2) K a →
  ∃ v, YieldsIf P ops (fun _ => True) oj v a ∧ runM P ops (l1 ++ l2) K (a.put oj.dst v) := by
 intro l1
 induction l1 with
 | nil =>
  intro l2 a _ h
  obtain ⟨o, v, ho, hy, hr⟩ := h
  obtain rfl : oj = o := by rw [hj] at ho; exact Option.some.inj ho
  exact ⟨v, hy, hr⟩
 | cons i l1 ih =>
  intro l2 a hall h
  obtain ⟨oi', hi', hap⟩ := hall i (by simp)
  obtain ⟨oi, vi, hi, hyi, hr⟩ := h
  obtain rfl : oi' = oi := by rw [hi] at hi'; exact (Option.some.inj hi').symm
  obtain ⟨v, hyj, hr2⟩ := ih (fun k hk => hall k (by simp [hk])) hr
  obtain ⟨h1, h2, h3⟩ := Oper.apart_spec hap
  have hsi := (Region.noSelect_spec hsel i oi' · · hi)
  have hsj := (Region.noSelect_spec hsel j oj · · hj)
  refine ⟨v, hyj.of_same (execOp_put oj hsj a oi'.dst vi h1).symm (wanted_put oj a oi'.dst vi h1).symm, oi', vi, hi, hyi.of_same (execOp_put oi' hsi a oj.dst v h3) (wanted_put oi' a oj.dst v h3), ?_⟩
  rw [← Act.put_comm a vi v h2]
  exact hr2
theorem tailM (hsel : Region.noSelect ops = true) {Q : Exit → Act → World → Prop} (hQ : ∀ c d v a w, Q (.panic c) (Act.put a d v) w → Q (.panic c) a w) {j : Nat} {oj : Oper} (hj : ops[j]? = some oj) {K : Act → World → Prop} {w : World} : ∀ {l : List Nat} {a : Act},
  (∀ i ∈ l, ∃ oi, ops[i]? = some oi ∧ oi.apart ops oj = true) → runM P ops l (fun a => wpOp P ops Q j K a w) a → wpOp P ops Q j (fun a' w' => runM P ops l (fun a => K a w') a') a w := by
 intro l
 induction l with
 | nil => intro a _ h; exact h
 | cons i l ih =>
  intro a hall h
  obtain ⟨oi', hi', hap⟩ := hall i (by simp)
  obtain ⟨oi, vi, hi, hyi, hr⟩ := h
  obtain rfl : oi' = oi := by rw [hi] at hi'; exact (Option.some.inj hi').symm
  have h1 := ih (fun k hk => hall k (by simp [hk])) hr
  refine wpOp_mono (fun a' w' hh => ?_) (wpOp_putIf (S := fun _ => True) hj hap (Region.noSelect_spec hsel i oi' · · hi) (Region.noSelect_spec hsel j oj · · hj) (fun c a w => hQ c _ _ a w) hyi h1)
  exact ⟨oi', vi, hi, hh.1, hh.2⟩
theorem mixed_sound {Q : Exit → Act → World → Prop} (hsel : Region.noSelect ops = true) (hQ : ∀ c d v a w, Q (.panic c) (Act.put a d v) w → Q (.panic c) a w) : ∀ (fuel : Nat) (l t : List Nat) (listed : Array Bool) (a : Act) (w : World),
  l.length + t.length ≤ fuel → listed.size = ops.size → (∀ i, i < ops.size → (listed.getD i true = false ↔ i ∈ l ++ t)) → (∀ i ∈ l ++ t, i < ops.size) → (l ++ t).Nodup → Closed ops listed →
  okTab tab ops = true → okList tab ops kd l = true → (∀ y ∈ l, ∀ x ∈ t, ancB tab y x = true ∨ ∃ oy ox, ops[y]? = some oy ∧ ops[x]? = some ox ∧ oy.apart ops ox = true) → TailOk tab [] t → DepsOk ops listed (l ++ t) →
  runM P ops l (fun a => wpOps P ops Q t a w) a → wpAny P .any ops Q fuel listed a w := by
 intro fuel
 induction fuel with
 | zero =>
  intro l t listed a w hf hsz hun hin hnd hcl htab _ _ htail hdeps h
  have hl : l = [] := List.eq_nil_of_length_eq_zero (by omega)
  subst hl
  exact tail_sound 0 t listed a w (by simpa using hf) hsz hun hin hnd hcl htab htail hdeps h
 | succ fuel ih =>
  intro l t listed a w hf hsz hun hin hnd hcl htab hlist hwait htail hdeps h
  by_cases hl : l = []
  ·subst hl
   exact tail_sound _ t listed a w (by simpa using hf) hsz hun hin hnd hcl htab htail hdeps h
  refine ⟨fun hr => ?_, fun j hj => ?_⟩
  ·exfalso
   cases l with
   | nil => exact hl rfl
   | cons x L =>
    obtain ⟨o, ho, hh⟩ := hdeps [] x (L ++ t) (by simp)
    have hx : x ∈ Region.ready .any ops listed := mem_ready.2 ⟨(hun x (hin x (by simp))).2 (by simp), o, ho, fun e he hb => (hh e he hb).resolve_right (by simp)⟩
    rw [hr] at hx; cases hx
  ·obtain ⟨h0, oj, hoj, hdj⟩ := mem_ready.1 hj
   have hjlt := (Array.getElem?_eq_some_iff.1 hoj).1
   have hjsz : j < listed.size := by omega
   have hjm := (hun j hjlt).1 h0
   have hcl' := closed_set hjsz hoj hdj hcl
   have notanc : ∀ i ∈ l ++ t, ancB tab i j = true → False := fun i hi ha => by
    have h1 := anc_listed hsz hcl htab j i oj hoj hdj ha
    have h2 := (hun i (hin i hi)).2 hi
    rw [getD_tf (by rw [hsz]; exact hin i hi), h1] at h2
    cases h2
   rcases List.mem_append.1 hjm with hjl | hjt
   ·obtain ⟨l1, l2, rfl⟩ := List.append_of_mem hjl
    obtain ⟨hlist', hpair⟩ := okList_drop hlist
    have hall : ∀ i ∈ l1, ∃ oi, ops[i]? = some oi ∧ oi.apart ops oj = true := fun i hi => by
     have hp := hpair i hi
     simp only [okPair, Bool.or_eq_true] at hp
     rcases hp with hp | hp
     ·exact (notanc i (by simp [hi]) hp).elim
     ·cases hoi : ops[i]? with
      | none => simp [hoi] at hp
      | some oi =>
       simp only [hoi, hoj, Bool.and_eq_true] at hp
       exact ⟨oi, rfl, hp.1⟩
    obtain ⟨v, hy, hr⟩ := bringM hsel hoj hall h
    have he : (l1 ++ j :: l2) ++ t = l1 ++ j :: (l2 ++ t) := by simp
    refine hy.wpOp hoj trivial (ih (l1 ++ l2) t _ _ w (by simp at hf ⊢; omega) (by simp [hsz]) (by have := unlisted_drop (L1 := l1) (L2 := l2 ++ t) hjsz (by rw [← he]; exact hun) (by rw [← he]; exact hnd); simpa using this)
     (fun i hi => hin i (by simp only [List.mem_append, List.mem_cons] at hi ⊢; rcases hi with (hi | hi) | hi <;> simp [hi]))
     (by have := (nodup_mid (by rw [← he]; exact hnd)).2; simpa using this) hcl' htab hlist' (fun y hy x hx => hwait y (by simp only [List.mem_append, List.mem_cons] at hy ⊢; rcases hy with hy | hy <;> simp [hy]) x hx) htail
     (by have := depsOk_drop (L1 := l1) (L2 := l2 ++ t) hjsz (by rw [← he]; exact hdeps); simpa using this) hr)
   ·obtain ⟨t1, t2, rfl⟩ := List.append_of_mem hjt
    have ht1 : t1 = [] := by
     rw [List.eq_nil_iff_forall_not_mem]
     intro i hi
     exact notanc i (by simp [hi]) (htail t1 j t2 rfl i (by simp [hi]))
    subst ht1
    have hall : ∀ i ∈ l, ∃ oi, ops[i]? = some oi ∧ oi.apart ops oj = true := fun i hi => by
     rcases hwait i hi j (by simp) with h1 | ⟨oy, ox, h1, h2, h3⟩
     ·exact (notanc i (by simp [hi]) h1).elim
     ·obtain rfl : oj = ox := by rw [hoj] at h2; exact Option.some.inj h2
      exact ⟨oy, h1, h3⟩
    have h' : runM P ops l (fun a => wpOp P ops Q j (wpOps P ops Q t2) a w) a := runM_mono (fun a hh => by rw [List.nil_append, wpOps_cons] at hh; exact hh) h
    have he : l ++ ([] ++ j :: t2) = l ++ j :: t2 := by simp
    refine wpOp_mono (fun a' w' hk => ?_) (tailM hsel hQ hoj hall h')
    exact ih l t2 _ a' w' (by simp at hf; omega) (by simp [hsz]) (by have := unlisted_drop (L1 := l) (L2 := t2) hjsz (by rw [← he]; exact hun) (by rw [← he]; exact hnd); simpa using this)
     (fun i hi => hin i (by simp only [List.mem_append, List.nil_append, List.mem_cons] at hi ⊢; rcases hi with hi | hi <;> simp [hi])) (by have := (nodup_mid (by rw [← he]; exact hnd)).2; simpa using this) hcl' htab hlist
     (fun y hy x hx => hwait y hy x (by simp [hx])) (fun u1 x u2 hu y hy => htail (j :: u1) x u2 (by simp [hu]) y (by simp at hy ⊢; exact .inr hy)) (by have := depsOk_drop (L1 := l) (L2 := t2) hjsz (by rw [← he]; exact hdeps); simpa using this) hk
theorem seq_sound (hX : ∀ j, X j → j < base) {Q : Exit → Act → World → Prop} (hsel : Region.noSelect ops = true) {strict : Bool} (hQ : strict = true ∨ ∀ c d v a w, Q (.panic c) (Act.put a d v) w → Q (.panic c) a w) : ∀ (fuel : Nat) (l t : List Nat) (listed : Array Bool) (N : Nat → Prop) (a : Act) (w : World),
  l.length + t.length ≤ fuel → listed.size = ops.size → (∀ i, i < ops.size → (listed.getD i true = false ↔ i ∈ l ++ t)) → (∀ i ∈ l ++ t, i < ops.size) → (l ++ t).Nodup → Closed ops listed →
  okTab tab ops = true → okList tab ops kd l = true → (∀ y ∈ l, ∀ x ∈ t, okWait strict tab ops kd y x = true) → TailOk tab [] t → DepsOk ops listed (l ++ t) → okAlloc ops kd l = true → (∀ i T z, i ∈ l → kd i = .alloc T z → Makes P ops i T z) →
  (∀ g, w.heap.size ≤ g → N g) → base ≤ w.heap.size → run P ops X base kd l (K0 P ops X Q t) N a w → wpAny P .any ops Q fuel listed a w := by
 intro fuel
 induction fuel with
 | zero =>
  intro l t listed N a w hf hsz hun hin hnd hcl htab _ _ htail hdeps _ _ _ _ h
  have hl : l = [] := List.eq_nil_of_length_eq_zero (by omega)
  subst hl
  exact tail_sound 0 t listed a w (by simpa using hf) hsz hun hin hnd hcl htab htail hdeps (h w (StepX.refl _ w))
 | succ fuel ih =>
  intro l t listed N a w hf hsz hun hin hnd hcl htab hlist hwait htail hdeps halloc hz hN hbase h
  by_cases hl : l = []
  ·subst hl
   exact tail_sound _ t listed a w (by simpa using hf) hsz hun hin hnd hcl htab htail hdeps (h w (StepX.refl _ w))
  refine ⟨fun hr => ?_, fun j hj => ?_⟩
  ·-- nothing may come up: but something is left
   exfalso
   cases l with
   | nil => exact hl rfl
   | cons x L =>
    obtain ⟨o, ho, hh⟩ := hdeps [] x (L ++ t) (by simp)
    have hx : x ∈ Region.ready .any ops listed := mem_ready.2 ⟨(hun x (hin x (by simp))).2 (by simp), o, ho, fun e he hb => (hh e he hb).resolve_right (by simp)⟩
    rw [hr] at hx; cases hx
  ·obtain ⟨h0, oj, hoj, hdj⟩ := mem_ready.1 hj
   have hjlt := (Array.getElem?_eq_some_iff.1 hoj).1
   have hjsz : j < listed.size := by omega
   have hjm := (hun j hjlt).1 h0
   have hcl' := closed_set hjsz hoj hdj hcl
   have notanc : ∀ i ∈ l ++ t, ancB tab i j = true → False := fun i hi ha => by
    have h1 := anc_listed hsz hcl htab j i oj hoj hdj ha
    have h2 := (hun i (hin i hi)).2 hi
    rw [getD_tf (by rw [hsz]; exact hin i hi), h1] at h2
    cases h2
   rcases List.mem_append.1 hjm with hjl | hjt
   ·-- one of the first part
    obtain ⟨l1, l2, rfl⟩ := List.append_of_mem hjl
    obtain ⟨hlist', hpair⟩ := okList_drop hlist
    have hall : ∀ i ∈ l1, ∃ oi, ops[i]? = some oi ∧ oi.apart ops oj = true ∧ swaps (kd i) (kd j) = true := fun i hi => by
     have hp := hpair i hi
     simp only [okPair, Bool.or_eq_true] at hp
     rcases hp with hp | hp
     ·exact (notanc i (by simp [hi]) hp).elim
     ·cases hoi : ops[i]? with
      | none => simp [hoi] at hp
      | some oi =>
       simp only [hoi, hoj, Bool.and_eq_true] at hp
       exact ⟨oi, rfl, hp.1, hp.2⟩
    have hb := bring hX (K0_mono t) hsel hoj l1 l2 N a w hall h
    have he : (l1 ++ j :: l2) ++ t = l1 ++ j :: (l2 ++ t) := by simp
    have next : ∀ (N' : Nat → Prop) (a' : Act) (w' : World), (∀ g, w'.heap.size ≤ g → N' g) → w.heap.size ≤ w'.heap.size → run P ops X base kd (l1 ++ l2) (K0 P ops X Q t) N' a' w' → wpAny P .any ops Q fuel (listed.setIfInBounds j true) a' w' :=
     fun N' a' w' hN' hsz' hr => ih (l1 ++ l2) t _ N' a' w' (by simp at hf ⊢; omega) (by simp [hsz]) (by have := unlisted_drop (L1 := l1) (L2 := l2 ++ t) hjsz (by rw [← he]; exact hun) (by rw [← he]; exact hnd); simpa using this)
      (fun i hi => hin i (by simp only [List.mem_append, List.mem_cons] at hi ⊢; rcases hi with (hi | hi) | hi <;> simp [hi]))
      (by have := (nodup_mid (by rw [← he]; exact hnd)).2; simpa using this) hcl' htab hlist' (fun y hy x hx => hwait y (by simp only [List.mem_append, List.mem_cons] at hy ⊢; rcases hy with hy | hy <;> simp [hy]) x hx) htail
      (by have := depsOk_drop (L1 := l1) (L2 := l2 ++ t) hjsz (by rw [← he]; exact hdeps); simpa using this)
      (by simp only [okAlloc, List.all_eq_true, List.mem_append, List.mem_cons] at halloc ⊢; exact fun x hx => halloc x (hx.elim .inl (fun h => .inr (.inr h))))
      (fun i T z hi => hz i T z (by simp only [List.mem_append, List.mem_cons] at hi ⊢; rcases hi with hi | hi <;> simp [hi])) hN' (by omega) hr
    cases hk : kd j with
    | silent =>
     simp only [go, hk] at hb
     obtain ⟨o, v, ho, hy, hr⟩ := hb
     exact hy.wpOp ho (StepX.refl _ w) (next N _ w hN (Nat.le_refl _) hr)
    | pure =>
     simp only [go, hk] at hb
     obtain ⟨o, v, ho, hy, hr⟩ := hb
     exact hy.wpOp ho trivial (next N _ w hN (Nat.le_refl _) hr)
    | chain =>
     simp only [go, hk] at hb
     exact wpOp_any (wpOp_mono (fun a' w' ⟨hs, hr⟩ => next _ a' w' (fun g hg => ⟨hN g (Nat.le_trans hs.size hg), .inr hg⟩) hs.size hr) (hb w (StepX.refl _ w)))
    | alloc T z =>
     simp only [go, hk] at hb
     have hal := halloc
     simp only [okAlloc, List.all_eq_true] at hal
     have hal := hal j (by simp)
     simp only [hk, hoj, Bool.and_eq_true] at hal
     obtain ⟨hg, hop⟩ := hal
     refine wpOp_alloc hoj hop (by simpa using hg) (hz j T z (by simp) hk) ?_
     have hd : (ops[j]?).bind (·.dst) = oj.dst := by rw [hoj]; rfl
     rw [hd] at hb
     exact next _ _ _ (fun g hgg => ⟨hN g (by simp at hgg; omega), by simp at hgg; omega⟩) (by simp) (hb (w.alloc (.cells (madeC z) T)) w.heap.size (.of (Step.alloc _ _)) (heap_alloc_new w _) hbase (hN _ (Nat.le_refl _)))
    | make T n xs =>
     simp only [go, hk] at hb
     obtain ⟨⟨o, ho, hg, hrun⟩, hb⟩ := hb
     obtain rfl : oj = o := by rw [hoj] at ho; exact Option.some.inj ho
     have hd : (ops[j]?).bind (·.dst) = oj.dst := by rw [hoj]; rfl
     rw [hd] at hb
     unfold wpOp
     simp only [hoj, hg, if_true]
     refine .inl ?_
     unfold Oper.wp
     rw [hrun w]
     exact next _ _ _ (fun g hgg => ⟨hN g (by simp at hgg; omega), by simp at hgg; omega⟩) (by simp) (hb (w.alloc (.cells xs T)) w.heap.size (.of (Step.alloc _ _)) (heap_alloc_new w _) hbase (hN _ (Nat.le_refl _)))
   ·-- the tail waits, but for moves
    have hw1 : ∀ y ∈ l, ancB tab y j = true ∨ (strict = false ∧ isSil (kd y) = true ∧ isMove ops y = true ∧ ∃ oy, ops[y]? = some oy ∧ oy.apart ops oj = true) := fun y hy => by
     have := hwait y hy j hjt
     simp only [okWait, Bool.or_eq_true, Bool.and_eq_true, Bool.not_eq_true'] at this
     rcases this with h1 | ⟨⟨⟨h1, h2⟩, h3⟩, h4⟩
     ·exact .inl h1
     ·cases hoy : ops[y]? with
      | none => simp [hoy] at h4
      | some oy => simp only [hoy, hoj] at h4; exact .inr ⟨h1, h2, h3, oy, rfl, h4⟩
    have hw2 : ∀ y ∈ l, strict = false ∧ isSil (kd y) = true ∧ isMove ops y = true := fun y hy => by
     rcases hw1 y hy with h1 | ⟨h1, h2, h3, _⟩
     ·exact (notanc y (by simp [hy]) h1).elim
     ·exact ⟨h1, h2, h3⟩
    have hst : strict = false := by
     cases l with
     | nil => exact (hl rfl).elim
     | cons x L => exact (hw2 x (by simp)).1
    have hQ' := hQ.resolve_left (by rw [hst]; decide)
    have hm := mixed_sound hsel hQ' (fuel + 1) l t listed a w hf hsz hun hin hnd hcl htab hlist (fun y hy x hx => by
     have := hwait y hy x hx
     simp only [okWait, Bool.or_eq_true, Bool.and_eq_true, Bool.not_eq_true'] at this
     rcases this with h1 | ⟨_, h4⟩
     ·exact .inl h1
     ·cases hoy : ops[y]? with
      | none => simp [hoy] at h4
      | some oy =>
       cases hox : ops[x]? with
       | none => simp [hoy, hox] at h4
       | some ox => simp only [hoy, hox] at h4; exact .inr ⟨oy, ox, rfl, rfl, h4⟩) htail hdeps (runM_of_run (fun y hy => (hw2 y hy).2) h)
    exact hm.2 j hj
theorem wp_region_seqG {id : Nat} {Q : Exit → Act → World → Prop} {a : Act} {w : World} (X : Nat → Prop) (hX : ∀ j, X j → j < w.heap.size) (kd : Nat → Kd) (strict : Bool) (hQ : strict = true ∨ ∀ c d v a w, Q (.panic c) (Act.put a d v) w → Q (.panic c) a w) (tab l t : List Nat) (hm : P.follows .mixedOrders = true) (hok : okSeq strict tab ops kd l t = true)
  (hz : ∀ i T z, i ∈ l → kd i = .alloc T z → Makes P ops i T z)
  (h : ∀ W, StepX X w W → run P ops X w.heap.size kd l (K0 P ops X Q t) (fun _ => True) a W) : (Code.region id ops true).wp P Q a w := by
 simp only [okSeq, Bool.and_eq_true, List.all_eq_true, decide_eq_true_eq, List.mem_range, List.contains_iff_mem] at hok
 obtain ⟨⟨⟨⟨⟨⟨⟨⟨⟨h0, h1⟩, h9⟩, h2⟩, h3⟩, h4⟩, h5⟩, h6⟩, h7⟩, h8⟩ := hok
 refine wp_region_any hm ?_
 refine seq_sound (base := w.heap.size) (kd := kd) hX h5 hQ ops.size l t _ (fun _ => True) a w.drew ?_ (by simp) ?_ h7 h8 ?_ h0 h1 h9 (tailOk_of h2) ?_ h4 hz (fun _ _ => trivial) (by simp) (h w.drew (.of (Step.drew w)))
 ·-- no more than the region has
  have hsub : (l ++ t).length ≤ (List.range ops.size).length := h8.length_le_of_subset (fun i hi => List.mem_range.2 (h7 i hi))
  simpa using hsub
 ·intro i hi
  simp only [Array.getD_eq_getD_getElem?, Array.getElem?_replicate, hi, if_true, Option.getD_some, true_iff]
  exact h6 i hi
 ·intro x o ho hx
  have hlt := (Array.getElem?_eq_some_iff.1 ho).1
  simp [hlt] at hx
 ·intro L1 x L2 he
  obtain ⟨o, ho, hh⟩ := depsOk_of (listed := Array.replicate ops.size false) h3 L1 x L2 he
  exact ⟨o, ho, by simpa using hh⟩
theorem wp_region_seqX {id : Nat} {Q : Exit → Act → World → Prop} {a : Act} {w : World} (X : Nat → Prop) (hX : ∀ j, X j → j < w.heap.size) (kd : Nat → Kd) (tab l t : List Nat) (hm : P.follows .mixedOrders = true) (hok : okSeq true tab ops kd l t = true)
  (hz : ∀ i T z, i ∈ l → kd i = .alloc T z → Makes P ops i T z)
  (h : ∀ W, StepX X w W → run P ops X w.heap.size kd l (K0 P ops X Q t) (fun _ => True) a W) : (Code.region id ops true).wp P Q a w :=
 wp_region_seqG X hX kd true (.inl rfl) tab l t hm hok hz h
theorem wp_region_seq {id : Nat} {Q : Exit → Act → World → Prop} {a : Act} {w : World} (kd : Nat → Kd) (tab l t : List Nat) (hm : P.follows .mixedOrders = true) (hok : okSeq true tab ops kd l t = true)
  (hz : ∀ i T z, i ∈ l → kd i = .alloc T z → Makes P ops i T z)
  (h : ∀ W, Step w W → run P ops (fun _ => False) w.heap.size kd l (K0 P ops (fun _ => False) Q t) (fun _ => True) a W) : (Code.region id ops true).wp P Q a w :=
 wp_region_seqX (fun _ => False) (fun _ h => h.elim) kd tab l t hm hok hz h
def kdOf (calls : List Nat) (allocs : List (Nat × TypeId × Value)) (makes : List (Nat × TypeId × Nat × Array Value)) (i : Nat) : Kd :=
 if calls.contains i then .chain else match makes.find? (fun x => x.1 == i) with
  | some (_, T, n, xs) => .make T n xs
  | none => match allocs.find? (fun x => x.1 == i) with
   | some (_, T, z) => .alloc T z
   | none => .silent
section
variable {K : Cont} {N : Nat → Prop} {a : Act} {w : World} {i : Nat} {l : List Nat} {o : Oper}
theorem run_silent {v : Value} (hk : kd i = .silent) (ho : ops.toList[i]? = some o) (hy : YieldsIf P ops (StepX X w) o v a) (h : run P ops X base kd l K N (a.put o.dst v) w) : run P ops X base kd (i :: l) K N a w := by
 show go P ops X base kd i _ N a w
 unfold go; rw [hk]; exact ⟨o, v, by simpa using ho, hy, h⟩
theorem run_want (hk : kd i = .silent) (ho : ops.toList[i]? = some o) (hw : Region.wanted o (yielded ops a.tmps) = true) (h : ∃ v, (∀ W, StepX X w W → (execOp a.eval o).run P W = .ok (.value v) W) ∧ run P ops X base kd l K N (a.put o.dst v) w) :
  run P ops X base kd (i :: l) K N a w := by
 obtain ⟨v, h1, h2⟩ := h
 exact run_silent hk ho (.inl ⟨hw, h1⟩) h2
theorem run_off (hk : kd i = .silent) (ho : ops.toList[i]? = some o) (hw : Region.wanted o (yielded ops a.tmps) = false) (h : run P ops X base kd l K N (a.put o.dst undef) w) : run P ops X base kd (i :: l) K N a w :=
 run_silent hk ho (.inr ⟨hw, rfl⟩) h
theorem run_chain (hk : kd i = .chain) (ho : ops.toList[i]? = some o) (hw : Region.wanted o (yielded ops a.tmps) = true)
  (h : ∀ W, StepX X w W → ∀ K' : Act → World → Prop, (∀ a' w', StepX X W w' → run P ops X base kd l K (fun g => N g ∧ (g < W.heap.size ∨ w'.heap.size ≤ g)) a' w' → K' a' w') → o.wp P a W K' QF) : run P ops X base kd (i :: l) K N a w := by
 show go P ops X base kd i _ N a w
 have ho : ops[i]? = some o := by simpa using ho
 unfold go; rw [hk]
 intro W hW
 unfold wpOp; simp only [ho, hw, if_true]
 exact .inl (h W hW _ (fun a' w' hs hr => ⟨hs, hr⟩))
theorem run_chain_off (hk : kd i = .chain) (ho : ops.toList[i]? = some o) (hw : Region.wanted o (yielded ops a.tmps) = false) (hK : ContMono X K)
  (h : run P ops X base kd l K N (a.put o.dst undef) w) : run P ops X base kd (i :: l) K N a w := by
 show go P ops X base kd i _ N a w
 have ho : ops[i]? = some o := by simpa using ho
 unfold go; rw [hk]
 intro W hW
 unfold wpOp; simp only [ho, hw]
 exact ⟨StepX.refl _ _, run_mono hK l _ _ _ _ _ (fun g hg => hg.1) hW h⟩
theorem run_make {T : TypeId} {n : Nat} {xs : Array Value} (hk : kd i = .make T n xs) (ho : ops.toList[i]? = some o) (hg : Region.wanted o (yielded ops a.tmps) = true) (hm : ∀ w : World, (execOp a.eval o).run P w = .ok (.value (.slice (some ⟨w.heap.size, 0, none⟩) n n)) (w.alloc (.cells xs T)))
  (h : ∀ W g, StepX X w W → W.heap[g]? = some (.cells xs T (0, 0)) → base ≤ g → N g → run P ops X base kd l K (fun x => N x ∧ x ≠ g) (a.put o.dst (.slice (some ⟨g, 0, none⟩) n n)) W) : run P ops X base kd (i :: l) K N a w := by
 show go P ops X base kd i _ N a w
 have ho : ops[i]? = some o := by simpa using ho
 unfold go
 simp only [hk]
 refine ⟨⟨o, ho, hg, hm⟩, fun W g h1 h2 h3 h4 => ?_⟩
 rw [ho]
 exact h W g h1 h2 h3 h4
theorem run_end {Q : Exit → Act → World → Prop} {t : List Nat} {L : List Oper} (ht : t.map (fun i => ops.toList[i]?) = L.map some) (h : ∀ W, StepX X w W → wpList P ops Q L a W) : run P ops X base kd [] (K0 P ops X Q t) N a w := by
 intro W hW
 have h' := h W hW
 clear h hW
 show wpOps P ops Q t a W
 induction t generalizing L a W with
 | nil =>
  cases L with
  | nil => exact h'
  | cons _ _ => simp at ht
 | cons x t ih =>
  cases L with
  | nil => simp at ht
  | cons o L =>
   simp only [List.map_cons, List.cons.injEq, Array.getElem?_toList] at ht
   rw [wpOps_cons]
   unfold wpOp
   unfold wpList at h'
   simp only [ht.1]
   split
   ·rename_i hw
    rw [if_pos hw] at h'
    exact h'.imp (Oper.wp_mono fun a' w' hh => ih (by simpa using ht.2) w' hh) id
   ·rename_i hw
    rw [if_neg hw] at h'
    exact ih (by simpa using ht.2) W h'
end
end
end Go.BT.Mk
namespace Go.Proofs.Ytfhmdpicoccnfaa
set_option linter.unusedSimpArgs false
set_option linter.unusedVariables false
open Go.RowKit Go.BT
theorem neq_place (a b c d : Int) (w : World) : (binOp .neq 144 (.agg #[.int .i64 a, .int .i64 b]) (.agg #[.int .i64 c, .int .i64 d])).run Try.prog w = .ok (.bool (!decide ((⟨a, b⟩ : Pc) = ⟨c, d⟩))) w := by
 have h := equal_place ⟨a, b⟩ ⟨c, d⟩ w
 unfold Op.equal Op.maxDepth kvP at h
 rw [run_neq_struct, h]
 rfl
theorem stepX_new {X Y : Nat → Prop} {w W W' : World} (h : StepX X w W) (k : StepX Y W W') (hy : ∀ j, Y j → X j ∨ w.heap.size ≤ j) : StepX X w W' :=
 ⟨k.os.trans h.os, k.tape.trans h.tape, k.output.trans h.output, Nat.le_trans h.size k.size, fun j hj hx => (k.block j (Nat.lt_of_lt_of_le hj h.size) fun hyj => (hy j hyj).elim hx (by omega)).trans (h.block j hj hx)⟩
theorem field_from (w : World) (a b c : Int) (d : Bool) : (Instr.field 167 (.agg #[.int .i64 a, .int .i64 b, .int .i64 c, .bool d]) 0).run Try.prog w = .ok (.agg #[.int .i64 a, .int .i64 b]) w := by kernel_rfl
theorem field_spot (w : World) (a b : Int) : (Instr.field 144 (.agg #[.int .i64 a, .int .i64 b]) 0).run Try.prog w = .ok (.int .i64 a) w := by kernel_rfl
theorem look_at {w : World} {r : Nat} {ord : List (Pc × Sp)} (h : MG kvP kvS w r (lookB ord)) {p : Pc} {s : Sp} (hs : lookB ord p = some s) : (Instr.lookup 141 (.map (some r)) (.agg #[.int .i64 p.spot, .int .i64 p.minute]) false).run Try.prog w = .ok (.agg #[.int .i64 s.frm.spot, .int .i64 s.frm.minute, .int .i64 s.way, .bool s.back]) w := by
 have := look_seen h p
 rw [hs] at this
 exact this
theorem fill_any {base : Nat} {B : FB} {vp vw vl : Value} {sc : Nat} {h : Hall} {T : Nat} {f : Fs} (w : World) (F : FT base w B vp vw vl sc h T f) (O : HallOk h) (hT : T ≤ 61) (Y : Fly (netOf h T) f) (N : Near (nearB (netOf h T) f) f) :
  Calls Try.prog 74 #[.pointer (some ⟨B.fl, 0, none⟩)] w fun e w' => ∃ r f' ord, e = .returned (.map (some r)) ∧ FT base w' B vp vw vl sc h T f' ∧ Fly (netOf h T) f' ∧ Bfs (netOf h T) f' ord ord.length ∧ MG kvP kvS w' r (lookB ord) ∧ StepX (B.In h.ways.length) w w' := by
 have HO := zH O
 have hlf := F.fl.lt
 have hls := F.lt
 have HLS := zH hls
 have F0 := zH (And.intro F (And.intro Y N))
 clear F O Y N hls
 go_enter Try.func74, Try.ntmps74
 go_wp2
 go_loopg [] (sumN (netOf h T).n f.rs).toNat (fun k wr => ∃ f1, FT base wr B vp vw vl sc h T f1 ∧ Fly (netOf h T) f1 ∧ Near (nearB (netOf h T) f1) f1 ∧ StepX (B.In h.ways.length) w wr ∧ (sumN (netOf h T).n f1.rs).toNat = k)
 case atStart => exact ⟨f, F0.out.1, F0.out.2.1, F0.out.2.2, StepX.refl _ _, rfl⟩
 case round =>
  obtain ⟨f1, F1, Y1, N1, X1, hgk⟩ := hrel
  have hcall : Calls Try.prog 102 #[.pointer (some ⟨B.fl, 0, none⟩)] wr fun e w' => ∃ r ord q fnd, e = .returned (.tuple #[.map (some r), .agg #[.int .i64 q.spot, .int .i64 q.minute], .bool fnd]) ∧ wr.heap.size ≤ r ∧ MG kvP kvS w' r (lookB ord) ∧ (fnd = true → FoundOut (netOf h T) f1 ord q) ∧ (fnd = false → Bfs (netOf h T) f1 ord ord.length) ∧ Step wr w' := reach_any wr F1 HO.out hT Y1
  have HC := zH hcall
  have HF1 := zH F1
  have HY1 := zH Y1
  have HN1 := zH N1
  have HX1 := zH X1
  have HGK := zH hgk
  clear hcall F1 Y1 N1 X1 hgk F0
  go_wp2_with fail
  refine HC.out.mono ?_
  rintro e w1 ⟨r, ord, q, fnd, rfl, hr, hm, hyes, hno, hS1⟩
  have HM := zH hm
  have HR := zH (Nat.le_trans HX1.out.size hr)
  have HS1 := zH hS1
  clear hm hr hS1 HC
  cases fnd with
  | false =>
   have HB := zH (hno rfl)
   clear hyes hno
   go_wp2
   go_ret
   have hA := Step.alloc w1 (.cells #[.int .i64 q.spot, .int .i64 q.minute] 144)
   exact ⟨r, f1, ord, rfl, (HF1.out.step HS1.out).step hA, HY1.out, HB.out, HM.out.keep hA.keeps id, HX1.out.trans (.of (HS1.out.trans hA))⟩
  | true =>
   have hF := hyes rfl
   obtain ⟨P, rr, hP, hnd⟩ := hF.path
   have HP := zH (And.intro hP (And.intro hnd hF.2.2))
   clear hyes hno hF hP hnd
   go_upto_region 4 with (fail)
   obtain ⟨W2, hW2⟩ : ∃ z, z = w1.alloc (.cells #[.int .i64 q.spot, .int .i64 q.minute] 144) := ⟨_, rfl⟩
   obtain ⟨gO, hgO⟩ : ∃ z, z = w1.heap.size := ⟨_, rfl⟩
   have hbO : Bx W2 gO [.int .i64 q.spot, .int .i64 q.minute] 144 := by subst hW2 hgO; exact Bx.new _ [_, _] _
   have hS2 : Step w1 W2 := by subst hW2; exact Step.alloc _ _
   rw [← hW2, ← hgO]
   have F2 := (HF1.out.step HS1.out).step hS2
   have HM2 := zH (HM.out.keep hS2.keeps id)
   have HX2 := zH (HX1.out.trans (.of (HS1.out.trans hS2)))
   have HBO := zH hbO
   have HF2 := zH F2
   obtain ⟨e0, e1, e2, e3, e4, e5⟩ := F2.cells
   have l2 := F2.fl.lt
   have hgO2 : w.heap.size ≤ gO := by rw [hgO]; exact Nat.le_trans HX1.out.size HS1.out.size
   have HGO := zH hgO2
   have HA := zH (hall_all (fun j => base ≤ j) h _ W2 F2.av HO.out)
   clear hbO hS2 hW2 hgO F2 HF1 HM HX1 HS1 hgO2
   go_wp2_with fail
   refine HA.out.mono ?_
   rintro e w3 ⟨rfl, hS3⟩
   have o0 := (HBO.out.step hS3).cell 0
   have o1 := (HBO.out.step hS3).cell 1
   have ol := (HBO.out.step hS3).lt
   simp only [zD, zE] at o0 o1
   have HS3 := zH hS3
   have HAL := zH (HP.out.1.all_pos (netOf_ok HO.out T) HY1.out)
   clear hS3 e0 e1 e2 e3 e4 e5 l2 HA
   go_wp2
   obtain ⟨gF, hgF⟩ : ∃ z, z = w3.heap.size := ⟨_, rfl⟩
   obtain ⟨g8, hg8⟩ : ∃ z, z = w3.heap.size + 1 := ⟨_, rfl⟩
   obtain ⟨W4, hW4⟩ : ∃ z, z = (w3.alloc (.cells #[.int .i64 q.spot, .int .i64 q.minute] 144)).alloc (.cells #[.int .i64 q.spot, .int .i64 q.minute] 144) := ⟨_, rfl⟩
   have hbF : Bx W4 gF [.int .i64 q.spot, .int .i64 q.minute] 144 := by subst hW4 hgF; exact (Bx.new _ [_, _] _).alloc _
   have hb8 : Bx W4 g8 [.int .i64 q.spot, .int .i64 q.minute] 144 := by subst hW4 hg8; exact Bx.new' _ [_, _] _ _ (by simp)
   have hS4 : Step w3 W4 := by subst hW4; exact (Step.alloc _ _).trans (Step.alloc _ _)
   have hn8 : W2.heap.size ≤ gF ∧ W2.heap.size ≤ g8 ∧ gF ≠ g8 := by have := HS3.out.size; omega
   rw [← hW4, ← hg8, ← hgF]
   have HBF := zH hbF
   have HB8 := zH hb8
   have HN8 := zH hn8
   have HS4 := zH (HS3.out.trans hS4)
   have hall : (netOf h T).all = allH h := all_net h T
   have HALL := zH hall
   have hcap : (netOf h T).n * ((netOf h T).T + 1) ≤ 800 := Nat.le_trans (Nat.mul_le_mul (show h.people.length ≤ 10 from HO.out.n10) (show T + 1 ≤ 62 by omega)) (by decide)
   have hall5 : (netOf h T).all ≤ 50000 := by rw [hall]; exact (all_bound HO.out).2
   have HCAP := zH (And.intro hcap hall5)
   have HNEAR : Hid (Near 5000000000000 f1) := zH (near_part (ord := ord) (A := []) (B := []) (n := 1) HY1.out HN1.out hcap hall5 (Int.le_refl _) HAL.out.1 (by simp))
   clear hcap hall5
   have HGF2 := zH hn8.1
   clear hbF hb8 hn8 hS4 hW4 hg8 hgF o0 o1 ol hall HS3
   go_loopg [8, 6] P.length (fun k s8 s6 wr2 => ∃ (Pre Suf : List Pc) (p : Pc) (g8 : Nat) (n : Int), P = Pre ++ Suf ∧ Suf.length = k ∧ Path (netOf h T) f1 ord p Suf rr ∧ s8 = .pointer (some ⟨g8, 0, none⟩) ∧ s6 = .int .i64 n ∧ 1 ≤ n ∧ n ≤ allH h ∧ (∀ x ∈ Pre, n ≤ roomF (netOf h T) f1 x ((lookB ord x).getD default)) ∧ Bx wr2 g8 [.int .i64 p.spot, .int .i64 p.minute] 144 ∧ Bx wr2 gF [.int .i64 q.spot, .int .i64 q.minute] 144 ∧ Step W2 wr2 ∧ W2.heap.size ≤ g8 ∧ gF ≠ g8)
   case atStart => exact ⟨[], P, q, g8, allH h, rfl, rfl, HP.out.1, rfl, rfl, by have := HAL.out.1; rw [HALL.out] at this; exact this, Int.le_refl _, (fun x hx => by cases hx), HB8.out, HBF.out, HS4.out, HN8.out.2.1, HN8.out.2.2⟩
   case round =>
    obtain ⟨Pre, Suf, p, g8, n, hPS, hk, hpath, rfl, rfl, hn1, hn2, hroom, hb8, hbF, hSt, hg8, hne⟩ := hrel
    have hfd := field_from
    have hfs := field_spot
    have HPS := zH (And.intro hPS hk)
    have HRM := zH hroom
    have HBF2 := zH hbF
    have HB82 := zH hb8
    have HST := zH hSt
    have HNB := zH (And.intro hn1 hn2)
    have b0 := hb8.cell 0
    have b1 := hb8.cell 1
    have f0 := hbF.cell 0
    have f1' := hbF.cell 1
    have z0 := hbF.frozen 0
    have z1 := hbF.frozen 1
    have fl := hbF.lt
    simp only [zD, zE] at b0 b1 f0 f1'
    clear hPS hk hroom hbF hb8 hSt HBF HB8 HS4 HN8
    cases Suf with
    | nil =>
     obtain ⟨rfl, hl, hinb⟩ := hpath.nil_inv
     have hlk := look_at (HM2.out.keep HST.out.keeps id) hl
     dsimp only [rootSp] at hlk
     clear hpath hl hinb
     go_upto_region 13 with (fail)
     have HPSP := zH HPS.out.1
     clear b0 b1 f0 f1' z0 z1 fl hlk
     have b2 := set2H HBF2.out (.int .i64 p.spot) (.int .i64 p.minute)
     obtain ⟨Wn, hWn⟩ : ∃ z, z = (wr.setCell ⟨gF, 0, none⟩ (.int .i64 p.spot)).setCell ⟨gF, 1, none⟩ (.int .i64 p.minute) := ⟨_, rfl⟩
     rw [← hWn] at b2 ⊢
     have hSn : Step W2 Wn := StepX.fresh HST.out b2.2 fun j hj => by subst hj; exact HGF2.out
     obtain ⟨k, hkp⟩ : ∃ k : Nat, p.spot = k := ⟨p.spot.toNat, HAL.out.2.2.2⟩
     have hal := HAL.out
     rw [hkp, Int.toNat_natCast] at hal
     have hkn : k < h.people.length := hal.2.1
     have hix : (0 : Int) ≤ (k : Int) ∧ (k : Int) < (h.people.length : Int) := by omega
     have HFN := zH (HF2.out.step hSn)
     have HSN := zH hSn
     have HBN := zH b2.1
     have HKP := zH (And.intro hkp (And.intro hal.2.2.1 hkn))
     obtain ⟨rs, hrs⟩ : ∃ z, z = f1.rs k := ⟨_, rfl⟩
     have HRS := zH hrs
     clear b2 hWn hSn hal hrs
     have HTX := zH (Step.refl Wn)
     refine Mk.wp_region_seq (Mk.kdOf [10] [] [(9, 3, 2, #[.int .i64 n, .int .i64 rs])]) [0, 0, 2, 6, 14, 0, 32, 126, 254, 511, 1023, 2047] [0, 1, 2, 3, 4, 5, 6, 7, 8, 9, 10, 11] [] (by kernel_rfl) (by kernel_rfl) (fun i T z hi hk => by simp only [List.mem_cons, List.not_mem_nil, or_false] at hi; rcases hi with rfl | rfl | rfl | rfl | rfl | rfl | rfl | rfl | rfl | rfl | rfl | rfl <;> simp [Mk.kdOf] at hk) ?_
     intro Wx hWx
     have HT := zH (HTX.out.trans hWx)
     clear hWx HTX
     have g0 := (HBN.out.step HT.out).cell 0
     simp only [List.getElem?_cons_zero] at g0
     rw [HKP.out.1] at g0
     obtain ⟨e0, e1, e2, e3, e4, e5⟩ := (HFN.out.step HT.out).cells
     have r0 := (HFN.out.step HT.out).rest HKP.out.2.2
     rw [← HRS.out] at r0
     repeat ((first | (refine Mk.run_off rfl rfl (by rfl) ?_) | (refine Mk.run_chain_off rfl rfl (by rfl) (Mk.K0_mono _) ?_) | ((refine Mk.run_want rfl rfl (by rfl) ⟨?_, fun W hW => ?_, ?_⟩; rotate_left; (· (have d0 := hW.kc g0; have d1 := hW.kc e5; have d2 := hW.kc r0; go_simp; (try with_reducible rfl)))))); (try simp only [Act.put, zA, zB, zC]))
     clear e0 e1 e2 e3 e4 e5 g0 r0
     refine Mk.run_make rfl (by rfl) rfl (fun w => ?_) (fun W5 g hW2 hg hgb hgN => ?_)
     ·go_simp
     have HL3 := zH (SLT.bx_ints (S := fun _ => False) (l := [n, rs]) (show Bx W5 g (([n, rs] : List Int).map (Value.int .i64)) 3 from hg) id ([n, rs] : List Int).length (Nat.le_refl _) (by simp)).1
     have HTz := zH (HT.out.trans hW2)
     clear hg hgb hgN hW2 HT
     (try simp only [Act.put, zA, zB, zC])
     repeat ((first | (refine Mk.run_off rfl rfl (by rfl) ?_) | (refine Mk.run_chain_off rfl rfl (by rfl) (Mk.K0_mono _) ?_) | ((refine Mk.run_want rfl rfl (by rfl) ⟨?_, fun W hW => ?_, ?_⟩; rotate_left; (· (skip; go_simp; (try with_reducible rfl)))))); (try simp only [Act.put, zA, zB, zC]))
     refine Mk.run_chain rfl rfl (by rfl) (fun Wi hWi K' hK => ?_)
     have HTi := zH (HTz.out.trans hWi)
     have hl3 := SL.go HL3.out hWi
     clear hWi HTz HL3
     go_simp
     refine (least_any n rs _ _ hl3).mono ?_
     rintro e w9 ⟨rfl, hS9⟩
     have HT9 := zH (HTi.out.trans hS9)
     clear HTi hl3
     refine hK _ _ (StepX.of hS9) ?_
     clear hS9 hK
     (try simp only [Act.put, zA, zB, zC])
     repeat ((first | (refine Mk.run_off rfl rfl (by rfl) ?_) | (refine Mk.run_chain_off rfl rfl (by rfl) (Mk.K0_mono _) ?_) | ((refine Mk.run_want rfl rfl (by rfl) ⟨?_, fun W hW => ?_, ?_⟩; rotate_left; (· (skip; go_simp; (try with_reducible rfl)))))); (try simp only [Act.put, zA, zB, zC]))
     refine Mk.run_end (L := []) rfl (fun W6 hW6 => ?_)
     have HT6 := zH (HT9.out.trans hW6)
     clear hW6 HT9
     obtain ⟨m, hm'⟩ : ∃ z, z = min n rs := ⟨_, rfl⟩
     rw [← hm']
     have HN2 := zH (show m ≤ n ∧ m ≤ rs ∧ 1 ≤ m by have h1 := HKP.out.2.1; have h2 := HNB.out.1; rw [← HRS.out] at h1; omega)
     clear hm' hn1 hn2
     have o0 := ((HBO.out.step HSN.out).step HT6.out).cell 0
     have o1 := ((HBO.out.step HSN.out).step HT6.out).cell 1
     simp only [zD, zE] at o0 o1
     go_wp2
     obtain ⟨W8, hW8⟩ : ∃ z, z = W6.alloc (.cells #[.int .i64 q.spot, .int .i64 q.minute] 144) := ⟨_, rfl⟩
     obtain ⟨g9, hg9⟩ : ∃ z, z = W6.heap.size := ⟨_, rfl⟩
     have hb9 : Bx W8 g9 [.int .i64 q.spot, .int .i64 q.minute] 144 := by subst hW8 hg9; exact Bx.new _ [_, _] _
     have hS8 : Step Wn W8 := by subst hW8; exact HT6.out.trans (Step.alloc _ _)
     have hs9 : w.heap.size ≤ g9 := by rw [hg9]; exact Nat.le_trans HX2.out.size (Nat.le_trans HSN.out.size HT6.out.size)
     rw [← hW8, ← hg9]
     have HB9 := zH hb9
     have HS8 := zH hS8
     have HG9 := zH hs9
     have hgF0 : w.heap.size ≤ gF := Nat.le_trans HX2.out.size HGF2.out
     have HGF0 := zH hgF0
     clear hb9 hS8 hs9 hW8 hg9 o0 o1 hgF0 HBF2 HB82 hg8 hne
     go_loopg [9] P.length (fun k s9 wr3 => ∃ (Pre Suf : List Pc) (p9 : Pc) (g9 : Nat), P = Pre ++ Suf ∧ Suf.length = k ∧ Path (netOf h T) f1 ord p9 Suf p ∧ s9 = .pointer (some ⟨g9, 0, none⟩) ∧ Bx wr3 g9 [.int .i64 p9.spot, .int .i64 p9.minute] 144 ∧ Bx wr3 gF [.int .i64 p.spot, .int .i64 p.minute] 144 ∧ FT base wr3 B vp vw vl sc h T (mvL ord m f1 Pre) ∧ MG kvP kvS wr3 r (lookB ord) ∧ StepX (B.In h.ways.length) w wr3 ∧ w.heap.size ≤ g9)
     case atStart => exact ⟨[], P, q, g9, rfl, rfl, HP.out.1, rfl, HB9.out, HBN.out.step HS8.out, HFN.out.step HS8.out, HM2.out.keep (HSN.out.trans HS8.out).keeps id, HX2.out.trans (.of (HSN.out.trans HS8.out)), HG9.out⟩
     case round =>
      clear hkn hkp HB9 HG9
      obtain ⟨Pre, Suf, p9, g9, hPS, hk, hpath, rfl, hb9, hbF, hF9, hM9, hX9, hg9⟩ := hrel
      have HPS := zH (And.intro hPS hk)
      have HB9 := zH hb9
      have HBF9 := zH hbF
      have HF9 := zH hF9
      have HM9 := zH hM9
      have HX9 := zH hX9
      have HG9 := zH hg9
      have b0 := hb9.cell 0
      have b1 := hb9.cell 1
      have f0 := hbF.cell 0
      have f1' := hbF.cell 1
      simp only [zD, zE] at b0 b1 f0 f1'
      clear hPS hk hb9 hbF hF9 hM9 hX9 hg9
      have hneq := neq_place p9.spot p9.minute p.spot p.minute
      cases Suf with
      | nil =>
       obtain ⟨rfl, hl, hinb⟩ := hpath.nil_inv
       rw [show (!decide ((⟨p9.spot, p9.minute⟩ : Pc) = ⟨p9.spot, p9.minute⟩)) = false by simp] at hneq
       clear hpath hl hinb
       go_upto_region 20 with (fail)
       clear b0 b1 f1'
       rw [HKP.out.1] at f0
       obtain ⟨e0, e1, e2, e3, e4, e5⟩ := HF9.out.cells
       have r0 := HF9.out.rest HKP.out.2.2
       rw [mvL_rs, ← HRS.out] at r0
       have z0 := HF9.out.rs.frozen k
       have zl := HF9.out.rs.lt
       have hrb := HY1.out.rs_nn (show k < (netOf h T).n from HKP.out.2.2)
       have hpb := HO.out.pe k HKP.out.2.2
       have hpe : (netOf h T).pe k = h.people[k]'HKP.out.2.2 := by show h.people.getD k 0 = _; simp [List.getD_eq_getElem?_getD, HKP.out.2.2]
       have hwr : IntKind.i64.wrap (rs - m) = rs - m := by
        have h1 := HN2.out
        have e9 : rs = f1.rs k := HRS.out
        rw [IntKind.wrap_i64]; omega
       clear hrb hpb hpe e0 e1 e2 e3 e4
       have hix : (0 : Int) ≤ (k : Int) ∧ (k : Int) < (h.people.length : Int) := by have := HKP.out.2.2; omega
       go_region
       go_wp2
       obtain ⟨hnd, hq0⟩ := HP.out.2
       have hPre : Pre = P := by have := HPS.out.1; rw [List.append_nil] at this; exact this.symm
       have hkt : p9.spot.toNat = k := by rw [HKP.out.1, Int.toNat_natCast]
       have hm1 : m ≤ (netOf h T).all := by rw [HALL.out]; have := HN2.out.1; have := HNB.out.2; omega
       have hfr := fill_round (netOf_ok HO.out T) HY1.out HN1.out HCAP.out.1 HCAP.out.2 HP.out.1 hnd hq0 HN2.out.2.2 hm1 (fun y hy => by have := HRM.out y (by have e := HPSP.out; rw [List.append_nil] at e; rw [← e]; exact hy); have := HN2.out.1; omega) (by rw [hkt, ← HRS.out]; exact HN2.out.2.1)
       obtain ⟨y1, y2, y3⟩ := hfr
       go_roundg (sumN (netOf h T).n (subR (mvL ord m f1 P) p9.spot.toNat m).rs).toNat
       case measure => rw [← HGK.out]; exact y3
       case rel =>
        have hF10 := ((HF9.out.step (Step.drew wr)).setRest (by decide) (by decide) (s := k) (rs - m))
        refine ⟨subR (mvL ord m f1 P) p9.spot.toNat m, ?_, y1, y2, ?_, rfl⟩
        ·have he : subR (mvL ord m f1 P) p9.spot.toNat m = { mvL ord m f1 Pre with rs := fun j => if j = k then rs - m else (mvL ord m f1 Pre).rs j } := by
          rw [hPre]
          unfold subR
          congr 1
          funext j
          rw [hkt]
          by_cases e : j = k
          ·rw [if_pos e, if_pos e, e, mvL_rs, HRS.out]
          ·rw [if_neg e, if_neg e]
         rw [he]
         exact hF10
        ·exact (HX9.out.trans (.of (Step.drew wr))).setCell ⟨B.sb, k, none⟩ _ (.inr (.inr (.inl rfl)))
      | cons x Suf =>
       have hxn := hpath.ne
       obtain ⟨rfl, s, hs, hkk, hinb, hinf, ht⟩ := hpath.cons_inv
       rw [show (!decide ((⟨x.spot, x.minute⟩ : Pc) = ⟨p.spot, p.minute⟩)) = true by rw [Bool.not_eq_true', decide_eq_false_iff_not]; exact hxn] at hneq
       have hlk := look_at HM9.out hs
       have HS := zH hs
       have HHT := zH ht
       have HKK := zH (And.intro hkk (And.intro hinf hinb))
       clear hpath hxn hkk hinb hinf ht hs
       go_upto_region 17 with (fail)
       refine wp_region_seq (kdOf [] []) [0, 0, 0, 0, 12, 0, 63] [0, 1, 2, 3, 4, 5] [6] (by kernel_rfl) (by kernel_rfl) (fun i T z hi hk => by simp [kdOf] at hk <;> (try (split at hk <;> cases hk))) ?_
       intro Wx hWx
       have HT := zH hWx
       clear hWx hlk
       have HLK : Hid (∀ W', Step Wx W' → (Instr.lookup 141 (.map (some r)) (.agg #[.int .i64 x.spot, .int .i64 x.minute]) false).run Try.prog W' = .ok (.agg #[.int .i64 s.frm.spot, .int .i64 s.frm.minute, .int .i64 s.way, .bool s.back]) W') := zH fun W' hW' => look_at (HM9.out.keep (HT.out.trans hW').keeps id) HS.out
       have b0 := HT.out.kc b0
       have b1 := HT.out.kc b1
       repeat ((first | (refine run_off rfl rfl (by rfl) ?_) | (refine run_chain_off rfl rfl (by rfl) (K0_mono _) ?_) | ((refine run_want rfl rfl (by rfl) ⟨?_, fun W hW => ?_, ?_⟩; rotate_left; (· (have d0 := hW.kc b0; have d1 := hW.kc b1; have d2 := HLK.out _ hW; go_simp; (try with_reducible rfl)))))); (try simp only [Act.put, zA, zB, zC]))
       refine run_end (L := [_]) rfl (fun W6 hW6 => ?_)
       have HT6 := zH (HT.out.trans hW6)
       clear hW6 HT HLK b0 b1 f0 f1'
       have hm1 : m ≤ (netOf h T).all := by rw [HALL.out]; have := HN2.out.1; have := HNB.out.2; omega
       have hnp := near_part (ord := ord) (A := Pre) (B := x :: Suf) HY1.out HN1.out HCAP.out.1 HCAP.out.2 HN2.out.2.2 hm1 (by rw [← HPS.out.1]; exact HP.out.1.len HP.out.2.1)
       have hmc := move_any W6 (HF9.out.step HT6.out) HO.out hnp x s HKK.out.1 HKK.out.2.1 HKK.out.2.2 m (by have h1 := HN2.out.2.2; have h2 := HCAP.out.2; omega)
       unfold kvP kvS at hmc
       have HMC := zH hmc
       clear hmc hnp hm1
       go_wp2_with fail
       refine HMC.out.mono ?_
       rintro e w10 ⟨rfl, hF10, hX10⟩
       clear HMC
       have hbn : ∀ g, w.heap.size ≤ g → ¬ B.In h.ways.length g := fun g hg hI => by have := HLS.out g hI; omega
       have hb10 := (HB9.out.step HT6.out).keep hX10.keeps (hbn _ HG9.out)
       have hbF10 := (HBF9.out.step HT6.out).keep hX10.keeps (hbn _ HGF0.out)
       have hM10 := (HM9.out.keep HT6.out.keeps id).keep hX10.keeps (hbn _ HR.out)
       have b0 := hb10.cell 0
       have b1 := hb10.cell 1
       simp only [zD, zE] at b0 b1
       have HB10 := zH (And.intro hb10 (And.intro hbF10 hM10))
       have HF10 := zH hF10
       have HX10 := zH ((HX9.out.trans (.of HT6.out)).trans hX10)
       clear hb10 hbF10 hM10 hF10 hX10 hbn
       go_upto_region 16 with (fail)
       clear b0 b1
       obtain ⟨W7, hW7⟩ : ∃ z, z = w10.alloc (.cells #[.int .i64 x.spot, .int .i64 x.minute] 144) := ⟨_, rfl⟩
       obtain ⟨g7, hg7⟩ : ∃ z, z = w10.heap.size := ⟨_, rfl⟩
       have hb7 : Bx W7 g7 [.int .i64 x.spot, .int .i64 x.minute] 144 := by subst hW7 hg7; exact Bx.new _ [_, _] _
       have hS7 : Step w10 W7 := by subst hW7; exact Step.alloc _ _
       have hg72 : w.heap.size ≤ g7 := by rw [hg7]; exact HX10.out.size
       have hgF7 : gF ≠ g7 := by have := HB10.out.2.1.lt; omega
       rw [← hW7, ← hg7]
       have hM7 := HB10.out.2.2.keep hS7.keeps id
       have hlk := look_at hM7 HS.out
       have b0 := hb7.cell 0
       have b1 := hb7.cell 1
       have z0 := hb7.frozen 0
       have z1 := hb7.frozen 1
       have bl := hb7.lt
       simp only [zD, zE] at b0 b1
       have HB7 := zH hb7
       have HS7 := zH hS7
       have HM7 := zH hM7
       have HG7 := zH (And.intro hg72 hgF7)
       clear hb7 hS7 hM7 hg72 hgF7 hW7 hg7
       go_wp2
       go_roundg Suf.length
       case measure => have := HPS.out.2; simp at this; omega
       case rel =>
        have b2 := set2H HB7.out (.int .i64 s.frm.spot) (.int .i64 s.frm.minute)
        have hng : ∀ g, B.In h.ways.length g → ¬ g = g7 := fun g hI e => by have := HLS.out g hI; have := HG7.out.1; omega
        refine ⟨Pre ++ [x], Suf, s.frm, g7, by rw [HPS.out.1]; simp, rfl, HHT.out, rfl, b2.1, (HB10.out.2.1.step HS7.out).keep b2.2.keeps HG7.out.2, ?_, HM7.out.keep b2.2.keeps ?_, ?_, HG7.out.1⟩
        ·rw [mvL_snoc, HS.out, Option.getD_some]
         exact (HF10.out.step HS7.out).kept b2.2.keeps (fun j hj => by subst hj; exact Nat.le_trans (HF10.out.own _ (.inl rfl)) (Nat.le_trans (Nat.le_of_lt (HLS.out _ (.inl rfl))) HG7.out.1)) (fun g hI e => hng g hI e)
        ·exact (HM7.out.nob HB7.out).symm
        ·exact stepX_new (HX10.out.trans (.of HS7.out)) b2.2 fun j hj => .inr (by subst hj; exact HG7.out.1)
    | cons x Suf =>
     obtain ⟨rfl, s, hs, hkk, hinb, hinf, ht⟩ := hpath.cons_inv
     have hlk := look_at (HM2.out.keep HST.out.keeps id) hs
     have hd : decide (s.frm.spot < 0) = false := by have := hinf.1; simp; omega
     have hnr : 1 ≤ roomF (netOf h T) f1 x s := room_pos HAL.out.1 hkk
     obtain ⟨rm, hrm⟩ : ∃ z, z = roomF (netOf h T) f1 x s := ⟨_, rfl⟩
     have hRC := fun (W : World) (hW : Step wr W) => room_any W ((HF2.out.step HST.out).step hW) HO.out HNEAR.out x s hkk hinf hinb
     rw [← hrm] at hnr
     have HRC := zH hRC
     have HRV := zH (And.intro hrm hnr)
     have HT2 := zH (And.intro ht hs)
     have HIN := zH hinf
     clear hpath hkk hinb hinf ht hRC hrm hnr f0 f1' z0 z1 fl
     go_upto_region 10 with (fail)
     have HTX := zH (Step.refl wr)
     refine Mk.wp_region_seq (Mk.kdOf [6, 8] [] [(7, 3, 2, #[.int .i64 n, .int .i64 rm])]) [0, 0, 0, 0, 0, 24, 62, 127, 255, 511] [0, 1, 2, 3, 4, 5, 6, 7, 8, 9] [] (by kernel_rfl) (by kernel_rfl) (fun i T z hi hk => by simp only [List.mem_cons, List.not_mem_nil, or_false] at hi; rcases hi with rfl | rfl | rfl | rfl | rfl | rfl | rfl | rfl | rfl | rfl <;> simp [Mk.kdOf] at hk) ?_
     intro Wx hWx
     have HT := zH (HTX.out.trans hWx)
     clear hWx HTX
     have HLK : Hid (∀ W', Step Wx W' → (Instr.lookup 141 (.map (some r)) (.agg #[.int .i64 x.spot, .int .i64 x.minute]) false).run Try.prog W' = .ok (.agg #[.int .i64 s.frm.spot, .int .i64 s.frm.minute, .int .i64 s.way, .bool s.back]) W') := zH fun W' hW' => look_at (HM2.out.keep (HST.out.trans (HT.out.trans hW')).keeps id) hs
     have b0 := HT.out.kc b0
     have b1 := HT.out.kc b1
     repeat ((first | (refine Mk.run_off rfl rfl (by rfl) ?_) | (refine Mk.run_chain_off rfl rfl (by rfl) (Mk.K0_mono _) ?_) | ((refine Mk.run_want rfl rfl (by rfl) ⟨?_, fun W hW => ?_, ?_⟩; rotate_left; (· (have d0 := hW.kc b0; have d1 := hW.kc b1; have d2 := HLK.out _ hW; go_simp; (try with_reducible rfl)))))); (try simp only [Act.put, zA, zB, zC]))
     clear b0 b1
     refine Mk.run_chain rfl rfl (by rfl) (fun Wi hWi K' hK => ?_)
     have HTi := zH (HT.out.trans hWi)
     clear hWi HT HLK
     go_simp
     have hc := HRC.out Wi HTi.out
     unfold kvP kvS at hc
     refine hc.mono ?_
     clear hc
     rintro e wn ⟨rfl, hSn⟩
     rw [← HRV.out.1]
     have HT := zH (HTi.out.trans hSn)
     refine hK _ _ (StepX.of hSn) ?_
     clear hSn HTi hK
     (try simp only [Act.put, zA, zB, zC])
     repeat ((first | (refine Mk.run_off rfl rfl (by rfl) ?_) | (refine Mk.run_chain_off rfl rfl (by rfl) (Mk.K0_mono _) ?_) | ((refine Mk.run_want rfl rfl (by rfl) ⟨?_, fun W hW => ?_, ?_⟩; rotate_left; (· (skip; go_simp; (try with_reducible rfl)))))); (try simp only [Act.put, zA, zB, zC]))
     refine Mk.run_make rfl (by rfl) rfl (fun w => ?_) (fun W5 g hW2 hg hgb hgN => ?_)
     ·go_simp
     have HL3 := zH (SLT.bx_ints (S := fun _ => False) (l := [n, rm]) (show Bx W5 g (([n, rm] : List Int).map (Value.int .i64)) 3 from hg) id ([n, rm] : List Int).length (Nat.le_refl _) (by simp)).1
     have HTz := zH (HT.out.trans hW2)
     clear hg hgb hgN hW2 HT
     (try simp only [Act.put, zA, zB, zC])
     repeat ((first | (refine Mk.run_off rfl rfl (by rfl) ?_) | (refine Mk.run_chain_off rfl rfl (by rfl) (Mk.K0_mono _) ?_) | ((refine Mk.run_want rfl rfl (by rfl) ⟨?_, fun W hW => ?_, ?_⟩; rotate_left; (· (skip; go_simp; (try with_reducible rfl)))))); (try simp only [Act.put, zA, zB, zC]))
     refine Mk.run_chain rfl rfl (by rfl) (fun Wi hWi K' hK => ?_)
     have HTi := zH (HTz.out.trans hWi)
     have hl3 := SL.go HL3.out hWi
     clear hWi HTz HL3
     go_simp
     refine (least_any n rm _ _ hl3).mono ?_
     rintro e w9 ⟨rfl, hS9⟩
     have HT9 := zH (HTi.out.trans hS9)
     clear HTi hl3
     refine hK _ _ (StepX.of hS9) ?_
     clear hS9 hK
     (try simp only [Act.put, zA, zB, zC])
     repeat ((first | (refine Mk.run_off rfl rfl (by rfl) ?_) | (refine Mk.run_chain_off rfl rfl (by rfl) (Mk.K0_mono _) ?_) | ((refine Mk.run_want rfl rfl (by rfl) ⟨?_, fun W hW => ?_, ?_⟩; rotate_left; (· (skip; go_simp; (try with_reducible rfl)))))); (try simp only [Act.put, zA, zB, zC]))
     refine Mk.run_end (L := []) rfl (fun W6 hW6 => ?_)
     have HT6 := zH (HT9.out.trans hW6)
     clear hW6 HT9
     have b0 := (HB82.out.step HT6.out).cell 0
     have b1 := (HB82.out.step HT6.out).cell 1
     simp only [zD, zE] at b0 b1
     obtain ⟨n2, hn2'⟩ : ∃ z, z = min n rm := ⟨_, rfl⟩
     rw [← hn2']
     have HN2 := zH (show n2 ≤ n ∧ n2 ≤ rm ∧ 1 ≤ n2 by have := HRV.out.2; have := HNB.out.1; omega)
     clear hn2' hn1 hn2 hlk
     go_upto_region 7 with (fail)
     obtain ⟨W7, hW7⟩ : ∃ z, z = W6.alloc (.cells #[.int .i64 x.spot, .int .i64 x.minute] 144) := ⟨_, rfl⟩
     obtain ⟨g9, hg9⟩ : ∃ z, z = W6.heap.size := ⟨_, rfl⟩
     have hb9 : Bx W7 g9 [.int .i64 x.spot, .int .i64 x.minute] 144 := by subst hW7 hg9; exact Bx.new _ [_, _] _
     have hS7 : Step wr W7 := by subst hW7; exact HT6.out.trans (Step.alloc _ _)
     have hg92 : W2.heap.size ≤ g9 := by rw [hg9]; exact Nat.le_trans HST.out.size HT6.out.size
     have hgF9 : gF ≠ g9 := by have := HBF2.out.lt; have := HT6.out.size; omega
     rw [← hW7, ← hg9]
     have hlk := look_at (HM2.out.keep (HST.out.trans hS7).keeps id) HT2.out.2
     have b0 := hb9.cell 0
     have b1 := hb9.cell 1
     have z0 := hb9.frozen 0
     have z1 := hb9.frozen 1
     have bl := hb9.lt
     simp only [zD, zE] at b0 b1
     have HB9 := zH hb9
     have HS7 := zH hS7
     have HG9 := zH (And.intro hg92 hgF9)
     clear hb9 hS7 hg92 hgF9 hW7 hg9
     go_wp2
     go_roundg Suf.length
     case measure => have := HPS.out.2; simp at this; omega
     case rel =>
      have b2 := set2H HB9.out (.int .i64 s.frm.spot) (.int .i64 s.frm.minute)
      refine ⟨Pre ++ [x], Suf, s.frm, g9, n2, by rw [HPS.out.1]; simp, rfl, HT2.out.1, rfl, rfl, HN2.out.2.2, ?_, fun y hy => ?_, b2.1, (HBF2.out.step HS7.out).keep b2.2.keeps HG9.out.2, StepX.fresh (HST.out.trans HS7.out) b2.2 (fun j hj => by subst hj; exact HG9.out.1), HG9.out.1, HG9.out.2⟩
      ·have h1 := HN2.out.1; have h2 := HNB.out.2; omega
      ·rcases List.mem_append.1 hy with hy | hy
       ·have h1 := HN2.out.1; have h2 := HRM.out y hy; omega
       ·simp only [List.mem_cons, List.not_mem_nil, or_false] at hy
        rw [hy, HT2.out.2, Option.getD_some, ← HRV.out.1]; exact HN2.out.2.1
end Go.Proofs.Ytfhmdpicoccnfaa
namespace Go.BT
structure Bin (h : Hall) (low high : Nat) : Prop where
 le : low ≤ high
 hi : high ≤ 61
 lo : ∀ t, t < low → ¬ Feas h t
 up : high ≤ 60 → Feas h high
theorem Bin.start (h : Hall) : Bin h 0 61 := ⟨by omega, by omega, fun t ht => by omega, fun h => by omega⟩
theorem Bin.down {h : Hall} {low high m : Nat} (B : Bin h low high) (h1 : low ≤ m) (h2 : m < high) (F : Feas h m) : Bin h low m := ⟨h1, by have := B.hi; omega, B.lo, fun _ => F⟩
theorem Bin.uper {h : Hall} (O : HallOk h) {low high m : Nat} (B : Bin h low high) (h2 : m < high) (F : ¬ Feas h m) : Bin h (m + 1) high :=
 ⟨by omega, B.hi, fun t ht q => F (by have := q.mono O (m - t); rwa [show t + (m - t) = m by omega] at this), B.up⟩
structure LeaveS (h : Hall) (e : Int) (n : Nat) (pl : List (List Int)) : Prop where
 bad : hallB h = false → e = 1 ∧ n = 0 ∧ pl = []
 codes : hallB h = true → e = 0 ∨ e = 7
 good : hallB h = true → e = 0 → n ≤ 60 ∧ outB h n pl = true ∧ ∀ t, t < n → ¬ Feas h t
 none_ : hallB h = true → e = 7 → n = 0 ∧ pl = [] ∧ ∀ t, t ≤ 60 → ¬ Feas h t
structure StuckS (h : Hall) (minutes : Int) (e : Int) (cut : List Int) : Prop where
 bad : hallB h = false → e = 1 ∧ cut = []
 range : hallB h = true → ¬ (0 ≤ minutes ∧ minutes ≤ 60) → e = 2 ∧ cut = []
 out : hallB h = true → (0 ≤ minutes ∧ minutes ≤ 60) → Feas h minutes.toNat → e = 7 ∧ cut = []
 cut : hallB h = true → (0 ≤ minutes ∧ minutes ≤ 60) → ¬ Feas h minutes.toNat → e = 0 ∧ stuckB h minutes.toNat cut = true
theorem LeaveS.feas {h : Hall} {e : Int} {n : Nat} {pl : List (List Int)} (L : LeaveS h e n pl) (hb : hallB h = true) (he : e = 0) : Feas h n := (outB_iff.1 (L.good hb he).2.1).feas
theorem LeaveS.le {h g : Hall} {e e' : Int} {n m : Nat} {pl pl' : List (List Int)} (L : LeaveS h e n pl) (M : LeaveS g e' m pl') (hb : hallB h = true) (gb : hallB g = true) (he : e = 0) (hF : ∀ T, Feas h T → Feas g T) : e' = 0 ∧ m ≤ n := by
 have F := hF n (L.feas hb he)
 have hn := (L.good hb he).1
 have e0 : e' = 0 := by
  rcases M.codes gb with h | h
  ·exact h
  ·exact ((M.none_ gb h).2.2 n hn F).elim
 refine ⟨e0, ?_⟩
 by_cases c : m ≤ n
 ·exact c
 ·exact ((M.good gb e0).2.2 n (by omega) F).elim
theorem leave_ring {e : Int} {n : Nat} {pl : List (List Int)} (L : LeaveS ringH e n pl) : e = 0 ∧ n = 7 ∧ outB ringH 7 pl = true := by
 have e0 : e = 0 := by
  rcases L.codes ring_ok with h | h
  ·exact h
  ·exact ((L.none_ ring_ok h).2.2 7 (by omega) ring7).elim
 have hn : n = 7 := least_is (hallB_iff.1 ring_ok) (L.feas ring_ok e0) (L.good ring_ok e0).2.2 ring7 ring6
 refine ⟨e0, hn, ?_⟩
 have := (L.good ring_ok e0).2.1
 rwa [hn] at this
theorem stuck_ring {e : Int} {cut : List Int} (S : StuckS ringH 6 e cut) : e = 0 ∧ stuckB ringH 6 cut = true := S.cut ring_ok (by omega) ring6
end Go.BT
namespace Go.BT
def planL (h : Hall) (T : Nat) (f : Fs) : List (List Int) := (List.range h.ways.length).map fun i => (List.range T).map fun t => f.pl i t
theorem planL_at {h : Hall} {T : Nat} {f : Fs} {i t : Nat} (hi : i < h.ways.length) (ht : t < T) : planF (planL h T f) i t = f.pl i t := by
 unfold planF planL
 simp [List.getD_eq_getElem?_getD, hi, ht]
theorem planL_out {h : Hall} {T : Nat} {f : Fs} (O : HallOk h) (Y : Fly (netOf h T) f) (hz : ∀ s, s < h.people.length → f.rs s = 0) : outB h T (planL h T f) = true := by
 refine outB_iff.2 ⟨by simp [planL], fun i hi => by simp [planL, List.getD_eq_getElem?_getD, hi], ?_⟩
 exact (Y.done (netOf_ok O T) hz).congr fun i t hi ht => (planL_at hi ht).symm
theorem stuck_not {h : Hall} {T : Nat} {f : Fs} {ord : List (Pc × Sp)} (O : HallOk h) (Y : Fly (netOf h T) f) (B : Bfs (netOf h T) f ord ord.length) (hz : ¬ ∀ s, s < h.people.length → f.rs s = 0) : ¬ Feas h T := fun F => by
 have hr : ∃ s, s < (netOf h T).n ∧ 0 < f.rs s := by
  by_cases e : ∃ s, s < (netOf h T).n ∧ 0 < f.rs s
  ·exact e
  ·exact (hz fun s hs => by
    have h1 := (Y.rs_nn (show s < (netOf h T).n from hs)).1
    by_cases q : 0 < f.rs s
    ·exact (e ⟨s, hs, q⟩).elim
    ·omega).elim
 obtain ⟨c1, c2⟩ := Y.stuck (netOf_ok O T) B (minK_is B.toFound) hr
 rw [all_net] at c2
 have := F.cut O c1
 omega
end Go.BT
namespace Go.Proofs.Ytfhmdpicoccnfaa
set_option linter.unusedSimpArgs false
set_option linter.unusedVariables false
open Go.RowKit Go.BT
theorem Nums.sl {S : Nat → Prop} {w : World} {g n : Nat} {T : TypeId} {φ : Nat → Int} (hn : Nums w g T n φ) (hs : ¬ S g) (c : Nat) (hc : n ≤ c) (hm : n ≤ 9223372036854775807) : SL S w (.slice (some ⟨g, 0, none⟩) n c) ((List.range n).map φ) := by
 obtain ⟨cs, hb, hl, hcs⟩ := hn
 have hln : ((List.range n).map φ).length = n := by simp
 have h1 := SL.bx (S := S) (l := (List.range n).map φ) hb hs c (by rw [hln]; exact hc) (by rw [hln]; exact hm) fun i hi => ?_
 ·rw [hln] at h1; exact h1
 ·have hi' : i < n := by rw [← hln]; exact hi
  show (cs.drop (i * 1)).take 1 = [_]
  have h2 := hcs i hi'
  have hlt : i < cs.length := by omega
  rw [Nat.mul_one, List.drop_eq_getElem_cons hlt]
  rw [List.getElem?_eq_getElem hlt] at h2
  injection h2 with h2
  simp [h2]
theorem Flt.sl_plan {base : Nat} {w : World} {B : FB} {vp vw vl : Value} {sc : Nat} {h : Hall} {T : Nat} {f : Fs} (F : FT base w B vp vw vl sc h T f) {S : Nat → Prop} (hs : ∀ j, base ≤ j → ¬ S j) (hT : T ≤ 1000) : SL S w vl (planL h T f) := by
 obtain ⟨p, c, rfl, hc, hp⟩ := F.vf
 have hwl : (planL h T f).length = h.ways.length := by simp [planL]
 by_cases h0 : 0 < h.ways.length
 ·obtain rfl := hp h0
  obtain ⟨cs, hb, hcs⟩ := F.pl h0
  have h1 := SL.bx (S := S) (l := planL h T f) hb (hs _ (F.own _ (.inr (.inl ⟨h0, rfl⟩)))) c (by rw [hwl]; exact hc) (by rw [hwl]; exact F.hw.len) fun i hi => ?_
  ·rw [hwl] at h1; exact h1
  ·have hi' : i < h.ways.length := by rw [← hwl]; exact hi
   have h2 := hcs i hi'
   have hlt : i < cs.length := (List.getElem?_eq_some_iff.1 h2).1
   rw [List.getElem?_eq_getElem hlt] at h2
   injection h2 with h2
   show ∃ c, (cs.drop (i * 1)).take 1 = [c] ∧ SL S w c (planL h T f)[i]
   refine ⟨cs[i], by rw [Nat.mul_one, List.drop_eq_getElem_cons hlt]; rfl, ?_⟩
   rw [h2]
   have h3 : (planL h T f)[i] = (List.range T).map fun t => f.pl i t := by simp [planL]
   rw [h3]
   exact Nums.sl (F.rw i hi') (hs _ (F.own _ (.inr (.inr (.inr (.inr ⟨i, hi', rfl⟩)))))) T (Nat.le_refl _) (by omega)
 ·have hl0 : planL h T f = [] := List.eq_nil_of_length_eq_zero (by omega)
  rw [hl0]
  have hw0 : h.ways.length = 0 := by omega
  rw [hw0]
  exact ⟨p, c, 0, 0, rfl, Nat.zero_le _, by simp, fun h => absurd h (by simp), fun i hi => absurd hi (by simp)⟩
def PlanO (base : Nat) (w : World) (v : Value) (W T : Nat) (pl : List (List Int)) : Prop :=
 ∃ p c, v = .slice p W c ∧ W ≤ c ∧ (0 < W → ∃ pb cs, p = some ⟨pb, 0, none⟩ ∧ base ≤ pb ∧ Bx w pb cs 26 ∧ ∀ i, i < W → ∃ g, cs[i]? = some (.slice (some ⟨g, 0, none⟩) T T) ∧ base ≤ g ∧ Nums w g 3 T (planF pl i))
theorem PlanO.keep {base : Nat} {w w' : World} {v : Value} {W T : Nat} {pl : List (List Int)} (h : PlanO base w v W T pl) (hk : ∀ j, j < w.heap.size → w'.heap[j]? = w.heap[j]?) : PlanO base w' v W T pl := by
 obtain ⟨p, c, rfl, hc, hp⟩ := h
 refine ⟨p, c, rfl, hc, fun h0 => ?_⟩
 obtain ⟨pb, cs, rfl, hb, hbx, hr⟩ := hp h0
 have hl := hbx.lt
 refine ⟨pb, cs, rfl, hb, by unfold Bx at *; rw [hk pb hl]; exact hbx, fun i hi => ?_⟩
 obtain ⟨g, h1, h2, h3⟩ := hr i hi
 exact ⟨g, h1, h2, h3.row (hk g h3.lt)⟩
theorem PlanO.weak {base b' : Nat} {w : World} {v : Value} {W T : Nat} {pl : List (List Int)} (h : PlanO base w v W T pl) (hb' : b' ≤ base) : PlanO b' w v W T pl := by
 obtain ⟨p, c, rfl, hc, hp⟩ := h
 refine ⟨p, c, rfl, hc, fun h0 => ?_⟩
 obtain ⟨pb, cs, rfl, hb, hbx, hr⟩ := hp h0
 refine ⟨pb, cs, rfl, by omega, hbx, fun i hi => ?_⟩
 obtain ⟨g, h1, h2, h3⟩ := hr i hi
 exact ⟨g, h1, by omega, h3⟩
theorem Flt.plan_own {base : Nat} {w : World} {B : FB} {vp vw vl : Value} {sc : Nat} {h : Hall} {T : Nat} {f : Fs} (F : FT base w B vp vw vl sc h T f) : PlanO base w vl h.ways.length T (planL h T f) := by
 obtain ⟨p, c, rfl, hc, hp⟩ := F.vf
 refine ⟨p, c, rfl, hc, fun h0 => ?_⟩
 obtain rfl := hp h0
 obtain ⟨cs, hb, hcs⟩ := F.pl h0
 exact ⟨_, cs, rfl, F.own _ (.inr (.inl ⟨h0, rfl⟩)), hb, fun i hi => ⟨_, hcs i hi, F.own _ (.inr (.inr (.inr (.inr ⟨i, hi, rfl⟩)))), (F.rw i hi).congr fun t ht => (planL_at hi ht).symm⟩⟩
theorem Leave_own (S : Nat → Prop) (h : Hall) (v : Value) (w : World) (hv0 : AV S w v h) :
  Calls Try.prog 42 #[v] w fun e w' => ∃ c n pl v', e = .returned (.tuple #[.int .i64 (n : Nat), v', .int .i64 c]) ∧ LeaveS h c n pl ∧ SL (Old w) w' v' pl ∧ (c = 0 → PlanO w.heap.size w' v' h.ways.length n pl) ∧ Step w w' := by
 have hv : AV (fun _ => False) w v h := by
  obtain ⟨cs, e, hr⟩ := hv0
  exact ⟨cs, e, Rep.weak (fun _ _ h => h.elim) hr⟩
 obtain ⟨c0, c1, rfl, h0, h1⟩ := hv.hall
 obtain ⟨p0, k0, rfl⟩ := h0.form
 obtain ⟨p1, k1, rfl⟩ := h1.form
 obtain ⟨W0, hW0⟩ : ∃ W, W = w.alloc (.cells #[.slice p0 h.people.length k0, .slice p1 h.ways.length k1] 78) := ⟨_, rfl⟩
 have hb : Bx W0 w.heap.size [.slice p0 h.people.length k0, .slice p1 h.ways.length k1] 78 := by subst hW0; exact Bx.new w [_, _] _
 have hS : Step w W0 := by subst hW0; exact Step.alloc _ _
 have hav : ∀ W, Step W0 W → AV (fun _ => False) W (.agg #[.slice p0 h.people.length k0, .slice p1 h.ways.length k1]) h := fun W hW => ⟨_, rfl, _, _, rfl, h0.keep (.of_step (hS.trans hW)), h1.keep (.of_step (hS.trans hW))⟩
 have HAV := zH hav
 have HS := zH hS
 have HW := zH hW0
 have HB := zH hb
 have e0 := hb.cell 0
 have e1 := hb.cell 1
 have bl := hb.lt
 simp only [zD, zE] at e0 e1
 clear hv hv0 h0 h1 hW0 hb hS hav
 go_enter Try.func42, Try.ntmps42
 go_upto_region 1 with (fail)
 rw [← HW.out]
 have hcall := zH (vhall_any (fun _ => False) h _ W0 (HAV.out W0 (Step.refl _)))
 go_wp2_with fail
 refine hcall.out.mono ?_
 rintro e w1 ⟨rfl, hS1⟩
 have HT := zH hS1
 clear hS1 hcall
 cases hq : hallB h with
 | false =>
  have HQ := zH hq
  clear hq
  go_wp2
  go_ret3
  exact ⟨1, 0, [], _, rfl, ⟨fun _ => ⟨rfl, rfl, rfl⟩, (fun e => by rw [HQ.out] at e; cases e), (fun e => by rw [HQ.out] at e; cases e), (fun e => by rw [HQ.out] at e; cases e)⟩, SL.nil _ _, (fun e => by cases e), HS.out.trans HT.out⟩
 | true =>
  have HQ := zH hq
  have HO := zH (hallB_iff.1 hq)
  clear hq
  go_wp2
  go_loopw [3, 5, 6] (fun s3 s5 s6 wr => ∃ (low high : Nat) (pl : List (List Int)), s5 = .int .i64 low ∧ s6 = .int .i64 high ∧ Bin h low high ∧ SL (Old w) wr s3 pl ∧ (high ≤ 60 → outB h high pl = true ∧ PlanO w.heap.size wr s3 h.ways.length high pl) ∧ Step W0 wr) (fun _ s5 s6 _ => (intOf s6 - intOf s5).toNat)
  case atStart => exact ⟨0, 61, [], rfl, rfl, Bin.start h, SL.nil _ _, fun e => by omega, HT.out⟩
  case round =>
   obtain ⟨low, high, pl, rfl, rfl, hbin, hpl, hout, hT⟩ := hrel
   have HBIN := zH hbin
   have HPL := zH (And.intro hpl hout)
   have HTR := zH hT
   have hhi := hbin.hi
   have hle := hbin.le
   obtain ⟨p3, c3, rfl⟩ := hpl.form
   clear hbin hpl hout HT e0 e1 bl
   by_cases hlt : low < high
   ·obtain ⟨m, hm⟩ : ∃ m, m = (low + high) / 2 := ⟨_, rfl⟩
    have hm1 : low ≤ m ∧ m < high := by omega
    have hq1 : IntKind.i64.wrap ((low : Int) + (high : Int)) = (low : Int) + (high : Int) := by rw [IntKind.wrap_i64]; omega
    have hq2 : ((low : Int) + (high : Int)).tdiv 2 = (m : Int) := by
     rw [Int.tdiv_eq_ediv_of_nonneg (by omega)]; omega
    have hq3 : IntKind.i64.wrap (((low : Int) + (high : Int)).tdiv 2) = (m : Int) := by rw [hq2, IntKind.wrap_i64]; omega
    have HM := zH hm1
    have hmT : m ≤ 61 := by omega
    have e0 := (HB.out.step HTR.out).cell 0
    have e1 := (HB.out.step HTR.out).cell 1
    simp only [zD, zE] at e0 e1
    clear hm hm1
    have hcall := zH (flee_any h m _ wr (HAV.out wr HTR.out) HO.out hmT)
    go_wp2_with fail
    refine hcall.out.mono ?_
    rintro e w2 ⟨B, vp, vw, vl, sc, rfl, hF, hS2⟩
    clear hcall e0 e1 hq1 hq2 hq3
    have ok := netOf_ok HO.out m
    have hcall := zH (fill_any w2 hF HO.out hmT (Fly.start ok) (near_start ok))
    have HS2 := zH (HTR.out.trans hS2)
    have HWR := zH hS2.size
    have HOWN := zH hF.own
    have HS2R := zH hS2
    have HPL2 := zH ((HPL.out.1.weak (T := fun j => Old w j ∨ wr.heap.size ≤ j) (fun j hj hs => hs.resolve_right (by omega))).keep (.of_step hS2))
    have hfl := hF.fl.lt
    clear hF hS2 ok
    go_wp2_with fail
    refine hcall.out.mono ?_
    rintro e w3 ⟨r, f', ord, rfl, hF, hY, hBf, _, hX⟩
    clear hcall
    have HF := zH hF
    have HY := zH (And.intro hY hBf)
    have hwsz := HTR.out.size
    have hwsz0 := HS.out.size
    have hS3 : Step W0 w3 := StepX.fresh HS2.out hX fun j hj => by have := HOWN.out j hj; omega
    have HS3 := zH hS3
    have HPO3 := zH (fun e : high ≤ 60 => ((HPL.out.2 e).2.keep fun j hj => ((hX.block j (Nat.lt_of_lt_of_le hj HWR.out) (fun q => by have := HOWN.out j q; omega)).trans (HS2R.out.block j hj id))))
    have HPL3 := zH ((HPL2.out.keep (hX.keeps.mono fun j _ hj => .inr (HOWN.out j hj))).weak (T := Old w) fun j _ hj => .inl hj)
    have hcall := zH (fout_any w3 hF)
    clear hF hY hBf hX hS3 hwsz hwsz0
    go_wp2_with fail
    refine hcall.out.mono ?_
    clear hcall
    rintro e w4 ⟨rfl, hS4⟩
    have HS4 := zH hS4
    have hszr : w.heap.size ≤ wr.heap.size := Nat.le_trans HS.out.size HTR.out.size
    cases q : decide (∀ s, s < h.people.length → f'.rs s = 0) with
    | true =>
     have hz := of_decide_eq_true q
     have HZ := zH (planL_out HO.out HY.out.1 hz)
     obtain ⟨e0, e1, e2, e3, e4, e5⟩ := (HF.out.step HS4.out).cells
     clear q hz hS4
     go_upto_region 9 with (fail)
     go_quiet (fail)
     go_wp2
     go_roundw
     case rel =>
      have hpl := (HF.out.step HS4.out).sl_plan (S := Old w) (fun j hj ho => by unfold Old at ho; omega) (by omega)
      have hpo := ((HF.out.step HS4.out).plan_own).weak (b' := w.heap.size) (by omega)
      refine ⟨low, m, planL h m f', rfl, rfl, HBIN.out.down HM.out.1 HM.out.2 (outB_iff.1 HZ.out).feas, ?_, fun _ => ⟨HZ.out, ?_⟩, ?_⟩
      ·first | exact hpl | exact hpl.keep (.of_step (Step.drew _)) | exact hpl.keep (.of_step (Step.drewN _ _))
      ·first | exact hpo | exact hpo.keep fun j hj => (Step.drew _).block j hj id | exact hpo.keep fun j hj => (Step.drewN _ _).block j hj id
      ·first | exact HS3.out.trans HS4.out | exact (HS3.out.trans HS4.out).trans (Step.drew _) | exact (HS3.out.trans HS4.out).trans (Step.drewN _ _)
     case measure => have := HM.out; simp [intOf]; omega
    | false =>
     have hz := of_decide_eq_false q
     have HZ := zH (stuck_not HO.out HY.out.1 HY.out.2 hz)
     clear q hz hS4
     go_wp2
     go_roundw
     case rel =>
      refine ⟨m + 1, high, pl, by go_num, rfl, HBIN.out.uper HO.out HM.out.2 HZ.out, HPL3.out.keep (.of_step HS4.out), (fun e => ⟨(HPL.out.2 e).1, (HPO3.out e).keep fun j hj => HS4.out.block j hj id⟩), HS3.out.trans HS4.out⟩
     case measure => have := HM.out; simp [intOf]; omega
   ·have hlh : low = high := by omega
    by_cases h60 : high ≤ 60
    ·have hd : decide ((high : Int) > 60) = false := by simp; omega
     have hd' : decide ((60 : Int) < (high : Int)) = false := by simp; omega
     go_wp2
     go_ret3
     exact ⟨0, high, pl, _, rfl, ⟨(fun e => by rw [HQ.out] at e; cases e), (fun _ => .inl rfl), fun _ _ => ⟨h60, (HPL.out.2 h60).1, fun t ht => HBIN.out.lo t (by omega)⟩, (fun _ e => by cases e)⟩, HPL.out.1, (fun _ => (HPL.out.2 h60).2), HS.out.trans HTR.out⟩
    ·have hd : decide ((high : Int) > 60) = true := by simp; omega
     have hd' : decide ((60 : Int) < (high : Int)) = true := by simp; omega
     go_wp2
     go_ret3
     exact ⟨7, 0, [], _, rfl, ⟨(fun e => by rw [HQ.out] at e; cases e), (fun _ => .inr rfl), (fun _ e => by cases e), fun _ _ => ⟨rfl, rfl, fun t ht => HBIN.out.lo t (by omega)⟩⟩, SL.nil _ _, (fun e => by cases e), HS.out.trans HTR.out⟩
theorem Leave_any (S : Nat → Prop) (h : Hall) (v : Value) (w : World) (hv0 : AV S w v h) :
  Calls Try.prog 42 #[v] w fun e w' => ∃ c n pl v', e = .returned (.tuple #[.int .i64 (n : Nat), v', .int .i64 c]) ∧ LeaveS h c n pl ∧ SL (Old w) w' v' pl ∧ Step w w' :=
 (Leave_own S h v w hv0).mono fun e w' ⟨c, n, pl, v', h1, h2, h3, _, h4⟩ => ⟨c, n, pl, v', h1, h2, h3, h4⟩
end Go.Proofs.Ytfhmdpicoccnfaa
