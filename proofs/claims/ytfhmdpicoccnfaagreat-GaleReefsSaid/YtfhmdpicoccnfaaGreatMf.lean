/- Walks and plain laws, part f. -/
import Derived.Test.YtfhmdpicoccnfaaGreatMa
import Derived.Test.YtfhmdpicoccnfaaGreatMb
import Derived.Test.YtfhmdpicoccnfaaGreatMc
import Derived.Test.YtfhmdpicoccnfaaGreatMe
import Derived.Test.YtfhmdpicoccnfaaGreatRows
import Derived.BigQuiet
import Derived.BigRegionIn
import Derived.Deep.LoopGhost
import Derived.Defers
import Derived.Laws.StructEq
import Derived.LoopIn
import Derived.LoopNIn
import Derived.OwnWalkIn
import Derived.RangeFuncBound
import Derived.RangeFuncCalls
import Derived.RangeFuncLeaves
import Derived.RangeFuncNested
import Derived.RangeFuncWrites
import Derived.Recover
import Derived.Scope
import Derived.Sort.CutIn
import Derived.TacticsInMore
import Derived.WalkMore
import Derived.WalkSpells
set_option maxHeartbeats 16000000
set_option maxRecDepth 100000
set_option linter.unusedVariables false
set_option linter.unusedSimpArgs false
namespace Go.Proofs.YtfhmdpicoccnfaaGreat
set_option linter.unusedSimpArgs false
set_option linter.unusedVariables false
open Go.RowKit Go.BT
attribute [local go_sem] Oper.semAt_some
def manyH : Nat := 1000000
theorem manyH_eq : manyH = 1000000 := rfl
attribute [irreducible] manyH
theorem abidesH {β : Type} {B : Nat} {J : β → World → Prop} (hJ : AbidesFrom B J) {s : β} {W W' : World} (h : J s W) (hs : Step W W') : J s W' :=
 hJ s W W' none h ⟨hs.os, hs.tape, hs.output, hs.size, fun j hj _ => hs.block j hj id⟩ (fun r e => by cases e)
theorem steps_any (p : Pc) (b : Nat) (w : World) :
  Calls Tryz.prog 142 #[.pointer (some ⟨b, 0, none⟩), kvP p] w fun e w' => e = .returned (.func (.func 158) #[] #[.pointer (some ⟨w.heap.size + 1, 0, none⟩), .pointer (some ⟨w.heap.size, 0, none⟩)]) ∧ Bx w' w.heap.size [.pointer (some ⟨b, 0, none⟩)] 144 ∧ Bx w' (w.heap.size + 1) [.int .i64 p.spot, .int .i64 p.minute] 152 ∧ Step w w' ∧ w'.heap.size = w.heap.size + 2 := by
 have hmf : ∀ (fn : Fn) (first cap : Array Value) (w : World), (Instr.makeFunc fn first cap).run Tryz.prog w = .ok (.func fn first cap) w := fun _ _ _ _ => rfl
 unfold kvP
 go_enter Tryz.func142, Tryz.ntmps142
 go_wp2
 go_ret
 exact ⟨rfl, (Bx.new w [_] _).alloc _, Bx.new' _ [_, _] _ _ (by simp), (Step.alloc _ _).trans (Step.alloc _ _), by simp⟩
section
variable {base : Nat} {B : FB} {vp vw vl : Value} {sc : Nat} {h : Hall} {T : Nat} {f : Fs} {p : Pc}
structure StW (base : Nat) (B : FB) (vp vw vl : Value) (sc : Nat) (h : Hall) (T : Nat) (f : Fs) (p : Pc) (gp gf : Nat) (w : World) : Prop where
 fl : FT base w B vp vw vl sc h T f
 bp : Bx w gp [.int .i64 p.spot, .int .i64 p.minute] 152
 bf : Bx w gf [.pointer (some ⟨B.fl, 0, none⟩)] 144
structure StX (base : Nat) (B : FB) (W : Nat) (gp gf : Nat) (X : Nat → Prop) : Prop where
 xp : ¬ X gp
 xf : ¬ X gf
 xB : ∀ g, B.In W g → ¬ X g
 xb : ∀ j, X j → base ≤ j
theorem StW.keep {gp gf : Nat} {w w' : World} {X : Nat → Prop} (s : StW base B vp vw vl sc h T f p gp gf w) (x : StX base B h.ways.length gp gf X) (k : StepX X w w') : StW base B vp vw vl sc h T f p gp gf w' :=
 ⟨s.fl.kept k.keeps x.xb x.xB, s.bp.keep k.keeps x.xp, s.bf.keep k.keeps x.xf⟩
theorem StW.step {gp gf : Nat} {w w' : World} (s : StW base B vp vw vl sc h T f p gp gf w) (k : Step w w') : StW base B vp vw vl sc h T f p gp gf w' :=
 ⟨s.fl.step k, s.bp.step k, s.bf.step k⟩
theorem StW.cells {gp gf : Nat} {w : World} (s : StW base B vp vw vl sc h T f p gp gf w) : (w.cell? ⟨gp, 0, none⟩ = some (.int .i64 p.spot) ∧ w.cell? ⟨gp, 1, none⟩ = some (.int .i64 p.minute) ∧ w.cell? ⟨gf, 0, none⟩ = some (.pointer (some ⟨B.fl, 0, none⟩))) ∧
  w.cell? ⟨B.fl, 1, none⟩ = some vw ∧ w.cell? ⟨B.fl, 2, none⟩ = some (.int .i64 T) ∧ w.cell? ⟨B.fl, 3, none⟩ = some vl ∧ w.cell? ⟨B.fl, 4, none⟩ = some (.map (some B.mp)) := by
 obtain ⟨e0, e1, e2, e3, e4, e5⟩ := s.fl.cells
 exact ⟨⟨s.bp.cell 0, s.bp.cell 1, s.bf.cell 0⟩, e1, e2, e3, e4⟩
theorem StW.wait {gp gf : Nat} {w : World} (s : StW base B vp vw vl sc h T f p gp gf w) (q : Pc) : (Instr.lookup 148 (.map (some B.mp)) (.agg #[.int .i64 q.spot, .int .i64 q.minute]) false).run Tryz.prog w = .ok (.int .i64 (f.wt q)) w := by
 obtain ⟨g, hm, hg⟩ := s.fl.ws
 have := look_wait hm q
 rw [hg] at this
 exact this
end
theorem way_conds {h : Hall} (O : HallOk h) (T : Nat) {i : Nat} (hi : i < h.ways.length) : (((netOf h T).u i : Nat) : Int) = h.ways[i].frm ∧ (((netOf h T).v i : Nat) : Int) = h.ways[i].dst ∧ (((netOf h T).d i : Nat) : Int) = h.ways[i].mins ∧ (netOf h T).c i = h.ways[i].cap := by
 have := O.way i hi
 refine ⟨?_, ?_, ?_, ?_⟩
 ·show (((wyAt h i).frm.toNat : Nat) : Int) = _; rw [wyAt_at hi]; omega
 ·show (((wyAt h i).dst.toNat : Nat) : Int) = _; rw [wyAt_at hi]; omega
 ·show (((wyAt h i).mins.toNat : Nat) : Int) = _; rw [wyAt_at hi]; omega
 ·show (wyAt h i).cap = _; rw [wyAt_at hi]
section
variable {h : Hall} {T : Nat} {f : Fs} {ps : Int} {t k : Nat} {x : Wy}
theorem go_data (O : HallOk h) (hk : k < h.ways.length) (hx : x = h.ways[k]) (h1 : x.frm = ps) (h2 : (t : Int) + x.mins ≤ (T : Int)) (h3 : f.pl k t < x.cap) :
  goL (netOf h T) f ⟨ps, t⟩ k = [(⟨x.dst, (t : Int) + x.mins⟩, ⟨⟨ps, t⟩, k, false⟩)] ∧ ((⟨x.dst, (t : Int) + x.mins⟩, ⟨⟨ps, t⟩, k, false⟩) : Pc × Sp) ∈ stepsL (netOf h T) f ⟨ps, t⟩ := by
 obtain ⟨a, b, c, d⟩ := way_conds O T hk
 rw [← hx] at a b c d
 have q1 : (((netOf h T).u k : Nat) : Int) = (⟨ps, (t : Int)⟩ : Pc).spot := by rw [a]; exact h1
 have q2 : (⟨ps, (t : Int)⟩ : Pc).minute + (((netOf h T).d k : Nat) : Int) ≤ ((netOf h T).T : Int) := by rw [c]; exact h2
 have q3 : f.pl k (⟨ps, (t : Int)⟩ : Pc).minute.toNat < (netOf h T).c k := by rw [d]; simpa using h3
 have hg := goL_t (f := f) q1 q2 q3
 have hm := mem_stepsL.2 (StepK.go (H := netOf h T) (f := f) k hk q1 q2 q3)
 rw [b, c] at hg hm
 exact ⟨hg, hm⟩
theorem go_none (O : HallOk h) (hk : k < h.ways.length) (hx : x = h.ways[k]) (hn : ¬ (x.frm = ps ∧ (t : Int) + x.mins ≤ (T : Int) ∧ f.pl k t < x.cap)) : goL (netOf h T) f ⟨ps, t⟩ k = [] := by
 obtain ⟨a, b, c, d⟩ := way_conds O T hk
 rw [← hx] at a b c d
 refine goL_f fun ⟨q1, q2, q3⟩ => hn ⟨?_, ?_, ?_⟩
 ·rw [a] at q1; exact q1
 ·rw [c] at q2; exact q2
 ·rw [d] at q3; simpa using q3
theorem bk_data (O : HallOk h) (hk : k < h.ways.length) (hx : x = h.ways[k]) (h1 : x.dst = ps) {b : Nat} (hb : (t : Int) - x.mins = b) (h3 : 0 < f.pl k b) :
  bkL (netOf h T) f ⟨ps, t⟩ k = [(⟨x.frm, (t : Int) - x.mins⟩, ⟨⟨ps, t⟩, k, true⟩)] ∧ ((⟨x.frm, (t : Int) - x.mins⟩, ⟨⟨ps, t⟩, k, true⟩) : Pc × Sp) ∈ stepsL (netOf h T) f ⟨ps, t⟩ := by
 obtain ⟨a, b', c, d⟩ := way_conds O T hk
 rw [← hx] at a b' c d
 have q1 : (((netOf h T).v k : Nat) : Int) = (⟨ps, (t : Int)⟩ : Pc).spot := by rw [b']; exact h1
 have q2 : 0 ≤ (⟨ps, (t : Int)⟩ : Pc).minute - (((netOf h T).d k : Nat) : Int) := by rw [c]; show 0 ≤ (t : Int) - x.mins; omega
 have q3 : 0 < f.pl k ((⟨ps, (t : Int)⟩ : Pc).minute - (((netOf h T).d k : Nat) : Int)).toNat := by rw [c]; show 0 < f.pl k ((t : Int) - x.mins).toNat; rw [hb]; simpa using h3
 have hg := bkL_t q1 q2 q3
 have hm := mem_stepsL.2 (StepK.back (H := netOf h T) (f := f) k hk q1 q2 q3)
 rw [a, c] at hg hm
 exact ⟨hg, hm⟩
theorem bk_none (O : HallOk h) (hk : k < h.ways.length) (hx : x = h.ways[k]) (hn : ¬ (x.dst = ps ∧ 0 ≤ (t : Int) - x.mins ∧ 0 < f.pl k ((t : Int) - x.mins).toNat)) : bkL (netOf h T) f ⟨ps, t⟩ k = [] := by
 obtain ⟨a, b', c, d⟩ := way_conds O T hk
 rw [← hx] at a b' c d
 refine bkL_f fun ⟨q1, q2, q3⟩ => hn ⟨?_, ?_, ?_⟩
 ·rw [b'] at q1; exact q1
 ·rw [c] at q2; exact q2
 ·rw [c] at q3; exact q3
end
def KeepT (T : TypeId) (W W' : World) : Prop := ∀ (k : Nat) (cs : Array Value) (fr : Nat × Nat), W.heap[k]? = some (.cells cs T fr) → W'.heap[k]? = W.heap[k]?
theorem KeepT.of_step {T : TypeId} {W W' : World} (h : Step W W') : KeepT T W W' := fun k _ _ hk => h.block k (Array.getElem?_eq_some_iff.1 hk).1 id
theorem KeepT.trans {T : TypeId} {A B C : World} (h : KeepT T A B) (k : KeepT T B C) : KeepT T A C := fun i cs fr hi => (k i cs fr ((h i cs fr hi).trans hi)).trans (h i cs fr hi)
theorem _root_.Go.BT.Bx.keepT {T : TypeId} {W W' : World} {g : Nat} {cs : List Value} (h : Bx W g cs T) (k : KeepT T W W') : Bx W' g cs T := by
 unfold Bx at *
 rw [k g _ _ h]; exact h
theorem cellsW {w : World} {g : Nat} {c0 c1 c2 c3 : Value} {T : TypeId} (h : Bx w g [c0, c1, c2, c3] T) :
  w.cell? ⟨g, 0, none⟩ = some c0 ∧ w.cell? ⟨g, 1, none⟩ = some c1 ∧ w.cell? ⟨g, 2, none⟩ = some c2 ∧ w.cell? ⟨g, 3, none⟩ = some c3 := ⟨h.cell 0, h.cell 1, h.cell 2, h.cell 3⟩
theorem steps1_stops {base : Nat} {B : FB} {vp vw vl : Value} {sc : Nat} {h : Hall} {T : Nat} {f : Fs} {p : Pc} (n : Nat) (hn : 1 ≤ n) (X : Nat → Prop) (gp gf : Nat) (w : World) (s0 : StW base B vp vw vl sc h T f p gp gf w) (x0 : StX base B h.ways.length gp gf X) (O : HallOk h) (hT : T ≤ 61) (hp : InB (netOf h T) p) :
  SeqStopsK (FW none) n Tryz.prog 158 #[.pointer (some ⟨gp, 0, none⟩), .pointer (some ⟨gf, 0, none⟩)] (fun e : StepNo (netOf h T) f p => #[kvP e.1.1, kvS e.1.2]) (fun W W' => StepX X W W' ∧ KeepT 140 W W') (fun xs => xs.map (·.1) = stepsL (netOf h T) f p) (fun pre => pre.map (·.1) <+: stepsL (netOf h T) f p) manyH w := by
 obtain ⟨ps, pm⟩ := p
 obtain ⟨t, rfl⟩ : ∃ t : Nat, pm = t := ⟨pm.toNat, by have := hp.2.2.1; simp only at this; omega⟩
 have htT : t ≤ T := by have : (t : Int) ≤ (T : Int) := hp.2.2.2; omega
 obtain ⟨pl_, cl_, rfl, _, hplp⟩ := s0.fl.vf
 obtain ⟨pw, cw, bw, ow, rfl, _, hwl, hpw, hcw, _⟩ := s0.fl.hw.wys
 intro l J Jx W hW hJ hJx hY h0
 have hS := Step.of hW
 have HSW := zH (s0.step hS)
 have HX := zH x0
 have HO := zH O
 have HP := zH hp
 have HY := zH hY
 have HJ := zH hJ
 have H0 := zH h0
 have HPLP := zH hplp
 have HPW := zH hpw
 have HLN : Hid (∀ pre : List (StepNo (netOf h T) f ⟨ps, t⟩), pre.map (·.1) <+: stepsL (netOf h T) f ⟨ps, t⟩ → pre.length < 1000000) := zH fun pre hpre => by
  have h1 := pre_len hpre
  have h2 : (netOf h T).W ≤ 20 := O.w20
  omega
 clear s0 x0 hW hS hY hJ hJx h0 hplp hpw hcw O hp
 refine callsIn_of_wp Tryz.func158 rfl trivial ?_ rfl
 simp only [Tryz.ntmps158, List.size_toArray, List.length_cons, List.length_nil, Nat.reduceAdd, Nat.reduceSub, Array.replicate_succ, Array.replicate_zero, List.push_toArray, List.append_toArray, List.nil_append, List.cons_append]
 have hw1 : IntKind.i64.wrap ((t : Int) + 1) = (t : Int) + 1 := by rw [IntKind.wrap_i64]; omega
 have hw2 : IntKind.i64.wrap ((t : Int) - 1) = (t : Int) - 1 := by rw [IntKind.wrap_i64]; omega
 gi_upto_region 0 with (fail)
 gi_cut [28] from 147 (fun u wc => ∃ pre : List (StepNo (netOf h T) f ⟨ps, t⟩), pre.map (·.1) = waitL (netOf h T) ⟨ps, t⟩ ∧ ((u = .bool false ∧ J pre wc ∧ StepX X W wc) ∨ (u = .bool true ∧ Jx pre wc)))
 case first =>
  by_cases hm : (t : Int) < (T : Int)
  ·have hd : decide ((t : Int) < (T : Int)) = true := by simpa using hm
   refine wpIn_region_seq (fun _ => False) (fun _ h => h.elim) (kdOf [] []) [0, 1, 0, 4, 12, 28, 63, 127, 255, 255, 767, 255, 2303, 6399, 16127, 255, 33023, 131071, 262143, 524287] [0, 1, 2, 3, 4, 5, 6, 7, 8, 9, 10, 11, 12, 13, 14, 15, 16] [17, 18, 19] (by kernel_rfl) (by kernel_rfl) (by kernel_rfl) (fun i T z hi hk => by simp [kdOf] at hk <;> (try (split at hk <;> cases hk))) ?_
   intro Wx hWx
   have HT := zH hWx
   clear hWx
   obtain ⟨⟨p0, p1, g0⟩, e1, e2, e3, e4⟩ := (HSW.out.step HT.out).cells
   repeat ((first | (refine run_off rfl rfl (by rfl) ?_) | (refine run_chain_off rfl rfl (by rfl) (K0_mono _) ?_) | ((refine run_want rfl rfl (by rfl) ⟨?_, fun W hW => ?_, ?_⟩; rotate_left; (· (have d0 := hW.kc p0; have d1 := hW.kc p1; have d2 := hW.kc g0; have d3 := hW.kc e2; go_simp; (try with_reducible rfl)))))); (try simp only [Act.put, zA, zB, zC]))
   refine runI_end (L := [_, _, _]) rfl (fun W6 hW6 => ?_)
   clear p0 p1 g0 e1 e2 e3 e4
   have HT6 := zH (HT.out.trans hW6)
   have hJ6 := abidesH HJ.out (H0.out) HT6.out
   obtain ⟨fn, tmps, assign, body, hy, hR⟩ := HY.out [] ⟨(⟨ps, (t : Int) + 1⟩, ⟨⟨ps, t⟩, -1, false⟩), mem_stepsL.2 (.wait hm)⟩ W6 hJ6 (by rw [manyH_eq]; simp)
   unfold kvP kvS at hy
   dsimp only at hy hR
   clear hW6 hJ6
   gi_wp2_with fail
   refine hR.mono ?_
   clear hR
   rintro e W7 (⟨rfl, hJ7, hX7, hK7⟩ | ⟨rfl, hJx7⟩)
   ·gi_wp2_with fail
    gi_meet
    case rel => exact ⟨_, by rw [waitL_t hm]; rfl, .inl ⟨rfl, hJ7, (StepX.of HT6.out).trans hX7⟩⟩
   ·gi_wp2_with fail
    gi_meet
    case rel => exact ⟨_, by rw [waitL_t hm]; rfl, .inr ⟨rfl, hJx7⟩⟩
  ·have hd : decide ((t : Int) < (T : Int)) = false := by simpa using hm
   refine wpIn_region_seq (fun _ => False) (fun _ h => h.elim) (kdOf [] []) [0, 1, 0, 4, 12, 28, 63, 127, 255, 255, 767, 255, 2303, 6399, 16127, 255, 33023, 131071, 262143, 524287] [0, 1, 2, 3, 4, 5, 6, 7, 8, 9, 10, 11, 12, 13, 14, 15, 16] [17, 18, 19] (by kernel_rfl) (by kernel_rfl) (by kernel_rfl) (fun i T z hi hk => by simp [kdOf] at hk <;> (try (split at hk <;> cases hk))) ?_
   intro Wx hWx
   have HT := zH hWx
   clear hWx
   obtain ⟨⟨p0, p1, g0⟩, e1, e2, e3, e4⟩ := (HSW.out.step HT.out).cells
   repeat ((first | (refine run_off rfl rfl (by rfl) ?_) | (refine run_chain_off rfl rfl (by rfl) (K0_mono _) ?_) | ((refine run_want rfl rfl (by rfl) ⟨?_, fun W hW => ?_, ?_⟩; rotate_left; (· (have d0 := hW.kc p0; have d1 := hW.kc p1; have d2 := hW.kc g0; have d3 := hW.kc e2; go_simp; (try with_reducible rfl)))))); (try simp only [Act.put, zA, zB, zC]))
   refine runI_end (L := [_, _, _]) rfl (fun W6 hW6 => ?_)
   clear p0 p1 g0 e1 e2 e3 e4
   have HT6 := zH (HT.out.trans hW6)
   clear hW6
   gi_wp2_with fail
   gi_meet
   case rel => exact ⟨[], by rw [waitL_f (by show ¬ (t : Int) < (T : Int); omega)]; rfl, .inl ⟨rfl, abidesH HJ.out H0.out HT6.out, .of HT6.out⟩⟩
 case rest =>
  obtain ⟨pre, hpre, ⟨rfl, hJ1, hX1⟩ | ⟨rfl, hJx1⟩⟩ := hcut
  rotate_left
  ·gi_wp2
   refine bodyPost_ret (results_none rfl _ _ _) rfl ?_
   exact ⟨⟨_, rfl⟩, .inr ⟨pre, by rw [hpre]; exact wait_pre, hJx1⟩⟩
  have HS1 := zH (HSW.out.keep HX.out hX1)
  have HX1 := zH hX1
  have HJ1 := zH hJ1
  have HPRE := zH hpre
  clear hpre hJ1 hX1 H0
  obtain ⟨⟨p0, p1, g0⟩, e1, e2, e3, e4⟩ := HS1.out.cells
  gi_upto_region 2 with (fail)
  clear p0 p1 g0 e1 e2 e3 e4
  obtain ⟨W2, hW2⟩ : ∃ W2, W2 = wc.alloc (.cells #[.int .i64 ps, .int .i64 ((t : Int) - 1)] 152) := ⟨_, rfl⟩
  have hbb : Bx W2 wc.heap.size [.int .i64 ps, .int .i64 ((t : Int) - 1)] 152 := by subst hW2; exact Bx.new _ [_, _] _
  have hS2 : Step wc W2 := by subst hW2; exact Step.alloc _ _
  obtain ⟨gb, hgb⟩ : ∃ gb, gb = wc.heap.size := ⟨_, rfl⟩
  rw [← hgb] at hbb
  rw [← hW2, ← hgb]
  have HBB := zH hbb
  have HS2 := zH (HS1.out.step hS2)
  have HX2 := zH (HX1.out.trans (.of hS2))
  have HJ2 := zH (abidesH HJ.out HJ1.out hS2)
  clear hbb hS2 hW2 hgb HS1 HX1 HJ1
  gi_cut [49] from 147 (fun u wc => ∃ pre : List (StepNo (netOf h T) f ⟨ps, t⟩), pre.map (·.1) = waitL (netOf h T) ⟨ps, t⟩ ++ unwL f ⟨ps, t⟩ ∧ ((u = .bool false ∧ J pre wc ∧ StepX X W wc) ∨ (u = .bool true ∧ Jx pre wc)))
  case first =>
   by_cases hm : 0 < f.wt ⟨ps, (t : Int) - 1⟩
   ·have hd' : decide (0 < f.wt ⟨ps, (t : Int) - 1⟩) = true := by simpa using hm
    have hmm := hm
    have HM := zH (unwL_t (f := f) (p := ⟨ps, t⟩) hmm)
    have HK := zH (mem_stepsL.2 (StepK.unwait (H := netOf h T) (p := ⟨ps, t⟩) hmm))
    clear hmm
    refine wpIn_region_seq (fun _ => False) (fun _ h => h.elim) (kdOf [] []) [0, 1, 3, 7, 0, 31, 63, 127, 255, 255, 255, 1279, 4095, 8191, 16383] [0, 1, 2, 3, 4, 5, 6, 7, 8, 9, 10, 11] [12, 13, 14] (by kernel_rfl) (by kernel_rfl) (by kernel_rfl) (fun i T z hi hk => by simp [kdOf] at hk <;> (try (split at hk <;> cases hk))) ?_
    intro Wx hWx
    have HT := zH hWx
    clear hWx
    have HLK : Hid (∀ W', Step Wx W' → (Instr.lookup 148 (.map (some B.mp)) (.agg #[.int .i64 ps, .int .i64 ((t : Int) - 1)]) false).run Tryz.prog W' = .ok (.int .i64 (f.wt ⟨ps, (t : Int) - 1⟩)) W') := zH fun W' hW' => by
     exact (HS2.out.step (HT.out.trans hW')).wait ⟨ps, (t : Int) - 1⟩
    obtain ⟨⟨p0, p1, g0⟩, e1, e2, e3, e4⟩ := (HS2.out.step HT.out).cells
    have b0 := (HBB.out.step HT.out).cell 0
    have b1 := (HBB.out.step HT.out).cell 1
    simp only [zD, zE] at b0 b1
    repeat ((first | (refine run_off rfl rfl (by rfl) ?_) | (refine run_chain_off rfl rfl (by rfl) (K0_mono _) ?_) | ((refine run_want rfl rfl (by rfl) ⟨?_, fun W hW => ?_, ?_⟩; rotate_left; (· (have d0 := hW.kc p0; have d1 := hW.kc p1; have d2 := hW.kc g0; have d3 := hW.kc e4; have d4 := hW.kc b0; have d5 := hW.kc b1; have d6 := HLK.out _ hW; go_simp; (try with_reducible rfl)))))); (try simp only [Act.put, zA, zB, zC]))
    refine runI_end (L := [_, _, _]) rfl (fun W6 hW6 => ?_)
    clear p0 p1 g0 e1 e2 e3 e4 b0 b1
    have HT6 := zH (HT.out.trans hW6)
    have hJ6 := abidesH HJ.out (HJ2.out) HT6.out
    obtain ⟨fn, tmps, assign, body, hy, hR⟩ := HY.out pre ⟨(⟨ps, (t : Int) - 1⟩, ⟨⟨ps, t⟩, -1, true⟩), HK.out⟩ W6 hJ6 (by rw [manyH_eq]; exact HLN.out pre (by rw [HPRE.out]; exact wait_pre))
    unfold kvP kvS at hy
    dsimp only at hy hR
    clear hW6 hJ6
    gi_wp2_with fail
    refine hR.mono ?_
    clear hR
    rintro e W7 (⟨rfl, hJ7, hX7, hK7⟩ | ⟨rfl, hJx7⟩)
    ·gi_wp2_with fail
     gi_meet
     case rel => exact ⟨_, by rw [List.map_append, HPRE.out, HM.out]; rfl, .inl ⟨rfl, hJ7, (HX2.out.trans (.of HT6.out)).trans hX7⟩⟩
    ·gi_wp2_with fail
     gi_meet
     case rel => exact ⟨_, by rw [List.map_append, HPRE.out, HM.out]; rfl, .inr ⟨rfl, hJx7⟩⟩
   ·have hd' : decide (0 < f.wt ⟨ps, (t : Int) - 1⟩) = false := by simpa using hm
    have HM := zH (unwL_f (f := f) (p := ⟨ps, t⟩) hm)
    refine wpIn_region_seq (fun _ => False) (fun _ h => h.elim) (kdOf [] []) [0, 1, 3, 7, 0, 31, 63, 127, 255, 255, 255, 1279, 4095, 8191, 16383] [0, 1, 2, 3, 4, 5, 6, 7, 8, 9, 10, 11] [12, 13, 14] (by kernel_rfl) (by kernel_rfl) (by kernel_rfl) (fun i T z hi hk => by simp [kdOf] at hk <;> (try (split at hk <;> cases hk))) ?_
    intro Wx hWx
    have HT := zH hWx
    clear hWx
    have HLK : Hid (∀ W', Step Wx W' → (Instr.lookup 148 (.map (some B.mp)) (.agg #[.int .i64 ps, .int .i64 ((t : Int) - 1)]) false).run Tryz.prog W' = .ok (.int .i64 (f.wt ⟨ps, (t : Int) - 1⟩)) W') := zH fun W' hW' => by
     exact (HS2.out.step (HT.out.trans hW')).wait ⟨ps, (t : Int) - 1⟩
    obtain ⟨⟨p0, p1, g0⟩, e1, e2, e3, e4⟩ := (HS2.out.step HT.out).cells
    have b0 := (HBB.out.step HT.out).cell 0
    have b1 := (HBB.out.step HT.out).cell 1
    simp only [zD, zE] at b0 b1
    repeat ((first | (refine run_off rfl rfl (by rfl) ?_) | (refine run_chain_off rfl rfl (by rfl) (K0_mono _) ?_) | ((refine run_want rfl rfl (by rfl) ⟨?_, fun W hW => ?_, ?_⟩; rotate_left; (· (have d0 := hW.kc p0; have d1 := hW.kc p1; have d2 := hW.kc g0; have d3 := hW.kc e4; have d4 := hW.kc b0; have d5 := hW.kc b1; have d6 := HLK.out _ hW; go_simp; (try with_reducible rfl)))))); (try simp only [Act.put, zA, zB, zC]))
    refine runI_end (L := [_, _, _]) rfl (fun W6 hW6 => ?_)
    clear p0 p1 g0 e1 e2 e3 e4 b0 b1
    have HT6 := zH (HT.out.trans hW6)
    clear hW6
    gi_wp2_with fail
    gi_meet
    case rel => exact ⟨pre, by rw [HM.out, HPRE.out, List.append_nil], .inl ⟨rfl, abidesH HJ.out HJ2.out HT6.out, HX2.out.trans (.of HT6.out)⟩⟩
  case rest =>
   obtain ⟨pre, hpre, ⟨rfl, hJ1, hX1⟩ | ⟨rfl, hJx1⟩⟩ := hcut
   rotate_left
   ·gi_wp2
    refine bodyPost_ret (results_none rfl _ _ _) rfl ?_
    exact ⟨⟨_, rfl⟩, .inr ⟨pre, by rw [hpre]; exact unw_pre, hJx1⟩⟩
   rw [← till_zero] at hpre
   have hs1 := HSW.out.keep HX.out hX1
   obtain ⟨⟨p0, p1, g0⟩, e1, e2, e3, e4⟩ := hs1.cells
   clear HS2 HX2 HJ2 HBB HPRE hs1
   gi_upto_region 3 with (fail)
   gi_upto_region 4 with (fail)
   clear p0 p1 g0 e1 e2 e3 e4
   gi_loopw [56] (fun i wr => ∃ k : Nat, k ≤ h.ways.length ∧ i = .int .i64 k ∧ (∃ pre : List (StepNo (netOf h T) f ⟨ps, t⟩), pre.map (·.1) = tillW (netOf h T) f ⟨ps, t⟩ k ∧ J pre wr) ∧ StepX X W wr) (fun i _ => h.ways.length - (intOf i).toNat)
   case atStart => exact ⟨0, Nat.zero_le _, rfl, ⟨pre, hpre, hJ1⟩, hX1⟩
   case round =>
    clear hpre hJ1 hX1
    obtain ⟨k, hk, rfl, ⟨pre, hpre, hJ1⟩, hX1⟩ := hrel
    by_cases hlt : k < h.ways.length
    ·have hW20 : h.ways.length ≤ 20 := HO.out.w20
     have hs1 := HSW.out.keep HX.out hX1
     obtain rfl := HPLP.out (by omega)
     obtain rfl := HPW.out (by omega)
     obtain ⟨pw', cw', bw', ow', he, _, _, hpw', hcw', _⟩ := hs1.fl.hw.wys
     injection he with he1 he2 he3
     have hpp := hpw' (by omega)
     rw [← he1] at hpp
     injection hpp with hpp
     injection hpp with hpb hpo
     subst hpb hpo
     obtain ⟨y0, y1, y2, y3⟩ := hcw' k hlt
     have HWO := zH (HO.out.way k hlt)
     obtain ⟨x, hx⟩ : ∃ x, x = h.ways[k] := ⟨_, rfl⟩
     rw [← hx] at y0 y1 y2 y3 HWO
     have HXX := zH hx
     have hxm : 1 ≤ x.mins ∧ x.mins ≤ 15 := HWO.out.2.2.2.2
     have hix : (0 : Int) ≤ (k : Int) ∧ (k : Int) < (h.ways.length : Int) := by omega
     have hw3 : IntKind.i64.wrap ((t : Int) + x.mins) = (t : Int) + x.mins := by rw [IntKind.wrap_i64]; omega
     have hw4 : IntKind.i64.wrap ((t : Int) - x.mins) = (t : Int) - x.mins := by rw [IntKind.wrap_i64]; omega
     obtain ⟨⟨p0, p1, g0⟩, e1, e2, e3, e4⟩ := hs1.cells
     have l1 := hs1.bp.lt
     have HS1 := zH hs1
     have HX1 := zH hX1
     have HJ1 := zH hJ1
     have HPRE := zH hpre
     have HPP := zH (show pre.map (·.1) <+: stepsL (netOf h T) f ⟨ps, t⟩ by rw [hpre]; exact till_steps (show k ≤ (netOf h T).W from hk))
     clear hs1 hX1 hJ1 hpre hx he2 he3 hpw' hcw' he1
     gi_upto_region 7 with (fail)
     clear p0 p1 g0 e1 e2 e3 e4 y0 y1 y2 y3 l1
     obtain ⟨W5, hW5⟩ : ∃ W5, W5 = wr.alloc (.cells #[.int .i64 x.frm, .int .i64 x.dst, .int .i64 x.cap, .int .i64 x.mins] 140) := ⟨_, rfl⟩
     have hbx : Bx W5 wr.heap.size [.int .i64 x.frm, .int .i64 x.dst, .int .i64 x.cap, .int .i64 x.mins] 140 := by subst hW5; exact Bx.new _ [_, _, _, _] _
     have hS5 : Step wr W5 := by subst hW5; exact Step.alloc _ _
     obtain ⟨gx, hgx⟩ : ∃ gx, gx = wr.heap.size := ⟨_, rfl⟩
     rw [← hgx] at hbx
     rw [← hW5, ← hgx]
     have HBX := zH hbx
     have HS5 := zH (HS1.out.step hS5)
     have HX5 := zH (HX1.out.trans (.of hS5))
     have HJ5 := zH (abidesH HJ.out HJ1.out hS5)
     clear hbx hS5 hW5 hgx HS1 HX1 HJ1
     gi_cut [106] from 147 (fun u wc => ∃ pre : List (StepNo (netOf h T) f ⟨ps, t⟩), pre.map (·.1) = tillW (netOf h T) f ⟨ps, t⟩ k ++ goL (netOf h T) f ⟨ps, t⟩ k ∧ ((u = .bool false ∧ J pre wc ∧ StepX X W wc ∧ Bx wc gx [.int .i64 x.frm, .int .i64 x.dst, .int .i64 x.cap, .int .i64 x.mins] 140) ∨ (u = .bool true ∧ Jx pre wc)))
     case first =>
      by_cases q1 : x.frm = ps
      rotate_left
      ·have hd : (x.frm == ps) = false := by simpa using q1
       have HM := zH (go_none (ps := ps) (T := T) (f := f) (t := t) HO.out hlt HXX.out (fun e => q1 e.1))
       clear q1
       refine wpIn_region_seq (fun _ => False) (fun _ h => h.elim) (kdOf [] []) (0 :: 1 :: 0 :: 4 :: 15 :: 31 :: 63 :: 63 :: 191 :: 447 :: 959 :: 2047 :: 4095 :: 8191 :: 16383 :: 32767 :: 65535 :: 131071 :: 16383 :: 524287 :: 1048575 :: 16383 :: 2113535 :: 8388607 :: 16777215 :: 16383 :: 33570815 :: 134217727 :: 268435455 :: 536870911 :: 1073741823 :: 1073741823 :: 3221225471 :: 1073741823 :: 16106127359 :: 1073741823 :: 1073741823 :: 104152956927 :: 274877906943 :: 549755813887 :: 1099511627775 :: []) (0 :: 1 :: 2 :: 3 :: 4 :: 5 :: 6 :: 7 :: 8 :: 9 :: 10 :: 11 :: 12 :: 13 :: 14 :: 15 :: 16 :: 17 :: 18 :: 19 :: 20 :: 21 :: 22 :: 23 :: 24 :: 25 :: 26 :: 27 :: 28 :: 29 :: 30 :: 31 :: 32 :: 33 :: 34 :: 35 :: 36 :: 37 :: []) [38, 39, 40] (by kernel_rfl) (by kernel_rfl) (by kernel_rfl) (fun i T z hi hk => by simp [kdOf] at hk <;> (try (split at hk <;> cases hk))) ?_
       intro Wx hWx
       have HT := zH hWx
       clear hWx
       obtain ⟨⟨p0, p1, g0⟩, e1, e2, e3, e4⟩ := (HS5.out.step HT.out).cells
       obtain ⟨c0, c1, c2, c3⟩ := cellsW (HBX.out.step HT.out)
       skip
       repeat ((first | (refine run_off rfl rfl (by rfl) ?_) | (refine run_chain_off rfl rfl (by rfl) (K0_mono _) ?_) | ((refine run_want rfl rfl (by rfl) ⟨?_, fun W hW => ?_, ?_⟩; rotate_left; (· (have d0 := hW.kc p0; have d1 := hW.kc p1; have d2 := hW.kc g0; have d3 := hW.kc e2; have d4 := hW.kc e3; have d5 := hW.kc c0; have d6 := hW.kc c1; have d7 := hW.kc c2; have d8 := hW.kc c3; go_simp; (try with_reducible rfl)))))); (try simp only [Act.put, zA, zB, zC]))
       clear p0 p1 g0 e1 e2 e3 e4 c0 c1 c2 c3
       refine runI_end (L := [_, _, _]) rfl (fun W6 hW6 => ?_)
       have HT6 := zH (HT.out.trans hW6)
       clear hW6
       gi_wp2_with fail
       gi_meet
       case rel => exact ⟨pre, by rw [HM.out, List.append_nil]; exact HPRE.out, .inl ⟨rfl, abidesH HJ.out HJ5.out HT6.out, HX5.out.trans (.of HT6.out), HBX.out.step HT6.out⟩⟩
      have hd : (x.frm == ps) = true := by simpa using q1
      have Q1 := zH q1
      clear q1
      by_cases q2 : (t : Int) + x.mins ≤ (T : Int)
      rotate_left
      ·have hd2 : decide ((t : Int) + x.mins ≤ (T : Int)) = false := by simpa using q2
       have HM := zH (go_none (ps := ps) (T := T) (f := f) (t := t) HO.out hlt HXX.out (fun e => q2 e.2.1))
       clear q2
       refine wpIn_region_seq (fun _ => False) (fun _ h => h.elim) (kdOf [] []) (0 :: 1 :: 0 :: 4 :: 15 :: 31 :: 63 :: 63 :: 191 :: 447 :: 959 :: 2047 :: 4095 :: 8191 :: 16383 :: 32767 :: 65535 :: 131071 :: 16383 :: 524287 :: 1048575 :: 16383 :: 2113535 :: 8388607 :: 16777215 :: 16383 :: 33570815 :: 134217727 :: 268435455 :: 536870911 :: 1073741823 :: 1073741823 :: 3221225471 :: 1073741823 :: 16106127359 :: 1073741823 :: 1073741823 :: 104152956927 :: 274877906943 :: 549755813887 :: 1099511627775 :: []) (0 :: 1 :: 2 :: 3 :: 4 :: 5 :: 6 :: 7 :: 8 :: 9 :: 10 :: 11 :: 12 :: 13 :: 14 :: 15 :: 16 :: 17 :: 18 :: 19 :: 20 :: 21 :: 22 :: 23 :: 24 :: 25 :: 26 :: 27 :: 28 :: 29 :: 30 :: 31 :: 32 :: 33 :: 34 :: 35 :: 36 :: 37 :: []) [38, 39, 40] (by kernel_rfl) (by kernel_rfl) (by kernel_rfl) (fun i T z hi hk => by simp [kdOf] at hk <;> (try (split at hk <;> cases hk))) ?_
       intro Wx hWx
       have HT := zH hWx
       clear hWx
       obtain ⟨⟨p0, p1, g0⟩, e1, e2, e3, e4⟩ := (HS5.out.step HT.out).cells
       obtain ⟨c0, c1, c2, c3⟩ := cellsW (HBX.out.step HT.out)
       skip
       repeat ((first | (refine run_off rfl rfl (by rfl) ?_) | (refine run_chain_off rfl rfl (by rfl) (K0_mono _) ?_) | ((refine run_want rfl rfl (by rfl) ⟨?_, fun W hW => ?_, ?_⟩; rotate_left; (· (have d0 := hW.kc p0; have d1 := hW.kc p1; have d2 := hW.kc g0; have d3 := hW.kc e2; have d4 := hW.kc e3; have d5 := hW.kc c0; have d6 := hW.kc c1; have d7 := hW.kc c2; have d8 := hW.kc c3; go_simp; (try with_reducible rfl)))))); (try simp only [Act.put, zA, zB, zC]))
       clear p0 p1 g0 e1 e2 e3 e4 c0 c1 c2 c3
       refine runI_end (L := [_, _, _]) rfl (fun W6 hW6 => ?_)
       have HT6 := zH (HT.out.trans hW6)
       clear hW6
       gi_wp2_with fail
       gi_meet
       case rel => exact ⟨pre, by rw [HM.out, List.append_nil]; exact HPRE.out, .inl ⟨rfl, abidesH HJ.out HJ5.out HT6.out, HX5.out.trans (.of HT6.out), HBX.out.step HT6.out⟩⟩
      have hd2 : decide ((t : Int) + x.mins ≤ (T : Int)) = true := by simpa using q2
      have Q2 := zH q2
      have htx : t < T := by omega
      have hix2 : (0 : Int) ≤ (t : Int) ∧ (t : Int) < (T : Int) := by omega
      clear q2
      by_cases q3 : f.pl k t < x.cap
      rotate_left
      ·have hd3 : decide (f.pl k t < x.cap) = false := by simpa using q3
       have HM := zH (go_none (ps := ps) (T := T) (f := f) (t := t) HO.out hlt HXX.out (fun e => q3 e.2.2))
       clear q3
       refine wpIn_region_seq (fun _ => False) (fun _ h => h.elim) (kdOf [] []) (0 :: 1 :: 0 :: 4 :: 15 :: 31 :: 63 :: 63 :: 191 :: 447 :: 959 :: 2047 :: 4095 :: 8191 :: 16383 :: 32767 :: 65535 :: 131071 :: 16383 :: 524287 :: 1048575 :: 16383 :: 2113535 :: 8388607 :: 16777215 :: 16383 :: 33570815 :: 134217727 :: 268435455 :: 536870911 :: 1073741823 :: 1073741823 :: 3221225471 :: 1073741823 :: 16106127359 :: 1073741823 :: 1073741823 :: 104152956927 :: 274877906943 :: 549755813887 :: 1099511627775 :: []) (0 :: 1 :: 2 :: 3 :: 4 :: 5 :: 6 :: 7 :: 8 :: 9 :: 10 :: 11 :: 12 :: 13 :: 14 :: 15 :: 16 :: 17 :: 18 :: 19 :: 20 :: 21 :: 22 :: 23 :: 24 :: 25 :: 26 :: 27 :: 28 :: 29 :: 30 :: 31 :: 32 :: 33 :: 34 :: 35 :: 36 :: 37 :: []) [38, 39, 40] (by kernel_rfl) (by kernel_rfl) (by kernel_rfl) (fun i T z hi hk => by simp [kdOf] at hk <;> (try (split at hk <;> cases hk))) ?_
       intro Wx hWx
       have HT := zH hWx
       clear hWx
       obtain ⟨⟨p0, p1, g0⟩, e1, e2, e3, e4⟩ := (HS5.out.step HT.out).cells
       obtain ⟨c0, c1, c2, c3⟩ := cellsW (HBX.out.step HT.out)
       skip
       obtain ⟨c, hvl, r1, r2⟩ := (HS5.out.step HT.out).fl.plan hlt htx
       clear hvl
       repeat ((first | (refine run_off rfl rfl (by rfl) ?_) | (refine run_chain_off rfl rfl (by rfl) (K0_mono _) ?_) | ((refine run_want rfl rfl (by rfl) ⟨?_, fun W hW => ?_, ?_⟩; rotate_left; (· (have d0 := hW.kc p0; have d1 := hW.kc p1; have d2 := hW.kc g0; have d3 := hW.kc e2; have d4 := hW.kc e3; have d5 := hW.kc c0; have d6 := hW.kc c1; have d7 := hW.kc c2; have d8 := hW.kc c3; have d9 := hW.kc r1; have d10 := hW.kc r2; go_simp; (try with_reducible rfl)))))); (try simp only [Act.put, zA, zB, zC]))
       clear p0 p1 g0 e1 e2 e3 e4 c0 c1 c2 c3 r1 r2
       refine runI_end (L := [_, _, _]) rfl (fun W6 hW6 => ?_)
       have HT6 := zH (HT.out.trans hW6)
       clear hW6
       gi_wp2_with fail
       gi_meet
       case rel => exact ⟨pre, by rw [HM.out, List.append_nil]; exact HPRE.out, .inl ⟨rfl, abidesH HJ.out HJ5.out HT6.out, HX5.out.trans (.of HT6.out), HBX.out.step HT6.out⟩⟩
      have hd3 : decide (f.pl k t < x.cap) = true := by simpa using q3
      obtain ⟨hm1, hm2⟩ := go_data (ps := ps) (T := T) (f := f) (t := t) HO.out hlt HXX.out Q1.out Q2.out q3
      have HM := zH hm1
      have HK := zH hm2
      clear q3 hm1 hm2
      refine wpIn_region_seq (fun _ => False) (fun _ h => h.elim) (kdOf [] []) (0 :: 1 :: 0 :: 4 :: 15 :: 31 :: 63 :: 63 :: 191 :: 447 :: 959 :: 2047 :: 4095 :: 8191 :: 16383 :: 32767 :: 65535 :: 131071 :: 16383 :: 524287 :: 1048575 :: 16383 :: 2113535 :: 8388607 :: 16777215 :: 16383 :: 33570815 :: 134217727 :: 268435455 :: 536870911 :: 1073741823 :: 1073741823 :: 3221225471 :: 1073741823 :: 16106127359 :: 1073741823 :: 1073741823 :: 104152956927 :: 274877906943 :: 549755813887 :: 1099511627775 :: []) (0 :: 1 :: 2 :: 3 :: 4 :: 5 :: 6 :: 7 :: 8 :: 9 :: 10 :: 11 :: 12 :: 13 :: 14 :: 15 :: 16 :: 17 :: 18 :: 19 :: 20 :: 21 :: 22 :: 23 :: 24 :: 25 :: 26 :: 27 :: 28 :: 29 :: 30 :: 31 :: 32 :: 33 :: 34 :: 35 :: 36 :: 37 :: []) [38, 39, 40] (by kernel_rfl) (by kernel_rfl) (by kernel_rfl) (fun i T z hi hk => by simp [kdOf] at hk <;> (try (split at hk <;> cases hk))) ?_
      intro Wx hWx
      have HT := zH hWx
      clear hWx
      obtain ⟨⟨p0, p1, g0⟩, e1, e2, e3, e4⟩ := (HS5.out.step HT.out).cells
      obtain ⟨c0, c1, c2, c3⟩ := cellsW (HBX.out.step HT.out)
      skip
      obtain ⟨c, hvl, r1, r2⟩ := (HS5.out.step HT.out).fl.plan hlt htx
      clear hvl
      repeat ((first | (refine run_off rfl rfl (by rfl) ?_) | (refine run_chain_off rfl rfl (by rfl) (K0_mono _) ?_) | ((refine run_want rfl rfl (by rfl) ⟨?_, fun W hW => ?_, ?_⟩; rotate_left; (· (have d0 := hW.kc p0; have d1 := hW.kc p1; have d2 := hW.kc g0; have d3 := hW.kc e2; have d4 := hW.kc e3; have d5 := hW.kc c0; have d6 := hW.kc c1; have d7 := hW.kc c2; have d8 := hW.kc c3; have d9 := hW.kc r1; have d10 := hW.kc r2; go_simp; (try with_reducible rfl)))))); (try simp only [Act.put, zA, zB, zC]))
      clear r1 r2
      refine runI_end (L := [_, _, _]) rfl (fun W6 hW6 => ?_)
      clear p0 p1 g0 e1 e2 e3 e4 c0 c1 c2 c3
      have HT6 := zH (HT.out.trans hW6)
      have hJ6 := abidesH HJ.out (HJ5.out) HT6.out
      obtain ⟨fn, tmps, assign, body, hy, hR⟩ := HY.out pre ⟨(⟨x.dst, (t : Int) + x.mins⟩, ⟨⟨ps, t⟩, k, false⟩), HK.out⟩ W6 hJ6 (by rw [manyH_eq]; exact HLN.out pre HPP.out)
      unfold kvP kvS at hy
      dsimp only at hy hR
      clear hW6 hJ6
      gi_wp2_with fail
      refine hR.mono ?_
      clear hR
      rintro e W7 (⟨rfl, hJ7, hX7, hK7⟩ | ⟨rfl, hJx7⟩)
      ·gi_wp2_with fail
       gi_meet
       case rel => exact ⟨_, by rw [List.map_append, HPRE.out, HM.out]; rfl, .inl ⟨rfl, hJ7, (HX5.out.trans (.of HT6.out)).trans hX7, (HBX.out.step HT6.out).keepT hK7⟩⟩
      ·gi_wp2_with fail
       gi_meet
       case rel => exact ⟨_, by rw [List.map_append, HPRE.out, HM.out]; rfl, .inr ⟨rfl, hJx7⟩⟩
     case rest =>
      obtain ⟨pre9, hpre, ⟨rfl, hJ1, hX1, hbx⟩ | ⟨rfl, hJx1⟩⟩ := hcut
      rotate_left
      ·gi_wp2
       refine bodyPost_ret (results_none rfl _ _ _) rfl ?_
       exact ⟨⟨_, rfl⟩, .inr ⟨pre9, by rw [hpre]; exact go_pre (show k < (netOf h T).W from hlt), hJx1⟩⟩
      clear HS5 HX5 HJ5 HBX HPRE HPP
      have hs1 := HSW.out.keep HX.out hX1
      have hpp9 : pre9.map (·.1) <+: stepsL (netOf h T) f ⟨ps, t⟩ := by rw [hpre]; exact go_pre (show k < (netOf h T).W from hlt)
      obtain ⟨pre, hpe⟩ : ∃ z, z = pre9 := ⟨_, rfl⟩
      rw [← hpe] at hpre hJ1 hpp9
      clear hpe pre9
      have HPP := zH hpp9
      have HPRE := zH hpre
      have HBX := zH hbx
      have HS5 := zH hs1
      have HX5 := zH hX1
      have HJ5 := zH hJ1
      obtain ⟨⟨p0, p1, g0⟩, e1, e2, e3, e4⟩ := hs1.cells
      obtain ⟨c0, c1, c2, c3⟩ := cellsW hbx
      clear hs1 hbx hpre hJ1 hX1 hpp9
      gi_upto_region 9 with (fail)
      clear p0 p1 g0 e1 e2 e3 e4 c0 c1 c2 c3
      gi_cut [145] from 147 (fun u wc => ∃ pre : List (StepNo (netOf h T) f ⟨ps, t⟩), pre.map (·.1) = (tillW (netOf h T) f ⟨ps, t⟩ k ++ goL (netOf h T) f ⟨ps, t⟩ k) ++ bkL (netOf h T) f ⟨ps, t⟩ k ∧ ((u = .bool false ∧ J pre wc ∧ StepX X W wc) ∨ (u = .bool true ∧ Jx pre wc)))
      case first =>
       by_cases q1 : x.dst = ps
       rotate_left
       ·have hd : (x.dst == ps) = false := by simpa using q1
        have HM := zH (bk_none (ps := ps) (T := T) (f := f) (t := t) HO.out hlt HXX.out (fun e => q1 e.1))
        clear q1
        obtain ⟨⟨p0, p1, g0⟩, e1, e2, e3, e4⟩ := HS5.out.cells
        obtain ⟨c0, c1, c2, c3⟩ := cellsW HBX.out
        skip
        gi_wp2_with fail
        gi_meet
        case rel => exact ⟨pre, by rw [HM.out, List.append_nil]; exact HPRE.out, .inl ⟨rfl, HJ5.out, HX5.out⟩⟩
       have hd : (x.dst == ps) = true := by simpa using q1
       have Q1 := zH q1
       clear q1
       by_cases q2 : 0 ≤ (t : Int) - x.mins
       rotate_left
       ·have hd2 : decide ((t : Int) - x.mins ≥ 0) = false := by simpa using q2
        have hd2' : decide (x.mins ≤ (t : Int)) = false := by simp; omega
        have HM := zH (bk_none (ps := ps) (T := T) (f := f) (t := t) HO.out hlt HXX.out (fun e => q2 e.2.1))
        clear q2
        obtain ⟨⟨p0, p1, g0⟩, e1, e2, e3, e4⟩ := HS5.out.cells
        obtain ⟨c0, c1, c2, c3⟩ := cellsW HBX.out
        skip
        gi_wp2_with fail
        gi_meet
        case rel => exact ⟨pre, by rw [HM.out, List.append_nil]; exact HPRE.out, .inl ⟨rfl, HJ5.out, HX5.out⟩⟩
       have hd2 : decide ((t : Int) - x.mins ≥ 0) = true := by simpa using q2
       have hd2' : decide (x.mins ≤ (t : Int)) = true := by simp; omega
       obtain ⟨b, hb⟩ : ∃ b : Nat, (t : Int) - x.mins = b := ⟨((t : Int) - x.mins).toNat, by omega⟩
       have hbT : b < T := by omega
       have htn : ((t : Int) - x.mins).toNat = b := by omega
       have hix2 : (0 : Int) ≤ (t : Int) - x.mins ∧ (t : Int) - x.mins < (T : Int) := by omega
       have HB := zH hb
       clear q2 hb
       by_cases q3 : 0 < f.pl k b
       rotate_left
       ·have hd3 : decide (0 < f.pl k b) = false := by simpa using q3
        have HM := zH (bk_none (ps := ps) (T := T) (f := f) (t := t) HO.out hlt HXX.out (fun e => q3 (by have := e.2.2; rw [htn] at this; exact this)))
        clear q3
        obtain ⟨c, hvl, r1, r2⟩ := HS5.out.fl.plan hlt hbT
        clear hvl
        obtain ⟨⟨p0, p1, g0⟩, e1, e2, e3, e4⟩ := HS5.out.cells
        obtain ⟨c0, c1, c2, c3⟩ := cellsW HBX.out
        skip
        gi_wp2_with fail
        gi_meet
        case rel => exact ⟨pre, by rw [HM.out, List.append_nil]; exact HPRE.out, .inl ⟨rfl, HJ5.out, HX5.out⟩⟩
       have hd3 : decide (0 < f.pl k b) = true := by simpa using q3
       obtain ⟨hm1, hm2⟩ := bk_data (ps := ps) (T := T) (f := f) (t := t) HO.out hlt HXX.out Q1.out HB.out q3
       have HM := zH hm1
       have HK := zH hm2
       clear q3 hm1 hm2
       obtain ⟨c, hvl, r1, r2⟩ := HS5.out.fl.plan hlt hbT
       clear hvl
       obtain ⟨⟨p0, p1, g0⟩, e1, e2, e3, e4⟩ := HS5.out.cells
       obtain ⟨c0, c1, c2, c3⟩ := cellsW HBX.out
       obtain ⟨fn, tmps, assign, body, hy, hR⟩ := HY.out pre ⟨(⟨x.frm, (t : Int) - x.mins⟩, ⟨⟨ps, t⟩, k, true⟩), HK.out⟩ wc HJ5.out (by rw [manyH_eq]; exact HLN.out pre HPP.out)
       unfold kvP kvS at hy
       dsimp only at hy hR
       gi_wp2_with fail
       refine hR.mono ?_
       clear hR
       rintro e W7 (⟨rfl, hJ7, hX7, hK7⟩ | ⟨rfl, hJx7⟩)
       ·gi_wp2_with fail
        gi_meet
        case rel => exact ⟨_, by rw [List.map_append, HPRE.out, HM.out]; rfl, .inl ⟨rfl, hJ7, HX5.out.trans hX7⟩⟩
       ·gi_wp2_with fail
        gi_meet
        case rel => exact ⟨_, by rw [List.map_append, HPRE.out, HM.out]; rfl, .inr ⟨rfl, hJx7⟩⟩
      case rest =>
       obtain ⟨pre9, hpre, ⟨rfl, hJ1, hX1⟩ | ⟨rfl, hJx1⟩⟩ := hcut
       all_goals rw [← till_next] at hpre
       rotate_left
       ·gi_wp2
        refine bodyPost_ret (results_none rfl _ _ _) rfl ?_
        exact ⟨⟨_, rfl⟩, .inr ⟨pre9, by rw [hpre]; exact till_steps (show k + 1 ≤ (netOf h T).W from hlt), hJx1⟩⟩
       gi_wp2
       go_roundw
       case rel => exact ⟨k + 1, by omega, by go_num, ⟨pre9, hpre, hJ1⟩, hX1⟩
       case measure => simp [intOf]; omega
    ·gi_wp2
     go_end0
     have hkz : k = h.ways.length := by omega
     subst hkz
     exact ⟨⟨_, rfl⟩, .inl ⟨pre, by rw [hpre]; exact till_all, hJ1⟩⟩
end Go.Proofs.YtfhmdpicoccnfaaGreat
namespace Go.BT
open Go.RowKit
def markD (D : Nat) : Deferred := { target := .collected D, args := #[] }
def MarksAt (Ds : List Nat) (W : World) : Prop := ∀ D ∈ Ds, W.heap[D]? = some (.deferred (some []))
structure MarkStep (W W' : World) : Prop where
 os : W'.os = W.os
 tape : W'.tape = W.tape
 output : W'.output = W.output
 size : W'.heap.size = W.heap.size
 block : ∀ k : Nat, (∀ x, W.heap[k]? ≠ some (Obj.deferred x)) → W'.heap[k]? = W.heap[k]?
theorem MarkStep.refl (W : World) : MarkStep W W := ⟨rfl, rfl, rfl, rfl, fun _ _ => rfl⟩
theorem MarkStep.bx {W W' : World} (m : MarkStep W W') {g : Nat} {cs : List Value} {T : TypeId} (h : Bx W g cs T) : Bx W' g cs T := by
 unfold Bx at *
 rw [m.block g (fun x e => by rw [h] at e; cases e)]; exact h
theorem MarkStep.step {w W W' : World} (h : Step w W) (m : MarkStep W W') (hm : ∀ (k : Nat) x, k < w.heap.size → W.heap[k]? = some (Obj.deferred x) → W'.heap[k]? = W.heap[k]?) : Step w W' :=
 ⟨m.os.trans h.os, m.tape.trans h.tape, m.output.trans h.output, by have := h.size; have := m.size; omega, fun k hk _ => by
  have h1 := h.block k hk id
  rw [← h1]
  cases q : W.heap[k]? with
  | none => rw [m.block k (fun x e => by rw [q] at e; cases e), q]
  | some o =>
   cases o with
   | deferred x => rw [hm k x hk q, q]
   | _ => rw [m.block k (fun x e => by rw [q] at e; cases e), q]⟩
theorem leaves_marks {P : Program} {F : Fence} {n : Nat} {fn : Func} {tmps : Array Value} {R : Ending → World → Prop} : ∀ (Ds : List Nat) (W : World), Ds.Nodup → MarksAt Ds W →
  (∀ W', MarkStep W W' → (∀ k : Nat, k ∉ Ds → W'.heap[k]? = W.heap[k]?) → LeavesInM F n P fn tmps R [] .returning W') → LeavesInM F n P fn tmps R (Ds.map markD) .returning W
 | [], W, _, _, h => h W (MarkStep.refl W) fun _ _ => rfl
 | D :: Ds, W, hn, hm, h => by
  obtain ⟨hD, hn'⟩ := List.nodup_cons.1 hn
  have h1 := hm D List.mem_cons_self
  have hg := grownBy_putObj' W D (.deferred none)
  have hlt : D < W.heap.size := (Array.getElem?_eq_some_iff.1 h1).1
  have hblk : ∀ k : Nat, k ≠ D → (W.putObj D (.deferred none)).heap[k]? = W.heap[k]? := fun k hk => by
   by_cases hkl : k < W.heap.size
   ·exact hg.block k hkl (fun e => by cases e; exact hk rfl)
   ·have hs : (W.putObj D (.deferred none)).heap.size = W.heap.size := by simp [World.putObj]
    rw [Array.getElem?_eq_none (by omega), Array.getElem?_eq_none (by omega)]
  refine ⟨by simp, .inl ⟨D, _, rfl, run_takeDeferred h1, ?_⟩⟩
  refine leaves_marks Ds _ hn' (fun D' hD' => ?_) fun W' m hk => h W' ?_ fun k hkn => ?_
  ·rw [hblk D' (fun e => hD (e ▸ hD'))]; exact hm D' (List.mem_cons_of_mem _ hD')
  ·refine ⟨m.os.trans hg.os, m.tape.trans hg.tape, m.output.trans hg.output, by rw [m.size]; simp [World.putObj], fun k hk => ?_⟩
   have hkD : k ≠ D := fun e => hk _ (e ▸ h1)
   rw [m.block k (fun x e => hk x (by rw [← hblk k hkD]; exact e)), hblk k hkD]
  ·rw [hk k (fun h => hkn (List.mem_cons_of_mem _ h)), hblk k (fun e => hkn (e ▸ List.mem_cons_self))]
theorem results_tct {P : Program} {fn : Func} {tmps : Array Value} {w : World} {t u x : Tmp} {T T' : TypeId} {k g : Nat} {cs : List Value} (hr : fn.results = #[.tmp t, .cell u T, .tmp x]) (hi : SI P T k)
  (hu : tmps.getD u undef = .pointer (some ⟨g, 0, none⟩)) (hb : Bx w g cs T') (hk : cs.length = k) : (results fn tmps).run P w = .ok (.tuple #[tmps.getD t undef, .agg cs.toArray, tmps.getD x undef]) w := by
 have hu' : tmps[u]?.getD undef = .pointer (some ⟨g, 0, none⟩) := by simpa using hu
 simp [results, hr, hu', asAddr, run_loadVar_bx hi hb hk]
theorem stepH_scope {P : Program} {b : Frame} {a : Act} {k : List Item} {cs : List Frame} {w : World} {c : Code} : step P (lone (b.atR a (.code (.scope c) :: k)) cs w) = .next (lone (b.atR a (.code c :: .inScope c :: k)) cs w) :=
 step_lone_go (by simp [stepG, stepG.exec, Frame.atR])
theorem stepH_inScope {P : Program} {b : Frame} {a : Act} {k : List Item} {cs : List Frame} {w : World} {c : Code} : step P (lone (b.atR a (.inScope c :: k)) cs w) = .next (lone (b.atR a k) cs w) :=
 step_lone_go (by simp [stepG, stepG.exec, Frame.atR])
theorem wpIn_scopeH {F : Fence} {n : Nat} {P : Program} {Q : Exit → Act → World → Prop} {a : Act} {w : World} {c : Code} (h : c.wpIn F n P (Exit.noGoto Q) a w) : (Code.scope c).wpIn F n P Q a w := by
 intro b k cs hro hb hr
 have h0 : (lone (b.atR a (.code (.scope c) :: k)) cs w).fenced P F := fenced_calm hb hr rfl
 obtain ⟨e, a₁, w₁, hq, harr⟩ := h b (.inScope c :: k) cs hro hb hr
 cases e with
 | normal => exact ⟨.normal, a₁, w₁, hq, .head h0 stepH_scope (StepsIn.trans harr (.one (fenced_calm hb hr rfl) stepH_inScope))⟩
 | exit id =>
  have hx : exitTo id (.inScope c :: k) = exitTo id k := by simp [exitTo]
  exact ⟨.exit id, a₁, w₁, hq, fun k' hk => .head h0 stepH_scope (harr.1 k' (by rw [hx]; exact hk)),
   fun hr' hk => let ⟨k₁, h1, h2⟩ := harr.2 hr' (by rw [hx]; exact hk); ⟨k₁, h1, .head h0 stepH_scope h2⟩⟩
 | goto l => exact hq.elim
 | ret => exact ⟨_, a₁, w₁, hq, .of_steps (.one h0 stepH_scope) harr⟩
 | panic ch => exact ⟨_, a₁, w₁, hq, .of_steps (.one h0 stepH_scope) harr⟩
 | outgrown => exact ⟨_, a₁, w₁, hq, .of_steps (.one h0 stepH_scope) harr⟩
theorem wpIn_part {F : Fence} {n : Nat} {P : Program} {s : Code} {K : Act → World → Prop} {Q' : Exit → Act → World → Prop} {a : Act} {w : World} (R : Act → World → Prop)
  (first : s.wpIn F n P (fun e a w => e = .normal ∧ R a w) a w) (rest : ∀ a' w', R a' w' → K a' w') : s.wpIn F n P (Exit.then K Q') a w :=
 wpIn_mono first (by rintro e a' w' ⟨rfl, h⟩; exact rest _ _ h)
end Go.BT
namespace Go.Proofs.YtfhmdpicoccnfaaGreat
set_option linter.unusedSimpArgs false
set_option linter.unusedVariables false
open Go.RowKit Go.BT
theorem siPlace : SI Tryz.prog 152 2 := ⟨⟨_, Tryz.underlying152⟩, by kernel_rfl⟩
theorem slice_tail (w : World) (p : Option Addr) (n c : Nat) (hn : 1 ≤ n) (hc : n ≤ c) (g off : Nat) (hp : p = some ⟨g, off, none⟩) :
  (Instr.slice 202 (.slice p n c) (some (.int .i64 1)) none none).run Tryz.prog w = .ok (.slice (some (if c = 1 then ⟨g, off, none⟩ else ⟨g, off + 2, none⟩)) (n - 1) (c - 1)) w := by
 subst hp
 have hu := Tryz.underlying202
 have hi : (Tryz.prog.info? 152).map (·.size) = some 2 := by kernel_rfl
 obtain ⟨i, hi1, hi2⟩ := Option.map_eq_some_iff.1 hi
 have h1 : (1 : Int) ≤ n := by omega
 by_cases e : c = 1
 ·subst e
  simp [Instr.slice, run_underlying hu, Instr.sliceBounds, Instr.sliceBound, asIntOf, h1, sizeOf, typeInfo, hi1, hi2, Result.andThen]
 ·simp [Instr.slice, run_underlying hu, Instr.sliceBounds, Instr.sliceBound, asIntOf, h1, sizeOf, typeInfo, hi1, hi2, Result.andThen, e, Addr.add_lit]
attribute [local go_sem] Oper.semAt_some
theorem addQ_keys (ord : List (Pc × Sp)) (p : Pc) (s : Sp) : addQ ord p (keysL ord) = keysL (addB ord (p, s)) := by
 unfold addQ addB
 split
 ·rfl
 ·simp [keysL]
theorem addQ_drop (ord : List (Pc × Sp)) (p : Pc) (s : Sp) {k : Nat} (hk : k ≤ ord.length) : addQ ord p ((keysL ord).drop k) = (keysL (addB ord (p, s))).drop k := by
 unfold addQ addB
 split
 ·rfl
 ·simp only [keysL, List.map_append, List.map_cons, List.map_nil]
  rw [List.drop_append_of_le_length (by simpa using hk)]
theorem found_len {h : Hall} {T : Nat} {f : Fs} (O : HallOk h) (hT : T ≤ 61) {ord : List (Pc × Sp)} (F : Go.BT.Found (netOf h T) f ord) : ord.length ≤ 620 := by
 have h1 := F.len
 have h2 : (netOf h T).n * ((netOf h T).T + 1) ≤ 10 * 62 := Nat.mul_le_mul (show h.people.length ≤ 10 from O.n10) (show T + 1 ≤ 62 by omega)
 omega
theorem srch_keeps {base : Nat} {W W' : World} {gs gq r : Nat} {v : Value} {ord : List (Pc × Sp)} {Q : List Pc} (S : Srch base W gs gq r v ord Q) (hX : StepX (SrchX gq r v) W W') {k : Nat} {o : Obj} (hk : W.heap[k]? = some o)
  (h1 : ∀ cs fr, o ≠ .cells cs 202 fr) (h2 : ∀ es c, o ≠ .map es c) (h3 : v.ownBlock ≠ some k) : W'.heap[k]? = some o := by
 rw [hX.block k (Array.getElem?_eq_some_iff.1 hk).1 ?_]
 ·exact hk
 ·rintro (rfl | rfl | e)
  ·have := S.qb
   unfold Bx at this
   rw [hk] at this
   injection this with this
   exact h1 _ _ this
  ·obtain ⟨es, c, hm, _⟩ := S.mg
   rw [hk] at hm
   injection hm with hm
   exact h2 _ _ hm
  ·exact h3 e
theorem own_cells {base : Nat} {W : World} {v : Value} {l : List Pc} (h : OwnQ base 152 W v l) {k : Nat} {o : Obj} (hk : W.heap[k]? = some o) (ho : ∀ cs fr, o ≠ .cells cs 152 fr) : v.ownBlock ≠ some k := by
 rcases h with ⟨rfl, _⟩ | ⟨g, off, cap, cur, rfl, _, hg, _⟩
 ·simp [Value.ownBlock]
 ·intro e
  simp [Value.ownBlock] at e
  subst e
  rw [hk] at hg
  injection hg with hg
  exact ho _ _ hg
def addV (gs gq : Nat) : Value := .func (.func 141) #[] #[.pointer (some ⟨gs, 0, none⟩), .pointer (some ⟨gq, 0, none⟩)]
structure RSt (w0 : World) (g3 gs gq ga r : Nat) (v : Value) (ord : List (Pc × Sp)) (Q : List Pc) (W : World) : Prop where
 s : Srch w0.heap.size W gs gq r v ord Q
 b3 : Bx W g3 [.int .i64 0, .int .i64 0] 152
 ba : Bx W ga [addV gs gq] 204
 st : Step w0 W
 n3 : v.ownBlock ≠ some g3
section
variable {w0 W W' : World} {g3 gs gq ga r : Nat} {v v' : Value} {ord ord' : List (Pc × Sp)} {Q Q' : List Pc}
theorem RSt.step (h : RSt w0 g3 gs gq ga r v ord Q W) (k : Step W W') : RSt w0 g3 gs gq ga r v ord Q W' := ⟨h.s.step k, h.b3.step k, h.ba.step k, h.st.trans k, h.n3⟩
theorem RSt.add (h : RSt w0 g3 gs gq ga r v ord Q W) (s' : Srch w0.heap.size W' gs gq r v' ord' Q') (hX : StepX (SrchX gq r v) W W') (hn : ∀ k, v'.ownBlock = some k → v.ownBlock = some k ∨ W.heap.size ≤ k) : RSt w0 g3 gs gq ga r v' ord' Q' W' := by
 have hown : ∀ g, v.ownBlock = some g → w0.heap.size ≤ g := fun g hg => (h.s.qu.lt g hg).1
 refine ⟨s', srch_keeps h.s hX h.b3 (fun cs fr e => by injection e with _ e; exact absurd e (by decide)) (fun es c e => by cases e) h.n3, srch_keeps h.s hX h.ba (fun cs fr e => by injection e with _ e; exact absurd e (by decide)) (fun es c e => by cases e) (h.s.qu.ne_bx h.ba (by decide)),
  StepX.fresh h.st hX (fun j hj => by
   rcases hj with rfl | rfl | e
   ·exact h.s.hq
   ·exact h.s.hr
   ·exact hown j e), fun e => ?_⟩
 rcases hn g3 e with h1 | h1
 ·exact h.n3 h1
 ·have := h.b3.lt; omega
end
theorem own_cs {A C : World} {row : Option Nat} {N : Nat} (hg : A.grownBy C row) (hr : ∀ k, row = some k → N ≤ k ∧ ∃ o : Obj, A.heap[k]? = some o ∧ o.isCells = false) (g : Nat) (h : ∃ cs T fr, A.heap[g]? = some (Obj.cells cs T fr)) : C.heap[g]? = A.heap[g]? := by
 obtain ⟨cs, T, fr, h⟩ := h
 refine hg.block g (Array.getElem?_eq_some_iff.1 h).1 fun e => ?_
 obtain ⟨_, ob, ho, hn⟩ := hr g e.symm
 rw [h] at ho
 obtain rfl := Option.some.inj ho
 simp [Obj.isCells] at hn
theorem own_lt {A C : World} {row : Option Nat} {N : Nat} (hg : A.grownBy C row) (hr : ∀ k, row = some k → N ≤ k ∧ ∃ o : Obj, A.heap[k]? = some o ∧ o.isCells = false) (g : Nat) (h : g < A.heap.size) (hn : g < N) : C.heap[g]? = A.heap[g]? :=
 hg.block g h fun e => by have := (hr g e.symm).1; omega
theorem own_bx {A C : World} {row : Option Nat} {N : Nat} (hg : A.grownBy C row) (hr : ∀ k, row = some k → N ≤ k ∧ ∃ o : Obj, A.heap[k]? = some o ∧ o.isCells = false) {g : Nat} {cs : List Value} {T : TypeId} (h : Bx A g cs T) : Bx C g cs T := by
 have := own_cs hg hr g ⟨_, _, _, h⟩
 unfold Bx at *
 rw [this]; exact h
theorem own_step {w A C : World} {row : Option Nat} {N : Nat} (hg : A.grownBy C row) (hr : ∀ k, row = some k → N ≤ k ∧ ∃ o : Obj, A.heap[k]? = some o ∧ o.isCells = false) (hN : w.heap.size ≤ N) (h : Step w A) : Step w C :=
 StepX.fresh (X := fun j => row = some j) h (StepX.grown hg fun k hk _ => hk) fun j hj => Nat.le_trans hN (hr j hj).1
theorem set2H {w : World} {g : Nat} {a0 a1 : Value} {T : TypeId} (h : Bx w g [a0, a1] T) (c0 c1 : Value) : Bx ((w.setCell ⟨g, 0, none⟩ c0).setCell ⟨g, 1, none⟩ c1) g [c0, c1] T ∧ StepX (fun j => j = g) w ((w.setCell ⟨g, 0, none⟩ c0).setCell ⟨g, 1, none⟩ c1) :=
 ⟨(h.setCell 0 c0).setCell 1 c1, ((StepX.refl _ w).set1 0 c0).set1 1 c1⟩
theorem RSt.own {w0 A C : World} {g3 gs gq ga r : Nat} {v : Value} {ord : List (Pc × Sp)} {Q : List Pc} {row : Option Nat} {N : Nat} (h : RSt w0 g3 gs gq ga r v ord Q A) (hg : A.grownBy C row) (hr : ∀ k, row = some k → N ≤ k ∧ ∃ o : Obj, A.heap[k]? = some o ∧ o.isCells = false) (hrN : r < N) (hN : w0.heap.size ≤ N) : RSt w0 g3 gs gq ga r v ord Q C := by
 refine ⟨⟨own_bx hg hr h.s.sb, own_bx hg hr h.s.qb, h.s.mg.at_block (own_lt hg hr r h.s.mg.lt hrN), h.s.qu.kept fun g hgo => ?_, h.s.hr, h.s.hq⟩, own_bx hg hr h.b3, own_bx hg hr h.ba, own_step hg hr hN h.st, h.n3⟩
 refine own_cs hg hr g ?_
 rcases h.s.qu with ⟨rfl, _⟩ | ⟨g', off, cap, cur, rfl, _, hg', _⟩
 ·simp [Value.ownBlock] at hgo
 ·simp [Value.ownBlock] at hgo
  subst hgo
  exact ⟨_, _, _, hg'⟩
structure RL (w0 : World) (g3 gs gq ga r go gf : Nat) (H : Net) (f : Fs) (Ds : List Nat) (ord : List (Pc × Sp)) (v : Value) (W : World) : Prop where
 s : RSt w0 g3 gs gq ga r v ord ((keysL ord).drop Ds.length) W
 b : Bfs H f ord Ds.length
 bo : Bx W go [.int .i64 0, .int .i64 0] 152
 bf : Bx W gf [.bool false] 4
 no : v.ownBlock ≠ some go
 ng : go ≠ g3
 nd : Ds.Nodup
 ms : MarksAt Ds W
 ml : ∀ D ∈ Ds, w0.heap.size ≤ D
theorem RSt.setQ {w0 W : World} {g3 gs gq ga r : Nat} {v v' : Value} {ord : List (Pc × Sp)} {Q Q' : List Pc} (h : RSt w0 g3 gs gq ga r v ord Q W) (hq : OwnQ w0.heap.size 152 W v' Q') (hg : ∀ k, v'.ownBlock = some k → v.ownBlock = some k) : RSt w0 g3 gs gq ga r v' ord Q' (W.setCell ⟨gq, 0, none⟩ v') := by
 have n1 : gs ≠ gq := bx_ne h.s.sb h.s.qb (by decide)
 have n2 : r ≠ gq := (h.s.mg.nob h.s.qb).symm
 have n3 : g3 ≠ gq := bx_ne h.b3 h.s.qb (by decide)
 have n4 : ga ≠ gq := bx_ne h.ba h.s.qb (by decide)
 have n5 : v'.ownBlock ≠ some gq := hq.ne_bx h.s.qb (by decide)
 exact ⟨⟨h.s.sb.setOther n1, h.s.qb.setCell 0 _, h.s.mg.at_block (Below.heap_setCell W ⟨gq, 0, none⟩ _ r n2), hq.kept fun k hk => Below.heap_setCell W ⟨gq, 0, none⟩ _ k (fun e => n5 (by have e' : k = gq := e; rw [← e']; exact hk)), h.s.hr, h.s.hq⟩, h.b3.setOther n3, h.ba.setOther n4,
  StepX.fresh h.st ((StepX.refl (fun j => j = gq) W).setCell ⟨gq, 0, none⟩ v' rfl) fun j hj => by subst hj; exact h.s.hq, fun e => h.n3 (hg _ e)⟩
theorem RL.pop {w0 W : World} {g3 gs gq ga r go gf : Nat} {H : Net} {f : Fs} {Ds : List Nat} {ord : List (Pc × Sp)} {v v' : Value} {Q : List Pc} (h : RL w0 g3 gs gq ga r go gf H f Ds ord v W) (hq : OwnQ w0.heap.size 152 W v' Q) (hg : ∀ k, v'.ownBlock = some k → v.ownBlock = some k) (o : Obj) :
  RSt w0 g3 gs gq ga r v' ord Q ((W.setCell ⟨gq, 0, none⟩ v').alloc o) ∧ Bx ((W.setCell ⟨gq, 0, none⟩ v').alloc o) go [.int .i64 0, .int .i64 0] 152 ∧ Bx ((W.setCell ⟨gq, 0, none⟩ v').alloc o) gf [.bool false] 4 ∧ v'.ownBlock ≠ some go ∧ MarksAt Ds ((W.setCell ⟨gq, 0, none⟩ v').alloc o) := by
 have hA := Step.alloc (W.setCell ⟨gq, 0, none⟩ v') o
 refine ⟨(h.s.setQ hq hg).step hA, (h.bo.setOther (bx_ne h.bo h.s.s.qb (by decide))).step hA, (h.bf.setOther (bx_ne h.bf h.s.s.qb (by decide))).step hA, fun e => h.no (hg _ e), fun D hD => ?_⟩
 have h1 := h.ms D hD
 have hne : D ≠ gq := fun e => by
  have h2 := h.s.s.qb
  unfold Bx at h2
  rw [← e, h1] at h2
  cases h2
 have h3 : (W.setCell ⟨gq, 0, none⟩ v').heap[D]? = some (.deferred (some [])) := by rw [Below.heap_setCell W ⟨gq, 0, none⟩ v' D hne]; exact h1
 rw [hA.block D (Array.getElem?_eq_some_iff.1 h3).1 id]; exact h3
def RI (w0 : World) (g3 gs gq ga r go gf gp gff : Nat) (H : Net) (f : Fs) (Ds : List Nat) (p : Pc) (N : Nat) (pre : List (StepNo H f p)) (W : World) : Prop :=
 ∃ ord v, RSt w0 g3 gs gq ga r v ord ((keysL ord).drop (Ds.length + 1)) W ∧ Vis H f ord Ds.length p (pre.map (·.1)) ∧ Bx W go [.int .i64 0, .int .i64 0] 152 ∧ Bx W gf [.bool false] 4 ∧ v.ownBlock ≠ some go ∧ v.ownBlock ≠ some gp ∧ v.ownBlock ≠ some gff ∧ MarksAt Ds W ∧ N ≤ W.heap.size
def RIx (w0 : World) (g3 gs r go gf : Nat) (H : Net) (f : Fs) (Ds : List Nat) {p : Pc} (c : Code) (pre : List (StepNo H f p)) (W : World) : Prop :=
 c = .exit 2 ∧ ∃ ord q, MG kvP kvS W r (lookB ord) ∧ Bx W gs [.map (some r)] 146 ∧ Bx W g3 [.int .i64 0, .int .i64 0] 152 ∧ Bx W go [.int .i64 q.spot, .int .i64 q.minute] 152 ∧ Bx W gf [.bool true] 4 ∧ Step w0 W ∧ FoundOut H f ord q ∧ MarksAt Ds W
theorem marks_own {A C : World} {row : Option Nat} {N : Nat} {Ds : List Nat} (hg : A.grownBy C row) (hr : ∀ k, row = some k → N ≤ k ∧ ∃ o : Obj, A.heap[k]? = some o ∧ o.isCells = false) (hD : ∀ D ∈ Ds, D < N) (h : MarksAt Ds A) : MarksAt Ds C := fun D hd => by
 have h1 := h D hd
 rw [own_lt hg hr D (Array.getElem?_eq_some_iff.1 h1).1 (hD D hd)]; exact h1
theorem RI.own {w0 : World} {g3 gs gq ga r go gf gp gff : Nat} {H : Net} {f : Fs} {Ds : List Nat} {p : Pc} {N M : Nat} (h1 : r < N) (h2 : w0.heap.size ≤ N) (h3 : ∀ D ∈ Ds, D < N) (h4 : M ≤ N) : OwnFrom N (RI w0 g3 gs gq ga r go gf gp gff H f Ds p M) := by
 rintro pre A C row ⟨ord, v, a1, a2, a3, a4, a5, a6, a7, a8, a9⟩ hg hr
 exact ⟨ord, v, a1.own hg hr h1 h2, a2, own_bx hg hr a3, own_bx hg hr a4, a5, a6, a7, marks_own hg hr h3 a8, Nat.le_trans a9 hg.size⟩
theorem RIx.own {w0 : World} {g3 gs r go gf : Nat} {H : Net} {f : Fs} {Ds : List Nat} {p : Pc} {N : Nat} (c : Code) (h1 : r < N) (h2 : w0.heap.size ≤ N) (h3 : ∀ D ∈ Ds, D < N) : OwnFrom N (RIx w0 g3 gs r go gf H f Ds (p := p) c) := by
 rintro pre A C row ⟨e, ord, q, a1, a2, a3, a4, a5, a6, a7, a8⟩ hg hr
 exact ⟨e, ord, q, a1.at_block (own_lt hg hr r a1.lt h1), own_bx hg hr a2, own_bx hg hr a3, own_bx hg hr a4, own_bx hg hr a5, own_step hg hr h2 a6, a7, marks_own hg hr h3 a8⟩
theorem marks_step {W W' : World} {Ds : List Nat} (h : MarksAt Ds W) (k : Step W W') : MarksAt Ds W' := fun D hD => by
 have h1 := h D hD
 rw [k.block D (Array.getElem?_eq_some_iff.1 h1).1 id]; exact h1
theorem RI.step {w0 : World} {g3 gs gq ga r go gf gp gff : Nat} {H : Net} {f : Fs} {Ds : List Nat} {p : Pc} {N : Nat} {pre : List (StepNo H f p)} {W W' : World} (h : RI w0 g3 gs gq ga r go gf gp gff H f Ds p N pre W) (k : Step W W') : RI w0 g3 gs gq ga r go gf gp gff H f Ds p N pre W' := by
 obtain ⟨ord, v, a1, a2, a3, a4, a5, a6, a7, a8, a9⟩ := h
 exact ⟨ord, v, a1.step k, a2, a3.step k, a4.step k, a5, a6, a7, marks_step a8 k, Nat.le_trans a9 k.size⟩
theorem keepsFrom_step {N : Nat} {W W' : World} (k : Step W W') : KeepsFrom N W W' := ⟨k.size, fun i o _ hi _ => by rw [k.block i (Array.getElem?_eq_some_iff.1 hi).1 id]; exact hi⟩
theorem srch_from {base N : Nat} {W W' : World} {gs gq r : Nat} {v : Value} {ord : List (Pc × Sp)} {Q : List Pc} (S : Srch base W gs gq r v ord Q) (hX : StepX (SrchX gq r v) W W') (h1 : gq < N) (h2 : r < N) : KeepsFrom N W W' :=
 ⟨hX.size, fun k o hk hi ho => by
  rw [hX.block k (Array.getElem?_eq_some_iff.1 hi).1 ?_]
  ·exact hi
  ·rintro (rfl | rfl | e)
   ·omega
   ·omega
   ·exact own_cells S.qu hi (fun cs fr e' => by rw [e'] at ho; simp [Obj.isCells] at ho) e⟩
theorem srch_keepT {base : Nat} {W W' : World} {gs gq r : Nat} {v : Value} {ord : List (Pc × Sp)} {Q : List Pc} (S : Srch base W gs gq r v ord Q) (hX : StepX (SrchX gq r v) W W') : KeepT 140 W W' := fun k cs fr hk => by
 rw [srch_keeps S hX hk (fun cs' fr' e => by injection e with _ e; exact absurd e (by decide)) (fun es c e => by cases e) (own_cells S.qu hk fun cs' fr' e => by injection e with _ e; exact absurd e (by decide)), hk]
theorem keepsFrom_bx {N g : Nat} {W W' : World} {cs : List Value} {T : TypeId} (h : Bx W g cs T) (k : StepX (fun j => j = g) W W') : KeepsFrom N W W' := ⟨k.size, fun i o _ hi ho => by
 rw [k.block i (Array.getElem?_eq_some_iff.1 hi).1 ?_]
 ·exact hi
 ·intro e
  unfold Bx at h
  rw [← e, hi] at h
  injection h with h
  subst h
  simp [Obj.isCells] at ho⟩
theorem kpx_b {W : World} {X : Nat → Prop} {l N : Nat} {o o' : Obj} {T : TypeId} (hX : X l) (hl : N ≤ l) (h : W.heap[l]? = some o) (hc : o.isCells = false) : StepX X W (W.putObj l o') ∧ KeepT T W (W.putObj l o') := by
 have hg := grownBy_putObj' W l o'
 refine ⟨⟨hg.os, hg.tape, hg.output, hg.size, fun k hk hn => hg.block k hk (fun e => hn (by cases e; exact hX))⟩, fun k cs fr hk => hg.block k (Array.getElem?_eq_some_iff.1 hk).1 fun e => ?_⟩
 cases e
 rw [h] at hk
 injection hk with hk
 subst hk
 simp [Obj.isCells] at hc
structure RE (w0 : World) (g3 gs r go gf : Nat) (H : Net) (f : Fs) (Ds : List Nat) (ord : List (Pc × Sp)) (q : Pc) (fnd : Bool) (W : World) : Prop where
 mg : MG kvP kvS W r (lookB ord)
 sb : Bx W gs [.map (some r)] 146
 b3 : Bx W g3 [.int .i64 0, .int .i64 0] 152
 bo : Bx W go [.int .i64 q.spot, .int .i64 q.minute] 152
 bf : Bx W gf [.bool fnd] 4
 st : Step w0 W
 yes : fnd = true → FoundOut H f ord q
 no : fnd = false → Bfs H f ord ord.length
 ng : go ≠ g3
 nd : Ds.Nodup
 ms : MarksAt Ds W
 ml : ∀ D ∈ Ds, w0.heap.size ≤ D
theorem reach_any {base : Nat} {B : FB} {vp vw vl : Value} {sc : Nat} {h : Hall} {T : Nat} {f : Fs} (w : World) (F : FT base w B vp vw vl sc h T f) (O : HallOk h) (hT : T ≤ 61) (Y : Fly (netOf h T) f) :
  Calls Tryz.prog 106 #[.pointer (some ⟨B.fl, 0, none⟩)] w fun e w' => ∃ r ord q fnd, e = .returned (.tuple #[.map (some r), kvP q, .bool fnd]) ∧ w.heap.size ≤ r ∧ MG kvP kvS w' r (lookB ord) ∧ (fnd = true → FoundOut (netOf h T) f ord q) ∧ (fnd = false → Bfs (netOf h T) f ord ord.length) ∧ Step w w' := by
 have hmf : ∀ (fn : Fn) (first cap : Array Value) (w : World), (Instr.makeFunc fn first cap).run Tryz.prog w = .ok (.func fn first cap) w := fun _ _ _ _ => rfl
 have hmm := @run_makeMap Tryz.prog
 have hsf : ∀ (w : World) (a : Addr) (f : Fn) (x y : Array Value), (store a (.func f x y)).run Tryz.prog w = stored Tryz.prog w a (.func f x y) .plain := fun w a f x y => run_store Tryz.prog w a (.func f x y) .plain rfl
 obtain ⟨e0, e1, e2, e3, e4, e5⟩ := F.cells
 have hl := F.fl.lt
 have HF := zH F
 have HO := zH O
 have HY := zH Y
 clear F O Y
 refine callsIn_wide.1 (show CallsIn (FW none) 5 Tryz.prog 106 _ w _ from ?_)
 refine callsIn_of_wp_marks Tryz.func106 rfl trivial ?_ rfl
 simp only [Tryz.ntmps106, List.size_toArray, List.length_cons, List.length_nil, Nat.reduceAdd, Nat.reduceSub, Array.replicate_succ, Array.replicate_zero, List.push_toArray, List.append_toArray, List.nil_append, List.cons_append]
 gi_wp2_with fail
 refine wpIn_scopeH ?_
 gi_upto_region 4 with (fail)
 clear hmm hmf hsf
 obtain ⟨ga, hga⟩ : ∃ g, g = w.heap.size + 1 + 1 + 1 + 1 := ⟨_, rfl⟩
 obtain ⟨gq, hgq⟩ : ∃ g, g = w.heap.size + 1 + 1 + 1 := ⟨_, rfl⟩
 obtain ⟨gs, hgs⟩ : ∃ g, g = w.heap.size + 1 + 1 := ⟨_, rfl⟩
 obtain ⟨r, hr⟩ : ∃ g, g = w.heap.size + 1 := ⟨_, rfl⟩
 obtain ⟨g3, hg3⟩ : ∃ g, g = w.heap.size := ⟨_, rfl⟩
 obtain ⟨W1, hW1⟩ : ∃ W1, W1 = ((((w.alloc (.cells #[.int .i64 0, .int .i64 0] 152)).alloc (.map #[] 0)).alloc (.cells #[.map (some r)] 146)).alloc (.cells #[.slice none 0 0] 202)).alloc (.cells #[addV gs gq] 204) := ⟨_, rfl⟩
 have hS1 : Step w W1 := by subst hW1; exact ((((Step.alloc _ _).trans (Step.alloc _ _)).trans (Step.alloc _ _)).trans (Step.alloc _ _)).trans (Step.alloc _ _)
 have hst : RSt w g3 gs gq ga r (.slice none 0 0) [] [] W1 := by
  have a1 : Step (w.alloc (.cells #[.int .i64 0, .int .i64 0] 152)) W1 := by subst hW1; exact (((Step.alloc _ _).trans (Step.alloc _ _)).trans (Step.alloc _ _)).trans (Step.alloc _ _)
  have a2 : Step ((w.alloc (.cells #[.int .i64 0, .int .i64 0] 152)).alloc (.map #[] 0)) W1 := by subst hW1; exact ((Step.alloc _ _).trans (Step.alloc _ _)).trans (Step.alloc _ _)
  have a3 : Step (((w.alloc (.cells #[.int .i64 0, .int .i64 0] 152)).alloc (.map #[] 0)).alloc (.cells #[.map (some r)] 146)) W1 := by subst hW1; exact (Step.alloc _ _).trans (Step.alloc _ _)
  have a4 : Step ((((w.alloc (.cells #[.int .i64 0, .int .i64 0] 152)).alloc (.map #[] 0)).alloc (.cells #[.map (some r)] 146)).alloc (.cells #[.slice none 0 0] 202)) W1 := by subst hW1; exact Step.alloc _ _
  have c1 : Bx W1 g3 [.int .i64 0, .int .i64 0] 152 := by rw [hg3]; exact (Bx.new w [_, _] _).step a1
  have c2 : MG kvP kvS W1 r (lookB []) := (MG.new kvP kvS ((w.alloc (.cells #[.int .i64 0, .int .i64 0] 152)).alloc (.map #[] 0)) r 0 (by rw [hr]; have := heap_alloc_new (w.alloc (.cells #[.int .i64 0, .int .i64 0] 152)) (.map #[] 0); simpa using this)).keep (.of_step (S := fun _ => False) a2) id
  have c3 : Bx W1 gs [.map (some r)] 146 := (Bx.new' _ [_] _ _ (by rw [hgs]; simp)).step a3
  have c4 : Bx W1 gq [.slice none 0 0] 202 := (Bx.new' _ [_] _ _ (by rw [hgq]; simp)).step a4
  have c5 : Bx W1 ga [addV gs gq] 204 := by rw [hW1]; exact Bx.new' _ [_] _ _ (by rw [hga]; simp)
  exact ⟨⟨c3, c4, c2, OwnQ.nil _ _ _, by omega, by omega⟩, c1, c5, hS1, by simp [Value.ownBlock]⟩
 have hwe : ((((w.alloc (.cells #[.int .i64 0, .int .i64 0] 152)).alloc (.map #[] 0)).alloc (.cells #[.map (some (w.heap.size + 1))] 146)).alloc (.cells #[.slice none 0 0] 202)).alloc (.cells #[.func (.func 141) #[] #[.pointer (some ⟨w.heap.size + 1 + 1, 0, none⟩), .pointer (some ⟨w.heap.size + 1 + 1 + 1, 0, none⟩)]] 204) = W1 := by rw [hW1, hr, hgs, hgq]; rfl
 rw [hwe, ← hga, ← hgq, ← hgs, ← hr, ← hg3]
 have hrw : w.heap.size ≤ r := by omega
 have HG3 := zH (show w.heap.size ≤ g3 by omega)
 clear hwe hW1 hga hgq hgs hr hg3
 have HST := zH hst
 have HRW := zH hrw
 obtain ⟨e0, e1, e2, e3, e4, e5⟩ := (HF.out.step hS1).cells
 clear hst hrw hS1
 gi_upto_region 5 with (fail)
 clear e0 e1 e2 e3 e4 e5 hl
 gi_loopw [22] (fun i wr => ∃ k : Nat, k ≤ h.people.length ∧ i = .int .i64 k ∧ ∃ ord v, RSt w g3 gs gq ga r v ord (keysL ord) wr ∧ Roots (netOf h T) f ord k) (fun i _ => h.people.length - (intOf i).toNat)
 case atStart => exact ⟨0, Nat.zero_le _, rfl, [], _, HST.out, Roots.start f⟩
 case round =>
  obtain ⟨k, hk, rfl, ord, v, hR, hRo⟩ := hrel
  clear HST
  have hn10 : h.people.length ≤ 10 := HO.out.n10
  by_cases hlt : k < h.people.length
  ·have e1 := (HF.out.step hR.st).rest hlt
   have hix : (0 : Int) ≤ (k : Int) ∧ (k : Int) < (h.people.length : Int) := by omega
   by_cases hp : 0 < f.rs k
   ·have hd : decide (0 < f.rs k) = true := by simpa using hp
    have HR := zH hR
    have hcall := add_any wr hR.s ⟨k, 0⟩ rootSp (by have := found_len HO.out hT hRo.toFound; simp [keysL]; omega) hR.st.size
    unfold kvP kvS rootSp at hcall
    have HC := zH hcall
    have a0 := hR.ba.cell 0
    simp only [List.getElem?_cons_zero] at a0
    unfold addV at a0
    have HRo := zH (hRo.add (show k < (netOf h T).n from hlt) hp (HY.out.rs0 (netOf_ok HO.out T)))
    clear hR hRo hp hcall
    gi_wp2_with fail
    refine (callsIn_FW HC.out).mono ?_
    rintro e w2 ⟨rfl, v', hs', hX', hn'⟩
    have hs2 := HR.out.add hs' hX' hn'
    rw [show (⟨⟨-1, 0⟩, -1, false⟩ : Sp) = rootSp from rfl, addQ_keys ord ⟨k, 0⟩ rootSp] at hs2
    have HR2 := zH hs2
    clear hs' hX' hn' hs2 HC HR a0 e1
    gi_wp2
    go_roundw
    case rel => exact ⟨k + 1, by omega, by go_num, _, v', HR2.out, HRo.out⟩
    case measure => simp [intOf]; omega
   ·have hd : decide (0 < f.rs k) = false := by simpa using hp
    have HR := zH hR
    have HRo := zH (hRo.skip hp)
    clear hR hRo hp
    gi_wp2
    go_roundw
    case rel => exact ⟨k + 1, by omega, by go_num, _, v, HR.out, HRo.out⟩
    case measure => simp [intOf]; omega
  ·have hkn : k = h.people.length := by omega
   subst hkn
   have HR := zH hR
   have HB := zH (show Bfs (netOf h T) f ord 0 from hRo.bfs)
   clear hR hRo hlt hk
   gi_upto_region 12 with (fail)
   refine wpIn_label ?_
   gi_step
   gi_step
   gi_step
   obtain ⟨go, hgo⟩ : ∃ g, g = wr.heap.size := ⟨_, rfl⟩
   obtain ⟨gf, hgf⟩ : ∃ g, g = wr.heap.size + 1 := ⟨_, rfl⟩
   obtain ⟨Wl, hWl⟩ : ∃ W, W = (wr.alloc (.cells #[.int .i64 0, .int .i64 0] 152)).alloc (.cells #[.bool false] 4) := ⟨_, rfl⟩
   have hl0 : RL w g3 gs gq ga r go gf (netOf h T) f [] ord v Wl := by
    have a1 : Step wr Wl := by subst hWl; exact (Step.alloc _ _).trans (Step.alloc _ _)
    have a2 : Bx Wl go [.int .i64 0, .int .i64 0] 152 := by subst hWl hgo; exact (Bx.new wr [_, _] _).alloc _
    have a3 : Bx Wl gf [.bool false] 4 := by subst hWl hgf; exact Bx.new' _ [_] _ _ (by simp)
    exact ⟨HR.out.step a1, HB.out, a2, a3, fun e => by have := (HR.out.s.qu.lt go e).2; omega, by have := HR.out.b3.lt; omega, List.nodup_nil, fun _ h => (by cases h), fun _ h => (by cases h)⟩
   have HGO := zH (show w.heap.size ≤ go ∧ w.heap.size ≤ gf from ⟨by have := HR.out.st.size; omega, by have := HR.out.st.size; omega⟩)
   rw [← hWl, ← hgf, ← hgo]
   clear hWl hgo hgf HR HB
   have HL0 := zH hl0
   clear hl0
   refine wpIn_part (fun a W => ∃ x8 x9 x12 x13 x14 x15 x16 x17 x18 x19 x20 x21 x22 x23 x24 x25 x26 x27 x28 x29 x30 x31 x32 x33 x34 x35 x36 x37 x38 x39 x40 x41 x42 x43 x44 x45 x46 x47 x48 x49 x50 x51 x52 x53 x54 x55 x56 x57 x58 x59 Ds ord q fnd, a = { tmps := #[.pointer (some ⟨B.fl, 0, none⟩), undef, .map none, .pointer (some ⟨g3, 0, none⟩), .bool false, .pointer (some ⟨gs, 0, none⟩), .pointer (some ⟨gq, 0, none⟩), .pointer (some ⟨ga, 0, none⟩), x8, x9, .pointer (some ⟨go, 0, none⟩), .pointer (some ⟨gf, 0, none⟩), x12, x13, x14, x15, x16, x17, x18, x19, x20, x21, x22, x23, x24, x25, x26, x27, x28, x29, x30, x31, x32, x33, x34, x35, x36, x37, x38, x39, x40, x41, x42, x43, x44, x45, x46, x47, x48, x49, x50, x51, x52, x53, x54, x55, x56, x57, x58, x59], defers := Ds.map markD } ∧ RE w g3 gs r go gf (netOf h T) f Ds ord q fnd W) ?first ?rest
   case rest =>
    rintro a W ⟨x8, x9, x12, x13, x14, x15, x16, x17, x18, x19, x20, x21, x22, x23, x24, x25, x26, x27, x28, x29, x30, x31, x32, x33, x34, x35, x36, x37, x38, x39, x40, x41, x42, x43, x44, x45, x46, x47, x48, x49, x50, x51, x52, x53, x54, x55, x56, x57, x58, x59, Ds, ord', q, fnd, rfl, hE⟩
    clear HL0
    have HE := zH hE
    have m0 := hE.sb.cell 0
    have q0 := hE.bo.cell 0
    have q1 := hE.bo.cell 1
    have f0 := hE.bf.cell 0
    have t0 := hE.b3.cell 0
    have t1 := hE.b3.cell 1
    have z0 := hE.b3.frozen 0
    have z1 := hE.b3.frozen 1
    have tl := hE.b3.lt
    have n1 : gf ≠ g3 := bx_ne hE.bf hE.b3 (by decide)
    have n2 : gs ≠ g3 := bx_ne hE.sb hE.b3 (by decide)
    have n3 : go ≠ g3 := hE.ng
    simp only [zD, zE] at m0 q0 q1 f0 t0 t1
    clear hE
    gi_wp2_with fail
    gi_region
    gi_wp2
    rw [Exit.noGoto_ret]
    have b2 := set2H HE.out.b3 (.int .i64 q.spot) (.int .i64 q.minute)
    obtain ⟨W9, hW9⟩ : ∃ W', W' = ((W.setCell ⟨g3, 0, none⟩ (.int .i64 q.spot)).setCell ⟨g3, 1, none⟩ (.int .i64 q.minute)).drew := ⟨_, rfl⟩
    have hb9 : Bx W9 g3 [.int .i64 q.spot, .int .i64 q.minute] 152 := by rw [hW9]; exact b2.1.step (Step.drew _)
    have hx9 : StepX (fun j => j = g3) W W9 := by rw [hW9]; exact b2.2.drew'
    have hm9 : MG kvP kvS W9 r (lookB ord') := HE.out.mg.keep hx9.keeps (HE.out.mg.nob HE.out.b3).symm
    have hs9 : Step w W9 := StepX.fresh HE.out.st hx9 fun j hj => by subst hj; exact HG3.out
    have hms : MarksAt Ds W9 := fun D hD => by
     have h1 := HE.out.ms D hD
     rw [hx9.block D (Array.getElem?_eq_some_iff.1 h1).1 (fun e => by
      have h2 := HE.out.b3
      unfold Bx at h2
      rw [← e, h1] at h2
      cases h2)]
     exact h1
    first | rw [← hW9] | skip
    show LeavesInM _ _ _ _ _ _ (Ds.map markD) .returning W9
    refine leaves_marks Ds W9 HE.out.nd hms fun W' m hk => ?_
    have hq : ∃ z9, z9 = q := ⟨_, rfl⟩
    refine ⟨_, results_tct rfl siPlace rfl (m.bx hb9) rfl, r, ord', q, fnd, rfl, HRW.out, hm9.at_block (m.block r fun x e => ?_), HE.out.yes, HE.out.no, m.step hs9 fun k x hk1 hk2 => hk k fun hD => ?_⟩
    ·obtain ⟨es, c, hh, _⟩ := hm9
     rw [hh] at e
     cases e
    ·have := HE.out.ml k hD
     omega
   case first =>
    refine wpIn_block (wpIn_loop (fun a W => ∃ x8 x9 x12 x13 x14 x15 x16 x17 x18 x19 x20 x21 x22 x23 x24 x25 x26 x27 x28 x29 x30 x31 x32 x33 x34 x35 x36 x37 x38 x39 x40 x41 x42 x43 x44 x45 x46 x47 x48 x49 x50 x51 x52 x53 x54 x55 x56 x57 x58 x59 Ds ord v, a = { tmps := #[.pointer (some ⟨B.fl, 0, none⟩), undef, .map none, .pointer (some ⟨g3, 0, none⟩), .bool false, .pointer (some ⟨gs, 0, none⟩), .pointer (some ⟨gq, 0, none⟩), .pointer (some ⟨ga, 0, none⟩), x8, x9, .pointer (some ⟨go, 0, none⟩), .pointer (some ⟨gf, 0, none⟩), x12, x13, x14, x15, x16, x17, x18, x19, x20, x21, x22, x23, x24, x25, x26, x27, x28, x29, x30, x31, x32, x33, x34, x35, x36, x37, x38, x39, x40, x41, x42, x43, x44, x45, x46, x47, x48, x49, x50, x51, x52, x53, x54, x55, x56, x57, x58, x59], defers := Ds.map markD } ∧ RL w g3 gs gq ga r go gf (netOf h T) f Ds ord v W) (fun a _ => 1000 - a.defers.length) ?start ?round)
    case start => exact ⟨_, _, _, _, _, _, _, _, _, _, _, _, _, _, _, _, _, _, _, _, _, _, _, _, _, _, _, _, _, _, _, _, _, _, _, _, _, _, _, _, _, _, _, _, _, _, _, _, _, _, [], ord, v, rfl, HL0.out⟩
    case round =>
     clear HL0
     rintro a W ⟨x8, x9, x12, x13, x14, x15, x16, x17, x18, x19, x20, x21, x22, x23, x24, x25, x26, x27, x28, x29, x30, x31, x32, x33, x34, x35, x36, x37, x38, x39, x40, x41, x42, x43, x44, x45, x46, x47, x48, x49, x50, x51, x52, x53, x54, x55, x56, x57, x58, x59, Ds, ord, v, rfl, hRL⟩
     have HRL := zH hRL
     have q0 := hRL.s.s.qb.cell 0
     simp only [List.getElem?_cons_zero] at q0
     obtain ⟨pv, cv, hvf⟩ := hRL.s.s.qu.form
     have hkl := hRL.b.kl
     have hlen := found_len HO.out hT hRL.b.toFound
     have hdl : ((keysL ord).drop Ds.length).length = ord.length - Ds.length := by simp [keysL]
     rw [hdl] at hvf
     subst hvf
     clear hRL hdl
     by_cases hlt : Ds.length < ord.length
     rotate_left
     ·have hz : ord.length - Ds.length = 0 := by omega
      have HB := zH (show Bfs (netOf h T) f ord ord.length by have := HRL.out.b; rwa [show Ds.length = ord.length by omega] at this)
      have hz2 : ((ord.length - Ds.length : Nat) : Int) = 0 := by omega
      gi_wp2
      exact ⟨trivial, _, _, _, _, _, _, _, _, _, _, _, _, _, _, _, _, _, _, _, _, _, _, _, _, _, _, _, _, _, _, _, _, _, _, _, _, _, _, _, _, _, _, _, _, _, _, _, _, _, _, Ds, ord, ⟨0, 0⟩, false, rfl, HRL.out.s.s.mg, HRL.out.s.s.sb, HRL.out.s.b3, HRL.out.bo, HRL.out.bf, HRL.out.s.st, (fun e => by cases e), (fun _ => HB.out), HRL.out.ng, HRL.out.nd, HRL.out.ms, HRL.out.ml⟩
     obtain ⟨p, hp⟩ : ∃ p, p = ord[Ds.length].1 := ⟨_, rfl⟩
     obtain ⟨L, hL⟩ : ∃ L, ord.length - Ds.length = L + 1 := ⟨ord.length - Ds.length - 1, by omega⟩
     rw [hL] at HRL q0
     obtain ⟨Q, hQ⟩ : ∃ Q, Q = (keysL ord).drop (Ds.length + 1) := ⟨_, rfl⟩
     have hdrop : (keysL ord).drop Ds.length = p :: Q := by
      rw [List.drop_eq_getElem_cons (by simpa [keysL] using hlt), hQ]
      simp [keysL, hp]
     have hQL : Q.length = L := by rw [hQ]; simp [keysL]; omega
     have hqu := HRL.out.s.s.qu
     rw [hdrop] at hqu
     obtain ⟨g, off, hpv, -, hle, hcm, -, hown⟩ := hqu.tail
     obtain ⟨p', c', b', o', he, -, -, hpp, hcc, -⟩ := (hqu.sl (S := fun _ => False) fun _ _ h => h).pcs
     injection he with he1 he2 he3
     have hpp := hpp (by simp)
     rw [← he1, hpv] at hpp
     injection hpp with hpp
     injection hpp with hg1 ho1
     obtain ⟨y0, y1⟩ := hcc 0 (by simp)
     rw [← hg1, ← ho1] at y0 y1
     simp only [Nat.zero_mul, Nat.add_zero, List.getElem_cons_zero] at y0 y1
     subst hpv
     obtain ⟨pn, hpn⟩ : ∃ z, z = (some (if cv = 1 then ⟨g, off, none⟩ else ⟨g, off + 2, none⟩) : Option Addr) := ⟨_, rfl⟩
     have HPE := zH (show (if cv = 1 then some ⟨g, off, none⟩ else some ⟨g, off + 2, none⟩ : Option Addr) = pn by rw [hpn]; split <;> rfl)
     have hown : OwnQ w.heap.size 152 W (.slice pn L (cv - 1)) Q := by rw [hpn, ← hQL]; exact hown
     have hsl : ∀ W : World, (Instr.slice 202 (.slice (some ⟨g, off, none⟩) (L + 1) cv) (some (.int .i64 1)) none none).run Tryz.prog W = .ok (.slice pn L (cv - 1)) W := fun W => by
      rw [hpn]; exact slice_tail W _ (L + 1) cv (by omega) (by omega) g off rfl
     have hsl' : ∀ W : World, (Instr.slice 202 (.slice (some ⟨g, off, none⟩) (L + 1) cv) (some (.int .i64 ((1 : Nat) : Int))) none none).run Tryz.prog W = .ok (.slice pn L (cv - 1)) W := hsl
     have z0 := HRL.out.s.s.qb.frozen 0
     have ql := HRL.out.s.s.qb.lt
     have hgl : g < W.heap.size := World.block_lt_of_cell? W ⟨g, off, none⟩ y0
     have HOW := zH hown
     have HP := zH hp
     have HQ := zH hQ
     have HQL := zH hQL
     have HPN : Hid (∀ k, (Value.slice pn L (cv - 1)).ownBlock = some k → k = g) := zH fun k hk => by
      rw [hpn] at hk
      simp only [Value.ownBlock] at hk
      split at hk <;> (injection hk with hk; exact hk.symm)
     have hLn : (0 : Int) < ((L + 1 : Nat) : Int) := by omega
     have hLn2 : (0 : Int) ≤ (0 : Int) ∧ (0 : Int) < ((L + 1 : Nat) : Int) := by omega
     clear hown hpn hdrop hqu hle hcm he1 he2 he3 hg1 ho1 hcc hp hQ hQL hL
     gi_upto_region 15 with (fail)
     (try rw [HPE.out])
     clear hsl hsl' z0 ql hgl y0 y1 q0
     have hpop := HRL.out.pop HOW.out (fun k hk => by rw [HPN.out k hk]; rfl) (.cells #[.int .i64 p.spot, .int .i64 p.minute] 152)
     obtain ⟨W2, hW2⟩ : ∃ W2, W2 = (W.setCell ⟨gq, 0, none⟩ (.slice pn L (cv - 1))).alloc (.cells #[.int .i64 p.spot, .int .i64 p.minute] 152) := ⟨_, rfl⟩
     have hpb : Bx W2 W.heap.size [.int .i64 p.spot, .int .i64 p.minute] 152 := by rw [hW2]; exact Bx.new' _ [_, _] _ _ (by simp)
     rw [← hW2] at hpop
     rw [← hW2]
     have HPOP := zH hpop
     have b0 := hpb.cell 0
     have b1 := hpb.cell 1
     simp only [zD, zE] at b0 b1
     clear hpop hpb hW2
     have hcs := steps_any p B.fl W2
     unfold kvP at hcs
     gi_wp2_with fail
     refine (callsIn_FW hcs).mono ?_
     rintro e W3 ⟨rfl, hbf, hbp, hS3, hz3⟩
     clear b0 b1 hcs
     obtain ⟨gff, hgff⟩ : ∃ z, z = W2.heap.size := ⟨_, rfl⟩
     obtain ⟨gp, hgp⟩ : ∃ z, z = W2.heap.size + 1 := ⟨_, rfl⟩
     rw [← hgff] at hbf
     rw [← hgp] at hbp
     rw [← hgp, ← hgff]
     obtain ⟨h1, h2, h3, h4, h5⟩ := HPOP.out
     have HN := zH (show gq < gff ∧ r < gff ∧ gff < gp ∧ W3.heap.size = gp + 1 ∧ (∀ D ∈ Ds, D < gff) from ⟨by rw [hgff]; exact h1.s.qb.lt, by rw [hgff]; exact h1.s.mg.lt, by omega, by omega, fun D hD => by rw [hgff]; exact (Array.getElem?_eq_some_iff.1 (h5 D hD)).1⟩)
     have hown2 : ∀ k, (Value.slice pn L (cv - 1)).ownBlock = some k → k < gff := fun k hk => by rw [hgff]; exact (h1.s.qu.lt k hk).2
     have hFT := HF.out.step (h1.st.trans hS3)
     have hBl := HF.out.lt
     have hbase : base ≤ w.heap.size := Nat.le_trans (HF.out.own _ (.inl rfl)) (Nat.le_of_lt (hBl _ (.inl rfl)))
     have hwg : w.heap.size ≤ gff := by rw [hgff]; exact h1.st.size
     have hpin : InB (netOf h T) p := by rw [HP.out]; exact HRL.out.b.bd _ (List.getElem_mem hlt)
     have hseq := zH (steps1_stops 4 (by omega) (fun j => w.heap.size ≤ j ∧ j ≠ gp ∧ j ≠ gff) gp gff W3 ⟨hFT, hbp, hbf⟩ ⟨fun e => e.2.1 rfl, fun e => e.2.2 rfl, fun g hg e => by have := hBl g hg; omega, fun j hj => Nat.le_trans hbase hj.1⟩ HO.out hT hpin)
     have h00 : RI w g3 gs gq ga r go gf gp gff (netOf h T) f Ds p W3.heap.size [] W3 := by
      refine ⟨ord, _, ?_, ?_, h2.step hS3, h3.step hS3, h4, fun e => by have := hown2 _ e; omega, fun e => by have := hown2 _ e; omega, fun D hD => ?_, Nat.le_refl _⟩
      ·rw [← HQ.out]; exact h1.step hS3
      ·rw [HP.out]; exact HRL.out.b.visit hlt
      ·have := h5 D hD
       rw [hS3.block D (Array.getElem?_eq_some_iff.1 this).1 id]; exact this
     have H00 := zH h00
     have HPI := zH (And.intro hwg hbase)
     clear h1 h2 h3 h4 h5 hown2 hFT hBl hbase hwg hpin h00 hgff hgp hbf hbp hS3 hz3
     gi_wp2_with fail
     have hn := HN.out
     have HNG := zH HRL.out.ng
     have hpi := HPI.out
     refine wpIn_rangeFunc_ownH rfl (by omega) rfl trivial (Go.Proofs.enters_of Tryz.func158 (by kernel_rfl) rfl) hseq.out (fun h1 h2 => ⟨h1.1.trans h2.1, h1.2.trans h2.2⟩) (fun W l o o' hl hh hc hw => kpx_b (by omega) hl hh hc) (Below.refl _ _) (fun _ => rfl)
      (RI w g3 gs gq ga r go gf gp gff (netOf h T) f Ds p W3.heap.size) (RIx w g3 gs r go gf (netOf h T) f Ds) (RI.own (by omega) (by omega) (fun D hD => by have := hn.2.2.2.2 D hD; omega) (Nat.le_refl _)) (fun c => RIx.own c (by omega) (by omega) (fun D hD => by have := hn.2.2.2.2 D hD; omega)) H00.out
      (fun x a' W => ∃ y8 y9 y12 y15 y16 y17 y18 y19 y20 y21 y22 y23 y24 y25 y26 y27 y28 y29 y30 y31 y32 y33 y34 y35 y36 y37 y38 y39 y40 y41 y42 y43 y44 y45 y46 y47 y48 y49 y50 y51 y52 y53 y54 y55 y56 y57 y58 y59 g13 g14 v0, a' = { tmps := #[.pointer (some ⟨B.fl, 0, none⟩), undef, .map none, .pointer (some ⟨g3, 0, none⟩), .bool false, .pointer (some ⟨gs, 0, none⟩), .pointer (some ⟨gq, 0, none⟩), .pointer (some ⟨ga, 0, none⟩), y8, y9, .pointer (some ⟨go, 0, none⟩), .pointer (some ⟨gf, 0, none⟩), y12, .pointer (some ⟨g13, 0, none⟩), .pointer (some ⟨g14, 0, none⟩), y15, y16, y17, y18, y19, y20, y21, y22, y23, y24, y25, y26, y27, y28, y29, y30, y31, y32, y33, y34, y35, y36, y37, y38, y39, y40, y41, y42, y43, y44, y45, y46, y47, y48, y49, y50, y51, y52, y53, y54, y55, y56, y57, y58, y59], defers := [] } ∧ Bx W g13 [.int .i64 x.1.1.spot, .int .i64 x.1.1.minute] 152 ∧ Bx W g14 [.int .i64 x.1.2.frm.spot, .int .i64 x.1.2.frm.minute, .int .i64 x.1.2.way, .bool x.1.2.back] 186 ∧ Bx W gq [v0] 202 ∧ v0.ownBlock ≠ some g13)
      ?ax ?assign ?body ?done ?stop
     case ax =>
      rintro x a' _ A C row ⟨y8, y9, y12, y15, y16, y17, y18, y19, y20, y21, y22, y23, y24, y25, y26, y27, y28, y29, y30, y31, y32, y33, y34, y35, y36, y37, y38, y39, y40, y41, y42, y43, y44, y45, y46, y47, y48, y49, y50, y51, y52, y53, y54, y55, y56, y57, y58, y59, g13, g14, v0, h1, h2, h3, h4, h5⟩ hg hr
      exact ⟨y8, y9, y12, y15, y16, y17, y18, y19, y20, y21, y22, y23, y24, y25, y26, y27, y28, y29, y30, y31, y32, y33, y34, y35, y36, y37, y38, y39, y40, y41, y42, y43, y44, y45, y46, y47, y48, y49, y50, y51, y52, y53, y54, y55, y56, y57, y58, y59, g13, g14, v0, h1, own_bx hg hr h2, own_bx hg hr h3, own_bx hg hr h4, h5⟩
     case assign =>
      intro l pre x W9 K9 hI hK
      obtain ⟨⟨⟨qs, qm⟩, ⟨⟨ss, sm⟩, way, back⟩⟩, hx⟩ := x
      rw [FW_inRound]
      obtain ⟨ord9, v9, a1, a2⟩ := hI
      have hI : RI w g3 gs gq ga r go gf gp gff (netOf h T) f Ds p W3.heap.size pre W9 := ⟨ord9, v9, a1, a2⟩
      have HI := zH hI
      have HA1 := zH a1
      have HK := zH hK
      clear hI hK a1 a2 H00 hseq HPOP HRL
      dsimp only [kvP, kvS]
      gi_wp2
      have hS9 := (Step.alloc W9 (.cells #[.int .i64 qs, .int .i64 qm] 152)).trans (Step.alloc _ (.cells #[.int .i64 ss, .int .i64 sm, .int .i64 way, .bool back] 186))
      refine HK.out _ _ (keepsFrom_step hS9) ⟨.of hS9, KeepT.of_step hS9⟩ (HI.out.step hS9) ⟨_, _, _, _, _, _, _, _, _, _, _, _, _, _, _, _, _, _, _, _, _, _, _, _, _, _, _, _, _, _, _, _, _, _, _, _, _, _, _, _, _, _, _, _, _, _, _, _, W9.heap.size, W9.heap.size + 1, v9, rfl, (Bx.new W9 [_, _] _).alloc _, Bx.new' _ [_, _, _, _] _ _ (by simp), HA1.out.s.qb.step hS9, fun e => ?_⟩
      have := (HA1.out.s.qu.lt _ e).2
      omega
     case body =>
      rintro l pre ⟨⟨⟨qs, qm⟩, ⟨⟨ss, sm⟩, way, back⟩⟩, hx⟩ a' W9 hl hlr ⟨ord9, v9, a1, a2, a3, a4, a5, a6, a7, a8, a9⟩ ⟨y8, y9, y12, y15, y16, y17, y18, y19, y20, y21, y22, y23, y24, y25, y26, y27, y28, y29, y30, y31, y32, y33, y34, y35, y36, y37, y38, y39, y40, y41, y42, y43, y44, y45, y46, y47, y48, y49, y50, y51, y52, y53, y54, y55, y56, y57, y58, y59, g13, g14, v0, rfl, hb13, hb14, hbq, hvb⟩ hlen9
      rw [FW_inRound]
      have hv0 : v0 = v9 := by
       have h1 := a1.s.qb
       unfold Bx at h1 hbq
       rw [hbq] at h1
       injection h1 with h1
       injection h1 with h1 _ _
       have h1 := congrArg Array.toList h1
       simpa using h1
      subst hv0
      dsimp only at hb13 hb14
      have hle9 := found_len HO.out hT a2.toFound
      have hcall := add_any W9 a1.s ⟨qs, qm⟩ ⟨⟨ss, sm⟩, way, back⟩ (by simp [keysL]; omega) a1.st.size
      unfold kvP kvS at hcall
      have HC := zH hcall
      have A1 := zH a1
      have A2 := zH a2
      have A3 := zH (And.intro a3 a4)
      have A5 := zH (And.intro a5 (And.intro a6 a7))
      have A8 := zH (And.intro a8 a9)
      have HB13 := zH hb13
      have HVB := zH hvb
      have HX9 := zH hx
      have d0 := hb13.cell 0
      have d1 := hb13.cell 1
      have f0 := hb14.cell 0
      have f1 := hb14.cell 1
      have f2 := hb14.cell 2
      have f3 := hb14.cell 3
      have c0 := a1.ba.cell 0
      unfold addV at c0
      simp only [zD, zE] at c0 d0 d1 f0 f1 f2 f3
      clear hcall a1 a2 a3 a4 a5 a6 a7 a8 a9 hb13 hb14 hbq hvb H00 hseq HPOP HRL
      gi_wp2_with fail
      refine (callsIn_FW HC.out).mono ?_
      rintro e W10 ⟨rfl, v', hs', hX', hn'⟩
      rw [addQ_drop ord9 ⟨qs, qm⟩ ⟨⟨ss, sm⟩, way, back⟩ (show Ds.length + 1 ≤ ord9.length from A2.out.kl)] at hs'
      have hr' := A1.out.add hs' hX' hn'
      have hb' : Bx W10 g13 [.int .i64 qs, .int .i64 qm] 152 := srch_keeps A1.out.s hX' HB13.out (fun cs fr e => by injection e with _ e; exact absurd e (by decide)) (fun es c e => by cases e) HVB.out
      have ho' : Bx W10 go [.int .i64 0, .int .i64 0] 152 := srch_keeps A1.out.s hX' A3.out.1 (fun cs fr e => by injection e with _ e; exact absurd e (by decide)) (fun es c e => by cases e) A5.out.1
      have hf' : Bx W10 gf [.bool false] 4 := srch_keeps A1.out.s hX' A3.out.2 (fun cs fr e => by injection e with _ e; exact absurd e (by decide)) (fun es c e => by cases e) (A1.out.s.qu.ne_bx A3.out.2 (by decide))
      have hm' : MarksAt Ds W10 := fun D hD => srch_keeps A1.out.s hX' (A8.out.1 D hD) (fun cs fr e => by cases e) (fun es c e => by cases e) (own_cells A1.out.s.qu (A8.out.1 D hD) fun cs fr e => by cases e)
      have hkf : KeepsFrom W3.heap.size W9 W10 := srch_from A1.out.s hX' (by omega) (by omega)
      have HR' := zH hr'
      have HB' := zH (And.intro ho' (And.intro hf' hm'))
      have HKF := zH hkf
      have HXX := zH hX'
      have HNN := zH hn'
      have d0 := hb'.cell 0
      have d1 := hb'.cell 1
      simp only [zD, zE] at d0 d1
      clear hs' hX' hn' hr' hb' ho' hf' hm' hkf HC c0 f0 f1 f2 f3
      by_cases hz : qs = 0
      ·have hd : (qs == 0) = true := by simpa using hz
       have HV := zH (show FoundOut (netOf h T) f (addB ord9 (⟨qs, qm⟩, ⟨⟨ss, sm⟩, way, back⟩)) ⟨qs, qm⟩ from ⟨A2.out.found (netOf_ok HO.out T) HY.out.wok HX9.out, addB_mem ord9 (⟨qs, qm⟩, ⟨⟨ss, sm⟩, way, back⟩), hz⟩)
       have o0 := HB'.out.1.cell 0
       have o1 := HB'.out.1.cell 1
       have w0 := HB'.out.1.frozen 0
       have w1 := HB'.out.1.frozen 1
       have k0 := HB'.out.2.1.cell 0
       have w2 := HB'.out.2.1.frozen 0
       have ol := HB'.out.1.lt
       have kl := HB'.out.2.1.lt
       have nf : gf ≠ go := bx_ne HB'.out.2.1 HB'.out.1 (by decide)
       simp only [zD, zE] at o0 o1 k0
       clear hz
       gi_wp2_with fail
       gi_wp2
       obtain ⟨W11, hW11⟩ : ∃ z, z = (W10.setCell ⟨go, 0, none⟩ (.int .i64 qs)).setCell ⟨go, 1, none⟩ (.int .i64 qm) := ⟨_, rfl⟩
       obtain ⟨W12, hW12⟩ : ∃ z, z = W11.setCell ⟨gf, 0, none⟩ (.bool true) := ⟨_, rfl⟩
       have b2 := set2H HB'.out.1 (.int .i64 qs) (.int .i64 qm)
       rw [← hW11] at b2
       have hgf1 : Bx W11 gf [.bool false] 4 := HB'.out.2.1.keep b2.2.keeps nf
       have x2 : StepX (fun j => j = gf) W11 W12 := by rw [hW12]; exact (StepX.refl _ _).set1 0 _
       have hgf2 : Bx W12 gf [.bool true] 4 := by rw [hW12]; exact hgf1.setCell 0 _
       have hgo2 : Bx W12 go [.int .i64 qs, .int .i64 qm] 152 := b2.1.keep x2.keeps (Ne.symm nf)
       have hs10 := HR'.out.s.sb
       have h310 := HR'.out.b3
       have hm10 := HR'.out.s.mg
       have hgs2 : Bx W12 gs [.map (some r)] 146 := (hs10.keep b2.2.keeps (bx_ne hs10 HB'.out.1 (by decide))).keep x2.keeps (bx_ne hs10 HB'.out.2.1 (by decide))
       have h32 : Bx W12 g3 [.int .i64 0, .int .i64 0] 152 := (h310.keep b2.2.keeps (Ne.symm HNG.out)).keep x2.keeps (bx_ne h310 HB'.out.2.1 (by decide))
       have hm2 : MG kvP kvS W12 r (lookB (addB ord9 (⟨qs, qm⟩, ⟨⟨ss, sm⟩, way, back⟩))) := (hm10.keep b2.2.keeps (hm10.nob HB'.out.1).symm).keep x2.keeps (hm10.nob HB'.out.2.1).symm
       have hst2 : Step w W12 := StepX.fresh (StepX.fresh HR'.out.st b2.2 fun j hj => by subst hj; exact HGO.out.1) x2 fun j hj => by subst hj; exact HGO.out.2
       have hmk : MarksAt Ds W12 := fun D hD => by
        have h1 := HB'.out.2.2 D hD
        have e1 : D ≠ go := fun e => by
         have h2 := HB'.out.1
         unfold Bx at h2
         rw [← e, h1] at h2
         cases h2
        have e2 : D ≠ gf := fun e => by
         have h2 := HB'.out.2.1
         unfold Bx at h2
         rw [← e, h1] at h2
         cases h2
        have h3 := (b2.2.block D (Array.getElem?_eq_some_iff.1 h1).1 e1).trans h1
        exact (x2.block D (Array.getElem?_eq_some_iff.1 h3).1 e2).trans h3
       have hkf2 : KeepsFrom W3.heap.size W10 W12 := (keepsFrom_bx HB'.out.1 b2.2).trans (keepsFrom_bx hgf1 x2)
       (try rw [← hW11])
       (try rw [← hW12])
       exact ⟨HKF.out.trans hkf2, rfl, _, ⟨qs, qm⟩, hm2, hgs2, h32, hgo2, hgf2, hst2, HV.out, hmk⟩
      ·have hd : (qs == 0) = false := by simpa using hz
       have HV := zH (A2.out.add (netOf_ok HO.out T) HY.out.wok HX9.out hz)
       clear hz
       gi_wp2
       refine ⟨HKF.out, ⟨HXX.out.mono fun j hj hs => ?_, srch_keepT A1.out.s HXX.out⟩, _, v', HR'.out, by rw [List.map_append]; exact HV.out, HB'.out.1, HB'.out.2.1, fun e => ?_, fun e => ?_, fun e => ?_, HB'.out.2.2, Nat.le_trans A8.out.2 HKF.out.size⟩
       ·rcases hs with rfl | rfl | e
        ·exact ⟨A1.out.s.hq, by omega, by omega⟩
        ·exact ⟨A1.out.s.hr, by omega, by omega⟩
        ·exact ⟨(A1.out.s.qu.lt j e).1, fun e' => A5.out.2.1 (e' ▸ e), fun e' => A5.out.2.2 (e' ▸ e)⟩
       ·rcases HNN.out go e with h1 | h1
        ·exact A5.out.1 h1
        ·have := A3.out.1.lt; omega
       ·rcases HNN.out gp e with h1 | h1
        ·exact A5.out.2.1 h1
        ·have := A8.out.2; omega
       ·rcases HNN.out gff e with h1 | h1
        ·exact A5.out.2.2 h1
        ·have := A8.out.2; omega
     case done =>
      intro D ys W9 hDl hys hI hK9
      obtain ⟨ord9, v9, a1, a2, a3, a4, a5, a6, a7, a8, a9⟩ := hI
      rw [show ys.map (·.1) = stepsL (netOf h T) f p from hys] at a2
      have hbd := a2.done
      have hnD : D ∉ Ds := fun hD => by have := hn.2.2.2.2 D hD; omega
      have hnew : RL w g3 gs gq ga r go gf (netOf h T) f (D :: Ds) ord9 v9 W9 := ⟨a1, hbd, a3, a4, a5, HRL.out.ng, List.nodup_cons.2 ⟨hnD, HRL.out.nd⟩, fun d hd => (List.mem_cons.1 hd).elim (fun e => e ▸ hK9) (a8 d), fun d hd => (List.mem_cons.1 hd).elim (fun e => by rw [e]; omega) (HRL.out.ml d)⟩
      have HNEW := zH hnew
      have hlD : Ds.length ≤ 620 := by omega
      clear hseq H00 a1 a2 a3 a4 a5 a6 a7 a8 a9 hbd hys hK9 hnew
      gi_wp2
      refine ⟨⟨_, _, _, _, _, _, _, _, _, _, _, _, _, _, _, _, _, _, _, _, _, _, _, _, _, _, _, _, _, _, _, _, _, _, _, _, _, _, _, _, _, _, _, _, _, _, _, _, _, _, D :: Ds, ord9, v9, rfl, HNEW.out⟩, ?_⟩
      simp
      omega
     case stop =>
      intro D c pre W9 hDl hpre hI hK9
      obtain ⟨rfl, ord9, q9, a1, a2, a3, a4, a5, a6, a7, a8⟩ := hI
      have hnD : D ∉ Ds := fun hD => by have := hn.2.2.2.2 D hD; omega
      have hnew : RE w g3 gs r go gf (netOf h T) f (D :: Ds) ord9 q9 true W9 := ⟨a1, a2, a3, a4, a5, a6, fun _ => a7, (fun e => by cases e), HRL.out.ng, List.nodup_cons.2 ⟨hnD, HRL.out.nd⟩, fun d hd => (List.mem_cons.1 hd).elim (fun e => e ▸ hK9) (a8 d), fun d hd => (List.mem_cons.1 hd).elim (fun e => by rw [e]; omega) (HRL.out.ml d)⟩
      have HNEW := zH hnew
      clear hseq H00 a1 a2 a3 a4 a5 a6 a7 a8 hpre hK9 hnew
      refine wpIn_exit ?_
      gi_wp2
      exact ⟨trivial, _, _, _, _, _, _, _, _, _, _, _, _, _, _, _, _, _, _, _, _, _, _, _, _, _, _, _, _, _, _, _, _, _, _, _, _, _, _, _, _, _, _, _, _, _, _, _, _, _, _, D :: Ds, ord9, q9, true, rfl, HNEW.out⟩
end Go.Proofs.YtfhmdpicoccnfaaGreat
namespace Go.BT
theorem StepK.bounds {h : Hall} {T : Nat} {f : Fs} (O : HallOk h) {q : Pc} {s : Sp} (hk : StepK (netOf h T) f s.frm q s) (hp : InB (netOf h T) s.frm) (hq : InB (netOf h T) q) :
  (s.way = -1) ∨ (0 ≤ s.way ∧ s.way < (h.ways.length : Int) ∧ (s.back = true → 0 ≤ q.minute ∧ q.minute < (T : Int)) ∧ (s.back = false → 0 ≤ s.frm.minute ∧ s.frm.minute < (T : Int))) := by
 have ok := netOf_ok O T
 have hp4 : s.frm.minute ≤ (T : Int) := hp.2.2.2
 have hp3 := hp.2.2.1
 have hq4 : q.minute ≤ (T : Int) := hq.2.2.2
 have hq3 := hq.2.2.1
 generalize hf : s.frm = p at *
 cases hk with
 | wait _ => exact .inl rfl
 | unwait _ => exact .inl rfl
 | go i hi a c d =>
  have hd := ok.d0 i hi
  have hi : i < h.ways.length := hi
  have hc : p.minute + ((netOf h T).d i : Int) ≤ (T : Int) := c
  exact .inr ⟨by show (0 : Int) ≤ i; omega, by show (i : Int) < _; omega, fun e => (by cases e), fun _ => ⟨hp3, by omega⟩⟩
 | back i hi a c d =>
  have hd := ok.d0 i hi
  have hi : i < h.ways.length := hi
  exact .inr ⟨by show (0 : Int) ≤ i; omega, by show (i : Int) < _; omega, fun _ => ⟨hq3, by simp only at hq4 ⊢; omega⟩, fun e => (by cases e)⟩
end Go.BT
namespace Go.Proofs.YtfhmdpicoccnfaaGreat
set_option linter.unusedSimpArgs false
set_option linter.unusedVariables false
open Go.RowKit Go.BT
theorem room_any {base : Nat} {B : FB} {vp vw vl : Value} {sc : Nat} {h : Hall} {T : Nat} {f f0 : Fs} (w : World) (F : FT base w B vp vw vl sc h T f) (O : HallOk h) (N : Near 5000000000000 f) (q : Pc) (s : Sp)
  (hk : StepK (netOf h T) f0 s.frm q s) (hp : InB (netOf h T) s.frm) (hq : InB (netOf h T) q) :
  Calls Tryz.prog 107 #[.pointer (some ⟨B.fl, 0, none⟩), kvP q, kvS s] w fun e w' => e = .returned (.int .i64 (roomF (netOf h T) f q s)) ∧ Step w w' := by
 have hb := StepK.bounds O hk hp hq
 clear hk hp hq
 obtain ⟨⟨fs, fm⟩, way, back⟩ := s
 obtain ⟨qs, qm⟩ := q
 dsimp only at hb
 obtain ⟨W0, hW0⟩ : ∃ W, W = (w.alloc (.cells #[.int .i64 qs, .int .i64 qm] 152)).alloc (.cells #[.int .i64 fs, .int .i64 fm, .int .i64 way, .bool back] 186) := ⟨_, rfl⟩
 have hbq : Bx W0 w.heap.size [.int .i64 qs, .int .i64 qm] 152 := by subst hW0; exact (Bx.new w [_, _] _).alloc _
 have hbs : Bx W0 (w.heap.size + 1) [.int .i64 fs, .int .i64 fm, .int .i64 way, .bool back] 186 := by subst hW0; exact Bx.new' _ [_, _, _, _] _ _ (by simp)
 have hS : Step w W0 := by subst hW0; exact (Step.alloc _ _).trans (Step.alloc _ _)
 have FW := F.step hS
 obtain ⟨e0, e1, e2, e3, e4, e5⟩ := FW.cells
 have q0 := hbq.cell 0
 have q1 := hbq.cell 1
 have s0 := hbs.cell 0
 have s1 := hbs.cell 1
 have s2 := hbs.cell 2
 have s3 := hbs.cell 3
 simp only [zD, zE] at q0 q1 s0 s1 s2 s3
 have HF := zH FW
 have HO := zH O
 have HN := zH N
 have HS := zH hS
 have HW := zH hW0
 clear F FW hbq hbs hS hW0 O N
 unfold kvP kvS
 rcases hb with hb | ⟨b1, b2, b3, b4⟩
 ·have hd : decide (way < 0) = true := by simp; omega
  cases back with
  | true =>
   have HR := zH (show roomF (netOf h T) f ⟨qs, qm⟩ ⟨⟨fs, fm⟩, way, true⟩ = f.wt ⟨qs, qm⟩ by unfold roomF; rw [if_pos (by show way < 0; omega), if_pos rfl])
   obtain ⟨g, hm, hg⟩ := HF.out.ws
   have hlk := look_wait hm ⟨qs, qm⟩
   rw [hg] at hlk
   unfold kvP kvI at hlk
   have HM := zH hlk
   clear hm hlk hb
   go_enter Tryz.func107, Tryz.ntmps107
   go_upto_region 2 with (fail)
   rw [← HW.out]
   have hlk : ∀ W, Step W0 W → (Instr.lookup 148 (.map (some B.mp)) (.agg #[.int .i64 qs, .int .i64 qm]) false).run Tryz.prog W = .ok (.int .i64 (f.wt ⟨qs, qm⟩)) W := fun W hW => by
    obtain ⟨g, hm, hg⟩ := (HF.out.step hW).ws
    have hlk := look_wait hm ⟨qs, qm⟩
    rw [hg] at hlk
    exact hlk
   have hlk0 := hlk W0 (Step.refl _)
   have hlk1 := hlk W0.drew (Step.drew _)
   clear hlk
   go_region
   go_wp2
   go_ret
   exact ⟨by rw [HR.out]; rfl, by first | exact HS.out | exact HS.out.trans (Step.drew _) | exact HS.out.trans (Step.drewN _ _)⟩
  | false =>
   have HR := zH (show roomF (netOf h T) f ⟨qs, qm⟩ ⟨⟨fs, fm⟩, way, false⟩ = allH h by unfold roomF; rw [if_pos (by show way < 0; omega), if_neg (by simp), all_net])
   clear hb
   go_enter Tryz.func107, Tryz.ntmps107
   go_upto_region 4 with (fail)
   rw [← HW.out]
   go_wp2_with fail
   refine (hall_all _ h _ _ HF.out.av HO.out).mono ?_
   rintro e w1 ⟨rfl, hS1⟩
   rw [← HR.out]
   go_wp2
   go_ret
   exact ⟨rfl, HS.out.trans hS1⟩
 ·have hd : decide (way < 0) = false := by simp; omega
  obtain ⟨i, rfl⟩ : ∃ i : Nat, way = i := ⟨way.toNat, by omega⟩
  have hi : i < h.ways.length := by omega
  have hix : (0 : Int) ≤ (i : Int) ∧ (i : Int) < (h.ways.length : Int) := by omega
  cases back with
  | true =>
   obtain ⟨c1, c2⟩ := b3 rfl
   obtain ⟨t, rfl⟩ : ∃ t : Nat, qm = t := ⟨qm.toNat, by omega⟩
   have ht : t < T := by omega
   have htx : (0 : Int) ≤ (t : Int) ∧ (t : Int) < (T : Int) := by omega
   have HR := zH (show roomF (netOf h T) f ⟨qs, t⟩ ⟨⟨fs, fm⟩, i, true⟩ = f.pl i t by unfold roomF; rw [if_neg (by show ¬ (i : Int) < 0; omega), if_pos rfl]; simp)
   obtain ⟨c, hvl, p1, p2⟩ := HF.out.plan hi ht
   subst hvl
   clear b3 b4 b1 b2 c1 c2
   go_enter Tryz.func107, Tryz.ntmps107
   go_upto_region 6 with (fail)
   rw [← HW.out]
   go_quiet (fail)
   go_wp2
   go_ret
   exact ⟨by rw [HR.out]; rfl, by first | exact HS.out | exact HS.out.trans (Step.drew _) | exact HS.out.trans (Step.drewN _ _)⟩
  | false =>
   obtain ⟨c1, c2⟩ := b4 rfl
   obtain ⟨t, rfl⟩ : ∃ t : Nat, fm = t := ⟨fm.toNat, by omega⟩
   have ht : t < T := by omega
   have htx : (0 : Int) ≤ (t : Int) ∧ (t : Int) < (T : Int) := by omega
   obtain ⟨pw, cw, bw, ow, hvw, _, _, hpw, hcw, _⟩ := HF.out.hw.wys
   obtain ⟨w1, w2, w3, w4⟩ := hcw i hi
   obtain rfl := hpw (by omega)
   subst hvw
   have hcb := (HO.out.way i hi).2.2.2.1
   have hpb := HN.out.1 i t
   have HR := zH (show roomF (netOf h T) f ⟨qs, qm⟩ ⟨⟨fs, t⟩, i, false⟩ = h.ways[i].cap - f.pl i t by
    unfold roomF; rw [if_neg (by show ¬ (i : Int) < 0; omega), if_neg (by simp)]
    show (wyAt h (i : Int).toNat).cap - f.pl (i : Int).toNat (t : Int).toNat = _
    simp [wyAt_at hi])
   have hwr : IntKind.i64.wrap (h.ways[i].cap - f.pl i t) = h.ways[i].cap - f.pl i t := by rw [IntKind.wrap_i64]; omega
   obtain ⟨c, hvl, p1, p2⟩ := HF.out.plan hi ht
   subst hvl
   clear b3 b4 b1 b2 c1 c2 hcw hpw w1 w2 w4 hcb hpb
   go_enter Tryz.func107, Tryz.ntmps107
   go_upto_region 7 with (fail)
   rw [← HW.out]
   go_quiet (fail)
   go_wp2
   go_ret
   exact ⟨by first | (rw [HR.out, hwr]; rfl) | (rw [HR.out]; rfl), by first | exact HS.out | exact HS.out.trans (Step.drew _) | exact HS.out.trans (Step.drewN _ _)⟩
theorem entry_wait {w : World} {r : Nat} {g : Pc → Option Int} (h : MG kvP kvI w r g) (p : Pc) :
  ∃ (st : Nat) (w1 : World), (Instr.mapEntry 148 (.map (some r)) (kvP p)).run Tryz.prog w = .ok (.tuple #[kvI ((g p).getD 0), .int .i64 st]) w1 ∧ MG kvP kvI w1 r (fun y => if y = p then some ((g p).getD 0) else g y) ∧ Wrote r w w1 ∧
   ∀ (w2 : World) (v : Int), w2.heap[r]? = w1.heap[r]? → ∃ w3, (Instr.entryStore 148 (.map (some r)) (.int .i64 st) (kvI v)).run Tryz.prog w2 = .ok () w3 ∧ MG kvP kvI w3 r (fun y => if y = p then some v else g y) ∧ Wrote r w2 w3 :=
 run_entry_mg underMI keyG_place p h 0 zero_int
theorem move_any {base : Nat} {B : FB} {vp vw vl : Value} {sc : Nat} {h : Hall} {T : Nat} {f f0 : Fs} (w : World) (F : FT base w B vp vw vl sc h T f) (O : HallOk h) (N : Near 5000000000000 f) (q : Pc) (s : Sp)
  (hk : StepK (netOf h T) f0 s.frm q s) (hp : InB (netOf h T) s.frm) (hq : InB (netOf h T) q) (n : Int) (hn : 0 ≤ n ∧ n ≤ 1000000000) :
  Calls Tryz.prog 108 #[.pointer (some ⟨B.fl, 0, none⟩), kvP q, kvS s, .int .i64 n] w fun e w' => e = .returned (.tuple #[]) ∧ FT base w' B vp vw vl sc h T (mvF f q s n) ∧ StepX (B.In h.ways.length) w w' := by
 have hb := StepK.bounds O hk hp hq
 clear hk hp hq
 obtain ⟨⟨fs, fm⟩, way, back⟩ := s
 obtain ⟨qs, qm⟩ := q
 dsimp only at hb
 obtain ⟨W0, hW0⟩ : ∃ W, W = (w.alloc (.cells #[.int .i64 qs, .int .i64 qm] 152)).alloc (.cells #[.int .i64 fs, .int .i64 fm, .int .i64 way, .bool back] 186) := ⟨_, rfl⟩
 have hbq : Bx W0 w.heap.size [.int .i64 qs, .int .i64 qm] 152 := by subst hW0; exact (Bx.new w [_, _] _).alloc _
 have hbs : Bx W0 (w.heap.size + 1) [.int .i64 fs, .int .i64 fm, .int .i64 way, .bool back] 186 := by subst hW0; exact Bx.new' _ [_, _, _, _] _ _ (by simp)
 have hS : Step w W0 := by subst hW0; exact (Step.alloc _ _).trans (Step.alloc _ _)
 have FW := F.step hS
 obtain ⟨e0, e1, e2, e3, e4, e5⟩ := FW.cells
 have q0 := hbq.cell 0
 have q1 := hbq.cell 1
 have s0 := hbs.cell 0
 have s1 := hbs.cell 1
 have s2 := hbs.cell 2
 have s3 := hbs.cell 3
 simp only [zD, zE] at q0 q1 s0 s1 s2 s3
 have HF := zH FW
 have HO := zH O
 have HN := zH N
 have HS := zH hS
 have HW := zH hW0
 clear F FW hbq hbs hS hW0 O N
 unfold kvP kvS
 rcases hb with hb | ⟨b1, b2, b3, b4⟩
 ·have hd : decide (way < 0) = true := by simp; omega
  cases back with
  | true =>
   have HMV := zH (show mvF f ⟨qs, qm⟩ ⟨⟨fs, fm⟩, way, true⟩ n = { f with wt := updW f.wt ⟨qs, qm⟩ (f.wt ⟨qs, qm⟩ - n) } by unfold mvF; rw [if_pos (by show way < 0; omega), if_pos rfl])
   have hwb := HN.out.2 ⟨qs, qm⟩
   have hwr : IntKind.i64.wrap (f.wt ⟨qs, qm⟩ - n) = f.wt ⟨qs, qm⟩ - n := by rw [IntKind.wrap_i64]; omega
   clear hb hwb
   obtain ⟨g, hm, hg⟩ := (HF.out.step (Step.drew W0)).ws
   obtain ⟨st, w1, hme, hm1, hw1, hes⟩ := entry_wait hm ⟨qs, qm⟩
   have hlk := look_wait hm ⟨qs, qm⟩
   have hlk1 := look_wait hm1 ⟨qs, qm⟩
   rw [if_pos rfl, Option.getD_some] at hlk1
   obtain ⟨w3, hse, hm3, hw3⟩ := hes w1 (f.wt ⟨qs, qm⟩ - n) rfl
   rw [hg] at hlk hlk1 hme
   unfold kvP kvI at hlk hlk1 hme
   unfold kvI at hse
   have HM3 := zH hm3
   have HW1 := zH hw1
   have HW3 := zH hw3
   have HG := zH hg
   clear hm hm1 hes hm3 hw1 hw3 hg
   go_enter Tryz.func108, Tryz.ntmps108
   go_upto_region 3 with (fail)
   rw [← HW.out]
   go_region
   go_wp2
   go_end0
   have hS0 := HS.out.trans (Step.drew W0)
   have hwr : Wrote B.mp W0.drew w3 := HW1.out.trans HW3.out
   refine ⟨rfl, ?_, (StepX.of hS0).trans (Wrote.stepX hwr (.inr (.inr (.inr (.inl rfl)))))⟩
   rw [HMV.out]
   exact (HF.out.step (Step.drew W0)).setWait hwr HG.out HM3.out
  | false =>
   have HMV := zH (show mvF f ⟨qs, qm⟩ ⟨⟨fs, fm⟩, way, false⟩ n = { f with wt := updW f.wt ⟨fs, fm⟩ (f.wt ⟨fs, fm⟩ + n) } by unfold mvF; rw [if_pos (by show way < 0; omega), if_neg (by simp)])
   have hwb := HN.out.2 ⟨fs, fm⟩
   have hwr : IntKind.i64.wrap (f.wt ⟨fs, fm⟩ + n) = f.wt ⟨fs, fm⟩ + n := by rw [IntKind.wrap_i64]; omega
   clear hb hwb
   obtain ⟨g, hm, hg⟩ := (HF.out.step (Step.drew W0)).ws
   obtain ⟨st, w1, hme, hm1, hw1, hes⟩ := entry_wait hm ⟨fs, fm⟩
   have hlk := look_wait hm ⟨fs, fm⟩
   have hlk1 := look_wait hm1 ⟨fs, fm⟩
   rw [if_pos rfl, Option.getD_some] at hlk1
   obtain ⟨w3, hse, hm3, hw3⟩ := hes w1 (f.wt ⟨fs, fm⟩ + n) rfl
   rw [hg] at hlk hlk1 hme
   unfold kvP kvI at hlk hlk1 hme
   unfold kvI at hse
   have HM3 := zH hm3
   have HW1 := zH hw1
   have HW3 := zH hw3
   have HG := zH hg
   clear hm hm1 hes hm3 hw1 hw3 hg
   go_enter Tryz.func108, Tryz.ntmps108
   go_upto_region 5 with (fail)
   rw [← HW.out]
   go_region
   go_wp2
   go_end0
   have hS0 := HS.out.trans (Step.drew W0)
   have hwr : Wrote B.mp W0.drew w3 := HW1.out.trans HW3.out
   refine ⟨rfl, ?_, (StepX.of hS0).trans (Wrote.stepX hwr (.inr (.inr (.inr (.inl rfl)))))⟩
   rw [HMV.out]
   exact (HF.out.step (Step.drew W0)).setWait hwr HG.out HM3.out
 ·have hd : decide (way < 0) = false := by simp; omega
  obtain ⟨i, rfl⟩ : ∃ i : Nat, way = i := ⟨way.toNat, by omega⟩
  have hi : i < h.ways.length := by omega
  have hix : (0 : Int) ≤ (i : Int) ∧ (i : Int) < (h.ways.length : Int) := by omega
  cases back with
  | true =>
   obtain ⟨c1, c2⟩ := b3 rfl
   obtain ⟨t, rfl⟩ : ∃ t : Nat, qm = t := ⟨qm.toNat, by omega⟩
   have ht : t < T := by omega
   have htx : (0 : Int) ≤ (t : Int) ∧ (t : Int) < (T : Int) := by omega
   have HMV := zH (show mvF f ⟨qs, t⟩ ⟨⟨fs, fm⟩, i, true⟩ n = { f with pl := updP f.pl i t (f.pl i t - n) } by unfold mvF; rw [if_neg (by show ¬ (i : Int) < 0; omega), if_pos rfl]; simp)
   obtain ⟨c, hvl, p1, p2⟩ := HF.out.plan hi ht
   have p3 := HF.out.row_frozen hi t
   have p4 := (HF.out.rw i hi).lt
   have hpb := HN.out.1 i t
   have hwr : IntKind.i64.wrap (f.pl i t - n) = f.pl i t - n := by rw [IntKind.wrap_i64]; omega
   subst hvl
   clear b3 b4 b1 b2 c1 c2 hpb
   go_enter Tryz.func108, Tryz.ntmps108
   go_upto_region 7 with (fail)
   rw [← HW.out]
   go_region
   go_wp2
   go_end0
   have hS0 := HS.out.trans (Step.drew W0)
   refine ⟨rfl, ?_, ((StepX.of hS0).setCell ⟨B.rb i, t, none⟩ _ (.inr (.inr (.inr (.inr ⟨i, hi, rfl⟩)))))⟩
   rw [HMV.out]
   exact (HF.out.step (Step.drew W0)).setPlan (by decide) (by decide) hi _
  | false =>
   obtain ⟨c1, c2⟩ := b4 rfl
   obtain ⟨t, rfl⟩ : ∃ t : Nat, fm = t := ⟨fm.toNat, by omega⟩
   have ht : t < T := by omega
   have htx : (0 : Int) ≤ (t : Int) ∧ (t : Int) < (T : Int) := by omega
   have HMV := zH (show mvF f ⟨qs, qm⟩ ⟨⟨fs, t⟩, i, false⟩ n = { f with pl := updP f.pl i t (f.pl i t + n) } by unfold mvF; rw [if_neg (by show ¬ (i : Int) < 0; omega), if_neg (by simp)]; simp)
   obtain ⟨c, hvl, p1, p2⟩ := HF.out.plan hi ht
   have p3 := HF.out.row_frozen hi t
   have p4 := (HF.out.rw i hi).lt
   have hpb := HN.out.1 i t
   have hwr : IntKind.i64.wrap (f.pl i t + n) = f.pl i t + n := by rw [IntKind.wrap_i64]; omega
   subst hvl
   clear b3 b4 b1 b2 c1 c2 hpb
   go_enter Tryz.func108, Tryz.ntmps108
   go_upto_region 1 with (fail)
   rw [← HW.out]
   go_region
   go_wp2
   go_end0
   have hS0 := HS.out.trans (Step.drew W0)
   refine ⟨rfl, ?_, ((StepX.of hS0).setCell ⟨B.rb i, t, none⟩ _ (.inr (.inr (.inr (.inr ⟨i, hi, rfl⟩)))))⟩
   rw [HMV.out]
   exact (HF.out.step (Step.drew W0)).setPlan (by decide) (by decide) hi _
theorem neq_place (a b c d : Int) (w : World) : (binOp .neq 152 (.agg #[.int .i64 a, .int .i64 b]) (.agg #[.int .i64 c, .int .i64 d])).run Tryz.prog w = .ok (.bool (!decide ((⟨a, b⟩ : Pc) = ⟨c, d⟩))) w := by
 have h := equal_place ⟨a, b⟩ ⟨c, d⟩ w
 unfold Op.equal Op.maxDepth kvP at h
 rw [run_neq_struct, h]
 rfl
theorem stepX_new {X Y : Nat → Prop} {w W W' : World} (h : StepX X w W) (k : StepX Y W W') (hy : ∀ j, Y j → X j ∨ w.heap.size ≤ j) : StepX X w W' :=
 ⟨k.os.trans h.os, k.tape.trans h.tape, k.output.trans h.output, Nat.le_trans h.size k.size, fun j hj hx => (k.block j (Nat.lt_of_lt_of_le hj h.size) fun hyj => (hy j hyj).elim hx (by omega)).trans (h.block j hj hx)⟩
theorem field_from (w : World) (a b c : Int) (d : Bool) : (Instr.field 186 (.agg #[.int .i64 a, .int .i64 b, .int .i64 c, .bool d]) 0).run Tryz.prog w = .ok (.agg #[.int .i64 a, .int .i64 b]) w := by kernel_rfl
theorem field_spot (w : World) (a b : Int) : (Instr.field 152 (.agg #[.int .i64 a, .int .i64 b]) 0).run Tryz.prog w = .ok (.int .i64 a) w := by kernel_rfl
theorem look_at {w : World} {r : Nat} {ord : List (Pc × Sp)} (h : MG kvP kvS w r (lookB ord)) {p : Pc} {s : Sp} (hs : lookB ord p = some s) : (Instr.lookup 146 (.map (some r)) (.agg #[.int .i64 p.spot, .int .i64 p.minute]) false).run Tryz.prog w = .ok (.agg #[.int .i64 s.frm.spot, .int .i64 s.frm.minute, .int .i64 s.way, .bool s.back]) w := by
 have := look_seen h p
 rw [hs] at this
 exact this
theorem fill_any {base : Nat} {B : FB} {vp vw vl : Value} {sc : Nat} {h : Hall} {T : Nat} {f : Fs} (w : World) (F : FT base w B vp vw vl sc h T f) (O : HallOk h) (hT : T ≤ 61) (Y : Fly (netOf h T) f) (N : Near (nearB (netOf h T) f) f) :
  Calls Tryz.prog 67 #[.pointer (some ⟨B.fl, 0, none⟩)] w fun e w' => ∃ r f' ord, e = .returned (.map (some r)) ∧ FT base w' B vp vw vl sc h T f' ∧ Fly (netOf h T) f' ∧ Bfs (netOf h T) f' ord ord.length ∧ MG kvP kvS w' r (lookB ord) ∧ StepX (B.In h.ways.length) w w' := by
 have HO := zH O
 have hlf := F.fl.lt
 have hls := F.lt
 have HLS := zH hls
 have F0 := zH (And.intro F (And.intro Y N))
 clear F O Y N hls
 go_enter Tryz.func67, Tryz.ntmps67
 go_wp2
 go_loopg [] (sumN (netOf h T).n f.rs).toNat (fun k wr => ∃ f1, FT base wr B vp vw vl sc h T f1 ∧ Fly (netOf h T) f1 ∧ Near (nearB (netOf h T) f1) f1 ∧ StepX (B.In h.ways.length) w wr ∧ (sumN (netOf h T).n f1.rs).toNat = k)
 case atStart => exact ⟨f, F0.out.1, F0.out.2.1, F0.out.2.2, StepX.refl _ _, rfl⟩
 case round =>
  obtain ⟨f1, F1, Y1, N1, X1, hgk⟩ := hrel
  have hcall : Calls Tryz.prog 106 #[.pointer (some ⟨B.fl, 0, none⟩)] wr fun e w' => ∃ r ord q fnd, e = .returned (.tuple #[.map (some r), .agg #[.int .i64 q.spot, .int .i64 q.minute], .bool fnd]) ∧ wr.heap.size ≤ r ∧ MG kvP kvS w' r (lookB ord) ∧ (fnd = true → FoundOut (netOf h T) f1 ord q) ∧ (fnd = false → Bfs (netOf h T) f1 ord ord.length) ∧ Step wr w' := reach_any wr F1 HO.out hT Y1
  have HC := zH hcall
  have HF1 := zH F1
  have HY1 := zH Y1
  have HN1 := zH N1
  have HX1 := zH X1
  have HGK := zH hgk
  clear hcall F1 Y1 N1 X1 hgk F0
  go_wp2_with fail
  refine HC.out.mono ?_
  rintro e w1 ⟨r, ord, q, fnd, rfl, hr, hm, hyes, hno, hS1⟩
  have HM := zH hm
  have HR := zH (Nat.le_trans HX1.out.size hr)
  have HS1 := zH hS1
  clear hm hr hS1 HC
  cases fnd with
  | false =>
   have HB := zH (hno rfl)
   clear hyes hno
   go_wp2
   go_ret
   have hA := Step.alloc w1 (.cells #[.int .i64 q.spot, .int .i64 q.minute] 152)
   exact ⟨r, f1, ord, rfl, (HF1.out.step HS1.out).step hA, HY1.out, HB.out, HM.out.keep hA.keeps id, HX1.out.trans (.of (HS1.out.trans hA))⟩
  | true =>
   have hF := hyes rfl
   obtain ⟨P, rr, hP, hnd⟩ := hF.path
   have HP := zH (And.intro hP (And.intro hnd hF.2.2))
   clear hyes hno hF hP hnd
   go_upto_region 4 with (fail)
   obtain ⟨W2, hW2⟩ : ∃ z, z = w1.alloc (.cells #[.int .i64 q.spot, .int .i64 q.minute] 152) := ⟨_, rfl⟩
   obtain ⟨gO, hgO⟩ : ∃ z, z = w1.heap.size := ⟨_, rfl⟩
   have hbO : Bx W2 gO [.int .i64 q.spot, .int .i64 q.minute] 152 := by subst hW2 hgO; exact Bx.new _ [_, _] _
   have hS2 : Step w1 W2 := by subst hW2; exact Step.alloc _ _
   rw [← hW2, ← hgO]
   have F2 := (HF1.out.step HS1.out).step hS2
   have HM2 := zH (HM.out.keep hS2.keeps id)
   have HX2 := zH (HX1.out.trans (.of (HS1.out.trans hS2)))
   have HBO := zH hbO
   have HF2 := zH F2
   obtain ⟨e0, e1, e2, e3, e4, e5⟩ := F2.cells
   have l2 := F2.fl.lt
   have hgO2 : w.heap.size ≤ gO := by rw [hgO]; exact Nat.le_trans HX1.out.size HS1.out.size
   have HGO := zH hgO2
   have HA := zH (hall_all (fun j => base ≤ j) h _ W2 F2.av HO.out)
   clear hbO hS2 hW2 hgO F2 HF1 HM HX1 HS1 hgO2
   go_wp2_with fail
   refine HA.out.mono ?_
   rintro e w3 ⟨rfl, hS3⟩
   have o0 := (HBO.out.step hS3).cell 0
   have o1 := (HBO.out.step hS3).cell 1
   have ol := (HBO.out.step hS3).lt
   simp only [zD, zE] at o0 o1
   have HS3 := zH hS3
   have HAL := zH (HP.out.1.all_pos (netOf_ok HO.out T) HY1.out)
   clear hS3 e0 e1 e2 e3 e4 e5 l2 HA
   go_wp2
   obtain ⟨gF, hgF⟩ : ∃ z, z = w3.heap.size := ⟨_, rfl⟩
   obtain ⟨g8, hg8⟩ : ∃ z, z = w3.heap.size + 1 := ⟨_, rfl⟩
   obtain ⟨W4, hW4⟩ : ∃ z, z = (w3.alloc (.cells #[.int .i64 q.spot, .int .i64 q.minute] 152)).alloc (.cells #[.int .i64 q.spot, .int .i64 q.minute] 152) := ⟨_, rfl⟩
   have hbF : Bx W4 gF [.int .i64 q.spot, .int .i64 q.minute] 152 := by subst hW4 hgF; exact (Bx.new _ [_, _] _).alloc _
   have hb8 : Bx W4 g8 [.int .i64 q.spot, .int .i64 q.minute] 152 := by subst hW4 hg8; exact Bx.new' _ [_, _] _ _ (by simp)
   have hS4 : Step w3 W4 := by subst hW4; exact (Step.alloc _ _).trans (Step.alloc _ _)
   have hn8 : W2.heap.size ≤ gF ∧ W2.heap.size ≤ g8 ∧ gF ≠ g8 := by have := HS3.out.size; omega
   rw [← hW4, ← hg8, ← hgF]
   have HBF := zH hbF
   have HB8 := zH hb8
   have HN8 := zH hn8
   have HS4 := zH (HS3.out.trans hS4)
   have hall : (netOf h T).all = allH h := all_net h T
   have HALL := zH hall
   have hcap : (netOf h T).n * ((netOf h T).T + 1) ≤ 800 := Nat.le_trans (Nat.mul_le_mul (show h.people.length ≤ 10 from HO.out.n10) (show T + 1 ≤ 62 by omega)) (by decide)
   have hall5 : (netOf h T).all ≤ 50000 := by rw [hall]; exact (all_bound HO.out).2
   have HCAP := zH (And.intro hcap hall5)
   have HNEAR : Hid (Near 5000000000000 f1) := zH (near_part (ord := ord) (A := []) (B := []) (n := 1) HY1.out HN1.out hcap hall5 (Int.le_refl _) HAL.out.1 (by simp))
   clear hcap hall5
   have HGF2 := zH hn8.1
   clear hbF hb8 hn8 hS4 hW4 hg8 hgF o0 o1 ol hall HS3
   go_loopg [8, 6] P.length (fun k s8 s6 wr2 => ∃ (Pre Suf : List Pc) (p : Pc) (g8 : Nat) (n : Int), P = Pre ++ Suf ∧ Suf.length = k ∧ Path (netOf h T) f1 ord p Suf rr ∧ s8 = .pointer (some ⟨g8, 0, none⟩) ∧ s6 = .int .i64 n ∧ 1 ≤ n ∧ n ≤ allH h ∧ (∀ x ∈ Pre, n ≤ roomF (netOf h T) f1 x ((lookB ord x).getD default)) ∧ Bx wr2 g8 [.int .i64 p.spot, .int .i64 p.minute] 152 ∧ Bx wr2 gF [.int .i64 q.spot, .int .i64 q.minute] 152 ∧ Step W2 wr2 ∧ W2.heap.size ≤ g8 ∧ gF ≠ g8)
   case atStart => exact ⟨[], P, q, g8, allH h, rfl, rfl, HP.out.1, rfl, rfl, by have := HAL.out.1; rw [HALL.out] at this; exact this, Int.le_refl _, (fun x hx => by cases hx), HB8.out, HBF.out, HS4.out, HN8.out.2.1, HN8.out.2.2⟩
   case round =>
    obtain ⟨Pre, Suf, p, g8, n, hPS, hk, hpath, rfl, rfl, hn1, hn2, hroom, hb8, hbF, hSt, hg8, hne⟩ := hrel
    have hfd := field_from
    have hfs := field_spot
    have HPS := zH (And.intro hPS hk)
    have HRM := zH hroom
    have HBF2 := zH hbF
    have HB82 := zH hb8
    have HST := zH hSt
    have HNB := zH (And.intro hn1 hn2)
    have b0 := hb8.cell 0
    have b1 := hb8.cell 1
    have f0 := hbF.cell 0
    have f1' := hbF.cell 1
    have z0 := hbF.frozen 0
    have z1 := hbF.frozen 1
    have fl := hbF.lt
    simp only [zD, zE] at b0 b1 f0 f1'
    clear hPS hk hroom hbF hb8 hSt HBF HB8 HS4 HN8
    cases Suf with
    | nil =>
     obtain ⟨rfl, hl, hinb⟩ := hpath.nil_inv
     have hlk := look_at (HM2.out.keep HST.out.keeps id) hl
     dsimp only [rootSp] at hlk
     clear hpath hl hinb
     go_upto_region 13 with (fail)
     have HPSP := zH HPS.out.1
     clear b0 b1 f0 f1' z0 z1 fl hlk
     have b2 := set2H HBF2.out (.int .i64 p.spot) (.int .i64 p.minute)
     obtain ⟨Wn, hWn⟩ : ∃ z, z = (wr.setCell ⟨gF, 0, none⟩ (.int .i64 p.spot)).setCell ⟨gF, 1, none⟩ (.int .i64 p.minute) := ⟨_, rfl⟩
     rw [← hWn] at b2 ⊢
     have hSn : Step W2 Wn := StepX.fresh HST.out b2.2 fun j hj => by subst hj; exact HGF2.out
     obtain ⟨k, hkp⟩ : ∃ k : Nat, p.spot = k := ⟨p.spot.toNat, HAL.out.2.2.2⟩
     have hal := HAL.out
     rw [hkp, Int.toNat_natCast] at hal
     have hkn : k < h.people.length := hal.2.1
     have hix : (0 : Int) ≤ (k : Int) ∧ (k : Int) < (h.people.length : Int) := by omega
     have HFN := zH (HF2.out.step hSn)
     have HSN := zH hSn
     have HBN := zH b2.1
     have HKP := zH (And.intro hkp (And.intro hal.2.2.1 hkn))
     obtain ⟨rs, hrs⟩ : ∃ z, z = f1.rs k := ⟨_, rfl⟩
     have HRS := zH hrs
     clear b2 hWn hSn hal hrs
     have HTX := zH (Step.refl Wn)
     refine wp_region_seq (kdOf [9, 10] []) [0, 0, 2, 6, 14, 0, 32, 126, 254, 511, 1023, 2047] [0, 1, 2, 3, 4, 5, 6, 7, 8, 9, 10, 11] [] (by kernel_rfl) (by kernel_rfl) (fun i T z hi hk => by simp [kdOf] at hk <;> (try (split at hk <;> cases hk))) ?_
     intro Wx hWx
     have HT := zH (HTX.out.trans hWx)
     clear hWx HTX
     have g0 := (HBN.out.step HT.out).cell 0
     simp only [List.getElem?_cons_zero] at g0
     rw [HKP.out.1] at g0
     obtain ⟨e0, e1, e2, e3, e4, e5⟩ := (HFN.out.step HT.out).cells
     have r0 := (HFN.out.step HT.out).rest HKP.out.2.2
     rw [← HRS.out] at r0
     repeat ((first | (refine run_off rfl rfl (by rfl) ?_) | (refine run_chain_off rfl rfl (by rfl) (K0_mono _) ?_) | ((refine run_want rfl rfl (by rfl) ⟨?_, fun W hW => ?_, ?_⟩; rotate_left; (· (have d0 := hW.kc g0; have d1 := hW.kc e5; have d2 := hW.kc r0; go_simp; (try with_reducible rfl)))))); (try simp only [Act.put, zA, zB, zC]))
     clear e0 e1 e2 e3 e4 e5 g0 r0
     refine run_chain rfl rfl (by rfl) (fun Wb hWb Kb hKb => ?_)
     go_simp
     obtain ⟨Wq, hWq⟩ : ∃ W, W = Wb.alloc (.cells #[.int .i64 n, .int .i64 rs] 3) := ⟨_, rfl⟩
     have hSq : Step Wb Wq := by rw [hWq]; exact Step.alloc _ _
     have HL3 := zH (show SL (fun _ => False) Wq (.slice (some ⟨Wb.heap.size, 0, none⟩) ([n, rs] : List Int).length ([n, rs] : List Int).length) ([n, rs] : List Int) by
      rw [hWq]; exact (SLT.bx_ints (S := fun _ => False) (l := [n, rs]) (Bx.new Wb (([n, rs] : List Int).map (Value.int .i64)) 3) id ([n, rs] : List Int).length (Nat.le_refl _) (by simp)).1)
     have HTz := zH (HT.out.trans (hWb.trans hSq))
     rw [← hWq]
     refine hKb _ _ (.of hSq) ?_
     clear hWq hSq hWb hKb HT
     (try simp only [Act.put, zA, zB, zC])
     repeat ((first | (refine run_off rfl rfl (by rfl) ?_) | (refine run_chain_off rfl rfl (by rfl) (K0_mono _) ?_) | ((refine run_want rfl rfl (by rfl) ⟨?_, fun W hW => ?_, ?_⟩; rotate_left; (· (skip; go_simp; (try with_reducible rfl)))))); (try simp only [Act.put, zA, zB, zC]))
     refine run_chain rfl rfl (by rfl) (fun Wi hWi K' hK => ?_)
     have HTi := zH (HTz.out.trans hWi)
     have hl3 := SL.go HL3.out hWi
     clear hWi HTz HL3
     go_simp
     refine (least_any n rs _ _ hl3).mono ?_
     rintro e w9 ⟨rfl, hS9⟩
     have HT9 := zH (HTi.out.trans hS9)
     clear HTi hl3
     refine hK _ _ (StepX.of hS9) ?_
     clear hS9 hK
     (try simp only [Act.put, zA, zB, zC])
     repeat ((first | (refine run_off rfl rfl (by rfl) ?_) | (refine run_chain_off rfl rfl (by rfl) (K0_mono _) ?_) | ((refine run_want rfl rfl (by rfl) ⟨?_, fun W hW => ?_, ?_⟩; rotate_left; (· (skip; go_simp; (try with_reducible rfl)))))); (try simp only [Act.put, zA, zB, zC]))
     refine run_end (L := []) rfl (fun W6 hW6 => ?_)
     have HT6 := zH (HT9.out.trans hW6)
     clear hW6 HT9
     obtain ⟨m, hm'⟩ : ∃ z, z = min n rs := ⟨_, rfl⟩
     rw [← hm']
     have HN2 := zH (show m ≤ n ∧ m ≤ rs ∧ 1 ≤ m by have h1 := HKP.out.2.1; have h2 := HNB.out.1; rw [← HRS.out] at h1; omega)
     clear hm' hn1 hn2
     have o0 := ((HBO.out.step HSN.out).step HT6.out).cell 0
     have o1 := ((HBO.out.step HSN.out).step HT6.out).cell 1
     simp only [zD, zE] at o0 o1
     go_wp2
     obtain ⟨W8, hW8⟩ : ∃ z, z = W6.alloc (.cells #[.int .i64 q.spot, .int .i64 q.minute] 152) := ⟨_, rfl⟩
     obtain ⟨g9, hg9⟩ : ∃ z, z = W6.heap.size := ⟨_, rfl⟩
     have hb9 : Bx W8 g9 [.int .i64 q.spot, .int .i64 q.minute] 152 := by subst hW8 hg9; exact Bx.new _ [_, _] _
     have hS8 : Step Wn W8 := by subst hW8; exact HT6.out.trans (Step.alloc _ _)
     have hs9 : w.heap.size ≤ g9 := by rw [hg9]; exact Nat.le_trans HX2.out.size (Nat.le_trans HSN.out.size HT6.out.size)
     rw [← hW8, ← hg9]
     have HB9 := zH hb9
     have HS8 := zH hS8
     have HG9 := zH hs9
     have hgF0 : w.heap.size ≤ gF := Nat.le_trans HX2.out.size HGF2.out
     have HGF0 := zH hgF0
     clear hb9 hS8 hs9 hW8 hg9 o0 o1 hgF0 HBF2 HB82 hg8 hne
     go_loopg [9] P.length (fun k s9 wr3 => ∃ (Pre Suf : List Pc) (p9 : Pc) (g9 : Nat), P = Pre ++ Suf ∧ Suf.length = k ∧ Path (netOf h T) f1 ord p9 Suf p ∧ s9 = .pointer (some ⟨g9, 0, none⟩) ∧ Bx wr3 g9 [.int .i64 p9.spot, .int .i64 p9.minute] 152 ∧ Bx wr3 gF [.int .i64 p.spot, .int .i64 p.minute] 152 ∧ FT base wr3 B vp vw vl sc h T (mvL ord m f1 Pre) ∧ MG kvP kvS wr3 r (lookB ord) ∧ StepX (B.In h.ways.length) w wr3 ∧ w.heap.size ≤ g9)
     case atStart => exact ⟨[], P, q, g9, rfl, rfl, HP.out.1, rfl, HB9.out, HBN.out.step HS8.out, HFN.out.step HS8.out, HM2.out.keep (HSN.out.trans HS8.out).keeps id, HX2.out.trans (.of (HSN.out.trans HS8.out)), HG9.out⟩
     case round =>
      clear hkn hkp HB9 HG9
      obtain ⟨Pre, Suf, p9, g9, hPS, hk, hpath, rfl, hb9, hbF, hF9, hM9, hX9, hg9⟩ := hrel
      have HPS := zH (And.intro hPS hk)
      have HB9 := zH hb9
      have HBF9 := zH hbF
      have HF9 := zH hF9
      have HM9 := zH hM9
      have HX9 := zH hX9
      have HG9 := zH hg9
      have b0 := hb9.cell 0
      have b1 := hb9.cell 1
      have f0 := hbF.cell 0
      have f1' := hbF.cell 1
      simp only [zD, zE] at b0 b1 f0 f1'
      clear hPS hk hb9 hbF hF9 hM9 hX9 hg9
      have hneq := neq_place p9.spot p9.minute p.spot p.minute
      cases Suf with
      | nil =>
       obtain ⟨rfl, hl, hinb⟩ := hpath.nil_inv
       rw [show (!decide ((⟨p9.spot, p9.minute⟩ : Pc) = ⟨p9.spot, p9.minute⟩)) = false by simp] at hneq
       clear hpath hl hinb
       go_upto_region 20 with (fail)
       clear b0 b1 f1'
       rw [HKP.out.1] at f0
       obtain ⟨e0, e1, e2, e3, e4, e5⟩ := HF9.out.cells
       have r0 := HF9.out.rest HKP.out.2.2
       rw [mvL_rs, ← HRS.out] at r0
       have z0 := HF9.out.rs.frozen k
       have zl := HF9.out.rs.lt
       have hrb := HY1.out.rs_nn (show k < (netOf h T).n from HKP.out.2.2)
       have hpb := HO.out.pe k HKP.out.2.2
       have hpe : (netOf h T).pe k = h.people[k]'HKP.out.2.2 := by show h.people.getD k 0 = _; simp [List.getD_eq_getElem?_getD, HKP.out.2.2]
       have hwr : IntKind.i64.wrap (rs - m) = rs - m := by
        have h1 := HN2.out
        have e9 : rs = f1.rs k := HRS.out
        rw [IntKind.wrap_i64]; omega
       clear hrb hpb hpe e0 e1 e2 e3 e4
       have hix : (0 : Int) ≤ (k : Int) ∧ (k : Int) < (h.people.length : Int) := by have := HKP.out.2.2; omega
       go_region
       go_wp2
       obtain ⟨hnd, hq0⟩ := HP.out.2
       have hPre : Pre = P := by have := HPS.out.1; rw [List.append_nil] at this; exact this.symm
       have hkt : p9.spot.toNat = k := by rw [HKP.out.1, Int.toNat_natCast]
       have hm1 : m ≤ (netOf h T).all := by rw [HALL.out]; have := HN2.out.1; have := HNB.out.2; omega
       have hfr := fill_round (netOf_ok HO.out T) HY1.out HN1.out HCAP.out.1 HCAP.out.2 HP.out.1 hnd hq0 HN2.out.2.2 hm1 (fun y hy => by have := HRM.out y (by have e := HPSP.out; rw [List.append_nil] at e; rw [← e]; exact hy); have := HN2.out.1; omega) (by rw [hkt, ← HRS.out]; exact HN2.out.2.1)
       obtain ⟨y1, y2, y3⟩ := hfr
       go_roundg (sumN (netOf h T).n (subR (mvL ord m f1 P) p9.spot.toNat m).rs).toNat
       case measure => rw [← HGK.out]; exact y3
       case rel =>
        have hF10 := ((HF9.out.step (Step.drew wr)).setRest (by decide) (by decide) (s := k) (rs - m))
        refine ⟨subR (mvL ord m f1 P) p9.spot.toNat m, ?_, y1, y2, ?_, rfl⟩
        ·have he : subR (mvL ord m f1 P) p9.spot.toNat m = { mvL ord m f1 Pre with rs := fun j => if j = k then rs - m else (mvL ord m f1 Pre).rs j } := by
          rw [hPre]
          unfold subR
          congr 1
          funext j
          rw [hkt]
          by_cases e : j = k
          ·rw [if_pos e, if_pos e, e, mvL_rs, HRS.out]
          ·rw [if_neg e, if_neg e]
         rw [he]
         exact hF10
        ·exact (HX9.out.trans (.of (Step.drew wr))).setCell ⟨B.sb, k, none⟩ _ (.inr (.inr (.inl rfl)))
      | cons x Suf =>
       have hxn := hpath.ne
       obtain ⟨rfl, s, hs, hkk, hinb, hinf, ht⟩ := hpath.cons_inv
       rw [show (!decide ((⟨x.spot, x.minute⟩ : Pc) = ⟨p.spot, p.minute⟩)) = true by rw [Bool.not_eq_true', decide_eq_false_iff_not]; exact hxn] at hneq
       have hlk := look_at HM9.out hs
       have HS := zH hs
       have HHT := zH ht
       have HKK := zH (And.intro hkk (And.intro hinf hinb))
       clear hpath hxn hkk hinb hinf ht hs
       go_upto_region 17 with (fail)
       refine wp_region_seq (kdOf [] []) [0, 0, 0, 0, 12, 0, 63] [0, 1, 2, 3, 4, 5] [6] (by kernel_rfl) (by kernel_rfl) (fun i T z hi hk => by simp [kdOf] at hk <;> (try (split at hk <;> cases hk))) ?_
       intro Wx hWx
       have HT := zH hWx
       clear hWx hlk
       have HLK : Hid (∀ W', Step Wx W' → (Instr.lookup 146 (.map (some r)) (.agg #[.int .i64 x.spot, .int .i64 x.minute]) false).run Tryz.prog W' = .ok (.agg #[.int .i64 s.frm.spot, .int .i64 s.frm.minute, .int .i64 s.way, .bool s.back]) W') := zH fun W' hW' => look_at (HM9.out.keep (HT.out.trans hW').keeps id) HS.out
       have b0 := HT.out.kc b0
       have b1 := HT.out.kc b1
       repeat ((first | (refine run_off rfl rfl (by rfl) ?_) | (refine run_chain_off rfl rfl (by rfl) (K0_mono _) ?_) | ((refine run_want rfl rfl (by rfl) ⟨?_, fun W hW => ?_, ?_⟩; rotate_left; (· (have d0 := hW.kc b0; have d1 := hW.kc b1; have d2 := HLK.out _ hW; go_simp; (try with_reducible rfl)))))); (try simp only [Act.put, zA, zB, zC]))
       refine run_end (L := [_]) rfl (fun W6 hW6 => ?_)
       have HT6 := zH (HT.out.trans hW6)
       clear hW6 HT HLK b0 b1 f0 f1'
       have hm1 : m ≤ (netOf h T).all := by rw [HALL.out]; have := HN2.out.1; have := HNB.out.2; omega
       have hnp := near_part (ord := ord) (A := Pre) (B := x :: Suf) HY1.out HN1.out HCAP.out.1 HCAP.out.2 HN2.out.2.2 hm1 (by rw [← HPS.out.1]; exact HP.out.1.len HP.out.2.1)
       have hmc := move_any W6 (HF9.out.step HT6.out) HO.out hnp x s HKK.out.1 HKK.out.2.1 HKK.out.2.2 m (by have h1 := HN2.out.2.2; have h2 := HCAP.out.2; omega)
       unfold kvP kvS at hmc
       have HMC := zH hmc
       clear hmc hnp hm1
       go_wp2_with fail
       refine HMC.out.mono ?_
       rintro e w10 ⟨rfl, hF10, hX10⟩
       clear HMC
       have hbn : ∀ g, w.heap.size ≤ g → ¬ B.In h.ways.length g := fun g hg hI => by have := HLS.out g hI; omega
       have hb10 := (HB9.out.step HT6.out).keep hX10.keeps (hbn _ HG9.out)
       have hbF10 := (HBF9.out.step HT6.out).keep hX10.keeps (hbn _ HGF0.out)
       have hM10 := (HM9.out.keep HT6.out.keeps id).keep hX10.keeps (hbn _ HR.out)
       have b0 := hb10.cell 0
       have b1 := hb10.cell 1
       simp only [zD, zE] at b0 b1
       have HB10 := zH (And.intro hb10 (And.intro hbF10 hM10))
       have HF10 := zH hF10
       have HX10 := zH ((HX9.out.trans (.of HT6.out)).trans hX10)
       clear hb10 hbF10 hM10 hF10 hX10 hbn
       go_upto_region 16 with (fail)
       clear b0 b1
       obtain ⟨W7, hW7⟩ : ∃ z, z = w10.alloc (.cells #[.int .i64 x.spot, .int .i64 x.minute] 152) := ⟨_, rfl⟩
       obtain ⟨g7, hg7⟩ : ∃ z, z = w10.heap.size := ⟨_, rfl⟩
       have hb7 : Bx W7 g7 [.int .i64 x.spot, .int .i64 x.minute] 152 := by subst hW7 hg7; exact Bx.new _ [_, _] _
       have hS7 : Step w10 W7 := by subst hW7; exact Step.alloc _ _
       have hg72 : w.heap.size ≤ g7 := by rw [hg7]; exact HX10.out.size
       have hgF7 : gF ≠ g7 := by have := HB10.out.2.1.lt; omega
       rw [← hW7, ← hg7]
       have hM7 := HB10.out.2.2.keep hS7.keeps id
       have hlk := look_at hM7 HS.out
       have b0 := hb7.cell 0
       have b1 := hb7.cell 1
       have z0 := hb7.frozen 0
       have z1 := hb7.frozen 1
       have bl := hb7.lt
       simp only [zD, zE] at b0 b1
       have HB7 := zH hb7
       have HS7 := zH hS7
       have HM7 := zH hM7
       have HG7 := zH (And.intro hg72 hgF7)
       clear hb7 hS7 hM7 hg72 hgF7 hW7 hg7
       go_wp2
       go_roundg Suf.length
       case measure => have := HPS.out.2; simp at this; omega
       case rel =>
        have b2 := set2H HB7.out (.int .i64 s.frm.spot) (.int .i64 s.frm.minute)
        have hng : ∀ g, B.In h.ways.length g → ¬ g = g7 := fun g hI e => by have := HLS.out g hI; have := HG7.out.1; omega
        refine ⟨Pre ++ [x], Suf, s.frm, g7, by rw [HPS.out.1]; simp, rfl, HHT.out, rfl, b2.1, (HB10.out.2.1.step HS7.out).keep b2.2.keeps HG7.out.2, ?_, HM7.out.keep b2.2.keeps ?_, ?_, HG7.out.1⟩
        ·rw [mvL_snoc, HS.out, Option.getD_some]
         exact (HF10.out.step HS7.out).kept b2.2.keeps (fun j hj => by subst hj; exact Nat.le_trans (HF10.out.own _ (.inl rfl)) (Nat.le_trans (Nat.le_of_lt (HLS.out _ (.inl rfl))) HG7.out.1)) (fun g hI e => hng g hI e)
        ·exact (HM7.out.nob HB7.out).symm
        ·exact stepX_new (HX10.out.trans (.of HS7.out)) b2.2 fun j hj => .inr (by subst hj; exact HG7.out.1)
    | cons x Suf =>
     obtain ⟨rfl, s, hs, hkk, hinb, hinf, ht⟩ := hpath.cons_inv
     have hlk := look_at (HM2.out.keep HST.out.keeps id) hs
     have hd : decide (s.frm.spot < 0) = false := by have := hinf.1; simp; omega
     have hnr : 1 ≤ roomF (netOf h T) f1 x s := room_pos HAL.out.1 hkk
     obtain ⟨rm, hrm⟩ : ∃ z, z = roomF (netOf h T) f1 x s := ⟨_, rfl⟩
     have hRC := fun (W : World) (hW : Step wr W) => room_any W ((HF2.out.step HST.out).step hW) HO.out HNEAR.out x s hkk hinf hinb
     rw [← hrm] at hnr
     have HRC := zH hRC
     have HRV := zH (And.intro hrm hnr)
     have HT2 := zH (And.intro ht hs)
     have HIN := zH hinf
     clear hpath hkk hinb hinf ht hRC hrm hnr f0 f1' z0 z1 fl
     go_upto_region 10 with (fail)
     have HTX := zH (Step.refl wr)
     refine wp_region_seq (kdOf [6, 7, 8] []) [0, 0, 0, 0, 0, 24, 62, 127, 255, 511] [0, 1, 2, 3, 4, 5, 6, 7, 8, 9] [] (by kernel_rfl) (by kernel_rfl) (fun i T z hi hk => by simp [kdOf] at hk <;> (try (split at hk <;> cases hk))) ?_
     intro Wx hWx
     have HT := zH (HTX.out.trans hWx)
     clear hWx HTX
     have HLK : Hid (∀ W', Step Wx W' → (Instr.lookup 146 (.map (some r)) (.agg #[.int .i64 x.spot, .int .i64 x.minute]) false).run Tryz.prog W' = .ok (.agg #[.int .i64 s.frm.spot, .int .i64 s.frm.minute, .int .i64 s.way, .bool s.back]) W') := zH fun W' hW' => look_at (HM2.out.keep (HST.out.trans (HT.out.trans hW')).keeps id) hs
     have b0 := HT.out.kc b0
     have b1 := HT.out.kc b1
     repeat ((first | (refine run_off rfl rfl (by rfl) ?_) | (refine run_chain_off rfl rfl (by rfl) (K0_mono _) ?_) | ((refine run_want rfl rfl (by rfl) ⟨?_, fun W hW => ?_, ?_⟩; rotate_left; (· (have d0 := hW.kc b0; have d1 := hW.kc b1; have d2 := HLK.out _ hW; go_simp; (try with_reducible rfl)))))); (try simp only [Act.put, zA, zB, zC]))
     clear b0 b1
     refine run_chain rfl rfl (by rfl) (fun Wi hWi K' hK => ?_)
     have HTi := zH (HT.out.trans hWi)
     clear hWi HT HLK
     go_simp
     have hc := HRC.out Wi HTi.out
     unfold kvP kvS at hc
     refine hc.mono ?_
     clear hc
     rintro e wn ⟨rfl, hSn⟩
     rw [← HRV.out.1]
     have HT := zH (HTi.out.trans hSn)
     refine hK _ _ (StepX.of hSn) ?_
     clear hSn HTi hK
     (try simp only [Act.put, zA, zB, zC])
     repeat ((first | (refine run_off rfl rfl (by rfl) ?_) | (refine run_chain_off rfl rfl (by rfl) (K0_mono _) ?_) | ((refine run_want rfl rfl (by rfl) ⟨?_, fun W hW => ?_, ?_⟩; rotate_left; (· (skip; go_simp; (try with_reducible rfl)))))); (try simp only [Act.put, zA, zB, zC]))
     refine run_chain rfl rfl (by rfl) (fun Wb hWb Kb hKb => ?_)
     go_simp
     obtain ⟨Wq, hWq⟩ : ∃ W, W = Wb.alloc (.cells #[.int .i64 n, .int .i64 rm] 3) := ⟨_, rfl⟩
     have hSq : Step Wb Wq := by rw [hWq]; exact Step.alloc _ _
     have HL3 := zH (show SL (fun _ => False) Wq (.slice (some ⟨Wb.heap.size, 0, none⟩) ([n, rm] : List Int).length ([n, rm] : List Int).length) ([n, rm] : List Int) by
      rw [hWq]; exact (SLT.bx_ints (S := fun _ => False) (l := [n, rm]) (Bx.new Wb (([n, rm] : List Int).map (Value.int .i64)) 3) id ([n, rm] : List Int).length (Nat.le_refl _) (by simp)).1)
     have HTz := zH (HT.out.trans (hWb.trans hSq))
     rw [← hWq]
     refine hKb _ _ (.of hSq) ?_
     clear hWq hSq hWb hKb HT
     (try simp only [Act.put, zA, zB, zC])
     repeat ((first | (refine run_off rfl rfl (by rfl) ?_) | (refine run_chain_off rfl rfl (by rfl) (K0_mono _) ?_) | ((refine run_want rfl rfl (by rfl) ⟨?_, fun W hW => ?_, ?_⟩; rotate_left; (· (skip; go_simp; (try with_reducible rfl)))))); (try simp only [Act.put, zA, zB, zC]))
     refine run_chain rfl rfl (by rfl) (fun Wi hWi K' hK => ?_)
     have HTi := zH (HTz.out.trans hWi)
     have hl3 := SL.go HL3.out hWi
     clear hWi HTz HL3
     go_simp
     refine (least_any n rm _ _ hl3).mono ?_
     rintro e w9 ⟨rfl, hS9⟩
     have HT9 := zH (HTi.out.trans hS9)
     clear HTi hl3
     refine hK _ _ (StepX.of hS9) ?_
     clear hS9 hK
     (try simp only [Act.put, zA, zB, zC])
     repeat ((first | (refine run_off rfl rfl (by rfl) ?_) | (refine run_chain_off rfl rfl (by rfl) (K0_mono _) ?_) | ((refine run_want rfl rfl (by rfl) ⟨?_, fun W hW => ?_, ?_⟩; rotate_left; (· (skip; go_simp; (try with_reducible rfl)))))); (try simp only [Act.put, zA, zB, zC]))
     refine run_end (L := []) rfl (fun W6 hW6 => ?_)
     have HT6 := zH (HT9.out.trans hW6)
     clear hW6 HT9
     have b0 := (HB82.out.step HT6.out).cell 0
     have b1 := (HB82.out.step HT6.out).cell 1
     simp only [zD, zE] at b0 b1
     obtain ⟨n2, hn2'⟩ : ∃ z, z = min n rm := ⟨_, rfl⟩
     rw [← hn2']
     have HN2 := zH (show n2 ≤ n ∧ n2 ≤ rm ∧ 1 ≤ n2 by have := HRV.out.2; have := HNB.out.1; omega)
     clear hn2' hn1 hn2 hlk
     go_upto_region 7 with (fail)
     obtain ⟨W7, hW7⟩ : ∃ z, z = W6.alloc (.cells #[.int .i64 x.spot, .int .i64 x.minute] 152) := ⟨_, rfl⟩
     obtain ⟨g9, hg9⟩ : ∃ z, z = W6.heap.size := ⟨_, rfl⟩
     have hb9 : Bx W7 g9 [.int .i64 x.spot, .int .i64 x.minute] 152 := by subst hW7 hg9; exact Bx.new _ [_, _] _
     have hS7 : Step wr W7 := by subst hW7; exact HT6.out.trans (Step.alloc _ _)
     have hg92 : W2.heap.size ≤ g9 := by rw [hg9]; exact Nat.le_trans HST.out.size HT6.out.size
     have hgF9 : gF ≠ g9 := by have := HBF2.out.lt; have := HT6.out.size; omega
     rw [← hW7, ← hg9]
     have hlk := look_at (HM2.out.keep (HST.out.trans hS7).keeps id) HT2.out.2
     have b0 := hb9.cell 0
     have b1 := hb9.cell 1
     have z0 := hb9.frozen 0
     have z1 := hb9.frozen 1
     have bl := hb9.lt
     simp only [zD, zE] at b0 b1
     have HB9 := zH hb9
     have HS7 := zH hS7
     have HG9 := zH (And.intro hg92 hgF9)
     clear hb9 hS7 hg92 hgF9 hW7 hg9
     go_wp2
     go_roundg Suf.length
     case measure => have := HPS.out.2; simp at this; omega
     case rel =>
      have b2 := set2H HB9.out (.int .i64 s.frm.spot) (.int .i64 s.frm.minute)
      refine ⟨Pre ++ [x], Suf, s.frm, g9, n2, by rw [HPS.out.1]; simp, rfl, HT2.out.1, rfl, rfl, HN2.out.2.2, ?_, fun y hy => ?_, b2.1, (HBF2.out.step HS7.out).keep b2.2.keeps HG9.out.2, StepX.fresh (HST.out.trans HS7.out) b2.2 (fun j hj => by subst hj; exact HG9.out.1), HG9.out.1, HG9.out.2⟩
      ·have h1 := HN2.out.1; have h2 := HNB.out.2; omega
      ·rcases List.mem_append.1 hy with hy | hy
       ·have h1 := HN2.out.1; have h2 := HRM.out y hy; omega
       ·simp only [List.mem_cons, List.not_mem_nil, or_false] at hy
        rw [hy, HT2.out.2, Option.getD_some, ← HRV.out.1]; exact HN2.out.2.1
end Go.Proofs.YtfhmdpicoccnfaaGreat
namespace Go.BT
structure Bin (h : Hall) (low high : Nat) : Prop where
 le : low ≤ high
 hi : high ≤ 61
 lo : ∀ t, t < low → ¬ Feas h t
 up : high ≤ 60 → Feas h high
theorem Bin.start (h : Hall) : Bin h 0 61 := ⟨by omega, by omega, fun t ht => by omega, fun h => by omega⟩
theorem Bin.down {h : Hall} {low high m : Nat} (B : Bin h low high) (h1 : low ≤ m) (h2 : m < high) (F : Feas h m) : Bin h low m := ⟨h1, by have := B.hi; omega, B.lo, fun _ => F⟩
theorem Bin.uper {h : Hall} (O : HallOk h) {low high m : Nat} (B : Bin h low high) (h2 : m < high) (F : ¬ Feas h m) : Bin h (m + 1) high :=
 ⟨by omega, B.hi, fun t ht q => F (by have := q.mono O (m - t); rwa [show t + (m - t) = m by omega] at this), B.up⟩
structure LeaveS (h : Hall) (e : Int) (n : Nat) (pl : List (List Int)) : Prop where
 bad : hallB h = false → e = 1 ∧ n = 0 ∧ pl = []
 codes : hallB h = true → e = 0 ∨ e = 7
 good : hallB h = true → e = 0 → n ≤ 60 ∧ outB h n pl = true ∧ ∀ t, t < n → ¬ Feas h t
 none_ : hallB h = true → e = 7 → n = 0 ∧ pl = [] ∧ ∀ t, t ≤ 60 → ¬ Feas h t
structure StuckS (h : Hall) (minutes : Int) (e : Int) (cut : List Int) : Prop where
 bad : hallB h = false → e = 1 ∧ cut = []
 range : hallB h = true → ¬ (0 ≤ minutes ∧ minutes ≤ 60) → e = 2 ∧ cut = []
 out : hallB h = true → (0 ≤ minutes ∧ minutes ≤ 60) → Feas h minutes.toNat → e = 7 ∧ cut = []
 cut : hallB h = true → (0 ≤ minutes ∧ minutes ≤ 60) → ¬ Feas h minutes.toNat → e = 0 ∧ stuckB h minutes.toNat cut = true
theorem LeaveS.feas {h : Hall} {e : Int} {n : Nat} {pl : List (List Int)} (L : LeaveS h e n pl) (hb : hallB h = true) (he : e = 0) : Feas h n := (outB_iff.1 (L.good hb he).2.1).feas
theorem LeaveS.le {h g : Hall} {e e' : Int} {n m : Nat} {pl pl' : List (List Int)} (L : LeaveS h e n pl) (M : LeaveS g e' m pl') (hb : hallB h = true) (gb : hallB g = true) (he : e = 0) (hF : ∀ T, Feas h T → Feas g T) : e' = 0 ∧ m ≤ n := by
 have F := hF n (L.feas hb he)
 have hn := (L.good hb he).1
 have e0 : e' = 0 := by
  rcases M.codes gb with h | h
  ·exact h
  ·exact ((M.none_ gb h).2.2 n hn F).elim
 refine ⟨e0, ?_⟩
 by_cases c : m ≤ n
 ·exact c
 ·exact ((M.good gb e0).2.2 n (by omega) F).elim
theorem leave_ring {e : Int} {n : Nat} {pl : List (List Int)} (L : LeaveS ringH e n pl) : e = 0 ∧ n = 7 ∧ outB ringH 7 pl = true := by
 have e0 : e = 0 := by
  rcases L.codes ring_ok with h | h
  ·exact h
  ·exact ((L.none_ ring_ok h).2.2 7 (by omega) ring7).elim
 have hn : n = 7 := least_is (hallB_iff.1 ring_ok) (L.feas ring_ok e0) (L.good ring_ok e0).2.2 ring7 ring6
 refine ⟨e0, hn, ?_⟩
 have := (L.good ring_ok e0).2.1
 rwa [hn] at this
theorem stuck_ring {e : Int} {cut : List Int} (S : StuckS ringH 6 e cut) : e = 0 ∧ stuckB ringH 6 cut = true := S.cut ring_ok (by omega) ring6
theorem leave_alone {e : Int} {n : Nat} {pl : List (List Int)} (L : LeaveS aloneH e n pl) : e = 7 := by
 rcases L.codes alone_ok with h | h
 ·exact (alone_not _ (L.feas alone_ok h)).elim
 ·exact h
end Go.BT
namespace Go.BT
def planL (h : Hall) (T : Nat) (f : Fs) : List (List Int) := (List.range h.ways.length).map fun i => (List.range T).map fun t => f.pl i t
theorem planL_at {h : Hall} {T : Nat} {f : Fs} {i t : Nat} (hi : i < h.ways.length) (ht : t < T) : planF (planL h T f) i t = f.pl i t := by
 unfold planF planL
 simp [List.getD_eq_getElem?_getD, hi, ht]
theorem planL_out {h : Hall} {T : Nat} {f : Fs} (O : HallOk h) (Y : Fly (netOf h T) f) (hz : ∀ s, s < h.people.length → f.rs s = 0) : outB h T (planL h T f) = true := by
 refine outB_iff.2 ⟨by simp [planL], fun i hi => by simp [planL, List.getD_eq_getElem?_getD, hi], ?_⟩
 exact (Y.done (netOf_ok O T) hz).congr fun i t hi ht => (planL_at hi ht).symm
theorem stuck_not {h : Hall} {T : Nat} {f : Fs} {ord : List (Pc × Sp)} (O : HallOk h) (Y : Fly (netOf h T) f) (B : Bfs (netOf h T) f ord ord.length) (hz : ¬ ∀ s, s < h.people.length → f.rs s = 0) : ¬ Feas h T := fun F => by
 have hr : ∃ s, s < (netOf h T).n ∧ 0 < f.rs s := by
  by_cases e : ∃ s, s < (netOf h T).n ∧ 0 < f.rs s
  ·exact e
  ·exact (hz fun s hs => by
    have h1 := (Y.rs_nn (show s < (netOf h T).n from hs)).1
    by_cases q : 0 < f.rs s
    ·exact (e ⟨s, hs, q⟩).elim
    ·omega).elim
 obtain ⟨c1, c2⟩ := Y.stuck (netOf_ok O T) B (minK_is B.toFound) hr
 rw [all_net] at c2
 have := F.cut O c1
 omega
end Go.BT
namespace Go.Proofs.YtfhmdpicoccnfaaGreat
set_option linter.unusedSimpArgs false
set_option linter.unusedVariables false
open Go.RowKit Go.BT
theorem Nums.sl {S : Nat → Prop} {w : World} {g n : Nat} {T : TypeId} {φ : Nat → Int} (hn : Nums w g T n φ) (hs : ¬ S g) (c : Nat) (hc : n ≤ c) (hm : n ≤ 9223372036854775807) : SL S w (.slice (some ⟨g, 0, none⟩) n c) ((List.range n).map φ) := by
 obtain ⟨cs, hb, hl, hcs⟩ := hn
 have hln : ((List.range n).map φ).length = n := by simp
 have h1 := SL.bx (S := S) (l := (List.range n).map φ) hb hs c (by rw [hln]; exact hc) (by rw [hln]; exact hm) fun i hi => ?_
 ·rw [hln] at h1; exact h1
 ·have hi' : i < n := by rw [← hln]; exact hi
  show (cs.drop (i * 1)).take 1 = [_]
  have h2 := hcs i hi'
  have hlt : i < cs.length := by omega
  rw [Nat.mul_one, List.drop_eq_getElem_cons hlt]
  rw [List.getElem?_eq_getElem hlt] at h2
  injection h2 with h2
  simp [h2]
theorem Flt.sl_plan {base : Nat} {w : World} {B : FB} {vp vw vl : Value} {sc : Nat} {h : Hall} {T : Nat} {f : Fs} (F : FT base w B vp vw vl sc h T f) {S : Nat → Prop} (hs : ∀ j, base ≤ j → ¬ S j) (hT : T ≤ 1000) : SL S w vl (planL h T f) := by
 obtain ⟨p, c, rfl, hc, hp⟩ := F.vf
 have hwl : (planL h T f).length = h.ways.length := by simp [planL]
 by_cases h0 : 0 < h.ways.length
 ·obtain rfl := hp h0
  obtain ⟨cs, hb, hcs⟩ := F.pl h0
  have h1 := SL.bx (S := S) (l := planL h T f) hb (hs _ (F.own _ (.inr (.inl ⟨h0, rfl⟩)))) c (by rw [hwl]; exact hc) (by rw [hwl]; exact F.hw.len) fun i hi => ?_
  ·rw [hwl] at h1; exact h1
  ·have hi' : i < h.ways.length := by rw [← hwl]; exact hi
   have h2 := hcs i hi'
   have hlt : i < cs.length := (List.getElem?_eq_some_iff.1 h2).1
   rw [List.getElem?_eq_getElem hlt] at h2
   injection h2 with h2
   show ∃ c, (cs.drop (i * 1)).take 1 = [c] ∧ SL S w c (planL h T f)[i]
   refine ⟨cs[i], by rw [Nat.mul_one, List.drop_eq_getElem_cons hlt]; rfl, ?_⟩
   rw [h2]
   have h3 : (planL h T f)[i] = (List.range T).map fun t => f.pl i t := by simp [planL]
   rw [h3]
   exact Nums.sl (F.rw i hi') (hs _ (F.own _ (.inr (.inr (.inr (.inr ⟨i, hi', rfl⟩)))))) T (Nat.le_refl _) (by omega)
 ·have hl0 : planL h T f = [] := List.eq_nil_of_length_eq_zero (by omega)
  rw [hl0]
  have hw0 : h.ways.length = 0 := by omega
  rw [hw0]
  exact ⟨p, c, 0, 0, rfl, Nat.zero_le _, by simp, fun h => absurd h (by simp), fun i hi => absurd hi (by simp)⟩
def PlanO (base : Nat) (w : World) (v : Value) (W T : Nat) (pl : List (List Int)) : Prop :=
 ∃ p c, v = .slice p W c ∧ W ≤ c ∧ (0 < W → ∃ pb cs, p = some ⟨pb, 0, none⟩ ∧ base ≤ pb ∧ Bx w pb cs 35 ∧ ∀ i, i < W → ∃ g, cs[i]? = some (.slice (some ⟨g, 0, none⟩) T T) ∧ base ≤ g ∧ Nums w g 3 T (planF pl i))
theorem PlanO.keep {base : Nat} {w w' : World} {v : Value} {W T : Nat} {pl : List (List Int)} (h : PlanO base w v W T pl) (hk : ∀ j, j < w.heap.size → w'.heap[j]? = w.heap[j]?) : PlanO base w' v W T pl := by
 obtain ⟨p, c, rfl, hc, hp⟩ := h
 refine ⟨p, c, rfl, hc, fun h0 => ?_⟩
 obtain ⟨pb, cs, rfl, hb, hbx, hr⟩ := hp h0
 have hl := hbx.lt
 refine ⟨pb, cs, rfl, hb, by unfold Bx at *; rw [hk pb hl]; exact hbx, fun i hi => ?_⟩
 obtain ⟨g, h1, h2, h3⟩ := hr i hi
 exact ⟨g, h1, h2, h3.row (hk g h3.lt)⟩
theorem PlanO.weak {base b' : Nat} {w : World} {v : Value} {W T : Nat} {pl : List (List Int)} (h : PlanO base w v W T pl) (hb' : b' ≤ base) : PlanO b' w v W T pl := by
 obtain ⟨p, c, rfl, hc, hp⟩ := h
 refine ⟨p, c, rfl, hc, fun h0 => ?_⟩
 obtain ⟨pb, cs, rfl, hb, hbx, hr⟩ := hp h0
 refine ⟨pb, cs, rfl, by omega, hbx, fun i hi => ?_⟩
 obtain ⟨g, h1, h2, h3⟩ := hr i hi
 exact ⟨g, h1, by omega, h3⟩
theorem Flt.plan_own {base : Nat} {w : World} {B : FB} {vp vw vl : Value} {sc : Nat} {h : Hall} {T : Nat} {f : Fs} (F : FT base w B vp vw vl sc h T f) : PlanO base w vl h.ways.length T (planL h T f) := by
 obtain ⟨p, c, rfl, hc, hp⟩ := F.vf
 refine ⟨p, c, rfl, hc, fun h0 => ?_⟩
 obtain rfl := hp h0
 obtain ⟨cs, hb, hcs⟩ := F.pl h0
 exact ⟨_, cs, rfl, F.own _ (.inr (.inl ⟨h0, rfl⟩)), hb, fun i hi => ⟨_, hcs i hi, F.own _ (.inr (.inr (.inr (.inr ⟨i, hi, rfl⟩)))), (F.rw i hi).congr fun t ht => (planL_at hi ht).symm⟩⟩
theorem Leave_own (S : Nat → Prop) (h : Hall) (v : Value) (w : World) (hv0 : AV S w v h) :
  Calls Tryz.prog 35 #[v] w fun e w' => ∃ c n pl v', e = .returned (.tuple #[.int .i64 (n : Nat), v', .int .i64 c]) ∧ LeaveS h c n pl ∧ SL (Old w) w' v' pl ∧ (c = 0 → PlanO w.heap.size w' v' h.ways.length n pl) ∧ Step w w' := by
 have hv : AV (fun _ => False) w v h := by
  obtain ⟨cs, e, hr⟩ := hv0
  exact ⟨cs, e, Rep.weak (fun _ _ h => h.elim) hr⟩
 obtain ⟨c0, c1, rfl, h0, h1⟩ := hv.hall
 obtain ⟨p0, k0, rfl⟩ := h0.form
 obtain ⟨p1, k1, rfl⟩ := h1.form
 obtain ⟨W0, hW0⟩ : ∃ W, W = w.alloc (.cells #[.slice p0 h.people.length k0, .slice p1 h.ways.length k1] 98) := ⟨_, rfl⟩
 have hb : Bx W0 w.heap.size [.slice p0 h.people.length k0, .slice p1 h.ways.length k1] 98 := by subst hW0; exact Bx.new w [_, _] _
 have hS : Step w W0 := by subst hW0; exact Step.alloc _ _
 have hav : ∀ W, Step W0 W → AV (fun _ => False) W (.agg #[.slice p0 h.people.length k0, .slice p1 h.ways.length k1]) h := fun W hW => ⟨_, rfl, _, _, rfl, h0.keep (.of_step (hS.trans hW)), h1.keep (.of_step (hS.trans hW))⟩
 have HAV := zH hav
 have HS := zH hS
 have HW := zH hW0
 have HB := zH hb
 have e0 := hb.cell 0
 have e1 := hb.cell 1
 have bl := hb.lt
 simp only [zD, zE] at e0 e1
 clear hv hv0 h0 h1 hW0 hb hS hav
 go_enter Tryz.func35, Tryz.ntmps35
 go_upto_region 1 with (fail)
 rw [← HW.out]
 have hcall := zH (vhall_any (fun _ => False) h _ W0 (HAV.out W0 (Step.refl _)))
 go_wp2_with fail
 refine hcall.out.mono ?_
 rintro e w1 ⟨rfl, hS1⟩
 have HT := zH hS1
 clear hS1 hcall
 cases hq : hallB h with
 | false =>
  have HQ := zH hq
  clear hq
  go_wp2
  go_ret3
  exact ⟨1, 0, [], _, rfl, ⟨fun _ => ⟨rfl, rfl, rfl⟩, (fun e => by rw [HQ.out] at e; cases e), (fun e => by rw [HQ.out] at e; cases e), (fun e => by rw [HQ.out] at e; cases e)⟩, SL.nil _ _, (fun e => by cases e), HS.out.trans HT.out⟩
 | true =>
  have HQ := zH hq
  have HO := zH (hallB_iff.1 hq)
  clear hq
  go_wp2
  go_loopw [3, 5, 6] (fun s3 s5 s6 wr => ∃ (low high : Nat) (pl : List (List Int)), s5 = .int .i64 low ∧ s6 = .int .i64 high ∧ Bin h low high ∧ SL (Old w) wr s3 pl ∧ (high ≤ 60 → outB h high pl = true ∧ PlanO w.heap.size wr s3 h.ways.length high pl) ∧ Step W0 wr) (fun _ s5 s6 _ => (intOf s6 - intOf s5).toNat)
  case atStart => exact ⟨0, 61, [], rfl, rfl, Bin.start h, SL.nil _ _, fun e => by omega, HT.out⟩
  case round =>
   obtain ⟨low, high, pl, rfl, rfl, hbin, hpl, hout, hT⟩ := hrel
   have HBIN := zH hbin
   have HPL := zH (And.intro hpl hout)
   have HTR := zH hT
   have hhi := hbin.hi
   have hle := hbin.le
   obtain ⟨p3, c3, rfl⟩ := hpl.form
   clear hbin hpl hout HT e0 e1 bl
   by_cases hlt : low < high
   ·obtain ⟨m, hm⟩ : ∃ m, m = (low + high) / 2 := ⟨_, rfl⟩
    have hm1 : low ≤ m ∧ m < high := by omega
    have hq1 : IntKind.i64.wrap ((low : Int) + (high : Int)) = (low : Int) + (high : Int) := by rw [IntKind.wrap_i64]; omega
    have hq2 : ((low : Int) + (high : Int)).tdiv 2 = (m : Int) := by
     rw [Int.tdiv_eq_ediv_of_nonneg (by omega)]; omega
    have hq3 : IntKind.i64.wrap (((low : Int) + (high : Int)).tdiv 2) = (m : Int) := by rw [hq2, IntKind.wrap_i64]; omega
    have HM := zH hm1
    have hmT : m ≤ 61 := by omega
    have e0 := (HB.out.step HTR.out).cell 0
    have e1 := (HB.out.step HTR.out).cell 1
    simp only [zD, zE] at e0 e1
    clear hm hm1
    have hcall := zH (flee_any h m _ wr (HAV.out wr HTR.out) HO.out hmT)
    go_wp2_with fail
    refine hcall.out.mono ?_
    rintro e w2 ⟨B, vp, vw, vl, sc, rfl, hF, hS2⟩
    clear hcall e0 e1 hq1 hq2 hq3
    have ok := netOf_ok HO.out m
    have hcall := zH (fill_any w2 hF HO.out hmT (Fly.start ok) (near_start ok))
    have HS2 := zH (HTR.out.trans hS2)
    have HWR := zH hS2.size
    have HOWN := zH hF.own
    have HS2R := zH hS2
    have HPL2 := zH ((HPL.out.1.weak (T := fun j => Old w j ∨ wr.heap.size ≤ j) (fun j hj hs => hs.resolve_right (by omega))).keep (.of_step hS2))
    have hfl := hF.fl.lt
    clear hF hS2 ok
    go_wp2_with fail
    refine hcall.out.mono ?_
    rintro e w3 ⟨r, f', ord, rfl, hF, hY, hBf, _, hX⟩
    clear hcall
    have HF := zH hF
    have HY := zH (And.intro hY hBf)
    have hwsz := HTR.out.size
    have hwsz0 := HS.out.size
    have hS3 : Step W0 w3 := StepX.fresh HS2.out hX fun j hj => by have := HOWN.out j hj; omega
    have HS3 := zH hS3
    have HPO3 := zH (fun e : high ≤ 60 => ((HPL.out.2 e).2.keep fun j hj => ((hX.block j (Nat.lt_of_lt_of_le hj HWR.out) (fun q => by have := HOWN.out j q; omega)).trans (HS2R.out.block j hj id))))
    have HPL3 := zH ((HPL2.out.keep (hX.keeps.mono fun j _ hj => .inr (HOWN.out j hj))).weak (T := Old w) fun j _ hj => .inl hj)
    have hcall := zH (fout_any w3 hF)
    clear hF hY hBf hX hS3 hwsz hwsz0
    go_wp2_with fail
    refine hcall.out.mono ?_
    clear hcall
    rintro e w4 ⟨rfl, hS4⟩
    have HS4 := zH hS4
    have hszr : w.heap.size ≤ wr.heap.size := Nat.le_trans HS.out.size HTR.out.size
    cases q : decide (∀ s, s < h.people.length → f'.rs s = 0) with
    | true =>
     have hz := of_decide_eq_true q
     have HZ := zH (planL_out HO.out HY.out.1 hz)
     obtain ⟨e0, e1, e2, e3, e4, e5⟩ := (HF.out.step HS4.out).cells
     clear q hz hS4
     go_upto_region 9 with (fail)
     go_quiet (fail)
     go_wp2
     go_roundw
     case rel =>
      have hpl := (HF.out.step HS4.out).sl_plan (S := Old w) (fun j hj ho => by unfold Old at ho; omega) (by omega)
      have hpo := ((HF.out.step HS4.out).plan_own).weak (b' := w.heap.size) (by omega)
      refine ⟨low, m, planL h m f', rfl, rfl, HBIN.out.down HM.out.1 HM.out.2 (outB_iff.1 HZ.out).feas, ?_, fun _ => ⟨HZ.out, ?_⟩, ?_⟩
      ·first | exact hpl | exact hpl.keep (.of_step (Step.drew _)) | exact hpl.keep (.of_step (Step.drewN _ _))
      ·first | exact hpo | exact hpo.keep fun j hj => (Step.drew _).block j hj id | exact hpo.keep fun j hj => (Step.drewN _ _).block j hj id
      ·first | exact HS3.out.trans HS4.out | exact (HS3.out.trans HS4.out).trans (Step.drew _) | exact (HS3.out.trans HS4.out).trans (Step.drewN _ _)
     case measure => have := HM.out; simp [intOf]; omega
    | false =>
     have hz := of_decide_eq_false q
     have HZ := zH (stuck_not HO.out HY.out.1 HY.out.2 hz)
     clear q hz hS4
     go_wp2
     go_roundw
     case rel =>
      refine ⟨m + 1, high, pl, by go_num, rfl, HBIN.out.uper HO.out HM.out.2 HZ.out, HPL3.out.keep (.of_step HS4.out), (fun e => ⟨(HPL.out.2 e).1, (HPO3.out e).keep fun j hj => HS4.out.block j hj id⟩), HS3.out.trans HS4.out⟩
     case measure => have := HM.out; simp [intOf]; omega
   ·have hlh : low = high := by omega
    by_cases h60 : high ≤ 60
    ·have hd : decide ((high : Int) > 60) = false := by simp; omega
     have hd' : decide ((60 : Int) < (high : Int)) = false := by simp; omega
     go_wp2
     go_ret3
     exact ⟨0, high, pl, _, rfl, ⟨(fun e => by rw [HQ.out] at e; cases e), (fun _ => .inl rfl), fun _ _ => ⟨h60, (HPL.out.2 h60).1, fun t ht => HBIN.out.lo t (by omega)⟩, (fun _ e => by cases e)⟩, HPL.out.1, (fun _ => (HPL.out.2 h60).2), HS.out.trans HTR.out⟩
    ·have hd : decide ((high : Int) > 60) = true := by simp; omega
     have hd' : decide ((60 : Int) < (high : Int)) = true := by simp; omega
     go_wp2
     go_ret3
     exact ⟨7, 0, [], _, rfl, ⟨(fun e => by rw [HQ.out] at e; cases e), (fun _ => .inr rfl), (fun _ e => by cases e), fun _ _ => ⟨rfl, rfl, fun t ht => HBIN.out.lo t (by omega)⟩⟩, SL.nil _ _, (fun e => by cases e), HS.out.trans HTR.out⟩
theorem Leave_any (S : Nat → Prop) (h : Hall) (v : Value) (w : World) (hv0 : AV S w v h) :
  Calls Tryz.prog 35 #[v] w fun e w' => ∃ c n pl v', e = .returned (.tuple #[.int .i64 (n : Nat), v', .int .i64 c]) ∧ LeaveS h c n pl ∧ SL (Old w) w' v' pl ∧ Step w w' :=
 (Leave_own S h v w hv0).mono fun e w' ⟨c, n, pl, v', h1, h2, h3, _, h4⟩ => ⟨c, n, pl, v', h1, h2, h3, h4⟩
theorem keys_lookB {ord : List (Pc × Sp)} {p : Pc} : p ∈ keysL ord ↔ lookB ord p ≠ none := by
 constructor
 ·intro hp hc
  obtain ⟨e, he, rfl⟩ := List.mem_map.1 hp
  simp only [lookB, Option.map_eq_none_iff, List.find?_eq_none, decide_eq_true_eq] at hc
  exact hc e he rfl
 ·intro h
  by_cases hp : p ∈ keysL ord
  ·exact hp
  ·exact (h (look_none hp)).elim
theorem Stuck_any (S : Nat → Prop) (h : Hall) (minutes : Int) (v : Value) (w : World) (hv0 : AV S w v h) :
  Calls Tryz.prog 36 #[v, .int .i64 minutes] w fun e w' => ∃ c cut v', e = .returned (.tuple #[v', .int .i64 c]) ∧ StuckS h minutes c cut ∧ SL (Old w) w' v' cut ∧ Step w w' := by
 have hv : AV (fun _ => False) w v h := by
  obtain ⟨cs, e, hr⟩ := hv0
  exact ⟨cs, e, Rep.weak (fun _ _ h => h.elim) hr⟩
 obtain ⟨c0, c1, rfl, h0, h1⟩ := hv.hall
 obtain ⟨p0, k0, rfl⟩ := h0.form
 obtain ⟨p1, k1, rfl⟩ := h1.form
 obtain ⟨W0, hW0⟩ : ∃ W, W = w.alloc (.cells #[.slice p0 h.people.length k0, .slice p1 h.ways.length k1] 98) := ⟨_, rfl⟩
 have hb : Bx W0 w.heap.size [.slice p0 h.people.length k0, .slice p1 h.ways.length k1] 98 := by subst hW0; exact Bx.new w [_, _] _
 have hS : Step w W0 := by subst hW0; exact Step.alloc _ _
 have hav : ∀ W, Step W0 W → AV (fun _ => False) W (.agg #[.slice p0 h.people.length k0, .slice p1 h.ways.length k1]) h := fun W hW => ⟨_, rfl, _, _, rfl, h0.keep (.of_step (hS.trans hW)), h1.keep (.of_step (hS.trans hW))⟩
 have HAV := zH hav
 have HS := zH hS
 have HW := zH hW0
 have HB := zH hb
 have e0 := hb.cell 0
 have e1 := hb.cell 1
 have bl := hb.lt
 simp only [zD, zE] at e0 e1
 clear hv hv0 h0 h1 hW0 hb hS hav
 go_enter Tryz.func36, Tryz.ntmps36
 go_upto_region 1 with (fail)
 rw [← HW.out]
 have hcall := zH (vhall_any (fun _ => False) h _ W0 (HAV.out W0 (Step.refl _)))
 go_wp2_with fail
 refine hcall.out.mono ?_
 rintro e w1 ⟨rfl, hS1⟩
 have HT := zH hS1
 clear hS1 hcall
 cases hq : hallB h with
 | false =>
  have HQ := zH hq
  clear hq
  go_wp2
  go_ret2
  exact ⟨1, [], _, rfl, ⟨fun _ => ⟨rfl, rfl⟩, (fun e => by rw [HQ.out] at e; cases e), (fun e => by rw [HQ.out] at e; cases e), (fun e => by rw [HQ.out] at e; cases e)⟩, SL.nil _ _, HS.out.trans HT.out⟩
 | true =>
  have HQ := zH hq
  have HO := zH (hallB_iff.1 hq)
  clear hq
  go_wp2_with fail
  refine (gale.within_any _ _ _ _).mono ?_
  rintro e wz ⟨rfl, rfl⟩
  cases hm : withinB minutes 0 60 with
  | false =>
   have HM := zH (show ¬ (0 ≤ minutes ∧ minutes ≤ 60) by simp [withinB] at hm; omega)
   clear hm
   go_wp2
   go_ret2
   exact ⟨2, [], _, rfl, ⟨(fun e => by rw [HQ.out] at e; cases e), fun _ _ => ⟨rfl, rfl⟩, (fun _ e => (HM.out e).elim), fun _ e => (HM.out e).elim⟩, SL.nil _ _, HS.out.trans HT.out⟩
  | true =>
   have hm2 : 0 ≤ minutes ∧ minutes ≤ 60 := by simp [withinB] at hm; omega
   obtain ⟨T, rfl⟩ : ∃ T : Nat, minutes = T := ⟨minutes.toNat, by omega⟩
   have hmT : T ≤ 61 := by omega
   have HM := zH hm2
   have e0 := (HB.out.step HT.out).cell 0
   have e1 := (HB.out.step HT.out).cell 1
   have bl := (HB.out.step HT.out).lt
   simp only [zD, zE] at e0 e1
   have hcall := zH (flee_any h T _ w1 (HAV.out w1 HT.out) HO.out hmT)
   clear hm hm2
   go_wp2_with fail
   refine hcall.out.mono ?_
   rintro e w2 ⟨B, vp, vw, vl, sc, rfl, hF, hS2⟩
   clear hcall e0 e1 bl
   have ok := netOf_ok HO.out T
   have hcall := zH (fill_any w2 hF HO.out hmT (Fly.start ok) (near_start ok))
   have HS2 := zH (HT.out.trans hS2)
   have HOWN := zH hF.own
   clear hF hS2 ok
   go_wp2_with fail
   refine hcall.out.mono ?_
   rintro e w3 ⟨r, f', ord, rfl, hF, hY, hBf, hmg, hX⟩
   clear hcall
   have HF := zH hF
   have HY := zH (And.intro hY hBf)
   have hwsz := HT.out.size
   have hS3 : Step W0 w3 := StepX.fresh HS2.out hX fun j hj => by have := HOWN.out j hj; omega
   have HS3 := zH hS3
   have HMG := zH hmg
   have hcall := zH (fout_any w3 hF)
   clear hF hY hBf hX hS3 hwsz hmg
   go_wp2_with fail
   refine hcall.out.mono ?_
   clear hcall
   rintro e w4 ⟨rfl, hS4⟩
   have HS4 := zH (HS3.out.trans hS4)
   have HMG4 := zH (HMG.out.keep hS4.keeps id)
   cases q : decide (∀ s, s < h.people.length → f'.rs s = 0) with
   | true =>
    have hz := of_decide_eq_true q
    have HZ := zH (outB_iff.1 (planL_out HO.out HY.out.1 hz)).feas
    clear q hz hS4
    go_wp2
    go_ret2
    exact ⟨7, [], _, rfl, ⟨(fun e => by rw [HQ.out] at e; cases e), (fun _ e => (e HM.out).elim), fun _ _ _ => ⟨rfl, rfl⟩, fun _ _ e => (e (by simpa using HZ.out)).elim⟩, SL.nil _ _, HS.out.trans HS4.out⟩
   | false =>
    have hz := of_decide_eq_false q
    have HZ := zH (stuck_not HO.out HY.out.1 HY.out.2 hz)
    have HZR := zH (show ∃ s, s < (netOf h T).n ∧ 0 < f'.rs s from Classical.byContradiction fun hc => hz fun s hs => by
     have h1 := (HY.out.1.rs_nn (show s < (netOf h T).n from hs)).1
     by_cases q0 : 0 < f'.rs s
     ·exact (hc ⟨s, hs, q0⟩).elim
     ·omega)
    have hp10 : h.people.length ≤ 10 := HO.out.n10
    have e0 := (HB.out.step HS4.out).cell 0
    have e1 := (HB.out.step HS4.out).cell 1
    have bl := (HB.out.step HS4.out).lt
    simp only [zD, zE] at e0 e1
    clear q hz hS4
    go_wp2_with (at_make; refine wpl_make (z := .int .i64 0) eiIntsH rfl _ _ rfl rfl .i64 .i64 h.people.length rfl rfl (by omega) (by omega) ?_)
    obtain ⟨g, hg⟩ : ∃ z, z = w4.heap.size := ⟨_, rfl⟩
    obtain ⟨W5, hW5⟩ : ∃ z, z = w4.alloc (.cells (Array.replicate h.people.length (.int .i64 0)) 3) := ⟨_, rfl⟩
    have hbg : Bx W5 g (List.replicate h.people.length (.int .i64 0)) 3 := by
     rw [show Array.replicate h.people.length (Value.int .i64 0) = (List.replicate h.people.length (Value.int .i64 0)).toArray by simp] at hW5
     subst hW5 hg; exact Bx.new _ _ _
    have hA : Step w4 W5 := by subst hW5; exact Step.alloc _ _
    have hg0 : W0.heap.size ≤ g := by subst hg; exact HS4.out.size
    have hgr : g ≠ r := by have := HMG4.out.lt; omega
    rw [← hW5, ← hg]
    have hnum : Nums W5 g 3 h.people.length (fun _ => 0) := ⟨_, hbg, by simp, fun t ht => by simp [ht]⟩
    have HG := zH (And.intro hg0 hgr)
    have HA := zH (HS4.out.trans hA)
    have HNUM := zH hnum
    have HMG5 := zH (HMG4.out.keep hA.keeps id)
    clear hbg hA hg0 hgr hW5 hg hnum e0 e1 bl HMG4
    have hT1 : IntKind.i64.wrap ((T : Int) + 1) = (T : Int) + 1 := by rw [IntKind.wrap_i64]; omega
    go_loopw [32] (fun i wr => ∃ k : Nat, k ≤ h.people.length ∧ i = .int .i64 k ∧ Nums wr g 3 h.people.length (fun s => if s < k then (T : Int) + 1 else 0) ∧ StepX (fun j => j = g) W5 wr) (fun i _ => h.people.length - (intOf i).toNat)
    case atStart => exact ⟨0, Nat.zero_le _, rfl, HNUM.out.congr fun s _ => by simp, StepX.refl _ _⟩
    case round =>
     obtain ⟨k, hk, rfl, hnum, hX⟩ := hrel
     clear HNUM
     by_cases hlt : k < h.people.length
     ·have HX := zH hX
      have HNUM := zH hnum
      have c0 := hnum.cell hlt
      have z0 := hnum.frozen k
      have zl := hnum.lt
      have hix : (0 : Int) ≤ (k : Int) ∧ (k : Int) < (h.people.length : Int) := by omega
      clear hnum hX
      go_wp2
      go_roundw
      case rel =>
       refine ⟨k + 1, by omega, by go_num, (HNUM.out.set (t := k) ((T : Int) + 1)).congr fun s hs => ?_, HX.out.setCell ⟨g, k, none⟩ _ rfl⟩
       by_cases e : s = k
       ·rw [if_pos e, if_pos (by omega)]
       ·rw [if_neg e]
        by_cases e2 : s < k
        ·rw [if_pos e2, if_pos (by omega)]
        ·rw [if_neg e2, if_neg (by omega)]
      case measure => simp [intOf]; omega
     ·have hkz : k = h.people.length := by omega
      subst hkz
      have hmg := HMG5.out.keep hX.keeps fun e => HG.out.2 e.symm
      obtain ⟨hrun, n0, hmi⟩ := run_range_mg (tm := 146) Tryz.underlying146 hmg
      obtain ⟨it, hit⟩ : ∃ z, z = wr.heap.size := ⟨_, rfl⟩
      obtain ⟨W6, hW6⟩ : ∃ z, z = wr.alloc (.mapIter (some r) (MG.clock wr r) #[] (MG.clock wr r)) := ⟨_, rfl⟩
      have hA6 : Step wr W6 := by subst hW6; exact Step.alloc _ _
      have hsz : W5.heap.size ≤ it := by subst hit; exact hX.size
      have hitr : it ≠ r := by have := hmg.lt; omega
      have hnl := hnum.lt
      have hitg : it ≠ g := by omega
      have hnum6 := hnum.row (hA6.block g hnl id)
      rw [← hW6, ← hit] at hrun hmi
      have HMI := zH hmi
      have HNUM := zH (hnum6.congr (ψ := fun s => (List.replicate h.people.length ((T : Int) + 1)).getD s 0) fun s hs => by simp [List.getD_eq_getElem?_getD, hs])
      have HSX := zH (StepX.trans (X := fun j => j = g ∨ W5.heap.size ≤ j) ⟨hX.os, hX.tape, hX.output, hX.size, fun j hj hn => hX.block j hj fun e => hn (.inl e)⟩ (.of hA6))
      have HIT := zH (And.intro hsz (And.intro hitr hitg))
      clear hmg hmi hW6 hit hA6 hsz hitr hitg hnum hnum6 hX hnl
      go_wp2
      clear hrun
      go_loopg [] n0 (fun n wr2 => ∃ D c, MI kvP kvS wr2 it r (lookB ord) D n ∧ (∀ p, D p → lookB ord p ≠ none) ∧ CutD (netOf h T) D c ∧ Nums wr2 g 3 h.people.length (fun s => c.getD s 0) ∧ StepX (fun j => j = g ∨ W5.heap.size ≤ j) W5 wr2)
      case atStart => exact ⟨_, _, HMI.out, (fun _ e => e.elim), CutD.start, HNUM.out, HSX.out⟩
      case round =>
       obtain ⟨D, c, hmi, hD, hC, hnum, hX⟩ := hrel
       have HX := zH hX
       have HNM := zH hnum
       have HC := zH (And.intro hD hC)
       have hnx := run_next_mg hmi HIT.out.2.1 kvP_inj
       clear hmi hD hC hnum hX HMI HNUM HSX
       rcases hnx with ⟨rfl, hall, hrun⟩ | ⟨x, sv, n', w1, w', hx, hn', hw1, hwr, hmi, hrun, hent⟩
       ·have HALL := zH hall
        clear hall
        go_wp2
        go_ret2
        have hst : Step W0 wr := StepX.fresh HA.out HX.out fun j hj => hj.elim (fun e => e ▸ HG.out.1) fun e => Nat.le_trans HA.out.size e
        refine ⟨0, c, _, rfl, ⟨(fun e => by rw [HQ.out] at e; cases e), (fun _ e => (e HM.out).elim), (fun _ _ e => (HZ.out (by simpa using e)).elim), fun _ _ _ => ⟨rfl, ?_⟩⟩, ?_, HS.out.trans hst⟩
        ·exact cut_stuck HO.out HY.out.1 HY.out.2 HZR.out HC.out.2 fun p => ⟨fun hp => keys_lookB.2 (HC.out.1 p hp), fun hp => HALL.out p (keys_lookB.1 hp)⟩
        ·have hlen : c.length = h.people.length := HC.out.2.len
         have hsl := Nums.sl (S := Old w) HNM.out (fun e => by have h1 := HG.out.1; have h2 := HS.out.size; unfold Old at e; omega) h.people.length (Nat.le_refl _) (by omega)
         have he : (List.range h.people.length).map (fun s => c.getD s 0) = c := List.ext_getElem (by simp [hlen]) fun i h1 h2 => by simp [List.getD_eq_getElem?_getD, h2]
         rw [he] at hsl
         exact hsl
       ·have hinb : InB (netOf h T) x := by
         obtain ⟨e, he, hk⟩ := List.mem_map.1 (keys_lookB.2 (show lookB ord x ≠ none by rw [hx]; simp))
         have := HY.out.2.toFound.bd e he
         rw [hk] at this
         exact this
        obtain ⟨xs, xm⟩ := x
        obtain ⟨i1, i2, i3, i4⟩ := hinb
        dsimp only at i1 i2 i3 i4
        obtain ⟨k, rfl⟩ : ∃ k : Nat, xs = k := ⟨xs.toNat, by omega⟩
        have hkn : k < h.people.length := by have : (k : Int) < (h.people.length : Int) := i2; omega
        unfold kvP at hrun hent
        unfold kvS at hrun hent
        have hXw : StepX (fun j => j = g ∨ W5.heap.size ≤ j) W5 w' := by
         refine HX.out.trans ?_
         have h2 : StepX (fun j => j = g ∨ W5.heap.size ≤ j) w1 w' := hwr.stepX (.inr HIT.out.1)
         rcases hw1 with rfl | rfl
         ·exact h2
         ·exact (StepX.of (Step.drew wr)).trans h2
        have hsz1 : w1.heap.size = wr.heap.size := by rcases hw1 with rfl | rfl <;> rfl
        have hnw : Nums w' g 3 h.people.length (fun s => c.getD s 0) := by
         refine HNM.out.row ?_
         rw [hwr.block g fun e => HIT.out.2.2 e.symm]
         rcases hw1 with rfl | rfl <;> rfl
        have HX2 := zH hXw
        have HNM2 := zH hnw
        have HMI2 := zH hmi
        have HXX := zH (And.intro hx hn')
        have HIB := zH (show InB (netOf h T) ⟨(k : Int), xm⟩ from ⟨i1, i2, i3, i4⟩)
        clear hXw hnw hmi hwr hw1 hsz1 HX HNM hx hn' i1 i2
        go_upto_region 18 with (fail)
        clear hrun hent
        obtain ⟨W7, hW7⟩ : ∃ z, z = w'.alloc (.cells #[.int .i64 k, .int .i64 xm] 152) := ⟨_, rfl⟩
        obtain ⟨g10, hg10⟩ : ∃ z, z = w'.heap.size := ⟨_, rfl⟩
        rw [← hW7, ← hg10]
        have hb10 : Bx W7 g10 [.int .i64 k, .int .i64 xm] 152 := by subst hW7 hg10; exact Bx.new _ [_, _] _
        have hS7 : Step w' W7 := by subst hW7; exact Step.alloc _ _
        have HB10 := zH hb10
        have HX7 := zH (HX2.out.trans (.of hS7))
        have HNM7 := zH (HNM2.out.row (hS7.block g HNM2.out.lt id))
        have HMI7 := zH (HMI2.out.kept (hS7.block r (by obtain ⟨es, cl, sn, h1, _⟩ := HMI2.out; exact (Array.getElem?_eq_some_iff.1 h1).1) id) (hS7.block it (by obtain ⟨es, cl, sn, _, h1, _⟩ := HMI2.out; exact (Array.getElem?_eq_some_iff.1 h1).1) id))
        have HCC := zH (show CutD (netOf h T) (fun q => D q ∨ q = ⟨(k : Int), xm⟩) (c.set k (Min.min (c.getD k 0) xm)) from by simpa using HC.out.2.step HIB.out)
        have hix : (0 : Int) ≤ (k : Int) ∧ (k : Int) < (h.people.length : Int) := by omega
        obtain ⟨ck, hck⟩ : ∃ z, z = c.getD k 0 := ⟨_, rfl⟩
        have HCK := zH hck
        clear hb10 hS7 hW7 hg10 HX2 HNM2 HMI2 hck
        have HTX := zH (Step.refl W7)
        refine wp_region_seq (kdOf [10, 11] []) [0, 0, 2, 0, 0, 16, 56, 120, 0, 256, 1016, 2040, 4095, 8191] [0, 1, 2, 3, 4, 5, 6, 7, 8, 9, 10, 11, 12] [13] (by kernel_rfl) (by kernel_rfl) (fun i T z hi hk => by simp [kdOf] at hk <;> (try (split at hk <;> cases hk))) ?_
        intro Wx hWx
        have HT := zH (HTX.out.trans hWx)
        clear hWx HTX
        have b0 := (HB10.out.step HT.out).cell 0
        have b1 := (HB10.out.step HT.out).cell 1
        simp only [zD, zE] at b0 b1
        have r0 := (HNM7.out.row (HT.out.block g HNM7.out.lt id)).cell hkn
        rw [← HCK.out] at r0
        repeat ((first | (refine run_off rfl rfl (by rfl) ?_) | (refine run_chain_off rfl rfl (by rfl) (K0_mono _) ?_) | ((refine run_want rfl rfl (by rfl) ⟨?_, fun W hW => ?_, ?_⟩; rotate_left; (· (have d0 := hW.kc b0; have d1 := hW.kc b1; have d2 := hW.kc r0; go_simp; (try with_reducible rfl)))))); (try simp only [Act.put, zA, zB, zC]))
        clear b0 b1 r0
        refine run_chain rfl rfl (by rfl) (fun Wb hWb Kb hKb => ?_)
        go_simp
        obtain ⟨Wq, hWq⟩ : ∃ W, W = Wb.alloc (.cells #[.int .i64 ck, .int .i64 xm] 3) := ⟨_, rfl⟩
        have hSq : Step Wb Wq := by rw [hWq]; exact Step.alloc _ _
        have HL3 := zH (show SL (fun _ => False) Wq (.slice (some ⟨Wb.heap.size, 0, none⟩) ([ck, xm] : List Int).length ([ck, xm] : List Int).length) ([ck, xm] : List Int) by
         rw [hWq]; exact (SLT.bx_ints (S := fun _ => False) (l := [ck, xm]) (Bx.new Wb (([ck, xm] : List Int).map (Value.int .i64)) 3) id ([ck, xm] : List Int).length (Nat.le_refl _) (by simp)).1)
        have HTz := zH (HT.out.trans (hWb.trans hSq))
        rw [← hWq]
        refine hKb _ _ (.of hSq) ?_
        clear hWq hSq hWb hKb HT
        (try simp only [Act.put, zA, zB, zC])
        repeat ((first | (refine run_off rfl rfl (by rfl) ?_) | (refine run_chain_off rfl rfl (by rfl) (K0_mono _) ?_) | ((refine run_want rfl rfl (by rfl) ⟨?_, fun W hW => ?_, ?_⟩; rotate_left; (· (skip; go_simp; (try with_reducible rfl)))))); (try simp only [Act.put, zA, zB, zC]))
        refine run_chain rfl rfl (by rfl) (fun Wi hWi K' hK => ?_)
        have HTi := zH (HTz.out.trans hWi)
        have hl3 := SL.go HL3.out hWi
        clear hWi HTz HL3
        go_simp
        refine (least_any ck xm _ _ hl3).mono ?_
        rintro e w9 ⟨rfl, hS9⟩
        have HT9 := zH (HTi.out.trans hS9)
        clear HTi hl3
        refine hK _ _ (StepX.of hS9) ?_
        clear hS9 hK
        (try simp only [Act.put, zA, zB, zC])
        repeat ((first | (refine run_off rfl rfl (by rfl) ?_) | (refine run_chain_off rfl rfl (by rfl) (K0_mono _) ?_) | ((refine run_want rfl rfl (by rfl) ⟨?_, fun W hW => ?_, ?_⟩; rotate_left; (· (skip; go_simp; (try with_reducible rfl)))))); (try simp only [Act.put, zA, zB, zC]))
        refine run_end (L := [_]) rfl (fun W6 hW6 => ?_)
        have HT6 := zH (HT9.out.trans hW6)
        clear hW6 HT9
        have hnm := HNM7.out.row (HT6.out.block g HNM7.out.lt id)
        have c0 := hnm.cell hkn
        have z0 := hnm.frozen k
        have zl := hnm.lt
        have HNM8 := zH hnm
        clear hnm
        go_wp2
        go_roundg n'
        case measure => exact HXX.out.2
        case rel =>
         refine ⟨_, _, ?_, ?_, HCC.out, (HNM8.out.set (t := k) (Min.min ck xm)).congr fun s hs => ?_, (HX7.out.trans (.of HT6.out)).setCell ⟨g, k, none⟩ _ (.inl rfl)⟩
         ·refine HMI7.out.kept ?_ ?_
          ·rw [Below.heap_setCell _ ⟨g, k, none⟩ _ r fun e => HG.out.2 e.symm]
           exact HT6.out.block r (by obtain ⟨es, cl, sn, h1, _⟩ := HMI7.out; exact (Array.getElem?_eq_some_iff.1 h1).1) id
          ·rw [Below.heap_setCell _ ⟨g, k, none⟩ _ it fun e => HIT.out.2.2 e]
           exact HT6.out.block it (by obtain ⟨es, cl, sn, _, h1, _⟩ := HMI7.out; exact (Array.getElem?_eq_some_iff.1 h1).1) id
         ·rintro q (hq | rfl)
          ·exact HC.out.1 q hq
          ·rw [HXX.out.1]; simp
         ·have hlen : c.length = h.people.length := HC.out.2.len
          rw [← HCK.out]
          by_cases e : s = k
          ·rw [if_pos e]; subst e; simp [List.getD_eq_getElem?_getD, hlen, hkn]
          ·rw [if_neg e, List.getD_eq_getElem?_getD, List.getD_eq_getElem?_getD, List.getElem?_set, if_neg (Ne.symm e)]
end Go.Proofs.YtfhmdpicoccnfaaGreat
namespace Go.BT
theorem sumN_in {f : Nat → Int} {B : Int} : ∀ {n : Nat}, (∀ i, i < n → 0 ≤ f i ∧ f i ≤ B) → 0 ≤ sumN n f ∧ sumN n f ≤ B * (n : Int)
 | 0, _ => by simp [sumN]
 | n + 1, h => by
  have h1 := sumN_in (n := n) (fun i hi => h i (by omega))
  have h2 := h n (by omega)
  rw [show sumN (n + 1) f = sumN n f + f n from rfl, Int.natCast_succ, Int.mul_add, Int.mul_one]
  omega
theorem sumN_tail {f : Nat → Int} {a : Nat} : ∀ {b : Nat}, a ≤ b → (∀ t, a ≤ t → t < b → f t = 0) → sumN b f = sumN a f
 | 0, h, _ => by rw [show a = 0 by omega]
 | b + 1, h, hz => by
  by_cases e : a = b + 1
  ·rw [e]
  ·rw [show sumN (b + 1) f = sumN b f + f b from rfl, hz b (by omega) (by omega), Int.add_zero]
   exact sumN_tail (by omega) fun t h1 h2 => hz t h1 (by omega)
def Net.cP (H : Net) (κ : Nat → Nat) (k : Nat) : Int := sumN k fun s => if 0 < κ s then H.pe s else 0
def Net.cW (H : Net) (κ : Nat → Nat) (i t : Nat) : Int := sumN t fun t => if κ (H.u i) ≤ t ∧ t + H.d i < κ (H.v i) then H.c i else 0
def Net.cS (H : Net) (κ : Nat → Nat) (k : Nat) : Int := sumN k fun i => H.cW κ i H.T
theorem Net.size_parts (H : Net) (κ : Nat → Nat) : H.size κ = H.cP κ H.n + H.cS κ H.W := rfl
theorem Net.cP_succ (H : Net) (κ : Nat → Nat) (k : Nat) : H.cP κ (k + 1) = H.cP κ k + if 0 < κ k then H.pe k else 0 := rfl
theorem Net.cS_succ (H : Net) (κ : Nat → Nat) (k : Nat) : H.cS κ (k + 1) = H.cS κ k + H.cW κ k H.T := rfl
theorem Net.cW_succ (H : Net) (κ : Nat → Nat) (i t : Nat) : H.cW κ i (t + 1) = H.cW κ i t + if κ (H.u i) ≤ t ∧ t + H.d i < κ (H.v i) then H.c i else 0 := rfl
theorem Net.cW_start (H : Net) (κ : Nat → Nat) (i : Nat) {t : Nat} (h : t ≤ κ (H.u i)) : H.cW κ i t = 0 := sumN_zero fun j hj => if_neg (by omega)
theorem Net.cW_end (H : Net) (κ : Nat → Nat) (i : Nat) (hd : 1 ≤ H.d i) (hk : κ (H.v i) ≤ H.T + 1) {t : Nat} (h : ¬ (t + H.d i ≤ H.T ∧ t + H.d i < κ (H.v i))) : H.cW κ i t = H.cW κ i H.T := by
 by_cases c : t ≤ H.T
 ·exact (sumN_tail c fun j h1 h2 => if_neg (by omega)).symm
 ·exact sumN_tail (by omega) fun j h1 h2 => if_neg (by omega)
section
variable {h : Hall} {T : Nat} {κ : Nat → Nat}
theorem cP_bd (O : HallOk h) {k : Nat} (hk : k ≤ h.people.length) : 0 ≤ (netOf h T).cP κ k ∧ (netOf h T).cP κ k ≤ 50000 := by
 have h10 := O.n10
 have := sumN_in (n := k) (B := 5000) (f := fun s => if 0 < κ s then (netOf h T).pe s else 0) fun s hs => by
  have hp : (netOf h T).pe s = h.people[s]'(by omega) := by show h.people.getD s 0 = _; simp [List.getD_eq_getElem?_getD, show s < h.people.length by omega]
  have := O.pe s (by omega)
  rw [hp]
  split <;> omega
 unfold Net.cP
 omega
theorem cW_bd (O : HallOk h) {i : Nat} (hi : i < h.ways.length) (t : Nat) : 0 ≤ (netOf h T).cW κ i t ∧ (netOf h T).cW κ i t ≤ 1000 * (t : Int) := by
 refine sumN_in fun j hj => ?_
 have hc : (netOf h T).c i = (h.ways[i]'hi).cap := by show (wyAt h i).cap = _; simp [wyAt, List.getD_eq_getElem?_getD, hi]
 have := (O.way i hi).2.2.2.1
 rw [hc]
 split <;> omega
theorem cS_bd (O : HallOk h) (hT : T ≤ 61) {k : Nat} (hk : k ≤ h.ways.length) : 0 ≤ (netOf h T).cS κ k ∧ (netOf h T).cS κ k ≤ 1220000 := by
 have h20 := O.w20
 have := sumN_in (n := k) (B := 61000) (f := fun i => (netOf h T).cW κ i (netOf h T).T) fun i hi => by
  have := cW_bd (T := T) (κ := κ) O (show i < h.ways.length by omega) T
  show 0 ≤ (netOf h T).cW κ i T ∧ (netOf h T).cW κ i T ≤ 61000
  omega
 unfold Net.cS
 omega
end
theorem stuckB_parts (h : Hall) (T : Nat) (cut : List Int) : stuckB h T cut = (decide (cut.length = h.people.length) && (decide (cut.getD 0 0 = (T : Int) + 1) && ((cut.all fun c => decide (0 ≤ c) && decide (c ≤ (T : Int) + 1)) && decide ((netOf h T).size (cutF cut) < allH h)))) := by
 unfold stuckB cutOk
 simp only [Bool.and_assoc, Bool.decide_and]
end Go.BT
namespace Go.Proofs.YtfhmdpicoccnfaaGreat
set_option linter.unusedSimpArgs false
set_option linter.unusedVariables false
open Go.RowKit Go.BT
theorem pstuck1_any (p : Int) (T g : Nat) (w : World) (hc : w.cell? ⟨g, 0, none⟩ = some (.int .i64 T)) (hT : T ≤ 60) :
  Calls Tryz.prog 62 #[.int .i64 p, .pointer (some ⟨g, 0, none⟩)] w fun e w' => e = .returned (.bool (decide (0 ≤ p) && decide (p ≤ (T : Int) + 1))) ∧ Step w w' := by
 have hw : IntKind.i64.wrap ((T : Int) + 1) = (T : Int) + 1 := by rw [IntKind.wrap_i64]; omega
 go_enter Tryz.func62, Tryz.ntmps62
 go_wp2_with fail
 refine (gale.within_any _ _ _ _).mono ?_
 rintro e w' ⟨rfl, rfl⟩
 have he : withinB p 0 ((T : Int) + 1) = (decide (0 ≤ p) && decide (p ≤ (T : Int) + 1)) := by simp [withinB]
 rw [he]
 go_wp2
 go_ret
 exact ⟨rfl, Step.refl _⟩
theorem cut_any (S : Nat → Prop) (l : List Int) (T g : Nat) (v : Value) (w : World) (hv : SL S w v l) (hc : w.cell? ⟨g, 0, none⟩ = some (.int .i64 T)) (hT : T ≤ 60) :
  Calls Tryz.prog 56 #[v, .func (.func 62) #[] #[.pointer (some ⟨g, 0, none⟩)]] w fun e w' => e = .returned (.bool (l.all fun p => decide (0 ≤ p) && decide (p ≤ (T : Int) + 1))) ∧ Step w w' := by
 refine (all_int S l v w 62 #[.pointer (some ⟨g, 0, none⟩)] (Go.Proofs.enters_of Tryz.func62 (by kernel_rfl) rfl) (fun p => decide (0 ≤ p) && decide (p ≤ (T : Int) + 1)) (fun _ W => Step w W) (fun _ => False) (fun _ h => h.elim)
  (fun _ W hW => hv.keep (.of_step hW)) (fun _ _ _ h1 h2 => h1.trans h2) (Step.refl _) (fun i hi W u hW _ hu => ?_)).mono ?_
 ·subst hu
  refine (pstuck1_any l[i] T g W (hW.kc hc) hT).mono ?_
  rintro e w' ⟨rfl, hS⟩
  exact ⟨rfl, hW.trans hS, hS⟩
 ·rintro e w' ⟨rfl, k, _, _, hS⟩
  exact ⟨rfl, hS⟩
def pstuckB (h : Hall) (minutes : Int) (cut : List Int) : Bool := hallB h && (withinB minutes 0 60 && stuckB h minutes.toNat cut)
theorem ProveStuck_any (S : Nat → Prop) (h : Hall) (minutes : Int) (cut : List Int) (v cv : Value) (w : World) (hv0 : AV S w v h) (hc0 : SL S w cv cut) :
  Calls Tryz.prog 32 #[v, .int .i64 minutes, cv] w fun e w' => e = .returned (.bool (pstuckB h minutes cut)) ∧ Step w w' := by
 have hmf : ∀ (fn : Fn) (first cap : Array Value) (w : World), (Instr.makeFunc fn first cap).run Tryz.prog w = .ok (.func fn first cap) w := fun _ _ _ _ => rfl
 have hv : AV (fun _ => False) w v h := by
  obtain ⟨cs, e, hr⟩ := hv0
  exact ⟨cs, e, Rep.weak (fun _ _ h => h.elim) hr⟩
 have hcv : SL (fun _ => False) w cv cut := hc0.weak fun _ _ h => h.elim
 obtain ⟨c0, c1, rfl, h0, h1⟩ := hv.hall
 obtain ⟨pp, kp, bp, op, rfl, _, hlp, hpp, hcp, _⟩ := h0.ints
 obtain ⟨pw, kw, bw, ow, rfl, _, hlw, hpw, hcw, _⟩ := h1.wys
 obtain ⟨pc, kc, bc, oc, rfl, _, hlc, hpc, hcc, _⟩ := hcv.ints
 obtain ⟨W0, hW0⟩ : ∃ W, W = (w.alloc (.cells #[.slice pp h.people.length kp, .slice pw h.ways.length kw] 98)).alloc (.cells #[.int .i64 minutes] 3) := ⟨_, rfl⟩
 have hb : Bx W0 w.heap.size [.slice pp h.people.length kp, .slice pw h.ways.length kw] 98 := by subst hW0; exact (Bx.new w [_, _] _).alloc _
 have hbn : Bx W0 (w.heap.size + 1) [.int .i64 minutes] 3 := by subst hW0; exact Bx.new' _ [_] _ _ (by simp)
 have hS : Step w W0 := by subst hW0; exact (Step.alloc _ _).trans (Step.alloc _ _)
 have hav : ∀ W, Step W0 W → AV (fun _ => False) W (.agg #[.slice pp h.people.length kp, .slice pw h.ways.length kw]) h := fun W hW => ⟨_, rfl, _, _, rfl, h0.keep (.of_step (hS.trans hW)), h1.keep (.of_step (hS.trans hW))⟩
 have HAV := zH hav
 have HS := zH hS
 have HW := zH hW0
 have HB := zH hb
 have HBN := zH hbn
 have HCV := zH hcv
 have HPP := zH (And.intro hpp hcp)
 have HPW := zH (And.intro hpw hcw)
 have HPC := zH (And.intro hpc hcc)
 clear hv hv0 h0 h1 hW0 hb hbn hS hav hc0 hcv hpp hcp hpw hcw hpc hcc
 go_enter Tryz.func32, Tryz.ntmps32
 go_upto_region 1 with (fail)
 rw [← HW.out]
 refine wp_region_seq (kdOf [1, 5, 27] []) (0 :: 1 :: 3 :: 7 :: 15 :: 31 :: 63 :: 127 :: 255 :: 511 :: 1023 :: 511 :: 2559 :: 6655 :: 16383 :: 32767 :: 65535 :: 131071 :: 262143 :: 524287 :: 131071 :: 1179647 :: 4194303 :: 8388607 :: 16777215 :: 33554431 :: 33554431 :: 134217727 :: 268435455 :: 536870911 :: []) (0 :: 1 :: 2 :: 3 :: 4 :: 5 :: 6 :: 7 :: 8 :: 9 :: 10 :: 11 :: 12 :: 13 :: 14 :: 15 :: 16 :: 17 :: 18 :: 19 :: 20 :: 21 :: 22 :: 23 :: 24 :: 25 :: 26 :: 27 :: 28 :: 29 :: []) [] (by kernel_rfl) (by kernel_rfl) (fun i T z hi hk => by simp [kdOf] at hk <;> (try (split at hk <;> cases hk))) ?_
 intro Wx hWx
 have HT := zH hWx
 clear hWx
 have e0 := (HB.out.step HT.out).cell 0
 have e1 := (HB.out.step HT.out).cell 1
 simp only [zD, zE] at e0 e1
 repeat ((first | (refine run_off rfl rfl (by rfl) ?_) | (refine run_chain_off rfl rfl (by rfl) (K0_mono _) ?_) | ((refine run_want rfl rfl (by rfl) ⟨?_, fun W hW => ?_, ?_⟩; rotate_left; (· (have d0 := hW.kc e0; have d1 := hW.kc e1; go_simp; (try with_reducible rfl)))))); (try simp only [Act.put, zA, zB, zC]))
 clear e0 e1
 refine run_chain rfl rfl (by rfl) (fun Wi hWi K' hK => ?_)
 have HTi := zH (HT.out.trans hWi)
 clear hWi HT
 go_simp
 refine (vhall_any (fun _ => False) h _ Wi (HAV.out Wi HTi.out)).mono ?_
 rintro e wn ⟨rfl, hSn⟩
 have HT := zH (HTi.out.trans hSn)
 refine hK _ _ (StepX.of hSn) ?_
 clear hSn HTi hK
 cases hq : hallB h with
 | false =>
  (try simp only [Act.put, zA, zB, zC])
  repeat ((first | (refine run_off rfl rfl (by rfl) ?_) | (refine run_chain_off rfl rfl (by rfl) (K0_mono _) ?_) | ((refine run_want rfl rfl (by rfl) ⟨?_, fun W hW => ?_, ?_⟩; rotate_left; (· (skip; go_simp; (try with_reducible rfl)))))); (try simp only [Act.put, zA, zB, zC]))
  refine run_end (L := []) rfl (fun W6 hW6 => ?_)
  have HT6 := zH (HT.out.trans hW6)
  clear hW6
  go_wp2
  go_ret
  refine ⟨?_, HS.out.trans HT6.out⟩
  simp [pstuckB, hq]
 | true =>
  have HO := zH (hallB_iff.1 hq)
  have n0 := (HBN.out.step HT.out).cell 0
  simp only [List.getElem?_cons_zero] at n0
  (try simp only [Act.put, zA, zB, zC])
  repeat ((first | (refine run_off rfl rfl (by rfl) ?_) | (refine run_chain_off rfl rfl (by rfl) (K0_mono _) ?_) | ((refine run_want rfl rfl (by rfl) ⟨?_, fun W hW => ?_, ?_⟩; rotate_left; (· (have d0 := hW.kc n0; go_simp; (try with_reducible rfl)))))); (try simp only [Act.put, zA, zB, zC]))
  refine run_chain rfl rfl (by rfl) (fun Wi hWi K' hK => ?_)
  have HT1 := zH (HT.out.trans hWi)
  clear hWi HT n0
  have HT := HT1
  clear HT1
  go_simp
  refine (gale.within_any _ _ _ _).mono ?_
  rintro e wj ⟨rfl, rfl⟩
  refine hK _ _ (StepX.refl _ _) ?_
  clear hK
  cases hm : withinB minutes 0 60 with
  | false =>
   (try simp only [Act.put, zA, zB, zC])
   repeat ((first | (refine run_off rfl rfl (by rfl) ?_) | (refine run_chain_off rfl rfl (by rfl) (K0_mono _) ?_) | ((refine run_want rfl rfl (by rfl) ⟨?_, fun W hW => ?_, ?_⟩; rotate_left; (· (skip; go_simp; (try with_reducible rfl)))))); (try simp only [Act.put, zA, zB, zC]))
   refine run_end (L := []) rfl (fun W6 hW6 => ?_)
   have HT6 := zH (HT.out.trans hW6)
   clear hW6
   go_wp2
   go_ret
   refine ⟨?_, HS.out.trans HT6.out⟩
   simp [pstuckB, hq, hm]
  | true =>
   have hm2 : 0 ≤ minutes ∧ minutes ≤ 60 := by simp [withinB] at hm; omega
   obtain ⟨T, rfl⟩ : ∃ T : Nat, minutes = T := ⟨minutes.toNat, by omega⟩
   have hT : T ≤ 60 := by omega
   have HF := zH (show pstuckB h T cut = stuckB h T cut by simp [pstuckB, hq, hm])
   have HPT := zH (stuckB_parts h T cut)
   clear hq hm hm2
   have e0 := (HB.out.step HT.out).cell 0
   simp only [zD, zE] at e0
   by_cases q2 : cut.length = h.people.length
   case neg =>
    have q2' : ((cut.length : Int) != (h.people.length : Int)) = true := by simpa [bne] using (by omega : ¬ (cut.length : Int) = h.people.length)
    have HQ := zH (show stuckB h T cut = false by rw [HPT.out, decide_eq_false q2]; rfl)
    clear q2 HPT
    (try simp only [Act.put, zA, zB, zC])
    repeat ((first | (refine run_off rfl rfl (by rfl) ?_) | (refine run_chain_off rfl rfl (by rfl) (K0_mono _) ?_) | ((refine run_want rfl rfl (by rfl) ⟨?_, fun W hW => ?_, ?_⟩; rotate_left; (· (have d0 := hW.kc e0; go_simp; (try with_reducible rfl)))))); (try simp only [Act.put, zA, zB, zC]))
    clear e0
    refine run_end (L := []) rfl (fun W6 hW6 => ?_)
    have HT6 := zH (HT.out.trans hW6)
    clear hW6
    go_wp2
    go_ret
    exact ⟨by rw [HF.out, HQ.out]; rfl, HS.out.trans HT6.out⟩
   case pos =>
    have q2' : ((cut.length : Int) != (h.people.length : Int)) = false := by simp [bne, q2]
    have hn2 := HO.out.n2
    have hcl : 0 < cut.length := by omega
    obtain rfl := HPC.out.1 hcl
    have k0 := (HS.out.trans HT.out).kc (HPC.out.2 0 hcl)
    rw [Nat.add_zero] at k0
    have n0 := (HBN.out.step HT.out).cell 0
    simp only [List.getElem?_cons_zero] at n0
    have hwT : IntKind.i64.wrap ((T : Int) + 1) = (T : Int) + 1 := by rw [IntKind.wrap_i64]; omega
    have hx : (0 : Int) ≤ 0 ∧ (0 : Int) < (cut.length : Int) := by omega
    obtain ⟨z0, hz0⟩ : ∃ z, z = cut[0] := ⟨_, rfl⟩
    have hzd : cut.getD 0 0 = z0 := by rw [hz0]; simp [List.getD_eq_getElem?_getD, hcl]
    rw [← hz0] at k0
    have HL := zH q2
    rw [decide_eq_true q2, hzd, Bool.true_and] at HPT
    clear q2 hz0
    by_cases q3 : z0 = (T : Int) + 1
    case neg =>
     have q3' : (z0 != (T : Int) + 1) = true := by simpa [bne] using q3
     have HQ := zH (show stuckB h T cut = false by rw [HPT.out, decide_eq_false q3]; rfl)
     clear q3 HPT hzd
     (try simp only [Act.put, zA, zB, zC])
     repeat ((first | (refine run_off rfl rfl (by rfl) ?_) | (refine run_chain_off rfl rfl (by rfl) (K0_mono _) ?_) | ((refine run_want rfl rfl (by rfl) ⟨?_, fun W hW => ?_, ?_⟩; rotate_left; (· (have d0 := hW.kc e0; have d1 := hW.kc n0; have d2 := hW.kc k0; go_simp; (try with_reducible rfl)))))); (try simp only [Act.put, zA, zB, zC]))
     clear e0 n0 k0
     refine run_end (L := []) rfl (fun W6 hW6 => ?_)
     have HT6 := zH (HT.out.trans hW6)
     clear hW6
     go_wp2
     go_ret
     exact ⟨by rw [HF.out, HQ.out]; rfl, HS.out.trans HT6.out⟩
    case pos =>
     have q3' : (z0 != (T : Int) + 1) = false := by simp [bne, q3]
     rw [decide_eq_true q3, Bool.true_and] at HPT
     have HZ := zH (hzd.trans q3)
     clear q3 hzd
     (try simp only [Act.put, zA, zB, zC])
     repeat ((first | (refine run_off rfl rfl (by rfl) ?_) | (refine run_chain_off rfl rfl (by rfl) (K0_mono _) ?_) | ((refine run_want rfl rfl (by rfl) ⟨?_, fun W hW => ?_, ?_⟩; rotate_left; (· (have d0 := hW.kc e0; have d1 := hW.kc n0; have d2 := hW.kc k0; go_simp; (try with_reducible rfl)))))); (try simp only [Act.put, zA, zB, zC]))
     clear e0 n0 k0
     refine run_chain rfl rfl (by rfl) (fun Wi hWi K' hK => ?_)
     have HTi := zH (HT.out.trans hWi)
     clear hWi HT
     go_simp
     refine (cut_any (fun _ => False) cut T (w.heap.size + 1) _ Wi (HCV.out.keep (.of_step (HS.out.trans HTi.out))) ((HBN.out.step HTi.out).cell 0) hT).mono ?_
     rintro e wn ⟨rfl, hSn⟩
     have HT := zH (HTi.out.trans hSn)
     refine hK _ _ (StepX.of hSn) ?_
     clear hSn HTi hK q2' q3' hx hwT
     cases hall : (cut.all fun p => decide (0 ≤ p) && decide (p ≤ (T : Int) + 1)) with
     | false =>
      rw [hall] at HPT
      (try simp only [Act.put, zA, zB, zC])
      repeat ((first | (refine run_off rfl rfl (by rfl) ?_) | (refine run_chain_off rfl rfl (by rfl) (K0_mono _) ?_) | ((refine run_want rfl rfl (by rfl) ⟨?_, fun W hW => ?_, ?_⟩; rotate_left; (· (skip; go_simp; (try with_reducible rfl)))))); (try simp only [Act.put, zA, zB, zC]))
      refine run_end (L := []) rfl (fun W6 hW6 => ?_)
      have HT6 := zH (HT.out.trans hW6)
      clear hW6
      go_wp2
      go_ret
      refine ⟨?_, HS.out.trans HT6.out⟩
      rw [HF.out, HPT.out]; rfl
     | true =>
      rw [hall, Bool.true_and] at HPT
      have HALL := zH hall
      clear hall
      (try simp only [Act.put, zA, zB, zC])
      repeat ((first | (refine run_off rfl rfl (by rfl) ?_) | (refine run_chain_off rfl rfl (by rfl) (K0_mono _) ?_) | ((refine run_want rfl rfl (by rfl) ⟨?_, fun W hW => ?_, ?_⟩; rotate_left; (· (skip; go_simp; (try with_reducible rfl)))))); (try simp only [Act.put, zA, zB, zC]))
      refine run_end (L := []) rfl (fun W6 hW6 => ?_)
      have HT6 := zH (HT.out.trans hW6)
      clear hW6 HT
      go_upto_region 4 with (fail)
      have hkap : ∀ s (hs : s < cut.length), cut[s] = ((cutF cut s : Nat) : Int) ∧ cutF cut s ≤ T + 1 := fun s hs => by
       have h1 := List.all_eq_true.1 HALL.out _ (List.getElem_mem hs)
       simp only [Bool.and_eq_true, decide_eq_true_eq] at h1
       have h2 : cutF cut s = cut[s].toNat := by simp [cutF, List.getD_eq_getElem?_getD, hs]
       omega
      obtain ⟨κ, hκ⟩ : ∃ z, z = cutF cut := ⟨_, rfl⟩
      rw [← hκ] at hkap HPT
      have HK := zH hkap
      have hn2' : 0 < h.people.length := by omega
      obtain rfl := HPP.out.1 hn2'
      have HS6 := zH (HS.out.trans HT6.out)
      have e0 := (HB.out.step HT6.out).cell 0
      simp only [zD, zE] at e0
      clear hkap hκ HALL HZ
      go_wp2
      clear e0
      go_loopw [7, 46] (fun s7 s46 wr => ∃ k : Nat, k ≤ h.people.length ∧ s46 = .int .i64 k ∧ s7 = .int .i64 ((netOf h T).cP κ k) ∧ W6 = wr) (fun _ s46 _ => h.people.length - (intOf s46).toNat)
      case atStart => exact ⟨0, Nat.zero_le _, rfl, rfl, rfl⟩
      case round =>
       obtain ⟨k, hk, rfl, rfl, rfl⟩ := hrel
       have hlen := HL.out
       by_cases hlt : k < h.people.length
       ·have p0 := HS6.out.kc (HPP.out.2 k hlt)
        have c0 := HS6.out.kc (HPC.out.2 k (by omega))
        have hkk := HK.out k (by omega)
        rw [hkk.1] at c0
        have hps : (netOf h T).pe k = h.people[k] := by show h.people.getD k 0 = _; simp [List.getD_eq_getElem?_getD, hlt]
        rw [← hps] at p0
        have hix : (0 : Int) ≤ (k : Int) ∧ (k : Int) < (h.people.length : Int) := by omega
        have hix2 : (0 : Int) ≤ (k : Int) ∧ (k : Int) < (cut.length : Int) := by omega
        have hsc := (netOf h T).cP_succ κ k
        have hb1 := cP_bd (T := T) (κ := κ) HO.out (show k + 1 ≤ h.people.length by omega)
        have hb0 := cP_bd (T := T) (κ := κ) HO.out hk
        by_cases hpos : 0 < κ k
        ·have hd : decide (0 < κ k) = true := decide_eq_true hpos
         rw [if_pos hpos] at hsc
         have hwr : IntKind.i64.wrap ((netOf h T).cP κ k + (netOf h T).pe k) = (netOf h T).cP κ (k + 1) := by rw [IntKind.wrap_i64] <;> omega
         clear hkk hps hb0 hb1 hsc hpos hlen
         go_wp2
         go_roundw
         case rel => exact ⟨k + 1, by omega, by go_num, rfl, trivial⟩
         case measure => simp [intOf]; omega
        ·have hd : decide (0 < κ k) = false := decide_eq_false hpos
         rw [if_neg hpos, Int.add_zero] at hsc
         have HSC := zH hsc
         clear hkk hps hb0 hb1 hsc hpos hlen
         go_wp2
         go_roundw
         case rel => exact ⟨k + 1, by omega, by go_num, by rw [HSC.out], trivial⟩
         case measure => simp [intOf]; omega
       ·have hkz : k = h.people.length := by omega
        subst hkz
        have e1 := (HB.out.step HT6.out).cell 1
        simp only [zD, zE] at e1
        clear hlt hk hlen
        go_wp2
        clear e1
        have hwl := HO.out.w20
        go_loopw [7, 63] (fun s7 s63 wr2 => ∃ k : Nat, k ≤ h.ways.length ∧ s63 = .int .i64 k ∧ s7 = .int .i64 ((netOf h T).cP κ h.people.length + (netOf h T).cS κ k) ∧ Step W6 wr2) (fun _ s63 _ => h.ways.length - (intOf s63).toNat)
        case atStart => exact ⟨0, Nat.zero_le _, rfl, by simp [Net.cS, sumN], Step.refl _⟩
        case round =>
         obtain ⟨k, hk, rfl, rfl, hS2⟩ := hrel
         have HS2 := zH hS2
         clear hS2
         by_cases hlt : k < h.ways.length
         ·obtain rfl := HPW.out.1 (by omega)
          obtain ⟨y0, y1, y2, y3⟩ := HPW.out.2 k hlt
          obtain ⟨wa, wb, wc, wd⟩ := way_conds HO.out T hlt
          have hwy := HO.out.way k hlt
          rw [← wa] at y0 hwy
          rw [← wb] at y1 hwy
          rw [← wd] at y2 hwy
          rw [← wc] at y3 hwy
          obtain ⟨U, hU⟩ : ∃ z, z = (netOf h T).u k := ⟨_, rfl⟩
          obtain ⟨V, hV⟩ : ∃ z, z = (netOf h T).v k := ⟨_, rfl⟩
          obtain ⟨D, hD⟩ : ∃ z, z = (netOf h T).d k := ⟨_, rfl⟩
          obtain ⟨C, hC⟩ : ∃ z, z = (netOf h T).c k := ⟨_, rfl⟩
          rw [← hU] at y0 hwy
          rw [← hV] at y1 hwy
          rw [← hC] at y2 hwy
          rw [← hD] at y3 hwy
          have hst := HS6.out.trans HS2.out
          have y0 := hst.kc y0
          have y1 := hst.kc y1
          have y2 := hst.kc y2
          have y3 := hst.kc y3
          have hUn : U < cut.length := by have := HL.out; omega
          have hVn : V < cut.length := by have := HL.out; omega
          have hD1 : 1 ≤ D ∧ D ≤ 15 := by omega
          have hC1 : 0 ≤ C ∧ C ≤ 1000 := by omega
          have hix : (0 : Int) ≤ (k : Int) ∧ (k : Int) < (h.ways.length : Int) := by omega
          have HU := zH (And.intro hU (And.intro hV (And.intro hD hC)))
          clear wa wb wc wd hwy hU hV hD hC hst
          go_upto_region 13 with (fail)
          clear y0 y1 y2 y3
          obtain ⟨W7, hW7⟩ : ∃ z, z = wr.alloc (.cells #[.int .i64 U, .int .i64 V, .int .i64 C, .int .i64 D] 140) := ⟨_, rfl⟩
          obtain ⟨g7, hg7⟩ : ∃ z, z = wr.heap.size := ⟨_, rfl⟩
          rw [← hW7, ← hg7]
          have hb7 : Bx W7 g7 [.int .i64 U, .int .i64 V, .int .i64 C, .int .i64 D] 140 := by subst hW7 hg7; exact Bx.new _ [_, _, _, _] _
          have hS7 : Step W6 W7 := by subst hW7; exact HS2.out.trans (Step.alloc _ _)
          obtain ⟨q0, q1, q2, q3⟩ := cellsW hb7
          have hst := HS6.out.trans hS7
          have cu := hst.kc (HPC.out.2 U hUn)
          have cv := hst.kc (HPC.out.2 V hVn)
          have hku := HK.out U hUn
          have hkv := HK.out V hVn
          rw [hku.1] at cu
          rw [hkv.1] at cv
          have n0 := (HBN.out.step (HT6.out.trans hS7)).cell 0
          simp only [List.getElem?_cons_zero] at n0
          have hix2 : (0 : Int) ≤ (U : Int) ∧ (U : Int) < (cut.length : Int) := by omega
          have hix3 : (0 : Int) ≤ (V : Int) ∧ (V : Int) < (cut.length : Int) := by omega
          have HS7 := zH hS7
          have HKU := zH (And.intro hku.2 hkv.2)
          obtain ⟨A, hA⟩ : ∃ z, z = (netOf h T).cP κ h.people.length + (netOf h T).cS κ k := ⟨_, rfl⟩
          have hAb : 0 ≤ A ∧ A ≤ 1270000 := by
           have h1 := cP_bd (T := T) (κ := κ) HO.out (Nat.le_refl _)
           have h2 := cS_bd (κ := κ) HO.out (show T ≤ 61 by omega) hk
           omega
          have HA := zH hA
          rw [← hA]
          clear hb7 hS7 hW7 hg7 hst hku hkv hA
          have hstart := (netOf h T).cW_start κ k (t := κ U) (by rw [← HU.out.1]; exact Nat.le_refl _)
          have HST := zH hstart
          clear hstart
          go_wp2
          go_loopw [7, 12] (fun s7 s12 wr3 => ∃ t : Nat, κ U ≤ t ∧ t ≤ T + 1 ∧ s12 = .int .i64 t ∧ s7 = .int .i64 (A + (netOf h T).cW κ k t) ∧ Step W7 wr3) (fun _ s12 _ => T + 2 - (intOf s12).toNat)
          case atStart => exact ⟨κ U, Nat.le_refl _, HKU.out.1, rfl, by rw [HST.out, Int.add_zero], Step.refl _⟩
          case round =>
           obtain ⟨t, ht, htT, rfl, rfl, hS3⟩ := hrel
           have q0 := hS3.kc q0
           have q1 := hS3.kc q1
           have q2 := hS3.kc q2
           have q3 := hS3.kc q3
           have cu := hS3.kc cu
           have cv := hS3.kc cv
           have n0 := hS3.kc n0
           have HS3 := zH hS3
           clear hS3
           have hw1 : IntKind.i64.wrap ((t : Int) + (D : Int)) = (t : Int) + (D : Int) := by rw [IntKind.wrap_i64]; omega
           by_cases q : t + D ≤ T ∧ t + D < κ V
           ·have d1 : decide ((t : Int) + (D : Int) ≤ (T : Int)) = true := by simp; omega
            have d2 : decide ((t : Int) + (D : Int) < ((κ V : Nat) : Int)) = true := by simp; omega
            have hcs := (netOf h T).cW_succ κ k t
            rw [← HU.out.1, ← HU.out.2.1, ← HU.out.2.2.1, ← HU.out.2.2.2, if_pos ⟨ht, q.2⟩] at hcs
            have hb := cW_bd (T := T) (κ := κ) HO.out hlt (t + 1)
            have hb0 := cW_bd (T := T) (κ := κ) HO.out hlt t
            have hw2 : IntKind.i64.wrap (A + (netOf h T).cW κ k t + C) = A + (netOf h T).cW κ k (t + 1) := by rw [IntKind.wrap_i64] <;> omega
            have hw3 : IntKind.i64.wrap ((t : Int) + 1) = ((t + 1 : Nat) : Int) := by rw [IntKind.wrap_i64] <;> omega
            clear hcs hb hb0
            go_upto_region 14 with (fail)
            go_quiet (fail)
            go_wp2
            go_roundw
            case rel => exact ⟨t + 1, by omega, by omega, by go_num, by go_num, (by first | exact HS3.out | exact HS3.out.trans (Step.drew _) | exact HS3.out.trans (Step.drewN _ _))⟩
            case measure => simp [intOf]; omega
           ·by_cases qq : t + D ≤ T
            ·have d1 : decide ((t : Int) + (D : Int) ≤ (T : Int)) = true := by simp; omega
             have d2 : decide ((t : Int) + (D : Int) < ((κ V : Nat) : Int)) = false := by simp; omega
             go_upto_region 14 with (fail)
             go_quiet (fail)
             go_wp2
             go_roundw
             case rel =>
              refine ⟨k + 1, by omega, by go_num, ?_, ?_⟩
              ·rw [Net.cS_succ, ← (netOf h T).cW_end κ k (by rw [← HU.out.2.2.1]; exact hD1.1) (by rw [← HU.out.2.1]; exact HKU.out.2) (t := t) (by rw [← HU.out.2.1, ← HU.out.2.2.1]; exact q), HA.out, Int.add_assoc]
              ·first | exact HS7.out.trans HS3.out | exact (HS7.out.trans HS3.out).trans (Step.drew _) | exact (HS7.out.trans HS3.out).trans (Step.drewN _ _)
             case measure => simp [intOf]; omega
            ·have d1 : decide ((t : Int) + (D : Int) ≤ (T : Int)) = false := by simp; omega
             go_upto_region 14 with (fail)
             go_quiet (fail)
             go_wp2
             go_roundw
             case rel =>
              refine ⟨k + 1, by omega, by go_num, ?_, ?_⟩
              ·rw [Net.cS_succ, ← (netOf h T).cW_end κ k (by rw [← HU.out.2.2.1]; exact hD1.1) (by rw [← HU.out.2.1]; exact HKU.out.2) (t := t) (by rw [← HU.out.2.1, ← HU.out.2.2.1]; exact q), HA.out, Int.add_assoc]
              ·first | exact HS7.out.trans HS3.out | exact (HS7.out.trans HS3.out).trans (Step.drew _) | exact (HS7.out.trans HS3.out).trans (Step.drewN _ _)
             case measure => simp [intOf]; omega
         ·have hkz : k = h.ways.length := by omega
          subst hkz
          have hsz := (netOf h T).size_parts κ
          have hnW : (netOf h T).W = h.ways.length := rfl
          have hnn : (netOf h T).n = h.people.length := rfl
          rw [hnW, hnn] at hsz
          rw [← hsz]
          have HSZ := zH hsz
          have hst := HT6.out.trans HS2.out
          have e0 := (HB.out.step hst).cell 0
          have e1 := (HB.out.step hst).cell 1
          simp only [zD, zE] at e0 e1
          have hcall := zH (hall_all (fun _ => False) h _ wr (HAV.out wr hst) HO.out)
          have HST := zH hst
          clear hsz hnW hnn hst
          go_wp2_with fail
          refine hcall.out.mono ?_
          rintro e w9 ⟨rfl, hS9⟩
          have HS9 := zH hS9
          clear hcall hS9 e0 e1
          have HPQ := zH (HF.out.trans HPT.out)
          go_wp2
          go_ret
          refine ⟨?_, (HS.out.trans HST.out).trans HS9.out⟩
          rw [HPQ.out]; rfl
end Go.Proofs.YtfhmdpicoccnfaaGreat
namespace Go.BT
section
variable {H : Net}
def Net.arrT (H : Net) (pl : Nat → Nat → Int) (s k i t : Nat) : Int := if H.v i = s ∧ H.d i ≤ k ∧ k - H.d i < t then pl i (k - H.d i) else 0
theorem Net.arrT_zero (pl : Nat → Nat → Int) (s k i : Nat) : H.arrT pl s k i 0 = 0 := if_neg fun h => by omega
theorem Net.arrT_end (pl : Nat → Nat → Int) (s k i : Nat) : H.come pl s k i + H.arrT pl s k i H.T = H.come pl s k (i + 1) := rfl
theorem Net.arrT_next (pl : Nat → Nat → Int) (s k i t : Nat) : H.arrT pl s k i (t + 1) = if H.v i = s ∧ k = t + H.d i then H.arrT pl s k i t + pl i t else H.arrT pl s k i t := by
 unfold Net.arrT
 by_cases e : H.v i = s ∧ k = t + H.d i
 ·rw [if_pos e, if_pos ⟨e.1, by omega, by omega⟩, if_neg (by omega), Int.zero_add]
  congr 1; omega
 ·rw [if_neg e]
  by_cases q : H.v i = s ∧ H.d i ≤ k ∧ k - H.d i < t
  ·rw [if_pos q, if_pos ⟨q.1, q.2.1, by omega⟩]
  ·rw [if_neg q, if_neg fun q' => e ⟨q'.1, by omega⟩]
theorem Net.come_in {pl : Nat → Nat → Int} {i : Nat} (hp : ∀ j t, j < i → t < H.T → 0 ≤ pl j t ∧ pl j t ≤ 1000) (s k : Nat) : 0 ≤ H.come pl s k i ∧ H.come pl s k i ≤ 1000 * (i : Int) :=
 sumN_in fun j hj => by
  unfold Net.arr; split
  ·rename_i h; exact hp j _ hj h.2.2
  ·omega
theorem Net.arrT_in {pl : Nat → Nat → Int} {i t : Nat} (hp : ∀ u, u < t → 0 ≤ pl i u ∧ pl i u ≤ 1000) (s k : Nat) : 0 ≤ H.arrT pl s k i t ∧ H.arrT pl s k i t ≤ 1000 := by
 unfold Net.arrT; split
 ·rename_i h; exact hp _ h.2.2
 ·omega
end
def entOk (h : Hall) (T : Nat) (pl : List (List Int)) (i t : Nat) : Bool := decide (0 ≤ planF pl i t ∧ planF pl i t ≤ (wyAt h i).cap) && decide (0 < planF pl i t → t + (wyAt h i).mins.toNat ≤ T)
theorem rowOk_iff {h : Hall} {T : Nat} {pl : List (List Int)} {i : Nat} : rowOk h T pl i = true ↔ (pl.getD i []).length = T ∧ ∀ t, t < T → entOk h T pl i t = true := by
 unfold rowOk entOk
 simp only [Bool.and_eq_true, decide_eq_true_eq, List.all_eq_true, List.mem_range]
theorem outB_len {h : Hall} {T : Nat} {pl : List (List Int)} (hn : pl.length ≠ h.ways.length) : outB h T pl = false := by
 unfold outB; rw [decide_eq_false hn]; rfl
theorem outB_row {h : Hall} {T : Nat} {pl : List (List Int)} {i : Nat} (hi : i < h.ways.length) (hr : ¬ rowOk h T pl i = true) : outB h T pl = false := by
 cases q : outB h T pl with
 | false => rfl
 | true =>
  unfold outB at q
  simp only [Bool.and_eq_true, decide_eq_true_eq, List.all_eq_true, List.mem_range] at q
  exact (hr (q.2.1 i hi)).elim
theorem outB_there {h : Hall} {T : Nat} {pl : List (List Int)} {k : Nat} (hk : k ≤ T) (hr : ¬ thereOk h T pl k = true) : outB h T pl = false := by
 cases q : outB h T pl with
 | false => rfl
 | true =>
  unfold outB at q
  simp only [Bool.and_eq_true, decide_eq_true_eq, List.all_eq_true, List.mem_range] at q
  exact (hr (q.2.2.1 k (by omega))).elim
theorem outB_end {h : Hall} {T : Nat} {pl : List (List Int)} (h1 : pl.length = h.ways.length) (h2 : ∀ i, i < h.ways.length → rowOk h T pl i = true) (h3 : ∀ k, k ≤ T → thereOk h T pl k = true) : outB h T pl = decide ((netOf h T).F (netOf h T).pe (planF pl) 0 T = allH h) := by
 unfold outB
 rw [decide_eq_true h1, List.all_eq_true.2 fun i hi => h2 i (by simpa using hi), List.all_eq_true.2 fun k hk => h3 k (by have := List.mem_range.1 hk; omega)]
 rfl
def minI (l : List Int) : Int := l.tail.foldl min (l.headD 0)
theorem foldl_min_lt (x : Int) : ∀ (l : List Int) (m : Int), l.foldl min m < x ↔ m < x ∨ ∃ y ∈ l, y < x
 | [], m => by simp
 | a :: l, m => by
  rw [List.foldl_cons, foldl_min_lt x l]
  simp only [List.mem_cons, exists_eq_or_imp]
  constructor
  ·rintro (h | h)
   ·by_cases q : m < x
    ·exact .inl q
    ·exact .inr (.inl (by omega))
   ·exact .inr (.inr h)
  ·rintro (h | h | h)
   ·exact .inl (by omega)
   ·exact .inl (by omega)
   ·exact .inr h
theorem minI_neg {l : List Int} (h : 0 < l.length) : minI l < 0 ↔ ∃ y ∈ l, y < 0 := by
 cases l with
 | nil => simp at h
 | cons a l =>
  unfold minI
  simp only [List.tail_cons, List.headD_cons, List.mem_cons, exists_eq_or_imp]
  exact foldl_min_lt 0 l a
theorem foldl_take_succ (l : List Int) (m : Int) {k : Nat} (h : k < l.length) : (l.take (k + 1)).foldl min m = min ((l.take k).foldl min m) l[k] := by
 rw [List.take_succ_eq_append_getElem h, List.foldl_append]; rfl
end Go.BT
namespace Go.Proofs.YtfhmdpicoccnfaaGreat
set_option linter.unusedSimpArgs false
set_option linter.unusedVariables false
open Go.RowKit Go.BT
theorem Min_any (l : List Int) (v : Value) (w : World) (hv : SL (fun _ => False) w v l) (h0 : 0 < l.length) : Calls Tryz.prog 65 #[v] w fun e w' => e = .returned (.int .i64 (minI l)) ∧ Step w w' := by
 obtain ⟨pv, cv, bv, ov, rfl, _, hm, hp, hc, _⟩ := hv.ints
 obtain rfl := hp h0
 obtain ⟨a, r, rfl⟩ : ∃ a r, l = a :: r := by
  cases l with
  | nil => simp at h0
  | cons a r => exact ⟨a, r, rfl⟩
 have e0 := hc 0 h0
 simp only [List.getElem_cons_zero, Nat.add_zero] at e0
 have hlen : (a :: r).length = r.length + 1 := rfl
 rw [hlen] at hm ⊢
 have hx : (0 : Int) ≤ 0 ∧ (0 : Int) < ((r.length + 1 : Nat) : Int) := by omega
 have hlt1 : decide (((r.length + 1 : Nat) : Int) < 1) = false := by simp; omega
 have hlt1' : decide ((r.length : Int) + 1 < 1) = false := by simp; omega
 have HC := zH hc
 clear hp hc hv hlen h0
 go_enter Tryz.func65, Tryz.ntmps65
 go_wp2
 go_loopw [3, 4] (fun m i wr => ∃ k : Nat, k ≤ r.length ∧ i = .int .i64 ((k + 1 : Nat) : Int) ∧ m = .int .i64 ((r.take k).foldl min a) ∧ Step w wr) (fun _ i _ => r.length + 1 - (intOf i).toNat)
 case atStart => exact ⟨0, Nat.zero_le _, rfl, rfl, Step.refl _⟩
 case round =>
  obtain ⟨k, hk, rfl, rfl, hT⟩ := hrel
  have HT := zH hT
  clear hT e0 hx hlt1 hlt1'
  by_cases hlt : k < r.length
  ·have e1 := HC.out (k + 1) (by simp; omega)
   simp only [List.getElem_cons_succ] at e1
   have e1 := HT.out.kc e1
   have HF := zH (foldl_take_succ r a hlt)
   obtain ⟨m, hm'⟩ : ∃ z, z = (r.take k).foldl min a := ⟨_, rfl⟩
   obtain ⟨x, hx⟩ : ∃ z, z = r[k] := ⟨_, rfl⟩
   rw [← hx] at e1
   rw [← hm', ← hx] at HF
   rw [← hm']
   clear hm' hx
   have hq : (if x < m then x else m) = min m x := by omega
   have hix : (0 : Int) ≤ ((k + 1 : Nat) : Int) ∧ ((k + 1 : Nat) : Int) < ((r.length + 1 : Nat) : Int) := by omega
   go_wp2
   go_roundw
   case rel => exact ⟨k + 1, by omega, by go_num, (by rw [HF.out] <;> first | rfl | (rw [hq]) | (rw [← hq])), HT.out⟩
   case measure => simp [intOf]; omega
  ·have hkz : k = r.length := by omega
   subst hkz
   go_wp2
   go_ret
   exact ⟨by rw [List.take_length]; rfl, HT.out⟩
structure CM (w0 : World) (cb N n : Nat) (rb : Nat → Nat) (m : Nat) (φ : Nat → Nat → Int) (W : World) : Prop where
 bx : ∃ cs, Bx W cb cs 35 ∧ cs.length = N ∧ ∀ k, k < m → cs[k]? = some (.slice (some ⟨rb k, 0, none⟩) n n)
 rows : ∀ k, k < m → Nums W (rb k) 3 n (φ k)
 new : w0.heap.size ≤ cb ∧ ∀ k, k < m → w0.heap.size ≤ rb k
 inj : ∀ i j, i < m → j < m → rb i = rb j → i = j
 st : Step w0 W
section
variable {w0 W W' : World} {cb N n m : Nat} {rb : Nat → Nat} {φ ψ : Nat → Nat → Int}
theorem CM.ne (h : CM w0 cb N n rb m φ W) {k : Nat} (hk : k < m) : rb k ≠ cb := fun e => by
 obtain ⟨cs, h1, _⟩ := h.bx
 obtain ⟨cs', h2, _⟩ := h.rows k hk
 exact bx_ne h2 h1 (by decide) e
theorem CM.step (h : CM w0 cb N n rb m φ W) (k : Step W W') : CM w0 cb N n rb m φ W' := by
 obtain ⟨cs, h1, h2⟩ := h.bx
 exact ⟨⟨cs, h1.step k, h2⟩, fun i hi => (h.rows i hi).row (k.block _ (h.rows i hi).lt id), h.new, h.inj, h.st.trans k⟩
theorem CM.congr (h : CM w0 cb N n rb m φ W) (he : ∀ k, k < m → ∀ s, s < n → φ k s = ψ k s) : CM w0 cb N n rb m ψ W :=
 { h with rows := fun i hi => (h.rows i hi).congr fun s hs => he i hi s hs }
theorem CM.other (h : CM w0 cb N n rb m φ W) {g : Nat} (hg : w0.heap.size ≤ g) (h1 : g ≠ cb) (h2 : ∀ k, k < m → g ≠ rb k) (i : Nat) (v : Value) : CM w0 cb N n rb m φ (W.setCell ⟨g, i, none⟩ v) := by
 obtain ⟨cs, a, b⟩ := h.bx
 exact ⟨⟨cs, a.setOther (Ne.symm h1), b⟩, fun k hk => (h.rows k hk).row (Below.heap_setCell W ⟨g, i, none⟩ v _ (Ne.symm (h2 k hk))), h.new, h.inj, h.st.setNew _ _ hg⟩
theorem CM.set (h : CM w0 cb N n rb m φ W) {k : Nat} (hk : k < m) (s : Nat) (x : Int) : CM w0 cb N n rb m (fun j t => if j = k ∧ t = s then x else φ j t) (W.setCell ⟨rb k, s, none⟩ (.int .i64 x)) := by
 obtain ⟨cs, a, b⟩ := h.bx
 refine ⟨⟨cs, a.setOther (Ne.symm (h.ne hk)), b⟩, fun j hj => ?_, h.new, h.inj, h.st.setNew _ _ (h.new.2 k hk)⟩
 by_cases e : j = k
 ·subst e
  exact ((h.rows j hj).set (t := s) x).congr fun t ht => by simp
 ·exact ((h.rows j hj).row (Below.heap_setCell W ⟨rb k, s, none⟩ _ _ fun e' => e (h.inj j k hj hk e'))).congr fun t ht => by simp [e]
theorem CM.cell (h : CM w0 cb N n rb m φ W) {k : Nat} (hk : k < m) : W.cell? ⟨cb, k, none⟩ = some (.slice (some ⟨rb k, 0, none⟩) n n) := by
 obtain ⟨cs, a, b, c⟩ := h.bx
 rw [a.cell]; exact c k hk
theorem CM.more (h : CM w0 cb N n rb m φ W) (hm : m < N) {gr : Nat} (hg : w0.heap.size ≤ gr) (hn : Nums W gr 3 n (φ m)) (hr : gr ≠ cb ∧ ∀ k, k < m → rb k ≠ gr) : CM w0 cb N n (fun k => if k = m then gr else rb k) (m + 1) φ (W.setCell ⟨cb, m, none⟩ (.slice (some ⟨gr, 0, none⟩) n n)) := by
 obtain ⟨cs, a, b, c⟩ := h.bx
 refine ⟨⟨_, a.setCell m _, by simpa using b, fun k hk => ?_⟩, fun k hk => ?_, ⟨h.new.1, fun k hk => ?_⟩, fun i j hi hj e => ?_, h.st.setNew _ _ h.new.1⟩
 ·rw [List.getElem?_set]
  by_cases e : m = k
  ·subst e; simp [b, hm]
  ·rw [if_neg e, if_neg (Ne.symm e)]; exact c k (by omega)
 ·by_cases e : k = m
  ·rw [e, if_pos rfl]; exact hn.row (Below.heap_setCell W ⟨cb, m, none⟩ _ _ hr.1)
  ·simp only [if_neg e]; exact (h.rows k (by omega)).row (Below.heap_setCell W ⟨cb, m, none⟩ _ _ (h.ne (by omega)))
 ·by_cases e : k = m
  ·rw [if_pos e]; exact hg
  ·rw [if_neg e]; exact h.new.2 k (by omega)
 ·by_cases e1 : i = m <;> by_cases e2 : j = m
  ·omega
  ·simp only [if_pos e1, if_neg e2] at e
   exact (hr.2 j (by omega) e.symm).elim
  ·simp only [if_neg e1, if_pos e2] at e
   exact (hr.2 i (by omega) e).elim
  ·simp only [if_neg e1, if_neg e2] at e
   exact h.inj i j (by omega) (by omega) e
end
end Go.Proofs.YtfhmdpicoccnfaaGreat
namespace Go.Proofs.YtfhmdpicoccnfaaGreat
set_option linter.unusedSimpArgs false
set_option linter.unusedVariables false
open Go.RowKit Go.BT
def poutB (h : Hall) (minutes : Int) (pl : List (List Int)) : Bool := hallB h && (withinB minutes 0 60 && outB h minutes.toNat pl)
theorem ProveOut_any (S : Nat → Prop) (h : Hall) (minutes : Int) (pl : List (List Int)) (v cv : Value) (w : World) (hv0 : AV S w v h) (hc0 : SL S w cv pl) :
  Calls Tryz.prog 34 #[v, .int .i64 minutes, cv] w fun e w' => e = .returned (.bool (poutB h minutes pl)) ∧ Step w w' := by
 have hv : AV (fun _ => False) w v h := by
  obtain ⟨cs, e, hr⟩ := hv0
  exact ⟨cs, e, Rep.weak (fun _ _ h => h.elim) hr⟩
 have hcv : SL (fun _ => False) w cv pl := hc0.weak fun _ _ h => h.elim
 obtain ⟨c0, c1, rfl, h0, h1⟩ := hv.hall
 obtain ⟨pp, kp, bp, op, rfl, _, hlp, hpp, hcp, _⟩ := h0.ints
 obtain ⟨pw, kw, bw, ow, rfl, _, hlw, hpw, hcw, _⟩ := h1.wys
 obtain ⟨pc, kc, bc, oc, rfl, _, hlc, hpc, hcc, _⟩ := hcv.rows
 obtain ⟨W0, hW0⟩ : ∃ W, W = w.alloc (.cells #[.slice pp h.people.length kp, .slice pw h.ways.length kw] 98) := ⟨_, rfl⟩
 have hb : Bx W0 w.heap.size [.slice pp h.people.length kp, .slice pw h.ways.length kw] 98 := by subst hW0; exact Bx.new w [_, _] _
 have hS : Step w W0 := by subst hW0; exact Step.alloc _ _
 have hav : ∀ W, Step W0 W → AV (fun _ => False) W (.agg #[.slice pp h.people.length kp, .slice pw h.ways.length kw]) h := fun W hW => ⟨_, rfl, _, _, rfl, h0.keep (.of_step (hS.trans hW)), h1.keep (.of_step (hS.trans hW))⟩
 have HAV := zH hav
 have HS := zH hS
 have HW := zH hW0
 have HB := zH hb
 have HCV := zH hcv
 have H0 := zH h0
 have HPP := zH (And.intro hpp hcp)
 have HPW := zH (And.intro hpw hcw)
 have HPC := zH (And.intro hpc hcc)
 have e0 := hb.cell 0
 have e1 := hb.cell 1
 have bl := hb.lt
 simp only [zD, zE] at e0 e1
 clear hv hv0 h0 h1 hW0 hb hS hav hc0 hcv hpp hcp hpw hcw hpc hcc
 go_enter Tryz.func34, Tryz.ntmps34
 go_upto_region 1 with (fail)
 rw [← HW.out]
 have hcall := zH (vhall_any (fun _ => False) h _ W0 (HAV.out W0 (Step.refl _)))
 go_wp2_with fail
 refine hcall.out.mono ?_
 rintro e w1 ⟨rfl, hS1⟩
 have HT := zH hS1
 clear hS1 hcall
 have HQ := zH (show poutB h minutes pl = (hallB h && (withinB minutes 0 60 && outB h minutes.toNat pl)) from rfl)
 cases hq : hallB h with
 | false =>
  rw [hq] at HQ
  clear hq
  go_wp2
  go_ret
  exact ⟨by rw [HQ.out]; rfl, HS.out.trans HT.out⟩
 | true =>
  have HO := zH (hallB_iff.1 hq)
  rw [hq, Bool.true_and] at HQ
  clear hq
  go_wp2_with fail
  refine (gale.within_any _ _ _ _).mono ?_
  rintro e wz ⟨rfl, rfl⟩
  cases hm : withinB minutes 0 60 with
  | false =>
   rw [hm] at HQ
   clear hm
   go_wp2
   go_ret
   exact ⟨by rw [HQ.out]; rfl, HS.out.trans HT.out⟩
  | true =>
   rw [hm, Bool.true_and] at HQ
   have hm2 : 0 ≤ minutes ∧ minutes ≤ 60 := by simp [withinB] at hm; omega
   obtain ⟨T, rfl⟩ : ∃ T : Nat, minutes = T := ⟨minutes.toNat, by omega⟩
   have hT : T ≤ 60 := by omega
   rw [Int.toNat_natCast] at HQ
   have e0 := HT.out.kc e0
   have e1 := HT.out.kc e1
   clear hm hm2
   by_cases hlen : pl.length = h.ways.length
   case neg =>
    have q2' : ((pl.length : Int) != (h.ways.length : Int)) = true := by simpa [bne] using (by omega : ¬ (pl.length : Int) = h.ways.length)
    have HZ := zH (outB_len (T := T) hlen)
    clear hlen
    go_wp2
    go_ret
    exact ⟨by rw [HQ.out, HZ.out]; rfl, HS.out.trans HT.out⟩
   case pos =>
    have q2' : ((pl.length : Int) != (h.ways.length : Int)) = false := by simp [bne, hlen]
    have HL := zH hlen
    obtain ⟨N, hN⟩ : ∃ z, z = T + 1 := ⟨_, rfl⟩
    have hwT : IntKind.i64.wrap ((T : Int) + 1) = (N : Int) := by rw [IntKind.wrap_i64] <;> omega
    have HN1 := zH hN
    have hN61 : N ≤ 61 := by omega
    have hn10 := HO.out.n10
    clear hlen hN
    go_wp2_with (at_make; refine wpl_make (z := .slice none 0 0) eiRowsH rfl _ _ rfl rfl .i64 .i64 N rfl rfl (by omega) (by omega) ?_)
    obtain ⟨cb, hcb⟩ : ∃ z, z = w1.heap.size := ⟨_, rfl⟩
    obtain ⟨W5, hW5⟩ : ∃ z, z = w1.alloc (.cells (Array.replicate N (.slice none 0 0)) 35) := ⟨_, rfl⟩
    rw [← hW5, ← hcb]
    have hbc : Bx W5 cb (List.replicate N (.slice none 0 0)) 35 := by
     rw [show Array.replicate N (Value.slice none 0 0) = (List.replicate N (Value.slice none 0 0)).toArray by simp] at hW5
     subst hW5 hcb; exact Bx.new _ _ _
    have hA : Step W0 W5 := by subst hW5; exact HT.out.trans (Step.alloc _ _)
    have hcb0 : W0.heap.size ≤ cb := by subst hcb; exact HT.out.size
    have hCM : CM W0 cb N h.people.length (fun _ => 0) 0 (fun _ _ => 0) W5 := ⟨⟨_, hbc, by simp, fun k hk => by omega⟩, fun k hk => by omega, ⟨hcb0, fun k hk => by omega⟩, fun i j hi => by omega, hA⟩
    have HCM := zH hCM
    clear hCM hA hcb0 hbc hW5 hcb e0 e1 bl q2' hwT
    go_loopw [40] (fun i wr => ∃ (k : Nat) (rb : Nat → Nat), k ≤ N ∧ i = .int .i64 k ∧ CM W0 cb N h.people.length rb k (fun _ _ => 0) wr) (fun i _ => N - (intOf i).toNat)
    case atStart => exact ⟨0, _, Nat.zero_le _, rfl, HCM.out⟩
    case round =>
     obtain ⟨k, rb, hk, rfl, hcm⟩ := hrel
     have HCM := zH hcm
     by_cases hlt : k < N
     ·have e0 := (HB.out.step hcm.st).cell 0
      simp only [List.getElem?_cons_zero] at e0
      have hix : (0 : Int) ≤ (k : Int) ∧ (k : Int) < (N : Int) := by omega
      have clt : cb < wr.heap.size := by obtain ⟨cs, a, _⟩ := hcm.bx; exact a.lt
      have czz : ∀ i, wr.frozen? ⟨cb, i, none⟩ = false := by obtain ⟨cs, a, _⟩ := hcm.bx; exact fun i => a.frozen i
      have ccc : ∃ u, wr.cell? ⟨cb, k, none⟩ = some u := by
       obtain ⟨cs, a, b, _⟩ := hcm.bx
       exact ⟨cs[k]'(by omega), by rw [a.cell]; exact List.getElem?_eq_getElem (by omega)⟩
      obtain ⟨u, cc⟩ := ccc
      have hA := Step.alloc wr (.cells (Array.replicate h.people.length (.int .i64 0)) 3)
      have cc := hA.kc cc
      have cz : (wr.alloc (.cells (Array.replicate h.people.length (.int .i64 0)) 3)).frozen? ⟨cb, k, none⟩ = false := by rw [hA.cells.2 cb k clt]; exact czz k
      have HN := zH (show Nums (wr.alloc (.cells (Array.replicate h.people.length (.int .i64 0)) 3)) wr.heap.size 3 h.people.length (fun _ => 0) from ⟨_, by rw [show Array.replicate h.people.length (Value.int .i64 0) = (List.replicate h.people.length (Value.int .i64 0)).toArray by simp]; exact Bx.new _ _ _, by simp, fun t ht => by simp [ht]⟩)
      have HCA := zH (hcm.step hA)
      have hgl : (∀ k', k' < k → rb k' ≠ wr.heap.size) ∧ W0.heap.size ≤ wr.heap.size := ⟨fun k' hk' e => by have := (hcm.rows k' hk').lt; omega, hcm.st.size⟩
      have HGL := zH (And.intro hgl (show wr.heap.size ≠ cb by omega))
      clear hcm czz hgl hA
      go_wp2_with (at_make; refine wpl_make (z := .int .i64 0) eiIntsH rfl _ _ rfl rfl .i64 .i64 h.people.length rfl rfl (by omega) (by omega) ?_)
      go_wp2
      go_roundw
      case rel =>
       have hmr := HCA.out.more hlt HGL.out.1.2 HN.out ⟨HGL.out.2, HGL.out.1.1⟩
       rw [World.setCell_alloc_past _ cb k _ clt] at hmr
       exact ⟨k + 1, _, by omega, by go_num, hmr⟩
      case measure => simp [intOf]; omega
     ·have hkz : N = k := by omega
      subst hkz
      have e1 := (HB.out.step hcm.st).cell 1
      simp only [zD, zE] at e1
      have HC0 := zH (hcm.congr (ψ := fun k s => (netOf h T).come (planF pl) s k 0) fun k _ s _ => rfl)
      have hw20 := HO.out.w20
      clear hlt hk hcm HCM
      go_wp2
      clear e1
      go_loopw [54] (fun s54 wr => ∃ i : Nat, i ≤ h.ways.length ∧ s54 = .int .i64 i ∧ (∀ j, j < i → rowOk h T pl j = true) ∧ CM W0 cb N h.people.length rb N (fun k s => (netOf h T).come (planF pl) s k i) wr) (fun s54 _ => h.ways.length - (intOf s54).toNat)
      case atStart => exact ⟨0, Nat.zero_le _, rfl, (fun j hj => by omega), HC0.out⟩
      case round =>
       obtain ⟨i, hi, rfl, hrow, hcm⟩ := hrel
       have HROW := zH hrow
       have HCM := zH hcm
       clear hrow hcm
       by_cases hlt : i < h.ways.length
       ·obtain rfl := HPW.out.1 (by omega)
        obtain ⟨y0, y1, y2, y3⟩ := HPW.out.2 i hlt
        obtain ⟨wa, wb, wc, wd⟩ := way_conds HO.out T hlt
        have hwy := HO.out.way i hlt
        rw [← wa] at y0 hwy
        rw [← wb] at y1 hwy
        rw [← wd] at y2 hwy
        rw [← wc] at y3 hwy
        have hcap : (wyAt h i).cap = (netOf h T).c i := rfl
        have hmin : (wyAt h i).mins.toNat = (netOf h T).d i := rfl
        obtain ⟨U, hU⟩ : ∃ z, z = (netOf h T).u i := ⟨_, rfl⟩
        obtain ⟨V, hV⟩ : ∃ z, z = (netOf h T).v i := ⟨_, rfl⟩
        obtain ⟨D, hD⟩ : ∃ z, z = (netOf h T).d i := ⟨_, rfl⟩
        obtain ⟨C, hC⟩ : ∃ z, z = (netOf h T).c i := ⟨_, rfl⟩
        rw [← hU] at y0 hwy
        rw [← hV] at y1 hwy
        rw [← hC] at y2 hwy hcap
        rw [← hD] at y3 hwy hmin
        have hst := HS.out.trans HCM.out.st
        have y0 := hst.kc y0
        have y1 := hst.kc y1
        have y2 := hst.kc y2
        have y3 := hst.kc y3
        have hUn : U < h.people.length := by omega
        have hVn : V < h.people.length := by omega
        have hD1 : 1 ≤ D ∧ D ≤ 15 := by omega
        have hC1 : 0 ≤ C ∧ C ≤ 1000 := by omega
        have hix : (0 : Int) ≤ (i : Int) ∧ (i : Int) < (h.ways.length : Int) := by omega
        have HU := zH (And.intro hU (And.intro hV (And.intro hD (And.intro hC (And.intro hcap hmin)))))
        have hpl : i < pl.length := by have := HL.out; omega
        obtain rfl := HPC.out.1 (by omega)
        obtain ⟨ur, hcr, hur⟩ := HPC.out.2 i hpl
        obtain ⟨pr, kr, br, or_, rfl, _, _, hpr, hcr2, _⟩ := hur.ints
        have hcr := hst.kc hcr
        have hpf : ∀ t (ht : t < pl[i].length), planF pl i t = pl[i][t] := fun t ht => by simp [planF, List.getD_eq_getElem?_getD, hpl, ht]
        have hcr2 : ∀ t, t < pl[i].length → w.cell? ⟨br, or_ + t, none⟩ = some (.int .i64 (planF pl i t)) := fun t ht => by rw [hpf t ht]; exact hcr2 t ht
        have hgd : (pl.getD i []).length = pl[i].length := by simp [List.getD_eq_getElem?_getD, hpl]
        obtain ⟨ρl, hρ⟩ : ∃ z, z = pl[i].length := ⟨_, rfl⟩
        rw [← hρ] at hcr hgd hcr2 hpr
        have HR := zH (And.intro hgd (And.intro hpr hcr2))
        have hixp : (0 : Int) ≤ (i : Int) ∧ (i : Int) < (pl.length : Int) := by omega
        clear wa wb wc wd hwy hU hV hD hC hst hcap hmin hgd hpr hcr2 hur hpf hρ
        go_upto_region 12 with (fail)
        clear y0 y1 y2 y3
        obtain ⟨W7, hW7⟩ : ∃ z, z = wr.alloc (.cells #[.int .i64 U, .int .i64 V, .int .i64 C, .int .i64 D] 140) := ⟨_, rfl⟩
        obtain ⟨g7, hg7⟩ : ∃ z, z = wr.heap.size := ⟨_, rfl⟩
        rw [← hW7, ← hg7]
        have hb7 : Bx W7 g7 [.int .i64 U, .int .i64 V, .int .i64 C, .int .i64 D] 140 := by subst hW7 hg7; exact Bx.new _ [_, _, _, _] _
        have hS7 : Step wr W7 := by subst hW7; exact Step.alloc _ _
        have hcr := hS7.kc hcr
        have HB7 := zH hb7
        have HC7 := zH (HCM.out.step hS7)
        clear hb7 hS7 hW7 hg7
        by_cases hrl : ρl = T
        case neg =>
         have q3' : ((ρl : Int) != (T : Int)) = true := by simpa [bne] using (by omega : ¬ (ρl : Int) = T)
         have HZ := zH (outB_row (pl := pl) (T := T) hlt fun hr => hrl (by rw [← HR.out.1]; exact (rowOk_iff.1 hr).1))
         clear hrl
         go_wp2
         go_ret
         exact ⟨by rw [HQ.out, HZ.out]; rfl, HS.out.trans HC7.out.st⟩
        case pos =>
         have q3' : ((ρl : Int) != (T : Int)) = false := by simp [bne, hrl]
         have HRL := zH hrl
         clear hrl
         go_wp2
         clear hcr q3'
         go_loopw [71] (fun s71 wr => ∃ t : Nat, t ≤ T ∧ s71 = .int .i64 t ∧ (∀ u, u < t → entOk h T pl i u = true) ∧ CM W0 cb N h.people.length rb N (fun k s => (netOf h T).come (planF pl) s k i + (netOf h T).arrT (planF pl) s k i t) wr ∧ Bx wr g7 [.int .i64 U, .int .i64 V, .int .i64 C, .int .i64 D] 140) (fun s71 _ => T - (intOf s71).toNat)
         case atStart => exact ⟨0, Nat.zero_le _, rfl, (fun u hu => by omega), HC7.out.congr fun k _ s _ => by rw [Net.arrT_zero, Int.add_zero], HB7.out⟩
         case round =>
          obtain ⟨t, ht, rfl, hent, hcm, hb⟩ := hrel
          have HENT := zH hent
          have HCT := zH hcm
          have HBT := zH hb
          clear hent hcm hb
          by_cases htl : t < T
          ·have hrl := HRL.out
           obtain rfl := HR.out.2.1 (by omega)
           have p0 := (HS.out.trans HCT.out.st).kc (HR.out.2.2 t (by omega))
           obtain ⟨q0, q1, q2, q3⟩ := cellsW HBT.out
           obtain ⟨x, hx⟩ : ∃ z, z = planF pl i t := ⟨_, rfl⟩
           rw [← hx] at p0
           have hixt : (0 : Int) ≤ (t : Int) ∧ (t : Int) < (ρl : Int) := by omega
           have HE := zH (show entOk h T pl i t = (decide (0 ≤ x ∧ x ≤ C) && decide (0 < x → t + D ≤ T)) by unfold entOk; rw [HU.out.2.2.2.2.1, HU.out.2.2.2.2.2, ← hx])
           have HX := zH hx
           have HBAD := zH (show entOk h T pl i t = false → poutB h T pl = false from fun he => by
            rw [HQ.out]
            exact outB_row hlt fun hr => by rw [(rowOk_iff.1 hr).2 t htl] at he; cases he)
           clear hx hrl
           go_wp2_with fail
           refine (gale.within_any _ _ _ _).mono ?_
           rintro e wz ⟨rfl, rfl⟩
           have hwb : withinB x 0 C = (decide (0 ≤ x) && decide (x ≤ C)) := rfl
           cases q0 : withinB x 0 C with
           | false =>
            have HV := zH (HBAD.out (by rw [HE.out, Bool.decide_and, ← hwb, q0]; rfl))
            clear q0 hwb
            go_wp2
            go_ret
            exact ⟨by rw [HV.out]; rfl, HS.out.trans HCT.out.st⟩
           | true =>
            have hx0 : 0 ≤ x ∧ x ≤ C := by rw [q0] at hwb; simpa using hwb.symm
            have hC1' := hC1
            have HE2 := zH (show entOk h T pl i t = decide (0 < x → t + D ≤ T) by rw [HE.out, decide_eq_true hx0]; rfl)
            obtain ⟨K, hK⟩ : ∃ z, z = t + D := ⟨_, rfl⟩
            have hw1 : IntKind.i64.wrap ((t : Int) + (D : Int)) = (K : Int) := by rw [IntKind.wrap_i64] <;> omega
            rw [← hK] at HE2
            have HK := zH hK
            clear q0 hwb hK hC1'
            by_cases hpos : 0 < x
            ·have d1 : decide (0 < x) = true := decide_eq_true hpos
             by_cases hle : K ≤ T
             ·have d2 : decide (T < K) = false := decide_eq_false (by omega)
              have d3 : decide ((T : Int) < (K : Int)) = false := decide_eq_false (by omega)
              have HE3 := zH (show entOk h T pl i t = true by rw [HE2.out]; simp [hle])
              go_upto_region 20 with (fail)
              have hKc := HCT.out.cell (show K < N by have := HN1.out; omega)
              have hRn := HCT.out.rows K (by have := HN1.out; omega)
              have hV1 := hRn.cell hVn
              have hixK : (0 : Int) ≤ (K : Int) ∧ (K : Int) < (N : Int) := by have := HN1.out; omega
              have hixV : (0 : Int) ≤ (V : Int) ∧ (V : Int) < (h.people.length : Int) := by omega
              have hbnd : ∀ j u, j < i → u < (netOf h T).T → 0 ≤ planF pl j u ∧ planF pl j u ≤ 1000 := fun j u hj hu => by
               have h1 := (rowOk_iff.1 (HROW.out j hj)).2 u hu
               simp only [entOk, Bool.and_eq_true, decide_eq_true_eq] at h1
               have h2 := (HO.out.way j (by omega)).2.2.2.1
               rw [wyAt_at (by omega)] at h1
               omega
              have hbn2 : ∀ u, u < t → 0 ≤ planF pl i u ∧ planF pl i u ≤ 1000 := fun u hu => by
               have h1 := HENT.out u hu
               simp only [entOk, Bool.and_eq_true, decide_eq_true_eq] at h1
               rw [HU.out.2.2.2.2.1] at h1
               omega
              have hc1 := (netOf h T).come_in hbnd V K
              have hc2 := (netOf h T).arrT_in hbn2 V K
              obtain ⟨f0, hf0⟩ : ∃ z, z = (netOf h T).come (planF pl) V K i + (netOf h T).arrT (planF pl) V K i t := ⟨_, rfl⟩
              rw [← hf0] at hV1
              have hwf : IntKind.i64.wrap (f0 + x) = f0 + x := by rw [IntKind.wrap_i64]; omega
              have HF0 := zH hf0
              clear hRn hbnd hbn2 hc1 hc2 hf0
              refine wp_region_seq (kdOf [] []) [0, 0, 0, 4, 14, 31, 63, 0, 128, 511, 1023, 0, 4095, 8191, 16383] [0, 1, 2, 3, 4, 5, 6, 7, 8, 9, 10, 11, 12, 13] [14] (by kernel_rfl) (by kernel_rfl) (fun i T z hi hk => by simp [kdOf] at hk <;> (try (split at hk <;> cases hk))) ?_
              intro Wx hWx
              have HT9 := zH hWx
              clear hWx
              have q1 := HT9.out.kc q1
              have q3 := HT9.out.kc q3
              have hKc := HT9.out.kc hKc
              have hV1 := HT9.out.kc hV1
              repeat ((first | (refine run_off rfl rfl (by rfl) ?_) | (refine run_chain_off rfl rfl (by rfl) (K0_mono _) ?_) | ((refine run_want rfl rfl (by rfl) ⟨?_, fun W hW => ?_, ?_⟩; rotate_left; (· (have d0 := hW.kc q1; have d1 := hW.kc q3; have d2 := hW.kc hKc; have d3 := hW.kc hV1; go_simp; (try with_reducible rfl)))))); (try simp only [Act.put, zA, zB, zC]))
              refine run_end (L := [_]) rfl (fun W6 hW6 => ?_)
              have HC6 := zH (HCT.out.step (HT9.out.trans hW6))
              have HB6 := zH (HBT.out.step (HT9.out.trans hW6))
              clear hW6 HT9 hKc hV1 q0 q1 q2 q3 p0
              have hRn := HC6.out.rows K (by have := HN1.out; omega)
              have zc := hRn.cell hVn
              have zz := hRn.frozen V
              have zl := hRn.lt
              clear hRn
              go_wp2
              go_roundw
              case rel =>
               refine ⟨t + 1, by omega, by go_num, fun u hu => ?_, (HC6.out.set (show K < N by have := HN1.out; omega) V (f0 + x)).congr fun k hk s hs => ?_, HB6.out.setOther ?_⟩
               ·by_cases e : u = t
                ·rw [e]; exact HE3.out
                ·exact HENT.out u (by omega)
               ·rw [Net.arrT_next, ← HU.out.2.1, ← HU.out.2.2.1, ← HK.out, ← HX.out]
                by_cases e : k = K ∧ s = V
                ·rw [if_pos e, if_pos ⟨e.2.symm, e.1⟩, e.1, e.2, HF0.out, Int.add_assoc]
                ·rw [if_neg e, if_neg fun e' => e ⟨e'.2, e'.1.symm⟩]
               ·obtain ⟨cs, h1, _⟩ := HC6.out.rows K (by have := HN1.out; omega)
                exact bx_ne HB6.out h1 (by decide)
              case measure => simp [intOf]; omega
             ·have d2 : decide (T < K) = true := decide_eq_true (by omega)
              have d3 : decide ((T : Int) < (K : Int)) = true := decide_eq_true (by omega)
              have HV := zH (HBAD.out (by rw [HE2.out]; simp [hpos, hle]))
              go_wp2
              go_ret
              exact ⟨by rw [HV.out]; rfl, HS.out.trans HCT.out.st⟩
            ·have d1 : decide (0 < x) = false := decide_eq_false hpos
             have HE3 := zH (show entOk h T pl i t = true by rw [HE2.out]; simp [hpos])
             go_wp2
             go_roundw
             case rel =>
              refine ⟨t + 1, by omega, by go_num, fun u hu => ?_, HCT.out.congr fun k hk s hs => ?_, HBT.out⟩
              ·by_cases e : u = t
               ·rw [e]; exact HE3.out
               ·exact HENT.out u (by omega)
              ·rw [Net.arrT_next, ← HX.out]
               split <;> omega
             case measure => simp [intOf]; omega
          ·have htz : T = t := by omega
           subst htz
           have HRI := zH (rowOk_iff.2 ⟨HR.out.1.trans HRL.out, HENT.out⟩)
           have hrl := HRL.out
           have hnl : ¬ T < ρl := by omega
           clear hrl
           go_wp2
           go_roundw
           case rel =>
            refine ⟨i + 1, by omega, by go_num, fun j hj => ?_, HCT.out.congr fun k _ s _ => Net.arrT_end _ _ _ _⟩
            by_cases e : j = i
            ·rw [e]; exact HRI.out
            ·exact HROW.out j (by omega)
           case measure => simp [intOf]; omega
       ·have hkz : h.ways.length = i := by omega
        subst hkz
        have HP := zH (show ∀ i t, i < (netOf h T).W → t < (netOf h T).T → 0 ≤ planF pl i t ∧ planF pl i t ≤ 1000 from fun j u hj hu => by
         have h1 := (rowOk_iff.1 (HROW.out j hj)).2 u hu
         simp only [entOk, Bool.and_eq_true, decide_eq_true_eq] at h1
         have h2 := (HO.out.way j hj).2.2.2.1
         rw [wyAt_at hj] at h1
         omega)
        have ok := netOf_ok HO.out T
        have HD := zH (And.intro ok.d0 (show ∀ s, s < h.people.length → 0 ≤ (netOf h T).pe s ∧ (netOf h T).pe s ≤ 5000 from fun s hs => by
         have h1 := HO.out.pe s hs
         have h2 : (netOf h T).pe s = h.people[s] := by show h.people.getD s 0 = _; simp [List.getD_eq_getElem?_getD, hs]
         rw [h2]; exact h1))
        have e0 := (HB.out.step HCM.out.st).cell 0
        simp only [List.getElem?_cons_zero] at e0
        have hp10 : h.people.length ≤ 1000000 := by omega
        have hcall := zH (clone_hints (fun _ => False) h.people _ wr (H0.out.keep (.of_step (HS.out.trans HCM.out.st))) hp10)
        clear hlt hi ok HC0
        go_wp2_with fail
        refine hcall.out.mono ?_
        rintro e wc ⟨vt, rfl, hown, hSc⟩
        obtain ⟨gt, ct, rfl, hct, hgt, hnt⟩ := own_nums hown (by have := HO.out.n2; omega)
        have HC1 := zH (HCM.out.step hSc)
        have HNT := zH hnt
        have HGT := zH (show (gt ≠ cb ∧ ∀ k, k < N → gt ≠ rb k) ∧ W0.heap.size ≤ gt from by
         refine ⟨⟨fun e => ?_, fun k hk e => ?_⟩, Nat.le_trans HCM.out.st.size hgt⟩
         ·obtain ⟨cs, h1, _⟩ := HCM.out.bx
          have := h1.lt; omega
         ·have := (HCM.out.rows k hk).lt; omega)
        have HCT := zH hct
        clear hcall hown hSc hct hgt hnt e0 HCM
        go_wp2
        go_loopw [116] (fun s116 wr => ∃ t : Nat, t ≤ N ∧ s116 = .int .i64 t ∧ (∀ k, k < t → thereOk h T pl k = true) ∧ CM W0 cb N h.people.length rb N (fun k s => (netOf h T).come (planF pl) s k h.ways.length) wr ∧ Nums wr gt 3 h.people.length (fun s => (netOf h T).bef (netOf h T).pe (planF pl) s t)) (fun s116 _ => N - (intOf s116).toNat)
        case atStart => exact ⟨0, Nat.zero_le _, rfl, (fun k hk => by omega), HC1.out, HNT.out⟩
        case round =>
         obtain ⟨t, ht, rfl, hth, hcm, hnt⟩ := hrel
         have HTH := zH hth
         have HC2 := zH hcm
         have HN2 := zH hnt
         clear hth hcm hnt HC1 HNT
         by_cases htl : t < N
         ·have hcc := HC2.out.cell htl
          have hixt : (0 : Int) ≤ (t : Int) ∧ (t : Int) < (N : Int) := by omega
          go_wp2
          clear hcc
          go_loopw [124] (fun s124 wr => ∃ j : Nat, j ≤ h.people.length ∧ s124 = .int .i64 j ∧ CM W0 cb N h.people.length rb N (fun k s => (netOf h T).come (planF pl) s k h.ways.length) wr ∧ Nums wr gt 3 h.people.length (fun s => if s < j then (netOf h T).bef (netOf h T).pe (planF pl) s t + (netOf h T).come (planF pl) s t h.ways.length else (netOf h T).bef (netOf h T).pe (planF pl) s t)) (fun s124 _ => h.people.length - (intOf s124).toNat)
          case atStart => exact ⟨0, Nat.zero_le _, rfl, HC2.out, HN2.out.congr fun s _ => by simp⟩
          case round =>
           obtain ⟨j, hj, rfl, hcm, hnt⟩ := hrel
           have HC3 := zH hcm
           have HN3 := zH hnt
           clear hcm hnt
           by_cases hjl : j < h.people.length
           ·have r0 := (HC3.out.rows t htl).cell hjl
            have t0 := HN3.out.cell hjl
            have tz := HN3.out.frozen j
            have tl := HN3.out.lt
            rw [if_neg (Nat.lt_irrefl j)] at t0
            have hb1 := Net.bef_le HP.out HD.out.1 j (HD.out.2 j hjl) hw20 t
            have hb2 := Net.come_le HP.out j t (Nat.le_refl _)
            have hWl : (netOf h T).W = h.ways.length := rfl
            rw [hWl] at hb2
            obtain ⟨x0, hx0⟩ : ∃ z, z = (netOf h T).bef (netOf h T).pe (planF pl) j t := ⟨_, rfl⟩
            obtain ⟨x1, hx1⟩ : ∃ z, z = (netOf h T).come (planF pl) j t h.ways.length := ⟨_, rfl⟩
            rw [← hx0] at t0 hb1
            rw [← hx1] at r0 hb2
            have hwx : IntKind.i64.wrap (x0 + x1) = x0 + x1 := by rw [IntKind.wrap_i64]; omega
            have hixj : (0 : Int) ≤ (j : Int) ∧ (j : Int) < (h.people.length : Int) := by omega
            have HX := zH (And.intro hx0 hx1)
            clear hb1 hb2 hWl hx0 hx1
            go_wp2
            go_roundw
            case rel =>
             refine ⟨j + 1, by omega, by go_num, HC3.out.other HGT.out.2 HGT.out.1.1 HGT.out.1.2 _ _, (HN3.out.set (t := j) (x0 + x1)).congr fun s hs => ?_⟩
             by_cases e : s = j
             ·rw [if_pos e, if_pos (by omega), e, HX.out.1, HX.out.2]
             ·rw [if_neg e]
              by_cases e2 : s < j
              ·rw [if_pos e2, if_pos (by omega)]
              ·rw [if_neg e2, if_neg (by omega)]
            case measure => simp [intOf]; omega
           ·have hjz : h.people.length = j := by omega
            subst hjz
            have e1 := (HB.out.step HC3.out.st).cell 1
            simp only [zD, zE] at e1
            have HN4 := zH (HN3.out.congr (ψ := fun s => (netOf h T).mid2 (netOf h T).pe (planF pl) s t 0) fun s hs => by rw [if_pos (by omega), Net.mid2_zero]; rfl)
            clear HN3
            go_wp2
            clear e1
            go_loopw [140] (fun s140 wr => ∃ i : Nat, i ≤ h.ways.length ∧ s140 = .int .i64 i ∧ CM W0 cb N h.people.length rb N (fun k s => (netOf h T).come (planF pl) s k h.ways.length) wr ∧ Nums wr gt 3 h.people.length (fun s => (netOf h T).mid2 (netOf h T).pe (planF pl) s t i)) (fun s140 _ => h.ways.length - (intOf s140).toNat)
            case atStart => exact ⟨0, Nat.zero_le _, rfl, HC3.out, HN4.out⟩
            case round =>
             obtain ⟨i, hi, rfl, hcm, hnt⟩ := hrel
             have HC5 := zH hcm
             have HN5 := zH hnt
             clear hcm hnt HN4
             by_cases hil : i < h.ways.length
             ·obtain rfl := HPW.out.1 (by omega)
              obtain ⟨y0, y1, y2, y3⟩ := HPW.out.2 i hil
              obtain ⟨wa, wb, wc, wd⟩ := way_conds HO.out T hil
              have hwy := HO.out.way i hil
              rw [← wa] at y0 hwy
              obtain ⟨U, hU⟩ : ∃ z, z = (netOf h T).u i := ⟨_, rfl⟩
              rw [← hU] at y0 hwy
              have hst := HS.out.trans HC5.out.st
              have y0 := hst.kc y0
              have y1 := hst.kc y1
              have y2 := hst.kc y2
              have y3 := hst.kc y3
              have hUn : U < h.people.length := by omega
              have HU := zH hU
              have hix : (0 : Int) ≤ (i : Int) ∧ (i : Int) < (h.ways.length : Int) := by omega
              clear wa wb wc wd hwy hU hst
              go_upto_region 35 with (fail)
              clear y0 y1 y2 y3
              obtain ⟨W8, hW8⟩ : ∃ z, z = wr.alloc (.cells #[.int .i64 U, .int .i64 h.ways[i].dst, .int .i64 h.ways[i].cap, .int .i64 h.ways[i].mins] 140) := ⟨_, rfl⟩
              obtain ⟨g8, hg8⟩ : ∃ z, z = wr.heap.size := ⟨_, rfl⟩
              rw [← hW8, ← hg8]
              have hb8 : Bx W8 g8 [.int .i64 U, .int .i64 h.ways[i].dst, .int .i64 h.ways[i].cap, .int .i64 h.ways[i].mins] 140 := by subst hW8 hg8; exact Bx.new _ [_, _, _, _] _
              have hS8 : Step wr W8 := by subst hW8; exact Step.alloc _ _
              have q0 := (cellsW hb8).1
              have HC8 := zH (HC5.out.step hS8)
              have HN8 := zH (HN5.out.row (hS8.block gt HN5.out.lt id))
              clear hb8 hS8 hW8 hg8 HC5 HN5
              by_cases htT : t < T
              ·have dT : decide ((t : Int) < (T : Int)) = true := decide_eq_true (by omega)
               have dT' : decide (t < T) = true := decide_eq_true htT
               have hpl : i < pl.length := by have := HL.out; omega
               obtain rfl := HPC.out.1 (by omega)
               obtain ⟨ur, hcr, hur⟩ := HPC.out.2 i hpl
               obtain ⟨pr, kr, br, or_, rfl, _, _, hpr, hcr2, _⟩ := hur.ints
               have hrl : pl[i].length = T := by
                have h1 := (rowOk_iff.1 (HROW.out i hil)).1
                rw [List.getD_eq_getElem?_getD, List.getElem?_eq_getElem hpl, Option.getD_some] at h1
                exact h1
               obtain rfl := hpr (by omega)
               have hst := HS.out.trans HC8.out.st
               have hcr := hst.kc hcr
               have p0 := hst.kc (hcr2 t (by omega))
               have hpf : planF pl i t = pl[i][t]'(by omega) := by simp [planF, List.getD_eq_getElem?_getD, hpl, show t < pl[i].length by omega]
               obtain ⟨x, hx⟩ : ∃ z, z = planF pl i t := ⟨_, rfl⟩
               rw [← hpf, ← hx] at p0
               rw [hrl] at hcr
               have t0 := HN8.out.cell hUn
               have hb1 := Net.mid2_le HP.out HD.out.1 U (HD.out.2 U hUn) hw20 t i hi
               have hb2 := HP.out i t hil htT
               rw [← hx] at hb2
               obtain ⟨x0, hx0⟩ : ∃ z, z = (netOf h T).mid2 (netOf h T).pe (planF pl) U t i := ⟨_, rfl⟩
               rw [← hx0] at t0 hb1
               have hwx : IntKind.i64.wrap (x0 - x) = x0 - x := by rw [IntKind.wrap_i64]; omega
               have HX := zH (And.intro hx hx0)
               have hixp : (0 : Int) ≤ (i : Int) ∧ (i : Int) < (pl.length : Int) := by omega
               have hixT : (0 : Int) ≤ (t : Int) ∧ (t : Int) < (T : Int) := by omega
               have hixU : (0 : Int) ≤ (U : Int) ∧ (U : Int) < (h.people.length : Int) := by omega
               clear hur hpr hcr2 hrl hst hpf hx hx0 hb1 hb2
               go_upto_region 36 with (fail)
               refine wp_region_seq (kdOf [] []) [0, 0, 2, 7, 15, 0, 0, 96, 224, 0, 992, 2016, 4095, 8191, 16383] [0, 1, 2, 3, 4, 5, 6, 7, 8, 9, 10, 11, 12, 13] [14] (by kernel_rfl) (by kernel_rfl) (fun i T z hi hk => by simp [kdOf] at hk <;> (try (split at hk <;> cases hk))) ?_
               intro Wx hWx
               have HT9 := zH hWx
               clear hWx
               have q0 := HT9.out.kc q0
               have hcr := HT9.out.kc hcr
               have p0 := HT9.out.kc p0
               have t0 := HT9.out.kc t0
               repeat ((first | (refine run_off rfl rfl (by rfl) ?_) | (refine run_chain_off rfl rfl (by rfl) (K0_mono _) ?_) | ((refine run_want rfl rfl (by rfl) ⟨?_, fun W hW => ?_, ?_⟩; rotate_left; (· (have d0 := hW.kc q0; have d1 := hW.kc hcr; have d2 := hW.kc p0; have d3 := hW.kc t0; go_simp; (try with_reducible rfl)))))); (try simp only [Act.put, zA, zB, zC]))
               refine run_end (L := [_]) rfl (fun W6 hW6 => ?_)
               have HC6 := zH (HC8.out.step (HT9.out.trans hW6))
               have HN6 := zH (HN8.out.row ((HT9.out.trans hW6).block gt HN8.out.lt id))
               clear hW6 HT9 hcr p0 t0 q0
               have zc := HN6.out.cell hUn
               have zz := HN6.out.frozen U
               have zl := HN6.out.lt
               go_wp2
               go_roundw
               case rel =>
                refine ⟨i + 1, by omega, by go_num, HC6.out.other HGT.out.2 HGT.out.1.1 HGT.out.1.2 _ _, (HN6.out.set (t := U) (x0 - x)).congr fun s hs => ?_⟩
                rw [Net.mid2_next]
                unfold Net.dep
                rw [← HU.out]
                by_cases e : s = U
                ·rw [if_pos e, if_pos ⟨e.symm, htT⟩, e, HX.out.1, HX.out.2]
                ·rw [if_neg e, if_neg fun e' => e e'.1.symm, Int.sub_zero]
               case measure => simp [intOf]; omega
              ·have dT : decide ((t : Int) < (T : Int)) = false := decide_eq_false (by omega)
               have dT' : decide (t < T) = false := decide_eq_false htT
               go_wp2
               go_roundw
               case rel =>
                refine ⟨i + 1, by omega, by go_num, HC8.out, HN8.out.congr fun s hs => ?_⟩
                rw [Net.mid2_next]
                unfold Net.dep
                rw [if_neg fun e' => htT e'.2, Int.sub_zero]
               case measure => simp [intOf]; omega
             ·have hiz : h.ways.length = i := by omega
              subst hiz
              have HF := zH (show ∀ s, (netOf h T).mid2 (netOf h T).pe (planF pl) s t h.ways.length = (netOf h T).F (netOf h T).pe (planF pl) s t from fun s => Net.mid2_all HD.out.1 _ _ s t)
              have hn2 := HO.out.n2
              obtain ⟨L, hL⟩ : ∃ z, z = (List.range h.people.length).map (fun s => (netOf h T).mid2 (netOf h T).pe (planF pl) s t h.ways.length) := ⟨_, rfl⟩
              have hsl := Nums.sl (S := fun _ => False) HN5.out id ct HCT.out (by omega)
              rw [← hL] at hsl
              have hL0 : 0 < L.length := by rw [hL]; simp; omega
              have hneg : minI L < 0 ↔ ¬ thereOk h T pl t = true := by
               rw [minI_neg hL0, hL]
               unfold thereOk
               simp only [List.mem_map, List.mem_range, List.all_eq_true, decide_eq_true_eq]
               constructor
               ·rintro ⟨y, ⟨s, hs, rfl⟩, hy⟩ hall
                rw [HF.out s] at hy
                have := hall s hs
                omega
               ·intro hn
                refine Classical.byContradiction fun hc => hn fun s hs => ?_
                by_cases q : 0 ≤ (netOf h T).F (netOf h T).pe (planF pl) s t
                ·exact q
                ·exact (hc ⟨_, ⟨s, hs, rfl⟩, by rw [HF.out s]; omega⟩).elim
              have HNEG := zH hneg
              have hcall := zH (Min_any L _ wr hsl hL0)
              clear hneg hsl hL hL0 hn2 hil
              go_wp2_with fail
              refine hcall.out.mono ?_
              rintro e w9 ⟨rfl, hS9⟩
              have HC9 := zH (HC5.out.step hS9)
              have HN9 := zH (HN5.out.row (hS9.block gt HN5.out.lt id))
              clear hcall hS9 HN5 HC5
              by_cases hq : minI L < 0
              ·have dq : decide (minI L < 0) = true := decide_eq_true hq
               have HV := zH (outB_there (T := T) (by have := HN1.out; omega) (HNEG.out.1 hq))
               clear hq
               go_wp2
               go_ret
               exact ⟨by rw [HQ.out, HV.out]; rfl, HS.out.trans HC9.out.st⟩
              ·have dq : decide (minI L < 0) = false := decide_eq_false hq
               have HV := zH (show thereOk h T pl t = true from Classical.byContradiction fun hc => hq (HNEG.out.2 hc))
               clear hq
               go_wp2
               go_roundw
               case rel =>
                refine ⟨t + 1, by omega, by go_num, fun k hk => ?_, HC9.out, HN9.out.congr fun s hs => HF.out s⟩
                by_cases e : k = t
                ·rw [e]; exact HV.out
                ·exact HTH.out k (by omega)
               case measure => simp [intOf]; omega
         ·have htz : N = t := by omega
          subst htz
          have hn2 := HO.out.n2
          have HE := zH (outB_end (T := T) HL.out HROW.out fun k hk => HTH.out k (by have := HN1.out; omega))
          have hF : (netOf h T).bef (netOf h T).pe (planF pl) 0 N = (netOf h T).F (netOf h T).pe (planF pl) 0 T := by rw [HN1.out]; rfl
          have hn0 : 0 < h.people.length := by omega
          have t0 := HN2.out.cell hn0
          rw [hF] at t0
          obtain ⟨f0, hf0⟩ : ∃ z, z = (netOf h T).F (netOf h T).pe (planF pl) 0 T := ⟨_, rfl⟩
          rw [← hf0] at t0 HE
          have e0 := (HB.out.step HC2.out.st).cell 0
          have e1 := (HB.out.step HC2.out.st).cell 1
          simp only [zD, zE] at e0 e1
          have hx0 : (0 : Int) ≤ 0 ∧ (0 : Int) < (h.people.length : Int) := by omega
          clear hF hf0 htl ht
          go_upto_region 41 with (fail)
          refine wp_region_seq (kdOf [4] []) [0, 1, 3, 0, 8, 31, 63] [0, 1, 2, 3, 4, 5, 6] [] (by kernel_rfl) (by kernel_rfl) (fun i T z hi hk => by simp [kdOf] at hk <;> (try (split at hk <;> cases hk))) ?_
          intro Wx hWx
          have HT := zH hWx
          clear hWx
          have e0 := HT.out.kc e0
          have e1 := HT.out.kc e1
          have t0 := HT.out.kc t0
          repeat ((first | (refine run_off rfl rfl (by rfl) ?_) | (refine run_chain_off rfl rfl (by rfl) (K0_mono _) ?_) | ((refine run_want rfl rfl (by rfl) ⟨?_, fun W hW => ?_, ?_⟩; rotate_left; (· (have d0 := hW.kc e0; have d1 := hW.kc e1; have d2 := hW.kc t0; go_simp; (try with_reducible rfl)))))); (try simp only [Act.put, zA, zB, zC]))
          clear e0 e1 t0
          refine run_chain rfl rfl (by rfl) (fun Wi hWi K' hK => ?_)
          have HTi := zH (HT.out.trans hWi)
          clear hWi HT
          go_simp
          refine (hall_all (fun _ => False) h _ Wi (HAV.out Wi (HC2.out.st.trans HTi.out)) HO.out).mono ?_
          rintro e wn ⟨rfl, hSn⟩
          have HT := zH (HTi.out.trans hSn)
          refine hK _ _ (StepX.of hSn) ?_
          clear hSn HTi hK
          (try simp only [Act.put, zA, zB, zC])
          repeat ((first | (refine run_off rfl rfl (by rfl) ?_) | (refine run_chain_off rfl rfl (by rfl) (K0_mono _) ?_) | ((refine run_want rfl rfl (by rfl) ⟨?_, fun W hW => ?_, ?_⟩; rotate_left; (· (skip; go_simp; (try with_reducible rfl)))))); (try simp only [Act.put, zA, zB, zC]))
          refine run_end (L := []) rfl (fun W6 hW6 => ?_)
          have HT6 := zH ((HC2.out.st.trans HT.out).trans hW6)
          clear hW6 HT
          go_wp2
          go_ret
          refine ⟨?_, HS.out.trans HT6.out⟩
          rw [HQ.out, HE.out]
          first | rfl | simp [Bool.beq_eq_decide_eq]
end Go.Proofs.YtfhmdpicoccnfaaGreat
namespace Go.BT
def calmN : ByteArray := ⟨#[99, 97, 108, 109]⟩
def stormN : ByteArray := ⟨#[115, 116, 111, 114, 109]⟩
def toldF : List Fc := [⟨calmN, [⟨10, 30⟩, ⟨20, 40⟩]⟩, ⟨stormN, [⟨25, 60⟩, ⟨50, 90⟩]⟩]
def fieldS : Site := ⟨[⟨100, 0⟩, ⟨-100, 0⟩, ⟨0, 100⟩, ⟨0, -100⟩], [⟨30, 4⟩, ⟨60, 7⟩, ⟨90, 10⟩], [⟨100, 30⟩, ⟨50, 20⟩, ⟨0, 0⟩], 0⟩
theorem told_ok : forecastsC toldF = 0 := by
 have h1 : fewFB toldF = true := by decide
 have h2 : toldF.all (evenFB toldF) = true := by decide
 have h3 : (toldF.all fun f => nameB f.name) = true := by decide
 have h4 : (namesOf toldF).Nodup := by
  have : calmN ≠ stormN := fun e => by
   have := congrArg (fun b => b.data.size) e
   revert this; decide
  simp [namesOf, toldF, this]
 unfold forecastsC
 rw [if_pos h1, if_pos h2, if_pos h3, if_pos h4]
theorem told_worst : worstC toldF [⟨0, 20, 24⟩] = 0 ∧ worstR toldF [⟨0, 20, 24⟩] = [30, 40] := by
 have h1 : readC toldF [⟨0, 20, 24⟩] = 0 := by
  unfold readC; rw [if_pos told_ok]; decide
 have h2 : leftN toldF [⟨0, 20, 24⟩] toldF.length = [0] := by decide
 have h3 : worstC toldF [⟨0, 20, 24⟩] = 0 := by
  unfold worstC; rw [if_pos h1, h2]; decide
 refine ⟨h3, ?_⟩
 unfold worstR
 rw [if_pos h3, h2]; decide
theorem field_ok : siteB fieldS = true := by decide
theorem told_all : worstC toldF [] = 0 ∧ worstR toldF [] = [60, 90] := by
 have h1 : readC toldF [] = 0 := by
  unfold readC; rw [if_pos told_ok]; decide
 have h2 : leftN toldF [] toldF.length = [0, 1] := by decide
 have h3 : worstC toldF [] = 0 := by
  unfold worstC; rw [if_pos h1, h2]; decide
 refine ⟨h3, ?_⟩
 unfold worstR
 rw [if_pos h3, h2]; decide
theorem told_none : worstC toldF [⟨0, 500, 600⟩] = 7 := by
 have h1 : readC toldF [⟨0, 500, 600⟩] = 0 := by
  unfold readC; rw [if_pos told_ok]; decide
 have h2 : leftN toldF [⟨0, 500, 600⟩] toldF.length = [] := by decide
 unfold worstC; rw [if_pos h1, h2]; decide
theorem told_late : readC toldF [⟨2, 0, 0⟩] = 2 := by
 unfold readC; rw [if_pos told_ok]; decide
theorem told_left : readC toldF [⟨0, 20, 24⟩] = 0 ∧ leftN toldF [⟨0, 20, 24⟩] toldF.length = [0] := by
 refine ⟨?_, by decide⟩
 unfold readC; rw [if_pos told_ok]; decide
theorem told_twins : forecastsC (toldF ++ toldF.take 1) = 6 ∧ forecastsC [] = 3 := by
 refine ⟨?_, by decide⟩
 have h1 : fewFB (toldF ++ toldF.take 1) = true := by decide
 have h2 : (toldF ++ toldF.take 1).all (evenFB (toldF ++ toldF.take 1)) = true := by decide
 have h3 : ((toldF ++ toldF.take 1).all fun f => nameB f.name) = true := by decide
 have h4 : ¬ (namesOf (toldF ++ toldF.take 1)).Nodup := by simp [namesOf, toldF]
 unfold forecastsC
 rw [if_pos h1, if_pos h2, if_pos h3, if_neg h4]
end Go.BT
namespace Go.Proofs.YtfhmdpicoccnfaaGreat
set_option linter.unusedSimpArgs false
set_option linter.unusedVariables false
open Go.RowKit Go.BT
theorem gints_any (S : Nat → Prop) (a b : List Int) (va vb : Value) (w : World) (ha : SL S w va a) (hb : SL S w vb b) :
  Calls Tryz.prog 30 #[va, vb] w fun e w' => e = .returned (.bool (intsB a b)) ∧ Step w w' := by
 obtain ⟨pa, ca, ba, oa, rfl, _, hma, hpa, hca, h0a⟩ := ha.ints
 obtain ⟨pb, cb, bb, ob, rfl, _, hmb, hpb, hcb, h0b⟩ := hb.ints
 by_cases hl : a.length = b.length
 ·have hne : ((a.length : Int) != (b.length : Int)) = false := by simp [hl]
  have Hl := zH hl
  clear hl
  go_enter Tryz.func30, Tryz.ntmps30
  go_wp2
  go_loopw [5] (fun i wr => ∃ k : Nat, k ≤ a.length ∧ i = .int .i64 k ∧ a.take k = b.take k ∧ Below w.heap.size w wr) (fun i _ => a.length - (intOf i).toNat)
  case atStart => exact ⟨0, Nat.zero_le _, rfl, rfl, Below.refl _ _⟩
  case round =>
   obtain ⟨k, hk, rfl, ht, hB⟩ := hrel
   have HT := zH ht
   clear ht
   by_cases hlt : k < a.length
   ·have hltb : k < b.length := by have := Hl.out; omega
    obtain rfl := hpa (by omega)
    obtain rfl := hpb (by omega)
    have e1 := (hB.cell (p := ⟨ba, oa + k, none⟩) (h0a (by omega)).1).trans (hca k hlt)
    have e2 := (hB.cell (p := ⟨bb, ob + k, none⟩) (h0b (by omega)).1).trans (hcb k hltb)
    have hx : (0 : Int) ≤ (k : Int) ∧ (k : Int) < (a.length : Int) := by omega
    have hy : (0 : Int) ≤ (k : Int) ∧ (k : Int) < (b.length : Int) := by omega
    clear hpa hpb hca hcb h0a h0b
    go_wp2
    go_quiet (fail)
    go_wp2
    ·have hx : (a[k] != b[k]) = true := by assumption
     go_ret
     exact ⟨by rw [ints_miss hlt hltb (by simpa using hx)]; rfl, .of (below_drewN hB _)⟩
    ·have hx : (a[k] != b[k]) = false := by assumption
     go_roundw
     case rel => exact ⟨k + 1, by omega, by go_num, ints_hit hlt hltb HT.out (by simpa using hx), below_drewN hB _⟩
     case measure => simp [intOf]; omega
   ·go_wp2
    go_ret
    exact ⟨by rw [ints_end Hl.out (by omega) HT.out]; rfl, .of hB⟩
 ·have hne : ((a.length : Int) != (b.length : Int)) = true := by simp; omega
  go_enter Tryz.func30, Tryz.ntmps30
  go_wp2
  go_ret
  refine ⟨?_, Step.refl _⟩
  have : a ≠ b := fun h => hl (by rw [h])
  simp [intsB, this]
theorem told_sz : calmN.size ≤ 9223372036854775807 ∧ stormN.size ≤ 9223372036854775807 := by decide
theorem siHall : SI Tryz.prog 98 2 := ⟨⟨_, Tryz.underlying98⟩, by kernel_rfl⟩
theorem siSiteH : SI Tryz.prog 47 4 := ⟨⟨_, Tryz.underlying47⟩, by kernel_rfl⟩
theorem ring_any (w : World) : Calls Tryz.prog 33 #[] w fun e w' => ∃ v', e = .returned v' ∧ AV (Old w) w' v' ringH ∧ Step w w' := by
 go_enter Tryz.func33, Tryz.ntmps33
 go_wp2
 refine ret_struct (k := 2) rfl siHall rfl (((Bx.new w [.slice (some ⟨w.heap.size + 1, 0, none⟩) 3 3, .slice (some ⟨w.heap.size + 1 + 1, 0, none⟩) 2 2] 98).alloc _).alloc _) rfl rfl ⟨_, rfl, ⟨_, rfl, _, _, rfl, ?_, ?_⟩, ((Step.alloc _ _).trans (Step.alloc _ _)).trans (Step.alloc _ _)⟩
 ·refine SL.bx (S := Old w) (l := ringH.people) ((Bx.new' _ [.int .i64 0, .int .i64 50, .int .i64 20] 3 _ (by simp)).alloc _) (by unfold Old; omega) 3 (by decide) (by decide) fun i hi => ?_
  match i, hi with
  | 0, _ => rfl
  | 1, _ => rfl
  | 2, _ => rfl
 ·refine SL.bx (S := Old w) (l := ringH.ways) (Bx.new' _ [.int .i64 1, .int .i64 0, .int .i64 10, .int .i64 1, .int .i64 2, .int .i64 1, .int .i64 5, .int .i64 2] 140 _ (by simp)) (by unfold Old; omega) 2 (by decide) (by decide) fun i hi => ?_
  match i, hi with
  | 0, _ => rfl
  | 1, _ => rfl
theorem told_any (w : World) : Calls Tryz.prog 27 #[] w fun e w' => ∃ v', e = .returned v' ∧ SL (Old w) w' v' toldF ∧ Step w w' := by
 go_enter Tryz.func27, Tryz.ntmps27
 go_wp2
 go_ret
 refine ⟨_, rfl, ?_, ((Step.alloc _ _).trans (Step.alloc _ _)).trans (Step.alloc _ _)⟩
 have h1 : SL (Old w) (((w.alloc (.cells #[.int .i64 10, .int .i64 30, .int .i64 20, .int .i64 40] 77)).alloc (.cells #[.int .i64 25, .int .i64 60, .int .i64 50, .int .i64 90] 77)).alloc (.cells #[.string calmN, .slice (some ⟨w.heap.size, 0, none⟩) 2 2, .string stormN, .slice (some ⟨w.heap.size + 1, 0, none⟩) 2 2] 107)) (.slice (some ⟨w.heap.size, 0, none⟩) 2 2) ([⟨10, 30⟩, ⟨20, 40⟩] : List Rng) := by
  refine SL.bx (S := Old w) (l := ([⟨10, 30⟩, ⟨20, 40⟩] : List Rng)) (((Bx.new w [.int .i64 10, .int .i64 30, .int .i64 20, .int .i64 40] 77).alloc _).alloc _) (by unfold Old; omega) 2 (by decide) (by decide) fun i hi => ?_
  match i, hi with
  | 0, _ => rfl
  | 1, _ => rfl
 have h2 : SL (Old w) (((w.alloc (.cells #[.int .i64 10, .int .i64 30, .int .i64 20, .int .i64 40] 77)).alloc (.cells #[.int .i64 25, .int .i64 60, .int .i64 50, .int .i64 90] 77)).alloc (.cells #[.string calmN, .slice (some ⟨w.heap.size, 0, none⟩) 2 2, .string stormN, .slice (some ⟨w.heap.size + 1, 0, none⟩) 2 2] 107)) (.slice (some ⟨w.heap.size + 1, 0, none⟩) 2 2) ([⟨25, 60⟩, ⟨50, 90⟩] : List Rng) := by
  refine SL.bx (S := Old w) (l := ([⟨25, 60⟩, ⟨50, 90⟩] : List Rng)) ((Bx.new' _ [.int .i64 25, .int .i64 60, .int .i64 50, .int .i64 90] 77 _ (by simp)).alloc _) (by unfold Old; omega) 2 (by decide) (by decide) fun i hi => ?_
  match i, hi with
  | 0, _ => rfl
  | 1, _ => rfl
 refine SL.bx (S := Old w) (l := toldF) (Bx.new' _ [.string calmN, .slice (some ⟨w.heap.size, 0, none⟩) 2 2, .string stormN, .slice (some ⟨w.heap.size + 1, 0, none⟩) 2 2] 107 _ (by simp)) (by unfold Old; omega) 2 (by decide) (by decide) fun i hi => ?_
 match i, hi with
 | 0, _ => exact ⟨_, rfl, h1, told_sz.1⟩
 | 1, _ => exact ⟨_, rfl, h2, told_sz.2⟩
theorem field_any (w : World) : Calls Tryz.prog 29 #[] w fun e w' => ∃ v', e = .returned v' ∧ AV (Old w) w' v' fieldS ∧ Step w w' := by
 go_enter Tryz.func29, Tryz.ntmps29
 go_wp2
 refine ret_struct (k := 4) rfl siSiteH rfl ((((Bx.new w [.slice (some ⟨w.heap.size + 1, 0, none⟩) 4 4, .slice (some ⟨w.heap.size + 1 + 1, 0, none⟩) 3 3, .slice (some ⟨w.heap.size + 1 + 1 + 1, 0, none⟩) 3 3, .int .i64 0] 47).alloc _).alloc _).alloc _) rfl rfl ⟨_, rfl, ⟨_, rfl, _, _, _, rfl, ?_, ?_, ?_⟩, (((Step.alloc _ _).trans (Step.alloc _ _)).trans (Step.alloc _ _)).trans (Step.alloc _ _)⟩
 ·refine SL.bx (S := Old w) (l := fieldS.base) (((Bx.new' _ [.int .i64 100, .int .i64 0, .int .i64 (-100), .int .i64 0, .int .i64 0, .int .i64 100, .int .i64 0, .int .i64 (-100)] 52 _ (by simp)).alloc _).alloc _) (by unfold Old; omega) 4 (by decide) (by decide) fun i hi => ?_
  match i, hi with
  | 0, _ => rfl
  | 1, _ => rfl
  | 2, _ => rfl
  | 3, _ => rfl
 ·refine SL.bx (S := Old w) (l := fieldS.levels) ((Bx.new' _ [.int .i64 30, .int .i64 4, .int .i64 60, .int .i64 7, .int .i64 90, .int .i64 10] 124 _ (by simp)).alloc _) (by unfold Old; omega) 3 (by decide) (by decide) fun i hi => ?_
  match i, hi with
  | 0, _ => rfl
  | 1, _ => rfl
  | 2, _ => rfl
 ·refine SL.bx (S := Old w) (l := fieldS.stages) (Bx.new' _ [.int .i64 100, .int .i64 30, .int .i64 50, .int .i64 20, .int .i64 0, .int .i64 0] 120 _ (by simp)) (by unfold Old; omega) 3 (by decide) (by decide) fun i hi => ?_
  match i, hi with
  | 0, _ => rfl
  | 1, _ => rfl
  | 2, _ => rfl
theorem fplanR : ∃ st, planR fieldS [30, 60, 1000] [20, 40, 70] 0 12 = some st ∧ st.begin_ = [30, 100, -1] ∧ st.call = 18 := by
 have h : (planR fieldS [30, 60, 1000] [20, 40, 70] 0 12).map (fun st => (st.begin_, st.call)) = some ([30, 100, -1], 18) := by decide
 cases q : planR fieldS [30, 60, 1000] [20, 40, 70] 0 12 with
 | none => rw [q] at h; cases h
 | some st =>
  rw [q] at h
  simp only [Option.map_some, Option.some.injEq, Prod.mk.injEq] at h
  exact ⟨st, rfl, h.1, h.2⟩
theorem field_lim : limitedB fieldS [30, 60, 1000] = true ∧ windsB [20, 40, 70] = true := by decide
theorem gwakes_any (w : World) : Calls Tryz.prog 10 #[] w fun e w' => e = .returned (.bool true) ∧ Step w w' := by
 go_enter Tryz.func10, Tryz.ntmps10
 go_wp2_with fail
 refine (told_any _).mono ?_
 rintro e wa ⟨v1, rfl, hv1, hS1⟩
 have HS1 := zH hS1
 have HV1 := zH (hv1.weak (T := fun _ => False) fun _ _ h => h.elim)
 obtain ⟨p1, c1, rfl⟩ := hv1.form
 clear hv1 hS1
 go_wp2_with fail
 refine (Worst_any (fun _ => False) toldF [⟨0, 20, 24⟩] _ _ _ (HV1.out.keep (.of_step (Step.alloc _ _))) (SL.bx (S := fun _ => False) (l := ([⟨0, 20, 24⟩] : List Rdg)) (Bx.new wa [.int .i64 0, .int .i64 20, .int .i64 24] 79) id 1 (by decide) (by decide) fun i hi => by match i, hi with | 0, _ => rfl)).mono ?_
 rintro e wb ⟨v2, rfl, hv2, hS2⟩
 rw [told_worst.1]
 rw [told_worst.2] at hv2
 have HS2 := zH ((HS1.out.trans (Step.alloc _ _)).trans hS2)
 have HV2 := zH (hv2.weak (T := fun _ => False) fun _ _ h => h.elim)
 clear hv2 hS2 HV1 HS1
 go_wp2_with fail
 refine (field_any _).mono ?_
 rintro e wc ⟨v3, rfl, hv3, hS3⟩
 have HS3 := zH hS3
 have HV3 := zH hv3
 clear hv3 hS3
 go_wp2_with fail
 obtain ⟨st, hpl, hbg, hcl⟩ := fplanR
 have HPL := zH (And.intro hpl (And.intro hbg hcl))
 clear hpl hbg hcl
 have hl1 : SL (fun _ => False) ((wc.alloc (.cells #[.int .i64 30, .int .i64 60, .int .i64 1000] 3)).alloc (.cells #[.int .i64 20, .int .i64 40, .int .i64 70] 3)) (.slice (some ⟨wc.heap.size, 0, none⟩) 3 3) ([30, 60, 1000] : List Int) :=
  (SLT.bx_ints (S := fun _ => False) (l := [30, 60, 1000]) ((Bx.new wc (([30, 60, 1000] : List Int).map (Value.int .i64)) 3).alloc _) id 3 (by decide) (by simp)).1
 have hl2 : SL (fun _ => False) ((wc.alloc (.cells #[.int .i64 30, .int .i64 60, .int .i64 1000] 3)).alloc (.cells #[.int .i64 20, .int .i64 40, .int .i64 70] 3)) (.slice (some ⟨wc.heap.size + 1, 0, none⟩) 3 3) ([20, 40, 70] : List Int) :=
  (SLT.bx_ints (S := fun _ => False) (l := [20, 40, 70]) (Bx.new' (wc.alloc (.cells #[.int .i64 30, .int .i64 60, .int .i64 1000] 3)) (([20, 40, 70] : List Int).map (Value.int .i64)) 3 (wc.heap.size + 1) (by simp)) id 3 (by decide) (by simp)).1
 have hu3 : AV (fun _ => False) ((wc.alloc (.cells #[.int .i64 30, .int .i64 60, .int .i64 1000] 3)).alloc (.cells #[.int .i64 20, .int .i64 40, .int .i64 70] 3)) v3 fieldS := by
  obtain ⟨cs, e, hr⟩ := HV3.out
  exact ⟨cs, e, Rep.keep (.of_step ((Step.alloc _ _).trans (Step.alloc _ _))) (Rep.weak (fun _ _ h => h.elim) hr)⟩
 have hcall := zH (Plan_ok fieldS [30, 60, 1000] [20, 40, 70] 0 12 v3 _ _ _ hu3 hl1 hl2 field_ok field_lim.1 field_lim.2 (by decide) (by decide))
 clear hl1 hl2 hu3
 refine hcall.out.mono ?_
 clear hcall
 rintro e wd ⟨hpl, hS4⟩
 rcases hpl with ⟨h1, rfl⟩ | ⟨st', v4, h1, rfl, hv4⟩
 ·rw [show (((0 : Nat) : Int)) = 0 from rfl, HPL.out.1] at h1; cases h1
 have hst : st' = st := by
  rw [show (((0 : Nat) : Int)) = 0 from rfl, HPL.out.1] at h1
  exact (Option.some.inj h1).symm
 subst hst
 rw [HPL.out.2.2]
 rw [HPL.out.2.1] at hv4
 have HS4 := zH ((HS3.out.trans ((Step.alloc _ _).trans (Step.alloc _ _))).trans hS4)
 have HV4 := zH hv4
 clear h1 hv4 hS4 HV3 HPL HS3
 go_wp2_with fail
 refine (ring_any _).mono ?_
 rintro e we ⟨v5, rfl, hv5, hS5⟩
 have HS5 := zH (HS4.out.trans hS5)
 have HV5 := zH hv5
 have HV4' := zH (HV4.out.keep (.of_step hS5))
 clear hv5 hS5 HS4 HV4
 go_wp2_with fail
 refine (Leave_any (Old wd) ringH _ _ HV5.out).mono ?_
 rintro e wf ⟨c6, n6, pl, v6, rfl, hL, hv6, hS6⟩
 obtain ⟨rfl, rfl, hout⟩ := leave_ring hL
 have HS6 := zH (HS5.out.trans hS6)
 have HV6 := zH (hv6.weak (T := fun _ => False) fun _ _ h => h.elim)
 have HV4 := zH (HV4'.out.keep (.of_step hS6))
 have HOUT := zH hout
 obtain ⟨p6, k6, rfl⟩ := hv6.form
 clear hv6 hS6 hL hout HV5 HS5 HV4'
 go_wp2_with fail
 refine (ring_any _).mono ?_
 rintro e wg ⟨v7, rfl, hv7, hS7⟩
 have HS7 := zH (HS6.out.trans hS7)
 have HV7 := zH hv7
 have HV4' := zH (HV4.out.keep (.of_step hS7))
 have HV6' := zH (HV6.out.keep (.of_step hS7))
 clear hv7 hS7 HS6 HV4 HV6
 go_wp2_with fail
 refine (Stuck_any (Old wf) ringH 6 _ _ HV7.out).mono ?_
 rintro e wh ⟨c8, cut, v8, rfl, hL, hv8, hS8⟩
 obtain ⟨rfl, hstk⟩ := stuck_ring hL
 have HS8 := zH (HS7.out.trans hS8)
 have HV8 := zH (hv8.weak (T := fun _ => False) fun _ _ h => h.elim)
 have HV4 := zH (HV4'.out.keep (.of_step hS8))
 have HV6 := zH (HV6'.out.keep (.of_step hS8))
 have HSTK := zH hstk
 obtain ⟨p8, k8, rfl⟩ := hv8.form
 clear hv8 hS8 hL hstk HV7 HS7 HV4' HV6'
 have HV2' := zH (HV2.out.keep (.of_step HS8.out))
 have HW8 := zH (HS2.out.trans HS8.out)
 clear HV2 HS2 HS8
 go_wp2_with fail
 have hi1 := gints_any (fun _ => False) [30, 40] [30, 40] v2 (.slice (some ⟨wh.heap.size, 0, none⟩) 2 2) (wh.alloc (.cells #[.int .i64 30, .int .i64 40] 3)) (HV2'.out.keep (.of_step (Step.alloc _ _))) (SLT.bx_ints (S := fun _ => False) (l := [30, 40]) (Bx.new wh (([30, 40] : List Int).map (Value.int .i64)) 3) id 2 (by decide) (by simp)).1
 rw [show intsB [30, 40] [30, 40] = true by decide] at hi1
 refine hi1.mono ?_
 clear hi1
 rintro e wi ⟨rfl, hS9⟩
 have HSA := zH ((Step.alloc wh (.cells #[.int .i64 30, .int .i64 40] 3)).trans hS9)
 clear hS9
 go_wp2_with fail
 have hi1 := gints_any (fun _ => False) [30, 100, -1] [30, 100, -1] v4 (.slice (some ⟨wi.heap.size, 0, none⟩) 3 3) (wi.alloc (.cells #[.int .i64 30, .int .i64 100, .int .i64 (-1)] 3)) (HV4.out.keep (.of_step (HSA.out.trans (Step.alloc _ _)))) (SLT.bx_ints (S := fun _ => False) (l := [30, 100, -1]) (Bx.new wi (([30, 100, -1] : List Int).map (Value.int .i64)) 3) id 3 (by decide) (by simp)).1
 rw [show intsB [30, 100, -1] [30, 100, -1] = true by decide] at hi1
 refine hi1.mono ?_
 clear hi1
 rintro e wj ⟨rfl, hS9⟩
 have HSB := zH ((HSA.out.trans (Step.alloc wi (.cells #[.int .i64 30, .int .i64 100, .int .i64 (-1)] 3))).trans hS9)
 clear hS9 HSA
 go_wp2_with fail
 refine (ring_any _).mono ?_
 rintro e wk ⟨v9, rfl, hv9, hS9⟩
 have HSC := zH (HSB.out.trans hS9)
 have HV9 := zH hv9
 clear hv9 hS9 HSB
 go_wp2_with fail
 have hi1 := ProveOut_any (fun _ => False) ringH 7 pl v9 _ wk (by obtain ⟨cs, e, hr⟩ := HV9.out; exact ⟨cs, e, Rep.weak (fun _ _ h => h.elim) hr⟩) (HV6.out.keep (.of_step HSC.out))
 rw [show poutB ringH 7 pl = true by unfold poutB; rw [ring_ok, show withinB 7 0 60 = true by decide]; exact HOUT.out] at hi1
 refine hi1.mono ?_
 clear hi1
 rintro e wl ⟨rfl, hS9⟩
 have HSD := zH (HSC.out.trans hS9)
 clear hS9 HSC HV9
 go_wp2_with fail
 refine (ring_any _).mono ?_
 rintro e wm ⟨v10, rfl, hv10, hS9⟩
 have HSE := zH (HSD.out.trans hS9)
 have HV10 := zH hv10
 clear hv10 hS9 HSD
 go_wp2_with fail
 have hi1 := ProveStuck_any (fun _ => False) ringH 6 cut v10 _ wm (by obtain ⟨cs, e, hr⟩ := HV10.out; exact ⟨cs, e, Rep.weak (fun _ _ h => h.elim) hr⟩) (HV8.out.keep (.of_step HSE.out))
 rw [show pstuckB ringH 6 cut = true by unfold pstuckB; rw [ring_ok, show withinB 6 0 60 = true by decide]; exact HSTK.out] at hi1
 refine hi1.mono ?_
 clear hi1
 rintro e wn ⟨rfl, hS9⟩
 have HSF := zH (HSE.out.trans hS9)
 clear hS9 HSE HV10
 go_wp2
 go_ret
 exact ⟨rfl, HW8.out.trans HSF.out⟩
end Go.Proofs.YtfhmdpicoccnfaaGreat
namespace Go.BT
def smallB (s : Site) : Bool := decide (s.base.length ≤ 15) && decide (s.levels.length ≤ 15) && decide (s.stages.length ≤ 15)
end Go.BT
namespace Go.Proofs.YtfhmdpicoccnfaaGreat
set_option linter.unusedSimpArgs false
set_option linter.unusedVariables false
open Go.RowKit Go.BT
theorem smallSite_any (S : Nat → Prop) (s : Site) (v : Value) (w : World) (hv : AV S w v s) :
  Calls Tryz.prog 7 #[v] w fun e w' => e = .returned (.bool (smallB s)) ∧ Step w w' := by
 obtain ⟨c0, c1, c2, rfl, h0, h1, h2⟩ := hv.site
 obtain ⟨p0, k0, rfl⟩ := h0.form
 obtain ⟨p1, k1, rfl⟩ := h1.form
 obtain ⟨p2, k2, rfl⟩ := h2.form
 by_cases q0 : s.base.length ≤ 15
 rotate_left
 ·have d0 : decide ((s.base.length : Int) ≤ 15) = false := decide_eq_false (by omega)
  have d1 : smallB s = false := by unfold smallB; rw [decide_eq_false q0]; rfl
  have HD := zH d1
  clear d1
  go_enter Tryz.func7, Tryz.ntmps7
  go_wp2
  go_ret
  exact ⟨by rw [HD.out]; rfl, Step.alloc _ _⟩
 have d0 : decide ((s.base.length : Int) ≤ 15) = true := decide_eq_true (by omega)
 by_cases q1 : s.levels.length ≤ 15
 rotate_left
 ·have d2 : decide ((s.levels.length : Int) ≤ 15) = false := decide_eq_false (by omega)
  have d1 : smallB s = false := by unfold smallB; rw [decide_eq_false q1]; simp
  have HD := zH d1
  clear d1
  go_enter Tryz.func7, Tryz.ntmps7
  go_wp2
  go_ret
  exact ⟨by rw [HD.out]; rfl, Step.alloc _ _⟩
 have d2 : decide ((s.levels.length : Int) ≤ 15) = true := decide_eq_true (by omega)
 by_cases q2 : s.stages.length ≤ 15
 rotate_left
 ·have d3 : decide ((s.stages.length : Int) ≤ 15) = false := decide_eq_false (by omega)
  have d1 : smallB s = false := by unfold smallB; rw [decide_eq_false q2]; simp
  have HD := zH d1
  clear d1
  go_enter Tryz.func7, Tryz.ntmps7
  go_wp2
  go_ret
  exact ⟨by rw [HD.out]; rfl, Step.alloc _ _⟩
 have d3 : decide ((s.stages.length : Int) ≤ 15) = true := decide_eq_true (by omega)
 have d1 : smallB s = true := by unfold smallB; rw [decide_eq_true q0, decide_eq_true q1, decide_eq_true q2]; rfl
 have HD := zH d1
 clear d1
 go_enter Tryz.func7, Tryz.ntmps7
 go_wp2
 go_ret
 exact ⟨by rw [HD.out]; rfl, Step.alloc _ _⟩
end Go.Proofs.YtfhmdpicoccnfaaGreat
