/- The parts of all guys, and the search for a balance, are walked. -/
import Derived.Test.YtdcjbbeoocldeaaMa
import Derived.Test.YtdcjbbeoocldeaaMe
import Derived.Test.YtdcjbbeoocldeaaMf
import Derived.Test.YtdcjbbeoocldeaaMg
import Derived.Test.YtdcjbbeoocldeaaRows
import Derived.BigQuiet
import Derived.BigRegionIn
import Derived.Deep.AppendLies
import Derived.Deep.DeepCutAuto
import Derived.Deep.QuietTactic
import Derived.Deep.RegionHeld3
import Derived.Defers
import Derived.Laws.MakeOwn
import Derived.Laws.OwnMore
import Derived.Laws.Pointers
import Derived.Laws.StructEq
import Derived.Lib.Hide
import Derived.LoopIn
import Derived.LoopNIn
import Derived.OwnWalkIn
import Derived.RangeFuncBound
import Derived.RangeFuncCalls
import Derived.RangeFuncLeaves
import Derived.RangeFuncNested
import Derived.Recover
import Derived.Scope
import Derived.Shelf.Abstract
import Derived.Shelf.RegionOpen
import Derived.TacticsInMore
import Derived.WalkKit
import Derived.WalkLawsBesides
import Derived.WalkMore
import Derived.WalkSmall
import Derived.WalkSpells
import Derived.WideKeyRuns
/- Walks: the parts of all guys, and what a stake holds, with errors; the tests of the example. -/
namespace Go.Proofs.Ytdcjbbeoocldeaa
set_option linter.unusedSimpArgs false
set_option linter.unusedVariables false
open Go.RowKit Go.BT

theorem soil_any (w : World) : Calls Try.prog 53 #[] w fun e w' => ∃ v', e = .returned v' ∧ SL (Old w) w' v' soilL ∧ Step w w' := by
  go_enter Try.func53, Try.ntmps53
  go_wp2
  go_ret
  refine ⟨_, rfl, ?_, Step.alloc _ _⟩
  refine SL.bx (S := Old w) (l := soilL) (Bx.new w [.int .i64 0, .int .i64 1000, .int .i64 800, .bool true, .int .i64 0, .int .i64 500, .int .i64 600, .bool false] 111) (by unfold Old; omega) 2 (by decide) (by decide) fun i hi => ?_
  match i, hi with
  | 0, _ => rfl
  | 1, _ => rfl
set_option maxHeartbeats 1000000 in
theorem Holds_ok (S : Nat → Prop) (l : List Tst) (s d : Int) (v : Value) (w : World) (hv : SL S w v l) (h1 : testsC l = 0) (h2 : soundC l = 0) (hs : withinB s 0 9 = true) (hd : withinB d 1 3000 = true) :
    Calls Try.prog 52 #[v, .int .i64 s, .int .i64 d] w fun e w' => e = .returned (.tuple #[.agg #[.int .i64 (holdsL l s d).lo, .int .i64 (holdsL l s d).hi], .int .i64 0]) ∧ Step w w' := by
  have hv1 := hv.keep (.of_step (Step.alloc w (.cells #[.int .i64 0, .int .i64 0] 105)))
  have hcall := Lib.hid (CheckTests_any S l v _ hv1)
  have HV := Lib.hid hv1
  have HA := Lib.hid (And.intro (tests_ok h1) (And.intro h1 h2))
  have HD := Lib.hid (show 1 ≤ d ∧ d ≤ 3000 by simp only [withinB, Bool.and_eq_true, decide_eq_true_eq] at hd; exact hd)
  have HW1 := Lib.hid (And.intro hs hd)
  obtain ⟨pv, cv, rfl⟩ := hv.form
  clear hv hv1 h1 h2 hs hd
  go_enter Try.func52, Try.ntmps52
  go_wp2_with fail
  refine hcall.out.mono ?_
  rintro e w1 ⟨rfl, hS⟩
  rw [HA.out.2.1]
  have HS := Lib.hid hS
  clear hcall hS
  go_wp2_with fail
  refine (canvas.within_any _ _ _ _).mono ?_
  rintro e w' ⟨rfl, rfl⟩
  rw [HW1.out.1]
  go_wp2_with fail
  refine (canvas.within_any _ _ _ _).mono ?_
  rintro e w' ⟨rfl, rfl⟩
  rw [HW1.out.2]
  go_wp2_with fail
  refine (sound_any S l _ _ (HV.out.keep (.of_step HS.out)) HA.out.1).mono ?_
  rintro e w2 ⟨rfl, hS2⟩
  rw [HA.out.2.2]
  have HS2 := Lib.hid (HS.out.trans hS2)
  clear hS2
  go_wp2_with fail
  refine (holds_any S l s d _ _ (HV.out.keep (.of_step HS2.out)) HA.out.1 HD.out).mono ?_
  rintro e w3 ⟨rfl, hS3⟩
  have HS3 := Lib.hid (HS2.out.trans hS3)
  have hb := (Bx.new w [.int .i64 0, .int .i64 0] 105).step (HS2.out.trans hS3)
  have HB := Lib.hid hb
  have z0 := hb.frozen 0
  have z1 := hb.frozen 1
  have y0 := hb.cell 0
  have y1 := hb.cell 1
  simp only [List.getElem?_cons_zero, List.getElem?_cons_succ] at y0 y1
  clear hb hS3
  go_wp2
  have b2 := set2 HB.out (.int .i64 (holdsL l s d).lo) (.int .i64 (holdsL l s d).hi)
  exact ret_struct2 (k := 2) rfl siRange rfl b2.1 rfl rfl ⟨rfl, StepX.fresh ((Step.alloc w _).trans HS3.out) b2.2 (fun j hj => by omega)⟩
def partsC (l : List Tst) (t : List Head) : Int := if readyC l t = 0 then soundC l else readyC l t
def rowL (l : List Tst) (h : Head) : List Int := h.guys.map (partL l)
def partsLL (l : List Tst) (t : List Head) : List (List Int) := t.map (rowL l)
def partsR (l : List Tst) (t : List Head) : List (List Int) := if partsC l t = 0 then partsLL l t else []
set_option maxRecDepth 100000 in
set_option maxHeartbeats 8000000 in
theorem Parts_any (S : Nat → Prop) (l : List Tst) (t : List Head) (v u : Value) (w : World) (hv : SL S w v l) (hu : SL S w u t) :
    Calls Try.prog 34 #[v, u] w fun e w' => ∃ v', e = .returned (.tuple #[v', .int .i64 (partsC l t)]) ∧ SL (Old w) w' v' (partsR l t) ∧ Step w w' := by
  have HV := Lib.hid hv
  have HU := Lib.hid hu
  have hm := hu.len
  have hcall := Lib.hid (ready_any S l t v u w hv hu)
  obtain ⟨pv, cv, rfl⟩ := hv.form
  obtain ⟨pu, cu, rfl⟩ := hu.form
  clear hv hu
  go_enter Try.func34, Try.ntmps34
  go_wp2_with fail
  refine hcall.out.mono ?_
  rintro e w1 ⟨rfl, hS⟩
  have HS := Lib.hid hS
  obtain ⟨c, hc⟩ : ∃ c, c = readyC l t := ⟨_, rfl⟩
  rw [← hc]
  have HC := Lib.hid hc
  clear hcall hc hS
  by_cases h0 : c = 0
  rotate_left
  · have hd : (c != 0) = true := by simpa using h0
    have HQ := Lib.hid (show partsC l t = c by unfold partsC; rw [← HC.out, if_neg h0])
    have HQ2 := Lib.hid (show partsR l t = [] by unfold partsR; rw [HQ.out, if_neg h0])
    clear h0
    go_wp2
    go_ret2
    exact ⟨_, by rw [HQ.out]; rfl, by rw [HQ2.out]; exact SL.nil _ _, HS.out⟩
  subst h0
  have HAL := Lib.hid (ready_ok HC.out.symm)
  go_wp2_with fail
  refine (sound_any S l _ _ (HV.out.keep (.of_step HS.out)) HAL.out.1).mono ?_
  rintro e w2 ⟨rfl, hS2⟩
  obtain ⟨c, hc⟩ : ∃ c, c = soundC l := ⟨_, rfl⟩
  rw [← hc]
  have HSx := Lib.hid (HS.out.trans hS2)
  clear hS2 HS
  have HS := HSx
  clear HSx
  have HPC := Lib.hid (show partsC l t = c by unfold partsC; rw [if_pos HC.out.symm, hc])
  clear hc
  by_cases h0 : c = 0
  rotate_left
  · have hd : (c != 0) = true := by simpa using h0
    have HQ2 := Lib.hid (show partsR l t = [] by unfold partsR; rw [HPC.out, if_neg h0])
    clear h0
    go_wp2
    go_ret2
    exact ⟨_, by rw [HPC.out]; rfl, by rw [HQ2.out]; exact SL.nil _ _, HS.out⟩
  subst h0
  have HPR := Lib.hid (show partsR l t = partsLL l t by unfold partsR; rw [HPC.out, if_pos rfl])
  have htl := (tent_parts HAL.out.2).1
  have HKL := Lib.hid (show (partsLL l t).length = t.length by simp [partsLL])
  have HV2 := Lib.hid (HV.out.keep (.of_step HS.out))
  obtain ⟨pt, ct, b, o, het, _, _, hp, hcc, _⟩ := (HU.out.keep (.of_step HS.out)).heads
  injection het with he1 _ he3
  subst he1 he3
  have HP := Lib.hid (And.intro hp hcc)
  clear hp hcc
  go_wp2
  go_loopw [8, 27] (fun out i wr => ∃ k : Nat, k ≤ t.length ∧ i = .int .i64 k ∧ OwnL (Old w2) w2.heap.size 29 wr out ((partsLL l t).take k) ∧ Below w2.heap.size w2 wr) (fun _ i _ => t.length - (intOf i).toNat)
  case atStart => exact ⟨0, Nat.zero_le _, rfl, OwnL.nil _ _ _ _, Below.refl _ _⟩
  case round =>
    obtain ⟨k, hk, rfl, hown, hB⟩ := hrel
    have HT := Lib.hid (Step.of hB)
    have HO := Lib.hid hown
    have HB := Lib.hid hB
    obtain ⟨LL, hLL⟩ : ∃ L, L = (partsLL l t).take k := ⟨_, rfl⟩
    rw [← hLL] at hown
    obtain ⟨po, co, rfl, _⟩ := hown.form
    have HLL := Lib.hid hLL
    clear hown hB hLL
    by_cases hlt : k < t.length
    · obtain rfl := HP.out.1 (by omega)
      obtain ⟨c2, e1, e2, e3, e4⟩ := HP.out.2 k hlt
      have e1 := HT.out.keeps.cell id e1
      have e2 := HT.out.keeps.cell id e2
      have e3 := HT.out.keeps.cell id e3
      obtain ⟨pg, cg, bg, og, rfl, _, _, hpg, hcg, _⟩ := e4.guys
      have HG := Lib.hid (And.intro hpg hcg)
      have hix : (0 : Int) ≤ (k : Int) ∧ (k : Int) < (t.length : Int) := by omega
      have hhd := head_parts (all_get (tent_parts HAL.out.2).2 hlt)
      obtain ⟨h, hh⟩ : ∃ h, h = t[k] := ⟨_, rfl⟩
      rw [← hh] at e1 e2 e3 HG hhd
      have HH := Lib.hid hh
      have HHD := Lib.hid hhd
      have HRL := Lib.hid (show (rowL l h).length = h.guys.length by simp [rowL])
      clear hh hhd e4 hpg hcg
      obtain ⟨wo, hwo⟩ : ∃ W, W = wr.alloc (.cells #[.int .i64 h.area, .int .i64 h.bears, .slice pg h.guys.length cg] 89) := ⟨_, rfl⟩
      have hso : Step wr wo := by rw [hwo]; exact Step.alloc _ _
      have HSO := Lib.hid hso
      have HWO := Lib.hid hwo
      clear hso hwo
      go_wp2
      rw [← HWO.out]
      clear e1 e2 e3
      go_loopw [11, 34] (fun row i wi => ∃ j : Nat, j ≤ h.guys.length ∧ i = .int .i64 j ∧ OwnL (Old wo) wo.heap.size 3 wi row ((rowL l h).take j) ∧ Below wo.heap.size wo wi) (fun _ i _ => h.guys.length - (intOf i).toNat)
      case atStart => exact ⟨0, Nat.zero_le _, rfl, OwnL.nil _ _ _ _, Below.refl _ _⟩
      case round =>
        obtain ⟨j, hj, rfl, hown, hB⟩ := hrel
        have HTJ := Lib.hid (Step.of hB)
        have HOJ := Lib.hid hown
        have HBJ := Lib.hid hB
        obtain ⟨LR, hLR⟩ : ∃ L, L = (rowL l h).take j := ⟨_, rfl⟩
        rw [← hLR] at hown
        obtain ⟨pr, cr, rfl, _⟩ := hown.form
        have HLR := Lib.hid hLR
        clear hown hB hLR
        by_cases hltj : j < h.guys.length
        · have hg8 := HHD.out.2.2.1
          obtain rfl := HG.out.1 (by omega)
          obtain ⟨g1, g2, g3, g4, g5⟩ := HG.out.2 j hltj
          have hst := HT.out.trans (HSO.out.trans HTJ.out)
          have g1 := hst.keeps.cell id g1
          have g2 := hst.keeps.cell id g2
          have g3 := hst.keeps.cell id g3
          have g4 := hst.keeps.cell id g4
          have g5 := hst.keeps.cell id g5
          have hjx : (0 : Int) ≤ (j : Int) ∧ (j : Int) < (h.guys.length : Int) := by omega
          have hgv := all_get HHD.out.2.2.2 hltj
          have hrl : j < (rowL l h).length := by have := HRL.out; omega
          have HRJ := Lib.hid (show (rowL l h)[j] = partL l h.guys[j] by simp [rowL])
          have hcall := Lib.hid (part_any S l h.guys[j] _ (wr.alloc (.cells #[.int .i64 h.guys[j].x, .int .i64 h.guys[j].y, .int .i64 h.guys[j].down, .int .i64 h.guys[j].soil, .int .i64 h.guys[j].depth] 91)) (HV2.out.keep (.of_step (hst.trans (Step.alloc _ _)))) HAL.out.1 hgv)
          clear hgv hst
          go_wp2_with fail
          refine hcall.out.mono ?_
          rintro e w4 ⟨rfl, hS4⟩
          have hst := (Step.alloc wr (.cells #[.int .i64 h.guys[j].x, .int .i64 h.guys[j].y, .int .i64 h.guys[j].down, .int .i64 h.guys[j].soil, .int .i64 h.guys[j].depth] 91)).trans hS4
          rw [← HRJ.out]
          have hown2 := (HOJ.out.step hst).alloc (.cells #[.int .i64 (rowL l h)[j]] 3)
          have hu := SLe.one (S := avoid (Old wo) (.slice pr LR.length cr)) (w := w4) (cs := [.int .i64 (rowL l h)[j]]) (x := (rowL l h)[j]) 3 rfl
          have hB2 := (HBJ.out.step (Nat.le_refl _) hst).step (Nat.le_refl _) (Step.alloc _ (.cells #[.int .i64 (rowL l h)[j]] 3))
          clear hS4 hst hcall g1 g2 g3 g4 g5
          go_wp2_with (at_builtin; refine wpl_append1 (l := rowL l h) (k := j) eiInts rfl _ _ rfl rfl rfl hown2 hrl (by have := HRL.out; have := HHD.out.2.2.1; omega) (by decide) hu hB2 (Nat.le_refl _) ?_)
          intro p' c' w5 hown3 hB3 _
          have H3 := Lib.hid (And.intro hown3 hB3)
          clear hown2 hu hB2 hown3 hB3
          go_wp2
          go_roundw
          case rel => exact ⟨j + 1, by omega, by go_num, H3.out.1, H3.out.2⟩
          case measure => simp [intOf]; omega
        · have HNR := Lib.hid (show LR = rowL l h by rw [HLR.out, List.take_of_length_le (by have := HRL.out; omega)])
          have hlk : k < (partsLL l t).length := by have := HKL.out; omega
          have HRK := Lib.hid (show (partsLL l t)[k] = rowL l h by rw [HH.out]; simp [partsLL])
          have hsl := HOJ.out.fresh
          rw [← HLR.out] at hsl
          have hst := HSO.out.trans HTJ.out
          have hrep : Rep.rep (avoid (Old w2) (.slice po LL.length co)) wr [.slice pr LR.length cr] (partsLL l t)[k] := by
            rw [HRK.out, ← HNR.out]
            exact ⟨_, rfl, hsl.weak fun j _ hj => by have h1 := avoid_old HO.out (old_lt HB.out) j hj; have h2 := HSO.out.size; unfold Old at *; omega⟩
          have hown2 := (HO.out.step hst).alloc (.cells #[.slice pr LR.length cr] 29)
          have hu := SLe.one (S := avoid (Old w2) (.slice po LL.length co)) (w := wr) (cs := [.slice pr LR.length cr]) (x := (partsLL l t)[k]) 29 hrep
          have hB2 := (HB.out.step (Nat.le_refl _) hst).step (Nat.le_refl _) (Step.alloc _ (.cells #[.slice pr LR.length cr] 29))
          clear hsl hst hrep
          go_wp2_with (at_builtin; refine wpl_append1 (l := partsLL l t) (k := k) eiRows rfl _ _ rfl rfl rfl hown2 hlk (by have := HKL.out; omega) (by decide) hu hB2 (Nat.le_refl _) ?_)
          intro p' c' w5 hown3 hB3 _
          have H3 := Lib.hid (And.intro hown3 hB3)
          clear hown2 hu hB2 hown3 hB3
          go_wp2
          go_roundw
          case rel => exact ⟨k + 1, by omega, by go_num, H3.out.1, H3.out.2⟩
          case measure => simp [intOf]; omega
    · have HN := Lib.hid (show LL = partsLL l t by rw [HLL.out, List.take_of_length_le (by have := HKL.out; omega)])
      have hfr := HO.out.fresh
      rw [← HLL.out, HN.out] at hfr
      have HFR := Lib.hid hfr
      clear hfr
      go_wp2
      go_ret2
      exact ⟨_, by rw [HPC.out]; rfl, by rw [HPR.out, HN.out]; exact HFR.out.weak fun j _ hj => by have := HS.out.size; unfold Old at *; omega, HS.out.trans HT.out⟩
end Go.Proofs.Ytdcjbbeoocldeaa
/- Walks: all sets of so many guys. -/
namespace Go.Proofs.Ytdcjbbeoocldeaa
set_option linter.unusedSimpArgs false
set_option linter.unusedVariables false
open Go.RowKit Go.BT
attribute [local go_sem] Oper.semAt_some

def manyN : Nat := 1000000
theorem manyN_eq : manyN = 1000000 := rfl
attribute [irreducible] manyN
abbrev SetNo (n : Nat) := { s : Nat // s < 2 ^ n }
theorem abides_step {β : Type} {B : Nat} {J : β → World → Prop} (hJ : AbidesFrom B J) {s : β} {W W' : World} (h : J s W) (hs : Step W W') : J s W' :=
  hJ s W W' none h ⟨hs.os, hs.tape, hs.output, hs.size, fun j hj _ => hs.block j hj id⟩ (fun r e => by cases e)
theorem sets_any (n : Int) (w : World) :
    Calls Try.prog 89 #[.int .i64 n] w fun e w' => e = .returned (.func (.func 105) #[] #[.pointer (some ⟨w.heap.size, 0, none⟩)]) ∧ Bx w' w.heap.size [.int .i64 n] 3 ∧ Step w w' ∧ w'.heap.size = w.heap.size + 1 := by
  have hmf : ∀ (fn : Fn) (first cap : Array Value) (w : World), (Instr.makeFunc fn first cap).run Try.prog w = .ok (.func fn first cap) w := fun _ _ _ _ => rfl
  go_enter Try.func89, Try.ntmps89
  go_wp2
  go_ret
  exact ⟨rfl, Bx.new _ [_] _, Step.alloc _ _, by simp⟩
set_option maxRecDepth 100000 in
set_option maxHeartbeats 2000000 in
theorem sets1_stops (n : Nat) (hn : 1 ≤ n) (X : Nat → Prop) (m gn : Nat) (hm : m ≤ 8) (w : World) (hb : Bx w gn [.int .i64 m] 3) (hXn : ¬ X gn) :
    SeqStopsK (FW none) n Try.prog 105 #[.pointer (some ⟨gn, 0, none⟩)] (fun i : SetNo m => #[.int .i64 i.1]) (fun W W' => StepX X W W') (fun xs => xs.map (·.1) = List.range (2 ^ m)) (fun pre => pre.map (·.1) <+: List.range (2 ^ m)) manyN w := by
  intro l J Jx W hW hJ hJx hY h0
  have hS := Step.of hW
  have HB := Lib.hid (hb.step hS)
  have HY := Lib.hid hY
  have HJ := Lib.hid hJ
  have HX := Lib.hid hXn
  have h256 : 2 ^ m ≤ 256 := Nat.pow_le_pow_right (n := 2) (by decide) hm
  obtain ⟨z, hz⟩ : ∃ z : Nat, z = 2 ^ m := ⟨_, rfl⟩
  have hp : ((2 : Int) ^ m) = (z : Int) := by rw [hz]; simp
  have hsh : wrap64 ((2 : Int) ^ m) = (z : Int) := by
    rw [hp]
    have : z ≤ 256 := by omega
    unfold wrap64; omega
  have hz256 : z ≤ 256 := by omega
  have HZ := Lib.hid hz
  clear hb hW hS hY hJ hJx hXn hp h256 hz
  refine callsIn_of_wp Try.func105 rfl trivial ?_ rfl
  simp only [Try.ntmps105, List.size_toArray, List.length_cons, List.length_nil, Nat.reduceAdd, Nat.reduceSub, Array.replicate_succ, Array.replicate_zero, List.push_toArray, List.append_toArray, List.nil_append, List.cons_append]
  have e0 := HB.out.cell 0
  simp only [List.getElem?_cons_zero] at e0
  have hm0 : (0 : Int) ≤ (m : Int) := by omega
  have hm64 : (m : Int) ≤ 64 := by omega
  gi_wp2
  gi_loopw [6] (fun i wr => ∃ k : Nat, k ≤ z ∧ i = .int .i64 k ∧ (∃ pre : List (SetNo m), pre.map (·.1) = List.range k ∧ J pre wr) ∧ StepX X W wr) (fun i _ => z - (intOf i).toNat)
  case atStart => exact ⟨0, Nat.zero_le _, rfl, ⟨[], rfl, h0⟩, StepX.refl _ _⟩
  case round =>
    obtain ⟨k, hk, rfl, ⟨pre, hpre, hJk⟩, hX⟩ := hrel
    have HPRE := Lib.hid hpre
    have HJK := Lib.hid hJk
    have HTR := Lib.hid hX
    clear hJk hX h0 hpre
    by_cases hlt : k < z
    · obtain ⟨fn, tmps, assign, body, hy, hR⟩ := HY.out pre ⟨k, by rw [← HZ.out]; omega⟩ wr HJK.out (by rw [manyN_eq]; have h9 := congrArg List.length HPRE.out; rw [List.length_map, List.length_range] at h9; omega)
      dsimp only at hy
      gi_wp2_with fail
      refine hR.mono ?_
      rintro e W7 (⟨rfl, hJ7, hX7⟩ | ⟨rfl, hJx7⟩)
      · have HJ7 := Lib.hid hJ7
        have HX7 := Lib.hid (HTR.out.trans hX7)
        clear hJ7 hX7 hy hR
        gi_wp2
        go_roundw
        case rel => exact ⟨k + 1, by omega, by go_num, ⟨_, by rw [List.map_append, HPRE.out, List.range_succ]; rfl, HJ7.out⟩, HX7.out⟩
        case measure => simp [intOf]; omega
      · clear hy hR
        gi_wp2
        refine bodyPost_ret (results_none rfl _ _ _) rfl ?_
        refine ⟨⟨_, rfl⟩, .inr ⟨_, ?_, hJx7⟩⟩
        rw [List.map_append, HPRE.out]
        show List.range k ++ [k] <+: List.range (2 ^ m)
        rw [← HZ.out, ← List.range_succ]
        obtain ⟨d, hd⟩ : ∃ d, z = (k + 1) + d := ⟨z - (k + 1), by omega⟩
        rw [hd, List.range_add]
        exact List.prefix_append _ _
    · gi_wp2
      go_end0
      have hkz : k = z := by omega
      exact ⟨⟨_, rfl⟩, .inl ⟨_, by rw [HPRE.out, hkz, HZ.out], HJK.out⟩⟩
end Go.Proofs.Ytdcjbbeoocldeaa
/- Walks: the search for a balance. -/
namespace Go.Proofs.Ytdcjbbeoocldeaa
set_option linter.unusedSimpArgs false
set_option linter.unusedVariables false
open Go.RowKit Go.BT
attribute [local go_sem] Oper.semAt_some

theorem stepR_scope {P : Program} {b : Frame} {a : Act} {k : List Item} {cs : List Frame} {w : World} {c : Code} : step P (lone (b.atR a (.code (.scope c) :: k)) cs w) = .next (lone (b.atR a (.code c :: .inScope c :: k)) cs w) :=
  step_lone_go (by simp [stepG, stepG.exec, Frame.atR])
theorem stepR_inScope {P : Program} {b : Frame} {a : Act} {k : List Item} {cs : List Frame} {w : World} {c : Code} : step P (lone (b.atR a (.inScope c :: k)) cs w) = .next (lone (b.atR a k) cs w) :=
  step_lone_go (by simp [stepG, stepG.exec, Frame.atR])
/-- A scope that is gone through without a goto, within the fence. -/
theorem wpIn_scope_straight {F : Fence} {n : Nat} {P : Program} {Q : Exit → Act → World → Prop} {a : Act} {w : World} {c : Code} (h : c.wpIn F n P (Exit.noGoto Q) a w) : (Code.scope c).wpIn F n P Q a w := by
  intro b k cs hro hb hr
  have h0 : (lone (b.atR a (.code (.scope c) :: k)) cs w).fenced P F := fenced_calm hb hr rfl
  obtain ⟨e, a₁, w₁, hq, harr⟩ := h b (.inScope c :: k) cs hro hb hr
  cases e with
  | normal => exact ⟨.normal, a₁, w₁, hq, .head h0 stepR_scope (StepsIn.trans harr (.one (fenced_calm hb hr rfl) stepR_inScope))⟩
  | exit id =>
    have hx : exitTo id (.inScope c :: k) = exitTo id k := by simp [exitTo]
    exact ⟨.exit id, a₁, w₁, hq, fun k' hk => .head h0 stepR_scope (harr.1 k' (by rw [hx]; exact hk)),
      fun hr' hk => let ⟨k₁, h1, h2⟩ := harr.2 hr' (by rw [hx]; exact hk); ⟨k₁, h1, .head h0 stepR_scope h2⟩⟩
  | goto l => exact hq.elim
  | ret => exact ⟨_, a₁, w₁, hq, .of_steps (.one h0 stepR_scope) harr⟩
  | panic ch => exact ⟨_, a₁, w₁, hq, .of_steps (.one h0 stepR_scope) harr⟩
  | outgrown => exact ⟨_, a₁, w₁, hq, .of_steps (.one h0 stepR_scope) harr⟩
/-- Where only blocks that hold no cells change, a list of numbers stays. -/
theorem sl_ints_nc {S : Nat → Prop} {A B : World} {v : Value} {l : List Int} (h : SL S A v l) (hsz : A.heap.size ≤ B.heap.size) (hc : ∀ g : Nat, (∃ (cs : Array Value) (T : TypeId) (f : Nat × Nat), A.heap[g]? = some (Obj.cells cs T f)) → B.heap[g]? = A.heap[g]?) : SL S B v l := by
  obtain ⟨p, c, b, o, hv, hcc, hm, hp, ha⟩ := h
  refine ⟨p, c, b, o, hv, hcc, hm, hp, fun i hi => ?_⟩
  obtain ⟨h1, h2, cs, hr, hcs⟩ := ha i hi
  refine ⟨Nat.lt_of_lt_of_le h1 hsz, h2, cs, hr, fun j u hj => ?_⟩
  have hcell := hcs j u hj
  refine (World.cell?_of_block (w := A) (hc b ?_)).trans hcell
  cases hb : A.heap[b]? with
  | none => simp [World.cell?, hb] at hcell
  | some ob =>
    cases ob with
    | cells x T f => exact ⟨x, T, f, rfl⟩
    | _ => simp [World.cell?, hb] at hcell
theorem slt_nc {S : Nat → Prop} {A B : World} {v : Value} {l : List Int} (h : SLT S A v l) (hsz : A.heap.size ≤ B.heap.size) (hc : ∀ g : Nat, (∃ (cs : Array Value) (T : TypeId) (f : Nat × Nat), A.heap[g]? = some (Obj.cells cs T f)) → B.heap[g]? = A.heap[g]?) : SLT S B v l := by
  refine ⟨sl_ints_nc h.1 hsz hc, fun b o n c e i hi => ?_⟩
  have h2 := h.2 b o n c e i hi
  refine (World.frozen?_of_block (w := A) (hc b ?_)).trans h2
  obtain ⟨p, c', b', o', hv, _, _, hp, ha⟩ := h.1
  rw [e] at hv
  injection hv with e1 e2 e3
  have hlt : i < l.length := by omega
  have := hp (by omega)
  rw [← e1] at this
  injection this with this
  injection this with eb eo
  subst eb
  obtain ⟨_, _, cs, hr, hcs⟩ := ha i hlt
  have hr' : cs = [.int .i64 l[i]] := hr
  subst hr'
  have hcell := hcs 0 _ rfl
  cases hb : A.heap[b]? with
  | none => simp [World.cell?, hb] at hcell
  | some ob =>
    cases ob with
    | cells x T f => exact ⟨x, T, f, rfl⟩
    | _ => simp [World.cell?, hb] at hcell
/-- What is found so far. -/
def St (w : World) (gb gi : Nat) (b : Bal) (q : Bool) (W : World) : Prop :=
  ∃ pv cv, Bx W gb [.int .i64 b.whole, .slice pv b.parts.length cv] 31 ∧ Bx W gi [.bool q] 4 ∧ SLT (Old w) W (.slice pv b.parts.length cv) b.parts
theorem St.nc {w : World} {gb gi : Nat} {b : Bal} {q : Bool} {A B : World} (h : St w gb gi b q A) (hsz : A.heap.size ≤ B.heap.size) (hc : ∀ g : Nat, (∃ (cs : Array Value) (T : TypeId) (f : Nat × Nat), A.heap[g]? = some (Obj.cells cs T f)) → B.heap[g]? = A.heap[g]?) : St w gb gi b q B := by
  obtain ⟨pv, cv, h1, h2, h3⟩ := h
  refine ⟨pv, cv, ?_, ?_, slt_nc h3 hsz hc⟩
  · unfold Bx at *; rw [hc gb ⟨_, _, _, h1⟩]; exact h1
  · unfold Bx at *; rw [hc gi ⟨_, _, _, h2⟩]; exact h2
theorem St.step {w : World} {gb gi : Nat} {b : Bal} {q : Bool} {A B : World} (h : St w gb gi b q A) (hs : Step A B) : St w gb gi b q B := by
  obtain ⟨pv, cv, h1, h2, h3⟩ := h
  exact ⟨pv, cv, h1.step hs, h2.step hs, h3.keep (.of_step hs)⟩
def setsOf {m : Nat} (pre : List (SetNo m)) : List Nat := pre.map (·.1)
theorem setsOf_snoc {m : Nat} (pre : List (SetNo m)) (x : SetNo m) : setsOf (pre ++ [x]) = setsOf pre ++ [x.1] := by simp [setsOf]
def foundL (F : List Vec) (p : Vec) (l : List Nat) : Bal × Bool := l.foldl (stepS F p) (noBal, false)
theorem foundL_snoc (F : List Vec) (p : Vec) (l : List Nat) (s : Nat) : foundL F p (l ++ [s]) = stepS F p (foundL F p l) s := by simp [foundL]
theorem stepS_stay (F : List Vec) (p : Vec) (st : Bal × Bool) (s : Nat) (h : st.2 = true) : stepS F p st s = st := by unfold stepS; rw [if_pos h]
theorem stepA_stay (F : List Vec) (p : Vec) (s : Nat) (st : Bal × Bool) (a : Nat) (h : st.2 = true) : stepA F p s st a = st := by unfold stepA; rw [if_pos h]
theorem stepB_stay (F : List Vec) (p : Vec) (s a : Nat) (st : Bal × Bool) (b : Nat) (h : st.2 = true) : stepB F p s a st b = st := by unfold stepB; rw [if_pos h]
theorem fold_hit {f : Bal × Bool → Nat → Bal × Bool} (h1 : ∀ st x, st.2 = true → f st x = st) {k n : Nat} (hk : k < n) {st s1 s2 : Bal × Bool} (e1 : (List.range k).foldl f st = s1) (e2 : f s1 k = s2) (e3 : s2.2 = true) : (List.range n).foldl f st = s2 := by
  obtain ⟨d, rfl⟩ : ∃ d, n = (k + 1) + d := ⟨n - (k + 1), by omega⟩
  rw [List.range_add, List.foldl_append, List.range_succ, List.foldl_append, e1]
  simp only [List.foldl_cons, List.foldl_nil, e2]
  exact fold_stay h1 _ _ e3
theorem fold_next {f : Bal × Bool → Nat → Bal × Bool} {k : Nat} {st s1 s2 : Bal × Bool} (e1 : (List.range k).foldl f st = s1) (e2 : f s1 k = s2) : (List.range (k + 1)).foldl f st = s2 := by
  rw [List.range_succ, List.foldl_append, e1]; simp [e2]
/-- Between two rounds, and behind the last one. -/
def BalI (w w2 : World) (gb gi : Nat) (F : List Vec) (p : Vec) (q : Bool) (pre : List (SetNo F.length)) (W : World) : Prop :=
  ∃ b, foundL F p (setsOf pre) = (b, q) ∧ St w gb gi b q W ∧ StepX (fun j => j = gb ∨ j = gi ∨ w2.heap.size ≤ j) w2 W
theorem stepX_b {X : Nat → Prop} {w : World} (hX : ∀ j, w.heap.size ≤ j → X j) (W : World) (l : Nat) (o o' : Obj) (hl : w.heap.size ≤ l) (h : W.heap[l]? = some o) (_ : o.isCells = false) (_ : o.isWalk = false) : StepX X W (W.putObj l o') :=
  have hg := grownBy_putObj' W l o'
  ⟨hg.os, hg.tape, hg.output, hg.size, fun k hk hn => hg.block k hk (fun e => hn (by cases e; exact hX _ hl))⟩
theorem BalI.own {w w2 : World} {gb gi : Nat} {F : List Vec} {p : Vec} {q : Bool} : OwnFrom w2.heap.size (BalI w w2 gb gi F p q) := by
  intro pre A B row ⟨b, h1, h2, h3⟩ hg hr
  refine ⟨b, h1, h2.nc hg.size fun g hcs => ?_, h3.trans ⟨hg.os, hg.tape, hg.output, hg.size, fun k hk hn => hg.block k hk fun e => hn (.inr (.inr (hr k e.symm).1))⟩⟩
  obtain ⟨cs, T, f, hc⟩ := hcs
  refine hg.block g (Array.getElem?_eq_some_iff.1 hc).1 fun e => ?_
  obtain ⟨_, ob, ho, hn⟩ := hr g e.symm
  rw [hc] at ho
  obtain rfl := Option.some.inj ho
  simp [Obj.isCells] at hn
theorem keepsFrom_x {X : Nat → Prop} {B : Nat} {W W' : World} (h : StepX X W W') (hX : ∀ j, X j → j < B) : KeepsFrom B W W' :=
  ⟨h.size, fun k o hB hk _ => (h.block k (Array.getElem?_eq_some_iff.1 hk).1 (fun hx => by have := hX k hx; omega)).trans hk⟩
theorem search_stop {F : List Vec} {p : Vec} {pre : List (SetNo F.length)} {b : Bal} (h : setsOf pre <+: List.range (2 ^ F.length)) (hf : foundL F p (setsOf pre) = (b, true)) : searchL F p = (b, true) := by
  obtain ⟨d, hd⟩ := h
  unfold searchL
  rw [← hd, List.foldl_append]
  have h1 : (setsOf pre).foldl (stepS F p) (noBal, false) = (b, true) := hf
  rw [h1]
  exact fold_stay (stepS_stay F p) _ _ rfl
theorem run_loadVar_one {P : Program} {T : TypeId} {a : Addr} {w : World} {v : Value} (hagg : (isAgg T).run P w = .ok false w) (hc : w.cell? a = some v) : (loadVar T a).run P w = .ok v w := by
  simp [loadVar, Sem.run_bind, hagg, load, Sem.run, hc]
/-- Two results that lie in variables: a struct and one cell. -/
theorem results_cell2 {P : Program} {fn : Func} {tmps : Array Value} {w : World} {t u : Tmp} {T T' U : TypeId} {k g g2 : Nat} {cs : List Value} {v : Value} (hr : fn.results = #[.cell t T, .cell u U]) (hi : SI P T k)
    (ht : tmps.getD t undef = .pointer (some ⟨g, 0, none⟩)) (hb : Bx w g cs T') (hk : cs.length = k) (hu : (isAgg U).run P w = .ok false w)
    (ht2 : tmps.getD u undef = .pointer (some ⟨g2, 0, none⟩)) (hc : w.cell? ⟨g2, 0, none⟩ = some v) : (results fn tmps).run P w = .ok (.tuple #[.agg cs.toArray, v]) w := by
  have ht' : tmps[t]?.getD undef = .pointer (some ⟨g, 0, none⟩) := by simpa using ht
  have ht2' : tmps[u]?.getD undef = .pointer (some ⟨g2, 0, none⟩) := by simpa using ht2
  simp [results, hr, ht', ht2', asAddr, run_loadVar_bx hi hb hk, run_loadVar_one hu hc]
/-- What is found is put down. -/
theorem St.put {w : World} {gb gi : Nat} {W : World} {c0 c1 c2 : Value} {b : Bal} {q : Bool} {pv : Option Addr} {cv : Nat} (hne : ¬ gi = gb) (h1 : Old w gb) (h2 : Old w gi) (hb : Bx W gb [c0, c1] 31) (hi : Bx W gi [c2] 4) (hl : SLT (Old w) W (.slice pv b.parts.length cv) b.parts) :
    St w gb gi b q (((W.setCell ⟨gb, 0, none⟩ (.int .i64 b.whole)).setCell ⟨gb, 1, none⟩ (.slice pv b.parts.length cv)).setCell ⟨gi, 0, none⟩ (.bool q)) ∧ StepX (fun j => j = gb ∨ j = gi) W (((W.setCell ⟨gb, 0, none⟩ (.int .i64 b.whole)).setCell ⟨gb, 1, none⟩ (.slice pv b.parts.length cv)).setCell ⟨gi, 0, none⟩ (.bool q)) := by
  have e1 := set2 hb (.int .i64 b.whole) (.slice pv b.parts.length cv)
  have e2 := (hi.setOther (b := gb) (o := 0) (v := .int .i64 b.whole) hne).setOther (b := gb) (o := 1) (v := .slice pv b.parts.length cv) hne
  have e3 := e2.setCell 0 (.bool q)
  have e4 := (e1.1.setOther (b := gi) (o := 0) (v := .bool q) (fun h => hne h.symm))
  have hX7 := (e1.2.mono (Y := fun j => j = gb ∨ j = gi) fun j _ hj => .inl hj).setCell ⟨gi, 0, none⟩ (.bool q) (.inr rfl)
  exact ⟨⟨pv, cv, e4, e3, hl.keep (hX7.keeps.mono fun j _ hj => by rcases hj with rfl | rfl <;> assumption)⟩, hX7⟩
theorem wplI_store {P : Program} {ops : Array Oper} {rest : List Oper} {o : Oper} {a : Act} {Q : Exit → Act → World → Prop} {off : Nat} {v : Value} {w : World} {g : Nat} {cs : List Value} {T : TypeId} {ro : Option Nat} {nn : Nat} (hgd : o.guard = none) (ty : TypeId) (x y : Operand) (ho : o.op = .store ty x y)
    (hx : a.eval x = .pointer (some ⟨g, off, none⟩)) (hy : a.eval y = v) (hb : Bx w g cs T) (hi : (P.info? ty).map (·.size) = some v.cells.size) (hfit : off + v.cells.size ≤ cs.length) (h1 : ∀ u ∈ v.cells.toList, u.oneCell' = true)
    (new : List Value) (hnew : cs.take off ++ v.cells.toList ++ cs.drop (off + v.cells.size) = new)
    (hK : ∀ w', Bx w' g new T → Wrote g w w' → wpListIn (FW ro) nn P ops Q rest (a.put o.dst undef) w') : wpListIn (FW ro) nn P ops Q (o :: rest) a w := by
  subst hnew
  obtain ⟨i, hi1, hi2⟩ := Option.map_eq_some_iff.1 hi
  have hr := run_storeCells_at P g off T v.cells.toList 0 cs.toArray w hb (by simpa using hfit) h1
  have hs : (storeVar ty ⟨g, off, none⟩ v).run P w = .ok () (w.setRow g (cs.take off ++ v.cells.toList ++ cs.drop (off + v.cells.size)).toArray) := by
    simp only [Nat.add_zero, Array.length_toList] at hr
    simp [storeVar, sizeOf, typeInfo, hi1, hi2, Result.andThen]
    simpa using hr
  have hw : Region.wanted o (yielded ops a.tmps) = true := by simp [Region.wanted, hgd]
  have hsem : o.semAt (FW ro).round a.eval = execOp a.eval o := by
    unfold Oper.semAt
    cases ro with
    | none => rfl
    | some l => simp [ho]
  unfold wpListIn
  rw [if_pos hw]
  refine ⟨fun f _ => trivial, ?_⟩
  rw [hsem]
  unfold execOp
  simp only [ho, hx, hy, Instr.storeAt, Instr.sureAddr, Sem.run_bind, Sem.run_pure, Result.andThen_ok, hs]
  exact hK _ (setRow_heap w g _ _ T (0, 0) hb) ⟨rfl, rfl, rfl, by simp [World.setRow], fun k hk => setRow_other w g k _ hk⟩
set_option maxRecDepth 100000 in
set_option maxHeartbeats 8000000 in
theorem balance_any (F : List Vec) (area : Int) (p : Vec) (v : Value) (w : World) (hv : MV w v area F) (hF : smallV F) (hn : F.length ≤ 8) (hp : inV 10000000 p) :
    Calls Try.prog 60 #[v, .agg #[.int .i64 p.x, .int .i64 p.y]] w fun e w' => ∃ v', e = .returned (.tuple #[v', .bool (searchL F p).2]) ∧ AVO (Old w) w' v' (searchL F p).1 ∧ Step w w' := by
  obtain ⟨b, p2, n2, k2, p3, k3, rfl, hsl⟩ := hv
  obtain ⟨W0, hW0⟩ : ∃ W, W = (((w.alloc (.cells #[.int .i64 area, .int .i64 b, .slice p2 n2 k2, .slice p3 F.length k3] 117)).alloc (.cells #[.int .i64 p.x, .int .i64 p.y] 40)).alloc (.cells #[.int .i64 0, .slice none 0 0] 31)).alloc (.cells #[.bool false] 4) := ⟨_, rfl⟩
  have hbm : Bx W0 w.heap.size [.int .i64 area, .int .i64 b, .slice p2 n2 k2, .slice p3 F.length k3] 117 := by subst hW0; exact (((Bx.new w [_, _, _, _] _).alloc _).alloc _).alloc _
  have hbp : Bx W0 (w.heap.size + 1) [.int .i64 p.x, .int .i64 p.y] 40 := by subst hW0; exact ((Bx.new' _ [_, _] _ _ (by simp)).alloc _).alloc _
  have hbb : Bx W0 (w.heap.size + 2) [.int .i64 0, .slice none 0 0] 31 := by subst hW0; exact (Bx.new' _ [_, _] _ _ (by simp)).alloc _
  have hbi : Bx W0 (w.heap.size + 3) [.bool false] 4 := by subst hW0; exact Bx.new' _ [_] _ _ (by simp)
  have hS : Step w W0 := by subst hW0; exact (by repeat (first | (with_reducible assumption) | (with_reducible exact Step.refl _) | (with_reducible apply Step.s_alloc) | (with_reducible apply Step.s_drew) | (with_reducible apply Step.s_drewN) | (with_reducible refine Step.trans ?_ (by with_reducible assumption))))
  have hz : W0.heap.size = w.heap.size + 4 := by subst hW0; simp
  have hst0 : St W0 (w.heap.size + 2) (w.heap.size + 3) noBal false W0 := ⟨none, 0, hbb, hbi, SLT.nil _ _⟩
  have HSL := Lib.hid (hsl.weak (T := fun j => w.heap.size ≤ j) (fun j hj h => by omega))
  have HBM := Lib.hid hbm
  have HBP := Lib.hid hbp
  have HST := Lib.hid hst0
  have HS := Lib.hid hS
  have HZ0 := Lib.hid hz
  have HW := Lib.hid hW0
  have HF := Lib.hid hF
  have HP := Lib.hid hp
  have HN := Lib.hid hn
  have m3 := hbm.cell 3
  have hl0 := hbm.lt
  simp only [List.getElem?_cons_zero, List.getElem?_cons_succ] at m3
  clear hbm hbp hbb hbi hS hz hst0 hW0 hsl hF hp
  refine callsIn_wide.1 (show CallsIn (FW none) 5 Try.prog 60 _ w _ from ?_)
  refine callsIn_of_wp_marks Try.func60 rfl trivial ?_ rfl
  simp only [Try.ntmps60, List.size_toArray, List.length_cons, List.length_nil, Nat.reduceAdd, Nat.reduceSub, Array.replicate_succ, Array.replicate_zero, List.push_toArray, List.append_toArray, List.nil_append, List.cons_append]
  gi_wp2_with fail
  rw [show w.heap.size + 1 + 1 = w.heap.size + 2 from rfl, show w.heap.size + 2 + 1 = w.heap.size + 3 from rfl, ← HW.out]
  refine wpIn_scope_straight (wpIn_seq (wpIn_label ?_))
  gi_wp2_with fail
  refine (callsIn_FW (sets_any F.length W0)).mono ?_
  rintro e w2 ⟨rfl, hbn, hS2, hz2⟩
  have HBN := Lib.hid hbn
  have hz0 := HZ0.out
  have HZ := Lib.hid (And.intro hz0 hz2)
  have HT2 := Lib.hid hS2
  clear hbn hS2 hz0 hz2 m3 hl0
  gi_wp2_with fail
  have hseq := Lib.hid (sets1_stops 4 (by omega) (fun j => j = w.heap.size + 2 ∨ j = w.heap.size + 3 ∨ w2.heap.size ≤ j) F.length W0.heap.size HN.out w2 HBN.out (by have := HZ.out; omega))
  have h00 : BalI W0 w2 (w.heap.size + 2) (w.heap.size + 3) F p false [] w2 := ⟨noBal, rfl, HST.out.step HT2.out, StepX.refl _ _⟩
  refine wpIn_rangeFunc_ownG rfl (by omega) rfl trivial (Go.Proofs.enters_of Try.func105 (by kernel_rfl) rfl) hseq.out (fun h1 h2 => h1.trans h2) (stepX_b (fun j hj => .inr (.inr hj))) (Below.refl _ _) (fun _ => rfl)
    (BalI W0 w2 (w.heap.size + 2) (w.heap.size + 3) F p false) (fun c pre W => c = .exit 0 ∧ BalI W0 w2 (w.heap.size + 2) (w.heap.size + 3) F p true pre W) BalI.own (fun c pre A B row h hg hr => ⟨h.1, BalI.own pre A B row h.2 hg hr⟩) h00 ?a1 ?assign ?body ?done ?stop
  case assign =>
    intro l x W K hK
    rw [FW_inRound]
    gi_wp2
    exact hK
  case done =>
    intro D ys W hDl hys hI hK
    obtain ⟨bb, hfd, hst, hX⟩ := hI
    have HQ := Lib.hid (show searchL F p = (bb, false) by rw [← hfd, show setsOf ys = List.range (2 ^ F.length) from hys]; rfl)
    obtain ⟨pv, cv, hbb, hbi, hls⟩ := hst
    have HK := Lib.hid hK
    have HX := Lib.hid hX
    have HBB := Lib.hid hbb
    have HBI := Lib.hid hbi
    have HLS := Lib.hid hls
    clear hK hX hbb hbi hls hfd
    gi_wp2_with fail
    have z0 := HBB.out.frozen 0
    have z1 := HBB.out.frozen 1
    have z2 := HBI.out.frozen 0
    have y0 := HBB.out.cell 0
    have y1 := HBB.out.cell 1
    have x0 := HBI.out.cell 0
    have yl := HBB.out.lt
    have xl := HBI.out.lt
    simp only [List.getElem?_cons_zero, List.getElem?_cons_succ] at y0 y1 x0
    gi_region
    gi_wp2
    rw [Exit.noGoto_ret]
    have e1 := set2 HBB.out (.int .i64 bb.whole) (.slice pv bb.parts.length cv)
    have hne : ¬ w.heap.size + 3 = w.heap.size + 2 := by omega
    have e2 := (HBI.out.setOther (b := w.heap.size + 2) (o := 0) (v := .int .i64 bb.whole) hne).setOther (b := w.heap.size + 2) (o := 1) (v := .slice pv bb.parts.length cv) hne
    have e3 := (e2.setCell 0 (.bool false)).step (Step.drew _)
    have e4 := (e1.1.setOther (b := w.heap.size + 3) (o := 0) (v := .bool false) (fun h => hne h.symm)).step (Step.drew _)
    have hX7 := (((e1.2.mono (Y := fun j => j = w.heap.size + 2 ∨ j = w.heap.size + 3) fun j _ hj => .inl hj)).setCell ⟨w.heap.size + 3, 0, none⟩ (.bool false) (.inr rfl)).drew'
    obtain ⟨W9, hW9⟩ : ∃ W', W' = (((W.setCell ⟨w.heap.size + 2, 0, none⟩ (.int .i64 bb.whole)).setCell ⟨w.heap.size + 2, 1, none⟩ (.slice pv bb.parts.length cv)).setCell ⟨w.heap.size + 3, 0, none⟩ (.bool false)).drew := ⟨_, rfl⟩
    rw [← hW9] at e3 e4 hX7 ⊢
    have hXo : ∀ j, (j = w.heap.size + 2 ∨ j = w.heap.size + 3) → Old W0 j := fun j hj => by unfold Old; have := HZ.out.1; omega
    have e5 := HLS.out.keep (hX7.keeps.mono fun j _ hj => hXo j hj)
    have hzz := HZ.out
    have hK9 := (hX7.block D (Array.getElem?_eq_some_iff.1 HK.out).1 (by omega)).trans HK.out
    have hSW : Step w W9 := StepX.fresh (StepX.fresh (HS.out.trans HT2.out) HX.out (fun j hj => by omega)) hX7 (fun j hj => by omega)
    clear hW9 y0 y1 x0 z0 z1 z2 e1 e2 yl xl
    refine ⟨by simp, .inl ⟨_, _, rfl, run_takeDeferred hK9, ?_⟩⟩
    have hg := grownBy_putObj' W9 D (.deferred none)
    have hcs : ∀ g : Nat, (∃ (cs : Array Value) (T : TypeId) (f : Nat × Nat), W9.heap[g]? = some (Obj.cells cs T f)) → (W9.putObj D (.deferred none)).heap[g]? = W9.heap[g]? := fun g hc => by
      obtain ⟨cs, T, f, hc⟩ := hc
      refine hg.block g (Array.getElem?_eq_some_iff.1 hc).1 fun e => ?_
      cases e
      rw [hK9] at hc
      cases hc
    obtain ⟨pv2, cv2, hx1, hx2, hx3⟩ := St.nc (gb := w.heap.size + 2) (gi := w.heap.size + 3) (b := bb) (q := false) ⟨pv, cv, e4, e3, e5⟩ hg.size hcs
    have hSf : Step w (W9.putObj D (.deferred none)) := StepX.fresh (X := fun j => j = D) hSW ⟨hg.os, hg.tape, hg.output, hg.size, fun k hk hn => hg.block k hk (fun e => hn (by cases e; rfl))⟩ (fun j hj => by omega)
    refine ⟨_, results_cell2 rfl siBal rfl hx1 rfl (by unfold isAgg; rw [Sem.run_bind, run_underlying Try.underlying4]; rfl) rfl (hx2.cell 0), .agg #[.int .i64 bb.whole, .slice pv2 bb.parts.length cv2], by rw [HQ.out], by rw [HQ.out]; exact ⟨_, rfl, _, rfl, hx3.weak fun j _ hj => by unfold Old at *; omega⟩, hSf⟩
  case stop =>
    intro D c pre W hDl hpre hI hK
    obtain ⟨rfl, bb, hfd, hst, hX⟩ := hI
    have HQ := Lib.hid (show searchL F p = (bb, true) from search_stop hpre hfd)
    refine wpIn_exit ?_
    obtain ⟨pv, cv, hbb, hbi, hls⟩ := hst
    have HK := Lib.hid hK
    have HX := Lib.hid hX
    have HBB := Lib.hid hbb
    have HBI := Lib.hid hbi
    have HLS := Lib.hid hls
    clear hK hX hbb hbi hls hfd
    gi_wp2_with fail
    have z0 := HBB.out.frozen 0
    have z1 := HBB.out.frozen 1
    have z2 := HBI.out.frozen 0
    have y0 := HBB.out.cell 0
    have y1 := HBB.out.cell 1
    have x0 := HBI.out.cell 0
    have yl := HBB.out.lt
    have xl := HBI.out.lt
    simp only [List.getElem?_cons_zero, List.getElem?_cons_succ] at y0 y1 x0
    gi_region
    gi_wp2
    rw [Exit.noGoto_ret]
    have e1 := set2 HBB.out (.int .i64 bb.whole) (.slice pv bb.parts.length cv)
    have hne : ¬ w.heap.size + 3 = w.heap.size + 2 := by omega
    have e2 := (HBI.out.setOther (b := w.heap.size + 2) (o := 0) (v := .int .i64 bb.whole) hne).setOther (b := w.heap.size + 2) (o := 1) (v := .slice pv bb.parts.length cv) hne
    have e3 := (e2.setCell 0 (.bool true)).step (Step.drew _)
    have e4 := (e1.1.setOther (b := w.heap.size + 3) (o := 0) (v := .bool true) (fun h => hne h.symm)).step (Step.drew _)
    have hX7 := (((e1.2.mono (Y := fun j => j = w.heap.size + 2 ∨ j = w.heap.size + 3) fun j _ hj => .inl hj)).setCell ⟨w.heap.size + 3, 0, none⟩ (.bool true) (.inr rfl)).drew'
    obtain ⟨W9, hW9⟩ : ∃ W', W' = (((W.setCell ⟨w.heap.size + 2, 0, none⟩ (.int .i64 bb.whole)).setCell ⟨w.heap.size + 2, 1, none⟩ (.slice pv bb.parts.length cv)).setCell ⟨w.heap.size + 3, 0, none⟩ (.bool true)).drew := ⟨_, rfl⟩
    rw [← hW9] at e3 e4 hX7 ⊢
    have hXo : ∀ j, (j = w.heap.size + 2 ∨ j = w.heap.size + 3) → Old W0 j := fun j hj => by unfold Old; have := HZ.out.1; omega
    have e5 := HLS.out.keep (hX7.keeps.mono fun j _ hj => hXo j hj)
    have hzz := HZ.out
    have hK9 := (hX7.block D (Array.getElem?_eq_some_iff.1 HK.out).1 (by omega)).trans HK.out
    have hSW : Step w W9 := StepX.fresh (StepX.fresh (HS.out.trans HT2.out) HX.out (fun j hj => by omega)) hX7 (fun j hj => by omega)
    clear hW9 y0 y1 x0 z0 z1 z2 e1 e2 yl xl
    refine ⟨by simp, .inl ⟨_, _, rfl, run_takeDeferred hK9, ?_⟩⟩
    have hg := grownBy_putObj' W9 D (.deferred none)
    have hcs : ∀ g : Nat, (∃ (cs : Array Value) (T : TypeId) (f : Nat × Nat), W9.heap[g]? = some (Obj.cells cs T f)) → (W9.putObj D (.deferred none)).heap[g]? = W9.heap[g]? := fun g hc => by
      obtain ⟨cs, T, f, hc⟩ := hc
      refine hg.block g (Array.getElem?_eq_some_iff.1 hc).1 fun e => ?_
      cases e
      rw [hK9] at hc
      cases hc
    obtain ⟨pv2, cv2, hx1, hx2, hx3⟩ := St.nc (gb := w.heap.size + 2) (gi := w.heap.size + 3) (b := bb) (q := true) ⟨pv, cv, e4, e3, e5⟩ hg.size hcs
    have hSf : Step w (W9.putObj D (.deferred none)) := StepX.fresh (X := fun j => j = D) hSW ⟨hg.os, hg.tape, hg.output, hg.size, fun k hk hn => hg.block k hk (fun e => hn (by cases e; rfl))⟩ (fun j hj => by omega)
    refine ⟨_, results_cell2 rfl siBal rfl hx1 rfl (by unfold isAgg; rw [Sem.run_bind, run_underlying Try.underlying4]; rfl) rfl (hx2.cell 0), .agg #[.int .i64 bb.whole, .slice pv2 bb.parts.length cv2], by rw [HQ.out], by rw [HQ.out]; exact ⟨_, rfl, _, rfl, hx3.weak fun j _ hj => by unfold Old at *; omega⟩, hSf⟩
  case body =>
    intro l pre x W hI hlen
    rw [FW_inRound]
    obtain ⟨s, hs⟩ := x
    obtain ⟨bb, hfd, hst, hX⟩ := hI
    have hs256 : s < 256 := Nat.lt_of_lt_of_le hs (Nat.le_trans (Nat.pow_le_pow_right (n := 2) (by decide) HN.out) (by decide))
    have hzz := HZ.out
    have hbm := (HBM.out.step HT2.out).keep hX.keeps (show ¬ (w.heap.size = w.heap.size + 2 ∨ w.heap.size = w.heap.size + 3 ∨ w2.heap.size ≤ w.heap.size) by omega)
    have hbp := (HBP.out.step HT2.out).keep hX.keeps (show ¬ (w.heap.size + 1 = w.heap.size + 2 ∨ w.heap.size + 1 = w.heap.size + 3 ∨ w2.heap.size ≤ w.heap.size + 1) by omega)
    have hslW := (HSL.out.keep (.of_step (HS.out.trans HT2.out))).keep (hX.keeps.mono (T := fun j => w.heap.size ≤ j) fun j _ hj => by omega)
    have HMV := Lib.hid (show MV W (.agg #[.int .i64 area, .int .i64 b, .slice p2 n2 k2, .slice p3 F.length k3]) area F from ⟨b, p2, n2, k2, p3, k3, rfl, hslW.weak (fun _ _ h => h.elim)⟩)
    have HBMW := Lib.hid hbm
    have HBPW := Lib.hid hbp
    have HSTW := Lib.hid hst
    have HX := Lib.hid hX
    have HFD := Lib.hid hfd
    have HSW := Lib.hid hX.size
    have HSLW := Lib.hid hslW
    clear hlen hbm hbp hslW hst hX hfd hzz h00
    gi_wp2_with fail
    refine wpIn_region_seq (fun _ => False) (fun _ h => h.elim) (kdOf [3, 4, 5, 6] [(7, 40, .agg #[.int .i64 0, .int .i64 0])]) [0, 0, 0, 6, 15, 31, 63, 0, 255] [0, 1, 2, 3, 4, 5, 6, 7] [8] (by kernel_rfl) (by kernel_rfl) (by kernel_rfl) (fun i T z hi hk => by simp only [List.mem_cons, List.not_mem_nil, or_false] at hi; rcases hi with rfl | rfl | rfl | rfl | rfl | rfl | rfl | rfl <;> simp [kdOf] at hk <;> (obtain ⟨rfl, rfl⟩ := hk; first | (show Option.bind _ _ = some _; kernel_rfl) | (refine ⟨_, rfl, fun _ _ => ?_⟩; go_simp))) ?_
    intro Wx hWx
    have HT := Lib.hid hWx
    clear hWx
    obtain ⟨m0, m1, m2, m3⟩ := cells4 (HBMW.out.step HT.out)
    have q0 := (HBPW.out.step HT.out).cell 0
    have q1 := (HBPW.out.step HT.out).cell 1
    simp only [List.getElem?_cons_zero, List.getElem?_cons_succ] at q0 q1
    repeat (first | (refine run_off rfl rfl (by rfl) ?_; (try simp only [Act.put, List.setIfInBounds_toArray, List.set_cons_zero, List.set_cons_succ])) | (refine run_chain_off rfl rfl (by rfl) (K0_mono _) ?_; (try simp only [Act.put, List.setIfInBounds_toArray, List.set_cons_zero, List.set_cons_succ])) | ((refine run_want rfl rfl (by rfl) ⟨?_, fun W hW => ?_, ?_⟩; rotate_left; (· (have d0 := hW.keeps.cell id m0; have d1 := hW.keeps.cell id m1; have d2 := hW.keeps.cell id m2; have d3 := hW.keeps.cell id m3; have d4 := hW.keeps.cell id q0; have d5 := hW.keeps.cell id q1; go_simp; (try with_reducible rfl)))); (try simp only [Act.put, List.setIfInBounds_toArray, List.set_cons_zero, List.set_cons_succ])))
    refine run_chain rfl rfl (by rfl) (fun Wi hWi K' hK => ?_)
    have HTi := Lib.hid (HT.out.trans hWi)
    have HZW := Lib.hid HTi.out.size
    clear hWi HT
    go_simp
    refine (full_any F area s _ Wi (HMV.out.step HTi.out) HF.out HN.out hs256).mono ?_
    rintro e wn ⟨rfl, hSn⟩
    have HT := Lib.hid (HTi.out.trans (StepX.of hSn))
    clear HTi
    refine hK _ _ (StepX.of hSn) ?_
    clear hSn
    (try simp only [Act.put, List.setIfInBounds_toArray, List.set_cons_zero, List.set_cons_succ])
    refine run_chain rfl rfl (by rfl) (fun Wi hWi K' hK => ?_)
    have HTi := Lib.hid (HT.out.trans hWi)
    clear hWi HT
    go_simp
    have hsv : SL (fun _ => False) (Wi.alloc (.cells #[.int .i64 p.x, .int .i64 p.y, .int .i64 (fullV F s).x, .int .i64 (fullV F s).y] 40)) (.slice (some ⟨Wi.heap.size, 0, none⟩) 2 2) [p, fullV F s] := by
      have h := sl_vecs Wi [p, fullV F s] (by simp)
      simpa [cellsV] using h
    refine hK _ _ (StepX.of (Step.alloc _ _)) ?_
    (try simp only [Act.put, List.setIfInBounds_toArray, List.set_cons_zero, List.set_cons_succ])
    have hWA := HTi.out.trans (Step.alloc Wi (.cells #[.int .i64 p.x, .int .i64 p.y, .int .i64 (fullV F s).x, .int .i64 (fullV F s).y] 40))
    generalize Wi.alloc (.cells #[.int .i64 p.x, .int .i64 p.y, .int .i64 (fullV F s).x, .int .i64 (fullV F s).y] 40) = WA at *
    generalize Wi.heap.size = ga at *
    have HT := Lib.hid hWA
    have HSV := Lib.hid hsv
    clear hsv hWA HTi hK m0 m1 m2 m3 q0 q1
    have hfi := full_in HF.out s F.length
    have hfi2 : inV 4000000 (fullV F s) := hfi.mono (by have := HN.out; omega)
    have hai : inV 14000000 (addV p (fullV F s)) := by
      obtain ⟨⟨a1, a2⟩, a3, a4⟩ := HP.out
      obtain ⟨⟨b1, b2⟩, b3, b4⟩ := hfi2
      refine ⟨⟨?_, ?_⟩, ?_, ?_⟩ <;> simp only [addV] <;> omega
    have HAI := Lib.hid (show inV 20000000 (needV F p s) ∧ fits (-1 * (addV p (fullV F s)).x) ∧ fits (-1 * (addV p (fullV F s)).y) by
      obtain ⟨⟨a1, a2⟩, a3, a4⟩ := hai
      refine ⟨⟨⟨?_, ?_⟩, ?_, ?_⟩, ?_, ?_⟩ <;> (try unfold fits) <;> (try simp only [needV, timesV]) <;> omega)
    have HSF := Lib.hid (sum2_fits (HP.out.mono (by decide)) (hfi2.mono (by decide)))
    clear hfi hfi2 hai
    refine run_chain rfl rfl (by rfl) (fun Wi hWi K' hK => ?_)
    have hsv2 := HSV.out.keep (.of_step hWi)
    have HTi := Lib.hid (HT.out.trans hWi)
    clear hWi HT
    go_simp
    refine (sum_any (fun _ => False) [p, fullV F s] _ Wi hsv2 HSF.out).mono ?_
    rintro e wn ⟨rfl, hSn⟩
    rw [sum_two]
    have HT := Lib.hid (HTi.out.trans hSn)
    clear HTi hsv2
    refine hK _ _ (StepX.of hSn) ?_
    clear hSn
    (try simp only [Act.put, List.setIfInBounds_toArray, List.set_cons_zero, List.set_cons_succ])
    refine run_chain rfl rfl (by rfl) (fun Wi hWi K' hK => ?_)
    have HTi := Lib.hid (HT.out.trans hWi)
    have HZW := Lib.hid HTi.out.size
    clear hWi HT
    go_simp
    refine (times_any (addV p (fullV F s)) (-1) _ HAI.out.2.1 HAI.out.2.2).mono ?_
    rintro e wn ⟨rfl, hSn⟩
    have HT := Lib.hid (HTi.out.trans (StepX.of hSn))
    clear HTi
    rw [show timesV (addV p (fullV F s)) (-1) = needV F p s from rfl]
    refine hK _ _ (StepX.of hSn) ?_
    clear hSn
    (try simp only [Act.put, List.setIfInBounds_toArray, List.set_cons_zero, List.set_cons_succ])
    obtain ⟨nv, hnv⟩ : ∃ nv, nv = needV F p s := ⟨_, rfl⟩
    rw [← hnv]
    have HNV := Lib.hid hnv
    have HNI := Lib.hid (show inV 20000000 nv by rw [hnv]; exact HAI.out.1)
    clear hnv HAI HSF HSV
    refine run_alloc rfl rfl (fun W5 g hW5 hg hgb hgN => ?_)
    (try simp only [Act.put, List.setIfInBounds_toArray, List.set_cons_zero, List.set_cons_succ])
    refine runI_end (L := [_]) rfl (fun W6 hW6 => ?_)
    have hb6 := Bx.step (w := W5) (cs := [_, _]) hg hW6
    refine wplI_store (v := .agg #[.int .i64 nv.x, .int .i64 nv.y]) rfl _ _ _ rfl rfl rfl hb6 (by kernel_rfl) (by simp [Value.cells]) (by simp [Value.cells, Value.oneCell']) [.int .i64 nv.x, .int .i64 nv.y] rfl (fun w7 hb7 hw7 => ?_)
    have hS7 := Step.wrote ((HT.out.trans hW5).trans hW6) hw7 hgb
    have hgg : ¬ (g = w.heap.size + 2 ∨ g = w.heap.size + 3) := by have := HZ.out; have := HSW.out; omega
    have hmm : ¬ (w.heap.size = w.heap.size + 2 ∨ w.heap.size = w.heap.size + 3) := by omega
    have HNG := Lib.hid (And.intro hgg hmm)
    have HB7 := Lib.hid hb7
    have HM7 := Lib.hid (HBMW.out.step hS7)
    have HST7 := Lib.hid (HSTW.out.step hS7)
    have HMVX := Lib.hid (show ∀ W1, StepX (fun j => j = w.heap.size + 2 ∨ j = w.heap.size + 3) w7 W1 → MV W1 (.agg #[.int .i64 area, .int .i64 b, .slice p2 n2 k2, .slice p3 F.length k3]) area F from fun W1 h1 => ⟨b, p2, n2, k2, p3, k3, rfl, ((HSLW.out.keep (.of_step hS7)).keep (h1.keeps.mono (T := fun j => w.heap.size ≤ j) fun j _ hj => by omega)).weak (fun _ _ h => h.elim)⟩)
    have HFIN := Lib.hid (show ∀ W1, StepX (fun j => j = w.heap.size + 2 ∨ j = w.heap.size + 3) w7 W1 → KeepsFrom w2.heap.size W W1 ∧ StepX (fun j => j = w.heap.size + 2 ∨ j = w.heap.size + 3 ∨ w2.heap.size ≤ j) W W1 from fun W1 h1 =>
      have hx := (StepX.of (X := fun j => j = w.heap.size + 2 ∨ j = w.heap.size + 3) hS7).trans h1
      ⟨keepsFrom_x hx (fun j hj => by have := HZ.out; omega), hx.mono fun j _ hj => by rcases hj with h | h <;> simp [h]⟩)
    have HX0 := Lib.hid (StepX.refl (fun j => j = w.heap.size + 2 ∨ j = w.heap.size + 3) w7)
    clear hb6 hb7 hw7 hS7 hgg hmm hg hgb hgN hW5 hW6 HT
    obtain ⟨nx, ny⟩ := nv
    dsimp only
    have HOLD := Lib.hid (show Old W0 (w.heap.size + 2) ∧ Old W0 (w.heap.size + 3) by unfold Old; have := HZ.out; omega)
    have hne32 : ¬ w.heap.size + 3 = w.heap.size + 2 := by omega
    have HNE := Lib.hid hne32
    clear hne32
    have n0 := HB7.out.cell 0
    have n1 := HB7.out.cell 1
    simp only [List.getElem?_cons_zero, List.getElem?_cons_succ] at n0 n1
    by_cases hx : nx = 0
    · by_cases hy : ny = 0
      · have HN0 := Lib.hid (show stepS F p (bb, false) s = (parts0 F.length s 1, true) by unfold stepS; rw [if_neg (by simp), if_pos (by rw [← HNV.out, hx, hy])])
        obtain ⟨m0, m1, m2, m3⟩ := cells4 HM7.out
        gi_wp2_with fail
        refine (callsIn_FW (parts_any F area s 1 (-1) 0 (-1) 0 _ _ (HMVX.out _ HX0.out) HN.out hs256 ⟨by omega, by omega⟩ ⟨by omega, by omega⟩ (fun h => absurd h (by decide)))).mono ?_
        rintro e w3 ⟨vb, rfl, hvb, hS3⟩
        rw [setI_no, setI_no] at hvb
        obtain ⟨PL, hPL⟩ : ∃ L, L = setP F.length s 1 := ⟨_, rfl⟩
        rw [← hPL] at hvb
        have HPL := Lib.hid hPL
        clear hPL hx hy n0 n1 m0 m1 m2 m3
        have HXC := Lib.hid HX0.out
        have HX3 := Lib.hid (HX0.out.trans (.of hS3))
        have HST3 := Lib.hid (HST7.out.step hS3)
        obtain ⟨c1, rfl, hcl⟩ := hvb.bal
        obtain ⟨pb, kb, rfl⟩ := hcl.form
        obtain ⟨pv0, cv0, hbb, hbi, _⟩ := HST3.out
        have HLL := Lib.hid (show SLT (Old W0) (w3) (.slice pb (PL).length kb) (PL) from hcl.weak fun j _ hj => by unfold Old at *; have := HZ.out; have := HSW.out; have := (HFIN.out _ HXC.out).2.size; omega)
        have HBB := Lib.hid hbb
        have HBI := Lib.hid hbi
        have z0 := hbb.frozen 0
        have z1 := hbb.frozen 1
        have z2 := hbi.frozen 0
        have y0 := hbb.cell 0
        have y1 := hbb.cell 1
        have x0 := hbi.cell 0
        have yl := hbb.lt
        have xl := hbi.lt
        simp only [List.getElem?_cons_zero, List.getElem?_cons_succ] at y0 y1 x0
        clear hbb hbi hcl hvb
        gi_wp2
        have hput := St.put (q := true) (b := ⟨1, PL⟩) HNE.out HOLD.out.1 HOLD.out.2 HBB.out HBI.out HLL.out
        have HPUT := Lib.hid (And.intro hput.1 (HX3.out.trans hput.2))
        clear hput z0 z1 z2 y0 y1 x0 yl xl
        have hfin := HFIN.out _ HPUT.out.2
        exact ⟨hfin.1, rfl, _, by rw [setsOf_snoc, foundL_snoc, HFD.out, HN0.out, HPL.out]; rfl, HPUT.out.1, HX.out.trans hfin.2⟩
      · have HN0 := Lib.hid (show stepS F p (bb, false) s = (List.range F.length).foldl (stepA F ⟨nx, ny⟩ s) (bb, false) by unfold stepS; rw [if_neg (by simp), ← HNV.out, if_neg (by intro h; injection h; exact hy (by assumption))])
        have m3 := HM7.out.cell 3
        simp only [List.getElem?_cons_zero, List.getElem?_cons_succ] at m3
        gi_wp2_with fail
        clear hx hy n0 n1 m3
        gi_loopw [31] (fun i wr => ∃ a : Nat, a ≤ F.length ∧ i = .int .i64 a ∧ (∃ b', (List.range a).foldl (stepA F ⟨nx, ny⟩ s) (bb, false) = (b', false) ∧ St W0 (w.heap.size + 2) (w.heap.size + 3) b' false wr) ∧ StepX (fun j => j = w.heap.size + 2 ∨ j = w.heap.size + 3) w7 wr) (fun i _ => F.length - (intOf i).toNat)
        case atStart => exact ⟨0, Nat.zero_le _, rfl, ⟨bb, rfl, HST7.out⟩, HX0.out⟩
        case round =>
          obtain ⟨a, ha, rfl, ⟨b0, hfa, hsta⟩, hXa⟩ := hrel
          have HFA := Lib.hid hfa
          have HSTA := Lib.hid hsta
          have HXA := Lib.hid hXa
          clear hfa hsta hXa
          by_cases hlt : a < F.length
          · have hbit := bit_eq (k := a) hs256
            have hk0 : (0 : Int) ≤ (a : Int) := by omega
            have hk64 : (a : Int) ≤ 64 := by have := HN.out; omega
            cases hq : bitB s a with
            | true =>
              rw [hq, if_pos rfl] at hbit
              have HQA := Lib.hid (show stepA F ⟨nx, ny⟩ s (b0, false) a = (b0, false) by unfold stepA; rw [if_neg (by simp), if_pos hq])
              clear hq
              gi_wp2
              go_roundw
              case rel => exact ⟨a + 1, by omega, by go_num, ⟨b0, fold_next HFA.out HQA.out, HSTA.out⟩, HXA.out⟩
              case measure => simp [intOf]; omega
            | false =>
              rw [hq, if_neg (by decide)] at hbit
              have HBA := Lib.hid hq
              clear hq
              obtain ⟨m0, m1, m2, m3⟩ := cells4 (HM7.out.keep HXA.out.keeps HNG.out.2)
              have n0 := (HB7.out.keep HXA.out.keeps HNG.out.1).cell 0
              have n1 := (HB7.out.keep HXA.out.keeps HNG.out.1).cell 1
              simp only [List.getElem?_cons_zero, List.getElem?_cons_succ] at n0 n1
              gi_wp2_with fail
              refine (callsIn_FW (alone_any F area ⟨nx, ny⟩ s a _ _ (HMVX.out _ HXA.out) HF.out HN.out hs256 hlt HNI.out)).mono ?_
              rintro e w3 ⟨vb, rfl, hvb, hS3⟩
              have HXC := Lib.hid HXA.out
              have HX3 := Lib.hid (HXA.out.trans (.of hS3))
              have HST3 := Lib.hid (HSTA.out.step hS3)
              obtain ⟨AL, hAL⟩ : ∃ L, L = aloneL F ⟨nx, ny⟩ s a := ⟨_, rfl⟩
              rw [← hAL] at hvb ⊢
              have HAL := Lib.hid hAL
              clear hAL hbit m0 m1 m2 m3 n0 n1 hS3 hk0 hk64
              obtain ⟨⟨wh, pl⟩, q⟩ := AL
              dsimp only at hvb ⊢
              cases q with
              | true =>
                have HQA := Lib.hid (show stepA F ⟨nx, ny⟩ s (b0, false) a = (⟨wh, pl⟩, true) by unfold stepA; rw [if_neg (by simp), if_neg (by rw [HBA.out]; decide), ← HAL.out, if_pos rfl])
                obtain ⟨c1, rfl, hcl⟩ := hvb.bal
                obtain ⟨pb, kb, rfl⟩ := hcl.form
                obtain ⟨pv0, cv0, hbb, hbi, _⟩ := HST3.out
                have HLL := Lib.hid (show SLT (Old W0) (w3) (.slice pb (pl).length kb) (pl) from hcl.weak fun j _ hj => by unfold Old at *; have := HZ.out; have := HSW.out; have := (HFIN.out _ HXC.out).2.size; omega)
                have HBB := Lib.hid hbb
                have HBI := Lib.hid hbi
                have z0 := hbb.frozen 0
                have z1 := hbb.frozen 1
                have z2 := hbi.frozen 0
                have y0 := hbb.cell 0
                have y1 := hbb.cell 1
                have x0 := hbi.cell 0
                have yl := hbb.lt
                have xl := hbi.lt
                simp only [List.getElem?_cons_zero, List.getElem?_cons_succ] at y0 y1 x0
                clear hbb hbi hcl hvb
                gi_wp2
                have hput := St.put (q := true) (b := ⟨wh, pl⟩) HNE.out HOLD.out.1 HOLD.out.2 HBB.out HBI.out HLL.out
                have HPUT := Lib.hid (And.intro hput.1 (HX3.out.trans hput.2))
                clear hput z0 z1 z2 y0 y1 x0 yl xl
                have hfin := HFIN.out _ HPUT.out.2
                exact ⟨hfin.1, rfl, _, by rw [setsOf_snoc, foundL_snoc, HFD.out, HN0.out]; exact fold_hit (stepA_stay F ⟨nx, ny⟩ s) hlt HFA.out HQA.out rfl, HPUT.out.1, HX.out.trans hfin.2⟩
              | false =>
                have HQA := Lib.hid (show stepA F ⟨nx, ny⟩ s (b0, false) a = (List.range a).foldl (stepB F ⟨nx, ny⟩ s a) (⟨wh, pl⟩, false) by unfold stepA; rw [if_neg (by simp), if_neg (by rw [HBA.out]; decide), ← HAL.out, if_neg (by simp)])
                obtain ⟨c1, rfl, hcl⟩ := hvb.bal
                obtain ⟨pb, kb, rfl⟩ := hcl.form
                obtain ⟨pv0, cv0, hbb, hbi, _⟩ := HST3.out
                have HLL := Lib.hid (show SLT (Old W0) (w3) (.slice pb (pl).length kb) (pl) from hcl.weak fun j _ hj => by unfold Old at *; have := HZ.out; have := HSW.out; have := (HFIN.out _ HXC.out).2.size; omega)
                have HBB := Lib.hid hbb
                have HBI := Lib.hid hbi
                have z0 := hbb.frozen 0
                have z1 := hbb.frozen 1
                have z2 := hbi.frozen 0
                have y0 := hbb.cell 0
                have y1 := hbb.cell 1
                have x0 := hbi.cell 0
                have yl := hbb.lt
                have xl := hbi.lt
                simp only [List.getElem?_cons_zero, List.getElem?_cons_succ] at y0 y1 x0
                clear hbb hbi hcl hvb
                gi_wp2
                have hput := St.put (q := false) (b := ⟨wh, pl⟩) HNE.out HOLD.out.1 HOLD.out.2 HBB.out HBI.out HLL.out
                have HPUT := Lib.hid (And.intro hput.1 (HX3.out.trans hput.2))
                clear hput z0 z1 z2 y0 y1 x0 yl xl
                obtain ⟨wo, hwo⟩ : ∃ W', W' = wr := ⟨_, rfl⟩
                subst hwo
                clear HST3 HX3 HXC HLL HBB HBI HSTA HXA
                gi_loopw [49] (fun i wr => ∃ c : Nat, c ≤ a ∧ i = .int .i64 c ∧ (∃ b', (List.range c).foldl (stepB F ⟨nx, ny⟩ s a) (⟨wh, pl⟩, false) = (b', false) ∧ St W0 (w.heap.size + 2) (w.heap.size + 3) b' false wr) ∧ StepX (fun j => j = w.heap.size + 2 ∨ j = w.heap.size + 3) w7 wr) (fun i _ => a - (intOf i).toNat)
                case atStart => exact ⟨0, Nat.zero_le _, rfl, ⟨_, rfl, HPUT.out.1⟩, HPUT.out.2⟩
                case round =>
                  obtain ⟨c, hc, rfl, ⟨b1, hfb, hstb⟩, hXb⟩ := hrel
                  have HFB := Lib.hid hfb
                  have HSTB := Lib.hid hstb
                  have HXB := Lib.hid hXb
                  clear hfb hstb hXb HPUT
                  by_cases hltc : c < a
                  · have hbit := bit_eq (k := c) hs256
                    have hk0 : (0 : Int) ≤ (c : Int) := by omega
                    have hk64 : (c : Int) ≤ 64 := by have := HN.out; omega
                    cases hq : bitB s c with
                    | true =>
                      rw [hq, if_pos rfl] at hbit
                      have HQB := Lib.hid (show stepB F ⟨nx, ny⟩ s a (b1, false) c = (b1, false) by unfold stepB; rw [if_neg (by simp), if_pos hq])
                      clear hq
                      gi_wp2
                      go_roundw
                      case rel => exact ⟨c + 1, by omega, by go_num, ⟨b1, fold_next HFB.out HQB.out, HSTB.out⟩, HXB.out⟩
                      case measure => simp [intOf]; omega
                    | false =>
                      rw [hq, if_neg (by decide)] at hbit
                      have HQB := Lib.hid (show stepB F ⟨nx, ny⟩ s a (b1, false) c = bothL F ⟨nx, ny⟩ s a c by unfold stepB; rw [if_neg (by simp), if_neg (by rw [hq]; decide)])
                      clear hq
                      obtain ⟨m0, m1, m2, m3⟩ := cells4 (HM7.out.keep HXB.out.keeps HNG.out.2)
                      have n0 := (HB7.out.keep HXB.out.keeps HNG.out.1).cell 0
                      have n1 := (HB7.out.keep HXB.out.keeps HNG.out.1).cell 1
                      simp only [List.getElem?_cons_zero, List.getElem?_cons_succ] at n0 n1
                      gi_wp2_with fail
                      refine (callsIn_FW (both_any F area ⟨nx, ny⟩ s a c _ _ (HMVX.out _ HXB.out) HF.out HN.out hs256 hlt hltc HNI.out)).mono ?_
                      rintro e w3 ⟨vb, rfl, hvb, hS3⟩
                      have HXC := Lib.hid HXB.out
                      have HX3 := Lib.hid (HXB.out.trans (.of hS3))
                      have HST3 := Lib.hid (HSTB.out.step hS3)
                      obtain ⟨BL, hBL⟩ : ∃ L, L = bothL F ⟨nx, ny⟩ s a c := ⟨_, rfl⟩
                      rw [← hBL] at hvb ⊢
                      have HBL := Lib.hid hBL
                      clear hBL hbit m0 m1 m2 m3 n0 n1 hS3 hk0 hk64
                      obtain ⟨⟨wh2, pl2⟩, q⟩ := BL
                      dsimp only at hvb ⊢
                      cases q with
                      | true =>
                        have HQC := Lib.hid (HQA.out.trans (fold_hit (stepB_stay F ⟨nx, ny⟩ s a) hltc HFB.out (HQB.out.trans HBL.out.symm) rfl))
                        obtain ⟨c1, rfl, hcl⟩ := hvb.bal
                        obtain ⟨pb, kb, rfl⟩ := hcl.form
                        obtain ⟨pv0, cv0, hbb, hbi, _⟩ := HST3.out
                        have HLL := Lib.hid (show SLT (Old W0) (w3) (.slice pb (pl2).length kb) (pl2) from hcl.weak fun j _ hj => by unfold Old at *; have := HZ.out; have := HSW.out; have := (HFIN.out _ HXC.out).2.size; omega)
                        have HBB := Lib.hid hbb
                        have HBI := Lib.hid hbi
                        have z0 := hbb.frozen 0
                        have z1 := hbb.frozen 1
                        have z2 := hbi.frozen 0
                        have y0 := hbb.cell 0
                        have y1 := hbb.cell 1
                        have x0 := hbi.cell 0
                        have yl := hbb.lt
                        have xl := hbi.lt
                        simp only [List.getElem?_cons_zero, List.getElem?_cons_succ] at y0 y1 x0
                        clear hbb hbi hcl hvb
                        gi_wp2
                        have hput := St.put (q := true) (b := ⟨wh2, pl2⟩) HNE.out HOLD.out.1 HOLD.out.2 HBB.out HBI.out HLL.out
                        have HPUT := Lib.hid (And.intro hput.1 (HX3.out.trans hput.2))
                        clear hput z0 z1 z2 y0 y1 x0 yl xl
                        have hfin := HFIN.out _ HPUT.out.2
                        exact ⟨hfin.1, rfl, _, by rw [setsOf_snoc, foundL_snoc, HFD.out, HN0.out]; exact fold_hit (stepA_stay F ⟨nx, ny⟩ s) hlt HFA.out HQC.out rfl, HPUT.out.1, HX.out.trans hfin.2⟩
                      | false =>
                        obtain ⟨c1, rfl, hcl⟩ := hvb.bal
                        obtain ⟨pb, kb, rfl⟩ := hcl.form
                        obtain ⟨pv0, cv0, hbb, hbi, _⟩ := HST3.out
                        have HLL := Lib.hid (show SLT (Old W0) (w3) (.slice pb (pl2).length kb) (pl2) from hcl.weak fun j _ hj => by unfold Old at *; have := HZ.out; have := HSW.out; have := (HFIN.out _ HXC.out).2.size; omega)
                        have HBB := Lib.hid hbb
                        have HBI := Lib.hid hbi
                        have z0 := hbb.frozen 0
                        have z1 := hbb.frozen 1
                        have z2 := hbi.frozen 0
                        have y0 := hbb.cell 0
                        have y1 := hbb.cell 1
                        have x0 := hbi.cell 0
                        have yl := hbb.lt
                        have xl := hbi.lt
                        simp only [List.getElem?_cons_zero, List.getElem?_cons_succ] at y0 y1 x0
                        clear hbb hbi hcl hvb
                        gi_wp2
                        have hput := St.put (q := false) (b := ⟨wh2, pl2⟩) HNE.out HOLD.out.1 HOLD.out.2 HBB.out HBI.out HLL.out
                        have HPUT := Lib.hid (And.intro hput.1 (HX3.out.trans hput.2))
                        clear hput z0 z1 z2 y0 y1 x0 yl xl
                        go_roundw
                        case rel => exact ⟨c + 1, by omega, by go_num, ⟨_, fold_next HFB.out (HQB.out.trans HBL.out.symm), HPUT.out.1⟩, HPUT.out.2⟩
                        case measure => simp [intOf]; omega
                  · have hca : c = a := by omega
                    have HQC := Lib.hid (show stepA F ⟨nx, ny⟩ s (b0, false) a = (b1, false) by rw [HQA.out, show List.range a = List.range c by rw [hca]]; exact HFB.out)
                    clear hca
                    gi_wp2
                    go_roundw
                    case rel => exact ⟨a + 1, by omega, by go_num, ⟨b1, fold_next HFA.out HQC.out, HSTB.out⟩, HXB.out⟩
                    case measure => simp [intOf]; omega
          · have haF : a = F.length := by omega
            have hfin := Lib.hid (HFIN.out _ HXA.out)
            have HQS := Lib.hid (show foundL F p (setsOf (pre ++ [⟨s, hs⟩])) = (b0, false) by rw [setsOf_snoc, foundL_snoc, HFD.out, HN0.out, ← haF]; exact HFA.out)
            clear haF
            gi_wp2
            exact ⟨hfin.out.1, hfin.out.2, b0, HQS.out, HSTA.out, HX.out.trans hfin.out.2⟩
    · have HN0 := Lib.hid (show stepS F p (bb, false) s = (List.range F.length).foldl (stepA F ⟨nx, ny⟩ s) (bb, false) by unfold stepS; rw [if_neg (by simp), ← HNV.out, if_neg (by intro h; injection h; exact hx (by assumption))])
      have m3 := HM7.out.cell 3
      simp only [List.getElem?_cons_zero, List.getElem?_cons_succ] at m3
      gi_wp2_with fail
      clear hx n0 n1 m3
      gi_loopw [31] (fun i wr => ∃ a : Nat, a ≤ F.length ∧ i = .int .i64 a ∧ (∃ b', (List.range a).foldl (stepA F ⟨nx, ny⟩ s) (bb, false) = (b', false) ∧ St W0 (w.heap.size + 2) (w.heap.size + 3) b' false wr) ∧ StepX (fun j => j = w.heap.size + 2 ∨ j = w.heap.size + 3) w7 wr) (fun i _ => F.length - (intOf i).toNat)
      case atStart => exact ⟨0, Nat.zero_le _, rfl, ⟨bb, rfl, HST7.out⟩, HX0.out⟩
      case round =>
        obtain ⟨a, ha, rfl, ⟨b0, hfa, hsta⟩, hXa⟩ := hrel
        have HFA := Lib.hid hfa
        have HSTA := Lib.hid hsta
        have HXA := Lib.hid hXa
        clear hfa hsta hXa
        by_cases hlt : a < F.length
        · have hbit := bit_eq (k := a) hs256
          have hk0 : (0 : Int) ≤ (a : Int) := by omega
          have hk64 : (a : Int) ≤ 64 := by have := HN.out; omega
          cases hq : bitB s a with
          | true =>
            rw [hq, if_pos rfl] at hbit
            have HQA := Lib.hid (show stepA F ⟨nx, ny⟩ s (b0, false) a = (b0, false) by unfold stepA; rw [if_neg (by simp), if_pos hq])
            clear hq
            gi_wp2
            go_roundw
            case rel => exact ⟨a + 1, by omega, by go_num, ⟨b0, fold_next HFA.out HQA.out, HSTA.out⟩, HXA.out⟩
            case measure => simp [intOf]; omega
          | false =>
            rw [hq, if_neg (by decide)] at hbit
            have HBA := Lib.hid hq
            clear hq
            obtain ⟨m0, m1, m2, m3⟩ := cells4 (HM7.out.keep HXA.out.keeps HNG.out.2)
            have n0 := (HB7.out.keep HXA.out.keeps HNG.out.1).cell 0
            have n1 := (HB7.out.keep HXA.out.keeps HNG.out.1).cell 1
            simp only [List.getElem?_cons_zero, List.getElem?_cons_succ] at n0 n1
            gi_wp2_with fail
            refine (callsIn_FW (alone_any F area ⟨nx, ny⟩ s a _ _ (HMVX.out _ HXA.out) HF.out HN.out hs256 hlt HNI.out)).mono ?_
            rintro e w3 ⟨vb, rfl, hvb, hS3⟩
            have HXC := Lib.hid HXA.out
            have HX3 := Lib.hid (HXA.out.trans (.of hS3))
            have HST3 := Lib.hid (HSTA.out.step hS3)
            obtain ⟨AL, hAL⟩ : ∃ L, L = aloneL F ⟨nx, ny⟩ s a := ⟨_, rfl⟩
            rw [← hAL] at hvb ⊢
            have HAL := Lib.hid hAL
            clear hAL hbit m0 m1 m2 m3 n0 n1 hS3 hk0 hk64
            obtain ⟨⟨wh, pl⟩, q⟩ := AL
            dsimp only at hvb ⊢
            cases q with
            | true =>
              have HQA := Lib.hid (show stepA F ⟨nx, ny⟩ s (b0, false) a = (⟨wh, pl⟩, true) by unfold stepA; rw [if_neg (by simp), if_neg (by rw [HBA.out]; decide), ← HAL.out, if_pos rfl])
              obtain ⟨c1, rfl, hcl⟩ := hvb.bal
              obtain ⟨pb, kb, rfl⟩ := hcl.form
              obtain ⟨pv0, cv0, hbb, hbi, _⟩ := HST3.out
              have HLL := Lib.hid (show SLT (Old W0) (w3) (.slice pb (pl).length kb) (pl) from hcl.weak fun j _ hj => by unfold Old at *; have := HZ.out; have := HSW.out; have := (HFIN.out _ HXC.out).2.size; omega)
              have HBB := Lib.hid hbb
              have HBI := Lib.hid hbi
              have z0 := hbb.frozen 0
              have z1 := hbb.frozen 1
              have z2 := hbi.frozen 0
              have y0 := hbb.cell 0
              have y1 := hbb.cell 1
              have x0 := hbi.cell 0
              have yl := hbb.lt
              have xl := hbi.lt
              simp only [List.getElem?_cons_zero, List.getElem?_cons_succ] at y0 y1 x0
              clear hbb hbi hcl hvb
              gi_wp2
              have hput := St.put (q := true) (b := ⟨wh, pl⟩) HNE.out HOLD.out.1 HOLD.out.2 HBB.out HBI.out HLL.out
              have HPUT := Lib.hid (And.intro hput.1 (HX3.out.trans hput.2))
              clear hput z0 z1 z2 y0 y1 x0 yl xl
              have hfin := HFIN.out _ HPUT.out.2
              exact ⟨hfin.1, rfl, _, by rw [setsOf_snoc, foundL_snoc, HFD.out, HN0.out]; exact fold_hit (stepA_stay F ⟨nx, ny⟩ s) hlt HFA.out HQA.out rfl, HPUT.out.1, HX.out.trans hfin.2⟩
            | false =>
              have HQA := Lib.hid (show stepA F ⟨nx, ny⟩ s (b0, false) a = (List.range a).foldl (stepB F ⟨nx, ny⟩ s a) (⟨wh, pl⟩, false) by unfold stepA; rw [if_neg (by simp), if_neg (by rw [HBA.out]; decide), ← HAL.out, if_neg (by simp)])
              obtain ⟨c1, rfl, hcl⟩ := hvb.bal
              obtain ⟨pb, kb, rfl⟩ := hcl.form
              obtain ⟨pv0, cv0, hbb, hbi, _⟩ := HST3.out
              have HLL := Lib.hid (show SLT (Old W0) (w3) (.slice pb (pl).length kb) (pl) from hcl.weak fun j _ hj => by unfold Old at *; have := HZ.out; have := HSW.out; have := (HFIN.out _ HXC.out).2.size; omega)
              have HBB := Lib.hid hbb
              have HBI := Lib.hid hbi
              have z0 := hbb.frozen 0
              have z1 := hbb.frozen 1
              have z2 := hbi.frozen 0
              have y0 := hbb.cell 0
              have y1 := hbb.cell 1
              have x0 := hbi.cell 0
              have yl := hbb.lt
              have xl := hbi.lt
              simp only [List.getElem?_cons_zero, List.getElem?_cons_succ] at y0 y1 x0
              clear hbb hbi hcl hvb
              gi_wp2
              have hput := St.put (q := false) (b := ⟨wh, pl⟩) HNE.out HOLD.out.1 HOLD.out.2 HBB.out HBI.out HLL.out
              have HPUT := Lib.hid (And.intro hput.1 (HX3.out.trans hput.2))
              clear hput z0 z1 z2 y0 y1 x0 yl xl
              obtain ⟨wo, hwo⟩ : ∃ W', W' = wr := ⟨_, rfl⟩
              subst hwo
              clear HST3 HX3 HXC HLL HBB HBI HSTA HXA
              gi_loopw [49] (fun i wr => ∃ c : Nat, c ≤ a ∧ i = .int .i64 c ∧ (∃ b', (List.range c).foldl (stepB F ⟨nx, ny⟩ s a) (⟨wh, pl⟩, false) = (b', false) ∧ St W0 (w.heap.size + 2) (w.heap.size + 3) b' false wr) ∧ StepX (fun j => j = w.heap.size + 2 ∨ j = w.heap.size + 3) w7 wr) (fun i _ => a - (intOf i).toNat)
              case atStart => exact ⟨0, Nat.zero_le _, rfl, ⟨_, rfl, HPUT.out.1⟩, HPUT.out.2⟩
              case round =>
                obtain ⟨c, hc, rfl, ⟨b1, hfb, hstb⟩, hXb⟩ := hrel
                have HFB := Lib.hid hfb
                have HSTB := Lib.hid hstb
                have HXB := Lib.hid hXb
                clear hfb hstb hXb HPUT
                by_cases hltc : c < a
                · have hbit := bit_eq (k := c) hs256
                  have hk0 : (0 : Int) ≤ (c : Int) := by omega
                  have hk64 : (c : Int) ≤ 64 := by have := HN.out; omega
                  cases hq : bitB s c with
                  | true =>
                    rw [hq, if_pos rfl] at hbit
                    have HQB := Lib.hid (show stepB F ⟨nx, ny⟩ s a (b1, false) c = (b1, false) by unfold stepB; rw [if_neg (by simp), if_pos hq])
                    clear hq
                    gi_wp2
                    go_roundw
                    case rel => exact ⟨c + 1, by omega, by go_num, ⟨b1, fold_next HFB.out HQB.out, HSTB.out⟩, HXB.out⟩
                    case measure => simp [intOf]; omega
                  | false =>
                    rw [hq, if_neg (by decide)] at hbit
                    have HQB := Lib.hid (show stepB F ⟨nx, ny⟩ s a (b1, false) c = bothL F ⟨nx, ny⟩ s a c by unfold stepB; rw [if_neg (by simp), if_neg (by rw [hq]; decide)])
                    clear hq
                    obtain ⟨m0, m1, m2, m3⟩ := cells4 (HM7.out.keep HXB.out.keeps HNG.out.2)
                    have n0 := (HB7.out.keep HXB.out.keeps HNG.out.1).cell 0
                    have n1 := (HB7.out.keep HXB.out.keeps HNG.out.1).cell 1
                    simp only [List.getElem?_cons_zero, List.getElem?_cons_succ] at n0 n1
                    gi_wp2_with fail
                    refine (callsIn_FW (both_any F area ⟨nx, ny⟩ s a c _ _ (HMVX.out _ HXB.out) HF.out HN.out hs256 hlt hltc HNI.out)).mono ?_
                    rintro e w3 ⟨vb, rfl, hvb, hS3⟩
                    have HXC := Lib.hid HXB.out
                    have HX3 := Lib.hid (HXB.out.trans (.of hS3))
                    have HST3 := Lib.hid (HSTB.out.step hS3)
                    obtain ⟨BL, hBL⟩ : ∃ L, L = bothL F ⟨nx, ny⟩ s a c := ⟨_, rfl⟩
                    rw [← hBL] at hvb ⊢
                    have HBL := Lib.hid hBL
                    clear hBL hbit m0 m1 m2 m3 n0 n1 hS3 hk0 hk64
                    obtain ⟨⟨wh2, pl2⟩, q⟩ := BL
                    dsimp only at hvb ⊢
                    cases q with
                    | true =>
                      have HQC := Lib.hid (HQA.out.trans (fold_hit (stepB_stay F ⟨nx, ny⟩ s a) hltc HFB.out (HQB.out.trans HBL.out.symm) rfl))
                      obtain ⟨c1, rfl, hcl⟩ := hvb.bal
                      obtain ⟨pb, kb, rfl⟩ := hcl.form
                      obtain ⟨pv0, cv0, hbb, hbi, _⟩ := HST3.out
                      have HLL := Lib.hid (show SLT (Old W0) (w3) (.slice pb (pl2).length kb) (pl2) from hcl.weak fun j _ hj => by unfold Old at *; have := HZ.out; have := HSW.out; have := (HFIN.out _ HXC.out).2.size; omega)
                      have HBB := Lib.hid hbb
                      have HBI := Lib.hid hbi
                      have z0 := hbb.frozen 0
                      have z1 := hbb.frozen 1
                      have z2 := hbi.frozen 0
                      have y0 := hbb.cell 0
                      have y1 := hbb.cell 1
                      have x0 := hbi.cell 0
                      have yl := hbb.lt
                      have xl := hbi.lt
                      simp only [List.getElem?_cons_zero, List.getElem?_cons_succ] at y0 y1 x0
                      clear hbb hbi hcl hvb
                      gi_wp2
                      have hput := St.put (q := true) (b := ⟨wh2, pl2⟩) HNE.out HOLD.out.1 HOLD.out.2 HBB.out HBI.out HLL.out
                      have HPUT := Lib.hid (And.intro hput.1 (HX3.out.trans hput.2))
                      clear hput z0 z1 z2 y0 y1 x0 yl xl
                      have hfin := HFIN.out _ HPUT.out.2
                      exact ⟨hfin.1, rfl, _, by rw [setsOf_snoc, foundL_snoc, HFD.out, HN0.out]; exact fold_hit (stepA_stay F ⟨nx, ny⟩ s) hlt HFA.out HQC.out rfl, HPUT.out.1, HX.out.trans hfin.2⟩
                    | false =>
                      obtain ⟨c1, rfl, hcl⟩ := hvb.bal
                      obtain ⟨pb, kb, rfl⟩ := hcl.form
                      obtain ⟨pv0, cv0, hbb, hbi, _⟩ := HST3.out
                      have HLL := Lib.hid (show SLT (Old W0) (w3) (.slice pb (pl2).length kb) (pl2) from hcl.weak fun j _ hj => by unfold Old at *; have := HZ.out; have := HSW.out; have := (HFIN.out _ HXC.out).2.size; omega)
                      have HBB := Lib.hid hbb
                      have HBI := Lib.hid hbi
                      have z0 := hbb.frozen 0
                      have z1 := hbb.frozen 1
                      have z2 := hbi.frozen 0
                      have y0 := hbb.cell 0
                      have y1 := hbb.cell 1
                      have x0 := hbi.cell 0
                      have yl := hbb.lt
                      have xl := hbi.lt
                      simp only [List.getElem?_cons_zero, List.getElem?_cons_succ] at y0 y1 x0
                      clear hbb hbi hcl hvb
                      gi_wp2
                      have hput := St.put (q := false) (b := ⟨wh2, pl2⟩) HNE.out HOLD.out.1 HOLD.out.2 HBB.out HBI.out HLL.out
                      have HPUT := Lib.hid (And.intro hput.1 (HX3.out.trans hput.2))
                      clear hput z0 z1 z2 y0 y1 x0 yl xl
                      go_roundw
                      case rel => exact ⟨c + 1, by omega, by go_num, ⟨_, fold_next HFB.out (HQB.out.trans HBL.out.symm), HPUT.out.1⟩, HPUT.out.2⟩
                      case measure => simp [intOf]; omega
                · have hca : c = a := by omega
                  have HQC := Lib.hid (show stepA F ⟨nx, ny⟩ s (b0, false) a = (b1, false) by rw [HQA.out, show List.range a = List.range c by rw [hca]]; exact HFB.out)
                  clear hca
                  gi_wp2
                  go_roundw
                  case rel => exact ⟨a + 1, by omega, by go_num, ⟨b1, fold_next HFA.out HQC.out, HSTB.out⟩, HXB.out⟩
                  case measure => simp [intOf]; omega
        · have haF : a = F.length := by omega
          have hfin := Lib.hid (HFIN.out _ HXA.out)
          have HQS := Lib.hid (show foundL F p (setsOf (pre ++ [⟨s, hs⟩])) = (b0, false) by rw [setsOf_snoc, foundL_snoc, HFD.out, HN0.out, ← haF]; exact HFA.out)
          clear haF
          gi_wp2
          exact ⟨hfin.out.1, hfin.out.2, b0, HQS.out, HSTA.out, HX.out.trans hfin.out.2⟩
end Go.Proofs.Ytdcjbbeoocldeaa
/- Walks: a balance of a push on a head. -/
namespace Go.Proofs.Ytdcjbbeoocldeaa
set_option linter.unusedSimpArgs false
set_option linter.unusedVariables false
open Go.RowKit Go.BT

def headF (l : List Tst) (t : List Head) (i : Int) : List Vec := forcesL l (headAt t i).guys
def headP (t : List Head) (i : Int) (p : Vec) : Vec := timesV p (headAt t i).area
def balC (l : List Tst) (t : List Head) (i : Int) (p : Vec) : Int := if atC l t i (cornerB p) = 0 then (if (searchL (headF l t i) (headP t i p)).2 = true then 0 else 7) else atC l t i (cornerB p)
def balR (l : List Tst) (t : List Head) (i : Int) (p : Vec) : Bal := if balC l t i p = 0 then (searchL (headF l t i) (headP t i p)).1 else noBal
set_option maxRecDepth 100000 in
set_option maxHeartbeats 8000000 in
theorem Balanced_any (S : Nat → Prop) (l : List Tst) (t : List Head) (i : Int) (p : Vec) (v u : Value) (w : World) (hv : SL S w v l) (hu : SL S w u t) :
    Calls Try.prog 17 #[v, u, .int .i64 i, .agg #[.int .i64 p.x, .int .i64 p.y]] w fun e w' => ∃ v', e = .returned (.tuple #[v', .int .i64 (balC l t i p)]) ∧ AVO (Old w) w' v' (balR l t i p) ∧ Step w w' := by
  obtain ⟨vx, vy⟩ := p
  obtain ⟨W0, hW0⟩ : ∃ W, W = (w.alloc (.cells #[.int .i64 vx, .int .i64 vy] 40)).alloc (.cells #[.int .i64 0, .slice none 0 0] 31) := ⟨_, rfl⟩
  have hb : Bx W0 w.heap.size [.int .i64 vx, .int .i64 vy] 40 := by subst hW0; exact (Bx.new w [_, _] _).alloc _
  have hbr : Bx W0 (w.heap.size + 1) [.int .i64 0, .slice none 0 0] 31 := by subst hW0; exact Bx.new' _ [_, _] _ _ (by simp)
  have hS : Step w W0 := by subst hW0; exact (by repeat (first | (with_reducible assumption) | (with_reducible exact Step.refl _) | (with_reducible apply Step.s_alloc) | (with_reducible apply Step.s_drew) | (with_reducible apply Step.s_drewN) | (with_reducible refine Step.trans ?_ (by with_reducible assumption))))
  have hz : W0.heap.size = w.heap.size + 2 := by subst hW0; simp
  have HB := Lib.hid hb
  have HBR := Lib.hid hbr
  have HV := Lib.hid hv
  have HU := Lib.hid hu
  have HS := Lib.hid hS
  have HZ := Lib.hid hz
  have HW := Lib.hid hW0
  obtain ⟨pv, cv, rfl⟩ := hv.form
  obtain ⟨pu, cu, rfl⟩ := hu.form
  clear hb hbr hS hz hW0 hv hu
  dsimp only
  go_enter Try.func17, Try.ntmps17
  go_wp2_with fail
  rw [← HW.out]
  refine (in_any ⟨vx, vy⟩ 10000 _ (by omega)).mono ?_
  rintro e w1 ⟨rfl, hS1⟩
  have hcb0 : (withinB vx (-10000) 10000 && withinB vy (-10000) 10000) = cornerB ⟨vx, vy⟩ := rfl
  dsimp only
  rw [hcb0]
  obtain ⟨cb, hcb⟩ : ∃ c, c = cornerB ⟨vx, vy⟩ := ⟨_, rfl⟩
  rw [← hcb]
  have HCB0 := Lib.hid hcb
  clear hcb hcb0
  go_wp2_with fail
  refine (at_any S l t i cb _ _ _ (HV.out.keep (.of_step (HS.out.trans hS1))) (HU.out.keep (.of_step (HS.out.trans hS1)))).mono ?_
  rintro e w2 ⟨vm, rfl, ⟨a1, a2, a3, a4, a5, a6, a7, a8, rfl⟩, hok, hS2⟩
  obtain ⟨wl, hwl⟩ : ∃ W, W = w2.alloc (.cells #[.int .i64 a1, .int .i64 a2, .slice a3 a4 a5, .slice a6 a7 a8] 117) := ⟨_, rfl⟩
  have hbm : Bx wl w2.heap.size [.int .i64 a1, .int .i64 a2, .slice a3 a4 a5, .slice a6 a7 a8] 117 := by rw [hwl]; exact Bx.new w2 [_, _, _, _] _
  have hsl2 : Step w2 wl := by rw [hwl]; exact Step.alloc _ _
  have HBM := Lib.hid hbm
  have HT := Lib.hid ((hS1.trans hS2).trans hsl2)
  have HWL := Lib.hid hwl
  have HS2 := Lib.hid hsl2
  obtain ⟨c, hc⟩ : ∃ c, c = atC l t i cb := ⟨_, rfl⟩
  rw [← hc] at hok ⊢
  have HC := Lib.hid (show atC l t i (cornerB ⟨vx, vy⟩) = c by rw [← HCB0.out, hc])
  clear hc hbm hsl2 hwl hS1 hS2
  by_cases h0 : c = 0
  rotate_left
  · have hd : (c != 0) = true := by simpa using h0
    have HQ := Lib.hid (show balC l t i ⟨vx, vy⟩ = c by unfold balC; rw [HC.out, if_neg h0])
    have HR := Lib.hid (show balR l t i ⟨vx, vy⟩ = noBal by unfold balR; rw [HQ.out, if_neg h0])
    clear hok h0
    go_upto_region 2 with (fail)
    rw [← HWL.out]
    have hcb9 := HBR.out.step HT.out
    have z0 := hcb9.frozen 0
    have z1 := hcb9.frozen 1
    have y0 := hcb9.cell 0
    have y1 := hcb9.cell 1
    simp only [List.getElem?_cons_zero, List.getElem?_cons_succ] at y0 y1
    have HCB := Lib.hid hcb9
    clear hcb9
    go_wp2
    have b2 := set2 HCB.out (.int .i64 0) (.slice none 0 0)
    have hz0 := HZ.out
    exact ret_struct2 (k := 2) rfl siBal rfl b2.1 rfl rfl ⟨_, by rw [HQ.out]; rfl, by rw [HR.out]; exact noBal_av, StepX.fresh (HS.out.trans HT.out) b2.2 (fun j hj => by omega)⟩
  subst h0
  have hmv := hok rfl
  obtain ⟨k1, k2, k3, k4, k5⟩ := atC_ok HC.out
  obtain ⟨hpa, hpb, hpn, hpg⟩ := head_parts (headAt_ok k2 k3)
  have HSM := Lib.hid (forces_small k1 hpg)
  have hfl : (forcesL l (headAt t i).guys).length ≤ 8 := by rw [forces_len]; exact hpn
  obtain ⟨F, hF⟩ : ∃ F, F = forcesL l (headAt t i).guys := ⟨_, rfl⟩
  obtain ⟨ar, har⟩ : ∃ a, a = (headAt t i).area := ⟨_, rfl⟩
  rw [← hF] at hmv HSM hfl
  rw [← har] at hmv hpa
  have HFL := Lib.hid hfl
  have HFA := Lib.hid (show headF l t i = F ∧ headP t i ⟨vx, vy⟩ = timesV ⟨vx, vy⟩ ar by unfold headF headP; rw [← hF, ← har]; exact ⟨rfl, rfl⟩)
  have hcor := k4
  clear hF har hok hpb hpn hpg k1 k2 k3 k4 k5 hfl
  have hmv0 := hmv
  obtain ⟨b, p2, n2, q2, p3, q3, hve, hsl⟩ := hmv
  simp at hve
  obtain ⟨rfl, rfl, ⟨rfl, rfl, rfl⟩, rfl, rfl, rfl⟩ := hve
  have HMV := Lib.hid (hmv0.step HS2.out)
  obtain ⟨q, hq⟩ : ∃ q, q = timesV ⟨vx, vy⟩ a1 := ⟨_, rfl⟩
  have hqi : inV 10000000 q := by rw [hq]; exact times_in (N := 1000) (corner_in hcor) hpa
  have hqf := in_fits hqi (by decide)
  have HQF := Lib.hid (show fits (a1 * vx) ∧ fits (a1 * vy) by rw [hq] at hqf; exact hqf)
  have HQ := Lib.hid (And.intro hq hqi)
  have HBl := Lib.hid (HB.out.step HT.out)
  have HBRl := Lib.hid (HBR.out.step HT.out)
  have HSl := Lib.hid (HS.out.trans HT.out)
  clear hmv0 hsl hq hqi hqf hpa hcor HT
  have HT := Lib.hid (Step.refl wl)
  go_upto_region 2 with (fail)
  rw [← HWL.out]
  go_upto_region 4 with (fail)
  have HSZ0 := Lib.hid (HT.out.size)
  refine wp_region_seqM (fun c d v a w h => by cases d <;> exact h) (kdOf [5, 6] [(10, 31, .agg #[.int .i64 0, .slice none 0 0])]) [0, 0, 0, 4, 12, 30, 63, 127, 255, 255, 0, 1535, 4095] [0, 1, 2, 3, 4, 5, 6, 7, 8, 9, 10] [11, 12] (by kernel_rfl) (by kernel_rfl) (fun i T z hi hk => by simp only [List.mem_cons, List.not_mem_nil, or_false] at hi; rcases hi with rfl | rfl | rfl | rfl | rfl | rfl | rfl | rfl | rfl | rfl | rfl <;> simp [kdOf] at hk <;> (obtain ⟨rfl, rfl⟩ := hk; first | (show Option.bind _ _ = some _; kernel_rfl) | (refine ⟨_, rfl, fun _ _ => ?_⟩; go_simp))) ?_
  intro Wx hWx
  have HTx := Lib.hid (HT.out.trans hWx)
  clear hWx HT
  have HT := HTx
  clear HTx
  obtain ⟨m0, m1, m2, m3⟩ := cells4 (HBM.out.step HT.out)
  have n0 := (HBl.out.step HT.out).cell 0
  have n1 := (HBl.out.step HT.out).cell 1
  simp only [List.getElem?_cons_zero, List.getElem?_cons_succ] at n0 n1
  repeat (first | (refine run_off rfl rfl (by rfl) ?_; (try simp only [Act.put, List.setIfInBounds_toArray, List.set_cons_zero, List.set_cons_succ])) | (refine run_chain_off rfl rfl (by rfl) (K0_mono _) ?_; (try simp only [Act.put, List.setIfInBounds_toArray, List.set_cons_zero, List.set_cons_succ])) | ((refine run_want rfl rfl (by rfl) ⟨?_, fun W hW => ?_, ?_⟩; rotate_left; (· (have d0 := hW.keeps.cell id m0; have d1 := hW.keeps.cell id m1; have d2 := hW.keeps.cell id m2; have d3 := hW.keeps.cell id m3; have d4 := hW.keeps.cell id n0; have d5 := hW.keeps.cell id n1; go_simp; (try with_reducible rfl)))); (try simp only [Act.put, List.setIfInBounds_toArray, List.set_cons_zero, List.set_cons_succ])))
  refine run_chain rfl rfl (by rfl) (fun Wi hWi K' hK => ?_)
  have HTi := Lib.hid (HT.out.trans hWi)
  have HZW := Lib.hid HTi.out.size
  clear hWi HT
  go_simp
  refine (times_any ⟨vx, vy⟩ a1 _ HQF.out.1 HQF.out.2).mono ?_
  rintro e wn ⟨rfl, hSn⟩
  have HT := Lib.hid (HTi.out.trans (StepX.of hSn))
  clear HTi
  rw [← HQ.out.1]
  refine hK _ _ (StepX.of hSn) ?_
  clear hSn
  (try simp only [Act.put, List.setIfInBounds_toArray, List.set_cons_zero, List.set_cons_succ])
  clear m0 m1 m2 m3 n0 n1
  obtain ⟨m0, m1, m2, m3⟩ := cells4 (HBM.out.step HT.out)
  repeat (first | (refine run_off rfl rfl (by rfl) ?_; (try simp only [Act.put, List.setIfInBounds_toArray, List.set_cons_zero, List.set_cons_succ])) | (refine run_chain_off rfl rfl (by rfl) (K0_mono _) ?_; (try simp only [Act.put, List.setIfInBounds_toArray, List.set_cons_zero, List.set_cons_succ])) | ((refine run_want rfl rfl (by rfl) ⟨?_, fun W hW => ?_, ?_⟩; rotate_left; (· (have d0 := hW.keeps.cell id m0; have d1 := hW.keeps.cell id m1; have d2 := hW.keeps.cell id m2; have d3 := hW.keeps.cell id m3; go_simp; (try with_reducible rfl)))); (try simp only [Act.put, List.setIfInBounds_toArray, List.set_cons_zero, List.set_cons_succ])))
  refine run_chain rfl rfl (by rfl) (fun Wi hWi K' hK => ?_)
  have HTi := Lib.hid (HT.out.trans hWi)
  clear hWi HT
  go_simp
  refine (balance_any F a1 q _ _ (HMV.out.step HTi.out) HSM.out HFL.out HQ.out.2).mono ?_
  rintro e wn ⟨vb, rfl, hvb, hSn⟩
  obtain ⟨sb, hsb⟩ : ∃ s, s = searchL F q := ⟨_, rfl⟩
  rw [← hsb] at hvb ⊢
  obtain ⟨bb, is⟩ := sb
  obtain ⟨cb, rfl, hls⟩ := hvb.bal
  obtain ⟨pb, kb, rfl⟩ := hls.form
  have HLS := Lib.hid (hls.weak (T := fun j => Old Wi j ∨ wn.heap.size ≤ j) (fun j hj hs => hs.resolve_right (by omega)))
  have HWI := Lib.hid HTi.out.size
  have HSB := Lib.hid hsb
  have HT := Lib.hid (HTi.out.trans hSn)
  refine hK _ _ (StepX.of hSn) ?_
  clear HTi hSn hK m0 m1 m2 m3 hvb hls hsb
  (try simp only [Act.put, List.setIfInBounds_toArray, List.set_cons_zero, List.set_cons_succ])
  repeat (first | (refine run_off rfl rfl (by rfl) ?_; (try simp only [Act.put, List.setIfInBounds_toArray, List.set_cons_zero, List.set_cons_succ])) | (refine run_chain_off rfl rfl (by rfl) (K0_mono _) ?_; (try simp only [Act.put, List.setIfInBounds_toArray, List.set_cons_zero, List.set_cons_succ])) | ((refine run_want rfl rfl (by rfl) ⟨?_, fun W hW => ?_, ?_⟩; rotate_left; (· (skip; go_simp; (try with_reducible rfl)))); (try simp only [Act.put, List.setIfInBounds_toArray, List.set_cons_zero, List.set_cons_succ])))
  refine run_alloc rfl rfl (fun W5 g hW5 hg hgb hgN => ?_)
  (try simp only [Act.put, List.setIfInBounds_toArray, List.set_cons_zero, List.set_cons_succ])
  refine run_end (L := [_, _]) rfl (fun W6 hW6 => ?_)
  have hb6 := Bx.step (w := W5) (cs := [_, _]) hg hW6
  refine wpl_store (v := .agg #[.int .i64 bb.whole, .slice pb bb.parts.length kb]) rfl _ _ _ rfl rfl rfl hb6 (by kernel_rfl) (by simp [Value.cells]) (by simp [Value.cells, Value.oneCell']) [.int .i64 bb.whole, .slice pb bb.parts.length kb] rfl (fun w7 hb7 hw7 => ?_)
  have hg0 := HSZ0.out
  have hgo : wl.heap.size ≤ g := by omega
  have HTx := Lib.hid (Step.wrote ((HT.out.trans hW5).trans hW6) hw7 (by omega))
  have HLSx := Lib.hid ((HLS.out.keep (.of_step (hW5.trans hW6))).keep (Keeps.wrote hw7 (show Old Wi g ∨ wn.heap.size ≤ g from hgN.2)))
  have HBG := Lib.hid hb7
  clear hW5 hg hgb hgN hW6 hb6 hb7 hw7 HT hg0 HSZ0 hgo HLS
  have HBR7 := Lib.hid (HBRl.out.step HTx.out)
  have z0 := HBR7.out.frozen 0
  have z1 := HBR7.out.frozen 1
  have y0 := HBR7.out.cell 0
  have y1 := HBR7.out.cell 1
  have x0 := HBG.out.cell 0
  have x1 := HBG.out.cell 1
  simp only [List.getElem?_cons_zero, List.getElem?_cons_succ] at y0 y1 x0 x1
  have hz0 := HZ.out
  cases is with
  | true =>
    have HQ1 := Lib.hid (show balC l t i ⟨vx, vy⟩ = 0 by unfold balC; rw [HC.out, if_pos rfl, HFA.out.1, HFA.out.2, ← HQ.out.1, ← HSB.out]; rfl)
    have HR1 := Lib.hid (show balR l t i ⟨vx, vy⟩ = bb by unfold balR; rw [HQ1.out, if_pos rfl, HFA.out.1, HFA.out.2, ← HQ.out.1, ← HSB.out])
    go_wp2
    have b2 := set2 HBR7.out (.int .i64 bb.whole) (.slice pb bb.parts.length kb)
    exact ret_struct2 (k := 2) rfl siBal rfl b2.1 rfl rfl ⟨_, by rw [HQ1.out]; rfl, by rw [HR1.out]; exact ⟨_, rfl, _, rfl, (HLSx.out.keep (b2.2.keeps.mono (T := fun j => Old Wi j ∨ wn.heap.size ≤ j) fun j _ hj => .inl (by have := HWI.out; have := HBRl.out.lt; unfold Old; omega))).weak fun j _ hj => .inl (by have := HWI.out; have := HSl.out.size; unfold Old at *; omega)⟩, StepX.fresh (HSl.out.trans HTx.out) b2.2 (fun j hj => by omega)⟩
  | false =>
    have HQ1 := Lib.hid (show balC l t i ⟨vx, vy⟩ = 7 by unfold balC; rw [HC.out, if_pos rfl, HFA.out.1, HFA.out.2, ← HQ.out.1, ← HSB.out]; rfl)
    have HR1 := Lib.hid (show balR l t i ⟨vx, vy⟩ = noBal by unfold balR; rw [HQ1.out, if_neg (by decide)])
    go_wp2
    have b2 := set2 HBR7.out (.int .i64 0) (.slice none 0 0)
    exact ret_struct2 (k := 2) rfl siBal rfl b2.1 rfl rfl ⟨_, by rw [HQ1.out]; rfl, by rw [HR1.out]; exact noBal_av, StepX.fresh (HSl.out.trans HTx.out) b2.2 (fun j hj => by omega)⟩
end Go.Proofs.Ytdcjbbeoocldeaa
