/- Walks and plain laws, part c. -/
import Derived.Test.YtoanjaidfdkdpaaGreatMa
import Derived.Test.YtoanjaidfdkdpaaGreatMb
import Derived.Test.YtoanjaidfdkdpaaGreatRows
import Derived.BigQuiet
import Derived.BigRegionIn
import Derived.Carry
import Derived.Deep.AppendLies
import Derived.Deep.DeepCutAuto
import Derived.Deep.QuietTactic
import Derived.Deep.RegionHeld3
import Derived.Deep.Upon
import Derived.Defers
import Derived.Laws.MakeOwn
import Derived.Laws.OwnMore
import Derived.Laws.Pointers
import Derived.Laws.StructEq
import Derived.Lib.Hide
import Derived.LoopIn
import Derived.LoopNIn
import Derived.OwnWalkIn
import Derived.RangeFuncBound
import Derived.RangeFuncCalls
import Derived.RangeFuncLeaves
import Derived.RangeFuncNested
import Derived.Recover
import Derived.Scope
import Derived.Shelf.Abstract
import Derived.Shelf.RegionOpen
import Derived.TacticsInMore
import Derived.WalkKit
import Derived.WalkLawsBesides
import Derived.WalkMore
import Derived.WalkSmall
import Derived.WalkSpells
import Derived.WideKeyRuns
/- Walks: the ways of a head, and what its guys have against one. -/
namespace Go.Proofs.YtoanjaidfdkdpaaGreat
set_option linter.unusedSimpArgs false
set_option linter.unusedVariables false
open Go.RowKit Go.BT

theorem sle_vecs (S : Nat → Prop) (w : World) (m : List Vec) (hm : m.length ≤ 1000) : SLe S (w.alloc (.cells (cellsV m).toArray 70)) (.slice (some ⟨w.heap.size, 0, none⟩) m.length m.length) m := by
  refine ⟨_, m.length, w.heap.size, 0, rfl, Nat.le_refl _, by omega, fun _ => rfl, fun i hi => ⟨[.int .i64 m[i].x, .int .i64 m[i].y], rfl, fun j u hj => ?_⟩⟩
  show (w.alloc _).cell? ⟨w.heap.size, 0 + i * 2 + j, none⟩ = some u
  rw [World.cell?_alloc_new, Nat.zero_add]
  have hd := cellsV_drop m i hi
  have : (cellsV m)[i * 2 + j]? = some u := by
    rw [← List.getElem?_drop, hd]
    match j, hj with
    | 0, hj => exact hj
    | 1, hj => exact hj
    | j + 2, hj => simp at hj
  simpa using this
def axesV : List Vec := [⟨1, 0⟩, ⟨0, 1⟩, ⟨-1, 0⟩, ⟨0, -1⟩]
def wayF (f : Vec) : List Vec := if f = ⟨0, 0⟩ then [] else [f, timesV f (-1), ⟨-f.y, f.x⟩, ⟨f.y, -f.x⟩]
def waysK (F : List Vec) (k : Nat) : List Vec := axesV ++ (F.take k).flatMap wayF
theorem waysK_all (F : List Vec) : waysK F F.length = waysP F := by unfold waysK waysP; rw [List.take_length]; rfl
theorem waysK_step {F : List Vec} {k : Nat} (hk : k < F.length) : waysK F (k + 1) = waysK F k ++ wayF F[k] := by
  unfold waysK
  rw [List.take_succ_eq_append_getElem hk, List.flatMap_append, List.append_assoc]
  simp
theorem wayF_len (f : Vec) : (wayF f).length ≤ 4 := by unfold wayF; split <;> simp
theorem waysK_len {F : List Vec} : ∀ {k : Nat}, k ≤ F.length → (waysK F k).length ≤ 4 + k * 4
  | 0, _ => by simp [waysK, axesV]
  | k + 1, hk => by
    rw [waysK_step (by omega), List.length_append]
    have := waysK_len (F := F) (k := k) (by omega)
    have := wayF_len (F[k]'(by omega))
    omega

set_option maxRecDepth 100000 in
set_option maxHeartbeats 8000000 in
theorem ways_any (F : List Vec) (area : Int) (v : Value) (w : World) (hv : MV w v area F) (hF : smallV F) (hn : F.length ≤ 8) :
    Calls Tryz.prog 92 #[v] w fun e w' => ∃ v', e = .returned v' ∧ SL (Old w) w' v' (waysP F) ∧ Step w w' := by
  obtain ⟨b, p2, n2, k2, p3, k3, rfl, hsl⟩ := hv
  obtain ⟨W0, hW0⟩ : ∃ W, W = (w.alloc (.cells #[.int .i64 area, .int .i64 b, .slice p2 n2 k2, .slice p3 F.length k3] 145)).alloc (.cells #[.int .i64 1, .int .i64 0, .int .i64 0, .int .i64 1, .int .i64 (-1), .int .i64 0, .int .i64 0, .int .i64 (-1)] 171) := ⟨_, rfl⟩
  have hb1 : Bx W0 w.heap.size [.int .i64 area, .int .i64 b, .slice p2 n2 k2, .slice p3 F.length k3] 145 := by subst hW0; exact (Bx.new w [_, _, _, _] _).alloc _
  have hb2 : Bx W0 (w.heap.size + 1) [.int .i64 1, .int .i64 0, .int .i64 0, .int .i64 1, .int .i64 (-1), .int .i64 0, .int .i64 0, .int .i64 (-1)] 171 := by subst hW0; exact Bx.new' _ [_, _, _, _, _, _, _, _] _ _ (by simp)
  have hS : Step w W0 := by subst hW0; exact (by repeat (first | (with_reducible assumption) | (with_reducible exact Step.refl _) | (with_reducible apply Step.s_alloc) | (with_reducible apply Step.s_drew) | (with_reducible apply Step.s_drewN) | (with_reducible refine Step.trans ?_ (by with_reducible assumption))))
  have hz : W0.heap.size = w.heap.size + 2 := by subst hW0; simp
  obtain ⟨q3, c3, b3, o3, he3, _, _, hp, hc, hbl⟩ := hsl.vecs
  injection he3 with he31 _ he33
  subst he31 he33
  have HB1 := Lib.hid hb1
  have HB2 := Lib.hid hb2
  have HS := Lib.hid hS
  have HZ := Lib.hid hz
  have HW := Lib.hid hW0
  have HF := Lib.hid hF
  have HP := Lib.hid (And.intro hp (And.intro hc hbl))
  have HL8 := Lib.hid hn
  clear hb1 hb2 hS hz hW0 hF hp hc hbl hsl
  go_enter Tryz.func92, Tryz.ntmps92
  go_wp2
  rw [← HW.out]
  go_loopw [4, 16] (fun out i wr => ∃ k : Nat, k ≤ F.length ∧ i = .int .i64 k ∧ OutW (fun _ => False) (w.heap.size + 1) wr out (waysK F k) ∧ StepX (fun j => w.heap.size + 1 ≤ j) W0 wr) (fun _ i _ => F.length - (intOf i).toNat)
  case atStart =>
    refine ⟨0, Nat.zero_le _, rfl, .inr ⟨w.heap.size + 1, Nat.le_refl _, by have := HZ.out; omega, rfl, by simp [waysK, axesV], fun j u hj => ?_⟩, StepX.refl _ _⟩
    have h8 : cellsV (waysK F 0) = [.int .i64 1, .int .i64 0, .int .i64 0, .int .i64 1, .int .i64 (-1), .int .i64 0, .int .i64 0, .int .i64 (-1)] := by simp [waysK, axesV, cellsV]
    rw [h8] at hj
    exact (HB2.out.cell j).trans hj
  case round =>
    obtain ⟨k, hk, rfl, hout, hX⟩ := hrel
    have HX := Lib.hid hX
    have HO := Lib.hid hout
    obtain ⟨LL, hLL⟩ : ∃ L, L = waysK F k := ⟨_, rfl⟩
    rw [← hLL] at hout
    obtain ⟨pu, cu, rfl⟩ := hout.form
    have HLL := Lib.hid hLL
    clear hout hX hLL
    by_cases hlt : k < F.length
    · have hbl := HP.out.2.2 (by omega)
      obtain rfl := HP.out.1 (by omega)
      obtain ⟨e1, e2⟩ := HP.out.2.1 k hlt
      have hcell : ∀ o u, w.cell? ⟨b3, o, none⟩ = some u → wr.cell? ⟨b3, o, none⟩ = some u := fun o u hu => HX.out.keeps.cell (a := ⟨b3, o, none⟩) (by show ¬ w.heap.size + 1 ≤ b3; omega) (HS.out.keeps.cell id hu)
      have e1 := hcell _ _ e1
      have e2 := hcell _ _ e2
      have hix : (0 : Int) ≤ (k : Int) ∧ (k : Int) < (F.length : Int) := by omega
      have hb : (-500000 ≤ F[k].x ∧ F[k].x ≤ 500000) ∧ -500000 ≤ F[k].y ∧ F[k].y ≤ 500000 := by have := HF.out _ (List.getElem_mem hlt); omega
      obtain ⟨g, hg⟩ : ∃ g, g = F[k] := ⟨_, rfl⟩
      rw [← hg] at e1 e2 hb
      have HG := Lib.hid hg
      clear hg hcell hbl
      obtain ⟨gx, gy⟩ := g
      dsimp only at e1 e2 hb
      by_cases hx : gx = 0
      · subst hx
        by_cases hy : gy = 0
        · subst hy
          have HN := Lib.hid (show waysK F (k + 1) = waysK F k by rw [waysK_step hlt, ← HG.out]; simp [wayF])
          go_wp2
          go_roundw
          case rel => exact ⟨k + 1, by omega, by go_num, by rw [HN.out]; exact HO.out.step (Step.alloc _ _), HX.out.trans (.of (Step.alloc _ _))⟩
          case measure => simp [intOf]; omega
        · skip
          have hwk := Lib.hid (show waysK F (k + 1) = waysK F k ++ [⟨0, gy⟩, timesV ⟨0, gy⟩ (-1), ⟨-gy, 0⟩, ⟨gy, -0⟩] by rw [waysK_step hlt, ← HG.out]; unfold wayF; rw [if_neg (by (simp; exact hy))])
          have hg1 := hb.1
          have hg2 := hb.2
          have hwy : IntKind.i64.wrap (-gy) = -gy := by rw [IntKind.wrap_i64]; omega
          have hwx : IntKind.i64.wrap (-0) = -0 := by rw [IntKind.wrap_i64]; omega
          have hf1 : fits (-1 * 0) := by unfold fits; omega
          have hf2 : fits (-1 * gy) := by unfold fits; omega
          have hl64 := waysK_len hk
          go_upto_region 7 with (fail)
          obtain ⟨wa, hwa⟩ : ∃ W, W = wr.alloc (.cells #[.int .i64 (0), .int .i64 (gy)] 70) := ⟨_, rfl⟩
          rw [← hwa]
          have hga : Bx wa wr.heap.size [.int .i64 (0), .int .i64 (gy)] 70 := by rw [hwa]; exact Bx.new wr [_, _] _
          have hsa : Step wr wa := by rw [hwa]; exact Step.alloc _ _
          have HGA := Lib.hid hga
          have HSA := Lib.hid hsa
          clear hwa hga hsa e1 e2 hb
          refine wp_region_seq (kdOf [3, 16] []) [0, 0, 0, 4, 0, 16, 48, 0, 128, 496, 0, 1024, 0, 4096, 12288, 31744, 65534, 131071, 262143] [0, 1, 2, 4, 5, 6, 7, 8, 9, 10, 11, 12, 13, 14, 15, 3, 16] [17, 18] (by kernel_rfl) (by kernel_rfl) (fun i T z hi hk => by simp [kdOf] at hk <;> (try (split at hk <;> cases hk))) ?_
          intro Wx hWx
          have HT := Lib.hid hWx
          clear hWx
          have g0 := (HGA.out.step HT.out).cell 0
          have g1 := (HGA.out.step HT.out).cell 1
          simp only [List.getElem?_cons_zero, List.getElem?_cons_succ] at g0 g1
          repeat (first | (refine run_off rfl rfl (by rfl) ?_; (try simp only [Act.put, List.setIfInBounds_toArray, List.set_cons_zero, List.set_cons_succ])) | (refine run_chain_off rfl rfl (by rfl) (K0_mono _) ?_; (try simp only [Act.put, List.setIfInBounds_toArray, List.set_cons_zero, List.set_cons_succ])) | ((refine run_want rfl rfl (by rfl) ⟨?_, fun W hW => ?_, ?_⟩; rotate_left; (· (have d0 := hW.keeps.cell id g0; have d1 := hW.keeps.cell id g1; go_simp; (try with_reducible rfl)))); (try simp only [Act.put, List.setIfInBounds_toArray, List.set_cons_zero, List.set_cons_succ])))
          refine run_chain rfl rfl (by rfl) (fun Wi hWi K' hK => ?_)
          have HTi := Lib.hid (HT.out.trans hWi)
          have HZW := Lib.hid HTi.out.size
          clear hWi HT
          go_simp
          refine (times_any ⟨0, gy⟩ (-1) _ hf1 hf2).mono ?_
          rintro e wn ⟨rfl, hSn⟩
          have HT := Lib.hid (HTi.out.trans (StepX.of hSn))
          clear HTi
          refine hK _ _ (StepX.of hSn) ?_
          clear hSn
          (try simp only [Act.put, List.setIfInBounds_toArray, List.set_cons_zero, List.set_cons_succ])
          clear g0 g1
          have g0 := (HGA.out.step HT.out).cell 0
          have g1 := (HGA.out.step HT.out).cell 1
          simp only [List.getElem?_cons_zero, List.getElem?_cons_succ] at g0 g1
          repeat (first | (refine run_off rfl rfl (by rfl) ?_; (try simp only [Act.put, List.setIfInBounds_toArray, List.set_cons_zero, List.set_cons_succ])) | (refine run_chain_off rfl rfl (by rfl) (K0_mono _) ?_; (try simp only [Act.put, List.setIfInBounds_toArray, List.set_cons_zero, List.set_cons_succ])) | ((refine run_want rfl rfl (by rfl) ⟨?_, fun W hW => ?_, ?_⟩; rotate_left; (· (have d0 := hW.keeps.cell id g0; have d1 := hW.keeps.cell id g1; go_simp; (try with_reducible rfl)))); (try simp only [Act.put, List.setIfInBounds_toArray, List.set_cons_zero, List.set_cons_succ])))
          refine run_chain rfl rfl (by rfl) (fun W1 hW1 K' hK' => ?_)
          go_simp
          refine hK' _ _ (.of (Step.alloc _ _)) ?_
          (try simp only [Act.put, List.setIfInBounds_toArray, List.set_cons_zero, List.set_cons_succ])
          refine run_end (L := [_, _]) rfl (fun W2 hW2 => ?_)
          obtain ⟨mm, hmm⟩ : ∃ m : List Vec, m = [⟨0, gy⟩, timesV ⟨0, gy⟩ (-1), ⟨-gy, 0⟩, ⟨gy, -0⟩] := ⟨_, rfl⟩
          have hml : mm.length = 4 := by rw [hmm]; rfl
          have hs1 := (HSA.out.trans HT.out).trans hW1
          have hW3 : Step (W1.alloc (.cells (cellsV mm).toArray 70)) W2 := by rw [hmm]; exact hW2
          have hu := (sle_vecs (avoid (fun _ => False) (.slice pu LL.length cu)) W1 mm (by omega)).step hW3
          have hst : Step wr W2 := (hs1.trans (Step.alloc _ (.cells (cellsV mm).toArray 70))).trans hW3
          have hov := HO.out.step hst
          rw [hml] at hu
          have hbz : w.heap.size + 1 ≤ W2.heap.size := by have := (HO.out.lt); have := HX.out.size; have := hst.size; have := HZ.out; omega
          have HML := Lib.hid hml
          have HX2 := Lib.hid (HX.out.trans (StepX.of hst))
          have hl16 := HL8.out
          have HMM := Lib.hid hmm
          clear hW1 hW2 hW3 hK' hs1 hst hml hmm
          go_wp2_with (at_builtin; refine wpl_append_ways (m := mm) rfl _ _ rfl rfl rfl hov hu (by have := HML.out; omega) (by have := HML.out; omega) hbz ?_)
          intro p' c' w3 hown hg
          have hX3 : StepX (fun j => w.heap.size + 1 ≤ j) W0 w3 := HX2.out.trans (.grown hg fun j hj _ => (HO.out.lt j hj).1)
          have hr : OutW (fun _ => False) (w.heap.size + 1) w3 (.slice p' ((waysK F k).length + mm.length) c') (waysK F (k + 1)) := by rw [hwk.out, ← HMM.out]; exact .inl hown
          have H3 := Lib.hid (And.intro hr hX3)
          clear hu hov hown hg hX3 hr hwk hbz
          go_wp2
          go_roundw
          case rel => exact ⟨k + 1, by omega, by go_num, H3.out.1, H3.out.2⟩
          case measure => simp [intOf]; omega
      · skip
        have hwk := Lib.hid (show waysK F (k + 1) = waysK F k ++ [⟨gx, gy⟩, timesV ⟨gx, gy⟩ (-1), ⟨-gy, gx⟩, ⟨gy, -gx⟩] by rw [waysK_step hlt, ← HG.out]; unfold wayF; rw [if_neg (by (simp; intro h; exact absurd h hx))])
        have hg1 := hb.1
        have hg2 := hb.2
        have hwy : IntKind.i64.wrap (-gy) = -gy := by rw [IntKind.wrap_i64]; omega
        have hwx : IntKind.i64.wrap (-gx) = -gx := by rw [IntKind.wrap_i64]; omega
        have hf1 : fits (-1 * gx) := by unfold fits; omega
        have hf2 : fits (-1 * gy) := by unfold fits; omega
        have hl64 := waysK_len hk
        go_upto_region 7 with (fail)
        obtain ⟨wa, hwa⟩ : ∃ W, W = wr.alloc (.cells #[.int .i64 (gx), .int .i64 (gy)] 70) := ⟨_, rfl⟩
        rw [← hwa]
        have hga : Bx wa wr.heap.size [.int .i64 (gx), .int .i64 (gy)] 70 := by rw [hwa]; exact Bx.new wr [_, _] _
        have hsa : Step wr wa := by rw [hwa]; exact Step.alloc _ _
        have HGA := Lib.hid hga
        have HSA := Lib.hid hsa
        clear hwa hga hsa e1 e2 hb
        refine wp_region_seq (kdOf [3, 16] []) [0, 0, 0, 4, 0, 16, 48, 0, 128, 496, 0, 1024, 0, 4096, 12288, 31744, 65534, 131071, 262143] [0, 1, 2, 4, 5, 6, 7, 8, 9, 10, 11, 12, 13, 14, 15, 3, 16] [17, 18] (by kernel_rfl) (by kernel_rfl) (fun i T z hi hk => by simp [kdOf] at hk <;> (try (split at hk <;> cases hk))) ?_
        intro Wx hWx
        have HT := Lib.hid hWx
        clear hWx
        have g0 := (HGA.out.step HT.out).cell 0
        have g1 := (HGA.out.step HT.out).cell 1
        simp only [List.getElem?_cons_zero, List.getElem?_cons_succ] at g0 g1
        repeat (first | (refine run_off rfl rfl (by rfl) ?_; (try simp only [Act.put, List.setIfInBounds_toArray, List.set_cons_zero, List.set_cons_succ])) | (refine run_chain_off rfl rfl (by rfl) (K0_mono _) ?_; (try simp only [Act.put, List.setIfInBounds_toArray, List.set_cons_zero, List.set_cons_succ])) | ((refine run_want rfl rfl (by rfl) ⟨?_, fun W hW => ?_, ?_⟩; rotate_left; (· (have d0 := hW.keeps.cell id g0; have d1 := hW.keeps.cell id g1; go_simp; (try with_reducible rfl)))); (try simp only [Act.put, List.setIfInBounds_toArray, List.set_cons_zero, List.set_cons_succ])))
        refine run_chain rfl rfl (by rfl) (fun Wi hWi K' hK => ?_)
        have HTi := Lib.hid (HT.out.trans hWi)
        have HZW := Lib.hid HTi.out.size
        clear hWi HT
        go_simp
        refine (times_any ⟨gx, gy⟩ (-1) _ hf1 hf2).mono ?_
        rintro e wn ⟨rfl, hSn⟩
        have HT := Lib.hid (HTi.out.trans (StepX.of hSn))
        clear HTi
        refine hK _ _ (StepX.of hSn) ?_
        clear hSn
        (try simp only [Act.put, List.setIfInBounds_toArray, List.set_cons_zero, List.set_cons_succ])
        clear g0 g1
        have g0 := (HGA.out.step HT.out).cell 0
        have g1 := (HGA.out.step HT.out).cell 1
        simp only [List.getElem?_cons_zero, List.getElem?_cons_succ] at g0 g1
        repeat (first | (refine run_off rfl rfl (by rfl) ?_; (try simp only [Act.put, List.setIfInBounds_toArray, List.set_cons_zero, List.set_cons_succ])) | (refine run_chain_off rfl rfl (by rfl) (K0_mono _) ?_; (try simp only [Act.put, List.setIfInBounds_toArray, List.set_cons_zero, List.set_cons_succ])) | ((refine run_want rfl rfl (by rfl) ⟨?_, fun W hW => ?_, ?_⟩; rotate_left; (· (have d0 := hW.keeps.cell id g0; have d1 := hW.keeps.cell id g1; go_simp; (try with_reducible rfl)))); (try simp only [Act.put, List.setIfInBounds_toArray, List.set_cons_zero, List.set_cons_succ])))
        refine run_chain rfl rfl (by rfl) (fun W1 hW1 K' hK' => ?_)
        go_simp
        refine hK' _ _ (.of (Step.alloc _ _)) ?_
        (try simp only [Act.put, List.setIfInBounds_toArray, List.set_cons_zero, List.set_cons_succ])
        refine run_end (L := [_, _]) rfl (fun W2 hW2 => ?_)
        obtain ⟨mm, hmm⟩ : ∃ m : List Vec, m = [⟨gx, gy⟩, timesV ⟨gx, gy⟩ (-1), ⟨-gy, gx⟩, ⟨gy, -gx⟩] := ⟨_, rfl⟩
        have hml : mm.length = 4 := by rw [hmm]; rfl
        have hs1 := (HSA.out.trans HT.out).trans hW1
        have hW3 : Step (W1.alloc (.cells (cellsV mm).toArray 70)) W2 := by rw [hmm]; exact hW2
        have hu := (sle_vecs (avoid (fun _ => False) (.slice pu LL.length cu)) W1 mm (by omega)).step hW3
        have hst : Step wr W2 := (hs1.trans (Step.alloc _ (.cells (cellsV mm).toArray 70))).trans hW3
        have hov := HO.out.step hst
        rw [hml] at hu
        have hbz : w.heap.size + 1 ≤ W2.heap.size := by have := (HO.out.lt); have := HX.out.size; have := hst.size; have := HZ.out; omega
        have HML := Lib.hid hml
        have HX2 := Lib.hid (HX.out.trans (StepX.of hst))
        have hl16 := HL8.out
        have HMM := Lib.hid hmm
        clear hW1 hW2 hW3 hK' hs1 hst hml hmm
        go_wp2_with (at_builtin; refine wpl_append_ways (m := mm) rfl _ _ rfl rfl rfl hov hu (by have := HML.out; omega) (by have := HML.out; omega) hbz ?_)
        intro p' c' w3 hown hg
        have hX3 : StepX (fun j => w.heap.size + 1 ≤ j) W0 w3 := HX2.out.trans (.grown hg fun j hj _ => (HO.out.lt j hj).1)
        have hr : OutW (fun _ => False) (w.heap.size + 1) w3 (.slice p' ((waysK F k).length + mm.length) c') (waysK F (k + 1)) := by rw [hwk.out, ← HMM.out]; exact .inl hown
        have H3 := Lib.hid (And.intro hr hX3)
        clear hu hov hown hg hX3 hr hwk hbz
        go_wp2
        go_roundw
        case rel => exact ⟨k + 1, by omega, by go_num, H3.out.1, H3.out.2⟩
        case measure => simp [intOf]; omega
    · have HN := Lib.hid (show LL = waysP F by rw [HLL.out, ← waysK_all]; congr 1; omega)
      go_wp2
      go_ret
      refine ⟨_, rfl, ?_, StepX.fresh HS.out HX.out (fun j hj => by omega)⟩
      have hk8 := waysK_len hk
      have h := HO.out.sl (by have := HL8.out; omega) (Old w) (fun j hj => by unfold Old at hj; omega)
      rw [← HLL.out, HN.out] at h
      rw [HN.out]; exact h
end Go.Proofs.YtoanjaidfdkdpaaGreat
/- Walks: what guys have against a way. -/
namespace Go.Proofs.YtoanjaidfdkdpaaGreat
set_option linter.unusedSimpArgs false
set_option linter.unusedVariables false
open Go.RowKit Go.BT

theorem mul_in {a b A B : Int} (ha : -A ≤ a ∧ a ≤ A) (hb : -B ≤ b ∧ b ≤ B) : -(A * B) ≤ a * b ∧ a * b ≤ A * B := by
  have h1 := Int.mul_nonneg (show 0 ≤ A - a by omega) (show 0 ≤ B - b by omega)
  have h2 := Int.mul_nonneg (show 0 ≤ A + a by omega) (show 0 ≤ B + b by omega)
  have h3 := Int.mul_nonneg (show 0 ≤ A - a by omega) (show 0 ≤ B + b by omega)
  have h4 := Int.mul_nonneg (show 0 ≤ A + a by omega) (show 0 ≤ B - b by omega)
  constructor <;> grind
/-- A vector with small numbers. -/
def inV (n : Int) (v : Vec) : Prop := (-n ≤ v.x ∧ v.x ≤ n) ∧ -n ≤ v.y ∧ v.y ≤ n
theorem inV.mono {m n : Int} {v : Vec} (h : inV m v) (hmn : m ≤ n) : inV n v := by unfold inV at *; omega
theorem small_get {F : List Vec} (h : smallV F) {k : Nat} (hk : k < F.length) : inV 500000 F[k] := by
  have := h _ (List.getElem_mem hk); unfold inV; omega
theorem dot_in {v o : Vec} {A B : Int} (hv : inV A v) (ho : inV B o) : (-(A * B) ≤ v.x * o.x ∧ v.x * o.x ≤ A * B) ∧ (-(A * B) ≤ v.y * o.y ∧ v.y * o.y ≤ A * B) := ⟨mul_in hv.1 ho.1, mul_in hv.2 ho.2⟩
theorem dot_fits {v o : Vec} {A B : Int} (hv : inV A v) (ho : inV B o) (hAB : A * B ≤ 4000000000000000000) : fits (v.x * o.x) ∧ fits (v.y * o.y) ∧ fits (v.x * o.x + v.y * o.y) ∧ -(2 * (A * B)) ≤ dotV v o ∧ dotV v o ≤ 2 * (A * B) := by
  have h := dot_in hv ho
  unfold fits dotV
  omega
theorem help_take {F : List Vec} {w : Vec} {k : Nat} (hk : k < F.length) : helpL (F.take (k + 1)) w = helpL (F.take k) w + max 0 (-(dotV w F[k])) := by
  unfold helpL
  rw [List.take_succ_eq_append_getElem hk, List.map_append, List.sum_append]
  simp
theorem help_bound {F : List Vec} {w : Vec} (hF : smallV F) (hw : inV 1000000 w) : ∀ k, k ≤ F.length → 0 ≤ helpL (F.take k) w ∧ helpL (F.take k) w ≤ k * 1000000000000
  | 0, _ => by simp [helpL]
  | k + 1, hk => by
    have ih := help_bound hF hw k (by omega)
    rw [help_take (by omega)]
    have hd := (dot_fits (v := w) (o := F[k]'(by omega)) hw (small_get hF (by omega)) (by decide)).2.2.2
    omega
set_option maxRecDepth 100000 in
set_option maxHeartbeats 4000000 in
theorem help_any (F : List Vec) (area : Int) (way : Vec) (v : Value) (w : World) (hv : MV w v area F) (hF : smallV F) (hn : F.length ≤ 8) (hw : inV 1000000 way) :
    Calls Tryz.prog 94 #[v, .agg #[.int .i64 way.x, .int .i64 way.y]] w fun e w' => e = .returned (.int .i64 (helpL F way)) ∧ Step w w' := by
  obtain ⟨b, p2, n2, k2, p3, k3, rfl, hsl⟩ := hv
  obtain ⟨W0, hW0⟩ : ∃ W, W = (w.alloc (.cells #[.int .i64 area, .int .i64 b, .slice p2 n2 k2, .slice p3 F.length k3] 145)).alloc (.cells #[.int .i64 way.x, .int .i64 way.y] 70) := ⟨_, rfl⟩
  have hS : Step w W0 := by subst hW0; exact (by repeat (first | (with_reducible assumption) | (with_reducible exact Step.refl _) | (with_reducible apply Step.s_alloc) | (with_reducible apply Step.s_drew) | (with_reducible apply Step.s_drewN) | (with_reducible refine Step.trans ?_ (by with_reducible assumption))))
  obtain ⟨q3, c3, b3, o3, he3, _, _, hp, hc, _⟩ := hsl.vecs
  injection he3 with he31 _ he33
  subst he31 he33
  have HS := Lib.hid hS
  have HW := Lib.hid hW0
  have HF := Lib.hid hF
  have HP := Lib.hid (And.intro hp hc)
  have HWY := Lib.hid hw
  clear hS hW0 hF hp hc hsl hw
  go_enter Tryz.func94, Tryz.ntmps94
  go_wp2
  rw [← HW.out]
  go_loopw [5, 14] (fun s i wr => ∃ k : Nat, k ≤ F.length ∧ i = .int .i64 k ∧ s = .int .i64 (helpL (F.take k) way) ∧ Step W0 wr) (fun _ i _ => F.length - (intOf i).toNat)
  case atStart => exact ⟨0, Nat.zero_le _, rfl, rfl, Step.refl _⟩
  case round =>
    obtain ⟨k, hk, rfl, rfl, hT⟩ := hrel
    have HT := Lib.hid hT
    clear hT
    by_cases hlt : k < F.length
    · obtain rfl := HP.out.1 (by omega)
      obtain ⟨e1, e2⟩ := HP.out.2 k hlt
      have e1 := (HS.out.trans HT.out).keeps.cell id e1
      have e2 := (HS.out.trans HT.out).keeps.cell id e2
      have hix : (0 : Int) ≤ (k : Int) ∧ (k : Int) < (F.length : Int) := by omega
      have hw := HWY.out
      have hdf := dot_fits (v := way) (o := F[k]) hw (small_get HF.out hlt) (by decide)
      have hbd := help_bound HF.out hw k hk
      have HTK := Lib.hid (help_take (w := way) hlt)
      obtain ⟨h, hh⟩ : ∃ h, h = helpL (F.take k) way := ⟨_, rfl⟩
      rw [← hh] at hbd HTK
      obtain ⟨d, hd⟩ : ∃ d, d = dotV way F[k] := ⟨_, rfl⟩
      rw [← hd] at hdf HTK
      have HH := Lib.hid (And.intro hh hd)
      have hcall := Lib.hid (dot_any way F[k] (wr.alloc (.cells #[.int .i64 F[k].x, .int .i64 F[k].y] 70)) hdf.1 hdf.2.1 hdf.2.2.1)
      have hwn : IntKind.i64.wrap (-d) = -d := by rw [IntKind.wrap_i64]; omega
      have hwa : IntKind.i64.wrap (h + -d) = h + -d := by rw [IntKind.wrap_i64]; omega
      have hwb : IntKind.i64.wrap h = h := by rw [IntKind.wrap_i64]; omega
      rw [← hh]
      clear hw hdf hbd hh
      go_wp2_with fail
      refine hcall.out.mono ?_
      rintro e w1 ⟨rfl, hS1⟩
      rw [← hd]
      have HS1 := Lib.hid (HT.out.trans ((Step.alloc _ _).trans hS1))
      clear hd hcall hS1 e1 e2
      by_cases h0 : 0 < -d
      · have HN := Lib.hid (show helpL (F.take (k + 1)) way = h + -d by rw [HTK.out]; omega)
        go_wp2
        go_roundw
        case rel => exact ⟨k + 1, by omega, by go_num, by rw [HN.out], HS1.out⟩
        case measure => simp [intOf]; omega
      · have HN := Lib.hid (show helpL (F.take (k + 1)) way = h by rw [HTK.out]; omega)
        go_wp2
        go_roundw
        case rel => exact ⟨k + 1, by omega, by go_num, by rw [HN.out], HS1.out⟩
        case measure => simp [intOf]; omega
    · have HN := Lib.hid (show helpL (F.take k) way = helpL F way by rw [List.take_of_length_le (by omega)])
      go_wp2
      go_ret
      exact ⟨by rw [← HN.out]; rfl, HS.out.trans HT.out⟩
end Go.Proofs.YtoanjaidfdkdpaaGreat
/- Walks: whether a push is too strong in a way. -/
namespace Go.Proofs.YtoanjaidfdkdpaaGreat
set_option linter.unusedSimpArgs false
set_option linter.unusedVariables false
open Go.RowKit Go.BT


theorem ways_in {F : List Vec} (hF : smallV F) : ∀ w ∈ waysP F, inV 500000 w := fun w hw => by
  rcases List.mem_append.1 hw with hw | hw
  · simp at hw
    rcases hw with rfl | rfl | rfl | rfl <;> simp [inV]
  · obtain ⟨f, hf, hw⟩ := List.mem_flatMap.1 hw
    have hs := hF f hf
    split at hw
    · simp at hw
    · simp [timesV] at hw
      rcases hw with rfl | rfl | rfl | rfl <;> simp only [inV] <;> omega
theorem waysP_len {F : List Vec} : (waysP F).length ≤ 4 + F.length * 4 := by rw [← waysK_all]; exact waysK_len (Nat.le_refl _)
set_option maxRecDepth 100000 in
set_option maxHeartbeats 8000000 in
theorem weak_any (F : List Vec) (area : Int) (p : Vec) (v : Value) (w : World) (hv : MV w v area F) (hF : smallV F) (hn : F.length ≤ 8) (hp : inV 100000000000 p) :
    Calls Tryz.prog 68 #[v, .agg #[.int .i64 p.x, .int .i64 p.y]] w fun e w' => ∃ x y : Int, e = .returned (.tuple #[.agg #[.int .i64 x, .int .i64 y], .bool (!balL F p)]) ∧ (balL F p = true → x = 0 ∧ y = 0) ∧ (balL F p = false → helpL F ⟨x, y⟩ < dotV ⟨x, y⟩ p ∧ inV 500000 ⟨x, y⟩) ∧ Step w w' := by
  have hv0 := hv
  obtain ⟨b, p2, n2, k2, p3, k3, rfl, hsl⟩ := hv
  obtain ⟨W0, hW0⟩ : ∃ W, W = ((w.alloc (.cells #[.int .i64 area, .int .i64 b, .slice p2 n2 k2, .slice p3 F.length k3] 145)).alloc (.cells #[.int .i64 p.x, .int .i64 p.y] 70)).alloc (.cells #[.int .i64 0, .int .i64 0] 70) := ⟨_, rfl⟩
  have hb1 : Bx W0 w.heap.size [.int .i64 area, .int .i64 b, .slice p2 n2 k2, .slice p3 F.length k3] 145 := by subst hW0; exact ((Bx.new w [_, _, _, _] _).alloc _).alloc _
  have hb2 : Bx W0 (w.heap.size + 1) [.int .i64 p.x, .int .i64 p.y] 70 := by subst hW0; exact (Bx.new' _ [_, _] _ _ (by simp)).alloc _
  have hb3 : Bx W0 (w.heap.size + 2) [.int .i64 0, .int .i64 0] 70 := by subst hW0; exact Bx.new' _ [_, _] _ _ (by simp)
  have hS : Step w W0 := by subst hW0; exact (by repeat (first | (with_reducible assumption) | (with_reducible exact Step.refl _) | (with_reducible apply Step.s_alloc) | (with_reducible apply Step.s_drew) | (with_reducible apply Step.s_drewN) | (with_reducible refine Step.trans ?_ (by with_reducible assumption))))
  have HB1 := Lib.hid hb1
  have HB2 := Lib.hid hb2
  have HB3 := Lib.hid hb3
  have HV := Lib.hid (hv0.step hS)
  have HS := Lib.hid hS
  have HW := Lib.hid hW0
  have HF := Lib.hid hF
  have HPP := Lib.hid hp
  clear hS hb1 hb2 hb3 hW0 hF hp hv0 hsl
  go_enter Tryz.func68, Tryz.ntmps68
  go_wp2_with fail
  rw [show w.heap.size + 1 + 1 = w.heap.size + 2 from rfl, ← HW.out]
  refine (ways_any F area _ _ HV.out HF.out hn).mono ?_
  rintro e w1 ⟨vw, rfl, hvw, hS1⟩
  have hwl := waysP_len (F := F)
  obtain ⟨WY, hWY⟩ : ∃ L, L = waysP F := ⟨_, rfl⟩
  rw [← hWY] at hvw hwl
  have HWY := Lib.hid hWY
  obtain ⟨pw, kw, bw, ow, rfl, _, hmw, hpw, hcw, _⟩ := hvw.vecs
  have HPW := Lib.hid (And.intro hpw hcw)
  have HS1 := Lib.hid hS1
  have HT0 := Lib.hid (Step.refl w1)
  clear hWY hvw hpw hcw hS1
  go_wp2
  go_loopw [11] (fun i wr => ∃ k : Nat, k ≤ WY.length ∧ i = .int .i64 k ∧ (∀ j (hj : j < k) (hl : j < WY.length), strongB F p WY[j] = false) ∧ Step w1 wr) (fun i _ => WY.length - (intOf i).toNat)
  case atStart => exact ⟨0, Nat.zero_le _, rfl, fun j hj => absurd hj (by omega), HT0.out⟩
  case round =>
    obtain ⟨k, hk, rfl, hno, hT⟩ := hrel
    have HN := Lib.hid hno
    have HT := Lib.hid hT
    clear hno hT
    by_cases hlt : k < WY.length
    · obtain rfl := HPW.out.1 (by omega)
      obtain ⟨e1, e2⟩ := HPW.out.2 k hlt
      have e1 := HT.out.keeps.cell id e1
      have e2 := HT.out.keeps.cell id e2
      have hix : (0 : Int) ≤ (k : Int) ∧ (k : Int) < (WY.length : Int) := by omega
      have hin : inV 500000 WY[k] := ways_in HF.out _ (by rw [← HWY.out]; exact List.getElem_mem hlt)
      obtain ⟨g, hg⟩ : ∃ g, g = WY[k] := ⟨_, rfl⟩
      rw [← hg] at e1 e2 hin
      have HG := Lib.hid hg
      have hdf := dot_fits hin HPP.out (by decide)
      have HDF := Lib.hid (And.intro hin hdf)
      clear hg hin hdf
      go_upto_region 4 with (fail)
      obtain ⟨wa, hwa⟩ : ∃ W, W = wr.alloc (.cells #[.int .i64 g.x, .int .i64 g.y] 70) := ⟨_, rfl⟩
      rw [← hwa]
      have hga : Bx wa wr.heap.size [.int .i64 g.x, .int .i64 g.y] 70 := by rw [hwa]; exact Bx.new wr [_, _] _
      have hsa : Step W0 wa := by rw [hwa]; exact (HS1.out.trans HT.out).trans (Step.alloc _ _)
      have hsb : Step w1 wa := by rw [hwa]; exact HT.out.trans (Step.alloc _ _)
      have HGA := Lib.hid hga
      have HSA := Lib.hid (And.intro hsa hsb)
      clear hwa hga hsa hsb e1 e2 HT
      refine wp_region_seq (kdOf [2, 5] []) [0, 0, 3, 0, 0, 31, 63] [0, 1, 3, 4, 2, 5, 6] [] (by kernel_rfl) (by kernel_rfl) (fun i T z hi hk => by simp [kdOf] at hk <;> (try (split at hk <;> cases hk))) ?_
      intro Wx hWx
      have HT := Lib.hid hWx
      clear hWx
      have g0 := (HGA.out.step HT.out).cell 0
      have g1 := (HGA.out.step HT.out).cell 1
      have q0 := (HB2.out.step (HSA.out.1.trans HT.out)).cell 0
      have q1 := (HB2.out.step (HSA.out.1.trans HT.out)).cell 1
      obtain ⟨m0, m1, m2, m3⟩ := cells4 (HB1.out.step (HSA.out.1.trans HT.out))
      simp only [List.getElem?_cons_zero, List.getElem?_cons_succ] at g0 g1 q0 q1
      repeat (first | (refine run_off rfl rfl (by rfl) ?_; (try simp only [Act.put, List.setIfInBounds_toArray, List.set_cons_zero, List.set_cons_succ])) | (refine run_chain_off rfl rfl (by rfl) (K0_mono _) ?_; (try simp only [Act.put, List.setIfInBounds_toArray, List.set_cons_zero, List.set_cons_succ])) | ((refine run_want rfl rfl (by rfl) ⟨?_, fun W hW => ?_, ?_⟩; rotate_left; (· (have d0 := hW.keeps.cell id g0; have d1 := hW.keeps.cell id g1; have d2 := hW.keeps.cell id q0; have d3 := hW.keeps.cell id q1; have d4 := hW.keeps.cell id m0; have d5 := hW.keeps.cell id m1; have d6 := hW.keeps.cell id m2; have d7 := hW.keeps.cell id m3; go_simp; (try with_reducible rfl)))); (try simp only [Act.put, List.setIfInBounds_toArray, List.set_cons_zero, List.set_cons_succ])))
      refine run_chain rfl rfl (by rfl) (fun Wi hWi K' hK => ?_)
      have HTi := Lib.hid (HT.out.trans hWi)
      have HZW := Lib.hid HTi.out.size
      clear hWi HT
      go_simp
      refine (dot_any g p _ HDF.out.2.1 HDF.out.2.2.1 HDF.out.2.2.2.1).mono ?_
      rintro e wn ⟨rfl, hSn⟩
      have HT := Lib.hid (HTi.out.trans (StepX.of hSn))
      clear HTi
      refine hK _ _ (StepX.of hSn) ?_
      clear hSn
      (try simp only [Act.put, List.setIfInBounds_toArray, List.set_cons_zero, List.set_cons_succ])
      clear g0 g1 q0 q1 m0 m1 m2 m3
      have g0 := (HGA.out.step HT.out).cell 0
      have g1 := (HGA.out.step HT.out).cell 1
      obtain ⟨m0, m1, m2, m3⟩ := cells4 (HB1.out.step (HSA.out.1.trans HT.out))
      simp only [List.getElem?_cons_zero, List.getElem?_cons_succ] at g0 g1
      repeat (first | (refine run_off rfl rfl (by rfl) ?_; (try simp only [Act.put, List.setIfInBounds_toArray, List.set_cons_zero, List.set_cons_succ])) | (refine run_chain_off rfl rfl (by rfl) (K0_mono _) ?_; (try simp only [Act.put, List.setIfInBounds_toArray, List.set_cons_zero, List.set_cons_succ])) | ((refine run_want rfl rfl (by rfl) ⟨?_, fun W hW => ?_, ?_⟩; rotate_left; (· (have d0 := hW.keeps.cell id g0; have d1 := hW.keeps.cell id g1; have d2 := hW.keeps.cell id m0; have d3 := hW.keeps.cell id m1; have d4 := hW.keeps.cell id m2; have d5 := hW.keeps.cell id m3; go_simp; (try with_reducible rfl)))); (try simp only [Act.put, List.setIfInBounds_toArray, List.set_cons_zero, List.set_cons_succ])))
      refine run_chain rfl rfl (by rfl) (fun Wi hWi K' hK => ?_)
      have HTi := Lib.hid (HT.out.trans hWi)
      have HZW := Lib.hid HTi.out.size
      clear hWi HT
      go_simp
      refine (help_any F area g _ _ (HV.out.step (HSA.out.1.trans HTi.out)) HF.out hn (HDF.out.1.mono (by decide))).mono ?_
      rintro e wn ⟨rfl, hSn⟩
      have HT := Lib.hid (HTi.out.trans (StepX.of hSn))
      clear HTi
      refine hK _ _ (StepX.of hSn) ?_
      clear hSn
      (try simp only [Act.put, List.setIfInBounds_toArray, List.set_cons_zero, List.set_cons_succ])
      clear g0 g1 m0 m1 m2 m3
      repeat (first | (refine run_off rfl rfl (by rfl) ?_; (try simp only [Act.put, List.setIfInBounds_toArray, List.set_cons_zero, List.set_cons_succ])) | (refine run_chain_off rfl rfl (by rfl) (K0_mono _) ?_; (try simp only [Act.put, List.setIfInBounds_toArray, List.set_cons_zero, List.set_cons_succ])) | ((refine run_want rfl rfl (by rfl) ⟨?_, fun W hW => ?_, ?_⟩; rotate_left; (· (skip; go_simp; (try with_reducible rfl)))); (try simp only [Act.put, List.setIfInBounds_toArray, List.set_cons_zero, List.set_cons_succ])))
      refine run_end (L := []) rfl (fun W6 hW6 => ?_)
      have HT6 := Lib.hid (HT.out.trans hW6)
      clear hW6 HT
      have HT := HT6
      clear HT6
      have HT2 := Lib.hid (HSA.out.2.trans HT.out)
      have g0 := (HGA.out.step HT.out).cell 0
      have g1 := (HGA.out.step HT.out).cell 1
      simp only [List.getElem?_cons_zero, List.getElem?_cons_succ] at g0 g1
      obtain ⟨cc, hcc⟩ : ∃ c, c = decide (helpL F g < dotV g p) := ⟨_, rfl⟩
      rw [← hcc]
      cases cc with
      | true =>
        have hst : helpL F g < dotV g p := by simpa using hcc.symm
        have hd : decide (helpL F g < dotV g p) = true := hcc.symm
        have HB := Lib.hid (show balL F p = false by
          rw [balL_ways, Bool.not_eq_false', ← HWY.out]
          exact List.any_eq_true.2 ⟨_, List.getElem_mem hlt, by rw [← HG.out]; exact hd⟩)
        have HST := Lib.hid hst
        obtain ⟨z0, z1⟩ : W6.frozen? ⟨w.heap.size + 2, 0, none⟩ = false ∧ W6.frozen? ⟨w.heap.size + 2, 1, none⟩ = false := ⟨(HB3.out.step (HSA.out.1.trans HT.out)).frozen 0, (HB3.out.step (HSA.out.1.trans HT.out)).frozen 1⟩
        have y0 := (HB3.out.step (HSA.out.1.trans HT.out)).cell 0
        have y1 := (HB3.out.step (HSA.out.1.trans HT.out)).cell 1
        simp only [List.getElem?_cons_zero, List.getElem?_cons_succ] at y0 y1
        clear hst hd hcc
        go_wp2
        have b2 := set2 (HB3.out.step (HSA.out.1.trans HT.out)) (.int .i64 g.x) (.int .i64 g.y)
        exact ret_struct2 (k := 2) rfl siVec rfl b2.1 rfl rfl ⟨g.x, g.y, by rw [HB.out]; rfl, by rw [HB.out]; simp, fun _ => ⟨HST.out, HDF.out.1⟩, StepX.fresh (HS.out.trans (HSA.out.1.trans HT.out)) b2.2 (fun j hj => by omega)⟩
      | false =>
        have hd : decide (helpL F g < dotV g p) = false := hcc.symm
        have HQ := Lib.hid (show strongB F p WY[k] = false by rw [← HG.out]; exact hd)
        clear hd hcc
        go_wp2
        go_roundw
        case rel => exact ⟨k + 1, by omega, by go_num, fun j hj hl => if h : j = k then by subst h; exact HQ.out else HN.out j (by omega) hl, HT2.out⟩
        case measure => simp [intOf]; omega
    · have HB := Lib.hid (show balL F p = true by
        rw [balL_ways, Bool.not_eq_true', ← HWY.out, List.any_eq_false]
        intro y hy
        obtain ⟨j, hj, rfl⟩ := List.getElem_of_mem hy
        rw [HN.out j (by omega) hj]; decide)
      have hb3 := HB3.out.step (HS1.out.trans HT.out)
      have z0 := hb3.frozen 0
      have z1 := hb3.frozen 1
      have y0 := hb3.cell 0
      have y1 := hb3.cell 1
      simp only [List.getElem?_cons_zero, List.getElem?_cons_succ] at y0 y1
      have HB4 := Lib.hid hb3
      clear hb3
      go_wp2
      have b2 := set2 HB4.out (.int .i64 0) (.int .i64 0)
      exact ret_struct2 (k := 2) rfl siVec rfl b2.1 rfl rfl ⟨0, 0, by rw [HB.out]; rfl, fun _ => ⟨rfl, rfl⟩, by rw [HB.out]; simp, StepX.fresh (HS.out.trans (HS1.out.trans HT.out)) b2.2 (fun j hj => by omega)⟩
end Go.Proofs.YtoanjaidfdkdpaaGreat
/- Walks: whether forces balance a push, by the document. -/
namespace Go.Proofs.YtoanjaidfdkdpaaGreat
set_option linter.unusedSimpArgs false
set_option linter.unusedVariables false
open Go.RowKit Go.BT

theorem own_vecs (S : Nat → Prop) (w : World) (e : TypeId) (m : List Vec) (hm : m.length ≤ 1000) : OwnL S w.heap.size e (w.alloc (.cells (cellsV m).toArray e)) (.slice (some ⟨w.heap.size, 0, none⟩) m.length m.length) m :=
  ⟨cellsV m, ⟨cellsV_len m, .inr ⟨w.heap.size, m.length, (cellsV m).toArray, rfl, Nat.le_refl _, Bx.new w (cellsV m) e, Nat.le_refl _, by simp only [maxLen]; omega, by simp [cellsV_len]; rfl, by
    show ((cellsV m).toArray).toList.take (m.length * 2) = cellsV m
    rw [List.take_of_length_le (by simp [cellsV_len])]⟩⟩, fun i hi => by
    show ((cellsV m).drop (i * 2)).take 2 = _
    rw [cellsV_drop m i hi]; rfl⟩
theorem sle_rvecs (S : Nat → Prop) (w : World) (m : List Vec) (hm : m.length ≤ 1000) : SLe S (w.alloc (.cells (cellsV m).toArray 82)) (.slice (some ⟨w.heap.size, 0, none⟩) m.length m.length) m := by
  refine ⟨_, m.length, w.heap.size, 0, rfl, Nat.le_refl _, by omega, fun _ => rfl, fun i hi => ⟨[.int .i64 m[i].x, .int .i64 m[i].y], rfl, fun j u hj => ?_⟩⟩
  show (w.alloc _).cell? ⟨w.heap.size, 0 + i * 2 + j, none⟩ = some u
  rw [World.cell?_alloc_new, Nat.zero_add]
  have hd := cellsV_drop m i hi
  have : (cellsV m)[i * 2 + j]? = some u := by
    rw [← List.getElem?_drop, hd]
    match j, hj with
    | 0, hj => exact hj
    | 1, hj => exact hj
    | j + 2, hj => simp at hj
  simpa using this
def wayA (f : Vec) : List Vec := [f, timesV f (-1), ⟨-f.y, f.x⟩, ⟨f.y, -f.x⟩]
def waysA (F : List Vec) (k : Nat) : List Vec := axesV ++ (F.take k).flatMap wayA
theorem waysA_all (F : List Vec) : waysA F F.length = waysL F := by unfold waysA waysL; rw [List.take_length]; rfl
theorem waysA_step {F : List Vec} {k : Nat} (hk : k < F.length) : waysA F (k + 1) = waysA F k ++ wayA F[k] := by
  unfold waysA
  rw [List.take_succ_eq_append_getElem hk, List.flatMap_append, List.append_assoc]
  simp
theorem waysA_len {F : List Vec} : ∀ {k : Nat}, k ≤ F.length → (waysA F k).length = 4 + k * 4
  | 0, _ => by simp [waysA, axesV]
  | k + 1, hk => by
    rw [waysA_step (by omega), List.length_append, waysA_len (F := F) (k := k) (by omega)]
    simp [wayA]; omega
theorem waysL_in {F : List Vec} (hF : smallV F) : ∀ w ∈ waysL F, inV 500000 w := fun w hw => by
  rcases List.mem_append.1 hw with hw | hw
  · simp at hw
    rcases hw with rfl | rfl | rfl | rfl <;> simp [inV]
  · obtain ⟨f, hf, hw⟩ := List.mem_flatMap.1 hw
    have hs := hF f hf
    simp [timesV] at hw
    rcases hw with rfl | rfl | rfl | rfl <;> simp only [inV] <;> omega
end Go.Proofs.YtoanjaidfdkdpaaGreat
/- Walks: the document's tests, tents and clashes. -/
namespace Go.Proofs.YtoanjaidfdkdpaaGreat
set_option linter.unusedSimpArgs false
set_option linter.unusedVariables false
open Go.RowKit Go.BT

set_option maxHeartbeats 1000000 in
theorem RightGuy_any (x : Guy) (w : World) : Calls Tryz.prog 46 #[.agg #[.int .i64 x.x, .int .i64 x.y, .int .i64 x.down, .int .i64 x.soil, .int .i64 x.depth]] w fun e w' => e = .returned (.bool (guyB x)) ∧ Step w w' := by
  obtain ⟨xx, xy, dn, sl, dp⟩ := x
  dsimp only
  by_cases hx : xx = 0
  · subst hx
    by_cases hy : xy = 0
    · subst hy
      go_enter Tryz.func46, Tryz.ntmps46
      go_wp2_with fail
      refine (bigtopref01.In_any _ _ _ _).mono ?_
      rintro e w' ⟨rfl, rfl⟩
      cases q0 : withinB 0 (-5000) 5000 with
      | false =>
        go_wp2
        go_ret
        exact ⟨by simp [guyB, guyB, q0], (by repeat (first | (with_reducible assumption) | (with_reducible exact Step.refl _) | (with_reducible apply Step.s_alloc) | (with_reducible apply Step.s_drew) | (with_reducible apply Step.s_drewN) | (with_reducible refine Step.trans ?_ (by with_reducible assumption))))⟩
      | true =>
        go_wp2_with fail
        refine (bigtopref01.In_any _ _ _ _).mono ?_
        rintro e w' ⟨rfl, rfl⟩
        cases q1 : withinB 0 (-5000) 5000 with
        | false =>
          go_wp2
          go_ret
          exact ⟨by simp [guyB, guyB, q0, q1], (by repeat (first | (with_reducible assumption) | (with_reducible exact Step.refl _) | (with_reducible apply Step.s_alloc) | (with_reducible apply Step.s_drew) | (with_reducible apply Step.s_drewN) | (with_reducible refine Step.trans ?_ (by with_reducible assumption))))⟩
        | true =>
          go_wp2
          go_ret
          exact ⟨by simp [guyB, guyB, q0, q1], (by repeat (first | (with_reducible assumption) | (with_reducible exact Step.refl _) | (with_reducible apply Step.s_alloc) | (with_reducible apply Step.s_drew) | (with_reducible apply Step.s_drewN) | (with_reducible refine Step.trans ?_ (by with_reducible assumption))))⟩
    · have hd : (xy != 0) = true := by simpa using hy
      go_enter Tryz.func46, Tryz.ntmps46
      go_wp2_with fail
      refine (bigtopref01.In_any _ _ _ _).mono ?_
      rintro e w' ⟨rfl, rfl⟩
      cases q0 : withinB 0 (-5000) 5000 with
      | false =>
        go_wp2
        go_ret
        exact ⟨by simp [guyB, hy, q0], (by repeat (first | (with_reducible assumption) | (with_reducible exact Step.refl _) | (with_reducible apply Step.s_alloc) | (with_reducible apply Step.s_drew) | (with_reducible apply Step.s_drewN) | (with_reducible refine Step.trans ?_ (by with_reducible assumption))))⟩
      | true =>
        go_wp2_with fail
        refine (bigtopref01.In_any _ _ _ _).mono ?_
        rintro e w' ⟨rfl, rfl⟩
        cases q1 : withinB xy (-5000) 5000 with
        | false =>
          go_wp2
          go_ret
          exact ⟨by simp [guyB, hy, q0, q1], (by repeat (first | (with_reducible assumption) | (with_reducible exact Step.refl _) | (with_reducible apply Step.s_alloc) | (with_reducible apply Step.s_drew) | (with_reducible apply Step.s_drewN) | (with_reducible refine Step.trans ?_ (by with_reducible assumption))))⟩
        | true =>
          go_wp2_with fail
          refine (bigtopref01.In_any _ _ _ _).mono ?_
          rintro e w' ⟨rfl, rfl⟩
          cases q2 : withinB dn 0 5000 with
          | false =>
            go_wp2
            go_ret
            exact ⟨by simp [guyB, hy, q0, q1, q2], (by repeat (first | (with_reducible assumption) | (with_reducible exact Step.refl _) | (with_reducible apply Step.s_alloc) | (with_reducible apply Step.s_drew) | (with_reducible apply Step.s_drewN) | (with_reducible refine Step.trans ?_ (by with_reducible assumption))))⟩
          | true =>
            go_wp2_with fail
            refine (bigtopref01.In_any _ _ _ _).mono ?_
            rintro e w' ⟨rfl, rfl⟩
            cases q3 : withinB sl 0 9 with
            | false =>
              go_wp2
              go_ret
              exact ⟨by simp [guyB, hy, q0, q1, q2, q3], (by repeat (first | (with_reducible assumption) | (with_reducible exact Step.refl _) | (with_reducible apply Step.s_alloc) | (with_reducible apply Step.s_drew) | (with_reducible apply Step.s_drewN) | (with_reducible refine Step.trans ?_ (by with_reducible assumption))))⟩
            | true =>
              go_wp2_with fail
              refine (bigtopref01.In_any _ _ _ _).mono ?_
              rintro e w' ⟨rfl, rfl⟩
              cases q4 : withinB dp 1 3000 with
              | false =>
                go_wp2
                go_ret
                exact ⟨by simp [guyB, hy, q0, q1, q2, q3, q4], (by repeat (first | (with_reducible assumption) | (with_reducible exact Step.refl _) | (with_reducible apply Step.s_alloc) | (with_reducible apply Step.s_drew) | (with_reducible apply Step.s_drewN) | (with_reducible refine Step.trans ?_ (by with_reducible assumption))))⟩
              | true =>
                go_wp2
                go_ret
                exact ⟨by simp [guyB, hy, q0, q1, q2, q3, q4], (by repeat (first | (with_reducible assumption) | (with_reducible exact Step.refl _) | (with_reducible apply Step.s_alloc) | (with_reducible apply Step.s_drew) | (with_reducible apply Step.s_drewN) | (with_reducible refine Step.trans ?_ (by with_reducible assumption))))⟩
  · have hd : (xx != 0) = true := by simpa using hx
    go_enter Tryz.func46, Tryz.ntmps46
    go_wp2_with fail
    refine (bigtopref01.In_any _ _ _ _).mono ?_
    rintro e w' ⟨rfl, rfl⟩
    cases q0 : withinB xx (-5000) 5000 with
    | false =>
      go_wp2
      go_ret
      exact ⟨by simp [guyB, hx, q0], (by repeat (first | (with_reducible assumption) | (with_reducible exact Step.refl _) | (with_reducible apply Step.s_alloc) | (with_reducible apply Step.s_drew) | (with_reducible apply Step.s_drewN) | (with_reducible refine Step.trans ?_ (by with_reducible assumption))))⟩
    | true =>
      go_wp2_with fail
      refine (bigtopref01.In_any _ _ _ _).mono ?_
      rintro e w' ⟨rfl, rfl⟩
      cases q1 : withinB xy (-5000) 5000 with
      | false =>
        go_wp2
        go_ret
        exact ⟨by simp [guyB, hx, q0, q1], (by repeat (first | (with_reducible assumption) | (with_reducible exact Step.refl _) | (with_reducible apply Step.s_alloc) | (with_reducible apply Step.s_drew) | (with_reducible apply Step.s_drewN) | (with_reducible refine Step.trans ?_ (by with_reducible assumption))))⟩
      | true =>
        go_wp2_with fail
        refine (bigtopref01.In_any _ _ _ _).mono ?_
        rintro e w' ⟨rfl, rfl⟩
        cases q2 : withinB dn 0 5000 with
        | false =>
          go_wp2
          go_ret
          exact ⟨by simp [guyB, hx, q0, q1, q2], (by repeat (first | (with_reducible assumption) | (with_reducible exact Step.refl _) | (with_reducible apply Step.s_alloc) | (with_reducible apply Step.s_drew) | (with_reducible apply Step.s_drewN) | (with_reducible refine Step.trans ?_ (by with_reducible assumption))))⟩
        | true =>
          go_wp2_with fail
          refine (bigtopref01.In_any _ _ _ _).mono ?_
          rintro e w' ⟨rfl, rfl⟩
          cases q3 : withinB sl 0 9 with
          | false =>
            go_wp2
            go_ret
            exact ⟨by simp [guyB, hx, q0, q1, q2, q3], (by repeat (first | (with_reducible assumption) | (with_reducible exact Step.refl _) | (with_reducible apply Step.s_alloc) | (with_reducible apply Step.s_drew) | (with_reducible apply Step.s_drewN) | (with_reducible refine Step.trans ?_ (by with_reducible assumption))))⟩
          | true =>
            go_wp2_with fail
            refine (bigtopref01.In_any _ _ _ _).mono ?_
            rintro e w' ⟨rfl, rfl⟩
            cases q4 : withinB dp 1 3000 with
            | false =>
              go_wp2
              go_ret
              exact ⟨by simp [guyB, hx, q0, q1, q2, q3, q4], (by repeat (first | (with_reducible assumption) | (with_reducible exact Step.refl _) | (with_reducible apply Step.s_alloc) | (with_reducible apply Step.s_drew) | (with_reducible apply Step.s_drewN) | (with_reducible refine Step.trans ?_ (by with_reducible assumption))))⟩
            | true =>
              go_wp2
              go_ret
              exact ⟨by simp [guyB, hx, q0, q1, q2, q3, q4], (by repeat (first | (with_reducible assumption) | (with_reducible exact Step.refl _) | (with_reducible apply Step.s_alloc) | (with_reducible apply Step.s_drew) | (with_reducible apply Step.s_drewN) | (with_reducible refine Step.trans ?_ (by with_reducible assumption))))⟩

set_option maxHeartbeats 2000000 in
theorem TestsFault_any (S : Nat → Prop) (l : List Tst) (v : Value) (w : World) (hv : SL S w v l) : Calls Tryz.prog 22 #[v] w fun e w' => e = .returned (.int .i64 (testsC l)) ∧ Step w w' := by
  have hm := hv.len
  obtain ⟨pv, cv, b, o, rfl, _, _, hp, hc, _⟩ := hv.tsts
  have HP := Lib.hid (And.intro hp hc)
  have HT0 := Lib.hid (Step.refl w)
  clear hp hc hv
  by_cases hl : 40 < l.length
  · have hd : decide ((40 : Int) < (l.length : Int)) = true := by simp; omega
    go_enter Tryz.func22, Tryz.ntmps22
    go_wp2
    go_ret
    exact ⟨by simp [testsC, hl], Step.refl _⟩
  have hd : decide ((40 : Int) < (l.length : Int)) = false := by simp; omega
  have HL := Lib.hid hl
  clear hl
  go_enter Tryz.func22, Tryz.ntmps22
  go_wp2
  go_loopw [3] (fun i wr => ∃ k : Nat, k ≤ l.length ∧ i = .int .i64 k ∧ (∀ j (hj : j < k) (hl : j < l.length), tstB l[j] = true) ∧ Step w wr) (fun i _ => l.length - (intOf i).toNat)
  case atStart => exact ⟨0, Nat.zero_le _, rfl, fun j hj => absurd hj (by omega), HT0.out⟩
  case round =>
    obtain ⟨k, hk, rfl, hno, hT⟩ := hrel
    have HN := Lib.hid hno
    have HT := Lib.hid hT
    clear hno hT
    by_cases hlt : k < l.length
    · obtain rfl := HP.out.1 (by omega)
      obtain ⟨e1, e2, e3, e4⟩ := HP.out.2 k hlt
      have e1 := HT.out.keeps.cell id e1
      have e2 := HT.out.keeps.cell id e2
      have e3 := HT.out.keeps.cell id e3
      have hix : (0 : Int) ≤ (k : Int) ∧ (k : Int) < (l.length : Int) := by omega
      have HB := Lib.hid (fun (h : tstB l[k] = false) => (show testsC l = 1 by unfold testsC; rw [if_neg HL.out, if_neg (by rw [all_miss hlt h]; decide)]))
      obtain ⟨x, hx⟩ : ∃ x, x = l[k] := ⟨_, rfl⟩
      rw [← hx] at e1 e2 e3 HB
      have HX := Lib.hid hx
      clear hx e4
      go_wp2_with fail
      refine (bigtopref01.In_any _ _ _ _).mono ?_
      rintro e w' ⟨rfl, rfl⟩
      cases q0 : withinB x.soil 0 9 with
      | false =>
        have HF := Lib.hid (HB.out (by simp [tstB, q0]))
        go_wp2
        go_ret
        exact ⟨by rw [HF.out]; rfl, HT.out⟩
      | true =>
        go_wp2_with fail
        refine (bigtopref01.In_any _ _ _ _).mono ?_
        rintro e w' ⟨rfl, rfl⟩
        cases q1 : withinB x.depth 1 3000 with
        | false =>
          have HF := Lib.hid (HB.out (by simp [tstB, q0, q1]))
          go_wp2
          go_ret
          exact ⟨by rw [HF.out]; rfl, HT.out⟩
        | true =>
          go_wp2_with fail
          refine (bigtopref01.In_any _ _ _ _).mono ?_
          rintro e w' ⟨rfl, rfl⟩
          cases q2 : withinB x.force 1 5000 with
          | false =>
            have HF := Lib.hid (HB.out (by simp [tstB, q0, q1, q2]))
            go_wp2
            go_ret
            exact ⟨by rw [HF.out]; rfl, HT.out⟩
          | true =>
            have HQ := Lib.hid (show tstB l[k] = true by rw [← HX.out]; simp [tstB, q0, q1, q2])
            go_wp2
            go_roundw
            case rel => exact ⟨k + 1, by omega, by go_num, fun j hj hl => if h : j = k then by subst h; exact HQ.out else HN.out j (by omega) hl, HT.out⟩
            case measure => simp [intOf]; omega
    · have HA := Lib.hid (show testsC l = 0 by unfold testsC; rw [if_neg HL.out, if_pos (all_of fun j hj => HN.out j (by omega) hj)])
      go_wp2
      go_ret
      exact ⟨by rw [HA.out]; rfl, HT.out⟩
set_option maxHeartbeats 4000000 in
theorem Right_any (S : Nat → Prop) (t : List Head) (v : Value) (w : World) (hv : SL S w v t) : Calls Tryz.prog 23 #[v] w fun e w' => e = .returned (.bool (tentB t)) ∧ Step w w' := by
  have hm := hv.len
  obtain ⟨pv, cv, b, o, rfl, _, _, hp, hc, _⟩ := hv.heads
  have HP := Lib.hid (And.intro hp hc)
  have HT0 := Lib.hid (Step.refl w)
  clear hp hc hv
  go_enter Tryz.func23, Tryz.ntmps23
  go_wp2
  go_loopw [3] (fun i wr => ∃ k : Nat, k ≤ t.length ∧ i = .int .i64 k ∧ (∀ j (hj : j < k) (hl : j < t.length), headB t[j] = true) ∧ Step w wr) (fun i _ => t.length - (intOf i).toNat)
  case atStart => exact ⟨0, Nat.zero_le _, rfl, fun j hj => absurd hj (by omega), HT0.out⟩
  case round =>
    obtain ⟨k, hk, rfl, hno, hT⟩ := hrel
    have HN := Lib.hid hno
    have HT := Lib.hid hT
    clear hno hT
    by_cases hlt : k < t.length
    · obtain rfl := HP.out.1 (by omega)
      obtain ⟨c2, e1, e2, e3, e4⟩ := HP.out.2 k hlt
      obtain ⟨pg, cg, bg, og, rfl, _, hgl, hpg, hcg, _⟩ := e4.guys
      have HG := Lib.hid (And.intro hpg hcg)
      have HE := Lib.hid e3
      have e1 := HT.out.keeps.cell id e1
      have e2 := HT.out.keeps.cell id e2
      have e3 := HT.out.keeps.cell id e3
      have hix : (0 : Int) ≤ (k : Int) ∧ (k : Int) < (t.length : Int) := by omega
      have HB := Lib.hid (fun (h : headB t[k] = false) => (show tentB t = false by unfold tentB; rw [all_miss hlt h, Bool.and_false]))
      obtain ⟨x, hx⟩ : ∃ x, x = t[k] := ⟨_, rfl⟩
      rw [← hx] at e1 e2 e3 HB HE HG hgl
      have HX := Lib.hid hx
      clear hx e4 hpg hcg
      go_wp2_with fail
      refine (bigtopref01.In_any _ _ _ _).mono ?_
      rintro e w' ⟨rfl, rfl⟩
      cases q0 : withinB x.area 0 1000 with
      | false =>
        have HF := Lib.hid (HB.out (by simp [headB, q0]))
        go_wp2
        go_ret
        exact ⟨by rw [HF.out]; rfl, HT.out⟩
      | true =>
        go_wp2_with fail
        refine (bigtopref01.In_any _ _ _ _).mono ?_
        rintro e w' ⟨rfl, rfl⟩
        cases q1 : withinB x.bears 0 10000000 with
        | false =>
          have HF := Lib.hid (HB.out (by simp [headB, q0, q1]))
          go_wp2
          go_ret
          exact ⟨by rw [HF.out]; rfl, HT.out⟩
        | true =>
          by_cases h8 : x.guys.length ≤ 8
          rotate_left
          · have hd : decide ((8 : Int) < (x.guys.length : Int)) = true := by simp; omega
            have HF := Lib.hid (HB.out (by simp [headB, h8]))
            clear h8
            go_wp2
            go_ret
            exact ⟨by rw [HF.out]; rfl, HT.out⟩
          have hd : decide ((8 : Int) < (x.guys.length : Int)) = false := by simp; omega
          have H8 := Lib.hid h8
          clear h8
          obtain ⟨wo, hwo⟩ : ∃ W, W = wr := ⟨_, rfl⟩
          subst hwo
          have HQ0 := Lib.hid (And.intro q0 q1)
          go_wp2
          clear e1 e2 e3
          go_loopw [4] (fun i wi => ∃ j : Nat, j ≤ x.guys.length ∧ i = .int .i64 j ∧ (∀ m (hm : m < j) (hl : m < x.guys.length), guyB x.guys[m] = true) ∧ Step w wi) (fun i _ => x.guys.length - (intOf i).toNat)
          case atStart => exact ⟨0, Nat.zero_le _, rfl, fun j hj => absurd hj (by omega), HT.out⟩
          case round =>
            obtain ⟨j, hj, rfl, hno, hT⟩ := hrel
            have HNG := Lib.hid hno
            have HTJ := Lib.hid hT
            clear hno hT
            have e3 := HTJ.out.keeps.cell id HE.out
            by_cases hltj : j < x.guys.length
            · obtain rfl := HG.out.1 (by omega)
              obtain ⟨g1, g2, g3, g4, g5⟩ := HG.out.2 j hltj
              have g1 := HTJ.out.keeps.cell id g1
              have g2 := HTJ.out.keeps.cell id g2
              have g3 := HTJ.out.keeps.cell id g3
              have g4 := HTJ.out.keeps.cell id g4
              have g5 := HTJ.out.keeps.cell id g5
              have hjx : (0 : Int) ≤ (j : Int) ∧ (j : Int) < (x.guys.length : Int) := by omega
              go_wp2_with fail
              refine (RightGuy_any x.guys[j] _).mono ?_
              rintro e w1 ⟨rfl, hS⟩
              have HS1 := Lib.hid (HTJ.out.trans hS)
              clear hS g1 g2 g3 g4 g5 e3
              cases qg : guyB x.guys[j] with
              | false =>
                have HF := Lib.hid (HB.out (by unfold headB; rw [all_miss hltj qg, Bool.and_false]))
                clear qg
                go_wp2
                go_ret
                exact ⟨by rw [HF.out]; rfl, HS1.out⟩
              | true =>
                have HQ := Lib.hid qg
                clear qg
                go_wp2
                go_roundw
                case rel => exact ⟨j + 1, by omega, by go_num, fun m hm hl => if h : m = j then by subst h; exact HQ.out else HNG.out m (by omega) hl, HS1.out⟩
                case measure => simp [intOf]; omega
            · have HQ := Lib.hid (show headB t[k] = true by
                rw [← HX.out]
                unfold headB
                rw [HQ0.out.1, HQ0.out.2, all_of fun m hm => HNG.out m (by omega) hm, decide_eq_true H8.out]; rfl)
              go_wp2
              go_roundw
              case rel => exact ⟨k + 1, by omega, by go_num, fun m hm hl => if h : m = k then by subst h; exact HQ.out else HN.out m (by omega) hl, HTJ.out⟩
              case measure => simp [intOf]; omega
    · have HA := Lib.hid (show tentB t = withinB t.length 1 12 by unfold tentB; rw [all_of fun j hj => HN.out j (by omega) hj, Bool.and_true])
      by_cases h1 : 1 ≤ t.length
      · have hd1 : decide ((1 : Int) ≤ (t.length : Int)) = true := by simp; omega
        by_cases h2 : t.length ≤ 12
        · have hd2 : decide ((t.length : Int) ≤ 12) = true := by simp; omega
          have H1 := Lib.hid (show tentB t = true by rw [HA.out]; unfold withinB; rw [hd1, hd2]; rfl)
          clear h1 h2
          go_wp2
          go_ret
          exact ⟨by rw [H1.out]; rfl, HT.out⟩
        · have hd2 : decide ((t.length : Int) ≤ 12) = false := by simp; omega
          have H1 := Lib.hid (show tentB t = false by rw [HA.out]; unfold withinB; rw [hd1, hd2]; rfl)
          clear h1 h2
          go_wp2
          go_ret
          exact ⟨by rw [H1.out]; rfl, HT.out⟩
      · have hd1 : decide ((1 : Int) ≤ (t.length : Int)) = false := by simp; omega
        have H1 := Lib.hid (show tentB t = false by rw [HA.out]; unfold withinB; rw [hd1]; rfl)
        clear h1
        go_wp2
        go_ret
        exact ⟨by rw [H1.out]; rfl, HT.out⟩
end Go.Proofs.YtoanjaidfdkdpaaGreat
/- Walks: clashes by the document; the errors of what is asked. -/
namespace Go.Proofs.YtoanjaidfdkdpaaGreat
set_option linter.unusedSimpArgs false
set_option linter.unusedVariables false
open Go.RowKit Go.BT


end Go.Proofs.YtoanjaidfdkdpaaGreat
/- Walks: the errors of what is asked, and the head that is asked. -/
namespace Go.Proofs.YtoanjaidfdkdpaaGreat
set_option linter.unusedSimpArgs false
set_option linter.unusedVariables false
open Go.RowKit Go.BT

theorem tests_ok {l : List Tst} (h : testsC l = 0) : l.all tstB = true := by
  unfold testsC at h
  split at h
  · simp at h
  · split at h
    · assumption
    · simp at h
theorem tent_ok {t : List Head} (h : tentC t = 0) : tentB t = true := by
  unfold tentC at h
  split at h
  · assumption
  · simp at h
theorem ready_ok {l : List Tst} {t : List Head} (h : readyC l t = 0) : l.all tstB = true ∧ tentB t = true := by
  unfold readyC at h
  split at h
  · rename_i h1; exact ⟨tests_ok h1, tent_ok h⟩
  · rename_i h1; exact absurd h h1
theorem tent_parts {t : List Head} (h : tentB t = true) : (1 ≤ t.length ∧ t.length ≤ 12) ∧ t.all headB = true := by
  simp only [tentB, withinB, Bool.and_eq_true, decide_eq_true_eq] at h
  exact ⟨by omega, h.2⟩
/-- The error of a head that is asked for a push. -/
def atC (l : List Tst) (t : List Head) (i : Int) (r : Bool) : Int := if readyC l t = 0 then (if (withinB i 0 ((t.length : Int) - 1) && r) = true then soundC l else 2) else readyC l t
def headAt (t : List Head) (i : Int) : Head := t.getD i.toNat default
theorem atC_ok {l : List Tst} {t : List Head} {i : Int} {r : Bool} (h : atC l t i r = 0) : l.all tstB = true ∧ tentB t = true ∧ (0 ≤ i ∧ i < t.length) ∧ r = true ∧ clashB l = false := by
  unfold atC at h
  split at h
  · rename_i h1
    obtain ⟨a, b⟩ := ready_ok h1
    split at h
    · rename_i h2
      simp only [withinB, Bool.and_eq_true, decide_eq_true_eq] at h2
      refine ⟨a, b, by omega, h2.2, ?_⟩
      unfold soundC at h
      split at h
      · simp at h
      · rename_i h3; simpa using h3
    · simp at h
  · rename_i h1; exact absurd h h1
theorem headAt_eq {t : List Head} {k : Nat} (hk : k < t.length) : headAt t k = t[k] := by simp [headAt, List.getD_eq_getElem?_getD, hk]
theorem headAt_ok {t : List Head} {i : Int} (ht : tentB t = true) (hi : 0 ≤ i ∧ i < t.length) : headB (headAt t i) = true := by
  obtain ⟨k, rfl⟩ : ∃ k : Nat, i = k := ⟨i.toNat, by omega⟩
  rw [headAt_eq (by omega)]
  exact all_get (tent_parts ht).2 (by omega)
theorem Fault_any (S : Nat → Prop) (l : List Tst) (t : List Head) (v u : Value) (w : World) (hv : SL S w v l) (hu : SL S w u t) :
    Calls Tryz.prog 5 #[v, u] w fun e w' => e = .returned (.int .i64 (readyC l t)) ∧ Step w w' := by
  have HU := Lib.hid hu
  have hcall := Lib.hid (TestsFault_any S l v w hv)
  obtain ⟨pv, cv, rfl⟩ := hv.form
  obtain ⟨pu, cu, rfl⟩ := hu.form
  clear hv hu
  go_enter Tryz.func5, Tryz.ntmps5
  go_wp2_with fail
  refine hcall.out.mono ?_
  rintro e w1 ⟨rfl, hS⟩
  have HS := Lib.hid hS
  obtain ⟨c, hc⟩ : ∃ c, c = testsC l := ⟨_, rfl⟩
  rw [← hc]
  have HC := Lib.hid hc
  clear hcall hc hS
  by_cases h0 : c = 0
  · subst h0
    go_wp2_with fail
    refine (Right_any S t _ _ (HU.out.keep (.of_step HS.out))).mono ?_
    rintro e w2 ⟨rfl, hS2⟩
    cases q : tentB t with
    | true =>
      have HQ := Lib.hid (show readyC l t = 0 by unfold readyC tentC; rw [← HC.out, if_pos rfl, if_pos q])
      clear q
      go_wp2
      go_ret
      exact ⟨by rw [HQ.out]; rfl, HS.out.trans hS2⟩
    | false =>
      have HQ := Lib.hid (show readyC l t = 1 by unfold readyC tentC; rw [← HC.out, if_pos rfl, if_neg (by rw [q]; decide)])
      clear q
      go_wp2
      go_ret
      exact ⟨by rw [HQ.out]; rfl, HS.out.trans hS2⟩
  · have hd : (c != 0) = true := by simpa using h0
    have HQ := Lib.hid (show readyC l t = c by unfold readyC; rw [← HC.out, if_neg h0])
    clear h0
    go_wp2
    go_ret
    exact ⟨by rw [HQ.out]; rfl, HS.out⟩
theorem ready_any (S : Nat → Prop) (l : List Tst) (t : List Head) (v u : Value) (w : World) (hv : SL S w v l) (hu : SL S w u t) :
    Calls Tryz.prog 64 #[v, u] w fun e w' => e = .returned (.int .i64 (readyC l t)) ∧ Step w w' := by
  have HU := Lib.hid hu
  have hcall := Lib.hid (CheckTests_any S l v w hv)
  obtain ⟨pv, cv, rfl⟩ := hv.form
  obtain ⟨pu, cu, rfl⟩ := hu.form
  clear hv hu
  go_enter Tryz.func64, Tryz.ntmps64
  go_wp2_with fail
  refine hcall.out.mono ?_
  rintro e w1 ⟨rfl, hS⟩
  have HS := Lib.hid hS
  obtain ⟨c, hc⟩ : ∃ c, c = testsC l := ⟨_, rfl⟩
  rw [← hc]
  have HC := Lib.hid hc
  clear hcall hc hS
  by_cases h0 : c = 0
  · subst h0
    go_wp2_with fail
    refine (CheckTent_any S t _ _ (HU.out.keep (.of_step HS.out))).mono ?_
    rintro e w2 ⟨rfl, hS2⟩
    have HQ := Lib.hid (show readyC l t = tentC t by unfold readyC; rw [← HC.out, if_pos rfl])
    go_wp2
    go_ret
    exact ⟨by rw [HQ.out]; rfl, HS.out.trans hS2⟩
  · have hd : (c != 0) = true := by simpa using h0
    have HQ := Lib.hid (show readyC l t = c by unfold readyC; rw [← HC.out, if_neg h0])
    clear h0
    go_wp2
    go_ret
    exact ⟨by rw [HQ.out]; rfl, HS.out⟩
/-- The form of a head with forces. -/
def MF (v : Value) : Prop := ∃ (a b : Int) (p2 : Option Addr) (n2 k2 : Nat) (p3 : Option Addr) (n3 k3 : Nat), v = .agg #[.int .i64 a, .int .i64 b, .slice p2 n2 k2, .slice p3 n3 k3]
theorem MVS.mf {S : Nat → Prop} {w : World} {v : Value} {area : Int} {F : List Vec} (h : MVS S w v area F) : MF v := by
  obtain ⟨b, p2, n2, k2, p3, k3, e, _⟩ := h
  exact ⟨area, b, p2, n2, k2, p3, F.length, k3, e⟩

end Go.Proofs.YtoanjaidfdkdpaaGreat
/- Walks: the reach of a head, by the document. -/
namespace Go.Proofs.YtoanjaidfdkdpaaGreat
set_option linter.unusedSimpArgs false
set_option linter.unusedVariables false
open Go.RowKit Go.BT

theorem corner_in {v : Vec} (h : cornerB v = true) : inV 10000 v := by
  simp only [cornerB, withinB, Bool.and_eq_true, decide_eq_true_eq] at h
  exact h
theorem times_in {v : Vec} {n A N : Int} (hv : inV A v) (hn : 0 ≤ n ∧ n ≤ N) : inV (N * A) (timesV v n) := ⟨mul_in ⟨by omega, hn.2⟩ hv.1, mul_in ⟨by omega, hn.2⟩ hv.2⟩
theorem in_fits {v : Vec} {A : Int} (hv : inV A v) (hA : A ≤ 4000000000000000000) : fits v.x ∧ fits v.y := by unfold inV at hv; unfold fits; omega
/-- Behind k, by m, nothing is balanced. -/
def Ends (F : List Vec) (q : Vec) (k m : Int) : Prop := 10000 < k + m ∨ balL F (timesV q (k + m)) = false
theorem Ends.more {F : List Vec} {q : Vec} {k m d : Int} (h : Ends F q k m) (hk : 0 ≤ k + m) (hd : 0 ≤ d) : Ends F q (k + d) m := by
  rcases h with h | h
  · exact .inl (by omega)
  · refine .inr ?_
    cases hb : balL F (timesV q (k + d + m)) with
    | false => rfl
    | true => rw [bal_mono hb hk (by omega)] at h; exact absurd h (by decide)
theorem Ends.reach {F : List Vec} {q : Vec} {k : Int} (h : Ends F q k 1) (h0 : 0 ≤ k) (h1 : k ≤ 10000) (hb : balL F (timesV q k) = true) : IsReach F q k :=
  ⟨h0, h1, hb, fun hl => h.resolve_left (by omega)⟩
theorem pow_half {n : Nat} : (2 : Int) ^ (n + 1) / 2 = 2 ^ n := by rw [Int.pow_succ]; omega
theorem pow_le13 : ∀ n : Nat, n ≤ 13 → 1 ≤ (2 : Int) ^ n ∧ (2 : Int) ^ n ≤ 8192 := by decide
end Go.Proofs.YtoanjaidfdkdpaaGreat
/- Walks: the reach of a head: the program's way. -/
namespace Go.Proofs.YtoanjaidfdkdpaaGreat
set_option linter.unusedSimpArgs false
set_option linter.unusedVariables false
open Go.RowKit Go.BT

theorem atC_false {l : List Tst} {t : List Head} {i : Int} : atC l t i false ≠ 0 := fun h => by
  have := (atC_ok h).2.2.2.1
  exact absurd this (by decide)
/-- A direction that may be asked for its reach. -/
def wayB (v : Vec) : Bool := cornerB v && !veq v.x v.y 0 0



end Go.Proofs.YtoanjaidfdkdpaaGreat
/- Walks: whether a balance is one, and whether a direction is a weakness, by the document. -/
namespace Go.Proofs.YtoanjaidfdkdpaaGreat
set_option linter.unusedSimpArgs false
set_option linter.unusedVariables false
open Go.RowKit Go.BT

theorem canvas.within_step (n lo hi : Int) (w : World) : Calls Tryz.prog 49 #[.int .i64 n, .int .i64 lo, .int .i64 hi] w fun e w' => e = .returned (.bool (withinB n lo hi)) ∧ Step w w' :=
  (canvas.within_any n lo hi w).mono fun _ _ ⟨h1, h2⟩ => ⟨h1, h2 ▸ Step.refl _⟩
theorem bigtopref01.In_step (n lo hi : Int) (w : World) : Calls Tryz.prog 24 #[.int .i64 n, .int .i64 lo, .int .i64 hi] w fun e w' => e = .returned (.bool (withinB n lo hi)) ∧ Step w w' :=
  (bigtopref01.In_any n lo hi w).mono fun _ _ ⟨h1, h2⟩ => ⟨h1, h2 ▸ Step.refl _⟩
/-- The sums of the first k parts. -/
def sxK (F : List Vec) (ps : List Int) (k : Nat) : Int := Zono.sumN k fun i => ps.getD i 0 * (atV F i).x
def syK (F : List Vec) (ps : List Int) (k : Nat) : Int := Zono.sumN k fun i => ps.getD i 0 * (atV F i).y
theorem sxK_next {F : List Vec} {ps : List Int} {k : Nat} (h1 : k < F.length) (h2 : k < ps.length) : sxK F ps (k + 1) = sxK F ps k + ps[k] * F[k].x := by
  simp [sxK, Zono.sumN, atV, List.getD_eq_getElem?_getD, h1, h2]
theorem syK_next {F : List Vec} {ps : List Int} {k : Nat} (h1 : k < F.length) (h2 : k < ps.length) : syK F ps (k + 1) = syK F ps k + ps[k] * F[k].y := by
  simp [syK, Zono.sumN, atV, List.getD_eq_getElem?_getD, h1, h2]
theorem part_in {a p P : Int} (ha : -500000 ≤ a ∧ a ≤ 500000) (hp : 0 ≤ p ∧ p ≤ P) (hP : P ≤ 500000000000) : -250000000000000000 ≤ p * a ∧ p * a ≤ 250000000000000000 := by
  have := mul_in (A := 500000000000) (B := 500000) (show -500000000000 ≤ p ∧ p ≤ 500000000000 by omega) ha
  omega
theorem within_iff {n lo hi : Int} : withinB n lo hi = true ↔ lo ≤ n ∧ n ≤ hi := by simp [withinB]
theorem sK_bound {F : List Vec} {ps : List Int} {W : Int} (hF : smallV F) (hl : ps.length = F.length) (hW : W ≤ 500000000000) : ∀ k, k ≤ F.length → (∀ j (hj : j < k) (hl : j < ps.length), withinB ps[j] 0 W = true) →
    (-(k * 250000000000000000) ≤ sxK F ps k ∧ sxK F ps k ≤ k * 250000000000000000) ∧ -(k * 250000000000000000) ≤ syK F ps k ∧ syK F ps k ≤ k * 250000000000000000
  | 0, _, _ => by simp [sxK, syK, Zono.sumN]
  | k + 1, hk, h => by
    have ih := sK_bound hF hl hW k (by omega) (fun j hj hl => h j (by omega) hl)
    rw [sxK_next (by omega) (by omega), syK_next (by omega) (by omega)]
    have hs := small_get hF (show k < F.length by omega)
    have hp := within_iff.1 (h k (by omega) (by omega))
    have a := part_in hs.1 hp hW
    have b := part_in hs.2 hp hW
    omega
theorem isBal_whole {F : List Vec} {p : Vec} {b : Bal} (h : withinB b.whole 1 500000000000 = false) : isBalL F p b = false := by simp [isBalL, h]
theorem isBal_len {F : List Vec} {p : Vec} {b : Bal} (h : b.parts.length ≠ F.length) : isBalL F p b = false := by simp [isBalL, h]
theorem isBal_part {F : List Vec} {p : Vec} {b : Bal} {k : Nat} (hk : k < b.parts.length) (h : withinB b.parts[k] 0 b.whole = false) : isBalL F p b = false := by
  have : b.parts.all (fun t => withinB t 0 b.whole) = false := by
    rw [List.all_eq_false]; exact ⟨_, List.getElem_mem hk, by rw [h]; decide⟩
  simp [isBalL, this]
theorem isBal_end {F : List Vec} {p : Vec} {b : Bal} (h1 : withinB b.whole 1 500000000000 = true) (h2 : b.parts.length = F.length) (h3 : ∀ j (hj : j < F.length) (hl : j < b.parts.length), withinB b.parts[j] 0 b.whole = true) :
    isBalL F p b = (decide (b.whole * p.x + sxK F b.parts F.length = 0) && decide (b.whole * p.y + syK F b.parts F.length = 0)) := by
  have : b.parts.all (fun t => withinB t 0 b.whole) = true := by
    rw [List.all_eq_true]; intro t ht
    obtain ⟨j, hj, rfl⟩ := List.getElem_of_mem ht
    exact h3 j (by omega) hj
  unfold isBalL
  rw [h1, this]
  simp [h2, sumPX, sumPY, sxK, syK]
end Go.Proofs.YtoanjaidfdkdpaaGreat
/- Walks: the parts of all guys, and what a stake holds, with errors; the tests of the example. -/
namespace Go.Proofs.YtoanjaidfdkdpaaGreat
set_option linter.unusedSimpArgs false
set_option linter.unusedVariables false
open Go.RowKit Go.BT

def partsC (l : List Tst) (t : List Head) : Int := if readyC l t = 0 then soundC l else readyC l t
def rowL (l : List Tst) (h : Head) : List Int := h.guys.map (partL l)
def partsLL (l : List Tst) (t : List Head) : List (List Int) := t.map (rowL l)
def partsR (l : List Tst) (t : List Head) : List (List Int) := if partsC l t = 0 then partsLL l t else []
end Go.Proofs.YtoanjaidfdkdpaaGreat
/- A region that draws its order, walked in one order, within the wide fence, and within a round of a range over a function. -/
namespace Go.BT
open Go.RowKit

/-- The wide fence, in a round or in none. -/
def FW (ro : Option Nat) : Fence := { Fence.wide with round := ro }
@[simp] theorem FW_round (ro : Option Nat) : (FW ro).round = ro := rfl
@[simp] theorem FW_depth (ro : Option Nat) : (FW ro).depth = none := rfl
@[simp] theorem FW_fn (ro : Option Nat) (f : FuncId) : (FW ro).fn f = True := rfl
@[simp] theorem FW_inRound (ro : Option Nat) (l : Nat) : (FW ro).inRound l = FW (some l) := rfl
@[simp] theorem semAt_FW (ρ : Operand → Value) (o : Oper) : Oper.semAt none ρ o = execOp ρ o := rfl
theorem callsIn_FW {ro : Option Nat} {n : Nat} {P : Program} {f : FuncId} {args : Array Value} {w : World} {R : Ending → World → Prop} (h : Calls P f args w R) : CallsIn (FW ro) n P f args w R := by
  have h' : CallsIn Fence.wide n P f args w R := callsIn_wide.2 h
  cases ro with
  | none => exact h'
  | some l => exact CallsIn.inRound l h'
theorem rowsIn_FW {ro : Option Nat} {n : Nat} {P : Program} {row : String} {args : Array Value} {w : World} {R : Value → World → Prop} (h : Rows P row args w R) : RowsIn (FW ro) n P row args w R := fun c cs _ => by
  obtain ⟨v, w', r, s⟩ := h c cs
  exact ⟨v, w', r, (StepsIn.of_steps s).mono fun m _ => fenced_wide P m⟩

section
variable {P : Program} {ops : Array Oper} {X : Nat → Prop} {base : Nat} {kd : Nat → Kd} {ro : Option Nat} {n : Nat}
def noDefer (ops : Array Oper) : Bool := ops.all fun o => match o.op with
  | .defer _ => false
  | _ => true
theorem wpOpIn_of (hnd : noDefer ops = true) {Q : Exit → Act → World → Prop} {j : Nat} {K : Act → World → Prop} {a : Act} {w : World} (h : wpOp P ops QF j K a w) : wpOpIn (FW ro) n P ops Q j K a w := by
  unfold wpOp at h
  unfold wpOpIn
  cases ho : ops[j]? with
  | none => simp only [ho] at h; exact h
  | some o =>
    simp only [ho] at h ⊢
    have hd : ∀ c, o.op ≠ .defer c := fun c hc => by
      have := Array.all_eq_true'.1 hnd o (Array.mem_of_getElem? ho)
      simp [hc] at this
    have hsem : o.semAt (FW ro).round a.eval = execOp a.eval o := by
      unfold Oper.semAt
      cases ro with
      | none => rfl
      | some l =>
        show (match some l, o.op with | some l, .defer c => _ | _, _ => _) = _
        split
        · rename_i c _ hc; exact (hd _ hc).elim
        · rfl
    split
    · rename_i hw
      simp only [hw, if_true] at h
      rcases h with h | ⟨_, a0, w0, hF⟩
      case inr => exact hF.elim
      unfold Oper.wp at h
      refine ⟨fun f _ => trivial, ?_⟩
      rw [hsem]
      generalize (execOp a.eval o).run P w = r at *
      cases r with
      | ok x w' =>
        cases x <;> simp only [Oper.upon, Oper.uponIn] at h ⊢ <;> first
          | exact h
          | exact ⟨fun hs => absurd hs (by simp [FW, Fence.wide]), callsIn_FW (Calls.mono h fun e w'' he => by cases e <;> first | exact he | exact he.elim | (obtain ⟨_, _, hF⟩ := he; exact hF.elim))⟩
          | exact ⟨fun hs => absurd hs (by simp [FW, Fence.wide]), rowsIn_FW h⟩
      | halt x w' => cases x <;> simp only [Oper.upon] at h <;> exact h.elim
    · rename_i hw
      simp only [hw] at h
      exact ⟨fun f _ => trivial, h⟩
def K0I (P : Program) (ops : Array Oper) (X : Nat → Prop) (ro : Option Nat) (n : Nat) (Q : Exit → Act → World → Prop) (t : List Nat) : Cont := fun _ a w => ∀ W, StepX X w W → wpOpsIn (FW ro) n P ops Q t a W
theorem K0I_mono {Q : Exit → Act → World → Prop} (t : List Nat) : ContMono X (K0I P ops X ro n Q t) := fun _ _ _ _ _ _ hs h W hW => h W (hs.trans hW)
variable {tab : List Nat}
theorem tail_soundI {Q : Exit → Act → World → Prop} : ∀ (fuel : Nat) (t : List Nat) (listed : Array Bool) (a : Act) (w : World),
    t.length ≤ fuel → listed.size = ops.size → (∀ i, i < ops.size → (listed.getD i true = false ↔ i ∈ t)) → (∀ i ∈ t, i < ops.size) → t.Nodup → Closed ops listed →
    okTab tab ops = true → TailOk tab [] t → DepsOk ops listed t → wpOpsIn (FW ro) n P ops Q t a w → wpAnyIn (FW ro) n P .any ops Q fuel listed a w := by
  intro fuel
  induction fuel with
  | zero =>
    intro t listed a w hf hsz hun hin hnd hcl htab htail hdeps h
    have ht : t = [] := List.eq_nil_of_length_eq_zero (by omega)
    subst ht
    refine ⟨?_, by simpa [wpOpsIn] using h⟩
    rw [List.eq_nil_iff_forall_not_mem]
    intro j hj
    obtain ⟨h0, o, ho, _⟩ := mem_ready.1 hj
    have := (hun j (Array.getElem?_eq_some_iff.1 ho).1).1 h0
    simp at this
  | succ fuel ih =>
    intro t listed a w hf hsz hun hin hnd hcl htab htail hdeps h
    refine ⟨fun hr => ?_, fun j hj => ?_⟩
    · cases t with
      | nil => simpa [wpOpsIn] using h
      | cons x L =>
        exfalso
        obtain ⟨o, ho, hh⟩ := hdeps [] x L rfl
        have hx : x ∈ Region.ready .any ops listed := mem_ready.2 ⟨(hun x (hin x (by simp))).2 (by simp), o, ho, fun e he hb => (hh e he hb).resolve_right (by simp)⟩
        rw [hr] at hx; cases hx
    · obtain ⟨h0, oj, hoj, hdj⟩ := mem_ready.1 hj
      have hjlt := (Array.getElem?_eq_some_iff.1 hoj).1
      have hjsz : j < listed.size := by omega
      obtain ⟨t1, t2, rfl⟩ := List.append_of_mem ((hun j hjlt).1 h0)
      have ht1 : t1 = [] := by
        rw [List.eq_nil_iff_forall_not_mem]
        intro i hi
        have h1 := anc_listed hsz hcl htab j i oj hoj hdj (htail t1 j t2 rfl i (by simp [hi]))
        have h2 := (hun i (hin i (by simp [hi]))).2 (by simp [hi])
        rw [getD_tf (by rw [hsz]; exact hin i (by simp [hi])), h1] at h2
        cases h2
      subst ht1
      rw [List.nil_append, wpOpsIn_cons] at h
      refine wpOpIn_mono (fun a' w' hk => ?_) h
      have hnd' := nodup_mid hnd
      refine ih t2 _ a' w' (by simp at hf; omega) (by simp [hsz]) (by have := unlisted_drop (L1 := []) (L2 := t2) hjsz hun hnd; simpa using this) (fun i hi => hin i (by simp [hi])) (by simpa using hnd'.2)
        (closed_set hjsz hoj hdj hcl) htab (fun u1 x u2 he y hy => htail (j :: u1) x u2 (by simp [he]) y (by simp at hy ⊢; exact .inr hy)) (by have := depsOk_drop (L1 := []) (L2 := t2) hjsz hdeps; simpa using this) hk

theorem seq_soundI (hX : ∀ j, X j → j < base) {Q : Exit → Act → World → Prop} (hdf : noDefer ops = true) (hsel : Region.noSelect ops = true) : ∀ (fuel : Nat) (l t : List Nat) (listed : Array Bool) (N : Nat → Prop) (a : Act) (w : World),
    l.length + t.length ≤ fuel → listed.size = ops.size → (∀ i, i < ops.size → (listed.getD i true = false ↔ i ∈ l ++ t)) → (∀ i ∈ l ++ t, i < ops.size) → (l ++ t).Nodup → Closed ops listed →
    okTab tab ops = true → okList tab ops kd l = true → (∀ y ∈ l, ∀ x ∈ t, ancB tab y x = true) → TailOk tab [] t → DepsOk ops listed (l ++ t) → okAlloc ops kd l = true → (∀ i T z, i ∈ l → kd i = .alloc T z → Makes P ops i T z) →
    (∀ g, w.heap.size ≤ g → N g) → base ≤ w.heap.size → run P ops X base kd l (K0I P ops X ro n Q t) N a w → wpAnyIn (FW ro) n P .any ops Q fuel listed a w := by
  intro fuel
  induction fuel with
  | zero =>
    intro l t listed N a w hf hsz hun hin hnd hcl htab _ _ htail hdeps _ _ _ _ h
    have hl : l = [] := List.eq_nil_of_length_eq_zero (by omega)
    subst hl
    exact tail_soundI 0 t listed a w (by simpa using hf) hsz hun hin hnd hcl htab htail hdeps (h w (StepX.refl _ w))
  | succ fuel ih =>
    intro l t listed N a w hf hsz hun hin hnd hcl htab hlist hwait htail hdeps halloc hz hN hbase h
    by_cases hl : l = []
    · subst hl
      exact tail_soundI _ t listed a w (by simpa using hf) hsz hun hin hnd hcl htab htail hdeps (h w (StepX.refl _ w))
    refine ⟨fun hr => ?_, fun j hj => ?_⟩
    · -- nothing may come up: but something is left
      exfalso
      cases l with
      | nil => exact hl rfl
      | cons x L =>
        obtain ⟨o, ho, hh⟩ := hdeps [] x (L ++ t) (by simp)
        have hx : x ∈ Region.ready .any ops listed := mem_ready.2 ⟨(hun x (hin x (by simp))).2 (by simp), o, ho, fun e he hb => (hh e he hb).resolve_right (by simp)⟩
        rw [hr] at hx; cases hx
    · obtain ⟨h0, oj, hoj, hdj⟩ := mem_ready.1 hj
      have hjlt := (Array.getElem?_eq_some_iff.1 hoj).1
      have hjsz : j < listed.size := by omega
      have hjm := (hun j hjlt).1 h0
      have hcl' := closed_set hjsz hoj hdj hcl
      have notanc : ∀ i ∈ l ++ t, ancB tab i j = true → False := fun i hi ha => by
        have h1 := anc_listed hsz hcl htab j i oj hoj hdj ha
        have h2 := (hun i (hin i hi)).2 hi
        rw [getD_tf (by rw [hsz]; exact hin i hi), h1] at h2
        cases h2
      rcases List.mem_append.1 hjm with hjl | hjt
      · -- one of the first part
        obtain ⟨l1, l2, rfl⟩ := List.append_of_mem hjl
        obtain ⟨hlist', hpair⟩ := okList_drop hlist
        have hall : ∀ i ∈ l1, ∃ oi, ops[i]? = some oi ∧ oi.apart ops oj = true ∧ swaps (kd i) (kd j) = true := fun i hi => by
          have hp := hpair i hi
          simp only [okPair, Bool.or_eq_true] at hp
          rcases hp with hp | hp
          · exact (notanc i (by simp [hi]) hp).elim
          · cases hoi : ops[i]? with
            | none => simp [hoi] at hp
            | some oi =>
              simp only [hoi, hoj, Bool.and_eq_true] at hp
              exact ⟨oi, rfl, hp.1, hp.2⟩
        have hb := bring hX (K0I_mono t) hsel hoj l1 l2 N a w hall h
        have he : (l1 ++ j :: l2) ++ t = l1 ++ j :: (l2 ++ t) := by simp
        have next : ∀ (N' : Nat → Prop) (a' : Act) (w' : World), (∀ g, w'.heap.size ≤ g → N' g) → w.heap.size ≤ w'.heap.size → run P ops X base kd (l1 ++ l2) (K0I P ops X ro n Q t) N' a' w' → wpAnyIn (FW ro) n P .any ops Q fuel (listed.setIfInBounds j true) a' w' :=
          fun N' a' w' hN' hsz' hr => ih (l1 ++ l2) t _ N' a' w' (by simp at hf ⊢; omega) (by simp [hsz]) (by have := unlisted_drop (L1 := l1) (L2 := l2 ++ t) hjsz (by rw [← he]; exact hun) (by rw [← he]; exact hnd); simpa using this)
            (fun i hi => hin i (by simp only [List.mem_append, List.mem_cons] at hi ⊢; rcases hi with (hi | hi) | hi <;> simp [hi]))
            (by have := (nodup_mid (by rw [← he]; exact hnd)).2; simpa using this) hcl' htab hlist' (fun y hy x hx => hwait y (by simp only [List.mem_append, List.mem_cons] at hy ⊢; rcases hy with hy | hy <;> simp [hy]) x hx) htail
            (by have := depsOk_drop (L1 := l1) (L2 := l2 ++ t) hjsz (by rw [← he]; exact hdeps); simpa using this)
            (by simp only [okAlloc, List.all_eq_true, List.mem_append, List.mem_cons] at halloc ⊢; exact fun x hx => halloc x (hx.elim .inl (fun h => .inr (.inr h))))
            (fun i T z hi => hz i T z (by simp only [List.mem_append, List.mem_cons] at hi ⊢; rcases hi with hi | hi <;> simp [hi])) hN' (by omega) hr
        cases hk : kd j with
        | silent =>
          simp only [go, hk] at hb
          obtain ⟨o, v, ho, hy, hr⟩ := hb
          exact wpOpIn_of hdf (hy.wpOp (Q := QF) ho (StepX.refl _ w) (next N _ w hN (Nat.le_refl _) hr))
        | chain =>
          simp only [go, hk] at hb
          exact wpOpIn_of hdf (wpOp_mono (fun a' w' ⟨hs, hr⟩ => next _ a' w' (fun g hg => ⟨hN g (Nat.le_trans hs.size hg), .inr hg⟩) hs.size hr) (hb w (StepX.refl _ w)))
        | alloc T z =>
          simp only [go, hk] at hb
          have hal := halloc
          simp only [okAlloc, List.all_eq_true] at hal
          have hal := hal j (by simp)
          simp only [hk, hoj, Bool.and_eq_true] at hal
          obtain ⟨hg, hop⟩ := hal
          refine wpOpIn_of hdf (wpOp_alloc (Q := QF) hoj hop (by simpa using hg) (hz j T z (by simp) hk) ?_)
          have hd : (ops[j]?).bind (·.dst) = oj.dst := by rw [hoj]; rfl
          rw [hd] at hb
          exact next _ _ _ (fun g hgg => ⟨hN g (by simp at hgg; omega), by simp at hgg; omega⟩) (by simp) (hb (w.alloc (.cells (madeC z) T)) w.heap.size (.of (Step.alloc _ _)) (heap_alloc_new w _) hbase (hN _ (Nat.le_refl _)))
      · exfalso
        obtain ⟨t1, t2, rfl⟩ := List.append_of_mem hjt
        cases l with
        | nil => exact hl rfl
        | cons x L => exact notanc x (by simp) (hwait x (by simp) j (by simp))

theorem wpIn_region_seq {id : Nat} {Q : Exit → Act → World → Prop} {a : Act} {w : World} (X : Nat → Prop) (hX : ∀ j, X j → j < w.heap.size) (kd : Nat → Kd) (tab l t : List Nat) (hm : P.follows .mixedOrders = true) (hdf : noDefer ops = true) (hok : okSeq true tab ops kd l t = true)
    (hz : ∀ i T z, i ∈ l → kd i = .alloc T z → Makes P ops i T z)
    (h : ∀ W, StepX X w W → run P ops X w.heap.size kd l (K0I P ops X ro n Q t) (fun _ => True) a W) : (Code.region id ops true).wpIn (FW ro) n P Q a w := by
  simp only [okSeq, Bool.and_eq_true, List.all_eq_true, decide_eq_true_eq, List.mem_range, List.contains_iff_mem] at hok
  obtain ⟨⟨⟨⟨⟨⟨⟨⟨⟨h0, h1⟩, h9⟩, h2⟩, h3⟩, h4⟩, h5⟩, h6⟩, h7⟩, h8⟩ := hok
  refine wpIn_region_any hm ?_
  refine seq_soundI (base := w.heap.size) (kd := kd) hX hdf h5 ops.size l t _ (fun _ => True) a w.drew ?_ (by simp) ?_ h7 h8 ?_ h0 h1 (fun y hy x hx => by have := h9 y hy x hx; simpa [okWait] using this) (tailOk_of h2) ?_ h4 hz (fun _ _ => trivial) (by simp) (h w.drew (.of (Step.drew w)))
  · -- no more than the region has
    have hsub : (l ++ t).length ≤ (List.range ops.size).length := h8.length_le_of_subset (fun i hi => List.mem_range.2 (h7 i hi))
    simpa using hsub
  · intro i hi
    simp only [Array.getD_eq_getD_getElem?, Array.getElem?_replicate, hi, if_true, Option.getD_some, true_iff]
    exact h6 i hi
  · intro x o ho hx
    have hlt := (Array.getElem?_eq_some_iff.1 ho).1
    simp [hlt] at hx
  · intro L1 x L2 he
    obtain ⟨o, ho, hh⟩ := depsOk_of (listed := Array.replicate ops.size false) h3 L1 x L2 he
    exact ⟨o, ho, by simpa using hh⟩


theorem runI_end {N : Nat → Prop} {a : Act} {w : World} {Q : Exit → Act → World → Prop} {t : List Nat} {L : List Oper} (ht : t.map (fun i => ops.toList[i]?) = L.map some) (h : ∀ W, StepX X w W → wpListIn (FW ro) n P ops Q L a W) : run P ops X base kd [] (K0I P ops X ro n Q t) N a w := by
  intro W hW
  have h' := h W hW
  clear h hW
  show wpOpsIn (FW ro) n P ops Q t a W
  induction t generalizing L a W with
  | nil =>
    cases L with
    | nil => exact h'
    | cons _ _ => simp at ht
  | cons x t ih =>
    cases L with
    | nil => simp at ht
    | cons o L =>
      simp only [List.map_cons, List.cons.injEq, Array.getElem?_toList] at ht
      rw [wpOpsIn_cons]
      unfold wpOpIn
      unfold wpListIn at h'
      simp only [ht.1]
      split
      · rename_i hw
        rw [if_pos hw] at h'
        exact Oper.wpIn_mono (fun a' w' hh => ih (by simpa using ht.2) w' hh) h'
      · rename_i hw
        rw [if_neg hw] at h'
        exact ⟨h'.1, ih (by simpa using ht.2) W h'.2⟩
end

section
variable {α : Type} [Rep α] {S : Nat → Prop} {base : Nat} {P : Program} {w : World} {v u : Value} {l m : List α} {t e : TypeId} {z : Value} {bytes : Nat} {ro : Option Nat} {nn : Nat}
theorem wplI_append {ops : Array Oper} {rest : List Oper} {o : Oper} {a : Act} {Q : Exit → Act → World → Prop} (ei : EI P t e z (Rep.k α) bytes) (hgd : o.guard = none) (s x : Operand)
    (ho : o.op = .call { callee := .builtin .append, args := #[s, x], argTypes := #[t, t] }) (hs : a.eval s = v) (hx : a.eval x = u) (hown : OwnL S base e w v l) (hu : SLe (avoid S v) w u m)
    (n : Nat) (hn : l.length + m.length = n) (lm : List α) (hlm : l ++ m = lm) (h63 : n ≤ maxLen) (hbytes : n * bytes ≤ 140737488355328) (hbase : base ≤ w.heap.size)
    (h : ∀ p c w', OwnL S base e w' (.slice p n c) lm → w.grownBy w' v.ownBlock → wpListIn (FW ro) nn P ops Q rest (a.put o.dst (.slice p n c)) w') : wpListIn (FW ro) nn P ops Q (o :: rest) a w := by
  obtain ⟨p, c, w', hr, h2, h3⟩ := run_append_L ei o.type hown hu n hn lm hlm h63 hbytes hbase
  have hw : Region.wanted o (yielded ops a.tmps) = true := by simp [Region.wanted, hgd]
  have hsem : o.semAt (FW ro).round a.eval = execOp a.eval o := by
    unfold Oper.semAt
    cases ro with
    | none => rfl
    | some l => simp [ho]
  unfold wpListIn
  rw [if_pos hw]
  refine ⟨fun f _ => trivial, ?_⟩
  rw [hsem]
  unfold execOp
  simp only [ho, resolve, invoke, builtin, Sem.run_bind, Sem.run_pure, Result.andThen_ok, List.map_toArray, List.map_cons, List.map_nil, hs, hx, hr]
  exact h p c w' h2 h3
end
end Go.BT
/- Walks: all sets of so many guys. -/
namespace Go.Proofs.YtoanjaidfdkdpaaGreat
set_option linter.unusedSimpArgs false
set_option linter.unusedVariables false
open Go.RowKit Go.BT
attribute [local go_sem] Oper.semAt_some

def manyN : Nat := 1000000
theorem manyN_eq : manyN = 1000000 := rfl
attribute [irreducible] manyN
abbrev SetNo (n : Nat) := { s : Nat // s < 2 ^ n }
theorem abides_step {β : Type} {B : Nat} {J : β → World → Prop} (hJ : AbidesFrom B J) {s : β} {W W' : World} (h : J s W) (hs : Step W W') : J s W' :=
  hJ s W W' none h ⟨hs.os, hs.tape, hs.output, hs.size, fun j hj _ => hs.block j hj id⟩ (fun r e => by cases e)
end Go.Proofs.YtoanjaidfdkdpaaGreat
/- Walks: sums of vectors; the full pull of a set. -/
namespace Go.Proofs.YtoanjaidfdkdpaaGreat
set_option linter.unusedSimpArgs false
set_option linter.unusedVariables false
open Go.RowKit Go.BT

def sumL (l : List Vec) : Vec := l.foldl addV ⟨0, 0⟩
theorem sum_take {l : List Vec} {k : Nat} (hk : k < l.length) : sumL (l.take (k + 1)) = addV (sumL (l.take k)) l[k] := by
  unfold sumL
  rw [List.take_succ_eq_append_getElem hk, List.foldl_append]; rfl
theorem and_one : ∀ n : Fin 256, bits .and .i64 ((n.val : Nat) : Int) 1 = ((n.val % 2 : Nat) : Int) := by decide +kernel
theorem bit_eq {s k : Nat} (hs : s < 256) : bits .and .i64 ((s : Int) / 2 ^ k) 1 = if bitB s k = true then 1 else 0 := by
  have h1 : ((s : Int) / 2 ^ k) = ((s / 2 ^ k : Nat) : Int) := by simp
  have h2 : s / 2 ^ k < 256 := Nat.lt_of_le_of_lt (Nat.div_le_self _ _) hs
  rw [h1, and_one ⟨s / 2 ^ k, h2⟩]
  unfold bitB
  rw [Nat.testBit_eq_decide_div_mod_eq]
  dsimp only
  have : s / 2 ^ k % 2 = 0 ∨ s / 2 ^ k % 2 = 1 := by omega
  rcases this with h | h <;> simp [h]
end Go.Proofs.YtoanjaidfdkdpaaGreat
/- Walks: the full pull of a set. -/
namespace Go.Proofs.YtoanjaidfdkdpaaGreat
set_option linter.unusedSimpArgs false
set_option linter.unusedVariables false
open Go.RowKit Go.BT

theorem sl_vecs (w : World) (m : List Vec) (hm : m.length ≤ 1000) : SL (fun _ => False) (w.alloc (.cells (cellsV m).toArray 70)) (.slice (some ⟨w.heap.size, 0, none⟩) m.length m.length) m := (own_vecs (fun _ => False) w 70 m hm).slb fun _ _ h => h.elim
theorem sum_two (a b : Vec) : sumL [a, b] = addV a b := by simp [sumL, addV]
theorem sum2_fits {a b : Vec} (ha : inV 1000000000000000000 a) (hb : inV 1000000000000000000 b) : ∀ k, k ≤ [a, b].length → fits (sumL ([a, b].take k)).x ∧ fits (sumL ([a, b].take k)).y := by
  unfold inV at ha hb
  intro k hk
  match k, hk with
  | 0, _ => simp [sumL, fits]
  | 1, _ => simp [sumL, addV, fits]; omega
  | 2, _ => simp [sumL, addV, fits]; omega
theorem full_in {F : List Vec} (hF : smallV F) (s : Nat) : ∀ k : Nat, inV ((k : Int) * 500000) (fullK F s k)
  | 0 => by simp [fullK, inV]
  | k + 1 => by
    have ih := full_in hF s k
    have hf := hF.at k
    obtain ⟨⟨a1, a2⟩, a3, a4⟩ := ih
    obtain ⟨b1, b2, b3, b4⟩ := hf
    unfold fullK
    cases bitB s k with
    | true =>
      refine ⟨⟨?_, ?_⟩, ?_, ?_⟩ <;> simp only [addV, if_true, Int.natCast_add, Int.natCast_one] <;> omega
    | false =>
      refine ⟨⟨?_, ?_⟩, ?_, ?_⟩ <;> simp only [Bool.false_eq_true, if_false, Int.natCast_add, Int.natCast_one] <;> omega
theorem atV_get {F : List Vec} {k : Nat} (hk : k < F.length) : atV F k = F[k] := by simp [atV, List.getD_eq_getElem?_getD, hk]
end Go.Proofs.YtoanjaidfdkdpaaGreat
/- Walks: the parts of a set and of two others. -/
namespace Go.Proofs.YtoanjaidfdkdpaaGreat
set_option linter.unusedSimpArgs false
set_option linter.unusedVariables false
open Go.RowKit Go.BT

/-- A slice of numbers whose cells may be written. -/
def _root_.Go.BT.SLT (S : Nat → Prop) (w : World) (v : Value) (l : List Int) : Prop := SL S w v l ∧ ∀ (b o n c : Nat), v = .slice (some ⟨b, o, none⟩) n c → ∀ i, i < n → w.frozen? ⟨b, o + i, none⟩ = false
theorem _root_.Go.BT.SLT.keep {S : Nat → Prop} {w w' : World} {v : Value} {l : List Int} (h : SLT S w v l) (hk : Keeps S w w') : SLT S w' v l := by
  refine ⟨h.1.keep hk, fun b o n c e i hi => ?_⟩
  have h2 := h.2 b o n c e i hi
  obtain ⟨p, c', b', o', hv, _, _, hp, ha⟩ := h.1
  rw [e] at hv
  injection hv with e1 e2 e3
  have hlt : i < l.length := by omega
  have := hp (by omega)
  rw [← e1] at this
  injection this with this
  injection this with eb eo
  subst eb
  have h3 := ha i hlt
  exact (World.frozen?_of_block (w := w) (hk.2 b h3.1 h3.2.1)).trans h2
theorem _root_.Go.BT.SLT.weak {S T : Nat → Prop} {w : World} {v : Value} {l : List Int} (h : SLT S w v l) (hk : ∀ j, j < w.heap.size → T j → S j) : SLT T w v l := ⟨h.1.weak hk, h.2⟩
theorem _root_.Go.BT.SLT.form {S : Nat → Prop} {w : World} {v : Value} {l : List Int} (h : SLT S w v l) : ∃ p c, v = .slice p l.length c := h.1.form
theorem _root_.Go.BT.SLT.nil (S : Nat → Prop) (w : World) : SLT S w (.slice none 0 0) [] := ⟨SL.nil _ _, fun b o n c e => by cases e⟩
theorem _root_.Go.BT.SLT.bx_ints {S : Nat → Prop} {w : World} {g : Nat} {T : TypeId} {l : List Int} (h : Bx w g (l.map (Value.int .i64)) T) (hs : ¬ S g) (c : Nat) (hc : l.length ≤ c) (hm : l.length ≤ 9223372036854775807) : SLT S w (.slice (some ⟨g, 0, none⟩) l.length c) l :=
  ⟨SL.bx_ints h hs c hc hm, fun b o n c e i _ => by injection e with e _ _; injection e with e; injection e with e1 _; subst e1; exact h.frozen _⟩
/-- A balance as a value, whose parts may be written. -/
def _root_.Go.BT.AVO (S : Nat → Prop) (w : World) (v : Value) (x : Bal) : Prop := ∃ cs, v = .agg cs.toArray ∧ ∃ c1, cs = [.int .i64 x.whole, c1] ∧ SLT S w c1 x.parts
theorem _root_.Go.BT.AVO.bal {S : Nat → Prop} {w : World} {v : Value} {x : Bal} (h : AVO S w v x) : ∃ c1, v = .agg #[.int .i64 x.whole, c1] ∧ SLT S w c1 x.parts := by
  obtain ⟨cs, rfl, c1, rfl, r⟩ := h; exact ⟨c1, rfl, r⟩
theorem _root_.Go.BT.AVO.av {S : Nat → Prop} {w : World} {v : Value} {x : Bal} (h : AVO S w v x) : AV S w v x := by
  obtain ⟨cs, e, c1, e1, r⟩ := h; exact ⟨cs, e, c1, e1, r.1⟩
theorem _root_.Go.BT.AVO.keep {S : Nat → Prop} {w w' : World} {v : Value} {x : Bal} (h : AVO S w v x) (hk : Keeps S w w') : AVO S w' v x := by
  obtain ⟨cs, e, c1, e1, r⟩ := h; exact ⟨cs, e, c1, e1, r.keep hk⟩
theorem _root_.Go.BT.AVO.weak {S T : Nat → Prop} {w : World} {v : Value} {x : Bal} (h : AVO S w v x) (hk : ∀ j, j < w.heap.size → T j → S j) : AVO T w v x := by
  obtain ⟨cs, e, c1, e1, r⟩ := h; exact ⟨cs, e, c1, e1, r.weak hk⟩
def setI (l : List Int) (a : Int) (u : Int) : List Int := if 0 ≤ a then l.set a.toNat u else l
theorem setI_len (l : List Int) (a u : Int) : (setI l a u).length = l.length := by unfold setI; split <;> simp
def setK (n s : Nat) (wh : Int) (k : Nat) : List Int := (List.range n).map fun i => if i < k then (if bitB s i then wh else 0) else 0
theorem setK_len (n s : Nat) (wh : Int) (k : Nat) : (setK n s wh k).length = n := by simp [setK]
theorem setK_zero (n s : Nat) (wh : Int) : setK n s wh 0 = List.replicate n 0 := by
  apply List.ext_getElem
  · simp [setK]
  · intro i h1 h2; simp [setK]
theorem setK_full (n s : Nat) (wh : Int) : setK n s wh n = setP n s wh := by
  apply List.ext_getElem
  · simp [setK, setP]
  · intro i h1 h2
    rw [setK_len] at h1
    simp [setK, setP, h1]
theorem setK_yes {n s : Nat} {wh : Int} {k : Nat} (hk : k < n) (hb : bitB s k = true) : (setK n s wh k).set k wh = setK n s wh (k + 1) := by
  apply List.ext_getElem
  · simp [setK]
  · intro i h1 h2
    rw [List.getElem_set]
    split
    · next he => subst he; simp [setK, hb]
    · next hne =>
      simp only [setK, List.getElem_map, List.getElem_range]
      by_cases h3 : i < k
      · simp [h3, show i < k + 1 by omega]
      · simp [h3, show ¬ i < k + 1 by omega]
theorem setK_no {n s : Nat} {wh : Int} {k : Nat} (hb : bitB s k = false) : setK n s wh k = setK n s wh (k + 1) := by
  apply List.ext_getElem
  · simp [setK]
  · intro i h1 h2
    simp only [setK, List.getElem_map, List.getElem_range]
    by_cases h3 : i < k
    · simp [h3, show i < k + 1 by omega]
    · by_cases h4 : i = k
      · subst h4; simp [hb]
      · simp [h3, show ¬ i < k + 1 by omega]
theorem ints_set (l : List Int) (k : Nat) (x : Int) : (l.map (Value.int .i64)).set k (.int .i64 x) = (l.set k x).map (Value.int .i64) := by rw [List.map_set]
theorem ints_cell {w : World} {g : Nat} {l : List Int} {T : TypeId} (h : Bx w g (l.map (Value.int .i64)) T) {k : Nat} (hk : k < l.length) : w.cell? ⟨g, k, none⟩ = some (.int .i64 l[k]) := by
  rw [h.cell k]; simp [hk]

end Go.Proofs.YtoanjaidfdkdpaaGreat
/- Walks: a balance with one guy that pulls in part. -/
namespace Go.Proofs.YtoanjaidfdkdpaaGreat
set_option linter.unusedSimpArgs false
set_option linter.unusedVariables false
open Go.RowKit Go.BT

theorem cross_fits {v o : Vec} {A B : Int} (hv : inV A v) (ho : inV B o) (hAB : A * B ≤ 4000000000000000000) : fits (v.x * o.y) ∧ fits (v.y * o.x) ∧ fits (v.x * o.y - v.y * o.x) := by
  have h1 := mul_in hv.1 ho.2
  have h2 := mul_in hv.2 ho.1
  unfold fits
  omega
theorem setI_no (l : List Int) (u : Int) : setI l (-1) u = l := by simp [setI]
theorem setI_nat (l : List Int) (a : Nat) (u : Int) : setI l a u = l.set a u := by simp [setI]
theorem noBal_av {S : Nat → Prop} {w : World} : AVO S w (.agg #[.int .i64 0, .slice none 0 0]) noBal := ⟨_, rfl, _, rfl, SLT.nil _ _⟩


end Go.Proofs.YtoanjaidfdkdpaaGreat
/- Walks: a balance with two guys that pull in part. -/
namespace Go.Proofs.YtoanjaidfdkdpaaGreat
set_option linter.unusedSimpArgs false
set_option linter.unusedVariables false
open Go.RowKit Go.BT

theorem cross_in {v o : Vec} {A B : Int} (hv : inV A v) (ho : inV B o) : -(2 * (A * B)) ≤ crossV v o ∧ crossV v o ≤ 2 * (A * B) := by
  have h1 := mul_in hv.1 ho.2
  have h2 := mul_in hv.2 ho.1
  unfold crossV
  omega


end Go.Proofs.YtoanjaidfdkdpaaGreat
/- Walks: the search for a balance. -/
namespace Go.Proofs.YtoanjaidfdkdpaaGreat
set_option linter.unusedSimpArgs false
set_option linter.unusedVariables false
open Go.RowKit Go.BT
attribute [local go_sem] Oper.semAt_some

theorem stepR_scope {P : Program} {b : Frame} {a : Act} {k : List Item} {cs : List Frame} {w : World} {c : Code} : step P (lone (b.atR a (.code (.scope c) :: k)) cs w) = .next (lone (b.atR a (.code c :: .inScope c :: k)) cs w) :=
  step_lone_go (by simp [stepG, stepG.exec, Frame.atR])
theorem stepR_inScope {P : Program} {b : Frame} {a : Act} {k : List Item} {cs : List Frame} {w : World} {c : Code} : step P (lone (b.atR a (.inScope c :: k)) cs w) = .next (lone (b.atR a k) cs w) :=
  step_lone_go (by simp [stepG, stepG.exec, Frame.atR])
/-- A scope that is gone through without a goto, within the fence. -/
theorem wpIn_scope_straight {F : Fence} {n : Nat} {P : Program} {Q : Exit → Act → World → Prop} {a : Act} {w : World} {c : Code} (h : c.wpIn F n P (Exit.noGoto Q) a w) : (Code.scope c).wpIn F n P Q a w := by
  intro b k cs hro hb hr
  have h0 : (lone (b.atR a (.code (.scope c) :: k)) cs w).fenced P F := fenced_calm hb hr rfl
  obtain ⟨e, a₁, w₁, hq, harr⟩ := h b (.inScope c :: k) cs hro hb hr
  cases e with
  | normal => exact ⟨.normal, a₁, w₁, hq, .head h0 stepR_scope (StepsIn.trans harr (.one (fenced_calm hb hr rfl) stepR_inScope))⟩
  | exit id =>
    have hx : exitTo id (.inScope c :: k) = exitTo id k := by simp [exitTo]
    exact ⟨.exit id, a₁, w₁, hq, fun k' hk => .head h0 stepR_scope (harr.1 k' (by rw [hx]; exact hk)),
      fun hr' hk => let ⟨k₁, h1, h2⟩ := harr.2 hr' (by rw [hx]; exact hk); ⟨k₁, h1, .head h0 stepR_scope h2⟩⟩
  | goto l => exact hq.elim
  | ret => exact ⟨_, a₁, w₁, hq, .of_steps (.one h0 stepR_scope) harr⟩
  | panic ch => exact ⟨_, a₁, w₁, hq, .of_steps (.one h0 stepR_scope) harr⟩
  | outgrown => exact ⟨_, a₁, w₁, hq, .of_steps (.one h0 stepR_scope) harr⟩
/-- Where only blocks that hold no cells change, a list of numbers stays. -/
theorem sl_ints_nc {S : Nat → Prop} {A B : World} {v : Value} {l : List Int} (h : SL S A v l) (hsz : A.heap.size ≤ B.heap.size) (hc : ∀ g : Nat, (∃ (cs : Array Value) (T : TypeId) (f : Nat × Nat), A.heap[g]? = some (Obj.cells cs T f)) → B.heap[g]? = A.heap[g]?) : SL S B v l := by
  obtain ⟨p, c, b, o, hv, hcc, hm, hp, ha⟩ := h
  refine ⟨p, c, b, o, hv, hcc, hm, hp, fun i hi => ?_⟩
  obtain ⟨h1, h2, cs, hr, hcs⟩ := ha i hi
  refine ⟨Nat.lt_of_lt_of_le h1 hsz, h2, cs, hr, fun j u hj => ?_⟩
  have hcell := hcs j u hj
  refine (World.cell?_of_block (w := A) (hc b ?_)).trans hcell
  cases hb : A.heap[b]? with
  | none => simp [World.cell?, hb] at hcell
  | some ob =>
    cases ob with
    | cells x T f => exact ⟨x, T, f, rfl⟩
    | _ => simp [World.cell?, hb] at hcell
theorem slt_nc {S : Nat → Prop} {A B : World} {v : Value} {l : List Int} (h : SLT S A v l) (hsz : A.heap.size ≤ B.heap.size) (hc : ∀ g : Nat, (∃ (cs : Array Value) (T : TypeId) (f : Nat × Nat), A.heap[g]? = some (Obj.cells cs T f)) → B.heap[g]? = A.heap[g]?) : SLT S B v l := by
  refine ⟨sl_ints_nc h.1 hsz hc, fun b o n c e i hi => ?_⟩
  have h2 := h.2 b o n c e i hi
  refine (World.frozen?_of_block (w := A) (hc b ?_)).trans h2
  obtain ⟨p, c', b', o', hv, _, _, hp, ha⟩ := h.1
  rw [e] at hv
  injection hv with e1 e2 e3
  have hlt : i < l.length := by omega
  have := hp (by omega)
  rw [← e1] at this
  injection this with this
  injection this with eb eo
  subst eb
  obtain ⟨_, _, cs, hr, hcs⟩ := ha i hlt
  have hr' : cs = [.int .i64 l[i]] := hr
  subst hr'
  have hcell := hcs 0 _ rfl
  cases hb : A.heap[b]? with
  | none => simp [World.cell?, hb] at hcell
  | some ob =>
    cases ob with
    | cells x T f => exact ⟨x, T, f, rfl⟩
    | _ => simp [World.cell?, hb] at hcell
def setsOf {m : Nat} (pre : List (SetNo m)) : List Nat := pre.map (·.1)
theorem setsOf_snoc {m : Nat} (pre : List (SetNo m)) (x : SetNo m) : setsOf (pre ++ [x]) = setsOf pre ++ [x.1] := by simp [setsOf]
def foundL (F : List Vec) (p : Vec) (l : List Nat) : Bal × Bool := l.foldl (stepS F p) (noBal, false)
theorem foundL_snoc (F : List Vec) (p : Vec) (l : List Nat) (s : Nat) : foundL F p (l ++ [s]) = stepS F p (foundL F p l) s := by simp [foundL]
theorem stepS_stay (F : List Vec) (p : Vec) (st : Bal × Bool) (s : Nat) (h : st.2 = true) : stepS F p st s = st := by unfold stepS; rw [if_pos h]
theorem stepA_stay (F : List Vec) (p : Vec) (s : Nat) (st : Bal × Bool) (a : Nat) (h : st.2 = true) : stepA F p s st a = st := by unfold stepA; rw [if_pos h]
theorem stepB_stay (F : List Vec) (p : Vec) (s a : Nat) (st : Bal × Bool) (b : Nat) (h : st.2 = true) : stepB F p s a st b = st := by unfold stepB; rw [if_pos h]
theorem fold_hit {f : Bal × Bool → Nat → Bal × Bool} (h1 : ∀ st x, st.2 = true → f st x = st) {k n : Nat} (hk : k < n) {st s1 s2 : Bal × Bool} (e1 : (List.range k).foldl f st = s1) (e2 : f s1 k = s2) (e3 : s2.2 = true) : (List.range n).foldl f st = s2 := by
  obtain ⟨d, rfl⟩ : ∃ d, n = (k + 1) + d := ⟨n - (k + 1), by omega⟩
  rw [List.range_add, List.foldl_append, List.range_succ, List.foldl_append, e1]
  simp only [List.foldl_cons, List.foldl_nil, e2]
  exact fold_stay h1 _ _ e3
theorem fold_next {f : Bal × Bool → Nat → Bal × Bool} {k : Nat} {st s1 s2 : Bal × Bool} (e1 : (List.range k).foldl f st = s1) (e2 : f s1 k = s2) : (List.range (k + 1)).foldl f st = s2 := by
  rw [List.range_succ, List.foldl_append, e1]; simp [e2]
theorem stepX_b {X : Nat → Prop} {w : World} (hX : ∀ j, w.heap.size ≤ j → X j) (W : World) (l : Nat) (o o' : Obj) (hl : w.heap.size ≤ l) (h : W.heap[l]? = some o) (_ : o.isCells = false) (_ : o.isWalk = false) : StepX X W (W.putObj l o') :=
  have hg := grownBy_putObj' W l o'
  ⟨hg.os, hg.tape, hg.output, hg.size, fun k hk hn => hg.block k hk (fun e => hn (by cases e; exact hX _ hl))⟩
theorem keepsFrom_x {X : Nat → Prop} {B : Nat} {W W' : World} (h : StepX X W W') (hX : ∀ j, X j → j < B) : KeepsFrom B W W' :=
  ⟨h.size, fun k o hB hk _ => (h.block k (Array.getElem?_eq_some_iff.1 hk).1 (fun hx => by have := hX k hx; omega)).trans hk⟩
theorem search_stop {F : List Vec} {p : Vec} {pre : List (SetNo F.length)} {b : Bal} (h : setsOf pre <+: List.range (2 ^ F.length)) (hf : foundL F p (setsOf pre) = (b, true)) : searchL F p = (b, true) := by
  obtain ⟨d, hd⟩ := h
  unfold searchL
  rw [← hd, List.foldl_append]
  have h1 : (setsOf pre).foldl (stepS F p) (noBal, false) = (b, true) := hf
  rw [h1]
  exact fold_stay (stepS_stay F p) _ _ rfl
theorem run_loadVar_one {P : Program} {T : TypeId} {a : Addr} {w : World} {v : Value} (hagg : (isAgg T).run P w = .ok false w) (hc : w.cell? a = some v) : (loadVar T a).run P w = .ok v w := by
  simp [loadVar, Sem.run_bind, hagg, load, Sem.run, hc]
/-- Two results that lie in variables: a struct and one cell. -/
theorem results_cell2 {P : Program} {fn : Func} {tmps : Array Value} {w : World} {t u : Tmp} {T T' U : TypeId} {k g g2 : Nat} {cs : List Value} {v : Value} (hr : fn.results = #[.cell t T, .cell u U]) (hi : SI P T k)
    (ht : tmps.getD t undef = .pointer (some ⟨g, 0, none⟩)) (hb : Bx w g cs T') (hk : cs.length = k) (hu : (isAgg U).run P w = .ok false w)
    (ht2 : tmps.getD u undef = .pointer (some ⟨g2, 0, none⟩)) (hc : w.cell? ⟨g2, 0, none⟩ = some v) : (results fn tmps).run P w = .ok (.tuple #[.agg cs.toArray, v]) w := by
  have ht' : tmps[t]?.getD undef = .pointer (some ⟨g, 0, none⟩) := by simpa using ht
  have ht2' : tmps[u]?.getD undef = .pointer (some ⟨g2, 0, none⟩) := by simpa using ht2
  simp [results, hr, ht', ht2', asAddr, run_loadVar_bx hi hb hk, run_loadVar_one hu hc]
theorem wplI_store {P : Program} {ops : Array Oper} {rest : List Oper} {o : Oper} {a : Act} {Q : Exit → Act → World → Prop} {off : Nat} {v : Value} {w : World} {g : Nat} {cs : List Value} {T : TypeId} {ro : Option Nat} {nn : Nat} (hgd : o.guard = none) (ty : TypeId) (x y : Operand) (ho : o.op = .store ty x y)
    (hx : a.eval x = .pointer (some ⟨g, off, none⟩)) (hy : a.eval y = v) (hb : Bx w g cs T) (hi : (P.info? ty).map (·.size) = some v.cells.size) (hfit : off + v.cells.size ≤ cs.length) (h1 : ∀ u ∈ v.cells.toList, u.oneCell' = true)
    (new : List Value) (hnew : cs.take off ++ v.cells.toList ++ cs.drop (off + v.cells.size) = new)
    (hK : ∀ w', Bx w' g new T → Wrote g w w' → wpListIn (FW ro) nn P ops Q rest (a.put o.dst undef) w') : wpListIn (FW ro) nn P ops Q (o :: rest) a w := by
  subst hnew
  obtain ⟨i, hi1, hi2⟩ := Option.map_eq_some_iff.1 hi
  have hr := run_storeCells_at P g off T v.cells.toList 0 cs.toArray w hb (by simpa using hfit) h1
  have hs : (storeVar ty ⟨g, off, none⟩ v).run P w = .ok () (w.setRow g (cs.take off ++ v.cells.toList ++ cs.drop (off + v.cells.size)).toArray) := by
    simp only [Nat.add_zero, Array.length_toList] at hr
    simp [storeVar, sizeOf, typeInfo, hi1, hi2, Result.andThen]
    simpa using hr
  have hw : Region.wanted o (yielded ops a.tmps) = true := by simp [Region.wanted, hgd]
  have hsem : o.semAt (FW ro).round a.eval = execOp a.eval o := by
    unfold Oper.semAt
    cases ro with
    | none => rfl
    | some l => simp [ho]
  unfold wpListIn
  rw [if_pos hw]
  refine ⟨fun f _ => trivial, ?_⟩
  rw [hsem]
  unfold execOp
  simp only [ho, hx, hy, Instr.storeAt, Instr.sureAddr, Sem.run_bind, Sem.run_pure, Result.andThen_ok, hs]
  exact hK _ (setRow_heap w g _ _ T (0, 0) hb) ⟨rfl, rfl, rfl, by simp [World.setRow], fun k hk => setRow_other w g k _ hk⟩




end Go.Proofs.YtoanjaidfdkdpaaGreat
/- Walks: a balance of a push on a head. -/
namespace Go.Proofs.YtoanjaidfdkdpaaGreat
set_option linter.unusedSimpArgs false
set_option linter.unusedVariables false
open Go.RowKit Go.BT

def headF (l : List Tst) (t : List Head) (i : Int) : List Vec := forcesL l (headAt t i).guys
def headP (t : List Head) (i : Int) (p : Vec) : Vec := timesV p (headAt t i).area
def balC (l : List Tst) (t : List Head) (i : Int) (p : Vec) : Int := if atC l t i (cornerB p) = 0 then (if (searchL (headF l t i) (headP t i p)).2 = true then 0 else 7) else atC l t i (cornerB p)
def balR (l : List Tst) (t : List Head) (i : Int) (p : Vec) : Bal := if balC l t i p = 0 then (searchL (headF l t i) (headP t i p)).1 else noBal

end Go.Proofs.YtoanjaidfdkdpaaGreat
/- Walks: whether a direction is a weakness, by the document; whether it is one, and whether a balance is one, by the program. -/
namespace Go.Proofs.YtoanjaidfdkdpaaGreat
set_option linter.unusedSimpArgs false
set_option linter.unusedVariables false
open Go.RowKit Go.BT

def wayInB (way : Vec) : Bool := withinB way.x (-1000000) 1000000 && withinB way.y (-1000000) 1000000
def isWeakL (F : List Vec) (p way : Vec) : Bool := wayInB way && decide (helpL F way < dotV way p)
theorem wayIn_in {way : Vec} (h : wayInB way = true) : inV 1000000 way := by
  simp only [wayInB, Bool.and_eq_true, within_iff] at h
  exact h

end Go.Proofs.YtoanjaidfdkdpaaGreat
/- Walks: whether a direction is a weakness, and whether a balance is one, by the program. -/
namespace Go.Proofs.YtoanjaidfdkdpaaGreat
set_option linter.unusedSimpArgs false
set_option linter.unusedVariables false
open Go.RowKit Go.BT

def proveWeakL (l : List Tst) (t : List Head) (i : Int) (p way : Vec) : Bool := decide (atC l t i (cornerB p) = 0) && isWeakL (headF l t i) (headP t i p) way
def proveBalL (l : List Tst) (t : List Head) (i : Int) (p : Vec) (b : Bal) : Bool := decide (atC l t i (cornerB p) = 0) && isBalL (headF l t i) (headP t i p) b
end Go.Proofs.YtoanjaidfdkdpaaGreat
/- Walks: whether a balance is one, by the program. -/
namespace Go.Proofs.YtoanjaidfdkdpaaGreat
set_option linter.unusedSimpArgs false
set_option linter.unusedVariables false
open Go.RowKit Go.BT

theorem sum2_fits' {a b : Vec} (ha : fits a.x ∧ fits a.y) (hb : fits (a.x + b.x) ∧ fits (a.y + b.y)) : ∀ k, k ≤ [a, b].length → fits (sumL ([a, b].take k)).x ∧ fits (sumL ([a, b].take k)).y := by
  unfold fits at ha hb
  intro k hk
  match k, hk with
  | 0, _ => simp [sumL, fits]
  | 1, _ => simp [sumL, addV, fits]; omega
  | 2, _ => simp [sumL, addV, fits]; omega


end Go.Proofs.YtoanjaidfdkdpaaGreat
/- Walks: the law package's copy of a tent: all its memory is the copy's own. -/
namespace Go.Proofs.YtoanjaidfdkdpaaGreat
set_option linter.unusedSimpArgs false
set_option linter.unusedVariables false
open Go.RowKit Go.BT

/-- A head as it lies in a row: its guys are a slice. -/
structure HeadV where
  area : Int
  bears : Int
  p : Option Addr
  n : Nat
  c : Nat
abbrev HeadV.val (h : HeadV) : Value := .slice h.p h.n h.c
instance : Rep HeadV where
  k := 3
  rep S w cs x := cs = [.int .i64 x.area, .int .i64 x.bears, .slice x.p x.n x.c] ∧ ∀ g, x.val.ownBlock = some g → g < w.heap.size ∧ ¬ S g
  len h := by rw [h.1]; rfl
  keep hk h := ⟨h.1, fun g hg => ⟨Nat.lt_of_lt_of_le (h.2 g hg).1 hk.1, (h.2 g hg).2⟩⟩
  weak hk h := ⟨h.1, fun g hg => ⟨(h.2 g hg).1, fun ht => (h.2 g hg).2 (hk g (h.2 g hg).1 ht)⟩⟩
  one h := by obtain ⟨rfl, _⟩ := h; simp [Value.oneCell']
  pos := by decide
theorem ownL_flat {α : Type} [Flat α] {S : Nat → Prop} (T : Nat → Prop) {base : Nat} {e : TypeId} {w : World} {v : Value} {l : List α} (h : OwnL S base e w v l) : OwnL T base e w v l := by
  obtain ⟨xs, h1, h2⟩ := h
  exact ⟨xs, h1, fun i hi => Flat.flat (h2 i hi)⟩
theorem ownL_base {α : Type} [Rep α] {S : Nat → Prop} {base base' : Nat} {e : TypeId} {w : World} {v : Value} {l : List α} (h : OwnL S base e w v l) (hb : base' ≤ base) : OwnL S base' e w v l := by
  obtain ⟨xs, ⟨h0, h1⟩, h2⟩ := h
  refine ⟨xs, ⟨h0, ?_⟩, h2⟩
  rcases h1 with h1 | ⟨g, cap, cur, e, hg, r⟩
  · exact .inl h1
  · exact .inr ⟨g, cap, cur, e, Nat.le_trans hb hg, r⟩
theorem ownL_grown {α : Type} [Flat α] {S : Nat → Prop} {base : Nat} {e : TypeId} {w w' : World} {v : Value} {l : List α} {row : Option Nat} (h : OwnL S base e w v l) (hg : w.grownBy w' row) (hne : ∀ g, v.ownBlock = some g → row ≠ some g) : OwnL S base e w' v l := by
  obtain ⟨xs, h1, h2⟩ := h
  refine ⟨xs, h1.kept hg ?_, fun i hi => Flat.flat (h2 i hi)⟩
  cases q : v.ownBlock with
  | none => exact .inl rfl
  | some g => exact .inr fun e => hne g q e.symm
/-- The guys of heads in rows of their own, all apart. -/
structure Inner (base : Nat) (w : World) (hs : List HeadV) (t : List Head) : Prop where
  len : hs.length = t.length
  at_ : ∀ i (h1 : i < hs.length) (h2 : i < t.length), hs[i].area = t[i].area ∧ hs[i].bears = t[i].bears ∧ OwnL (fun _ => False) base 108 w hs[i].val t[i].guys
  apart : ∀ i j (h1 : i < hs.length) (h2 : j < hs.length), i ≠ j → ∀ g, hs[i].val.ownBlock = some g → hs[j].val.ownBlock ≠ some g
theorem Inner.nil (base : Nat) (w : World) : Inner base w [] [] := ⟨rfl, fun i h => absurd h (by simp), fun i j h => absurd h (by simp)⟩
theorem Inner.grown {base : Nat} {w w' : World} {hs : List HeadV} {t : List Head} {row : Option Nat} (h : Inner base w hs t) (hg : w.grownBy w' row) (hne : ∀ i (h1 : i < hs.length) g, hs[i].val.ownBlock = some g → row ≠ some g) : Inner base w' hs t :=
  ⟨h.len, fun i h1 h2 => ⟨(h.at_ i h1 h2).1, (h.at_ i h1 h2).2.1, ownL_grown (h.at_ i h1 h2).2.2 hg (hne i h1)⟩, h.apart⟩
theorem Inner.step {base : Nat} {w w' : World} {hs : List HeadV} {t : List Head} (h : Inner base w hs t) (k : Step w w') : Inner base w' hs t :=
  ⟨h.len, fun i h1 h2 => ⟨(h.at_ i h1 h2).1, (h.at_ i h1 h2).2.1, (h.at_ i h1 h2).2.2.step k⟩, h.apart⟩
theorem Inner.lt {base : Nat} {w : World} {hs : List HeadV} {t : List Head} (h : Inner base w hs t) {i : Nat} (h1 : i < hs.length) {g : Nat} (hg : hs[i].val.ownBlock = some g) : base ≤ g ∧ g < w.heap.size :=
  (h.at_ i h1 (by have := h.len; omega)).2.2.lt g hg
theorem Inner.snoc {base : Nat} {w : World} {hs : List HeadV} {t : List Head} (h : Inner base w hs t) {x : HeadV} {y : Head} (hxy : x.area = y.area ∧ x.bears = y.bears ∧ OwnL (fun _ => False) base 108 w x.val y.guys) (hn : ∀ i (h1 : i < hs.length) g, hs[i].val.ownBlock = some g → x.val.ownBlock ≠ some g) : Inner base w (hs ++ [x]) (t ++ [y]) := by
  have hl := h.len
  refine ⟨by simp [hl], fun i h1 h2 => ?_, fun i j h1 h2 hij g hg => ?_⟩
  · by_cases q : i < hs.length
    · rw [List.getElem_append_left q, List.getElem_append_left (by omega)]; exact h.at_ i q (by omega)
    · have : i = hs.length := by simp at h1; omega
      subst this
      rw [show (hs ++ [x])[hs.length]'h1 = x by simp, show (t ++ [y])[hs.length]'h2 = y by rw [List.getElem_append_right (by omega)]; simp [hl]]
      exact hxy
  · by_cases q : i < hs.length
    · rw [List.getElem_append_left q] at hg
      by_cases r : j < hs.length
      · rw [List.getElem_append_left r]; exact h.apart i j q r hij g hg
      · have : j = hs.length := by simp at h2; omega
        subst this
        simpa using hn i q g hg
    · have : i = hs.length := by simp at h1; omega
      subst this
      by_cases r : j < hs.length
      · rw [List.getElem_append_left r]
        have hg' : x.val.ownBlock = some g := by simpa using hg
        exact fun e => hn j r g e hg'
      · exact absurd (show hs.length = j by simp at h2; omega) hij
/-- A tent whose memory is all its own, from base on. -/
def TentO (base : Nat) (w : World) (v : Value) (t : List Head) : Prop := ∃ hs : List HeadV, OwnL (fun _ => False) base 105 w v hs ∧ Inner base w hs t
theorem rep_of_own {α : Type} [Rep α] {S : Nat → Prop} {base : Nat} {e : TypeId} {w : World} {v : Value} {l : List α} (h : OwnL S base e w v l) {i : Nat} (hi : i < l.length) : ∃ cs, Rep.rep (avoid S v) w cs l[i] := by
  obtain ⟨xs, _, h2⟩ := h; exact ⟨_, h2 i hi⟩
/-- A list read in another way. -/
theorem sl_map {α β : Type} [Rep α] [Rep β] (hk : Rep.k α = Rep.k β) {S T : Nat → Prop} {w : World} {v : Value} {l : List α} {m : List β} (h : SL S w v l) (hl : m.length = l.length) (hT : ∀ j, j < w.heap.size → T j → S j)
    (hr : ∀ i (h1 : i < l.length) (h2 : i < m.length) cs, Rep.rep S w cs l[i] → Rep.rep T w cs m[i]) : SL T w v m := by
  obtain ⟨p, c, b, o, hv, hc, hm, hp, ha⟩ := h
  refine ⟨p, c, b, o, by rw [hl]; exact hv, by omega, by omega, fun h0 => hp (by omega), fun i hi => ?_⟩
  obtain ⟨h1, h2, cs, h3, h4⟩ := ha i (by omega)
  exact ⟨h1, fun ht => h2 (hT b h1 ht), cs, hr i (by omega) hi cs h3, by rw [← hk]; exact h4⟩
theorem TentO.own {base : Nat} {w : World} {v : Value} {t : List Head} (h : TentO base w v t) {S : Nat → Prop} (hS : ∀ j, base ≤ j → j < w.heap.size → ¬ S j) : ∃ hs, OwnL S base 105 w v hs ∧ Inner base w hs t := by
  obtain ⟨hs, ⟨xs, h1, h2⟩, hi⟩ := h
  refine ⟨hs, ⟨xs, h1, fun i hx => ⟨(h2 i hx).1, fun g hg => ⟨((h2 i hx).2 g hg).1, fun ha => ?_⟩⟩⟩, hi⟩
  rcases ha with ha | ha
  · have := hi.lt hx hg
    exact hS g this.1 this.2 ha
  · exact ((h2 i hx).2 g hg).2 (.inr ha)
theorem TentO.sl {base : Nat} {w : World} {v : Value} {t : List Head} (h : TentO base w v t) {S : Nat → Prop} (hS : ∀ j, base ≤ j → j < w.heap.size → ¬ S j) : SL S w v t := by
  obtain ⟨hs, ho, hi⟩ := h.own hS
  refine sl_map (l := hs) (m := t) (show Rep.k HeadV = Rep.k Head from rfl) (ho.sl hS) hi.len.symm (fun _ _ h => h) fun i h1 h2 cs hr => ?_
  obtain ⟨a1, a2, a3⟩ := hi.at_ i h1 h2
  exact ⟨_, by rw [hr.1, a1, a2], (ownL_flat S a3).slb fun g hg => (hr.2 g hg).2⟩
theorem TentO.step {base : Nat} {w w' : World} {v : Value} {t : List Head} (h : TentO base w v t) (k : Step w w') : TentO base w' v t := by
  obtain ⟨hs, ho, hi⟩ := h
  exact ⟨hs, ho.step k, hi.step k⟩
theorem infoHead : (Tryz.prog.info? 105).map (fun i => (i.zero, i.size, i.bytes)) = some (some (.agg #[.int .i64 0, .int .i64 0, .slice none 0 0]), 3, 40) := by kernel_rfl
theorem eiHeads : EI Tryz.prog 45 105 (.agg #[.int .i64 0, .int .i64 0, .slice none 0 0]) 3 40 := .mk' Tryz.underlying45 infoHead rfl
theorem infoGuy : (Tryz.prog.info? 108).map (fun i => (i.zero, i.size, i.bytes)) = some (some (.agg #[.int .i64 0, .int .i64 0, .int .i64 0, .int .i64 0, .int .i64 0]), 5, 40) := by kernel_rfl
theorem eiGuys : EI Tryz.prog 103 108 (.agg #[.int .i64 0, .int .i64 0, .int .i64 0, .int .i64 0, .int .i64 0]) 5 40 := .mk' Tryz.underlying103 infoGuy rfl
/-- At most 15 heads of 10 guys. -/
def fewT (t : List Head) : Prop := t.length ≤ 15 ∧ ∀ i (h : i < t.length), t[i].guys.length ≤ 10
set_option maxRecDepth 100000 in
set_option maxHeartbeats 8000000 in
theorem TentO_any (S : Nat → Prop) (t : List Head) (v : Value) (w : World) (hv : SL S w v t) (hn : fewT t) :
    Calls Tryz.prog 12 #[v] w fun e w' => ∃ v', e = .returned v' ∧ TentO w.heap.size w' v' t ∧ Step w w' := by
  obtain ⟨pt, ct, b, o, rfl, _, hm, hp, hc, hb⟩ := hv.heads
  have HP := Lib.hid (And.intro hp hc)
  have HN := Lib.hid hn
  clear hp hc hb hv hn
  go_enter Tryz.func12, Tryz.ntmps12
  go_wp2
  go_loopw [3, 4] (fun out i wr => ∃ (k : Nat) (hs : List HeadV), k ≤ t.length ∧ i = .int .i64 k ∧ OwnL (fun _ => False) w.heap.size 105 wr out hs ∧ Inner w.heap.size wr hs (t.take k) ∧ Below w.heap.size w wr) (fun _ i _ => t.length - (intOf i).toNat)
  case atStart => exact ⟨0, [], Nat.zero_le _, rfl, OwnL.nil _ _ _ _, Inner.nil _ _, Below.refl _ _⟩
  case round =>
    obtain ⟨k, hs, hk, rfl, hown, hin, hB⟩ := hrel
    have hlen : hs.length = k := by rw [hin.len, List.length_take]; omega
    obtain ⟨po, co, rfl, _⟩ := hown.form
    have HO := Lib.hid hown
    have HI := Lib.hid hin
    have HB := Lib.hid hB
    have HT := Lib.hid (Step.of hB)
    have HL := Lib.hid hlen
    clear hown hin hB hlen
    by_cases hlt : k < t.length
    · obtain rfl := HP.out.1 (by omega)
      obtain ⟨c2, e1, e2, e3, e4⟩ := HP.out.2 k hlt
      have e1 := HT.out.keeps.cell id e1
      have e2 := HT.out.keeps.cell id e2
      have hix : (0 : Int) ≤ (k : Int) ∧ (k : Int) < (t.length : Int) := by omega
      have hg10 := HN.out.2 k hlt
      obtain ⟨h, hh⟩ : ∃ h, h = t[k] := ⟨_, rfl⟩
      rw [← hh] at e1 e2 e4 hg10
      have HH := Lib.hid hh
      obtain ⟨pg, cg, bg, og, rfl, _, _, hpg, hcg, _⟩ := e4.guys
      have HG := Lib.hid (And.intro hpg hcg)
      have HE3 := Lib.hid (HT.out.keeps.cell id e3)
      clear hh e4 hpg hcg e3
      obtain ⟨wo, hwo⟩ : ∃ W, W = wr := ⟨_, rfl⟩
      subst hwo
      go_upto_region 5 with (fail)
      have HSZ0 := Lib.hid (HT.out.size)
      refine wp_region_seq (kdOf [] [(11, 105, .agg #[.int .i64 0, .int .i64 0, .slice none 0 0])]) [0, 0, 3, 7, 15, 0, 0, 96, 224, 480, 1023, 0, 4095] [0, 1, 2, 3, 4, 5, 6, 7, 8, 9, 10, 11] [12] (by kernel_rfl) (by kernel_rfl) (fun i T z hi hk => by simp only [List.mem_cons, List.not_mem_nil, or_false] at hi; rcases hi with rfl | rfl | rfl | rfl | rfl | rfl | rfl | rfl | rfl | rfl | rfl | rfl <;> simp [kdOf] at hk <;> (obtain ⟨rfl, rfl⟩ := hk; first | (show Option.bind _ _ = some _; kernel_rfl) | (refine ⟨_, rfl, fun _ _ => ?_⟩; go_simp))) ?_
      intro Wx hWx
      have HWx := Lib.hid hWx
      have e1 := hWx.keeps.cell id e1
      have e2 := hWx.keeps.cell id e2
      clear hWx
      repeat (first | (refine run_off rfl rfl (by rfl) ?_; (try simp only [Act.put, List.setIfInBounds_toArray, List.set_cons_zero, List.set_cons_succ])) | (refine run_chain_off rfl rfl (by rfl) (K0_mono _) ?_; (try simp only [Act.put, List.setIfInBounds_toArray, List.set_cons_zero, List.set_cons_succ])) | ((refine run_want rfl rfl (by rfl) ⟨?_, fun W hW => ?_, ?_⟩; rotate_left; (· (have d0 := hW.keeps.cell id e1; have d1 := hW.keeps.cell id e2; go_simp; (try with_reducible rfl)))); (try simp only [Act.put, List.setIfInBounds_toArray, List.set_cons_zero, List.set_cons_succ])))
      refine run_alloc rfl rfl (fun W5 g hW5 hg hgb hgN => ?_)
      (try simp only [Act.put, List.setIfInBounds_toArray, List.set_cons_zero, List.set_cons_succ])
      refine run_end (L := [_]) rfl (fun W6 hW6 => ?_)
      have hb6 := Bx.step (w := W5) (cs := [_, _, _]) hg hW6
      refine wpl_store (v := .agg #[.int .i64 h.area, .int .i64 h.bears, .slice none 0 0]) rfl _ _ _ rfl rfl rfl hb6 (by kernel_rfl) (by simp [Value.cells]) (by simp [Value.cells, Value.oneCell']) [.int .i64 h.area, .int .i64 h.bears, .slice none 0 0] rfl (fun w7 hb7 hw7 => ?_)
      have hs7 := Step.wrote ((HWx.out.trans hW5).trans hW6) hw7 hgb
      have HS7 := Lib.hid hs7
      have HB7 := Lib.hid hb7
      have HGB := Lib.hid hgb
      clear hW5 hg hgb hgN hW6 hb6 hb7 hw7 hs7 HWx e1 e2 HSZ0
      go_wp2
      go_loopw [6] (fun i wr => ∃ (j : Nat) (q : Value), j ≤ h.guys.length ∧ i = .int .i64 j ∧ Bx wr g [.int .i64 h.area, .int .i64 h.bears, q] 105 ∧ OwnL (fun _ => False) w7.heap.size 108 wr q (h.guys.take j) ∧ StepX (fun x => x = g) w7 wr) (fun i _ => h.guys.length - (intOf i).toNat)
      case atStart => exact ⟨0, _, Nat.zero_le _, rfl, HB7.out, OwnL.nil _ _ _ _, StepX.refl _ _⟩
      case round =>
        obtain ⟨j, q, hj, rfl, hbj, hoj, hX⟩ := hrel
        have HBJ := Lib.hid hbj
        have HOJ := Lib.hid hoj
        have HX := Lib.hid hX
        obtain ⟨LL, hLL⟩ : ∃ L, L = h.guys.take j := ⟨_, rfl⟩
        rw [← hLL] at hoj
        obtain ⟨pq, cq, rfl, _⟩ := hoj.form
        have HGL := Lib.hid HB7.out.lt
        have HNE := Lib.hid (show (Value.slice pq LL.length cq).ownBlock ≠ some g from fun e => by have := (hoj.lt _ e).1; have := HGL.out; omega)
        have HLL := Lib.hid hLL
        clear hbj hoj hX hLL
        have hcell : ∀ b o u, wo.cell? ⟨b, o, none⟩ = some u → wr.cell? ⟨b, o, none⟩ = some u := fun b o u hu => HX.out.keeps.cell (a := ⟨b, o, none⟩) (by have := World.block_lt_of_cell? wo _ hu; have := HGB.out; show ¬ b = g; dsimp only at *; omega) (HS7.out.keeps.cell id hu)
        have e3 := hcell _ _ _ HE3.out
        have yl := HBJ.out.lt
        have m0 := HBJ.out.cell 0
        have m1 := HBJ.out.cell 1
        have m2 := HBJ.out.cell 2
        simp only [List.getElem?_cons_zero, List.getElem?_cons_succ] at m0 m1 m2
        by_cases hltj : j < h.guys.length
        · obtain rfl := HG.out.1 (by omega)
          obtain ⟨g1, g2, g3, g4, g5⟩ := HG.out.2 j hltj
          have g1 := hcell _ _ _ (HT.out.keeps.cell id g1)
          have g2 := hcell _ _ _ (HT.out.keeps.cell id g2)
          have g3 := hcell _ _ _ (HT.out.keeps.cell id g3)
          have g4 := hcell _ _ _ (HT.out.keeps.cell id g4)
          have g5 := hcell _ _ _ (HT.out.keeps.cell id g5)
          have hjx : (0 : Int) ≤ (j : Int) ∧ (j : Int) < (h.guys.length : Int) := by omega
          obtain ⟨y, hy⟩ : ∃ y, y = h.guys[j] := ⟨_, rfl⟩
          rw [← hy] at g1 g2 g3 g4 g5
          have HY := Lib.hid hy
          clear hcell hy
          have hown2 := (HOJ.out.alloc (.cells #[.int .i64 y.x, .int .i64 y.y, .int .i64 y.down, .int .i64 y.soil, .int .i64 y.depth] 107)).alloc (.cells #[.int .i64 y.x, .int .i64 y.y, .int .i64 y.down, .int .i64 y.soil, .int .i64 y.depth] 108)
          have hu := SLe.one (S := avoid (fun _ => False) (.slice pq LL.length cq)) (w := wr.alloc (.cells #[.int .i64 y.x, .int .i64 y.y, .int .i64 y.down, .int .i64 y.soil, .int .i64 y.depth] 107)) (cs := [.int .i64 y.x, .int .i64 y.y, .int .i64 y.down, .int .i64 y.soil, .int .i64 y.depth]) (x := y) 108 rfl
          rw [World.size_alloc, show [y] = [h.guys[j]] by rw [HY.out]] at hu
          have b3 := (HBJ.out.alloc (.cells #[.int .i64 y.x, .int .i64 y.y, .int .i64 y.down, .int .i64 y.soil, .int .i64 y.depth] 107)).alloc (.cells #[.int .i64 y.x, .int .i64 y.y, .int .i64 y.down, .int .i64 y.soil, .int .i64 y.depth] 108)
          have hX2 := (HX.out.alloc' (.cells #[.int .i64 y.x, .int .i64 y.y, .int .i64 y.down, .int .i64 y.soil, .int .i64 y.depth] 107)).alloc' (.cells #[.int .i64 y.x, .int .i64 y.y, .int .i64 y.down, .int .i64 y.soil, .int .i64 y.depth] 108)
          go_wp2_with (at_builtin; refine wpl_append1 (W0 := ((wr.alloc (.cells #[.int .i64 y.x, .int .i64 y.y, .int .i64 y.down, .int .i64 y.soil, .int .i64 y.depth] 107)).alloc (.cells #[.int .i64 y.x, .int .i64 y.y, .int .i64 y.down, .int .i64 y.soil, .int .i64 y.depth] 108))) (l := h.guys) (k := j) eiGuys rfl _ _ rfl rfl rfl hown2 hltj (by omega) (by decide) hu (Below.refl _ _) hX2.size ?_)
          intro p' c' w3 hown3 _ hg
          have b4 := b3.keep (S := fun j => (Value.slice pq LL.length cq).ownBlock = some j) (.grown hg fun j hj _ => hj) HNE.out
          have m0 := b4.cell 0
          have m1 := b4.cell 1
          have m2 := b4.cell 2
          simp only [List.getElem?_cons_zero, List.getElem?_cons_succ] at m0 m1 m2
          have z2 := b4.frozen 2
          have yl := b4.lt
          have hX3 : StepX (fun x => x = g) w7 w3 := hX2.over (X := fun j => (Value.slice pq LL.length cq).ownBlock = some j) (.grown hg fun j hj _ => hj) fun j hj => .inl (HOJ.out.lt j hj).1
          have hn3 : (Value.slice p' (j + 1) c').ownBlock ≠ some g := fun e => by have := (hown3.lt _ e).1; have := HGL.out; omega
          have H3 := Lib.hid (And.intro hown3 (And.intro b4 (And.intro hX3 hn3)))
          clear hown2 hu b3 hX2 hown3 hg b4 hX3 hn3 g1 g2 g3 g4 g5 e3
          go_wp2
          go_roundw
          case rel => exact ⟨j + 1, _, by omega, by go_num, H3.out.2.1.setCell 2 _, ownL_flat _ ((ownL_flat (fun j => j = g) H3.out.1).wrote (.setCell _ _ _ _) rfl H3.out.2.2.2), H3.out.2.2.1.setCell ⟨g, 2, none⟩ _ rfl⟩
          case measure => simp [intOf]; omega
        · have HN2 := Lib.hid (show LL = h.guys by rw [HLL.out, List.take_of_length_le (by omega)])
          have hst := StepX.fresh HS7.out HX.out (fun j hj => by have := HGB.out; omega)
          have hs0 := hst
          have ho2 := HO.out.step hst
          have hi2 := HI.out.step hst
          have hB2 := HB.out.step (Nat.le_refl _) hst
          have hog := HOJ.out
          rw [← HLL.out, HN2.out] at hog
          rw [HN2.out] at m2
          have hrep : Rep.rep (avoid (fun _ => False) (.slice po hs.length co)) wr [.int .i64 h.area, .int .i64 h.bears, .slice pq h.guys.length cq] (⟨h.area, h.bears, pq, h.guys.length, cq⟩ : HeadV) := ⟨rfl, fun g' hg' => ⟨(hog.lt g' hg').2, fun ha => by
            rcases ha with ha | ha
            · exact ha
            · have h1 := (HO.out.lt g' ha).2
              have h2 := (hog.lt g' hg').1
              have h3 := HS7.out.size
              omega⟩⟩
          have hu := SLe.one (S := avoid (fun _ => False) (.slice po hs.length co)) (w := wr) 105 hrep
          have ho3 := ho2.alloc (.cells #[.int .i64 h.area, .int .i64 h.bears, .slice pq h.guys.length cq] 105)
          have hs1 := hs0.trans (Step.alloc wr (.cells #[.int .i64 h.area, .int .i64 h.bears, .slice pq h.guys.length cq] 105))
          have hi3 := (hi2.step (Step.alloc wr (.cells #[.int .i64 h.area, .int .i64 h.bears, .slice pq h.guys.length cq] 105))).snoc (x := ⟨h.area, h.bears, pq, h.guys.length, cq⟩) (y := h) ⟨rfl, rfl, (ownL_base hog (Nat.le_trans HB.out.size HS7.out.size)).alloc _⟩ (fun i h1 g' hg' e => by
            have h2 := (HI.out.lt h1 hg').2
            have h3 := (hog.lt g' e).1
            have h4 := HS7.out.size
            omega)
          have hbz : w.heap.size ≤ (wr.alloc (.cells #[.int .i64 h.area, .int .i64 h.bears, .slice pq h.guys.length cq] 105)).heap.size := by have := hB2.size; simp; omega
          have hl15 := HN.out.1
          have hap : ∀ i (h1 : i < (hs ++ [(⟨h.area, h.bears, pq, h.guys.length, cq⟩ : HeadV)]).length) g', (hs ++ [(⟨h.area, h.bears, pq, h.guys.length, cq⟩ : HeadV)])[i].val.ownBlock = some g' → (Value.slice po hs.length co).ownBlock ≠ some g' := fun i h1 g' hg' e => by
            by_cases q : i < hs.length
            · rw [List.getElem_append_left q] at hg'
              obtain ⟨cs, hr⟩ := rep_of_own ho3 q
              exact (hr.2 g' hg').2 (.inr e)
            · have : i = hs.length := by simp at h1; omega
              subst this
              exact (hrep.2 g' (by simpa using hg')).2 (.inr e)
          have HA := Lib.hid (And.intro hi3 hap)
          have HB3 := Lib.hid (hB2.step (Nat.le_refl _) (Step.alloc wr (.cells #[.int .i64 h.area, .int .i64 h.bears, .slice pq h.guys.length cq] 105)))
          clear hst hs0 ho2 hi2 hB2 hog hi3 hap hs1 hcell hrep
          go_wp2_with (at_builtin; refine wpl_append (S := fun _ => False) (base := w.heap.size) (v := .slice po hs.length co) (l := hs) (m := [⟨h.area, h.bears, pq, h.guys.length, cq⟩]) eiHeads rfl _ _ rfl rfl rfl ho3 hu (hs.length + 1) (by simp) _ rfl (by have := HL.out; simp only [maxLen]; omega) (by have := HL.out; omega) hbz ?_)
          intro p' c' w5 hown3 hg
          have HF := Lib.hid (And.intro hown3 (And.intro (HA.out.1.grown hg HA.out.2) (HB3.out.grown hg hbz (fun j hj => (ho3.lt j hj).1))))
          clear ho3 hu hbz hown3 hg m0 m1 m2 yl e3
          go_wp2
          go_roundw
          case rel =>
            refine ⟨k + 1, hs ++ [⟨h.area, h.bears, pq, h.guys.length, cq⟩], by omega, by go_num, ?_, ?_, HF.out.2.2⟩
            · have h1 := HF.out.1
              simpa using h1
            · have h1 := HF.out.2.1
              rw [List.take_succ_eq_append_getElem hlt, ← HH.out]
              exact h1
          case measure => simp [intOf]; omega
    · have HN2 := Lib.hid (show t.take k = t by rw [List.take_of_length_le (by omega)])
      have hi := HI.out
      rw [HN2.out] at hi
      have HI2 := Lib.hid hi
      clear hi
      go_wp2
      go_ret
      exact ⟨_, rfl, ⟨hs, HO.out, HI2.out⟩, HT.out⟩
end Go.Proofs.YtoanjaidfdkdpaaGreat
/- Walks: the tent of the document's examples. -/
namespace Go.Proofs.YtoanjaidfdkdpaaGreat
set_option linter.unusedSimpArgs false
set_option linter.unusedVariables false
open Go.RowKit Go.BT


end Go.Proofs.YtoanjaidfdkdpaaGreat
/- Walks: the law's wakes: it is true. -/
namespace Go.Proofs.YtoanjaidfdkdpaaGreat
set_option linter.unusedSimpArgs false
set_option linter.unusedVariables false
open Go.RowKit Go.BT

theorem equal_range (a b c d : Int) (w : World) : (Op.equal 168 (.agg #[.int .i64 a, .int .i64 b]) (.agg #[.int .i64 c, .int .i64 d])).run Tryz.prog w = .ok (a == c && b == d) w := by
  unfold Op.equal Op.maxDepth
  rw [run_equalIn_agg (w := w) 9999 168 _ _ (by kernel_rfl) (by kernel_rfl)]
  have hf : (Tryz.prog.fieldsOf 168).toList.map (fun f => (f.name, f.type, f.offset)) = [("Lo", 3, 0), ("Hi", 3, 1)] := by kernel_rfl
  obtain ⟨f, g, hfg⟩ : ∃ f g, (Tryz.prog.fieldsOf 168).toList = [f, g] := by
    cases hl : (Tryz.prog.fieldsOf 168).toList with
    | nil => simp [hl] at hf
    | cons f l =>
      cases l with
      | nil => simp [hl] at hf
      | cons g l =>
        cases l with
        | nil => exact ⟨f, g, rfl⟩
        | cons _ _ => simp [hl] at hf
  rw [hfg] at hf ⊢
  simp only [List.map_cons, List.map_nil, List.cons.injEq, Prod.mk.injEq, and_true] at hf
  obtain ⟨⟨n1, t1, o1⟩, n2, t2, o2⟩ := hf
  have hi : Tryz.prog.underlying 3 = some (.int .i64) := by kernel_rfl
  simp [Op.eqFields, n1, n2, t1, t2, o1, o2, hi, part, run_underlying hi]
  have hq : ∀ (a b : Int) (w : World), (Op.equalIn 9999 3 (.int .i64 a) (.int .i64 b)).run Tryz.prog w = .ok (a == b) w := fun a b w => run_equalIn_int (w := w) 9998 _ _ .i64 _ _ hi
  simp only [hq, Result.andThen_ok]
  cases a == c <;> cases b == d <;> simp [Result.andThen]
theorem eql_range (a b c d : Int) (w : World) : (binOp .eql 168 (.agg #[.int .i64 a, .int .i64 b]) (.agg #[.int .i64 c, .int .i64 d])).run Tryz.prog w = .ok (.bool (veq a b c d)) w := by
  have h := equal_range a b c d w
  unfold Op.equal Op.maxDepth at h
  rw [run_eql_struct, h]
  rfl
theorem wk_parts : partsC soilL fourL = 0 := by unfold partsC readyC; rw [four_tests, four_tent, if_pos rfl, if_pos rfl, four_sound]
theorem wk_row : rowL soilL fourH = [56, 56, 56, 56] := by
  unfold rowL fourH fourG
  simp only [List.map_cons, List.map_nil]
  rw [four_part _ (by decide) rfl rfl, four_part _ (by decide) rfl rfl, four_part _ (by decide) rfl rfl, four_part _ (by decide) rfl rfl]
theorem wk_partsR : partsR soilL fourL = [[56, 56, 56, 56]] := by
  unfold partsR
  rw [if_pos wk_parts]
  unfold partsLL fourL
  rw [List.map_cons, List.map_nil, wk_row]
theorem wk_at : atC soilL fourL 0 true = 0 := by
  unfold atC readyC
  rw [four_tests, if_pos rfl, four_tent, if_pos rfl, if_pos (by decide), four_sound]
theorem wk_head : headAt fourL 0 = fourH := rfl
theorem wk_F : headF soilL fourL 0 = fourF := by unfold headF; rw [wk_head]; exact four_forces
theorem wk_P (p : Vec) : headP fourL 0 p = timesV p 100 := rfl
def wkB : Bal := ⟨3136000000, [1680000000, 0, 0, 560000000]⟩
theorem wk_balC : balC soilL fourL 0 ⟨-300, 100⟩ = 0 := by
  unfold balC
  rw [show cornerB ⟨-300, 100⟩ = true by decide, wk_at, if_pos rfl, wk_F, wk_P, four_search, if_pos rfl]
theorem wk_balR : balR soilL fourL 0 ⟨-300, 100⟩ = wkB := by
  unfold balR
  rw [wk_balC, if_pos rfl, wk_F, wk_P, four_search]; rfl
theorem wk_prove : proveBalL soilL fourL 0 ⟨-300, 100⟩ wkB = true := by
  unfold proveBalL
  rw [show cornerB ⟨-300, 100⟩ = true by decide, wk_at, wk_F, wk_P]
  exact four_prove
theorem wk_way : wayB ⟨3, 4⟩ = true := by decide
theorem wk_reach {k : Int} (h : atC soilL fourL 0 (wayB ⟨3, 4⟩) = 0 → IsReach (forcesL soilL (headAt fourL 0).guys) (timesV ⟨3, 4⟩ (headAt fourL 0).area) k) : k = 140 := by
  rw [wk_way] at h
  have := h wk_at
  rw [wk_head, show fourH.guys = fourG from rfl, four_forces] at this
  exact this.unique four_reach
end Go.Proofs.YtoanjaidfdkdpaaGreat
/- Walks: the law CanvasBalances: it answers true. -/
namespace Go.Proofs.YtoanjaidfdkdpaaGreat
set_option linter.unusedSimpArgs false
set_option linter.unusedVariables false
open Go.RowKit Go.BT

theorem Tent_any (S : Nat → Prop) (t : List Head) (v : Value) (w : World) (hv : SL S w v t) (hn : fewT t) :
    Calls Tryz.prog 12 #[v] w fun e w' => ∃ v', e = .returned v' ∧ SL (Old w) w' v' t ∧ Step w w' :=
  (TentO_any S t v w hv hn).mono fun _ _ ⟨v', h1, h2, h3⟩ => ⟨v', h1, h2.sl fun j h4 _ h5 => by unfold Old at h5; omega, h3⟩
theorem few_of {l : List Tst} {t : List Head} (h : few l t = true) : l.length ≤ 45 ∧ fewT t := by
  simp only [few, Bool.and_eq_true, decide_eq_true_eq, List.all_eq_true] at h
  exact ⟨h.1.2, h.2, fun i hi => by have := h.1.1 _ (List.getElem_mem hi); simpa [fewH] using this⟩
/-- A value carried along. -/
theorem SL.go {α : Type} [Rep α] {S : Nat → Prop} {w w' : World} {v : Value} {l : List α} (h : SL S w v l) (k : Step w w') : SL (fun _ => False) w' v l := (h.weak fun _ _ h => h.elim).keep (.of_step k)
theorem AV.go {α : Type} [Rep α] {S : Nat → Prop} {w w' : World} {v : Value} {l : α} (h : AV S w v l) (k : Step w w') : AV (fun _ => False) w' v l := (h.weak fun _ _ h => h.elim).keep (.of_step k)
end Go.Proofs.YtoanjaidfdkdpaaGreat
/- Walks: the errors of forecasts, by the program. -/
namespace Go.Proofs.YtoanjaidfdkdpaaGreat
set_option linter.unusedSimpArgs false
set_option linter.unusedVariables false
open Go.RowKit Go.BT

theorem all_cf1 (l : List Fc) (v : Value) (w : World) (hv : SL (fun _ => False) w v l) : Calls Tryz.prog 99 #[v, .func (.func 100) #[] #[]] w fun e w' => e = .returned (.bool (l.all fun f => decide (f.hours.length ≤ 48))) ∧ Step w w' :=
  (all_fc (fun _ => False) l v w 100 #[] (Go.Proofs.enters_of Tryz.func100 (by kernel_rfl) rfl) (fun f => decide (f.hours.length ≤ 48)) (fun _ W => Step w W) (fun _ => False) (fun _ h => h.elim)
    (fun _ W hW => hv.keep (.of_step hW)) (fun _ _ _ h1 h2 => h1.trans h2) (Step.refl _) (fun i hi W u hW _ hu => by
      refine (cf1_any _ _ W hu).mono ?_
      rintro e w' ⟨rfl, hs⟩
      exact ⟨rfl, hW.trans hs, hs⟩)).mono fun e w' ⟨h, k, _, _, hs⟩ => ⟨h, hs⟩
theorem all_cf3 (l : List Fc) (v : Value) (w : World) (hv : SL (fun _ => False) w v l) : Calls Tryz.prog 99 #[v, .func (.func 103) #[] #[]] w fun e w' => e = .returned (.bool (l.all fun f => nameB f.name)) ∧ Step w w' :=
  (all_fc (fun _ => False) l v w 103 #[] (Go.Proofs.enters_of Tryz.func103 (by kernel_rfl) rfl) (fun f => nameB f.name) (fun _ W => Step w W) (fun _ => False) (fun _ h => h.elim)
    (fun _ W hW => hv.keep (.of_step hW)) (fun _ _ _ h1 h2 => h1.trans h2) (Step.refl _) (fun i hi W u hW _ hu => by
      refine (cf3_any _ _ W hu).mono ?_
      rintro e w' ⟨rfl, hs⟩
      exact ⟨rfl, hW.trans hs, hs⟩)).mono fun e w' ⟨h, k, _, _, hs⟩ => ⟨h, hs⟩
theorem all_cf2 (l : List Fc) (v : Value) (b : Nat) (w : World) (hv : SL (fun _ => False) w v l) (hb : w.cell? ⟨b, 0, none⟩ = some v) : Calls Tryz.prog 99 #[v, .func (.func 101) #[] #[.pointer (some ⟨b, 0, none⟩)]] w fun e w' => e = .returned (.bool (l.all (evenFB l))) ∧ Step w w' :=
  (all_fc (fun _ => False) l v w 101 #[.pointer (some ⟨b, 0, none⟩)] (Go.Proofs.enters_of Tryz.func101 (by kernel_rfl) rfl) (evenFB l) (fun _ W => Step w W) (fun _ => False) (fun _ h => h.elim)
    (fun _ W hW => hv.keep (.of_step hW)) (fun _ _ _ h1 h2 => h1.trans h2) (Step.refl _) (fun i hi W u hW _ hu => by
      refine (cf2_any l v _ _ b W (hv.keep (.of_step hW)) (by omega) (hW.keeps.cell id hb) hu).mono ?_
      rintro e w' ⟨rfl, hs⟩
      exact ⟨rfl, hW.trans hs, hs⟩)).mono fun e w' ⟨h, k, _, _, hs⟩ => ⟨h, hs⟩
theorem names_take {l : List Fc} {k : Nat} (hk : k < l.length) : ((namesOf l).take (k + 1)).foldl addN [] = addN (((namesOf l).take k).foldl addN []) l[k].name := by
  have h : k < (namesOf l).length := by simpa [namesOf] using hk
  rw [List.take_succ_eq_append_getElem h, List.foldl_append]
  simp [namesOf]
attribute [local go_sem] run_len_str
set_option maxRecDepth 100000 in
set_option maxHeartbeats 4000000 in
theorem CheckForecasts_any (S : Nat → Prop) (l : List Fc) (v : Value) (w : World) (hv : SL S w v l) : Calls Tryz.prog 80 #[v] w fun e w' => e = .returned (.int .i64 (forecastsC l)) ∧ Step w w' := by
  have hm := hv.len
  have hv0 := SL.go hv (Step.refl _)
  obtain ⟨pv, cv, bv, ov, rfl, _, _, hpv, hcv, _⟩ := hv0.fcs
  obtain ⟨W0, hW0⟩ : ∃ W, W = (w.alloc (.cells #[.slice pv l.length cv] 54)).alloc (.map #[] 0) := ⟨_, rfl⟩
  have hS : Step w W0 := by subst hW0; exact (by repeat (first | (with_reducible assumption) | (with_reducible exact Step.refl _) | (with_reducible apply Step.s_alloc) | (with_reducible apply Step.s_drew) | (with_reducible apply Step.s_drewN) | (with_reducible refine Step.trans ?_ (by with_reducible assumption))))
  have hz : W0.heap.size = w.heap.size + 2 := by subst hW0; simp
  have hbx : Bx W0 w.heap.size [.slice pv l.length cv] 54 := by subst hW0; exact (Bx.new w [_] _).step (Step.alloc _ _)
  have hsm : SM W0 (w.heap.size + 1) [] := by
    subst hW0
    refine ⟨#[], 0, ?_, rfl⟩
    have := heap_alloc_new (w.alloc (.cells #[.slice pv l.length cv] 54)) (.map #[] 0)
    rw [World.size_alloc] at this
    exact this
  have HW := Lib.hid hW0
  have HS := Lib.hid (And.intro hS hz)
  have HBX := Lib.hid hbx
  have HSM := Lib.hid hsm
  have HV := Lib.hid ((hv0.weak (T := fun j => j = w.heap.size + 1) fun j hj e => by omega).keep (.of_step hS))
  have HC := Lib.hid (And.intro hpv hcv)
  clear hv hv0 hpv hcv hW0 hS hz hbx hsm
  have hmm := @run_makeMap Tryz.prog
  go_enter Tryz.func80, Tryz.ntmps80
  go_upto_region 3 with (fail)
  rw [← HW.out]
  go_loopw [9] (fun i wr => ∃ k : Nat, k ≤ l.length ∧ i = .int .i64 k ∧ SM wr (w.heap.size + 1) (((namesOf l).take k).foldl addN []) ∧ StepX (fun j => j = w.heap.size + 1) W0 wr) (fun i _ => l.length - (intOf i).toNat)
  case atStart => exact ⟨0, Nat.zero_le _, rfl, HSM.out, StepX.refl _ _⟩
  case round =>
    obtain ⟨k, hk, rfl, hsm, hX⟩ := hrel
    have HX := Lib.hid hX
    have HM := Lib.hid hsm
    by_cases hlt : k < l.length
    · obtain ⟨p', c', b', o', he, _, _, hpp, hc, _⟩ := (HV.out.keep hX.keeps).fcs
      injection he with he1 he2 he3
      subst he1 he3
      obtain rfl := hpp (by omega)
      obtain ⟨c1, e1, e2, e3, _⟩ := hc k hlt
      obtain ⟨p2, k2, rfl⟩ := e3.form
      have hix : (0 : Int) ≤ (k : Int) ∧ (k : Int) < (l.length : Int) := by omega
      have hsm3 : SM (wr.alloc (.cells #[.string l[k].name, .slice p2 l[k].hours.length k2] 92)) (w.heap.size + 1) (((namesOf l).take k).foldl addN []) := hsm.keep (Step.alloc _ _) id
      obtain ⟨w4, hmu, hsm4, hw4⟩ := run_mapUpdate_str l[k].name hsm3
      have HM4 := Lib.hid (And.intro hsm4 hw4)
      clear hsm hX hsm3 hsm4 hw4 hc hpp he2 e3 HM
      go_wp2
      go_roundw
      case rel => exact ⟨k + 1, by omega, by go_num, by rw [names_take hlt]; exact HM4.out.1, (HX.out.trans (.of (Step.alloc _ _))).trans (StepX.grown HM4.out.2.grown fun j e _ => by injection e with e; exact e.symm)⟩
      case measure => simp [intOf]; omega
    · have hke : k = (namesOf l).length := by simp [namesOf]; omega
      rw [hke, List.take_length] at hsm
      obtain ⟨wb, hwb⟩ : ∃ W, W = wr := ⟨_, rfl⟩
      subst hwb
      obtain ⟨ks, hks⟩ : ∃ ks, ks = (namesOf l).foldl addN [] := ⟨_, rfl⟩
      rw [← hks] at hsm
      have hlen := add_len (namesOf l) []
      rw [← hks] at hlen
      have hnl : (namesOf l).length = l.length := by simp [namesOf]
      rw [hnl] at hlen
      simp only [List.length_nil, Nat.zero_add, List.not_mem_nil, not_false_eq_true, implies_true, and_true] at hlen
      have HLEN := Lib.hid hlen
      have HSMB := Lib.hid hsm
      have HVB := Lib.hid (SL.go (HV.out.keep hX.keeps) (Step.refl _))
      have HB0 := Lib.hid (hX.keeps.cell (show ¬ w.heap.size = w.heap.size + 1 by omega) (HBX.out.cell 0))
      have HSB := Lib.hid (StepX.fresh HS.out.1 hX (fun j hj => by omega))
      have HT := Lib.hid (Step.refl wb)
      clear hsm hX HX HM hke hks hlen hnl HV HBX HS HSM hmm
      have HF := Lib.hid (show fewFB l = (withinB (l.length : Int) 1 10 && l.all fun f => decide (f.hours.length ≤ 48)) by
        unfold fewFB withinB
        congr 1
        congr 1 <;> (apply decide_eq_decide.2; omega))
      have y0 := HT.out.keeps.cell id HB0.out
      go_wp2_with fail
      refine (gale.within_any _ _ _ _).mono ?_
      rintro e w' ⟨rfl, rfl⟩
      clear hlt hk
      cases q : withinB (l.length : Int) 1 10 with
      | false =>
        have HR := Lib.hid (show forecastsC l = 3 by unfold forecastsC; rw [HF.out, q]; rfl)
        clear q
        go_wp2
        go_ret
        exact ⟨by rw [HR.out]; rfl, HSB.out.trans HT.out⟩
      | true =>
      have HF1 := Lib.hid (show fewFB l = l.all fun f => decide (f.hours.length ≤ 48) by rw [HF.out, q]; rfl)
      clear q HF
      have hcall := Lib.hid (all_cf1 l _ _ (SL.go HVB.out HT.out))
      go_wp2_with fail
      refine hcall.out.mono ?_
      clear hcall
      rintro e wn ⟨rfl, hSn⟩
      have HTi := Lib.hid (HT.out.trans hSn)
      clear hSn HT
      have HT := HTi
      clear HTi
      clear y0
      cases q : l.all fun f => decide (f.hours.length ≤ 48) with
      | false =>
        have HR := Lib.hid (show forecastsC l = 3 by unfold forecastsC; rw [HF1.out, q]; rfl)
        clear q
        go_wp2
        go_ret
        exact ⟨by rw [HR.out]; rfl, HSB.out.trans HT.out⟩
      | true =>
      have HF2 := Lib.hid (show fewFB l = true by rw [HF1.out, q])
      clear q HF1
      have y0 := HT.out.keeps.cell id HB0.out
      have hcall := Lib.hid (all_cf2 l _ _ _ (SL.go HVB.out HT.out) (HT.out.keeps.cell id HB0.out))
      go_wp2_with fail
      refine hcall.out.mono ?_
      clear hcall
      rintro e wn ⟨rfl, hSn⟩
      have HTi := Lib.hid (HT.out.trans hSn)
      clear hSn HT
      have HT := HTi
      clear HTi
      clear y0
      cases q : l.all (evenFB l) with
      | false =>
        have HR := Lib.hid (show forecastsC l = 1 by unfold forecastsC; rw [if_pos HF2.out, q]; rfl)
        clear q
        go_wp2
        go_ret
        exact ⟨by rw [HR.out]; rfl, HSB.out.trans HT.out⟩
      | true =>
      have HF3 := Lib.hid q
      clear q
      have y0 := HT.out.keeps.cell id HB0.out
      have hcall := Lib.hid (all_cf3 l _ _ (SL.go HVB.out HT.out))
      go_wp2_with fail
      refine hcall.out.mono ?_
      clear hcall
      rintro e wn ⟨rfl, hSn⟩
      have HTi := Lib.hid (HT.out.trans hSn)
      clear hSn HT
      have HT := HTi
      clear HTi
      clear y0
      cases q : l.all (fun f => nameB f.name) with
      | false =>
        have HR := Lib.hid (show forecastsC l = 5 by unfold forecastsC; rw [if_pos HF2.out, if_pos HF3.out, q]; rfl)
        clear q
        go_wp2
        go_ret
        exact ⟨by rw [HR.out]; rfl, HSB.out.trans HT.out⟩
      | true =>
      have HF4 := Lib.hid q
      clear q
      have y0 := HT.out.keeps.cell id HB0.out
      have hsm := HSMB.out.keep HT.out id
      have hll := run_len_str 3 hsm
      obtain ⟨kn, hkn⟩ : ∃ n, n = ks.length := ⟨_, rfl⟩
      rw [← hkn] at hll
      have HKN := Lib.hid hkn
      clear hkn hsm
      by_cases q : kn < l.length
      · have hd : decide (kn < l.length) = true := decide_eq_true q
        have HR := Lib.hid (show forecastsC l = 6 by
          unfold forecastsC; rw [if_pos HF2.out, if_pos HF3.out, if_pos HF4.out, if_neg]
          intro hn
          have := HLEN.out.2.2 hn
          rw [← HKN.out] at this; omega)
        clear q
        go_wp2
        go_ret
        exact ⟨by rw [HR.out]; rfl, HSB.out.trans HT.out⟩
      · have hd : decide (kn < l.length) = false := decide_eq_false q
        have HR := Lib.hid (show forecastsC l = 0 by
          unfold forecastsC; rw [if_pos HF2.out, if_pos HF3.out, if_pos HF4.out, if_pos]
          refine HLEN.out.2.1 ?_
          have := HLEN.out.1
          rw [← HKN.out] at this ⊢; omega)
        clear q
        go_wp2
        go_ret
        exact ⟨by rw [HR.out]; rfl, HSB.out.trans HT.out⟩
end Go.Proofs.YtoanjaidfdkdpaaGreat
/- Walks: the errors of readings; the first reading that contradicts a forecast. -/
namespace Go.Proofs.YtoanjaidfdkdpaaGreat
set_option linter.unusedSimpArgs false
set_option linter.unusedVariables false
open Go.RowKit Go.BT

theorem rd2_any (x : Rdg) (w : World) : Calls Tryz.prog 83 #[.agg #[.int .i64 x.hour, .int .i64 x.lo, .int .i64 x.hi]] w fun e w' => e = .returned (.bool (rangeB ⟨x.lo, x.hi⟩)) ∧ Step w w' := by
  obtain ⟨a, b, c⟩ := x
  dsimp only
  go_enter Tryz.func83, Tryz.ntmps83
  go_wp2_with fail
  refine (strong_any ⟨b, c⟩ _).mono ?_
  rintro e w' ⟨rfl, hS⟩
  go_wp2
  go_ret
  exact ⟨rfl, (Step.alloc _ _).trans hS⟩
set_option maxRecDepth 100000 in
set_option maxHeartbeats 4000000 in
theorem rd1_any (l : List Fc) (vl : Value) (x : Rdg) (b : Nat) (w : World) (hl : SL (fun _ => False) w vl l) (h0 : 0 < l.length) (hn : hoursN l ≤ 48) (hb : w.cell? ⟨b, 0, none⟩ = some vl) :
    Calls Tryz.prog 82 #[.agg #[.int .i64 x.hour, .int .i64 x.lo, .int .i64 x.hi], .pointer (some ⟨b, 0, none⟩)] w fun e w' => e = .returned (.bool (withinB x.hour 0 ((hoursN l : Int) - 1))) ∧ Step w w' := by
  obtain ⟨xa, xb, xc⟩ := x
  dsimp only
  obtain ⟨pl, cl, bl, ol, rfl, _, hml, hpl, hcl, _⟩ := hl.fcs
  obtain rfl := hpl h0
  obtain ⟨cx, x1, x2, x3, x4⟩ := hcl 0 h0
  obtain ⟨px, kx, rfl⟩ := x3.form
  have hh : hoursN l = l[0].hours.length := by
    cases l with
    | nil => simp at h0
    | cons a l => rfl
  rw [hh] at hn ⊢
  obtain ⟨W0, hW0⟩ : ∃ W, W = w.alloc (.cells #[.int .i64 xa, .int .i64 xb, .int .i64 xc] 115) := ⟨_, rfl⟩
  have hbx : Bx W0 w.heap.size [.int .i64 xa, .int .i64 xb, .int .i64 xc] 115 := by subst hW0; exact Bx.new w [_, _, _] _
  have hS : Step w W0 := by subst hW0; exact Step.alloc _ _
  have HB := Lib.hid hbx
  have HS := Lib.hid hS
  have HW := Lib.hid hW0
  have HC := Lib.hid (And.intro (hS.keeps.cell id hb) (hS.keeps.cell id x2))
  have HT := Lib.hid (Step.refl W0)
  have hix : (0 : Int) < (l.length : Int) := by omega
  clear hbx hS hW0 hb x1 x2 x3 x4 hcl hpl hl
  obtain ⟨n0, hn0⟩ : ∃ n, n = l[0].hours.length := ⟨_, rfl⟩
  rw [← hn0] at HC hn ⊢
  rw [Nat.zero_mul, Nat.add_zero] at HC
  have hw1 : IntKind.i64.wrap ((n0 : Int) - 1) = (n0 : Int) - 1 := by rw [IntKind.wrap_i64]; omega
  clear hn0 hh hn
  go_enter Tryz.func82, Tryz.ntmps82
  go_upto_region 1 with (fail)
  rw [← HW.out]
  refine wp_region_seq (kdOf [8] []) [0, 1, 0, 4, 12, 28, 60, 124, 255, 511] [0, 1, 2, 3, 4, 5, 6, 7, 8, 9] [] (by kernel_rfl) (by kernel_rfl) (fun i T z hi hk => by simp [kdOf] at hk <;> (try (split at hk <;> cases hk))) ?_
  intro Wx hWx
  have HTx := Lib.hid (HT.out.trans hWx)
  clear hWx HT
  have HT := HTx
  clear HTx
  have y0 := (HB.out.step HT.out).cell 0
  have z0 := HT.out.keeps.cell id HC.out.1
  have z1 := HT.out.keeps.cell id HC.out.2
  repeat (first | (refine run_off rfl rfl (by rfl) ?_; (try simp only [Act.put, List.setIfInBounds_toArray, List.set_cons_zero, List.set_cons_succ])) | (refine run_chain_off rfl rfl (by rfl) (K0_mono _) ?_; (try simp only [Act.put, List.setIfInBounds_toArray, List.set_cons_zero, List.set_cons_succ])) | ((refine run_want rfl rfl (by rfl) ⟨?_, fun W hW => ?_, ?_⟩; rotate_left; (· (have d0 := hW.keeps.cell id y0; have d1 := hW.keeps.cell id z0; have d2 := hW.keeps.cell id z1; go_simp; (try with_reducible rfl)))); (try simp only [Act.put, List.setIfInBounds_toArray, List.set_cons_zero, List.set_cons_succ])))
  clear y0 z0 z1
  refine run_chain rfl rfl (by rfl) (fun Wi hWi K' hK => ?_)
  have HTi := Lib.hid (HT.out.trans hWi)
  clear hWi HT
  go_simp
  refine (gale.within_any _ _ _ _).mono ?_
  rintro e wn ⟨rfl, rfl⟩
  have HT := HTi
  clear HTi
  refine hK _ _ (StepX.refl _ _) ?_
  (try simp only [Act.put, List.setIfInBounds_toArray, List.set_cons_zero, List.set_cons_succ])
  repeat (first | (refine run_off rfl rfl (by rfl) ?_; (try simp only [Act.put, List.setIfInBounds_toArray, List.set_cons_zero, List.set_cons_succ])) | (refine run_chain_off rfl rfl (by rfl) (K0_mono _) ?_; (try simp only [Act.put, List.setIfInBounds_toArray, List.set_cons_zero, List.set_cons_succ])) | ((refine run_want rfl rfl (by rfl) ⟨?_, fun W hW => ?_, ?_⟩; rotate_left; (· (skip; go_simp; (try with_reducible rfl)))); (try simp only [Act.put, List.setIfInBounds_toArray, List.set_cons_zero, List.set_cons_succ])))
  refine run_end (L := []) rfl (fun W6 hW6 => ?_)
  have HT6 := Lib.hid (HT.out.trans hW6)
  clear hW6 HT
  have HT := HT6
  clear HT6
  go_wp2
  go_ret
  exact ⟨rfl, HS.out.trans HT.out⟩
theorem all_rd2 (l : List Rdg) (v : Value) (w : World) (hv : SL (fun _ => False) w v l) : Calls Tryz.prog 81 #[v, .func (.func 83) #[] #[]] w fun e w' => e = .returned (.bool (l.all fun x => rangeB ⟨x.lo, x.hi⟩)) ∧ Step w w' :=
  (all_rdg (fun _ => False) l v w 83 #[] (Go.Proofs.enters_of Tryz.func83 (by kernel_rfl) rfl) (fun x => rangeB ⟨x.lo, x.hi⟩) (fun _ W => Step w W) (fun _ => False) (fun _ h => h.elim)
    (fun _ W hW => hv.keep (.of_step hW)) (fun _ _ _ h1 h2 => h1.trans h2) (Step.refl _) (fun i hi W u hW _ hu => by
      subst hu
      refine (rd2_any _ W).mono ?_
      rintro e w' ⟨rfl, hs⟩
      exact ⟨rfl, hW.trans hs, hs⟩)).mono fun e w' ⟨h, k, _, _, hs⟩ => ⟨h, hs⟩
theorem all_rd1 (l : List Fc) (vl : Value) (rs : List Rdg) (v : Value) (b : Nat) (w : World) (hl : SL (fun _ => False) w vl l) (h0 : 0 < l.length) (hn : hoursN l ≤ 48) (hb : w.cell? ⟨b, 0, none⟩ = some vl) (hv : SL (fun _ => False) w v rs) :
    Calls Tryz.prog 81 #[v, .func (.func 82) #[] #[.pointer (some ⟨b, 0, none⟩)]] w fun e w' => e = .returned (.bool (rs.all fun x => withinB x.hour 0 ((hoursN l : Int) - 1))) ∧ Step w w' :=
  (all_rdg (fun _ => False) rs v w 82 #[.pointer (some ⟨b, 0, none⟩)] (Go.Proofs.enters_of Tryz.func82 (by kernel_rfl) rfl) (fun x => withinB x.hour 0 ((hoursN l : Int) - 1)) (fun _ W => Step w W) (fun _ => False) (fun _ h => h.elim)
    (fun _ W hW => hv.keep (.of_step hW)) (fun _ _ _ h1 h2 => h1.trans h2) (Step.refl _) (fun i hi W u hW _ hu => by
      subst hu
      refine (rd1_any l vl _ b W (hl.keep (.of_step hW)) h0 hn (hW.keeps.cell id hb)).mono ?_
      rintro e w' ⟨rfl, hs⟩
      exact ⟨rfl, hW.trans hs, hs⟩)).mono fun e w' ⟨h, k, _, _, hs⟩ => ⟨h, hs⟩
set_option maxRecDepth 100000 in
set_option maxHeartbeats 4000000 in
theorem read_any (S : Nat → Prop) (l : List Fc) (rs : List Rdg) (v u : Value) (w : World) (hv : SL S w v l) (hu : SL S w u rs) : Calls Tryz.prog 57 #[v, u] w fun e w' => e = .returned (.int .i64 (readC l rs)) ∧ Step w w' := by
  have hm := hu.len
  obtain ⟨W0, hW0⟩ : ∃ W, W = w.alloc (.cells #[v] 54) := ⟨_, rfl⟩
  have hS : Step w W0 := by subst hW0; exact Step.alloc _ _
  have hbx : Bx W0 w.heap.size [v] 54 := by subst hW0; exact Bx.new w [_] _
  have HW := Lib.hid hW0
  have HS := Lib.hid hS
  have HB := Lib.hid hbx
  have HV := Lib.hid (SL.go hv hS)
  have HU := Lib.hid (SL.go hu hS)
  have HT := Lib.hid (Step.refl W0)
  obtain ⟨pv, cv, rfl⟩ := hv.form
  obtain ⟨pu, cu, rfl⟩ := hu.form
  clear hW0 hS hbx hv hu
  have y0 := (HB.out.step HT.out).cell 0
  simp only [List.getElem?_cons_zero] at y0
  go_enter Tryz.func57, Tryz.ntmps57
  go_upto_region 1 with (fail)
  rw [← HW.out]
  have hcall := Lib.hid (CheckForecasts_any (fun _ => False) l _ _ (SL.go HV.out HT.out))
  go_wp2_with fail
  refine hcall.out.mono ?_
  clear hcall
  rintro e wn ⟨rfl, hSn⟩
  have HTi := Lib.hid (HT.out.trans hSn)
  clear hSn HT
  have HT := HTi
  clear HTi
  clear y0
  obtain ⟨c, hc⟩ : ∃ c, c = forecastsC l := ⟨_, rfl⟩
  rw [← hc]
  by_cases h0 : c = 0
  rotate_left
  · have hd : (c != 0) = true := by simpa using h0
    have HR := Lib.hid (show readC l rs = c by unfold readC; rw [← hc, if_neg h0])
    clear h0 hc
    go_wp2
    go_ret
    exact ⟨by rw [HR.out]; rfl, HS.out.trans HT.out⟩
  subst h0
  have HF := Lib.hid hc.symm
  have HN := Lib.hid (hoursN_le hc.symm)
  have HL := Lib.hid (few_parts (forecasts_ok hc.symm).1)
  have HR0 := Lib.hid (show readC l rs = readingsC l rs by unfold readC; rw [← hc, if_pos rfl])
  clear hc
  by_cases a1 : rs.length ≤ 60
  rotate_left
  · have hd : decide (60 < (rs.length : Int)) = true := decide_eq_true (by omega)
    have HR := Lib.hid (show readC l rs = 3 by rw [HR0.out]; unfold readingsC; rw [if_neg a1])
    clear a1
    go_wp2
    go_ret
    exact ⟨by rw [HR.out]; rfl, HS.out.trans HT.out⟩
  have hd : decide (60 < (rs.length : Int)) = false := decide_eq_false (by omega)
  have HA := Lib.hid a1
  clear a1
  have hcall := Lib.hid (all_rd1 l _ rs _ _ _ (SL.go HV.out HT.out) HL.out.1 HN.out.2 ((HB.out.step HT.out).cell 0) (SL.go HU.out HT.out))
  go_wp2_with fail
  refine hcall.out.mono ?_
  clear hcall
  rintro e wn ⟨rfl, hSn⟩
  have HTi := Lib.hid (HT.out.trans hSn)
  clear hSn HT
  have HT := HTi
  clear HTi
  clear hd
  cases q : rs.all fun x => withinB x.hour 0 ((hoursN l : Int) - 1) with
  | false =>
    have HR := Lib.hid (show readC l rs = 2 by rw [HR0.out]; unfold readingsC; rw [if_pos HA.out, q]; rfl)
    clear q
    go_wp2
    go_ret
    exact ⟨by rw [HR.out]; rfl, HS.out.trans HT.out⟩
  | true =>
  have HQ := Lib.hid q
  clear q
  have hcall := Lib.hid (all_rd2 rs _ _ (SL.go HU.out HT.out))
  go_wp2_with fail
  refine hcall.out.mono ?_
  clear hcall
  rintro e wn ⟨rfl, hSn⟩
  have HTi := Lib.hid (HT.out.trans hSn)
  clear hSn HT
  have HT := HTi
  clear HTi
  cases q : rs.all fun x => rangeB ⟨x.lo, x.hi⟩ with
  | false =>
    have HR := Lib.hid (show readC l rs = 1 by rw [HR0.out]; unfold readingsC; rw [if_pos HA.out, if_pos HQ.out, q]; rfl)
    clear q
    go_wp2
    go_ret
    exact ⟨by rw [HR.out]; rfl, HS.out.trans HT.out⟩
  | true =>
    have HR := Lib.hid (show readC l rs = 0 by rw [HR0.out]; unfold readingsC; rw [if_pos HA.out, if_pos HQ.out, q]; rfl)
    clear q
    go_wp2
    go_ret
    exact ⟨by rw [HR.out]; rfl, HS.out.trans HT.out⟩
end Go.Proofs.YtoanjaidfdkdpaaGreat
/- Walks: the first reading that contradicts a forecast; which forecasts are left. -/
namespace Go.Proofs.YtoanjaidfdkdpaaGreat
set_option linter.unusedSimpArgs false
set_option linter.unusedVariables false
open Go.RowKit Go.BT

set_option maxHeartbeats 4000000 in
theorem hit_any (f : Fc) (x : Rdg) (b : Nat) (p : Option Addr) (c : Nat) (w : World) (hb : Bx w b [.string f.name, .slice p f.hours.length c] 92) (hs : SL (fun _ => False) w (.slice p f.hours.length c) f.hours) (hh : 0 ≤ x.hour ∧ x.hour < f.hours.length) :
    Calls Tryz.prog 86 #[.agg #[.int .i64 x.hour, .int .i64 x.lo, .int .i64 x.hi], .pointer (some ⟨b, 0, none⟩)] w fun e w' => e = .returned (.bool (hitsB f x)) ∧ Step w w' := by
  obtain ⟨xa, xb, xc⟩ := x
  dsimp only at hh ⊢
  obtain ⟨k, rfl⟩ : ∃ k : Nat, xa = k := ⟨xa.toNat, by omega⟩
  have hk : k < f.hours.length := by omega
  obtain ⟨p', c', b', o', he, _, _, hpp, hc, hbl⟩ := hs.rngs
  have zl := (hbl (by omega)).1
  have yl := hb.lt
  injection he with he1 he2 he3
  subst he1 he3
  obtain rfl := hpp (by omega)
  obtain ⟨e1, e2⟩ := hc k hk
  have HR := Lib.hid (show hitsB f ⟨(k : Int), xb, xc⟩ = (decide (xc < f.hours[k].lo) || decide (f.hours[k].hi < xb)) by
    unfold hitsB hourAt
    rw [Int.toNat_natCast, List.getD_eq_getElem?_getD, List.getElem?_eq_getElem hk]; rfl)
  obtain ⟨r, hr⟩ : ∃ r, r = f.hours[k] := ⟨_, rfl⟩
  rw [← hr] at e1 e2 HR
  obtain ⟨ra, rb⟩ := r
  dsimp only at e1 e2 HR
  have g1 := hb.cell 1
  simp only [List.getElem?_cons_zero, List.getElem?_cons_succ] at g1
  clear hr hc hpp he2 hs hb hbl
  by_cases a1 : xc < ra
  · have d1 : decide (xc < ra) = true := decide_eq_true a1
    have HN := Lib.hid (show hitsB f ⟨(k : Int), xb, xc⟩ = true by rw [HR.out, d1]; rfl)
    clear a1
    go_enter Tryz.func86, Tryz.ntmps86
    go_wp2
    go_ret
    exact ⟨by rw [HN.out]; rfl, (by repeat (first | (with_reducible assumption) | (with_reducible exact Step.refl _) | (with_reducible apply Step.s_alloc) | (with_reducible apply Step.s_drew) | (with_reducible apply Step.s_drewN) | (with_reducible refine Step.trans ?_ (by with_reducible assumption))))⟩
  · have d1 : decide (xc < ra) = false := decide_eq_false a1
    by_cases a2 : rb < xb
    · have d2 : decide (rb < xb) = true := decide_eq_true a2
      have HN := Lib.hid (show hitsB f ⟨(k : Int), xb, xc⟩ = true by rw [HR.out, d1, d2]; rfl)
      clear a1 a2
      go_enter Tryz.func86, Tryz.ntmps86
      go_wp2
      go_ret
      exact ⟨by rw [HN.out]; rfl, (by repeat (first | (with_reducible assumption) | (with_reducible exact Step.refl _) | (with_reducible apply Step.s_alloc) | (with_reducible apply Step.s_drew) | (with_reducible apply Step.s_drewN) | (with_reducible refine Step.trans ?_ (by with_reducible assumption))))⟩
    · have d2 : decide (rb < xb) = false := decide_eq_false a2
      have HN := Lib.hid (show hitsB f ⟨(k : Int), xb, xc⟩ = false by rw [HR.out, d1, d2]; rfl)
      clear a1 a2
      go_enter Tryz.func86, Tryz.ntmps86
      go_wp2
      go_ret
      exact ⟨by rw [HN.out]; rfl, (by repeat (first | (with_reducible assumption) | (with_reducible exact Step.refl _) | (with_reducible apply Step.s_alloc) | (with_reducible apply Step.s_drew) | (with_reducible apply Step.s_drewN) | (with_reducible refine Step.trans ?_ (by with_reducible assumption))))⟩
theorem struck_any (f : Fc) (rs : List Rdg) (u v : Value) (w : World) (hu : AV (fun _ => False) w u f) (hv : SL (fun _ => False) w v rs) (hh : ∀ x ∈ rs, 0 ≤ x.hour ∧ x.hour < f.hours.length) :
    Calls Tryz.prog 58 #[u, v] w fun e w' => e = .returned (.int .i64 (idxOf (hitsB f) rs)) ∧ Step w w' := by
  obtain ⟨c1, rfl, h1, _⟩ := hu.fc
  obtain ⟨p, c, rfl⟩ := h1.form
  obtain ⟨W0, hW0⟩ : ∃ W, W = w.alloc (.cells #[.string f.name, .slice p f.hours.length c] 92) := ⟨_, rfl⟩
  have hS : Step w W0 := by subst hW0; exact Step.alloc _ _
  have hbx : Bx W0 w.heap.size [.string f.name, .slice p f.hours.length c] 92 := by subst hW0; exact Bx.new w [_, _] _
  have hcall := Lib.hid (indexFunc_rdg (fun _ => False) rs v W0 86 #[.pointer (some ⟨w.heap.size, 0, none⟩)] (Go.Proofs.enters_of Tryz.func86 (by kernel_rfl) rfl) (hitsB f) (fun _ W => Step W0 W)
    (fun _ W hW => SL.go hv (hS.trans hW)) (Step.refl _) (fun i hi W u hW _ hu => by
      subst hu
      refine (hit_any f rs[i] _ p c W (hbx.step hW) (SL.go h1 (hS.trans hW)) (hh _ (List.getElem_mem hi))).mono ?_
      rintro e w' ⟨rfl, hs⟩
      exact ⟨rfl, hW.trans hs⟩))
  have HW := Lib.hid hW0
  have HS := Lib.hid hS
  obtain ⟨pv, cv, rfl⟩ := hv.form
  clear hW0 hS hbx hu hv h1 hh
  go_enter Tryz.func58, Tryz.ntmps58
  go_wp2_with fail
  rw [← HW.out]
  refine hcall.out.mono ?_
  rintro e w1 ⟨rfl, k, _, _, hS1⟩
  clear hcall
  go_wp2
  go_ret
  exact ⟨rfl, HS.out.trans hS1⟩
/-- Which forecasts are struck, and by which reading. -/
def strikesTo (l : List Fc) (rs : List Rdg) (k : Nat) : List Vec := (List.range k).filterMap fun (i : Nat) => match l[i]? with
  | some f => if rs.any (hitsB f) then some ⟨(i : Int), idxOf (hitsB f) rs⟩ else none
  | none => none
theorem left_next {l : List Fc} {rs : List Rdg} {k : Nat} (hk : k < l.length) : leftI l rs (k + 1) = leftI l rs k ++ (if rs.any (hitsB l[k]) = true then [] else [(k : Int)]) := by
  unfold leftI leftN
  rw [List.range_succ, List.filter_append, List.map_append]
  congr 1
  cases q : rs.any (hitsB l[k]) <;> simp only [List.filter_cons, List.filter_nil, List.getElem?_eq_getElem hk, q, Bool.not_true, Bool.not_false, if_true, if_false, List.map_cons, List.map_nil, Bool.false_eq_true]
theorem strikes_next {l : List Fc} {rs : List Rdg} {k : Nat} (hk : k < l.length) : strikesTo l rs (k + 1) = strikesTo l rs k ++ (if rs.any (hitsB l[k]) = true then [(⟨(k : Int), idxOf (hitsB l[k]) rs⟩ : Vec)] else []) := by
  unfold strikesTo
  rw [List.range_succ, List.filterMap_append]
  congr 1
  cases q : rs.any (hitsB l[k]) <;> simp only [List.filterMap_cons, List.filterMap_nil, List.getElem?_eq_getElem hk, q, if_true, if_false, Bool.false_eq_true]
theorem left_len (l : List Fc) (rs : List Rdg) (k : Nat) : (leftI l rs k).length ≤ k := by
  unfold leftI leftN
  rw [List.length_map]
  exact Nat.le_trans (List.length_filter_le _ _) (Nat.le_of_eq List.length_range)
theorem strikes_len (l : List Fc) (rs : List Rdg) (k : Nat) : (strikesTo l rs k).length ≤ k := by
  unfold strikesTo
  exact Nat.le_trans (List.length_filterMap_le _ _) (Nat.le_of_eq List.length_range)
theorem infoStrike : (Tryz.prog.info? 140).map (fun i => (i.zero, i.size, i.bytes)) = some (some (.agg #[.int .i64 0, .int .i64 0]), 2, 16) := by kernel_rfl
theorem eiStrikes : EI Tryz.prog 110 140 (.agg #[.int .i64 0, .int .i64 0]) 2 16 := .mk' Tryz.underlying110 infoStrike rfl
theorem own_own {α β : Type} [Rep α] [Rep β] {S S' : Nat → Prop} {base base' : Nat} {e e' : TypeId} {w : World} {v u : Value} {l : List α} {m : List β} (h : OwnL S base e w v l) (h' : OwnL S' base' e' w u m) (hne : e ≠ e') : ∀ g, v.ownBlock = some g → u.ownBlock ≠ some g := by
  obtain ⟨xs, ⟨_, ho⟩, _⟩ := h
  obtain ⟨ys, ⟨_, ho'⟩, _⟩ := h'
  intro g hg hg'
  rcases ho with ⟨rfl, _⟩ | ⟨g1, cap, cur, rfl, _, hb, _⟩
  · simp [Value.ownBlock] at hg
  rcases ho' with ⟨rfl, _⟩ | ⟨g2, cap', cur', rfl, _, hb', _⟩
  · simp [Value.ownBlock] at hg'
  simp [Value.ownBlock] at hg hg'
  subst hg hg'
  rw [hb] at hb'
  injection hb' with hb'
  injection hb' with _ h2 _
  exact hne h2
theorem read_hours {l : List Fc} {rs : List Rdg} (h : readC l rs = 0) : forecastsC l = 0 ∧ rs.length ≤ 60 ∧ ∀ k (hk : k < l.length), ∀ x ∈ rs, 0 ≤ x.hour ∧ x.hour < l[k].hours.length := by
  unfold readC at h
  split at h
  · rename_i h0
    unfold readingsC at h
    split at h
    · rename_i h1
      split at h
      · rename_i h2
        refine ⟨h0, h1, fun k hk x hx => ?_⟩
        have := List.all_eq_true.1 h2 x hx
        have he := (even_parts (forecasts_ok h0).2.1 _ (List.getElem_mem hk)).2.1
        simp only [withinB, Bool.and_eq_true, decide_eq_true_eq] at this
        omega
      · simp at h
    · simp at h
  · rename_i h0; exact absurd h h0
end Go.Proofs.YtoanjaidfdkdpaaGreat
/- Walks: which forecasts are left, and the strikes, by the program. -/
namespace Go.Proofs.YtoanjaidfdkdpaaGreat
set_option linter.unusedSimpArgs false
set_option linter.unusedVariables false
open Go.RowKit Go.BT

set_option maxRecDepth 100000 in
set_option maxHeartbeats 8000000 in
theorem Strikes_any (S : Nat → Prop) (l : List Fc) (rs : List Rdg) (v u : Value) (w : World) (hv : SL S w v l) (hu : SL S w u rs) :
    Calls Tryz.prog 33 #[v, u] w fun e w' => ∃ v1 v2, e = .returned (.tuple #[v1, v2, .int .i64 (readC l rs)]) ∧ (readC l rs = 0 → SL (Old w) w' v1 (leftI l rs l.length) ∧ SL (Old w) w' v2 (strikesTo l rs l.length)) ∧ (readC l rs ≠ 0 → v1 = .slice none 0 0 ∧ v2 = .slice none 0 0) ∧ Step w w' := by
  have HV := Lib.hid (SL.go hv (Step.refl _))
  have HU := Lib.hid (SL.go hu (Step.refl _))
  have HT := Lib.hid (Step.refl w)
  have hm := hv.len
  obtain ⟨pv, cv, rfl⟩ := hv.form
  obtain ⟨pu, cu, rfl⟩ := hu.form
  clear hv hu
  go_enter Tryz.func33, Tryz.ntmps33
  have hcall := Lib.hid (read_any (fun _ => False) l rs _ _ _ HV.out HU.out)
  go_wp2_with fail
  refine hcall.out.mono ?_
  clear hcall
  rintro e wn ⟨rfl, hSn⟩
  have HTi := Lib.hid (HT.out.trans hSn)
  clear hSn HT
  have HT := HTi
  clear HTi
  obtain ⟨c, hc⟩ : ∃ c, c = readC l rs := ⟨_, rfl⟩
  rw [← hc]
  by_cases h0 : c = 0
  rotate_left
  · have hd : (c != 0) = true := by simpa using h0
    have H0 := Lib.hid (And.intro h0 hc)
    clear h0 hc
    go_wp2
    go_ret3
    exact ⟨_, _, by rw [← H0.out.2]; rfl, fun h => absurd (H0.out.2.trans h) H0.out.1, fun _ => ⟨rfl, rfl⟩, HT.out⟩
  subst h0
  have HC0 := Lib.hid hc.symm
  have HR := Lib.hid (read_hours hc.symm)
  have HL := Lib.hid (few_parts (forecasts_ok (read_hours hc.symm).1).1)
  clear hc
  have HB0 := Lib.hid ((Below.refl w.heap.size w).step (Nat.le_refl _) HT.out)
  clear HT
  go_wp2
  go_loopw [4, 5, 19] (fun a b i wr => ∃ k : Nat, k ≤ l.length ∧ i = .int .i64 k ∧ OwnL (fun _ => False) w.heap.size 3 wr a (leftI l rs k) ∧ OwnL (fun _ => False) w.heap.size 140 wr b (strikesTo l rs k) ∧ Below w.heap.size w wr) (fun _ _ i _ => l.length - (intOf i).toNat)
  case atStart => exact ⟨0, Nat.zero_le _, rfl, OwnL.nil _ _ _ _, OwnL.nil _ _ _ _, HB0.out⟩
  case round =>
    obtain ⟨k, hk, rfl, hoa, hob, hB⟩ := hrel
    have HT := Lib.hid (Step.of hB)
    have HB := Lib.hid hB
    have HOA := Lib.hid hoa
    have HOB := Lib.hid hob
    have HLA := Lib.hid (Nat.le_trans (left_len l rs k) (Nat.le_trans hk HL.out.2.1))
    have HLB := Lib.hid (Nat.le_trans (strikes_len l rs k) (Nat.le_trans hk HL.out.2.1))
    by_cases hlt : k < l.length
    · obtain ⟨la, hla⟩ : ∃ L, L = leftI l rs k := ⟨_, rfl⟩
      obtain ⟨lb, hlb⟩ : ∃ L, L = strikesTo l rs k := ⟨_, rfl⟩
      rw [← hla] at hoa HOA HLA
      rw [← hlb] at hob HOB HLB
      obtain ⟨pa, ca, rfl, _⟩ := hoa.form
      obtain ⟨pb, cb, rfl, _⟩ := hob.form
      have HLL := Lib.hid (And.intro hla hlb)
      obtain ⟨p', c', b', o', he, _, _, hpp, hcc, hbl⟩ := (SL.go HV.out HT.out).fcs
      injection he with he1 he2 he3
      subst he1 he3
      obtain rfl := hpp (by omega)
      obtain ⟨c1, e1, e2, e3, e4⟩ := hcc k hlt
      obtain ⟨p2, k2, rfl⟩ := e3.form
      have hix : (0 : Int) ≤ (k : Int) ∧ (k : Int) < (l.length : Int) := by omega
      have HHR := Lib.hid (HR.out.2.2 k hlt)
      have HNX := Lib.hid (And.intro (left_next (rs := rs) hlt) (strikes_next (rs := rs) hlt))
      obtain ⟨f, hf⟩ : ∃ f, f = l[k] := ⟨_, rfl⟩
      rw [← hf] at e1 e2 e3 e4 HHR HNX
      have HAV := Lib.hid (show AV (fun _ => False) wr (.agg #[.string f.name, .slice p2 f.hours.length k2]) f from ⟨_, rfl, _, rfl, e3, e4⟩)
      clear hoa hob hB hla hlb hpp hcc hbl he2 e3 e4 hf
      go_wp2_with fail
      refine (struck_any f rs _ _ _ (HAV.out.keep (.of_step (Step.alloc _ _))) (SL.go HU.out (HT.out.trans (Step.alloc _ _))) HHR.out).mono ?_
      rintro e wn ⟨rfl, hSn⟩
      have HS4 := Lib.hid ((Step.alloc wr (.cells #[.string f.name, .slice p2 f.hours.length k2] 92)).trans hSn)
      have hge := idxOf_ge (hitsB f) rs
      obtain ⟨r, hr⟩ : ∃ r, r = idxOf (hitsB f) rs := ⟨_, rfl⟩
      rw [← hr] at hge HNX ⊢
      clear hSn e1 e2 hr
      cases q : rs.any (hitsB f) with
      | true =>
        rw [q] at hge HNX
        rw [if_pos rfl, if_pos rfl, ← HLL.out.1, ← HLL.out.2, List.append_nil] at HNX
        clear q
        have hA4 := (HOA.out.step HS4.out).alloc (.cells #[.int .i64 (k : Int), .int .i64 r] 140)
        have hB4 := (HOB.out.step HS4.out).alloc (.cells #[.int .i64 (k : Int), .int .i64 r] 140)
        have hBl := (HB.out.step (Nat.le_refl _) HS4.out).step (Nat.le_refl _) (Step.alloc wn (.cells #[.int .i64 (k : Int), .int .i64 r] 140))
        have hbz := hBl.size
        have hl1 := HLB.out
        have HBl := Lib.hid hBl
        have HAB := Lib.hid (And.intro hA4 hB4)
        clear hBl
        have hu := SLe.one (S := avoid (fun _ => False) (.slice pb lb.length cb)) (w := wn) (cs := [.int .i64 (k : Int), .int .i64 r]) (x := (⟨(k : Int), r⟩ : Vec)) 140 rfl
        clear hA4
        go_wp2_with (at_builtin; refine wpl_append (α := Vec) (S := fun _ => False) (base := w.heap.size) (v := .slice pb lb.length cb) (l := lb) (m := [⟨(k : Int), r⟩]) eiStrikes rfl _ _ rfl rfl rfl hB4 hu (lb.length + 1) (by simp) _ rfl (by simp only [maxLen]; omega) (by omega) hbz ?_)
        intro p5 c5 w5 hown5 hg
        have HF := Lib.hid (And.intro hown5 (And.intro (ownL_grown HAB.out.1 hg (fun g hg' => own_own HAB.out.1 HAB.out.2 (by decide) g hg')) (HBl.out.grown hg hbz (fun j hj => (hB4.lt j hj).1))))
        clear hB4 hu hown5 hg hbz hl1 HAB
        go_wp2
        go_roundw
        case rel => exact ⟨k + 1, by omega, by go_num, by rw [HNX.out.1]; exact HF.out.2.1, by rw [HNX.out.2]; exact HF.out.1, HF.out.2.2⟩
        case measure => simp [intOf]; omega
      | false =>
        rw [q] at hge HNX
        rw [if_neg (by decide), if_neg (by decide), ← HLL.out.1, ← HLL.out.2, List.append_nil] at HNX
        clear q
        have hA4 := (HOA.out.step HS4.out).alloc (.cells #[.int .i64 (k : Int)] 3)
        have hB4 := (HOB.out.step HS4.out).alloc (.cells #[.int .i64 (k : Int)] 3)
        have hBl := (HB.out.step (Nat.le_refl _) HS4.out).step (Nat.le_refl _) (Step.alloc wn (.cells #[.int .i64 (k : Int)] 3))
        have hbz := hBl.size
        have hl1 := HLA.out
        have HBl := Lib.hid hBl
        have HAB := Lib.hid (And.intro hA4 hB4)
        clear hBl
        have hu := SLe.one (S := avoid (fun _ => False) (.slice pa la.length ca)) (w := wn) (cs := [.int .i64 (k : Int)]) (x := ((k : Int) : Int)) 3 rfl
        clear hB4
        go_wp2_with (at_builtin; refine wpl_append (α := Int) (S := fun _ => False) (base := w.heap.size) (v := .slice pa la.length ca) (l := la) (m := [(k : Int)]) eiInts rfl _ _ rfl rfl rfl hA4 hu (la.length + 1) (by simp) _ rfl (by simp only [maxLen]; omega) (by omega) hbz ?_)
        intro p5 c5 w5 hown5 hg
        have HF := Lib.hid (And.intro hown5 (And.intro (ownL_grown HAB.out.2 hg (fun g hg' => own_own HAB.out.2 HAB.out.1 (by decide) g hg')) (HBl.out.grown hg hbz (fun j hj => (hA4.lt j hj).1))))
        clear hA4 hu hown5 hg hbz hl1 HAB
        go_wp2
        go_roundw
        case rel => exact ⟨k + 1, by omega, by go_num, by rw [HNX.out.1]; exact HF.out.1, by rw [HNX.out.2]; exact HF.out.2.1, HF.out.2.2⟩
        case measure => simp [intOf]; omega
    · have hke : k = l.length := by omega
      subst hke
      have HF := Lib.hid (And.intro (hoa.sl (S := Old w) fun g h1 _ h2 => by unfold Old at h2; omega) (hob.sl (S := Old w) fun g h1 _ h2 => by unfold Old at h2; omega))
      clear hoa hob hB
      go_wp2
      go_ret3
      exact ⟨_, _, by rw [HC0.out]; rfl, fun _ => HF.out, fun h => absurd HC0.out h, HT.out⟩
end Go.Proofs.YtoanjaidfdkdpaaGreat
/- Walks: the worst winds, by the program. -/
namespace Go.BT
/-- The worst winds under way: the hours below k know one forecast more. -/
def mixW (l : List Fc) (ids : List Nat) (j k : Nat) : List Int := (List.range (hoursN l)).map fun h => if h < k then worstF l (ids.take (j + 1)) h else worstF l (ids.take j) h
theorem worstm_len (l : List Fc) (ids : List Nat) (j k : Nat) : (mixW l ids j k).length = hoursN l := by simp [mixW]
theorem worstm_start (l : List Fc) (ids : List Nat) : mixW l ids 0 0 = List.replicate (hoursN l) 0 := by
  refine List.ext_getElem (by simp [mixW]) fun i h1 h2 => ?_
  simp [mixW, worstF]
theorem worstm_next (l : List Fc) (ids : List Nat) (j : Nat) : mixW l ids j (hoursN l) = mixW l ids (j + 1) 0 := by
  refine List.ext_getElem (by simp [mixW]) fun i h1 h2 => ?_
  have : i < hoursN l := by simpa [mixW] using h1
  simp only [mixW, List.getElem_map, List.getElem_range]
  rw [if_pos this, if_neg (by omega)]
theorem worstm_end (l : List Fc) (ids : List Nat) : mixW l ids ids.length 0 = worstL l ids := by
  refine List.ext_getElem (by simp [mixW, worstL]) fun i h1 h2 => ?_
  simp only [mixW, worstL, List.getElem_map, List.getElem_range]
  rw [if_neg (by omega), List.take_length]
theorem worstm_at (l : List Fc) (ids : List Nat) (j k : Nat) (hk : k < hoursN l) : (mixW l ids j k)[k]'(by rw [worstm_len]; exact hk) = worstF l (ids.take j) k := by
  simp only [mixW, List.getElem_map, List.getElem_range]
  rw [if_neg (by omega)]
theorem worstm_set (l : List Fc) (ids : List Nat) (j k : Nat) (_ : k < hoursN l) : (mixW l ids j k).set k (worstF l (ids.take (j + 1)) k) = mixW l ids j (k + 1) := by
  refine List.ext_getElem (by simp [mixW]) fun i h1 h2 => ?_
  rw [List.getElem_set]
  simp only [mixW, List.getElem_map, List.getElem_range]
  by_cases e : k = i
  · subst e; rw [if_pos rfl, if_pos (by omega)]
  · rw [if_neg e]
    by_cases q : i < k
    · rw [if_pos q, if_pos (by omega)]
    · rw [if_neg q, if_neg (by omega)]
theorem worst_take {l : List Fc} {ids : List Nat} {j : Nat} (hj : j < ids.length) (hi : ids[j] < l.length) (k : Nat) : worstF l (ids.take (j + 1)) k = max (worstF l (ids.take j) k) (hourAt l[ids[j]] k).hi := by
  unfold worstF
  rw [List.take_succ_eq_append_getElem hj, List.foldl_append, List.foldl_cons, List.foldl_nil, List.getElem?_eq_getElem hi]
theorem left_lt {l : List Fc} {rs : List Rdg} {j : Nat} (hj : j < (leftN l rs l.length).length) : (leftN l rs l.length)[j] < l.length := by
  have := List.getElem_mem hj
  unfold leftN at this
  rw [List.mem_filter, List.mem_range] at this
  exact this.1
end Go.BT
namespace Go.Proofs.YtoanjaidfdkdpaaGreat
set_option linter.unusedSimpArgs false
set_option linter.unusedVariables false
open Go.RowKit Go.BT

set_option maxRecDepth 100000 in
set_option maxHeartbeats 8000000 in
theorem Worst_any (S : Nat → Prop) (l : List Fc) (rs : List Rdg) (v u : Value) (w : World) (hv : SL S w v l) (hu : SL S w u rs) :
    Calls Tryz.prog 14 #[v, u] w fun e w' => ∃ v', e = .returned (.tuple #[v', .int .i64 (worstC l rs)]) ∧ SL (Old w) w' v' (worstR l rs) ∧ Step w w' := by
  have HV := Lib.hid (SL.go hv (Step.refl _))
  have HU := Lib.hid (SL.go hu (Step.refl _))
  have HT := Lib.hid (Step.refl w)
  obtain ⟨pv, cv, rfl⟩ := hv.form
  obtain ⟨pu, cu, rfl⟩ := hu.form
  clear hv hu
  go_enter Tryz.func14, Tryz.ntmps14
  go_wp2_with fail
  refine (Strikes_any (fun _ => False) l rs _ _ _ HV.out HU.out).mono ?_
  rintro e wn ⟨v1, v2, rfl, hok, hno, hSn⟩
  obtain ⟨c, hc⟩ : ∃ c, c = readC l rs := ⟨_, rfl⟩
  rw [← hc] at hok hno ⊢
  have HTi := Lib.hid (HT.out.trans hSn)
  clear HT hSn
  have HT := HTi
  clear HTi
  by_cases h0 : c = 0
  rotate_left
  · have hd : (c != 0) = true := by simpa using h0
    have HW1 := Lib.hid (show worstC l rs = c by unfold worstC; rw [← hc, if_neg h0])
    have HW2 := Lib.hid (show worstR l rs = [] by unfold worstR; rw [HW1.out, if_neg h0])
    obtain ⟨rfl, rfl⟩ := hno h0
    clear h0 hc hok hno
    go_wp2
    go_ret2
    exact ⟨_, by rw [HW1.out]; rfl, by rw [HW2.out]; exact SL.nil _ _, HT.out⟩
  subst h0
  obtain ⟨hl1, _⟩ := hok rfl
  have HR := Lib.hid (read_hours hc.symm)
  have HN := Lib.hid (hoursN_le (read_hours hc.symm).1)
  have HL := Lib.hid (few_parts (forecasts_ok (read_hours hc.symm).1).1)
  have HEV := Lib.hid (even_parts (forecasts_ok (read_hours hc.symm).1).2.1)
  have HLT := Lib.hid (fun j => left_lt (l := l) (rs := rs) (j := j))
  have HLN := Lib.hid (show (leftN l rs l.length).length ≤ 10 by
    have h1 := left_len l rs l.length
    have h2 := (few_parts (forecasts_ok (read_hours hc.symm).1).1).2.1
    unfold leftI at h1
    rw [List.length_map] at h1; omega)
  obtain ⟨ids, hids⟩ : ∃ L, L = leftN l rs l.length := ⟨_, rfl⟩
  have hli : leftI l rs l.length = ids.map fun (i : Nat) => (i : Int) := by unfold leftI; rw [← hids]
  rw [hli] at hl1
  rw [← hids] at HLN
  have HID := Lib.hid (And.intro hids hc.symm)
  obtain ⟨p1, c1, rfl⟩ := hl1.form
  rw [List.length_map] at *
  have HS1 := Lib.hid hl1
  clear hok hno hli hl1
  by_cases h0 : ids.length = 0
  · have hd : ((ids.length : Int) == 0) = true := by rw [h0]; rfl
    have he : ids = [] := List.eq_nil_of_length_eq_zero h0
    have HW1 := Lib.hid (show worstC l rs = 7 by unfold worstC; rw [← hc, if_pos rfl, ← hids, he, if_pos rfl])
    have HW2 := Lib.hid (show worstR l rs = [] by unfold worstR; rw [HW1.out, if_neg (by decide)])
    clear h0 he hc hids
    go_wp2
    go_ret2
    exact ⟨_, by rw [HW1.out]; rfl, by rw [HW2.out]; exact SL.nil _ _, HT.out⟩
  have hd : ((ids.length : Int) == 0) = false := beq_eq_false_iff_ne.2 (by omega)
  have HW1 := Lib.hid (show worstC l rs = 0 by unfold worstC; rw [← hc, if_pos rfl, ← hids, if_neg (fun e => h0 (by rw [e]; rfl))])
  have HW2 := Lib.hid (show worstR l rs = worstL l ids by unfold worstR; rw [HW1.out, if_pos rfl, ← hids])
  clear h0 hc hids
  obtain ⟨pl, cl, bl, ol, he, _, _, hpl, hcl, hbl⟩ := (SL.go HV.out HT.out).fcs
  injection he with he1 he2 he3
  subst he1 he3
  have h0 : 0 < l.length := HL.out.1
  obtain rfl := hpl h0
  obtain ⟨cx, x1, x2, x3, x4⟩ := hcl 0 h0
  obtain ⟨px, kx, rfl⟩ := x3.form
  have hn0 : l[0].hours.length = hoursN l := (HEV.out _ (List.getElem_mem h0)).2.1
  rw [hn0] at x2
  obtain ⟨n, hn⟩ : ∃ n, n = hoursN l := ⟨_, rfl⟩
  rw [← hn] at x2 HN
  have HNN := Lib.hid hn
  rw [Nat.zero_mul, Nat.add_zero] at x2
  have hnn := HN.out
  have hix : (0 : Int) < (l.length : Int) := by omega
  obtain ⟨W0, hW0⟩ : ∃ W, W = wn.alloc (.cells (Array.replicate n (.int .i64 0)) 3) := ⟨_, rfl⟩
  have hbx : Bx W0 wn.heap.size ((mixW l ids 0 0).map (Value.int .i64)) 3 := by
    rw [worstm_start, List.map_replicate, ← hn]
    rw [show Array.replicate n (Value.int .i64 0) = (List.replicate n (Value.int .i64 0)).toArray by simp] at hW0
    subst hW0
    exact Bx.new _ _ _
  have HB := Lib.hid hbx
  have HWS := Lib.hid hW0
  have HS := Lib.hid (show Step w W0 by subst hW0; exact HT.out.trans (Step.alloc _ _))
  have HSN := Lib.hid (show Step wn W0 by subst hW0; exact Step.alloc _ _)
  have HZ := Lib.hid HT.out.size
  clear hbx hW0 hn x1 x3 x4 hpl hcl hbl he2 hn0
  go_wp2_with (at_make; refine wpl_make (z := .int .i64 0) eiInts rfl _ _ rfl rfl .i64 .i64 n rfl rfl (by omega) (by omega) ?_)
  go_wp2
  rw [← HWS.out]
  go_loopw [35] (fun i wr => ∃ j : Nat, j ≤ ids.length ∧ i = .int .i64 j ∧ Bx wr wn.heap.size ((mixW l ids j 0).map (Value.int .i64)) 3 ∧ StepX (fun b => b = wn.heap.size) W0 wr) (fun i _ => ids.length - (intOf i).toNat)
  case atStart => exact ⟨0, Nat.zero_le _, rfl, HB.out, StepX.refl _ _⟩
  case round =>
    obtain ⟨j, hj, rfl, hb, hX⟩ := hrel
    have HX := Lib.hid hX
    have HBJ := Lib.hid hb
    by_cases hlj : j < ids.length
    · have hv1 := ((HS1.out.weak (T := fun b => b = wn.heap.size) fun b hb e => by omega).keep (.of_step HSN.out)).keep hX.keeps
      obtain ⟨q1, d1, b1, o1, he, _, _, hp1, hc1, hbl1⟩ := hv1.ints
      rw [List.length_map] at he hp1
      injection he with he1 _ he3
      subst he1 he3
      obtain rfl := hp1 (by omega)
      have e0 := hc1 j (by simpa using hlj)
      simp only [List.getElem_map] at e0
      have hij := HLT.out j (by rw [← HID.out.1]; exact hlj)
      simp only [← HID.out.1] at hij
      have HWT := Lib.hid (worst_take hlj hij)
      obtain ⟨q2, d2, b2, o2, he, _, _, hp2, hc2, hbl2⟩ := (((HV.out.weak (T := fun b => b = wn.heap.size) fun b hb e => by have := HZ.out; omega).keep (.of_step HS.out)).keep hX.keeps).fcs
      injection he with he1 _ he3
      subst he3
      rw [hp2 h0] at he1
      injection he1 with he1
      injection he1 with he4 he5 _
      subst he4 he5
      obtain ⟨cf, f1, f2, f3, f4⟩ := hc2 ids[j] hij
      obtain ⟨pf, kf, rfl⟩ := f3.form
      have hnf : l[ids[j]].hours.length = n := by rw [HNN.out]; exact (HEV.out _ (List.getElem_mem hij)).2.1
      rw [hnf] at f2 f3
      have hix2 : (0 : Int) ≤ (ids[j] : Int) ∧ (ids[j] : Int) < (l.length : Int) := by omega
      have hix1 : (0 : Int) ≤ (j : Int) ∧ (j : Int) < (ids.length : Int) := by omega
      have hlj2 := hlj
      obtain ⟨f, hf⟩ : ∃ f, f = l[ids[j]] := ⟨_, rfl⟩
      rw [← hf] at f3 hnf HWT
      obtain ⟨i, hi⟩ : ∃ i, i = ids[j] := ⟨_, rfl⟩
      rw [← hi] at e0 f2 hix2
      have HF := Lib.hid (And.intro f3 hnf)
      obtain ⟨wo, hwo⟩ : ∃ W, W = wr := ⟨_, rfl⟩
      subst hwo
      clear hb hX hv1 hp1 hc1 hbl1 f1 f4 hij hp2 hc2 hbl2 f3 hnf hf hi hlj x2
      go_upto_region 11 with (fail)
      clear e0 f2 hix1 hix2 hd hix
      go_loopw [45] (fun h wr => ∃ k : Nat, k ≤ n ∧ h = .int .i64 k ∧ Bx wr wn.heap.size ((mixW l ids j k).map (Value.int .i64)) 3 ∧ StepX (fun b => b = wn.heap.size) wo wr) (fun h _ => n - (intOf h).toNat)
      case atStart => exact ⟨0, Nat.zero_le _, rfl, HBJ.out, StepX.refl _ _⟩
      case round =>
        obtain ⟨k, hk, rfl, hb, hX⟩ := hrel
        have HXI := Lib.hid hX
        have HBI := Lib.hid hb
        by_cases hlt : k < n
        · obtain ⟨q3, d3, b3, o3, he, _, _, hp3, hc3, hbl3⟩ := (HF.out.1.keep hX.keeps).rngs
          rw [HF.out.2] at he hp3
          injection he with he1 _ he3
          subst he1 he3
          obtain rfl := hp3 (by omega)
          obtain ⟨r1, r2⟩ := hc3 k (by rw [HF.out.2]; exact hlt)
          have hkn : k < hoursN l := by rw [← HNN.out]; exact hlt
          have hm := worstm_at l ids j k hkn
          have c0 := ints_cell hb (k := k) (by rw [worstm_len]; exact hkn)
          rw [hm] at c0
          have z0 := hb.frozen k
          have yl := hb.lt
          have HSET := Lib.hid (worstm_set l ids j k hkn)
          have hwt := HWT.out k
          have hha : hourAt f k = f.hours[k]'(by rw [HF.out.2]; exact hlt) := by
            unfold hourAt
            rw [Int.toNat_natCast, List.getD_eq_getElem?_getD, List.getElem?_eq_getElem (by rw [HF.out.2]; exact hlt)]; rfl
          rw [hha] at hwt
          obtain ⟨r, hr⟩ : ∃ r, r = f.hours[k]'(by rw [HF.out.2]; exact hlt) := ⟨_, rfl⟩
          rw [← hr] at r1 r2 hwt
          have hwt := hwt
          obtain ⟨m0, hm0⟩ : ∃ m, m = worstF l (ids.take j) k := ⟨_, rfl⟩
          rw [← hm0] at c0 hwt
          have HWK := Lib.hid hwt
          have hix3 : (0 : Int) ≤ (k : Int) ∧ (k : Int) < (n : Int) := by omega
          obtain ⟨W3, hW3⟩ : ∃ W, W = wr.alloc (.cells #[.int .i64 r.lo, .int .i64 r.hi] 89) := ⟨_, rfl⟩
          have HB3 := Lib.hid (show Bx W3 wr.heap.size [.int .i64 r.lo, .int .i64 r.hi] 89 by subst hW3; exact Bx.new wr [_, _] _)
          have HS3 := Lib.hid (show Step wr W3 by subst hW3; exact Step.alloc _ _)
          have HW3 := Lib.hid hW3
          have HC0 := Lib.hid (And.intro c0 z0)
          clear hb hX hp3 hc3 hbl3 hm hha hr hm0 hwt hW3 c0 z0
          go_upto_region 13 with (fail)
          rw [← HW3.out]
          have HT := Lib.hid (Step.refl W3)
          have HCW := Lib.hid (And.intro (HS3.out.keeps.cell id HC0.out.1) ((HS3.out.cells.2 _ k yl).trans HC0.out.2))
          have HYL := Lib.hid (Nat.lt_of_lt_of_le yl HS3.out.size)
          clear yl r1 r2
          refine wp_region_seq (kdOf [] []) [0, 0, 0, 0, 12, 28, 0, 64, 252, 511, 1023] [0, 1, 2, 3, 4, 5, 6, 7, 8, 9] [10] (by kernel_rfl) (by kernel_rfl) (fun i T z hi hk => by simp [kdOf] at hk <;> (try (split at hk <;> cases hk))) ?_
          intro Wx hWx
          have HTx := Lib.hid (HT.out.trans hWx)
          clear hWx HT
          have HT := HTx
          clear HTx
          have s0 := (HB3.out.step HT.out).cell 0
          have s1 := (HB3.out.step HT.out).cell 1
          simp only [List.getElem?_cons_zero, List.getElem?_cons_succ] at s0 s1
          have c0 := HT.out.keeps.cell id HCW.out.1
          repeat (first | (refine run_off rfl rfl (by rfl) ?_; (try simp only [Act.put, List.setIfInBounds_toArray, List.set_cons_zero, List.set_cons_succ])) | (refine run_chain_off rfl rfl (by rfl) (K0_mono _) ?_; (try simp only [Act.put, List.setIfInBounds_toArray, List.set_cons_zero, List.set_cons_succ])) | ((refine run_want rfl rfl (by rfl) ⟨?_, fun W hW => ?_, ?_⟩; rotate_left; (· (have d0 := hW.keeps.cell id s0; have d1 := hW.keeps.cell id s1; have d2 := hW.keeps.cell id c0; go_simp; (try with_reducible rfl)))); (try simp only [Act.put, List.setIfInBounds_toArray, List.set_cons_zero, List.set_cons_succ])))
          clear s0 s1 c0
          refine run_end (L := [_]) rfl (fun W6 hW6 => ?_)
          have HT6 := Lib.hid (HT.out.trans hW6)
          clear hW6 HT
          have HT := HT6
          clear HT6
          have c0 := HT.out.keeps.cell id HCW.out.1
          have z0 := (HT.out.cells.2 _ k HYL.out).trans HCW.out.2
          have yl := Nat.lt_of_lt_of_le HYL.out HT.out.size
          have hM : (if m0 < r.hi then r.hi else m0) = worstF l (ids.take (j + 1)) k := by rw [HWK.out]; omega
          rw [hM]
          obtain ⟨M, hMM⟩ : ∃ M, M = worstF l (ids.take (j + 1)) k := ⟨_, rfl⟩
          rw [← hMM]
          have HM := Lib.hid hMM
          clear hM hMM
          go_wp2
          go_roundw
          case rel => exact ⟨k + 1, by omega, by go_num, by rw [← HSET.out, ← HM.out, ← ints_set]; exact (HBI.out.step (HS3.out.trans HT.out)).setCell _ _, (HXI.out.trans (.of (HS3.out.trans HT.out))).setCell ⟨wn.heap.size, k, none⟩ _ rfl⟩
          case measure => simp [intOf]; omega
        · have hke : k = hoursN l := by have := HNN.out; omega
          subst hke
          rw [worstm_next] at hb
          have HN2 := Lib.hid (And.intro hb (HX.out.trans hX))
          have hwj : wrap64 ((j : Int) + 1) = (j : Int) + 1 := by have := HLN.out; unfold wrap64; omega
          clear hb hX
          go_wp2
          go_roundw
          case rel => exact ⟨j + 1, by clear hwj; omega, by go_num, HN2.out.1, HN2.out.2⟩
          case measure => (try rw [hwj]); clear hwj; simp [intOf]; omega
    · have hje : j = ids.length := by omega
      subst hje
      rw [worstm_end] at hb
      have HF := Lib.hid (SL.bx_ints hb (S := Old w) (by unfold Old; have := HZ.out; omega) n (by simp [worstL]; have := HNN.out; omega) (by simp [worstL]; have := HNN.out; omega))
      clear hb hX
      go_wp2
      go_ret2
      refine ⟨_, by rw [HW1.out]; rfl, ?_, StepX.fresh HS.out HX.out (fun b hb => by have := HZ.out; omega)⟩
      rw [HW2.out]
      have hlw : (worstL l ids).length = n := by rw [HNN.out]; simp [worstL]
      have hfin := HF.out
      rw [hlw] at hfin
      exact hfin
end Go.Proofs.YtoanjaidfdkdpaaGreat
/- Walks: a site that is valid, by the program. -/
namespace Go.Proofs.YtoanjaidfdkdpaaGreat
set_option linter.unusedSimpArgs false
set_option linter.unusedVariables false
open Go.RowKit Go.BT

theorem equal_stage (a b c d : Int) (w : World) : (Op.equal 98 (.agg #[.int .i64 a, .int .i64 b]) (.agg #[.int .i64 c, .int .i64 d])).run Tryz.prog w = .ok (a == c && b == d) w := by
  unfold Op.equal Op.maxDepth
  rw [run_equalIn_agg (w := w) 9999 98 _ _ (by kernel_rfl) (by kernel_rfl)]
  have hf : (Tryz.prog.fieldsOf 98).toList.map (fun f => (f.name, f.type, f.offset)) = [("Cover", 3, 0), ("Minutes", 3, 1)] := by kernel_rfl
  obtain ⟨f, g, hfg⟩ : ∃ f g, (Tryz.prog.fieldsOf 98).toList = [f, g] := by
    cases hl : (Tryz.prog.fieldsOf 98).toList with
    | nil => simp [hl] at hf
    | cons f l =>
      cases l with
      | nil => simp [hl] at hf
      | cons g l =>
        cases l with
        | nil => exact ⟨f, g, rfl⟩
        | cons _ _ => simp [hl] at hf
  rw [hfg] at hf ⊢
  simp only [List.map_cons, List.map_nil, List.cons.injEq, Prod.mk.injEq, and_true] at hf
  obtain ⟨⟨n1, t1, o1⟩, n2, t2, o2⟩ := hf
  have hi : Tryz.prog.underlying 3 = some (.int .i64) := by kernel_rfl
  simp [Op.eqFields, n1, n2, t1, t2, o1, o2, hi, part, run_underlying hi]
  have hq : ∀ (a b : Int) (w : World), (Op.equalIn 9999 3 (.int .i64 a) (.int .i64 b)).run Tryz.prog w = .ok (a == b) w := fun a b w => run_equalIn_int (w := w) 9998 _ _ .i64 _ _ hi
  simp only [hq, Result.andThen_ok]
  cases a == c <;> cases b == d <;> simp [Result.andThen]
theorem eql_stage (a b c d : Int) (w : World) : (binOp .eql 98 (.agg #[.int .i64 a, .int .i64 b]) (.agg #[.int .i64 c, .int .i64 d])).run Tryz.prog w = .ok (.bool (veq a b c d)) w := by
  have h := equal_stage a b c d w
  unfold Op.equal Op.maxDepth at h
  rw [run_eql_struct, h]
  rfl
attribute [local go_sem] eql_stage
theorem all_corner (l : List Vec) (v : Value) (w : World) (hv : SL (fun _ => False) w v l) : Calls Tryz.prog 52 #[v, .func (.func 53) #[] #[]] w fun e w' => e = .returned (.bool (l.all baseB)) ∧ Step w w' :=
  (all_gvec (fun _ => False) l v w 53 #[] (Go.Proofs.enters_of Tryz.func53 (by kernel_rfl) rfl) baseB (fun _ W => Step w W) (fun _ => False) (fun _ h => h.elim)
    (fun _ W hW => hv.keep (.of_step hW)) (fun _ _ _ h1 h2 => h1.trans h2) (Step.refl _) (fun i hi W u hW _ hu => by
      subst hu
      refine (corner_gale _ W).mono ?_
      rintro e w' ⟨rfl, hs⟩
      exact ⟨rfl, hW.trans hs, hs⟩)).mono fun e w' ⟨h, k, _, _, hs⟩ => ⟨h, hs⟩


set_option maxRecDepth 100000 in
set_option maxHeartbeats 8000000 in
theorem valid_ok (s : Site) (u : Value) (w : World) (hu : AV (fun _ => False) w u s) (hs : siteB s = true) : Calls Tryz.prog 29 #[u] w fun e w' => e = .returned (.bool true) ∧ Step w w' := by
  obtain ⟨c0, c1, c2, rfl, h0, h1, h2⟩ := hu.site
  have hm1 := h1.len
  obtain ⟨p0, k0, rfl⟩ := h0.form
  obtain ⟨p1, k1, rfl⟩ := h1.form
  obtain ⟨p2, k2, rfl⟩ := h2.form
  have hok := site_ok hs
  obtain ⟨W0, hW0⟩ : ∃ W, W = w.alloc (.cells #[.slice p0 s.base.length k0, .slice p1 s.levels.length k1, .slice p2 s.stages.length k2, .int .i64 s.openS] 51) := ⟨_, rfl⟩
  have hbx : Bx W0 w.heap.size [.slice p0 s.base.length k0, .slice p1 s.levels.length k1, .slice p2 s.stages.length k2, .int .i64 s.openS] 51 := by subst hW0; exact Bx.new w [_, _, _, _] _
  have hS : Step w W0 := by subst hW0; exact Step.alloc _ _
  have HB := Lib.hid hbx
  have HS := Lib.hid hS
  have HW := Lib.hid hW0
  have HV0 := Lib.hid (SL.go h0 hS)
  have HV1 := Lib.hid (SL.go h1 hS)
  have HV2 := Lib.hid (SL.go h2 hS)
  have HOK := Lib.hid hok
  have HT := Lib.hid (Step.refl W0)
  have hw1 : withinB (s.base.length : Int) 1 12 = true := by have := hok.base; simp [withinB]; omega
  have hw2 : withinB (s.levels.length : Int) 1 10 = true := by have := hok.nlev; simp [withinB]; omega
  have hw3 : withinB (s.stages.length : Int) 2 8 = true := by have := hok.nst; simp [withinB]; omega
  have HWI := Lib.hid (And.intro hw1 (And.intro hw2 hw3))
  have b0 := hbx.cell 0
  have b1 := hbx.cell 1
  have b2 := hbx.cell 2
  simp only [List.getElem?_cons_zero, List.getElem?_cons_succ] at b0 b1 b2
  clear hbx hS hW0 h0 h1 h2 hu hok hw1 hw2 hw3 hs
  go_enter Tryz.func29, Tryz.ntmps29
  go_wp2_with fail
  rw [← HW.out]
  refine (gale.within_any _ _ _ _).mono ?_
  rintro e wn ⟨rfl, rfl⟩
  rw [HWI.out.1]
  go_wp2_with fail
  refine (all_corner s.base _ _ HV0.out).mono ?_
  rintro e wn ⟨rfl, hSn⟩
  rw [HOK.out.corners]
  have HTi := Lib.hid (HT.out.trans hSn)
  clear HT hSn b0 b1 b2
  have HT := HTi
  clear HTi
  have b1 := (HB.out.step HT.out).cell 1
  have b2 := (HB.out.step HT.out).cell 2
  simp only [List.getElem?_cons_zero, List.getElem?_cons_succ] at b1 b2
  go_wp2_with fail
  refine (gale.within_any _ _ _ _).mono ?_
  rintro e wx ⟨rfl, rfl⟩
  rw [HWI.out.2.1]
  go_wp2_with fail
  refine (gale.within_any _ _ _ _).mono ?_
  rintro e wx ⟨rfl, rfl⟩
  rw [HWI.out.2.2]
  go_wp2
  clear b1 b2
  go_loopw [36] (fun i wr => ∃ k : Nat, k ≤ s.levels.length ∧ i = .int .i64 k ∧ Step W0 wr) (fun i _ => s.levels.length - (intOf i).toNat)
  case atStart => exact ⟨0, Nat.zero_le _, rfl, HT.out⟩
  case round =>
    obtain ⟨k, hk, rfl, hT⟩ := hrel
    have HTR := Lib.hid hT
    clear hT HT
    by_cases hlt : k < s.levels.length
    · obtain ⟨q1, d1, bb, oo, he, _, _, hp, hc, hbl⟩ := (SL.go HV1.out HTR.out).lvls
      injection he with he1 _ he3
      subst he1 he3
      obtain rfl := hp (by omega)
      obtain ⟨e1, e2⟩ := hc k hlt
      have hix : (0 : Int) ≤ (k : Int) ∧ (k : Int) < (s.levels.length : Int) := by omega
      have hlv := HOK.out.lev k hlt
      have HPRE := Lib.hid (fun (j : Nat) (hj : j + 1 = k) => And.intro (hc j (by omega)) (HOK.out.rise j (by omega)))
      obtain ⟨x, hx⟩ : ∃ x, x = s.levels[k] := ⟨_, rfl⟩
      rw [← hx] at e1 e2 hlv
      have HXX := Lib.hid hx
      obtain ⟨xu, xp⟩ := x
      dsimp only at e1 e2 hlv
      have HU := Lib.hid (show withinB xu 0 1000 = true by simp [withinB]; omega)
      have HP := Lib.hid (show withinB xp 0 100 = true by simp [withinB]; omega)
      obtain ⟨W3, hW3⟩ : ∃ W, W = wr.alloc (.cells #[.int .i64 xu, .int .i64 xp] 109) := ⟨_, rfl⟩
      have HB3 := Lib.hid (show Bx W3 wr.heap.size [.int .i64 xu, .int .i64 xp] 109 by subst hW3; exact Bx.new wr [_, _] _)
      have HS3 := Lib.hid (show Step wr W3 by subst hW3; exact Step.alloc _ _)
      have HW3 := Lib.hid hW3
      have HT := Lib.hid (Step.refl W3)
      have HBC := Lib.hid ((HB.out.step (HTR.out.trans HS3.out)).cell 1)
      simp only [List.getElem?_cons_zero, List.getElem?_cons_succ] at HBC
      clear hp hc hbl hx hlv hW3
      go_upto_region 6 with (fail)
      rw [← HW3.out]
      clear e1 e2
      cases k with
      | zero =>
        have d0 : decide (0 < ((0 : Nat) : Int)) = false := by decide
        refine wp_region_seq (kdOf [2, 7] []) (0 :: 1 :: 3 :: 7 :: 15 :: 31 :: 63 :: 127 :: 255 :: 511 :: 1023 :: 2047 :: 4095 :: 8191 :: 16383 :: 32767 :: 16383 :: 81919 :: 16383 :: 278527 :: 999423 :: 2047999 :: 4145151 :: 8388607 :: 16777215 :: 33554431 :: 67108863 :: 33554431 :: 167772159 :: 33554431 :: 570425343 :: 2046820351 :: 4194303999 :: 8489271295 :: 17179869183 :: 34359738367 :: 68719476735 :: 137438953471 :: []) (0 :: 1 :: 2 :: 3 :: 4 :: 5 :: 6 :: 7 :: 8 :: 9 :: 10 :: 11 :: 12 :: 13 :: 14 :: 15 :: 16 :: 17 :: 18 :: 19 :: 20 :: 21 :: 22 :: 23 :: 24 :: 25 :: 26 :: 27 :: 28 :: 29 :: 30 :: 31 :: 32 :: 33 :: 34 :: 35 :: 36 :: 37 :: []) [] (by kernel_rfl) (by kernel_rfl) (fun i T z hi hk => by simp [kdOf] at hk <;> (try (split at hk <;> cases hk))) ?_
        intro Wx hWx
        have HTx := Lib.hid (HT.out.trans hWx)
        clear hWx HT
        have HT := HTx
        clear HTx
        have x0 := (HB3.out.step HT.out).cell 0
        have x1 := (HB3.out.step HT.out).cell 1
        have b1 := HT.out.keeps.cell id HBC.out
        simp only [List.getElem?_cons_zero, List.getElem?_cons_succ] at x0 x1
        repeat (first | (refine run_off rfl rfl (by rfl) ?_; (try simp only [Act.put, List.setIfInBounds_toArray, List.set_cons_zero, List.set_cons_succ])) | (refine run_chain_off rfl rfl (by rfl) (K0_mono _) ?_; (try simp only [Act.put, List.setIfInBounds_toArray, List.set_cons_zero, List.set_cons_succ])) | ((refine run_want rfl rfl (by rfl) ⟨?_, fun W hW => ?_, ?_⟩; rotate_left; (· (have d0 := hW.keeps.cell id x0; have d1 := hW.keeps.cell id x1; have d2 := hW.keeps.cell id b1; go_simp; (try with_reducible rfl)))); (try simp only [Act.put, List.setIfInBounds_toArray, List.set_cons_zero, List.set_cons_succ])))
        clear x0 x1 b1
        refine run_chain rfl rfl (by rfl) (fun Wi hWi K' hK => ?_)
        have HTi := Lib.hid (HT.out.trans hWi)
        clear hWi HT
        go_simp
        refine (gale.within_any _ _ _ _).mono ?_
        rintro e wn ⟨rfl, rfl⟩
        rw [HU.out]
        have HT := HTi
        clear HTi
        refine hK _ _ (StepX.refl _ _) ?_
        (try simp only [Act.put, List.setIfInBounds_toArray, List.set_cons_zero, List.set_cons_succ])
        have x0 := (HB3.out.step HT.out).cell 0
        have x1 := (HB3.out.step HT.out).cell 1
        have b1 := HT.out.keeps.cell id HBC.out
        simp only [List.getElem?_cons_zero, List.getElem?_cons_succ] at x0 x1
        repeat (first | (refine run_off rfl rfl (by rfl) ?_; (try simp only [Act.put, List.setIfInBounds_toArray, List.set_cons_zero, List.set_cons_succ])) | (refine run_chain_off rfl rfl (by rfl) (K0_mono _) ?_; (try simp only [Act.put, List.setIfInBounds_toArray, List.set_cons_zero, List.set_cons_succ])) | ((refine run_want rfl rfl (by rfl) ⟨?_, fun W hW => ?_, ?_⟩; rotate_left; (· (have d0 := hW.keeps.cell id x0; have d1 := hW.keeps.cell id x1; have d2 := hW.keeps.cell id b1; go_simp; (try with_reducible rfl)))); (try simp only [Act.put, List.setIfInBounds_toArray, List.set_cons_zero, List.set_cons_succ])))
        clear x0 x1 b1
        refine run_chain rfl rfl (by rfl) (fun Wi hWi K' hK => ?_)
        have HTi := Lib.hid (HT.out.trans hWi)
        clear hWi HT
        go_simp
        refine (gale.within_any _ _ _ _).mono ?_
        rintro e wn ⟨rfl, rfl⟩
        rw [HP.out]
        have HT := HTi
        clear HTi
        refine hK _ _ (StepX.refl _ _) ?_
        (try simp only [Act.put, List.setIfInBounds_toArray, List.set_cons_zero, List.set_cons_succ])
        have x0 := (HB3.out.step HT.out).cell 0
        have x1 := (HB3.out.step HT.out).cell 1
        have b1 := HT.out.keeps.cell id HBC.out
        simp only [List.getElem?_cons_zero, List.getElem?_cons_succ] at x0 x1
        repeat (first | (refine run_off rfl rfl (by rfl) ?_; (try simp only [Act.put, List.setIfInBounds_toArray, List.set_cons_zero, List.set_cons_succ])) | (refine run_chain_off rfl rfl (by rfl) (K0_mono _) ?_; (try simp only [Act.put, List.setIfInBounds_toArray, List.set_cons_zero, List.set_cons_succ])) | ((refine run_want rfl rfl (by rfl) ⟨?_, fun W hW => ?_, ?_⟩; rotate_left; (· (have d0 := hW.keeps.cell id x0; have d1 := hW.keeps.cell id x1; have d2 := hW.keeps.cell id b1; go_simp; (try with_reducible rfl)))); (try simp only [Act.put, List.setIfInBounds_toArray, List.set_cons_zero, List.set_cons_succ])))
        clear x0 x1 b1
        refine run_end (L := []) rfl (fun W6 hW6 => ?_)
        have HT6 := Lib.hid (HT.out.trans hW6)
        clear hW6 HT
        have HT := HT6
        clear HT6
        go_wp2
        go_roundw
        case rel => exact ⟨1, by omega, by go_num, HTR.out.trans (HS3.out.trans HT.out)⟩
        case measure => simp [intOf]; omega
      | succ j =>
        have hpre := HPRE.out j rfl
        rw [← HXX.out] at hpre
        obtain ⟨⟨g1, g2⟩, g3, g4⟩ := hpre
        have hjx : (0 : Int) ≤ (j : Int) ∧ (j : Int) < (s.levels.length : Int) := by omega
        have hwj : IntKind.i64.wrap (j : Int) = (j : Int) := by rw [IntKind.wrap_i64]; omega
        have hd0 : decide ((0 : Int) < ((j + 1 : Nat) : Int)) = true := decide_eq_true (by omega)
        obtain ⟨y, hy⟩ : ∃ y, y = s.levels[j] := ⟨_, rfl⟩
        rw [← hy] at g1 g2 g3 g4
        obtain ⟨yu, yp⟩ := y
        dsimp only at g1 g2 g3 g4
        have HG := Lib.hid (And.intro (HS3.out.keeps.cell id g1) (HS3.out.keeps.cell id g2))
        have d1 : decide (xu ≤ yu) = false := decide_eq_false (by omega)
        have d2 : decide (xp < yp) = false := decide_eq_false (by omega)
        clear g1 g2 g3 g4 hy
        refine wp_region_seq (kdOf [2, 7] []) (0 :: 1 :: 3 :: 7 :: 15 :: 31 :: 63 :: 127 :: 255 :: 511 :: 1023 :: 2047 :: 4095 :: 8191 :: 16383 :: 32767 :: 16383 :: 81919 :: 16383 :: 278527 :: 999423 :: 2047999 :: 4145151 :: 8388607 :: 16777215 :: 33554431 :: 67108863 :: 33554431 :: 167772159 :: 33554431 :: 570425343 :: 2046820351 :: 4194303999 :: 8489271295 :: 17179869183 :: 34359738367 :: 68719476735 :: 137438953471 :: []) (0 :: 1 :: 2 :: 3 :: 4 :: 5 :: 6 :: 7 :: 8 :: 9 :: 10 :: 11 :: 12 :: 13 :: 14 :: 15 :: 16 :: 17 :: 18 :: 19 :: 20 :: 21 :: 22 :: 23 :: 24 :: 25 :: 26 :: 27 :: 28 :: 29 :: 30 :: 31 :: 32 :: 33 :: 34 :: 35 :: 36 :: 37 :: []) [] (by kernel_rfl) (by kernel_rfl) (fun i T z hi hk => by simp [kdOf] at hk <;> (try (split at hk <;> cases hk))) ?_
        intro Wx hWx
        have HTx := Lib.hid (HT.out.trans hWx)
        clear hWx HT
        have HT := HTx
        clear HTx
        have x0 := (HB3.out.step HT.out).cell 0
        have x1 := (HB3.out.step HT.out).cell 1
        have b1 := HT.out.keeps.cell id HBC.out
        simp only [List.getElem?_cons_zero, List.getElem?_cons_succ] at x0 x1
        repeat (first | (refine run_off rfl rfl (by rfl) ?_; (try simp only [Act.put, List.setIfInBounds_toArray, List.set_cons_zero, List.set_cons_succ])) | (refine run_chain_off rfl rfl (by rfl) (K0_mono _) ?_; (try simp only [Act.put, List.setIfInBounds_toArray, List.set_cons_zero, List.set_cons_succ])) | ((refine run_want rfl rfl (by rfl) ⟨?_, fun W hW => ?_, ?_⟩; rotate_left; (· (have d0 := hW.keeps.cell id x0; have d1 := hW.keeps.cell id x1; have d2 := hW.keeps.cell id b1; go_simp; (try with_reducible rfl)))); (try simp only [Act.put, List.setIfInBounds_toArray, List.set_cons_zero, List.set_cons_succ])))
        clear x0 x1 b1
        refine run_chain rfl rfl (by rfl) (fun Wi hWi K' hK => ?_)
        have HTi := Lib.hid (HT.out.trans hWi)
        clear hWi HT
        go_simp
        refine (gale.within_any _ _ _ _).mono ?_
        rintro e wn ⟨rfl, rfl⟩
        rw [HU.out]
        have HT := HTi
        clear HTi
        refine hK _ _ (StepX.refl _ _) ?_
        (try simp only [Act.put, List.setIfInBounds_toArray, List.set_cons_zero, List.set_cons_succ])
        have x0 := (HB3.out.step HT.out).cell 0
        have x1 := (HB3.out.step HT.out).cell 1
        have b1 := HT.out.keeps.cell id HBC.out
        simp only [List.getElem?_cons_zero, List.getElem?_cons_succ] at x0 x1
        repeat (first | (refine run_off rfl rfl (by rfl) ?_; (try simp only [Act.put, List.setIfInBounds_toArray, List.set_cons_zero, List.set_cons_succ])) | (refine run_chain_off rfl rfl (by rfl) (K0_mono _) ?_; (try simp only [Act.put, List.setIfInBounds_toArray, List.set_cons_zero, List.set_cons_succ])) | ((refine run_want rfl rfl (by rfl) ⟨?_, fun W hW => ?_, ?_⟩; rotate_left; (· (have d0 := hW.keeps.cell id x0; have d1 := hW.keeps.cell id x1; have d2 := hW.keeps.cell id b1; go_simp; (try with_reducible rfl)))); (try simp only [Act.put, List.setIfInBounds_toArray, List.set_cons_zero, List.set_cons_succ])))
        clear x0 x1 b1
        refine run_chain rfl rfl (by rfl) (fun Wi hWi K' hK => ?_)
        have HTi := Lib.hid (HT.out.trans hWi)
        clear hWi HT
        go_simp
        refine (gale.within_any _ _ _ _).mono ?_
        rintro e wn ⟨rfl, rfl⟩
        rw [HP.out]
        have HT := HTi
        clear HTi
        refine hK _ _ (StepX.refl _ _) ?_
        (try simp only [Act.put, List.setIfInBounds_toArray, List.set_cons_zero, List.set_cons_succ])
        have g1 := HT.out.keeps.cell id HG.out.1
        have g2 := HT.out.keeps.cell id HG.out.2
        have x0 := (HB3.out.step HT.out).cell 0
        have x1 := (HB3.out.step HT.out).cell 1
        have b1 := HT.out.keeps.cell id HBC.out
        simp only [List.getElem?_cons_zero, List.getElem?_cons_succ] at x0 x1
        repeat (first | (refine run_off rfl rfl (by rfl) ?_; (try simp only [Act.put, List.setIfInBounds_toArray, List.set_cons_zero, List.set_cons_succ])) | (refine run_chain_off rfl rfl (by rfl) (K0_mono _) ?_; (try simp only [Act.put, List.setIfInBounds_toArray, List.set_cons_zero, List.set_cons_succ])) | ((refine run_want rfl rfl (by rfl) ⟨?_, fun W hW => ?_, ?_⟩; rotate_left; (· (have d0 := hW.keeps.cell id x0; have d1 := hW.keeps.cell id x1; have d2 := hW.keeps.cell id b1; have d3 := hW.keeps.cell id g1; have d4 := hW.keeps.cell id g2; go_simp; (try with_reducible rfl)))); (try simp only [Act.put, List.setIfInBounds_toArray, List.set_cons_zero, List.set_cons_succ])))
        clear x0 x1 b1
        clear g1 g2
        refine run_end (L := []) rfl (fun W6 hW6 => ?_)
        have HT6 := Lib.hid (HT.out.trans hW6)
        clear hW6 HT
        have HT := HT6
        clear HT6
        go_wp2
        go_roundw
        case rel => exact ⟨j + 1 + 1, by omega, by go_num, HTR.out.trans (HS3.out.trans HT.out)⟩
        case measure => simp [intOf]; omega
    · have HT := HTR
      clear HTR
      obtain ⟨m, hm⟩ : ∃ m, s.stages.length = m + 1 := ⟨s.stages.length - 1, by have := HOK.out.nst; omega⟩
      have hmb : 1 ≤ m ∧ m ≤ 7 := by have := HOK.out.nst; omega
      have b2 := (HB.out.step HT.out).cell 2
      simp only [List.getElem?_cons_zero, List.getElem?_cons_succ] at b2
      rw [hm] at b2
      obtain ⟨q1, d1, bb, oo, he, hcap, _, hp, hc, hbl⟩ := (SL.go HV2.out HT.out).stgs
      injection he with he1 _ he3
      subst he1 he3
      obtain rfl := hp (by omega)
      rw [hm] at hcap
      have hwm : IntKind.i64.wrap (m : Int) = (m : Int) := by rw [IntKind.wrap_i64]; omega
      have hwm2 : IntKind.i64.wrap (((m + 1 : Nat) : Int) - 1) = (m : Int) := by rw [IntKind.wrap_i64]; omega
      have HM := Lib.hid (And.intro hm hmb)
      have HCAP := Lib.hid hcap
      have hcm : m ≤ k2 := by omega
      clear hp hc hbl hcap
      go_upto_region 11 with (fail)
      clear hlt hk
      go_loopw [89] (fun i wr' => ∃ k : Nat, k ≤ m ∧ i = .int .i64 k ∧ Step W0 wr') (fun i _ => m - (intOf i).toNat)
      case atStart => exact ⟨0, Nat.zero_le _, rfl, HT.out⟩
      case round =>
        obtain ⟨k, hk, rfl, hT⟩ := hrel
        have HTR := Lib.hid hT
        clear hT HT b2
        by_cases hlt : k < m
        · obtain ⟨q1, d1, bb', oo', he, _, _, hp, hc, hbl⟩ := (SL.go HV2.out HTR.out).stgs
          injection he with he1 _ he3
          subst he3
          have hpp := hp (by have := HM.out; omega)
          rw [hpp] at he1
          injection he1 with he1
          injection he1 with he4 he5 _
          subst he4 he5
          have hL := HM.out.1
          obtain ⟨e1, e2⟩ := hc k (by omega)
          have hix : (0 : Int) ≤ (k : Int) ∧ (k : Int) < (m : Int) := by omega
          have hlv := HOK.out.st k (by omega)
          have HPRE := Lib.hid (fun (j : Nat) (hj : j + 1 = k) => And.intro (hc j (by omega)) (HOK.out.fall j (by omega)))
          obtain ⟨x, hx⟩ : ∃ x, x = s.stages[k]'(by omega) := ⟨_, rfl⟩
          rw [← hx] at e1 e2 hlv
          have HXX := Lib.hid hx
          obtain ⟨xu, xp⟩ := x
          dsimp only at e1 e2 hlv
          have HU := Lib.hid (show withinB xu 1 100 = true by simp [withinB]; omega)
          have HP := Lib.hid (show withinB xp 1 240 = true by simp [withinB]; omega)
          obtain ⟨W3, hW3⟩ : ∃ W, W = wr.alloc (.cells #[.int .i64 xu, .int .i64 xp] 98) := ⟨_, rfl⟩
          have HB3 := Lib.hid (show Bx W3 wr.heap.size [.int .i64 xu, .int .i64 xp] 98 by subst hW3; exact Bx.new wr [_, _] _)
          have HS3 := Lib.hid (show Step wr W3 by subst hW3; exact Step.alloc _ _)
          have HW3 := Lib.hid hW3
          have HT := Lib.hid (Step.refl W3)
          have HBC := Lib.hid ((HB.out.step (HTR.out.trans HS3.out)).cell 2)
          simp only [List.getElem?_cons_zero, List.getElem?_cons_succ] at HBC
          rw [hL] at HBC
          clear hp hpp hc hbl hx hlv hW3 hL
          go_upto_region 13 with (fail)
          rw [← HW3.out]
          clear e1 e2
          cases k with
          | zero =>
            have d0 : decide (0 < ((0 : Nat) : Int)) = false := by decide
            refine wp_region_seq (kdOf [2, 7] []) (0 :: 1 :: 3 :: 7 :: 15 :: 31 :: 63 :: 127 :: 255 :: 511 :: 1023 :: 2047 :: 4095 :: 8191 :: 16383 :: 32767 :: 16383 :: 81919 :: 16383 :: 278527 :: 999423 :: 2047999 :: 4145151 :: 8388607 :: 16777215 :: 33554431 :: []) (0 :: 1 :: 2 :: 3 :: 4 :: 5 :: 6 :: 7 :: 8 :: 9 :: 10 :: 11 :: 12 :: 13 :: 14 :: 15 :: 16 :: 17 :: 18 :: 19 :: 20 :: 21 :: 22 :: 23 :: 24 :: 25 :: []) [] (by kernel_rfl) (by kernel_rfl) (fun i T z hi hk => by simp [kdOf] at hk <;> (try (split at hk <;> cases hk))) ?_
            intro Wx hWx
            have HTx := Lib.hid (HT.out.trans hWx)
            clear hWx HT
            have HT := HTx
            clear HTx
            have x0 := (HB3.out.step HT.out).cell 0
            have x1 := (HB3.out.step HT.out).cell 1
            have b1 := HT.out.keeps.cell id HBC.out
            simp only [List.getElem?_cons_zero, List.getElem?_cons_succ] at x0 x1
            repeat (first | (refine run_off rfl rfl (by rfl) ?_; (try simp only [Act.put, List.setIfInBounds_toArray, List.set_cons_zero, List.set_cons_succ])) | (refine run_chain_off rfl rfl (by rfl) (K0_mono _) ?_; (try simp only [Act.put, List.setIfInBounds_toArray, List.set_cons_zero, List.set_cons_succ])) | ((refine run_want rfl rfl (by rfl) ⟨?_, fun W hW => ?_, ?_⟩; rotate_left; (· (have d0 := hW.keeps.cell id x0; have d1 := hW.keeps.cell id x1; have d2 := hW.keeps.cell id b1; go_simp; (try with_reducible rfl)))); (try simp only [Act.put, List.setIfInBounds_toArray, List.set_cons_zero, List.set_cons_succ])))
            clear x0 x1 b1
            refine run_chain rfl rfl (by rfl) (fun Wi hWi K' hK => ?_)
            have HTi := Lib.hid (HT.out.trans hWi)
            clear hWi HT
            go_simp
            refine (gale.within_any _ _ _ _).mono ?_
            rintro e wn ⟨rfl, rfl⟩
            rw [HU.out]
            have HT := HTi
            clear HTi
            refine hK _ _ (StepX.refl _ _) ?_
            (try simp only [Act.put, List.setIfInBounds_toArray, List.set_cons_zero, List.set_cons_succ])
            have x0 := (HB3.out.step HT.out).cell 0
            have x1 := (HB3.out.step HT.out).cell 1
            have b1 := HT.out.keeps.cell id HBC.out
            simp only [List.getElem?_cons_zero, List.getElem?_cons_succ] at x0 x1
            repeat (first | (refine run_off rfl rfl (by rfl) ?_; (try simp only [Act.put, List.setIfInBounds_toArray, List.set_cons_zero, List.set_cons_succ])) | (refine run_chain_off rfl rfl (by rfl) (K0_mono _) ?_; (try simp only [Act.put, List.setIfInBounds_toArray, List.set_cons_zero, List.set_cons_succ])) | ((refine run_want rfl rfl (by rfl) ⟨?_, fun W hW => ?_, ?_⟩; rotate_left; (· (have d0 := hW.keeps.cell id x0; have d1 := hW.keeps.cell id x1; have d2 := hW.keeps.cell id b1; go_simp; (try with_reducible rfl)))); (try simp only [Act.put, List.setIfInBounds_toArray, List.set_cons_zero, List.set_cons_succ])))
            clear x0 x1 b1
            refine run_chain rfl rfl (by rfl) (fun Wi hWi K' hK => ?_)
            have HTi := Lib.hid (HT.out.trans hWi)
            clear hWi HT
            go_simp
            refine (gale.within_any _ _ _ _).mono ?_
            rintro e wn ⟨rfl, rfl⟩
            rw [HP.out]
            have HT := HTi
            clear HTi
            refine hK _ _ (StepX.refl _ _) ?_
            (try simp only [Act.put, List.setIfInBounds_toArray, List.set_cons_zero, List.set_cons_succ])
            have x0 := (HB3.out.step HT.out).cell 0
            have x1 := (HB3.out.step HT.out).cell 1
            have b1 := HT.out.keeps.cell id HBC.out
            simp only [List.getElem?_cons_zero, List.getElem?_cons_succ] at x0 x1
            repeat (first | (refine run_off rfl rfl (by rfl) ?_; (try simp only [Act.put, List.setIfInBounds_toArray, List.set_cons_zero, List.set_cons_succ])) | (refine run_chain_off rfl rfl (by rfl) (K0_mono _) ?_; (try simp only [Act.put, List.setIfInBounds_toArray, List.set_cons_zero, List.set_cons_succ])) | ((refine run_want rfl rfl (by rfl) ⟨?_, fun W hW => ?_, ?_⟩; rotate_left; (· (have d0 := hW.keeps.cell id x0; have d1 := hW.keeps.cell id x1; have d2 := hW.keeps.cell id b1; go_simp; (try with_reducible rfl)))); (try simp only [Act.put, List.setIfInBounds_toArray, List.set_cons_zero, List.set_cons_succ])))
            clear x0 x1 b1
            refine run_end (L := []) rfl (fun W6 hW6 => ?_)
            have HT6 := Lib.hid (HT.out.trans hW6)
            clear hW6 HT
            have HT := HT6
            clear HT6
            go_wp2
            go_roundw
            case rel => exact ⟨1, by omega, by go_num, HTR.out.trans (HS3.out.trans HT.out)⟩
            case measure => simp [intOf]; omega
          | succ j =>
            have hpre := HPRE.out j rfl
            obtain ⟨⟨g1, g2⟩, g3⟩ := hpre
            rw [← HXX.out] at g3
            have hjx : (0 : Int) ≤ (j : Int) ∧ (j : Int) < ((m + 1 : Nat) : Int) := by omega
            have hjx2 : (j : Int) < (m : Int) + 1 := by omega
            have hwj : IntKind.i64.wrap (j : Int) = (j : Int) := by rw [IntKind.wrap_i64]; omega
            have hd0 : decide ((0 : Int) < ((j + 1 : Nat) : Int)) = true := decide_eq_true (by omega)
            obtain ⟨y, hy⟩ : ∃ y, y = s.stages[j]'(by have := HM.out.1; omega) := ⟨_, rfl⟩
            rw [← hy] at g1 g2 g3
            obtain ⟨yu, yp⟩ := y
            dsimp only at g1 g2 g3
            have HG := Lib.hid (And.intro (HS3.out.keeps.cell id g1) (HS3.out.keeps.cell id g2))
            have d1 : decide (yu ≤ xu) = false := decide_eq_false (by omega)
            clear g1 g2 g3 hy
            refine wp_region_seq (kdOf [2, 7] []) (0 :: 1 :: 3 :: 7 :: 15 :: 31 :: 63 :: 127 :: 255 :: 511 :: 1023 :: 2047 :: 4095 :: 8191 :: 16383 :: 32767 :: 16383 :: 81919 :: 16383 :: 278527 :: 999423 :: 2047999 :: 4145151 :: 8388607 :: 16777215 :: 33554431 :: []) (0 :: 1 :: 2 :: 3 :: 4 :: 5 :: 6 :: 7 :: 8 :: 9 :: 10 :: 11 :: 12 :: 13 :: 14 :: 15 :: 16 :: 17 :: 18 :: 19 :: 20 :: 21 :: 22 :: 23 :: 24 :: 25 :: []) [] (by kernel_rfl) (by kernel_rfl) (fun i T z hi hk => by simp [kdOf] at hk <;> (try (split at hk <;> cases hk))) ?_
            intro Wx hWx
            have HTx := Lib.hid (HT.out.trans hWx)
            clear hWx HT
            have HT := HTx
            clear HTx
            have x0 := (HB3.out.step HT.out).cell 0
            have x1 := (HB3.out.step HT.out).cell 1
            have b1 := HT.out.keeps.cell id HBC.out
            simp only [List.getElem?_cons_zero, List.getElem?_cons_succ] at x0 x1
            repeat (first | (refine run_off rfl rfl (by rfl) ?_; (try simp only [Act.put, List.setIfInBounds_toArray, List.set_cons_zero, List.set_cons_succ])) | (refine run_chain_off rfl rfl (by rfl) (K0_mono _) ?_; (try simp only [Act.put, List.setIfInBounds_toArray, List.set_cons_zero, List.set_cons_succ])) | ((refine run_want rfl rfl (by rfl) ⟨?_, fun W hW => ?_, ?_⟩; rotate_left; (· (have d0 := hW.keeps.cell id x0; have d1 := hW.keeps.cell id x1; have d2 := hW.keeps.cell id b1; go_simp; (try with_reducible rfl)))); (try simp only [Act.put, List.setIfInBounds_toArray, List.set_cons_zero, List.set_cons_succ])))
            clear x0 x1 b1
            refine run_chain rfl rfl (by rfl) (fun Wi hWi K' hK => ?_)
            have HTi := Lib.hid (HT.out.trans hWi)
            clear hWi HT
            go_simp
            refine (gale.within_any _ _ _ _).mono ?_
            rintro e wn ⟨rfl, rfl⟩
            rw [HU.out]
            have HT := HTi
            clear HTi
            refine hK _ _ (StepX.refl _ _) ?_
            (try simp only [Act.put, List.setIfInBounds_toArray, List.set_cons_zero, List.set_cons_succ])
            have x0 := (HB3.out.step HT.out).cell 0
            have x1 := (HB3.out.step HT.out).cell 1
            have b1 := HT.out.keeps.cell id HBC.out
            simp only [List.getElem?_cons_zero, List.getElem?_cons_succ] at x0 x1
            repeat (first | (refine run_off rfl rfl (by rfl) ?_; (try simp only [Act.put, List.setIfInBounds_toArray, List.set_cons_zero, List.set_cons_succ])) | (refine run_chain_off rfl rfl (by rfl) (K0_mono _) ?_; (try simp only [Act.put, List.setIfInBounds_toArray, List.set_cons_zero, List.set_cons_succ])) | ((refine run_want rfl rfl (by rfl) ⟨?_, fun W hW => ?_, ?_⟩; rotate_left; (· (have d0 := hW.keeps.cell id x0; have d1 := hW.keeps.cell id x1; have d2 := hW.keeps.cell id b1; go_simp; (try with_reducible rfl)))); (try simp only [Act.put, List.setIfInBounds_toArray, List.set_cons_zero, List.set_cons_succ])))
            clear x0 x1 b1
            refine run_chain rfl rfl (by rfl) (fun Wi hWi K' hK => ?_)
            have HTi := Lib.hid (HT.out.trans hWi)
            clear hWi HT
            go_simp
            refine (gale.within_any _ _ _ _).mono ?_
            rintro e wn ⟨rfl, rfl⟩
            rw [HP.out]
            have HT := HTi
            clear HTi
            refine hK _ _ (StepX.refl _ _) ?_
            (try simp only [Act.put, List.setIfInBounds_toArray, List.set_cons_zero, List.set_cons_succ])
            have g1 := HT.out.keeps.cell id HG.out.1
            have g2 := HT.out.keeps.cell id HG.out.2
            have x0 := (HB3.out.step HT.out).cell 0
            have x1 := (HB3.out.step HT.out).cell 1
            have b1 := HT.out.keeps.cell id HBC.out
            simp only [List.getElem?_cons_zero, List.getElem?_cons_succ] at x0 x1
            repeat (first | (refine run_off rfl rfl (by rfl) ?_; (try simp only [Act.put, List.setIfInBounds_toArray, List.set_cons_zero, List.set_cons_succ])) | (refine run_chain_off rfl rfl (by rfl) (K0_mono _) ?_; (try simp only [Act.put, List.setIfInBounds_toArray, List.set_cons_zero, List.set_cons_succ])) | ((refine run_want rfl rfl (by rfl) ⟨?_, fun W hW => ?_, ?_⟩; rotate_left; (· (have d0 := hW.keeps.cell id x0; have d1 := hW.keeps.cell id x1; have d2 := hW.keeps.cell id b1; have d3 := hW.keeps.cell id g1; have d4 := hW.keeps.cell id g2; go_simp; (try with_reducible rfl)))); (try simp only [Act.put, List.setIfInBounds_toArray, List.set_cons_zero, List.set_cons_succ])))
            clear x0 x1 b1
            clear g1 g2
            refine run_end (L := []) rfl (fun W6 hW6 => ?_)
            have HT6 := Lib.hid (HT.out.trans hW6)
            clear hW6 HT
            have HT := HT6
            clear HT6
            go_wp2
            go_roundw
            case rel => exact ⟨j + 1 + 1, by omega, by go_num, HTR.out.trans (HS3.out.trans HT.out)⟩
            case measure => simp [intOf]; omega
        · have HT := HTR
          clear HTR
          obtain ⟨q1, d1, bb', oo', he, _, _, hp, hc, hbl⟩ := (SL.go HV2.out HT.out).stgs
          injection he with he1 _ he3
          subst he3
          have hpp := hp (by have := HM.out; omega)
          rw [hpp] at he1
          injection he1 with he1
          injection he1 with he4 he5 _
          subst he4 he5
          have hL := HM.out.1
          obtain ⟨e1, e2⟩ := hc m (by omega)
          have hlast := HOK.out.last
          rw [show s.stages.length - 1 = m by omega, List.getElem?_eq_getElem (by omega)] at hlast
          have hlast := Option.some.inj hlast
          rw [hlast] at e1 e2
          dsimp only at e1 e2
          have b2 := (HB.out.step HT.out).cell 2
          have b3 := (HB.out.step HT.out).cell 3
          simp only [List.getElem?_cons_zero, List.getElem?_cons_succ] at b2 b3
          rw [hL] at b2
          have hwo : IntKind.i64.wrap ((m : Int) - 1) = (m : Int) - 1 := by rw [IntKind.wrap_i64]; omega
          have HO := Lib.hid (show withinB s.openS 0 ((m : Int) - 1) = true by have := HOK.out.opn; simp [withinB]; omega)
          clear hp hpp hc hbl hlast hL
          go_wp2_with fail
          refine (gale.within_any _ _ _ _).mono ?_
          rintro e wx ⟨rfl, rfl⟩
          rw [HO.out]
          go_wp2
          go_ret
          exact ⟨rfl, HS.out.trans HT.out⟩
end Go.Proofs.YtoanjaidfdkdpaaGreat
/- Walks: the law CanvasReaches: it answers true. -/
namespace Go.Proofs.YtoanjaidfdkdpaaGreat
set_option linter.unusedSimpArgs false
set_option linter.unusedVariables false
open Go.RowKit Go.BT

theorem wayB_corner {p : Vec} (h : wayB p = true) : cornerB p = true := by
  unfold wayB at h
  rw [Bool.and_eq_true] at h
  exact h.1

end Go.Proofs.YtoanjaidfdkdpaaGreat
/- Walks: an append to an empty literal; what proofs of balances are asked in the law. -/
namespace Go.Proofs.YtoanjaidfdkdpaaGreat
set_option linter.unusedSimpArgs false
set_option linter.unusedVariables false
open Go.RowKit Go.BT

section
variable {α : Type} [Rep α] {S : Nat → Prop} {base : Nat} {P : Program} {w : World} {u : Value} {m : List α} {t e : TypeId} {z : Value} {bytes : Nat}
/-- Append to an empty literal: the row of the literal is left alone. -/
theorem run_append_empty (ei : EI P t e z (Rep.k α) bytes) (ty : TypeId) (g : Nat) (hown : OwnL S base e w (.slice (some ⟨g, 0, none⟩) 0 0) ([] : List α)) (hu : SLe (avoid S (.slice (some ⟨g, 0, none⟩) 0 0)) w u m)
    (n : Nat) (hn : m.length = n) (h63 : n ≤ maxLen) (hbytes : n * bytes ≤ 140737488355328) (hbase : base ≤ w.heap.size) :
    ∃ p c w', (Builtin.append_ #[t, t] ty #[.slice (some ⟨g, 0, none⟩) 0 0, u]).run P w = .ok (.slice p n c) w' ∧ OwnL S base e w' (.slice p n c) m ∧ Step w w' := by
  obtain ⟨p, c, w', h1, h2, h3⟩ := run_append_L ei ty hown hu n (by simpa using hn) m rfl h63 hbytes hbase
  refine ⟨p, c, w', h1, h2, ?_⟩
  obtain ⟨ht, hzs, i, hi, hz, hsize, hby⟩ := ei
  obtain ⟨pu, cu, b, o, rfl, hcu, _, hp, hat⟩ := hu
  by_cases hm : m = []
  · subst hm
    have hnil : (Builtin.append_ #[t, t] ty #[.slice (some ⟨g, 0, none⟩) 0 0, .slice pu ([] : List α).length cu]).run P w = .ok (.slice (some ⟨g, 0, none⟩) 0 0) w := by
      cases pu with
      | none => exact run_append_nothing w t t ty e i ht hi _ 0 0 (Nat.le_refl _) _ (Src.ofNil w ht cu)
      | some a => exact run_append_nothing w t t ty e i ht hi _ 0 0 (Nat.le_refl _) _ (Src.ofSlice w ht a 0 cu [] (by simp) (by simp) (by simp))
    rw [hnil] at h1
    injection h1 with _ h
    subst h
    exact Step.refl _
  · have hpos : 0 < m.length := List.length_pos_iff.2 hm
    obtain rfl := hp hpos
    obtain ⟨news, hl, hnw, _, _⟩ := cells_of_at m o hat
    have hgr := run_append_grow (P := P) w t ty e i z ht hi hz ⟨g, 0, none⟩ 0 0 [] (by simp) (by simp) ⟨b, o, none⟩ m.length cu news (by rw [hl, hsize]) (fun j v hj => by rw [Addr.add_lit]; exact hnw j v hj) (by omega) (by simp only [maxLen] at h63; omega) (growslice_fits (by omega) (by rw [Nat.zero_add, hn, hby]; exact hbytes))
    rw [hgr] at h1
    injection h1 with _ h
    subst h
    exact (Step.drew w).trans (Step.alloc _ _)
theorem wp_append_empty {o : Oper} {a : Act} {K : Act → World → Prop} {Q : Exit → Act → World → Prop} (ei : EI P t e z (Rep.k α) bytes) (g : Nat) (s x : Operand)
    (ho : o.op = .call { callee := .builtin .append, args := #[s, x], argTypes := #[t, t] }) (hs : a.eval s = .slice (some ⟨g, 0, none⟩) 0 0) (hx : a.eval x = u) (hown : OwnL S base e w (.slice (some ⟨g, 0, none⟩) 0 0) ([] : List α)) (hu : SLe (avoid S (.slice (some ⟨g, 0, none⟩) 0 0)) w u m)
    (n : Nat) (hn : m.length = n) (h63 : n ≤ maxLen) (hbytes : n * bytes ≤ 140737488355328) (hbase : base ≤ w.heap.size)
    (h : ∀ p c w', OwnL S base e w' (.slice p n c) m → Step w w' → K (a.put o.dst (.slice p n c)) w') : o.wp P a w K Q := by
  obtain ⟨p, c, w', hr, h2, h3⟩ := run_append_empty ei o.type g hown hu n hn h63 hbytes hbase
  unfold Oper.wp execOp
  simp only [ho, resolve, invoke, builtin, Sem.run_bind, Sem.run_pure, Result.andThen_ok, List.map_toArray, List.map_cons, List.map_nil, hs, hx, hr]
  exact h p c w' h2 h3
theorem ownL_at (S : Nat → Prop) (base : Nat) (e : TypeId) (w : World) {g : Nat} (h : w.heap[g]? = some (.cells #[] e (0, 0))) (hb : base ≤ g) : OwnL S base e w (.slice (some ⟨g, 0, none⟩) 0 0) ([] : List α) :=
  ⟨[], ⟨by simp, .inr ⟨g, 0, #[], rfl, hb, h, Nat.le_refl _, by simp [maxLen], by simp, by simp⟩⟩, fun i h => absurd h (by simp)⟩
theorem wpl_append_empty {ops : Array Oper} {rest : List Oper} {o : Oper} {a : Act} {Q : Exit → Act → World → Prop} (g : Nat) (ei : EI P t e z (Rep.k α) bytes) (hgd : o.guard = none) (s x : Operand)
    (ho : o.op = .call { callee := .builtin .append, args := #[s, x], argTypes := #[t, t] }) (hs : a.eval s = .slice (some ⟨g, 0, none⟩) 0 0) (hx : a.eval x = u) (hown : OwnL S base e w (.slice (some ⟨g, 0, none⟩) 0 0) ([] : List α)) (hu : SLe (avoid S (.slice (some ⟨g, 0, none⟩) 0 0)) w u m)
    (n : Nat) (hn : m.length = n) (h63 : n ≤ maxLen) (hbytes : n * bytes ≤ 140737488355328) (hbase : base ≤ w.heap.size)
    (h : ∀ p c w', OwnL S base e w' (.slice p n c) m → Step w w' → wpList P ops Q rest (a.put o.dst (.slice p n c)) w') : wpList P ops Q (o :: rest) a w :=
  wpList_plain hgd fun _ hK => wp_append_empty ei g s x ho hs hx hown hu n hn h63 hbytes hbase fun p c w' h2 h3 => hK _ _ (h p c w' h2 h3)
theorem own_apart {v : Value} {l : List α} {g : Nat} {cs : List Value} {T : TypeId} (h : OwnL S base e w v l) (hb : Bx w g cs T) (hne : e ≠ T) : v.ownBlock ≠ some g := by
  obtain ⟨xs, ⟨_, ho⟩, _⟩ := h
  rcases ho with ⟨rfl, _⟩ | ⟨g', cap, cur, rfl, _, hg, _⟩
  · simp [Value.ownBlock]
  · intro q
    simp [Value.ownBlock] at q
    subst q
    unfold Bx at hb
    rw [hg] at hb
    injection hb with hb
    injection hb with _ h2 _
    exact hne h2
theorem ownL_lit (S : Nat → Prop) (base : Nat) (e : TypeId) (w : World) (hb : base ≤ w.heap.size) : OwnL S base e (w.alloc (.cells #[] e)) (.slice (some ⟨w.heap.size, 0, none⟩) 0 0) ([] : List α) :=
  ⟨[], World.ownsRow_lit w #[] 0 hb (by simp [maxLen]) (by simp), fun i h => absurd h (by simp)⟩
end
theorem slt_set {S : Nat → Prop} {w : World} {b o n c : Nat} {l : List Int} (h : SLT S w (.slice (some ⟨b, o, none⟩) n c) l) {k : Nat} (hk : k < l.length) (v : Int) : SLT S (w.setCell ⟨b, o + k, none⟩ (.int .i64 v)) (.slice (some ⟨b, o, none⟩) n c) (l.set k v) := by
  refine ⟨?_, fun b' o' n' c' e i hi => by rw [World.frozen?_setCell]; exact h.2 b' o' n' c' e i hi⟩
  obtain ⟨p, c', b', o', hv, hc, hm, hp, ha⟩ := h.1
  injection hv with e1 e2 e3
  have hb := hp (by omega)
  rw [← e1] at hb
  injection hb with hb
  injection hb with hb1 hb2
  subst hb1 hb2 e3
  refine ⟨_, c, b, o, by rw [List.length_set, e2], by simpa using hc, by simpa using hm, fun _ => rfl, fun i hi => ?_⟩
  have hi' : i < l.length := by simpa using hi
  obtain ⟨h1, h2, cs, hr, hcs⟩ := ha i hi'
  have hr' : cs = [.int .i64 l[i]] := hr
  subst hr'
  have hcell : w.cell? ⟨b, o + i * 1 + 0, none⟩ = some (.int .i64 l[i]) := hcs 0 _ rfl
  refine ⟨by simpa using h1, h2, [.int .i64 (l.set k v)[i]], rfl, fun j u hj => ?_⟩
  match j, hj with
  | 0, hj =>
    simp at hj
    subst hj
    show (w.setCell _ _).cell? ⟨b, o + i * 1 + 0, none⟩ = _
    by_cases q : k = i
    · subst q
      rw [show (⟨b, o + k * 1 + 0, none⟩ : Addr) = ⟨b, o + k, none⟩ by simp] at hcell ⊢
      rw [World.cell?_setCell_same _ _ _ hcell]
      simp
    · have h9 : (w.setCell ⟨b, o + k, none⟩ (.int .i64 v)).cell? ⟨b, o + i * 1 + 0, none⟩ = w.cell? ⟨b, o + i * 1 + 0, none⟩ := by
        apply World.cell?_setCell_other
        simp [q]
      rw [h9, hcell]
      simp [List.getElem_set, q]
theorem balR_len {l : List Tst} {t : List Head} {i : Int} {p : Vec} : (balR l t i p).parts.length ≤ 8 := by
  by_cases h : balC l t i p = 0
  · have hat : atC l t i (cornerB p) = 0 := by
      unfold balC at h
      split at h
      · assumption
      · exact h
    obtain ⟨k1, k2, k3, _, _⟩ := atC_ok hat
    obtain ⟨_, _, hpn, hpg⟩ := head_parts (headAt_ok k2 k3)
    have hs : (searchL (headF l t i) (headP t i p)).2 = true := by
      unfold balC at h
      rw [if_pos hat] at h
      by_cases q : (searchL (headF l t i) (headP t i p)).2 = true
      · exact q
      · rw [if_neg q] at h; simp at h
    have his := search_is (forces_small k1 hpg) hs
    have : (balR l t i p).parts.length = (headF l t i).length := by
      unfold balR
      rw [if_pos h]
      simp only [isBalL, Bool.and_eq_true, decide_eq_true_eq] at his
      exact his.1.1.1.2
    rw [this]
    unfold headF
    rw [forces_len]; exact hpn
  · unfold balR
    rw [if_neg h]; simp [noBal]





end Go.Proofs.YtoanjaidfdkdpaaGreat
