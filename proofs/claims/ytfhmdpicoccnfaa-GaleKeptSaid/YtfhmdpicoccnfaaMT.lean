/- Walks and plain laws, part T. -/
import Derived.Test.YtfhmdpicoccnfaaMC
import Derived.Test.YtfhmdpicoccnfaaMD
import Derived.Test.YtfhmdpicoccnfaaMF
import Derived.Test.YtfhmdpicoccnfaaRows
import Derived.Lib.SlicesS
set_option maxHeartbeats 16000000
set_option maxRecDepth 100000
namespace Go.Proofs.Ytfhmdpicoccnfaa
set_option linter.unusedSimpArgs false
set_option linter.unusedVariables false
open Go.RowKit Go.BT
theorem siGRange : SI Try.prog 99 2 := ⟨⟨_, Try.underlying99⟩, by kernel_rfl⟩
theorem infoGReading : (Try.prog.info? 101).map (fun i => (i.zero, i.size, i.bytes)) = some (some (.agg #[.int .i64 0, .int .i64 0, .int .i64 0]), 3, 24) := by kernel_rfl
theorem eiGReadings : EI Try.prog 33 101 (.agg #[.int .i64 0, .int .i64 0, .int .i64 0]) 3 24 := .mk' Try.underlying33 infoGReading rfl
theorem Range_any (a b : Int) (w : World) :
  Calls Try.prog 52 #[.agg #[.int .i64 a, .int .i64 b]] w fun e w' => e = .returned (.agg #[.int .i64 a, .int .i64 b]) ∧ Step w w' := by
 go_enter Try.func52, Try.ntmps52
 go_wp2
 exact ret_struct (k := 2) rfl siGRange rfl (Bx.new' _ [.int .i64 a, .int .i64 b] _ _ (by simp)) rfl rfl ⟨rfl, (by with_reducible repeat (first | assumption | exact Step.refl _ | apply Step.s_alloc | apply Step.s_drew | apply Step.s_drewN | refine Step.trans ?_ (by assumption)))⟩
theorem Readings_any (S : Nat → Prop) (l : List Rdg) (v : Value) (w : World) (hv : SL S w v l) (hl : l.length ≤ 1000) :
  Calls Try.prog 17 #[v] w fun e w' => ∃ v', e = .returned v' ∧ SL (Old w) w' v' l ∧ Step w w' := by
 obtain ⟨pv, cv, b, o, rfl, _, hm, hp, hc, _⟩ := hv.rdgs
 have HP := zH (And.intro hp hc)
 clear hp hc hv
 go_enter Try.func17, Try.ntmps17
 go_wp2
 go_loopw [3, 4] (fun out i wr => ∃ k : Nat, k ≤ l.length ∧ i = .int .i64 k ∧ OwnL (Old w) w.heap.size 101 wr out (l.take k) ∧ Below w.heap.size w wr) (fun _ i _ => l.length - (intOf i).toNat)
 case atStart => exact ⟨0, Nat.zero_le _, rfl, OwnL.nil _ _ _ _, Below.refl _ _⟩
 case round =>
  obtain ⟨k, hk, rfl, hown, hB⟩ := hrel
  have HTB := zH (Step.of hB)
  have HO := zH hown
  have HB := zH hB
  obtain ⟨LL, hLL⟩ : ∃ L, L = l.take k := ⟨_, rfl⟩
  rw [← hLL] at hown
  obtain ⟨pu, cu, rfl, _⟩ := hown.form
  have HLL := zH hLL
  clear hown hB hLL
  by_cases hlt : k < l.length
  ·obtain rfl := HP.out.1 (by omega)
   obtain ⟨e1, e2, e3⟩ := HP.out.2 k hlt
   have e1 := HTB.out.kc e1
   have e2 := HTB.out.kc e2
   have e3 := HTB.out.kc e3
   have hix : (0 : Int) ≤ (k : Int) ∧ (k : Int) < (l.length : Int) := by omega
   have HE := zH (And.intro e1 (And.intro e2 e3))
   go_upto_region 5 with (fail)
   clear e1 e2 e3
   refine wp_region_seq (kdOf [11, 13] []) [0, 0, 0, 6, 14, 30, 0, 0, 192, 448, 960, 1984, 4094, 8190, 16383, 32767] [0, 1, 2, 3, 4, 5, 6, 7, 8, 9, 10, 11, 12, 13] [14, 15] (by kernel_rfl) (by kernel_rfl) (fun i T z hi hk => by simp [kdOf] at hk <;> (try (split at hk <;> cases hk))) ?_
   intro Wx hWx
   have HT := zH ((Step.refl wr).trans hWx)
   clear hWx
   have e1 := HT.out.kc HE.out.1
   have e2 := HT.out.kc HE.out.2.1
   have e3 := HT.out.kc HE.out.2.2
   repeat ((first | (refine run_off rfl rfl (by rfl) ?_) | (refine run_chain_off rfl rfl (by rfl) (K0_mono _) ?_) | ((refine run_want rfl rfl (by rfl) ⟨?_, fun W hW => ?_, ?_⟩; rotate_left; (· (have d0 := hW.kc e1; have d1 := hW.kc e2; have d2 := hW.kc e3; go_simp; (try with_reducible rfl)))))); (try simp only [Act.put, zA, zB, zC]))
   clear e1 e2 e3
   refine run_chain rfl rfl (by rfl) (fun Wi hWi K' hK => ?_)
   have HTi := zH (HT.out.trans hWi)
   have HZW := zH HTi.out.size
   clear hWi HT
   go_simp
   refine (Range_any _ _ _).mono ?_
   rintro e wn ⟨rfl, hSn⟩
   have HT := zH (HTi.out.trans (StepX.of hSn))
   clear HTi
   refine hK _ _ (StepX.of hSn) ?_
   clear hSn
   (try simp only [Act.put, zA, zB, zC])
   have e1 := HT.out.kc HE.out.1
   have e2 := HT.out.kc HE.out.2.1
   have e3 := HT.out.kc HE.out.2.2
   repeat ((first | (refine run_off rfl rfl (by rfl) ?_) | (refine run_chain_off rfl rfl (by rfl) (K0_mono _) ?_) | ((refine run_want rfl rfl (by rfl) ⟨?_, fun W hW => ?_, ?_⟩; rotate_left; (· (have d0 := hW.kc e1; have d1 := hW.kc e2; have d2 := hW.kc e3; go_simp; (try with_reducible rfl)))))); (try simp only [Act.put, zA, zB, zC]))
   clear e1 e2 e3
   refine run_chain rfl rfl (by rfl) (fun W1 hW1 K' hK' => ?_)
   go_simp
   refine hK' _ _ (.of (Step.alloc _ _)) ?_
   (try simp only [Act.put, zA, zB, zC])
   refine run_end (L := [_, _]) rfl (fun W2 hW2 => ?_)
   have hST := HT.out.trans hW1
   have hown2 := ((HO.out.step hST).alloc (.cells #[.int .i64 l[k].hour, .int .i64 l[k].lo, .int .i64 l[k].hi] 101)).step hW2
   have hu := (SLe.one (S := avoid (Old w) (.slice pu LL.length cu)) (w := W1) (cs := [.int .i64 l[k].hour, .int .i64 l[k].lo, .int .i64 l[k].hi]) (x := l[k]) 101 rfl).step hW2
   have hB2 := ((HB.out.step (Nat.le_refl _) hST).step (Nat.le_refl _) (Step.alloc _ (.cells #[.int .i64 l[k].hour, .int .i64 l[k].lo, .int .i64 l[k].hi] 101))).step (Nat.le_refl _) hW2
   clear hW1 hW2 hK' hST
   go_wp2_with (at_builtin; refine wpl_append1 (l := l) (k := k) eiGReadings rfl _ _ rfl rfl rfl hown2 hlt (by omega) (by decide) hu hB2 (Nat.le_refl _) ?_)
   intro p' c' w2 hown3 hB3 _
   have H3 := zH (And.intro hown3 hB3)
   clear hown2 hu hB2 hown3 hB3
   go_wp2
   go_roundw
   case rel => exact ⟨k + 1, by omega, by go_num, H3.out.1, H3.out.2⟩
   case measure => simp [intOf]; omega
  ·have HN := zH (show LL = l by rw [HLL.out, List.take_of_length_le (by omega)])
   go_wp2
   go_ret
   refine ⟨_, rfl, ?_, HTB.out⟩
   have h := HO.out.fresh
   rw [← HLL.out, HN.out] at h
   rw [HN.out]; exact h
theorem infoFcG : (Try.prog.info? 117).map (fun i => (i.zero, i.size, i.bytes)) = some (some (.agg #[.string ⟨#[]⟩, .slice none 0 0]), 2, 40) := by kernel_rfl
theorem eiFcs : EI Try.prog 31 117 (.agg #[.string ⟨#[]⟩, .slice none 0 0]) 2 40 := .mk' Try.underlying31 infoFcG rfl
theorem infoRngG : (Try.prog.info? 99).map (fun i => (i.zero, i.size, i.bytes)) = some (some (.agg #[.int .i64 0, .int .i64 0]), 2, 16) := by kernel_rfl
theorem eiRngs : EI Try.prog 115 99 (.agg #[.int .i64 0, .int .i64 0]) 2 16 := .mk' Try.underlying115 infoRngG rfl
theorem Forecasts_any (S : Nat → Prop) (l : List Fc) (v : Value) (w : World) (hv : SL S w v l) (hl : l.length ≤ 1000) (hh : ∀ i (h : i < l.length), l[i].hours.length ≤ 1000) :
  Calls Try.prog 16 #[v] w fun e w' => ∃ v', e = .returned v' ∧ SL (Old w) w' v' l ∧ Step w w' := by
 obtain ⟨pv, cv, b, o, rfl, _, hm, hp, hc, _⟩ := hv.fcs
 have HP := zH (And.intro hp hc)
 have HN := zH hh
 clear hp hc hv hh
 go_enter Try.func16, Try.ntmps16
 go_wp2
 go_loopw [3, 4] (fun out i wr => ∃ k : Nat, k ≤ l.length ∧ i = .int .i64 k ∧ OwnL (Old w) w.heap.size 117 wr out (l.take k) ∧ Below w.heap.size w wr) (fun _ i _ => l.length - (intOf i).toNat)
 case atStart => exact ⟨0, Nat.zero_le _, rfl, OwnL.nil _ _ _ _, Below.refl _ _⟩
 case round =>
  obtain ⟨k, hk, rfl, hown, hB⟩ := hrel
  obtain ⟨LO, hLO⟩ : ∃ L, L = l.take k := ⟨_, rfl⟩
  rw [← hLO] at hown
  obtain ⟨po, co, rfl, _⟩ := hown.form
  have HO := zH hown
  have HB := zH hB
  have HTB := zH (Step.of hB)
  have HLO := zH hLO
  have HL := zH (show LO.length = k by rw [hLO, List.length_take]; omega)
  clear hown hB hLO
  by_cases hlt : k < l.length
  ·obtain rfl := HP.out.1 (by omega)
   obtain ⟨c2, e1, e3, e4, _⟩ := HP.out.2 k hlt
   have e1 := HTB.out.kc e1
   have hix : (0 : Int) ≤ (k : Int) ∧ (k : Int) < (l.length : Int) := by omega
   have hg10 := HN.out k hlt
   obtain ⟨h, hh⟩ : ∃ h, h = l[k] := ⟨_, rfl⟩
   rw [← hh] at e1 e4 hg10
   have HH := zH hh
   have HSZ := zH (show h.name.size ≤ 9223372036854775807 by
    obtain ⟨_, _, _, _, hz⟩ := HP.out.2 k hlt
    rw [hh]; exact hz)
   obtain ⟨pg, cg, bg, og, rfl, _, _, hpg, hcg, _⟩ := e4.rngs
   have HG := zH (And.intro hpg hcg)
   have e3 := HTB.out.kc e3
   have HE3 := zH e3
   clear hh e4 hpg hcg
   obtain ⟨wo, hwo⟩ : ∃ W, W = wr := ⟨_, rfl⟩
   subst hwo
   obtain ⟨W3, hW3⟩ : ∃ W, W = wo.alloc (.cells #[.string h.name, .slice none 0 0] 117) := ⟨_, rfl⟩
   have HB7 := zH (show Bx W3 wo.heap.size [.string h.name, .slice none 0 0] 117 by subst hW3; exact Bx.new wo [_, _] _)
   have HS7 := zH (show Step wo W3 by subst hW3; exact Step.alloc _ _)
   have HW3 := zH hW3
   clear hW3
   go_upto_region 6 with (fail)
   rw [← HW3.out]
   obtain ⟨g, hg⟩ : ∃ g, g = wo.heap.size := ⟨_, rfl⟩
   rw [← hg] at HB7 ⊢
   have HGB := zH hg
   clear hg e1 e3
   go_upto_region 7 with (fail)
   go_loopw [6] (fun i wr => ∃ (j : Nat) (q : Value), j ≤ h.hours.length ∧ i = .int .i64 j ∧ Bx wr g [.string h.name, q] 117 ∧ OwnL (fun _ => False) W3.heap.size 99 wr q (h.hours.take j) ∧ StepX (fun x => x = g) W3 wr) (fun i _ => h.hours.length - (intOf i).toNat)
   case atStart => exact ⟨0, _, Nat.zero_le _, rfl, HB7.out, OwnL.nil _ _ _ _, StepX.refl _ _⟩
   case round =>
    obtain ⟨j, q, hj, rfl, hbj, hoj, hX⟩ := hrel
    have HBJ := zH hbj
    have HOJ := zH hoj
    have HX := zH hX
    obtain ⟨LL, hLL⟩ : ∃ L, L = h.hours.take j := ⟨_, rfl⟩
    rw [← hLL] at hoj
    obtain ⟨pq, cq, rfl, _⟩ := hoj.form
    have HGL := zH HB7.out.lt
    have HNE := zH (show (Value.slice pq LL.length cq).ownBlock ≠ some g from fun e => by have := (hoj.lt _ e).1; have := HGL.out; omega)
    have HLL := zH hLL
    clear hbj hoj hX hLL
    have hcell : ∀ b o u, wo.cell? ⟨b, o, none⟩ = some u → wr.cell? ⟨b, o, none⟩ = some u := fun b o u hu => HX.out.keeps.cell (a := ⟨b, o, none⟩) (by have := World.block_lt_of_cell? wo _ hu; have := HGB.out; show ¬ b = g; dsimp only at *; omega) (HS7.out.kc hu)
    have e3 := hcell _ _ _ HE3.out
    have yl := HBJ.out.lt
    have m0 := HBJ.out.cell 0
    have m1 := HBJ.out.cell 1
    simp only [zD, zE] at m0 m1
    by_cases hltj : j < h.hours.length
    ·obtain rfl := HG.out.1 (by omega)
     obtain ⟨g1, g2⟩ := HG.out.2 j hltj
     have g1 := hcell _ _ _ (HTB.out.kc g1)
     have g2 := hcell _ _ _ (HTB.out.kc g2)
     have hjx : (0 : Int) ≤ (j : Int) ∧ (j : Int) < (h.hours.length : Int) := by omega
     obtain ⟨y, hy⟩ : ∃ y, y = h.hours[j] := ⟨_, rfl⟩
     rw [← hy] at g1 g2
     have HY := zH hy
     have HE := zH (And.intro e3 (And.intro g1 (And.intro g2 m1)))
     clear hcell hy
     go_upto_region 9 with (fail)
     clear e3 g1 g2 m0 m1 yl
     refine wp_region_seq (kdOf [10, 11] []) [0, 1, 0, 0, 12, 28, 60, 0, 252, 508, 1020, 2044, 4095, 8191, 16383] [0, 1, 2, 3, 4, 5, 6, 7, 8, 9, 10, 11] [12, 13, 14] (by kernel_rfl) (by kernel_rfl) (fun i T z hi hk => by simp [kdOf] at hk <;> (try (split at hk <;> cases hk))) ?_
     intro Wx hWx
     have HT := zH ((Step.refl wr).trans hWx)
     clear hWx
     have e3 := HT.out.kc HE.out.1
     have g1 := HT.out.kc HE.out.2.1
     have g2 := HT.out.kc HE.out.2.2.1
     have m1 := HT.out.kc HE.out.2.2.2
     repeat ((first | (refine run_off rfl rfl (by rfl) ?_) | (refine run_chain_off rfl rfl (by rfl) (K0_mono _) ?_) | ((refine run_want rfl rfl (by rfl) ⟨?_, fun W hW => ?_, ?_⟩; rotate_left; (· (have d0 := hW.kc e3; have d1 := hW.kc g1; have d2 := hW.kc g2; have d3 := hW.kc m1; go_simp; (try with_reducible rfl)))))); (try simp only [Act.put, zA, zB, zC]))
     clear e3 g1 g2 m1
     refine run_chain rfl rfl (by rfl) (fun Wi hWi K' hK => ?_)
     have HTi := zH (HT.out.trans hWi)
     have HZW := zH HTi.out.size
     clear hWi HT
     go_simp
     refine (Range_any _ _ _).mono ?_
     rintro e wn ⟨rfl, hSn⟩
     have HT := zH (HTi.out.trans (StepX.of hSn))
     clear HTi
     refine hK _ _ (StepX.of hSn) ?_
     clear hSn
     (try simp only [Act.put, zA, zB, zC])
     have e3 := HT.out.kc HE.out.1
     have g1 := HT.out.kc HE.out.2.1
     have g2 := HT.out.kc HE.out.2.2.1
     have m1 := HT.out.kc HE.out.2.2.2
     repeat ((first | (refine run_off rfl rfl (by rfl) ?_) | (refine run_chain_off rfl rfl (by rfl) (K0_mono _) ?_) | ((refine run_want rfl rfl (by rfl) ⟨?_, fun W hW => ?_, ?_⟩; rotate_left; (· (have d0 := hW.kc e3; have d1 := hW.kc g1; have d2 := hW.kc g2; have d3 := hW.kc m1; go_simp; (try with_reducible rfl)))))); (try simp only [Act.put, zA, zB, zC]))
     clear e3 g1 g2 m1
     refine run_chain rfl rfl (by rfl) (fun W1 hW1 K' hK' => ?_)
     go_simp
     refine hK' _ _ (.of (Step.alloc _ _)) ?_
     (try simp only [Act.put, zA, zB, zC])
     refine run_end (L := [_, _, _]) rfl (fun W2 hW2 => ?_)
     have hST := HT.out.trans hW1
     have hown2 := ((HOJ.out.step hST).alloc (.cells #[.int .i64 y.lo, .int .i64 y.hi] 99)).step hW2
     have hu := (SLe.one (S := avoid (fun _ => False) (.slice pq LL.length cq)) (w := W1) (cs := [.int .i64 y.lo, .int .i64 y.hi]) (x := y) 99 rfl).step hW2
     rw [show [y] = [h.hours[j]] by rw [HY.out]] at hu
     have b3 := ((HBJ.out.step hST).alloc (.cells #[.int .i64 y.lo, .int .i64 y.hi] 99)).step hW2
     have hX2 := ((HX.out.trans (.of hST)).alloc' (.cells #[.int .i64 y.lo, .int .i64 y.hi] 99)).trans (.of hW2)
     clear hW1 hW2 hK' hST
     go_wp2_with (at_builtin; refine wpl_append1 (W0 := W2) (l := h.hours) (k := j) eiRngs rfl _ _ rfl rfl rfl hown2 hltj (by omega) (by decide) hu (Below.refl _ _) hX2.size ?_)
     intro p' c' w3 hown3 _ hg
     have b4 := b3.keep (S := fun j => (Value.slice pq LL.length cq).ownBlock = some j) (.grown hg fun j hj _ => hj) HNE.out
     have m0 := b4.cell 0
     have m1 := b4.cell 1
     simp only [zD, zE] at m0 m1
     have z1 := b4.frozen 1
     have yl := b4.lt
     have hX3 : StepX (fun x => x = g) W3 w3 := hX2.over (X := fun j => (Value.slice pq LL.length cq).ownBlock = some j) (.grown hg fun j hj _ => hj) fun j hj => .inl (HOJ.out.lt j hj).1
     have hn3 : (Value.slice p' (j + 1) c').ownBlock ≠ some g := fun e => by have := (hown3.lt _ e).1; have := HGL.out; omega
     have H3 := zH (And.intro hown3 (And.intro b4 (And.intro hX3 hn3)))
     clear hown2 hu b3 hX2 hown3 hg b4 hX3 hn3
     go_wp2
     go_roundw
     case rel => exact ⟨j + 1, _, by omega, by go_num, H3.out.2.1.setCell 1 _, ownL_flat _ ((ownL_flat (fun j => j = g) H3.out.1).wrote (.setCell _ _ _ _) rfl H3.out.2.2.2), H3.out.2.2.1.setCell ⟨g, 1, none⟩ _ rfl⟩
     case measure => simp [intOf]; omega
    ·have HN2 := zH (show LL = h.hours by rw [HLL.out, List.take_of_length_le (by omega)])
     have hst := StepX.fresh HS7.out HX.out (fun j hj => by have := HGB.out; omega)
     have ho2 := HO.out.step hst
     have hB2 := HB.out.step (Nat.le_refl _) hst
     have hog := HOJ.out
     rw [← HLL.out, HN2.out] at hog
     rw [HN2.out] at m1
     have hrep : Rep.rep (avoid (Old w) (.slice po LO.length co)) wr [.string h.name, .slice pq h.hours.length cq] h := ⟨_, rfl, (ownL_flat (avoid (Old w) (.slice po LO.length co)) hog).sl fun g' h1 h2 ha => by
      have h3 := HS7.out.size
      rcases ha with ha | ha
      ·have h4 := HB.out.size
       unfold Old at ha; omega
      ·have h5 := (HO.out.lt g' ha).2
       omega, HSZ.out⟩
     have hu := SLe.one (S := avoid (Old w) (.slice po LO.length co)) (w := wr) 117 hrep
     have ho3 := ho2.alloc (.cells #[.string h.name, .slice pq h.hours.length cq] 117)
     have hB3 := hB2.step (Nat.le_refl _) (Step.alloc wr (.cells #[.string h.name, .slice pq h.hours.length cq] 117))
     have hbz : w.heap.size ≤ (wr.alloc (.cells #[.string h.name, .slice pq h.hours.length cq] 117)).heap.size := by have := hB2.size; simp; omega
     clear hst ho2 hB2 hog hcell hrep
     go_wp2_with (at_builtin; refine wpl_append (S := Old w) (base := w.heap.size) (v := .slice po LO.length co) (l := LO) (m := [h]) eiFcs rfl _ _ rfl rfl rfl ho3 hu (LO.length + 1) (by simp) _ rfl (by have := HL.out; simp only [maxLen]; omega) (by have := HL.out; omega) hbz ?_)
     intro p' c' w5 hown3 hg
     have HF := zH (And.intro hown3 (hB3.grown hg hbz (fun j hj => (ho3.lt j hj).1)))
     clear ho3 hu hbz hown3 hg m0 m1 yl e3 hB3
     go_wp2
     go_roundw
     case rel =>
      refine ⟨k + 1, by omega, by go_num, ?_, HF.out.2⟩
      have h1 := HF.out.1
      rw [List.take_succ_eq_append_getElem hlt, ← HLO.out, ← HH.out]
      simpa using h1
     case measure => simp [intOf]; omega
  ·have HN2 := zH (show LO = l by rw [HLO.out, List.take_of_length_le (by omega)])
   go_wp2
   go_ret
   refine ⟨_, rfl, ?_, HTB.out⟩
   have h := HO.out.fresh
   rw [HN2.out] at h ⊢
   exact h
end Go.Proofs.Ytfhmdpicoccnfaa
namespace Go.BT
theorem nodup_names {l : List Fc} : (namesOf l).Nodup ↔ ∀ i j (hi : i < l.length) (hj : j < i), l[j].name ≠ l[i].name := by
 unfold namesOf
 rw [List.Nodup, List.pairwise_iff_getElem]
 constructor
 ·intro h i j hi hj
  have := h j i (by simp; omega) (by simpa using hi) hj
  simpa using this
 ·intro h i j hi hj hij
  have := h j i (by simpa using hj) hij
  simpa using this
end Go.BT
namespace Go.Proofs.Ytfhmdpicoccnfaa
set_option linter.unusedSimpArgs false
set_option linter.unusedVariables false
open Go.RowKit Go.BT
theorem ForecastsFault_any (S : Nat → Prop) (l : List Fc) (v : Value) (w : World) (hv : SL S w v l) : Calls Try.prog 19 #[v] w fun e w' => e = .returned (.int .i64 (forecastsC l)) ∧ Step w w' := by
 have hm := hv.len
 obtain ⟨pv, cv, bv, ov, rfl, _, _, hp, hc, _⟩ := (SL.go hv (Step.refl _)).fcs
 have HC := zH (And.intro hp hc)
 have HT := zH (Step.refl w)
 clear hv hp hc
 by_cases h1 : 1 ≤ l.length
 rotate_left
 ·have d1 : decide ((l.length : Int) < 1) = true := decide_eq_true (by omega)
  have HR := zH (show forecastsC l = 3 by unfold forecastsC; rw [if_neg]; unfold fewFB; simp; omega)
  clear h1
  go_enter Try.func19, Try.ntmps19
  go_wp2
  go_ret
  exact ⟨by rw [HR.out]; rfl, HT.out⟩
 have d1 : decide ((l.length : Int) < 1) = false := decide_eq_false (by omega)
 by_cases h2 : l.length ≤ 10
 rotate_left
 ·have d2 : decide (10 < (l.length : Int)) = true := decide_eq_true (by omega)
  have HR := zH (show forecastsC l = 3 by unfold forecastsC; rw [if_neg]; unfold fewFB; simp; omega)
  clear h1 h2
  go_enter Try.func19, Try.ntmps19
  go_wp2
  go_ret
  exact ⟨by rw [HR.out]; rfl, HT.out⟩
 have d2 : decide (10 < (l.length : Int)) = false := decide_eq_false (by omega)
 have HL := zH (And.intro h1 h2)
 have HF := zH (show fewFB l = l.all fun f => decide (f.hours.length ≤ 48) by unfold fewFB; simp [h1, h2])
 obtain rfl := HC.out.1 (by omega)
 clear h2
 go_enter Try.func19, Try.ntmps19
 go_upto_region 4 with (fail)
 clear d1 d2
 go_loopw [3] (fun i wr => ∃ k : Nat, k ≤ l.length ∧ i = .int .i64 k ∧ (∀ j (hj : j < k) (hl : j < l.length), l[j].hours.length ≤ 48) ∧ Step w wr) (fun i _ => l.length - (intOf i).toNat)
 case atStart => exact ⟨0, Nat.zero_le _, rfl, fun j hj => absurd hj (by omega), Step.refl _⟩
 case round =>
  obtain ⟨k, hk, rfl, hall, hT⟩ := hrel
  have HA := zH hall
  have HT := zH hT
  clear hall hT
  by_cases hlt : k < l.length
  ·skip
   have fc := HC.out.2 k (by omega)
   obtain ⟨c1, e1, e2, e3, e4⟩ := fc
   obtain ⟨p2, k2, rfl⟩ := e3.form
   have e1 := HT.out.kc e1
   have e2 := HT.out.kc e2
   have hix : (0 : Int) ≤ (k : Int) ∧ (k : Int) < (l.length : Int) := by omega
   by_cases q : l[k].hours.length ≤ 48
   ·have d : decide (48 < (l[k].hours.length : Int)) = false := decide_eq_false (by omega)
    have HQ := zH q
    clear q e3 e4
    go_wp2
    go_roundw
    case rel => exact ⟨k + 1, by omega, by go_num, fun j hj hl => if e : j = k then by subst e; exact HQ.out else HA.out j (by omega) hl, HT.out⟩
    case measure => simp [intOf]; omega
   ·have d : decide (48 < (l[k].hours.length : Int)) = true := decide_eq_true (by omega)
    have HR := zH (show forecastsC l = 3 by
     unfold forecastsC
     rw [HF.out, if_neg]
     rw [List.all_eq_true]
     intro h
     have := h l[k] (List.getElem_mem hlt)
     simp at this; omega)
    clear q e3 e4
    go_wp2
    go_ret
    exact ⟨by rw [HR.out]; rfl, HT.out⟩
  have HFW := zH (show fewFB l = true by
   rw [HF.out, List.all_eq_true]
   intro f hf
   obtain ⟨j, hj, rfl⟩ := List.getElem_of_mem hf
   simpa using HA.out j (by omega) hj)
  have hke : k = l.length := by omega
  subst hke
  clear HA HF
  have hhn : hoursN l = l[0].hours.length := by
   cases l with
   | nil => simp at h1
   | cons a l => rfl
  have HHN := zH hhn
  clear hhn
  go_upto_region 9 with (fail)
  clear hk hlt
  go_loopw [4] (fun i wr => ∃ k : Nat, k ≤ l.length ∧ i = .int .i64 k ∧ (∀ j (hj : j < k) (hl : j < l.length), evenFB l l[j] = true) ∧ Step w wr) (fun i _ => l.length - (intOf i).toNat)
  case atStart => exact ⟨0, Nat.zero_le _, rfl, fun j hj => absurd hj (by omega), HT.out⟩
  case round =>
   obtain ⟨k, hk, rfl, hall, hT⟩ := hrel
   have HA := zH hall
   have HT := zH hT
   clear hall hT
   by_cases hlt : k < l.length
   ·skip
    have fc := HC.out.2 k (by omega)
    obtain ⟨c1, e1, e2, e3, e4⟩ := fc
    obtain ⟨p2, k2, rfl⟩ := e3.form
    have e1 := HT.out.kc e1
    have e2 := HT.out.kc e2
    have hix : (0 : Int) ≤ (k : Int) ∧ (k : Int) < (l.length : Int) := by omega
    obtain ⟨c0, f1, f2, f3, f4⟩ := HC.out.2 0 (by omega)
    obtain ⟨p0, k0, rfl⟩ := f3.form
    have f2 := HT.out.kc f2
    rw [← HHN.out, Nat.zero_mul, Nat.add_zero] at f2
    have h0n : 0 < l.length := by omega
    have hix0 : (0 : Int) < (l.length : Int) := by omega
    have HSL := zH (SL.go e3 HT.out)
    have HEV := zH (show evenFB l l[k] = (decide (0 < l[k].hours.length) && decide (l[k].hours.length = hoursN l) && l[k].hours.all rangeB) from rfl)
    have HEB := zH (fun (h : evenFB l l[k] = false) => show forecastsC l = 1 by
     unfold forecastsC
     rw [if_pos HFW.out, if_neg]
     intro hh
     rw [List.all_eq_true] at hh
     rw [hh _ (List.getElem_mem hlt)] at h
     exact absurd h (by decide))
    obtain ⟨f, hf⟩ : ∃ f, f = l[k] := ⟨_, rfl⟩
    rw [← hf] at e1 e2 HSL HEV HEB
    have HFK := zH hf
    obtain ⟨n, hn⟩ : ∃ n, n = hoursN l := ⟨_, rfl⟩
    rw [← hn] at f2 HEV
    clear e1 e3 e4 f1 f3 f4 hf hn
    by_cases q1 : 0 < f.hours.length
    rotate_left
    ·have d : decide ((f.hours.length : Int) < 1) = true := decide_eq_true (by omega)
     have HR := zH (HEB.out (by rw [HEV.out]; simp [q1]))
     clear q1
     go_upto_region 11 with (fail)
     go_quiet (fail)
     go_wp2
     go_ret
     exact ⟨by rw [HR.out]; rfl, HT.out.trans (Step.drewN _ _)⟩
    have d : decide ((f.hours.length : Int) < 1) = false := decide_eq_false (by omega)
    by_cases q2 : f.hours.length = n
    rotate_left
    ·have dq : ((f.hours.length : Int) != (n : Int)) = true := by simp; omega
     have HR := zH (HEB.out (by rw [HEV.out]; simp [q2]))
     clear q1 q2
     go_upto_region 11 with (fail)
     go_quiet (fail)
     go_wp2
     go_ret
     exact ⟨by rw [HR.out]; rfl, HT.out.trans (Step.drewN _ _)⟩
    have dq : ((f.hours.length : Int) != (n : Int)) = false := by simp; omega
    have HEV2 := zH (show evenFB l f = f.hours.all rangeB by rw [HEV.out]; simp [q1, q2]; omega)
    clear q1 q2 HEV
    go_upto_region 11 with (fail)
    go_quiet (fail)
    go_upto_region 14 with (fail)
    clear f2 h0n hix0 d dq
    obtain ⟨wo, hwo⟩ : ∃ W, W = wr.drewN nq := ⟨_, rfl⟩
    have HTO := zH (show Step w wo by rw [hwo]; exact HT.out.trans (Step.drewN _ _))
    have HE2 := zH (show wo.cell? ⟨bv, ov + k * 2 + 1, none⟩ = some (.slice p2 f.hours.length k2) by rw [hwo]; exact (Step.drewN wr nq).kc e2)
    have HSO := zH (show SL (fun _ => False) wo (.slice p2 f.hours.length k2) f.hours by rw [hwo]; exact SL.go HSL.out (Step.drewN _ _))
    rw [← hwo]
    have hmf := HSO.out.len
    clear hwo e2 HSL HT
    go_loopw [5] (fun i wr => ∃ m : Nat, m ≤ f.hours.length ∧ i = .int .i64 m ∧ (∀ j (hj : j < m) (hl : j < f.hours.length), rangeB f.hours[j] = true) ∧ Step wo wr) (fun i _ => f.hours.length - (intOf i).toNat)
    case atStart => exact ⟨0, Nat.zero_le _, rfl, fun j hj => absurd hj (by omega), Step.refl _⟩
    case round =>
     obtain ⟨m, hmk, rfl, hall, hT⟩ := hrel
     have HB := zH hall
     have HTI := zH hT
     have HT := zH (HTO.out.trans hT)
     clear hall hT
     have e2 := HTI.out.kc HE2.out
     by_cases hlm : m < f.hours.length
     ·obtain ⟨q1, d1, bb, oo, he, _, _, hpp, hcc, _⟩ := (SL.go HSO.out HTI.out).rngs
      injection he with he1 _ he3
      subst he1 he3
      obtain rfl := hpp (by omega)
      obtain ⟨r1, r2⟩ := hcc m hlm
      have hixm : (0 : Int) ≤ (m : Int) ∧ (m : Int) < (f.hours.length : Int) := by omega
      have HNO := zH (fun (h : rangeB f.hours[m] = false) => show evenFB l f = false by
       rw [HEV2.out, List.all_eq_false]
       exact ⟨_, List.getElem_mem hlm, by rw [h]; decide⟩)
      obtain ⟨r, hr⟩ : ∃ r, r = f.hours[m] := ⟨_, rfl⟩
      rw [← hr] at r1 r2 HNO
      have HRR := zH hr
      clear hr hpp hcc
      go_wp2_with fail
      refine (Strong_any r _).mono ?_
      rintro e wz ⟨rfl, hSz⟩
      have HTZ := zH (HTI.out.trans hSz)
      have HTZ2 := zH (HT.out.trans hSz)
      clear hSz r1 r2 e2
      cases q : rangeB r with
      | true =>
       have HQ := zH q
       clear q
       go_wp2
       go_roundw
       case rel => exact ⟨m + 1, by omega, by go_num, fun j hj hl => if e : j = m then by subst e; rw [← HRR.out]; exact HQ.out else HB.out j (by omega) hl, HTZ.out⟩
       case measure => simp [intOf]; omega
      | false =>
       have HR := zH (HEB.out (HNO.out q))
       clear q
       go_wp2
       go_ret
       exact ⟨by rw [HR.out]; rfl, HTZ2.out⟩
     have HEV3 := zH (show evenFB l f = true by
      rw [HEV2.out, List.all_eq_true]
      intro r hr
      obtain ⟨j, hj, rfl⟩ := List.getElem_of_mem hr
      exact HB.out j (by omega) hj)
     go_wp2
     go_roundw
     case rel => exact ⟨k + 1, by omega, by go_num, fun j hj hl => if e : j = k then by subst e; rw [← HFK.out]; exact HEV3.out else HA.out j (by omega) hl, HT.out⟩
     case measure => simp [intOf]; omega
   have HEW := zH (show l.all (evenFB l) = true by
    rw [List.all_eq_true]
    intro f hf
    obtain ⟨j, hj, rfl⟩ := List.getElem_of_mem hf
    exact HA.out j (by omega) hj)
   have hke : k = l.length := by omega
   subst hke
   clear HA
   go_upto_region 19 with (fail)
   clear hk hlt
   go_loopw [6] (fun i wr => ∃ k : Nat, k ≤ l.length ∧ i = .int .i64 k ∧ (∀ j (hj : j < k) (hl : j < l.length), nameB l[j].name = true) ∧ Step w wr) (fun i _ => l.length - (intOf i).toNat)
   case atStart => exact ⟨0, Nat.zero_le _, rfl, fun j hj => absurd hj (by omega), HT.out⟩
   case round =>
    obtain ⟨k, hk, rfl, hall, hT⟩ := hrel
    have HA := zH hall
    have HT := zH hT
    clear hall hT
    by_cases hlt : k < l.length
    ·skip
     have fc := HC.out.2 k (by omega)
     obtain ⟨c1, e1, e2, e3, e4⟩ := fc
     obtain ⟨p2, k2, rfl⟩ := e3.form
     have e1 := HT.out.kc e1
     have e2 := HT.out.kc e2
     have hix : (0 : Int) ≤ (k : Int) ∧ (k : Int) < (l.length : Int) := by omega
     have HNB := zH (fun (h : nameB l[k].name = false) => show forecastsC l = 5 by
      unfold forecastsC
      rw [if_pos HFW.out, if_pos HEW.out, if_neg]
      intro hh
      rw [List.all_eq_true] at hh
      rw [hh _ (List.getElem_mem hlt)] at h
      exact absurd h (by decide))
     obtain ⟨f, hf⟩ : ∃ f, f = l[k] := ⟨_, rfl⟩
     rw [← hf] at e1 e4 HNB
     have HFK := zH hf
     have HE4 := zH e4
     clear hf e2 e3 e4
     go_wp2_with fail
     refine (Name_any f.name _ HE4.out).mono ?_
     rintro e wz ⟨rfl, hSz⟩
     have HTZ := zH (HT.out.trans hSz)
     clear hSz e1
     cases q : nameB f.name with
     | true =>
      have HQ := zH q
      clear q
      go_wp2
      go_roundw
      case rel => exact ⟨k + 1, by omega, by go_num, fun j hj hl => if e : j = k then by subst e; rw [← HFK.out]; exact HQ.out else HA.out j (by omega) hl, HTZ.out⟩
      case measure => simp [intOf]; omega
     | false =>
      have HR := zH (HNB.out q)
      clear q
      go_wp2
      go_ret
      exact ⟨by rw [HR.out]; rfl, HTZ.out⟩
    have HNW := zH (show l.all (fun f => nameB f.name) = true by
     rw [List.all_eq_true]
     intro f hf
     obtain ⟨j, hj, rfl⟩ := List.getElem_of_mem hf
     exact HA.out j (by omega) hj)
    have HFC := zH (show forecastsC l = if (namesOf l).Nodup then 0 else 6 by
     unfold forecastsC
     rw [if_pos HFW.out, if_pos HEW.out, if_pos HNW.out])
    have hke : k = l.length := by omega
    subst hke
    clear HA
    go_upto_region 24 with (fail)
    clear hk hlt
    go_loopw [7] (fun i wr => ∃ k : Nat, k ≤ l.length ∧ i = .int .i64 k ∧ (∀ i j (hi : i < k) (hl : i < l.length) (hj : j < i), l[j].name ≠ l[i].name) ∧ Step w wr) (fun i _ => l.length - (intOf i).toNat)
    case atStart => exact ⟨0, Nat.zero_le _, rfl, fun i j hi => absurd hi (by omega), HT.out⟩
    case round =>
     obtain ⟨k, hk, rfl, hall, hT⟩ := hrel
     have HA := zH hall
     have HT := zH hT
     clear hall hT
     by_cases hlt : k < l.length
     ·go_upto_region 27 with (fail)
      obtain ⟨wo, hwo⟩ : ∃ W, W = wr := ⟨_, rfl⟩
      subst hwo
      go_loopw [8] (fun i wr => ∃ m : Nat, m ≤ k ∧ i = .int .i64 m ∧ (∀ j (hj : j < m) (hl : j < l.length), l[j].name ≠ l[k].name) ∧ Step w wr) (fun i _ => k - (intOf i).toNat)
      case atStart => exact ⟨0, Nat.zero_le _, rfl, fun j hj => absurd hj (by omega), HT.out⟩
      case round =>
       obtain ⟨m, hmk, rfl, hall, hT⟩ := hrel
       have HB := zH hall
       have HT := zH hT
       clear hall hT
       by_cases hlm : m < k
       ·have hdm : decide ((m : Int) < (k : Int)) = true := decide_eq_true (by omega)
        have hdmn : decide (m < k) = true := decide_eq_true hlm
        obtain ⟨c1, e1, _, _, _⟩ := HC.out.2 m (by omega)
        obtain ⟨c2, f1, _, _, _⟩ := HC.out.2 k (by omega)
        have e1 := HT.out.kc e1
        have f1 := HT.out.kc f1
        have hix : (0 : Int) ≤ (m : Int) ∧ (m : Int) < (l.length : Int) := by omega
        have hixk : (0 : Int) ≤ (k : Int) ∧ (k : Int) < (l.length : Int) := by omega
        have HSAME := zH (fun (h : l[m].name = l[k].name) => show forecastsC l = 6 by
         rw [HFC.out, if_neg]
         intro hn
         exact nodup_names.1 hn k m hlt hlm h)
        by_cases q : l[m].name = l[k].name
        ·have HR := zH (HSAME.out q)
         have hq : (l[m].name.toList == l[k].name.toList) = true := (Lib.bytes_beq_iff _ _).2 q
         obtain ⟨a, ha⟩ : ∃ a, a = l[m].name := ⟨_, rfl⟩
         obtain ⟨b, hb⟩ : ∃ b, b = l[k].name := ⟨_, rfl⟩
         rw [← ha] at e1 hq
         rw [← hb] at f1 hq
         clear q ha hb HSAME
         go_upto_region 29 with (fail)
         go_quiet (fail)
         go_wp2
         go_ret
         exact ⟨by rw [HR.out]; rfl, HT.out.trans (Step.drewN _ _)⟩
        ·have HQ := zH q
         have hq : (l[m].name.toList == l[k].name.toList) = false := (Lib.bytes_beq_false_iff _ _).2 q
         obtain ⟨a, ha⟩ : ∃ a, a = l[m].name := ⟨_, rfl⟩
         obtain ⟨b, hb⟩ : ∃ b, b = l[k].name := ⟨_, rfl⟩
         rw [← ha] at e1 hq
         rw [← hb] at f1 hq
         clear q ha hb HSAME
         go_upto_region 29 with (fail)
         go_quiet (fail)
         go_wp2
         go_roundw
         case rel => exact ⟨m + 1, by omega, by go_num, fun j hj hl => if e : j = m then by subst e; exact HQ.out else HB.out j (by omega) hl, HT.out.trans (Step.drewN _ _)⟩
         case measure => simp [intOf]; omega
       have hdm : decide ((m : Int) < (k : Int)) = false := decide_eq_false (by omega)
       have hdmn : decide (m < k) = false := decide_eq_false hlm
       have hme : m = k := by omega
       subst hme
       go_wp2
       go_roundw
       case rel => exact ⟨m + 1, by omega, by go_num, fun i j hi hl hj => if e : i = m then by subst e; exact HB.out j hj (by omega) else HA.out i j (by omega) hl hj, HT.out⟩
       case measure => simp [intOf]; omega
     have HR := zH (show forecastsC l = 0 by
      rw [HFC.out, if_pos]
      exact nodup_names.2 fun i j hi hj => HA.out i j (by omega) hi hj)
     go_wp2
     go_ret
     exact ⟨by rw [HR.out]; rfl, HT.out⟩
theorem ReadingsFault_any (S : Nat → Prop) (l : List Fc) (rs : List Rdg) (v u : Value) (w : World) (hv : SL S w v l) (hu : SL S w u rs) (h0 : 0 < l.length) (hn : hoursN l ≤ 48) : Calls Try.prog 21 #[v, u] w fun e w' => e = .returned (.int .i64 (readingsC l rs)) ∧ Step w w' := by
 have hm := hu.len
 obtain ⟨pv, cv, bv, ov, rfl, _, _, hp, hc, _⟩ := (SL.go hv (Step.refl _)).fcs
 obtain rfl := hp h0
 obtain ⟨c0, _, x2, x3, _⟩ := hc 0 h0
 obtain ⟨p0, k0, rfl⟩ := x3.form
 have hhn : hoursN l = l[0].hours.length := by
  cases l with
  | nil => simp at h0
  | cons a l => rfl
 rw [← hhn, Nat.zero_mul, Nat.add_zero] at x2
 have HU := zH (SL.go hu (Step.refl _))
 obtain ⟨pu, cu, bu, ou, rfl, _, _, hpu, hcu, _⟩ := (SL.go hu (Step.refl _)).rdgs
 have HCU := zH (And.intro hpu hcu)
 have HX2 := zH x2
 have HT := zH (Step.refl w)
 obtain ⟨n, hnn⟩ : ∃ n, n = hoursN l := ⟨_, rfl⟩
 rw [← hnn] at HX2 hn
 have HNN := zH hnn
 have hwn : IntKind.i64.wrap ((n : Int) - 1) = (n : Int) - 1 := by rw [IntKind.wrap_i64]; omega
 have hix0 : (0 : Int) < (l.length : Int) := by omega
 clear hv hu hp hc x2 x3 hhn hpu hcu hnn hn
 by_cases a1 : rs.length ≤ 60
 rotate_left
 ·have d1 : decide (60 < (rs.length : Int)) = true := decide_eq_true (by omega)
  have HR := zH (show readingsC l rs = 3 by unfold readingsC; rw [if_neg a1])
  clear a1
  go_enter Try.func21, Try.ntmps21
  go_wp2
  go_ret
  exact ⟨by rw [HR.out]; rfl, HT.out⟩
 have d1 : decide (60 < (rs.length : Int)) = false := decide_eq_false (by omega)
 have HA1 := zH a1
 clear a1
 go_enter Try.func21, Try.ntmps21
 go_upto_region 4 with (fail)
 clear d1
 go_loopw [5] (fun i wr => ∃ k : Nat, k ≤ rs.length ∧ i = .int .i64 k ∧ (∀ j (hj : j < k) (hl : j < rs.length), withinB rs[j].hour 0 ((hoursN l : Int) - 1) = true) ∧ Step w wr) (fun i _ => rs.length - (intOf i).toNat)
 case atStart => exact ⟨0, Nat.zero_le _, rfl, fun j hj => absurd hj (by omega), HT.out⟩
 case round =>
  obtain ⟨k, hk, rfl, hall, hT⟩ := hrel
  have HA := zH hall
  have HTR := zH hT
  clear hall hT HT
  by_cases hlt : k < rs.length
  ·obtain rfl := HCU.out.1 (by omega)
   obtain ⟨e1, e2, e3⟩ := HCU.out.2 k hlt
   have hix : (0 : Int) ≤ (k : Int) ∧ (k : Int) < (rs.length : Int) := by omega
   have HNO := zH (fun (h : withinB rs[k].hour 0 ((hoursN l : Int) - 1) = false) => show readingsC l rs = 2 by
    unfold readingsC
    rw [if_pos HA1.out, if_neg]
    intro hh
    rw [List.all_eq_true] at hh
    rw [hh _ (List.getElem_mem hlt)] at h
    exact absurd h (by decide))
   obtain ⟨x, hx⟩ : ∃ x, x = rs[k] := ⟨_, rfl⟩
   rw [← hx] at e1 HNO
   rw [← HNN.out] at HNO
   have HXX := zH hx
   have HE1 := zH e1
   clear hx e1 e2 e3
   go_upto_region 6 with (fail)
   obtain ⟨wo, hwo⟩ : ∃ W, W = wr := ⟨_, rfl⟩
   subst hwo
   have HT := zH (Step.refl wo)
   refine wp_region_seq (kdOf [11] []) [0, 0, 3, 7, 15, 0, 32, 96, 224, 480, 992, 2047, 4095] [0, 1, 2, 3, 4, 5, 6, 7, 8, 9, 10, 11, 12] [] (by kernel_rfl) (by kernel_rfl) (fun i T z hi hk => by simp [kdOf] at hk <;> (try (split at hk <;> cases hk))) ?_
   intro Wx hWx
   have HTx := zH (HT.out.trans hWx)
   clear hWx HT
   have HT := HTx
   clear HTx
   have e1 := (HTR.out.trans HT.out).kc HE1.out
   have x2 := (HTR.out.trans HT.out).kc HX2.out
   repeat ((first | (refine run_off rfl rfl (by rfl) ?_) | (refine run_chain_off rfl rfl (by rfl) (K0_mono _) ?_) | ((refine run_want rfl rfl (by rfl) ⟨?_, fun W hW => ?_, ?_⟩; rotate_left; (· (have d0 := hW.kc e1; have d1 := hW.kc x2; go_simp; (try with_reducible rfl)))))); (try simp only [Act.put, zA, zB, zC]))
   clear e1 x2
   cases q : withinB x.hour 0 ((n : Int) - 1) with
   | true =>
    have HQ := zH q
    refine run_chain rfl rfl (by rfl) (fun Wi hWi K' hK => ?_)
    have HTi := zH (HT.out.trans hWi)
    clear hWi HT
    go_simp
    refine (bigtopref01.In_any _ _ _ _).mono ?_
    rintro e wn ⟨rfl, rfl⟩
    rw [q]
    have HT := HTi
    clear HTi
    refine hK _ _ (StepX.refl _ _) ?_
    (try simp only [Act.put, zA, zB, zC])
    clear q
    repeat ((first | (refine run_off rfl rfl (by rfl) ?_) | (refine run_chain_off rfl rfl (by rfl) (K0_mono _) ?_) | ((refine run_want rfl rfl (by rfl) ⟨?_, fun W hW => ?_, ?_⟩; rotate_left; (· (skip; go_simp; (try with_reducible rfl)))))); (try simp only [Act.put, zA, zB, zC]))
    refine run_end (L := []) rfl (fun W6 hW6 => ?_)
    have HT6 := zH (HT.out.trans hW6)
    clear hW6 HT
    have HT := HT6
    clear HT6
    go_wp2
    go_roundw
    case rel => exact ⟨k + 1, by omega, by go_num, fun j hj hl => if e : j = k then by subst e; rw [← HXX.out, ← HNN.out]; exact HQ.out else HA.out j (by omega) hl, HTR.out.trans HT.out⟩
    case measure => simp [intOf]; omega
   | false =>
    have HR := zH (HNO.out q)
    refine run_chain rfl rfl (by rfl) (fun Wi hWi K' hK => ?_)
    have HTi := zH (HT.out.trans hWi)
    clear hWi HT
    go_simp
    refine (bigtopref01.In_any _ _ _ _).mono ?_
    rintro e wn ⟨rfl, rfl⟩
    rw [q]
    have HT := HTi
    clear HTi
    refine hK _ _ (StepX.refl _ _) ?_
    (try simp only [Act.put, zA, zB, zC])
    clear q
    repeat ((first | (refine run_off rfl rfl (by rfl) ?_) | (refine run_chain_off rfl rfl (by rfl) (K0_mono _) ?_) | ((refine run_want rfl rfl (by rfl) ⟨?_, fun W hW => ?_, ?_⟩; rotate_left; (· (skip; go_simp; (try with_reducible rfl)))))); (try simp only [Act.put, zA, zB, zC]))
    refine run_end (L := []) rfl (fun W6 hW6 => ?_)
    have HT6 := zH (HT.out.trans hW6)
    clear hW6 HT
    have HT := HT6
    clear HT6
    go_wp2
    go_ret
    exact ⟨by rw [HR.out]; rfl, HTR.out.trans HT.out⟩
  have HHW := zH (show rs.all (fun x => withinB x.hour 0 ((hoursN l : Int) - 1)) = true by
   rw [List.all_eq_true]
   intro f hf
   obtain ⟨j, hj, rfl⟩ := List.getElem_of_mem hf
   exact HA.out j (by omega) hj)
  have hke : k = rs.length := by omega
  subst hke
  clear HA
  go_upto_region 9 with (fail)
  clear hk hlt hwn hix0
  go_loopw [6] (fun i wr => ∃ k : Nat, k ≤ rs.length ∧ i = .int .i64 k ∧ (∀ j (hj : j < k) (hl : j < rs.length), rangeB ⟨rs[j].lo, rs[j].hi⟩ = true) ∧ Step w wr) (fun i _ => rs.length - (intOf i).toNat)
  case atStart => exact ⟨0, Nat.zero_le _, rfl, fun j hj => absurd hj (by omega), HTR.out⟩
  case round =>
   obtain ⟨k, hk, rfl, hall, hT⟩ := hrel
   have HA := zH hall
   have HT := zH hT
   clear hall hT
   by_cases hlt : k < rs.length
   ·obtain rfl := HCU.out.1 (by omega)
    obtain ⟨e1, e2, e3⟩ := HCU.out.2 k hlt
    have e2 := HT.out.kc e2
    have e3 := HT.out.kc e3
    have hix : (0 : Int) ≤ (k : Int) ∧ (k : Int) < (rs.length : Int) := by omega
    have HNO := zH (fun (h : rangeB ⟨rs[k].lo, rs[k].hi⟩ = false) => show readingsC l rs = 1 by
     unfold readingsC
     rw [if_pos HA1.out, if_pos HHW.out, if_neg]
     intro hh
     rw [List.all_eq_true] at hh
     rw [hh _ (List.getElem_mem hlt)] at h
     exact absurd h (by decide))
    obtain ⟨x, hx⟩ : ∃ x, x = rs[k] := ⟨_, rfl⟩
    rw [← hx] at e2 e3 HNO
    have HXX := zH hx
    clear hx e1
    go_wp2_with fail
    refine (Strong_any ⟨x.lo, x.hi⟩ _).mono ?_
    rintro e wz ⟨rfl, hSz⟩
    have HTZ := zH (HT.out.trans hSz)
    clear hSz e2 e3
    cases q : rangeB ⟨x.lo, x.hi⟩ with
    | true =>
     have HQ := zH q
     clear q
     go_wp2
     go_roundw
     case rel => exact ⟨k + 1, by omega, by go_num, fun j hj hl => if e : j = k then by subst e; rw [← HXX.out]; exact HQ.out else HA.out j (by omega) hl, HTZ.out⟩
     case measure => simp [intOf]; omega
    | false =>
     have HR := zH (HNO.out q)
     clear q
     go_wp2
     go_ret
     exact ⟨by rw [HR.out]; rfl, HTZ.out⟩
   have HR := zH (show readingsC l rs = 0 by
    unfold readingsC
    rw [if_pos HA1.out, if_pos HHW.out, if_pos]
    rw [List.all_eq_true]
    intro f hf
    obtain ⟨j, hj, rfl⟩ := List.getElem_of_mem hf
    exact HA.out j (by omega) hj)
   go_wp2
   go_ret
   exact ⟨by rw [HR.out]; rfl, HT.out⟩
end Go.Proofs.Ytfhmdpicoccnfaa
