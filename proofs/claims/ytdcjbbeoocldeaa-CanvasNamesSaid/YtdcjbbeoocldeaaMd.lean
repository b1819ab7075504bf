/- A head with its forces, ways, help, and whether a push is too strong, are walked. -/
import Derived.Test.YtdcjbbeoocldeaaMc
import Derived.Test.YtdcjbbeoocldeaaRows
import Derived.ArgAppend
/- Walks: the forces of a head: the program's way. -/
namespace Go.Proofs.Ytdcjbbeoocldeaa
set_option linter.unusedSimpArgs false
set_option linter.unusedVariables false
open Go.RowKit Go.BT

theorem _root_.Go.BT.OwnL.slb {α : Type} [Rep α] {S : Nat → Prop} {base : Nat} {e : TypeId} {w : World} {v : Value} {l : List α} (h : OwnL S base e w v l) (hs : ∀ g, v.ownBlock = some g → ¬ S g) : SL S w v l := by
  have hm : l.length ≤ 9223372036854775807 := by obtain ⟨_, _, _, hm, _⟩ := h.form; simp only [maxLen] at hm; omega
  have hlt := h.lt
  obtain ⟨xs, h', hr⟩ := h
  have h := h'.2
  rcases h with ⟨rfl, h0⟩ | ⟨g, cap, cur, rfl, hb, hg, hle, hcap, hsz, htk⟩
  · have : l = [] := List.eq_nil_of_length_eq_zero h0
    subst this; exact SL.nil S w
  · refine ⟨_, cap, g, 0, rfl, hle, hm, fun _ => rfl, fun i hi => ⟨(hlt g rfl).2, hs g rfl, _, Rep.weak (fun j _ hj => .inl hj) (hr i hi), fun j u hj => ?_⟩⟩
    have hj' : (xs.drop (i * Rep.k α))[j]? = some u := by
      rw [List.getElem?_take] at hj; split at hj
      · exact hj
      · cases hj
    rw [List.getElem?_drop] at hj'
    have := h'.cells (g := g) (by simp [Value.ownBlock]) (i * Rep.k α + j) u hj'
    rw [Addr.add_lit] at this
    simpa using this
/-- What wrote into new blocks, and into C. -/
theorem _root_.Go.BT.StepX.over {C X : Nat → Prop} {w0 w w' : World} (h : StepX C w0 w) (k : StepX X w w') (hX : ∀ j, X j → w0.heap.size ≤ j ∨ C j) : StepX C w0 w' :=
  ⟨k.os.trans h.os, k.tape.trans h.tape, k.output.trans h.output, Nat.le_trans h.size k.size, fun j hj hn => (k.block j (Nat.lt_of_lt_of_le hj h.size) (fun hx => (hX j hx).elim (fun h => by omega) hn)).trans (h.block j hj hn)⟩
/-- A head with the forces of its guys, as a value. -/
def MVS (S : Nat → Prop) (w : World) (v : Value) (area : Int) (F : List Vec) : Prop := ∃ (b : Int) (p2 : Option Addr) (n2 k2 : Nat) (p3 : Option Addr) (k3 : Nat), v = .agg #[.int .i64 area, .int .i64 b, .slice p2 n2 k2, .slice p3 F.length k3] ∧ SL S w (.slice p3 F.length k3) F
abbrev MV (w : World) (v : Value) (area : Int) (F : List Vec) : Prop := MVS (fun _ => False) w v area F
theorem MVS.triv {S : Nat → Prop} {w : World} {v : Value} {area : Int} {F : List Vec} (h : MVS S w v area F) : MV w v area F := by
  obtain ⟨b, p2, n2, k2, p3, k3, e, h⟩ := h
  exact ⟨b, p2, n2, k2, p3, k3, e, h.weak fun _ _ h => h.elim⟩
theorem MVS.step {w w' : World} {v : Value} {area : Int} {F : List Vec} (h : MV w v area F) (hs : Step w w') : MV w' v area F := by
  obtain ⟨b, p2, n2, k2, p3, k3, e, h⟩ := h
  exact ⟨b, p2, n2, k2, p3, k3, e, h.keep (.of_step hs)⟩
theorem siMeas : SI Try.prog 117 4 := ⟨⟨_, Try.underlying117⟩, by kernel_rfl⟩
theorem cells4 {w : World} {g : Nat} {c0 c1 c2 c3 : Value} {T : TypeId} (h : Bx w g [c0, c1, c2, c3] T) : w.cell? ⟨g, 0, none⟩ = some c0 ∧ w.cell? ⟨g, 1, none⟩ = some c1 ∧ w.cell? ⟨g, 2, none⟩ = some c2 ∧ w.cell? ⟨g, 3, none⟩ = some c3 := ⟨h.cell 0, h.cell 1, h.cell 2, h.cell 3⟩
set_option maxRecDepth 100000 in
set_option maxHeartbeats 4000000 in
theorem measure_any (S : Nat → Prop) (l : List Tst) (h : Head) (v u : Value) (w : World) (hv : SL S w v l) (hu : AV S w u h) (hl : l.all tstB = true) (hg : h.guys.all guyB = true) (hn : h.guys.length ≤ 1000) :
    Calls Try.prog 88 #[u, v] w fun e w' => ∃ v', e = .returned v' ∧ MVS (Old w) w' v' h.area (forcesL l h.guys) ∧ Step w w' := by
  obtain ⟨c2, rfl, h2⟩ := hu.head
  obtain ⟨pg, cg, bg, og, rfl, _, hm, hp, hc, hbg⟩ := h2.guys
  obtain ⟨W0, hW0⟩ : ∃ W, W = ((w.alloc (.cells #[.int .i64 h.area, .int .i64 h.bears, .slice pg h.guys.length cg] 89)).alloc (.cells #[.int .i64 0, .int .i64 0, .slice none 0 0, .slice none 0 0] 117)).alloc (.cells #[.int .i64 h.area, .int .i64 h.bears, .slice pg h.guys.length cg, .slice none 0 0] 117) := ⟨_, rfl⟩
  have hb1 : Bx W0 w.heap.size [.int .i64 h.area, .int .i64 h.bears, .slice pg h.guys.length cg] 89 := by subst hW0; exact ((Bx.new w [_, _, _] _).alloc _).alloc _
  have hb2 : Bx W0 (w.heap.size + 1) [.int .i64 0, .int .i64 0, .slice none 0 0, .slice none 0 0] 117 := by subst hW0; exact (Bx.new' _ [_, _, _, _] _ _ (by simp)).alloc _
  have hb3 : Bx W0 (w.heap.size + 2) [.int .i64 h.area, .int .i64 h.bears, .slice pg h.guys.length cg, .slice none 0 0] 117 := by subst hW0; exact Bx.new' _ [_, _, _, _] _ _ (by simp)
  have hS : Step w W0 := by subst hW0; exact (by repeat (first | (with_reducible assumption) | (with_reducible exact Step.refl _) | (with_reducible apply Step.s_alloc) | (with_reducible apply Step.s_drew) | (with_reducible apply Step.s_drewN) | (with_reducible refine Step.trans ?_ (by with_reducible assumption))))
  have hz : W0.heap.size = w.heap.size + 3 := by subst hW0; simp
  have hv0 := hv.weak (T := fun j => w.heap.size ≤ j) (fun j h1 h2 => by omega)
  have hbl : 0 < h.guys.length → bg < w.heap.size := fun h0 => (hbg h0).1
  have HV := Lib.hid (hv0.keep (.of_step hS))
  obtain ⟨pv, cv, rfl⟩ := hv.form
  have HB1 := Lib.hid hb1
  have HB2 := Lib.hid hb2
  have HB3 := Lib.hid hb3
  have HS := Lib.hid hS
  have HZ := Lib.hid hz
  have HW := Lib.hid hW0
  have HL := Lib.hid (And.intro hl hg)
  have HP := Lib.hid (And.intro hp (And.intro hc hbl))
  have HKL := Lib.hid (forces_len l h.guys)
  clear hb1 hb2 hb3 hS hz hW0 hl hg hv h2 hp hc hv0 hbl hbg
  go_enter Try.func88, Try.ntmps88
  go_wp2
  rw [← HW.out]
  go_loopw [13] (fun i wr => ∃ (k : Nat) (q : Value), k ≤ h.guys.length ∧ i = .int .i64 k ∧ Bx wr (w.heap.size + 2) [.int .i64 h.area, .int .i64 h.bears, .slice pg h.guys.length cg, q] 117 ∧ OwnL (Old W0) W0.heap.size 40 wr q ((forcesL l h.guys).take k) ∧ StepX (fun j => j = w.heap.size + 2) W0 wr) (fun i _ => h.guys.length - (intOf i).toNat)
  case atStart => exact ⟨0, _, Nat.zero_le _, rfl, HB3.out, OwnL.nil _ _ _ _, StepX.refl _ _⟩
  case round =>
    obtain ⟨k, q, hk, rfl, hb3, hown, hX⟩ := hrel
    clear HB3
    have HB3 := Lib.hid hb3
    have HX := Lib.hid hX
    have HO := Lib.hid hown
    obtain ⟨LL, hLL⟩ : ∃ L, L = (forcesL l h.guys).take k := ⟨_, rfl⟩
    rw [← hLL] at hown
    obtain ⟨pu, cu, rfl, _⟩ := hown.form
    have HLL := Lib.hid hLL
    have hne : (Value.slice pu LL.length cu).ownBlock ≠ some (w.heap.size + 2) := fun e => by have := (hown.lt _ e).1; have := HZ.out; omega
    have HNE := Lib.hid hne
    clear hown hLL hb3 hX hne
    obtain ⟨m0, m1, m2, m3⟩ := cells4 HB3.out
    have z3 := HB3.out.frozen 3
    have yl := HB3.out.lt
    by_cases hlt : k < h.guys.length
    · have hbl := HP.out.2.2 (by omega)
      obtain rfl := HP.out.1 (by omega)
      obtain ⟨e1, e2, e3, e4, e5⟩ := HP.out.2.1 k hlt
      have hcell : ∀ o u, w.cell? ⟨bg, o, none⟩ = some u → wr.cell? ⟨bg, o, none⟩ = some u := fun o u hu => HX.out.keeps.cell (a := ⟨bg, o, none⟩) (by show ¬ bg = w.heap.size + 2; omega) (HS.out.keeps.cell id hu)
      have e1 := hcell _ _ e1
      have e2 := hcell _ _ e2
      have e3 := hcell _ _ e3
      have e4 := hcell _ _ e4
      have e5 := hcell _ _ e5
      have hix : (0 : Int) ≤ (k : Int) ∧ (k : Int) < (h.guys.length : Int) := by omega
      obtain ⟨g, hgk⟩ : ∃ g, g = h.guys[k] := ⟨_, rfl⟩
      have hgv := all_get HL.out.2 hlt
      rw [← hgk] at e1 e2 e3 e4 e5 hgv
      have hlk : k < (forcesL l h.guys).length := by have := HKL.out; omega
      have HFK := Lib.hid (show (forcesL l h.guys)[k] = timesV ⟨g.x, g.y⟩ (partL l g) by rw [forces_get hlk, hgk])
      have HGV := Lib.hid hgv
      have HVr := Lib.hid (HV.out.keep (HX.out.keeps.mono fun j hj hx => by show w.heap.size ≤ j; omega))
      clear hgk hgv hcell hbl
      go_upto_region 5 with (fail)
      obtain ⟨wa, hwa⟩ : ∃ W, W = wr.alloc (.cells #[.int .i64 g.x, .int .i64 g.y, .int .i64 g.down, .int .i64 g.soil, .int .i64 g.depth] 91) := ⟨_, rfl⟩
      rw [← hwa]
      have hga : Bx wa wr.heap.size [.int .i64 g.x, .int .i64 g.y, .int .i64 g.down, .int .i64 g.soil, .int .i64 g.depth] 91 := by rw [hwa]; exact Bx.new wr [_, _, _, _, _] _
      have hsa : Step wr wa := by rw [hwa]; exact Step.alloc _ _
      have HGA := Lib.hid hga
      have HSA := Lib.hid hsa
      clear hwa hga hsa e1 e2 e3 e4 e5 m0 m1 m2 m3 z3 yl
      refine wp_region_seq (kdOf [9, 10, 11] []) [0, 1, 0, 4, 0, 16, 60, 0, 0, 384, 1020, 2044, 4095, 8191, 16383] [0, 1, 2, 3, 4, 5, 6, 7, 8, 9, 10, 11] [12, 13, 14] (by kernel_rfl) (by kernel_rfl) (fun i T z hi hk => by simp [kdOf] at hk <;> (try (split at hk <;> cases hk))) ?_
      intro Wx hWx
      have HT := Lib.hid hWx
      clear hWx
      obtain ⟨g0, g1, g2, g3, g4⟩ := cells5 (HGA.out.step HT.out)
      obtain ⟨m0, m1, m2, m3⟩ := cells4 (HB3.out.step (HSA.out.trans HT.out))
      repeat (first | (refine run_off rfl rfl (by rfl) ?_; (try simp only [Act.put, List.setIfInBounds_toArray, List.set_cons_zero, List.set_cons_succ])) | (refine run_chain_off rfl rfl (by rfl) (K0_mono _) ?_; (try simp only [Act.put, List.setIfInBounds_toArray, List.set_cons_zero, List.set_cons_succ])) | ((refine run_want rfl rfl (by rfl) ⟨?_, fun W hW => ?_, ?_⟩; rotate_left; (· (have d0 := hW.keeps.cell id g0; have d1 := hW.keeps.cell id g1; have d2 := hW.keeps.cell id g2; have d3 := hW.keeps.cell id g3; have d4 := hW.keeps.cell id g4; have d5 := hW.keeps.cell id m3; go_simp; (try with_reducible rfl)))); (try simp only [Act.put, List.setIfInBounds_toArray, List.set_cons_zero, List.set_cons_succ])))
      refine run_chain rfl rfl (by rfl) (fun Wi hWi K' hK => ?_)
      have HTi := Lib.hid (HT.out.trans hWi)
      have HZW := Lib.hid HTi.out.size
      clear hWi HT
      go_simp
      refine (part_any _ l g _ _ (HVr.out.keep (.of_step (HSA.out.trans HTi.out))) HL.out.1 HGV.out).mono ?_
      rintro e wn ⟨rfl, hSn⟩
      have HT := Lib.hid (HTi.out.trans (StepX.of hSn))
      clear HTi
      refine hK _ _ (StepX.of hSn) ?_
      clear hSn
      (try simp only [Act.put, List.setIfInBounds_toArray, List.set_cons_zero, List.set_cons_succ])
      clear g0 g1 g2 g3 g4 m0 m1 m2 m3
      obtain ⟨p, hp⟩ : ∃ p, p = partL l g := ⟨_, rfl⟩
      have hw := force_wrap HL.out.1 HGV.out
      rw [← hp] at hw HFK ⊢
      clear hp
      obtain ⟨g0, g1, g2, g3, g4⟩ := cells5 (HGA.out.step HT.out)
      obtain ⟨m0, m1, m2, m3⟩ := cells4 (HB3.out.step (HSA.out.trans HT.out))
      repeat (first | (refine run_off rfl rfl (by rfl) ?_; (try simp only [Act.put, List.setIfInBounds_toArray, List.set_cons_zero, List.set_cons_succ])) | (refine run_chain_off rfl rfl (by rfl) (K0_mono _) ?_; (try simp only [Act.put, List.setIfInBounds_toArray, List.set_cons_zero, List.set_cons_succ])) | ((refine run_want rfl rfl (by rfl) ⟨?_, fun W hW => ?_, ?_⟩; rotate_left; (· (have d0 := hW.keeps.cell id g0; have d1 := hW.keeps.cell id g1; have d2 := hW.keeps.cell id g2; have d3 := hW.keeps.cell id g3; have d4 := hW.keeps.cell id g4; have d5 := hW.keeps.cell id m3; go_simp; (try with_reducible rfl)))); (try simp only [Act.put, List.setIfInBounds_toArray, List.set_cons_zero, List.set_cons_succ])))
      refine run_chain rfl rfl (by rfl) (fun Wi hWi K' hK => ?_)
      have HTi := Lib.hid (HT.out.trans hWi)
      have HZW := Lib.hid HTi.out.size
      clear hWi HT
      go_simp
      refine (times_any ⟨g.x, g.y⟩ p _ hw.1 hw.2).mono ?_
      rintro e wn ⟨rfl, hSn⟩
      have HT := Lib.hid (HTi.out.trans (StepX.of hSn))
      clear HTi
      refine hK _ _ (StepX.of hSn) ?_
      clear hSn
      (try simp only [Act.put, List.setIfInBounds_toArray, List.set_cons_zero, List.set_cons_succ])
      clear g0 g1 g2 g3 g4 m0 m1 m2 m3
      repeat (first | (refine run_off rfl rfl (by rfl) ?_; (try simp only [Act.put, List.setIfInBounds_toArray, List.set_cons_zero, List.set_cons_succ])) | (refine run_chain_off rfl rfl (by rfl) (K0_mono _) ?_; (try simp only [Act.put, List.setIfInBounds_toArray, List.set_cons_zero, List.set_cons_succ])) | ((refine run_want rfl rfl (by rfl) ⟨?_, fun W hW => ?_, ?_⟩; rotate_left; (· (skip; go_simp; (try with_reducible rfl)))); (try simp only [Act.put, List.setIfInBounds_toArray, List.set_cons_zero, List.set_cons_succ])))
      refine run_chain rfl rfl (by rfl) (fun W1 hW1 K' hK' => ?_)
      go_simp
      refine hK' _ _ (.of (Step.alloc _ _)) ?_
      (try simp only [Act.put, List.setIfInBounds_toArray, List.set_cons_zero, List.set_cons_succ])
      refine run_end (L := [_, _, _]) rfl (fun W2 hW2 => ?_)
      have hs1 := (HSA.out.trans HT.out).trans hW1
      have hst : Step wr W2 := (hs1.trans (Step.alloc _ (.cells #[.int .i64 (timesV ⟨g.x, g.y⟩ p).x, .int .i64 (timesV ⟨g.x, g.y⟩ p).y] 40))).trans hW2
      have hown2 := HO.out.step hst
      have hu := (SLe.one (S := avoid (Old W0) (.slice pu LL.length cu)) (w := W1) (cs := [.int .i64 (timesV ⟨g.x, g.y⟩ p).x, .int .i64 (timesV ⟨g.x, g.y⟩ p).y]) (x := (forcesL l h.guys)[k]) 40 (by rw [HFK.out]; rfl)).step hW2
      have hsz : W0.heap.size ≤ W2.heap.size := Nat.le_trans HX.out.size hst.size
      have b3 := HB3.out.step hst
      have HX2 := Lib.hid (HX.out.trans (StepX.of hst))
      clear hW1 hW2 hK' hs1 hst hw
      go_wp2_with (at_builtin; refine wpl_append1 (W0 := W2) (l := (forcesL l h.guys)) (k := k) eiVecs rfl _ _ rfl rfl rfl hown2 hlk (by have := HKL.out; omega) (by decide) hu (Below.refl _ _) hsz ?_)
      intro p' c' w3 hown3 _ hg
      have b4 := b3.keep (S := fun j => (Value.slice pu LL.length cu).ownBlock = some j) (.grown hg fun j hj _ => hj) HNE.out
      obtain ⟨m0, m1, m2, m3⟩ := cells4 b4
      have z3 := b4.frozen 3
      have yl := b4.lt
      have hX3 : StepX (fun j => j = w.heap.size + 2) W0 w3 := HX2.out.over (X := fun j => (Value.slice pu LL.length cu).ownBlock = some j) (.grown hg fun j hj _ => hj) fun j hj => .inl (HO.out.lt j hj).1
      have hn3 : (Value.slice p' (k + 1) c').ownBlock ≠ some (w.heap.size + 2) := fun e => by have := (hown3.lt _ e).1; have := HZ.out; omega
      have H3 := Lib.hid (And.intro hown3 (And.intro b4 (And.intro hX3 hn3)))
      clear hown2 hu hown3 hg b3 b4 hX3 hn3 hsz
      go_wp2
      go_roundw
      case rel => exact ⟨k + 1, _, by omega, by go_num, H3.out.2.1.setCell 3 _, H3.out.1.wrote (.setCell _ _ _ _) (show w.heap.size + 2 < W0.heap.size by have := HZ.out; omega) H3.out.2.2.2, H3.out.2.2.1.setCell ⟨w.heap.size + 2, 3, none⟩ _ rfl⟩
      case measure => simp [intOf]; omega
    · have HN := Lib.hid (show LL = forcesL l h.guys by rw [HLL.out, List.take_of_length_le (by have := HKL.out; omega)])
      obtain ⟨a0, a1, a2, a3⟩ := cells4 (HB2.out.keep HX.out.keeps (show ¬ w.heap.size + 1 = w.heap.size + 2 by omega))
      have y0 := (HB2.out.keep HX.out.keeps (show ¬ w.heap.size + 1 = w.heap.size + 2 by omega)).frozen 0
      have y1 := (HB2.out.keep HX.out.keeps (show ¬ w.heap.size + 1 = w.heap.size + 2 by omega)).frozen 1
      have y2 := (HB2.out.keep HX.out.keeps (show ¬ w.heap.size + 1 = w.heap.size + 2 by omega)).frozen 2
      have y3 := (HB2.out.keep HX.out.keeps (show ¬ w.heap.size + 1 = w.heap.size + 2 by omega)).frozen 3
      go_wp2
      have b2 := HB2.out.keep HX.out.keeps (show ¬ w.heap.size + 1 = w.heap.size + 2 by omega)
      have b5 := set4 b2 (.int .i64 h.area) (.int .i64 h.bears) (.slice pg h.guys.length cg) (.slice pu LL.length cu)
      have hx5 : Step w ((((wr.setCell ⟨w.heap.size + 1, 0, none⟩ (.int .i64 h.area)).setCell ⟨w.heap.size + 1, 1, none⟩ (.int .i64 h.bears)).setCell ⟨w.heap.size + 1, 2, none⟩ (.slice pg h.guys.length cg)).setCell ⟨w.heap.size + 1, 3, none⟩ (.slice pu LL.length cu)) :=
        StepX.fresh (StepX.fresh HS.out HX.out (fun j hj => by omega)) b5.2 (fun j hj => by omega)
      have hsl := HO.out.slb fun j hj hs => by have := (HO.out.lt j hj).1; unfold Old at hs; omega
      have hl4 := HLL.out
      rw [HN.out] at hl4
      rw [← HLL.out, HN.out] at hsl
      refine ret_struct (k := 4) rfl siMeas rfl b5.1 rfl rfl ⟨_, rfl, ⟨h.bears, pg, h.guys.length, cg, pu, cu, by rw [HN.out], ?_⟩, hx5⟩
      have hk5 := (hsl.weak (T := fun j => Old w j ∨ j = w.heap.size + 1) (fun j _ hj => by have := HZ.out; unfold Old at *; omega)).keep (b5.2.keeps.mono fun j _ hj => .inr hj)
      exact hk5.weak fun _ _ h => .inl h
end Go.Proofs.Ytdcjbbeoocldeaa
/- Walks: the ways of a head. -/
namespace Go.Proofs.Ytdcjbbeoocldeaa
set_option linter.unusedSimpArgs false
set_option linter.unusedVariables false
open Go.RowKit Go.BT

theorem _root_.Go.BT.OwnL.flat {α : Type} [Flat α] {S : Nat → Prop} (T : Nat → Prop) {base : Nat} {e : TypeId} {w : World} {v : Value} {l : List α} (h : OwnL S base e w v l) : OwnL T base e w v l := by
  obtain ⟨xs, ho, hr⟩ := h; exact ⟨xs, ho, fun i hi => Flat.flat (hr i hi)⟩
/-- A finished row reads as a list. -/
def cellsV (l : List Vec) : List Value := l.flatMap fun v => [.int .i64 v.x, .int .i64 v.y]
theorem cellsV_cons (v : Vec) (l : List Vec) : cellsV (v :: l) = .int .i64 v.x :: .int .i64 v.y :: cellsV l := rfl
theorem cellsV_len : ∀ l : List Vec, (cellsV l).length = l.length * 2
  | [] => rfl
  | c :: l => by rw [cellsV_cons, List.length_cons, List.length_cons, cellsV_len l, List.length_cons]; omega
theorem cellsV_drop : ∀ (l : List Vec) (i : Nat) (hi : i < l.length), (cellsV l).drop (i * 2) = .int .i64 l[i].x :: .int .i64 l[i].y :: cellsV (l.drop (i + 1))
  | [], i, hi => by simp at hi
  | c :: l, 0, _ => by simp [cellsV_cons]
  | c :: l, i + 1, hi => by
    rw [cellsV_cons, show (i + 1) * 2 = i * 2 + 1 + 1 by omega, List.drop_succ_cons, List.drop_succ_cons, cellsV_drop l i (by simpa using hi)]
    simp
/-- A list of ways that is the call's own, or fills the array of the axes. -/
def OutW (S : Nat → Prop) (base : Nat) (w : World) (v : Value) (l : List Vec) : Prop :=
  OwnL S base 40 w v l ∨ ∃ b, base ≤ b ∧ b < w.heap.size ∧ v = .slice (some ⟨b, 0, none⟩) l.length l.length ∧ 0 < l.length ∧ ∀ j u, (cellsV l)[j]? = some u → w.cell? ⟨b, j, none⟩ = some u
theorem OutW.step {S : Nat → Prop} {base : Nat} {w w' : World} {v : Value} {l : List Vec} (h : OutW S base w v l) (hs : Step w w') : OutW S base w' v l := by
  rcases h with h | ⟨b, h1, h2, h3, h4, h5⟩
  · exact .inl (h.step hs)
  · exact .inr ⟨b, h1, Nat.lt_of_lt_of_le h2 hs.size, h3, h4, fun j u hj => hs.keeps.cell id (h5 j u hj)⟩
theorem OutW.form {S : Nat → Prop} {base : Nat} {w : World} {v : Value} {l : List Vec} (h : OutW S base w v l) : ∃ p c, v = .slice p l.length c := by
  rcases h with h | ⟨b, _, _, h3, _⟩
  · obtain ⟨p, c, e, _⟩ := h.form; exact ⟨p, c, e⟩
  · exact ⟨_, _, h3⟩
theorem OutW.lt {S : Nat → Prop} {base : Nat} {w : World} {v : Value} {l : List Vec} (h : OutW S base w v l) : ∀ g, v.ownBlock = some g → base ≤ g ∧ g < w.heap.size := by
  rcases h with h | ⟨b, h1, h2, rfl, _⟩
  · exact h.lt
  · intro g hg; simp [Value.ownBlock] at hg; subst hg; exact ⟨h1, h2⟩
theorem OutW.sl {S : Nat → Prop} {base : Nat} {w : World} {v : Value} {l : List Vec} (h : OutW S base w v l) (hl : l.length ≤ 1000) (T : Nat → Prop) (hT : ∀ j, T j → j < base) : SL T w v l := by
  rcases h with h | ⟨b, h1, h2, rfl, h4, h5⟩
  · exact (h.flat T).slb fun g hg ht => by have := (h.lt g hg).1; have := hT g ht; omega
  · refine ⟨_, _, b, 0, rfl, Nat.le_refl _, by omega, fun _ => rfl, fun i hi => ⟨h2, fun ht => by have := hT b ht; omega, [.int .i64 l[i].x, .int .i64 l[i].y], rfl, fun j u hj => ?_⟩⟩
    have hd := cellsV_drop l i hi
    show w.cell? ⟨b, 0 + i * 2 + j, none⟩ = some u
    rw [Nat.zero_add]
    refine h5 _ _ ?_
    rw [← List.getElem?_drop, hd]
    match j, hj with
    | 0, hj => exact hj
    | 1, hj => exact hj
    | j + 2, hj => simp at hj
theorem OwnL.of_cellsV {S : Nat → Prop} {base : Nat} {w : World} {v : Value} {l : List Vec} (h : w.ownsRow base 40 2 v l.length (cellsV l)) : OwnL S base 40 w v l :=
  ⟨cellsV l, h, fun i hi => by
    show ((cellsV l).drop (i * 2)).take 2 = _
    rw [cellsV_drop l i hi]; rfl⟩
theorem slV {S : Nat → Prop} {w : World} {u : Value} {m : List Vec} (h : SLe S w u m) (hm : 0 < m.length) : ∃ a c, u = .slice (some a) m.length c ∧ ∀ j x, (cellsV m)[j]? = some x → w.cell? (a.add j) = some x := by
  obtain ⟨p, c, b, o, rfl, hc, hm2, hp, ha⟩ := h
  obtain rfl := hp hm
  refine ⟨⟨b, o, none⟩, c, rfl, fun j x hj => ?_⟩
  have hjl : j < m.length * 2 := by rw [← cellsV_len]; exact (List.getElem?_eq_some_iff.1 hj).1
  obtain ⟨cs, hr, hcs⟩ := ha (j / 2) (by omega)
  have hr' : cs = [.int .i64 (m[j / 2]'(by omega)).x, .int .i64 (m[j / 2]'(by omega)).y] := hr
  subst hr'
  have hd := cellsV_drop m (j / 2) (by omega)
  have hj2 : ((cellsV m).drop (j / 2 * 2))[j % 2]? = some x := by rw [List.getElem?_drop, show j / 2 * 2 + j % 2 = j by omega]; exact hj
  rw [hd] at hj2
  rw [Addr.add_lit, show o + j = o + j / 2 * 2 + j % 2 by omega]
  have h2 : j % 2 = 0 ∨ j % 2 = 1 := by omega
  rcases h2 with h2 | h2 <;> rw [h2] at hj2 ⊢
  · exact hcs 0 x hj2
  · exact hcs 1 x hj2
theorem cellsV_append (l m : List Vec) : cellsV (l ++ m) = cellsV l ++ cellsV m := by simp [cellsV]
theorem cellsV_one {l : List Vec} : ∀ u ∈ cellsV l, u.oneCell' = true := by
  intro u hu
  obtain ⟨v, _, hv⟩ := List.mem_flatMap.1 hu
  simp at hv
  rcases hv with rfl | rfl <;> simp [Value.oneCell']
theorem wpl_append_ways {ops : Array Oper} {rest : List Oper} {o : Oper} {a : Act} {Q : Exit → Act → World → Prop} {S : Nat → Prop} {base : Nat} {w : World} {v u : Value} {l m : List Vec} (hgd : o.guard = none) (s x : Operand)
    (ho : o.op = .call { callee := .builtin .append, args := #[s, x], argTypes := #[78, 78] }) (hs : a.eval s = v) (hx : a.eval x = u) (hv : OutW S base w v l) (hu : SLe (avoid S v) w u m) (hm : 0 < m.length) (hl : l.length + m.length ≤ 1000) (hbase : base ≤ w.heap.size)
    (h : ∀ p c w', OwnL S base 40 w' (.slice p (l.length + m.length) c) (l ++ m) → w.grownBy w' v.ownBlock → wpList Try.prog ops Q rest (a.put o.dst (.slice p (l.length + m.length) c)) w') : wpList Try.prog ops Q (o :: rest) a w := by
  rcases hv with hv | ⟨b, h1, h2, rfl, h4, h5⟩
  · exact wpl_append eiVecs hgd s x ho hs hx hv hu _ rfl _ rfl (by simp only [maxLen]; omega) (by omega) hbase h
  · obtain ⟨ad, c, rfl, hc⟩ := slV hu hm
    obtain ⟨ht, hzs, i, hi, hz, hsize, hby⟩ := eiVecs
    refine wpList_append_grows w hgd s x _ ho 40 i _ 2 16 ht hi hz hsize hby rfl (by omega) (some ⟨b, 0, none⟩) l.length l.length (cellsV l) hs (by simp) (cellsV_len l) (fun b' hb' j u hj => by
        obtain rfl := Option.some.inj hb'
        rw [Addr.add_lit, Nat.zero_add]; exact h5 j u hj) ad m.length c (cellsV m) hx (cellsV_len m) hc cellsV_one (by omega) (by simp only [maxLen]; omega) (by omega) fun v' w' hr hg => ?_
    rw [← cellsV_append] at hr
    have hr2 : w'.ownsRow base 40 2 v' (l ++ m).length (cellsV (l ++ m)) := by
      rw [List.length_append]
      refine ⟨hr.1, hr.2.imp id fun ⟨g, cap, cur, e, hb, r⟩ => ⟨g, cap, cur, e, Nat.le_trans hbase hb, r⟩⟩
    have hown := OwnL.of_cellsV (S := S) hr2
    obtain ⟨p, c', rfl, _⟩ := hown.form
    rw [List.length_append] at hown ⊢
    exact h p c' w' hown ⟨hg.os, hg.tape, hg.output, hg.size, fun k hk _ => hg.block k hk (by simp)⟩
end Go.Proofs.Ytdcjbbeoocldeaa
/- Walks: the ways of a head, and what its guys have against one. -/
namespace Go.Proofs.Ytdcjbbeoocldeaa
set_option linter.unusedSimpArgs false
set_option linter.unusedVariables false
open Go.RowKit Go.BT

theorem sle_vecs (S : Nat → Prop) (w : World) (m : List Vec) (hm : m.length ≤ 1000) : SLe S (w.alloc (.cells (cellsV m).toArray 40)) (.slice (some ⟨w.heap.size, 0, none⟩) m.length m.length) m := by
  refine ⟨_, m.length, w.heap.size, 0, rfl, Nat.le_refl _, by omega, fun _ => rfl, fun i hi => ⟨[.int .i64 m[i].x, .int .i64 m[i].y], rfl, fun j u hj => ?_⟩⟩
  show (w.alloc _).cell? ⟨w.heap.size, 0 + i * 2 + j, none⟩ = some u
  rw [World.cell?_alloc_new, Nat.zero_add]
  have hd := cellsV_drop m i hi
  have : (cellsV m)[i * 2 + j]? = some u := by
    rw [← List.getElem?_drop, hd]
    match j, hj with
    | 0, hj => exact hj
    | 1, hj => exact hj
    | j + 2, hj => simp at hj
  simpa using this
def axesV : List Vec := [⟨1, 0⟩, ⟨0, 1⟩, ⟨-1, 0⟩, ⟨0, -1⟩]
def wayF (f : Vec) : List Vec := if f = ⟨0, 0⟩ then [] else [f, timesV f (-1), ⟨-f.y, f.x⟩, ⟨f.y, -f.x⟩]
def waysK (F : List Vec) (k : Nat) : List Vec := axesV ++ (F.take k).flatMap wayF
theorem waysK_all (F : List Vec) : waysK F F.length = waysP F := by unfold waysK waysP; rw [List.take_length]; rfl
theorem waysK_step {F : List Vec} {k : Nat} (hk : k < F.length) : waysK F (k + 1) = waysK F k ++ wayF F[k] := by
  unfold waysK
  rw [List.take_succ_eq_append_getElem hk, List.flatMap_append, List.append_assoc]
  simp
theorem wayF_len (f : Vec) : (wayF f).length ≤ 4 := by unfold wayF; split <;> simp
theorem waysK_len {F : List Vec} : ∀ {k : Nat}, k ≤ F.length → (waysK F k).length ≤ 4 + k * 4
  | 0, _ => by simp [waysK, axesV]
  | k + 1, hk => by
    rw [waysK_step (by omega), List.length_append]
    have := waysK_len (F := F) (k := k) (by omega)
    have := wayF_len (F[k]'(by omega))
    omega
set_option maxRecDepth 100000 in
set_option maxHeartbeats 8000000 in
theorem ways_any (F : List Vec) (area : Int) (v : Value) (w : World) (hv : MV w v area F) (hF : smallV F) (hn : F.length ≤ 8) :
    Calls Try.prog 94 #[v] w fun e w' => ∃ v', e = .returned v' ∧ SL (Old w) w' v' (waysP F) ∧ Step w w' := by
  obtain ⟨b, p2, n2, k2, p3, k3, rfl, hsl⟩ := hv
  obtain ⟨W0, hW0⟩ : ∃ W, W = (w.alloc (.cells #[.int .i64 area, .int .i64 b, .slice p2 n2 k2, .slice p3 F.length k3] 117)).alloc (.cells #[.int .i64 1, .int .i64 0, .int .i64 0, .int .i64 1, .int .i64 (-1), .int .i64 0, .int .i64 0, .int .i64 (-1)] 149) := ⟨_, rfl⟩
  have hb1 : Bx W0 w.heap.size [.int .i64 area, .int .i64 b, .slice p2 n2 k2, .slice p3 F.length k3] 117 := by subst hW0; exact (Bx.new w [_, _, _, _] _).alloc _
  have hb2 : Bx W0 (w.heap.size + 1) [.int .i64 1, .int .i64 0, .int .i64 0, .int .i64 1, .int .i64 (-1), .int .i64 0, .int .i64 0, .int .i64 (-1)] 149 := by subst hW0; exact Bx.new' _ [_, _, _, _, _, _, _, _] _ _ (by simp)
  have hS : Step w W0 := by subst hW0; exact (by repeat (first | (with_reducible assumption) | (with_reducible exact Step.refl _) | (with_reducible apply Step.s_alloc) | (with_reducible apply Step.s_drew) | (with_reducible apply Step.s_drewN) | (with_reducible refine Step.trans ?_ (by with_reducible assumption))))
  have hz : W0.heap.size = w.heap.size + 2 := by subst hW0; simp
  obtain ⟨q3, c3, b3, o3, he3, _, _, hp, hc, hbl⟩ := hsl.vecs
  injection he3 with he31 _ he33
  subst he31 he33
  have HB1 := Lib.hid hb1
  have HB2 := Lib.hid hb2
  have HS := Lib.hid hS
  have HZ := Lib.hid hz
  have HW := Lib.hid hW0
  have HF := Lib.hid hF
  have HP := Lib.hid (And.intro hp (And.intro hc hbl))
  have HL8 := Lib.hid hn
  clear hb1 hb2 hS hz hW0 hF hp hc hbl hsl
  go_enter Try.func94, Try.ntmps94
  go_wp2
  rw [← HW.out]
  go_loopw [4, 16] (fun out i wr => ∃ k : Nat, k ≤ F.length ∧ i = .int .i64 k ∧ OutW (fun _ => False) (w.heap.size + 1) wr out (waysK F k) ∧ StepX (fun j => w.heap.size + 1 ≤ j) W0 wr) (fun _ i _ => F.length - (intOf i).toNat)
  case atStart =>
    refine ⟨0, Nat.zero_le _, rfl, .inr ⟨w.heap.size + 1, Nat.le_refl _, by have := HZ.out; omega, rfl, by simp [waysK, axesV], fun j u hj => ?_⟩, StepX.refl _ _⟩
    have h8 : cellsV (waysK F 0) = [.int .i64 1, .int .i64 0, .int .i64 0, .int .i64 1, .int .i64 (-1), .int .i64 0, .int .i64 0, .int .i64 (-1)] := by simp [waysK, axesV, cellsV]
    rw [h8] at hj
    exact (HB2.out.cell j).trans hj
  case round =>
    obtain ⟨k, hk, rfl, hout, hX⟩ := hrel
    have HX := Lib.hid hX
    have HO := Lib.hid hout
    obtain ⟨LL, hLL⟩ : ∃ L, L = waysK F k := ⟨_, rfl⟩
    rw [← hLL] at hout
    obtain ⟨pu, cu, rfl⟩ := hout.form
    have HLL := Lib.hid hLL
    clear hout hX hLL
    by_cases hlt : k < F.length
    · have hbl := HP.out.2.2 (by omega)
      obtain rfl := HP.out.1 (by omega)
      obtain ⟨e1, e2⟩ := HP.out.2.1 k hlt
      have hcell : ∀ o u, w.cell? ⟨b3, o, none⟩ = some u → wr.cell? ⟨b3, o, none⟩ = some u := fun o u hu => HX.out.keeps.cell (a := ⟨b3, o, none⟩) (by show ¬ w.heap.size + 1 ≤ b3; omega) (HS.out.keeps.cell id hu)
      have e1 := hcell _ _ e1
      have e2 := hcell _ _ e2
      have hix : (0 : Int) ≤ (k : Int) ∧ (k : Int) < (F.length : Int) := by omega
      have hb : (-500000 ≤ F[k].x ∧ F[k].x ≤ 500000) ∧ -500000 ≤ F[k].y ∧ F[k].y ≤ 500000 := by have := HF.out _ (List.getElem_mem hlt); omega
      obtain ⟨g, hg⟩ : ∃ g, g = F[k] := ⟨_, rfl⟩
      rw [← hg] at e1 e2 hb
      have HG := Lib.hid hg
      clear hg hcell hbl
      obtain ⟨gx, gy⟩ := g
      dsimp only at e1 e2 hb
      by_cases hx : gx = 0
      · subst hx
        by_cases hy : gy = 0
        · subst hy
          have HN := Lib.hid (show waysK F (k + 1) = waysK F k by rw [waysK_step hlt, ← HG.out]; simp [wayF])
          go_wp2
          go_roundw
          case rel => exact ⟨k + 1, by omega, by go_num, by rw [HN.out]; exact HO.out.step (Step.alloc _ _), HX.out.trans (.of (Step.alloc _ _))⟩
          case measure => simp [intOf]; omega
        · skip
          have hwk := Lib.hid (show waysK F (k + 1) = waysK F k ++ [⟨0, gy⟩, timesV ⟨0, gy⟩ (-1), ⟨-gy, 0⟩, ⟨gy, -0⟩] by rw [waysK_step hlt, ← HG.out]; unfold wayF; rw [if_neg (by (simp; exact hy))])
          have hg1 := hb.1
          have hg2 := hb.2
          have hwy : IntKind.i64.wrap (-gy) = -gy := by rw [IntKind.wrap_i64]; omega
          have hwx : IntKind.i64.wrap (-0) = -0 := by rw [IntKind.wrap_i64]; omega
          have hf1 : fits (-1 * 0) := by unfold fits; omega
          have hf2 : fits (-1 * gy) := by unfold fits; omega
          have hl64 := waysK_len hk
          go_upto_region 7 with (fail)
          obtain ⟨wa, hwa⟩ : ∃ W, W = wr.alloc (.cells #[.int .i64 (0), .int .i64 (gy)] 40) := ⟨_, rfl⟩
          rw [← hwa]
          have hga : Bx wa wr.heap.size [.int .i64 (0), .int .i64 (gy)] 40 := by rw [hwa]; exact Bx.new wr [_, _] _
          have hsa : Step wr wa := by rw [hwa]; exact Step.alloc _ _
          have HGA := Lib.hid hga
          have HSA := Lib.hid hsa
          clear hwa hga hsa e1 e2 hb
          refine wp_region_seq (kdOf [3, 16] []) [0, 0, 0, 4, 0, 16, 48, 0, 128, 496, 0, 1024, 0, 4096, 12288, 31744, 65534, 131071, 262143] [0, 1, 2, 4, 5, 6, 7, 8, 9, 10, 11, 12, 13, 14, 15, 3, 16] [17, 18] (by kernel_rfl) (by kernel_rfl) (fun i T z hi hk => by simp [kdOf] at hk <;> (try (split at hk <;> cases hk))) ?_
          intro Wx hWx
          have HT := Lib.hid hWx
          clear hWx
          have g0 := (HGA.out.step HT.out).cell 0
          have g1 := (HGA.out.step HT.out).cell 1
          simp only [List.getElem?_cons_zero, List.getElem?_cons_succ] at g0 g1
          repeat (first | (refine run_off rfl rfl (by rfl) ?_; (try simp only [Act.put, List.setIfInBounds_toArray, List.set_cons_zero, List.set_cons_succ])) | (refine run_chain_off rfl rfl (by rfl) (K0_mono _) ?_; (try simp only [Act.put, List.setIfInBounds_toArray, List.set_cons_zero, List.set_cons_succ])) | ((refine run_want rfl rfl (by rfl) ⟨?_, fun W hW => ?_, ?_⟩; rotate_left; (· (have d0 := hW.keeps.cell id g0; have d1 := hW.keeps.cell id g1; go_simp; (try with_reducible rfl)))); (try simp only [Act.put, List.setIfInBounds_toArray, List.set_cons_zero, List.set_cons_succ])))
          refine run_chain rfl rfl (by rfl) (fun Wi hWi K' hK => ?_)
          have HTi := Lib.hid (HT.out.trans hWi)
          have HZW := Lib.hid HTi.out.size
          clear hWi HT
          go_simp
          refine (times_any ⟨0, gy⟩ (-1) _ hf1 hf2).mono ?_
          rintro e wn ⟨rfl, hSn⟩
          have HT := Lib.hid (HTi.out.trans (StepX.of hSn))
          clear HTi
          refine hK _ _ (StepX.of hSn) ?_
          clear hSn
          (try simp only [Act.put, List.setIfInBounds_toArray, List.set_cons_zero, List.set_cons_succ])
          clear g0 g1
          have g0 := (HGA.out.step HT.out).cell 0
          have g1 := (HGA.out.step HT.out).cell 1
          simp only [List.getElem?_cons_zero, List.getElem?_cons_succ] at g0 g1
          repeat (first | (refine run_off rfl rfl (by rfl) ?_; (try simp only [Act.put, List.setIfInBounds_toArray, List.set_cons_zero, List.set_cons_succ])) | (refine run_chain_off rfl rfl (by rfl) (K0_mono _) ?_; (try simp only [Act.put, List.setIfInBounds_toArray, List.set_cons_zero, List.set_cons_succ])) | ((refine run_want rfl rfl (by rfl) ⟨?_, fun W hW => ?_, ?_⟩; rotate_left; (· (have d0 := hW.keeps.cell id g0; have d1 := hW.keeps.cell id g1; go_simp; (try with_reducible rfl)))); (try simp only [Act.put, List.setIfInBounds_toArray, List.set_cons_zero, List.set_cons_succ])))
          refine run_chain rfl rfl (by rfl) (fun W1 hW1 K' hK' => ?_)
          go_simp
          refine hK' _ _ (.of (Step.alloc _ _)) ?_
          (try simp only [Act.put, List.setIfInBounds_toArray, List.set_cons_zero, List.set_cons_succ])
          refine run_end (L := [_, _]) rfl (fun W2 hW2 => ?_)
          obtain ⟨mm, hmm⟩ : ∃ m : List Vec, m = [⟨0, gy⟩, timesV ⟨0, gy⟩ (-1), ⟨-gy, 0⟩, ⟨gy, -0⟩] := ⟨_, rfl⟩
          have hml : mm.length = 4 := by rw [hmm]; rfl
          have hs1 := (HSA.out.trans HT.out).trans hW1
          have hW3 : Step (W1.alloc (.cells (cellsV mm).toArray 40)) W2 := by rw [hmm]; exact hW2
          have hu := (sle_vecs (avoid (fun _ => False) (.slice pu LL.length cu)) W1 mm (by omega)).step hW3
          have hst : Step wr W2 := (hs1.trans (Step.alloc _ (.cells (cellsV mm).toArray 40))).trans hW3
          have hov := HO.out.step hst
          rw [hml] at hu
          have hbz : w.heap.size + 1 ≤ W2.heap.size := by have := (HO.out.lt); have := HX.out.size; have := hst.size; have := HZ.out; omega
          have HML := Lib.hid hml
          have HX2 := Lib.hid (HX.out.trans (StepX.of hst))
          have hl16 := HL8.out
          have HMM := Lib.hid hmm
          clear hW1 hW2 hW3 hK' hs1 hst hml hmm
          go_wp2_with (at_builtin; refine wpl_append_ways (m := mm) rfl _ _ rfl rfl rfl hov hu (by have := HML.out; omega) (by have := HML.out; omega) hbz ?_)
          intro p' c' w3 hown hg
          have hX3 : StepX (fun j => w.heap.size + 1 ≤ j) W0 w3 := HX2.out.trans (.grown hg fun j hj _ => (HO.out.lt j hj).1)
          have hr : OutW (fun _ => False) (w.heap.size + 1) w3 (.slice p' ((waysK F k).length + mm.length) c') (waysK F (k + 1)) := by rw [hwk.out, ← HMM.out]; exact .inl hown
          have H3 := Lib.hid (And.intro hr hX3)
          clear hu hov hown hg hX3 hr hwk hbz
          go_wp2
          go_roundw
          case rel => exact ⟨k + 1, by omega, by go_num, H3.out.1, H3.out.2⟩
          case measure => simp [intOf]; omega
      · skip
        have hwk := Lib.hid (show waysK F (k + 1) = waysK F k ++ [⟨gx, gy⟩, timesV ⟨gx, gy⟩ (-1), ⟨-gy, gx⟩, ⟨gy, -gx⟩] by rw [waysK_step hlt, ← HG.out]; unfold wayF; rw [if_neg (by (simp; intro h; exact absurd h hx))])
        have hg1 := hb.1
        have hg2 := hb.2
        have hwy : IntKind.i64.wrap (-gy) = -gy := by rw [IntKind.wrap_i64]; omega
        have hwx : IntKind.i64.wrap (-gx) = -gx := by rw [IntKind.wrap_i64]; omega
        have hf1 : fits (-1 * gx) := by unfold fits; omega
        have hf2 : fits (-1 * gy) := by unfold fits; omega
        have hl64 := waysK_len hk
        go_upto_region 7 with (fail)
        obtain ⟨wa, hwa⟩ : ∃ W, W = wr.alloc (.cells #[.int .i64 (gx), .int .i64 (gy)] 40) := ⟨_, rfl⟩
        rw [← hwa]
        have hga : Bx wa wr.heap.size [.int .i64 (gx), .int .i64 (gy)] 40 := by rw [hwa]; exact Bx.new wr [_, _] _
        have hsa : Step wr wa := by rw [hwa]; exact Step.alloc _ _
        have HGA := Lib.hid hga
        have HSA := Lib.hid hsa
        clear hwa hga hsa e1 e2 hb
        refine wp_region_seq (kdOf [3, 16] []) [0, 0, 0, 4, 0, 16, 48, 0, 128, 496, 0, 1024, 0, 4096, 12288, 31744, 65534, 131071, 262143] [0, 1, 2, 4, 5, 6, 7, 8, 9, 10, 11, 12, 13, 14, 15, 3, 16] [17, 18] (by kernel_rfl) (by kernel_rfl) (fun i T z hi hk => by simp [kdOf] at hk <;> (try (split at hk <;> cases hk))) ?_
        intro Wx hWx
        have HT := Lib.hid hWx
        clear hWx
        have g0 := (HGA.out.step HT.out).cell 0
        have g1 := (HGA.out.step HT.out).cell 1
        simp only [List.getElem?_cons_zero, List.getElem?_cons_succ] at g0 g1
        repeat (first | (refine run_off rfl rfl (by rfl) ?_; (try simp only [Act.put, List.setIfInBounds_toArray, List.set_cons_zero, List.set_cons_succ])) | (refine run_chain_off rfl rfl (by rfl) (K0_mono _) ?_; (try simp only [Act.put, List.setIfInBounds_toArray, List.set_cons_zero, List.set_cons_succ])) | ((refine run_want rfl rfl (by rfl) ⟨?_, fun W hW => ?_, ?_⟩; rotate_left; (· (have d0 := hW.keeps.cell id g0; have d1 := hW.keeps.cell id g1; go_simp; (try with_reducible rfl)))); (try simp only [Act.put, List.setIfInBounds_toArray, List.set_cons_zero, List.set_cons_succ])))
        refine run_chain rfl rfl (by rfl) (fun Wi hWi K' hK => ?_)
        have HTi := Lib.hid (HT.out.trans hWi)
        have HZW := Lib.hid HTi.out.size
        clear hWi HT
        go_simp
        refine (times_any ⟨gx, gy⟩ (-1) _ hf1 hf2).mono ?_
        rintro e wn ⟨rfl, hSn⟩
        have HT := Lib.hid (HTi.out.trans (StepX.of hSn))
        clear HTi
        refine hK _ _ (StepX.of hSn) ?_
        clear hSn
        (try simp only [Act.put, List.setIfInBounds_toArray, List.set_cons_zero, List.set_cons_succ])
        clear g0 g1
        have g0 := (HGA.out.step HT.out).cell 0
        have g1 := (HGA.out.step HT.out).cell 1
        simp only [List.getElem?_cons_zero, List.getElem?_cons_succ] at g0 g1
        repeat (first | (refine run_off rfl rfl (by rfl) ?_; (try simp only [Act.put, List.setIfInBounds_toArray, List.set_cons_zero, List.set_cons_succ])) | (refine run_chain_off rfl rfl (by rfl) (K0_mono _) ?_; (try simp only [Act.put, List.setIfInBounds_toArray, List.set_cons_zero, List.set_cons_succ])) | ((refine run_want rfl rfl (by rfl) ⟨?_, fun W hW => ?_, ?_⟩; rotate_left; (· (have d0 := hW.keeps.cell id g0; have d1 := hW.keeps.cell id g1; go_simp; (try with_reducible rfl)))); (try simp only [Act.put, List.setIfInBounds_toArray, List.set_cons_zero, List.set_cons_succ])))
        refine run_chain rfl rfl (by rfl) (fun W1 hW1 K' hK' => ?_)
        go_simp
        refine hK' _ _ (.of (Step.alloc _ _)) ?_
        (try simp only [Act.put, List.setIfInBounds_toArray, List.set_cons_zero, List.set_cons_succ])
        refine run_end (L := [_, _]) rfl (fun W2 hW2 => ?_)
        obtain ⟨mm, hmm⟩ : ∃ m : List Vec, m = [⟨gx, gy⟩, timesV ⟨gx, gy⟩ (-1), ⟨-gy, gx⟩, ⟨gy, -gx⟩] := ⟨_, rfl⟩
        have hml : mm.length = 4 := by rw [hmm]; rfl
        have hs1 := (HSA.out.trans HT.out).trans hW1
        have hW3 : Step (W1.alloc (.cells (cellsV mm).toArray 40)) W2 := by rw [hmm]; exact hW2
        have hu := (sle_vecs (avoid (fun _ => False) (.slice pu LL.length cu)) W1 mm (by omega)).step hW3
        have hst : Step wr W2 := (hs1.trans (Step.alloc _ (.cells (cellsV mm).toArray 40))).trans hW3
        have hov := HO.out.step hst
        rw [hml] at hu
        have hbz : w.heap.size + 1 ≤ W2.heap.size := by have := (HO.out.lt); have := HX.out.size; have := hst.size; have := HZ.out; omega
        have HML := Lib.hid hml
        have HX2 := Lib.hid (HX.out.trans (StepX.of hst))
        have hl16 := HL8.out
        have HMM := Lib.hid hmm
        clear hW1 hW2 hW3 hK' hs1 hst hml hmm
        go_wp2_with (at_builtin; refine wpl_append_ways (m := mm) rfl _ _ rfl rfl rfl hov hu (by have := HML.out; omega) (by have := HML.out; omega) hbz ?_)
        intro p' c' w3 hown hg
        have hX3 : StepX (fun j => w.heap.size + 1 ≤ j) W0 w3 := HX2.out.trans (.grown hg fun j hj _ => (HO.out.lt j hj).1)
        have hr : OutW (fun _ => False) (w.heap.size + 1) w3 (.slice p' ((waysK F k).length + mm.length) c') (waysK F (k + 1)) := by rw [hwk.out, ← HMM.out]; exact .inl hown
        have H3 := Lib.hid (And.intro hr hX3)
        clear hu hov hown hg hX3 hr hwk hbz
        go_wp2
        go_roundw
        case rel => exact ⟨k + 1, by omega, by go_num, H3.out.1, H3.out.2⟩
        case measure => simp [intOf]; omega
    · have HN := Lib.hid (show LL = waysP F by rw [HLL.out, ← waysK_all]; congr 1; omega)
      go_wp2
      go_ret
      refine ⟨_, rfl, ?_, StepX.fresh HS.out HX.out (fun j hj => by omega)⟩
      have hk8 := waysK_len hk
      have h := HO.out.sl (by have := HL8.out; omega) (Old w) (fun j hj => by unfold Old at hj; omega)
      rw [← HLL.out, HN.out] at h
      rw [HN.out]; exact h
end Go.Proofs.Ytdcjbbeoocldeaa
/- Walks: what guys have against a way. -/
namespace Go.Proofs.Ytdcjbbeoocldeaa
set_option linter.unusedSimpArgs false
set_option linter.unusedVariables false
open Go.RowKit Go.BT

theorem mul_in {a b A B : Int} (ha : -A ≤ a ∧ a ≤ A) (hb : -B ≤ b ∧ b ≤ B) : -(A * B) ≤ a * b ∧ a * b ≤ A * B := by
  have h1 := Int.mul_nonneg (show 0 ≤ A - a by omega) (show 0 ≤ B - b by omega)
  have h2 := Int.mul_nonneg (show 0 ≤ A + a by omega) (show 0 ≤ B + b by omega)
  have h3 := Int.mul_nonneg (show 0 ≤ A - a by omega) (show 0 ≤ B + b by omega)
  have h4 := Int.mul_nonneg (show 0 ≤ A + a by omega) (show 0 ≤ B - b by omega)
  constructor <;> grind
/-- A vector with small numbers. -/
def inV (n : Int) (v : Vec) : Prop := (-n ≤ v.x ∧ v.x ≤ n) ∧ -n ≤ v.y ∧ v.y ≤ n
theorem inV.mono {m n : Int} {v : Vec} (h : inV m v) (hmn : m ≤ n) : inV n v := by unfold inV at *; omega
theorem small_get {F : List Vec} (h : smallV F) {k : Nat} (hk : k < F.length) : inV 500000 F[k] := by
  have := h _ (List.getElem_mem hk); unfold inV; omega
theorem dot_in {v o : Vec} {A B : Int} (hv : inV A v) (ho : inV B o) : (-(A * B) ≤ v.x * o.x ∧ v.x * o.x ≤ A * B) ∧ (-(A * B) ≤ v.y * o.y ∧ v.y * o.y ≤ A * B) := ⟨mul_in hv.1 ho.1, mul_in hv.2 ho.2⟩
theorem dot_fits {v o : Vec} {A B : Int} (hv : inV A v) (ho : inV B o) (hAB : A * B ≤ 4000000000000000000) : fits (v.x * o.x) ∧ fits (v.y * o.y) ∧ fits (v.x * o.x + v.y * o.y) ∧ -(2 * (A * B)) ≤ dotV v o ∧ dotV v o ≤ 2 * (A * B) := by
  have h := dot_in hv ho
  unfold fits dotV
  omega
theorem help_take {F : List Vec} {w : Vec} {k : Nat} (hk : k < F.length) : helpL (F.take (k + 1)) w = helpL (F.take k) w + max 0 (-(dotV w F[k])) := by
  unfold helpL
  rw [List.take_succ_eq_append_getElem hk, List.map_append, List.sum_append]
  simp
theorem help_bound {F : List Vec} {w : Vec} (hF : smallV F) (hw : inV 1000000 w) : ∀ k, k ≤ F.length → 0 ≤ helpL (F.take k) w ∧ helpL (F.take k) w ≤ k * 1000000000000
  | 0, _ => by simp [helpL]
  | k + 1, hk => by
    have ih := help_bound hF hw k (by omega)
    rw [help_take (by omega)]
    have hd := (dot_fits (v := w) (o := F[k]'(by omega)) hw (small_get hF (by omega)) (by decide)).2.2.2
    omega
set_option maxRecDepth 100000 in
set_option maxHeartbeats 4000000 in
theorem help_any (F : List Vec) (area : Int) (way : Vec) (v : Value) (w : World) (hv : MV w v area F) (hF : smallV F) (hn : F.length ≤ 8) (hw : inV 1000000 way) :
    Calls Try.prog 68 #[v, .agg #[.int .i64 way.x, .int .i64 way.y]] w fun e w' => e = .returned (.int .i64 (helpL F way)) ∧ Step w w' := by
  obtain ⟨b, p2, n2, k2, p3, k3, rfl, hsl⟩ := hv
  obtain ⟨W0, hW0⟩ : ∃ W, W = (w.alloc (.cells #[.int .i64 area, .int .i64 b, .slice p2 n2 k2, .slice p3 F.length k3] 117)).alloc (.cells #[.int .i64 way.x, .int .i64 way.y] 40) := ⟨_, rfl⟩
  have hS : Step w W0 := by subst hW0; exact (by repeat (first | (with_reducible assumption) | (with_reducible exact Step.refl _) | (with_reducible apply Step.s_alloc) | (with_reducible apply Step.s_drew) | (with_reducible apply Step.s_drewN) | (with_reducible refine Step.trans ?_ (by with_reducible assumption))))
  obtain ⟨q3, c3, b3, o3, he3, _, _, hp, hc, _⟩ := hsl.vecs
  injection he3 with he31 _ he33
  subst he31 he33
  have HS := Lib.hid hS
  have HW := Lib.hid hW0
  have HF := Lib.hid hF
  have HP := Lib.hid (And.intro hp hc)
  have HWY := Lib.hid hw
  clear hS hW0 hF hp hc hsl hw
  go_enter Try.func68, Try.ntmps68
  go_wp2
  rw [← HW.out]
  go_loopw [5, 14] (fun s i wr => ∃ k : Nat, k ≤ F.length ∧ i = .int .i64 k ∧ s = .int .i64 (helpL (F.take k) way) ∧ Step W0 wr) (fun _ i _ => F.length - (intOf i).toNat)
  case atStart => exact ⟨0, Nat.zero_le _, rfl, rfl, Step.refl _⟩
  case round =>
    obtain ⟨k, hk, rfl, rfl, hT⟩ := hrel
    have HT := Lib.hid hT
    clear hT
    by_cases hlt : k < F.length
    · obtain rfl := HP.out.1 (by omega)
      obtain ⟨e1, e2⟩ := HP.out.2 k hlt
      have e1 := (HS.out.trans HT.out).keeps.cell id e1
      have e2 := (HS.out.trans HT.out).keeps.cell id e2
      have hix : (0 : Int) ≤ (k : Int) ∧ (k : Int) < (F.length : Int) := by omega
      have hw := HWY.out
      have hdf := dot_fits (v := way) (o := F[k]) hw (small_get HF.out hlt) (by decide)
      have hbd := help_bound HF.out hw k hk
      have HTK := Lib.hid (help_take (w := way) hlt)
      obtain ⟨h, hh⟩ : ∃ h, h = helpL (F.take k) way := ⟨_, rfl⟩
      rw [← hh] at hbd HTK
      obtain ⟨d, hd⟩ : ∃ d, d = dotV way F[k] := ⟨_, rfl⟩
      rw [← hd] at hdf HTK
      have HH := Lib.hid (And.intro hh hd)
      have hcall := Lib.hid (dot_any way F[k] (wr.alloc (.cells #[.int .i64 F[k].x, .int .i64 F[k].y] 40)) hdf.1 hdf.2.1 hdf.2.2.1)
      have hwn : IntKind.i64.wrap (-d) = -d := by rw [IntKind.wrap_i64]; omega
      have hwa : IntKind.i64.wrap (h + -d) = h + -d := by rw [IntKind.wrap_i64]; omega
      have hwb : IntKind.i64.wrap h = h := by rw [IntKind.wrap_i64]; omega
      rw [← hh]
      clear hw hdf hbd hh
      go_wp2_with fail
      refine hcall.out.mono ?_
      rintro e w1 ⟨rfl, hS1⟩
      rw [← hd]
      have HS1 := Lib.hid (HT.out.trans ((Step.alloc _ _).trans hS1))
      clear hd hcall hS1 e1 e2
      by_cases h0 : 0 < -d
      · have HN := Lib.hid (show helpL (F.take (k + 1)) way = h + -d by rw [HTK.out]; omega)
        go_wp2
        go_roundw
        case rel => exact ⟨k + 1, by omega, by go_num, by rw [HN.out], HS1.out⟩
        case measure => simp [intOf]; omega
      · have HN := Lib.hid (show helpL (F.take (k + 1)) way = h by rw [HTK.out]; omega)
        go_wp2
        go_roundw
        case rel => exact ⟨k + 1, by omega, by go_num, by rw [HN.out], HS1.out⟩
        case measure => simp [intOf]; omega
    · have HN := Lib.hid (show helpL (F.take k) way = helpL F way by rw [List.take_of_length_le (by omega)])
      go_wp2
      go_ret
      exact ⟨by rw [← HN.out]; rfl, HS.out.trans HT.out⟩
end Go.Proofs.Ytdcjbbeoocldeaa
/- Walks: whether a push is too strong in a way. -/
namespace Go.Proofs.Ytdcjbbeoocldeaa
set_option linter.unusedSimpArgs false
set_option linter.unusedVariables false
open Go.RowKit Go.BT

set_option maxRecDepth 100000 in
set_option maxHeartbeats 4000000 in
theorem Help_any (S : Nat → Prop) (F : List Vec) (way : Vec) (v : Value) (w : World) (hv : SL S w v F) (hF : smallV F) (hn : F.length ≤ 8) (hw : inV 1000000 way) :
    Calls Try.prog 63 #[v, .agg #[.int .i64 way.x, .int .i64 way.y]] w fun e w' => e = .returned (.int .i64 (helpL F way)) ∧ Step w w' := by
  obtain ⟨p3, k3, b3, o3, rfl, _, hm, hp, hc, _⟩ := hv.vecs
  obtain ⟨W0, hW0⟩ : ∃ W, W = w.alloc (.cells #[.int .i64 way.x, .int .i64 way.y] 26) := ⟨_, rfl⟩
  have hb : Bx W0 w.heap.size [.int .i64 way.x, .int .i64 way.y] 26 := by subst hW0; exact Bx.new w [_, _] _
  have hS : Step w W0 := by subst hW0; exact (by repeat (first | (with_reducible assumption) | (with_reducible exact Step.refl _) | (with_reducible apply Step.s_alloc) | (with_reducible apply Step.s_drew) | (with_reducible apply Step.s_drewN) | (with_reducible refine Step.trans ?_ (by with_reducible assumption))))
  have HBX := Lib.hid hb
  have HS := Lib.hid hS
  have HW := Lib.hid hW0
  have HF := Lib.hid hF
  have HP := Lib.hid (And.intro hp hc)
  have HWY := Lib.hid hw
  clear hS hb hW0 hF hp hc hw hv
  go_enter Try.func63, Try.ntmps63
  go_wp2
  rw [← HW.out]
  go_loopw [5, 6] (fun s i wr => ∃ k : Nat, k ≤ F.length ∧ i = .int .i64 k ∧ s = .int .i64 (helpL (F.take k) way) ∧ Step W0 wr) (fun _ i _ => F.length - (intOf i).toNat)
  case atStart => exact ⟨0, Nat.zero_le _, rfl, rfl, Step.refl _⟩
  case round =>
    obtain ⟨k, hk, rfl, rfl, hT⟩ := hrel
    have HT := Lib.hid hT
    clear hT
    by_cases hlt : k < F.length
    · obtain rfl := HP.out.1 (by omega)
      have HE := Lib.hid (HP.out.2 k hlt)
      have hix : (0 : Int) ≤ (k : Int) ∧ (k : Int) < (F.length : Int) := by omega
      have hw := HWY.out
      have hdf := dot_fits (v := way) (o := F[k]) hw (small_get HF.out hlt) (by decide)
      have hbd := help_bound HF.out hw k hk
      have HTK := Lib.hid (help_take (w := way) hlt)
      obtain ⟨h, hh⟩ : ∃ h, h = helpL (F.take k) way := ⟨_, rfl⟩
      rw [← hh] at hbd HTK
      obtain ⟨d, hd⟩ : ∃ d, d = dotV way F[k] := ⟨_, rfl⟩
      rw [← hd] at hdf HTK
      have HH := Lib.hid (And.intro hh hd)
      have HDF := Lib.hid hdf
      have hwn : IntKind.i64.wrap (-d) = -d := by rw [IntKind.wrap_i64]; omega
      have hwa : IntKind.i64.wrap (h + -d) = h + -d := by rw [IntKind.wrap_i64]; omega
      have hwb : IntKind.i64.wrap h = h := by rw [IntKind.wrap_i64]; omega
      rw [← hh]
      clear hw hdf hbd hh hd
      by_cases h0 : 0 < -d
      · have HN := Lib.hid (show helpL (F.take (k + 1)) way = h + -d by rw [HTK.out]; omega)
        go_upto_region 5 with (fail)
        refine wp_region_seq (kdOf [6] []) [0, 0, 0, 0, 12, 28, 62, 126, 254, 511, 1023] [0, 1, 2, 3, 4, 5, 6, 7, 8, 9, 10] [] (by kernel_rfl) (by kernel_rfl) (fun i T z hi hk => by simp [kdOf] at hk <;> (try (split at hk <;> cases hk))) ?_
        intro Wx hWx
        have HTx := Lib.hid (HT.out.trans hWx)
        clear hWx HT
        have HT := HTx
        clear HTx
        have g0 := (HBX.out.step HT.out).cell 0
        have g1 := (HBX.out.step HT.out).cell 1
        simp only [List.getElem?_cons_zero, List.getElem?_cons_succ] at g0 g1
        have e1 := (HS.out.trans HT.out).keeps.cell id HE.out.1
        have e2 := (HS.out.trans HT.out).keeps.cell id HE.out.2
        repeat (first | (refine run_off rfl rfl (by rfl) ?_; (try simp only [Act.put, List.setIfInBounds_toArray, List.set_cons_zero, List.set_cons_succ])) | (refine run_chain_off rfl rfl (by rfl) (K0_mono _) ?_; (try simp only [Act.put, List.setIfInBounds_toArray, List.set_cons_zero, List.set_cons_succ])) | ((refine run_want rfl rfl (by rfl) ⟨?_, fun W hW => ?_, ?_⟩; rotate_left; (· (have d0 := hW.keeps.cell id g0; have d1 := hW.keeps.cell id g1; have d2 := hW.keeps.cell id e1; have d3 := hW.keeps.cell id e2; go_simp; (try with_reducible rfl)))); (try simp only [Act.put, List.setIfInBounds_toArray, List.set_cons_zero, List.set_cons_succ])))
        refine run_chain rfl rfl (by rfl) (fun Wi hWi K' hK => ?_)
        have HTi := Lib.hid (HT.out.trans hWi)
        have HZW := Lib.hid HTi.out.size
        clear hWi HT
        go_simp
        refine (Dot_any way F[k] _ HDF.out.1 HDF.out.2.1 HDF.out.2.2.1).mono ?_
        rintro e wn ⟨rfl, hSn⟩
        have HT := Lib.hid (HTi.out.trans (StepX.of hSn))
        clear HTi
        rw [← HH.out.2]
        refine hK _ _ (StepX.of hSn) ?_
        clear hSn
        (try simp only [Act.put, List.setIfInBounds_toArray, List.set_cons_zero, List.set_cons_succ])
        clear g0 g1 e1 e2
        repeat (first | (refine run_off rfl rfl (by rfl) ?_; (try simp only [Act.put, List.setIfInBounds_toArray, List.set_cons_zero, List.set_cons_succ])) | (refine run_chain_off rfl rfl (by rfl) (K0_mono _) ?_; (try simp only [Act.put, List.setIfInBounds_toArray, List.set_cons_zero, List.set_cons_succ])) | ((refine run_want rfl rfl (by rfl) ⟨?_, fun W hW => ?_, ?_⟩; rotate_left; (· (skip; go_simp; (try with_reducible rfl)))); (try simp only [Act.put, List.setIfInBounds_toArray, List.set_cons_zero, List.set_cons_succ])))
        refine run_end (L := []) rfl (fun W6 hW6 => ?_)
        have HT6 := Lib.hid (HT.out.trans hW6)
        clear hW6 HT
        have HT := HT6
        clear HT6
        go_wp2
        go_roundw
        case rel => exact ⟨k + 1, by omega, by go_num, by rw [HN.out, if_pos (show d < 0 by omega), hwa], HT.out⟩
        case measure => simp [intOf]; omega
      · have HN := Lib.hid (show helpL (F.take (k + 1)) way = h by rw [HTK.out]; omega)
        go_upto_region 5 with (fail)
        refine wp_region_seq (kdOf [6] []) [0, 0, 0, 0, 12, 28, 62, 126, 254, 511, 1023] [0, 1, 2, 3, 4, 5, 6, 7, 8, 9, 10] [] (by kernel_rfl) (by kernel_rfl) (fun i T z hi hk => by simp [kdOf] at hk <;> (try (split at hk <;> cases hk))) ?_
        intro Wx hWx
        have HTx := Lib.hid (HT.out.trans hWx)
        clear hWx HT
        have HT := HTx
        clear HTx
        have g0 := (HBX.out.step HT.out).cell 0
        have g1 := (HBX.out.step HT.out).cell 1
        simp only [List.getElem?_cons_zero, List.getElem?_cons_succ] at g0 g1
        have e1 := (HS.out.trans HT.out).keeps.cell id HE.out.1
        have e2 := (HS.out.trans HT.out).keeps.cell id HE.out.2
        repeat (first | (refine run_off rfl rfl (by rfl) ?_; (try simp only [Act.put, List.setIfInBounds_toArray, List.set_cons_zero, List.set_cons_succ])) | (refine run_chain_off rfl rfl (by rfl) (K0_mono _) ?_; (try simp only [Act.put, List.setIfInBounds_toArray, List.set_cons_zero, List.set_cons_succ])) | ((refine run_want rfl rfl (by rfl) ⟨?_, fun W hW => ?_, ?_⟩; rotate_left; (· (have d0 := hW.keeps.cell id g0; have d1 := hW.keeps.cell id g1; have d2 := hW.keeps.cell id e1; have d3 := hW.keeps.cell id e2; go_simp; (try with_reducible rfl)))); (try simp only [Act.put, List.setIfInBounds_toArray, List.set_cons_zero, List.set_cons_succ])))
        refine run_chain rfl rfl (by rfl) (fun Wi hWi K' hK => ?_)
        have HTi := Lib.hid (HT.out.trans hWi)
        have HZW := Lib.hid HTi.out.size
        clear hWi HT
        go_simp
        refine (Dot_any way F[k] _ HDF.out.1 HDF.out.2.1 HDF.out.2.2.1).mono ?_
        rintro e wn ⟨rfl, hSn⟩
        have HT := Lib.hid (HTi.out.trans (StepX.of hSn))
        clear HTi
        rw [← HH.out.2]
        refine hK _ _ (StepX.of hSn) ?_
        clear hSn
        (try simp only [Act.put, List.setIfInBounds_toArray, List.set_cons_zero, List.set_cons_succ])
        clear g0 g1 e1 e2
        repeat (first | (refine run_off rfl rfl (by rfl) ?_; (try simp only [Act.put, List.setIfInBounds_toArray, List.set_cons_zero, List.set_cons_succ])) | (refine run_chain_off rfl rfl (by rfl) (K0_mono _) ?_; (try simp only [Act.put, List.setIfInBounds_toArray, List.set_cons_zero, List.set_cons_succ])) | ((refine run_want rfl rfl (by rfl) ⟨?_, fun W hW => ?_, ?_⟩; rotate_left; (· (skip; go_simp; (try with_reducible rfl)))); (try simp only [Act.put, List.setIfInBounds_toArray, List.set_cons_zero, List.set_cons_succ])))
        refine run_end (L := []) rfl (fun W6 hW6 => ?_)
        have HT6 := Lib.hid (HT.out.trans hW6)
        clear hW6 HT
        have HT := HT6
        clear HT6
        go_wp2
        go_roundw
        case rel => exact ⟨k + 1, by omega, by go_num, by rw [HN.out, if_neg (show ¬ d < 0 by omega), Int.add_zero, hwb], HT.out⟩
        case measure => simp [intOf]; omega
    · have HN := Lib.hid (show helpL (F.take k) way = helpL F way by rw [List.take_of_length_le (by omega)])
      go_wp2
      go_ret
      exact ⟨by rw [← HN.out]; rfl, HS.out.trans HT.out⟩
theorem ways_in {F : List Vec} (hF : smallV F) : ∀ w ∈ waysP F, inV 500000 w := fun w hw => by
  rcases List.mem_append.1 hw with hw | hw
  · simp at hw
    rcases hw with rfl | rfl | rfl | rfl <;> simp [inV]
  · obtain ⟨f, hf, hw⟩ := List.mem_flatMap.1 hw
    have hs := hF f hf
    split at hw
    · simp at hw
    · simp [timesV] at hw
      rcases hw with rfl | rfl | rfl | rfl <;> simp only [inV] <;> omega
theorem waysP_len {F : List Vec} : (waysP F).length ≤ 4 + F.length * 4 := by rw [← waysK_all]; exact waysK_len (Nat.le_refl _)
set_option maxRecDepth 100000 in
set_option maxHeartbeats 8000000 in
theorem weak_any (F : List Vec) (area : Int) (p : Vec) (v : Value) (w : World) (hv : MV w v area F) (hF : smallV F) (hn : F.length ≤ 8) (hp : inV 100000000000 p) :
    Calls Try.prog 64 #[v, .agg #[.int .i64 p.x, .int .i64 p.y]] w fun e w' => ∃ x y : Int, e = .returned (.tuple #[.agg #[.int .i64 x, .int .i64 y], .bool (!balL F p)]) ∧ (balL F p = true → x = 0 ∧ y = 0) ∧ (balL F p = false → helpL F ⟨x, y⟩ < dotV ⟨x, y⟩ p ∧ inV 500000 ⟨x, y⟩) ∧ Step w w' := by
  have hv0 := hv
  obtain ⟨b, p2, n2, k2, p3, k3, rfl, hsl⟩ := hv
  obtain ⟨W0, hW0⟩ : ∃ W, W = ((w.alloc (.cells #[.int .i64 area, .int .i64 b, .slice p2 n2 k2, .slice p3 F.length k3] 117)).alloc (.cells #[.int .i64 p.x, .int .i64 p.y] 40)).alloc (.cells #[.int .i64 0, .int .i64 0] 40) := ⟨_, rfl⟩
  have hb1 : Bx W0 w.heap.size [.int .i64 area, .int .i64 b, .slice p2 n2 k2, .slice p3 F.length k3] 117 := by subst hW0; exact ((Bx.new w [_, _, _, _] _).alloc _).alloc _
  have hb2 : Bx W0 (w.heap.size + 1) [.int .i64 p.x, .int .i64 p.y] 40 := by subst hW0; exact (Bx.new' _ [_, _] _ _ (by simp)).alloc _
  have hb3 : Bx W0 (w.heap.size + 2) [.int .i64 0, .int .i64 0] 40 := by subst hW0; exact Bx.new' _ [_, _] _ _ (by simp)
  have hS : Step w W0 := by subst hW0; exact (by repeat (first | (with_reducible assumption) | (with_reducible exact Step.refl _) | (with_reducible apply Step.s_alloc) | (with_reducible apply Step.s_drew) | (with_reducible apply Step.s_drewN) | (with_reducible refine Step.trans ?_ (by with_reducible assumption))))
  have HB1 := Lib.hid hb1
  have HB2 := Lib.hid hb2
  have HB3 := Lib.hid hb3
  have HV := Lib.hid (hv0.step hS)
  have HS := Lib.hid hS
  have HW := Lib.hid hW0
  have HF := Lib.hid hF
  have HPP := Lib.hid hp
  clear hS hb1 hb2 hb3 hW0 hF hp hv0 hsl
  go_enter Try.func64, Try.ntmps64
  go_wp2_with fail
  rw [show w.heap.size + 1 + 1 = w.heap.size + 2 from rfl, ← HW.out]
  refine (ways_any F area _ _ HV.out HF.out hn).mono ?_
  rintro e w1 ⟨vw, rfl, hvw, hS1⟩
  have hwl := waysP_len (F := F)
  obtain ⟨WY, hWY⟩ : ∃ L, L = waysP F := ⟨_, rfl⟩
  rw [← hWY] at hvw hwl
  have HWY := Lib.hid hWY
  obtain ⟨pw, kw, bw, ow, rfl, _, hmw, hpw, hcw, _⟩ := hvw.vecs
  have HPW := Lib.hid (And.intro hpw hcw)
  have HS1 := Lib.hid hS1
  have HT0 := Lib.hid (Step.refl w1)
  clear hWY hvw hpw hcw hS1
  go_wp2
  go_loopw [11] (fun i wr => ∃ k : Nat, k ≤ WY.length ∧ i = .int .i64 k ∧ (∀ j (hj : j < k) (hl : j < WY.length), strongB F p WY[j] = false) ∧ Step w1 wr) (fun i _ => WY.length - (intOf i).toNat)
  case atStart => exact ⟨0, Nat.zero_le _, rfl, fun j hj => absurd hj (by omega), HT0.out⟩
  case round =>
    obtain ⟨k, hk, rfl, hno, hT⟩ := hrel
    have HN := Lib.hid hno
    have HT := Lib.hid hT
    clear hno hT
    by_cases hlt : k < WY.length
    · obtain rfl := HPW.out.1 (by omega)
      obtain ⟨e1, e2⟩ := HPW.out.2 k hlt
      have e1 := HT.out.keeps.cell id e1
      have e2 := HT.out.keeps.cell id e2
      have hix : (0 : Int) ≤ (k : Int) ∧ (k : Int) < (WY.length : Int) := by omega
      have hin : inV 500000 WY[k] := ways_in HF.out _ (by rw [← HWY.out]; exact List.getElem_mem hlt)
      obtain ⟨g, hg⟩ : ∃ g, g = WY[k] := ⟨_, rfl⟩
      rw [← hg] at e1 e2 hin
      have HG := Lib.hid hg
      have hdf := dot_fits hin HPP.out (by decide)
      have HDF := Lib.hid (And.intro hin hdf)
      clear hg hin hdf
      go_upto_region 4 with (fail)
      obtain ⟨wa, hwa⟩ : ∃ W, W = wr.alloc (.cells #[.int .i64 g.x, .int .i64 g.y] 40) := ⟨_, rfl⟩
      rw [← hwa]
      have hga : Bx wa wr.heap.size [.int .i64 g.x, .int .i64 g.y] 40 := by rw [hwa]; exact Bx.new wr [_, _] _
      have hsa : Step W0 wa := by rw [hwa]; exact (HS1.out.trans HT.out).trans (Step.alloc _ _)
      have hsb : Step w1 wa := by rw [hwa]; exact HT.out.trans (Step.alloc _ _)
      have HGA := Lib.hid hga
      have HSA := Lib.hid (And.intro hsa hsb)
      clear hwa hga hsa hsb e1 e2 HT
      refine wp_region_seq (kdOf [2, 5] []) [0, 0, 3, 0, 0, 31, 63] [0, 1, 3, 4, 2, 5, 6] [] (by kernel_rfl) (by kernel_rfl) (fun i T z hi hk => by simp [kdOf] at hk <;> (try (split at hk <;> cases hk))) ?_
      intro Wx hWx
      have HT := Lib.hid hWx
      clear hWx
      have g0 := (HGA.out.step HT.out).cell 0
      have g1 := (HGA.out.step HT.out).cell 1
      have q0 := (HB2.out.step (HSA.out.1.trans HT.out)).cell 0
      have q1 := (HB2.out.step (HSA.out.1.trans HT.out)).cell 1
      obtain ⟨m0, m1, m2, m3⟩ := cells4 (HB1.out.step (HSA.out.1.trans HT.out))
      simp only [List.getElem?_cons_zero, List.getElem?_cons_succ] at g0 g1 q0 q1
      repeat (first | (refine run_off rfl rfl (by rfl) ?_; (try simp only [Act.put, List.setIfInBounds_toArray, List.set_cons_zero, List.set_cons_succ])) | (refine run_chain_off rfl rfl (by rfl) (K0_mono _) ?_; (try simp only [Act.put, List.setIfInBounds_toArray, List.set_cons_zero, List.set_cons_succ])) | ((refine run_want rfl rfl (by rfl) ⟨?_, fun W hW => ?_, ?_⟩; rotate_left; (· (have d0 := hW.keeps.cell id g0; have d1 := hW.keeps.cell id g1; have d2 := hW.keeps.cell id q0; have d3 := hW.keeps.cell id q1; have d4 := hW.keeps.cell id m0; have d5 := hW.keeps.cell id m1; have d6 := hW.keeps.cell id m2; have d7 := hW.keeps.cell id m3; go_simp; (try with_reducible rfl)))); (try simp only [Act.put, List.setIfInBounds_toArray, List.set_cons_zero, List.set_cons_succ])))
      refine run_chain rfl rfl (by rfl) (fun Wi hWi K' hK => ?_)
      have HTi := Lib.hid (HT.out.trans hWi)
      have HZW := Lib.hid HTi.out.size
      clear hWi HT
      go_simp
      refine (dot_any g p _ HDF.out.2.1 HDF.out.2.2.1 HDF.out.2.2.2.1).mono ?_
      rintro e wn ⟨rfl, hSn⟩
      have HT := Lib.hid (HTi.out.trans (StepX.of hSn))
      clear HTi
      refine hK _ _ (StepX.of hSn) ?_
      clear hSn
      (try simp only [Act.put, List.setIfInBounds_toArray, List.set_cons_zero, List.set_cons_succ])
      clear g0 g1 q0 q1 m0 m1 m2 m3
      have g0 := (HGA.out.step HT.out).cell 0
      have g1 := (HGA.out.step HT.out).cell 1
      obtain ⟨m0, m1, m2, m3⟩ := cells4 (HB1.out.step (HSA.out.1.trans HT.out))
      simp only [List.getElem?_cons_zero, List.getElem?_cons_succ] at g0 g1
      repeat (first | (refine run_off rfl rfl (by rfl) ?_; (try simp only [Act.put, List.setIfInBounds_toArray, List.set_cons_zero, List.set_cons_succ])) | (refine run_chain_off rfl rfl (by rfl) (K0_mono _) ?_; (try simp only [Act.put, List.setIfInBounds_toArray, List.set_cons_zero, List.set_cons_succ])) | ((refine run_want rfl rfl (by rfl) ⟨?_, fun W hW => ?_, ?_⟩; rotate_left; (· (have d0 := hW.keeps.cell id g0; have d1 := hW.keeps.cell id g1; have d2 := hW.keeps.cell id m0; have d3 := hW.keeps.cell id m1; have d4 := hW.keeps.cell id m2; have d5 := hW.keeps.cell id m3; go_simp; (try with_reducible rfl)))); (try simp only [Act.put, List.setIfInBounds_toArray, List.set_cons_zero, List.set_cons_succ])))
      refine run_chain rfl rfl (by rfl) (fun Wi hWi K' hK => ?_)
      have HTi := Lib.hid (HT.out.trans hWi)
      have HZW := Lib.hid HTi.out.size
      clear hWi HT
      go_simp
      refine (help_any F area g _ _ (HV.out.step (HSA.out.1.trans HTi.out)) HF.out hn (HDF.out.1.mono (by decide))).mono ?_
      rintro e wn ⟨rfl, hSn⟩
      have HT := Lib.hid (HTi.out.trans (StepX.of hSn))
      clear HTi
      refine hK _ _ (StepX.of hSn) ?_
      clear hSn
      (try simp only [Act.put, List.setIfInBounds_toArray, List.set_cons_zero, List.set_cons_succ])
      clear g0 g1 m0 m1 m2 m3
      repeat (first | (refine run_off rfl rfl (by rfl) ?_; (try simp only [Act.put, List.setIfInBounds_toArray, List.set_cons_zero, List.set_cons_succ])) | (refine run_chain_off rfl rfl (by rfl) (K0_mono _) ?_; (try simp only [Act.put, List.setIfInBounds_toArray, List.set_cons_zero, List.set_cons_succ])) | ((refine run_want rfl rfl (by rfl) ⟨?_, fun W hW => ?_, ?_⟩; rotate_left; (· (skip; go_simp; (try with_reducible rfl)))); (try simp only [Act.put, List.setIfInBounds_toArray, List.set_cons_zero, List.set_cons_succ])))
      refine run_end (L := []) rfl (fun W6 hW6 => ?_)
      have HT6 := Lib.hid (HT.out.trans hW6)
      clear hW6 HT
      have HT := HT6
      clear HT6
      have HT2 := Lib.hid (HSA.out.2.trans HT.out)
      have g0 := (HGA.out.step HT.out).cell 0
      have g1 := (HGA.out.step HT.out).cell 1
      simp only [List.getElem?_cons_zero, List.getElem?_cons_succ] at g0 g1
      obtain ⟨cc, hcc⟩ : ∃ c, c = decide (helpL F g < dotV g p) := ⟨_, rfl⟩
      rw [← hcc]
      cases cc with
      | true =>
        have hst : helpL F g < dotV g p := by simpa using hcc.symm
        have hd : decide (helpL F g < dotV g p) = true := hcc.symm
        have HB := Lib.hid (show balL F p = false by
          rw [balL_ways, Bool.not_eq_false', ← HWY.out]
          exact List.any_eq_true.2 ⟨_, List.getElem_mem hlt, by rw [← HG.out]; exact hd⟩)
        have HST := Lib.hid hst
        obtain ⟨z0, z1⟩ : W6.frozen? ⟨w.heap.size + 2, 0, none⟩ = false ∧ W6.frozen? ⟨w.heap.size + 2, 1, none⟩ = false := ⟨(HB3.out.step (HSA.out.1.trans HT.out)).frozen 0, (HB3.out.step (HSA.out.1.trans HT.out)).frozen 1⟩
        have y0 := (HB3.out.step (HSA.out.1.trans HT.out)).cell 0
        have y1 := (HB3.out.step (HSA.out.1.trans HT.out)).cell 1
        simp only [List.getElem?_cons_zero, List.getElem?_cons_succ] at y0 y1
        clear hst hd hcc
        go_wp2
        have b2 := set2 (HB3.out.step (HSA.out.1.trans HT.out)) (.int .i64 g.x) (.int .i64 g.y)
        exact ret_struct2 (k := 2) rfl siVec rfl b2.1 rfl rfl ⟨g.x, g.y, by rw [HB.out]; rfl, by rw [HB.out]; simp, fun _ => ⟨HST.out, HDF.out.1⟩, StepX.fresh (HS.out.trans (HSA.out.1.trans HT.out)) b2.2 (fun j hj => by omega)⟩
      | false =>
        have hd : decide (helpL F g < dotV g p) = false := hcc.symm
        have HQ := Lib.hid (show strongB F p WY[k] = false by rw [← HG.out]; exact hd)
        clear hd hcc
        go_wp2
        go_roundw
        case rel => exact ⟨k + 1, by omega, by go_num, fun j hj hl => if h : j = k then by subst h; exact HQ.out else HN.out j (by omega) hl, HT2.out⟩
        case measure => simp [intOf]; omega
    · have HB := Lib.hid (show balL F p = true by
        rw [balL_ways, Bool.not_eq_true', ← HWY.out, List.any_eq_false]
        intro y hy
        obtain ⟨j, hj, rfl⟩ := List.getElem_of_mem hy
        rw [HN.out j (by omega) hj]; decide)
      have hb3 := HB3.out.step (HS1.out.trans HT.out)
      have z0 := hb3.frozen 0
      have z1 := hb3.frozen 1
      have y0 := hb3.cell 0
      have y1 := hb3.cell 1
      simp only [List.getElem?_cons_zero, List.getElem?_cons_succ] at y0 y1
      have HB4 := Lib.hid hb3
      clear hb3
      go_wp2
      have b2 := set2 HB4.out (.int .i64 0) (.int .i64 0)
      exact ret_struct2 (k := 2) rfl siVec rfl b2.1 rfl rfl ⟨0, 0, by rw [HB.out]; rfl, fun _ => ⟨rfl, rfl⟩, by rw [HB.out]; simp, StepX.fresh (HS.out.trans (HS1.out.trans HT.out)) b2.2 (fun j hj => by omega)⟩
end Go.Proofs.Ytdcjbbeoocldeaa
/- Walks: whether forces balance a push, by the document. -/
namespace Go.Proofs.Ytdcjbbeoocldeaa
set_option linter.unusedSimpArgs false
set_option linter.unusedVariables false
open Go.RowKit Go.BT

theorem own_vecs (S : Nat → Prop) (w : World) (e : TypeId) (m : List Vec) (hm : m.length ≤ 1000) : OwnL S w.heap.size e (w.alloc (.cells (cellsV m).toArray e)) (.slice (some ⟨w.heap.size, 0, none⟩) m.length m.length) m :=
  ⟨cellsV m, ⟨cellsV_len m, .inr ⟨w.heap.size, m.length, (cellsV m).toArray, rfl, Nat.le_refl _, Bx.new w (cellsV m) e, Nat.le_refl _, by simp only [maxLen]; omega, by simp [cellsV_len]; rfl, by
    show ((cellsV m).toArray).toList.take (m.length * 2) = cellsV m
    rw [List.take_of_length_le (by simp [cellsV_len])]⟩⟩, fun i hi => by
    show ((cellsV m).drop (i * 2)).take 2 = _
    rw [cellsV_drop m i hi]; rfl⟩
theorem sle_rvecs (S : Nat → Prop) (w : World) (m : List Vec) (hm : m.length ≤ 1000) : SLe S (w.alloc (.cells (cellsV m).toArray 26)) (.slice (some ⟨w.heap.size, 0, none⟩) m.length m.length) m := by
  refine ⟨_, m.length, w.heap.size, 0, rfl, Nat.le_refl _, by omega, fun _ => rfl, fun i hi => ⟨[.int .i64 m[i].x, .int .i64 m[i].y], rfl, fun j u hj => ?_⟩⟩
  show (w.alloc _).cell? ⟨w.heap.size, 0 + i * 2 + j, none⟩ = some u
  rw [World.cell?_alloc_new, Nat.zero_add]
  have hd := cellsV_drop m i hi
  have : (cellsV m)[i * 2 + j]? = some u := by
    rw [← List.getElem?_drop, hd]
    match j, hj with
    | 0, hj => exact hj
    | 1, hj => exact hj
    | j + 2, hj => simp at hj
  simpa using this
def wayA (f : Vec) : List Vec := [f, timesV f (-1), ⟨-f.y, f.x⟩, ⟨f.y, -f.x⟩]
def waysA (F : List Vec) (k : Nat) : List Vec := axesV ++ (F.take k).flatMap wayA
theorem waysA_all (F : List Vec) : waysA F F.length = waysL F := by unfold waysA waysL; rw [List.take_length]; rfl
theorem waysA_step {F : List Vec} {k : Nat} (hk : k < F.length) : waysA F (k + 1) = waysA F k ++ wayA F[k] := by
  unfold waysA
  rw [List.take_succ_eq_append_getElem hk, List.flatMap_append, List.append_assoc]
  simp
theorem waysA_len {F : List Vec} : ∀ {k : Nat}, k ≤ F.length → (waysA F k).length = 4 + k * 4
  | 0, _ => by simp [waysA, axesV]
  | k + 1, hk => by
    rw [waysA_step (by omega), List.length_append, waysA_len (F := F) (k := k) (by omega)]
    simp [wayA]; omega
theorem waysL_in {F : List Vec} (hF : smallV F) : ∀ w ∈ waysL F, inV 500000 w := fun w hw => by
  rcases List.mem_append.1 hw with hw | hw
  · simp at hw
    rcases hw with rfl | rfl | rfl | rfl <;> simp [inV]
  · obtain ⟨f, hf, hw⟩ := List.mem_flatMap.1 hw
    have hs := hF f hf
    simp [timesV] at hw
    rcases hw with rfl | rfl | rfl | rfl <;> simp only [inV] <;> omega
set_option maxRecDepth 100000 in
set_option maxHeartbeats 8000000 in
theorem Balances_any (S : Nat → Prop) (F : List Vec) (p : Vec) (v : Value) (w : World) (hv : SL S w v F) (hF : smallV F) (hn : F.length ≤ 8) (hp : inV 100000000000 p) :
    Calls Try.prog 23 #[v, .agg #[.int .i64 p.x, .int .i64 p.y]] w fun e w' => e = .returned (.bool (balL F p)) ∧ Step w w' := by
  obtain ⟨p3, k3, b3, o3, rfl, _, hm, hpp, hc, _⟩ := hv.vecs
  obtain ⟨W0, hW0⟩ : ∃ W, W = w.alloc (.cells #[.int .i64 p.x, .int .i64 p.y] 26) := ⟨_, rfl⟩
  have hb : Bx W0 w.heap.size [.int .i64 p.x, .int .i64 p.y] 26 := by subst hW0; exact Bx.new w [_, _] _
  have hS : Step w W0 := by subst hW0; exact (by repeat (first | (with_reducible assumption) | (with_reducible exact Step.refl _) | (with_reducible apply Step.s_alloc) | (with_reducible apply Step.s_drew) | (with_reducible apply Step.s_drewN) | (with_reducible refine Step.trans ?_ (by with_reducible assumption))))
  have hz : W0.heap.size = w.heap.size + 1 := by subst hW0; simp
  have HBX := Lib.hid hb
  have HS := Lib.hid hS
  have HZ := Lib.hid hz
  have HW := Lib.hid hW0
  have HF := Lib.hid hF
  have HP := Lib.hid (And.intro hpp hc)
  have HV := Lib.hid hv
  have HPP := Lib.hid hp
  have HKL := Lib.hid hn
  clear hS hb hz hW0 hF hpp hc hp hv
  go_enter Try.func23, Try.ntmps23
  go_wp2
  rw [← HW.out]
  go_loopw [5, 6] (fun out i wr => ∃ k : Nat, k ≤ F.length ∧ i = .int .i64 k ∧ OwnL (fun _ => False) W0.heap.size 26 wr out (waysA F k) ∧ Below W0.heap.size W0 wr) (fun _ i _ => F.length - (intOf i).toNat)
  case atStart =>
    refine ⟨0, Nat.zero_le _, rfl, ?_, (Step.alloc _ _).below⟩
    rw [show waysA F 0 = axesV by simp [waysA], ← HZ.out]
    exact own_vecs _ W0 _ axesV (by decide)
  case round =>
    obtain ⟨k, hk, rfl, hown, hB⟩ := hrel
    have HT := Lib.hid (Step.of hB)
    have HB := Lib.hid hB
    have HO := Lib.hid hown
    obtain ⟨LL, hLL⟩ : ∃ L, L = waysA F k := ⟨_, rfl⟩
    rw [← hLL] at hown
    obtain ⟨pu, cu, rfl, _⟩ := hown.form
    have HLL := Lib.hid hLL
    clear hown hLL hB
    by_cases hlt : k < F.length
    · obtain rfl := HP.out.1 (by omega)
      obtain ⟨e1, e2⟩ := HP.out.2 k hlt
      have e1 := (HS.out.trans HT.out).keeps.cell id e1
      have e2 := (HS.out.trans HT.out).keeps.cell id e2
      have hix : (0 : Int) ≤ (k : Int) ∧ (k : Int) < (F.length : Int) := by omega
      have hb := small_get HF.out hlt
      obtain ⟨g, hg⟩ : ∃ g, g = F[k] := ⟨_, rfl⟩
      rw [← hg] at e1 e2 hb
      have hwk := Lib.hid (show waysA F (k + 1) = waysA F k ++ [g, timesV g (-1), ⟨-g.y, g.x⟩, ⟨g.y, -g.x⟩] by rw [waysA_step hlt, ← hg]; rfl)
      obtain ⟨gx, gy⟩ := g
      have hb : (-500000 ≤ gx ∧ gx ≤ 500000) ∧ -500000 ≤ gy ∧ gy ≤ 500000 := hb
      dsimp only at e1 e2 hwk
      have hwy : IntKind.i64.wrap (-gy) = -gy := by rw [IntKind.wrap_i64]; omega
      have hwx : IntKind.i64.wrap (-gx) = -gx := by rw [IntKind.wrap_i64]; omega
      have hf1 : fits (-1 * gx) := by unfold fits; omega
      have hf2 : fits (-1 * gy) := by unfold fits; omega
      clear hg hb
      go_upto_region 6 with (fail)
      obtain ⟨wa, hwa⟩ : ∃ W, W = wr.alloc (.cells #[.int .i64 gx, .int .i64 gy] 26) := ⟨_, rfl⟩
      rw [← hwa]
      have hga : Bx wa wr.heap.size [.int .i64 gx, .int .i64 gy] 26 := by rw [hwa]; exact Bx.new wr [_, _] _
      have hsa : Step wr wa := by rw [hwa]; exact Step.alloc _ _
      have HGA := Lib.hid hga
      have HSA := Lib.hid hsa
      clear hwa hga hsa e1 e2 HT
      refine wp_region_seq (kdOf [3, 16] []) [0, 0, 0, 4, 0, 16, 48, 0, 128, 496, 0, 1024, 0, 4096, 12288, 31744, 65534, 131071, 262143] [0, 1, 2, 4, 5, 6, 7, 8, 9, 10, 11, 12, 13, 14, 15, 3, 16] [17, 18] (by kernel_rfl) (by kernel_rfl) (fun i T z hi hk => by simp [kdOf] at hk <;> (try (split at hk <;> cases hk))) ?_
      intro Wx hWx
      have HT := Lib.hid hWx
      clear hWx
      have g0 := (HGA.out.step HT.out).cell 0
      have g1 := (HGA.out.step HT.out).cell 1
      simp only [List.getElem?_cons_zero, List.getElem?_cons_succ] at g0 g1
      repeat (first | (refine run_off rfl rfl (by rfl) ?_; (try simp only [Act.put, List.setIfInBounds_toArray, List.set_cons_zero, List.set_cons_succ])) | (refine run_chain_off rfl rfl (by rfl) (K0_mono _) ?_; (try simp only [Act.put, List.setIfInBounds_toArray, List.set_cons_zero, List.set_cons_succ])) | ((refine run_want rfl rfl (by rfl) ⟨?_, fun W hW => ?_, ?_⟩; rotate_left; (· (have d0 := hW.keeps.cell id g0; have d1 := hW.keeps.cell id g1; go_simp; (try with_reducible rfl)))); (try simp only [Act.put, List.setIfInBounds_toArray, List.set_cons_zero, List.set_cons_succ])))
      refine run_chain rfl rfl (by rfl) (fun Wi hWi K' hK => ?_)
      have HTi := Lib.hid (HT.out.trans hWi)
      have HZW := Lib.hid HTi.out.size
      clear hWi HT
      go_simp
      refine (Times_any ⟨gx, gy⟩ (-1) _ hf1 hf2).mono ?_
      rintro e wn ⟨rfl, hSn⟩
      have HT := Lib.hid (HTi.out.trans (StepX.of hSn))
      clear HTi
      refine hK _ _ (StepX.of hSn) ?_
      clear hSn
      (try simp only [Act.put, List.setIfInBounds_toArray, List.set_cons_zero, List.set_cons_succ])
      clear g0 g1
      have g0 := (HGA.out.step HT.out).cell 0
      have g1 := (HGA.out.step HT.out).cell 1
      simp only [List.getElem?_cons_zero, List.getElem?_cons_succ] at g0 g1
      repeat (first | (refine run_off rfl rfl (by rfl) ?_; (try simp only [Act.put, List.setIfInBounds_toArray, List.set_cons_zero, List.set_cons_succ])) | (refine run_chain_off rfl rfl (by rfl) (K0_mono _) ?_; (try simp only [Act.put, List.setIfInBounds_toArray, List.set_cons_zero, List.set_cons_succ])) | ((refine run_want rfl rfl (by rfl) ⟨?_, fun W hW => ?_, ?_⟩; rotate_left; (· (have d0 := hW.keeps.cell id g0; have d1 := hW.keeps.cell id g1; go_simp; (try with_reducible rfl)))); (try simp only [Act.put, List.setIfInBounds_toArray, List.set_cons_zero, List.set_cons_succ])))
      refine run_chain rfl rfl (by rfl) (fun W1 hW1 K' hK' => ?_)
      go_simp
      refine hK' _ _ (.of (Step.alloc _ _)) ?_
      (try simp only [Act.put, List.setIfInBounds_toArray, List.set_cons_zero, List.set_cons_succ])
      refine run_end (L := [_, _]) rfl (fun W2 hW2 => ?_)
      obtain ⟨mm, hmm⟩ : ∃ m : List Vec, m = [⟨gx, gy⟩, timesV ⟨gx, gy⟩ (-1), ⟨-gy, gx⟩, ⟨gy, -gx⟩] := ⟨_, rfl⟩
      have hml : mm.length = 4 := by rw [hmm]; rfl
      have hs1 := (HSA.out.trans HT.out).trans hW1
      have hW3 : Step (W1.alloc (.cells (cellsV mm).toArray 26)) W2 := by rw [hmm]; exact hW2
      have hu := (sle_rvecs (avoid (fun _ => False) (.slice pu LL.length cu)) W1 mm (by omega)).step hW3
      have hst : Step wr W2 := (hs1.trans (Step.alloc _ (.cells (cellsV mm).toArray 26))).trans hW3
      have hov := HO.out.step hst
      rw [hml] at hu
      have hB2 := HB.out.step (Nat.le_refl _) hst
      have HML := Lib.hid hml
      have HMM := Lib.hid hmm
      have HST := Lib.hid hst
      clear hW1 hW2 hW3 hK' hs1 hst hml hmm
      go_wp2_with (at_builtin; refine wpl_append (α := Vec) (S := fun _ => False) (base := W0.heap.size) (v := .slice pu LL.length cu) (l := waysA F k) (m := mm) eiRVecs rfl _ _ rfl rfl rfl hov hu _ rfl _ rfl (by have := HML.out; have := waysA_len hk; have := HKL.out; simp only [maxLen]; omega) (by have := HML.out; have := waysA_len hk; have := HKL.out; omega) (by have := hB2.size; omega) ?_)
      intro p' c' w3 hown hg
      have hB3 := hB2.grown hg hB2.size (fun j hj => (HO.out.lt j hj).1)
      have hr : OwnL (fun _ => False) W0.heap.size 26 w3 (.slice p' ((waysA F k).length + mm.length) c') (waysA F (k + 1)) := by rw [hwk.out, ← HMM.out]; exact hown
      have H3 := Lib.hid (And.intro hr hB3)
      clear hu hov hown hg hB3 hr hwk hB2
      go_wp2
      go_roundw
      case rel => exact ⟨k + 1, by omega, by go_num, H3.out.1, H3.out.2⟩
      case measure => simp [intOf]; omega
    · have HN := Lib.hid (show LL = waysL F by rw [HLL.out, ← waysA_all]; congr 1; omega)
      have hwl : LL.length ≤ 36 := by rw [HLL.out, waysA_len hk]; have := HKL.out; omega
      have hsl := HO.out.slb (fun _ _ h => h.elim)
      rw [← HLL.out] at hsl
      obtain ⟨pw, kw, bw, ow, hew, _, hmw, hpw, hcw, _⟩ := hsl.vecs
      injection hew with he1 _ he3
      subst he1 he3
      have HPW := Lib.hid (And.intro hpw hcw)
      have HT1 := Lib.hid (HS.out.trans HT.out)
      have HT0 := Lib.hid (Step.refl wr)
      have HBW := Lib.hid (HBX.out.step HT.out)
      have HVW := Lib.hid (HV.out.keep (.of_step (HS.out.trans HT.out)))
      clear hsl hpw hcw HO HT HB
      go_wp2
      obtain ⟨wo, hwo⟩ : ∃ W, W = wr := ⟨_, rfl⟩
      subst hwo
      go_loopw [8] (fun i wr => ∃ k : Nat, k ≤ LL.length ∧ i = .int .i64 k ∧ (∀ j (hj : j < k) (hl : j < LL.length), dotV LL[j] p ≤ helpL F LL[j]) ∧ Step wo wr) (fun i _ => LL.length - (intOf i).toNat)
      case atStart => exact ⟨0, Nat.zero_le _, rfl, fun j hj => absurd hj (by omega), HT0.out⟩
      case round =>
        obtain ⟨k, hk, rfl, hno, hT⟩ := hrel
        have HNO := Lib.hid hno
        have HT := Lib.hid hT
        clear hno hT
        by_cases hlt : k < LL.length
        · obtain rfl := HPW.out.1 (by omega)
          obtain ⟨e1, e2⟩ := HPW.out.2 k hlt
          have hix : (0 : Int) ≤ (k : Int) ∧ (k : Int) < (LL.length : Int) := by omega
          have hin : inV 500000 LL[k] := waysL_in HF.out _ (by rw [← HN.out]; exact List.getElem_mem hlt)
          obtain ⟨g, hg⟩ : ∃ g, g = LL[k] := ⟨_, rfl⟩
          rw [← hg] at e1 e2 hin
          have HG := Lib.hid hg
          have hdf := dot_fits hin HPP.out (by decide)
          have HDF := Lib.hid (And.intro hin hdf)
          have HE := Lib.hid (And.intro e1 e2)
          clear hg hin hdf e1 e2
          go_upto_region 10 with (fail)
          refine wp_region_seq (kdOf [5, 11] []) [0, 0, 3, 7, 0, 31, 0, 0, 0, 384, 896, 2047, 4095] [0, 1, 2, 3, 4, 6, 7, 8, 9, 10, 5, 11, 12] [] (by kernel_rfl) (by kernel_rfl) (fun i T z hi hk => by simp [kdOf] at hk <;> (try (split at hk <;> cases hk))) ?_
          intro Wx hWx
          have HTx := Lib.hid (HT.out.trans hWx)
          clear hWx HT
          have HT := HTx
          clear HTx
          have g0 := HT.out.keeps.cell id HE.out.1
          have g1 := HT.out.keeps.cell id HE.out.2
          have q0 := (HBW.out.step HT.out).cell 0
          have q1 := (HBW.out.step HT.out).cell 1
          simp only [List.getElem?_cons_zero, List.getElem?_cons_succ] at q0 q1
          repeat (first | (refine run_off rfl rfl (by rfl) ?_; (try simp only [Act.put, List.setIfInBounds_toArray, List.set_cons_zero, List.set_cons_succ])) | (refine run_chain_off rfl rfl (by rfl) (K0_mono _) ?_; (try simp only [Act.put, List.setIfInBounds_toArray, List.set_cons_zero, List.set_cons_succ])) | ((refine run_want rfl rfl (by rfl) ⟨?_, fun W hW => ?_, ?_⟩; rotate_left; (· (have d0 := hW.keeps.cell id g0; have d1 := hW.keeps.cell id g1; have d2 := hW.keeps.cell id q0; have d3 := hW.keeps.cell id q1; go_simp; (try with_reducible rfl)))); (try simp only [Act.put, List.setIfInBounds_toArray, List.set_cons_zero, List.set_cons_succ])))
          refine run_chain rfl rfl (by rfl) (fun Wi hWi K' hK => ?_)
          have HTi := Lib.hid (HT.out.trans hWi)
          have HZW := Lib.hid HTi.out.size
          clear hWi HT
          go_simp
          refine (Dot_any g p _ HDF.out.2.1 HDF.out.2.2.1 HDF.out.2.2.2.1).mono ?_
          rintro e wn ⟨rfl, hSn⟩
          have HT := Lib.hid (HTi.out.trans (StepX.of hSn))
          clear HTi
          refine hK _ _ (StepX.of hSn) ?_
          clear hSn
          (try simp only [Act.put, List.setIfInBounds_toArray, List.set_cons_zero, List.set_cons_succ])
          clear g0 g1 q0 q1
          have g0 := HT.out.keeps.cell id HE.out.1
          have g1 := HT.out.keeps.cell id HE.out.2
          repeat (first | (refine run_off rfl rfl (by rfl) ?_; (try simp only [Act.put, List.setIfInBounds_toArray, List.set_cons_zero, List.set_cons_succ])) | (refine run_chain_off rfl rfl (by rfl) (K0_mono _) ?_; (try simp only [Act.put, List.setIfInBounds_toArray, List.set_cons_zero, List.set_cons_succ])) | ((refine run_want rfl rfl (by rfl) ⟨?_, fun W hW => ?_, ?_⟩; rotate_left; (· (have d0 := hW.keeps.cell id g0; have d1 := hW.keeps.cell id g1; go_simp; (try with_reducible rfl)))); (try simp only [Act.put, List.setIfInBounds_toArray, List.set_cons_zero, List.set_cons_succ])))
          refine run_chain rfl rfl (by rfl) (fun Wi hWi K' hK => ?_)
          have HTi := Lib.hid (HT.out.trans hWi)
          have HZW := Lib.hid HTi.out.size
          clear hWi HT
          go_simp
          refine (Help_any S F g _ _ (HVW.out.keep (.of_step HTi.out)) HF.out HKL.out (HDF.out.1.mono (by decide))).mono ?_
          rintro e wn ⟨rfl, hSn⟩
          have HT := Lib.hid (HTi.out.trans (StepX.of hSn))
          clear HTi
          refine hK _ _ (StepX.of hSn) ?_
          clear hSn
          (try simp only [Act.put, List.setIfInBounds_toArray, List.set_cons_zero, List.set_cons_succ])
          clear g0 g1
          repeat (first | (refine run_off rfl rfl (by rfl) ?_; (try simp only [Act.put, List.setIfInBounds_toArray, List.set_cons_zero, List.set_cons_succ])) | (refine run_chain_off rfl rfl (by rfl) (K0_mono _) ?_; (try simp only [Act.put, List.setIfInBounds_toArray, List.set_cons_zero, List.set_cons_succ])) | ((refine run_want rfl rfl (by rfl) ⟨?_, fun W hW => ?_, ?_⟩; rotate_left; (· (skip; go_simp; (try with_reducible rfl)))); (try simp only [Act.put, List.setIfInBounds_toArray, List.set_cons_zero, List.set_cons_succ])))
          refine run_end (L := []) rfl (fun W6 hW6 => ?_)
          have HT6 := Lib.hid (HT.out.trans hW6)
          clear hW6 HT
          have HT := HT6
          clear HT6
          obtain ⟨cc, hcc⟩ : ∃ c, c = decide (helpL F g < dotV g p) := ⟨_, rfl⟩
          rw [← hcc]
          cases cc with
          | true =>
            have hst : helpL F g < dotV g p := by simpa using hcc.symm
            have HBA := Lib.hid (show balL F p = false by
              unfold balL
              rw [List.all_eq_false]
              refine ⟨g, by rw [← HN.out, HG.out]; exact List.getElem_mem hlt, ?_⟩
              rw [decide_eq_true_eq]; omega)
            clear hst hcc
            go_wp2
            go_ret
            exact ⟨by rw [HBA.out]; rfl, HT1.out.trans HT.out⟩
          | false =>
            have hst : ¬ helpL F g < dotV g p := by simpa using hcc.symm
            have HQ := Lib.hid (show dotV LL[k] p ≤ helpL F LL[k] by rw [← HG.out]; omega)
            clear hst hcc
            go_wp2
            go_roundw
            case rel => exact ⟨k + 1, by omega, by go_num, fun j hj hl => if h : j = k then by subst h; exact HQ.out else HNO.out j (by omega) hl, HT.out⟩
            case measure => simp [intOf]; omega
        · have HBA := Lib.hid (show balL F p = true by
            unfold balL
            rw [List.all_eq_true, ← HN.out]
            intro y hy
            obtain ⟨j, hj, rfl⟩ := List.getElem_of_mem hy
            exact decide_eq_true (HNO.out j (by omega) hj))
          go_wp2
          go_ret
          exact ⟨by rw [HBA.out]; rfl, HT1.out.trans HT.out⟩
end Go.Proofs.Ytdcjbbeoocldeaa
