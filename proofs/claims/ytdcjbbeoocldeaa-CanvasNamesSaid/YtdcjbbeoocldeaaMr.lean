/- CanvasParts holds of every input, and its arguments read afterwards as they did. -/
import Derived.Test.YtdcjbbeoocldeaaMk
import Derived.Test.YtdcjbbeoocldeaaMl
import Derived.Test.YtdcjbbeoocldeaaRows
/- Walks: which poles are overloaded, by the program and by the document. -/
namespace Go.Proofs.Ytdcjbbeoocldeaa
set_option linter.unusedSimpArgs false
set_option linter.unusedVariables false
open Go.RowKit Go.BT

def overB (h : Head) : Bool := decide (h.bears < downL h.guys)
def overK (t : List Head) (k : Nat) : List Int := (List.range k).filterMap fun i => if overB (t.getD i default) = true then some (i : Int) else none
def overL (t : List Head) : List Int := overK t t.length
def overR (t : List Head) : List Int := if tentC t = 0 then overL t else []
theorem overK_next {t : List Head} {k : Nat} (hk : k < t.length) : overK t (k + 1) = overK t k ++ (if overB t[k] = true then [(k : Int)] else []) := by
  unfold overK
  rw [List.range_succ, List.filterMap_append]
  congr 1
  have : t.getD k default = t[k] := by simp [List.getD_eq_getElem?_getD, hk]
  simp only [List.filterMap_cons, List.filterMap_nil, this]
  by_cases q : overB t[k] = true
  · rw [if_pos q, if_pos q]
  · rw [if_neg q, if_neg q]
theorem overK_yes {t : List Head} {k : Nat} (hk : k < t.length) (h : overB t[k] = true) : overK t (k + 1) = overK t k ++ [(k : Int)] := by rw [overK_next hk, if_pos h]
theorem overK_no {t : List Head} {k : Nat} (hk : k < t.length) (h : overB t[k] = false) : overK t (k + 1) = overK t k := by rw [overK_next hk, if_neg (by rw [h]; decide), List.append_nil]
theorem overK_len (t : List Head) (k : Nat) : (overK t k).length ≤ k := by
  have := List.length_filterMap_le (fun i => if overB (t.getD i default) = true then some ((i : Nat) : Int) else none) (List.range k)
  rw [List.length_range] at this
  exact this
theorem down_take {gs : List Guy} {j : Nat} (hj : j < gs.length) : downL (gs.take (j + 1)) = downL (gs.take j) + gs[j].down := by
  unfold downL
  rw [List.take_succ_eq_append_getElem hj, List.map_append, List.sum_append]
  simp
theorem down_bound {gs : List Guy} (hg : gs.all guyB = true) : ∀ j : Nat, j ≤ gs.length → 0 ≤ downL (gs.take j) ∧ downL (gs.take j) ≤ j * 5000
  | 0, _ => by simp [downL]
  | j + 1, h => by
    have ih := down_bound hg j (by omega)
    have hd := (guy_parts (all_get hg (show j < gs.length by omega))).2.2.2.1
    rw [down_take (by omega)]
    omega
set_option maxRecDepth 100000 in
set_option maxHeartbeats 4000000 in
theorem ROverloaded_any (S : Nat → Prop) (h : Head) (u : Value) (w : World) (hu : AV S w u h) (hh : headB h = true) :
    Calls Try.prog 37 #[u] w fun e w' => e = .returned (.bool (overB h)) ∧ Step w w' := by
  have HHD := Lib.hid (head_parts hh)
  obtain ⟨c2, rfl, h2⟩ := hu.head
  obtain ⟨pg, cg, bg, og, rfl, _, _, hpg, hcg, _⟩ := h2.guys
  obtain ⟨W0, hW0⟩ : ∃ W, W = w.alloc (.cells #[.int .i64 h.area, .int .i64 h.bears, .slice pg h.guys.length cg] 49) := ⟨_, rfl⟩
  have HB := Lib.hid (show Bx W0 w.heap.size [.int .i64 h.area, .int .i64 h.bears, .slice pg h.guys.length cg] 49 by subst hW0; exact Bx.new w [_, _, _] _)
  have HS := Lib.hid (show Step w W0 by subst hW0; exact Step.alloc _ _)
  have HW := Lib.hid hW0
  have HG := Lib.hid (And.intro hpg hcg)
  clear hW0 hpg hcg h2 hu hh
  go_enter Try.func37, Try.ntmps37
  go_wp2
  rw [← HW.out]
  go_loopw [3, 4] (fun d i wr => ∃ j : Nat, j ≤ h.guys.length ∧ i = .int .i64 j ∧ d = .int .i64 (downL (h.guys.take j)) ∧ Step W0 wr) (fun _ i _ => h.guys.length - (intOf i).toNat)
  case atStart => exact ⟨0, Nat.zero_le _, rfl, rfl, Step.refl _⟩
  case round =>
    obtain ⟨j, hj, rfl, rfl, hT⟩ := hrel
    have HT := Lib.hid hT
    clear hT
    obtain ⟨m0, m1, m2⟩ := cells3 (HB.out.step HT.out)
    by_cases hltj : j < h.guys.length
    · obtain rfl := HG.out.1 (by omega)
      obtain ⟨g1, g2, g3, g4, g5⟩ := HG.out.2 j hltj
      have hst := HS.out.trans HT.out
      have g1 := hst.keeps.cell id g1
      have g2 := hst.keeps.cell id g2
      have g3 := hst.keeps.cell id g3
      have g4 := hst.keeps.cell id g4
      have g5 := hst.keeps.cell id g5
      have hjx : (0 : Int) ≤ (j : Int) ∧ (j : Int) < (h.guys.length : Int) := by omega
      have hdn := down_take hltj
      have hbd := down_bound HHD.out.2.2.2 j hj
      have hgd := (guy_parts (all_get HHD.out.2.2.2 hltj)).2.2.2.1
      have hg8 := HHD.out.2.2.1
      obtain ⟨dn, hdd⟩ : ∃ d, d = downL (h.guys.take j) := ⟨_, rfl⟩
      obtain ⟨y, hy⟩ : ∃ y, y = h.guys[j] := ⟨_, rfl⟩
      rw [← hdd] at hbd hdn
      rw [← hdd]
      rw [← hy] at g1 g2 g3 g4 g5 hgd hdn
      have hw := show IntKind.i64.wrap (dn + y.down) = dn + y.down by rw [IntKind.wrap_i64]; omega
      have HDN := Lib.hid hdn
      clear hdn hbd hgd hdd hy
      clear hst
      go_wp2
      go_roundw
      case rel => exact ⟨j + 1, by omega, by go_num, by rw [HDN.out], HT.out⟩
      case measure => simp [intOf]; omega
    · have HN := Lib.hid (show downL (h.guys.take j) = downL h.guys by rw [List.take_of_length_le (by omega)])
      rw [HN.out]
      go_wp2
      go_ret
      exact ⟨rfl, HS.out.trans HT.out⟩
set_option maxRecDepth 100000 in
set_option maxHeartbeats 8000000 in
theorem Overloaded_any (S : Nat → Prop) (t : List Head) (u : Value) (w : World) (hu : SL S w u t) :
    Calls Try.prog 33 #[u] w fun e w' => ∃ v', e = .returned (.tuple #[v', .int .i64 (tentC t)]) ∧ SL (Old w) w' v' (overR t) ∧ Step w w' := by
  have HU := Lib.hid hu
  have hm := hu.len
  have hcall := Lib.hid (CheckTent_any S t u w hu)
  obtain ⟨pu, cu, rfl⟩ := hu.form
  clear hu
  go_enter Try.func33, Try.ntmps33
  go_wp2_with fail
  refine hcall.out.mono ?_
  rintro e w1 ⟨rfl, hS⟩
  have HS := Lib.hid hS
  obtain ⟨c, hc⟩ : ∃ c, c = tentC t := ⟨_, rfl⟩
  rw [← hc]
  have HC := Lib.hid hc
  clear hcall hS
  by_cases h0 : c = 0
  rotate_left
  · have hd : (c != 0) = true := by simpa using h0
    have HOR := Lib.hid (show overR t = [] by unfold overR; rw [← hc, if_neg h0])
    clear h0 hc
    go_wp2
    go_ret2
    exact ⟨_, by rw [← HC.out]; rfl, by rw [HOR.out]; exact SL.nil _ _, HS.out⟩
  subst h0
  have HOR := Lib.hid (show overR t = overL t by unfold overR; rw [← hc, if_pos rfl])
  have HAL := Lib.hid (tent_parts (tent_ok hc.symm))
  have htl := HAL.out.1
  obtain ⟨pt, ct, b, o, het, _, _, hp, hcc, _⟩ := (HU.out.keep (.of_step HS.out)).heads
  injection het with he1 _ he3
  subst he1 he3
  have HP := Lib.hid (And.intro hp hcc)
  clear hp hcc hc
  go_wp2
  go_loopw [5, 18] (fun out i wr => ∃ k : Nat, k ≤ t.length ∧ i = .int .i64 k ∧ OwnL (Old w1) w1.heap.size 3 wr out (overK t k) ∧ Below w1.heap.size w1 wr) (fun _ i _ => t.length - (intOf i).toNat)
  case atStart => exact ⟨0, Nat.zero_le _, rfl, OwnL.nil _ _ _ _, Below.refl _ _⟩
  case round =>
    obtain ⟨k, hk, rfl, hown, hB⟩ := hrel
    have HT := Lib.hid (Step.of hB)
    have HO := Lib.hid hown
    have HB := Lib.hid hB
    have HKL := Lib.hid (overK_len t k)
    obtain ⟨LL, hLL⟩ : ∃ L, L = overK t k := ⟨_, rfl⟩
    rw [← hLL] at hown
    obtain ⟨po, co, rfl, _⟩ := hown.form
    have HLL := Lib.hid hLL
    clear hown hB hLL
    by_cases hlt : k < t.length
    · obtain rfl := HP.out.1 (by omega)
      obtain ⟨c2, e1, e2, e3, e4⟩ := HP.out.2 k hlt
      have e1 := HT.out.keeps.cell id e1
      have e2 := HT.out.keeps.cell id e2
      have e3 := HT.out.keeps.cell id e3
      obtain ⟨pg, cg, bg, og, rfl, _, _, hpg, hcg, _⟩ := e4.guys
      have HG := Lib.hid (And.intro hpg hcg)
      have hix : (0 : Int) ≤ (k : Int) ∧ (k : Int) < (t.length : Int) := by omega
      have HHD := Lib.hid (head_parts (all_get HAL.out.2 hlt))
      have HYES := Lib.hid (fun q => overK_yes (t := t) hlt q)
      have HNO := Lib.hid (fun q => overK_no (t := t) hlt q)
      obtain ⟨h, hh⟩ : ∃ h, h = t[k] := ⟨_, rfl⟩
      rw [← hh] at e1 e2 HG HHD
      simp only [← hh] at HYES HNO e3
      clear hh e4 hpg hcg
      obtain ⟨wo, hwo⟩ : ∃ W, W = wr.alloc (.cells #[.int .i64 h.area, .int .i64 h.bears, .slice pg h.guys.length cg] 89) := ⟨_, rfl⟩
      have HHB := Lib.hid (show Bx wo wr.heap.size [.int .i64 h.area, .int .i64 h.bears, .slice pg h.guys.length cg] 89 by rw [hwo]; exact Bx.new wr [_, _, _] _)
      have HSO := Lib.hid (show Step wr wo by rw [hwo]; exact Step.alloc _ _)
      have HWO := Lib.hid hwo
      clear hwo
      go_wp2
      rw [← HWO.out]
      clear e1 e2 e3
      obtain ⟨gh, hgh⟩ : ∃ g, g = wr.heap.size := ⟨_, rfl⟩
      rw [← hgh] at HHB ⊢
      have HGH := Lib.hid hgh
      obtain ⟨wv, hwv⟩ : ∃ W, W = wr := ⟨_, rfl⟩
      subst hwv
      clear hgh
      go_loopw [8, 26] (fun d i wr => ∃ j : Nat, j ≤ h.guys.length ∧ i = .int .i64 j ∧ d = .int .i64 (downL (h.guys.take j)) ∧ Step wo wr) (fun _ i _ => h.guys.length - (intOf i).toNat)
      case atStart => exact ⟨0, Nat.zero_le _, rfl, rfl, Step.refl _⟩
      case round =>
        obtain ⟨j, hj, rfl, rfl, hT⟩ := hrel
        have HTJ := Lib.hid hT
        clear hT
        by_cases hltj : j < h.guys.length
        · obtain rfl := HG.out.1 (by omega)
          obtain ⟨g1, g2, g3, g4, g5⟩ := HG.out.2 j hltj
          have hst := HT.out.trans (HSO.out.trans HTJ.out)
          have g1 := hst.keeps.cell id g1
          have g2 := hst.keeps.cell id g2
          have g3 := hst.keeps.cell id g3
          have g4 := hst.keeps.cell id g4
          have g5 := hst.keeps.cell id g5
          have hjx : (0 : Int) ≤ (j : Int) ∧ (j : Int) < (h.guys.length : Int) := by omega
          have hdn := down_take hltj
          have hbd := down_bound HHD.out.2.2.2 j hj
          have hgd := (guy_parts (all_get HHD.out.2.2.2 hltj)).2.2.2.1
          have hg8 := HHD.out.2.2.1
          obtain ⟨dn, hdd⟩ : ∃ d, d = downL (h.guys.take j) := ⟨_, rfl⟩
          obtain ⟨y, hy⟩ : ∃ y, y = h.guys[j] := ⟨_, rfl⟩
          rw [← hdd] at hbd hdn
          rw [← hdd]
          rw [← hy] at g1 g2 g3 g4 g5 hgd hdn
          have hw := show IntKind.i64.wrap (dn + y.down) = dn + y.down by rw [IntKind.wrap_i64]; omega
          have HDN := Lib.hid hdn
          clear hdn hbd hgd hdd hy
          clear hst
          go_wp2
          go_roundw
          case rel => exact ⟨j + 1, by omega, by go_num, by rw [HDN.out], HTJ.out.trans (Step.alloc _ _)⟩
          case measure => simp [intOf]; omega
        · have HN := Lib.hid (show downL (h.guys.take j) = downL h.guys by rw [List.take_of_length_le (by omega)])
          rw [HN.out]
          obtain ⟨m0, m1, m2⟩ := cells3 (HHB.out.step HTJ.out)
          obtain ⟨dn, hdn⟩ : ∃ d, d = downL h.guys := ⟨_, rfl⟩
          rw [← hdn]
          by_cases hov : h.bears < dn
          · have hd : decide (h.bears < dn) = true := by simpa using hov
            have HOV := Lib.hid (HYES.out (show overB h = true by unfold overB; rw [← hdn]; exact hd))
            have hst := HSO.out.trans HTJ.out
            have hown2 := (HO.out.step hst).alloc (.cells #[.int .i64 k] 3)
            have hu := SLe.one (S := avoid (Old w1) (.slice po LL.length co)) (w := wr) (cs := [.int .i64 k]) (x := (k : Int)) 3 rfl
            have hB2 := (HB.out.step (Nat.le_refl _) hst).step (Nat.le_refl _) (Step.alloc _ (.cells #[.int .i64 k] 3))
            have hkl := HKL.out
            rw [← HLL.out] at hown2 hkl
            have hbz := hB2.size
            clear hov hdn hst
            go_wp2_with (at_builtin; refine wpl_append (α := Int) (S := Old w1) (base := w1.heap.size) (v := .slice po LL.length co) (l := LL) (m := [(k : Int)]) eiInts rfl _ _ rfl rfl rfl hown2 hu (LL.length + 1) (by simp) (LL ++ [(k : Int)]) rfl (by simp only [maxLen]; omega) (by omega) hbz ?_)
            intro p' c' w5 hown3 hg
            have H3 := Lib.hid (And.intro hown3 (hB2.grown hg hbz (fun j hj => (hown2.lt j hj).1)))
            clear hown2 hu hB2 hown3 hbz hg m0 m1 m2
            go_wp2
            go_roundw
            case rel => exact ⟨k + 1, by omega, by go_num, by rw [HOV.out, ← HLL.out]; exact H3.out.1, H3.out.2⟩
            case measure => simp [intOf]; omega
          · have hd : decide (h.bears < dn) = false := by simpa using hov
            have HOV := Lib.hid (HNO.out (show overB h = false by unfold overB; rw [← hdn]; exact hd))
            have hst := HSO.out.trans HTJ.out
            have H3 := Lib.hid (And.intro (HO.out.step hst) (HB.out.step (Nat.le_refl _) hst))
            clear hov hdn hst
            go_wp2
            go_roundw
            case rel => exact ⟨k + 1, by omega, by go_num, by rw [HOV.out]; exact H3.out.1, H3.out.2⟩
            case measure => simp [intOf]; omega
    · have HN := Lib.hid (show overK t k = overL t by unfold overL; congr 1; omega)
      have hfr := HO.out.fresh
      rw [HN.out] at hfr
      have HFR := Lib.hid hfr
      have HLN := Lib.hid (show LL.length = (overL t).length by rw [HLL.out, HN.out])
      clear hfr
      go_wp2
      go_ret2
      exact ⟨_, by rw [← HC.out]; rfl, by rw [HOR.out]; exact HFR.out.weak fun j _ hj => by have := HS.out.size; unfold Old at *; omega, HS.out.trans HT.out⟩
end Go.Proofs.Ytdcjbbeoocldeaa
/- Walks: the law CanvasParts: it answers true. -/
namespace Go.Proofs.Ytdcjbbeoocldeaa
set_option linter.unusedSimpArgs false
set_option linter.unusedVariables false
open Go.RowKit Go.BT

theorem intsB_self (a : List Int) : intsB a a = true := by simp [intsB]
set_option maxRecDepth 100000 in
set_option maxHeartbeats 16000000 in
theorem CanvasParts_any (l : List Tst) (t : List Head) (v u : Value) (w : World) (hv : SL (fun _ => False) w v l) (hu : SL (fun _ => False) w u t) :
    Calls Try.prog 6 #[v, u] w fun e w' => e = .returned (.bool true) ∧ Step w w' := by
  have HV := Lib.hid hv
  have HU := Lib.hid hu
  have HS := Lib.hid (Step.refl w)
  have HT := Lib.hid (Step.refl w)
  have hmt := hu.len
  obtain ⟨pv, cv, rfl⟩ := hv.form
  obtain ⟨pu, cu, rfl⟩ := hu.form
  clear hv hu
  go_enter Try.func6, Try.ntmps6
  go_wp2_with fail
  refine (Few_any (fun _ => False) l t _ _ _ (HV.out.keep (.of_step HT.out)) (HU.out.keep (.of_step HT.out))).mono ?_
  rintro e wn ⟨rfl, hSn⟩
  have HTi := Lib.hid (HT.out.trans hSn)
  clear hSn HT
  have HT := HTi
  clear HTi
  cases qf : few l t with
  | false =>
    clear qf
    go_wp2_with fail
    refine (wakes_any _).mono ?_
    rintro e wz ⟨rfl, hSz⟩
    go_wp2
    go_ret
    exact ⟨rfl, HS.out.trans (HT.out.trans hSz)⟩
  | true =>
  have HFEW := Lib.hid (few_of qf)
  clear qf
  go_wp2_with fail
  refine (Tent_any _ t _ _ (SL.go HU.out HT.out) HFEW.out.2).mono ?_
  rintro e wn ⟨v2, rfl, hv2, hSn⟩
  have HTi := Lib.hid (HT.out.trans hSn)
  clear hSn HT
  have HT := HTi
  clear HTi
  go_wp2_with fail
  refine (Overloaded_any (fun _ => False) t _ _ (SL.go hv2 (Step.refl _))).mono ?_
  rintro e wn ⟨vo, rfl, hvo, hSn⟩
  have HTi := Lib.hid (HT.out.trans hSn)
  clear hSn HT
  have HT := HTi
  clear HTi
  have HVO := Lib.hid (SL.go hvo (Step.refl _))
  clear hv2 hvo
  obtain ⟨ct, hct⟩ : ∃ c, c = tentC t := ⟨_, rfl⟩
  rw [← hct]
  have HCT := Lib.hid hct
  clear hct
  have HV9 := Lib.hid (SL.go HV.out HT.out)
  have HU9 := Lib.hid (SL.go HU.out HT.out)
  have HS9 := Lib.hid (HS.out.trans HT.out)
  have HT9 := Lib.hid (Step.refl wn)
  clear HV HU HS HT
  have HV := HV9
  have HU := HU9
  have HS := HS9
  have HT := HT9
  clear HV9 HU9 HS9 HT9
  go_wp2_with fail
  refine (Tests_any _ l _ _ (SL.go HV.out HT.out) (by have := HFEW.out.1; omega)).mono ?_
  rintro e wn ⟨v1, rfl, hv1, hSn⟩
  have HTi := Lib.hid (HT.out.trans hSn)
  clear hSn HT
  have HT := HTi
  clear HTi
  have HV1 := Lib.hid (And.intro hv1 HT.out)
  clear hv1
  go_wp2_with fail
  refine (Tent_any _ t _ _ (SL.go HU.out HT.out) HFEW.out.2).mono ?_
  rintro e wm ⟨v2, rfl, hv2, hSn⟩
  have HTm := Lib.hid (HT.out.trans hSn)
  have hv1 := SL.go HV1.out.1 hSn
  clear hSn HT HV1
  go_wp2_with fail
  refine (Parts_any (fun _ => False) l t _ _ _ hv1 (SL.go hv2 (Step.refl _))).mono ?_
  rintro e wn ⟨vp, rfl, hvp, hSn⟩
  have HT := Lib.hid (HTm.out.trans hSn)
  have HVP := Lib.hid (SL.go hvp (Step.refl _))
  have HVOn := Lib.hid (SL.go HVO.out HT.out)
  clear hv1 hv2 hvp hSn HTm HVO
  obtain ⟨pc, hpc⟩ : ∃ c, c = partsC l t := ⟨_, rfl⟩
  rw [← hpc]
  have HPC := Lib.hid hpc
  clear hpc
  have HV9 := Lib.hid (SL.go HV.out HT.out)
  have HU9 := Lib.hid (SL.go HU.out HT.out)
  have HS9 := Lib.hid (HS.out.trans HT.out)
  have HT9 := Lib.hid (Step.refl wn)
  clear HV HU HS HT
  have HV := HV9
  have HU := HU9
  have HS := HS9
  have HT := HT9
  clear HV9 HU9 HS9 HT9
  have HVO := HVOn
  clear HVOn
  obtain ⟨pO, cO, rfl⟩ := HVO.out.form
  obtain ⟨pp, cp, rfl⟩ := HVP.out.form
  cases qt : tentB t with
  | false =>
    have hc1 : ct = 1 := by rw [HCT.out]; unfold tentC; rw [qt]; rfl
    have hor : overR t = [] := by unfold overR; rw [← HCT.out, hc1, if_neg (by decide)]
    have hrd : readyC l t ≠ 0 := fun h => by have := (ready_ok h).2; rw [qt] at this; exact absurd this (by decide)
    rw [hor] at HVO ⊢
    subst hc1
    have HQ := Lib.hid qt
    have HRD := Lib.hid hrd
    clear hor qt hrd
    go_wp2_with fail
    refine (Tent_any _ t _ _ (SL.go HU.out HT.out) HFEW.out.2).mono ?_
    rintro e wn ⟨v2, rfl, hv2, hSn⟩
    have HTi := Lib.hid (HT.out.trans hSn)
    clear hSn HT
    have HT := HTi
    clear HTi
    go_wp2_with fail
    refine (CheckTent_any (fun _ => False) t _ _ (SL.go hv2 (Step.refl _))).mono ?_
    rintro e wn ⟨rfl, hSn⟩
    have HTi := Lib.hid (HT.out.trans hSn)
    clear hSn HT
    have HT := HTi
    clear HTi
    rw [← HCT.out]
    clear hv2
    go_wp2_with fail
    refine (Right_any (fun _ => False) t _ _ (SL.go HU.out HT.out)).mono ?_
    rintro e wn ⟨rfl, hSn⟩
    have HTi := Lib.hid (HT.out.trans hSn)
    clear hSn HT
    have HT := HTi
    clear HTi
    rw [HQ.out]
    go_wp2_with fail
    refine (Right_any (fun _ => False) t _ _ (SL.go HU.out HT.out)).mono ?_
    rintro e wn ⟨rfl, hSn⟩
    have HTi := Lib.hid (HT.out.trans hSn)
    clear hSn HT
    have HT := HTi
    clear HTi
    rw [HQ.out]
    go_wp2_with fail
    refine (Tent_any _ t _ _ (SL.go HU.out HT.out) HFEW.out.2).mono ?_
    rintro e wn ⟨v2, rfl, hv2, hSn⟩
    have HTi := Lib.hid (HT.out.trans hSn)
    clear hSn HT
    have HT := HTi
    clear HTi
    go_wp2_with fail
    refine (CheckTent_any (fun _ => False) t _ _ (SL.go hv2 (Step.refl _))).mono ?_
    rintro e wn ⟨rfl, hSn⟩
    have HTi := Lib.hid (HT.out.trans hSn)
    clear hSn HT
    have HT := HTi
    clear HTi
    rw [← HCT.out]
    clear hv2
    go_wp2_with fail
    refine (Right_any (fun _ => False) t _ _ (SL.go HU.out HT.out)).mono ?_
    rintro e wn ⟨rfl, hSn⟩
    have HTi := Lib.hid (HT.out.trans hSn)
    clear hSn HT
    have HT := HTi
    clear HTi
    rw [HQ.out]
    go_wp2_with fail
    refine (Fault_any (fun _ => False) l t _ _ _ (SL.go HV.out HT.out) (SL.go HU.out HT.out)).mono ?_
    rintro e wn ⟨rfl, hSn⟩
    have HTi := Lib.hid (HT.out.trans hSn)
    clear hSn HT
    have HT := HTi
    clear HTi
    obtain ⟨c, hc⟩ : ∃ c, c = readyC l t := ⟨_, rfl⟩
    rw [← hc] at HRD ⊢
    have h0 := HRD.out
    have hd8 : (c == 0) = false := by simpa using h0
    have hd9 : (c != 0) = true := by simpa using h0
    have hpc : pc = c := by rw [HPC.out]; unfold partsC; rw [← hc, if_neg h0]
    subst hpc
    have hpr : partsR l t = [] := by unfold partsR; rw [← HPC.out, if_neg h0]
    rw [hpr] at HVP ⊢
    clear h0 hpr
    go_wp2_with fail
    refine (wakes_any _).mono ?_
    rintro e wz ⟨rfl, hSz⟩
    go_wp2
    go_ret
    exact ⟨rfl, HS.out.trans (HT.out.trans hSz)⟩
  | true =>
    have hc1 : ct = 0 := by rw [HCT.out]; unfold tentC; rw [qt]; rfl
    have hor : overR t = overL t := by unfold overR; rw [← HCT.out, hc1, if_pos rfl]
    rw [hor] at HVO ⊢
    subst hc1
    have HQ := Lib.hid qt
    have HTP := Lib.hid (tent_parts qt)
    clear hor qt
    go_wp2_with fail
    refine (Tent_any _ t _ _ (SL.go HU.out HT.out) HFEW.out.2).mono ?_
    rintro e wn ⟨v2, rfl, hv2, hSn⟩
    have HTi := Lib.hid (HT.out.trans hSn)
    clear hSn HT
    have HT := HTi
    clear HTi
    go_wp2_with fail
    refine (CheckTent_any (fun _ => False) t _ _ (SL.go hv2 (Step.refl _))).mono ?_
    rintro e wn ⟨rfl, hSn⟩
    have HTi := Lib.hid (HT.out.trans hSn)
    clear hSn HT
    have HT := HTi
    clear HTi
    rw [← HCT.out]
    clear hv2
    go_wp2_with fail
    refine (Right_any (fun _ => False) t _ _ (SL.go HU.out HT.out)).mono ?_
    rintro e wn ⟨rfl, hSn⟩
    have HTi := Lib.hid (HT.out.trans hSn)
    clear hSn HT
    have HT := HTi
    clear HTi
    rw [HQ.out]
    go_wp2_with fail
    refine (Right_any (fun _ => False) t _ _ (SL.go HU.out HT.out)).mono ?_
    rintro e wn ⟨rfl, hSn⟩
    have HTi := Lib.hid (HT.out.trans hSn)
    clear hSn HT
    have HT := HTi
    clear HTi
    rw [HQ.out]
    go_wp2_with fail
    refine (Right_any (fun _ => False) t _ _ (SL.go HU.out HT.out)).mono ?_
    rintro e wn ⟨rfl, hSn⟩
    have HTi := Lib.hid (HT.out.trans hSn)
    clear hSn HT
    have HT := HTi
    clear HTi
    rw [HQ.out]
    have HVOn := Lib.hid (SL.go HVO.out HT.out)
    have HVPn := Lib.hid (SL.go HVP.out HT.out)
    have HV9 := Lib.hid (SL.go HV.out HT.out)
    have HU9 := Lib.hid (SL.go HU.out HT.out)
    have HS9 := Lib.hid (HS.out.trans HT.out)
    have HT9 := Lib.hid (Step.refl wn)
    clear HV HU HS HT
    have HV := HV9
    have HU := HU9
    have HS := HS9
    have HT := HT9
    clear HV9 HU9 HS9 HT9
    clear HVO HVP
    have HVO := HVOn
    have HVP := HVPn
    clear HVOn HVPn
    obtain ⟨wb, hwb⟩ : ∃ W, W = wn := ⟨_, rfl⟩
    subst hwb
    obtain ⟨pu', cu', bu, ou, heu, _, _, hpu, hcu, _⟩ := HU.out.heads
    injection heu with heu1 _ heu3
    subst heu1 heu3
    have HP := Lib.hid (And.intro hpu hcu)
    clear hpu hcu
    go_wp2
    go_loopw [9, 10] (fun out i wr => ∃ k : Nat, k ≤ t.length ∧ i = .int .i64 k ∧ OwnL (Old wb) wb.heap.size 3 wr out (overK t k) ∧ Below wb.heap.size wb wr) (fun _ i _ => t.length - (intOf i).toNat)
    case atStart => exact ⟨0, Nat.zero_le _, rfl, OwnL.nil _ _ _ _, Below.refl _ _⟩
    case round =>
      obtain ⟨k, hk, rfl, hown, hB⟩ := hrel
      clear HT
      have HT := Lib.hid (Step.of hB)
      have HO := Lib.hid hown
      have HB := Lib.hid hB
      have HKL := Lib.hid (overK_len t k)
      obtain ⟨LL, hLL⟩ : ∃ L, L = overK t k := ⟨_, rfl⟩
      rw [← hLL] at hown
      obtain ⟨po, co, rfl, _⟩ := hown.form
      have HLL := Lib.hid hLL
      clear hown hB hLL
      have htl := HTP.out.1
      by_cases hlt : k < t.length
      · obtain rfl := HP.out.1 (by omega)
        obtain ⟨c2, e1, e2, e3, e4⟩ := HP.out.2 k hlt
        have e1 := HT.out.keeps.cell id e1
        have e2 := HT.out.keeps.cell id e2
        have e3 := HT.out.keeps.cell id e3
        have hix : (0 : Int) ≤ (k : Int) ∧ (k : Int) < (t.length : Int) := by omega
        have HHD := Lib.hid (all_get HTP.out.2 hlt)
        have HYES := Lib.hid (fun q => overK_yes (t := t) hlt q)
        have HNO := Lib.hid (fun q => overK_no (t := t) hlt q)
        obtain ⟨h, hh⟩ : ∃ h, h = t[k] := ⟨_, rfl⟩
        rw [← hh] at e1 e2 e4 HHD
        simp only [← hh] at HYES HNO
        obtain ⟨pg, cg, rfl⟩ := e4.form
        have HHV := Lib.hid (show AV (fun _ => False) wr (.agg #[.int .i64 h.area, .int .i64 h.bears, .slice pg h.guys.length cg]) h from ⟨_, rfl, _, rfl, SL.go e4 HT.out⟩)
        clear hh e4
        go_wp2_with fail
        refine (ROverloaded_any (fun _ => False) h _ _ HHV.out HHD.out).mono ?_
        rintro e w5 ⟨rfl, hSn⟩
        have HS5 := Lib.hid hSn
        clear hSn e1 e2 e3 HHV
        cases qo : overB h with
        | true =>
          have HOV := Lib.hid (HYES.out qo)
          have hown2 := (HO.out.step HS5.out).alloc (.cells #[.int .i64 k] 3)
          have hu := SLe.one (S := avoid (Old wb) (.slice po LL.length co)) (w := w5) (cs := [.int .i64 k]) (x := (k : Int)) 3 rfl
          have hB2 := (HB.out.step (Nat.le_refl _) HS5.out).step (Nat.le_refl _) (Step.alloc _ (.cells #[.int .i64 k] 3))
          have hkl := HKL.out
          rw [← HLL.out] at hown2 hkl
          have hbz := hB2.size
          clear qo
          go_wp2_with (at_builtin; refine wpl_append (α := Int) (S := Old wb) (base := wb.heap.size) (v := .slice po LL.length co) (l := LL) (m := [(k : Int)]) eiInts rfl _ _ rfl rfl rfl hown2 hu (LL.length + 1) (by simp) (LL ++ [(k : Int)]) rfl (by simp only [maxLen]; omega) (by omega) hbz ?_)
          intro p' c' w6 hown3 hg
          have H3 := Lib.hid (And.intro hown3 (hB2.grown hg hbz (fun j hj => (hown2.lt j hj).1)))
          clear hown2 hu hB2 hown3 hbz hg
          go_wp2
          go_roundw
          case rel => exact ⟨k + 1, by omega, by go_num, by rw [HOV.out, ← HLL.out]; exact H3.out.1, H3.out.2⟩
          case measure => simp [intOf]; omega
        | false =>
          have HOV := Lib.hid (HNO.out qo)
          have H3 := Lib.hid (And.intro (HO.out.step HS5.out) (HB.out.step (Nat.le_refl _) HS5.out))
          clear qo
          go_wp2
          go_roundw
          case rel => exact ⟨k + 1, by omega, by go_num, by rw [HOV.out]; exact H3.out.1, H3.out.2⟩
          case measure => simp [intOf]; omega
      · have HN := Lib.hid (show overK t k = overL t by unfold overL; congr 1; omega)
        have hsl := HO.out.slb (S := Old wb) (fun g hg hs => by have := (HO.out.lt g hg).1; unfold Old at hs; omega)
        rw [HN.out] at hsl
        have HLN := Lib.hid (show LL.length = (overL t).length by rw [HLL.out, HN.out])
        rw [HLN.out] at hsl ⊢
        have HW := Lib.hid (SL.go hsl (Step.refl _))
        have HVOn := Lib.hid (SL.go HVO.out HT.out)
        clear hsl HVO
        go_wp2_with fail
        refine (ints_any (fun _ => False) (overL t) (overL t) _ _ _ HVOn.out HW.out).mono ?_
        rintro e wn ⟨rfl, hSn⟩
        rw [intsB_self]
        have HTi := Lib.hid (HT.out.trans hSn)
        clear hSn HT HVOn HW HO HB
        have HT := HTi
        clear HTi
        go_wp2_with fail
        refine (Fault_any (fun _ => False) l t _ _ _ (SL.go HV.out HT.out) (SL.go HU.out HT.out)).mono ?_
        rintro e wn ⟨rfl, hSn⟩
        have HTi := Lib.hid (HT.out.trans hSn)
        clear hSn HT
        have HT := HTi
        clear HTi
        obtain ⟨c, hc⟩ : ∃ c, c = readyC l t := ⟨_, rfl⟩
        rw [← hc]
        by_cases h0 : c = 0
        rotate_left
        · have hd8 : (c == 0) = false := by simpa using h0
          have hd9 : (c != 0) = true := by simpa using h0
          have hpc : pc = c := by rw [HPC.out]; unfold partsC; rw [← hc, if_neg h0]
          subst hpc
          have hpr : partsR l t = [] := by unfold partsR; rw [← HPC.out, if_neg h0]
          rw [hpr] at HVP ⊢
          clear h0 hpr
          go_wp2_with fail
          refine (wakes_any _).mono ?_
          rintro e wz ⟨rfl, hSz⟩
          go_wp2
          go_ret
          exact ⟨rfl, HS.out.trans (HT.out.trans hSz)⟩
        subst h0
        have HRD := Lib.hid hc
        have HTS := Lib.hid (ready_ok hc.symm).1
        clear hc
        go_wp2_with fail
        refine (clashing_any (fun _ => False) l _ _ (SL.go HV.out HT.out) HTS.out).mono ?_
        rintro e wn ⟨rfl, hSn⟩
        have HTi := Lib.hid (HT.out.trans hSn)
        clear hSn HT
        have HT := HTi
        clear HTi
        obtain ⟨c, hc⟩ : ∃ c, c = soundC l := ⟨_, rfl⟩
        rw [← hc]
        by_cases h0 : c = 0
        rotate_left
        · skip
          have hd9 : (c != 0) = true := by simpa using h0
          have hpc : pc = c := by rw [HPC.out]; unfold partsC; rw [if_pos HRD.out.symm, hc]
          subst hpc
          have hpr : partsR l t = [] := by unfold partsR; rw [← HPC.out, if_neg h0]
          rw [hpr] at HVP ⊢
          clear h0 hpr
          go_wp2_with fail
          refine (wakes_any _).mono ?_
          rintro e wz ⟨rfl, hSz⟩
          go_wp2
          go_ret
          exact ⟨rfl, HS.out.trans (HT.out.trans hSz)⟩
        subst h0
        have hpc : pc = 0 := by rw [HPC.out]; unfold partsC; rw [if_pos HRD.out.symm, hc]
        subst hpc
        have hpr : partsR l t = partsLL l t := by unfold partsR; rw [← HPC.out, if_pos rfl]
        rw [hpr] at HVP ⊢
        have hd7 : (((partsLL l t).length : Int) != (t.length : Int)) = false := by simp [partsLL]
        clear hpr hc
        obtain ⟨wd, hwd⟩ : ∃ W, W = wn := ⟨_, rfl⟩
        subst hwd
        have HTD := HT
        clear HT hk hlt HKL HLL HN HLN
        obtain ⟨pp', cp', bp, op, hep, _, _, hpp, hcp, _⟩ := HVP.out.rows
        injection hep with hep1 _ hep3
        subst hep1 hep3
        have HPP := Lib.hid (And.intro hpp hcp)
        have HLP := Lib.hid (show (partsLL l t).length = t.length by simp [partsLL])
        clear hpp hcp
        have HTd := Lib.hid (Step.refl wd)
        go_wp2
        go_loopw [12] (fun i wr => ∃ k : Nat, k ≤ t.length ∧ i = .int .i64 k ∧ Step wd wr) (fun i _ => t.length - (intOf i).toNat)
        case atStart => exact ⟨0, Nat.zero_le _, rfl, HTd.out⟩
        case round =>
          obtain ⟨k, hk, rfl, hT⟩ := hrel
          have HT := Lib.hid hT
          clear hT HTd
          by_cases hlt : k < t.length
          · obtain rfl := HP.out.1 (by omega)
            obtain ⟨c2, e1, e2, e3, e4⟩ := HP.out.2 k hlt
            have hltp : k < (partsLL l t).length := by have := HLP.out; omega
            obtain rfl := HPP.out.1 (by omega)
            obtain ⟨ur, r1, r2⟩ := HPP.out.2 k hltp
            have hix : (0 : Int) ≤ (k : Int) ∧ (k : Int) < (t.length : Int) := by omega
            have hixp : (0 : Int) ≤ (k : Int) ∧ (k : Int) < ((partsLL l t).length : Int) := by omega
            have hhd := head_parts (all_get HTP.out.2 hlt)
            have HRW := Lib.hid (show (partsLL l t)[k] = rowL l t[k] by simp [partsLL])
            obtain ⟨h, hh⟩ : ∃ h, h = t[k] := ⟨_, rfl⟩
            rw [← hh] at e4 hhd HRW
            rw [HRW.out] at r2
            obtain ⟨pr, cr, rfl⟩ := r2.form
            have HR2 := Lib.hid r2
            have HR1 := Lib.hid r1
            obtain ⟨pg, cg, bg, og, rfl, _, _, hpg, hcg, _⟩ := e4.guys
            have HG := Lib.hid (And.intro hpg hcg)
            have HE3 := Lib.hid e3
            have HHD := Lib.hid hhd
            have HRL := Lib.hid (show (rowL l h).length = h.guys.length by simp [rowL])
            clear hh e1 e2 e3 e4 hpg hcg r1 r2 hhd
            obtain ⟨wo, hwo⟩ : ∃ W, W = wr := ⟨_, rfl⟩
            subst hwo
            go_wp2
            go_loopw [13, 14] (fun row i wi => ∃ j : Nat, j ≤ h.guys.length ∧ i = .int .i64 j ∧ OwnL (Old wo) wo.heap.size 3 wi row ((rowL l h).take j) ∧ Below wo.heap.size wo wi) (fun _ i _ => h.guys.length - (intOf i).toNat)
            case atStart => exact ⟨0, Nat.zero_le _, rfl, OwnL.nil _ _ _ _, Below.refl _ _⟩
            case round =>
              obtain ⟨j, hj, rfl, hown, hB⟩ := hrel
              have HTJ := Lib.hid (Step.of hB)
              have HOJ := Lib.hid hown
              have HBJ := Lib.hid hB
              obtain ⟨LR, hLR⟩ : ∃ L, L = (rowL l h).take j := ⟨_, rfl⟩
              rw [← hLR] at hown
              obtain ⟨pq, cq, rfl, _⟩ := hown.form
              have HLR := Lib.hid hLR
              have hst := HTD.out.trans (HT.out.trans HTJ.out)
              have e3 := hst.keeps.cell id HE3.out
              clear hown hB hLR
              by_cases hltj : j < h.guys.length
              · obtain rfl := HG.out.1 (by omega)
                obtain ⟨g1, g2, g3, g4, g5⟩ := HG.out.2 j hltj
                have g1 := hst.keeps.cell id g1
                have g2 := hst.keeps.cell id g2
                have g3 := hst.keeps.cell id g3
                have g4 := hst.keeps.cell id g4
                have g5 := hst.keeps.cell id g5
                have hjx : (0 : Int) ≤ (j : Int) ∧ (j : Int) < (h.guys.length : Int) := by omega
                have hgv := all_get HHD.out.2.2.2 hltj
                have hg8 := HHD.out.2.2.1
                have hrl : j < (rowL l h).length := by have := HRL.out; omega
                have HRJ := Lib.hid (show (rowL l h)[j] = partL l h.guys[j] by simp [rowL])
                have hcall := Lib.hid (Part_any (fun _ => False) l h.guys[j] _ _ (SL.go HV.out hst) HTS.out hgv)
                clear hgv hst
                go_wp2_with fail
                refine hcall.out.mono ?_
                rintro e w4 ⟨rfl, hS4⟩
                rw [← HRJ.out]
                have hown2 := (HOJ.out.step hS4).alloc (.cells #[.int .i64 (rowL l h)[j]] 3)
                have hu := SLe.one (S := avoid (Old wo) (.slice pq LR.length cq)) (w := w4) (cs := [.int .i64 (rowL l h)[j]]) (x := (rowL l h)[j]) 3 rfl
                have hB2 := (HBJ.out.step (Nat.le_refl _) hS4).step (Nat.le_refl _) (Step.alloc _ (.cells #[.int .i64 (rowL l h)[j]] 3))
                clear hS4 hcall g1 g2 g3 g4 g5 e3
                go_wp2_with (at_builtin; refine wpl_append1 (l := rowL l h) (k := j) eiInts rfl _ _ rfl rfl rfl hown2 hrl (by have := HRL.out; omega) (by decide) hu hB2 (Nat.le_refl _) ?_)
                intro p' c' w5 hown3 hB3 _
                have H3 := Lib.hid (And.intro hown3 hB3)
                clear hown2 hu hB2 hown3 hB3
                go_wp2
                go_roundw
                case rel => exact ⟨j + 1, by omega, by go_num, H3.out.1, H3.out.2⟩
                case measure => simp [intOf]; omega
              · have HNR := Lib.hid (show LR = rowL l h by rw [HLR.out, List.take_of_length_le (by have := HRL.out; omega)])
                have hsl := HOJ.out.slb (S := Old wo) (fun g hg hs => by have := (HOJ.out.lt g hg).1; unfold Old at hs; omega)
                rw [← HLR.out, HNR.out] at hsl
                rw [HNR.out]
                have HW := Lib.hid (SL.go hsl (Step.refl _))
                have HVOn := Lib.hid (SL.go HR2.out hst)
                have r1 := hst.keeps.cell id HR1.out
                have HTK := Lib.hid (HT.out.trans HTJ.out)
                clear hsl hst
                go_wp2_with fail
                refine (ints_any (fun _ => False) (rowL l h) (rowL l h) _ _ _ HVOn.out HW.out).mono ?_
                rintro e wn ⟨rfl, hSn⟩
                rw [intsB_self]
                have HT2 := Lib.hid (HTK.out.trans hSn)
                clear hSn r1 e3 HW HVOn
                go_wp2
                go_roundw
                case rel => exact ⟨k + 1, by omega, by go_num, HT2.out⟩
                case measure => simp [intOf]; omega
          · have hTf := HTD.out.trans HT.out
            have HT := Lib.hid hTf
            clear hTf
            go_wp2_with fail
            refine (wakes_any _).mono ?_
            rintro e wz ⟨rfl, hSz⟩
            go_wp2
            go_ret
            exact ⟨rfl, HS.out.trans (HT.out.trans hSz)⟩
end Go.Proofs.Ytdcjbbeoocldeaa
/- CanvasParts: of every input the law answers true, and its arguments read as they did. -/
namespace Go.Proofs.Ytdcjbbeoocldeaa.parts
open Go.ChangeShapes Go.WideShapes Go.ChangeAt Go.RowKit Go.BT
set_option linter.unusedVariables false
set_option linter.unusedSimpArgs false

set_option maxRecDepth 100000 in
theorem lifted (os : Os) (started : os.Started) (H : Type) (enc : TypeId × Value → H) :
    ReturnsInHanded {} Try.checked os 6 .any (Rows.canvasPartsSpec.pre6 enc Try.prog Try.f6 Rows.canvasPartsRow.domain false) (Rows.canvasPartsSpec.post enc Try.prog Try.f6 false true false false) := by
  refine returnsInHanded_of_change (C := Try.checked) own started (by kernel_rfl) Try.func6
    (ChangeSpec.witness6 (enc := enc) (C := Try.checked) false ⟨#[], #[.slice none 0 0, .slice none 0 0], []⟩ 8 (by kernel_rfl) (by kernel_rfl) (by kernel_rfl) (by kernel_rfl)) ?_
  intro W base args ds gs before hval0 hW hcnd _
  have hval : ∀ (j : Nat) t v, Try.f6.params[j]? = some t → args[j]? = some v → Value.okWide Try.prog W .any base t v := hval0
  have hW' := hW
  obtain ⟨p, q, hA0, hV, rfl, hfz, hnd⟩ := hW
  have hA : DataW.TrodAll enc Try.prog W 0 (fun _ => true) true Try.f6.params.toList args.toList ds p := hA0
  have hAk := hA
  rw [Try.params6] at hA hval
  obtain ⟨v0, vs0, d0, ds0, p0, q0, hargs, rfl, rfl, h0, r0⟩ := trodAll_cons hA
  obtain ⟨v1, vs1, d1, ds1, p1, q1, rfl, rfl, rfl, h1, r1⟩ := trodAll_cons r0
  obtain ⟨rfl, rfl, rfl⟩ := trodAll_nil r1
  obtain rfl : args = #[v0, v1] := by cases args; simp_all
  obtain ⟨rfl, rfl⟩ := trodVars_none hV
  obtain ⟨a0, hh0⟩ := sl_of opens_tests Try.underlying22 (hval 0 22 v0 rfl rfl) h0
  obtain ⟨a1, hh1⟩ := sl_of opens_tent Try.underlying24 (hval 1 24 v1 rfl rfl) h1
  clear hA0 hval0
  refine (CanvasParts_any a0 a1 v0 v1 W hh0 hh1).mono fun e W' ⟨he, hg⟩ => ?_
  subst he
  have hlt := hW'.lt
  refine ⟨_, rfl, post_of_below (pv := []) hW' (fun _ _ _ => (trodAll_cons_mk (shut_bool Try.underlying4 _) trodAll_mk0)) (fun sp hs => all_stays laid hg.below (fun t ht => ?_) hAk (fun x hx => hlt x (by simpa using hx)) (fun x hx => hs x (by simpa using hx))) (fun _ _ => rfl) rfl hg.below (ok_one (by kernel_rfl) rfl (okWide_bool_mk Try.underlying4 _))⟩
  rw [Try.params6] at ht
  have : ∀ t ∈ [22, 24], Try.prog.readableRec t = true ∧ t < Try.prog.types.size := by
    intro t ht
    simp only [List.mem_cons, List.not_mem_nil, or_false] at ht
    rcases ht with rfl | rfl <;> exact ⟨by kernel_rfl, of_decide_eq_true (by kernel_rfl)⟩
  exact this t ht

theorem over : Rows.canvasPartsRow.holds Try.pinned (OpenSpec.ofChange Rows.canvasPartsSpec) :=
  OpenClaim.holds_of_wide 6 Try.f6 rfl rfl rfl rfl rfl rfl rfl ⟨rfl, rfl, rfl, rfl, rfl⟩ rfl rfl rfl rfl rfl (by kernel_rfl) Try.func6 (by kernel_rfl)
    (of_decide_eq_true (by kernel_rfl)) (by unfold Func.isWrapper; first | (rw [if_pos (by decide +kernel)]; kernel_rfl) | (rw [if_neg (by decide +kernel)]; exact ⟨rfl, rfl⟩))
    (fun os started H enc _ => lifted os started H enc)
theorem proved : Rows.CanvasPartsSaid := over
end Go.Proofs.Ytdcjbbeoocldeaa.parts
