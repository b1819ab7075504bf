/- Walks and plain laws, part w. -/
import Derived.Test.YtfhmdpicoccnfaaMm
import Derived.Test.YtfhmdpicoccnfaaMo
import Derived.Test.YtfhmdpicoccnfaaMr
import Derived.Test.YtfhmdpicoccnfaaRows
import Derived.BigFrame
set_option maxHeartbeats 16000000
set_option maxRecDepth 100000
namespace Go.BT
open Go.RowKit in
theorem wpl_append_g {α : Type} [Rep α] {S : Nat → Prop} {base : Nat} {P : Program} {w : World} {v u : Value} {l m : List α} {t e : TypeId} {z : Value} {bytes : Nat} {ops : Array Oper} {rest : List Oper} {o : Oper} {a : Act} {Q : Exit → Act → World → Prop} (ei : EI P t e z (Rep.k α) bytes) (hw : Region.wanted o (yielded ops a.tmps) = true) (s x : Operand)
  (ho : o.op = .call { callee := .builtin .append, args := #[s, x], argTypes := #[t, t] }) (hs : a.eval s = v) (hx : a.eval x = u) (hown : OwnL S base e w v l) (hu : SLe (avoid S v) w u m)
  (n : Nat) (hn : l.length + m.length = n) (lm : List α) (hlm : l ++ m = lm) (h63 : n ≤ maxLen) (hbytes : n * bytes ≤ 140737488355328) (hbase : base ≤ w.heap.size)
  (h : ∀ p c w', OwnL S base e w' (.slice p n c) lm → w.grownBy w' v.ownBlock → wpList P ops Q rest (a.put o.dst (.slice p n c)) w') : wpList P ops Q (o :: rest) a w :=
 BigFrame.wpList_want hw fun _ hK => wp_append_L ei s x ho hs hx hown hu n hn lm hlm h63 hbytes hbase fun p c w' h2 h3 => hK _ _ (h p c w' h2 h3)
theorem i8_ofH {n : Int} (h : (Lit.int .i8 n).wf = true) : -128 ≤ n ∧ n ≤ 127 := by
 have h2 : IntKind.i8.min = -128 := rfl
 have h3 : IntKind.i8.max = 127 := rfl
 simp [Lit.wf] at h; omega
end Go.BT
namespace Go.Proofs.Ytfhmdpicoccnfaa
set_option linter.unusedSimpArgs false
set_option linter.unusedVariables false
open Go.RowKit Go.BT
theorem RowsO.put {base : Nat} {w : World} {v : Value} {l : List (List Int)} (h : RowsO base w v l) {k q : Nat} (hk : k < l.length) (hq : q < l[k].length) :
  ∃ gp cp gr cr, v = .slice (some ⟨gp, 0, none⟩) l.length cp ∧ w.cell? ⟨gp, k, none⟩ = some (.slice (some ⟨gr, 0, none⟩) l[k].length cr) ∧ base ≤ gr ∧ gr < w.heap.size ∧ w.cell? ⟨gr, q, none⟩ = some (.int .i64 l[k][q]) ∧ w.frozen? ⟨gr, q, none⟩ = false ∧
   ∀ x : Int, RowsO base (w.setCell ⟨gr, q, none⟩ (.int .i64 x)) v (l.set k (l[k].set q x)) := by
 obtain ⟨vs, hl, ho, hr, hd⟩ := h
 have hk' : k < vs.length := by omega
 obtain ⟨gp, cp, rfl, hce, hb, hlt⟩ := ownRaw_cell ho hk'
 obtain ⟨gr, cr, he, hb2, hlt2, hcc, hfz, hput⟩ := own_num (hr k hk hk') hq
 refine ⟨gp, cp, gr, cr, by rw [hl], by rw [hce, he], hb2, hlt2, hcc, hfz, fun x => ⟨vs, by simp [hl], ownF_row ho fun j hj => Below.heap_setCell w ⟨gr, q, none⟩ _ j fun e => ?_, fun i hi hi' => ?_, hd⟩⟩
 ·have e : j = gr := e
  exact own_types ho (hr k hk hk') (by decide) hj (by rw [he, e]; rfl)
 ·rw [List.getElem_set]
  by_cases e : k = i
  ·subst e
   rw [if_pos rfl]
   exact hput x
  ·rw [if_neg e]
   refine ownF_row (hr i (by simpa using hi) hi') fun j hj => Below.heap_setCell w ⟨gr, q, none⟩ _ j fun e' => ?_
   have e' : j = gr := e'
   exact e (hd k i hk' hi' gr (by rw [he]; rfl) (by rw [hj, e']))
def RowsFew (P : List (List Int)) : Prop := P.length ≤ 25 ∧ ∀ r ∈ P, r.length ≤ 65
theorem RowsFew.sz {P : List (List Int)} (h : RowsFew P) : ∀ r ∈ P, r.length * 8 ≤ 140737488355328 := fun r hr => by have := h.2 r hr; omega
theorem GaleProves_any (h : Hall) (m : Int) (plan : List (List Int)) (cut : List Int) (own : Bool) (at_ t_ by_ : Int) (v vp vc : Value) (w : World) (hv : AV (fun _ => False) w v h) (hp : SL (fun _ => False) w vp plan) (hc : SL (fun _ => False) w vc cut) (ha : (Lit.int .u8 at_).wf = true) (ht : (Lit.int .u8 t_).wf = true) (hb : (Lit.int .i8 by_).wf = true) :
  Calls Try.prog 6 #[v, .int .i64 m, vp, vc, .bool own, .int .u8 at_, .int .u8 t_, .int .i8 by_] w fun e w' => e = .returned (.bool true) ∧ Step w w' := by
 have ha := u8_ofH ha
 have ht := u8_ofH ht
 have hb := i8_ofH hb
 have hwa : wrap64 at_ = at_ := by unfold wrap64; omega
 have hwt : wrap64 t_ = t_ := by unfold wrap64; omega
 have hwb : wrap64 by_ = by_ := by unfold wrap64; omega
 have hwa2 : IntKind.i64.wrap at_ = at_ := by rw [IntKind.wrap_i64]; omega
 have hwt2 : IntKind.i64.wrap t_ = t_ := by rw [IntKind.wrap_i64]; omega
 have hwb2 : IntKind.i64.wrap by_ = by_ := by rw [IntKind.wrap_i64]; omega
 have HWR := zH (And.intro hwa (And.intro hwt (And.intro hwb (And.intro hwa2 (And.intro hwt2 hwb2)))))
 have HNN := zH (And.intro ha (And.intro ht hb))
 clear ha ht hb hwa hwt hwb hwa2 hwt2 hwb2
 obtain ⟨c0, c1, rfl, h0, h1⟩ := hv.hall
 obtain ⟨p0, k0, rfl⟩ := h0.form
 obtain ⟨p1, k1, rfl⟩ := h1.form
 obtain ⟨W0, hW0⟩ : ∃ W, W = w.alloc (.cells #[.slice p0 h.people.length k0, .slice p1 h.ways.length k1] 73) := ⟨_, rfl⟩
 have hb : Bx W0 w.heap.size [.slice p0 h.people.length k0, .slice p1 h.ways.length k1] 73 := by subst hW0; exact Bx.new w [_, _] _
 have hS : Step w W0 := by subst hW0; exact Step.alloc _ _
 have hav : ∀ W, Step W0 W → AV (fun _ => False) W (.agg #[.slice p0 h.people.length k0, .slice p1 h.ways.length k1]) h := fun W hW => ⟨_, rfl, _, _, rfl, h0.keep (.of_step (hS.trans hW)), h1.keep (.of_step (hS.trans hW))⟩
 have HAV := zH hav
 have HS := zH hS
 have HW := zH hW0
 have HB := zH hb
 have HT := zH (Step.refl W0)
 clear hv h0 h1 hW0 hb hS hav
 have HP0 := zH (hp.keep (.of_step HS.out))
 have HC0 := zH (hc.keep (.of_step HS.out))
 obtain ⟨pp, kp, bp, op, rfl, _, hlp, hpp, hcp, _⟩ := hp.rows
 obtain ⟨pc, kc, rfl⟩ := hc.form
 have HPR := zH (And.intro hpp hcp)
 clear hp hc hpp hcp
 go_enter Try.func6, Try.ntmps6
 go_upto_region 1 with (fail)
 rw [← HW.out]
 have e0 := (HB.out.step HT.out).cell 0
 have e1 := (HB.out.step HT.out).cell 1
 simp only [zD, zE] at e0 e1
 go_wp2_with fail
 refine (SmallH_any (fun _ => False) h _ _ (HAV.out _ HT.out)).mono ?_
 rintro e wn ⟨rfl, hSn⟩
 have HTn := zH (HT.out.trans hSn)
 have HSN := zH hSn
 clear HT hSn
 have HT := HTn
 clear HTn
 clear e0 e1
 cases hs : decide (h.people.length ≤ 15 ∧ h.ways.length ≤ 25) with
 | false =>
  clear hs
  go_wp2_with fail
  refine (gwakes_any _).mono ?_
  rintro e wn ⟨rfl, hSn⟩
  have HTn := zH (HT.out.trans hSn)
  have HSN := zH hSn
  clear HT hSn
  have HT := HTn
  clear HTn
  go_wp2
  go_ret
  exact ⟨rfl, HS.out.trans HT.out⟩
 | true =>
 have HL := zH (show h.people.length ≤ 1000 ∧ h.ways.length ≤ 1000 by have := of_decide_eq_true hs; omega)
 clear hs
 by_cases l1 : plan.length ≤ 25
 case neg =>
  have d0 : decide ((25 : Int) < (plan.length : Int)) = true := decide_eq_true (by omega)
  clear l1
  go_wp2_with fail
  refine (gwakes_any _).mono ?_
  rintro e wn ⟨rfl, hSn⟩
  have HTn := zH (HT.out.trans hSn)
  have HSN := zH hSn
  clear HT hSn
  have HT := HTn
  clear HTn
  go_wp2
  go_ret
  exact ⟨rfl, HS.out.trans HT.out⟩
 have d0 : decide ((25 : Int) < (plan.length : Int)) = false := decide_eq_false (by omega)
 by_cases l2 : cut.length ≤ 15
 case neg =>
  have d1 : decide ((15 : Int) < (cut.length : Int)) = true := decide_eq_true (by omega)
  clear l1 l2
  go_wp2_with fail
  refine (gwakes_any _).mono ?_
  rintro e wn ⟨rfl, hSn⟩
  have HTn := zH (HT.out.trans hSn)
  have HSN := zH hSn
  clear HT hSn
  have HT := HTn
  clear HTn
  go_wp2
  go_ret
  exact ⟨rfl, HS.out.trans HT.out⟩
 have d1 : decide ((15 : Int) < (cut.length : Int)) = false := decide_eq_false (by omega)
 have HL2 := zH (And.intro l1 l2)
 clear l2
 go_wp2
 clear d0 d1 HSN
 obtain ⟨w1, hw1⟩ : ∃ z, z = wn := ⟨_, rfl⟩
 subst hw1
 have HTo := HT
 go_loopw [17] (fun s17 wr => ∃ k : Nat, k ≤ plan.length ∧ s17 = .int .i64 k ∧ (∀ j (hj : j < plan.length), j < k → plan[j].length ≤ 65) ∧ Step w1 wr) (fun s17 _ => plan.length - (intOf s17).toNat)
 case atStart => exact ⟨0, Nat.zero_le _, rfl, (fun j _ hj => by omega), Step.refl _⟩
 case round =>
  obtain ⟨k, hk, rfl, hfew, hT2⟩ := hrel
  have HFEW := zH hfew
  have HS2 := zH hT2
  have HT2 := zH (HTo.out.trans hT2)
  clear hfew hT2
  by_cases hlt : k < plan.length
  ·obtain rfl := HPR.out.1 (by omega)
   obtain ⟨ur, hcr, hur⟩ := HPR.out.2 k hlt
   obtain ⟨pr, kr, rfl⟩ := hur.form
   have hcr := (HS.out.trans HT2.out).kc hcr
   have hix : (0 : Int) ≤ (k : Int) ∧ (k : Int) < (plan.length : Int) := by omega
   obtain ⟨ρ, hρ⟩ : ∃ z, z = plan[k].length := ⟨_, rfl⟩
   rw [← hρ] at hcr
   have HR := zH hρ
   clear hur hρ
   by_cases q : ρ ≤ 65
   ·have d0 : decide ((65 : Int) < (ρ : Int)) = false := decide_eq_false (by omega)
    have HQ1 := zH q
    clear q
    go_wp2
    go_roundw
    case rel =>
     refine ⟨k + 1, by omega, by go_num, fun j hj hjk => ?_, ?_⟩
     ·by_cases e : j = k
      ·subst e; rw [← HR.out]; exact HQ1.out
      ·exact HFEW.out j hj (by omega)
     ·exact HS2.out
    case measure => simp [intOf]; omega
   ·have d0 : decide ((65 : Int) < (ρ : Int)) = true := decide_eq_true (by omega)
    clear q HT
    have HT := HT2
    go_wp2_with fail
    refine (gwakes_any _).mono ?_
    rintro e wn ⟨rfl, hSn⟩
    have HTn := zH (HT.out.trans hSn)
    have HSN := zH hSn
    clear HT hSn
    have HT := HTn
    clear HTn
    go_wp2
    go_ret
    exact ⟨rfl, HS.out.trans HT.out⟩
  ·have hkz : plan.length = k := by omega
   have HFW := zH (show RowsFew plan from ⟨HL2.out.1, fun r hr => by
    obtain ⟨j, hj, rfl⟩ := List.getElem_of_mem hr
    exact HFEW.out j hj (by omega)⟩)
   subst hkz
   clear HT HFEW hk
   have HT := HT2
   clear HT2
   go_wp2_with fail
   refine (rowsL_any (fun _ => False) plan _ _ (HP0.out.keep (.of_step HT.out)) (by have := HL2.out.1; omega) HFW.out.sz).mono ?_
   rintro e wn ⟨vr, rfl, hro, hSn⟩
   obtain ⟨pr, kr, rfl⟩ := hro.form
   have HPC := zH (hro.sl (S := fun _ => False) fun _ _ h => h)
   clear hro
   have HTn := zH (HT.out.trans hSn)
   have HSN := zH hSn
   clear HT hSn
   have HT := HTn
   clear HTn
   have HCW := zH (HC0.out.keep (.of_step HT.out))
   have hl2 := HL2.out.2
   go_upto_region 9 with (at_builtin; refine wpl_append (α := Int) (S := fun _ => False) (base := wn.heap.size) (v := .slice (some ⟨wn.heap.size, 0, none⟩) 0 0) (l := []) (m := cut) eiIntsH rfl _ _ rfl rfl rfl ⟨[], World.ownsRow_lit wn #[] 0 (Nat.le_refl _) (by simp [maxLen]) (by simp), fun i h => absurd h (by simp)⟩ (SL.flat _ (HCW.out.keep (.alloc _ _))) cut.length (by simp) cut rfl ?_ ?_ ?_ ?_)
   ·simp only [maxLen]; omega
   ·omega
   ·simp
   intro p' c' w' hown hg
   have hX : Step wn w' := .of (((Below.refl _ wn).alloc (Nat.le_refl _) _).grown hg (by simp) (by simp [Value.ownBlock]))
   have HCC := zH ((ownL_flat (fun _ => False) hown).slb fun _ _ h => h)
   have HPC := zH (HPC.out.keep (.of_step hX))
   have HT := zH (HT.out.trans hX)
   clear hX hown hg HCW
   obtain ⟨w3, hw3⟩ : ∃ z, z = w' := ⟨_, rfl⟩
   subst hw3
   have qa := HB.out.step HT.out
   have qb := HS.out.trans HT.out
   have qc := fun W (hW : Step w3 W) => HAV.out W (HT.out.trans hW)
   clear HB HS HAV HT
   have HB := zH qa
   have HS := zH qb
   have HAV := zH qc
   have HT := zH (Step.refl w3)
   clear qa qb qc
   go_upto_region 10 with (fail)
   have e0 := (HB.out.step HT.out).cell 0
   have e1 := (HB.out.step HT.out).cell 1
   simp only [zD, zE] at e0 e1
   go_wp2_with fail
   refine (RRightHall_any (fun _ => False) h _ _ (HAV.out _ HT.out)).mono ?_
   rintro e wn ⟨rfl, hSn⟩
   have HTn := zH (HT.out.trans hSn)
   have HSN := zH hSn
   clear HT hSn
   have HT := HTn
   clear HTn
   clear e0 e1
   cases hbh : hallB h with
   | false =>
    have HQF := zH hbh
    have hpo := zH (show poutB h m plan = false by unfold poutB; rw [hbh]; rfl)
    have hps := zH (show pstuckB h m cut = false by unfold pstuckB; rw [hbh]; rfl)
    clear hbh
    cases own with
    | false =>
     have HPF := HFW
     have HCL := zH HL2.out.2
     have e0 := (HB.out.step HT.out).cell 0
     have e1 := (HB.out.step HT.out).cell 1
     simp only [zD, zE] at e0 e1
     go_wp2_with fail
     refine (GHall_any (fun _ => False) h _ _ (HAV.out _ HT.out) HL.out.1 HL.out.2).mono ?_
     rintro e wn ⟨vg, rfl, hv', hSn⟩
     have HVG := zH (av0 hv')
     have HPC2 := zH (HPC.out.keep (.of_step (HT.out.trans hSn)))
     clear hv' e0 e1
     have HTn := zH (HT.out.trans hSn)
     have HSN := zH hSn
     clear HT hSn
     have HT := HTn
     clear HTn
     clear HSN
     go_wp2_with fail
     refine (rowsL_any (fun _ => False) plan _ _ HPC2.out (by have := HPF.out.1; omega) HPF.out.sz).mono ?_
     rintro e wn ⟨vr2, rfl, hro, hSn⟩
     have HRW := zH (hro.sl (S := fun _ => False) fun _ _ h => h)
     have HVG2 := zH (HVG.out.keep (.of_step hSn))
     clear hro HVG HPC2
     have HTn := zH (HT.out.trans hSn)
     have HSN := zH hSn
     clear HT hSn
     have HT := HTn
     clear HTn
     clear HSN
     have hcall := ProveOut_any (fun _ => False) h m plan _ _ _ HVG2.out HRW.out
     rw [hpo.out] at hcall
     have HCALL := zH hcall
     clear hcall
     go_wp2_with fail
     refine (HCALL.out).mono ?_
     rintro e wn ⟨rfl, hSn⟩
     have HTn := zH (HT.out.trans hSn)
     have HSN := zH hSn
     clear HT hSn
     have HT := HTn
     clear HTn
     clear HCALL HSN HVG2 HRW
     have e0 := (HB.out.step HT.out).cell 0
     have e1 := (HB.out.step HT.out).cell 1
     simp only [zD, zE] at e0 e1
     go_wp2_with fail
     refine (GHall_any (fun _ => False) h _ _ (HAV.out _ HT.out) HL.out.1 HL.out.2).mono ?_
     rintro e wn ⟨vg, rfl, hv', hSn⟩
     have HVG := zH (av0 hv')
     clear hv' e0 e1
     have HTn := zH (HT.out.trans hSn)
     have HSN := zH hSn
     clear HT hSn
     have HT := HTn
     clear HTn
     clear HSN
     have HCW := zH (HCC.out.keep (.of_step HT.out))
     have hl2 := HCL.out
     go_wp2_with (at_builtin; refine wpl_append_g (α := Int) (S := fun _ => False) (base := wn.heap.size) (v := .slice (some ⟨wn.heap.size, 0, none⟩) 0 0) (l := []) (m := cut) eiIntsH (by rfl) _ _ rfl rfl rfl ⟨[], World.ownsRow_lit wn #[] 0 (Nat.le_refl _) (by simp [maxLen]) (by simp), fun i h => absurd h (by simp)⟩ (SL.flat _ (HCW.out.keep (.alloc _ _))) (cut).length (by simp) (cut) rfl ?_ ?_ ?_ ?_)
     ·simp only [maxLen]; omega
     ·omega
     ·simp
     intro p9 c9 w9 hown hg
     have hX : Step wn w9 := .of (((Below.refl _ wn).alloc (Nat.le_refl _) _).grown hg (by simp) (by simp [Value.ownBlock]))
     have HC9 := zH ((ownL_flat (fun _ => False) hown).slb fun _ _ h => h)
     have HVG9 := zH (HVG.out.keep (.of_step hX))
     have HT9 := zH (HT.out.trans hX)
     clear hX hown hg HCW HVG HT hl2
     have HT := HT9
     clear HT9
     have hcall := ProveStuck_any (fun _ => False) h m cut _ _ _ HVG9.out HC9.out
     rw [hps.out] at hcall
     have HCALL := zH hcall
     clear hcall
     go_wp2_with fail
     refine (HCALL.out).mono ?_
     rintro e wn ⟨rfl, hSn⟩
     have HTn := zH (HT.out.trans hSn)
     have HSN := zH hSn
     clear HT hSn
     have HT := HTn
     clear HTn
     clear HCALL HSN HVG9 HC9
     go_wp2_with fail
     refine (gwakes_any _).mono ?_
     rintro e wn ⟨rfl, hSn⟩
     have HTn := zH (HT.out.trans hSn)
     have HSN := zH hSn
     clear HT hSn
     have HT := HTn
     clear HTn
     go_wp2
     go_ret
     exact ⟨rfl, HS.out.trans HT.out⟩
    | true =>
     have HPF := HFW
     have HCL := zH HL2.out.2
     have e0 := (HB.out.step HT.out).cell 0
     have e1 := (HB.out.step HT.out).cell 1
     simp only [zD, zE] at e0 e1
     go_wp2_with fail
     refine (GHall_any (fun _ => False) h _ _ (HAV.out _ HT.out) HL.out.1 HL.out.2).mono ?_
     rintro e wn ⟨vg, rfl, hv', hSn⟩
     have HVG := zH (av0 hv')
     have HPC2 := zH (HPC.out.keep (.of_step (HT.out.trans hSn)))
     clear hv' e0 e1
     have HTn := zH (HT.out.trans hSn)
     have HSN := zH hSn
     clear HT hSn
     have HT := HTn
     clear HTn
     clear HSN
     go_wp2_with fail
     refine (rowsL_any (fun _ => False) plan _ _ HPC2.out (by have := HPF.out.1; omega) HPF.out.sz).mono ?_
     rintro e wn ⟨vr2, rfl, hro, hSn⟩
     have HRW := zH (hro.sl (S := fun _ => False) fun _ _ h => h)
     have HVG2 := zH (HVG.out.keep (.of_step hSn))
     clear hro HVG HPC2
     have HTn := zH (HT.out.trans hSn)
     have HSN := zH hSn
     clear HT hSn
     have HT := HTn
     clear HTn
     clear HSN
     have hcall := ProveOut_any (fun _ => False) h m plan _ _ _ HVG2.out HRW.out
     rw [hpo.out] at hcall
     have HCALL := zH hcall
     clear hcall
     go_wp2_with fail
     refine (HCALL.out).mono ?_
     rintro e wn ⟨rfl, hSn⟩
     have HTn := zH (HT.out.trans hSn)
     have HSN := zH hSn
     clear HT hSn
     have HT := HTn
     clear HTn
     clear HCALL HSN HVG2 HRW
     have e0 := (HB.out.step HT.out).cell 0
     have e1 := (HB.out.step HT.out).cell 1
     simp only [zD, zE] at e0 e1
     go_wp2_with fail
     refine (GHall_any (fun _ => False) h _ _ (HAV.out _ HT.out) HL.out.1 HL.out.2).mono ?_
     rintro e wn ⟨vg, rfl, hv', hSn⟩
     have HVG := zH (av0 hv')
     clear hv' e0 e1
     have HTn := zH (HT.out.trans hSn)
     have HSN := zH hSn
     clear HT hSn
     have HT := HTn
     clear HTn
     clear HSN
     have HCW := zH (HCC.out.keep (.of_step HT.out))
     have hl2 := HCL.out
     go_wp2_with (at_builtin; refine wpl_append_g (α := Int) (S := fun _ => False) (base := wn.heap.size) (v := .slice (some ⟨wn.heap.size, 0, none⟩) 0 0) (l := []) (m := cut) eiIntsH (by rfl) _ _ rfl rfl rfl ⟨[], World.ownsRow_lit wn #[] 0 (Nat.le_refl _) (by simp [maxLen]) (by simp), fun i h => absurd h (by simp)⟩ (SL.flat _ (HCW.out.keep (.alloc _ _))) (cut).length (by simp) (cut) rfl ?_ ?_ ?_ ?_)
     ·simp only [maxLen]; omega
     ·omega
     ·simp
     intro p9 c9 w9 hown hg
     have hX : Step wn w9 := .of (((Below.refl _ wn).alloc (Nat.le_refl _) _).grown hg (by simp) (by simp [Value.ownBlock]))
     have HC9 := zH ((ownL_flat (fun _ => False) hown).slb fun _ _ h => h)
     have HVG9 := zH (HVG.out.keep (.of_step hX))
     have HT9 := zH (HT.out.trans hX)
     clear hX hown hg HCW HVG HT hl2
     have HT := HT9
     clear HT9
     have hcall := ProveStuck_any (fun _ => False) h m cut _ _ _ HVG9.out HC9.out
     rw [hps.out] at hcall
     have HCALL := zH hcall
     clear hcall
     go_wp2_with fail
     refine (HCALL.out).mono ?_
     rintro e wn ⟨rfl, hSn⟩
     have HTn := zH (HT.out.trans hSn)
     have HSN := zH hSn
     clear HT hSn
     have HT := HTn
     clear HTn
     clear HCALL HSN HVG9 HC9
     go_wp2_with fail
     refine (gwakes_any _).mono ?_
     rintro e wn ⟨rfl, hSn⟩
     have HTn := zH (HT.out.trans hSn)
     have HSN := zH hSn
     clear HT hSn
     have HT := HTn
     clear HTn
     go_wp2
     go_ret
     exact ⟨rfl, HS.out.trans HT.out⟩
   | true =>
   have HQ := zH hbh
   have HO := zH (hallB_iff.1 hbh)
   clear hbh
   go_wp2_with fail
   refine (bigtopref01.In_any _ _ _ _).mono ?_
   rintro e wz ⟨rfl, rfl⟩
   cases hm : withinB m 0 60 with
   | false =>
    have hpo := zH (show poutB h m plan = false by unfold poutB; rw [hm, Bool.false_and, Bool.and_false])
    have hps := zH (show pstuckB h m cut = false by unfold pstuckB; rw [hm, Bool.false_and, Bool.and_false])
    clear hm
    cases own with
    | false =>
     have HPF := HFW
     have HCL := zH HL2.out.2
     have e0 := (HB.out.step HT.out).cell 0
     have e1 := (HB.out.step HT.out).cell 1
     simp only [zD, zE] at e0 e1
     go_wp2_with fail
     refine (GHall_any (fun _ => False) h _ _ (HAV.out _ HT.out) HL.out.1 HL.out.2).mono ?_
     rintro e wn ⟨vg, rfl, hv', hSn⟩
     have HVG := zH (av0 hv')
     have HPC2 := zH (HPC.out.keep (.of_step (HT.out.trans hSn)))
     clear hv' e0 e1
     have HTn := zH (HT.out.trans hSn)
     have HSN := zH hSn
     clear HT hSn
     have HT := HTn
     clear HTn
     clear HSN
     go_wp2_with fail
     refine (rowsL_any (fun _ => False) plan _ _ HPC2.out (by have := HPF.out.1; omega) HPF.out.sz).mono ?_
     rintro e wn ⟨vr2, rfl, hro, hSn⟩
     have HRW := zH (hro.sl (S := fun _ => False) fun _ _ h => h)
     have HVG2 := zH (HVG.out.keep (.of_step hSn))
     clear hro HVG HPC2
     have HTn := zH (HT.out.trans hSn)
     have HSN := zH hSn
     clear HT hSn
     have HT := HTn
     clear HTn
     clear HSN
     have hcall := ProveOut_any (fun _ => False) h m plan _ _ _ HVG2.out HRW.out
     rw [hpo.out] at hcall
     have HCALL := zH hcall
     clear hcall
     go_wp2_with fail
     refine (HCALL.out).mono ?_
     rintro e wn ⟨rfl, hSn⟩
     have HTn := zH (HT.out.trans hSn)
     have HSN := zH hSn
     clear HT hSn
     have HT := HTn
     clear HTn
     clear HCALL HSN HVG2 HRW
     have e0 := (HB.out.step HT.out).cell 0
     have e1 := (HB.out.step HT.out).cell 1
     simp only [zD, zE] at e0 e1
     go_wp2_with fail
     refine (GHall_any (fun _ => False) h _ _ (HAV.out _ HT.out) HL.out.1 HL.out.2).mono ?_
     rintro e wn ⟨vg, rfl, hv', hSn⟩
     have HVG := zH (av0 hv')
     clear hv' e0 e1
     have HTn := zH (HT.out.trans hSn)
     have HSN := zH hSn
     clear HT hSn
     have HT := HTn
     clear HTn
     clear HSN
     have HCW := zH (HCC.out.keep (.of_step HT.out))
     have hl2 := HCL.out
     go_wp2_with (at_builtin; refine wpl_append_g (α := Int) (S := fun _ => False) (base := wn.heap.size) (v := .slice (some ⟨wn.heap.size, 0, none⟩) 0 0) (l := []) (m := cut) eiIntsH (by rfl) _ _ rfl rfl rfl ⟨[], World.ownsRow_lit wn #[] 0 (Nat.le_refl _) (by simp [maxLen]) (by simp), fun i h => absurd h (by simp)⟩ (SL.flat _ (HCW.out.keep (.alloc _ _))) (cut).length (by simp) (cut) rfl ?_ ?_ ?_ ?_)
     ·simp only [maxLen]; omega
     ·omega
     ·simp
     intro p9 c9 w9 hown hg
     have hX : Step wn w9 := .of (((Below.refl _ wn).alloc (Nat.le_refl _) _).grown hg (by simp) (by simp [Value.ownBlock]))
     have HC9 := zH ((ownL_flat (fun _ => False) hown).slb fun _ _ h => h)
     have HVG9 := zH (HVG.out.keep (.of_step hX))
     have HT9 := zH (HT.out.trans hX)
     clear hX hown hg HCW HVG HT hl2
     have HT := HT9
     clear HT9
     have hcall := ProveStuck_any (fun _ => False) h m cut _ _ _ HVG9.out HC9.out
     rw [hps.out] at hcall
     have HCALL := zH hcall
     clear hcall
     go_wp2_with fail
     refine (HCALL.out).mono ?_
     rintro e wn ⟨rfl, hSn⟩
     have HTn := zH (HT.out.trans hSn)
     have HSN := zH hSn
     clear HT hSn
     have HT := HTn
     clear HTn
     clear HCALL HSN HVG9 HC9
     go_wp2_with fail
     refine (gwakes_any _).mono ?_
     rintro e wn ⟨rfl, hSn⟩
     have HTn := zH (HT.out.trans hSn)
     have HSN := zH hSn
     clear HT hSn
     have HT := HTn
     clear HTn
     go_wp2
     go_ret
     exact ⟨rfl, HS.out.trans HT.out⟩
    | true =>
     have HPF := HFW
     have HCL := zH HL2.out.2
     have e0 := (HB.out.step HT.out).cell 0
     have e1 := (HB.out.step HT.out).cell 1
     simp only [zD, zE] at e0 e1
     go_wp2_with fail
     refine (GHall_any (fun _ => False) h _ _ (HAV.out _ HT.out) HL.out.1 HL.out.2).mono ?_
     rintro e wn ⟨vg, rfl, hv', hSn⟩
     have HVG := zH (av0 hv')
     have HPC2 := zH (HPC.out.keep (.of_step (HT.out.trans hSn)))
     clear hv' e0 e1
     have HTn := zH (HT.out.trans hSn)
     have HSN := zH hSn
     clear HT hSn
     have HT := HTn
     clear HTn
     clear HSN
     go_wp2_with fail
     refine (rowsL_any (fun _ => False) plan _ _ HPC2.out (by have := HPF.out.1; omega) HPF.out.sz).mono ?_
     rintro e wn ⟨vr2, rfl, hro, hSn⟩
     have HRW := zH (hro.sl (S := fun _ => False) fun _ _ h => h)
     have HVG2 := zH (HVG.out.keep (.of_step hSn))
     clear hro HVG HPC2
     have HTn := zH (HT.out.trans hSn)
     have HSN := zH hSn
     clear HT hSn
     have HT := HTn
     clear HTn
     clear HSN
     have hcall := ProveOut_any (fun _ => False) h m plan _ _ _ HVG2.out HRW.out
     rw [hpo.out] at hcall
     have HCALL := zH hcall
     clear hcall
     go_wp2_with fail
     refine (HCALL.out).mono ?_
     rintro e wn ⟨rfl, hSn⟩
     have HTn := zH (HT.out.trans hSn)
     have HSN := zH hSn
     clear HT hSn
     have HT := HTn
     clear HTn
     clear HCALL HSN HVG2 HRW
     have e0 := (HB.out.step HT.out).cell 0
     have e1 := (HB.out.step HT.out).cell 1
     simp only [zD, zE] at e0 e1
     go_wp2_with fail
     refine (GHall_any (fun _ => False) h _ _ (HAV.out _ HT.out) HL.out.1 HL.out.2).mono ?_
     rintro e wn ⟨vg, rfl, hv', hSn⟩
     have HVG := zH (av0 hv')
     clear hv' e0 e1
     have HTn := zH (HT.out.trans hSn)
     have HSN := zH hSn
     clear HT hSn
     have HT := HTn
     clear HTn
     clear HSN
     have HCW := zH (HCC.out.keep (.of_step HT.out))
     have hl2 := HCL.out
     go_wp2_with (at_builtin; refine wpl_append_g (α := Int) (S := fun _ => False) (base := wn.heap.size) (v := .slice (some ⟨wn.heap.size, 0, none⟩) 0 0) (l := []) (m := cut) eiIntsH (by rfl) _ _ rfl rfl rfl ⟨[], World.ownsRow_lit wn #[] 0 (Nat.le_refl _) (by simp [maxLen]) (by simp), fun i h => absurd h (by simp)⟩ (SL.flat _ (HCW.out.keep (.alloc _ _))) (cut).length (by simp) (cut) rfl ?_ ?_ ?_ ?_)
     ·simp only [maxLen]; omega
     ·omega
     ·simp
     intro p9 c9 w9 hown hg
     have hX : Step wn w9 := .of (((Below.refl _ wn).alloc (Nat.le_refl _) _).grown hg (by simp) (by simp [Value.ownBlock]))
     have HC9 := zH ((ownL_flat (fun _ => False) hown).slb fun _ _ h => h)
     have HVG9 := zH (HVG.out.keep (.of_step hX))
     have HT9 := zH (HT.out.trans hX)
     clear hX hown hg HCW HVG HT hl2
     have HT := HT9
     clear HT9
     have hcall := ProveStuck_any (fun _ => False) h m cut _ _ _ HVG9.out HC9.out
     rw [hps.out] at hcall
     have HCALL := zH hcall
     clear hcall
     go_wp2_with fail
     refine (HCALL.out).mono ?_
     rintro e wn ⟨rfl, hSn⟩
     have HTn := zH (HT.out.trans hSn)
     have HSN := zH hSn
     clear HT hSn
     have HT := HTn
     clear HTn
     clear HCALL HSN HVG9 HC9
     go_wp2_with fail
     refine (gwakes_any _).mono ?_
     rintro e wn ⟨rfl, hSn⟩
     have HTn := zH (HT.out.trans hSn)
     have HSN := zH hSn
     clear HT hSn
     have HT := HTn
     clear HTn
     go_wp2
     go_ret
     exact ⟨rfl, HS.out.trans HT.out⟩
   | true =>
   have hm2 : 0 ≤ m ∧ m ≤ 60 := by simp [withinB] at hm; omega
   obtain ⟨T, rfl⟩ : ∃ T : Nat, m = T := ⟨m.toNat, by omega⟩
   have HT60 := zH (show T ≤ 60 by omega)
   clear hm hm2
   cases own with
   | false =>
    have HPF := HFW
    have HCL := zH HL2.out.2
    have HM60 := HT60
    have e0 := (HB.out.step HT.out).cell 0
    have e1 := (HB.out.step HT.out).cell 1
    simp only [zD, zE] at e0 e1
    go_wp2_with fail
    refine (RIsOut_any (fun _ => False) h T plan _ _ _ (HAV.out _ HT.out) (HPC.out.keep (.of_step HT.out)) HO.out HM60.out).mono ?_
    rintro e wn ⟨rfl, hSn⟩
    have HTn := zH (HT.out.trans hSn)
    have HSN := zH hSn
    clear HT hSn
    have HT := HTn
    clear HTn
    clear HSN e0 e1
    obtain ⟨b1, hb1⟩ : ∃ z, z = outB h T plan := ⟨_, rfl⟩
    rw [← hb1]
    have hpo := zH (show poutB h (T : Int) plan = b1 by rw [pout_at HQ.out HM60.out, ← hb1])
    clear hb1
    have e0 := (HB.out.step HT.out).cell 0
    have e1 := (HB.out.step HT.out).cell 1
    simp only [zD, zE] at e0 e1
    go_wp2_with fail
    refine (RSize_any (fun _ => False) h T cut _ _ _ (HAV.out _ HT.out) (HCC.out.keep (.of_step HT.out)) HO.out HT60.out).mono ?_
    rintro e wn ⟨rfl, hSn⟩
    have HTn := zH (HT.out.trans hSn)
    have HSN := zH hSn
    clear HT hSn
    have HT := HTn
    clear HTn
    clear HSN e0 e1
    obtain ⟨z, hz⟩ : ∃ z, z = sizeR h T cut := ⟨_, rfl⟩
    rw [← hz]
    obtain ⟨A, hA⟩ : ∃ A, A = allH h := ⟨_, rfl⟩
    have HPS := zH (show pstuckB h (T : Int) cut = (decide (0 ≤ z) && decide (z < A)) by rw [pstuck_at HQ.out HT60.out, stuckB_size HO.out, ← hz, ← hA])
    have HA := zH hA
    clear hz hA
    have e0 := (HB.out.step HT.out).cell 0
    have e1 := (HB.out.step HT.out).cell 1
    simp only [zD, zE] at e0 e1
    go_wp2_with fail
    refine (GHall_any (fun _ => False) h _ _ (HAV.out _ HT.out) HL.out.1 HL.out.2).mono ?_
    rintro e wn ⟨vg, rfl, hv', hSn⟩
    have HVG := zH (av0 hv')
    have HPC2 := zH (HPC.out.keep (.of_step (HT.out.trans hSn)))
    clear hv' e0 e1
    have HTn := zH (HT.out.trans hSn)
    have HSN := zH hSn
    clear HT hSn
    have HT := HTn
    clear HTn
    clear HSN
    go_wp2_with fail
    refine (rowsL_any (fun _ => False) plan _ _ HPC2.out (by have := HPF.out.1; omega) HPF.out.sz).mono ?_
    rintro e wn ⟨vr2, rfl, hro, hSn⟩
    have HRW := zH (hro.sl (S := fun _ => False) fun _ _ h => h)
    have HVG2 := zH (HVG.out.keep (.of_step hSn))
    clear hro HVG HPC2
    have HTn := zH (HT.out.trans hSn)
    have HSN := zH hSn
    clear HT hSn
    have HT := HTn
    clear HTn
    clear HSN
    have hcall := ProveOut_any (fun _ => False) h (T : Int) plan _ _ _ HVG2.out HRW.out
    rw [hpo.out] at hcall
    have HCALL := zH hcall
    clear hcall
    go_wp2_with fail
    refine (HCALL.out).mono ?_
    rintro e wn ⟨rfl, hSn⟩
    have HTn := zH (HT.out.trans hSn)
    have HSN := zH hSn
    clear HT hSn
    have HT := HTn
    clear HTn
    clear HCALL HSN HVG2 HRW
    have e0 := (HB.out.step HT.out).cell 0
    have e1 := (HB.out.step HT.out).cell 1
    simp only [zD, zE] at e0 e1
    go_wp2_with fail
    refine (GHall_any (fun _ => False) h _ _ (HAV.out _ HT.out) HL.out.1 HL.out.2).mono ?_
    rintro e wn ⟨vg, rfl, hv', hSn⟩
    have HVG := zH (av0 hv')
    clear hv' e0 e1
    have HTn := zH (HT.out.trans hSn)
    have HSN := zH hSn
    clear HT hSn
    have HT := HTn
    clear HTn
    clear HSN
    have HCW := zH (HCC.out.keep (.of_step HT.out))
    have hl2 := HCL.out
    go_wp2_with (at_builtin; refine wpl_append_g (α := Int) (S := fun _ => False) (base := wn.heap.size) (v := .slice (some ⟨wn.heap.size, 0, none⟩) 0 0) (l := []) (m := cut) eiIntsH (by rfl) _ _ rfl rfl rfl ⟨[], World.ownsRow_lit wn #[] 0 (Nat.le_refl _) (by simp [maxLen]) (by simp), fun i h => absurd h (by simp)⟩ (SL.flat _ (HCW.out.keep (.alloc _ _))) (cut).length (by simp) (cut) rfl ?_ ?_ ?_ ?_)
    ·simp only [maxLen]; omega
    ·omega
    ·simp
    intro p9 c9 w9 hown hg
    have hX : Step wn w9 := .of (((Below.refl _ wn).alloc (Nat.le_refl _) _).grown hg (by simp) (by simp [Value.ownBlock]))
    have HC9 := zH ((ownL_flat (fun _ => False) hown).slb fun _ _ h => h)
    have HVG9 := zH (HVG.out.keep (.of_step hX))
    have HT9 := zH (HT.out.trans hX)
    clear hX hown hg HCW HVG HT hl2
    have HT := HT9
    clear HT9
    have hcall := ProveStuck_any (fun _ => False) h (T : Int) cut _ _ _ HVG9.out HC9.out
    rw [HPS.out] at hcall
    by_cases hz0 : 0 ≤ z
    ·have hzd : decide (0 ≤ z) = true := decide_eq_true hz0
     rw [hzd, Bool.true_and] at hcall
     have HCALL := zH hcall
     clear hcall
     go_wp2_with fail
     refine (HCALL.out).mono ?_
     rintro e wn ⟨rfl, hSn⟩
     have HTn := zH (HT.out.trans hSn)
     have HSN := zH hSn
     clear HT hSn
     have HT := HTn
     clear HTn
     clear HCALL HSN HVG9 HC9
     have e0 := (HB.out.step HT.out).cell 0
     have e1 := (HB.out.step HT.out).cell 1
     simp only [zD, zE] at e0 e1
     go_wp2_with fail
     refine (RAllH_any (fun _ => False) h _ _ (HAV.out _ HT.out) HO.out).mono ?_
     rintro e wn ⟨rfl, hSn⟩
     rw [← HA.out]
     have HTn := zH (HT.out.trans hSn)
     have HSN := zH hSn
     clear HT hSn
     have HT := HTn
     clear HTn
     clear HSN e0 e1
     go_wp2_with fail
     refine (gwakes_any _).mono ?_
     rintro e wn ⟨rfl, hSn⟩
     have HTn := zH (HT.out.trans hSn)
     have HSN := zH hSn
     clear HT hSn
     have HT := HTn
     clear HTn
     go_wp2
     go_ret
     exact ⟨rfl, HS.out.trans HT.out⟩
    ·have hzd : decide (0 ≤ z) = false := decide_eq_false hz0
     rw [hzd, Bool.false_and] at hcall
     have HCALL := zH hcall
     clear hcall
     go_wp2_with fail
     refine (HCALL.out).mono ?_
     rintro e wn ⟨rfl, hSn⟩
     have HTn := zH (HT.out.trans hSn)
     have HSN := zH hSn
     clear HT hSn
     have HT := HTn
     clear HTn
     clear HCALL HSN HVG9 HC9
     go_wp2_with fail
     refine (gwakes_any _).mono ?_
     rintro e wn ⟨rfl, hSn⟩
     have HTn := zH (HT.out.trans hSn)
     have HSN := zH hSn
     clear HT hSn
     have HT := HTn
     clear HTn
     go_wp2
     go_ret
     exact ⟨rfl, HS.out.trans HT.out⟩
   | true =>
   have HCC3 := zH (HCC.out.keep (.of_step HT.out))
   have HPC3 := zH (HPC.out.keep (.of_step HT.out))
   clear HCC HPC
   have HCC := HCC3
   have HPC := HPC3
   clear HCC3 HPC3 HSN
   have qa := HB.out.step HT.out
   have qb := HS.out.trans HT.out
   have qc := fun W (hW : Step wn W) => HAV.out W (HT.out.trans hW)
   clear HB HS HAV HT
   have HB := zH qa
   have HS := zH qb
   have HAV := zH qc
   have HT := zH (Step.refl wn)
   clear qa qb qc
   have e0 := (HB.out.step HT.out).cell 0
   have e1 := (HB.out.step HT.out).cell 1
   simp only [zD, zE] at e0 e1
   go_wp2_with fail
   refine (GHall_any (fun _ => False) h _ _ (HAV.out _ HT.out) HL.out.1 HL.out.2).mono ?_
   rintro e wn ⟨va, rfl, hv', hSn⟩
   have HVva := zH (av0 hv')
   clear hv' e0 e1
   have HTn := zH (HT.out.trans hSn)
   have HSN := zH hSn
   clear HT hSn
   have HT := HTn
   clear HTn
   clear HSN
   go_wp2_with fail
   refine (Leave_any (fun _ => False) h _ _ HVva.out).mono ?_
   rintro e wn ⟨c, n, pl, vq, rfl, hL, hpl, hSn⟩
   have HQL := zH (show ∀ W, Step wn W → SL (fun _ => False) W vq pl from fun W hW => (sl0 hpl).keep (.of_step hW))
   have HLV := zH hL
   obtain ⟨pq, kq, rfl⟩ := hpl.form
   clear hpl hL HVva
   have HTn := zH (HT.out.trans hSn)
   have HSN := zH hSn
   clear HT hSn
   have HT := HTn
   clear HTn
   have HQL2 := HQL
   obtain ⟨wl, hwl⟩ : ∃ z, z = wn := ⟨_, rfl⟩
   subst hwl
   clear HSN
   have HTL := zH (Step.refl wl)
   have e0 := (HB.out.step HT.out).cell 0
   have e1 := (HB.out.step HT.out).cell 1
   simp only [zD, zE] at e0 e1
   go_wp2_with fail
   refine (GHall_any (fun _ => False) h _ _ (HAV.out _ HT.out) HL.out.1 HL.out.2).mono ?_
   rintro e wn ⟨vb, rfl, hv', hSn⟩
   have HVb := zH (av0 hv')
   have HTL2 := zH (HTL.out.trans hSn)
   clear hv' e0 e1 HTL
   have HTn := zH (HT.out.trans hSn)
   have HSN := zH hSn
   clear HT hSn
   have HT := HTn
   clear HTn
   clear HSN
   go_wp2_with fail
   refine (Stuck_any (fun _ => False) h (T : Int) _ _ HVb.out).mono ?_
   rintro e wn ⟨c', cu, vs, rfl, hSt, hcv, hSn⟩
   have HCU := zH (sl0 hcv)
   have HST := zH hSt
   have HQ9 := zH (HQL.out _ (HTL2.out.trans hSn))
   obtain ⟨pz, kz, rfl⟩ := hcv.form
   clear hcv hSt HVb HTL2 HQL HQL2
   have HTn := zH (HT.out.trans hSn)
   have HSN := zH hSn
   clear HT hSn
   have HT := HTn
   clear HTn
   clear HSN
   have HCC3 := zH (HCC.out.keep (.of_step HT.out))
   have HPC3 := zH (HPC.out.keep (.of_step HT.out))
   clear HCC HPC
   have HCC := HCC3
   have HPC := HPC3
   clear HCC3 HPC3
   have qa := HB.out.step HT.out
   have qb := HS.out.trans HT.out
   have qc := fun W (hW : Step wn W) => HAV.out W (HT.out.trans hW)
   clear HB HS HAV HT
   have HB := zH qa
   have HS := zH qb
   have HAV := zH qc
   have HT := zH (Step.refl wn)
   clear qa qb qc
   obtain ⟨wk, hwk⟩ : ∃ z, z = wn := ⟨_, rfl⟩
   subst hwk
   rcases HLV.out.codes HQ.out with rfl | rfl
   case inr =>
    have HPF := HFW
    have HM60 := HT60
    have HCC2 := zH (HCC.out.keep (.of_step HT.out))
    have HCU2 := zH (HCU.out.keep (.of_step HT.out))
    clear HCC HCU
    have HCC := HCC2
    have HCU := HCU2
    clear HCC2 HCU2
    have qa := HB.out.step HT.out
    have qb := HS.out.trans HT.out
    have qc := fun W (hW : Step wk W) => HAV.out W (HT.out.trans hW)
    clear HB HS HAV HT
    have HB := zH qa
    have HS := zH qb
    have HAV := zH qc
    have HT := zH (Step.refl wk)
    clear qa qb qc
    by_cases F : Feas h T
    ·obtain ⟨rfl, rfl⟩ := HST.out.out HQ.out (by have := HT60.out; omega) (by rw [Int.toNat_natCast]; exact F)
     have HCL := zH HL2.out.2
     clear F
     have e0 := (HB.out.step HT.out).cell 0
     have e1 := (HB.out.step HT.out).cell 1
     simp only [zD, zE] at e0 e1
     go_wp2_with fail
     refine (RIsOut_any (fun _ => False) h T plan _ _ _ (HAV.out _ HT.out) (HPC.out.keep (.of_step HT.out)) HO.out HM60.out).mono ?_
     rintro e wn ⟨rfl, hSn⟩
     have HTn := zH (HT.out.trans hSn)
     have HSN := zH hSn
     clear HT hSn
     have HT := HTn
     clear HTn
     clear HSN e0 e1
     obtain ⟨b1, hb1⟩ : ∃ z, z = outB h T plan := ⟨_, rfl⟩
     rw [← hb1]
     have hpo := zH (show poutB h (T : Int) plan = b1 by rw [pout_at HQ.out HM60.out, ← hb1])
     clear hb1
     have e0 := (HB.out.step HT.out).cell 0
     have e1 := (HB.out.step HT.out).cell 1
     simp only [zD, zE] at e0 e1
     go_wp2_with fail
     refine (RSize_any (fun _ => False) h T cut _ _ _ (HAV.out _ HT.out) (HCC.out.keep (.of_step HT.out)) HO.out HT60.out).mono ?_
     rintro e wn ⟨rfl, hSn⟩
     have HTn := zH (HT.out.trans hSn)
     have HSN := zH hSn
     clear HT hSn
     have HT := HTn
     clear HTn
     clear HSN e0 e1
     obtain ⟨z, hz⟩ : ∃ z, z = sizeR h T cut := ⟨_, rfl⟩
     rw [← hz]
     obtain ⟨A, hA⟩ : ∃ A, A = allH h := ⟨_, rfl⟩
     have HPS := zH (show pstuckB h (T : Int) cut = (decide (0 ≤ z) && decide (z < A)) by rw [pstuck_at HQ.out HT60.out, stuckB_size HO.out, ← hz, ← hA])
     have HA := zH hA
     clear hz hA
     have e0 := (HB.out.step HT.out).cell 0
     have e1 := (HB.out.step HT.out).cell 1
     simp only [zD, zE] at e0 e1
     go_wp2_with fail
     refine (GHall_any (fun _ => False) h _ _ (HAV.out _ HT.out) HL.out.1 HL.out.2).mono ?_
     rintro e wn ⟨vg, rfl, hv', hSn⟩
     have HVG := zH (av0 hv')
     have HPC2 := zH (HPC.out.keep (.of_step (HT.out.trans hSn)))
     clear hv' e0 e1
     have HTn := zH (HT.out.trans hSn)
     have HSN := zH hSn
     clear HT hSn
     have HT := HTn
     clear HTn
     clear HSN
     go_wp2_with fail
     refine (rowsL_any (fun _ => False) plan _ _ HPC2.out (by have := HPF.out.1; omega) HPF.out.sz).mono ?_
     rintro e wn ⟨vr2, rfl, hro, hSn⟩
     have HRW := zH (hro.sl (S := fun _ => False) fun _ _ h => h)
     have HVG2 := zH (HVG.out.keep (.of_step hSn))
     clear hro HVG HPC2
     have HTn := zH (HT.out.trans hSn)
     have HSN := zH hSn
     clear HT hSn
     have HT := HTn
     clear HTn
     clear HSN
     have hcall := ProveOut_any (fun _ => False) h (T : Int) plan _ _ _ HVG2.out HRW.out
     rw [hpo.out] at hcall
     have HCALL := zH hcall
     clear hcall
     go_wp2_with fail
     refine (HCALL.out).mono ?_
     rintro e wn ⟨rfl, hSn⟩
     have HTn := zH (HT.out.trans hSn)
     have HSN := zH hSn
     clear HT hSn
     have HT := HTn
     clear HTn
     clear HCALL HSN HVG2 HRW
     have e0 := (HB.out.step HT.out).cell 0
     have e1 := (HB.out.step HT.out).cell 1
     simp only [zD, zE] at e0 e1
     go_wp2_with fail
     refine (GHall_any (fun _ => False) h _ _ (HAV.out _ HT.out) HL.out.1 HL.out.2).mono ?_
     rintro e wn ⟨vg, rfl, hv', hSn⟩
     have HVG := zH (av0 hv')
     clear hv' e0 e1
     have HTn := zH (HT.out.trans hSn)
     have HSN := zH hSn
     clear HT hSn
     have HT := HTn
     clear HTn
     clear HSN
     have HCW := zH (HCC.out.keep (.of_step HT.out))
     have hl2 := HCL.out
     go_wp2_with (at_builtin; refine wpl_append_g (α := Int) (S := fun _ => False) (base := wn.heap.size) (v := .slice (some ⟨wn.heap.size, 0, none⟩) 0 0) (l := []) (m := cut) eiIntsH (by rfl) _ _ rfl rfl rfl ⟨[], World.ownsRow_lit wn #[] 0 (Nat.le_refl _) (by simp [maxLen]) (by simp), fun i h => absurd h (by simp)⟩ (SL.flat _ (HCW.out.keep (.alloc _ _))) (cut).length (by simp) (cut) rfl ?_ ?_ ?_ ?_)
     ·simp only [maxLen]; omega
     ·omega
     ·simp
     intro p9 c9 w9 hown hg
     have hX : Step wn w9 := .of (((Below.refl _ wn).alloc (Nat.le_refl _) _).grown hg (by simp) (by simp [Value.ownBlock]))
     have HC9 := zH ((ownL_flat (fun _ => False) hown).slb fun _ _ h => h)
     have HVG9 := zH (HVG.out.keep (.of_step hX))
     have HT9 := zH (HT.out.trans hX)
     clear hX hown hg HCW HVG HT hl2
     have HT := HT9
     clear HT9
     have hcall := ProveStuck_any (fun _ => False) h (T : Int) cut _ _ _ HVG9.out HC9.out
     rw [HPS.out] at hcall
     by_cases hz0 : 0 ≤ z
     ·have hzd : decide (0 ≤ z) = true := decide_eq_true hz0
      rw [hzd, Bool.true_and] at hcall
      have HCALL := zH hcall
      clear hcall
      go_wp2_with fail
      refine (HCALL.out).mono ?_
      rintro e wn ⟨rfl, hSn⟩
      have HTn := zH (HT.out.trans hSn)
      have HSN := zH hSn
      clear HT hSn
      have HT := HTn
      clear HTn
      clear HCALL HSN HVG9 HC9
      have e0 := (HB.out.step HT.out).cell 0
      have e1 := (HB.out.step HT.out).cell 1
      simp only [zD, zE] at e0 e1
      go_wp2_with fail
      refine (RAllH_any (fun _ => False) h _ _ (HAV.out _ HT.out) HO.out).mono ?_
      rintro e wn ⟨rfl, hSn⟩
      rw [← HA.out]
      have HTn := zH (HT.out.trans hSn)
      have HSN := zH hSn
      clear HT hSn
      have HT := HTn
      clear HTn
      clear HSN e0 e1
      go_wp2_with fail
      refine (gwakes_any _).mono ?_
      rintro e wn ⟨rfl, hSn⟩
      have HTn := zH (HT.out.trans hSn)
      have HSN := zH hSn
      clear HT hSn
      have HT := HTn
      clear HTn
      go_wp2
      go_ret
      exact ⟨rfl, HS.out.trans HT.out⟩
     ·have hzd : decide (0 ≤ z) = false := decide_eq_false hz0
      rw [hzd, Bool.false_and] at hcall
      have HCALL := zH hcall
      clear hcall
      go_wp2_with fail
      refine (HCALL.out).mono ?_
      rintro e wn ⟨rfl, hSn⟩
      have HTn := zH (HT.out.trans hSn)
      have HSN := zH hSn
      clear HT hSn
      have HT := HTn
      clear HTn
      clear HCALL HSN HVG9 HC9
      go_wp2_with fail
      refine (gwakes_any _).mono ?_
      rintro e wn ⟨rfl, hSn⟩
      have HTn := zH (HT.out.trans hSn)
      have HSN := zH hSn
      clear HT hSn
      have HT := HTn
      clear HTn
      go_wp2
      go_ret
      exact ⟨rfl, HS.out.trans HT.out⟩
    ·obtain ⟨rfl, hstk⟩ := HST.out.cut HQ.out (by have := HT60.out; omega) (by rw [Int.toNat_natCast]; exact F)
     rw [Int.toNat_natCast] at hstk
     simp only [stuckB, cutOk, Bool.and_eq_true, decide_eq_true_eq, List.all_eq_true] at hstk
     have hcl := hstk.1.1.1
     have hce := hstk.1.2
     have hn2 := HO.out.n2
     have hn10 := HO.out.n10
     have hc0 : 0 < cu.length := by omega
     have hc0i : (0 : Int) < (cu.length : Int) := by omega
     have hc10 : cu.length ≤ 15 := by omega
     obtain ⟨k2, hk2, hkl2⟩ := rem_len HNN.out.1.1 hc0
     have hkw2 : IntKind.i64.wrap (at_.tmod (cu.length : Int)) = (k2 : Int) := by rw [hk2, IntKind.wrap_i64]; omega
     have hen := hce _ (List.getElem_mem hkl2)
     have HEN := zH hen
     have HHC := zH hcl
     have HCW := zH (HCU.out.keep (.of_step HT.out))
     clear hstk hcl hce F hen
     obtain ⟨hwa, hwt, hwb, hwa2, hwt2, hwb2⟩ := HWR.out
     go_wp2_with (at_builtin; refine wpl_append (α := Int) (S := fun _ => False) (base := wk.heap.size) (v := .slice (some ⟨wk.heap.size, 0, none⟩) 0 0) (l := []) (m := cu) eiIntsH rfl _ _ rfl rfl rfl ⟨[], World.ownsRow_lit wk #[] 0 (Nat.le_refl _) (by simp [maxLen]) (by simp), fun i h => absurd h (by simp)⟩ (SL.flat _ (HCW.out.keep (.alloc _ _))) cu.length (by simp) cu rfl ?_ ?_ ?_ ?_)
     ·simp only [maxLen]; omega
     ·omega
     ·simp
     intro p5 c5 wq5 hown hg
     have hX : Step wk wq5 := .of (((Below.refl _ wk).alloc (Nat.le_refl _) _).grown hg (by simp) (by simp [Value.ownBlock]))
     obtain ⟨gc, cc, he, hgb, hgl, hcc, hfz, hput⟩ := own_num hown hkl2
     injection he with he1 he2 he3
     subst he1 he3
     obtain ⟨x2, hx2⟩ : ∃ z, z = cu[k2] := ⟨_, rfl⟩
     rw [← hx2] at hcc
     have hen := HEN.out
     rw [← hx2] at hen
     have hnn := HNN.out.2.2
     have ht60 := HT60.out
     have hwx : IntKind.i64.wrap (x2 + by_) = x2 + by_ := by clear hwa hwt hwb hwa2 hwt2 hwb2 hkw2 hk2 he2; rw [IntKind.wrap_i64]; omega
     have hix : (0 : Int) ≤ (k2 : Int) ∧ (k2 : Int) < (cu.length : Int) := by clear hwa hwt hwb hwa2 hwt2 hwb2 hkw2 hk2 he2 hwx; omega
     have HPUT := zH hput
     have HX5 := zH hX
     have HGB5 := zH hgb
     clear hput hX hown hg hgb hen hnn hx2 he2 HCW ht60
     go_upto_region 21 with (fail)
     obtain ⟨wq8, hwq8⟩ : ∃ z, z = wq5.setCell ⟨gc, k2, none⟩ (.int .i64 (x2 + by_)) := ⟨_, rfl⟩
     rw [← hwq8]
     have hl8 : (cu.set k2 (x2 + by_)).length = cu.length := by simp
     have hcs : SL (fun _ => False) wq8 (.slice (some ⟨gc, 0, none⟩) cu.length c5) (cu.set k2 (x2 + by_)) := by
      have h1 := (ownL_flat (fun _ => False) (HPUT.out (x2 + by_))).slb fun _ _ h => h
      rw [← hwq8] at h1
      exact h1
     have HT8 := zH (show Step wk wq8 by subst hwq8; exact HX5.out.setNew _ _ HGB5.out)
     have HPC3 := zH (HPC.out.keep (.of_step HT8.out))
     clear HCC HPC HT
     have HCC := zH hcs
     have HPC := HPC3
     have HT := HT8
     have HCL := zH (show (cu.set k2 (x2 + by_)).length ≤ 15 by rw [hl8]; exact hc10)
     clear hcs hwq8 HPC3 HT8 hl8 hcc hfz hgl hwx hix hkw2 hk2 hc0i hwa hwt hwb hwa2 hwt2 hwb2
     have qa := HB.out.step HT.out
     have qb := HS.out.trans HT.out
     have qc := fun W (hW : Step wq8 W) => HAV.out W (HT.out.trans hW)
     clear HB HS HAV HT
     have HB := zH qa
     have HS := zH qb
     have HAV := zH qc
     have HT := zH (Step.refl wq8)
     clear qa qb qc
     have e0 := (HB.out.step HT.out).cell 0
     have e1 := (HB.out.step HT.out).cell 1
     simp only [zD, zE] at e0 e1
     go_wp2_with fail
     refine (RIsOut_any (fun _ => False) h T plan _ _ _ (HAV.out _ HT.out) (HPC.out.keep (.of_step HT.out)) HO.out HM60.out).mono ?_
     rintro e wn ⟨rfl, hSn⟩
     have HTn := zH (HT.out.trans hSn)
     have HSN := zH hSn
     clear HT hSn
     have HT := HTn
     clear HTn
     clear HSN e0 e1
     obtain ⟨b1, hb1⟩ : ∃ z, z = outB h T plan := ⟨_, rfl⟩
     rw [← hb1]
     have hpo := zH (show poutB h (T : Int) plan = b1 by rw [pout_at HQ.out HM60.out, ← hb1])
     clear hb1
     have e0 := (HB.out.step HT.out).cell 0
     have e1 := (HB.out.step HT.out).cell 1
     simp only [zD, zE] at e0 e1
     go_wp2_with fail
     refine (RSize_any (fun _ => False) h T (cu.set k2 (x2 + by_)) _ _ _ (HAV.out _ HT.out) (HCC.out.keep (.of_step HT.out)) HO.out HT60.out).mono ?_
     rintro e wn ⟨rfl, hSn⟩
     have HTn := zH (HT.out.trans hSn)
     have HSN := zH hSn
     clear HT hSn
     have HT := HTn
     clear HTn
     clear HSN e0 e1
     obtain ⟨z, hz⟩ : ∃ z, z = sizeR h T (cu.set k2 (x2 + by_)) := ⟨_, rfl⟩
     rw [← hz]
     obtain ⟨A, hA⟩ : ∃ A, A = allH h := ⟨_, rfl⟩
     have HPS := zH (show pstuckB h (T : Int) (cu.set k2 (x2 + by_)) = (decide (0 ≤ z) && decide (z < A)) by rw [pstuck_at HQ.out HT60.out, stuckB_size HO.out, ← hz, ← hA])
     have HA := zH hA
     clear hz hA
     have e0 := (HB.out.step HT.out).cell 0
     have e1 := (HB.out.step HT.out).cell 1
     simp only [zD, zE] at e0 e1
     go_wp2_with fail
     refine (GHall_any (fun _ => False) h _ _ (HAV.out _ HT.out) HL.out.1 HL.out.2).mono ?_
     rintro e wn ⟨vg, rfl, hv', hSn⟩
     have HVG := zH (av0 hv')
     have HPC2 := zH (HPC.out.keep (.of_step (HT.out.trans hSn)))
     clear hv' e0 e1
     have HTn := zH (HT.out.trans hSn)
     have HSN := zH hSn
     clear HT hSn
     have HT := HTn
     clear HTn
     clear HSN
     go_wp2_with fail
     refine (rowsL_any (fun _ => False) plan _ _ HPC2.out (by have := HPF.out.1; omega) HPF.out.sz).mono ?_
     rintro e wn ⟨vr2, rfl, hro, hSn⟩
     have HRW := zH (hro.sl (S := fun _ => False) fun _ _ h => h)
     have HVG2 := zH (HVG.out.keep (.of_step hSn))
     clear hro HVG HPC2
     have HTn := zH (HT.out.trans hSn)
     have HSN := zH hSn
     clear HT hSn
     have HT := HTn
     clear HTn
     clear HSN
     have hcall := ProveOut_any (fun _ => False) h (T : Int) plan _ _ _ HVG2.out HRW.out
     rw [hpo.out] at hcall
     have HCALL := zH hcall
     clear hcall
     go_wp2_with fail
     refine (HCALL.out).mono ?_
     rintro e wn ⟨rfl, hSn⟩
     have HTn := zH (HT.out.trans hSn)
     have HSN := zH hSn
     clear HT hSn
     have HT := HTn
     clear HTn
     clear HCALL HSN HVG2 HRW
     have e0 := (HB.out.step HT.out).cell 0
     have e1 := (HB.out.step HT.out).cell 1
     simp only [zD, zE] at e0 e1
     go_wp2_with fail
     refine (GHall_any (fun _ => False) h _ _ (HAV.out _ HT.out) HL.out.1 HL.out.2).mono ?_
     rintro e wn ⟨vg, rfl, hv', hSn⟩
     have HVG := zH (av0 hv')
     clear hv' e0 e1
     have HTn := zH (HT.out.trans hSn)
     have HSN := zH hSn
     clear HT hSn
     have HT := HTn
     clear HTn
     clear HSN
     have HCW := zH (HCC.out.keep (.of_step HT.out))
     have hl2 := HCL.out
     go_wp2_with (at_builtin; refine wpl_append_g (α := Int) (S := fun _ => False) (base := wn.heap.size) (v := .slice (some ⟨wn.heap.size, 0, none⟩) 0 0) (l := []) (m := (cu.set k2 (x2 + by_))) eiIntsH (by rfl) _ _ rfl rfl rfl ⟨[], World.ownsRow_lit wn #[] 0 (Nat.le_refl _) (by simp [maxLen]) (by simp), fun i h => absurd h (by simp)⟩ (SL.flat _ (HCW.out.keep (.alloc _ _))) ((cu.set k2 (x2 + by_))).length (by simp) ((cu.set k2 (x2 + by_))) rfl ?_ ?_ ?_ ?_)
     ·simp only [maxLen]; omega
     ·omega
     ·simp
     intro p9 c9 w9 hown hg
     have hX : Step wn w9 := .of (((Below.refl _ wn).alloc (Nat.le_refl _) _).grown hg (by simp) (by simp [Value.ownBlock]))
     have HC9 := zH ((ownL_flat (fun _ => False) hown).slb fun _ _ h => h)
     have HVG9 := zH (HVG.out.keep (.of_step hX))
     have HT9 := zH (HT.out.trans hX)
     clear hX hown hg HCW HVG HT hl2
     have HT := HT9
     clear HT9
     have hcall := ProveStuck_any (fun _ => False) h (T : Int) (cu.set k2 (x2 + by_)) _ _ _ HVG9.out HC9.out
     rw [HPS.out] at hcall
     by_cases hz0 : 0 ≤ z
     ·have hzd : decide (0 ≤ z) = true := decide_eq_true hz0
      rw [hzd, Bool.true_and] at hcall
      have HCALL := zH hcall
      clear hcall
      go_wp2_with fail
      refine (HCALL.out).mono ?_
      rintro e wn ⟨rfl, hSn⟩
      have HTn := zH (HT.out.trans hSn)
      have HSN := zH hSn
      clear HT hSn
      have HT := HTn
      clear HTn
      clear HCALL HSN HVG9 HC9
      have e0 := (HB.out.step HT.out).cell 0
      have e1 := (HB.out.step HT.out).cell 1
      simp only [zD, zE] at e0 e1
      go_wp2_with fail
      refine (RAllH_any (fun _ => False) h _ _ (HAV.out _ HT.out) HO.out).mono ?_
      rintro e wn ⟨rfl, hSn⟩
      rw [← HA.out]
      have HTn := zH (HT.out.trans hSn)
      have HSN := zH hSn
      clear HT hSn
      have HT := HTn
      clear HTn
      clear HSN e0 e1
      go_wp2_with fail
      refine (gwakes_any _).mono ?_
      rintro e wn ⟨rfl, hSn⟩
      have HTn := zH (HT.out.trans hSn)
      have HSN := zH hSn
      clear HT hSn
      have HT := HTn
      clear HTn
      go_wp2
      go_ret
      exact ⟨rfl, HS.out.trans HT.out⟩
     ·have hzd : decide (0 ≤ z) = false := decide_eq_false hz0
      rw [hzd, Bool.false_and] at hcall
      have HCALL := zH hcall
      clear hcall
      go_wp2_with fail
      refine (HCALL.out).mono ?_
      rintro e wn ⟨rfl, hSn⟩
      have HTn := zH (HT.out.trans hSn)
      have HSN := zH hSn
      clear HT hSn
      have HT := HTn
      clear HTn
      clear HCALL HSN HVG9 HC9
      go_wp2_with fail
      refine (gwakes_any _).mono ?_
      rintro e wn ⟨rfl, hSn⟩
      have HTn := zH (HT.out.trans hSn)
      have HSN := zH hSn
      clear HT hSn
      have HT := HTn
      clear HTn
      go_wp2
      go_ret
      exact ⟨rfl, HS.out.trans HT.out⟩
   obtain ⟨hn, hout, _⟩ := HLV.out.good HQ.out rfl
   have HOB := zH hout
   have HOP := zH (outB_iff.1 hout)
   have hplw : pl.length ≤ 20 := by have := HOP.out.len; have := HO.out.w20; omega
   have HFP := zH (show RowsFew pl from ⟨by omega, fun r hr => by
    obtain ⟨j, hj, rfl⟩ := List.getElem_of_mem hr
    have h1 := HOP.out.row j (by rw [← HOP.out.len]; exact hj)
    rw [List.getD_eq_getElem?_getD, List.getElem?_eq_getElem hj, Option.getD_some] at h1
    omega⟩)
   have HM60 := zH hn
   clear hout
   go_wp2_with fail
   refine (rowsL_any (fun _ => False) pl _ _ (HQ9.out.keep (.of_step HT.out)) (by omega) HFP.out.sz).mono ?_
   rintro e wn ⟨vr3, rfl, hro, hSn⟩
   obtain ⟨pr3, kr3, rfl⟩ := hro.form
   have HRO := zH hro
   have HPF := HFP
   clear hro HPC
   have HTn := zH (HT.out.trans hSn)
   have HSN := zH hSn
   clear HT hSn
   have HT := HTn
   clear HTn
   clear HSN
   by_cases hp0 : 0 < pl.length
   case neg =>
    have d0 : decide ((0 : Int) < (pl.length : Int)) = false := decide_eq_false (by omega)
    have d0' : decide (0 < pl.length) = false := decide_eq_false hp0
    have HPC := zH (HRO.out.sl (S := fun _ => False) fun _ _ h => h)
    clear HRO
    have HCC2 := zH (HCC.out.keep (.of_step HT.out))
    have HCU2 := zH (HCU.out.keep (.of_step HT.out))
    clear HCC HCU
    have HCC := HCC2
    have HCU := HCU2
    clear HCC2 HCU2
    have qa := HB.out.step HT.out
    have qb := HS.out.trans HT.out
    have qc := fun W (hW : Step wn W) => HAV.out W (HT.out.trans hW)
    clear HB HS HAV HT
    have HB := zH qa
    have HS := zH qb
    have HAV := zH qc
    have HT := zH (Step.refl wn)
    clear qa qb qc
    by_cases F : Feas h T
    ·obtain ⟨rfl, rfl⟩ := HST.out.out HQ.out (by have := HT60.out; omega) (by rw [Int.toNat_natCast]; exact F)
     have HCL := zH HL2.out.2
     clear F
     have e0 := (HB.out.step HT.out).cell 0
     have e1 := (HB.out.step HT.out).cell 1
     simp only [zD, zE] at e0 e1
     go_wp2_with fail
     refine (RIsOut_any (fun _ => False) h n pl _ _ _ (HAV.out _ HT.out) (HPC.out.keep (.of_step HT.out)) HO.out HM60.out).mono ?_
     rintro e wn ⟨rfl, hSn⟩
     have HTn := zH (HT.out.trans hSn)
     have HSN := zH hSn
     clear HT hSn
     have HT := HTn
     clear HTn
     clear HSN e0 e1
     obtain ⟨b1, hb1⟩ : ∃ z, z = outB h n pl := ⟨_, rfl⟩
     rw [← hb1]
     have hpo := zH (show poutB h (n : Int) pl = b1 by rw [pout_at HQ.out HM60.out, ← hb1])
     clear hb1
     have e0 := (HB.out.step HT.out).cell 0
     have e1 := (HB.out.step HT.out).cell 1
     simp only [zD, zE] at e0 e1
     go_wp2_with fail
     refine (RSize_any (fun _ => False) h T cut _ _ _ (HAV.out _ HT.out) (HCC.out.keep (.of_step HT.out)) HO.out HT60.out).mono ?_
     rintro e wn ⟨rfl, hSn⟩
     have HTn := zH (HT.out.trans hSn)
     have HSN := zH hSn
     clear HT hSn
     have HT := HTn
     clear HTn
     clear HSN e0 e1
     obtain ⟨z, hz⟩ : ∃ z, z = sizeR h T cut := ⟨_, rfl⟩
     rw [← hz]
     obtain ⟨A, hA⟩ : ∃ A, A = allH h := ⟨_, rfl⟩
     have HPS := zH (show pstuckB h (T : Int) cut = (decide (0 ≤ z) && decide (z < A)) by rw [pstuck_at HQ.out HT60.out, stuckB_size HO.out, ← hz, ← hA])
     have HA := zH hA
     clear hz hA
     have e0 := (HB.out.step HT.out).cell 0
     have e1 := (HB.out.step HT.out).cell 1
     simp only [zD, zE] at e0 e1
     go_wp2_with fail
     refine (GHall_any (fun _ => False) h _ _ (HAV.out _ HT.out) HL.out.1 HL.out.2).mono ?_
     rintro e wn ⟨vg, rfl, hv', hSn⟩
     have HVG := zH (av0 hv')
     have HPC2 := zH (HPC.out.keep (.of_step (HT.out.trans hSn)))
     clear hv' e0 e1
     have HTn := zH (HT.out.trans hSn)
     have HSN := zH hSn
     clear HT hSn
     have HT := HTn
     clear HTn
     clear HSN
     go_wp2_with fail
     refine (rowsL_any (fun _ => False) pl _ _ HPC2.out (by have := HPF.out.1; omega) HPF.out.sz).mono ?_
     rintro e wn ⟨vr2, rfl, hro, hSn⟩
     have HRW := zH (hro.sl (S := fun _ => False) fun _ _ h => h)
     have HVG2 := zH (HVG.out.keep (.of_step hSn))
     clear hro HVG HPC2
     have HTn := zH (HT.out.trans hSn)
     have HSN := zH hSn
     clear HT hSn
     have HT := HTn
     clear HTn
     clear HSN
     have hcall := ProveOut_any (fun _ => False) h (n : Int) pl _ _ _ HVG2.out HRW.out
     rw [hpo.out] at hcall
     have HCALL := zH hcall
     clear hcall
     go_wp2_with fail
     refine (HCALL.out).mono ?_
     rintro e wn ⟨rfl, hSn⟩
     have HTn := zH (HT.out.trans hSn)
     have HSN := zH hSn
     clear HT hSn
     have HT := HTn
     clear HTn
     clear HCALL HSN HVG2 HRW
     have e0 := (HB.out.step HT.out).cell 0
     have e1 := (HB.out.step HT.out).cell 1
     simp only [zD, zE] at e0 e1
     go_wp2_with fail
     refine (GHall_any (fun _ => False) h _ _ (HAV.out _ HT.out) HL.out.1 HL.out.2).mono ?_
     rintro e wn ⟨vg, rfl, hv', hSn⟩
     have HVG := zH (av0 hv')
     clear hv' e0 e1
     have HTn := zH (HT.out.trans hSn)
     have HSN := zH hSn
     clear HT hSn
     have HT := HTn
     clear HTn
     clear HSN
     have HCW := zH (HCC.out.keep (.of_step HT.out))
     have hl2 := HCL.out
     go_wp2_with (at_builtin; refine wpl_append_g (α := Int) (S := fun _ => False) (base := wn.heap.size) (v := .slice (some ⟨wn.heap.size, 0, none⟩) 0 0) (l := []) (m := cut) eiIntsH (by rfl) _ _ rfl rfl rfl ⟨[], World.ownsRow_lit wn #[] 0 (Nat.le_refl _) (by simp [maxLen]) (by simp), fun i h => absurd h (by simp)⟩ (SL.flat _ (HCW.out.keep (.alloc _ _))) (cut).length (by simp) (cut) rfl ?_ ?_ ?_ ?_)
     ·simp only [maxLen]; omega
     ·omega
     ·simp
     intro p9 c9 w9 hown hg
     have hX : Step wn w9 := .of (((Below.refl _ wn).alloc (Nat.le_refl _) _).grown hg (by simp) (by simp [Value.ownBlock]))
     have HC9 := zH ((ownL_flat (fun _ => False) hown).slb fun _ _ h => h)
     have HVG9 := zH (HVG.out.keep (.of_step hX))
     have HT9 := zH (HT.out.trans hX)
     clear hX hown hg HCW HVG HT hl2
     have HT := HT9
     clear HT9
     have hcall := ProveStuck_any (fun _ => False) h (T : Int) cut _ _ _ HVG9.out HC9.out
     rw [HPS.out] at hcall
     by_cases hz0 : 0 ≤ z
     ·have hzd : decide (0 ≤ z) = true := decide_eq_true hz0
      rw [hzd, Bool.true_and] at hcall
      have HCALL := zH hcall
      clear hcall
      go_wp2_with fail
      refine (HCALL.out).mono ?_
      rintro e wn ⟨rfl, hSn⟩
      have HTn := zH (HT.out.trans hSn)
      have HSN := zH hSn
      clear HT hSn
      have HT := HTn
      clear HTn
      clear HCALL HSN HVG9 HC9
      have e0 := (HB.out.step HT.out).cell 0
      have e1 := (HB.out.step HT.out).cell 1
      simp only [zD, zE] at e0 e1
      go_wp2_with fail
      refine (RAllH_any (fun _ => False) h _ _ (HAV.out _ HT.out) HO.out).mono ?_
      rintro e wn ⟨rfl, hSn⟩
      rw [← HA.out]
      have HTn := zH (HT.out.trans hSn)
      have HSN := zH hSn
      clear HT hSn
      have HT := HTn
      clear HTn
      clear HSN e0 e1
      go_wp2_with fail
      refine (gwakes_any _).mono ?_
      rintro e wn ⟨rfl, hSn⟩
      have HTn := zH (HT.out.trans hSn)
      have HSN := zH hSn
      clear HT hSn
      have HT := HTn
      clear HTn
      go_wp2
      go_ret
      exact ⟨rfl, HS.out.trans HT.out⟩
     ·have hzd : decide (0 ≤ z) = false := decide_eq_false hz0
      rw [hzd, Bool.false_and] at hcall
      have HCALL := zH hcall
      clear hcall
      go_wp2_with fail
      refine (HCALL.out).mono ?_
      rintro e wn ⟨rfl, hSn⟩
      have HTn := zH (HT.out.trans hSn)
      have HSN := zH hSn
      clear HT hSn
      have HT := HTn
      clear HTn
      clear HCALL HSN HVG9 HC9
      go_wp2_with fail
      refine (gwakes_any _).mono ?_
      rintro e wn ⟨rfl, hSn⟩
      have HTn := zH (HT.out.trans hSn)
      have HSN := zH hSn
      clear HT hSn
      have HT := HTn
      clear HTn
      go_wp2
      go_ret
      exact ⟨rfl, HS.out.trans HT.out⟩
    ·obtain ⟨rfl, hstk⟩ := HST.out.cut HQ.out (by have := HT60.out; omega) (by rw [Int.toNat_natCast]; exact F)
     rw [Int.toNat_natCast] at hstk
     simp only [stuckB, cutOk, Bool.and_eq_true, decide_eq_true_eq, List.all_eq_true] at hstk
     have hcl := hstk.1.1.1
     have hce := hstk.1.2
     have hn2 := HO.out.n2
     have hn10 := HO.out.n10
     have hc0 : 0 < cu.length := by omega
     have hc0i : (0 : Int) < (cu.length : Int) := by omega
     have hc10 : cu.length ≤ 15 := by omega
     obtain ⟨k2, hk2, hkl2⟩ := rem_len HNN.out.1.1 hc0
     have hkw2 : IntKind.i64.wrap (at_.tmod (cu.length : Int)) = (k2 : Int) := by rw [hk2, IntKind.wrap_i64]; omega
     have hen := hce _ (List.getElem_mem hkl2)
     have HEN := zH hen
     have HHC := zH hcl
     have HCW := zH (HCU.out.keep (.of_step HT.out))
     clear hstk hcl hce F hen
     obtain ⟨hwa, hwt, hwb, hwa2, hwt2, hwb2⟩ := HWR.out
     go_wp2_with (at_builtin; refine wpl_append (α := Int) (S := fun _ => False) (base := wn.heap.size) (v := .slice (some ⟨wn.heap.size, 0, none⟩) 0 0) (l := []) (m := cu) eiIntsH rfl _ _ rfl rfl rfl ⟨[], World.ownsRow_lit wn #[] 0 (Nat.le_refl _) (by simp [maxLen]) (by simp), fun i h => absurd h (by simp)⟩ (SL.flat _ (HCW.out.keep (.alloc _ _))) cu.length (by simp) cu rfl ?_ ?_ ?_ ?_)
     ·simp only [maxLen]; omega
     ·omega
     ·simp
     intro p5 c5 wq5 hown hg
     have hX : Step wn wq5 := .of (((Below.refl _ wn).alloc (Nat.le_refl _) _).grown hg (by simp) (by simp [Value.ownBlock]))
     obtain ⟨gc, cc, he, hgb, hgl, hcc, hfz, hput⟩ := own_num hown hkl2
     injection he with he1 he2 he3
     subst he1 he3
     obtain ⟨x2, hx2⟩ : ∃ z, z = cu[k2] := ⟨_, rfl⟩
     rw [← hx2] at hcc
     have hen := HEN.out
     rw [← hx2] at hen
     have hnn := HNN.out.2.2
     have ht60 := HT60.out
     have hwx : IntKind.i64.wrap (x2 + by_) = x2 + by_ := by clear hwa hwt hwb hwa2 hwt2 hwb2 hkw2 hk2 he2; rw [IntKind.wrap_i64]; omega
     have hix : (0 : Int) ≤ (k2 : Int) ∧ (k2 : Int) < (cu.length : Int) := by clear hwa hwt hwb hwa2 hwt2 hwb2 hkw2 hk2 he2 hwx; omega
     have HPUT := zH hput
     have HX5 := zH hX
     have HGB5 := zH hgb
     clear hput hX hown hg hgb hen hnn hx2 he2 HCW ht60
     go_upto_region 21 with (fail)
     obtain ⟨wq8, hwq8⟩ : ∃ z, z = wq5.setCell ⟨gc, k2, none⟩ (.int .i64 (x2 + by_)) := ⟨_, rfl⟩
     rw [← hwq8]
     have hl8 : (cu.set k2 (x2 + by_)).length = cu.length := by simp
     have hcs : SL (fun _ => False) wq8 (.slice (some ⟨gc, 0, none⟩) cu.length c5) (cu.set k2 (x2 + by_)) := by
      have h1 := (ownL_flat (fun _ => False) (HPUT.out (x2 + by_))).slb fun _ _ h => h
      rw [← hwq8] at h1
      exact h1
     have HT8 := zH (show Step wn wq8 by subst hwq8; exact HX5.out.setNew _ _ HGB5.out)
     have HPC3 := zH (HPC.out.keep (.of_step HT8.out))
     clear HCC HPC HT
     have HCC := zH hcs
     have HPC := HPC3
     have HT := HT8
     have HCL := zH (show (cu.set k2 (x2 + by_)).length ≤ 15 by rw [hl8]; exact hc10)
     clear hcs hwq8 HPC3 HT8 hl8 hcc hfz hgl hwx hix hkw2 hk2 hc0i hwa hwt hwb hwa2 hwt2 hwb2
     have qa := HB.out.step HT.out
     have qb := HS.out.trans HT.out
     have qc := fun W (hW : Step wq8 W) => HAV.out W (HT.out.trans hW)
     clear HB HS HAV HT
     have HB := zH qa
     have HS := zH qb
     have HAV := zH qc
     have HT := zH (Step.refl wq8)
     clear qa qb qc
     have e0 := (HB.out.step HT.out).cell 0
     have e1 := (HB.out.step HT.out).cell 1
     simp only [zD, zE] at e0 e1
     go_wp2_with fail
     refine (RIsOut_any (fun _ => False) h n pl _ _ _ (HAV.out _ HT.out) (HPC.out.keep (.of_step HT.out)) HO.out HM60.out).mono ?_
     rintro e wn ⟨rfl, hSn⟩
     have HTn := zH (HT.out.trans hSn)
     have HSN := zH hSn
     clear HT hSn
     have HT := HTn
     clear HTn
     clear HSN e0 e1
     obtain ⟨b1, hb1⟩ : ∃ z, z = outB h n pl := ⟨_, rfl⟩
     rw [← hb1]
     have hpo := zH (show poutB h (n : Int) pl = b1 by rw [pout_at HQ.out HM60.out, ← hb1])
     clear hb1
     have e0 := (HB.out.step HT.out).cell 0
     have e1 := (HB.out.step HT.out).cell 1
     simp only [zD, zE] at e0 e1
     go_wp2_with fail
     refine (RSize_any (fun _ => False) h T (cu.set k2 (x2 + by_)) _ _ _ (HAV.out _ HT.out) (HCC.out.keep (.of_step HT.out)) HO.out HT60.out).mono ?_
     rintro e wn ⟨rfl, hSn⟩
     have HTn := zH (HT.out.trans hSn)
     have HSN := zH hSn
     clear HT hSn
     have HT := HTn
     clear HTn
     clear HSN e0 e1
     obtain ⟨z, hz⟩ : ∃ z, z = sizeR h T (cu.set k2 (x2 + by_)) := ⟨_, rfl⟩
     rw [← hz]
     obtain ⟨A, hA⟩ : ∃ A, A = allH h := ⟨_, rfl⟩
     have HPS := zH (show pstuckB h (T : Int) (cu.set k2 (x2 + by_)) = (decide (0 ≤ z) && decide (z < A)) by rw [pstuck_at HQ.out HT60.out, stuckB_size HO.out, ← hz, ← hA])
     have HA := zH hA
     clear hz hA
     have e0 := (HB.out.step HT.out).cell 0
     have e1 := (HB.out.step HT.out).cell 1
     simp only [zD, zE] at e0 e1
     go_wp2_with fail
     refine (GHall_any (fun _ => False) h _ _ (HAV.out _ HT.out) HL.out.1 HL.out.2).mono ?_
     rintro e wn ⟨vg, rfl, hv', hSn⟩
     have HVG := zH (av0 hv')
     have HPC2 := zH (HPC.out.keep (.of_step (HT.out.trans hSn)))
     clear hv' e0 e1
     have HTn := zH (HT.out.trans hSn)
     have HSN := zH hSn
     clear HT hSn
     have HT := HTn
     clear HTn
     clear HSN
     go_wp2_with fail
     refine (rowsL_any (fun _ => False) pl _ _ HPC2.out (by have := HPF.out.1; omega) HPF.out.sz).mono ?_
     rintro e wn ⟨vr2, rfl, hro, hSn⟩
     have HRW := zH (hro.sl (S := fun _ => False) fun _ _ h => h)
     have HVG2 := zH (HVG.out.keep (.of_step hSn))
     clear hro HVG HPC2
     have HTn := zH (HT.out.trans hSn)
     have HSN := zH hSn
     clear HT hSn
     have HT := HTn
     clear HTn
     clear HSN
     have hcall := ProveOut_any (fun _ => False) h (n : Int) pl _ _ _ HVG2.out HRW.out
     rw [hpo.out] at hcall
     have HCALL := zH hcall
     clear hcall
     go_wp2_with fail
     refine (HCALL.out).mono ?_
     rintro e wn ⟨rfl, hSn⟩
     have HTn := zH (HT.out.trans hSn)
     have HSN := zH hSn
     clear HT hSn
     have HT := HTn
     clear HTn
     clear HCALL HSN HVG2 HRW
     have e0 := (HB.out.step HT.out).cell 0
     have e1 := (HB.out.step HT.out).cell 1
     simp only [zD, zE] at e0 e1
     go_wp2_with fail
     refine (GHall_any (fun _ => False) h _ _ (HAV.out _ HT.out) HL.out.1 HL.out.2).mono ?_
     rintro e wn ⟨vg, rfl, hv', hSn⟩
     have HVG := zH (av0 hv')
     clear hv' e0 e1
     have HTn := zH (HT.out.trans hSn)
     have HSN := zH hSn
     clear HT hSn
     have HT := HTn
     clear HTn
     clear HSN
     have HCW := zH (HCC.out.keep (.of_step HT.out))
     have hl2 := HCL.out
     go_wp2_with (at_builtin; refine wpl_append_g (α := Int) (S := fun _ => False) (base := wn.heap.size) (v := .slice (some ⟨wn.heap.size, 0, none⟩) 0 0) (l := []) (m := (cu.set k2 (x2 + by_))) eiIntsH (by rfl) _ _ rfl rfl rfl ⟨[], World.ownsRow_lit wn #[] 0 (Nat.le_refl _) (by simp [maxLen]) (by simp), fun i h => absurd h (by simp)⟩ (SL.flat _ (HCW.out.keep (.alloc _ _))) ((cu.set k2 (x2 + by_))).length (by simp) ((cu.set k2 (x2 + by_))) rfl ?_ ?_ ?_ ?_)
     ·simp only [maxLen]; omega
     ·omega
     ·simp
     intro p9 c9 w9 hown hg
     have hX : Step wn w9 := .of (((Below.refl _ wn).alloc (Nat.le_refl _) _).grown hg (by simp) (by simp [Value.ownBlock]))
     have HC9 := zH ((ownL_flat (fun _ => False) hown).slb fun _ _ h => h)
     have HVG9 := zH (HVG.out.keep (.of_step hX))
     have HT9 := zH (HT.out.trans hX)
     clear hX hown hg HCW HVG HT hl2
     have HT := HT9
     clear HT9
     have hcall := ProveStuck_any (fun _ => False) h (T : Int) (cu.set k2 (x2 + by_)) _ _ _ HVG9.out HC9.out
     rw [HPS.out] at hcall
     by_cases hz0 : 0 ≤ z
     ·have hzd : decide (0 ≤ z) = true := decide_eq_true hz0
      rw [hzd, Bool.true_and] at hcall
      have HCALL := zH hcall
      clear hcall
      go_wp2_with fail
      refine (HCALL.out).mono ?_
      rintro e wn ⟨rfl, hSn⟩
      have HTn := zH (HT.out.trans hSn)
      have HSN := zH hSn
      clear HT hSn
      have HT := HTn
      clear HTn
      clear HCALL HSN HVG9 HC9
      have e0 := (HB.out.step HT.out).cell 0
      have e1 := (HB.out.step HT.out).cell 1
      simp only [zD, zE] at e0 e1
      go_wp2_with fail
      refine (RAllH_any (fun _ => False) h _ _ (HAV.out _ HT.out) HO.out).mono ?_
      rintro e wn ⟨rfl, hSn⟩
      rw [← HA.out]
      have HTn := zH (HT.out.trans hSn)
      have HSN := zH hSn
      clear HT hSn
      have HT := HTn
      clear HTn
      clear HSN e0 e1
      go_wp2_with fail
      refine (gwakes_any _).mono ?_
      rintro e wn ⟨rfl, hSn⟩
      have HTn := zH (HT.out.trans hSn)
      have HSN := zH hSn
      clear HT hSn
      have HT := HTn
      clear HTn
      go_wp2
      go_ret
      exact ⟨rfl, HS.out.trans HT.out⟩
     ·have hzd : decide (0 ≤ z) = false := decide_eq_false hz0
      rw [hzd, Bool.false_and] at hcall
      have HCALL := zH hcall
      clear hcall
      go_wp2_with fail
      refine (HCALL.out).mono ?_
      rintro e wn ⟨rfl, hSn⟩
      have HTn := zH (HT.out.trans hSn)
      have HSN := zH hSn
      clear HT hSn
      have HT := HTn
      clear HTn
      clear HCALL HSN HVG9 HC9
      go_wp2_with fail
      refine (gwakes_any _).mono ?_
      rintro e wn ⟨rfl, hSn⟩
      have HTn := zH (HT.out.trans hSn)
      have HSN := zH hSn
      clear HT hSn
      have HT := HTn
      clear HTn
      go_wp2
      go_ret
      exact ⟨rfl, HS.out.trans HT.out⟩
   have d0 : decide ((0 : Int) < (pl.length : Int)) = true := decide_eq_true (by omega)
   have d0' : decide (0 < pl.length) = true := decide_eq_true hp0
   by_cases hn0 : 0 < n
   case neg =>
    have d1 : decide ((0 : Int) < (n : Int)) = false := decide_eq_false (by omega)
    have d1' : decide (0 < n) = false := decide_eq_false hn0
    have HPC := zH (HRO.out.sl (S := fun _ => False) fun _ _ h => h)
    clear HRO
    have HCC2 := zH (HCC.out.keep (.of_step HT.out))
    have HCU2 := zH (HCU.out.keep (.of_step HT.out))
    clear HCC HCU
    have HCC := HCC2
    have HCU := HCU2
    clear HCC2 HCU2
    have qa := HB.out.step HT.out
    have qb := HS.out.trans HT.out
    have qc := fun W (hW : Step wn W) => HAV.out W (HT.out.trans hW)
    clear HB HS HAV HT
    have HB := zH qa
    have HS := zH qb
    have HAV := zH qc
    have HT := zH (Step.refl wn)
    clear qa qb qc
    by_cases F : Feas h T
    ·obtain ⟨rfl, rfl⟩ := HST.out.out HQ.out (by have := HT60.out; omega) (by rw [Int.toNat_natCast]; exact F)
     have HCL := zH HL2.out.2
     clear F
     have e0 := (HB.out.step HT.out).cell 0
     have e1 := (HB.out.step HT.out).cell 1
     simp only [zD, zE] at e0 e1
     go_wp2_with fail
     refine (RIsOut_any (fun _ => False) h n pl _ _ _ (HAV.out _ HT.out) (HPC.out.keep (.of_step HT.out)) HO.out HM60.out).mono ?_
     rintro e wn ⟨rfl, hSn⟩
     have HTn := zH (HT.out.trans hSn)
     have HSN := zH hSn
     clear HT hSn
     have HT := HTn
     clear HTn
     clear HSN e0 e1
     obtain ⟨b1, hb1⟩ : ∃ z, z = outB h n pl := ⟨_, rfl⟩
     rw [← hb1]
     have hpo := zH (show poutB h (n : Int) pl = b1 by rw [pout_at HQ.out HM60.out, ← hb1])
     clear hb1
     have e0 := (HB.out.step HT.out).cell 0
     have e1 := (HB.out.step HT.out).cell 1
     simp only [zD, zE] at e0 e1
     go_wp2_with fail
     refine (RSize_any (fun _ => False) h T cut _ _ _ (HAV.out _ HT.out) (HCC.out.keep (.of_step HT.out)) HO.out HT60.out).mono ?_
     rintro e wn ⟨rfl, hSn⟩
     have HTn := zH (HT.out.trans hSn)
     have HSN := zH hSn
     clear HT hSn
     have HT := HTn
     clear HTn
     clear HSN e0 e1
     obtain ⟨z, hz⟩ : ∃ z, z = sizeR h T cut := ⟨_, rfl⟩
     rw [← hz]
     obtain ⟨A, hA⟩ : ∃ A, A = allH h := ⟨_, rfl⟩
     have HPS := zH (show pstuckB h (T : Int) cut = (decide (0 ≤ z) && decide (z < A)) by rw [pstuck_at HQ.out HT60.out, stuckB_size HO.out, ← hz, ← hA])
     have HA := zH hA
     clear hz hA
     have e0 := (HB.out.step HT.out).cell 0
     have e1 := (HB.out.step HT.out).cell 1
     simp only [zD, zE] at e0 e1
     go_wp2_with fail
     refine (GHall_any (fun _ => False) h _ _ (HAV.out _ HT.out) HL.out.1 HL.out.2).mono ?_
     rintro e wn ⟨vg, rfl, hv', hSn⟩
     have HVG := zH (av0 hv')
     have HPC2 := zH (HPC.out.keep (.of_step (HT.out.trans hSn)))
     clear hv' e0 e1
     have HTn := zH (HT.out.trans hSn)
     have HSN := zH hSn
     clear HT hSn
     have HT := HTn
     clear HTn
     clear HSN
     go_wp2_with fail
     refine (rowsL_any (fun _ => False) pl _ _ HPC2.out (by have := HPF.out.1; omega) HPF.out.sz).mono ?_
     rintro e wn ⟨vr2, rfl, hro, hSn⟩
     have HRW := zH (hro.sl (S := fun _ => False) fun _ _ h => h)
     have HVG2 := zH (HVG.out.keep (.of_step hSn))
     clear hro HVG HPC2
     have HTn := zH (HT.out.trans hSn)
     have HSN := zH hSn
     clear HT hSn
     have HT := HTn
     clear HTn
     clear HSN
     have hcall := ProveOut_any (fun _ => False) h (n : Int) pl _ _ _ HVG2.out HRW.out
     rw [hpo.out] at hcall
     have HCALL := zH hcall
     clear hcall
     go_wp2_with fail
     refine (HCALL.out).mono ?_
     rintro e wn ⟨rfl, hSn⟩
     have HTn := zH (HT.out.trans hSn)
     have HSN := zH hSn
     clear HT hSn
     have HT := HTn
     clear HTn
     clear HCALL HSN HVG2 HRW
     have e0 := (HB.out.step HT.out).cell 0
     have e1 := (HB.out.step HT.out).cell 1
     simp only [zD, zE] at e0 e1
     go_wp2_with fail
     refine (GHall_any (fun _ => False) h _ _ (HAV.out _ HT.out) HL.out.1 HL.out.2).mono ?_
     rintro e wn ⟨vg, rfl, hv', hSn⟩
     have HVG := zH (av0 hv')
     clear hv' e0 e1
     have HTn := zH (HT.out.trans hSn)
     have HSN := zH hSn
     clear HT hSn
     have HT := HTn
     clear HTn
     clear HSN
     have HCW := zH (HCC.out.keep (.of_step HT.out))
     have hl2 := HCL.out
     go_wp2_with (at_builtin; refine wpl_append_g (α := Int) (S := fun _ => False) (base := wn.heap.size) (v := .slice (some ⟨wn.heap.size, 0, none⟩) 0 0) (l := []) (m := cut) eiIntsH (by rfl) _ _ rfl rfl rfl ⟨[], World.ownsRow_lit wn #[] 0 (Nat.le_refl _) (by simp [maxLen]) (by simp), fun i h => absurd h (by simp)⟩ (SL.flat _ (HCW.out.keep (.alloc _ _))) (cut).length (by simp) (cut) rfl ?_ ?_ ?_ ?_)
     ·simp only [maxLen]; omega
     ·omega
     ·simp
     intro p9 c9 w9 hown hg
     have hX : Step wn w9 := .of (((Below.refl _ wn).alloc (Nat.le_refl _) _).grown hg (by simp) (by simp [Value.ownBlock]))
     have HC9 := zH ((ownL_flat (fun _ => False) hown).slb fun _ _ h => h)
     have HVG9 := zH (HVG.out.keep (.of_step hX))
     have HT9 := zH (HT.out.trans hX)
     clear hX hown hg HCW HVG HT hl2
     have HT := HT9
     clear HT9
     have hcall := ProveStuck_any (fun _ => False) h (T : Int) cut _ _ _ HVG9.out HC9.out
     rw [HPS.out] at hcall
     by_cases hz0 : 0 ≤ z
     ·have hzd : decide (0 ≤ z) = true := decide_eq_true hz0
      rw [hzd, Bool.true_and] at hcall
      have HCALL := zH hcall
      clear hcall
      go_wp2_with fail
      refine (HCALL.out).mono ?_
      rintro e wn ⟨rfl, hSn⟩
      have HTn := zH (HT.out.trans hSn)
      have HSN := zH hSn
      clear HT hSn
      have HT := HTn
      clear HTn
      clear HCALL HSN HVG9 HC9
      have e0 := (HB.out.step HT.out).cell 0
      have e1 := (HB.out.step HT.out).cell 1
      simp only [zD, zE] at e0 e1
      go_wp2_with fail
      refine (RAllH_any (fun _ => False) h _ _ (HAV.out _ HT.out) HO.out).mono ?_
      rintro e wn ⟨rfl, hSn⟩
      rw [← HA.out]
      have HTn := zH (HT.out.trans hSn)
      have HSN := zH hSn
      clear HT hSn
      have HT := HTn
      clear HTn
      clear HSN e0 e1
      go_wp2_with fail
      refine (gwakes_any _).mono ?_
      rintro e wn ⟨rfl, hSn⟩
      have HTn := zH (HT.out.trans hSn)
      have HSN := zH hSn
      clear HT hSn
      have HT := HTn
      clear HTn
      go_wp2
      go_ret
      exact ⟨rfl, HS.out.trans HT.out⟩
     ·have hzd : decide (0 ≤ z) = false := decide_eq_false hz0
      rw [hzd, Bool.false_and] at hcall
      have HCALL := zH hcall
      clear hcall
      go_wp2_with fail
      refine (HCALL.out).mono ?_
      rintro e wn ⟨rfl, hSn⟩
      have HTn := zH (HT.out.trans hSn)
      have HSN := zH hSn
      clear HT hSn
      have HT := HTn
      clear HTn
      clear HCALL HSN HVG9 HC9
      go_wp2_with fail
      refine (gwakes_any _).mono ?_
      rintro e wn ⟨rfl, hSn⟩
      have HTn := zH (HT.out.trans hSn)
      have HSN := zH hSn
      clear HT hSn
      have HT := HTn
      clear HTn
      go_wp2
      go_ret
      exact ⟨rfl, HS.out.trans HT.out⟩
    ·obtain ⟨rfl, hstk⟩ := HST.out.cut HQ.out (by have := HT60.out; omega) (by rw [Int.toNat_natCast]; exact F)
     rw [Int.toNat_natCast] at hstk
     simp only [stuckB, cutOk, Bool.and_eq_true, decide_eq_true_eq, List.all_eq_true] at hstk
     have hcl := hstk.1.1.1
     have hce := hstk.1.2
     have hn2 := HO.out.n2
     have hn10 := HO.out.n10
     have hc0 : 0 < cu.length := by omega
     have hc0i : (0 : Int) < (cu.length : Int) := by omega
     have hc10 : cu.length ≤ 15 := by omega
     obtain ⟨k2, hk2, hkl2⟩ := rem_len HNN.out.1.1 hc0
     have hkw2 : IntKind.i64.wrap (at_.tmod (cu.length : Int)) = (k2 : Int) := by rw [hk2, IntKind.wrap_i64]; omega
     have hen := hce _ (List.getElem_mem hkl2)
     have HEN := zH hen
     have HHC := zH hcl
     have HCW := zH (HCU.out.keep (.of_step HT.out))
     clear hstk hcl hce F hen
     obtain ⟨hwa, hwt, hwb, hwa2, hwt2, hwb2⟩ := HWR.out
     go_wp2_with (at_builtin; refine wpl_append (α := Int) (S := fun _ => False) (base := wn.heap.size) (v := .slice (some ⟨wn.heap.size, 0, none⟩) 0 0) (l := []) (m := cu) eiIntsH rfl _ _ rfl rfl rfl ⟨[], World.ownsRow_lit wn #[] 0 (Nat.le_refl _) (by simp [maxLen]) (by simp), fun i h => absurd h (by simp)⟩ (SL.flat _ (HCW.out.keep (.alloc _ _))) cu.length (by simp) cu rfl ?_ ?_ ?_ ?_)
     ·simp only [maxLen]; omega
     ·omega
     ·simp
     intro p5 c5 wq5 hown hg
     have hX : Step wn wq5 := .of (((Below.refl _ wn).alloc (Nat.le_refl _) _).grown hg (by simp) (by simp [Value.ownBlock]))
     obtain ⟨gc, cc, he, hgb, hgl, hcc, hfz, hput⟩ := own_num hown hkl2
     injection he with he1 he2 he3
     subst he1 he3
     obtain ⟨x2, hx2⟩ : ∃ z, z = cu[k2] := ⟨_, rfl⟩
     rw [← hx2] at hcc
     have hen := HEN.out
     rw [← hx2] at hen
     have hnn := HNN.out.2.2
     have ht60 := HT60.out
     have hwx : IntKind.i64.wrap (x2 + by_) = x2 + by_ := by clear hwa hwt hwb hwa2 hwt2 hwb2 hkw2 hk2 he2; rw [IntKind.wrap_i64]; omega
     have hix : (0 : Int) ≤ (k2 : Int) ∧ (k2 : Int) < (cu.length : Int) := by clear hwa hwt hwb hwa2 hwt2 hwb2 hkw2 hk2 he2 hwx; omega
     have HPUT := zH hput
     have HX5 := zH hX
     have HGB5 := zH hgb
     clear hput hX hown hg hgb hen hnn hx2 he2 HCW ht60
     go_upto_region 21 with (fail)
     obtain ⟨wq8, hwq8⟩ : ∃ z, z = wq5.setCell ⟨gc, k2, none⟩ (.int .i64 (x2 + by_)) := ⟨_, rfl⟩
     rw [← hwq8]
     have hl8 : (cu.set k2 (x2 + by_)).length = cu.length := by simp
     have hcs : SL (fun _ => False) wq8 (.slice (some ⟨gc, 0, none⟩) cu.length c5) (cu.set k2 (x2 + by_)) := by
      have h1 := (ownL_flat (fun _ => False) (HPUT.out (x2 + by_))).slb fun _ _ h => h
      rw [← hwq8] at h1
      exact h1
     have HT8 := zH (show Step wn wq8 by subst hwq8; exact HX5.out.setNew _ _ HGB5.out)
     have HPC3 := zH (HPC.out.keep (.of_step HT8.out))
     clear HCC HPC HT
     have HCC := zH hcs
     have HPC := HPC3
     have HT := HT8
     have HCL := zH (show (cu.set k2 (x2 + by_)).length ≤ 15 by rw [hl8]; exact hc10)
     clear hcs hwq8 HPC3 HT8 hl8 hcc hfz hgl hwx hix hkw2 hk2 hc0i hwa hwt hwb hwa2 hwt2 hwb2
     have qa := HB.out.step HT.out
     have qb := HS.out.trans HT.out
     have qc := fun W (hW : Step wq8 W) => HAV.out W (HT.out.trans hW)
     clear HB HS HAV HT
     have HB := zH qa
     have HS := zH qb
     have HAV := zH qc
     have HT := zH (Step.refl wq8)
     clear qa qb qc
     have e0 := (HB.out.step HT.out).cell 0
     have e1 := (HB.out.step HT.out).cell 1
     simp only [zD, zE] at e0 e1
     go_wp2_with fail
     refine (RIsOut_any (fun _ => False) h n pl _ _ _ (HAV.out _ HT.out) (HPC.out.keep (.of_step HT.out)) HO.out HM60.out).mono ?_
     rintro e wn ⟨rfl, hSn⟩
     have HTn := zH (HT.out.trans hSn)
     have HSN := zH hSn
     clear HT hSn
     have HT := HTn
     clear HTn
     clear HSN e0 e1
     obtain ⟨b1, hb1⟩ : ∃ z, z = outB h n pl := ⟨_, rfl⟩
     rw [← hb1]
     have hpo := zH (show poutB h (n : Int) pl = b1 by rw [pout_at HQ.out HM60.out, ← hb1])
     clear hb1
     have e0 := (HB.out.step HT.out).cell 0
     have e1 := (HB.out.step HT.out).cell 1
     simp only [zD, zE] at e0 e1
     go_wp2_with fail
     refine (RSize_any (fun _ => False) h T (cu.set k2 (x2 + by_)) _ _ _ (HAV.out _ HT.out) (HCC.out.keep (.of_step HT.out)) HO.out HT60.out).mono ?_
     rintro e wn ⟨rfl, hSn⟩
     have HTn := zH (HT.out.trans hSn)
     have HSN := zH hSn
     clear HT hSn
     have HT := HTn
     clear HTn
     clear HSN e0 e1
     obtain ⟨z, hz⟩ : ∃ z, z = sizeR h T (cu.set k2 (x2 + by_)) := ⟨_, rfl⟩
     rw [← hz]
     obtain ⟨A, hA⟩ : ∃ A, A = allH h := ⟨_, rfl⟩
     have HPS := zH (show pstuckB h (T : Int) (cu.set k2 (x2 + by_)) = (decide (0 ≤ z) && decide (z < A)) by rw [pstuck_at HQ.out HT60.out, stuckB_size HO.out, ← hz, ← hA])
     have HA := zH hA
     clear hz hA
     have e0 := (HB.out.step HT.out).cell 0
     have e1 := (HB.out.step HT.out).cell 1
     simp only [zD, zE] at e0 e1
     go_wp2_with fail
     refine (GHall_any (fun _ => False) h _ _ (HAV.out _ HT.out) HL.out.1 HL.out.2).mono ?_
     rintro e wn ⟨vg, rfl, hv', hSn⟩
     have HVG := zH (av0 hv')
     have HPC2 := zH (HPC.out.keep (.of_step (HT.out.trans hSn)))
     clear hv' e0 e1
     have HTn := zH (HT.out.trans hSn)
     have HSN := zH hSn
     clear HT hSn
     have HT := HTn
     clear HTn
     clear HSN
     go_wp2_with fail
     refine (rowsL_any (fun _ => False) pl _ _ HPC2.out (by have := HPF.out.1; omega) HPF.out.sz).mono ?_
     rintro e wn ⟨vr2, rfl, hro, hSn⟩
     have HRW := zH (hro.sl (S := fun _ => False) fun _ _ h => h)
     have HVG2 := zH (HVG.out.keep (.of_step hSn))
     clear hro HVG HPC2
     have HTn := zH (HT.out.trans hSn)
     have HSN := zH hSn
     clear HT hSn
     have HT := HTn
     clear HTn
     clear HSN
     have hcall := ProveOut_any (fun _ => False) h (n : Int) pl _ _ _ HVG2.out HRW.out
     rw [hpo.out] at hcall
     have HCALL := zH hcall
     clear hcall
     go_wp2_with fail
     refine (HCALL.out).mono ?_
     rintro e wn ⟨rfl, hSn⟩
     have HTn := zH (HT.out.trans hSn)
     have HSN := zH hSn
     clear HT hSn
     have HT := HTn
     clear HTn
     clear HCALL HSN HVG2 HRW
     have e0 := (HB.out.step HT.out).cell 0
     have e1 := (HB.out.step HT.out).cell 1
     simp only [zD, zE] at e0 e1
     go_wp2_with fail
     refine (GHall_any (fun _ => False) h _ _ (HAV.out _ HT.out) HL.out.1 HL.out.2).mono ?_
     rintro e wn ⟨vg, rfl, hv', hSn⟩
     have HVG := zH (av0 hv')
     clear hv' e0 e1
     have HTn := zH (HT.out.trans hSn)
     have HSN := zH hSn
     clear HT hSn
     have HT := HTn
     clear HTn
     clear HSN
     have HCW := zH (HCC.out.keep (.of_step HT.out))
     have hl2 := HCL.out
     go_wp2_with (at_builtin; refine wpl_append_g (α := Int) (S := fun _ => False) (base := wn.heap.size) (v := .slice (some ⟨wn.heap.size, 0, none⟩) 0 0) (l := []) (m := (cu.set k2 (x2 + by_))) eiIntsH (by rfl) _ _ rfl rfl rfl ⟨[], World.ownsRow_lit wn #[] 0 (Nat.le_refl _) (by simp [maxLen]) (by simp), fun i h => absurd h (by simp)⟩ (SL.flat _ (HCW.out.keep (.alloc _ _))) ((cu.set k2 (x2 + by_))).length (by simp) ((cu.set k2 (x2 + by_))) rfl ?_ ?_ ?_ ?_)
     ·simp only [maxLen]; omega
     ·omega
     ·simp
     intro p9 c9 w9 hown hg
     have hX : Step wn w9 := .of (((Below.refl _ wn).alloc (Nat.le_refl _) _).grown hg (by simp) (by simp [Value.ownBlock]))
     have HC9 := zH ((ownL_flat (fun _ => False) hown).slb fun _ _ h => h)
     have HVG9 := zH (HVG.out.keep (.of_step hX))
     have HT9 := zH (HT.out.trans hX)
     clear hX hown hg HCW HVG HT hl2
     have HT := HT9
     clear HT9
     have hcall := ProveStuck_any (fun _ => False) h (T : Int) (cu.set k2 (x2 + by_)) _ _ _ HVG9.out HC9.out
     rw [HPS.out] at hcall
     by_cases hz0 : 0 ≤ z
     ·have hzd : decide (0 ≤ z) = true := decide_eq_true hz0
      rw [hzd, Bool.true_and] at hcall
      have HCALL := zH hcall
      clear hcall
      go_wp2_with fail
      refine (HCALL.out).mono ?_
      rintro e wn ⟨rfl, hSn⟩
      have HTn := zH (HT.out.trans hSn)
      have HSN := zH hSn
      clear HT hSn
      have HT := HTn
      clear HTn
      clear HCALL HSN HVG9 HC9
      have e0 := (HB.out.step HT.out).cell 0
      have e1 := (HB.out.step HT.out).cell 1
      simp only [zD, zE] at e0 e1
      go_wp2_with fail
      refine (RAllH_any (fun _ => False) h _ _ (HAV.out _ HT.out) HO.out).mono ?_
      rintro e wn ⟨rfl, hSn⟩
      rw [← HA.out]
      have HTn := zH (HT.out.trans hSn)
      have HSN := zH hSn
      clear HT hSn
      have HT := HTn
      clear HTn
      clear HSN e0 e1
      go_wp2_with fail
      refine (gwakes_any _).mono ?_
      rintro e wn ⟨rfl, hSn⟩
      have HTn := zH (HT.out.trans hSn)
      have HSN := zH hSn
      clear HT hSn
      have HT := HTn
      clear HTn
      go_wp2
      go_ret
      exact ⟨rfl, HS.out.trans HT.out⟩
     ·have hzd : decide (0 ≤ z) = false := decide_eq_false hz0
      rw [hzd, Bool.false_and] at hcall
      have HCALL := zH hcall
      clear hcall
      go_wp2_with fail
      refine (HCALL.out).mono ?_
      rintro e wn ⟨rfl, hSn⟩
      have HTn := zH (HT.out.trans hSn)
      have HSN := zH hSn
      clear HT hSn
      have HT := HTn
      clear HTn
      clear HCALL HSN HVG9 HC9
      go_wp2_with fail
      refine (gwakes_any _).mono ?_
      rintro e wn ⟨rfl, hSn⟩
      have HTn := zH (HT.out.trans hSn)
      have HSN := zH hSn
      clear HT hSn
      have HT := HTn
      clear HTn
      go_wp2
      go_ret
      exact ⟨rfl, HS.out.trans HT.out⟩
   have d1 : decide ((0 : Int) < (n : Int)) = true := decide_eq_true (by omega)
   have d1' : decide (0 < n) = true := decide_eq_true hn0
   have HWX := zH (show ∀ y : Int, 0 ≤ y ∧ y ≤ 1000 → IntKind.i64.wrap (y + by_) = y + by_ from fun y hy => by have hnn := HNN.out.2.2; rw [IntKind.wrap_i64]; omega)
   obtain ⟨k, hk, hkl⟩ := rem_len HNN.out.1.1 hp0
   obtain ⟨q, hq, hql⟩ := rem_len HNN.out.2.1.1 hn0
   have hix : (0 : Int) ≤ (k : Int) ∧ (k : Int) < (pl.length : Int) := by omega
   have hiq : (0 : Int) ≤ (q : Int) ∧ (q : Int) < (n : Int) := by omega
   have hkw : IntKind.i64.wrap (at_.tmod (pl.length : Int)) = (k : Int) := by rw [hk, IntKind.wrap_i64]; omega
   have hqw : IntKind.i64.wrap (t_.tmod (n : Int)) = (q : Int) := by rw [hq, IntKind.wrap_i64]; omega
   have hpne : ¬ pl = [] := fun e => by rw [e] at hp0; exact absurd hp0 (by simp)
   have hnn0 : ¬ n = 0 := by omega
   have hp0i : (0 : Int) < (pl.length : Int) := by omega
   have hn0i : (0 : Int) < (n : Int) := by omega
   have hlk : pl[k].length = n := by
    have h1 := HOP.out.row k (by rw [← HOP.out.len]; exact hkl)
    rwa [List.getD_eq_getElem?_getD, List.getElem?_eq_getElem hkl, Option.getD_some] at h1
   obtain ⟨gp, cp, gr, cr, he, hce, hgb, hgl, hcc, hfz, hput⟩ := HRO.out.put hkl (show q < pl[k].length by omega)
   injection he with he1 he2 he3
   subst he1 he3
   rw [hlk] at hce
   obtain ⟨x, hx⟩ : ∃ z, z = pl[k][q]'(by omega) := ⟨_, rfl⟩
   rw [← hx] at hcc
   have hent : 0 ≤ x ∧ x ≤ 1000 := by
    have h1 := HOP.out.out.lo k q (show k < h.ways.length by rw [← HOP.out.len]; exact hkl) hql
    have h2 := HOP.out.out.hi k q (show k < h.ways.length by rw [← HOP.out.len]; exact hkl) hql
    have h3 : planF pl k q = x := by rw [hx]; simp [planF, List.getD_eq_getElem?_getD, hkl, hlk, hql]
    rw [h3] at h1 h2
    have h4 : (netOf h n).c k = (wyAt h k).cap := rfl
    have h5 := (HO.out.way k (by rw [← HOP.out.len]; exact hkl)).2.2.2.1
    rw [wyAt_at (by rw [← HOP.out.len]; exact hkl)] at h4
    omega
   have hnn := HNN.out.2.2
   have hwx := HWX.out x hent
   have HKQ := zH (And.intro hkl (And.intro hlk (And.intro hql hx)))
   obtain ⟨wr5, hwr5⟩ : ∃ z, z = wn := ⟨_, rfl⟩
   subst hwr5
   clear hgb hput hent hnn he2 hplw hx
   obtain ⟨hwa, hwt, hwb, hwa2, hwt2, hwb2⟩ := HWR.out
   go_upto_region 17 with (fail)
   have HTB := HT
   clear HT
   have HT := zH (Step.refl wr5)
   have HCE := zH (And.intro hce hcc)
   clear hce hcc hfz hgl
   refine wp_region_seq (kdOf [] []) [0, 0, 2, 0, 8, 30, 63, 127, 0, 256, 0, 1792, 4095, 8191, 0, 16384, 65535, 131071, 262143] [0, 1, 2, 3, 4, 5, 6, 7, 8, 9, 10, 11, 12, 13, 14, 15, 16, 17] [18] (by kernel_rfl) (by kernel_rfl) (fun i T z hi hk => by simp [kdOf] at hk <;> (try (split at hk <;> cases hk))) ?_
   intro Wx hWx
   have HTx := zH (HT.out.trans hWx)
   clear hWx HT
   have HT := HTx
   clear HTx
   have hce := HT.out.kc HCE.out.1
   have hcc := HT.out.kc HCE.out.2
   repeat ((first | (refine run_off rfl rfl (by rfl) ?_) | (refine run_chain_off rfl rfl (by rfl) (K0_mono _) ?_) | ((refine run_want rfl rfl (by rfl) ⟨?_, fun W hW => ?_, ?_⟩; rotate_left; (· (have d0 := hW.kc hce; have d1 := hW.kc hcc; go_simp; (try with_reducible rfl)))))); (try simp only [Act.put, zA, zB, zC]))
   refine run_end (L := [_]) rfl (fun W6 hW6 => ?_)
   have HS6 := zH (HT.out.trans hW6)
   clear hW6 HT hce hcc
   obtain ⟨gp', cp', gr', cr', he, hce, hgb, hgl, hcc, hfz, hput⟩ := (HRO.out.step HS6.out).put HKQ.out.1 (show q < pl[k].length by rw [HKQ.out.2.1]; exact hql)
   injection he with he1 he2 he3
   injection he1 with he1
   injection he1 with he1 he4 he5
   subst he1
   have hce0 := HS6.out.kc HCE.out.1
   rw [hce0] at hce
   injection hce with hce
   injection hce with hg1 hg2 hg3
   injection hg1 with hg1
   injection hg1 with hg1 hg4 hg5
   subst hg1
   rw [← HKQ.out.2.2.2] at hcc
   have HPUT := zH hput
   have HGR := zH hgb
   clear he2 he3 he4 he5 hg2 hg3 hg4 hg5 hput hgb hce0
   go_upto_region 18 with (fail)
   obtain ⟨w8, hw8⟩ : ∃ z, z = W6.setCell ⟨gr, q, none⟩ (.int .i64 (x + by_)) := ⟨_, rfl⟩
   rw [← hw8]
   obtain ⟨PP, hPP⟩ : ∃ z, z = pl.set k (pl[k].set q (x + by_)) := ⟨_, rfl⟩
   have hpl8 : PP.length = pl.length := by rw [hPP]; simp
   have hro8 := HPUT.out (x + by_)
   rw [← hw8, ← hPP] at hro8
   have hcs := hro8.sl (S := fun _ => False) fun _ _ h => h
   have HPC := zH hcs
   have HT := zH (show Step wk w8 by subst hw8; exact (HTB.out.trans HS6.out).setNew _ _ HGR.out)
   clear HPF
   have HPF := zH (show RowsFew PP from ⟨by rw [hpl8]; exact HFP.out.1, fun r hr => by
    rw [hPP] at hr
    rcases List.mem_or_eq_of_mem_set hr with h1 | h1
    ·exact HFP.out.2 r h1
    ·rw [h1, List.length_set]
     exact HFP.out.2 _ (List.getElem_mem _)⟩)
   clear hcs hro8 hpl8 hPP hw8 HPUT HGR HTB HS6 HCE HKQ HWX hcc hfz hgl hwx hix hiq hkw hqw hk hq hp0i hn0i d0 d0' d1 d1' hwa hwt hwb hwa2 hwt2 hwb2
   have HCC2 := zH (HCC.out.keep (.of_step HT.out))
   have HCU2 := zH (HCU.out.keep (.of_step HT.out))
   clear HCC HCU
   have HCC := HCC2
   have HCU := HCU2
   clear HCC2 HCU2
   have qa := HB.out.step HT.out
   have qb := HS.out.trans HT.out
   have qc := fun W (hW : Step w8 W) => HAV.out W (HT.out.trans hW)
   clear HB HS HAV HT
   have HB := zH qa
   have HS := zH qb
   have HAV := zH qc
   have HT := zH (Step.refl w8)
   clear qa qb qc
   by_cases F : Feas h T
   ·obtain ⟨rfl, rfl⟩ := HST.out.out HQ.out (by have := HT60.out; omega) (by rw [Int.toNat_natCast]; exact F)
    have HCL := zH HL2.out.2
    clear F
    have e0 := (HB.out.step HT.out).cell 0
    have e1 := (HB.out.step HT.out).cell 1
    simp only [zD, zE] at e0 e1
    go_wp2_with fail
    refine (RIsOut_any (fun _ => False) h n PP _ _ _ (HAV.out _ HT.out) (HPC.out.keep (.of_step HT.out)) HO.out HM60.out).mono ?_
    rintro e wn ⟨rfl, hSn⟩
    have HTn := zH (HT.out.trans hSn)
    have HSN := zH hSn
    clear HT hSn
    have HT := HTn
    clear HTn
    clear HSN e0 e1
    obtain ⟨b1, hb1⟩ : ∃ z, z = outB h n PP := ⟨_, rfl⟩
    rw [← hb1]
    have hpo := zH (show poutB h (n : Int) PP = b1 by rw [pout_at HQ.out HM60.out, ← hb1])
    clear hb1
    have e0 := (HB.out.step HT.out).cell 0
    have e1 := (HB.out.step HT.out).cell 1
    simp only [zD, zE] at e0 e1
    go_wp2_with fail
    refine (RSize_any (fun _ => False) h T cut _ _ _ (HAV.out _ HT.out) (HCC.out.keep (.of_step HT.out)) HO.out HT60.out).mono ?_
    rintro e wn ⟨rfl, hSn⟩
    have HTn := zH (HT.out.trans hSn)
    have HSN := zH hSn
    clear HT hSn
    have HT := HTn
    clear HTn
    clear HSN e0 e1
    obtain ⟨z, hz⟩ : ∃ z, z = sizeR h T cut := ⟨_, rfl⟩
    rw [← hz]
    obtain ⟨A, hA⟩ : ∃ A, A = allH h := ⟨_, rfl⟩
    have HPS := zH (show pstuckB h (T : Int) cut = (decide (0 ≤ z) && decide (z < A)) by rw [pstuck_at HQ.out HT60.out, stuckB_size HO.out, ← hz, ← hA])
    have HA := zH hA
    clear hz hA
    have e0 := (HB.out.step HT.out).cell 0
    have e1 := (HB.out.step HT.out).cell 1
    simp only [zD, zE] at e0 e1
    go_wp2_with fail
    refine (GHall_any (fun _ => False) h _ _ (HAV.out _ HT.out) HL.out.1 HL.out.2).mono ?_
    rintro e wn ⟨vg, rfl, hv', hSn⟩
    have HVG := zH (av0 hv')
    have HPC2 := zH (HPC.out.keep (.of_step (HT.out.trans hSn)))
    clear hv' e0 e1
    have HTn := zH (HT.out.trans hSn)
    have HSN := zH hSn
    clear HT hSn
    have HT := HTn
    clear HTn
    clear HSN
    go_wp2_with fail
    refine (rowsL_any (fun _ => False) PP _ _ HPC2.out (by have := HPF.out.1; omega) HPF.out.sz).mono ?_
    rintro e wn ⟨vr2, rfl, hro, hSn⟩
    have HRW := zH (hro.sl (S := fun _ => False) fun _ _ h => h)
    have HVG2 := zH (HVG.out.keep (.of_step hSn))
    clear hro HVG HPC2
    have HTn := zH (HT.out.trans hSn)
    have HSN := zH hSn
    clear HT hSn
    have HT := HTn
    clear HTn
    clear HSN
    have hcall := ProveOut_any (fun _ => False) h (n : Int) PP _ _ _ HVG2.out HRW.out
    rw [hpo.out] at hcall
    have HCALL := zH hcall
    clear hcall
    go_wp2_with fail
    refine (HCALL.out).mono ?_
    rintro e wn ⟨rfl, hSn⟩
    have HTn := zH (HT.out.trans hSn)
    have HSN := zH hSn
    clear HT hSn
    have HT := HTn
    clear HTn
    clear HCALL HSN HVG2 HRW
    have e0 := (HB.out.step HT.out).cell 0
    have e1 := (HB.out.step HT.out).cell 1
    simp only [zD, zE] at e0 e1
    go_wp2_with fail
    refine (GHall_any (fun _ => False) h _ _ (HAV.out _ HT.out) HL.out.1 HL.out.2).mono ?_
    rintro e wn ⟨vg, rfl, hv', hSn⟩
    have HVG := zH (av0 hv')
    clear hv' e0 e1
    have HTn := zH (HT.out.trans hSn)
    have HSN := zH hSn
    clear HT hSn
    have HT := HTn
    clear HTn
    clear HSN
    have HCW := zH (HCC.out.keep (.of_step HT.out))
    have hl2 := HCL.out
    go_wp2_with (at_builtin; refine wpl_append_g (α := Int) (S := fun _ => False) (base := wn.heap.size) (v := .slice (some ⟨wn.heap.size, 0, none⟩) 0 0) (l := []) (m := cut) eiIntsH (by rfl) _ _ rfl rfl rfl ⟨[], World.ownsRow_lit wn #[] 0 (Nat.le_refl _) (by simp [maxLen]) (by simp), fun i h => absurd h (by simp)⟩ (SL.flat _ (HCW.out.keep (.alloc _ _))) (cut).length (by simp) (cut) rfl ?_ ?_ ?_ ?_)
    ·simp only [maxLen]; omega
    ·omega
    ·simp
    intro p9 c9 w9 hown hg
    have hX : Step wn w9 := .of (((Below.refl _ wn).alloc (Nat.le_refl _) _).grown hg (by simp) (by simp [Value.ownBlock]))
    have HC9 := zH ((ownL_flat (fun _ => False) hown).slb fun _ _ h => h)
    have HVG9 := zH (HVG.out.keep (.of_step hX))
    have HT9 := zH (HT.out.trans hX)
    clear hX hown hg HCW HVG HT hl2
    have HT := HT9
    clear HT9
    have hcall := ProveStuck_any (fun _ => False) h (T : Int) cut _ _ _ HVG9.out HC9.out
    rw [HPS.out] at hcall
    by_cases hz0 : 0 ≤ z
    ·have hzd : decide (0 ≤ z) = true := decide_eq_true hz0
     rw [hzd, Bool.true_and] at hcall
     have HCALL := zH hcall
     clear hcall
     go_wp2_with fail
     refine (HCALL.out).mono ?_
     rintro e wn ⟨rfl, hSn⟩
     have HTn := zH (HT.out.trans hSn)
     have HSN := zH hSn
     clear HT hSn
     have HT := HTn
     clear HTn
     clear HCALL HSN HVG9 HC9
     have e0 := (HB.out.step HT.out).cell 0
     have e1 := (HB.out.step HT.out).cell 1
     simp only [zD, zE] at e0 e1
     go_wp2_with fail
     refine (RAllH_any (fun _ => False) h _ _ (HAV.out _ HT.out) HO.out).mono ?_
     rintro e wn ⟨rfl, hSn⟩
     rw [← HA.out]
     have HTn := zH (HT.out.trans hSn)
     have HSN := zH hSn
     clear HT hSn
     have HT := HTn
     clear HTn
     clear HSN e0 e1
     go_wp2_with fail
     refine (gwakes_any _).mono ?_
     rintro e wn ⟨rfl, hSn⟩
     have HTn := zH (HT.out.trans hSn)
     have HSN := zH hSn
     clear HT hSn
     have HT := HTn
     clear HTn
     go_wp2
     go_ret
     exact ⟨rfl, HS.out.trans HT.out⟩
    ·have hzd : decide (0 ≤ z) = false := decide_eq_false hz0
     rw [hzd, Bool.false_and] at hcall
     have HCALL := zH hcall
     clear hcall
     go_wp2_with fail
     refine (HCALL.out).mono ?_
     rintro e wn ⟨rfl, hSn⟩
     have HTn := zH (HT.out.trans hSn)
     have HSN := zH hSn
     clear HT hSn
     have HT := HTn
     clear HTn
     clear HCALL HSN HVG9 HC9
     go_wp2_with fail
     refine (gwakes_any _).mono ?_
     rintro e wn ⟨rfl, hSn⟩
     have HTn := zH (HT.out.trans hSn)
     have HSN := zH hSn
     clear HT hSn
     have HT := HTn
     clear HTn
     go_wp2
     go_ret
     exact ⟨rfl, HS.out.trans HT.out⟩
   ·obtain ⟨rfl, hstk⟩ := HST.out.cut HQ.out (by have := HT60.out; omega) (by rw [Int.toNat_natCast]; exact F)
    rw [Int.toNat_natCast] at hstk
    simp only [stuckB, cutOk, Bool.and_eq_true, decide_eq_true_eq, List.all_eq_true] at hstk
    have hcl := hstk.1.1.1
    have hce := hstk.1.2
    have hn2 := HO.out.n2
    have hn10 := HO.out.n10
    have hc0 : 0 < cu.length := by omega
    have hc0i : (0 : Int) < (cu.length : Int) := by omega
    have hc10 : cu.length ≤ 15 := by omega
    obtain ⟨k2, hk2, hkl2⟩ := rem_len HNN.out.1.1 hc0
    have hkw2 : IntKind.i64.wrap (at_.tmod (cu.length : Int)) = (k2 : Int) := by rw [hk2, IntKind.wrap_i64]; omega
    have hen := hce _ (List.getElem_mem hkl2)
    have HEN := zH hen
    have HHC := zH hcl
    have HCW := zH (HCU.out.keep (.of_step HT.out))
    clear hstk hcl hce F hen
    obtain ⟨hwa, hwt, hwb, hwa2, hwt2, hwb2⟩ := HWR.out
    go_wp2_with (at_builtin; refine wpl_append (α := Int) (S := fun _ => False) (base := w8.heap.size) (v := .slice (some ⟨w8.heap.size, 0, none⟩) 0 0) (l := []) (m := cu) eiIntsH rfl _ _ rfl rfl rfl ⟨[], World.ownsRow_lit w8 #[] 0 (Nat.le_refl _) (by simp [maxLen]) (by simp), fun i h => absurd h (by simp)⟩ (SL.flat _ (HCW.out.keep (.alloc _ _))) cu.length (by simp) cu rfl ?_ ?_ ?_ ?_)
    ·simp only [maxLen]; omega
    ·omega
    ·simp
    intro p5 c5 wq5 hown hg
    have hX : Step w8 wq5 := .of (((Below.refl _ w8).alloc (Nat.le_refl _) _).grown hg (by simp) (by simp [Value.ownBlock]))
    obtain ⟨gc, cc, he, hgb, hgl, hcc, hfz, hput⟩ := own_num hown hkl2
    injection he with he1 he2 he3
    subst he1 he3
    obtain ⟨x2, hx2⟩ : ∃ z, z = cu[k2] := ⟨_, rfl⟩
    rw [← hx2] at hcc
    have hen := HEN.out
    rw [← hx2] at hen
    have hnn := HNN.out.2.2
    have ht60 := HT60.out
    have hwx : IntKind.i64.wrap (x2 + by_) = x2 + by_ := by clear hwa hwt hwb hwa2 hwt2 hwb2 hkw2 hk2 he2; rw [IntKind.wrap_i64]; omega
    have hix : (0 : Int) ≤ (k2 : Int) ∧ (k2 : Int) < (cu.length : Int) := by clear hwa hwt hwb hwa2 hwt2 hwb2 hkw2 hk2 he2 hwx; omega
    have HPUT := zH hput
    have HX5 := zH hX
    have HGB5 := zH hgb
    clear hput hX hown hg hgb hen hnn hx2 he2 HCW ht60
    go_upto_region 21 with (fail)
    obtain ⟨wq8, hwq8⟩ : ∃ z, z = wq5.setCell ⟨gc, k2, none⟩ (.int .i64 (x2 + by_)) := ⟨_, rfl⟩
    rw [← hwq8]
    have hl8 : (cu.set k2 (x2 + by_)).length = cu.length := by simp
    have hcs : SL (fun _ => False) wq8 (.slice (some ⟨gc, 0, none⟩) cu.length c5) (cu.set k2 (x2 + by_)) := by
     have h1 := (ownL_flat (fun _ => False) (HPUT.out (x2 + by_))).slb fun _ _ h => h
     rw [← hwq8] at h1
     exact h1
    have HT8 := zH (show Step w8 wq8 by subst hwq8; exact HX5.out.setNew _ _ HGB5.out)
    have HPC3 := zH (HPC.out.keep (.of_step HT8.out))
    clear HCC HPC HT
    have HCC := zH hcs
    have HPC := HPC3
    have HT := HT8
    have HCL := zH (show (cu.set k2 (x2 + by_)).length ≤ 15 by rw [hl8]; exact hc10)
    clear hcs hwq8 HPC3 HT8 hl8 hcc hfz hgl hwx hix hkw2 hk2 hc0i hwa hwt hwb hwa2 hwt2 hwb2
    have qa := HB.out.step HT.out
    have qb := HS.out.trans HT.out
    have qc := fun W (hW : Step wq8 W) => HAV.out W (HT.out.trans hW)
    clear HB HS HAV HT
    have HB := zH qa
    have HS := zH qb
    have HAV := zH qc
    have HT := zH (Step.refl wq8)
    clear qa qb qc
    have e0 := (HB.out.step HT.out).cell 0
    have e1 := (HB.out.step HT.out).cell 1
    simp only [zD, zE] at e0 e1
    go_wp2_with fail
    refine (RIsOut_any (fun _ => False) h n PP _ _ _ (HAV.out _ HT.out) (HPC.out.keep (.of_step HT.out)) HO.out HM60.out).mono ?_
    rintro e wn ⟨rfl, hSn⟩
    have HTn := zH (HT.out.trans hSn)
    have HSN := zH hSn
    clear HT hSn
    have HT := HTn
    clear HTn
    clear HSN e0 e1
    obtain ⟨b1, hb1⟩ : ∃ z, z = outB h n PP := ⟨_, rfl⟩
    rw [← hb1]
    have hpo := zH (show poutB h (n : Int) PP = b1 by rw [pout_at HQ.out HM60.out, ← hb1])
    clear hb1
    have e0 := (HB.out.step HT.out).cell 0
    have e1 := (HB.out.step HT.out).cell 1
    simp only [zD, zE] at e0 e1
    go_wp2_with fail
    refine (RSize_any (fun _ => False) h T (cu.set k2 (x2 + by_)) _ _ _ (HAV.out _ HT.out) (HCC.out.keep (.of_step HT.out)) HO.out HT60.out).mono ?_
    rintro e wn ⟨rfl, hSn⟩
    have HTn := zH (HT.out.trans hSn)
    have HSN := zH hSn
    clear HT hSn
    have HT := HTn
    clear HTn
    clear HSN e0 e1
    obtain ⟨z, hz⟩ : ∃ z, z = sizeR h T (cu.set k2 (x2 + by_)) := ⟨_, rfl⟩
    rw [← hz]
    obtain ⟨A, hA⟩ : ∃ A, A = allH h := ⟨_, rfl⟩
    have HPS := zH (show pstuckB h (T : Int) (cu.set k2 (x2 + by_)) = (decide (0 ≤ z) && decide (z < A)) by rw [pstuck_at HQ.out HT60.out, stuckB_size HO.out, ← hz, ← hA])
    have HA := zH hA
    clear hz hA
    have e0 := (HB.out.step HT.out).cell 0
    have e1 := (HB.out.step HT.out).cell 1
    simp only [zD, zE] at e0 e1
    go_wp2_with fail
    refine (GHall_any (fun _ => False) h _ _ (HAV.out _ HT.out) HL.out.1 HL.out.2).mono ?_
    rintro e wn ⟨vg, rfl, hv', hSn⟩
    have HVG := zH (av0 hv')
    have HPC2 := zH (HPC.out.keep (.of_step (HT.out.trans hSn)))
    clear hv' e0 e1
    have HTn := zH (HT.out.trans hSn)
    have HSN := zH hSn
    clear HT hSn
    have HT := HTn
    clear HTn
    clear HSN
    go_wp2_with fail
    refine (rowsL_any (fun _ => False) PP _ _ HPC2.out (by have := HPF.out.1; omega) HPF.out.sz).mono ?_
    rintro e wn ⟨vr2, rfl, hro, hSn⟩
    have HRW := zH (hro.sl (S := fun _ => False) fun _ _ h => h)
    have HVG2 := zH (HVG.out.keep (.of_step hSn))
    clear hro HVG HPC2
    have HTn := zH (HT.out.trans hSn)
    have HSN := zH hSn
    clear HT hSn
    have HT := HTn
    clear HTn
    clear HSN
    have hcall := ProveOut_any (fun _ => False) h (n : Int) PP _ _ _ HVG2.out HRW.out
    rw [hpo.out] at hcall
    have HCALL := zH hcall
    clear hcall
    go_wp2_with fail
    refine (HCALL.out).mono ?_
    rintro e wn ⟨rfl, hSn⟩
    have HTn := zH (HT.out.trans hSn)
    have HSN := zH hSn
    clear HT hSn
    have HT := HTn
    clear HTn
    clear HCALL HSN HVG2 HRW
    have e0 := (HB.out.step HT.out).cell 0
    have e1 := (HB.out.step HT.out).cell 1
    simp only [zD, zE] at e0 e1
    go_wp2_with fail
    refine (GHall_any (fun _ => False) h _ _ (HAV.out _ HT.out) HL.out.1 HL.out.2).mono ?_
    rintro e wn ⟨vg, rfl, hv', hSn⟩
    have HVG := zH (av0 hv')
    clear hv' e0 e1
    have HTn := zH (HT.out.trans hSn)
    have HSN := zH hSn
    clear HT hSn
    have HT := HTn
    clear HTn
    clear HSN
    have HCW := zH (HCC.out.keep (.of_step HT.out))
    have hl2 := HCL.out
    go_wp2_with (at_builtin; refine wpl_append_g (α := Int) (S := fun _ => False) (base := wn.heap.size) (v := .slice (some ⟨wn.heap.size, 0, none⟩) 0 0) (l := []) (m := (cu.set k2 (x2 + by_))) eiIntsH (by rfl) _ _ rfl rfl rfl ⟨[], World.ownsRow_lit wn #[] 0 (Nat.le_refl _) (by simp [maxLen]) (by simp), fun i h => absurd h (by simp)⟩ (SL.flat _ (HCW.out.keep (.alloc _ _))) ((cu.set k2 (x2 + by_))).length (by simp) ((cu.set k2 (x2 + by_))) rfl ?_ ?_ ?_ ?_)
    ·simp only [maxLen]; omega
    ·omega
    ·simp
    intro p9 c9 w9 hown hg
    have hX : Step wn w9 := .of (((Below.refl _ wn).alloc (Nat.le_refl _) _).grown hg (by simp) (by simp [Value.ownBlock]))
    have HC9 := zH ((ownL_flat (fun _ => False) hown).slb fun _ _ h => h)
    have HVG9 := zH (HVG.out.keep (.of_step hX))
    have HT9 := zH (HT.out.trans hX)
    clear hX hown hg HCW HVG HT hl2
    have HT := HT9
    clear HT9
    have hcall := ProveStuck_any (fun _ => False) h (T : Int) (cu.set k2 (x2 + by_)) _ _ _ HVG9.out HC9.out
    rw [HPS.out] at hcall
    by_cases hz0 : 0 ≤ z
    ·have hzd : decide (0 ≤ z) = true := decide_eq_true hz0
     rw [hzd, Bool.true_and] at hcall
     have HCALL := zH hcall
     clear hcall
     go_wp2_with fail
     refine (HCALL.out).mono ?_
     rintro e wn ⟨rfl, hSn⟩
     have HTn := zH (HT.out.trans hSn)
     have HSN := zH hSn
     clear HT hSn
     have HT := HTn
     clear HTn
     clear HCALL HSN HVG9 HC9
     have e0 := (HB.out.step HT.out).cell 0
     have e1 := (HB.out.step HT.out).cell 1
     simp only [zD, zE] at e0 e1
     go_wp2_with fail
     refine (RAllH_any (fun _ => False) h _ _ (HAV.out _ HT.out) HO.out).mono ?_
     rintro e wn ⟨rfl, hSn⟩
     rw [← HA.out]
     have HTn := zH (HT.out.trans hSn)
     have HSN := zH hSn
     clear HT hSn
     have HT := HTn
     clear HTn
     clear HSN e0 e1
     go_wp2_with fail
     refine (gwakes_any _).mono ?_
     rintro e wn ⟨rfl, hSn⟩
     have HTn := zH (HT.out.trans hSn)
     have HSN := zH hSn
     clear HT hSn
     have HT := HTn
     clear HTn
     go_wp2
     go_ret
     exact ⟨rfl, HS.out.trans HT.out⟩
    ·have hzd : decide (0 ≤ z) = false := decide_eq_false hz0
     rw [hzd, Bool.false_and] at hcall
     have HCALL := zH hcall
     clear hcall
     go_wp2_with fail
     refine (HCALL.out).mono ?_
     rintro e wn ⟨rfl, hSn⟩
     have HTn := zH (HT.out.trans hSn)
     have HSN := zH hSn
     clear HT hSn
     have HT := HTn
     clear HTn
     clear HCALL HSN HVG9 HC9
     go_wp2_with fail
     refine (gwakes_any _).mono ?_
     rintro e wn ⟨rfl, hSn⟩
     have HTn := zH (HT.out.trans hSn)
     have HSN := zH hSn
     clear HT hSn
     have HT := HTn
     clear HTn
     go_wp2
     go_ret
     exact ⟨rfl, HS.out.trans HT.out⟩
end Go.Proofs.Ytfhmdpicoccnfaa
