/- CanvasNames holds. -/
import Derived.Test.YtdcjbbeoocldeaaM3
import Derived.Test.YtdcjbbeoocldeaaM4
import Derived.Test.YtdcjbbeoocldeaaMh
import Derived.Test.YtdcjbbeoocldeaaMj
import Derived.Test.YtdcjbbeoocldeaaMk
import Derived.Test.YtdcjbbeoocldeaaMq
import Derived.Test.YtdcjbbeoocldeaaMr
import Derived.Test.YtdcjbbeoocldeaaMs
import Derived.Test.YtdcjbbeoocldeaaMw
import Derived.Test.YtdcjbbeoocldeaaRows
/- Walks: the first pair of tests that clash, and the least depth that holds a force, by the program. -/
namespace Go.Proofs.Ytdcjbbeoocldeaa
set_option linter.unusedSimpArgs false
set_option linter.unusedVariables false
open Go.RowKit Go.BT

attribute [local go_sem] field_range
def clashI (l : List Tst) : Int := idxOf (fun x => l.any (againstB x)) l
def clashJ (l : List Tst) : Int := if clashI l < 0 then -1 else match l[(clashI l).toNat]? with
  | some x => idxOf (againstB x) l
  | none => -1
theorem clash_at {l : List Tst} {k : Nat} (hk : k < l.length) (h : ∀ j (hj : j < k) (hl : j < l.length), l.any (againstB l[j]) = false) (hp : l.any (againstB l[k]) = true) : clashI l = k ∧ clashJ l = idxOf (againstB l[k]) l := by
  have h1 : clashI l = k := idxOf_at (p := fun x => l.any (againstB x)) hk (fun j hj => h j hj (by omega)) hp
  refine ⟨h1, ?_⟩
  unfold clashJ
  rw [h1, if_neg (by omega), Int.toNat_natCast, List.getElem?_eq_getElem hk]
theorem clash_no {l : List Tst} (h : ∀ j (hl : j < l.length), l.any (againstB l[j]) = false) : clashI l = -1 ∧ clashJ l = -1 := by
  have h1 : clashI l = -1 := idxOf_none (p := fun x => l.any (againstB x)) fun j hj => h j hj
  refine ⟨h1, ?_⟩
  unfold clashJ
  rw [h1, if_pos (by decide)]
theorem clash_pair (S : Nat → Prop) (l : List Tst) (v : Value) (w : World) (hv : SL S w v l) (hl : l.all tstB = true) :
    Calls Try.prog 85 #[v] w fun e w' => e = .returned (.tuple #[.int .i64 (clashI l), .int .i64 (clashJ l)]) ∧ Step w w' := by
  have hm := hv.len
  have hv0 := hv
  obtain ⟨pv, cv, b, o, rfl, _, _, hp, hc, _⟩ := hv.tsts
  have HP := Lib.hid (And.intro hp hc)
  have HL := Lib.hid hl
  have HV := Lib.hid hv0
  have HT0 := Lib.hid (Step.refl w)
  clear hp hc hl hv hv0
  go_enter Try.func85, Try.ntmps85
  go_wp2
  go_loopw [9] (fun i wr => ∃ k : Nat, k ≤ l.length ∧ i = .int .i64 k ∧ (∀ j (hj : j < k) (hl : j < l.length), l.any (againstB l[j]) = false) ∧ Step w wr) (fun i _ => l.length - (intOf i).toNat)
  case atStart => exact ⟨0, Nat.zero_le _, rfl, fun j hj => absurd hj (by omega), HT0.out⟩
  case round =>
    obtain ⟨k, hk, rfl, hno, hT⟩ := hrel
    have HN := Lib.hid hno
    have HT := Lib.hid hT
    clear hno hT
    by_cases hlt : k < l.length
    · obtain rfl := HP.out.1 (by omega)
      obtain ⟨e1, e2, e3, e4⟩ := HP.out.2 k hlt
      have e1 := HT.out.keeps.cell id e1
      have e2 := HT.out.keeps.cell id e2
      have e3 := HT.out.keeps.cell id e3
      have e4 := HT.out.keeps.cell id e4
      have hix : (0 : Int) ≤ (k : Int) ∧ (k : Int) < (l.length : Int) := by omega
      have hcall := Lib.hid (indexAgainst_any S l[k] l _ (wr.alloc (.cells #[.int .i64 l[k].soil, .int .i64 l[k].depth, .int .i64 l[k].force, .bool l[k].held] 111)) (HV.out.keep (.of_step (HT.out.trans (Step.alloc _ _)))) (all_get HL.out hlt) HL.out)
      go_wp2_with fail
      refine hcall.out.mono ?_
      rintro e w' ⟨rfl, hS⟩
      have hge := idxOf_ge (againstB l[k]) l
      have HS := Lib.hid ((Step.alloc _ _).trans hS)
      clear hcall e1 e2 e3 e4 hS
      cases hq : l.any (againstB l[k]) with
      | true =>
        rw [hq] at hge
        have HQ := Lib.hid (clash_at hlt HN.out hq)
        clear hq
        go_wp2
        go_ret2
        exact ⟨by rw [HQ.out.1, HQ.out.2]; rfl, HT.out.trans HS.out⟩
      | false =>
        rw [hq] at hge
        have HQ := Lib.hid hq
        clear hq
        go_wp2
        go_roundw
        case rel => exact ⟨k + 1, by omega, by go_num, fun j hj hl => if h : j = k then by subst h; exact HQ.out else HN.out j (by omega) hl, HT.out.trans HS.out⟩
        case measure => simp [intOf]; omega
    · have HQ := Lib.hid (clash_no (l := l) fun j hj => HN.out j (by omega) hj)
      go_wp2
      go_ret2
      exact ⟨by rw [HQ.out.1, HQ.out.2]; rfl, HT.out⟩
def clashC (l : List Tst) : Int := if testsC l = 0 then (if clashI l < 0 then 7 else 0) else testsC l
def clashA (l : List Tst) : Int × Int := if clashC l = 0 then (clashI l, clashJ l) else (0, 0)
theorem ClashP_any (S : Nat → Prop) (l : List Tst) (v : Value) (w : World) (hv : SL S w v l) :
    Calls Try.prog 55 #[v] w fun e w' => e = .returned (.tuple #[.int .i64 (clashA l).1, .int .i64 (clashA l).2, .int .i64 (clashC l)]) ∧ Step w w' := by
  have HV := Lib.hid hv
  have hcall := Lib.hid (CheckTests_any S l v w hv)
  obtain ⟨pv, cv, rfl⟩ := hv.form
  clear hv
  go_enter Try.func55, Try.ntmps55
  go_wp2_with fail
  refine hcall.out.mono ?_
  rintro e w1 ⟨rfl, hS⟩
  have HS := Lib.hid hS
  obtain ⟨c, hc⟩ : ∃ c, c = testsC l := ⟨_, rfl⟩
  rw [← hc]
  have HC := Lib.hid hc
  clear hcall hc hS
  by_cases h0 : c = 0
  rotate_left
  · have hd : (c != 0) = true := by simpa using h0
    have HR := Lib.hid (show clashC l = c by unfold clashC; rw [← HC.out, if_neg h0])
    have HR2 := Lib.hid (show clashA l = (0, 0) by unfold clashA; rw [HR.out, if_neg h0])
    clear h0
    go_wp2
    go_ret3
    exact ⟨by rw [HR.out, HR2.out]; rfl, HS.out⟩
  subst h0
  go_wp2_with fail
  refine (clash_pair S l _ _ (HV.out.keep (.of_step HS.out)) (tests_ok HC.out.symm)).mono ?_
  rintro e w2 ⟨rfl, hS2⟩
  have HS2 := Lib.hid (HS.out.trans hS2)
  obtain ⟨i, hi⟩ : ∃ c, c = clashI l := ⟨_, rfl⟩
  obtain ⟨j, hj⟩ : ∃ c, c = clashJ l := ⟨_, rfl⟩
  rw [← hi, ← hj]
  have HI := Lib.hid (And.intro hi hj)
  clear hS2 hi hj
  by_cases h0 : i < 0
  · have HR := Lib.hid (show clashC l = 7 by unfold clashC; rw [← HC.out, if_pos rfl, ← HI.out.1, if_pos h0])
    have HR2 := Lib.hid (show clashA l = (0, 0) by unfold clashA; rw [HR.out, if_neg (by decide)])
    have hd : decide (i < 0) = true := by simpa using h0
    clear h0
    go_wp2
    go_ret3
    exact ⟨by rw [HR.out, HR2.out]; rfl, HS2.out⟩
  · have HR := Lib.hid (show clashC l = 0 by unfold clashC; rw [← HC.out, if_pos rfl, ← HI.out.1, if_neg h0])
    have HR2 := Lib.hid (show clashA l = (i, j) by unfold clashA; rw [HR.out, if_pos rfl, ← HI.out.1, ← HI.out.2])
    have hd : decide (i < 0) = false := by simpa using h0
    clear h0
    go_wp2
    go_ret3
    exact ⟨by rw [HR.out, HR2.out]; rfl, HS2.out⟩
/-- The least depth, and whether there is none. -/
def deepF (l : List Tst) (s f : Int) : Option Nat := (List.range 3000).find? fun d => decide (f ≤ (holdsL l s (d + 1)).lo)
def deepL (l : List Tst) (s f : Int) : Int × Int := match deepF l s f with
  | some d => ((d : Int) + 1, 0)
  | none => (0, 7)
theorem deep_some {l : List Tst} {s f : Int} {k : Nat} (hk : k < 3000) (h : ∀ j : Nat, j < k → (holdsL l s (j + 1)).lo < f) (hp : f ≤ (holdsL l s (k + 1)).lo) : deepL l s f = ((k : Int) + 1, 0) := by
  have : deepF l s f = some k := by
    unfold deepF
    rw [List.find?_range_eq_some]
    exact ⟨by simpa using hp, by simpa using hk, fun j hj => by simpa using h j hj⟩
  unfold deepL; rw [this]
theorem deep_none {l : List Tst} {s f : Int} (h : ∀ j : Nat, j < 3000 → (holdsL l s (j + 1)).lo < f) : deepL l s f = (0, 7) := by
  have : deepF l s f = none := by
    unfold deepF
    rw [List.find?_eq_none]
    intro x hx
    simpa using h x (by simpa using hx)
  unfold deepL; rw [this]
set_option maxRecDepth 100000 in
set_option maxHeartbeats 4000000 in
theorem Deep_ok (S : Nat → Prop) (l : List Tst) (s f : Int) (v : Value) (w : World) (hv : SL S w v l) (h1 : testsC l = 0) (h2 : soundC l = 0) (hs : withinB s 0 9 = true) (hf : withinB f 0 5000 = true) :
    Calls Try.prog 54 #[v, .int .i64 s, .int .i64 f] w fun e w' => e = .returned (.tuple #[.int .i64 (deepL l s f).1, .int .i64 (deepL l s f).2]) ∧ Step w w' := by
  have hcall := Lib.hid (CheckTests_any S l v _ hv)
  have HV := Lib.hid hv
  have HA := Lib.hid (And.intro (tests_ok h1) (And.intro h1 h2))
  have HW1 := Lib.hid (And.intro hs hf)
  obtain ⟨pv, cv, rfl⟩ := hv.form
  clear hv h1 h2 hs hf
  go_enter Try.func54, Try.ntmps54
  go_wp2_with fail
  refine hcall.out.mono ?_
  rintro e w1 ⟨rfl, hS⟩
  rw [HA.out.2.1]
  have HS := Lib.hid hS
  clear hcall hS
  go_wp2_with fail
  refine (canvas.within_any _ _ _ _).mono ?_
  rintro e w' ⟨rfl, rfl⟩
  rw [HW1.out.1]
  go_wp2_with fail
  refine (canvas.within_any _ _ _ _).mono ?_
  rintro e w' ⟨rfl, rfl⟩
  rw [HW1.out.2]
  go_wp2_with fail
  refine (sound_any S l _ _ (HV.out.keep (.of_step HS.out)) HA.out.1).mono ?_
  rintro e w2 ⟨rfl, hS2⟩
  rw [HA.out.2.2]
  have HS2 := Lib.hid (HS.out.trans hS2)
  clear hS2
  go_wp2
  go_loopw [10] (fun i wr => ∃ k : Nat, k ≤ 3000 ∧ i = .int .i64 ((k : Int) + 1) ∧ (∀ j : Nat, j < k → (holdsL l s (j + 1)).lo < f) ∧ Step w wr) (fun i _ => 3001 - (intOf i).toNat)
  case atStart => exact ⟨0, Nat.zero_le _, rfl, fun j hj => absurd hj (by omega), HS2.out⟩
  case round =>
    obtain ⟨k, hk, rfl, hno, hT⟩ := hrel
    have HN := Lib.hid hno
    have HT := Lib.hid hT
    clear hno hT
    by_cases hlt : k < 3000
    · have hd : decide ((k : Int) + 1 ≤ 3000) = true := by simp; omega
      have hwk1 : wrap64 ((k : Int) + 1 + 1) = (k : Int) + 1 + 1 := by unfold wrap64; omega
      have hwk2 : IntKind.i64.wrap ((k : Int) + 1 + 1) = (k : Int) + 1 + 1 := by rw [IntKind.wrap_i64]; omega
      have HLT := Lib.hid hlt
      go_wp2_with fail
      refine (holds_any S l s _ _ _ (HV.out.keep (.of_step HT.out)) HA.out.1 (by have := HLT.out; omega)).mono ?_
      rintro e w3 ⟨rfl, hS3⟩
      have HT3 := Lib.hid (HT.out.trans hS3)
      obtain ⟨z, hz⟩ : ∃ z, z = (holdsL l s ((k : Int) + 1)).lo := ⟨_, rfl⟩
      rw [← hz]
      have HZ := Lib.hid hz
      clear hS3 hz
      by_cases hq : f ≤ z
      · have HR := Lib.hid (deep_some hlt HN.out (HZ.out ▸ hq))
        have hd2 : decide (f ≤ z) = true := by simpa using hq
        clear hq
        go_wp2
        go_ret2
        exact ⟨by rw [HR.out]; rfl, HT3.out⟩
      · have HQ := Lib.hid (show z < f by omega)
        have hd2 : decide (f ≤ z) = false := by simpa using hq
        clear hq
        go_wp2
        go_roundw
        case rel => exact ⟨k + 1, by have := HLT.out; omega, by go_num, fun j hj => if h : j = k then by subst h; rw [← HZ.out]; exact HQ.out else HN.out j (by omega), HT3.out⟩
        case measure => simp [intOf]; omega
    · have hd : decide ((k : Int) + 1 ≤ 3000) = false := by simp; omega
      have HR := Lib.hid (deep_none (l := l) (s := s) (f := f) fun j hj => HN.out j (by omega))
      go_wp2
      go_ret2
      exact ⟨by rw [HR.out]; rfl, HT.out⟩
end Go.Proofs.Ytdcjbbeoocldeaa
/- The document's examples in plain words. -/
namespace Go.Proofs.Ytdcjbbeoocldeaa
set_option linter.unusedSimpArgs false
set_option linter.unusedVariables false
open Go.RowKit Go.BT

def badL : List Tst := soilL ++ [⟨0, 400, 320, false⟩]
theorem nm_holds : holdsL soilL 1 700 = ⟨0, 10000000⟩ := by decide +kernel
theorem nm_deep : deepL soilL 0 900 = (1125, 0) := by
  have h : deepF soilL 0 900 = some 1124 := by decide +kernel
  unfold deepL; rw [h]; rfl
theorem nm_deep1 : deepL soilL 1 1 = (0, 7) := by
  have h : deepF soilL 1 1 = none := by decide +kernel
  unfold deepL; rw [h]
theorem nm_bad : testsC badL = 0 ∧ soundC badL = 9 ∧ clashC badL = 0 ∧ clashA badL = (0, 2) := by decide +kernel
theorem nm_over : overR fourL = [0] := by decide +kernel
theorem nm_at : atC soilL fourL 0 true = 0 := wk_at
theorem nm_bal600 : balC soilL fourL 0 ⟨600, 0⟩ = 7 := by
  unfold balC
  rw [show cornerB ⟨600, 0⟩ = true by decide, wk_at, if_pos rfl, wk_F, wk_P, show (searchL fourF (timesV ⟨600, 0⟩ 100)).2 = false by decide +kernel]
  rfl
theorem nm_reach : IsReach fourF (timesV ⟨1, 0⟩ 100) 560 := ⟨by decide, by decide, by decide +kernel, fun _ => by decide +kernel⟩
theorem nm_reach_is {k : Int} (h : atC soilL fourL 0 (wayB ⟨1, 0⟩) = 0 → IsReach (forcesL soilL (headAt fourL 0).guys) (timesV ⟨1, 0⟩ (headAt fourL 0).area) k) : k = 560 := by
  rw [show wayB ⟨1, 0⟩ = true by decide] at h
  have := h wk_at
  rw [wk_head, show fourH.guys = fourG from rfl, four_forces] at this
  exact this.unique nm_reach
theorem nm_at1 : atC soilL fourL 1 (wayB ⟨1, 0⟩) = 2 := by
  unfold atC readyC
  rw [four_tests, if_pos rfl, four_tent, if_pos rfl, if_neg (by decide)]
theorem nm_blown (wind : List Vec) (h : windB wind = true) : blownC soilL fourL wind = 0 := by
  unfold blownC readyC
  rw [four_tests, if_pos rfl, four_tent, if_pos rfl, h, if_pos rfl, four_sound]
theorem stand_single (l : List Tst) (h : Head) (wind : List Vec) : standB l [h] wind = wind.all fun c => balL (forcesL l h.guys) (timesV c h.area) := by
  unfold standB; simp [standH]
theorem nm_forces (gs : List Guy) (h : ∀ g ∈ gs, g.x * g.x + g.y * g.y = 1000000 ∧ g.soil = 0 ∧ g.depth = 700) : forcesL soilL gs = gs.map fun g => timesV ⟨g.x, g.y⟩ 56 := by
  unfold forcesL
  refine List.map_congr_left fun g hg => ?_
  obtain ⟨a, b, c⟩ := h g hg
  unfold forceL
  rw [four_part g a b c]
theorem nm_four : ∀ g ∈ fourG, g.x * g.x + g.y * g.y = 1000000 ∧ g.soil = 0 ∧ g.depth = 700 := by decide
theorem nm_standB (gs : List Guy) (hg : ∀ g ∈ gs, g ∈ fourG) (wind : List Vec) : standB soilL [⟨100, 2000, gs⟩] wind = wind.all fun c => balL (gs.map fun g => timesV ⟨g.x, g.y⟩ 56) (timesV c 100) := by
  rw [stand_single, nm_forces gs fun g h => nm_four g (hg g h)]
def windS : List Vec := [⟨100, 0⟩, ⟨0, 100⟩]
theorem nm_stand : standB soilL fourL windS = true := by
  rw [show fourL = [⟨100, 2000, fourG⟩] from rfl, nm_standB _ fun g h => h]; decide +kernel
theorem nm_stand6 : standB soilL fourL [⟨600, 0⟩] = false := by
  rw [show fourL = [⟨100, 2000, fourG⟩] from rfl, nm_standB _ fun g h => h]; decide +kernel
theorem nm_spareB (k : Nat) : spareB soilL fourL windS 0 k = windS.all fun c => balL ((fourG.take k ++ fourG.drop (k + 1)).map fun g => timesV ⟨g.x, g.y⟩ 56) (timesV c 100) := by
  unfold spareB
  rw [without_get (by decide)]
  exact nm_standB (fourG.take k ++ fourG.drop (k + 1)) (fun g h => by
    rcases List.mem_append.1 h with h | h
    · exact List.mem_of_mem_take h
    · exact List.mem_of_mem_drop h) windS
theorem nm_spares : sparesTo soilL fourL windS fourL.length = [⟨0, 0⟩, ⟨0, 1⟩] := by
  rw [show fourL.length = 0 + 1 from rfl, spares_succ, spares_zero, show guysN fourL 0 = 4 from rfl]
  unfold rowTo
  rw [show List.range 4 = [0, 1, 2, 3] from rfl]
  simp only [List.nil_append, nm_spareB]
  decide +kernel
theorem nm_spareC : spareC soilL fourL windS = 0 := by
  unfold spareC
  rw [nm_blown _ (by decide), if_pos rfl, nm_stand, if_pos rfl]
theorem nm_spareC6 : spareC soilL fourL [⟨600, 0⟩] = 7 := by
  unfold spareC
  rw [nm_blown _ (by decide), if_pos rfl, nm_stand6]; rfl
def windW : List Vec := [⟨100, 0⟩, ⟨500, 600⟩]
theorem nm_blownW : blownC soilL fourL windW = 0 := nm_blown _ (by decide)
theorem nm_weakP : weakP soilL fourL windW = (0, 1) := by
  have hF : forcesL soilL fourH.guys = fourF := four_forces
  have hk : weakK fourF fourH.area windW = some 1 := by decide +kernel
  unfold weakP fourL weakFrom
  rw [hF, hk]; rfl
theorem nm_pw (p way : Vec) (hp : cornerB p = true) : proveWeakL soilL fourL 0 p way = isWeakL fourF (timesV p 100) way := by
  unfold proveWeakL
  rw [hp, wk_at, wk_F, wk_P]; simp
theorem nm_pw1 : proveWeakL soilL fourL 0 ⟨600, 0⟩ ⟨1, 0⟩ = true := by rw [nm_pw _ _ (by decide)]; decide +kernel
theorem nm_pw2 : proveWeakL soilL fourL 0 ⟨560, 0⟩ ⟨1, 0⟩ = false := by rw [nm_pw _ _ (by decide)]; decide +kernel
theorem nm_pw0 {a b : Int} (h : TooWeak soilL fourL windW 0 1 a b) : proveWeakL soilL fourL 0 ⟨500, 600⟩ ⟨a, b⟩ = true := by
  rw [nm_pw _ _ (by decide)]
  obtain ⟨h1, h2⟩ := h 0 1 (by decide) (by decide) rfl rfl
  have hF : forcesL soilL fourL[0].guys = fourF := four_forces
  rw [hF] at h1
  unfold isWeakL wayInB
  simp only [withinB, Bool.and_eq_true, decide_eq_true_eq]
  exact ⟨by omega, h1⟩
theorem nm_pb (p : Vec) (b : Bal) (hp : cornerB p = true) : proveBalL soilL fourL 0 p b = isBalL fourF (timesV p 100) b := by
  unfold proveBalL
  rw [hp, wk_at, wk_F, wk_P]; simp
theorem nm_pb1 : proveBalL soilL fourL 0 ⟨-300, 100⟩ ⟨56, [30, 0, 0, 10]⟩ = true := by rw [nm_pb _ _ (by decide)]; decide +kernel
theorem nm_pb2 : proveBalL soilL fourL 0 ⟨-300, 100⟩ ⟨56, [30, 0, 0, 11]⟩ = false := by rw [nm_pb _ _ (by decide)]; decide +kernel
theorem nm_pb3 : proveBalL soilL fourL 0 ⟨-300, 100⟩ ⟨56, [30, 0, 0]⟩ = false := by rw [nm_pb _ _ (by decide)]; decide +kernel
theorem nm_tent : tentC [] = 1 := by decide
theorem nm_tests : testsC [⟨10, 1, 1, false⟩] = 1 := by decide
end Go.Proofs.Ytdcjbbeoocldeaa
/- Walks: the law CanvasNames: it answers true. -/
namespace Go.Proofs.Ytdcjbbeoocldeaa
set_option linter.unusedSimpArgs false
set_option linter.unusedVariables false
open Go.RowKit Go.BT

theorem neq_range (a b c d : Int) (w : World) : (binOp .neq 105 (.agg #[.int .i64 a, .int .i64 b]) (.agg #[.int .i64 c, .int .i64 d])).run Try.prog w = .ok (.bool (!veq a b c d)) w := by
  have h := equal_range a b c d w
  unfold Op.equal Op.maxDepth at h
  rw [run_neq_struct, h]
  rfl
theorem soil_own (w : World) : Calls Try.prog 53 #[] w fun e w' => ∃ v', e = .returned v' ∧ OwnL (fun _ => False) w.heap.size 111 w' v' soilL ∧ Step w w' := by
  go_enter Try.func53, Try.ntmps53
  go_wp2
  go_ret
  refine ⟨_, rfl, ?_, Step.alloc _ _⟩
  refine ⟨_, World.ownsRow_lit w #[.int .i64 0, .int .i64 1000, .int .i64 800, .bool true, .int .i64 0, .int .i64 500, .int .i64 600, .bool false] 2 (Nat.le_refl _) (by decide) (by decide), fun i hi => ?_⟩
  match i, hi with
  | 0, _ => rfl
  | 1, _ => rfl
theorem Holds_fail (S : Nat → Prop) (l : List Tst) (s d : Int) (v : Value) (w : World) (hv : SL S w v l) (h1 : testsC l = 0) (h2 : soundC l = 9) (hs : withinB s 0 9 = true) (hd : withinB d 1 3000 = true) :
    Calls Try.prog 52 #[v, .int .i64 s, .int .i64 d] w fun e w' => e = .returned (.tuple #[.agg #[.int .i64 0, .int .i64 0], .int .i64 9]) ∧ Step w w' := by
  have hv1 := hv.keep (.of_step (Step.alloc w (.cells #[.int .i64 0, .int .i64 0] 105)))
  have hcall := Lib.hid (CheckTests_any S l v _ hv1)
  have HV := Lib.hid hv1
  have HA := Lib.hid (And.intro (tests_ok h1) (And.intro h1 h2))
  have HW1 := Lib.hid (And.intro hs hd)
  obtain ⟨pv, cv, rfl⟩ := hv.form
  clear hv hv1 h1 h2 hs hd
  go_enter Try.func52, Try.ntmps52
  go_wp2_with fail
  refine hcall.out.mono ?_
  rintro e w1 ⟨rfl, hS⟩
  rw [HA.out.2.1]
  have HS := Lib.hid hS
  clear hcall hS
  go_wp2_with fail
  refine (canvas.within_any _ _ _ _).mono ?_
  rintro e w' ⟨rfl, rfl⟩
  rw [HW1.out.1]
  go_wp2_with fail
  refine (canvas.within_any _ _ _ _).mono ?_
  rintro e w' ⟨rfl, rfl⟩
  rw [HW1.out.2]
  go_wp2_with fail
  refine (sound_any S l _ _ (HV.out.keep (.of_step HS.out)) HA.out.1).mono ?_
  rintro e w2 ⟨rfl, hS2⟩
  rw [HA.out.2.2]
  have HS2 := Lib.hid (HS.out.trans hS2)
  clear hS2
  have hb := (Bx.new w [.int .i64 0, .int .i64 0] 105).step HS2.out
  have HB := Lib.hid hb
  have z0 := hb.frozen 0
  have z1 := hb.frozen 1
  have y0 := hb.cell 0
  have y1 := hb.cell 1
  simp only [List.getElem?_cons_zero, List.getElem?_cons_succ] at y0 y1
  clear hb
  go_wp2
  have b2 := set2 HB.out (.int .i64 0) (.int .i64 0)
  exact ret_struct2 (k := 2) rfl siRange rfl b2.1 rfl rfl ⟨rfl, StepX.fresh ((Step.alloc w _).trans HS2.out) b2.2 (fun j hj => by omega)⟩
theorem small_four : fewT fourL := ⟨by decide, fun i hi => by
  have : i = 0 := by simpa [fourL] using hi
  subst this
  show fourG.length ≤ 10
  decide⟩
theorem vec_lit1 {T : TypeId} (a b : Int) (w : World) : SL (fun _ => False) (w.alloc (.cells #[.int .i64 a, .int .i64 b] T)) (.slice (some ⟨w.heap.size, 0, none⟩) 1 1) [(⟨a, b⟩ : Vec)] :=
  SL.one (α := Vec) (cs := [.int .i64 a, .int .i64 b]) T rfl (by simp)
theorem vec_lit2 {T : TypeId} (a b c d : Int) (w : World) : SL (fun _ => False) (w.alloc (.cells #[.int .i64 a, .int .i64 b, .int .i64 c, .int .i64 d] T)) (.slice (some ⟨w.heap.size, 0, none⟩) 2 2) [(⟨a, b⟩ : Vec), ⟨c, d⟩] := by
  refine SL.bx (S := fun _ => False) (l := [(⟨a, b⟩ : Vec), ⟨c, d⟩]) (Bx.new w [.int .i64 a, .int .i64 b, .int .i64 c, .int .i64 d] T) (by simp) 2 (by simp) (by simp) fun i hi => ?_
  match i, hi with
  | 0, _ => rfl
  | 1, _ => rfl
attribute [local go_sem] neq_range eql_range neq_pair eql_pair equalIn_pairs
set_option maxRecDepth 100000 in
set_option maxHeartbeats 8000000 in
theorem CanvasNames_any (w : World) : Calls Try.prog 14 #[] w fun e w' => e = .returned (.bool true) ∧ Step w w' := by
  go_enter Try.func14, Try.ntmps14
  have HT := Lib.hid (Step.refl w)
  go_wp2_with fail
  refine (soil_any _).mono ?_
  rintro e wn ⟨v1, rfl, hv1, hSn⟩
  have HV1 := Lib.hid (SL.go hv1 (Step.refl _))
  have HTi := Lib.hid (HT.out.trans hSn)
  clear hSn HT hv1
  have HT := HTi
  clear HTi
  have hv1 := HV1.out
  clear HV1
  go_wp2_with fail
  refine (Holds_ok _ soilL 1 700 _ _ hv1 four_tests four_sound (by decide) (by decide)).mono ?_
  rintro e wn ⟨rfl, hSn⟩
  have HTi := Lib.hid (HT.out.trans hSn)
  clear hSn HT
  have HT := HTi
  clear HTi
  rw [nm_holds]
  clear hv1
  obtain ⟨W1, hW1⟩ : ∃ W, W = wn.alloc (.cells #[.int .i64 0, .int .i64 10000000] 105) := ⟨_, rfl⟩
  have HB1 := Lib.hid (show Bx W1 wn.heap.size [.int .i64 0, .int .i64 10000000] 105 by rw [hW1]; exact Bx.new wn [_, _] _)
  have hst : Step w W1 := by rw [hW1]; exact HT.out.trans (Step.alloc _ _)
  have HW1 := Lib.hid hW1
  clear hW1 HT
  go_upto_region 2 with (fail)
  rw [← HW1.out]
  generalize wn.heap.size = g1 at *
  have HS := Lib.hid hst
  have HT := Lib.hid (Step.refl W1)
  clear hst HW1
  go_wp2_with fail
  refine (soil_any _).mono ?_
  rintro e wn ⟨v1, rfl, hv1, hSn⟩
  have HV1 := Lib.hid (SL.go hv1 (Step.refl _))
  have HTi := Lib.hid (HT.out.trans hSn)
  clear hSn HT hv1
  have HT := HTi
  clear HTi
  have hv1 := HV1.out
  clear HV1
  go_wp2_with fail
  refine (Deep_ok _ soilL 0 900 _ _ hv1 four_tests four_sound (by decide) (by decide)).mono ?_
  rintro e wn ⟨rfl, hSn⟩
  have HTi := Lib.hid (HT.out.trans hSn)
  clear hSn HT
  have HT := HTi
  clear HTi
  rw [nm_deep]
  clear hv1
  go_wp2_with fail
  refine (soil_own _).mono ?_
  rintro e w3 ⟨v1, rfl, hown, hS3⟩
  have hB0 := (Below.refl wn.heap.size wn).step (Nat.le_refl _) (hS3.trans (Step.alloc w3 (.cells #[.int .i64 0, .int .i64 400, .int .i64 320, .bool false] 111)))
  have hbz := hB0.size
  obtain ⟨po, co, rfl, _⟩ := hown.form
  have hown4 := hown.alloc (.cells #[.int .i64 0, .int .i64 400, .int .i64 320, .bool false] 111)
  have hu := SLe.one (S := avoid (fun _ => False) (.slice po soilL.length co)) (w := w3) (cs := [.int .i64 0, .int .i64 400, .int .i64 320, .bool false]) (x := (⟨0, 400, 320, false⟩ : Tst)) 111 rfl
  clear hown hS3
  go_wp2_with (at_builtin; refine wpl_append (α := Tst) (S := fun _ => False) (base := wn.heap.size) (v := .slice po soilL.length co) (l := soilL) (m := [⟨0, 400, 320, false⟩]) eiTests rfl _ _ rfl rfl rfl hown4 hu 3 (by decide) badL rfl (by decide) (by decide) hbz ?_)
  intro p' c' w5 hown5 hg
  have hB5 := Step.of (hB0.grown hg hbz (fun j hj => (hown4.lt j hj).1))
  have hbad := hown5.sl (fun _ _ _ h => h)
  obtain ⟨wb, hwb⟩ : ∃ W, W = w5 := ⟨_, rfl⟩
  subst hwb
  have HB := Lib.hid (HB1.out.step (HT.out.trans hB5))
  have HS3 := Lib.hid (HS.out.trans (HT.out.trans hB5))
  have HBAD := Lib.hid hbad
  clear hown4 hu hown5 hg hB5 hbad hB0 hbz HT HS HB1
  have HS := HS3
  have HT := Lib.hid (Step.refl wb)
  clear HS3
  go_upto_region 4 with (fail)
  go_wp2_with fail
  refine (ClashP_any _ badL _ _ (SL.go HBAD.out HT.out)).mono ?_
  rintro e wn ⟨rfl, hSn⟩
  have HTi := Lib.hid (HT.out.trans hSn)
  clear hSn HT
  have HT := HTi
  clear HTi
  rw [nm_bad.2.2.1, nm_bad.2.2.2]
  go_upto_region 5 with (fail)
  go_wp2_with fail
  refine (four_any _).mono ?_
  rintro e wm ⟨v2, rfl, hv2, hSn⟩
  have hv2 := SL.go hv2 (Step.refl _)
  have HTi := Lib.hid (HT.out.trans hSn)
  clear hSn HT
  have HT := HTi
  clear HTi
  go_wp2_with fail
  refine (Overloaded_any _ fourL _ _ hv2).mono ?_
  rintro e wn ⟨vo, rfl, hvo, hSn⟩
  rw [four_tent]
  rw [nm_over] at hvo
  have hvo := SL.go hvo (Step.refl _)
  obtain ⟨po, co, rfl⟩ := hvo.form
  have HVO := Lib.hid hvo
  have HTi := Lib.hid (HT.out.trans hSn)
  clear hSn HT hvo hv2
  have HT := HTi
  clear HTi
  have y0 := (HB.out.step HT.out).cell 0
  have y1 := (HB.out.step HT.out).cell 1
  simp only [List.getElem?_cons_zero, List.getElem?_cons_succ] at y0 y1
  go_wp2_with fail
  refine (ints_any (fun _ => False) [0] [0] _ _ _ (SL.go HVO.out (Step.alloc _ _)) (SL.one (α := Int) 3 rfl (by simp))).mono ?_
  rintro e wm ⟨rfl, hSn⟩
  rw [show intsB [0] [0] = true by decide]
  have HTi := Lib.hid (HT.out.trans ((Step.alloc _ _).trans hSn))
  clear hSn HT y0 y1 HVO
  have HT := HTi
  clear HTi
  go_upto_region 8 with (fail)
  go_wp2_with fail
  refine (soil_any _).mono ?_
  rintro e wn ⟨v1, rfl, hv1, hSn⟩
  have HV1 := Lib.hid (SL.go hv1 (Step.refl _))
  have HTi := Lib.hid (HT.out.trans hSn)
  clear hSn HT hv1
  have HT := HTi
  clear HTi
  go_wp2_with fail
  refine (four_any _).mono ?_
  rintro e wm ⟨v2, rfl, hv2, hSn⟩
  have hv1 := SL.go HV1.out hSn
  have hv2 := SL.go hv2 (Step.refl _)
  have HTi := Lib.hid (HT.out.trans hSn)
  clear hSn HT HV1
  have HT := HTi
  clear HTi
  go_wp2_with fail
  refine (Balanced_any (fun _ => False) soilL fourL 0 ⟨600, 0⟩ _ _ _ hv1 hv2).mono ?_
  rintro e wn ⟨vb, rfl, _, hSn⟩
  rw [nm_bal600]
  have HTn := Lib.hid (HT.out.trans hSn)
  clear hSn HT
  have HT := HTn
  clear HTn
  clear hv1 hv2
  go_upto_region 9 with (fail)
  go_wp2_with fail
  refine (soil_any _).mono ?_
  rintro e wn ⟨v1, rfl, hv1, hSn⟩
  have HV1 := Lib.hid (SL.go hv1 (Step.refl _))
  have HTi := Lib.hid (HT.out.trans hSn)
  clear hSn HT hv1
  have HT := HTi
  clear HTi
  go_wp2_with fail
  refine (four_any _).mono ?_
  rintro e wm ⟨v2, rfl, hv2, hSn⟩
  have hv1 := SL.go HV1.out hSn
  have hv2 := SL.go hv2 (Step.refl _)
  have HTi := Lib.hid (HT.out.trans hSn)
  clear hSn HT HV1
  have HT := HTi
  clear HTi
  go_wp2_with fail
  refine (Reach_any (fun _ => False) soilL fourL 0 ⟨1, 0⟩ _ _ _ hv1 hv2).mono ?_
  rintro e wn ⟨kr, rfl, hk, _, hSn⟩
  obtain rfl := nm_reach_is hk
  rw [show wayB ⟨1, 0⟩ = true by decide, wk_at]
  have HTn := Lib.hid (HT.out.trans hSn)
  clear hSn HT
  have HT := HTn
  clear HTn
  clear hv1 hv2 hk
  go_upto_region 10 with (fail)
  go_wp2_with fail
  refine (soil_any _).mono ?_
  rintro e wn ⟨v1, rfl, hv1, hSn⟩
  have HV1 := Lib.hid (SL.go hv1 (Step.refl _))
  have HTi := Lib.hid (HT.out.trans hSn)
  clear hSn HT hv1
  have HT := HTi
  clear HTi
  go_wp2_with fail
  refine (four_any _).mono ?_
  rintro e wm ⟨v2, rfl, hv2, hSn⟩
  have hv1 := SL.go HV1.out hSn
  have hv2 := SL.go hv2 (Step.refl _)
  have HTi := Lib.hid (HT.out.trans hSn)
  clear hSn HT HV1
  have HT := HTi
  clear HTi
  go_wp2_with fail
  refine (Spares_any soilL fourL windS _ _ _ _ (SL.go hv1 (Step.alloc _ _)) (SL.go hv2 (Step.alloc _ _)) (vec_lit2 100 0 0 100 _) small_four).mono ?_
  rintro e wn ⟨vs, rfl, hsp, _, hSn⟩
  have hsp := hsp nm_spareC
  rw [nm_spareC]
  rw [nm_spares] at hsp
  obtain ⟨ps, cs, rfl⟩ := hsp.form
  have HSP := Lib.hid (SL.go hsp (Step.refl _))
  have HTi := Lib.hid (HT.out.trans ((Step.alloc _ _).trans hSn))
  clear hSn HT hv1 hv2 hsp
  have HT := HTi
  clear HTi
  obtain ⟨wc, hwc⟩ : ∃ W, W = wn := ⟨_, rfl⟩
  subst hwc
  have HB2 := Lib.hid (HBAD.out.keep (.of_step HT.out))
  have HS2 := Lib.hid (HS.out.trans HT.out)
  clear HBAD HS HT HB
  have HBAD := HB2
  have HS := HS2
  have HT := Lib.hid (Step.refl wc)
  clear HB2 HS2
  go_upto_region 11 with (fail)
  go_wp2_with fail
  refine (soil_any _).mono ?_
  rintro e wn ⟨v1, rfl, hv1, hSn⟩
  have HV1 := Lib.hid (SL.go hv1 (Step.refl _))
  have HTi := Lib.hid (HT.out.trans hSn)
  clear hSn HT hv1
  have HT := HTi
  clear HTi
  go_wp2_with fail
  refine (four_any _).mono ?_
  rintro e wm ⟨v2, rfl, hv2, hSn⟩
  have hv1 := SL.go HV1.out hSn
  have hv2 := SL.go hv2 (Step.refl _)
  have HTi := Lib.hid (HT.out.trans hSn)
  clear hSn HT HV1
  have HT := HTi
  clear HTi
  go_wp2_with fail
  refine (Weakest_any (fun _ => False) soilL fourL windW _ _ _ _ (SL.go hv1 (Step.alloc _ _)) (SL.go hv2 (Step.alloc _ _)) (vec_lit2 100 0 500 600 _)).mono ?_
  rintro e wn ⟨a, b, rfl, _, htw, hSn⟩
  obtain ⟨_, htw⟩ := htw nm_blownW
  rw [nm_blownW, show weakR soilL fourL windW = (0, 1) by unfold weakR; rw [nm_blownW, if_pos rfl, nm_weakP]]
  rw [nm_weakP] at htw
  have HTW := Lib.hid (nm_pw0 htw)
  have HTi := Lib.hid (HT.out.trans ((Step.alloc _ _).trans hSn))
  clear hSn HT hv1 hv2 htw
  have HT := HTi
  clear HTi
  obtain ⟨W1, hW1⟩ : ∃ W, W = wn.alloc (.cells #[.int .i64 a, .int .i64 b] 40) := ⟨_, rfl⟩
  have HBW := Lib.hid (show Bx W1 wn.heap.size [.int .i64 a, .int .i64 b] 40 by rw [hW1]; exact Bx.new wn [_, _] _)
  have hst : Step wc W1 := by rw [hW1]; exact HT.out.trans (Step.alloc _ _)
  have HW1 := Lib.hid hW1
  clear hW1 HT
  go_upto_region 12 with (fail)
  rw [← HW1.out]
  generalize wn.heap.size = g2 at *
  have HS3 := Lib.hid (HS.out.trans hst)
  have HB3 := Lib.hid (HBAD.out.keep (.of_step hst))
  have HSP3 := Lib.hid (HSP.out.keep (.of_step hst))
  clear HS HBAD HSP hst HW1
  have HS := HS3
  have HBAD := HB3
  have HSP := HSP3
  clear HS3 HB3 HSP3
  have HT := Lib.hid (Step.refl W1)
  refine wp_region_seq (kdOf [18, 19, 35, 36, 39, 43, 44, 47, 51, 52, 55] []) (0 :: 1 :: 3 :: 7 :: 15 :: 31 :: 63 :: 127 :: 255 :: 511 :: 1023 :: 2047 :: 4095 :: 8191 :: 16383 :: 32767 :: 32767 :: 32767 :: 229375 :: 524287 :: 1048575 :: 2097151 :: 4194303 :: 8388607 :: 16777215 :: 33554431 :: 67108863 :: 134217727 :: 268435455 :: 536870911 :: 1073741823 :: 2147483647 :: 4294967295 :: 8589934591 :: 17179869183 :: 34359738367 :: 68719476735 :: 34359738367 :: 34359738367 :: 549755813887 :: 1099511627775 :: 2199023255551 :: 4398046511103 :: 8796093022207 :: 17592186044415 :: 8796093022207 :: 8796093022207 :: 140737488355327 :: 281474976710655 :: 562949953421311 :: 1125899906842623 :: 2251799813685247 :: 4503599627370495 :: 2251799813685247 :: 2251799813685247 :: 36028797018963967 :: 72057594037927935 :: []) (0 :: 1 :: 2 :: 3 :: 4 :: 5 :: 6 :: 7 :: 8 :: 9 :: 10 :: 11 :: 12 :: 13 :: 14 :: 15 :: 16 :: 17 :: 18 :: 19 :: 20 :: 21 :: 22 :: 23 :: 24 :: 25 :: 26 :: 27 :: 28 :: 29 :: 30 :: 31 :: 32 :: 33 :: 34 :: 37 :: 38 :: 35 :: 36 :: 39 :: 40 :: 41 :: 42 :: 45 :: 46 :: 43 :: 44 :: 47 :: 48 :: 49 :: 50 :: 53 :: 54 :: 51 :: 52 :: 55 :: 56 :: []) [] (by kernel_rfl) (by kernel_rfl) (fun i T z hi hk => by simp [kdOf] at hk <;> (try (split at hk <;> cases hk))) ?_
  intro Wx hWx
  have HTx := Lib.hid (HT.out.trans hWx)
  clear hWx HT
  have HT := HTx
  clear HTx
  have m0 := (HBW.out.step HT.out).cell 0
  have m1 := (HBW.out.step HT.out).cell 1
  simp only [List.getElem?_cons_zero, List.getElem?_cons_succ] at m0 m1
  repeat (first | (refine run_off rfl rfl (by rfl) ?_; (try simp only [Act.put, List.setIfInBounds_toArray, List.set_cons_zero, List.set_cons_succ])) | (refine run_chain_off rfl rfl (by rfl) (K0_mono _) ?_; (try simp only [Act.put, List.setIfInBounds_toArray, List.set_cons_zero, List.set_cons_succ])) | ((refine run_want rfl rfl (by rfl) ⟨?_, fun W hW => ?_, ?_⟩; rotate_left; (· (have d0 := hW.keeps.cell id m0; have d1 := hW.keeps.cell id m1; go_simp; (try with_reducible rfl)))); (try simp only [Act.put, List.setIfInBounds_toArray, List.set_cons_zero, List.set_cons_succ])))
  clear m0 m1
  refine run_chain rfl rfl (by rfl) (fun Wi hWi K' hK => ?_)
  have HTi := Lib.hid (HT.out.trans hWi)
  clear hWi HT
  go_simp
  refine hK _ _ (StepX.of (Step.alloc _ _)) ?_
  (try simp only [Act.put, List.setIfInBounds_toArray, List.set_cons_zero, List.set_cons_succ])
  have HLI := Lib.hid (vec_lit2 (T := 102) 0 0 0 1 Wi)
  have HT := Lib.hid (HTi.out.trans (Step.alloc Wi (.cells #[.int .i64 0, .int .i64 0, .int .i64 0, .int .i64 1] 102)))
  obtain ⟨gl, hgl⟩ : ∃ g, g = Wi.heap.size := ⟨_, rfl⟩
  rw [← hgl] at HLI ⊢
  clear hgl HTi hK
  generalize Wi.alloc (.cells #[.int .i64 0, .int .i64 0, .int .i64 0, .int .i64 1] 102) = WA at *
  have m0 := (HBW.out.step HT.out).cell 0
  have m1 := (HBW.out.step HT.out).cell 1
  simp only [List.getElem?_cons_zero, List.getElem?_cons_succ] at m0 m1
  repeat (first | (refine run_off rfl rfl (by rfl) ?_; (try simp only [Act.put, List.setIfInBounds_toArray, List.set_cons_zero, List.set_cons_succ])) | (refine run_chain_off rfl rfl (by rfl) (K0_mono _) ?_; (try simp only [Act.put, List.setIfInBounds_toArray, List.set_cons_zero, List.set_cons_succ])) | ((refine run_want rfl rfl (by rfl) ⟨?_, fun W hW => ?_, ?_⟩; rotate_left; (· (have d0 := hW.keeps.cell id m0; have d1 := hW.keeps.cell id m1; go_simp; (try with_reducible rfl)))); (try simp only [Act.put, List.setIfInBounds_toArray, List.set_cons_zero, List.set_cons_succ])))
  clear m0 m1
  refine run_chain rfl rfl (by rfl) (fun Wi hWi K' hK => ?_)
  have HTi := Lib.hid (HT.out.trans hWi)
  have hl1 := SL.go HSP.out HTi.out
  have hl2 := SL.go HLI.out hWi
  clear hWi HT HLI
  go_simp
  refine (pairs_any (fun _ => False) [⟨0, 0⟩, ⟨0, 1⟩] [⟨0, 0⟩, ⟨0, 1⟩] _ _ _ hl1 hl2).mono ?_
  rintro e wn ⟨rfl, hSn⟩
  rw [show pairsB [⟨0, 0⟩, ⟨0, 1⟩] [⟨0, 0⟩, ⟨0, 1⟩] = true by decide]
  have HT := Lib.hid (HTi.out.trans (StepX.of hSn))
  clear HTi hl1 hl2
  refine hK _ _ (StepX.of hSn) ?_
  clear hSn
  (try simp only [Act.put, List.setIfInBounds_toArray, List.set_cons_zero, List.set_cons_succ])
  have m0 := (HBW.out.step HT.out).cell 0
  have m1 := (HBW.out.step HT.out).cell 1
  simp only [List.getElem?_cons_zero, List.getElem?_cons_succ] at m0 m1
  repeat (first | (refine run_off rfl rfl (by rfl) ?_; (try simp only [Act.put, List.setIfInBounds_toArray, List.set_cons_zero, List.set_cons_succ])) | (refine run_chain_off rfl rfl (by rfl) (K0_mono _) ?_; (try simp only [Act.put, List.setIfInBounds_toArray, List.set_cons_zero, List.set_cons_succ])) | ((refine run_want rfl rfl (by rfl) ⟨?_, fun W hW => ?_, ?_⟩; rotate_left; (· (have d0 := hW.keeps.cell id m0; have d1 := hW.keeps.cell id m1; go_simp; (try with_reducible rfl)))); (try simp only [Act.put, List.setIfInBounds_toArray, List.set_cons_zero, List.set_cons_succ])))
  clear m0 m1
  refine run_chain rfl rfl (by rfl) (fun Wi hWi K' hK => ?_)
  have HTi := Lib.hid (HT.out.trans hWi)
  have HZW := Lib.hid HTi.out.size
  clear hWi HT
  go_simp
  refine (soil_any _).mono ?_
  rintro e wn ⟨v1, rfl, hv1, hSn⟩
  have HT := Lib.hid (HTi.out.trans (StepX.of hSn))
  clear HTi
  have HV1 := Lib.hid (SL.go hv1 (Step.refl _))
  clear hv1
  refine hK _ _ (StepX.of hSn) ?_
  clear hSn
  (try simp only [Act.put, List.setIfInBounds_toArray, List.set_cons_zero, List.set_cons_succ])
  have m0 := (HBW.out.step HT.out).cell 0
  have m1 := (HBW.out.step HT.out).cell 1
  simp only [List.getElem?_cons_zero, List.getElem?_cons_succ] at m0 m1
  repeat (first | (refine run_off rfl rfl (by rfl) ?_; (try simp only [Act.put, List.setIfInBounds_toArray, List.set_cons_zero, List.set_cons_succ])) | (refine run_chain_off rfl rfl (by rfl) (K0_mono _) ?_; (try simp only [Act.put, List.setIfInBounds_toArray, List.set_cons_zero, List.set_cons_succ])) | ((refine run_want rfl rfl (by rfl) ⟨?_, fun W hW => ?_, ?_⟩; rotate_left; (· (have d0 := hW.keeps.cell id m0; have d1 := hW.keeps.cell id m1; go_simp; (try with_reducible rfl)))); (try simp only [Act.put, List.setIfInBounds_toArray, List.set_cons_zero, List.set_cons_succ])))
  clear m0 m1
  refine run_chain rfl rfl (by rfl) (fun Wi hWi K' hK => ?_)
  have HTi := Lib.hid (HT.out.trans hWi)
  have HV1i := Lib.hid (SL.go HV1.out hWi)
  clear hWi HT HV1
  go_simp
  refine (four_any _).mono ?_
  rintro e wn ⟨v2, rfl, hv2, hSn⟩
  have HT := Lib.hid (HTi.out.trans (StepX.of hSn))
  have HV1 := Lib.hid (SL.go HV1i.out hSn)
  have HV2 := Lib.hid (SL.go hv2 (Step.refl _))
  clear HTi HV1i hv2
  refine hK _ _ (StepX.of hSn) ?_
  clear hSn
  (try simp only [Act.put, List.setIfInBounds_toArray, List.set_cons_zero, List.set_cons_succ])
  have m0 := (HBW.out.step HT.out).cell 0
  have m1 := (HBW.out.step HT.out).cell 1
  simp only [List.getElem?_cons_zero, List.getElem?_cons_succ] at m0 m1
  repeat (first | (refine run_off rfl rfl (by rfl) ?_; (try simp only [Act.put, List.setIfInBounds_toArray, List.set_cons_zero, List.set_cons_succ])) | (refine run_chain_off rfl rfl (by rfl) (K0_mono _) ?_; (try simp only [Act.put, List.setIfInBounds_toArray, List.set_cons_zero, List.set_cons_succ])) | ((refine run_want rfl rfl (by rfl) ⟨?_, fun W hW => ?_, ?_⟩; rotate_left; (· (have d0 := hW.keeps.cell id m0; have d1 := hW.keeps.cell id m1; go_simp; (try with_reducible rfl)))); (try simp only [Act.put, List.setIfInBounds_toArray, List.set_cons_zero, List.set_cons_succ])))
  clear m0 m1
  refine run_chain rfl rfl (by rfl) (fun Wi hWi K' hK => ?_)
  have HTi := Lib.hid (HT.out.trans hWi)
  have hv1 := SL.go HV1.out hWi
  have hv2 := SL.go HV2.out hWi
  clear hWi HT HV1 HV2
  go_simp
  refine (ProveWeak_any (fun _ => False) soilL fourL 0 ⟨500, 600⟩ ⟨a, b⟩ _ _ _ hv1 hv2).mono ?_
  rintro e wn ⟨rfl, hSn⟩
  rw [HTW.out]
  have HT := Lib.hid (HTi.out.trans (StepX.of hSn))
  clear HTi hv1 hv2
  refine hK _ _ (StepX.of hSn) ?_
  clear hSn
  (try simp only [Act.put, List.setIfInBounds_toArray, List.set_cons_zero, List.set_cons_succ])
  have m0 := (HBW.out.step HT.out).cell 0
  have m1 := (HBW.out.step HT.out).cell 1
  simp only [List.getElem?_cons_zero, List.getElem?_cons_succ] at m0 m1
  repeat (first | (refine run_off rfl rfl (by rfl) ?_; (try simp only [Act.put, List.setIfInBounds_toArray, List.set_cons_zero, List.set_cons_succ])) | (refine run_chain_off rfl rfl (by rfl) (K0_mono _) ?_; (try simp only [Act.put, List.setIfInBounds_toArray, List.set_cons_zero, List.set_cons_succ])) | ((refine run_want rfl rfl (by rfl) ⟨?_, fun W hW => ?_, ?_⟩; rotate_left; (· (have d0 := hW.keeps.cell id m0; have d1 := hW.keeps.cell id m1; go_simp; (try with_reducible rfl)))); (try simp only [Act.put, List.setIfInBounds_toArray, List.set_cons_zero, List.set_cons_succ])))
  clear m0 m1
  refine run_chain rfl rfl (by rfl) (fun Wi hWi K' hK => ?_)
  have HTi := Lib.hid (HT.out.trans hWi)
  have HZW := Lib.hid HTi.out.size
  clear hWi HT
  go_simp
  refine (soil_any _).mono ?_
  rintro e wn ⟨v1, rfl, hv1, hSn⟩
  have HT := Lib.hid (HTi.out.trans (StepX.of hSn))
  clear HTi
  have HV1 := Lib.hid (SL.go hv1 (Step.refl _))
  clear hv1
  refine hK _ _ (StepX.of hSn) ?_
  clear hSn
  (try simp only [Act.put, List.setIfInBounds_toArray, List.set_cons_zero, List.set_cons_succ])
  have m0 := (HBW.out.step HT.out).cell 0
  have m1 := (HBW.out.step HT.out).cell 1
  simp only [List.getElem?_cons_zero, List.getElem?_cons_succ] at m0 m1
  repeat (first | (refine run_off rfl rfl (by rfl) ?_; (try simp only [Act.put, List.setIfInBounds_toArray, List.set_cons_zero, List.set_cons_succ])) | (refine run_chain_off rfl rfl (by rfl) (K0_mono _) ?_; (try simp only [Act.put, List.setIfInBounds_toArray, List.set_cons_zero, List.set_cons_succ])) | ((refine run_want rfl rfl (by rfl) ⟨?_, fun W hW => ?_, ?_⟩; rotate_left; (· (have d0 := hW.keeps.cell id m0; have d1 := hW.keeps.cell id m1; go_simp; (try with_reducible rfl)))); (try simp only [Act.put, List.setIfInBounds_toArray, List.set_cons_zero, List.set_cons_succ])))
  clear m0 m1
  refine run_chain rfl rfl (by rfl) (fun Wi hWi K' hK => ?_)
  have HTi := Lib.hid (HT.out.trans hWi)
  have HV1i := Lib.hid (SL.go HV1.out hWi)
  clear hWi HT HV1
  go_simp
  refine (four_any _).mono ?_
  rintro e wn ⟨v2, rfl, hv2, hSn⟩
  have HT := Lib.hid (HTi.out.trans (StepX.of hSn))
  have HV1 := Lib.hid (SL.go HV1i.out hSn)
  have HV2 := Lib.hid (SL.go hv2 (Step.refl _))
  clear HTi HV1i hv2
  refine hK _ _ (StepX.of hSn) ?_
  clear hSn
  (try simp only [Act.put, List.setIfInBounds_toArray, List.set_cons_zero, List.set_cons_succ])
  have m0 := (HBW.out.step HT.out).cell 0
  have m1 := (HBW.out.step HT.out).cell 1
  simp only [List.getElem?_cons_zero, List.getElem?_cons_succ] at m0 m1
  repeat (first | (refine run_off rfl rfl (by rfl) ?_; (try simp only [Act.put, List.setIfInBounds_toArray, List.set_cons_zero, List.set_cons_succ])) | (refine run_chain_off rfl rfl (by rfl) (K0_mono _) ?_; (try simp only [Act.put, List.setIfInBounds_toArray, List.set_cons_zero, List.set_cons_succ])) | ((refine run_want rfl rfl (by rfl) ⟨?_, fun W hW => ?_, ?_⟩; rotate_left; (· (have d0 := hW.keeps.cell id m0; have d1 := hW.keeps.cell id m1; go_simp; (try with_reducible rfl)))); (try simp only [Act.put, List.setIfInBounds_toArray, List.set_cons_zero, List.set_cons_succ])))
  clear m0 m1
  refine run_chain rfl rfl (by rfl) (fun Wi hWi K' hK => ?_)
  have HTi := Lib.hid (HT.out.trans hWi)
  have hv1 := SL.go HV1.out hWi
  have hv2 := SL.go HV2.out hWi
  clear hWi HT HV1 HV2
  go_simp
  refine (ProveWeak_any (fun _ => False) soilL fourL 0 ⟨600, 0⟩ ⟨1, 0⟩ _ _ _ hv1 hv2).mono ?_
  rintro e wn ⟨rfl, hSn⟩
  rw [nm_pw1]
  have HT := Lib.hid (HTi.out.trans (StepX.of hSn))
  clear HTi hv1 hv2
  refine hK _ _ (StepX.of hSn) ?_
  clear hSn
  (try simp only [Act.put, List.setIfInBounds_toArray, List.set_cons_zero, List.set_cons_succ])
  have m0 := (HBW.out.step HT.out).cell 0
  have m1 := (HBW.out.step HT.out).cell 1
  simp only [List.getElem?_cons_zero, List.getElem?_cons_succ] at m0 m1
  repeat (first | (refine run_off rfl rfl (by rfl) ?_; (try simp only [Act.put, List.setIfInBounds_toArray, List.set_cons_zero, List.set_cons_succ])) | (refine run_chain_off rfl rfl (by rfl) (K0_mono _) ?_; (try simp only [Act.put, List.setIfInBounds_toArray, List.set_cons_zero, List.set_cons_succ])) | ((refine run_want rfl rfl (by rfl) ⟨?_, fun W hW => ?_, ?_⟩; rotate_left; (· (have d0 := hW.keeps.cell id m0; have d1 := hW.keeps.cell id m1; go_simp; (try with_reducible rfl)))); (try simp only [Act.put, List.setIfInBounds_toArray, List.set_cons_zero, List.set_cons_succ])))
  clear m0 m1
  refine run_chain rfl rfl (by rfl) (fun Wi hWi K' hK => ?_)
  have HTi := Lib.hid (HT.out.trans hWi)
  have HZW := Lib.hid HTi.out.size
  clear hWi HT
  go_simp
  refine (soil_any _).mono ?_
  rintro e wn ⟨v1, rfl, hv1, hSn⟩
  have HT := Lib.hid (HTi.out.trans (StepX.of hSn))
  clear HTi
  have HV1 := Lib.hid (SL.go hv1 (Step.refl _))
  clear hv1
  refine hK _ _ (StepX.of hSn) ?_
  clear hSn
  (try simp only [Act.put, List.setIfInBounds_toArray, List.set_cons_zero, List.set_cons_succ])
  have m0 := (HBW.out.step HT.out).cell 0
  have m1 := (HBW.out.step HT.out).cell 1
  simp only [List.getElem?_cons_zero, List.getElem?_cons_succ] at m0 m1
  repeat (first | (refine run_off rfl rfl (by rfl) ?_; (try simp only [Act.put, List.setIfInBounds_toArray, List.set_cons_zero, List.set_cons_succ])) | (refine run_chain_off rfl rfl (by rfl) (K0_mono _) ?_; (try simp only [Act.put, List.setIfInBounds_toArray, List.set_cons_zero, List.set_cons_succ])) | ((refine run_want rfl rfl (by rfl) ⟨?_, fun W hW => ?_, ?_⟩; rotate_left; (· (have d0 := hW.keeps.cell id m0; have d1 := hW.keeps.cell id m1; go_simp; (try with_reducible rfl)))); (try simp only [Act.put, List.setIfInBounds_toArray, List.set_cons_zero, List.set_cons_succ])))
  clear m0 m1
  refine run_chain rfl rfl (by rfl) (fun Wi hWi K' hK => ?_)
  have HTi := Lib.hid (HT.out.trans hWi)
  have HV1i := Lib.hid (SL.go HV1.out hWi)
  clear hWi HT HV1
  go_simp
  refine (four_any _).mono ?_
  rintro e wn ⟨v2, rfl, hv2, hSn⟩
  have HT := Lib.hid (HTi.out.trans (StepX.of hSn))
  have HV1 := Lib.hid (SL.go HV1i.out hSn)
  have HV2 := Lib.hid (SL.go hv2 (Step.refl _))
  clear HTi HV1i hv2
  refine hK _ _ (StepX.of hSn) ?_
  clear hSn
  (try simp only [Act.put, List.setIfInBounds_toArray, List.set_cons_zero, List.set_cons_succ])
  have m0 := (HBW.out.step HT.out).cell 0
  have m1 := (HBW.out.step HT.out).cell 1
  simp only [List.getElem?_cons_zero, List.getElem?_cons_succ] at m0 m1
  repeat (first | (refine run_off rfl rfl (by rfl) ?_; (try simp only [Act.put, List.setIfInBounds_toArray, List.set_cons_zero, List.set_cons_succ])) | (refine run_chain_off rfl rfl (by rfl) (K0_mono _) ?_; (try simp only [Act.put, List.setIfInBounds_toArray, List.set_cons_zero, List.set_cons_succ])) | ((refine run_want rfl rfl (by rfl) ⟨?_, fun W hW => ?_, ?_⟩; rotate_left; (· (have d0 := hW.keeps.cell id m0; have d1 := hW.keeps.cell id m1; go_simp; (try with_reducible rfl)))); (try simp only [Act.put, List.setIfInBounds_toArray, List.set_cons_zero, List.set_cons_succ])))
  clear m0 m1
  refine run_chain rfl rfl (by rfl) (fun Wi hWi K' hK => ?_)
  have HTi := Lib.hid (HT.out.trans hWi)
  have hv1 := SL.go HV1.out hWi
  have hv2 := SL.go HV2.out hWi
  clear hWi HT HV1 HV2
  go_simp
  refine (ProveWeak_any (fun _ => False) soilL fourL 0 ⟨560, 0⟩ ⟨1, 0⟩ _ _ _ hv1 hv2).mono ?_
  rintro e wn ⟨rfl, hSn⟩
  rw [nm_pw2]
  have HT := Lib.hid (HTi.out.trans (StepX.of hSn))
  clear HTi hv1 hv2
  refine hK _ _ (StepX.of hSn) ?_
  clear hSn
  (try simp only [Act.put, List.setIfInBounds_toArray, List.set_cons_zero, List.set_cons_succ])
  have m0 := (HBW.out.step HT.out).cell 0
  have m1 := (HBW.out.step HT.out).cell 1
  simp only [List.getElem?_cons_zero, List.getElem?_cons_succ] at m0 m1
  repeat (first | (refine run_off rfl rfl (by rfl) ?_; (try simp only [Act.put, List.setIfInBounds_toArray, List.set_cons_zero, List.set_cons_succ])) | (refine run_chain_off rfl rfl (by rfl) (K0_mono _) ?_; (try simp only [Act.put, List.setIfInBounds_toArray, List.set_cons_zero, List.set_cons_succ])) | ((refine run_want rfl rfl (by rfl) ⟨?_, fun W hW => ?_, ?_⟩; rotate_left; (· (have d0 := hW.keeps.cell id m0; have d1 := hW.keeps.cell id m1; go_simp; (try with_reducible rfl)))); (try simp only [Act.put, List.setIfInBounds_toArray, List.set_cons_zero, List.set_cons_succ])))
  clear m0 m1
  refine run_end (L := []) rfl (fun W6 hW6 => ?_)
  have HT6 := Lib.hid (HT.out.trans hW6)
  clear hW6 HT
  have HT := HT6
  clear HT6
  go_upto_region 14 with (fail)
  obtain ⟨W2, hW2⟩ : ∃ W, W = W6.alloc (.cells #[.int .i64 (-300), .int .i64 100] 40) := ⟨_, rfl⟩
  have HBX := Lib.hid (show Bx W2 W6.heap.size [.int .i64 (-300), .int .i64 100] 40 by rw [hW2]; exact Bx.new W6 [_, _] _)
  have hst : Step W1 W2 := by rw [hW2]; exact HT.out.trans (Step.alloc _ _)
  have HW2 := Lib.hid hW2
  clear hW2 HT
  go_upto_region 15 with (fail)
  rw [← HW2.out]
  generalize W6.heap.size = g3 at *
  have HS3 := Lib.hid (HS.out.trans hst)
  have HB3 := Lib.hid (HBAD.out.keep (.of_step hst))
  clear HS HBAD HSP HBW hst HW2 HTW
  have HS := HS3
  have HBAD := HB3
  clear HS3 HB3
  have HT := Lib.hid (Step.refl W2)
  refine Mk.wp_region_seq (Mk.kdP [4, 12, 20] (Mk.kdOf [0, 1, 5, 8, 9, 13, 16, 17, 21] [] [(3, 3, 4, #[.int .i64 30, .int .i64 0, .int .i64 0, .int .i64 10]), (11, 3, 4, #[.int .i64 30, .int .i64 0, .int .i64 0, .int .i64 11]), (19, 3, 3, #[.int .i64 30, .int .i64 0, .int .i64 0])])) [0, 1, 0, 0, 8, 31, 63, 127, 255, 511, 255, 255, 2303, 8191, 16383, 32767, 65535, 131071, 65535, 65535, 589823, 2097151, 4194303] [2, 0, 1, 3, 4, 5, 6, 7, 10, 8, 9, 11, 12, 13, 14, 15, 18, 16, 17, 19, 20, 21, 22] [] (by kernel_rfl) (by kernel_rfl) (fun i T z hi hk => by simp only [List.mem_cons, List.not_mem_nil, or_false] at hi; rcases hi with rfl | rfl | rfl | rfl | rfl | rfl | rfl | rfl | rfl | rfl | rfl | rfl | rfl | rfl | rfl | rfl | rfl | rfl | rfl | rfl | rfl | rfl | rfl <;> simp [Mk.kdP, Mk.kdOf] at hk) ?_
  intro Wx hWx
  have HTx := Lib.hid (HT.out.trans hWx)
  clear hWx HT
  have HT := HTx
  clear HTx
  have m0 := (HBX.out.step HT.out).cell 0
  have m1 := (HBX.out.step HT.out).cell 1
  simp only [List.getElem?_cons_zero, List.getElem?_cons_succ] at m0 m1
  repeat (first | (refine Mk.run_off rfl rfl (by rfl) ?_; (try simp only [Act.put, List.setIfInBounds_toArray, List.set_cons_zero, List.set_cons_succ])) | (refine Mk.run_chain_off rfl rfl (by rfl) (Mk.K0_mono _) ?_; (try simp only [Act.put, List.setIfInBounds_toArray, List.set_cons_zero, List.set_cons_succ])) | ((refine Mk.run_want rfl rfl (by rfl) ⟨?_, fun W hW => ?_, ?_⟩; rotate_left; (· (have d0 := hW.keeps.cell id m0; have d1 := hW.keeps.cell id m1; go_simp; (try with_reducible rfl)))); (try simp only [Act.put, List.setIfInBounds_toArray, List.set_cons_zero, List.set_cons_succ])))
  clear m0 m1
  refine Mk.run_chain rfl rfl (by rfl) (fun Wi hWi K' hK => ?_)
  have HTi := Lib.hid (HT.out.trans hWi)
  have HZW := Lib.hid HTi.out.size
  clear hWi HT
  go_simp
  refine (soil_any _).mono ?_
  rintro e wn ⟨v1, rfl, hv1, hSn⟩
  have HT := Lib.hid (HTi.out.trans (StepX.of hSn))
  clear HTi
  have HV1 := Lib.hid (SL.go hv1 (Step.refl _))
  clear hv1
  refine hK _ _ (StepX.of hSn) ?_
  clear hSn
  (try simp only [Act.put, List.setIfInBounds_toArray, List.set_cons_zero, List.set_cons_succ])
  have m0 := (HBX.out.step HT.out).cell 0
  have m1 := (HBX.out.step HT.out).cell 1
  simp only [List.getElem?_cons_zero, List.getElem?_cons_succ] at m0 m1
  repeat (first | (refine Mk.run_off rfl rfl (by rfl) ?_; (try simp only [Act.put, List.setIfInBounds_toArray, List.set_cons_zero, List.set_cons_succ])) | (refine Mk.run_chain_off rfl rfl (by rfl) (Mk.K0_mono _) ?_; (try simp only [Act.put, List.setIfInBounds_toArray, List.set_cons_zero, List.set_cons_succ])) | ((refine Mk.run_want rfl rfl (by rfl) ⟨?_, fun W hW => ?_, ?_⟩; rotate_left; (· (have d0 := hW.keeps.cell id m0; have d1 := hW.keeps.cell id m1; go_simp; (try with_reducible rfl)))); (try simp only [Act.put, List.setIfInBounds_toArray, List.set_cons_zero, List.set_cons_succ])))
  clear m0 m1
  refine Mk.run_chain rfl rfl (by rfl) (fun Wi hWi K' hK => ?_)
  have HTi := Lib.hid (HT.out.trans hWi)
  have HV1i := Lib.hid (SL.go HV1.out hWi)
  clear hWi HT HV1
  go_simp
  refine (four_any _).mono ?_
  rintro e wn ⟨v2, rfl, hv2, hSn⟩
  have HT := Lib.hid (HTi.out.trans (StepX.of hSn))
  have HV1 := Lib.hid (SL.go HV1i.out hSn)
  have HV2 := Lib.hid (SL.go hv2 (Step.refl _))
  clear HTi HV1i hv2
  refine hK _ _ (StepX.of hSn) ?_
  clear hSn
  (try simp only [Act.put, List.setIfInBounds_toArray, List.set_cons_zero, List.set_cons_succ])
  have m0 := (HBX.out.step HT.out).cell 0
  have m1 := (HBX.out.step HT.out).cell 1
  simp only [List.getElem?_cons_zero, List.getElem?_cons_succ] at m0 m1
  repeat (first | (refine Mk.run_off rfl rfl (by rfl) ?_; (try simp only [Act.put, List.setIfInBounds_toArray, List.set_cons_zero, List.set_cons_succ])) | (refine Mk.run_chain_off rfl rfl (by rfl) (Mk.K0_mono _) ?_; (try simp only [Act.put, List.setIfInBounds_toArray, List.set_cons_zero, List.set_cons_succ])) | ((refine Mk.run_want rfl rfl (by rfl) ⟨?_, fun W hW => ?_, ?_⟩; rotate_left; (· (have d0 := hW.keeps.cell id m0; have d1 := hW.keeps.cell id m1; go_simp; (try with_reducible rfl)))); (try simp only [Act.put, List.setIfInBounds_toArray, List.set_cons_zero, List.set_cons_succ])))
  clear m0 m1
  refine Mk.run_make rfl (by rfl) rfl (fun w => ?_) (fun W2 g hW2 hg hgb hgN => ?_)
  · go_simp
  have HL3 := Lib.hid (SLT.bx_ints (S := fun _ => False) (l := [30, 0, 0, 10]) (show Bx W2 g (([30, 0, 0, 10] : List Int).map (Value.int .i64)) 3 from hg) id ([30, 0, 0, 10] : List Int).length (Nat.le_refl _) (by decide)).1
  have HTz := Lib.hid (HT.out.trans hW2)
  have HV1z := Lib.hid (SL.go HV1.out hW2)
  have HV2z := Lib.hid (SL.go HV2.out hW2)
  clear HT HV1 HV2 hg hgb hgN hW2
  have HT := HTz
  have HV1 := HV1z
  have HV2 := HV2z
  clear HTz HV1z HV2z
  (try simp only [Act.put, List.setIfInBounds_toArray, List.set_cons_zero, List.set_cons_succ])
  refine Mk.run_pure rfl rfl (by rfl) ⟨?_, fun W => ?_, ?_⟩
  rotate_left
  · (go_simp; (try with_reducible rfl))
  (try simp only [Act.put, List.setIfInBounds_toArray, List.set_cons_zero, List.set_cons_succ])
  have m0 := (HBX.out.step HT.out).cell 0
  have m1 := (HBX.out.step HT.out).cell 1
  simp only [List.getElem?_cons_zero, List.getElem?_cons_succ] at m0 m1
  repeat (first | (refine Mk.run_off rfl rfl (by rfl) ?_; (try simp only [Act.put, List.setIfInBounds_toArray, List.set_cons_zero, List.set_cons_succ])) | (refine Mk.run_chain_off rfl rfl (by rfl) (Mk.K0_mono _) ?_; (try simp only [Act.put, List.setIfInBounds_toArray, List.set_cons_zero, List.set_cons_succ])) | ((refine Mk.run_want rfl rfl (by rfl) ⟨?_, fun W hW => ?_, ?_⟩; rotate_left; (· (have d0 := hW.keeps.cell id m0; have d1 := hW.keeps.cell id m1; go_simp; (try with_reducible rfl)))); (try simp only [Act.put, List.setIfInBounds_toArray, List.set_cons_zero, List.set_cons_succ])))
  clear m0 m1
  refine Mk.run_chain rfl rfl (by rfl) (fun Wi hWi K' hK => ?_)
  have HTi := Lib.hid (HT.out.trans hWi)
  have hv1 := SL.go HV1.out hWi
  have hv2 := SL.go HV2.out hWi
  have hv3 := SL.go HL3.out hWi
  clear hWi HT HV1 HV2 HL3
  go_simp
  refine (ProveBalance_any (fun _ => False) soilL fourL 0 ⟨-300, 100⟩ ⟨56, [30, 0, 0, 10]⟩ _ _ _ _ hv1 hv2 ⟨_, rfl, _, rfl, hv3⟩).mono ?_
  rintro e wn ⟨rfl, hSn⟩
  rw [nm_pb1]
  have HT := Lib.hid (HTi.out.trans (StepX.of hSn))
  clear HTi hv1 hv2 hv3
  refine hK _ _ (StepX.of hSn) ?_
  clear hSn
  (try simp only [Act.put, List.setIfInBounds_toArray, List.set_cons_zero, List.set_cons_succ])
  have m0 := (HBX.out.step HT.out).cell 0
  have m1 := (HBX.out.step HT.out).cell 1
  simp only [List.getElem?_cons_zero, List.getElem?_cons_succ] at m0 m1
  repeat (first | (refine Mk.run_off rfl rfl (by rfl) ?_; (try simp only [Act.put, List.setIfInBounds_toArray, List.set_cons_zero, List.set_cons_succ])) | (refine Mk.run_chain_off rfl rfl (by rfl) (Mk.K0_mono _) ?_; (try simp only [Act.put, List.setIfInBounds_toArray, List.set_cons_zero, List.set_cons_succ])) | ((refine Mk.run_want rfl rfl (by rfl) ⟨?_, fun W hW => ?_, ?_⟩; rotate_left; (· (have d0 := hW.keeps.cell id m0; have d1 := hW.keeps.cell id m1; go_simp; (try with_reducible rfl)))); (try simp only [Act.put, List.setIfInBounds_toArray, List.set_cons_zero, List.set_cons_succ])))
  clear m0 m1
  refine Mk.run_chain rfl rfl (by rfl) (fun Wi hWi K' hK => ?_)
  have HTi := Lib.hid (HT.out.trans hWi)
  have HZW := Lib.hid HTi.out.size
  clear hWi HT
  go_simp
  refine (soil_any _).mono ?_
  rintro e wn ⟨v1, rfl, hv1, hSn⟩
  have HT := Lib.hid (HTi.out.trans (StepX.of hSn))
  clear HTi
  have HV1 := Lib.hid (SL.go hv1 (Step.refl _))
  clear hv1
  refine hK _ _ (StepX.of hSn) ?_
  clear hSn
  (try simp only [Act.put, List.setIfInBounds_toArray, List.set_cons_zero, List.set_cons_succ])
  have m0 := (HBX.out.step HT.out).cell 0
  have m1 := (HBX.out.step HT.out).cell 1
  simp only [List.getElem?_cons_zero, List.getElem?_cons_succ] at m0 m1
  repeat (first | (refine Mk.run_off rfl rfl (by rfl) ?_; (try simp only [Act.put, List.setIfInBounds_toArray, List.set_cons_zero, List.set_cons_succ])) | (refine Mk.run_chain_off rfl rfl (by rfl) (Mk.K0_mono _) ?_; (try simp only [Act.put, List.setIfInBounds_toArray, List.set_cons_zero, List.set_cons_succ])) | ((refine Mk.run_want rfl rfl (by rfl) ⟨?_, fun W hW => ?_, ?_⟩; rotate_left; (· (have d0 := hW.keeps.cell id m0; have d1 := hW.keeps.cell id m1; go_simp; (try with_reducible rfl)))); (try simp only [Act.put, List.setIfInBounds_toArray, List.set_cons_zero, List.set_cons_succ])))
  clear m0 m1
  refine Mk.run_chain rfl rfl (by rfl) (fun Wi hWi K' hK => ?_)
  have HTi := Lib.hid (HT.out.trans hWi)
  have HV1i := Lib.hid (SL.go HV1.out hWi)
  clear hWi HT HV1
  go_simp
  refine (four_any _).mono ?_
  rintro e wn ⟨v2, rfl, hv2, hSn⟩
  have HT := Lib.hid (HTi.out.trans (StepX.of hSn))
  have HV1 := Lib.hid (SL.go HV1i.out hSn)
  have HV2 := Lib.hid (SL.go hv2 (Step.refl _))
  clear HTi HV1i hv2
  refine hK _ _ (StepX.of hSn) ?_
  clear hSn
  (try simp only [Act.put, List.setIfInBounds_toArray, List.set_cons_zero, List.set_cons_succ])
  have m0 := (HBX.out.step HT.out).cell 0
  have m1 := (HBX.out.step HT.out).cell 1
  simp only [List.getElem?_cons_zero, List.getElem?_cons_succ] at m0 m1
  repeat (first | (refine Mk.run_off rfl rfl (by rfl) ?_; (try simp only [Act.put, List.setIfInBounds_toArray, List.set_cons_zero, List.set_cons_succ])) | (refine Mk.run_chain_off rfl rfl (by rfl) (Mk.K0_mono _) ?_; (try simp only [Act.put, List.setIfInBounds_toArray, List.set_cons_zero, List.set_cons_succ])) | ((refine Mk.run_want rfl rfl (by rfl) ⟨?_, fun W hW => ?_, ?_⟩; rotate_left; (· (have d0 := hW.keeps.cell id m0; have d1 := hW.keeps.cell id m1; go_simp; (try with_reducible rfl)))); (try simp only [Act.put, List.setIfInBounds_toArray, List.set_cons_zero, List.set_cons_succ])))
  clear m0 m1
  refine Mk.run_make rfl (by rfl) rfl (fun w => ?_) (fun W2 g hW2 hg hgb hgN => ?_)
  · go_simp
  have HL3 := Lib.hid (SLT.bx_ints (S := fun _ => False) (l := [30, 0, 0, 11]) (show Bx W2 g (([30, 0, 0, 11] : List Int).map (Value.int .i64)) 3 from hg) id ([30, 0, 0, 11] : List Int).length (Nat.le_refl _) (by decide)).1
  have HTz := Lib.hid (HT.out.trans hW2)
  have HV1z := Lib.hid (SL.go HV1.out hW2)
  have HV2z := Lib.hid (SL.go HV2.out hW2)
  clear HT HV1 HV2 hg hgb hgN hW2
  have HT := HTz
  have HV1 := HV1z
  have HV2 := HV2z
  clear HTz HV1z HV2z
  (try simp only [Act.put, List.setIfInBounds_toArray, List.set_cons_zero, List.set_cons_succ])
  refine Mk.run_pure rfl rfl (by rfl) ⟨?_, fun W => ?_, ?_⟩
  rotate_left
  · (go_simp; (try with_reducible rfl))
  (try simp only [Act.put, List.setIfInBounds_toArray, List.set_cons_zero, List.set_cons_succ])
  have m0 := (HBX.out.step HT.out).cell 0
  have m1 := (HBX.out.step HT.out).cell 1
  simp only [List.getElem?_cons_zero, List.getElem?_cons_succ] at m0 m1
  repeat (first | (refine Mk.run_off rfl rfl (by rfl) ?_; (try simp only [Act.put, List.setIfInBounds_toArray, List.set_cons_zero, List.set_cons_succ])) | (refine Mk.run_chain_off rfl rfl (by rfl) (Mk.K0_mono _) ?_; (try simp only [Act.put, List.setIfInBounds_toArray, List.set_cons_zero, List.set_cons_succ])) | ((refine Mk.run_want rfl rfl (by rfl) ⟨?_, fun W hW => ?_, ?_⟩; rotate_left; (· (have d0 := hW.keeps.cell id m0; have d1 := hW.keeps.cell id m1; go_simp; (try with_reducible rfl)))); (try simp only [Act.put, List.setIfInBounds_toArray, List.set_cons_zero, List.set_cons_succ])))
  clear m0 m1
  refine Mk.run_chain rfl rfl (by rfl) (fun Wi hWi K' hK => ?_)
  have HTi := Lib.hid (HT.out.trans hWi)
  have hv1 := SL.go HV1.out hWi
  have hv2 := SL.go HV2.out hWi
  have hv3 := SL.go HL3.out hWi
  clear hWi HT HV1 HV2 HL3
  go_simp
  refine (ProveBalance_any (fun _ => False) soilL fourL 0 ⟨-300, 100⟩ ⟨56, [30, 0, 0, 11]⟩ _ _ _ _ hv1 hv2 ⟨_, rfl, _, rfl, hv3⟩).mono ?_
  rintro e wn ⟨rfl, hSn⟩
  rw [nm_pb2]
  have HT := Lib.hid (HTi.out.trans (StepX.of hSn))
  clear HTi hv1 hv2 hv3
  refine hK _ _ (StepX.of hSn) ?_
  clear hSn
  (try simp only [Act.put, List.setIfInBounds_toArray, List.set_cons_zero, List.set_cons_succ])
  have m0 := (HBX.out.step HT.out).cell 0
  have m1 := (HBX.out.step HT.out).cell 1
  simp only [List.getElem?_cons_zero, List.getElem?_cons_succ] at m0 m1
  repeat (first | (refine Mk.run_off rfl rfl (by rfl) ?_; (try simp only [Act.put, List.setIfInBounds_toArray, List.set_cons_zero, List.set_cons_succ])) | (refine Mk.run_chain_off rfl rfl (by rfl) (Mk.K0_mono _) ?_; (try simp only [Act.put, List.setIfInBounds_toArray, List.set_cons_zero, List.set_cons_succ])) | ((refine Mk.run_want rfl rfl (by rfl) ⟨?_, fun W hW => ?_, ?_⟩; rotate_left; (· (have d0 := hW.keeps.cell id m0; have d1 := hW.keeps.cell id m1; go_simp; (try with_reducible rfl)))); (try simp only [Act.put, List.setIfInBounds_toArray, List.set_cons_zero, List.set_cons_succ])))
  clear m0 m1
  refine Mk.run_chain rfl rfl (by rfl) (fun Wi hWi K' hK => ?_)
  have HTi := Lib.hid (HT.out.trans hWi)
  have HZW := Lib.hid HTi.out.size
  clear hWi HT
  go_simp
  refine (soil_any _).mono ?_
  rintro e wn ⟨v1, rfl, hv1, hSn⟩
  have HT := Lib.hid (HTi.out.trans (StepX.of hSn))
  clear HTi
  have HV1 := Lib.hid (SL.go hv1 (Step.refl _))
  clear hv1
  refine hK _ _ (StepX.of hSn) ?_
  clear hSn
  (try simp only [Act.put, List.setIfInBounds_toArray, List.set_cons_zero, List.set_cons_succ])
  have m0 := (HBX.out.step HT.out).cell 0
  have m1 := (HBX.out.step HT.out).cell 1
  simp only [List.getElem?_cons_zero, List.getElem?_cons_succ] at m0 m1
  repeat (first | (refine Mk.run_off rfl rfl (by rfl) ?_; (try simp only [Act.put, List.setIfInBounds_toArray, List.set_cons_zero, List.set_cons_succ])) | (refine Mk.run_chain_off rfl rfl (by rfl) (Mk.K0_mono _) ?_; (try simp only [Act.put, List.setIfInBounds_toArray, List.set_cons_zero, List.set_cons_succ])) | ((refine Mk.run_want rfl rfl (by rfl) ⟨?_, fun W hW => ?_, ?_⟩; rotate_left; (· (have d0 := hW.keeps.cell id m0; have d1 := hW.keeps.cell id m1; go_simp; (try with_reducible rfl)))); (try simp only [Act.put, List.setIfInBounds_toArray, List.set_cons_zero, List.set_cons_succ])))
  clear m0 m1
  refine Mk.run_chain rfl rfl (by rfl) (fun Wi hWi K' hK => ?_)
  have HTi := Lib.hid (HT.out.trans hWi)
  have HV1i := Lib.hid (SL.go HV1.out hWi)
  clear hWi HT HV1
  go_simp
  refine (four_any _).mono ?_
  rintro e wn ⟨v2, rfl, hv2, hSn⟩
  have HT := Lib.hid (HTi.out.trans (StepX.of hSn))
  have HV1 := Lib.hid (SL.go HV1i.out hSn)
  have HV2 := Lib.hid (SL.go hv2 (Step.refl _))
  clear HTi HV1i hv2
  refine hK _ _ (StepX.of hSn) ?_
  clear hSn
  (try simp only [Act.put, List.setIfInBounds_toArray, List.set_cons_zero, List.set_cons_succ])
  have m0 := (HBX.out.step HT.out).cell 0
  have m1 := (HBX.out.step HT.out).cell 1
  simp only [List.getElem?_cons_zero, List.getElem?_cons_succ] at m0 m1
  repeat (first | (refine Mk.run_off rfl rfl (by rfl) ?_; (try simp only [Act.put, List.setIfInBounds_toArray, List.set_cons_zero, List.set_cons_succ])) | (refine Mk.run_chain_off rfl rfl (by rfl) (Mk.K0_mono _) ?_; (try simp only [Act.put, List.setIfInBounds_toArray, List.set_cons_zero, List.set_cons_succ])) | ((refine Mk.run_want rfl rfl (by rfl) ⟨?_, fun W hW => ?_, ?_⟩; rotate_left; (· (have d0 := hW.keeps.cell id m0; have d1 := hW.keeps.cell id m1; go_simp; (try with_reducible rfl)))); (try simp only [Act.put, List.setIfInBounds_toArray, List.set_cons_zero, List.set_cons_succ])))
  clear m0 m1
  refine Mk.run_make rfl (by rfl) rfl (fun w => ?_) (fun W2 g hW2 hg hgb hgN => ?_)
  · go_simp
  have HL3 := Lib.hid (SLT.bx_ints (S := fun _ => False) (l := [30, 0, 0]) (show Bx W2 g (([30, 0, 0] : List Int).map (Value.int .i64)) 3 from hg) id ([30, 0, 0] : List Int).length (Nat.le_refl _) (by decide)).1
  have HTz := Lib.hid (HT.out.trans hW2)
  have HV1z := Lib.hid (SL.go HV1.out hW2)
  have HV2z := Lib.hid (SL.go HV2.out hW2)
  clear HT HV1 HV2 hg hgb hgN hW2
  have HT := HTz
  have HV1 := HV1z
  have HV2 := HV2z
  clear HTz HV1z HV2z
  (try simp only [Act.put, List.setIfInBounds_toArray, List.set_cons_zero, List.set_cons_succ])
  refine Mk.run_pure rfl rfl (by rfl) ⟨?_, fun W => ?_, ?_⟩
  rotate_left
  · (go_simp; (try with_reducible rfl))
  (try simp only [Act.put, List.setIfInBounds_toArray, List.set_cons_zero, List.set_cons_succ])
  have m0 := (HBX.out.step HT.out).cell 0
  have m1 := (HBX.out.step HT.out).cell 1
  simp only [List.getElem?_cons_zero, List.getElem?_cons_succ] at m0 m1
  repeat (first | (refine Mk.run_off rfl rfl (by rfl) ?_; (try simp only [Act.put, List.setIfInBounds_toArray, List.set_cons_zero, List.set_cons_succ])) | (refine Mk.run_chain_off rfl rfl (by rfl) (Mk.K0_mono _) ?_; (try simp only [Act.put, List.setIfInBounds_toArray, List.set_cons_zero, List.set_cons_succ])) | ((refine Mk.run_want rfl rfl (by rfl) ⟨?_, fun W hW => ?_, ?_⟩; rotate_left; (· (have d0 := hW.keeps.cell id m0; have d1 := hW.keeps.cell id m1; go_simp; (try with_reducible rfl)))); (try simp only [Act.put, List.setIfInBounds_toArray, List.set_cons_zero, List.set_cons_succ])))
  clear m0 m1
  refine Mk.run_chain rfl rfl (by rfl) (fun Wi hWi K' hK => ?_)
  have HTi := Lib.hid (HT.out.trans hWi)
  have hv1 := SL.go HV1.out hWi
  have hv2 := SL.go HV2.out hWi
  have hv3 := SL.go HL3.out hWi
  clear hWi HT HV1 HV2 HL3
  go_simp
  refine (ProveBalance_any (fun _ => False) soilL fourL 0 ⟨-300, 100⟩ ⟨56, [30, 0, 0]⟩ _ _ _ _ hv1 hv2 ⟨_, rfl, _, rfl, hv3⟩).mono ?_
  rintro e wn ⟨rfl, hSn⟩
  rw [nm_pb3]
  have HT := Lib.hid (HTi.out.trans (StepX.of hSn))
  clear HTi hv1 hv2 hv3
  refine hK _ _ (StepX.of hSn) ?_
  clear hSn
  (try simp only [Act.put, List.setIfInBounds_toArray, List.set_cons_zero, List.set_cons_succ])
  have m0 := (HBX.out.step HT.out).cell 0
  have m1 := (HBX.out.step HT.out).cell 1
  simp only [List.getElem?_cons_zero, List.getElem?_cons_succ] at m0 m1
  repeat (first | (refine Mk.run_off rfl rfl (by rfl) ?_; (try simp only [Act.put, List.setIfInBounds_toArray, List.set_cons_zero, List.set_cons_succ])) | (refine Mk.run_chain_off rfl rfl (by rfl) (Mk.K0_mono _) ?_; (try simp only [Act.put, List.setIfInBounds_toArray, List.set_cons_zero, List.set_cons_succ])) | ((refine Mk.run_want rfl rfl (by rfl) ⟨?_, fun W hW => ?_, ?_⟩; rotate_left; (· (have d0 := hW.keeps.cell id m0; have d1 := hW.keeps.cell id m1; go_simp; (try with_reducible rfl)))); (try simp only [Act.put, List.setIfInBounds_toArray, List.set_cons_zero, List.set_cons_succ])))
  clear m0 m1
  refine Mk.run_end (L := []) rfl (fun W6 hW6 => ?_)
  have HT6 := Lib.hid (HT.out.trans hW6)
  clear hW6 HT
  have HT := HT6
  clear HT6
  go_upto_region 17 with (fail)
  go_wp2_with fail
  refine (Holds_fail (fun _ => False) badL 5 1 _ _ (SL.go HBAD.out HT.out) nm_bad.1 nm_bad.2.1 (by decide) (by decide)).mono ?_
  rintro e wn ⟨rfl, hSn⟩
  have HTi := Lib.hid (HT.out.trans hSn)
  clear hSn HT
  have HT := HTi
  clear HTi
  go_upto_region 18 with (fail)
  go_wp2_with fail
  refine (soil_any _).mono ?_
  rintro e wn ⟨v1, rfl, hv1, hSn⟩
  have HV1 := Lib.hid (SL.go hv1 (Step.refl _))
  have HTi := Lib.hid (HT.out.trans hSn)
  clear hSn HT hv1
  have HT := HTi
  clear HTi
  have hv1 := HV1.out
  clear HV1
  go_wp2_with fail
  refine (Deep_ok _ soilL 1 1 _ _ hv1 four_tests four_sound (by decide) (by decide)).mono ?_
  rintro e wn ⟨rfl, hSn⟩
  have HTi := Lib.hid (HT.out.trans hSn)
  clear hSn HT
  have HT := HTi
  clear HTi
  rw [nm_deep1]
  clear hv1
  go_upto_region 19 with (fail)
  go_wp2_with fail
  refine (soil_any _).mono ?_
  rintro e wn ⟨v1, rfl, hv1, hSn⟩
  have HV1 := Lib.hid (SL.go hv1 (Step.refl _))
  have HTi := Lib.hid (HT.out.trans hSn)
  clear hSn HT hv1
  have HT := HTi
  clear HTi
  go_wp2_with fail
  refine (four_any _).mono ?_
  rintro e wm ⟨v2, rfl, hv2, hSn⟩
  have hv1 := SL.go HV1.out hSn
  have hv2 := SL.go hv2 (Step.refl _)
  have HTi := Lib.hid (HT.out.trans hSn)
  clear hSn HT HV1
  have HT := HTi
  clear HTi
  go_wp2_with fail
  refine (Spares_any soilL fourL [⟨600, 0⟩] _ _ _ _ (SL.go hv1 (Step.alloc _ _)) (SL.go hv2 (Step.alloc _ _)) (vec_lit1 600 0 _) small_four).mono ?_
  rintro e wn ⟨vs, rfl, _, hnil, hSn⟩
  obtain rfl := hnil (by rw [nm_spareC6]; decide)
  rw [nm_spareC6]
  have HTi := Lib.hid (HT.out.trans ((Step.alloc _ _).trans hSn))
  clear hSn HT hv1 hv2
  have HT := HTi
  clear HTi
  go_upto_region 20 with (fail)
  go_wp2_with fail
  refine (soil_any _).mono ?_
  rintro e wn ⟨v1, rfl, hv1, hSn⟩
  have HV1 := Lib.hid (SL.go hv1 (Step.refl _))
  have HTi := Lib.hid (HT.out.trans hSn)
  clear hSn HT hv1
  have HT := HTi
  clear HTi
  go_wp2_with fail
  refine (four_any _).mono ?_
  rintro e wm ⟨v2, rfl, hv2, hSn⟩
  have hv1 := SL.go HV1.out hSn
  have hv2 := SL.go hv2 (Step.refl _)
  have HTi := Lib.hid (HT.out.trans hSn)
  clear hSn HT HV1
  have HT := HTi
  clear HTi
  go_wp2_with fail
  refine (Reach_any (fun _ => False) soilL fourL 1 ⟨1, 0⟩ _ _ _ hv1 hv2).mono ?_
  rintro e wn ⟨kr, rfl, _, hk, hSn⟩
  obtain rfl := hk (by rw [nm_at1]; decide)
  rw [nm_at1]
  have HTn := Lib.hid (HT.out.trans hSn)
  clear hSn HT
  have HT := HTn
  clear HTn
  clear hv1 hv2
  go_upto_region 21 with (fail)
  go_wp2_with fail
  refine (CheckTent_any (fun _ => False) [] _ _ (SL.nil _ _)).mono ?_
  rintro e wn ⟨rfl, hSn⟩
  have HTi := Lib.hid (HT.out.trans hSn)
  clear hSn HT
  have HT := HTi
  clear HTi
  rw [nm_tent]
  go_wp2_with fail
  refine (CheckTests_any (fun _ => False) [⟨10, 1, 1, false⟩] _ _ (SL.one (α := Tst) (cs := [.int .i64 10, .int .i64 1, .int .i64 1, .bool false]) 111 rfl (by simp))).mono ?_
  rintro e wn ⟨rfl, hSn⟩
  rw [nm_tests]
  have HTi := Lib.hid (HT.out.trans ((Step.alloc _ _).trans hSn))
  clear hSn HT
  have HT := HTi
  clear HTi
  go_wp2_with fail
  refine (wakes_any _).mono ?_
  rintro e wz ⟨rfl, hSz⟩
  go_wp2
  go_ret
  exact ⟨rfl, HS.out.trans (HT.out.trans hSz)⟩
end Go.Proofs.Ytdcjbbeoocldeaa
/- CanvasNames: of every input the law answers true, and its arguments read as they did. -/
namespace Go.Proofs.Ytdcjbbeoocldeaa.names
open Go.ChangeShapes Go.WideShapes Go.ChangeAt Go.RowKit Go.BT
set_option linter.unusedVariables false
set_option linter.unusedSimpArgs false

set_option maxRecDepth 100000 in
theorem lifted (os : Os) (started : os.Started) (H : Type) (enc : TypeId × Value → H) :
    ReturnsInHanded {} Try.checked os 14 .any (Rows.canvasNamesSpec.pre6 enc Try.prog Try.f14 Rows.canvasNamesRow.domain false) (Rows.canvasNamesSpec.post enc Try.prog Try.f14 false true false false) := by
  refine returnsInHanded_of_change (C := Try.checked) own started (by kernel_rfl) Try.func14
    (ChangeSpec.witness6 (enc := enc) (C := Try.checked) false ⟨#[], #[], []⟩ 8 (by kernel_rfl) (by kernel_rfl) (by kernel_rfl) (by kernel_rfl)) ?_
  intro W base args ds gs before hval0 hW hcnd _
  have hval : ∀ (j : Nat) t v, Try.f14.params[j]? = some t → args[j]? = some v → Value.okWide Try.prog W .any base t v := hval0
  have hW' := hW
  obtain ⟨p, q, hA0, hV, rfl, hfz, hnd⟩ := hW
  have hA : DataW.TrodAll enc Try.prog W 0 (fun _ => true) true Try.f14.params.toList args.toList ds p := hA0
  have hAk := hA
  rw [Try.params14] at hA hval
  obtain ⟨hargs, rfl, rfl⟩ := trodAll_nil hA
  obtain rfl : args = #[] := by cases args; simp_all
  obtain ⟨rfl, rfl⟩ := trodVars_none hV
  clear hA0 hval0
  refine (CanvasNames_any   W ).mono fun e W' ⟨he, hg⟩ => ?_
  subst he
  have hlt := hW'.lt
  refine ⟨_, rfl, post_of_below (pv := []) hW' (fun _ _ _ => (trodAll_cons_mk (shut_bool Try.underlying4 _) trodAll_mk0)) (fun sp hs => all_stays laid hg.below (fun t ht => ?_) hAk (fun x hx => hlt x (by simp at hx)) (fun x hx => hs x (by simp at hx))) (fun _ _ => rfl) rfl hg.below (ok_one (by kernel_rfl) rfl (okWide_bool_mk Try.underlying4 _))⟩
  rw [Try.params14] at ht
  simp at ht

theorem over : Rows.canvasNamesRow.holds Try.pinned (OpenSpec.ofChange Rows.canvasNamesSpec) :=
  OpenClaim.holds_of_wide 14 Try.f14 rfl rfl rfl rfl rfl rfl rfl ⟨rfl, rfl, rfl, rfl, rfl⟩ rfl rfl rfl rfl rfl (by kernel_rfl) Try.func14 (by kernel_rfl)
    (of_decide_eq_true (by kernel_rfl)) (by unfold Func.isWrapper; first | (rw [if_pos (by decide +kernel)]; kernel_rfl) | (rw [if_neg (by decide +kernel)]; exact ⟨rfl, rfl⟩))
    (fun os started H enc _ => lifted os started H enc)
theorem proved : Rows.CanvasNamesSaid := over
end Go.Proofs.Ytdcjbbeoocldeaa.names
