/- Walks and plain laws, part W. -/
import Derived.Test.YtfhmdpicoccnfaaMF
import Derived.Test.YtfhmdpicoccnfaaMT
import Derived.Test.YtfhmdpicoccnfaaMU
import Derived.Test.YtfhmdpicoccnfaaRows
set_option maxHeartbeats 16000000
set_option maxRecDepth 100000
namespace Go.BT
theorem range_hour {f : Fc} (hf : f.hours.all rangeB = true) (h : Int) : (hourAt f h).hi ≤ 1000 := by
 unfold hourAt
 rw [List.getD_eq_getElem?_getD]
 cases q : f.hours[h.toNat]? with
 | none => decide
 | some r =>
  have := List.all_eq_true.1 hf r (List.mem_of_getElem? q)
  simp only [rangeB, Bool.and_eq_true, decide_eq_true_eq] at this
  exact this.2
def aroundR (wind : List Int) (rs : List Rdg) : List Rdg := rs.map fun r => ⟨r.hour, max 0 (wind.getD r.hour.toNat 0 - r.lo % 10), min 1000 (wind.getD r.hour.toNat 0 + r.hi % 10)⟩
def InF (f : Fc) (wind : List Int) : Prop := wind.length = f.hours.length ∧ ∀ h, h < f.hours.length → (hourAt f h).lo ≤ wind.getD h 0 ∧ wind.getD h 0 ≤ (hourAt f h).hi
theorem mem_leftN {l : List Fc} {rs : List Rdg} {k i : Nat} : i ∈ leftN l rs k ↔ i < k ∧ ∃ f, l[i]? = some f ∧ rs.any (hitsB f) = false := by
 unfold leftN
 rw [List.mem_filter, List.mem_range]
 cases q : l[i]? with
 | none => simp
 | some f => simp
theorem worst_ge {l : List Fc} (h : Nat) : ∀ (ids : List Nat) (n : Int), let m := ids.foldl (fun n i => match l[i]? with | some f => max n (hourAt f h).hi | none => n) n; n ≤ m ∧ ∀ i ∈ ids, ∀ f, l[i]? = some f → (hourAt f h).hi ≤ m
 | [], n => ⟨Int.le_refl _, fun i hi => by cases hi⟩
 | j :: ids, n => by
  simp only [List.foldl_cons]
  cases q : l[j]? with
  | none =>
   obtain ⟨a, b⟩ := worst_ge (l := l) h ids n
   refine ⟨a, fun i hi f hf => ?_⟩
   cases hi with
   | head => rw [q] at hf; cases hf
   | tail _ hi => exact b i hi f hf
  | some g =>
   obtain ⟨a, b⟩ := worst_ge (l := l) h ids (max n (hourAt g h).hi)
   refine ⟨by dsimp only at a ⊢; omega, fun i hi f hf => ?_⟩
   cases hi with
   | head => rw [q] at hf; injection hf with hf; subst hf; dsimp only at a ⊢; omega
   | tail _ hi => exact b i hi f hf
theorem worst_le {l : List Fc} (h : Nat) {B : Int} : ∀ (ids : List Nat) (n : Int), n ≤ B → (∀ i ∈ ids, ∀ f, l[i]? = some f → (hourAt f h).hi ≤ B) → ids.foldl (fun n i => match l[i]? with | some f => max n (hourAt f h).hi | none => n) n ≤ B
 | [], n, hn, _ => hn
 | j :: ids, n, hn, hb => by
  simp only [List.foldl_cons]
  cases q : l[j]? with
  | none => exact worst_le h ids n hn fun i hi => hb i (List.mem_cons_of_mem _ hi)
  | some g =>
   refine worst_le h ids _ ?_ fun i hi => hb i (List.mem_cons_of_mem _ hi)
   have := hb j List.mem_cons_self g q
   exact Int.max_le.2 ⟨hn, this⟩
theorem worst_mono {l : List Fc} {rs rs' : List Rdg} (hs : ∀ r ∈ rs', r ∈ rs) (h : Nat) : worstF l (leftN l rs l.length) h ≤ worstF l (leftN l rs' l.length) h := by
 refine worst_le h _ _ (worst_ge (l := l) h _ 0).1 fun i hi f hf => ?_
 refine (worst_ge (l := l) h _ 0).2 i ?_ f hf
 obtain ⟨h1, g, h2, h3⟩ := mem_leftN.1 hi
 refine mem_leftN.2 ⟨h1, g, h2, ?_⟩
 rw [List.any_eq_false] at h3 ⊢
 exact fun r hr => h3 r (hs r hr)
section
variable {l : List Fc} {rs : List Rdg} {k : Nat} {f : Fc} {wind : List Int}
theorem kept_read (h1 : forecastsC l = 0) (h2 : readingsC l rs = 0) (hf : l[k]? = some f) (hw : InF f wind) : readC l (aroundR wind rs) = 0 ∧ ∀ d, readC l ((aroundR wind rs).take d) = 0 := by
 obtain ⟨o1, o2, _, _⟩ := forecasts_ok h1
 have hfl : f ∈ l := List.mem_of_getElem? hf
 have hev := List.all_eq_true.1 o2 f hfl
 simp only [evenFB, Bool.and_eq_true, decide_eq_true_eq] at hev
 have gen : ∀ xs : List Rdg, xs.length ≤ rs.length → (∀ x ∈ xs, x ∈ aroundR wind rs) → readC l xs = 0 := by
  intro xs hlen hx
  unfold readingsC at h2
  split at h2 <;> rename_i c1
  ·split at h2 <;> rename_i c2
   ·split at h2 <;> rename_i c3
    ·have b1 : (xs.all fun x => withinB x.hour 0 ((hoursN l : Int) - 1)) = true := by
      rw [List.all_eq_true] at c2 ⊢
      intro x hxx
      obtain ⟨r, hr, rfl⟩ := List.mem_map.1 (hx x hxx)
      exact c2 r hr
     have b2 : (xs.all fun x => rangeB ⟨x.lo, x.hi⟩) = true := by
      rw [List.all_eq_true] at c2 c3 ⊢
      intro x hxx
      obtain ⟨r, hr, rfl⟩ := List.mem_map.1 (hx x hxx)
      have a := c2 r hr
      have b := c3 r hr
      simp only [withinB, Bool.and_eq_true, decide_eq_true_eq] at a
      simp only [rangeB, Bool.and_eq_true, decide_eq_true_eq] at b
      have hh : r.hour.toNat < f.hours.length := by rw [hev.1.2]; omega
      have q := hw.2 _ hh
      have q2 := range_hour hev.2 (r.hour.toNat : Int)
      have q3 : 0 ≤ (hourAt f (r.hour.toNat : Int)).lo := by
       unfold hourAt
       rw [Int.toNat_natCast, List.getD_eq_getElem?_getD, List.getElem?_eq_getElem hh]
       have := List.all_eq_true.1 hev.2 _ (List.getElem_mem hh)
       simp only [rangeB, Bool.and_eq_true, decide_eq_true_eq] at this
       exact this.1.1
      simp only [rangeB, Bool.and_eq_true, decide_eq_true_eq]
      omega
     unfold readC readingsC
     rw [if_pos h1, if_pos (by omega), if_pos b1, if_pos b2]
    ·simp at h2
   ·simp at h2
  ·simp at h2
 refine ⟨gen _ (by simp [aroundR]) fun x h => h, fun d => gen _ ?_ fun x h => List.mem_of_mem_take h⟩
 rw [List.length_take]
 simp [aroundR]; omega
theorem kept_left (h1 : forecastsC l = 0) (h2 : readingsC l rs = 0) (hf : l[k]? = some f) (hw : InF f wind) : k ∈ leftN l (aroundR wind rs) l.length := by
 obtain ⟨o1, o2, _, _⟩ := forecasts_ok h1
 have hfl : f ∈ l := List.mem_of_getElem? hf
 have hev := List.all_eq_true.1 o2 f hfl
 simp only [evenFB, Bool.and_eq_true, decide_eq_true_eq] at hev
 refine mem_leftN.2 ⟨(List.getElem?_eq_some_iff.1 hf).1, f, hf, ?_⟩
 rw [List.any_eq_false]
 intro x hx
 obtain ⟨r, hr, rfl⟩ := List.mem_map.1 hx
 unfold readingsC at h2
 split at h2
 ·split at h2 <;> rename_i c2
  ·have a := List.all_eq_true.1 c2 r hr
   simp only [withinB, Bool.and_eq_true, decide_eq_true_eq] at a
   have hh : r.hour.toNat < f.hours.length := by rw [hev.1.2]; omega
   have q := hw.2 _ hh
   have q2 := range_hour hev.2 (r.hour.toNat : Int)
   have e : ((r.hour.toNat : Nat) : Int) = r.hour := by omega
   have q3 : 0 ≤ (hourAt f (r.hour.toNat : Int)).lo := by
    unfold hourAt
    rw [Int.toNat_natCast, List.getD_eq_getElem?_getD, List.getElem?_eq_getElem hh]
    have := List.all_eq_true.1 hev.2 _ (List.getElem_mem hh)
    simp only [rangeB, Bool.and_eq_true, decide_eq_true_eq] at this
    exact this.1.1
   rw [e] at q q2 q3
   simp only [hitsB, Bool.or_eq_true, decide_eq_true_eq]
   omega
  ·simp at h2
 ·simp at h2
theorem kept_worst (h1 : forecastsC l = 0) (h2 : readingsC l rs = 0) (hf : l[k]? = some f) (hw : InF f wind) {h : Nat} (hh : h < f.hours.length) : wind.getD h 0 ≤ worstF l (leftN l (aroundR wind rs) l.length) h := by
 have a := (worst_ge (l := l) h (leftN l (aroundR wind rs) l.length) 0).2 k (kept_left h1 h2 hf hw) f hf
 have b := (hw.2 h hh).2
 exact Int.le_trans b a
end
end Go.BT
namespace Go.BT
open Go.RowKit
structure U16 where
 n : Int
 lo : 0 ≤ n
 hi : n ≤ 65535
instance : Rep U16 where
 k := 1
 rep _ _ cs x := cs = [.int .u16 x.n]
 len h := by rw [h]; rfl
 keep _ h := h
 weak _ h := h
 one h := by subst h; simp [Value.oneCell']
 pos := by decide
theorem SL.u16s {S : Nat → Prop} {w : World} {v : Value} {l : List U16} (h : SL S w v l) :
  ∃ p c b o, v = .slice p l.length c ∧ l.length ≤ c ∧ l.length ≤ 9223372036854775807 ∧ (0 < l.length → p = some ⟨b, o, none⟩) ∧
   (∀ i (h : i < l.length), w.cell? ⟨b, o + i, none⟩ = some (.int .u16 l[i].n)) ∧ (0 < l.length → b < w.heap.size ∧ ¬ S b) := by
 obtain ⟨p, c, b, o, hv, hc, hm, hp, ha⟩ := h
 refine ⟨p, c, b, o, hv, hc, hm, hp, fun i hi => ?_, fun h0 => ⟨(ha 0 h0).1, (ha 0 h0).2.1⟩⟩
 obtain ⟨_, _, cs, hr, hcs⟩ := ha i hi
 have hr' : cs = [.int .u16 l[i].n] := hr
 subst hr'
 have := hcs 0 _ rfl
 simpa [Rep.k] using this
theorem u8_ofK {n : Int} (h : (Lit.int .u8 n).wf = true) : 0 ≤ n ∧ n ≤ 255 := by
 have h2 : IntKind.u8.min = 0 := rfl
 have h3 : IntKind.u8.max = 255 := rfl
 simp [Lit.wf] at h; omega
theorem rem_lenK {n : Int} (h : 0 ≤ n) {l : Nat} (hl : 0 < l) : ∃ k : Nat, n.tmod (l : Int) = (k : Int) ∧ k < l := by
 refine ⟨(n.tmod l).toNat, ?_, ?_⟩ <;> rw [Int.tmod_eq_emod_of_nonneg h]
 ·have := Int.emod_nonneg n (show (l : Int) ≠ 0 by omega); omega
 ·have := Int.emod_lt_of_pos n (show (0 : Int) < l by omega); have := Int.emod_nonneg n (show (l : Int) ≠ 0 by omega); omega
theorem SL.front {α : Type} [Rep α] {S : Nat → Prop} {w : World} {p : Option Addr} {n c : Nat} {l : List α} (h : SL S w (.slice p n c) l) {d : Nat} (hd : d ≤ l.length) : SL S w (.slice p d c) (l.take d) := by
 obtain ⟨p', c', b, o, hv, hc, hm, hp, ha⟩ := h
 injection hv with h1 h2 h3
 subst h1 h3
 have hl : (l.take d).length = d := by rw [List.length_take]; omega
 refine ⟨p, c, b, o, by rw [hl], by rw [hl]; omega, by rw [hl]; omega, fun h0 => hp (by omega), fun i hi => ?_⟩
 have := ha i (by omega)
 rwa [List.getElem_take]
theorem kept_less {l : List Fc} {rs : List Rdg} {k d : Nat} (h : k ∈ leftN l rs l.length) : k ∈ leftN l (rs.take d) l.length := by
 obtain ⟨h1, f, h2, h3⟩ := mem_leftN.1 h
 refine mem_leftN.2 ⟨h1, f, h2, ?_⟩
 rw [List.any_eq_false] at h3 ⊢
 exact fun x hx => h3 x (List.mem_of_mem_take hx)
theorem worst_left {l : List Fc} {rs : List Rdg} {k : Nat} (h0 : readC l rs = 0) (h : k ∈ leftN l rs l.length) : worstC l rs = 0 ∧ worstR l rs = worstL l (leftN l rs l.length) := by
 have h1 : worstC l rs = 0 := by
  unfold worstC; rw [if_pos h0, if_neg]
  intro e; rw [e] at h; cases h
 exact ⟨h1, by unfold worstR; rw [if_pos h1]⟩
theorem any_next {la : List Int} {x : Int} {k : Nat} (h : k < la.length) : (la.take (k + 1)).any (fun y => decide (y = x)) = ((la.take k).any (fun y => decide (y = x)) || decide (la[k] = x)) := by
 rw [List.take_succ_eq_append_getElem h, List.any_append]; simp
def wnum (ws : List U16) (h : Nat) : Int := match ws[h % ws.length]? with | some x => x.n | none => 0
def windAt (f : Fc) (ws : List U16) (h : Nat) : Int := (hourAt f h).lo + wnum ws h % ((hourAt f h).hi - (hourAt f h).lo + 1)
def windR (f : Fc) (ws : List U16) : List Int := (List.range f.hours.length).map (windAt f ws)
theorem wind_in {f : Fc} (ws : List U16) (hf : f.hours.all rangeB = true) : InF f (windR f ws) := by
 refine ⟨by simp [windR], fun h hh => ?_⟩
 have e : (windR f ws).getD h 0 = windAt f ws h := by
  rw [List.getD_eq_getElem?_getD, List.getElem?_eq_getElem (by simpa [windR] using hh)]
  simp [windR]
 have hr := List.all_eq_true.1 hf _ (List.getElem_mem hh)
 have ha : hourAt f (h : Int) = f.hours[h] := by
  unfold hourAt
  rw [Int.toNat_natCast, List.getD_eq_getElem?_getD, List.getElem?_eq_getElem hh]; rfl
 simp only [rangeB, Bool.and_eq_true, decide_eq_true_eq] at hr
 rw [e]
 unfold windAt
 rw [ha]
 have h1 := Int.emod_nonneg (wnum ws h) (show f.hours[h].hi - f.hours[h].lo + 1 ≠ 0 by omega)
 have h2 := Int.emod_lt_of_pos (wnum ws h) (show 0 < f.hours[h].hi - f.hours[h].lo + 1 by omega)
 omega
end Go.BT
namespace Go.Proofs.Ytfhmdpicoccnfaa
set_option linter.unusedSimpArgs false
set_option linter.unusedVariables false
open Go.RowKit Go.BT
theorem GaleKept_any (l : List Fc) (rs : List Rdg) (which : Int) (ws : List U16) (v u x : Value) (w0 : World) (hv : SL (fun _ => False) w0 v l) (hu : SL (fun _ => False) w0 u rs) (hx : SL (fun _ => False) w0 x ws) (hwf : (Lit.int .u8 which).wf = true) : Calls Try.prog 7 #[v, u, .int .u8 which, x] w0 fun e w' => e = .returned (.bool true) ∧ Step w0 w' := by
 have HV := zH hv
 have HU := zH hu
 have HZ := zH hx
 have HT := zH (Step.refl w0)
 have hm := hv.len
 have hmz := hx.len
 obtain ⟨pv, cv, rfl⟩ := hv.form
 obtain ⟨pr, cr, rfl⟩ := hu.form
 obtain ⟨pz, cz, rfl⟩ := hx.form
 clear hv hu hx
 go_enter Try.func7, Try.ntmps7
 go_wp2_with fail
 refine (few_any (fun _ => False) l rs _ _ _ HV.out HU.out).mono ?_
 rintro e wn ⟨rfl, hSn⟩
 have HSN := zH hSn
 have HTn := zH (HT.out.trans hSn)
 clear HT hSn
 have HT := HTn
 clear HTn
 try (have X1 := zH (HV.out.keep (.of_step HSN.out)); clear HV; have HV := X1; clear X1)
 try (have X1 := zH (HU.out.keep (.of_step HSN.out)); clear HU; have HU := X1; clear X1)
 try (have X1 := zH (HF.out.keep (.of_step HSN.out)); clear HF; have HF := X1; clear X1)
 try (have X1 := zH (HR.out.keep (.of_step HSN.out)); clear HR; have HR := X1; clear X1)
 try (have X1 := zH (HA.out.keep (.of_step HSN.out)); clear HA; have HA := X1; clear X1)
 try (have X1 := zH (HB.out.keep (.of_step HSN.out)); clear HB; have HB := X1; clear X1)
 try (have X1 := zH (HC.out.keep (.of_step HSN.out)); clear HC; have HC := X1; clear X1)
 try (have X1 := zH (HD.out.keep (.of_step HSN.out)); clear HD; have HD := X1; clear X1)
 try (have X1 := zH (HE.out.keep (.of_step HSN.out)); clear HE; have HE := X1; clear X1)
 try (have X1 := zH (HZ.out.keep (.of_step HSN.out)); clear HZ; have HZ := X1; clear X1)
 clear HSN
 cases hb : fewLB l rs with
 | false =>
  clear hb
  go_wp2_with fail
  refine (gwakes_any _).mono ?_
  rintro e wn ⟨rfl, hSn⟩
  have HTn := zH (HT.out.trans hSn)
  clear HT hSn
  go_wp2
  go_ret
  exact ⟨rfl, HTn.out⟩
 | true =>
 have HLB := zH (few_bounds hb)
 clear hb
 go_wp2_with fail
 refine (ForecastsFault_any (fun _ => False) l _ _ HV.out).mono ?_
 rintro e wn ⟨rfl, hSn⟩
 have HSN := zH hSn
 have HTn := zH (HT.out.trans hSn)
 clear HT hSn
 have HT := HTn
 clear HTn
 try (have X1 := zH (HV.out.keep (.of_step HSN.out)); clear HV; have HV := X1; clear X1)
 try (have X1 := zH (HU.out.keep (.of_step HSN.out)); clear HU; have HU := X1; clear X1)
 try (have X1 := zH (HF.out.keep (.of_step HSN.out)); clear HF; have HF := X1; clear X1)
 try (have X1 := zH (HR.out.keep (.of_step HSN.out)); clear HR; have HR := X1; clear X1)
 try (have X1 := zH (HA.out.keep (.of_step HSN.out)); clear HA; have HA := X1; clear X1)
 try (have X1 := zH (HB.out.keep (.of_step HSN.out)); clear HB; have HB := X1; clear X1)
 try (have X1 := zH (HC.out.keep (.of_step HSN.out)); clear HC; have HC := X1; clear X1)
 try (have X1 := zH (HD.out.keep (.of_step HSN.out)); clear HD; have HD := X1; clear X1)
 try (have X1 := zH (HE.out.keep (.of_step HSN.out)); clear HE; have HE := X1; clear X1)
 try (have X1 := zH (HZ.out.keep (.of_step HSN.out)); clear HZ; have HZ := X1; clear X1)
 clear HSN
 by_cases h1 : forecastsC l = 0
 rotate_left
 ·obtain ⟨c, hc⟩ : ∃ c, c = forecastsC l := ⟨_, rfl⟩
  rw [← hc] at h1 ⊢
  have d1 : (c != 0) = true := by simpa using h1
  clear h1 hc
  go_wp2_with fail
  refine (gwakes_any _).mono ?_
  rintro e wn ⟨rfl, hSn⟩
  have HTn := zH (HT.out.trans hSn)
  clear HT hSn
  go_wp2
  go_ret
  exact ⟨rfl, HTn.out⟩
 rw [h1]
 have HF0 := zH h1
 have HLN := zH (few_parts (forecasts_ok h1).1)
 have HN := zH (hoursN_le h1)
 clear h1
 go_wp2_with fail
 refine (ReadingsFault_any (fun _ => False) l rs _ _ _ HV.out HU.out (by have := HLN.out; omega) HN.out.2).mono ?_
 rintro e wn ⟨rfl, hSn⟩
 have HSN := zH hSn
 have HTn := zH (HT.out.trans hSn)
 clear HT hSn
 have HT := HTn
 clear HTn
 try (have X1 := zH (HV.out.keep (.of_step HSN.out)); clear HV; have HV := X1; clear X1)
 try (have X1 := zH (HU.out.keep (.of_step HSN.out)); clear HU; have HU := X1; clear X1)
 try (have X1 := zH (HF.out.keep (.of_step HSN.out)); clear HF; have HF := X1; clear X1)
 try (have X1 := zH (HR.out.keep (.of_step HSN.out)); clear HR; have HR := X1; clear X1)
 try (have X1 := zH (HA.out.keep (.of_step HSN.out)); clear HA; have HA := X1; clear X1)
 try (have X1 := zH (HB.out.keep (.of_step HSN.out)); clear HB; have HB := X1; clear X1)
 try (have X1 := zH (HC.out.keep (.of_step HSN.out)); clear HC; have HC := X1; clear X1)
 try (have X1 := zH (HD.out.keep (.of_step HSN.out)); clear HD; have HD := X1; clear X1)
 try (have X1 := zH (HE.out.keep (.of_step HSN.out)); clear HE; have HE := X1; clear X1)
 try (have X1 := zH (HZ.out.keep (.of_step HSN.out)); clear HZ; have HZ := X1; clear X1)
 clear HSN
 by_cases h2 : readingsC l rs = 0
 rotate_left
 ·obtain ⟨c, hc⟩ : ∃ c, c = readingsC l rs := ⟨_, rfl⟩
  rw [← hc] at h2 ⊢
  have d1 : (c != 0) = true := by simpa using h2
  clear h2 hc
  go_wp2_with fail
  refine (gwakes_any _).mono ?_
  rintro e wn ⟨rfl, hSn⟩
  have HTn := zH (HT.out.trans hSn)
  clear HT hSn
  go_wp2
  go_ret
  exact ⟨rfl, HTn.out⟩
 rw [h2]
 have HR0 := zH h2
 clear h2
 by_cases hz : ws.length = 0
 ·rw [hz]
  clear hz
  go_wp2_with fail
  refine (gwakes_any _).mono ?_
  rintro e wn ⟨rfl, hSn⟩
  have HTn := zH (HT.out.trans hSn)
  clear HT hSn
  go_wp2
  go_ret
  exact ⟨rfl, HTn.out⟩
 have d0 : ((ws.length : Int) == 0) = false := beq_eq_false_iff_ne.2 (by omega)
 have HWP := zH (show 0 < ws.length by omega)
 have hl1 := HLN.out.1
 have hwh := u8_ofK hwf
 obtain ⟨ix, hix, hil⟩ := rem_lenK hwh.1 (show 0 < l.length by omega)
 have hw1 : IntKind.i64.wrap which = which := by rw [IntKind.wrap_i64]; omega
 have hw2 : wrap64 which = which := by unfold wrap64; omega
 have hw3 : IntKind.i64.wrap (which.tmod (l.length : Int)) = (ix : Int) := by rw [hix, IntKind.wrap_i64]; omega
 have hne : ¬ l = [] := by rintro rfl; simp at hl1
 have hdv : ((l.length : Int) == 0) = false := beq_eq_false_iff_ne.2 (by omega)
 obtain ⟨q2, d2, bl, ol, he, _, _, hp2, hc2, _⟩ := HV.out.fcs
 injection he with he1 he4 he3
 subst he1 he3
 obtain rfl := hp2 (by omega)
 obtain ⟨cf, f1, f2, f3, f4⟩ := hc2 ix hil
 obtain ⟨pf, kf, rfl⟩ := f3.form
 have HEV := zH (even_parts (forecasts_ok HF0.out).2.1 _ (List.getElem_mem hil)).2
 have HFG := zH (show l[ix]? = some l[ix] from List.getElem?_eq_getElem hil)
 obtain ⟨f, hf⟩ : ∃ f, f = l[ix] := ⟨_, rfl⟩
 rw [← hf] at f2 f3 HEV HFG
 have HIN := zH (wind_in ws HEV.out.2)
 obtain ⟨w, hw⟩ : ∃ W, W = wn := ⟨_, rfl⟩
 subst hw
 have HF2 := zH f2
 have HFS := zH f3
 have HIL := zH hil
 clear he4 hp2 hc2 f1 f3 f4 hf f2 hwf
 go_upto_region 6 with (fail)
 clear hix hw1 hw2 hw3 hne hdv d0 hwh
 go_loopw [10, 11] (fun a i wr => ∃ k : Nat, k ≤ f.hours.length ∧ i = .int .i64 k ∧ OwnL (Old w) w.heap.size 3 wr a ((windR f ws).take k) ∧ Below w.heap.size w wr) (fun _ i _ => f.hours.length - (intOf i).toNat)
 case atStart => exact ⟨0, Nat.zero_le _, rfl, OwnL.nil _ _ _ _, Below.refl _ _⟩
 case round =>
  obtain ⟨k, hk, rfl, hown, hB⟩ := hrel
  have HTB := zH (Step.of hB)
  have HO := zH hown
  have HB := zH hB
  obtain ⟨LL, hLL⟩ : ∃ L, L = (windR f ws).take k := ⟨_, rfl⟩
  rw [← hLL] at hown
  obtain ⟨pu, cu, rfl, _⟩ := hown.form
  have HLL := zH hLL
  have f2 := HTB.out.kc HF2.out
  have hixl : (0 : Int) ≤ (ix : Int) ∧ (ix : Int) < (l.length : Int) := by have := HIL.out; omega
  clear hown hB hLL
  by_cases hlk : k < f.hours.length
  ·have hh := HEV.out.2
   obtain ⟨q3, d3, b3, o3, he, _, hm3, hq3, hc3, _⟩ := (SL.go HFS.out HTB.out).rngs
   injection he with he1 he4 he3
   subst he1 he3
   obtain rfl := hq3 (by omega)
   obtain ⟨x0, x1⟩ := hc3 k hlk
   have HRG := zH (List.all_eq_true.1 hh _ (List.getElem_mem hlk))
   have HWK := zH (show windAt f ws k = f.hours[k].lo + wnum ws k % (f.hours[k].hi - f.hours[k].lo + 1) by
    unfold windAt hourAt
    rw [Int.toNat_natCast, List.getD_eq_getElem?_getD, List.getElem?_eq_getElem hlk]; rfl)
   have HWG := zH (show ∀ h : k < (windR f ws).length, (windR f ws)[k] = windAt f ws k by intro h; simp [windR])
   obtain ⟨r, hr⟩ : ∃ r, r = f.hours[k] := ⟨_, rfl⟩
   rw [← hr] at x0 x1 HRG HWK
   obtain ⟨ra, rb⟩ := r
   dsimp only at x0 x1 HWK
   have hrg : 0 ≤ ra ∧ ra ≤ rb ∧ rb ≤ 1000 := by have := HRG.out; simp [rangeB] at this; omega
   obtain ⟨q4, d4, b4, o4, he, _, hm4, hq4, hc4, _⟩ := (SL.go HZ.out HTB.out).u16s
   injection he with he1 he5 he3
   subst he1 he3
   have hwp := HWP.out
   obtain rfl := hq4 (by omega)
   obtain ⟨j, hj, hjl⟩ := rem_lenK (n := (k : Int)) (by omega) hwp
   have hjk : k % ws.length = j := by
    rw [Int.tmod_eq_emod_of_nonneg (by omega)] at hj
    have : ((k % ws.length : Nat) : Int) = (j : Int) := by rw [← hj]; simp
    omega
   have z0 := hc4 j hjl
   have hwn : wnum ws k = ws[j].n := by unfold wnum; rw [hjk, List.getElem?_eq_getElem hjl]
   have hz1 := ws[j].lo
   have hz2 := ws[j].hi
   obtain ⟨g, hg⟩ : ∃ g, g = ws[j].n := ⟨_, rfl⟩
   rw [← hg] at z0 hwn hz1 hz2
   have hq : g.tmod (rb - ra + 1) = g % (rb - ra + 1) := Int.tmod_eq_emod_of_nonneg (by omega)
   have hq1 := Int.emod_nonneg g (show rb - ra + 1 ≠ 0 by omega)
   have hq2 := Int.emod_lt_of_pos g (show 0 < rb - ra + 1 by omega)
   rw [hwn] at HWK
   obtain ⟨y, hy⟩ : ∃ y, y = g % (rb - ra + 1) := ⟨_, rfl⟩
   rw [← hy] at hq hq1 hq2 HWK
   have s1 : IntKind.i64.wrap (rb - ra) = rb - ra := by rw [IntKind.wrap_i64]; omega
   have s2 : IntKind.i64.wrap (rb - ra + 1) = rb - ra + 1 := by rw [IntKind.wrap_i64]; omega
   have s3 : IntKind.i64.wrap (g.tmod (rb - ra + 1)) = y := by rw [hq, IntKind.wrap_i64]; omega
   have s4 : IntKind.i64.wrap (ra + y) = ra + y := by rw [IntKind.wrap_i64]; omega
   have s5 : IntKind.i64.wrap g = g := by rw [IntKind.wrap_i64]; omega
   have s6 : wrap64 g = g := by unfold wrap64; omega
   have s7 : IntKind.i64.wrap ((k : Int).tmod (ws.length : Int)) = (j : Int) := by rw [hj, IntKind.wrap_i64]; omega
   have s8 : ¬ (rb - ra + 1 = 0) := by omega
   have s9 : ¬ ws = [] := by rintro rfl; simp at hwp
   have hixk : (0 : Int) ≤ (k : Int) ∧ (k : Int) < (f.hours.length : Int) := by omega
   have hixj : (0 : Int) ≤ (j : Int) ∧ (j : Int) < (ws.length : Int) := by omega
   have sa : ((k : Int) % (ws.length : Int)) = (j : Int) := by rw [← hjk]; simp
   have sb : IntKind.i64.wrap (j : Int) = (j : Int) := by rw [IntKind.wrap_i64]; omega
   have HSJ := zH (And.intro hjk (And.intro sa (And.intro sb (And.intro hj hq))))
   clear sa sb
   have HSS := zH (And.intro s1 (And.intro s2 (And.intro s3 (And.intro s4 (And.intro s5 (And.intro s6 (And.intro s7 (And.intro s8 s9))))))))
   have HZ0 := zH z0
   obtain ⟨wo, hwo⟩ : ∃ W, W = wr.alloc (.cells #[.int .i64 ra, .int .i64 rb] 95) := ⟨_, rfl⟩
   have hS8 : Step wr wo := by subst hwo; exact Step.alloc _ _
   have hbx : Bx wo wr.heap.size [.int .i64 ra, .int .i64 rb] 95 := by subst hwo; exact Bx.new _ [_, _] _
   have HS8 := zH hS8
   have HBX := zH hbx
   have HWO := zH hwo
   clear hh he4 he5 hq3 hc3 hq4 hc4 hr hwn hg hq hq1 hq2 hy s1 s2 s3 s4 s5 s6 s7 s8 s9 z0 hj hjk hz1 hz2 hrg hwp hjl hS8 hbx hwo
   go_upto_region 9 with (fail)
   clear f2 x0 x1
   rw [← HWO.out]
   refine wp_region_seq (kdOf [19] []) [0, 0, 2, 0, 0, 0, 32, 112, 248, 504, 1016, 0, 2048, 0, 8192, 30720, 63488, 131064, 262142, 524286, 1048575, 2097151] [0, 1, 2, 3, 4, 5, 6, 7, 8, 9, 10, 11, 12, 13, 14, 15, 16, 17, 18, 19] [20, 21] (by kernel_rfl) (by kernel_rfl) (fun i T z hi hk => by simp [kdOf] at hk <;> (try (split at hk <;> cases hk))) ?_
   intro Wx hWx
   have HX := zH hWx
   have HT0 := HT
   clear HT
   have HT := zH (HS8.out.trans hWx)
   clear hWx
   have y0 := (HBX.out.step HX.out).cell 0
   have y1 := (HBX.out.step HX.out).cell 1
   simp only [zD, zE] at y0 y1
   have z0 := HT.out.kc HZ0.out
   obtain ⟨s1, s2, s3, s4, s5, s6, s7, s8, s9⟩ := HSS.out
   obtain ⟨t1, t2, t3, t4, t5⟩ := HSJ.out
   repeat ((first | (refine run_off rfl rfl (by rfl) ?_) | (refine run_chain_off rfl rfl (by rfl) (K0_mono _) ?_) | ((refine run_want rfl rfl (by rfl) ⟨?_, fun W hW => ?_, ?_⟩; rotate_left; (· (have d0 := hW.kc y0; have d1 := hW.kc y1; have d2 := hW.kc z0; go_simp; (try with_reducible rfl)))))); (try simp only [Act.put, zA, zB, zC]))
   clear t1 t2 t3 t4 t5 y0 y1 z0 s1 s2 s3 s4 s5 s6 s7 s8 s9
   have hlt : k < (windR f ws).length := by simpa [windR] using hlk
   have hwlen : (windR f ws).length ≤ 1000 := by have := HN.out.2; have := HEV.out.1; simp [windR]; omega
   have HRR := zH (show [Value.int .i64 (ra + y)] = [Value.int .i64 (windR f ws)[k]] by rw [HWG.out, HWK.out])
   refine run_chain rfl rfl (by rfl) (fun W1 hW1 K' hK' => ?_)
   go_simp
   refine hK' _ _ (.of (Step.alloc _ _)) ?_
   (try simp only [Act.put, zA, zB, zC])
   refine run_end (L := [_, _]) rfl (fun W2 hW2 => ?_)
   have hST := HT.out.trans hW1
   have hown2 := ((HO.out.step hST).alloc (.cells #[.int .i64 (ra + y)] 3)).step hW2
   have hu := (SLe.one (S := avoid (Old w) (.slice pu LL.length cu)) (w := W1) (cs := [.int .i64 (ra + y)]) (x := (windR f ws)[k]) 3 HRR.out).step hW2
   have hB2 := ((HB.out.step (Nat.le_refl _) hST).step (Nat.le_refl _) (Step.alloc _ (.cells #[.int .i64 (ra + y)] 3))).step (Nat.le_refl _) hW2
   clear hW1 hW2 hK' hST
   go_wp2_with (at_builtin; refine wpl_append1 (l := (windR f ws)) (k := k) eiInts rfl _ _ rfl rfl rfl hown2 hlt (by omega) (by decide) hu hB2 (Nat.le_refl _) ?_)
   intro p' c' w2 hown3 hB3 _
   have H3 := zH (And.intro hown3 hB3)
   clear hown2 hu hB2 hown3 hB3
   go_wp2
   go_roundw
   case rel => exact ⟨k + 1, by omega, by go_num, H3.out.1, H3.out.2⟩
   case measure => simp [intOf]; omega
  ·have hke : k = f.hours.length := by omega
   subst hke
   have HWN := zH (show LL = windR f ws by rw [HLL.out, List.take_of_length_le (by simp [windR])])
   have HWL := zH (show LL.length = f.hours.length by rw [HWN.out]; simp [windR])
   have hSn := HTB.out
   have X0 := zH (sl0 HO.out.fresh)
   clear HO HB HTB
   have HSN := zH hSn
   have HTn := zH (HT.out.trans hSn)
   clear HT hSn
   have HT := HTn
   clear HTn
   try (have X1 := zH (HV.out.keep (.of_step HSN.out)); clear HV; have HV := X1; clear X1)
   try (have X1 := zH (HU.out.keep (.of_step HSN.out)); clear HU; have HU := X1; clear X1)
   try (have X1 := zH (HF.out.keep (.of_step HSN.out)); clear HF; have HF := X1; clear X1)
   try (have X1 := zH (HR.out.keep (.of_step HSN.out)); clear HR; have HR := X1; clear X1)
   try (have X1 := zH (HA.out.keep (.of_step HSN.out)); clear HA; have HA := X1; clear X1)
   try (have X1 := zH (HB.out.keep (.of_step HSN.out)); clear HB; have HB := X1; clear X1)
   try (have X1 := zH (HC.out.keep (.of_step HSN.out)); clear HC; have HC := X1; clear X1)
   try (have X1 := zH (HD.out.keep (.of_step HSN.out)); clear HD; have HD := X1; clear X1)
   try (have X1 := zH (HE.out.keep (.of_step HSN.out)); clear HE; have HE := X1; clear X1)
   try (have X1 := zH (HZ.out.keep (.of_step HSN.out)); clear HZ; have HZ := X1; clear X1)
   clear HSN
   have HA := X0
   clear X0
   obtain ⟨w1, hw1⟩ : ∃ W, W = wr := ⟨_, rfl⟩
   subst hw1
   clear hk hlk HF2 HFS
   go_upto_region 12 with (fail)
   clear f2
   rw [show List.take f.hours.length (windR f ws) = windR f ws from List.take_of_length_le (by simp [windR])] at HA
   rw [HWN.out] at HA ⊢
   have hwlen : (windR f ws).length ≤ 48 := by have := HN.out.2; have := HEV.out.1; simp [windR]; omega
   obtain ⟨wd, hwd⟩ : ∃ L, L = windR f ws := ⟨_, rfl⟩
   rw [← hwd] at HA HIN hwlen ⊢
   obtain ⟨ard, hard⟩ : ∃ L, L = aroundR wd rs := ⟨_, rfl⟩
   clear hwd HWN HLL HWL
   obtain ⟨pw, hpw⟩ : ∃ z, z = pu := ⟨_, rfl⟩
   obtain ⟨kw, hkw⟩ : ∃ z, z = cu := ⟨_, rfl⟩
   subst hpw hkw
   have HRD := zH (show readC l rs = 0 by unfold readC; rw [if_pos HF0.out]; exact HR0.out)
   have HFX := zH (List.getElem?_eq_some_iff.1 HFG.out)
   have HHR := zH (show ∀ x ∈ rs, 0 ≤ x.hour ∧ x.hour < f.hours.length by
    intro x hx
    have := (read_hours HRD.out).2.2 ix HIL.out x hx
    obtain ⟨_, e⟩ := HFX.out
    rwa [e] at this)
   have HRR := zH (rdgs_ok HRD.out)
   have hml := (read_hours HRD.out).2.1
   have HAL := zH (show ard.length = rs.length by rw [hard]; simp [aroundR])
   have hal2 : ard.length ≤ 60 := by rw [HAL.out]; exact hml
   have HAR := zH hard
   clear hard
   go_loopw [13, 14] (fun a i wr => ∃ k : Nat, k ≤ rs.length ∧ i = .int .i64 k ∧ OwnL (Old w1) w1.heap.size 101 wr a (ard.take k) ∧ Below w1.heap.size w1 wr) (fun _ i _ => rs.length - (intOf i).toNat)
   case atStart => exact ⟨0, Nat.zero_le _, rfl, OwnL.nil _ _ _ _, Below.refl _ _⟩
   case round =>
    obtain ⟨k, hk, rfl, hown, hB⟩ := hrel
    have HTB := zH (Step.of hB)
    have HO := zH hown
    have HB := zH hB
    obtain ⟨LL, hLL⟩ : ∃ L, L = ard.take k := ⟨_, rfl⟩
    rw [← hLL] at hown
    obtain ⟨pu, cu, rfl, _⟩ := hown.form
    have HLL := zH hLL
    clear hown hB hLL
    by_cases hlk : k < rs.length
    ·obtain ⟨q3, d3, b3, o3, he, _, hm3, hq3, hc3, _⟩ := (SL.go HU.out HTB.out).rdgs
     injection he with he1 he4 he3
     subst he1 he3
     obtain rfl := hq3 (by omega)
     obtain ⟨r0, r1, r2⟩ := hc3 k hlk
     have hh := HHR.out _ (List.getElem_mem hlk)
     have hrx := HRR.out _ (List.getElem_mem hlk)
     have HAK := zH (show ∀ h : k < ard.length, ard[k] = (⟨rs[k].hour, max 0 (wd.getD rs[k].hour.toNat 0 - rs[k].lo % 10), min 1000 (wd.getD rs[k].hour.toNat 0 + rs[k].hi % 10)⟩ : Rdg) by
      have := HAR.out
      subst this
      intro h; simp [aroundR])
     obtain ⟨x, hx⟩ : ∃ x, x = rs[k] := ⟨_, rfl⟩
     rw [← hx] at r0 r1 r2 hh hrx HAK
     obtain ⟨xh, xa, xb⟩ := x
     dsimp only at r0 r1 r2 hh hrx
     obtain ⟨z, rfl⟩ : ∃ z : Nat, xh = z := ⟨xh.toNat, by omega⟩
     have hzf : z < f.hours.length := by omega
     have hzw : z < wd.length := by rw [HIN.out.1]; exact hzf
     have hin := HIN.out.2 z hzf
     have hrz := List.all_eq_true.1 HEV.out.2 _ (List.getElem_mem hzf)
     rw [show hourAt f (z : Int) = f.hours[z] by
      unfold hourAt
      rw [Int.toNat_natCast, List.getD_eq_getElem?_getD, List.getElem?_eq_getElem hzf]; rfl] at hin
     simp only [rangeB, Bool.and_eq_true, decide_eq_true_eq] at hrx hrz
     rw [List.getD_eq_getElem?_getD, List.getElem?_eq_getElem hzw, Option.getD_some] at hin
     have HAK2 := zH (show ∀ h : k < ard.length, ard[k] = (⟨(z : Int), max 0 (wd[z] - xa % 10), min 1000 (wd[z] + xb % 10)⟩ : Rdg) by
      intro h
      rw [HAK.out h]
      rw [Int.toNat_natCast, List.getD_eq_getElem?_getD, List.getElem?_eq_getElem hzw, Option.getD_some])
     obtain ⟨q5, d5, b5, o5, he, _, hm5, hq5, hc5, _⟩ := (SL.go HA.out HTB.out).ints
     injection he with he1 he6 he3
     subst he1 he3
     obtain rfl := hq5 (by omega)
     have y0 := hc5 z hzw
     obtain ⟨y, hy⟩ : ∃ y, y = wd[z] := ⟨_, rfl⟩
     rw [← hy] at y0 hin HAK2
     have hyb : 0 ≤ y ∧ y ≤ 1000 := by omega
     obtain ⟨m1, hm1⟩ : ∃ m, m = xa % 10 := ⟨_, rfl⟩
     obtain ⟨m2, hm2⟩ : ∃ m, m = xb % 10 := ⟨_, rfl⟩
     have t1 : xa.tmod 10 = m1 := by rw [hm1]; exact Int.tmod_eq_emod_of_nonneg (by omega)
     have t2 : xb.tmod 10 = m2 := by rw [hm2]; exact Int.tmod_eq_emod_of_nonneg (by omega)
     rw [← hm1, ← hm2] at HAK2
     have t3 : 0 ≤ m1 ∧ m1 < 10 ∧ 0 ≤ m2 ∧ m2 < 10 := by omega
     have s1 : IntKind.i64.wrap m1 = m1 := by rw [IntKind.wrap_i64]; omega
     have s2 : IntKind.i64.wrap m2 = m2 := by rw [IntKind.wrap_i64]; omega
     have s3 : IntKind.i64.wrap (y - m1) = y - m1 := by rw [IntKind.wrap_i64]; omega
     have s4 : IntKind.i64.wrap (y + m2) = y + m2 := by rw [IntKind.wrap_i64]; omega
     have HSS := zH (And.intro t1 (And.intro t2 (And.intro s1 (And.intro s2 (And.intro s3 s4)))))
     have hixk : (0 : Int) ≤ (k : Int) ∧ (k : Int) < (rs.length : Int) := by omega
     have hixz : (0 : Int) ≤ (z : Int) ∧ (z : Int) < (wd.length : Int) := by omega
     have HRW := zH (And.intro r0 (And.intro r1 r2))
     have hlt : k < ard.length := by rw [HAL.out]; exact hlk
     clear he4 hq3 hc3 hh hrx hx hzf hin hrz he6 hq5 hc5 hy hm1 hm2 t1 t2 s1 s2 s3 s4 HAK
     go_upto_region 15 with (fail)
     clear r0 r1 r2 y0
     refine wp_region_seq (kdOf [28] []) (0 :: 0 :: 0 :: 6 :: 14 :: 30 :: 0 :: 0 :: 0 :: 384 :: 896 :: 1920 :: 3968 :: 8064 :: 16320 :: 32704 :: 0 :: 0 :: 0 :: 393216 :: 917504 :: 1966080 :: 4063232 :: 8257536 :: 16711680 :: 33488896 :: 67108800 :: 134217726 :: 268435454 :: 536870911 :: 1073741823 :: []) (0 :: 1 :: 2 :: 3 :: 4 :: 5 :: 6 :: 7 :: 8 :: 9 :: 10 :: 11 :: 12 :: 13 :: 14 :: 15 :: 16 :: 17 :: 18 :: 19 :: 20 :: 21 :: 22 :: 23 :: 24 :: 25 :: 26 :: 27 :: 28 :: []) [29, 30] (by kernel_rfl) (by kernel_rfl) (fun i T z hi hk => by simp [kdOf] at hk <;> (try (split at hk <;> cases hk))) ?_
     intro Wx hWx
     have HT0 := HT
     clear HT
     have HT := zH ((Step.refl wr).trans hWx)
     clear hWx
     have r0 := HT.out.kc HRW.out.1
     have r1 := HT.out.kc HRW.out.2.1
     have r2 := HT.out.kc HRW.out.2.2
     obtain ⟨t1, t2, s1, s2, s3, s4⟩ := HSS.out
     by_cases a1 : m1 < y
     ·have a3 : 0 < y - m1 := by omega
      by_cases a2 : y + m2 < 1000
      ·have HRRX := zH (show [Value.int .i64 (z : Int), .int .i64 (y - m1), .int .i64 (y + m2)] = [Value.int .i64 ard[k].hour, .int .i64 ard[k].lo, .int .i64 ard[k].hi] by rw [HAK2.out hlt]; dsimp only; rw [show max 0 (y - m1) = y - m1 by omega, show min 1000 (y + m2) = y + m2 by omega])
       repeat ((first | (refine run_off rfl rfl (by rfl) ?_) | (refine run_chain_off rfl rfl (by rfl) (K0_mono _) ?_) | ((refine run_want rfl rfl (by rfl) ⟨?_, fun W hW => ?_, ?_⟩; rotate_left; (· (have d0 := hW.kc r0; have d1 := hW.kc r1; have d2 := hW.kc r2; go_simp; (try with_reducible rfl)))))); (try simp only [Act.put, zA, zB, zC]))
       clear r0 r1 r2 t1 t2 s1 s2 s3 s4 a1 a2 a3
       refine run_chain rfl rfl (by rfl) (fun W1 hW1 K' hK' => ?_)
       go_simp
       refine hK' _ _ (.of (Step.alloc _ _)) ?_
       (try simp only [Act.put, zA, zB, zC])
       refine run_end (L := [_, _]) rfl (fun W2 hW2 => ?_)
       have hST := HT.out.trans hW1
       have hown2 := ((HO.out.step hST).alloc (.cells #[.int .i64 (z : Int), .int .i64 (y - m1), .int .i64 (y + m2)] 101)).step hW2
       have hu := (SLe.one (S := avoid (Old w1) (.slice pu LL.length cu)) (w := W1) (cs := [.int .i64 (z : Int), .int .i64 (y - m1), .int .i64 (y + m2)]) (x := ard[k]) 101 HRRX.out).step hW2
       have hB2 := ((HB.out.step (Nat.le_refl _) hST).step (Nat.le_refl _) (Step.alloc _ (.cells #[.int .i64 (z : Int), .int .i64 (y - m1), .int .i64 (y + m2)] 101))).step (Nat.le_refl _) hW2
       clear hW1 hW2 hK' hST
       go_wp2_with (at_builtin; refine wpl_append1 (l := ard) (k := k) eiGReadings rfl _ _ rfl rfl rfl hown2 hlt (by omega) (by decide) hu hB2 (Nat.le_refl _) ?_)
       intro p' c' w2 hown3 hB3 _
       have H3 := zH (And.intro hown3 hB3)
       clear hown2 hu hB2 hown3 hB3
       go_wp2
       go_roundw
       case rel => exact ⟨k + 1, by omega, by go_num, H3.out.1, H3.out.2⟩
       case measure => simp [intOf]; omega
      ·have HRRX := zH (show [Value.int .i64 (z : Int), .int .i64 (y - m1), .int .i64 1000] = [Value.int .i64 ard[k].hour, .int .i64 ard[k].lo, .int .i64 ard[k].hi] by rw [HAK2.out hlt]; dsimp only; rw [show max 0 (y - m1) = y - m1 by omega, show min 1000 (y + m2) = 1000 by omega])
       repeat ((first | (refine run_off rfl rfl (by rfl) ?_) | (refine run_chain_off rfl rfl (by rfl) (K0_mono _) ?_) | ((refine run_want rfl rfl (by rfl) ⟨?_, fun W hW => ?_, ?_⟩; rotate_left; (· (have d0 := hW.kc r0; have d1 := hW.kc r1; have d2 := hW.kc r2; go_simp; (try with_reducible rfl)))))); (try simp only [Act.put, zA, zB, zC]))
       clear r0 r1 r2 t1 t2 s1 s2 s3 s4 a1 a2 a3
       refine run_chain rfl rfl (by rfl) (fun W1 hW1 K' hK' => ?_)
       go_simp
       refine hK' _ _ (.of (Step.alloc _ _)) ?_
       (try simp only [Act.put, zA, zB, zC])
       refine run_end (L := [_, _]) rfl (fun W2 hW2 => ?_)
       have hST := HT.out.trans hW1
       have hown2 := ((HO.out.step hST).alloc (.cells #[.int .i64 (z : Int), .int .i64 (y - m1), .int .i64 1000] 101)).step hW2
       have hu := (SLe.one (S := avoid (Old w1) (.slice pu LL.length cu)) (w := W1) (cs := [.int .i64 (z : Int), .int .i64 (y - m1), .int .i64 1000]) (x := ard[k]) 101 HRRX.out).step hW2
       have hB2 := ((HB.out.step (Nat.le_refl _) hST).step (Nat.le_refl _) (Step.alloc _ (.cells #[.int .i64 (z : Int), .int .i64 (y - m1), .int .i64 1000] 101))).step (Nat.le_refl _) hW2
       clear hW1 hW2 hK' hST
       go_wp2_with (at_builtin; refine wpl_append1 (l := ard) (k := k) eiGReadings rfl _ _ rfl rfl rfl hown2 hlt (by omega) (by decide) hu hB2 (Nat.le_refl _) ?_)
       intro p' c' w2 hown3 hB3 _
       have H3 := zH (And.intro hown3 hB3)
       clear hown2 hu hB2 hown3 hB3
       go_wp2
       go_roundw
       case rel => exact ⟨k + 1, by omega, by go_num, H3.out.1, H3.out.2⟩
       case measure => simp [intOf]; omega
     ·have a3 : ¬ 0 < y - m1 := by omega
      by_cases a2 : y + m2 < 1000
      ·have HRRX := zH (show [Value.int .i64 (z : Int), .int .i64 0, .int .i64 (y + m2)] = [Value.int .i64 ard[k].hour, .int .i64 ard[k].lo, .int .i64 ard[k].hi] by rw [HAK2.out hlt]; dsimp only; rw [show max 0 (y - m1) = 0 by omega, show min 1000 (y + m2) = y + m2 by omega])
       repeat ((first | (refine run_off rfl rfl (by rfl) ?_) | (refine run_chain_off rfl rfl (by rfl) (K0_mono _) ?_) | ((refine run_want rfl rfl (by rfl) ⟨?_, fun W hW => ?_, ?_⟩; rotate_left; (· (have d0 := hW.kc r0; have d1 := hW.kc r1; have d2 := hW.kc r2; go_simp; (try with_reducible rfl)))))); (try simp only [Act.put, zA, zB, zC]))
       clear r0 r1 r2 t1 t2 s1 s2 s3 s4 a1 a2 a3
       refine run_chain rfl rfl (by rfl) (fun W1 hW1 K' hK' => ?_)
       go_simp
       refine hK' _ _ (.of (Step.alloc _ _)) ?_
       (try simp only [Act.put, zA, zB, zC])
       refine run_end (L := [_, _]) rfl (fun W2 hW2 => ?_)
       have hST := HT.out.trans hW1
       have hown2 := ((HO.out.step hST).alloc (.cells #[.int .i64 (z : Int), .int .i64 0, .int .i64 (y + m2)] 101)).step hW2
       have hu := (SLe.one (S := avoid (Old w1) (.slice pu LL.length cu)) (w := W1) (cs := [.int .i64 (z : Int), .int .i64 0, .int .i64 (y + m2)]) (x := ard[k]) 101 HRRX.out).step hW2
       have hB2 := ((HB.out.step (Nat.le_refl _) hST).step (Nat.le_refl _) (Step.alloc _ (.cells #[.int .i64 (z : Int), .int .i64 0, .int .i64 (y + m2)] 101))).step (Nat.le_refl _) hW2
       clear hW1 hW2 hK' hST
       go_wp2_with (at_builtin; refine wpl_append1 (l := ard) (k := k) eiGReadings rfl _ _ rfl rfl rfl hown2 hlt (by omega) (by decide) hu hB2 (Nat.le_refl _) ?_)
       intro p' c' w2 hown3 hB3 _
       have H3 := zH (And.intro hown3 hB3)
       clear hown2 hu hB2 hown3 hB3
       go_wp2
       go_roundw
       case rel => exact ⟨k + 1, by omega, by go_num, H3.out.1, H3.out.2⟩
       case measure => simp [intOf]; omega
      ·exfalso; omega
    ·have hke : k = rs.length := by omega
     subst hke
     have hSn := HTB.out
     have HEQ := zH (show LL = ard by rw [HLL.out, List.take_of_length_le (by rw [HAL.out]; exact Nat.le_refl _)])
     have X0 := zH (sl0 HO.out.fresh)
     clear HO HB HTB
     have HSN := zH hSn
     have HTn := zH (HT.out.trans hSn)
     clear HT hSn
     have HT := HTn
     clear HTn
     try (have X1 := zH (HV.out.keep (.of_step HSN.out)); clear HV; have HV := X1; clear X1)
     try (have X1 := zH (HU.out.keep (.of_step HSN.out)); clear HU; have HU := X1; clear X1)
     try (have X1 := zH (HF.out.keep (.of_step HSN.out)); clear HF; have HF := X1; clear X1)
     try (have X1 := zH (HR.out.keep (.of_step HSN.out)); clear HR; have HR := X1; clear X1)
     try (have X1 := zH (HA.out.keep (.of_step HSN.out)); clear HA; have HA := X1; clear X1)
     try (have X1 := zH (HB.out.keep (.of_step HSN.out)); clear HB; have HB := X1; clear X1)
     try (have X1 := zH (HC.out.keep (.of_step HSN.out)); clear HC; have HC := X1; clear X1)
     try (have X1 := zH (HD.out.keep (.of_step HSN.out)); clear HD; have HD := X1; clear X1)
     try (have X1 := zH (HE.out.keep (.of_step HSN.out)); clear HE; have HE := X1; clear X1)
     try (have X1 := zH (HZ.out.keep (.of_step HSN.out)); clear HZ; have HZ := X1; clear X1)
     clear HSN
     have HC := X0
     clear X0
     rw [show ard.take rs.length = ard from List.take_of_length_le (by rw [HAL.out]; exact Nat.le_refl _)] at HC
     rw [HEQ.out] at HC ⊢
     obtain ⟨pa, hpa⟩ : ∃ z, z = pu := ⟨_, rfl⟩
     obtain ⟨ka, hka⟩ : ∃ z, z = cu := ⟨_, rfl⟩
     subst hpa hka
     obtain ⟨w2, hw2⟩ : ∃ W, W = wr := ⟨_, rfl⟩
     subst hw2
     have HRA := zH (show readC l ard = 0 ∧ ∀ d, readC l (ard.take d) = 0 by rw [HAR.out]; exact kept_read HF0.out HR0.out HFG.out HIN.out)
     have HKL := zH (show ix ∈ leftN l ard l.length by rw [HAR.out]; exact kept_left HF0.out HR0.out HFG.out HIN.out)
     have HKW := zH (show ∀ h, h < f.hours.length → wd.getD h 0 ≤ worstF l (leftN l ard l.length) h by rw [HAR.out]; intro h hh; exact kept_worst HF0.out HR0.out HFG.out HIN.out hh)
     have HWC := zH (worst_left HRA.out.1 HKL.out)
     have HWL := zH (show wd.length = hoursN l by rw [HIN.out.1]; exact HEV.out.1)
     clear hk hlk HEQ HLL HRD HHR HRR HR0 hml
     go_wp2_with fail
     refine (Forecasts_any (fun _ => False) l _ _ HV.out HLB.out.1 HLB.out.2.2).mono ?_
     rintro e wn ⟨v1, rfl, hv1, hSn⟩
     obtain ⟨pHF, kHF, rfl⟩ := hv1.form
     have X0 := zH (sl0 hv1)
     clear hv1
     have HSN := zH hSn
     have HTn := zH (HT.out.trans hSn)
     clear HT hSn
     have HT := HTn
     clear HTn
     try (have X1 := zH (HV.out.keep (.of_step HSN.out)); clear HV; have HV := X1; clear X1)
     try (have X1 := zH (HU.out.keep (.of_step HSN.out)); clear HU; have HU := X1; clear X1)
     try (have X1 := zH (HF.out.keep (.of_step HSN.out)); clear HF; have HF := X1; clear X1)
     try (have X1 := zH (HR.out.keep (.of_step HSN.out)); clear HR; have HR := X1; clear X1)
     try (have X1 := zH (HA.out.keep (.of_step HSN.out)); clear HA; have HA := X1; clear X1)
     try (have X1 := zH (HB.out.keep (.of_step HSN.out)); clear HB; have HB := X1; clear X1)
     try (have X1 := zH (HC.out.keep (.of_step HSN.out)); clear HC; have HC := X1; clear X1)
     try (have X1 := zH (HD.out.keep (.of_step HSN.out)); clear HD; have HD := X1; clear X1)
     try (have X1 := zH (HE.out.keep (.of_step HSN.out)); clear HE; have HE := X1; clear X1)
     try (have X1 := zH (HZ.out.keep (.of_step HSN.out)); clear HZ; have HZ := X1; clear X1)
     clear HSN
     have HF := X0
     clear X0
     go_wp2_with fail
     refine (Strikes_any (fun _ => False) l ard _ _ _ HF.out HC.out).mono ?_
     rintro e wn ⟨v1, v2, rfl, hok, hno, hSn⟩
     rw [HRA.out.1] at hok ⊢
     obtain ⟨ha, hb⟩ := hok rfl
     obtain ⟨la, hla⟩ : ∃ L, L = leftI l ard l.length := ⟨_, rfl⟩
     rw [← hla] at ha
     have HLA := zH (show la.any (fun y => decide (y = (ix : Int))) = true by
      rw [hla, List.any_eq_true]
      exact ⟨(ix : Int), List.mem_map.2 ⟨ix, HKL.out, rfl⟩, by simp⟩)
     obtain ⟨p1, k1, rfl⟩ := ha.form
     obtain ⟨p2, k2, rfl⟩ := hb.form
     have X0 := zH (sl0 ha)
     clear ha hb hla hok hno HF
     have HSN := zH hSn
     have HTn := zH (HT.out.trans hSn)
     clear HT hSn
     have HT := HTn
     clear HTn
     try (have X1 := zH (HV.out.keep (.of_step HSN.out)); clear HV; have HV := X1; clear X1)
     try (have X1 := zH (HU.out.keep (.of_step HSN.out)); clear HU; have HU := X1; clear X1)
     try (have X1 := zH (HF.out.keep (.of_step HSN.out)); clear HF; have HF := X1; clear X1)
     try (have X1 := zH (HR.out.keep (.of_step HSN.out)); clear HR; have HR := X1; clear X1)
     try (have X1 := zH (HA.out.keep (.of_step HSN.out)); clear HA; have HA := X1; clear X1)
     try (have X1 := zH (HB.out.keep (.of_step HSN.out)); clear HB; have HB := X1; clear X1)
     try (have X1 := zH (HC.out.keep (.of_step HSN.out)); clear HC; have HC := X1; clear X1)
     try (have X1 := zH (HD.out.keep (.of_step HSN.out)); clear HD; have HD := X1; clear X1)
     try (have X1 := zH (HE.out.keep (.of_step HSN.out)); clear HE; have HE := X1; clear X1)
     try (have X1 := zH (HZ.out.keep (.of_step HSN.out)); clear HZ; have HZ := X1; clear X1)
     clear HSN
     have HD := X0
     clear X0
     try clear HF
     go_wp2_with fail
     refine (Forecasts_any (fun _ => False) l _ _ HV.out HLB.out.1 HLB.out.2.2).mono ?_
     rintro e wn ⟨v1, rfl, hv1, hSn⟩
     obtain ⟨pHF, kHF, rfl⟩ := hv1.form
     have X0 := zH (sl0 hv1)
     clear hv1
     have HSN := zH hSn
     have HTn := zH (HT.out.trans hSn)
     clear HT hSn
     have HT := HTn
     clear HTn
     try (have X1 := zH (HV.out.keep (.of_step HSN.out)); clear HV; have HV := X1; clear X1)
     try (have X1 := zH (HU.out.keep (.of_step HSN.out)); clear HU; have HU := X1; clear X1)
     try (have X1 := zH (HF.out.keep (.of_step HSN.out)); clear HF; have HF := X1; clear X1)
     try (have X1 := zH (HR.out.keep (.of_step HSN.out)); clear HR; have HR := X1; clear X1)
     try (have X1 := zH (HA.out.keep (.of_step HSN.out)); clear HA; have HA := X1; clear X1)
     try (have X1 := zH (HB.out.keep (.of_step HSN.out)); clear HB; have HB := X1; clear X1)
     try (have X1 := zH (HC.out.keep (.of_step HSN.out)); clear HC; have HC := X1; clear X1)
     try (have X1 := zH (HD.out.keep (.of_step HSN.out)); clear HD; have HD := X1; clear X1)
     try (have X1 := zH (HE.out.keep (.of_step HSN.out)); clear HE; have HE := X1; clear X1)
     try (have X1 := zH (HZ.out.keep (.of_step HSN.out)); clear HZ; have HZ := X1; clear X1)
     clear HSN
     have HF := X0
     clear X0
     go_wp2_with fail
     refine (Worst_any (fun _ => False) l ard _ _ _ HF.out HC.out).mono ?_
     rintro e wn ⟨v1, rfl, hv1, hSn⟩
     rw [HWC.out.2] at hv1
     rw [HWC.out.1]
     obtain ⟨lw, hlw⟩ : ∃ L, L = worstL l (leftN l ard l.length) := ⟨_, rfl⟩
     rw [← hlw] at hv1
     have HLW := zH (show lw.length = wd.length by rw [hlw, HWL.out]; simp [worstL])
     have HLG := zH (show ∀ h (hh : h < lw.length), lw[h] = worstF l (leftN l ard l.length) h by subst hlw; intro h hh; simp [worstL])
     clear hlw HF
     obtain ⟨pHE, kHE, rfl⟩ := hv1.form
     have X0 := zH (sl0 hv1)
     clear hv1
     have HSN := zH hSn
     have HTn := zH (HT.out.trans hSn)
     clear HT hSn
     have HT := HTn
     clear HTn
     try (have X1 := zH (HV.out.keep (.of_step HSN.out)); clear HV; have HV := X1; clear X1)
     try (have X1 := zH (HU.out.keep (.of_step HSN.out)); clear HU; have HU := X1; clear X1)
     try (have X1 := zH (HF.out.keep (.of_step HSN.out)); clear HF; have HF := X1; clear X1)
     try (have X1 := zH (HR.out.keep (.of_step HSN.out)); clear HR; have HR := X1; clear X1)
     try (have X1 := zH (HA.out.keep (.of_step HSN.out)); clear HA; have HA := X1; clear X1)
     try (have X1 := zH (HB.out.keep (.of_step HSN.out)); clear HB; have HB := X1; clear X1)
     try (have X1 := zH (HC.out.keep (.of_step HSN.out)); clear HC; have HC := X1; clear X1)
     try (have X1 := zH (HD.out.keep (.of_step HSN.out)); clear HD; have HD := X1; clear X1)
     try (have X1 := zH (HE.out.keep (.of_step HSN.out)); clear HE; have HE := X1; clear X1)
     try (have X1 := zH (HZ.out.keep (.of_step HSN.out)); clear HZ; have HZ := X1; clear X1)
     clear HSN
     have HE := X0
     clear X0
     have d1 : ((lw.length : Int) != (wd.length : Int)) = false := by rw [HLW.out]; simp
     have hlm := HD.out.len
     have hwm := HA.out.len
     go_upto_region 22 with (fail)
     clear d1
     go_loopw [21, 22] (fun b i wr => ∃ k : Nat, k ≤ la.length ∧ i = .int .i64 k ∧ b = .bool ((la.take k).any (fun y => decide (y = (ix : Int)))) ∧ Step wn wr) (fun _ i _ => la.length - (intOf i).toNat)
     case atStart => exact ⟨0, Nat.zero_le _, rfl, rfl, Step.refl _⟩
     case round =>
      obtain ⟨k, hk, rfl, rfl, hSn⟩ := hrel
      have HTL := zH hSn
      have HSN := zH hSn
      have HTn := zH (HT.out.trans hSn)
      clear HT hSn
      have HT := HTn
      clear HTn
      try (have X1 := zH (HV.out.keep (.of_step HSN.out)); clear HV; have HV := X1; clear X1)
      try (have X1 := zH (HU.out.keep (.of_step HSN.out)); clear HU; have HU := X1; clear X1)
      try (have X1 := zH (HF.out.keep (.of_step HSN.out)); clear HF; have HF := X1; clear X1)
      try (have X1 := zH (HR.out.keep (.of_step HSN.out)); clear HR; have HR := X1; clear X1)
      try (have X1 := zH (HA.out.keep (.of_step HSN.out)); clear HA; have HA := X1; clear X1)
      try (have X1 := zH (HB.out.keep (.of_step HSN.out)); clear HB; have HB := X1; clear X1)
      try (have X1 := zH (HC.out.keep (.of_step HSN.out)); clear HC; have HC := X1; clear X1)
      try (have X1 := zH (HD.out.keep (.of_step HSN.out)); clear HD; have HD := X1; clear X1)
      try (have X1 := zH (HE.out.keep (.of_step HSN.out)); clear HE; have HE := X1; clear X1)
      try (have X1 := zH (HZ.out.keep (.of_step HSN.out)); clear HZ; have HZ := X1; clear X1)
      clear HSN
      by_cases hlt : k < la.length
      ·obtain ⟨q2, d2, b2, o2, he, _, _, hq2, hc2, _⟩ := HD.out.ints
       injection he with he1 he4 he3
       subst he1 he3
       obtain rfl := hq2 (by omega)
       have e0 := hc2 k hlt
       have hixk : (0 : Int) ≤ (k : Int) ∧ (k : Int) < (la.length : Int) := by omega
       have HNX := zH (any_next (x := (ix : Int)) hlt)
       obtain ⟨y, hy⟩ : ∃ y, y = la[k] := ⟨_, rfl⟩
       rw [← hy] at e0 HNX
       obtain ⟨b, hb⟩ : ∃ b, b = (la.take k).any (fun y => decide (y = (ix : Int))) := ⟨_, rfl⟩
       rw [← hb] at HNX ⊢
       clear he4 hq2 hc2 hy hb
       cases b with
       | true =>
        go_wp2
        go_roundw
        case rel => exact ⟨k + 1, by omega, by go_num, by rw [HNX.out]; rfl, HTL.out⟩
        case measure => simp [intOf]; omega
       | false =>
        by_cases e : y = (ix : Int)
        ·have dd : (y == (ix : Int)) = true := by simpa using e
         have HN2 := zH (HNX.out.trans (show _ = true by simp [e]))
         clear e
         go_wp2
         go_roundw
         case rel => exact ⟨k + 1, by omega, by go_num, by rw [HN2.out], HTL.out⟩
         case measure => simp [intOf]; omega
        ·have dd : (y == (ix : Int)) = false := by simpa using e
         have HN2 := zH (HNX.out.trans (show _ = false by simp [e]))
         clear e
         go_wp2
         go_roundw
         case rel => exact ⟨k + 1, by omega, by go_num, by rw [HN2.out], HTL.out⟩
         case measure => simp [intOf]; omega
      ·have hke : k = la.length := by omega
       subst hke
       rw [List.take_length, HLA.out]
       obtain ⟨w3, hw3⟩ : ∃ W, W = wr := ⟨_, rfl⟩
       subst hw3
       clear hk hlt HTL hlm
       go_upto_region 26 with (fail)
       go_loopw [23] (fun i wr => ∃ k : Nat, k ≤ wd.length ∧ i = .int .i64 k ∧ Step w3 wr) (fun i _ => wd.length - (intOf i).toNat)
       case atStart => exact ⟨0, Nat.zero_le _, rfl, Step.refl _⟩
       case round =>
        obtain ⟨k, hk, rfl, hSn⟩ := hrel
        have HTL := zH hSn
        have HSN := zH hSn
        have HTn := zH (HT.out.trans hSn)
        clear HT hSn
        have HT := HTn
        clear HTn
        try (have X1 := zH (HV.out.keep (.of_step HSN.out)); clear HV; have HV := X1; clear X1)
        try (have X1 := zH (HU.out.keep (.of_step HSN.out)); clear HU; have HU := X1; clear X1)
        try (have X1 := zH (HF.out.keep (.of_step HSN.out)); clear HF; have HF := X1; clear X1)
        try (have X1 := zH (HR.out.keep (.of_step HSN.out)); clear HR; have HR := X1; clear X1)
        try (have X1 := zH (HA.out.keep (.of_step HSN.out)); clear HA; have HA := X1; clear X1)
        try (have X1 := zH (HB.out.keep (.of_step HSN.out)); clear HB; have HB := X1; clear X1)
        try (have X1 := zH (HC.out.keep (.of_step HSN.out)); clear HC; have HC := X1; clear X1)
        try (have X1 := zH (HD.out.keep (.of_step HSN.out)); clear HD; have HD := X1; clear X1)
        try (have X1 := zH (HE.out.keep (.of_step HSN.out)); clear HE; have HE := X1; clear X1)
        try (have X1 := zH (HZ.out.keep (.of_step HSN.out)); clear HZ; have HZ := X1; clear X1)
        clear HSN
        by_cases hlt : k < wd.length
        ·obtain ⟨q2, d2, b2, o2, he, _, _, hq2, hc2, _⟩ := HA.out.ints
         injection he with he1 he4 he3
         subst he1 he3
         obtain rfl := hq2 (by omega)
         have e0 := hc2 k hlt
         obtain ⟨q3, d3, b3, o3, he, _, _, hq3, hc3, _⟩ := HE.out.ints
         injection he with he1 he5 he3
         subst he1 he3
         have hlw2 := HLW.out
         obtain rfl := hq3 (by omega)
         have f0 := hc3 k (by omega)
         have hcmp : wd[k] ≤ lw[k]'(by omega) := by
          rw [HLG.out]
          have := HKW.out k (by rw [← HIN.out.1]; exact hlt)
          rwa [List.getD_eq_getElem?_getD, List.getElem?_eq_getElem hlt, Option.getD_some] at this
         obtain ⟨y, hy⟩ : ∃ y, y = wd[k] := ⟨_, rfl⟩
         obtain ⟨z, hz⟩ : ∃ z, z = lw[k]'(by omega) := ⟨_, rfl⟩
         rw [← hy] at e0 hcmp
         rw [← hz] at f0 hcmp
         have dd : decide (z < y) = false := decide_eq_false (by omega)
         have HEE := zH (And.intro e0 f0)
         have hixk : (0 : Int) ≤ (k : Int) ∧ (k : Int) < (wd.length : Int) := by omega
         have hixl : (0 : Int) ≤ (k : Int) ∧ (k : Int) < (lw.length : Int) := by omega
         clear he4 hq2 hc2 he5 hq3 hc3 hcmp hy hz e0 f0 hlw2
         go_upto_region 28 with (fail)
         obtain ⟨wo, hwo⟩ : ∃ W, W = wr := ⟨_, rfl⟩
         subst hwo
         have HT0 := HT
         clear HT
         have HT := zH (Step.refl wo)
         refine wp_region_seq (kdOf [] []) [0, 0, 3, 7, 0, 0, 48, 112, 255] [0, 1, 2, 3, 4, 5, 6, 7, 8] [] (by kernel_rfl) (by kernel_rfl) (fun i T z hi hk => by simp [kdOf] at hk <;> (try (split at hk <;> cases hk))) ?_
         intro Wx hWx
         have HTx := zH (HT.out.trans hWx)
         clear hWx HT
         have HT := HTx
         clear HTx
         have e0 := HT.out.kc HEE.out.1
         have f0 := HT.out.kc HEE.out.2
         repeat ((first | (refine run_off rfl rfl (by rfl) ?_) | (refine run_chain_off rfl rfl (by rfl) (K0_mono _) ?_) | ((refine run_want rfl rfl (by rfl) ⟨?_, fun W hW => ?_, ?_⟩; rotate_left; (· (have d0 := hW.kc e0; have d1 := hW.kc f0; go_simp; (try with_reducible rfl)))))); (try simp only [Act.put, zA, zB, zC]))
         clear e0 f0
         refine run_end (L := []) rfl (fun W6 hW6 => ?_)
         have HT6 := zH (HT.out.trans hW6)
         clear hW6 HT
         have HT := HT6
         clear HT6
         go_wp2
         go_roundw
         case rel => exact ⟨k + 1, by omega, by go_num, HTL.out.trans HT.out⟩
         case measure => simp [intOf]; omega
        ·have hke : k = wd.length := by omega
         subst hke
         clear hk hlt HTL
         by_cases h0 : ard.length = 0
         ·rw [h0]
          clear h0
          go_wp2_with fail
          refine (gwakes_any _).mono ?_
          rintro e wn ⟨rfl, hSn⟩
          have HTn := zH (HT.out.trans hSn)
          clear HT hSn
          go_wp2
          go_ret
          exact ⟨rfl, HTn.out⟩
         have d0 : ((ard.length : Int) == 0) = false := beq_eq_false_iff_ne.2 (by omega)
         obtain ⟨d, hd⟩ : ∃ d, d + 1 = ard.length := ⟨ard.length - 1, by omega⟩
         have ham := HC.out.len
         have hwd1 : IntKind.i64.wrap ((ard.length : Int) - 1) = (d : Int) := by rw [IntKind.wrap_i64]; omega
         have HDD := zH hd
         obtain ⟨w4, hw4⟩ : ∃ W, W = wr := ⟨_, rfl⟩
         subst hw4
         obtain ⟨q6, c6, b6, o6, he, hcap, _, hq6, _, _⟩ := HC.out.rdgs
         injection he with he1 he4 he3
         subst he1 he3
         obtain rfl := hq6 (by omega)
         have hdc : (0 : Int) ≤ (d : Int) ∧ (d : Int) ≤ (ka : Int) := by omega
         have hdn : d ≤ ka := by omega
         have HFR := zH (SL.front HC.out (d := d) (by omega))
         clear he4 hq6 hcap hd
         go_upto_region 34 with (fail)
         have HTB := HT
         clear HT
         have HT := zH (Step.refl w4)
         refine wp_region_seq (kdOf [1, 7] []) [0, 1, 0, 0, 8, 24, 60, 127, 255, 511, 511, 1023, 4095] [0, 2, 3, 4, 5, 6, 1, 7, 8, 9, 10, 11, 12] [] (by kernel_rfl) (by kernel_rfl) (fun i T z hi hk => by simp [kdOf] at hk <;> (try (split at hk <;> cases hk))) ?_
         intro Wx hWx
         have HTx := zH (HT.out.trans hWx)
         clear hWx HT
         have HT := HTx
         clear HTx
         repeat ((first | (refine run_off rfl rfl (by rfl) ?_) | (refine run_chain_off rfl rfl (by rfl) (K0_mono _) ?_) | ((refine run_want rfl rfl (by rfl) ⟨?_, fun W hW => ?_, ?_⟩; rotate_left; (· (skip; go_simp; (try with_reducible rfl)))))); (try simp only [Act.put, zA, zB, zC]))
         refine run_chain rfl rfl (by rfl) (fun Wi hWi K' hK => ?_)
         have HTi := zH (HT.out.trans hWi)
         have HZW := zH HTi.out.size
         clear hWi HT
         go_simp
         refine (Forecasts_any (fun _ => False) l _ _ (HV.out.keep (.of_step HTi.out)) HLB.out.1 HLB.out.2.2).mono ?_
         rintro e wn ⟨v1, rfl, hv1, hSn⟩
         have HT := zH (HTi.out.trans (StepX.of hSn))
         clear HTi
         obtain ⟨pF, kF, rfl⟩ := hv1.form
         have HF := zH (sl0 hv1)
         clear hv1
         refine hK _ _ (StepX.of hSn) ?_
         clear hSn
         (try simp only [Act.put, zA, zB, zC])
         have HTA := HT
         clear HT
         have HT := zH (Step.refl wn)
         repeat ((first | (refine run_off rfl rfl (by rfl) ?_) | (refine run_chain_off rfl rfl (by rfl) (K0_mono _) ?_) | ((refine run_want rfl rfl (by rfl) ⟨?_, fun W hW => ?_, ?_⟩; rotate_left; (· (skip; go_simp; (try with_reducible rfl)))))); (try simp only [Act.put, zA, zB, zC]))
         refine run_chain rfl rfl (by rfl) (fun Wi hWi K' hK => ?_)
         have HTi := zH (HT.out.trans hWi)
         clear hWi HT
         go_simp
         refine (Worst_any (fun _ => False) l (ard.take d) _ _ _ (HF.out.keep (.of_step HTi.out)) (HFR.out.keep (.of_step (HTA.out.trans HTi.out)))).mono ?_
         rintro e wz ⟨v1, rfl, hv1, hSn⟩
         have HK2 := zH (kept_less (d := d) HKL.out)
         have HW2 := zH (worst_left (HRA.out.2 d) HK2.out)
         rw [HW2.out.2] at hv1
         rw [HW2.out.1]
         obtain ⟨lz, hlz⟩ : ∃ L, L = worstL l (leftN l (ard.take d) l.length) := ⟨_, rfl⟩
         rw [← hlz] at hv1
         have HZL := zH (show lz.length = lw.length by rw [hlz, HLW.out, HWL.out]; simp [worstL])
         have HZG := zH (show ∀ h (hh : h < lz.length), lz[h] = worstF l (leftN l (ard.take d) l.length) h by subst hlz; intro h hh; simp [worstL])
         obtain ⟨pB, kB, rfl⟩ := hv1.form
         have X0 := zH (sl0 hv1)
         have HTC := zH (HTA.out.trans (HTi.out.trans hSn))
         have HT := zH (Step.refl wz)
         refine hK _ _ (StepX.of hSn) ?_
         clear hlz hv1 hSn HTi HF
         (try simp only [Act.put, zA, zB, zC])
         repeat ((first | (refine run_off rfl rfl (by rfl) ?_) | (refine run_chain_off rfl rfl (by rfl) (K0_mono _) ?_) | ((refine run_want rfl rfl (by rfl) ⟨?_, fun W hW => ?_, ?_⟩; rotate_left; (· (skip; go_simp; (try with_reducible rfl)))))); (try simp only [Act.put, zA, zB, zC]))
         first | refine run_end (L := []) rfl (fun W6 hW6 => ?_) | refine run_end (L := [_, _]) rfl (fun W6 hW6 => ?_) | fail "REND34"
         have hSn := HTC.out.trans (HT.out.trans hW6)
         have X2 := zH (X0.out.keep (.of_step (HT.out.trans hW6)))
         clear HT hW6 X0 HTA HTC
         have HT := HTB
         clear HTB
         have HSN := zH hSn
         have HTn := zH (HT.out.trans hSn)
         clear HT hSn
         have HT := HTn
         clear HTn
         try (have X1 := zH (HV.out.keep (.of_step HSN.out)); clear HV; have HV := X1; clear X1)
         try (have X1 := zH (HU.out.keep (.of_step HSN.out)); clear HU; have HU := X1; clear X1)
         try (have X1 := zH (HF.out.keep (.of_step HSN.out)); clear HF; have HF := X1; clear X1)
         try (have X1 := zH (HR.out.keep (.of_step HSN.out)); clear HR; have HR := X1; clear X1)
         try (have X1 := zH (HA.out.keep (.of_step HSN.out)); clear HA; have HA := X1; clear X1)
         try (have X1 := zH (HB.out.keep (.of_step HSN.out)); clear HB; have HB := X1; clear X1)
         try (have X1 := zH (HC.out.keep (.of_step HSN.out)); clear HC; have HC := X1; clear X1)
         try (have X1 := zH (HD.out.keep (.of_step HSN.out)); clear HD; have HD := X1; clear X1)
         try (have X1 := zH (HE.out.keep (.of_step HSN.out)); clear HE; have HE := X1; clear X1)
         try (have X1 := zH (HZ.out.keep (.of_step HSN.out)); clear HZ; have HZ := X1; clear X1)
         clear HSN
         have HB := X2
         clear X2
         have d1 : ((lz.length : Int) != (lw.length : Int)) = false := by rw [HZL.out]; simp
         have hlwm := HE.out.len
         obtain ⟨w5, hw5⟩ : ∃ W, W = W6 := ⟨_, rfl⟩
         subst hw5
         go_upto_region 38 with (fail)
         clear d1
         go_loopw [25] (fun i wr => ∃ k : Nat, k ≤ lw.length ∧ i = .int .i64 k ∧ Step w5 wr) (fun i _ => lw.length - (intOf i).toNat)
         case atStart => exact ⟨0, Nat.zero_le _, rfl, Step.refl _⟩
         case round =>
          obtain ⟨k, hk, rfl, hSn⟩ := hrel
          have HTL := zH hSn
          have HSN := zH hSn
          have HTn := zH (HT.out.trans hSn)
          clear HT hSn
          have HT := HTn
          clear HTn
          try (have X1 := zH (HV.out.keep (.of_step HSN.out)); clear HV; have HV := X1; clear X1)
          try (have X1 := zH (HU.out.keep (.of_step HSN.out)); clear HU; have HU := X1; clear X1)
          try (have X1 := zH (HF.out.keep (.of_step HSN.out)); clear HF; have HF := X1; clear X1)
          try (have X1 := zH (HR.out.keep (.of_step HSN.out)); clear HR; have HR := X1; clear X1)
          try (have X1 := zH (HA.out.keep (.of_step HSN.out)); clear HA; have HA := X1; clear X1)
          try (have X1 := zH (HB.out.keep (.of_step HSN.out)); clear HB; have HB := X1; clear X1)
          try (have X1 := zH (HC.out.keep (.of_step HSN.out)); clear HC; have HC := X1; clear X1)
          try (have X1 := zH (HD.out.keep (.of_step HSN.out)); clear HD; have HD := X1; clear X1)
          try (have X1 := zH (HE.out.keep (.of_step HSN.out)); clear HE; have HE := X1; clear X1)
          try (have X1 := zH (HZ.out.keep (.of_step HSN.out)); clear HZ; have HZ := X1; clear X1)
          clear HSN
          by_cases hlt : k < lw.length
          ·obtain ⟨q2, d2, b2, o2, he, _, _, hq2, hc2, _⟩ := HE.out.ints
           injection he with he1 he4 he3
           subst he1 he3
           obtain rfl := hq2 (by omega)
           have e0 := hc2 k hlt
           obtain ⟨q3, d3, b3, o3, he, _, _, hq3, hc3, _⟩ := HB.out.ints
           injection he with he1 he5 he3
           subst he1 he3
           have hzl2 := HZL.out
           obtain rfl := hq3 (by omega)
           have f0 := hc3 k (by omega)
           have hcmp : lw[k] ≤ lz[k]'(by omega) := by
            rw [HLG.out, HZG.out]
            exact worst_mono (fun r hr => List.mem_of_mem_take hr) k
           obtain ⟨y, hy⟩ : ∃ y, y = lw[k] := ⟨_, rfl⟩
           obtain ⟨z, hz⟩ : ∃ z, z = lz[k]'(by omega) := ⟨_, rfl⟩
           rw [← hy] at e0 hcmp
           rw [← hz] at f0 hcmp
           have dd : decide (z < y) = false := decide_eq_false (by omega)
           have HEE := zH (And.intro e0 f0)
           have hixk : (0 : Int) ≤ (k : Int) ∧ (k : Int) < (lw.length : Int) := by omega
           have hixl : (0 : Int) ≤ (k : Int) ∧ (k : Int) < (lz.length : Int) := by omega
           clear he4 hq2 hc2 he5 hq3 hc3 hcmp hy hz e0 f0 hzl2
           go_upto_region 40 with (fail)
           obtain ⟨wo, hwo⟩ : ∃ W, W = wr := ⟨_, rfl⟩
           subst hwo
           have HT0 := HT
           clear HT
           have HT := zH (Step.refl wo)
           refine wp_region_seq (kdOf [] []) [0, 0, 3, 7, 0, 0, 48, 112, 255] [0, 1, 2, 3, 4, 5, 6, 7, 8] [] (by kernel_rfl) (by kernel_rfl) (fun i T z hi hk => by simp [kdOf] at hk <;> (try (split at hk <;> cases hk))) ?_
           intro Wx hWx
           have HTx := zH (HT.out.trans hWx)
           clear hWx HT
           have HT := HTx
           clear HTx
           have e0 := HT.out.kc HEE.out.1
           have f0 := HT.out.kc HEE.out.2
           repeat ((first | (refine run_off rfl rfl (by rfl) ?_) | (refine run_chain_off rfl rfl (by rfl) (K0_mono _) ?_) | ((refine run_want rfl rfl (by rfl) ⟨?_, fun W hW => ?_, ?_⟩; rotate_left; (· (have d0 := hW.kc e0; have d1 := hW.kc f0; go_simp; (try with_reducible rfl)))))); (try simp only [Act.put, zA, zB, zC]))
           clear e0 f0
           refine run_end (L := []) rfl (fun W6 hW6 => ?_)
           have HT6 := zH (HT.out.trans hW6)
           clear hW6 HT
           have HT := HT6
           clear HT6
           go_wp2
           go_roundw
           case rel => exact ⟨k + 1, by omega, by go_num, HTL.out.trans HT.out⟩
           case measure => simp [intOf]; omega
          ·have hke : k = lw.length := by omega
           subst hke
           clear hk hlt HTL
           go_wp2_with fail
           refine (gwakes_any _).mono ?_
           rintro e wn ⟨rfl, hSn⟩
           have HTn := zH (HT.out.trans hSn)
           clear HT hSn
           go_wp2
           go_ret
           exact ⟨rfl, HTn.out⟩
end Go.Proofs.Ytfhmdpicoccnfaa
