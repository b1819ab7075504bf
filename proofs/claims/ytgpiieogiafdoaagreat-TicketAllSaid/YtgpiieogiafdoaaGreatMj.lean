/- Walks and plain laws, part j. -/
import Derived.Test.YtgpiieogiafdoaaGreatMa
import Derived.Test.YtgpiieogiafdoaaGreatMb
import Derived.Test.YtgpiieogiafdoaaGreatMc
import Derived.Test.YtgpiieogiafdoaaGreatMd
import Derived.Test.YtgpiieogiafdoaaGreatMm
import Derived.Test.YtgpiieogiafdoaaGreatRows
import Derived.BigQuiet
import Derived.Deep.AppendLies
import Derived.Deep.DeepCutAuto
import Derived.Deep.QuietTactic
import Derived.Deep.RegionHeld3
import Derived.Defers
import Derived.Laws.MakeOwn
import Derived.Laws.OwnMore
import Derived.Laws.Pointers
import Derived.Laws.StructEq
import Derived.Lib.Hide
import Derived.LoopIn
import Derived.LoopNIn
import Derived.MapKept
import Derived.OwnWalkIn
import Derived.RangeFuncBound
import Derived.RangeFuncCalls
import Derived.RangeFuncLeaves
import Derived.RangeFuncNested
import Derived.Recover
import Derived.Shelf.Abstract
import Derived.Shelf.RegionOpen
import Derived.TacticsInMore
import Derived.WalkKit
import Derived.WalkLawsBesides
import Derived.WalkSmall
import Derived.WalkSpells
import Derived.WideKeyRuns
namespace Go.Proofs.YtgpiieogiafdoaaGreat
set_option linter.unusedSimpArgs false
set_option linter.unusedVariables false
open Go.RowKit Go.BT
structure KeyT (tk : TypeId) {K : Type} (kf : K → Value) : Prop where
 inj : ∀ {a b : K}, kf a = kf b → a = b
 check : ∀ (x : K) (em : Bool) (w : World), (Instr.checkKey em 10000 tk (kf x)).run Tryz.prog w = .ok () w
 bits : ∀ (x : K) (w : World), (Instr.keyThatStays (kf x) (kf x)).run Tryz.prog w = .ok (kf x) w
 find : ∀ (x : K) (w : World) (es : List MapEntry), (∀ e ∈ es, ∃ y, e.key = kf y) →
  (∃ j, ∃ h : j < es.length, es[j].key = kf x ∧ (Instr.findKey tk (kf x) es).run Tryz.prog w = .ok (some (j, es[j].val)) w) ∨ ((∀ e ∈ es, e.key ≠ kf x) ∧ (Instr.findKey tk (kf x) es).run Tryz.prog w = .ok none w)
def MF {K : Type} (kf : K → Value) (w : World) (r : Nat) (f : K → Option Int) : Prop :=
 ∃ es clock, w.heap[r]? = some (.map es clock) ∧ (∀ e ∈ es.toList, ∃ x n, f x = some n ∧ e.key = kf x ∧ e.val = .int .i64 n) ∧ (∀ x n, f x = some n → ∃ e ∈ es.toList, e.key = kf x) ∧
  (∀ (i j : Nat) (hi : i < es.toList.length) (hj : j < es.toList.length), (es.toList[i]).key = (es.toList[j]).key → i = j)
theorem MF.keep {K : Type} {kf : K → Value} {S : Nat → Prop} {w w' : World} {r : Nat} {f : K → Option Int} (h : MF kf w r f) (hs : Keeps S w w') (hr : ¬ S r) : MF kf w' r f := by
 obtain ⟨es, cl, h1, h2⟩ := h
 exact ⟨es, cl, (hs.2 r (Array.getElem?_eq_some_iff.1 h1).1 hr).trans h1, h2⟩
theorem MF.lt {K : Type} {kf : K → Value} {w : World} {r : Nat} {f : K → Option Int} (h : MF kf w r f) : r < w.heap.size := by
 obtain ⟨es, cl, h1, h2⟩ := h
 exact (Array.getElem?_eq_some_iff.1 h1).1
theorem MF.new {K : Type} (kf : K → Value) (w : World) (r clock : Nat) (h : w.heap[r]? = some (.map #[] clock)) : MF kf w r (fun _ => none) :=
 ⟨#[], clock, h, by simp, by simp, by simp⟩
def iv (n : Int) : Value := .int .i64 n
set_option maxHeartbeats 2000000 in
theorem all1_mess (S T : Nat → Prop) (h : House) (m : BT.Message) (hv u : Value) (b : Nat) (w : World) (hh : AV S w hv h) (hm : AV T w u m) (hok : valid h = true) (hb : w.cell? ⟨b, 0, none⟩ = some (.func (.func 103) #[hv] #[])) :
  Calls Tryz.prog 134 #[u, .pointer (some ⟨b, 0, none⟩)] w fun e w' => e = .returned (.bool (!messV h m)) ∧ Step w w' := by
 obtain ⟨c4, rfl, s4⟩ := hm.message
 obtain ⟨p, k, rfl⟩ := s4.form
 obtain ⟨W0, hW0⟩ : ∃ z9, z9 = w.alloc (.cells #[.int .i64 m.frm, .int .i64 m.dst, .int .i64 m.number, .int .i64 m.shw, .slice p m.seats.length k] 86) := ⟨_, rfl⟩
 have hS : Step w W0 := by subst hW0; exact Step.alloc _ _
 have hb1 : Bx W0 w.heap.size [.int .i64 m.frm, .int .i64 m.dst, .int .i64 m.number, .int .i64 m.shw, .slice p m.seats.length k] 86 := by subst hW0; exact Bx.new _ [_, _, _, _, _] _
 have hbb := hS.kc hb
 have HM := Lib.hid (hm.keep (.of_step hS))
 have HH := Lib.hid (hh.keep (.of_step hS))
 have HS := Lib.hid hS
 have HW := Lib.hid hW0
 obtain ⟨m0, m1, m2, m3, m4⟩ := cells5 hb1
 have HCALL := Lib.hid (vmess_any S T h m _ _ W0 HH.out HM.out hok)
 clear s4 hS hb1 hW0 hb hh hm
 go_enter Tryz.func134, Tryz.ntmps134
 go_upto_region 1 with (fail)
 rw [← HW.out]
 clear HW
 go_wp2_with fail
 refine HCALL.out.mono ?_
 rintro e wn ⟨rfl, hSn⟩
 have HT := Lib.hid (HS.out.trans hSn)
 clear hSn
 go_wp2
 go_ret
 exact ⟨rfl, HT.out⟩
set_option maxHeartbeats 2000000 in
theorem index_mess (S T : Nat → Prop) (h : House) (l : List BT.Message) (hv v : Value) (b : Nat) (w : World) (hh : AV S w hv h) (hl : SL T w v l) (hok : valid h = true) (hb : w.cell? ⟨b, 0, none⟩ = some (.func (.func 103) #[hv] #[])) :
  Calls Tryz.prog 148 #[v, .func (.func 134) #[] #[.pointer (some ⟨b, 0, none⟩)]] w fun e w' => ∃ q : Int, e = .returned (.int .i64 q) ∧ (0 ≤ q ↔ l.all (messV h) = false) ∧ Step w w' := by
 obtain ⟨px, kx, bx, ox, rfl, _, mx, hpx, hcx, _⟩ := hl.mess
 have HX := Lib.hid (And.intro hpx hcx)
 have HH := Lib.hid hh
 have HB := Lib.hid hb
 have HOK := Lib.hid hok
 clear hl hh hb hok hpx hcx
 go_enter Tryz.func148, Tryz.ntmps148
 go_wp2
 go_loopw [8] (fun i wr => ∃ k : Nat, k ≤ l.length ∧ i = .int .i64 k ∧ (l.take k).all (messV h) = true ∧ Step w wr) (fun i _ => l.length - (intOf i).toNat)
 case atStart => exact ⟨0, Nat.zero_le _, rfl, by simp, Step.refl _⟩
 case round =>
  obtain ⟨k, hk, rfl, ht, hT⟩ := hrel
  have HA := Lib.hid ht
  have HT := Lib.hid hT
  clear ht hT
  by_cases hlt : k < l.length
  ·obtain rfl := HX.out.1 (by omega)
   obtain ⟨c4, ⟨g0, g1, g2, g3, g4⟩, s4⟩ := HX.out.2 k hlt
   obtain ⟨p4, k4, e4⟩ := s4.form
   subst e4
   have HM := Lib.hid (show AV T w (.agg #[.int .i64 l[k].frm, .int .i64 l[k].dst, .int .i64 l[k].number, .int .i64 l[k].shw, .slice p4 l[k].seats.length k4]) l[k] from ⟨_, rfl, _, rfl, s4⟩)
   have g0 := (HT.out).kc g0; have g1 := (HT.out).kc g1; have g2 := (HT.out).kc g2; have g3 := (HT.out).kc g3; have g4 := (HT.out).kc g4
   have hix1 : (0 : Int) ≤ (k : Int) ∧ (k : Int) < (l.length : Int) := by omega
   have HTK := Lib.hid (List.take_succ_eq_append_getElem hlt)
   clear s4
   have hcall := Lib.hid (all1_mess S T h l[k] hv _ b wr (HH.out.keep (.of_step HT.out)) (HM.out.keep (.of_step HT.out)) HOK.out (HT.out.kc HB.out))
   go_wp2_with fail
   refine hcall.out.mono ?_
   clear hcall
   rintro e wn ⟨rfl, hSn⟩
   have HTn := Lib.hid (HT.out.trans hSn)
   clear hSn g0 g1 g2 g3 g4 HM
   cases q1 : messV h l[k] with
   | false =>
    have HQ := Lib.hid (show l.all (messV h) = false by rw [List.all_eq_false]; exact ⟨l[k], List.getElem_mem hlt, by simp [q1]⟩)
    clear q1
    go_wp2
    go_ret
    exact ⟨k, rfl, by simpa using HQ.out, HTn.out⟩
   | true =>
    have HF := Lib.hid (show (l.take (k + 1)).all (messV h) = true by rw [HTK.out, List.all_append, HA.out]; simp [q1])
    clear q1
    go_wp2
    go_roundw
    case rel => exact ⟨k + 1, by omega, by go_num, HF.out, HTn.out⟩
    case measure => simp [intOf]; omega
  ·have HE := Lib.hid (show l.all (messV h) = true by have := HA.out; rwa [List.take_of_length_le (by omega)] at this)
   clear HA
   go_wp2
   go_ret
   exact ⟨-1, rfl, by simp [HE.out], HT.out⟩
set_option maxHeartbeats 1000000 in
theorem contains_mess (S T : Nat → Prop) (h : House) (l : List BT.Message) (hv v : Value) (b : Nat) (w : World) (hh : AV S w hv h) (hl : SL T w v l) (hok : valid h = true) (hb : w.cell? ⟨b, 0, none⟩ = some (.func (.func 103) #[hv] #[])) :
  Calls Tryz.prog 133 #[v, .func (.func 134) #[] #[.pointer (some ⟨b, 0, none⟩)]] w fun e w' => e = .returned (.bool (!l.all (messV h))) ∧ Step w w' := by
 have HC := Lib.hid (index_mess S T h l hv v b w hh hl hok hb)
 obtain ⟨p, c, rfl⟩ := hl.form
 clear hl hh hb
 go_enter Tryz.func133, Tryz.ntmps133
 go_wp2_with fail
 refine HC.out.mono ?_
 rintro e wn ⟨q, rfl, hn, hSn⟩
 have HF := Lib.hid (show (!l.all (messV h)) = decide (0 ≤ q) by
  by_cases z : 0 ≤ q
  ·rw [decide_eq_true z, hn.1 z]; rfl
  ·rw [decide_eq_false z]
   cases hz : l.all (messV h) with
   | true => rfl
   | false => exact absurd (hn.2 hz) z)
 have HT := Lib.hid hSn
 clear hSn hn HC
 go_wp2
 go_ret
 exact ⟨by rw [HF.out]; rfl, HT.out⟩
set_option maxHeartbeats 2000000 in
theorem all_mess (S T : Nat → Prop) (h : House) (l : List BT.Message) (hv v : Value) (w : World) (hh : AV S w hv h) (hl : SL T w v l) (hok : valid h = true) :
  Calls Tryz.prog 102 #[v, .func (.func 103) #[hv] #[]] w fun e w' => e = .returned (.bool (l.all (messV h))) ∧ Step w w' := by
 have hmf : ∀ (fn : Fn) (first cap : Array Value) (w : World), (Instr.makeFunc fn first cap).run Tryz.prog w = .ok (.func fn first cap) w := fun _ _ _ _ => rfl
 have hS := Step.alloc w (.cells #[.func (.func 103) #[hv] #[]] 169)
 have hc := contains_mess S T h l hv v w.heap.size _ (hh.keep (.of_step hS)) (hl.keep (.of_step hS)) hok (by rw [World.cell?_alloc_new]; rfl)
 obtain ⟨cs, rfl, hr⟩ := hh
 have HC := Lib.hid hc
 have HS := Lib.hid hS
 obtain ⟨p, c, rfl⟩ := hl.form
 clear hc hS hl hr
 go_enter Tryz.func102, Tryz.ntmps102
 go_wp2_with fail
 refine HC.out.mono ?_
 rintro e wn ⟨rfl, hSn⟩
 have HT := Lib.hid (HS.out.trans hSn)
 clear hSn HC
 go_wp2
 go_ret
 exact ⟨by simp, HT.out⟩
def bk (W : Wd) (a : Nat) : Book := W.books.getD a noBook
def ms (W : Wd) (k : Nat) : BT.Message := W.msgs.getD k noMsg
def Holds (W : Wd) (s i : Nat) (a : Nat) : Prop := a < W.books.length ∧ seatAt (bk W a) s i ≠ -1
def Carries (W : Wd) (s i : Nat) (k : Nat) : Prop := k < W.msgs.length ∧ (ms W k).shw = s ∧ (i : Int) ∈ (ms W k).seats ∧ keyOf (ms W k) ∉ (bk W (ms W k).dst.toNat).took
def OnePlace (W : Wd) (s i : Nat) : Prop :=
 (∃ a, Holds W s i a ∧ (∀ b, Holds W s i b → b = a) ∧ ∀ k, ¬ Carries W s i k) ∨ (∃ k, Carries W s i k ∧ (∀ q, Carries W s i q → q = k) ∧ ∀ a, ¬ Holds W s i a)
def sentTo (W : Wd) (a : Int) (k : Nat) : Nat := ((W.msgs.take k).filter fun m => decide (m.frm = a)).length
structure WdInv (h : House) (W : Wd) : Prop where
 ok : WdOk h W
 one : ∀ s i : Nat, s < h.dates.length → (i : Int) < sizeL h.sectors → OnePlace W s i
 num : ∀ k, k < W.msgs.length → (ms W k).number = sentTo W (ms W k).frm k + 1
 sent : ∀ a, a < W.books.length → (bk W a).sent = sentTo W a W.msgs.length
 took : ∀ a, a < W.books.length → ∀ x ∈ (bk W a).took, ∃ k, k < W.msgs.length ∧ keyOf (ms W k) = x ∧ (ms W k).dst = a
theorem sentTo_mono (W : Wd) (a : Int) {k q : Nat} (h : k ≤ q) : sentTo W a k ≤ sentTo W a q := by
 unfold sentTo
 obtain ⟨d, rfl⟩ : ∃ d, q = k + d := ⟨q - k, by omega⟩
 rw [List.take_add, List.filter_append, List.length_append]
 omega
theorem sentTo_succ (W : Wd) (a : Int) {k : Nat} (h : k < W.msgs.length) : sentTo W a (k + 1) = sentTo W a k + if (ms W k).frm = a then 1 else 0 := by
 unfold sentTo ms
 rw [List.take_succ_eq_append_getElem h, List.filter_append, List.length_append]
 have : W.msgs.getD k noMsg = W.msgs[k] := by simp [List.getD_eq_getElem?_getD, h]
 rw [this]
 congr 1
 by_cases e : W.msgs[k].frm = a <;> simp [e]
theorem key_ne {h : House} {W : Wd} (I : WdInv h W) {k q : Nat} (hk : k < W.msgs.length) (hq : q < W.msgs.length) (he : keyOf (ms W k) = keyOf (ms W q)) : k = q := by
 have e1 : (ms W k).frm = (ms W q).frm := by unfold keyOf at he; injection he
 have e2 : (ms W k).number = (ms W q).number := by unfold keyOf at he; injection he
 rw [I.num k hk, I.num q hq, e1] at e2
 have e2 : sentTo W (ms W q).frm k = sentTo W (ms W q).frm q := by omega
 rcases Nat.lt_trichotomy k q with hlt | hlt | hlt
 ·have h1 := sentTo_succ W (ms W q).frm hk
  rw [if_pos e1] at h1
  have := sentTo_mono W (ms W q).frm (show k + 1 ≤ q by omega)
  omega
 ·exact hlt
 ·have h1 := sentTo_succ W (ms W q).frm hq
  rw [if_pos rfl] at h1
  have := sentTo_mono W (ms W q).frm (show q + 1 ≤ k by omega)
  omega
theorem bk_at {W : Wd} {a : Nat} (h : a < W.books.length) : bk W a = W.books[a] := by simp [bk, List.getD_eq_getElem?_getD, h]
theorem ms_at {W : Wd} {k : Nat} (h : k < W.msgs.length) : ms W k = W.msgs[k] := by simp [ms, List.getD_eq_getElem?_getD, h]
theorem ms_ok {h : House} {W : Wd} (I : WdInv h W) {k : Nat} (hk : k < W.msgs.length) : messV h (ms W k) = true := by
 rw [ms_at hk]; exact I.ok.msg _ (List.getElem_mem hk)
theorem bk_set (W : Wd) (i : Nat) (b : Book) (l : List BT.Message) (a : Nat) (hi : i < W.books.length) : bk ⟨W.books.set i b, l⟩ a = if a = i then b else bk W a := by
 unfold bk
 by_cases e : a = i
 ·subst e; simp [List.getD_eq_getElem?_getD, hi]
 ·rw [if_neg e]
  simp [List.getD_eq_getElem?_getD, List.getElem?_set, Ne.symm e]
theorem one_same {h : House} {W : Wd} {i : Nat} {b : Book} (hi : i < W.books.length) (hs : ∀ s j : Nat, s < h.dates.length → (j : Int) < sizeL h.sectors → (seatAt b s j = -1 ↔ seatAt (bk W i) s j = -1)) (ht : b.took = (bk W i).took) {s j : Nat} (h1 : s < h.dates.length) (h2 : (j : Int) < sizeL h.sectors) (ho : OnePlace W s j) :
  OnePlace ⟨W.books.set i b, W.msgs⟩ s j := by
 have hh : ∀ a, Holds ⟨W.books.set i b, W.msgs⟩ s j a ↔ Holds W s j a := by
  intro a
  unfold Holds
  rw [bk_set W i b W.msgs a hi]
  simp only [List.length_set]
  by_cases e : a = i
  ·subst e; rw [if_pos rfl]; exact and_congr_right fun _ => not_congr (hs s j h1 h2)
  ·rw [if_neg e]
 have hc : ∀ k, Carries ⟨W.books.set i b, W.msgs⟩ s j k ↔ Carries W s j k := by
  intro k
  have hm : ms ⟨W.books.set i b, W.msgs⟩ k = ms W k := rfl
  unfold Carries
  rw [hm, bk_set W i b W.msgs _ hi]
  by_cases e : (ms W k).dst.toNat = i
  ·rw [if_pos e, ht, e]
  ·rw [if_neg e]
 rcases ho with ⟨a, g1, g2, g3⟩ | ⟨k, g1, g2, g3⟩
 ·exact .inl ⟨a, (hh a).2 g1, fun b hb => g2 b ((hh b).1 hb), fun k hk => g3 k ((hc k).1 hk)⟩
 ·exact .inr ⟨k, (hc k).2 g1, fun q hq => g2 q ((hc q).1 hq), fun a ha => g3 a ((hh a).1 ha)⟩
theorem inv_same {h : House} {W : Wd} (I : WdInv h W) {i : Nat} {b : Book} (hi : i < W.books.length) (hok : WdOk h ⟨W.books.set i b, W.msgs⟩) (hs : ∀ s j : Nat, s < h.dates.length → (j : Int) < sizeL h.sectors → (seatAt b s j = -1 ↔ seatAt (bk W i) s j = -1)) (ht : b.took = (bk W i).took) (he : b.sent = (bk W i).sent) : WdInv h ⟨W.books.set i b, W.msgs⟩ := by
 refine ⟨hok, fun s j h1 h2 => one_same hi hs ht h1 h2 (I.one s j h1 h2), I.num, fun a ha => ?_, fun a ha x hx => ?_⟩
 ·rw [bk_set W i b W.msgs a hi]
  have ha' : a < W.books.length := by simpa using ha
  by_cases e : a = i
  ·subst e; rw [if_pos rfl, he]; exact I.sent a ha'
  ·rw [if_neg e]; exact I.sent a ha'
 ·rw [bk_set W i b W.msgs a hi] at hx
  have ha' : a < W.books.length := by simpa using ha
  by_cases e : a = i
  ·subst e; rw [if_pos rfl, ht] at hx; exact I.took a ha' x hx
  ·rw [if_neg e] at hx; exact I.took a ha' x hx
def okA (h : House) (W : Wd) (a : Nat) : Bool := decide ((bk W a).agency = a) && bookB h (bk W a)
def worldB (h : House) (W : Wd) : Bool := valid h && (decide (W.books.length = agN h) && (W.msgs.all (messV h) && (List.range W.books.length).all (okA h W)))
theorem okA_step {h : House} {W : Wd} {k : Nat} (h1 : (List.range k).all (okA h W) = true) (h2 : okA h W k = true) : (List.range (k + 1)).all (okA h W) = true := by
 rw [List.range_succ, List.all_append, h1]; simp [h2]
theorem okA_bad {h : House} {W : Wd} {k n : Nat} (hk : k < n) (h2 : okA h W k = false) : (List.range n).all (okA h W) = false := by
 rw [List.all_eq_false]
 exact ⟨k, List.mem_range.2 hk, by simp [h2]⟩
set_option maxRecDepth 100000 in
set_option maxHeartbeats 4000000 in
theorem world_any (S T : Nat → Prop) (h : House) (W : Wd) (v u : Value) (w : World) (hv : AV S w v h) (hu : AV T w u W) :
  Calls Tryz.prog 52 #[v, u] w fun e w' => e = .returned (.bool (worldB h W)) ∧ Step w w' := by
 have hmf : ∀ (fn : Fn) (first cap : Array Value) (w : World), (Instr.makeFunc fn first cap).run Tryz.prog w = .ok (.func fn first cap) w := fun _ _ _ _ => rfl
 have HH0 := Lib.hid hv
 obtain ⟨c0, c1, c2, c3, c4, rfl, h0, h1, h2, h3, h4⟩ := hv.house
 obtain ⟨p0, k0, rfl⟩ := h0.form
 obtain ⟨p1, k1, rfl⟩ := h1.form
 obtain ⟨p2, k2, rfl⟩ := h2.form
 obtain ⟨p3, k3, rfl⟩ := h3.form
 obtain ⟨p4, k4, rfl⟩ := h4.form
 obtain ⟨b0, b1, rfl, s0, s1⟩ := hu.wd
 obtain ⟨pb, kb, bb, bo, rfl, _, _, hpb, hcb, _⟩ := s0.books
 obtain ⟨pm, km, rfl⟩ := s1.form
 obtain ⟨W0, hW0⟩ : ∃ z9, z9 = (w.alloc (.cells #[.slice p0 h.sectors.length k0, .slice p1 h.prices.length k1, .slice p2 h.dates.length k2, .slice p3 h.frm.length k3, .slice p4 h.holds.length k4] 41)).alloc (.cells #[.slice pb W.books.length kb, .slice pm W.msgs.length km] 34) := ⟨_, rfl⟩
 have hS : Step w W0 := by subst hW0; exact (by repeat (first | (with_reducible assumption) | (with_reducible exact Step.refl _) | (with_reducible apply Step.s_alloc) | (with_reducible apply Step.s_drew) | (with_reducible apply Step.s_drewN) | (with_reducible refine Step.trans ?_ (by with_reducible assumption))))
 have hb0 : Bx W0 w.heap.size [.slice p0 h.sectors.length k0, .slice p1 h.prices.length k1, .slice p2 h.dates.length k2, .slice p3 h.frm.length k3, .slice p4 h.holds.length k4] 41 := by subst hW0; exact (Bx.new _ [_, _, _, _, _] _).alloc _
 have hb1 : Bx W0 (w.heap.size + 1) [.slice pb W.books.length kb, .slice pm W.msgs.length km] 34 := by subst hW0; exact Bx.new' _ [_, _] _ _ (by simp)
 have HS := Lib.hid hS
 have HB := Lib.hid hb0
 have HB1 := Lib.hid hb1
 have HC := Lib.hid (And.intro hpb hcb)
 have HM := Lib.hid s1
 have HW := Lib.hid hW0
 clear hv hu h0 h1 h2 h3 h4 s0 s1 hpb hcb hS hb0 hb1 hW0
 go_enter Tryz.func52, Tryz.ntmps52
 go_upto_region 1 with (fail)
 rw [← HW.out]
 clear HW
 obtain ⟨e0, e1, e2, e3, e4⟩ := cells5 HB.out
 obtain ⟨u0, u1⟩ : _ ∧ _ := ⟨HB1.out.cell 0, HB1.out.cell 1⟩
 simp only [zD, zE] at u0 u1
 refine wp_region_seqM (fun c d v a w h => by cases d <;> exact h) (kdOf [1, 8, 16] []) [0, 1, 3, 7, 15, 31, 63, 15, 143, 511, 1023, 2047, 4095, 8191, 4095, 20479, 65535, 131071, 262143] [0, 1, 2, 3, 4, 5, 6, 7, 8, 9, 10, 11, 12, 13, 14, 15, 16, 17, 18] [] (by kernel_rfl) (by kernel_rfl) (fun i T z hi hk => by simp [kdOf] at hk <;> (try (split at hk <;> cases hk))) ?_
 intro Wx hWx
 have e0 := (hWx).kc e0; have e1 := (hWx).kc e1; have e2 := (hWx).kc e2; have e3 := (hWx).kc e3; have e4 := (hWx).kc e4; have u0 := (hWx).kc u0; have u1 := (hWx).kc u1
 repeat (first | (refine run_off rfl rfl (by rfl) ?_; (try simp only [Act.put, zA, zB, zC])) | (refine run_chain_off rfl rfl (by rfl) (K0_mono _) ?_; (try simp only [Act.put, zA, zB, zC])) | ((refine run_want rfl rfl (by rfl) ⟨?_, fun W hW => ?_, ?_⟩; rotate_left; (· (have d0 := hW.kc e0; have d1 := hW.kc e1; have d2 := hW.kc e2; have d3 := hW.kc e3; have d4 := hW.kc e4; have d5 := hW.kc u0; have d6 := hW.kc u1; go_simp; (try with_reducible rfl)))); (try simp only [Act.put, zA, zB, zC])))
 refine run_chain rfl rfl (by rfl) (fun Wi hWi K' hK => ?_)
 have HTi := Lib.hid (hWx.trans hWi)
 clear hWx
 go_simp
 refine (valid_any S h _ _ (HH0.out.keep (.of_step (HS.out.trans HTi.out)))).mono ?_
 rintro e wn ⟨rfl, hSn⟩
 refine hK _ _ (StepX.of hSn) ?_
 have HT := Lib.hid (HTi.out.trans hSn)
 have e0 := (hWi.trans hSn).kc e0; have e1 := (hWi.trans hSn).kc e1; have e2 := (hWi.trans hSn).kc e2; have e3 := (hWi.trans hSn).kc e3; have e4 := (hWi.trans hSn).kc e4; have u0 := (hWi.trans hSn).kc u0; have u1 := (hWi.trans hSn).kc u1
 clear hSn hK HTi hWi
 cases qv : valid h with
 | false =>
  have HF := Lib.hid (show worldB h W = false by simp [worldB, qv])
  clear qv
  (try simp only [Act.put, zA, zB, zC])
  repeat (first | (refine run_off rfl rfl (by rfl) ?_; (try simp only [Act.put, zA, zB, zC])) | (refine run_chain_off rfl rfl (by rfl) (K0_mono _) ?_; (try simp only [Act.put, zA, zB, zC])) | ((refine run_want rfl rfl (by rfl) ⟨?_, fun W hW => ?_, ?_⟩; rotate_left; (· (have d0 := hW.kc e0; have d1 := hW.kc e1; have d2 := hW.kc e2; have d3 := hW.kc e3; have d4 := hW.kc e4; have d5 := hW.kc u0; have d6 := hW.kc u1; go_simp; (try with_reducible rfl)))); (try simp only [Act.put, zA, zB, zC])))
  refine run_end (L := []) rfl (fun Wy hWy => ?_)
  go_wp2
  go_ret
  exact ⟨by rw [HF.out]; rfl, HS.out.trans (HT.out.trans hWy)⟩
 | true =>
 have HV := Lib.hid qv
 clear qv
 (try simp only [Act.put, zA, zB, zC])
 repeat (first | (refine run_off rfl rfl (by rfl) ?_; (try simp only [Act.put, zA, zB, zC])) | (refine run_chain_off rfl rfl (by rfl) (K0_mono _) ?_; (try simp only [Act.put, zA, zB, zC])) | ((refine run_want rfl rfl (by rfl) ⟨?_, fun W hW => ?_, ?_⟩; rotate_left; (· (have d0 := hW.kc e0; have d1 := hW.kc e1; have d2 := hW.kc e2; have d3 := hW.kc e3; have d4 := hW.kc e4; have d5 := hW.kc u0; have d6 := hW.kc u1; go_simp; (try with_reducible rfl)))); (try simp only [Act.put, zA, zB, zC])))
 refine run_chain rfl rfl (by rfl) (fun Wi hWi K' hK => ?_)
 have HTi := Lib.hid (HT.out.trans hWi)
 have hcall := agencies_any S h _ Wi (HH0.out.keep (.of_step (HS.out.trans HTi.out))) (by have := bounds_valid HV.out; omega)
 rw [agN_eq] at hcall
 have HCALL := Lib.hid hcall
 clear HT hcall
 go_simp
 refine HCALL.out.mono ?_
 rintro e wn2 ⟨rfl, hSn⟩
 clear HCALL
 refine hK _ _ (StepX.of hSn) ?_
 have HT := Lib.hid (HTi.out.trans hSn)
 have e0 := (hWi.trans hSn).kc e0; have e1 := (hWi.trans hSn).kc e1; have e2 := (hWi.trans hSn).kc e2; have e3 := (hWi.trans hSn).kc e3; have e4 := (hWi.trans hSn).kc e4; have u0 := (hWi.trans hSn).kc u0; have u1 := (hWi.trans hSn).kc u1
 clear hSn hK HTi hWi
 by_cases ql : W.books.length = agN h
 rotate_left
 ·have d1 : ((W.books.length : Int) != (agN h : Int)) = true := by rw [bne_iff_ne]; omega
  have HF := Lib.hid (show worldB h W = false by simp [worldB, ql])
  clear ql
  (try simp only [Act.put, zA, zB, zC])
  repeat (first | (refine run_off rfl rfl (by rfl) ?_; (try simp only [Act.put, zA, zB, zC])) | (refine run_chain_off rfl rfl (by rfl) (K0_mono _) ?_; (try simp only [Act.put, zA, zB, zC])) | ((refine run_want rfl rfl (by rfl) ⟨?_, fun W hW => ?_, ?_⟩; rotate_left; (· (have d0 := hW.kc e0; have d1 := hW.kc e1; have d2 := hW.kc e2; have d3 := hW.kc e3; have d4 := hW.kc e4; have d5 := hW.kc u0; have d6 := hW.kc u1; go_simp; (try with_reducible rfl)))); (try simp only [Act.put, zA, zB, zC])))
  refine run_end (L := []) rfl (fun Wy hWy => ?_)
  go_wp2
  go_ret
  exact ⟨by rw [HF.out]; rfl, HS.out.trans (HT.out.trans hWy)⟩
 have d1 : ((W.books.length : Int) != (agN h : Int)) = false := by rw [ql]; simp
 have HL := Lib.hid ql
 clear ql
 (try simp only [Act.put, zA, zB, zC])
 repeat (first | (refine run_off rfl rfl (by rfl) ?_; (try simp only [Act.put, zA, zB, zC])) | (refine run_chain_off rfl rfl (by rfl) (K0_mono _) ?_; (try simp only [Act.put, zA, zB, zC])) | ((refine run_want rfl rfl (by rfl) ⟨?_, fun W hW => ?_, ?_⟩; rotate_left; (· (have d0 := hW.kc e0; have d1 := hW.kc e1; have d2 := hW.kc e2; have d3 := hW.kc e3; have d4 := hW.kc e4; have d5 := hW.kc u0; have d6 := hW.kc u1; go_simp; (try with_reducible rfl)))); (try simp only [Act.put, zA, zB, zC])))
 refine run_chain rfl rfl (by rfl) (fun Wi hWi K' hK => ?_)
 have HTi := Lib.hid (HT.out.trans hWi)
 clear HT
 go_simp
 refine (all_mess S T h W.msgs _ _ _ (HH0.out.keep (.of_step (HS.out.trans HTi.out))) (HM.out.keep (.of_step (HS.out.trans HTi.out))) HV.out).mono ?_
 rintro e wn3 ⟨rfl, hSn⟩
 refine hK _ _ (StepX.of hSn) ?_
 have HT := Lib.hid (HTi.out.trans hSn)
 clear hSn hK HTi hWi e0 e1 e2 e3 e4 u0 u1 d1
 cases qm : W.msgs.all (messV h) with
 | false =>
  have HF := Lib.hid (show worldB h W = false by simp only [worldB, qm]; simp)
  clear qm
  (try simp only [Act.put, zA, zB, zC])
  repeat (first | (refine run_off rfl rfl (by rfl) ?_; (try simp only [Act.put, zA, zB, zC])) | (refine run_chain_off rfl rfl (by rfl) (K0_mono _) ?_; (try simp only [Act.put, zA, zB, zC])) | ((refine run_want rfl rfl (by rfl) ⟨?_, fun W hW => ?_, ?_⟩; rotate_left; (· (skip; go_simp; (try with_reducible rfl)))); (try simp only [Act.put, zA, zB, zC])))
  refine run_end (L := []) rfl (fun Wy hWy => ?_)
  go_wp2
  go_ret
  exact ⟨by rw [HF.out]; rfl, HS.out.trans (HT.out.trans hWy)⟩
 | true =>
 have HMS := Lib.hid qm
 clear qm
 (try simp only [Act.put, zA, zB, zC])
 repeat (first | (refine run_off rfl rfl (by rfl) ?_; (try simp only [Act.put, zA, zB, zC])) | (refine run_chain_off rfl rfl (by rfl) (K0_mono _) ?_; (try simp only [Act.put, zA, zB, zC])) | ((refine run_want rfl rfl (by rfl) ⟨?_, fun W hW => ?_, ?_⟩; rotate_left; (· (skip; go_simp; (try with_reducible rfl)))); (try simp only [Act.put, zA, zB, zC])))
 refine run_end (L := []) rfl (fun Wy hWy => ?_)
 have HTy := Lib.hid (HT.out.trans hWy)
 clear hWy HT
 have u0 := (HB1.out.step HTy.out).cell 0
 simp only [List.getElem?_cons_zero] at u0
 go_upto_region 4 with (fail)
 clear u0
 have hl6 : W.books.length ≤ 6 := by have := bounds_valid HV.out; have := HL.out; omega
 go_loopw [29] (fun iv wr => ∃ k : Nat, k ≤ W.books.length ∧ iv = .int .i64 k ∧ (List.range k).all (okA h W) = true ∧ Step W0 wr) (fun iv _ => W.books.length - (intOf iv).toNat)
 case atStart => exact ⟨0, Nat.zero_le _, rfl, by simp, HTy.out⟩
 case round =>
  obtain ⟨k, hk, rfl, ht, hT⟩ := hrel
  have HA := Lib.hid ht
  have HT := Lib.hid hT
  clear ht hT
  by_cases hlt : k < W.books.length
  ·obtain rfl := HC.out.1 (by omega)
   obtain ⟨z1, z2, z4, ⟨f0, f1, f2, f3, f4, f5⟩, t1, t2, t4⟩ := HC.out.2 k hlt
   obtain ⟨b, hb⟩ : ∃ b, b = W.books[k] := ⟨_, rfl⟩
   have hbq : bk W k = b := by rw [hb]; exact bk_at hlt
   rw [← hb] at f0 f3 f5 t1 t2 t4
   obtain ⟨r1, n1, e1⟩ := t1.form
   obtain ⟨r2, n2, e2⟩ := t2.form
   obtain ⟨r4, n4, e4⟩ := t4.form
   subst e1 e2 e4
   have HX := Lib.hid (show AV T w (.agg #[.int .i64 b.agency, .slice r1 b.seats.length n1, .slice r2 b.off.length n2, .int .i64 b.sent, .slice r4 b.took.length n4, .int .i64 b.cash]) b from ⟨_, rfl, _, _, _, rfl, t1, t2, t4⟩)
   have HBQ := Lib.hid hbq
   have f0 := (HS.out.trans HT.out).kc f0; have f1 := (HS.out.trans HT.out).kc f1; have f2 := (HS.out.trans HT.out).kc f2; have f3 := (HS.out.trans HT.out).kc f3; have f4 := (HS.out.trans HT.out).kc f4; have f5 := (HS.out.trans HT.out).kc f5
   clear t1 t2 t4 hb hbq
   have hix : (0 : Int) ≤ (k : Int) ∧ (k : Int) < (W.books.length : Int) := by omega
   go_upto_region 6 with (fail)
   obtain ⟨W5, hW5⟩ : ∃ z9, z9 = wr.alloc (.cells #[.int .i64 b.agency, .slice r1 b.seats.length n1, .slice r2 b.off.length n2, .int .i64 b.sent, .slice r4 b.took.length n4, .int .i64 b.cash] 77) := ⟨_, rfl⟩
   have hb5 : Bx W5 wr.heap.size [.int .i64 b.agency, .slice r1 b.seats.length n1, .slice r2 b.off.length n2, .int .i64 b.sent, .slice r4 b.took.length n4, .int .i64 b.cash] 77 := by subst hW5; exact Bx.new _ [_, _, _, _, _, _] _
   have hS5 : Step wr W5 := by subst hW5; exact Step.alloc _ _
   rw [← hW5]
   obtain ⟨g9, hg9⟩ : ∃ g, g = wr.heap.size := ⟨_, rfl⟩
   rw [← hg9] at hb5 ⊢
   have HT5 := Lib.hid (HT.out.trans hS5)
   clear f0 f1 f2 f3 f4 f5
   obtain ⟨f0, f1, f2, f3, f4, f5⟩ := cells6 hb5
   clear hW5 hb5 hS5 hg9
   by_cases qa : b.agency = k
   rotate_left
   ·have d1 : (b.agency != (k : Int)) = true := by rw [bne_iff_ne]; exact qa
    have HF := Lib.hid (show worldB h W = false by
     have := okA_bad (h := h) (W := W) hlt (by simp [okA, HBQ.out, qa])
     simp only [worldB, this]; simp)
    clear qa
    go_wp2
    go_ret
    exact ⟨by rw [HF.out]; rfl, HS.out.trans HT5.out⟩
   have d1 : (b.agency != (k : Int)) = false := by rw [qa]; simp
   have HQA := Lib.hid qa
   clear qa
   obtain ⟨e0, e1, e2, e3, e4⟩ := cells5 (HB.out.step HT5.out)
   go_wp2_with fail
   refine (book_any (fun _ => False) h b _ _ _ (AV.weak (fun _ _ h => h.elim) (HH0.out.keep (.of_step (HS.out.trans HT5.out)))) (AV.weak (fun _ _ h => h.elim) (HX.out.keep (.of_step (HS.out.trans HT5.out)))) HV.out).mono ?_
   rintro e wn ⟨rfl, hSn⟩
   have HTn := Lib.hid (HT5.out.trans hSn)
   clear hSn e0 e1 e2 e3 e4 f0 f1 f2 f3 f4 f5 d1
   cases qb : bookB h b with
   | false =>
    have HF := Lib.hid (show worldB h W = false by
     have := okA_bad (h := h) (W := W) hlt (by simp [okA, HBQ.out, qb])
     simp only [worldB, this]; simp)
    clear qb
    go_wp2
    go_ret
    exact ⟨by rw [HF.out]; rfl, HS.out.trans HTn.out⟩
   | true =>
    have HF := Lib.hid (okA_step HA.out (show okA h W k = true by simp [okA, HBQ.out, HQA.out, qb]))
    clear qb
    go_wp2
    go_roundw
    case rel => exact ⟨k + 1, by omega, by go_num, HF.out, HTn.out⟩
    case measure => simp [intOf]; omega
  ·have hkl : k = W.books.length := by omega
   have HF := Lib.hid (show worldB h W = true by simp only [worldB, HV.out, HL.out, HMS.out]; have := HA.out; rw [hkl, HL.out] at this; simp [this])
   clear hkl
   go_wp2
   go_ret
   exact ⟨by rw [HF.out]; rfl, HS.out.trans HT.out⟩
set_option maxHeartbeats 2000000 in
theorem index_int (S : Nat → Prop) (l : List Int) (n : Int) (v : Value) (w : World) (hv : SL S w v l) :
  Calls Tryz.prog 149 #[v, .int .i64 n] w fun e w' => ∃ q : Int, e = .returned (.int .i64 q) ∧ (0 ≤ q ↔ n ∈ l) ∧ Step w w' := by
 obtain ⟨px, kx, bx, ox, rfl, _, mx, hpx, hcx, _⟩ := hv.ints
 have HX := Lib.hid (And.intro hpx hcx)
 clear hv hpx hcx
 go_enter Tryz.func149, Tryz.ntmps149
 go_wp2
 go_loopw [8] (fun i wr => ∃ k : Nat, k ≤ l.length ∧ i = .int .i64 k ∧ n ∉ l.take k ∧ Step w wr) (fun i _ => l.length - (intOf i).toNat)
 case atStart => exact ⟨0, Nat.zero_le _, rfl, by simp, Step.refl _⟩
 case round =>
  obtain ⟨k, hk, rfl, ht, hT⟩ := hrel
  have HA := Lib.hid ht
  have HT := Lib.hid hT
  clear ht hT
  by_cases hlt : k < l.length
  ·obtain rfl := HX.out.1 (by omega)
   have g1 := HX.out.2 k hlt
   have g1 := HT.out.kc g1
   have hix1 : (0 : Int) ≤ (k : Int) ∧ (k : Int) < (l.length : Int) := by omega
   obtain ⟨x, hx⟩ := (show ∃ x, l[k] = x from ⟨_, rfl⟩)
   rw [hx] at g1
   have HK := Lib.hid hx
   clear hx
   by_cases q1 : n = x
   ·have d1 : (n == x) = true := by rw [q1]; simp
    have HQ := Lib.hid (show n ∈ l by rw [q1, ← HK.out]; exact List.getElem_mem hlt)
    clear q1
    go_wp2
    go_ret
    exact ⟨k, rfl, by simpa using HQ.out, HT.out⟩
   ·have d1 : (n == x) = false := by rw [beq_eq_false_iff_ne]; exact q1
    have HF := Lib.hid (not_take hlt HA.out (show n ≠ l[k] by rw [HK.out]; exact q1))
    clear q1
    go_wp2
    go_roundw
    case rel => exact ⟨k + 1, by omega, by go_num, HF.out, HT.out⟩
    case measure => simp [intOf]; omega
  ·have HE := Lib.hid (show n ∉ l by have := HA.out; rwa [List.take_of_length_le (by omega)] at this)
   clear HA
   go_wp2
   go_ret
   exact ⟨-1, rfl, by simp [HE.out], HT.out⟩
set_option maxHeartbeats 1000000 in
theorem contains_int (S : Nat → Prop) (l : List Int) (n : Int) (v : Value) (w : World) (hv : SL S w v l) :
  Calls Tryz.prog 138 #[v, .int .i64 n] w fun e w' => e = .returned (.bool (decide (n ∈ l))) ∧ Step w w' := by
 have HC := Lib.hid (index_int S l n v _ hv)
 obtain ⟨p, c, rfl⟩ := hv.form
 clear hv
 go_enter Tryz.func138, Tryz.ntmps138
 go_wp2_with fail
 refine HC.out.mono ?_
 rintro e wn ⟨q, rfl, hn, hSn⟩
 have HF := Lib.hid (show decide (n ∈ l) = decide (0 ≤ q) by
  by_cases z : 0 ≤ q
  ·rw [decide_eq_true z, decide_eq_true (hn.1 z)]
  ·rw [decide_eq_false z, decide_eq_false (fun h => z (hn.2 h))])
 have HT := Lib.hid hSn
 clear hSn hn HC
 go_wp2
 go_ret
 exact ⟨by rw [HF.out]; rfl, HT.out⟩
def carriesB (W : Wd) (m : BT.Message) (s n : Int) : Bool := decide (m.shw = s) && (decide (n ∈ m.seats) && !hasK (bk W m.dst.toNat).took (keyOf m))
set_option maxRecDepth 100000 in
set_option maxHeartbeats 2000000 in
theorem carries_any (S T : Nat → Prop) (W : Wd) (m : BT.Message) (s n : Int) (u v : Value) (w : World) (hu : AV S w u W) (hv : AV T w v m) (hd : 0 ≤ m.dst ∧ m.dst < W.books.length) :
  Calls Tryz.prog 105 #[u, v, .int .i64 s, .int .i64 n] w fun e w' => e = .returned (.bool (carriesB W m s n)) ∧ Step w w' := by
 obtain ⟨b0, b1, rfl, s0, s1⟩ := hu.wd
 obtain ⟨pb, kb, bb, bo, rfl, _, _, hpb, hcb, _⟩ := s0.books
 obtain ⟨pm, km, rfl⟩ := s1.form
 have HV0 := Lib.hid hv
 obtain ⟨c4, rfl, s4⟩ := hv.message
 obtain ⟨px, kx, rfl⟩ := s4.form
 obtain ⟨W0, hW0⟩ : ∃ z9, z9 = (w.alloc (.cells #[.slice pb W.books.length kb, .slice pm W.msgs.length km] 34)).alloc (.cells #[.int .i64 m.frm, .int .i64 m.dst, .int .i64 m.number, .int .i64 m.shw, .slice px m.seats.length kx] 86) := ⟨_, rfl⟩
 have hS : Step w W0 := by subst hW0; exact (by repeat (first | (with_reducible assumption) | (with_reducible exact Step.refl _) | (with_reducible apply Step.s_alloc) | (with_reducible apply Step.s_drew) | (with_reducible apply Step.s_drewN) | (with_reducible refine Step.trans ?_ (by with_reducible assumption))))
 have hb0 : Bx W0 w.heap.size [.slice pb W.books.length kb, .slice pm W.msgs.length km] 34 := by subst hW0; exact (Bx.new _ [_, _] _).alloc _
 have hb1 : Bx W0 (w.heap.size + 1) [.int .i64 m.frm, .int .i64 m.dst, .int .i64 m.number, .int .i64 m.shw, .slice px m.seats.length kx] 86 := by subst hW0; exact Bx.new' _ [_, _, _, _, _] _ _ (by simp)
 have HM := Lib.hid s4
 have HS := Lib.hid hS
 have HB0 := Lib.hid hb0
 have HB1 := Lib.hid hb1
 have HW := Lib.hid hW0
 obtain ⟨d, hdd⟩ : ∃ d : Nat, m.dst = d := ⟨m.dst.toNat, by omega⟩
 have hdl : d < W.books.length := by omega
 obtain rfl := hpb (by omega)
 obtain ⟨z1, z2, z4, ⟨f0, f1, f2, f3, f4, f5⟩, t1, t2, t4⟩ := hcb d hdl
 have hbk : bk W m.dst.toNat = W.books[d] := by rw [hdd, Int.toNat_natCast]; exact bk_at hdl
 obtain ⟨b, hb⟩ : ∃ b, b = W.books[d] := ⟨_, rfl⟩
 rw [← hb] at t4 hbk
 obtain ⟨p4, k4, hf4⟩ := t4.form
 subst hf4
 have HT4 := Lib.hid t4
 have HBK := Lib.hid hbk
 have HF4 := Lib.hid f4
 have HD := Lib.hid (And.intro hdd hdl)
 clear hu hv s0 s1 s4 hpb hcb hS hb0 hb1 hW0 f0 f1 f2 f3 f4 f5 t1 t2 t4 hb hbk hdd hd
 go_enter Tryz.func105, Tryz.ntmps105
 go_upto_region 1 with (fail)
 rw [← HW.out]
 clear HW
 obtain ⟨m0, m1, m2, m3, m4⟩ := cells5 HB1.out
 obtain ⟨u0, u1⟩ : _ ∧ _ := ⟨HB0.out.cell 0, HB0.out.cell 1⟩
 simp only [zD, zE] at u0 u1
 have f4 := HS.out.kc HF4.out
 have hd := HD.out
 have hrg : (0 : Int) ≤ m.dst ∧ m.dst < (W.books.length : Int) := by omega
 have htn : m.dst.toNat = d := by omega
 clear hd
 by_cases q1 : m.shw = s
 rotate_left
 ·have d1 : (m.shw == s) = false := by rw [beq_eq_false_iff_ne]; exact q1
  have HF := Lib.hid (show carriesB W m s n = false by simp [carriesB, q1])
  clear q1
  refine wp_region_seqM (fun c d v a w h => by cases d <;> exact h) (kdOf [8, 19, 20] []) [0, 1, 0, 7, 15, 31, 63, 31, 255, 511, 1023, 2047, 4095, 2047, 10239, 32767, 65535, 131071, 2047, 264191, 1048575, 2097151, 4194303, 8388607] [0, 1, 2, 3, 4, 5, 6, 7, 8, 9, 10, 11, 12, 13, 14, 15, 16, 17, 18, 19, 20, 21, 22, 23] [] (by kernel_rfl) (by kernel_rfl) (fun i T z hi hk => by simp [kdOf] at hk <;> (try (split at hk <;> cases hk))) ?_
  intro Wx hWx
  have m0 := (hWx).kc m0; have m1 := (hWx).kc m1; have m2 := (hWx).kc m2; have m3 := (hWx).kc m3; have m4 := (hWx).kc m4; have u0 := (hWx).kc u0; have u1 := (hWx).kc u1; have f4 := (hWx).kc f4
  repeat (first | (refine run_off rfl rfl (by rfl) ?_; (try simp only [Act.put, zA, zB, zC])) | (refine run_chain_off rfl rfl (by rfl) (K0_mono _) ?_; (try simp only [Act.put, zA, zB, zC])) | ((refine run_want rfl rfl (by rfl) ⟨?_, fun W hW => ?_, ?_⟩; rotate_left; (· (have d0 := hW.kc m0; have d1 := hW.kc m1; have d2 := hW.kc m2; have d3 := hW.kc m3; have d4 := hW.kc m4; have d5 := hW.kc u0; have d6 := hW.kc u1; have d7 := hW.kc f4; go_simp; (try with_reducible rfl)))); (try simp only [Act.put, zA, zB, zC])))
  refine run_end (L := []) rfl (fun Wy hWy => ?_)
  go_wp2
  go_ret
  exact ⟨by rw [HF.out]; rfl, HS.out.trans (hWx.trans hWy)⟩
 have d1 : (m.shw == s) = true := by rw [q1]; simp
 have HQ1 := Lib.hid q1
 clear q1
 refine wp_region_seqM (fun c d v a w h => by cases d <;> exact h) (kdOf [8, 19, 20] []) [0, 1, 0, 7, 15, 31, 63, 31, 255, 511, 1023, 2047, 4095, 2047, 10239, 32767, 65535, 131071, 2047, 264191, 1048575, 2097151, 4194303, 8388607] [0, 1, 2, 3, 4, 5, 6, 7, 8, 9, 10, 11, 12, 13, 14, 15, 16, 17, 18, 19, 20, 21, 22, 23] [] (by kernel_rfl) (by kernel_rfl) (fun i T z hi hk => by simp [kdOf] at hk <;> (try (split at hk <;> cases hk))) ?_
 intro Wx hWx
 have m0 := (hWx).kc m0; have m1 := (hWx).kc m1; have m2 := (hWx).kc m2; have m3 := (hWx).kc m3; have m4 := (hWx).kc m4; have u0 := (hWx).kc u0; have u1 := (hWx).kc u1; have f4 := (hWx).kc f4
 repeat (first | (refine run_off rfl rfl (by rfl) ?_; (try simp only [Act.put, zA, zB, zC])) | (refine run_chain_off rfl rfl (by rfl) (K0_mono _) ?_; (try simp only [Act.put, zA, zB, zC])) | ((refine run_want rfl rfl (by rfl) ⟨?_, fun W hW => ?_, ?_⟩; rotate_left; (· (have d0 := hW.kc m0; have d1 := hW.kc m1; have d2 := hW.kc m2; have d3 := hW.kc m3; have d4 := hW.kc m4; have d5 := hW.kc u0; have d6 := hW.kc u1; have d7 := hW.kc f4; go_simp; (try with_reducible rfl)))); (try simp only [Act.put, zA, zB, zC])))
 refine run_chain rfl rfl (by rfl) (fun Wi hWi K' hK => ?_)
 have HTi := Lib.hid (hWx.trans hWi)
 clear hWx
 go_simp
 refine (contains_int T m.seats n _ _ (HM.out.keep (.of_step (HS.out.trans HTi.out)))).mono ?_
 rintro e wn ⟨rfl, hSn⟩
 refine hK _ _ (StepX.of hSn) ?_
 have HT2 := Lib.hid (HTi.out.trans hSn)
 have m0 := (hWi.trans hSn).kc m0; have m1 := (hWi.trans hSn).kc m1; have m2 := (hWi.trans hSn).kc m2; have m3 := (hWi.trans hSn).kc m3; have m4 := (hWi.trans hSn).kc m4; have u0 := (hWi.trans hSn).kc u0; have u1 := (hWi.trans hSn).kc u1; have f4 := (hWi.trans hSn).kc f4
 clear hSn hK HTi hWi
 by_cases q2 : n ∈ m.seats
 rotate_left
 ·rw [decide_eq_false q2]
  have HF := Lib.hid (show carriesB W m s n = false by simp [carriesB, q2])
  clear q2
  (try simp only [Act.put, zA, zB, zC])
  repeat (first | (refine run_off rfl rfl (by rfl) ?_; (try simp only [Act.put, zA, zB, zC])) | (refine run_chain_off rfl rfl (by rfl) (K0_mono _) ?_; (try simp only [Act.put, zA, zB, zC])) | ((refine run_want rfl rfl (by rfl) ⟨?_, fun W hW => ?_, ?_⟩; rotate_left; (· (have d0 := hW.kc m0; have d1 := hW.kc m1; have d2 := hW.kc m2; have d3 := hW.kc m3; have d4 := hW.kc m4; have d5 := hW.kc u0; have d6 := hW.kc u1; have d7 := hW.kc f4; go_simp; (try with_reducible rfl)))); (try simp only [Act.put, zA, zB, zC])))
  refine run_end (L := []) rfl (fun Wy hWy => ?_)
  go_wp2
  go_ret
  exact ⟨by rw [HF.out]; rfl, HS.out.trans (HT2.out.trans hWy)⟩
 rw [decide_eq_true q2]
 have HQ2 := Lib.hid q2
 clear q2
 (try simp only [Act.put, zA, zB, zC])
 repeat (first | (refine run_off rfl rfl (by rfl) ?_; (try simp only [Act.put, zA, zB, zC])) | (refine run_chain_off rfl rfl (by rfl) (K0_mono _) ?_; (try simp only [Act.put, zA, zB, zC])) | ((refine run_want rfl rfl (by rfl) ⟨?_, fun W hW => ?_, ?_⟩; rotate_left; (· (have d0 := hW.kc m0; have d1 := hW.kc m1; have d2 := hW.kc m2; have d3 := hW.kc m3; have d4 := hW.kc m4; have d5 := hW.kc u0; have d6 := hW.kc u1; have d7 := hW.kc f4; go_simp; (try with_reducible rfl)))); (try simp only [Act.put, zA, zB, zC])))
 refine run_chain rfl rfl (by rfl) (fun Wi hWi K' hK => ?_)
 have HTi := Lib.hid (HT2.out.trans hWi)
 clear hWi
 go_simp
 refine (key_any T m _ _ (HV0.out.keep (.of_step (HS.out.trans HTi.out)))).mono ?_
 rintro e wn2 ⟨rfl, hSn⟩
 refine hK _ _ (StepX.of hSn) ?_
 have HT3 := Lib.hid (HTi.out.trans hSn)
 clear hSn hK HTi
 (try simp only [Act.put, zA, zB, zC])
 repeat (first | (refine run_off rfl rfl (by rfl) ?_; (try simp only [Act.put, zA, zB, zC])) | (refine run_chain_off rfl rfl (by rfl) (K0_mono _) ?_; (try simp only [Act.put, zA, zB, zC])) | ((refine run_want rfl rfl (by rfl) ⟨?_, fun W hW => ?_, ?_⟩; rotate_left; (· (skip; go_simp; (try with_reducible rfl)))); (try simp only [Act.put, zA, zB, zC])))
 refine run_chain rfl rfl (by rfl) (fun Wi hWi K' hK => ?_)
 have HTi := Lib.hid (HT3.out.trans hWi)
 clear hWi
 go_simp
 refine (contains_key S b.took m.frm m.number _ _ (HT4.out.keep (.of_step (HS.out.trans HTi.out)))).mono ?_
 rintro e wn3 ⟨rfl, hSn⟩
 have HF := Lib.hid (show carriesB W m s n = !hasK b.took ⟨m.frm, m.number⟩ by simp [carriesB, HQ1.out, HQ2.out, HBK.out, keyOf])
 obtain ⟨qq, hqq⟩ : ∃ z9, z9 = hasK b.took ⟨m.frm, m.number⟩ := ⟨_, rfl⟩
 rw [← hqq] at HF ⊢
 refine hK _ _ (StepX.of hSn) ?_
 have HT4 := Lib.hid (HTi.out.trans hSn)
 clear hSn hK HTi hqq
 (try simp only [Act.put, zA, zB, zC])
 repeat (first | (refine run_off rfl rfl (by rfl) ?_; (try simp only [Act.put, zA, zB, zC])) | (refine run_chain_off rfl rfl (by rfl) (K0_mono _) ?_; (try simp only [Act.put, zA, zB, zC])) | ((refine run_want rfl rfl (by rfl) ⟨?_, fun W hW => ?_, ?_⟩; rotate_left; (· (skip; go_simp; (try with_reducible rfl)))); (try simp only [Act.put, zA, zB, zC])))
 refine run_end (L := []) rfl (fun Wy hWy => ?_)
 go_wp2
 go_ret
 exact ⟨by rw [HF.out]; rfl, HS.out.trans (HT4.out.trans hWy)⟩
def numsB (p : Nat → Bool) (k : Nat) : List Int := ((List.range k).filter p).map fun (a : Nat) => (a : Int)
theorem numsB_yes {p : Nat → Bool} {k : Nat} (h : p k = true) : numsB p (k + 1) = numsB p k ++ [(k : Int)] := by simp [numsB, List.range_succ, List.filter_append, h]
theorem numsB_no {p : Nat → Bool} {k : Nat} (h : p k = false) : numsB p (k + 1) = numsB p k := by simp [numsB, List.range_succ, List.filter_append, h]
theorem numsB_zero (p : Nat → Bool) : numsB p 0 = [] := by simp [numsB]
theorem numsB_len (p : Nat → Bool) (k : Nat) : (numsB p k).length ≤ k := by
 have := List.length_filter_le p (List.range k)
 simpa [numsB] using this
def agsP (W : Wd) (s n : Int) (a : Nat) : Bool := decide (seatAt (bk W a) s n ≠ -1)
def mgsP (W : Wd) (s n : Int) (k : Nat) : Bool := carriesB W (ms W k) s n
theorem _root_.Go.BT.SL.seat {S : Nat → Prop} {w : World} {v : Value} {b : Book} (h : SL S w v b.seats) {i j : Nat} (hi : i < b.seats.length) (hj : j < b.seats[i].length) :
  ∃ rb ro rk qb qo qk, v = .slice (some ⟨rb, ro, none⟩) b.seats.length rk ∧ w.cell? ⟨rb, ro + i, none⟩ = some (.slice (some ⟨qb, qo, none⟩) b.seats[i].length qk) ∧ w.cell? ⟨qb, qo + j, none⟩ = some (.int .i64 (seatAt b i j)) := by
 obtain ⟨p, c, rb, ro, rfl, _, _, hp, hc, _⟩ := h.rows
 obtain ⟨u, h1, h2⟩ := hc i hi
 obtain ⟨p2, c2, qb, qo, rfl, _, _, hp2, hc2, _⟩ := h2.ints
 rw [hp2 (by omega)] at h1
 refine ⟨rb, ro, c, qb, qo, c2, by rw [hp (by omega)], h1, ?_⟩
 rw [hc2 j hj]
 simp [seatAt, List.getD_eq_getElem?_getD, hi, hj]
set_option maxRecDepth 100000 in
set_option maxHeartbeats 4000000 in
theorem places_any (S : Nat → Prop) (W : Wd) (i j : Nat) (u : Value) (w : World) (hu : AV S w u W) (hbk : ∀ a (ha : a < W.books.length), ∃ hi : i < W.books[a].seats.length, j < W.books[a].seats[i].length) (hms : ∀ k (hk : k < W.msgs.length), 0 ≤ W.msgs[k].dst ∧ W.msgs[k].dst < W.books.length) (hl1 : W.books.length ≤ 1000000) (hl2 : W.msgs.length ≤ 1000000) :
  Calls Tryz.prog 55 #[u, .int .i64 i, .int .i64 j] w fun e w' => ∃ va vm, e = .returned (.tuple #[va, vm]) ∧ SL (Old w) w' va (numsB (agsP W i j) W.books.length) ∧ SL (Old w) w' vm (numsB (mgsP W i j) W.msgs.length) ∧ Step w w' := by
 have HU := Lib.hid hu
 obtain ⟨b0, b1, rfl, s0, s1⟩ := hu.wd
 obtain ⟨pb, kb, bb, bo, rfl, _, _, hpb, hcb, _⟩ := s0.books
 obtain ⟨pm, km, mb, mo, rfl, _, _, hpm, hcm, _⟩ := s1.mess
 obtain ⟨W0, hW0⟩ : ∃ z9, z9 = w.alloc (.cells #[.slice pb W.books.length kb, .slice pm W.msgs.length km] 34) := ⟨_, rfl⟩
 have hS : Step w W0 := by subst hW0; exact Step.alloc _ _
 have hb0 : Bx W0 w.heap.size [.slice pb W.books.length kb, .slice pm W.msgs.length km] 34 := by subst hW0; exact Bx.new _ [_, _] _
 have HS := Lib.hid hS
 have HB := Lib.hid hb0
 have HC := Lib.hid (And.intro (And.intro hpb hcb) (And.intro hpm hcm))
 have HP := Lib.hid (And.intro hbk hms)
 have HW := Lib.hid hW0
 have hl1' := hl1
 have hl2' := hl2
 clear hu s0 s1 hpb hcb hpm hcm hS hb0 hbk hms hW0 hl1 hl2
 go_enter Tryz.func55, Tryz.ntmps55
 go_upto_region 1 with (fail)
 rw [← HW.out]
 clear HW
 have u0 := HB.out.cell 0
 simp only [List.getElem?_cons_zero] at u0
 have HT0 := Lib.hid (Step.refl W0)
 go_upto_region 2 with (fail)
 clear u0
 go_loopw [6, 15] (fun v6 iv wr => ∃ k : Nat, k ≤ W.books.length ∧ iv = .int .i64 k ∧ OwnL (fun _ => False) W0.heap.size 3 wr v6 (numsB (agsP W i j) k) ∧ Step W0 wr) (fun _ iv _ => W.books.length - (intOf iv).toNat)
 case atStart => exact ⟨0, Nat.zero_le _, rfl, by rw [numsB_zero]; exact OwnL.nil _ _ _ _, HT0.out⟩
 case round =>
  obtain ⟨k, hk, rfl, hown, hT⟩ := hrel
  have HT := Lib.hid hT
  have HOW := Lib.hid hown
  clear hT
  obtain ⟨p6, c6, rfl⟩ : ∃ p c, u6 = .slice p (numsB (agsP W i j) k).length c := by obtain ⟨p, c, e, _, _⟩ := hown.form; exact ⟨p, c, e⟩
  clear hown
  have hnl := numsB_len (agsP W i j) k
  by_cases hlt : k < W.books.length
  ·obtain rfl := HC.out.1.1 (by omega)
   obtain ⟨z1, z2, z4, ⟨f0, f1, f2, f3, f4, f5⟩, t1, t2, t4⟩ := HC.out.1.2 k hlt
   obtain ⟨hi, hj⟩ := HP.out.1 k hlt
   have hbq : bk W k = W.books[k] := bk_at hlt
   obtain ⟨b, hb⟩ : ∃ b, b = W.books[k] := ⟨_, rfl⟩
   obtain ⟨x, hx⟩ : ∃ x, x = seatAt b i j := ⟨_, rfl⟩
   have hpq : agsP W i j k = decide (x ≠ -1) := by rw [agsP, hbq, ← hb, hx]
   rw [← hb] at f0 f3 f5 t1 t2 t4
   have hi' : i < b.seats.length := by rw [hb]; exact hi
   have hj' : j < b.seats[i].length := by subst hb; exact hj
   obtain ⟨rb, ro, rk, qb, qo, qk, e1, r0, r1⟩ := t1.seat hi' hj'
   subst e1
   obtain ⟨p2, k2, e2⟩ := t2.form
   obtain ⟨p4, k4, e4⟩ := t4.form
   subst e2 e4
   rw [← hx] at r1
   obtain ⟨nr, hnr⟩ : ∃ n, n = b.seats[i].length := ⟨_, rfl⟩
   rw [← hnr] at r0 hj'
   have HPQ := Lib.hid hpq
   clear hb hx hbq hpq hnr t1 t2 t4 hi hj
   have f0 := (HS.out.trans HT.out).kc f0; have f1 := (HS.out.trans HT.out).kc f1; have f2 := (HS.out.trans HT.out).kc f2; have f3 := (HS.out.trans HT.out).kc f3; have f4 := (HS.out.trans HT.out).kc f4; have f5 := (HS.out.trans HT.out).kc f5; have r0 := (HS.out.trans HT.out).kc r0; have r1 := (HS.out.trans HT.out).kc r1
   have hix : (0 : Int) ≤ (k : Int) ∧ (k : Int) < (W.books.length : Int) := by omega
   have hiy : (0 : Int) ≤ (i : Int) ∧ (i : Int) < (b.seats.length : Int) := by omega
   have hjy : (0 : Int) ≤ (j : Int) ∧ (j : Int) < (nr : Int) := by omega
   go_upto_region 4 with (fail)
   obtain ⟨W5, hW5⟩ : ∃ z9, z9 = wr.alloc (.cells #[.int .i64 b.agency, .slice (some ⟨rb, ro, none⟩) b.seats.length rk, .slice p2 b.off.length k2, .int .i64 b.sent, .slice p4 b.took.length k4, .int .i64 b.cash] 77) := ⟨_, rfl⟩
   have hb5 : Bx W5 wr.heap.size [.int .i64 b.agency, .slice (some ⟨rb, ro, none⟩) b.seats.length rk, .slice p2 b.off.length k2, .int .i64 b.sent, .slice p4 b.took.length k4, .int .i64 b.cash] 77 := by subst hW5; exact Bx.new _ [_, _, _, _, _, _] _
   have hS5 : Step wr W5 := by subst hW5; exact Step.alloc _ _
   rw [← hW5]
   obtain ⟨g9, hg9⟩ : ∃ g, g = wr.heap.size := ⟨_, rfl⟩
   rw [← hg9] at hb5 ⊢
   have y1 := hb5.cell 1
   simp only [zD, zE] at y1
   have r0 := (hS5).kc r0; have r1 := (hS5).kc r1
   have hown5 := HOW.out.step hS5
   have HT5 := Lib.hid (HT.out.trans hS5)
   clear hW5 hb5 hS5 hg9 HOW f0 f1 f2 f3 f4 f5
   by_cases q : x = -1
   ·have d1 : (x != -1) = false := by rw [q]; rfl
    have hq : agsP W i j k = false := by rw [HPQ.out, q]; rfl
    have HN := Lib.hid (numsB_no hq)
    have HO := Lib.hid hown5
    clear q hq hown5
    go_wp2
    go_roundw
    case rel => exact ⟨k + 1, by omega, by go_num, by rw [HN.out]; exact HO.out, HT5.out⟩
    case measure => simp [intOf]; omega
   ·have d1 : (x != -1) = true := by rw [bne_iff_ne]; exact q
    have hq : agsP W i j k = true := by rw [HPQ.out]; exact decide_eq_true q
    clear q
    have hbase : W0.heap.size ≤ (W5.alloc (.cells #[.int .i64 (k : Int)] 3)).heap.size := by have := HT5.out.size; simp; omega
    go_wp2_with (at_builtin; refine wpl_append (α := Int) (S := fun _ => False) (base := W0.heap.size) (v := .slice p6 (numsB (agsP W i j) k).length c6) (l := numsB (agsP W i j) k) (m := [(k : Int)]) eiInts rfl _ _ rfl rfl rfl (hown5.step (Step.alloc _ _)) (SLe.one 3 rfl) ((numsB (agsP W i j) k).length + 1) (by simp) (numsB (agsP W i j) (k + 1)) (numsB_yes hq).symm (by simp only [maxLen]; omega) (by omega) hbase ?_)
    intro p' c' w7 hown7 hg7
    have hal := Step.alloc W5 (.cells #[.int .i64 (k : Int)] 3)
    have hlt7 := (hown5.step hal).lt
    have HT7 := Lib.hid (show Step W0 w7 from StepX.fresh (HT5.out.trans hal) (StepX.grown (X := fun j' => (Value.slice p6 (numsB (agsP W i j) k).length c6).ownBlock = some j') hg7 fun j' hj _ => hj) (fun j' hj => (hlt7 j' hj).1))
    have HO7 := Lib.hid hown7
    clear hown5 hown7 hg7 hal hlt7 hbase
    go_wp2
    go_roundw
    case rel => exact ⟨k + 1, by omega, by go_num, HO7.out, HT7.out⟩
    case measure => simp [intOf]; omega
  ·have hkl : k = W.books.length := by omega
   subst hkl
   have HA := Lib.hid ((HOW.out.flat (Old w)).slb fun g hg e => by have := (HOW.out.lt g hg).1; have := HS.out.size; unfold Old at e; omega)
   have u1 := (HB.out.step HT.out).cell 1
   simp only [zD, zE] at u1
   obtain ⟨wo, hwo⟩ : ∃ z9, z9 = wr := ⟨_, rfl⟩
   subst hwo
   have HTo := Lib.hid (Step.refl wo)
   go_upto_region 8 with (fail)
   clear u1 HOW
   go_loopw [7, 37] (fun v7 iv wr => ∃ k : Nat, k ≤ W.msgs.length ∧ iv = .int .i64 k ∧ OwnL (fun _ => False) wo.heap.size 3 wr v7 (numsB (mgsP W i j) k) ∧ Step wo wr) (fun _ iv _ => W.msgs.length - (intOf iv).toNat)
   case atStart => exact ⟨0, Nat.zero_le _, rfl, by rw [numsB_zero]; exact OwnL.nil _ _ _ _, HTo.out⟩
   case round =>
    obtain ⟨k, hk, rfl, hown, hT⟩ := hrel
    have HTr := Lib.hid hT
    have HOW := Lib.hid hown
    clear hT
    obtain ⟨p7, c7, rfl⟩ : ∃ p c, u7 = .slice p (numsB (mgsP W i j) k).length c := by obtain ⟨p, c, e, _, _⟩ := hown.form; exact ⟨p, c, e⟩
    clear hown
    have hnl := numsB_len (mgsP W i j) k
    by_cases hlt : k < W.msgs.length
    ·obtain rfl := HC.out.2.1 (by omega)
     obtain ⟨z4, ⟨f0, f1, f2, f3, f4⟩, t4⟩ := HC.out.2.2 k hlt
     obtain ⟨m, hm⟩ : ∃ b, b = W.msgs[k] := ⟨_, rfl⟩
     have hmq : ms W k = m := by rw [hm]; exact ms_at hlt
     have hmd := HP.out.2 k hlt
     rw [← hm] at f0 f1 f2 f3 t4 hmd
     obtain ⟨p4, k4, e4⟩ := t4.form
     subst e4
     have HMV := Lib.hid (show AV S w (.agg #[.int .i64 m.frm, .int .i64 m.dst, .int .i64 m.number, .int .i64 m.shw, .slice p4 m.seats.length k4]) m from ⟨_, rfl, _, rfl, t4⟩)
     have HMQ := Lib.hid (And.intro hmq hmd)
     clear hm hmq hmd t4
     have f0 := ((HS.out.trans HT.out).trans HTr.out).kc f0; have f1 := ((HS.out.trans HT.out).trans HTr.out).kc f1; have f2 := ((HS.out.trans HT.out).trans HTr.out).kc f2; have f3 := ((HS.out.trans HT.out).trans HTr.out).kc f3; have f4 := ((HS.out.trans HT.out).trans HTr.out).kc f4
     have hix : (0 : Int) ≤ (k : Int) ∧ (k : Int) < (W.msgs.length : Int) := by omega
     go_upto_region 10 with (fail)
     obtain ⟨W5, hW5⟩ : ∃ z9, z9 = wr.alloc (.cells #[.int .i64 m.frm, .int .i64 m.dst, .int .i64 m.number, .int .i64 m.shw, .slice p4 m.seats.length k4] 86) := ⟨_, rfl⟩
     have hb5 : Bx W5 wr.heap.size [.int .i64 m.frm, .int .i64 m.dst, .int .i64 m.number, .int .i64 m.shw, .slice p4 m.seats.length k4] 86 := by subst hW5; exact Bx.new _ [_, _, _, _, _] _
     have hS5 : Step wr W5 := by subst hW5; exact Step.alloc _ _
     rw [← hW5]
     obtain ⟨g9, hg9⟩ : ∃ g, g = wr.heap.size := ⟨_, rfl⟩
     rw [← hg9] at hb5 ⊢
     obtain ⟨m0, m1, m2, m3, m4⟩ := cells5 hb5
     have HT5 := Lib.hid (HTr.out.trans hS5)
     have hown5 := HOW.out.step hS5
     have HO5 := Lib.hid hown5
     clear hW5 hb5 hS5 hg9 HOW f0 f1 f2 f3 f4 hown5
     obtain ⟨u0, u1⟩ : _ ∧ _ := ⟨(HB.out.step (HT.out.trans HT5.out)).cell 0, (HB.out.step (HT.out.trans HT5.out)).cell 1⟩
     simp only [zD, zE] at u0 u1
     go_wp2_with fail
     refine (carries_any S S W m i j _ _ _ (HU.out.keep (.of_step ((HS.out.trans HT.out).trans HT5.out))) (HMV.out.keep (.of_step ((HS.out.trans HT.out).trans HT5.out))) HMQ.out.2).mono ?_
     rintro e wn ⟨rfl, hSn⟩
     have HTn := Lib.hid (HT5.out.trans hSn)
     have hown5 := HO5.out.step hSn
     clear hSn HT5 HO5 u0 u1 m0 m1 m2 m3 m4
     cases hq : mgsP W i j k with
     | false =>
      rw [show carriesB W m i j = false by rw [← hq, mgsP, HMQ.out.1]]
      have HN := Lib.hid (numsB_no hq)
      have HO := Lib.hid hown5
      clear hq hown5
      go_wp2
      go_roundw
      case rel => exact ⟨k + 1, by omega, by go_num, by rw [HN.out]; exact HO.out, HTn.out⟩
      case measure => simp [intOf]; omega
     | true =>
      rw [show carriesB W m i j = true by rw [← hq, mgsP, HMQ.out.1]]
      have hbase : wo.heap.size ≤ (wn.alloc (.cells #[.int .i64 (k : Int)] 3)).heap.size := by have := HTn.out.size; simp; omega
      go_wp2_with (at_builtin; refine wpl_append (α := Int) (S := fun _ => False) (base := wo.heap.size) (v := .slice p7 (numsB (mgsP W i j) k).length c7) (l := numsB (mgsP W i j) k) (m := [(k : Int)]) eiInts rfl _ _ rfl rfl rfl (hown5.step (Step.alloc _ _)) (SLe.one 3 rfl) ((numsB (mgsP W i j) k).length + 1) (by simp) (numsB (mgsP W i j) (k + 1)) (numsB_yes hq).symm (by simp only [maxLen]; omega) (by omega) hbase ?_)
      intro p' c' w7 hown7 hg7
      have hal := Step.alloc wn (.cells #[.int .i64 (k : Int)] 3)
      have hlt7 := (hown5.step hal).lt
      have HT7 := Lib.hid (show Step wo w7 from StepX.fresh (HTn.out.trans hal) (StepX.grown (X := fun j' => (Value.slice p7 (numsB (mgsP W i j) k).length c7).ownBlock = some j') hg7 fun j' hj _ => hj) (fun j' hj => (hlt7 j' hj).1))
      have HO7 := Lib.hid hown7
      clear hown5 hown7 hg7 hal hlt7 hbase hq
      go_wp2
      go_roundw
      case rel => exact ⟨k + 1, by omega, by go_num, HO7.out, HT7.out⟩
      case measure => simp [intOf]; omega
    ·have hkl : k = W.msgs.length := by omega
     subst hkl
     have HB2 := Lib.hid ((HOW.out.flat (Old w)).slb fun g hg e => by have := (HOW.out.lt g hg).1; have := HS.out.size; have := HT.out.size; unfold Old at e; omega)
     go_wp2
     go_ret2
     exact ⟨_, _, rfl, HA.out.keep (.of_step HTr.out), HB2.out, (HS.out.trans HT.out).trans HTr.out⟩
theorem put_out {b : Book} {i j : Nat} {x : Int} (h : ¬ (∃ hi : i < b.seats.length, j < b.seats[i].length)) (s q : Nat) : seatAt (putSeat b i j x) s q = seatAt b s q := by
 by_cases e : i ≠ s ∨ j ≠ q
 ·exact seatAt_put_ne e
 ·have e1 : i = s := by omega
  have e2 : j = q := by omega
  subst e1 e2
  unfold putSeat seatAt
  by_cases hi : i < b.seats.length
  ·have hj : ¬ j < b.seats[i].length := fun hj => h ⟨hi, hj⟩
   have hg : b.seats.getD i [] = b.seats[i] := by simp [List.getD_eq_getElem?_getD, hi]
   have hs1 : b.seats[i].set j x = b.seats[i] := List.set_eq_of_length_le (by omega)
   rw [hg, hs1, List.set_getElem_self]
  ·rw [List.set_eq_of_length_le (by omega)]
theorem put_abs {b : Book} {i j : Nat} {x : Int} (hx : x ≠ -1) (hb : seatAt b i j ≠ -1) (s q : Nat) : seatAt (putSeat b i j x) s q = -1 ↔ seatAt b s q = -1 := by
 by_cases h : ∃ hi : i < b.seats.length, j < b.seats[i].length
 ·obtain ⟨hi, hj⟩ := h
  by_cases e : i ≠ s ∨ j ≠ q
  ·rw [seatAt_put_ne e]
  ·have e1 : i = s := by omega
   have e2 : j = q := by omega
   subst e1 e2
   rw [seatAt_putI hi hj]
   exact ⟨fun e => absurd e hx, fun e => absurd e hb⟩
 ·rw [put_out h]
theorem sell_abs {h : House} {b b' : Book} {s n y d : Int} (hr : sellD h b s n y d = .ok b') (s' q : Nat) : (seatAt b' s' q = -1 ↔ seatAt b s' q = -1) ∧ b'.took = b.took ∧ b'.sent = b.sent := by
 unfold sellD at hr
 split at hr
 rotate_left
 ·cases hr
 rename_i he
 injection hr with hr
 obtain ⟨h1, h2, h3, _, _, _, h7, _⟩ := sellE_ok he
 obtain ⟨i, rfl, hi⟩ := nat_of h1
 obtain ⟨j, rfl, hj⟩ := nat_of h2
 simp [withinB] at h3
 subst hr
 exact ⟨put_abs (b := b) (i := i) (j := j) (x := y) (by omega) h7 s' q, rfl, rfl⟩
theorem refund_abs {h : House} {b b' : Book} {s n : Int} (hr : refundD h b s n = .ok b') (s' q : Nat) : (seatAt b' s' q = -1 ↔ seatAt b s' q = -1) ∧ b'.took = b.took ∧ b'.sent = b.sent := by
 unfold refundD at hr
 split at hr
 rotate_left
 ·cases hr
 rename_i he
 injection hr with hr
 obtain ⟨h1, h2, h3⟩ := refundE_ok he
 obtain ⟨i, rfl, hi⟩ := nat_of h1
 obtain ⟨j, rfl, hj⟩ := nat_of h2
 subst hr
 exact ⟨put_abs (b := b) (i := i) (j := j) (x := 0) (by omega) (by omega) s' q, rfl, rfl⟩
theorem place_free {h : House} {b : Book} {c d : Int} : ∀ (m s : Nat) {p : Nat} {k : Int}, placeL h b c d s m = some (p, k) → 0 ≤ k ∧ seatAt b p k = 0
 | 0, s, p, k, hh => by simp [placeL] at hh
 | m + 1, s, p, k, hh => by
  cases ho : openL h b s c d with
  | nil => rw [placeL_skip ho] at hh; exact place_free m (s + 1) hh
  | cons k' l =>
   rw [placeL_hit ho] at hh
   injection hh with hh
   injection hh with h1 h2
   subst h1 h2
   have := freeL_mem (h := h) (b := b) (s := s) (c := c) (d := d) (k := k') (by rw [ho]; simp)
   exact ⟨this.1, this.2.2⟩
theorem lose_abs {h : House} (i : Nat) (d : Int) (b : Book) : ∀ (k : Nat) (s q : Nat), seatAt (loseTo h b i d k).1 s q = -1 ↔ seatAt b s q = -1
 | 0, s, q => Iff.rfl
 | k + 1, s, q => by
  have ih := lose_abs (h := h) i d b k s q
  unfold loseTo
  split
  rotate_left
  ·exact ih
  ·rename_i hy
   refine Iff.trans ?_ ih
   unfold loseOne
   split
   ·rename_i p k' hp
    obtain ⟨h0, h1⟩ := place_free _ _ hp
    obtain ⟨n, rfl⟩ : ∃ n : Nat, k' = n := ⟨k'.toNat, by omega⟩
    have a1 := put_abs (b := (loseTo h b i d k).1) (i := p) (j := n) (x := seatAt (loseTo h b i d k).1 i k) (by omega) (by omega)
    refine Iff.trans (put_abs (b := putSeat (loseTo h b i d k).1 p n (seatAt (loseTo h b i d k).1 i k)) (i := i) (j := k) (x := 0) (by decide) ?_ s q) (a1 s q)
    intro e
    have := (a1 i k).1 e
    omega
   ·exact put_abs (b := (loseTo h b i d k).1) (i := i) (j := k) (x := 0) (by decide) (by omega) s q
theorem loseD_abs {h : House} {b b' : Book} {s d : Int} (hv : valid h = true) (hb : bookB h b = true) (hr : bookOf (loseD h b s d) = .ok b') (s' q : Nat) : (seatAt b' s' q = -1 ↔ seatAt b s' q = -1) ∧ b'.took = b.took ∧ b'.sent = b.sent := by
 unfold loseD at hr
 split at hr
 rotate_left
 ·cases hr
 rename_i he
 have hs : withinB s 0 (h.dates.length - 1) = true := by
  unfold loseE at he
  split at he
  ·omega
  ·rename_i q; simpa using q
 obtain ⟨i, rfl, hi⟩ := nat_of hs
 have hbo := off_valid hb i
 obtain ⟨hO2, hc2, hc0, _⟩ := okDesk_book hv hbo
 have hO := (okDesk_book hv hb).1
 have hil : i < b.seats.length := by have := hO.2.2.1; omega
 have hlen := rows_len hv hb hil
 have hk : (((offBook b i).seats.getD i []).length : Int) ≤ sizeL h.sectors := by
  simp [offBook, List.getD_eq_getElem?_getD, hil, hlen]
 have hL := like_to hO2 hc0 i d _ hk
 have hK := lose_keep i d _ (book_iff.1 hbo).2.1 ((offBook b i).seats.getD i []).length
 rw [Int.toNat_natCast] at hr
 have hr2 : (loseTo h (offBook b i) i d ((offBook b i).seats.getD i []).length).1 = b' := by
  have : bookOf (.ok (loseTo h (offBook b i) i d (b.seats.getD i []).length)) = Except.ok (loseTo h (offBook b i) i d (b.seats.getD i []).length).1 := rfl
  rw [this] at hr
  injection hr
 subst hr2
 exact ⟨lose_abs i d (offBook b i) _ s' q, hK.2.1, hL.sent⟩
theorem seat_open {h : House} (hv : valid h = true) (a : Nat) {s i : Nat} (hs : s < h.dates.length) (hi : (i : Int) < sizeL h.sectors) : seatAt (openP h a) s i = heldV a ((h.holds.getD s []).getD i 0) := by
 have hb := bounds_valid hv
 have h1 : s < h.holds.length := by omega
 have h2 := hb.2.2.2.2.2.2.2.2.1 s h1
 have h3 : i < h.holds[s].length := by omega
 unfold seatAt openP
 simp [List.getD_eq_getElem?_getD, h1, h3]
theorem held_in {h : House} (hv : valid h = true) {s i : Nat} (hs : s < h.dates.length) (hi : (i : Int) < sizeL h.sectors) : 0 ≤ (h.holds.getD s []).getD i 0 ∧ (h.holds.getD s []).getD i 0 < agN h := by
 have hb := bounds_valid hv
 have h1 : s < h.holds.length := by omega
 have h2 := hb.2.2.2.2.2.2.2.2.1 s h1
 have h3 : i < h.holds[s].length := by omega
 have hg : (h.holds.getD s []).getD i 0 = h.holds[s][i] := by simp [List.getD_eq_getElem?_getD, h1, h3]
 rw [hg]
 simp only [valid, validB, Bool.and_eq_true] at hv
 have := List.all_eq_true.1 hv.2.2 _ (List.getElem_mem h1)
 simp only [holdsB, Bool.and_eq_true] at this
 have := List.all_eq_true.1 this.2 _ (List.getElem_mem h3)
 simp [withinB] at this
 omega
theorem start_inv {h : House} (hv : valid h = true) : WdInv h (startD h) := by
 have hl : (startD h).books.length = agN h := by simp [startD]
 have hb : ∀ a, a < agN h → bk (startD h) a = openP h a := fun a ha => by simp [bk, startD, List.getD_eq_getElem?_getD, ha]
 refine ⟨start_ok hv, fun s i hs hi => ?_, fun k hk => absurd hk (by simp [startD]), fun a ha => ?_, fun a ha x hx => ?_⟩
 ·have hr := held_in hv hs hi
  obtain ⟨n, hn⟩ : ∃ n : Nat, (h.holds.getD s []).getD i 0 = n := ⟨((h.holds.getD s []).getD i 0).toNat, by omega⟩
  rw [hn] at hr
  refine .inl ⟨n, ⟨by rw [hl]; omega, ?_⟩, fun b hb' => ?_, fun k hk => absurd hk.1 (by simp [startD])⟩
  ·rw [hb n (by omega), seat_open hv n hs hi, hn]
   simp [heldV]
  ·have h1 : b < agN h := by have := hb'.1; omega
   have h2 := hb'.2
   rw [hb b h1, seat_open hv b hs hi, hn] at h2
   unfold heldV at h2
   split at h2
   ·rename_i e; omega
   ·exact absurd rfl h2
 ·have h1 : a < agN h := by omega
  rw [hb a h1]
  simp [openP, sentTo, startD]
 ·have h1 : a < agN h := by omega
  rw [hb a h1] at hx
  simp [openP] at hx
theorem putAll_at (i : Nat) (x : Int) : ∀ (l : List Int) (b : Book) (hi : i < b.seats.length), (∀ j ∈ l, 0 ≤ j ∧ j < b.seats[i].length) → ∀ s q : Nat, seatAt (putAll b i x l) s q = if s = i ∧ (q : Int) ∈ l then x else seatAt b s q
 | [], b, hi, hl, s, q => by simp [putAll]
 | j :: l, b, hi, hl, s, q => by
  obtain ⟨h0, h1⟩ := hl j List.mem_cons_self
  obtain ⟨n, rfl⟩ : ∃ n : Nat, j = n := ⟨j.toNat, by omega⟩
  have hj : n < b.seats[i].length := by omega
  have hi' : i < (putSeat b i n x).seats.length := by simpa [putSeat] using hi
  have ih := putAll_at i x l (putSeat b i n x) hi' (fun j hj => by rw [putSeat_len hi hi']; exact hl j (List.mem_cons_of_mem _ hj)) s q
  simp only [putAll, List.foldl_cons, Int.toNat_natCast] at ih ⊢
  rw [ih]
  by_cases e1 : s = i
  ·subst e1
   by_cases e2 : (q : Int) ∈ l
   ·rw [if_pos ⟨rfl, e2⟩, if_pos ⟨rfl, List.mem_cons_of_mem _ e2⟩]
   ·rw [if_neg (fun hh => e2 hh.2)]
    by_cases e3 : q = n
    ·subst e3
     rw [seatAt_putI hi hj, if_pos ⟨rfl, List.mem_cons_self⟩]
    ·rw [seatAt_put_ne (.inr (Ne.symm e3)), if_neg]
     rintro ⟨_, hh⟩
     rcases List.mem_cons.1 hh with hh | hh
     ·exact e3 (by exact_mod_cast hh)
     ·exact e2 hh
  ·rw [if_neg (fun hh => e1 hh.1), if_neg (fun hh => e1 hh.1), seatAt_put_ne (.inl (Ne.symm e1))]
theorem ms_more (W : Wd) (B : List Book) (m : BT.Message) (k : Nat) : ms ⟨B, W.msgs ++ [m]⟩ k = if k = W.msgs.length then m else ms W k := by
 unfold ms
 by_cases e : k = W.msgs.length
 ·subst e; simp [List.getD_eq_getElem?_getD]
 ·rw [if_neg e]
  rcases Nat.lt_or_ge k W.msgs.length with hk | hk
  ·simp [List.getD_eq_getElem?_getD, List.getElem?_append_left hk]
  ·rw [List.getD_eq_getElem?_getD, List.getD_eq_getElem?_getD, List.getElem?_eq_none (by simp; omega), List.getElem?_eq_none hk]
theorem sentTo_more (W : Wd) (B : List Book) (m : BT.Message) (a : Int) {k : Nat} (hk : k ≤ W.msgs.length) : sentTo ⟨B, W.msgs ++ [m]⟩ a k = sentTo W a k := by
 unfold sentTo
 rw [List.take_append_of_le_length hk]
theorem book_agency {h : House} {W : Wd} (I : WdInv h W) {i : Nat} (hi : i < W.books.length) : (bk W i).agency = i := by rw [bk_at hi]; exact (I.ok.book i hi).2
theorem book_valid {h : House} {W : Wd} (I : WdInv h W) {i : Nat} (hi : i < W.books.length) : bookB h (bk W i) = true := by rw [bk_at hi]; exact (I.ok.book i hi).1
theorem dst_in {h : House} {W : Wd} (hl : W.books.length = agN h) {m : BT.Message} (hm : messV h m = true) : ∃ d : Nat, m.dst = d ∧ d < W.books.length ∧ m.frm ≠ m.dst ∧ ∃ f : Nat, m.frm = f ∧ f < W.books.length := by
 unfold messV at hm
 simp only [Bool.and_eq_true, decide_eq_true_eq] at hm
 obtain ⟨⟨⟨⟨⟨m1, m2⟩, m3⟩, _⟩, _⟩, _⟩ := hm
 obtain ⟨d, e1, e2⟩ := nat_of m2
 obtain ⟨f, e3, e4⟩ := nat_of m1
 exact ⟨d, e1, by omega, m3, f, e3, by omega⟩
theorem give_inv {h : House} {W : Wd} (hv : valid h = true) (I : WdInv h W) {i : Nat} (hi : i < W.books.length) {t s : Int} {l : List Int} {b' : Book} {m : BT.Message} (hr : giveD h (bk W i) t s l = .ok (b', m)) (hok : WdOk h ⟨W.books.set i b', W.msgs ++ [m]⟩) : WdInv h ⟨W.books.set i b', W.msgs ++ [m]⟩ := by
 have hbv := book_valid I hi
 have hmv : messV h m = true := (give_valid hv hbv hr).2.2.1
 unfold giveD at hr
 split at hr
 rotate_left
 ·cases hr
 rename_i he
 injection hr with hr
 obtain ⟨h1, h2, h3, h4, h5, h6, h7, h8⟩ := giveE_ok he
 obtain ⟨s0, rfl, hs0⟩ := nat_of h3
 have hO := (okDesk_book hv hbv).1
 have hil : s0 < (bk W i).seats.length := by have := hO.2.2.1; omega
 have hlen := rows_len hv hbv hil
 have hk := putAll_keep s0 (-1) l (bk W i)
 have hat := putAll_at s0 (-1) l (bk W i) hil (fun j hj => ⟨(seats_ok h4 j hj).1, by have := (seats_ok h4 j hj).2; omega⟩)
 unfold giveP at hr
 rw [giveTo_all, Int.toNat_natCast] at hr
 injection hr with hr1 hr2
 have hseat : ∀ s q : Nat, seatAt b' s q = if s = s0 ∧ (q : Int) ∈ l then -1 else seatAt (bk W i) s q := fun s q => by rw [← hr1]; exact hat s q
 have htook : b'.took = (bk W i).took := by rw [← hr1]; exact hk.2.2.2.2.1
 have hsent : b'.sent = (bk W i).sent + 1 := by rw [← hr1]
 have hag := book_agency I hi
 have mf : m.frm = i := by rw [← hr2]; exact hag
 have mn : m.number = (bk W i).sent + 1 := by rw [← hr2]
 have msw : m.shw = s0 := by rw [← hr2]
 have mse : m.seats = l := by rw [← hr2]
 clear hr1 hr2 hat
 have htk : ∀ a, (bk ⟨W.books.set i b', W.msgs ++ [m]⟩ a).took = (bk W a).took := fun a => by
  rw [bk_set W i b' _ a hi]
  split
  ·rename_i e; subst e; exact htook
  ·rfl
 obtain ⟨d, hd, hdl, _, _⟩ := dst_in I.ok.len hmv
 have hnew : keyOf m ∉ (bk W d).took := fun hx => by
  obtain ⟨k, g1, g2, g3⟩ := I.took d hdl _ hx
  unfold keyOf at g2
  injection g2 with g4 g5
  have n1 := I.num k g1
  have n2 := sentTo_succ W (ms W k).frm g1
  rw [if_pos rfl] at n2
  have n3 := sentTo_mono W (ms W k).frm (show k + 1 ≤ W.msgs.length by omega)
  have n4 := I.sent i hi
  rw [g4, mf] at n1 n2 n3
  rw [g5, mn] at n1
  omega
 have hcar : ∀ s q k, k ≠ W.msgs.length → (Carries ⟨W.books.set i b', W.msgs ++ [m]⟩ s q k ↔ Carries W s q k) := fun s q k hk' => by
  unfold Carries
  rw [ms_more W _ m k, if_neg hk', htk]
  simp only [List.length_append, List.length_cons, List.length_nil]
  exact and_congr_left fun _ => by omega
 have hcn : ∀ s q : Nat, Carries ⟨W.books.set i b', W.msgs ++ [m]⟩ s q W.msgs.length ↔ s = s0 ∧ (q : Int) ∈ l := fun s q => by
  unfold Carries
  rw [ms_more W _ m _, if_pos rfl, htk, msw, mse, hd, Int.toNat_natCast]
  simp only [List.length_append, List.length_cons, List.length_nil]
  exact ⟨fun ⟨_, a, b, _⟩ => ⟨by omega, b⟩, fun ⟨a, b⟩ => ⟨by omega, by omega, b, hnew⟩⟩
 have hhd : ∀ s q a, Holds ⟨W.books.set i b', W.msgs ++ [m]⟩ s q a ↔ Holds W s q a ∧ ¬ (a = i ∧ s = s0 ∧ (q : Int) ∈ l) := fun s q a => by
  unfold Holds
  rw [bk_set W i b' _ a hi]
  simp only [List.length_set]
  by_cases e : a = i
  ·subst e
   rw [if_pos rfl, hseat]
   by_cases e2 : s = s0 ∧ (q : Int) ∈ l
   ·rw [if_pos e2]; exact ⟨fun hh => absurd rfl hh.2, fun hh => absurd ⟨rfl, e2⟩ hh.2⟩
   ·rw [if_neg e2]; exact ⟨fun hh => ⟨hh, fun q => e2 q.2⟩, fun hh => hh.1⟩
  ·rw [if_neg e]; exact ⟨fun hh => ⟨hh, fun q => e q.1⟩, fun hh => hh.1⟩
 refine ⟨hok, fun s q hs hq => ?_, fun k hk' => ?_, fun a ha => ?_, fun a ha x hx => ?_⟩
 ·have ho := I.one s q hs hq
  by_cases e2 : s = s0 ∧ (q : Int) ∈ l
  ·have hhi : Holds W s q i := ⟨hi, by rw [e2.1]; exact h6 q e2.2⟩
   rcases ho with ⟨a, g1, g2, g3⟩ | ⟨k, g1, g2, g3⟩
   ·have ha := g2 i hhi
    subst ha
    refine .inr ⟨W.msgs.length, (hcn s q).2 e2, fun k hk' => ?_, fun b hb => ?_⟩
    ·by_cases e3 : k = W.msgs.length
     ·exact e3
     ·exact absurd ((hcar s q k e3).1 hk') (g3 k)
    ·have hb := (hhd s q b).1 hb
     exact hb.2 ⟨g2 b hb.1, e2⟩
   ·exact absurd hhi (g3 i)
  ·have hn : ¬ Carries ⟨W.books.set i b', W.msgs ++ [m]⟩ s q W.msgs.length := fun hh => e2 ((hcn s q).1 hh)
   have hh2 : ∀ a, Holds ⟨W.books.set i b', W.msgs ++ [m]⟩ s q a ↔ Holds W s q a := fun a => (hhd s q a).trans ⟨fun x => x.1, fun x => ⟨x, fun y => e2 y.2⟩⟩
   have hc2 : ∀ k, Carries ⟨W.books.set i b', W.msgs ++ [m]⟩ s q k ↔ Carries W s q k := fun k => by
    by_cases e3 : k = W.msgs.length
    ·subst e3; exact ⟨fun hh => absurd hh hn, fun hh => absurd hh.1 (by omega)⟩
    ·exact hcar s q k e3
   rcases ho with ⟨a, g1, g2, g3⟩ | ⟨k, g1, g2, g3⟩
   ·exact .inl ⟨a, (hh2 a).2 g1, fun b hb => g2 b ((hh2 b).1 hb), fun k hk' => g3 k ((hc2 k).1 hk')⟩
   ·exact .inr ⟨k, (hc2 k).2 g1, fun b hb => g2 b ((hc2 b).1 hb), fun a ha => g3 a ((hh2 a).1 ha)⟩
 ·have hk2 : k ≤ W.msgs.length := by simp at hk'; omega
  rw [ms_more W _ m k, sentTo_more W _ m _ hk2]
  by_cases e3 : k = W.msgs.length
  ·rw [if_pos e3, mn, mf, I.sent i hi, e3]
  ·rw [if_neg e3]; exact I.num k (by omega)
 ·have ha' : a < W.books.length := by simpa using ha
  have hl1 : (W.msgs ++ [m]).length = W.msgs.length + 1 := by simp
  have hs1 := sentTo_succ ⟨W.books.set i b', W.msgs ++ [m]⟩ a (k := W.msgs.length) (by simp)
  rw [ms_more W _ m _, if_pos rfl, sentTo_more W _ m _ (Nat.le_refl _), mf] at hs1
  show (bk ⟨W.books.set i b', W.msgs ++ [m]⟩ a).sent = sentTo ⟨W.books.set i b', W.msgs ++ [m]⟩ a (W.msgs ++ [m]).length
  rw [hl1, hs1, bk_set W i b' _ a hi]
  by_cases e : a = i
  ·subst e; rw [if_pos rfl, if_pos rfl, hsent, I.sent a ha']; omega
  ·rw [if_neg e, if_neg (by omega), I.sent a ha']; omega
 ·have ha' : a < W.books.length := by simpa using ha
  rw [htk] at hx
  obtain ⟨k, g1, g2, g3⟩ := I.took a ha' x hx
  refine ⟨k, by simp; omega, ?_⟩
  rw [ms_more W _ m k, if_neg (by omega)]
  exact ⟨g2, g3⟩
structure WB (h : House) (W : Wd) : Prop where
 val : valid h = true
 len : W.books.length = agN h
 msg : ∀ k (hk : k < W.msgs.length), messV h W.msgs[k] = true
 book : ∀ a (ha : a < W.books.length), W.books[a].agency = a ∧ bookB h W.books[a] = true
theorem worldB_parts {h : House} {W : Wd} (hw : worldB h W = true) : WB h W := by
 simp only [worldB, Bool.and_eq_true, decide_eq_true_eq, List.all_eq_true, List.mem_range] at hw
 obtain ⟨h1, h2, h3, h4⟩ := hw
 refine ⟨h1, h2, fun k hk => h3 _ (List.getElem_mem hk), fun a ha => ?_⟩
 have := h4 a ha
 simp only [okA, Bool.and_eq_true, decide_eq_true_eq, bk_at ha] at this
 exact this
theorem WB.rows {h : House} {W : Wd} (F : WB h W) {i j : Nat} (hi : i < h.dates.length) (hj : (j : Int) < sizeL h.sectors) (a : Nat) (ha : a < W.books.length) : ∃ hi : i < W.books[a].seats.length, j < W.books[a].seats[i].length := by
 have P := bookB_parts (F.book a ha).2
 have hi' : i < W.books[a].seats.length := by rw [P.seats]; exact hi
 refine ⟨hi', ?_⟩
 have := List.all_eq_true.1 P.rows _ (List.getElem_mem hi')
 simp only [rowB, Bool.and_eq_true, decide_eq_true_eq] at this
 have := this.1
 omega
theorem WB.dst {h : House} {W : Wd} (F : WB h W) (k : Nat) (hk : k < W.msgs.length) : 0 ≤ W.msgs[k].dst ∧ W.msgs[k].dst < W.books.length := by
 obtain ⟨d, h1, h2, _⟩ := dst_in F.len (F.msg k hk)
 omega
def inB (h : House) (s i : Int) : Bool := withinB s 0 (h.dates.length - 1) && withinB i 0 (sizeL h.sectors - 1)
def whereL (l m : List Int) : Int × Int × Int := match l, m with
 | a :: _, _ => (a, -1, 0)
 | [], k :: _ => (-1, k, 0)
 | [], [] => (0, 0, 7)
def whereR (h : House) (W : Wd) (s i : Int) : Int × Int × Int :=
 if worldB h W = false then (0, 0, 1) else if inB h s i = false then (0, 0, 2) else whereL (numsB (agsP W s i) W.books.length) (numsB (mgsP W s i) W.msgs.length)
set_option maxRecDepth 100000 in
set_option maxHeartbeats 4000000 in
theorem Where_any (S T : Nat → Prop) (h : House) (W : Wd) (s i : Int) (v u : Value) (w : World) (hv : AV S w v h) (hu : AV T w u W) (hm : W.msgs.length ≤ 1000000) :
  Calls Tryz.prog 18 #[v, u, .int .i64 s, .int .i64 i] w fun e w' => e = .returned (.tuple #[.int .i64 (whereR h W s i).1, .int .i64 (whereR h W s i).2.1, .int .i64 (whereR h W s i).2.2]) ∧ Step w w' := by
 have HH0 := Lib.hid hv
 have HU0 := Lib.hid hu
 obtain ⟨c0, c1, c2, c3, c4, rfl, h0, h1, h2, h3, h4⟩ := hv.house
 obtain ⟨p0, k0, rfl⟩ := h0.form
 obtain ⟨p1, k1, rfl⟩ := h1.form
 obtain ⟨p2, k2, rfl⟩ := h2.form
 obtain ⟨p3, k3, rfl⟩ := h3.form
 obtain ⟨p4, k4, rfl⟩ := h4.form
 obtain ⟨b0, b1, rfl, s0, s1⟩ := hu.wd
 obtain ⟨pb, kb, rfl⟩ := s0.form
 obtain ⟨pm, km, rfl⟩ := s1.form
 obtain ⟨W0, hW0⟩ : ∃ z9, z9 = (w.alloc (.cells #[.slice p0 h.sectors.length k0, .slice p1 h.prices.length k1, .slice p2 h.dates.length k2, .slice p3 h.frm.length k3, .slice p4 h.holds.length k4] 41)).alloc (.cells #[.slice pb W.books.length kb, .slice pm W.msgs.length km] 34) := ⟨_, rfl⟩
 have hS : Step w W0 := by subst hW0; exact (by repeat (first | (with_reducible assumption) | (with_reducible exact Step.refl _) | (with_reducible apply Step.s_alloc) | (with_reducible apply Step.s_drew) | (with_reducible apply Step.s_drewN) | (with_reducible refine Step.trans ?_ (by with_reducible assumption))))
 have hb0 : Bx W0 w.heap.size [.slice p0 h.sectors.length k0, .slice p1 h.prices.length k1, .slice p2 h.dates.length k2, .slice p3 h.frm.length k3, .slice p4 h.holds.length k4] 41 := by subst hW0; exact (Bx.new _ [_, _, _, _, _] _).alloc _
 have hb1 : Bx W0 (w.heap.size + 1) [.slice pb W.books.length kb, .slice pm W.msgs.length km] 34 := by subst hW0; exact Bx.new' _ [_, _] _ _ (by simp)
 have HS := Lib.hid hS
 have HB := Lib.hid hb0
 have HB1 := Lib.hid hb1
 have HW := Lib.hid hW0
 have HM := Lib.hid hm
 have HC1 := Lib.hid (world_any S T h W _ _ W0 (HH0.out.keep (.of_step hS)) (HU0.out.keep (.of_step hS)))
 clear hv hu h0 h1 h2 h3 h4 s0 s1 hS hb0 hb1 hW0 hm
 go_enter Tryz.func18, Tryz.ntmps18
 go_upto_region 1 with (fail)
 rw [← HW.out]
 clear HW
 obtain ⟨e0, e1, e2, e3, e4⟩ := cells5 HB.out
 obtain ⟨u0, u1⟩ : _ ∧ _ := ⟨HB1.out.cell 0, HB1.out.cell 1⟩
 simp only [zD, zE] at u0 u1
 go_wp2_with fail
 refine HC1.out.mono ?_
 rintro e wn ⟨rfl, hSn⟩
 have HT := Lib.hid hSn
 clear HC1 hSn e0 e1 e2 e3 e4 u0 u1
 cases qw : worldB h W with
 | false =>
  have HF := Lib.hid (show whereR h W s i = (0, 0, 1) by simp [whereR, qw])
  clear qw
  go_wp2
  go_ret3
  exact ⟨by rw [HF.out]; rfl, HS.out.trans HT.out⟩
 | true =>
 have HQ := Lib.hid qw
 have HP := Lib.hid (worldB_parts qw)
 clear qw
 obtain ⟨e0, e1, e2, e3, e4⟩ := cells5 (HB.out.step HT.out)
 obtain ⟨u0, u1⟩ : _ ∧ _ := ⟨(HB1.out.step HT.out).cell 0, (HB1.out.step HT.out).cell 1⟩
 simp only [zD, zE] at u0 u1
 have hd6 : h.dates.length ≤ 6 := by have := bounds_valid HP.out.val; omega
 go_wp2_with fail
 refine (ticket.within_any _ _ _ _).mono ?_
 rintro e wn2 ⟨rfl, rfl⟩
 cases q1 : withinB s 0 ((h.dates.length : Int) - 1) with
 | false =>
  have HF := Lib.hid (show whereR h W s i = (0, 0, 2) by simp [whereR, HQ.out, inB, q1])
  clear q1
  go_wp2
  go_ret3
  exact ⟨by rw [HF.out]; rfl, HS.out.trans HT.out⟩
 | true =>
 have HQ1 := Lib.hid q1
 clear q1
 go_wp2_with fail
 refine (size_any S h _ _ (HH0.out.keep (.of_step (HS.out.trans HT.out))) (okSec_valid HP.out.val)).mono ?_
 rintro e wn3 ⟨rfl, hSn⟩
 have HT3 := Lib.hid (HT.out.trans hSn)
 clear HT hSn e0 e1 e2 e3 e4 u0 u1
 have HT := HT3
 clear HT3
 obtain ⟨e0, e1, e2, e3, e4⟩ := cells5 (HB.out.step HT.out)
 obtain ⟨u0, u1⟩ : _ ∧ _ := ⟨(HB1.out.step HT.out).cell 0, (HB1.out.step HT.out).cell 1⟩
 simp only [zD, zE] at u0 u1
 have hd7 : 0 ≤ sizeL h.sectors ∧ sizeL h.sectors ≤ 100 := by have := bounds_valid HP.out.val; omega
 go_wp2_with fail
 refine (ticket.within_any _ _ _ _).mono ?_
 rintro e wn4 ⟨rfl, rfl⟩
 cases q2 : withinB i 0 (sizeL h.sectors - 1) with
 | false =>
  have HF := Lib.hid (show whereR h W s i = (0, 0, 2) by simp [whereR, HQ.out, inB, q2])
  clear q2
  go_wp2
  go_ret3
  exact ⟨by rw [HF.out]; rfl, HS.out.trans HT.out⟩
 | true =>
 have HF := Lib.hid (show whereR h W s i = whereL (numsB (agsP W s i) W.books.length) (numsB (mgsP W s i) W.msgs.length) by simp [whereR, HQ.out, inB, q2, HQ1.out])
 have q1 := HQ1.out
 simp only [withinB, decide_eq_true_eq] at q1 q2
 obtain ⟨sn, rfl⟩ : ∃ n : Nat, s = n := ⟨s.toNat, by omega⟩
 obtain ⟨jn, rfl⟩ : ∃ n : Nat, i = n := ⟨i.toNat, by omega⟩
 have hcall := Lib.hid (places_any T W sn jn _ wn3 (HU0.out.keep (.of_step (HS.out.trans HT.out))) (HP.out.rows (by omega) (by omega)) (fun k hk => HP.out.dst k hk) (by have := bounds_valid HP.out.val; have := HP.out.len; omega) HM.out)
 clear q1 q2 hd6 hd7 HQ1 e0 e1 e2 e3 e4
 go_wp2_with fail
 refine hcall.out.mono ?_
 rintro e wn5 ⟨va, vm, rfl, hva, hvm, hSn⟩
 have HT5 := Lib.hid (HT.out.trans hSn)
 clear HT hSn hcall u0 u1
 generalize hgl : numsB (agsP W sn jn) W.books.length = la at *
 generalize hgm : numsB (mgsP W sn jn) W.msgs.length = lm at *
 clear hgl hgm
 obtain ⟨pa, ka, ba, oa, rfl, _, _, hpa, hca, _⟩ := hva.ints
 obtain ⟨pk, kk, bk', ok', rfl, _, _, hpk, hck, _⟩ := hvm.ints
 have HK := Lib.hid hck
 have HKP := Lib.hid hpk
 have HA := Lib.hid hca
 have HAP := Lib.hid hpa
 clear hva hvm hpa hca hpk hck
 cases la with
 | cons a l =>
  obtain rfl := HAP.out (by simp)
  have a0 := HA.out 0 (by simp)
  simp only [List.getElem_cons_zero, Nat.add_zero] at a0
  have hl : (0 : Int) < ((a :: l).length : Int) := by simp
  clear HAP HA HK HKP
  go_wp2
  go_ret3
  exact ⟨by rw [HF.out]; rfl, HS.out.trans HT5.out⟩
 | nil =>
  clear HA HAP
  cases lm with
  | nil =>
   clear HK HKP
   go_wp2
   go_ret3
   exact ⟨by rw [HF.out]; rfl, HS.out.trans HT5.out⟩
  | cons a l =>
   obtain rfl := HKP.out (by simp)
   have a0 := HK.out 0 (by simp)
   simp only [List.getElem_cons_zero, Nat.add_zero] at a0
   have hl : (0 : Int) < ((a :: l).length : Int) := by simp
   clear HK HKP
   go_upto_region 9 with (fail)
   go_quiet (fail)
   go_wp2
   go_ret3
   exact ⟨by rw [HF.out]; rfl, (HS.out.trans HT5.out).trans (Step.drewN _ _)⟩
theorem inv_world {h : House} {W : Wd} (hv : valid h = true) (I : WdInv h W) : worldB h W = true := by
 simp only [worldB, Bool.and_eq_true, decide_eq_true_eq, List.all_eq_true, List.mem_range]
 refine ⟨hv, I.ok.len, I.ok.msg, fun a ha => ?_⟩
 have := I.ok.book a ha
 simp only [okA, Bool.and_eq_true, decide_eq_true_eq, bk_at ha]
 exact ⟨this.2, this.1⟩
theorem filter_none {p : Nat → Bool} : ∀ {n : Nat}, (∀ b, b < n → p b = false) → (List.range n).filter p = [] := by
 intro n h
 rw [List.filter_eq_nil_iff]
 intro b hb
 simp [h b (List.mem_range.1 hb)]
theorem filter_one {p : Nat → Bool} {a : Nat} (ha : p a = true) : ∀ {n : Nat}, a < n → (∀ b, b < n → p b = true → b = a) → (List.range n).filter p = [a]
 | 0, h, _ => by omega
 | n + 1, h, hu => by
  rw [List.range_succ, List.filter_append]
  by_cases e : a = n
  ·subst e
   rw [filter_none (fun b hb => by
    cases q : p b with
    | false => rfl
    | true => have := hu b (by omega) q; omega)]
   simp [ha]
  ·rw [filter_one ha (by omega) (fun b hb => hu b (by omega))]
   have : p n = false := by
    cases q : p n with
    | false => rfl
    | true => exact absurd (hu n (by omega) q).symm e
   simp [this]
theorem carries_iff {W : Wd} {s i k : Nat} (hk : k < W.msgs.length) : mgsP W s i k = true ↔ Carries W s i k := by
 unfold mgsP carriesB Carries hasK
 simp [hk]
theorem holds_iff {W : Wd} {s i a : Nat} (ha : a < W.books.length) : agsP W s i a = true ↔ Holds W s i a := by
 unfold agsP Holds
 simp [ha]
theorem one_lists {W : Wd} {s i : Nat} (h : OnePlace W s i) :
  (∃ a : Nat, a < W.books.length ∧ agsP W s i a = true ∧ (∀ b, b < W.books.length → agsP W s i b = true → b = a) ∧ numsB (agsP W s i) W.books.length = [(a : Int)] ∧ numsB (mgsP W s i) W.msgs.length = []) ∨
  (∃ k : Nat, k < W.msgs.length ∧ (∀ b, b < W.books.length → agsP W s i b = false) ∧ numsB (agsP W s i) W.books.length = [] ∧ numsB (mgsP W s i) W.msgs.length = [(k : Int)]) := by
 rcases h with ⟨a, h1, h2, h3⟩ | ⟨k, h1, h2, h3⟩
 ·have hu : ∀ b, b < W.books.length → agsP W s i b = true → b = a := fun b hb hq => h2 b ((holds_iff hb).1 hq)
  refine .inl ⟨a, h1.1, (holds_iff h1.1).2 h1, hu, ?_, ?_⟩
  ·unfold numsB
   rw [filter_one ((holds_iff h1.1).2 h1) h1.1 hu]; rfl
  ·unfold numsB
   rw [filter_none (fun b hb => by
    cases q : mgsP W s i b with
    | false => rfl
    | true => exact absurd ((carries_iff hb).1 q) (h3 b))]; rfl
 ·have hn : ∀ b, b < W.books.length → agsP W s i b = false := fun b hb => by
   cases q : agsP W s i b with
   | false => rfl
   | true => exact absurd ((holds_iff hb).1 q) (h3 b)
  refine .inr ⟨k, h1.1, hn, ?_, ?_⟩
  ·unfold numsB
   rw [filter_none hn]; rfl
  ·unfold numsB
   rw [filter_one ((carries_iff h1.1).2 h1) h1.1 (fun b hb hq => h2 b ((carries_iff hb).1 hq))]; rfl
def lastP (p : Nat → Bool) : Nat → Int
 | 0 => -1
 | k + 1 => if p k then (k : Int) else lastP p k
theorem lastP_none {p : Nat → Bool} : ∀ {n : Nat}, (∀ b, b < n → p b = false) → lastP p n = -1
 | 0, _ => rfl
 | n + 1, h => by
  unfold lastP
  rw [h n (by omega)]
  exact lastP_none fun b hb => h b (by omega)
theorem lastP_one {p : Nat → Bool} {a : Nat} (ha : p a = true) : ∀ {n : Nat}, a < n → (∀ b, b < n → p b = true → b = a) → lastP p n = a
 | 0, h, _ => by omega
 | n + 1, h, hu => by
  unfold lastP
  cases q : p n with
  | true => simp [hu n (by omega) q]
  | false =>
   have : a ≠ n := fun e => by rw [e, q] at ha; cases ha
   simp only [Bool.false_eq_true, if_false]
   exact lastP_one ha (by omega) (fun b hb => hu b (by omega))
theorem inv_where {h : House} {W : Wd} (hv : valid h = true) (I : WdInv h W) {s i : Nat} (hs : s < h.dates.length) (hi : (i : Int) < sizeL h.sectors) :
  ∃ A M : Int, whereR h W s i = (A, M, 0) ∧ (numsB (agsP W s i) W.books.length).length ≤ 1 ∧ lastP (agsP W s i) W.books.length = A ∧ (0 ≤ M ↔ A < 0) ∧ M < W.msgs.length ∧ (-1 ≤ A) ∧ (-1 ≤ M) := by
 have hin : inB h s i = true := by simp [inB, withinB]; omega
 unfold whereR
 rw [inv_world hv I, hin]
 simp only [Bool.true_eq_false, if_false]
 rcases one_lists (I.one s i hs hi) with ⟨a, ha, hp, hu, h1, h2⟩ | ⟨k, hk, hn, h1, h2⟩
 ·rw [h1, h2]
  refine ⟨a, -1, rfl, by simp, lastP_one hp ha hu, ?_, by omega, by omega, by omega⟩
  constructor <;> intro h <;> omega
 ·rw [h1, h2]
  refine ⟨-1, k, rfl, by simp, lastP_none hn, ?_, by omega, by omega, by omega⟩
  constructor <;> intro h <;> omega
theorem take_inv {h : House} {W : Wd} (hv : valid h = true) (I : WdInv h W) {i : Nat} (hi : i < W.books.length) {k0 : Nat} (hk0 : k0 < W.msgs.length) {b' : Book} (hr : takeD h (bk W i) (ms W k0) = .ok b') (hok : WdOk h ⟨W.books.set i b', W.msgs⟩) : WdInv h ⟨W.books.set i b', W.msgs⟩ := by
 have hbv := book_valid I hi
 have hmv := ms_ok I hk0
 unfold takeD at hr
 split at hr
 rotate_left
 ·cases hr
 rename_i he
 injection hr with hr
 obtain ⟨h1, h2, h3, h4, h5⟩ := takeE_ok he
 obtain ⟨m, hm⟩ : ∃ m, m = ms W k0 := ⟨_, rfl⟩
 rw [← hm] at hr h1 h2 h3 h4 hmv
 have hmv2 := hmv
 unfold messV at hmv2
 simp only [Bool.and_eq_true, decide_eq_true_eq] at hmv2
 obtain ⟨⟨⟨⟨⟨m1, m2⟩, m3⟩, m4⟩, m5⟩, m6⟩ := hmv2
 obtain ⟨s0, hs, hs0⟩ := nat_of m5
 have hO := (okDesk_book hv hbv).1
 have hil : s0 < (bk W i).seats.length := by have := hO.2.2.1; omega
 have hlen := rows_len hv hbv hil
 have hk := putAll_keep s0 0 m.seats (bk W i)
 have hat := putAll_at s0 0 m.seats (bk W i) hil (fun j hj => ⟨(seats_ok m6 j hj).1, by have := (seats_ok m6 j hj).2; omega⟩)
 unfold takeP at hr
 rw [takeTo_all, hs, Int.toNat_natCast] at hr
 have hseat : ∀ s q : Nat, seatAt b' s q = if s = s0 ∧ (q : Int) ∈ m.seats then 0 else seatAt (bk W i) s q := fun s q => by rw [← hr]; exact hat s q
 have htook : b'.took = (bk W i).took ++ [keyOf m] := by rw [← hr]
 have hsent : b'.sent = (bk W i).sent := by rw [← hr]; exact hk.2.2.2.1
 have hag := book_agency I hi
 have hdst : m.dst = i := by rw [h2, hag]
 have hnot : keyOf m ∉ (bk W i).took := by simpa [hasK] using h3
 clear hr hat
 have hcar : ∀ s q k, Carries ⟨W.books.set i b', W.msgs⟩ s q k ↔ Carries W s q k ∧ k ≠ k0 := fun s q k => by
  have hmm : ms ⟨W.books.set i b', W.msgs⟩ k = ms W k := rfl
  unfold Carries
  rw [hmm, bk_set W i b' W.msgs _ hi]
  by_cases e : (ms W k).dst.toNat = i
  ·rw [if_pos e, htook, e]
   simp only [List.mem_append, List.mem_singleton, not_or]
   constructor
   ·rintro ⟨a1, a2, a3, a4, a5⟩
    exact ⟨⟨a1, a2, a3, a4⟩, fun e2 => a5 (by rw [e2, hm])⟩
   ·rintro ⟨⟨a1, a2, a3, a4⟩, a5⟩
    exact ⟨a1, a2, a3, a4, fun e2 => a5 (key_ne I a1 hk0 (by rw [e2, hm]))⟩
  ·rw [if_neg e]
   exact ⟨fun a => ⟨a, fun e2 => e (by rw [e2, ← hm, hdst, Int.toNat_natCast])⟩, fun a => a.1⟩
 have hhd : ∀ s q a, Holds ⟨W.books.set i b', W.msgs⟩ s q a ↔ Holds W s q a ∨ (a = i ∧ s = s0 ∧ (q : Int) ∈ m.seats) := fun s q a => by
  unfold Holds
  rw [bk_set W i b' _ a hi]
  simp only [List.length_set]
  by_cases e : a = i
  ·subst e
   rw [if_pos rfl, hseat]
   by_cases e2 : s = s0 ∧ (q : Int) ∈ m.seats
   ·rw [if_pos e2]; exact ⟨fun _ => .inr ⟨rfl, e2⟩, fun _ => ⟨hi, by decide⟩⟩
   ·rw [if_neg e2]; exact ⟨.inl, fun hh => hh.elim id (fun q => absurd q.2 e2)⟩
  ·rw [if_neg e]; exact ⟨.inl, fun hh => hh.elim id (fun q => absurd q.1 e)⟩
 have hck : ∀ s q : Nat, s = s0 ∧ (q : Int) ∈ m.seats → Carries W s q k0 := fun s q e => by
  refine ⟨hk0, ?_, ?_, ?_⟩
  ·rw [← hm, hs, e.1]
  ·rw [← hm]; exact e.2
  ·rw [← hm, hdst, Int.toNat_natCast]; exact hnot
 refine ⟨hok, fun s q hs' hq => ?_, I.num, fun a ha => ?_, fun a ha x hx => ?_⟩
 ·have ho := I.one s q hs' hq
  by_cases e2 : s = s0 ∧ (q : Int) ∈ m.seats
  ·rcases ho with ⟨a, g1, g2, g3⟩ | ⟨k, g1, g2, g3⟩
   ·exact absurd (hck s q e2) (g3 k0)
   ·have hkk := g2 k0 (hck s q e2)
    subst hkk
    refine .inl ⟨i, (hhd s q i).2 (.inr ⟨rfl, e2⟩), fun b hb => ?_, fun k hk' => ?_⟩
    ·rcases (hhd s q b).1 hb with hb | hb
     ·exact absurd hb (g3 b)
     ·exact hb.1
    ·have := (hcar s q k).1 hk'
     exact this.2 (g2 k this.1)
  ·have hh2 : ∀ a, Holds ⟨W.books.set i b', W.msgs⟩ s q a ↔ Holds W s q a := fun a => (hhd s q a).trans ⟨fun x => x.elim id (fun y => absurd y.2 e2), .inl⟩
   have hc2 : ∀ k, Carries ⟨W.books.set i b', W.msgs⟩ s q k ↔ Carries W s q k := fun k => (hcar s q k).trans ⟨fun x => x.1, fun x => ⟨x, fun e3 => e2 (by
    subst e3
    obtain ⟨_, a2, a3, _⟩ := x
    rw [← hm] at a2 a3
    exact ⟨by omega, a3⟩)⟩⟩
   rcases ho with ⟨a, g1, g2, g3⟩ | ⟨k, g1, g2, g3⟩
   ·exact .inl ⟨a, (hh2 a).2 g1, fun b hb => g2 b ((hh2 b).1 hb), fun k hk' => g3 k ((hc2 k).1 hk')⟩
   ·exact .inr ⟨k, (hc2 k).2 g1, fun b hb => g2 b ((hc2 b).1 hb), fun a ha => g3 a ((hh2 a).1 ha)⟩
 ·have ha' : a < W.books.length := by simpa using ha
  rw [bk_set W i b' W.msgs a hi]
  by_cases e : a = i
  ·subst e; rw [if_pos rfl, hsent]; exact I.sent a ha'
  ·rw [if_neg e]; exact I.sent a ha'
 ·have ha' : a < W.books.length := by simpa using ha
  rw [bk_set W i b' W.msgs a hi] at hx
  by_cases e : a = i
  ·subst e
   rw [if_pos rfl, htook, List.mem_append, List.mem_singleton] at hx
   rcases hx with hx | hx
   ·exact I.took a ha' x hx
   ·exact ⟨k0, hk0, by rw [hx, hm]; rfl, by show (ms W k0).dst = _; rw [← hm]; exact hdst⟩
  ·rw [if_neg e] at hx; exact I.took a ha' x hx
theorem withNone_ok {r : Except Int Book} {b' : Book} {l : List BT.Message} (hr : withNone r = .ok (b', l)) : r = .ok b' ∧ l = [] := by
 cases r with
 | ok c => injection hr with hr; injection hr with h1 h2; subst h1 h2; exact ⟨rfl, rfl⟩
 | error c => cases hr
theorem act_inv {h : House} {W : Wd} (hv : valid h = true) (I : WdInv h W) (x : ActT) : WdInv h (actD h W x).1 := by
 have hok := (act_ok hv I.ok x).1
 unfold actD at hok ⊢
 split
 rotate_left
 ·exact I
 rename_i he
 rw [if_pos he] at hok
 obtain ⟨k1, k5, h3, h4⟩ := actE_ok he
 obtain ⟨i, hia, hi⟩ := nat_of h3
 rw [hia, Int.toNat_natCast] at hok ⊢
 have hi' : i < W.books.length := by omega
 have hbv := book_valid I hi'
 have hg : W.books.getD i noBook = bk W i := rfl
 rw [hg, gate_ok hv hbv] at hok ⊢
 generalize hr : deskD h W (bk W i) x = r at hok ⊢
 cases r with
 | error c => exact I
 | ok p =>
  obtain ⟨b', l⟩ := p
  simp only [putBook] at hok ⊢
  unfold deskD at hr
  split at hr
  ·obtain ⟨hq, rfl⟩ := withNone_ok hr
   rw [List.append_nil] at hok ⊢
   exact inv_same I hi' hok (fun s j _ _ => (sell_abs hq s j).1) (sell_abs hq 0 0).2.1 (sell_abs hq 0 0).2.2
  split at hr
  ·obtain ⟨hq, rfl⟩ := withNone_ok hr
   rw [List.append_nil] at hok ⊢
   exact inv_same I hi' hok (fun s j _ _ => (refund_abs hq s j).1) (refund_abs hq 0 0).2.1 (refund_abs hq 0 0).2.2
  split at hr
  ·generalize hg : giveD h (bk W i) x.dst x.shw x.seats = r at hr
   cases r with
   | error c => cases hr
   | ok p =>
    obtain ⟨c, m⟩ := p
    injection hr with hr
    injection hr with h1 h2
    subst h1 h2
    exact give_inv hv I hi' hg hok
  split at hr
  ·rename_i hk4
   obtain ⟨hq, rfl⟩ := withNone_ok hr
   rw [List.append_nil] at hok ⊢
   obtain ⟨k0, hxm, hk0⟩ := nat_of (h4 hk4)
   rw [hxm, Int.toNat_natCast] at hq
   exact take_inv hv I hi' (k0 := k0) (by omega) hq hok
  ·obtain ⟨hq, rfl⟩ := withNone_ok hr
   rw [List.append_nil] at hok ⊢
   exact inv_same I hi' hok (fun s j _ _ => (loseD_abs hv hbv hq s j).1) (loseD_abs hv hbv hq 0 0).2.1 (loseD_abs hv hbv hq 0 0).2.2
theorem world_inv {h : House} (hv : valid h = true) (l : List ActT) : ∀ k, WdInv h (worldAt h l k)
 | 0 => start_inv hv
 | k + 1 => act_inv hv (world_inv hv l k) _
theorem take_seats {h : House} {b b' : Book} {m : BT.Message} (hv : valid h = true) (hb : bookB h b = true) (hr : takeD h b m = .ok b') : ∃ s0 : Nat, m.shw = s0 ∧ s0 < b.seats.length ∧ (∀ j ∈ m.seats, 0 ≤ j ∧ j < sizeL h.sectors) ∧ b'.seats = (putAll b s0 0 m.seats).seats ∧ b'.took = b.took ++ [keyOf m] ∧ b'.cash = b.cash ∧
  ∀ s q : Nat, seatAt b' s q = if s = s0 ∧ (q : Int) ∈ m.seats then 0 else seatAt b s q := by
 unfold takeD at hr
 split at hr
 rotate_left
 ·cases hr
 rename_i he
 injection hr with hr
 obtain ⟨h1, h2, h3, h4, h5⟩ := takeE_ok he
 have hm := h1
 unfold messV at hm
 simp only [Bool.and_eq_true, decide_eq_true_eq] at hm
 obtain ⟨⟨⟨⟨⟨m1, m2⟩, m3⟩, m4⟩, m5⟩, m6⟩ := hm
 obtain ⟨s0, hs, hs0⟩ := nat_of m5
 have hO := (okDesk_book hv hb).1
 have hil : s0 < b.seats.length := by have := hO.2.2.1; omega
 have hlen := rows_len hv hb hil
 have hk := putAll_keep s0 0 m.seats b
 have hat := putAll_at s0 0 m.seats b hil (fun j hj => ⟨(seats_ok m6 j hj).1, by have := (seats_ok m6 j hj).2; omega⟩)
 unfold takeP at hr
 rw [takeTo_all, hs, Int.toNat_natCast] at hr
 exact ⟨s0, hs, hil, seats_ok m6, by rw [← hr], by rw [← hr], by rw [← hr]; exact hk.2.2.2.2.2, fun s q => by rw [← hr]; exact hat s q⟩
theorem act_took {h : House} {W : Wd} (hv : valid h = true) (I : WdInv h W) (x : ActT) (a : Nat) : (bk (actD h W x).1 a).took.length ≤ (bk W a).took.length + 1 := by
 unfold actD
 split
 rotate_left
 ·exact Nat.le_succ _
 rename_i he
 obtain ⟨k1, k5, h3, h4⟩ := actE_ok he
 obtain ⟨i, hia, hi⟩ := nat_of h3
 rw [hia, Int.toNat_natCast]
 have hi' : i < W.books.length := by omega
 have hbv := book_valid I hi'
 have hg : W.books.getD i noBook = bk W i := rfl
 rw [hg, gate_ok hv hbv]
 generalize hr : deskD h W (bk W i) x = r
 cases r with
 | error c => exact Nat.le_succ _
 | ok p =>
  obtain ⟨b', l⟩ := p
  have hb : b'.took.length ≤ (bk W i).took.length + 1 := by
   unfold deskD at hr
   split at hr
   ·obtain ⟨hq, rfl⟩ := withNone_ok hr
    rw [(sell_abs hq 0 0).2.1]; omega
   split at hr
   ·obtain ⟨hq, rfl⟩ := withNone_ok hr
    rw [(refund_abs hq 0 0).2.1]; omega
   split at hr
   ·generalize hg : giveD h (bk W i) x.dst x.shw x.seats = r at hr
    cases r with
    | error c => cases hr
    | ok p =>
     obtain ⟨c, m⟩ := p
     injection hr with hr
     injection hr with h1 h2
     subst h1 h2
     unfold giveD at hg
     split at hg
     ·injection hg with hg
      unfold giveP at hg
      injection hg with h1 h2
      rw [← h1]
      show (giveTo (bk W i) x.shw.toNat x.seats).took.length ≤ _
      rw [giveTo_all, (putAll_keep _ _ _ _).2.2.2.2.1]; omega
     ·cases hg
   split at hr
   ·obtain ⟨hq, rfl⟩ := withNone_ok hr
    obtain ⟨_, _, _, _, _, e, _⟩ := take_seats hv hbv hq
    rw [e]; simp
   ·obtain ⟨hq, rfl⟩ := withNone_ok hr
    rw [(loseD_abs hv hbv hq 0 0).2.1]; omega
  show (bk ⟨W.books.set i b', W.msgs ++ l⟩ a).took.length ≤ _
  rw [bk_set W i b' _ a hi']
  by_cases e : a = i
  ·subst e; rw [if_pos rfl]; exact hb
  ·rw [if_neg e]; omega
theorem took_le {h : House} (hv : valid h = true) (l : List ActT) : ∀ k i, (bk (worldAt h l k) i).took.length ≤ k
 | 0, i => by
  unfold bk worldAt startD
  rcases Nat.lt_or_ge i (agN h) with hi | hi
  ·simp [List.getD_eq_getElem?_getD, hi, openP]
  ·rw [List.getD_eq_getElem?_getD, List.getElem?_eq_none (by simpa using hi)]; simp [noBook]
 | k + 1, i => by
  have h1 := act_took hv (world_inv hv l k) (l.getD k noAct) i
  have h2 := took_le hv l k i
  show (bk (actD h (worldAt h l k) (l.getD k noAct)).1 i).took.length ≤ k + 1
  omega
def tentH : House := ⟨[⟨0, 2⟩, ⟨1, 3⟩], [50, 20], [10, 20], [[0, 5], [0, 5]], [[0, 0, 0, 0, 0], [0, 1, 0, 1, 1]]⟩
set_option maxHeartbeats 2000000 in
theorem Tent_any (w : World) : Calls Tryz.prog 31 #[] w fun e w' => ∃ v', e = .returned v' ∧ AV (Old w) w' v' tentH ∧ Step w w' := by
 go_enter Tryz.func31, Tryz.ntmps31
 go_wp2
 refine ret_struct (k := 5) (g := w.heap.size) (T' := 41) (cs := [.slice (some ⟨w.heap.size + 1, 0, none⟩) 2 2, .slice (some ⟨w.heap.size + 2, 0, none⟩) 2 2, .slice (some ⟨w.heap.size + 3, 0, none⟩) 2 2, .slice (some ⟨w.heap.size + 6, 0, none⟩) 2 2, .slice (some ⟨w.heap.size + 9, 0, none⟩) 2 2]) rfl siHouse rfl ?_ rfl rfl ⟨_, rfl, ⟨_, rfl, ⟨_, _, _, _, _, rfl, ?_, ?_, ?_, ?_, ?_⟩⟩, ?_⟩
 ·repeat (first | exact Bx.new _ _ _ | apply Bx.alloc)
 ·refine SL.bx (g := w.heap.size + 1) (T := 117) (cs := [.int .i64 0, .int .i64 2, .int .i64 1, .int .i64 3]) (l := tentH.sectors) ?_ (by unfold Old; omega) 2 (by decide) (by decide) (fun i hi => ?_)
  ·repeat (first | (with_reducible refine Bx.new' _ _ _ _ ?_; simp; done) | (with_reducible apply Bx.alloc))
  ·have hi2 : i = 0 ∨ i = 1 := by simp [tentH] at hi; omega
   rcases hi2 with rfl | rfl <;> rfl
 ·refine SL.bx_ints (g := w.heap.size + 2) (T := 3) (l := tentH.prices) ?_ (by unfold Old; omega) 2 (by decide) (by decide)
  show Bx _ _ [.int .i64 50, .int .i64 20] _
  repeat (first | (with_reducible refine Bx.new' _ _ _ _ ?_; simp; done) | (with_reducible apply Bx.alloc))
 ·refine SL.bx_ints (g := w.heap.size + 3) (T := 3) (l := tentH.dates) ?_ (by unfold Old; omega) 2 (by decide) (by decide)
  show Bx _ _ [.int .i64 10, .int .i64 20] _
  repeat (first | (with_reducible refine Bx.new' _ _ _ _ ?_; simp; done) | (with_reducible apply Bx.alloc))
 ·refine SL.bx (g := w.heap.size + 6) (T := 23) (cs := [.slice (some ⟨w.heap.size + 4, 0, none⟩) 2 2, .slice (some ⟨w.heap.size + 5, 0, none⟩) 2 2]) (l := tentH.frm) ?_ (by unfold Old; omega) 2 (by decide) (by decide) (fun i hi => ?_)
  ·repeat (first | (with_reducible refine Bx.new' _ _ _ _ ?_; simp; done) | (with_reducible apply Bx.alloc))
  ·have hi2 : i = 0 ∨ i = 1 := by simp [tentH] at hi; omega
   rcases hi2 with rfl | rfl
   ·refine ⟨_, rfl, SL.bx_ints (g := w.heap.size + 4) (T := 3) (l := [0, 5]) ?_ (by unfold Old; omega) 2 (by decide) (by decide)⟩
    show Bx _ _ [.int .i64 0, .int .i64 5] _
    repeat (first | (with_reducible refine Bx.new' _ _ _ _ ?_; simp; done) | (with_reducible apply Bx.alloc))
   ·refine ⟨_, rfl, SL.bx_ints (g := w.heap.size + 5) (T := 3) (l := [0, 5]) ?_ (by unfold Old; omega) 2 (by decide) (by decide)⟩
    show Bx _ _ [.int .i64 0, .int .i64 5] _
    repeat (first | (with_reducible refine Bx.new' _ _ _ _ ?_; simp; done) | (with_reducible apply Bx.alloc))
 ·refine SL.bx (g := w.heap.size + 9) (T := 23) (cs := [.slice (some ⟨w.heap.size + 7, 0, none⟩) 5 5, .slice (some ⟨w.heap.size + 8, 0, none⟩) 5 5]) (l := tentH.holds) ?_ (by unfold Old; omega) 2 (by decide) (by decide) (fun i hi => ?_)
  ·repeat (first | (with_reducible refine Bx.new' _ _ _ _ ?_; simp; done) | (with_reducible apply Bx.alloc))
  ·have hi2 : i = 0 ∨ i = 1 := by simp [tentH] at hi; omega
   rcases hi2 with rfl | rfl
   ·refine ⟨_, rfl, SL.bx_ints (g := w.heap.size + 7) (T := 3) (l := [0, 0, 0, 0, 0]) ?_ (by unfold Old; omega) 5 (by decide) (by decide)⟩
    show Bx _ _ [.int .i64 0, .int .i64 0, .int .i64 0, .int .i64 0, .int .i64 0] _
    repeat (first | (with_reducible refine Bx.new' _ _ _ _ ?_; simp; done) | (with_reducible apply Bx.alloc))
   ·refine ⟨_, rfl, SL.bx_ints (g := w.heap.size + 8) (T := 3) (l := [0, 1, 0, 1, 1]) ?_ (by unfold Old; omega) 5 (by decide) (by decide)⟩
    show Bx _ _ [.int .i64 0, .int .i64 1, .int .i64 0, .int .i64 1, .int .i64 1] _
    repeat (first | (with_reducible refine Bx.new' _ _ _ _ ?_; simp; done) | (with_reducible apply Bx.alloc))
 ·exact (by repeat (first | (with_reducible assumption) | (with_reducible exact Step.refl _) | (with_reducible apply Step.s_alloc) | (with_reducible apply Step.s_drew) | (with_reducible apply Step.s_drewN) | (with_reducible refine Step.trans ?_ (by with_reducible assumption))))
def tentB : Book := ⟨0, [[0, 0, 0, 0, 0], [0, -1, 0, -1, -1]], [false, false], 0, [], 0⟩
def tentC : Book := ⟨0, [[0, 0, 7, 0, 0], [0, -1, 0, -1, -1]], [false, false], 0, [], 20⟩
def tentD : Book := ⟨0, [[0, 0, 0, 0, 0], [0, -1, 7, -1, -1]], [true, false], 0, [], 20⟩
def tentE : Book := ⟨0, [[0, 0, 0, -1, -1], [0, -1, 0, -1, -1]], [false, false], 1, [], 0⟩
theorem tent_class : classR tentH 2 = (1, 0) := by kernel_rfl
theorem tent_open : openR tentH 0 = (tentB, 0) := by kernel_rfl
theorem tent_sell : actR (doneR tentH tentB (sellD tentH tentB 0 2 7 3)) = (tentC, 0) := by kernel_rfl
theorem tent_lose : gate tentH tentC (loseD tentH tentC 0 4) = .ok (tentD, [⟨2, 1, 2⟩]) := by kernel_rfl
theorem tent_give : gate tentH tentB (giveD tentH tentB 1 0 [3, 4]) = .ok (tentE, ⟨0, 1, 1, 0, [3, 4]⟩) := by kernel_rfl
def messB (a b : BT.Message) : Bool := decide (a = b)
theorem mess_ne {f1 f2 d1 d2 n1 n2 s1 s2 : Int} {l1 l2 : List Int} (h : f1 ≠ f2 ∨ d1 ≠ d2 ∨ n1 ≠ n2 ∨ s1 ≠ s2) : messB ⟨f1, d1, n1, s1, l1⟩ ⟨f2, d2, n2, s2, l2⟩ = false := by
 simp only [messB, decide_eq_false_iff_not, BT.Message.mk.injEq]
 rintro ⟨rfl, rfl, rfl, rfl, _⟩
 simp at h
theorem mess_eq {f1 d1 n1 s1 : Int} {l1 l2 : List Int} : messB ⟨f1, d1, n1, s1, l1⟩ ⟨f1, d1, n1, s1, l2⟩ = intsB l1 l2 := by
 simp [messB, intsB]
set_option maxHeartbeats 2000000 in
theorem message_core (S : Nat → Prop) (f1 f2 d1 d2 n1 n2 s1 s2 : Int) (l1 l2 : List Int) (v1 v2 : Value) (w : World) (hv : SL S w v1 l1) (hu : SL S w v2 l2) :
  Calls Tryz.prog 42 #[.agg #[.int .i64 f1, .int .i64 d1, .int .i64 n1, .int .i64 s1, v1], .agg #[.int .i64 f2, .int .i64 d2, .int .i64 n2, .int .i64 s2, v2]] w fun e w' => e = .returned (.bool (messB ⟨f1, d1, n1, s1, l1⟩ ⟨f2, d2, n2, s2, l2⟩)) ∧ Step w w' := by
 obtain ⟨p1, k1, rfl⟩ := hv.form
 obtain ⟨p2, k2, rfl⟩ := hu.form
 obtain ⟨W0, hW0⟩ : ∃ W0, W0 = (w.alloc (.cells #[.int .i64 f1, .int .i64 d1, .int .i64 n1, .int .i64 s1, .slice p1 l1.length k1] 86)).alloc (.cells #[.int .i64 f2, .int .i64 d2, .int .i64 n2, .int .i64 s2, .slice p2 l2.length k2] 58) := ⟨_, rfl⟩
 have hS : Step w W0 := by subst hW0; exact (by repeat (first | (with_reducible assumption) | (with_reducible exact Step.refl _) | (with_reducible apply Step.s_alloc) | (with_reducible apply Step.s_drew) | (with_reducible apply Step.s_drewN) | (with_reducible refine Step.trans ?_ (by with_reducible assumption))))
 have hcall := Lib.hid (ints_any S l1 l2 _ _ W0 (hv.keep (.of_step hS)) (hu.keep (.of_step hS)))
 have HS := Lib.hid hS
 clear hS hv hu
 by_cases q0 : f1 = f2
 rotate_left
 ·have HF := Lib.hid (mess_ne (f1 := f1) (f2 := f2) (d1 := d1) (d2 := d2) (n1 := n1) (n2 := n2) (s1 := s1) (s2 := s2) (l1 := l1) (l2 := l2) (.inl q0))
  clear hcall
  have HW := Lib.hid hW0
  clear hW0
  go_enter Tryz.func42, Tryz.ntmps42
  go_wp2
  go_ret
  exact ⟨by rw [HF.out]; rfl, by rw [HW.out] at HS; exact HS.out⟩
 subst q0
 by_cases q1 : d1 = d2
 rotate_left
 ·have HF := Lib.hid (mess_ne (f1 := f1) (f2 := f1) (d1 := d1) (d2 := d2) (n1 := n1) (n2 := n2) (s1 := s1) (s2 := s2) (l1 := l1) (l2 := l2) (.inr (.inl q1)))
  clear hcall
  have HW := Lib.hid hW0
  clear hW0
  go_enter Tryz.func42, Tryz.ntmps42
  go_wp2
  go_ret
  exact ⟨by rw [HF.out]; rfl, by rw [HW.out] at HS; exact HS.out⟩
 subst q1
 by_cases q2 : n1 = n2
 rotate_left
 ·have HF := Lib.hid (mess_ne (f1 := f1) (f2 := f1) (d1 := d1) (d2 := d1) (n1 := n1) (n2 := n2) (s1 := s1) (s2 := s2) (l1 := l1) (l2 := l2) (.inr (.inr (.inl q2))))
  clear hcall
  have HW := Lib.hid hW0
  clear hW0
  go_enter Tryz.func42, Tryz.ntmps42
  go_wp2
  go_ret
  exact ⟨by rw [HF.out]; rfl, by rw [HW.out] at HS; exact HS.out⟩
 subst q2
 by_cases q3 : s1 = s2
 rotate_left
 ·have HF := Lib.hid (mess_ne (f1 := f1) (f2 := f1) (d1 := d1) (d2 := d1) (n1 := n1) (n2 := n1) (s1 := s1) (s2 := s2) (l1 := l1) (l2 := l2) (.inr (.inr (.inr q3))))
  clear hcall
  have HW := Lib.hid hW0
  clear hW0
  go_enter Tryz.func42, Tryz.ntmps42
  go_wp2
  go_ret
  exact ⟨by rw [HF.out]; rfl, by rw [HW.out] at HS; exact HS.out⟩
 subst q3
 have HF := Lib.hid (mess_eq (f1 := f1) (d1 := d1) (n1 := n1) (s1 := s1) (l1 := l1) (l2 := l2))
 subst hW0
 go_enter Tryz.func42, Tryz.ntmps42
 go_wp2_with fail
 refine hcall.out.mono ?_
 rintro e wn ⟨rfl, hSn⟩
 go_wp2
 go_ret
 exact ⟨by rw [HF.out]; rfl, HS.out.trans hSn⟩
theorem message_any (S : Nat → Prop) (a b : BT.Message) (va vb : Value) (w : World) (ha : AV S w va a) (hb : AV S w vb b) :
  Calls Tryz.prog 42 #[va, vb] w fun e w' => e = .returned (.bool (messB a b)) ∧ Step w w' := by
 obtain ⟨c, rfl, h1⟩ := ha.message
 obtain ⟨d, rfl, h2⟩ := hb.message
 exact message_core S _ _ _ _ _ _ _ _ _ _ _ _ _ h1 h2
theorem tentB_av {S : Nat → Prop} {w : World} {v : Value} (h : AV S w v tentB) : ∃ p1 c1 bb oo v1 p2 c2 p4 c4, v = .agg #[.int .i64 0, .slice (some ⟨bb, oo, none⟩) 2 c1, .slice p2 2 c2, .int .i64 0, .slice p4 0 c4, .int .i64 0] ∧ w.cell? ⟨bb, oo + 1, none⟩ = some (.slice p1 5 v1) ∧ SL S w (.slice p1 5 v1) [0, -1, 0, -1, -1] ∧ AV S w v tentB := by
 obtain ⟨d1, d2, d4, hv, s1, s2, s4⟩ := h.book
 obtain ⟨p1, k1, bb, oo, rfl, _, _, hp, hc, _⟩ := s1.rows
 obtain ⟨p2, k2, rfl⟩ := s2.form
 obtain ⟨p4, k4, rfl⟩ := s4.form
 obtain rfl := hp (by decide)
 obtain ⟨u, hu, hu2⟩ := hc 1 (by decide)
 obtain ⟨pu, cu, rfl⟩ := hu2.form
 exact ⟨pu, k1, bb, oo, cu, p2, k2, p4, k4, hv, hu, hu2, h⟩
theorem _root_.Go.BT.SL.moves {S : Nat → Prop} {w : World} {v : Value} {l : List BT.Move} (h : SL S w v l) :
  ∃ p c b o, v = .slice p l.length c ∧ l.length ≤ c ∧ l.length ≤ 9223372036854775807 ∧ (0 < l.length → p = some ⟨b, o, none⟩) ∧
   (∀ i (h : i < l.length), w.cell? ⟨b, o + i * 3, none⟩ = some (.int .i64 l[i].seat) ∧ w.cell? ⟨b, o + i * 3 + 1, none⟩ = some (.int .i64 l[i].shw) ∧ w.cell? ⟨b, o + i * 3 + 2, none⟩ = some (.int .i64 l[i].at_)) ∧ (0 < l.length → b < w.heap.size ∧ ¬ S b) := by
 obtain ⟨p, c, b, o, hv, hc, hm, hp, ha⟩ := h
 refine ⟨p, c, b, o, hv, hc, hm, hp, fun i hi => ?_, fun h0 => ⟨(ha 0 h0).1, (ha 0 h0).2.1⟩⟩
 obtain ⟨_, _, cs, hr, hcs⟩ := ha i hi
 have hr' : cs = [.int .i64 l[i].seat, .int .i64 l[i].shw, .int .i64 l[i].at_] := hr
 subst hr'
 exact ⟨hcs 0 _ rfl, hcs 1 _ rfl, hcs 2 _ rfl⟩
theorem AV.triv {α : Type} [Rep α] {S : Nat → Prop} {w : World} {v : Value} {x : α} (h : AV S w v x) : AV (fun _ => False) w v x := h.weak fun _ _ h => h.elim
theorem AV.later {α : Type} [Rep α] {S : Nat → Prop} {W w1 w' : World} {v : Value} {x : α} (h : AV (Old W) w1 v x) (hs : ∀ j, j < w1.heap.size → S j → j < W.heap.size) (hk : Keeps S w1 w') : AV S w' v x :=
 (h.weak hs).keep hk
set_option maxRecDepth 100000 in
set_option maxHeartbeats 4000000 in
theorem awake_any (w : World) : Calls Tryz.prog 10 #[] w fun e w' => e = .returned (.bool true) ∧ Step w w' := by
 go_enter Tryz.func10, Tryz.ntmps10
 have HT := Lib.hid (Step.refl w)
 go_wp2_with fail
 refine (Tent_any _).mono ?_
 rintro e wn ⟨v1, rfl, hv1, hSn⟩
 have HTi := Lib.hid (HT.out.trans hSn)
 clear hSn HT
 have HT := HTi
 clear HTi
 go_wp2_with fail
 refine (Class_any _ tentH 2 _ _ hv1).mono ?_
 rintro e wn ⟨rfl, hSn⟩
 have HTi := Lib.hid (HT.out.trans hSn)
 clear hSn HT
 have HT := HTi
 clear HTi
 rw [tent_class]
 clear hv1
 go_wp2_with fail
 refine (Tent_any _).mono ?_
 rintro e wn ⟨v1, rfl, hv1, hSn⟩
 have HTi := Lib.hid (HT.out.trans hSn)
 clear hSn HT
 have HT := HTi
 clear HTi
 go_wp2_with fail
 refine (Open_any _ tentH 0 _ _ hv1).mono ?_
 rintro e wn ⟨v2, rfl, hv2, hSn⟩
 have HTi := Lib.hid (HT.out.trans hSn)
 clear hSn HT
 have HT := HTi
 clear HTi
 rw [tent_open] at hv2 ⊢
 dsimp only at hv2
 clear hv1
 obtain ⟨p1, c1, bb, oo, k1, p2, c2, p4, c4, rfl, g1, g2, hb⟩ := tentB_av hv2
 have HG := Lib.hid (And.intro g1 (And.intro g2 hb))
 clear g1 g2 hb hv2
 go_upto_region 3 with (fail)
 have hbB := Bx.new wn [.int .i64 0, .slice (some ⟨bb, oo, none⟩) 2 c1, .slice p2 2 c2, .int .i64 0, .slice p4 0 c4, .int .i64 0] 77
 have hST := HT.out.trans (Step.alloc wn (.cells #[.int .i64 0, .slice (some ⟨bb, oo, none⟩) 2 c1, .slice p2 2 c2, .int .i64 0, .slice p4 0 c4, .int .i64 0] 77))
 have hav := AV.triv (HG.out.2.2.keep (.of_step (Step.alloc wn (.cells #[.int .i64 0, .slice (some ⟨bb, oo, none⟩) 2 c1, .slice p2 2 c2, .int .i64 0, .slice p4 0 c4, .int .i64 0] 77))))
 have hsl := SL.weak (T := fun _ => False) (fun _ _ h => h.elim) (HG.out.2.1.keep (.of_step (Step.alloc wn (.cells #[.int .i64 0, .slice (some ⟨bb, oo, none⟩) 2 c1, .slice p2 2 c2, .int .i64 0, .slice p4 0 c4, .int .i64 0] 77))))
 have g1 := (Step.alloc wn (.cells #[.int .i64 0, .slice (some ⟨bb, oo, none⟩) 2 c1, .slice p2 2 c2, .int .i64 0, .slice p4 0 c4, .int .i64 0] 77)).kc HG.out.1
 clear HG HT
 generalize wn.alloc (.cells #[.int .i64 0, .slice (some ⟨bb, oo, none⟩) 2 c1, .slice p2 2 c2, .int .i64 0, .slice p4 0 c4, .int .i64 0] 77) = W0 at *
 generalize wn.heap.size = gB at *
 have HT := Lib.hid hST
 have HB := Lib.hid hbB
 have HAB := Lib.hid hav
 have HSL := Lib.hid hsl
 obtain ⟨f0, f1, f2, f3, f4, f5⟩ := cells6 HB.out
 have hix : (0 : Int) ≤ 1 ∧ (1 : Int) < 2 := by omega
 clear hST hbB hav hsl
 go_wp2_with fail
 refine (ints_any _ [0, -1, 0, -1, -1] [0, -1, 0, -1, -1] _ _ _ (HSL.out.keep (.alloc _ _)) (SL.bx_ints (l := [0, -1, 0, -1, -1]) (Bx.new _ _ _) (fun h => h) 5 (by decide) (by decide))).mono ?_
 rintro e wm ⟨rfl, hSm⟩
 rw [show intsB [0, -1, 0, -1, -1] [0, -1, 0, -1, -1] = true from by decide]
 have HTi := Lib.hid ((HT.out.trans (Step.alloc _ _)).trans hSm)
 have HTB := Lib.hid ((Step.alloc _ _).trans hSm)
 clear hSm
 have HZM := Lib.hid (show w.heap.size ≤ wm.heap.size ∧ W0.heap.size ≤ wm.heap.size from ⟨HTi.out.size, HTB.out.size⟩)
 clear HT f0 f1 f2 f3 f4 f5 g1 HSL
 have HT := HTi
 clear HTi
 go_upto_region 5 with (fail)
 clear hix
 refine wp_region_seqM (fun c d v a w h => by cases d <;> exact h) (kdOf [0, 2] [(6, 77, .agg #[.int .i64 0, .slice none 0 0, .slice none 0 0, .int .i64 0, .slice none 0 0, .int .i64 0])]) [0, 0, 3, 7, 15, 15, 0, 95, 255] [1, 0, 2, 3, 4, 5, 6] [7, 8] (by kernel_rfl) (by kernel_rfl) (fun i T z hi hk => by simp only [List.mem_cons, List.not_mem_nil, or_false] at hi; rcases hi with rfl | rfl | rfl | rfl | rfl | rfl | rfl <;> simp [kdOf] at hk <;> (obtain ⟨rfl, rfl⟩ := hk; first | (show Option.bind _ _ = some _; kernel_rfl) | (refine ⟨_, rfl, fun _ _ => ?_⟩; go_simp))) ?_
 intro Wx hWx
 have HTx := Lib.hid (HT.out.trans hWx)
 have HTBx := Lib.hid (HTB.out.trans hWx)
 clear hWx HT HTB
 have HT := HTx
 have HTB := HTBx
 clear HTx HTBx
 obtain ⟨f0, f1, f2, f3, f4, f5⟩ := cells6 (HB.out.step HTB.out)
 repeat (first | (refine run_off rfl rfl (by rfl) ?_; (try simp only [Act.put, zA, zB, zC])) | (refine run_chain_off rfl rfl (by rfl) (K0_mono _) ?_; (try simp only [Act.put, zA, zB, zC])) | ((refine run_want rfl rfl (by rfl) ⟨?_, fun W hW => ?_, ?_⟩; rotate_left; (· (have d0 := hW.kc f0; have d1 := hW.kc f1; have d2 := hW.kc f2; have d3 := hW.kc f3; have d4 := hW.kc f4; have d5 := hW.kc f5; go_simp; (try with_reducible rfl)))); (try simp only [Act.put, zA, zB, zC])))
 clear f0 f1 f2 f3 f4 f5
 refine run_chain rfl rfl (by rfl) (fun Wi hWi K' hK => ?_)
 have HTi := Lib.hid (HT.out.trans hWi)
 have HTBi := Lib.hid (HTB.out.trans hWi)
 clear hWi HT HTB
 go_simp
 refine (Tent_any _).mono ?_
 rintro e w5 ⟨v5, rfl, hv5, hS5⟩
 have HV5 := Lib.hid (AV.triv hv5)
 have HT := Lib.hid (HTi.out.trans hS5)
 have HTB := Lib.hid (HTBi.out.trans hS5)
 clear hv5 HTi HTBi
 refine hK _ _ hS5 ?_
 clear hS5 hK
 (try simp only [Act.put, zA, zB, zC])
 repeat (first | (refine run_off rfl rfl (by rfl) ?_; (try simp only [Act.put, zA, zB, zC])) | (refine run_chain_off rfl rfl (by rfl) (K0_mono _) ?_; (try simp only [Act.put, zA, zB, zC])) | ((refine run_want rfl rfl (by rfl) ⟨?_, fun W hW => ?_, ?_⟩; rotate_left; (· (skip; go_simp; (try with_reducible rfl)))); (try simp only [Act.put, zA, zB, zC])))
 refine run_chain rfl rfl (by rfl) (fun Wi hWi K' hK => ?_)
 have HTi := Lib.hid (HT.out.trans hWi)
 have HTBi := Lib.hid (HTB.out.trans hWi)
 have HV6 := Lib.hid (HV5.out.keep (.of_step hWi))
 clear hWi HT HTB HV5
 go_simp
 refine (Sell_any _ tentH tentB _ _ 0 2 7 3 _ HV6.out (HAB.out.keep (.of_step HTBi.out))).mono ?_
 rintro e w6 ⟨v6, rfl, hv6, hS6⟩
 rw [tent_sell] at hv6 ⊢
 dsimp only at hv6
 obtain ⟨x1, x2, x4, rfl, s1, s2, s4⟩ := hv6.book
 obtain ⟨q1, m1, rfl⟩ := s1.form
 obtain ⟨q2, m2, rfl⟩ := s2.form
 obtain ⟨q4, m4, rfl⟩ := s4.form
 have HV6 := Lib.hid hv6
 have HT := Lib.hid (HTi.out.trans hS6)
 have HTB := Lib.hid (HTBi.out.trans hS6)
 clear s1 s2 s4 hv6 HTi HTBi
 refine hK _ _ hS6 ?_
 clear hS6 hK
 (try simp only [Act.put, zA, zB, zC])
 repeat (first | (refine run_off rfl rfl (by rfl) ?_; (try simp only [Act.put, zA, zB, zC])) | (refine run_chain_off rfl rfl (by rfl) (K0_mono _) ?_; (try simp only [Act.put, zA, zB, zC])) | ((refine run_want rfl rfl (by rfl) ⟨?_, fun W hW => ?_, ?_⟩; rotate_left; (· (skip; go_simp; (try with_reducible rfl)))); (try simp only [Act.put, zA, zB, zC])))
 refine run_alloc rfl rfl (fun W5 g hW5 hg hgb hgN => ?_)
 (try simp only [Act.put, zA, zB, zC])
 refine run_end (L := [_, _]) rfl (fun W6 hW6 => ?_)
 have hb6 := Bx.step (w := W5) (cs := [_, _, _, _, _, _]) hg hW6
 refine wpl_store (v := .agg #[.int .i64 tentC.agency, .slice q1 tentC.seats.length m1, .slice q2 tentC.off.length m2, .int .i64 tentC.sent, .slice q4 tentC.took.length m4, .int .i64 tentC.cash]) rfl _ _ _ rfl rfl rfl hb6 (by kernel_rfl) (by simp [Value.cells]) (by simp [Value.cells, Value.oneCell']) [.int .i64 tentC.agency, .slice q1 tentC.seats.length m1, .slice q2 tentC.off.length m2, .int .i64 tentC.sent, .slice q4 tentC.took.length m4, .int .i64 tentC.cash] rfl (fun w7 hb7 hw7 => ?_)
 have hg0 := HZM.out
 have HVC := Lib.hid (AV.triv (AV.later (S := fun j => j = g) (w' := w7) HV6.out (fun j hj hs => by omega) ((Keeps.of_step (hW5.trans hW6)).trans (.wrote hw7 rfl))))
 have HTx := Lib.hid (Step.wrote ((HT.out.trans hW5).trans hW6) hw7 (by omega))
 have HTBx := Lib.hid (Step.wrote ((HTB.out.trans hW5).trans hW6) hw7 (by omega))
 have HC := Lib.hid hb7
 have HZM7 := Lib.hid (show w.heap.size ≤ w7.heap.size ∧ W0.heap.size ≤ w7.heap.size by have := hb7.lt; omega)
 clear hW5 hg hgb hgN hW6 hb6 hb7 hw7 HV6 HT HTB hg0 HZM
 have HT := HTx
 have HTB := HTBx
 clear HTx HTBx
 go_upto_region 6 with (fail)
 refine wp_region_seqM (fun c d v a w h => by cases d <;> exact h) (kdOf [0, 2] [(7, 77, .agg #[.int .i64 0, .slice none 0 0, .slice none 0 0, .int .i64 0, .slice none 0 0, .int .i64 0])]) [0, 0, 3, 7, 15, 15, 15, 0, 159, 447, 1023] [1, 0, 2, 3, 4, 5, 6, 7] [8, 9, 10] (by kernel_rfl) (by kernel_rfl) (fun i T z hi hk => by simp only [List.mem_cons, List.not_mem_nil, or_false] at hi; rcases hi with rfl | rfl | rfl | rfl | rfl | rfl | rfl | rfl <;> simp [kdOf] at hk <;> (obtain ⟨rfl, rfl⟩ := hk; first | (show Option.bind _ _ = some _; kernel_rfl) | (refine ⟨_, rfl, fun _ _ => ?_⟩; go_simp))) ?_
 intro Wx hWx
 have HTx := Lib.hid (HT.out.trans hWx)
 have HTBx := Lib.hid (HTB.out.trans hWx)
 have HWX := Lib.hid hWx
 clear hWx HT HTB
 have HT := HTx
 have HTB := HTBx
 clear HTx HTBx
 obtain ⟨f0, f1, f2, f3, f4, f5⟩ := cells6 (HC.out.step HWX.out)
 repeat (first | (refine run_off rfl rfl (by rfl) ?_; (try simp only [Act.put, zA, zB, zC])) | (refine run_chain_off rfl rfl (by rfl) (K0_mono _) ?_; (try simp only [Act.put, zA, zB, zC])) | ((refine run_want rfl rfl (by rfl) ⟨?_, fun W hW => ?_, ?_⟩; rotate_left; (· (have d0 := hW.kc f0; have d1 := hW.kc f1; have d2 := hW.kc f2; have d3 := hW.kc f3; have d4 := hW.kc f4; have d5 := hW.kc f5; go_simp; (try with_reducible rfl)))); (try simp only [Act.put, zA, zB, zC])))
 clear f0 f1 f2 f3 f4 f5
 have HVC6 := Lib.hid (HVC.out.keep (.of_step HWX.out))
 have HTC := Lib.hid (Step.refl Wx)
 refine run_chain rfl rfl (by rfl) (fun Wi hWi K' hK => ?_)
 have HTi := Lib.hid (HT.out.trans hWi)
 have HTCi := Lib.hid (HTC.out.trans hWi)
 have HTBi := Lib.hid (HTB.out.trans hWi)
 clear hWi HT HTB HTC
 go_simp
 refine (Tent_any _).mono ?_
 rintro e w8 ⟨v8, rfl, hv5, hS5⟩
 have HV5 := Lib.hid (AV.triv hv5)
 have HT := Lib.hid (HTi.out.trans hS5)
 have HTB := Lib.hid (HTBi.out.trans hS5)
 have HTC := Lib.hid (HTCi.out.trans hS5)
 clear hv5 HTi HTBi HTCi
 refine hK _ _ hS5 ?_
 clear hS5 hK
 (try simp only [Act.put, zA, zB, zC])
 repeat (first | (refine run_off rfl rfl (by rfl) ?_; (try simp only [Act.put, zA, zB, zC])) | (refine run_chain_off rfl rfl (by rfl) (K0_mono _) ?_; (try simp only [Act.put, zA, zB, zC])) | ((refine run_want rfl rfl (by rfl) ⟨?_, fun W hW => ?_, ?_⟩; rotate_left; (· (skip; go_simp; (try with_reducible rfl)))); (try simp only [Act.put, zA, zB, zC])))
 refine run_chain rfl rfl (by rfl) (fun Wi hWi K' hK => ?_)
 have HTi := Lib.hid (HT.out.trans hWi)
 have HTBi := Lib.hid (HTB.out.trans hWi)
 have HTCi := Lib.hid (HTC.out.trans hWi)
 have HV6 := Lib.hid (HV5.out.keep (.of_step hWi))
 clear hWi HT HTB HV5 HTC
 go_simp
 refine (Lose_any _ tentH tentC _ _ 0 4 _ HV6.out (HVC6.out.keep (.of_step HTCi.out))).mono ?_
 rintro e w9 ⟨v9, l9, rfl, hv6, hl9, hS6⟩
 rw [tent_lose] at hv6 hl9 ⊢
 dsimp only [bookOf, actR, restOf] at hv6 hl9
 simp only [bookOf, actR]
 obtain ⟨x1, x2, x4, rfl, s1, s2, s4⟩ := hv6.book
 obtain ⟨q1', m1', rfl⟩ := s1.form
 obtain ⟨q2', m2', rfl⟩ := s2.form
 obtain ⟨q4', m4', rfl⟩ := s4.form
 obtain ⟨pl, cl, bl, ol, rfl, _, _, hpl, hcl, hbl⟩ := hl9.moves
 obtain rfl := hpl (by decide)
 have hcl := hcl 0 (by decide)
 have hbl := hbl (by decide)
 have HCL := Lib.hid (And.intro hcl hbl)
 have HT := Lib.hid (HTi.out.trans hS6)
 have HTB := Lib.hid (HTBi.out.trans hS6)
 have HTC := Lib.hid (HTCi.out.trans hS6)
 clear s1 s2 s4 hv6 HTi HTBi HTCi hcl hbl hpl hl9
 refine hK _ _ hS6 ?_
 clear hS6 hK
 (try simp only [Act.put, zA, zB, zC])
 repeat (first | (refine run_off rfl rfl (by rfl) ?_; (try simp only [Act.put, zA, zB, zC])) | (refine run_chain_off rfl rfl (by rfl) (K0_mono _) ?_; (try simp only [Act.put, zA, zB, zC])) | ((refine run_want rfl rfl (by rfl) ⟨?_, fun W hW => ?_, ?_⟩; rotate_left; (· (skip; go_simp; (try with_reducible rfl)))); (try simp only [Act.put, zA, zB, zC])))
 refine run_alloc rfl rfl (fun W5 g2 hW5 hg hgb hgN => ?_)
 (try simp only [Act.put, zA, zB, zC])
 refine run_end (L := [_, _, _]) rfl (fun W6 hW6 => ?_)
 have hb6 := Bx.step (w := W5) (cs := [_, _, _, _, _, _]) hg hW6
 refine wpl_store (v := .agg #[.int .i64 tentD.agency, .slice q1' tentD.seats.length m1', .slice q2' tentD.off.length m2', .int .i64 tentD.sent, .slice q4' tentD.took.length m4', .int .i64 tentD.cash]) rfl _ _ _ rfl rfl rfl hb6 (by kernel_rfl) (by simp [Value.cells]) (by simp [Value.cells, Value.oneCell']) [.int .i64 tentD.agency, .slice q1' tentD.seats.length m1', .slice q2' tentD.off.length m2', .int .i64 tentD.sent, .slice q4' tentD.took.length m4', .int .i64 tentD.cash] rfl (fun w10 hb10 hw10 => ?_)
 have hg0 := HZM7.out
 have hcl := HCL.out.1
 have hbl := HCL.out.2
 have hk10 : Keeps (fun j => j = g2) w9 w10 := (Keeps.of_step (hW5.trans hW6)).trans (.wrote hw10 rfl)
 have hne : ¬ bl = g2 := by
  have h1 := hbl.1
  have h2 := hbl.2
  unfold Old at h2
  intro e
  rw [e] at h1 h2
  omega
 have HM := Lib.hid (And.intro (hk10.cell hne hcl.1) (And.intro (hk10.cell hne hcl.2.1) (hk10.cell hne hcl.2.2)))
 have hgC : g ≠ g2 := by have := HC.out.lt; omega
 have HTx := Lib.hid (Step.wrote ((HT.out.trans hW5).trans hW6) hw10 (by omega))
 have HTBx := Lib.hid (Step.wrote ((HTB.out.trans hW5).trans hW6) hw10 (by omega))
 have HTCx := Lib.hid (HC.out.keep ((Keeps.of_step ((HWX.out.trans HTC.out).trans (hW5.trans hW6))).trans (.wrote hw10 (S := fun j => j = g2) rfl)) hgC)
 have HD := Lib.hid hb10
 have HZM10 := Lib.hid (show w.heap.size ≤ w10.heap.size ∧ W0.heap.size ≤ w10.heap.size by have := hb10.lt; omega)
 clear hW5 hg hgb hgN hW6 hb6 hb10 hw10 HV6 HT HTB hg0 hcl hbl hk10 hne hgC HCL HC HTC HWX HVC HVC6
 have HT := HTx
 have HTB := HTBx
 have HC := HTCx
 clear HTx HTBx HTCx
 go_upto_region 7 with (fail)
 refine wp_region_seqM (fun c d v a w h => by cases d <;> exact h) (kdOf [0, 3] [(2, 3, .tuple #[.int IntKind.i64 3, .int IntKind.i64 4]), (8, 77, .agg #[.int .i64 0, .slice none 0 0, .slice none 0 0, .int .i64 0, .slice none 0 0, .int .i64 0]), (9, 86, .agg #[.int .i64 0, .int .i64 0, .int .i64 0, .int .i64 0, .slice none 0 0])]) [0, 0, 0, 7, 15, 31, 31, 31, 0, 0, 831, 1919, 4095] [1, 0, 2, 3, 4, 5, 6, 7, 8, 9] [10, 11, 12] (by kernel_rfl) (by kernel_rfl) (fun i T z hi hk => by simp only [List.mem_cons, List.not_mem_nil, or_false] at hi; rcases hi with rfl | rfl | rfl | rfl | rfl | rfl | rfl | rfl | rfl | rfl <;> simp [kdOf] at hk <;> (obtain ⟨rfl, rfl⟩ := hk; first | (show Option.bind _ _ = some _; kernel_rfl) | (refine ⟨_, rfl, fun _ _ => ?_⟩; go_simp))) ?_
 intro Wx hWx
 have HTx := Lib.hid (HT.out.trans hWx)
 have HTBx := Lib.hid (HTB.out.trans hWx)
 have HTX := Lib.hid hWx
 clear hWx HT HTB
 have HT := HTx
 have HTB := HTBx
 clear HTx HTBx
 obtain ⟨f0, f1, f2, f3, f4, f5⟩ := cells6 (HB.out.step HTB.out)
 repeat (first | (refine run_off rfl rfl (by rfl) ?_; (try simp only [Act.put, zA, zB, zC])) | (refine run_chain_off rfl rfl (by rfl) (K0_mono _) ?_; (try simp only [Act.put, zA, zB, zC])) | ((refine run_want rfl rfl (by rfl) ⟨?_, fun W hW => ?_, ?_⟩; rotate_left; (· (have d0 := hW.kc f0; have d1 := hW.kc f1; have d2 := hW.kc f2; have d3 := hW.kc f3; have d4 := hW.kc f4; have d5 := hW.kc f5; go_simp; (try with_reducible rfl)))); (try simp only [Act.put, zA, zB, zC])))
 clear f0 f1 f2 f3 f4 f5
 refine run_chain rfl rfl (by rfl) (fun Wi hWi K' hK => ?_)
 have HTi := Lib.hid (HT.out.trans hWi)
 have HTBi := Lib.hid (HTB.out.trans hWi)
 have HTXi := Lib.hid (HTX.out.trans hWi)
 clear hWi HT HTB HTX
 go_simp
 refine (Tent_any _).mono ?_
 rintro e w11 ⟨v11, rfl, hv5, hS5⟩
 have HV5 := Lib.hid (AV.triv hv5)
 have HT := Lib.hid (HTi.out.trans hS5)
 have HTB := Lib.hid (HTBi.out.trans hS5)
 have HTX := Lib.hid (HTXi.out.trans hS5)
 clear hv5 HTi HTBi HTXi
 refine hK _ _ hS5 ?_
 clear hS5 hK
 (try simp only [Act.put, zA, zB, zC])
 repeat (first | (refine run_off rfl rfl (by rfl) ?_; (try simp only [Act.put, zA, zB, zC])) | (refine run_chain_off rfl rfl (by rfl) (K0_mono _) ?_; (try simp only [Act.put, zA, zB, zC])) | ((refine run_want rfl rfl (by rfl) ⟨?_, fun W hW => ?_, ?_⟩; rotate_left; (· (skip; go_simp; (try with_reducible rfl)))); (try simp only [Act.put, zA, zB, zC])))
 refine run_consts rfl rfl (fun Wk gS hWk hgS hgSb hgSN => ?_)
 have HSL := Lib.hid (SL.bx_ints (S := fun _ => False) (l := [3, 4]) (show Bx Wk gS [.int .i64 3, .int .i64 4] 3 from hgS) (fun h => h) 2 (by decide) (by decide))
 have HTi := Lib.hid (HT.out.trans hWk)
 have HTBi := Lib.hid (HTB.out.trans hWk)
 have HTXi := Lib.hid (HTX.out.trans hWk)
 have HV6 := Lib.hid (HV5.out.keep (.of_step hWk))
 clear hWk hgS hgSb hgSN HT HTB HTX HV5
 (try simp only [Act.put, zA, zB, zC])
 repeat (first | (refine run_off rfl rfl (by rfl) ?_; (try simp only [Act.put, zA, zB, zC])) | (refine run_chain_off rfl rfl (by rfl) (K0_mono _) ?_; (try simp only [Act.put, zA, zB, zC])) | ((refine run_want rfl rfl (by rfl) ⟨?_, fun W hW => ?_, ?_⟩; rotate_left; (· (skip; go_simp; (try with_reducible rfl)))); (try simp only [Act.put, zA, zB, zC])))
 refine run_chain rfl rfl (by rfl) (fun Wi hWi K' hK => ?_)
 have HT := Lib.hid (HTi.out.trans hWi)
 have HTB := Lib.hid (HTBi.out.trans hWi)
 have HTX := Lib.hid (HTXi.out.trans hWi)
 have HV7 := Lib.hid (HV6.out.keep (.of_step hWi))
 have HSL2 := Lib.hid (HSL.out.keep (.of_step hWi))
 clear hWi HTi HTBi HTXi HV6 HSL
 go_simp
 refine (Give_any _ _ tentH tentB _ _ _ 1 0 [3, 4] _ HV7.out (HAB.out.keep (.of_step HTB.out)) HSL2.out (by decide)).mono ?_
 rintro e w12 ⟨v12, m12, rfl, hv6, hm6, hS6⟩
 rw [tent_give] at hv6 hm6 ⊢
 dsimp only [bookOf, actR, restOf] at hv6 hm6
 simp only [bookOf, actR]
 obtain ⟨x1, x2, x4, rfl, s1, s2, s4⟩ := hv6.book
 obtain ⟨q1x, m1x, rfl⟩ := s1.form
 obtain ⟨q2x, m2x, rfl⟩ := s2.form
 obtain ⟨q4x, m4x, rfl⟩ := s4.form
 obtain ⟨y4, rfl, t4⟩ := hm6.message
 obtain ⟨qm, km, rfl⟩ := t4.form
 have HMM := Lib.hid hm6
 have HTi := Lib.hid (HT.out.trans hS6)
 have HTBi := Lib.hid (HTB.out.trans hS6)
 have HTXi := Lib.hid (HTX.out.trans hS6)
 clear s1 s2 s4 t4 hv6 hm6 HT HTB HTX
 refine hK _ _ hS6 ?_
 clear hS6 hK
 (try simp only [Act.put, zA, zB, zC])
 repeat (first | (refine run_off rfl rfl (by rfl) ?_; (try simp only [Act.put, zA, zB, zC])) | (refine run_chain_off rfl rfl (by rfl) (K0_mono _) ?_; (try simp only [Act.put, zA, zB, zC])) | ((refine run_want rfl rfl (by rfl) ⟨?_, fun W hW => ?_, ?_⟩; rotate_left; (· (skip; go_simp; (try with_reducible rfl)))); (try simp only [Act.put, zA, zB, zC])))
 refine run_alloc rfl rfl (fun W5 g3 hW5 hg hgb hgN => ?_)
 (try simp only [Act.put, zA, zB, zC])
 refine run_alloc rfl rfl (fun W6 g4 hW6 hg' hgb' hgN' => ?_)
 (try simp only [Act.put, zA, zB, zC])
 refine run_end (L := [_, _, _]) rfl (fun W7 hW7 => ?_)
 have hb3 : Bx W7 g3 [_, _, _, _, _, _] 77 := Bx.step (w := W5) (cs := [_, _, _, _, _, _]) hg (hW6.trans hW7)
 have hb4 : Bx W7 g4 [_, _, _, _, _] 86 := Bx.step (w := W6) (cs := [_, _, _, _, _]) hg' hW7
 refine wpl_store (v := .agg #[.int .i64 tentE.agency, .slice q1x tentE.seats.length m1x, .slice q2x tentE.off.length m2x, .int .i64 tentE.sent, .slice q4x tentE.took.length m4x, .int .i64 tentE.cash]) rfl _ _ _ rfl rfl rfl hb3 (by kernel_rfl) (by simp [Value.cells]) (by simp [Value.cells, Value.oneCell']) [.int .i64 tentE.agency, .slice q1x tentE.seats.length m1x, .slice q2x tentE.off.length m2x, .int .i64 tentE.sent, .slice q4x tentE.took.length m4x, .int .i64 tentE.cash] rfl (fun w13 hb13 hw13 => ?_)
 have hne : g4 ≠ g3 := hgN'.2
 have hb4' := hb4.keep hw13.keeps hne
 refine wpl_store (v := .agg #[.int .i64 0, .int .i64 1, .int .i64 1, .int .i64 0, .slice qm 2 km]) rfl _ _ _ rfl rfl rfl hb4' (by kernel_rfl) (by simp [Value.cells]) (by simp [Value.cells, Value.oneCell']) [.int .i64 0, .int .i64 1, .int .i64 1, .int .i64 0, .slice qm 2 km] rfl (fun w14 hb14 hw14 => ?_)
 have hk14 : Keeps (fun j => j = g3 ∨ j = g4) w12 w14 := ((Keeps.of_step ((hW5.trans hW6).trans hW7)).trans (.wrote hw13 (.inl rfl))).trans (.wrote hw14 (.inr rfl))
 have hm14 := Lib.hid (AV.triv (AV.later (S := fun j => j = g3 ∨ j = g4) (w' := w14) HMM.out (fun j hj hs => by omega) hk14))
 have hg0 := HZM10.out
 have HTx := Lib.hid (Step.wrote (Step.wrote (((HTi.out.trans hW5).trans hW6).trans hW7) hw13 (by omega)) hw14 (by omega))
 have hX10 : Keeps (fun j => j = g3 ∨ j = g4) w10 w14 := (Keeps.of_step HTXi.out).trans hk14
 have hc5 := (HC.out.keep hX10 (by have := HC.out.lt; omega)).cell 5
 have hd5 := (HD.out.keep hX10 (by have := HD.out.lt; omega)).cell 5
 have hbl : bl < w10.heap.size := World.block_lt_of_cell? w10 ⟨bl, _, none⟩ HM.out.1
 have m0 := hX10.cell (by show ¬ (bl = g3 ∨ bl = g4); omega) HM.out.1
 have m1 := hX10.cell (by show ¬ (bl = g3 ∨ bl = g4); omega) HM.out.2.1
 have m2 := hX10.cell (by show ¬ (bl = g3 ∨ bl = g4); omega) HM.out.2.2
 obtain ⟨e0, e1, e2, e3, e4⟩ := cells5 hb14
 change w14.cell? ⟨g, 5, none⟩ = some (.int .i64 20) at hc5
 change w14.cell? ⟨g2, 5, none⟩ = some (.int .i64 20) at hd5
 change w14.cell? ⟨bl, ol, none⟩ = some (.int .i64 2) at m0
 change w14.cell? ⟨bl, ol + 1, none⟩ = some (.int .i64 1) at m1
 change w14.cell? ⟨bl, ol + 2, none⟩ = some (.int .i64 2) at m2
 have hmv : ∀ w, (binOp .eql 97 (.agg #[.int .i64 2, .int .i64 1, .int .i64 2]) (.agg #[.int .i64 2, .int .i64 1, .int .i64 2])).run Tryz.prog w = .ok (.bool true) w := fun _ => by kernel_rfl
 have hix0 : (0 : Int) ≤ 0 ∧ (0 : Int) < 1 := by omega
 clear hW5 hg hgb hgN hW6 hg' hgb' hgN' hW7 hb3 hb4 hb13 hw13 hne hb4' hb14 hw14 hk14 hX10 hbl hg0 HTi HTBi HTXi HMM HD HC HM HV7 HSL2 HZM10 HZM7 HB HAB
 have HT := HTx
 clear HTx
 go_wp2_with fail
 refine (message_any (fun _ => False) ⟨0, 1, 1, 0, [3, 4]⟩ ⟨0, 1, 1, 0, [3, 4]⟩ _ _ _ (hm14.out.keep (.alloc _ _)) ⟨_, rfl, _, rfl, SL.bx_ints (l := [3, 4]) (Bx.new _ _ _) (fun h => h) 2 (by decide) (by decide)⟩).mono ?_
 rintro e w15 ⟨rfl, hSm⟩
 rw [show messB ⟨0, 1, 1, 0, [3, 4]⟩ ⟨0, 1, 1, 0, [3, 4]⟩ = true from by decide]
 go_wp2
 go_ret
 exact ⟨rfl, (HT.out.trans (Step.alloc _ _)).trans hSm⟩
def cellsC (l : List Count) : List Value := l.flatMap fun c => [.int .i64 c.free, .int .i64 c.sold]
theorem cellsC_cons (c : Count) (l : List Count) : cellsC (c :: l) = .int .i64 c.free :: .int .i64 c.sold :: cellsC l := rfl
theorem cellsC_drop : ∀ (l : List Count) (i : Nat) (hi : i < l.length), (cellsC l).drop (i * 2) = .int .i64 l[i].free :: .int .i64 l[i].sold :: cellsC (l.drop (i + 1))
 | [], i, hi => by simp at hi
 | c :: l, 0, _ => by simp [cellsC_cons]
 | c :: l, i + 1, hi => by
  rw [cellsC_cons, show (i + 1) * 2 = i * 2 + 1 + 1 by omega, List.drop_succ_cons, List.drop_succ_cons, cellsC_drop l i (by simpa using hi)]
  simp
theorem cellsC_get0 {l : List Count} {i : Nat} (hi : i < l.length) : (cellsC l)[i * 2]? = some (.int .i64 l[i].free) := by
 have := cellsC_drop l i hi
 rw [← List.head?_drop, this]; rfl
theorem cellsC_get1 {l : List Count} {i : Nat} (hi : i < l.length) : (cellsC l)[i * 2 + 1]? = some (.int .i64 l[i].sold) := by
 have := cellsC_drop l i hi
 rw [show (cellsC l)[i * 2 + 1]? = ((cellsC l).drop (i * 2))[1]? by rw [List.getElem?_drop], this]; rfl
theorem cellsC_set0 : ∀ (l : List Count) (i : Nat) (hi : i < l.length) (x : Int), (cellsC l).set (i * 2) (.int .i64 x) = cellsC (l.set i ⟨x, l[i].sold⟩)
 | [], i, hi, _ => by simp at hi
 | c :: l, 0, _, x => by simp [cellsC_cons]
 | c :: l, i + 1, hi, x => by
  rw [cellsC_cons, show (i + 1) * 2 = i * 2 + 1 + 1 by omega, List.set_cons_succ, List.set_cons_succ, cellsC_set0 l i (by simpa using hi) x, List.set_cons_succ, cellsC_cons]
  simp
theorem cellsC_set1 : ∀ (l : List Count) (i : Nat) (hi : i < l.length) (x : Int), (cellsC l).set (i * 2 + 1) (.int .i64 x) = cellsC (l.set i ⟨l[i].free, x⟩)
 | [], i, hi, _ => by simp at hi
 | c :: l, 0, _, x => by simp [cellsC_cons]
 | c :: l, i + 1, hi, x => by
  rw [cellsC_cons, show (i + 1) * 2 + 1 = (i * 2 + 1) + 1 + 1 by omega, List.set_cons_succ, List.set_cons_succ, cellsC_set1 l i (by simpa using hi) x, List.set_cons_succ, cellsC_cons]
  simp
theorem cellsC_zero : ∀ n, cellsC (List.replicate n ⟨0, 0⟩) = List.replicate (n * 2) (.int .i64 0)
 | 0 => rfl
 | n + 1 => by rw [List.replicate_succ, cellsC_cons, cellsC_zero n, show (n + 1) * 2 = n * 2 + 1 + 1 by omega, List.replicate_succ, List.replicate_succ]
theorem madeCells_count (n : Nat) : madeCells (Value.agg #[.int .i64 0, .int .i64 0]).cells (n * 2) = (cellsC (List.replicate n ⟨0, 0⟩)).toArray := by
 rw [cellsC_zero]
 apply Array.ext
 ·simp [size_madeCells]
 ·intro i h1 h2
  have h3 : i % 2 = 0 ∨ i % 2 = 1 := by omega
  rcases h3 with h3 | h3 <;> simp [madeCells, Value.cells, h3]
theorem _root_.Go.BT.SL.bx_counts {S : Nat → Prop} {w : World} {g : Nat} {T : TypeId} {l : List Count} (h : Bx w g (cellsC l) T) (hs : ¬ S g) (c : Nat) (hc : l.length ≤ c) (hm : l.length ≤ 9223372036854775807) : SL S w (.slice (some ⟨g, 0, none⟩) l.length c) l := by
 refine SL.bx h hs c hc hm fun i hi => ?_
 show ((cellsC l).drop (i * 2)).take 2 = [_, _]
 rw [cellsC_drop l i hi]
 rfl
def cntW (b : Book) (s : Int) (p : Int → Bool) (l : List Nat) : Int := ((l.filter fun (k : Nat) => p (seatAt b s k)).length : Int)
def isF (x : Int) : Bool := decide (x = 0)
def isS (x : Int) : Bool := decide (0 < x)
def rowC (h : House) (b : Book) (s : Int) (L : Int → List Nat) : List Count := (List.range h.prices.length).map fun (c : Nat) => ⟨cntW b s isF (L c), cntW b s isS (L c)⟩
def countsL (h : House) (b : Book) : List (List Count) := (List.range h.dates.length).map fun (s : Nat) => rowC h b s (ofL h)
theorem cntW_bound (b : Book) (s : Int) (p : Int → Bool) (l : List Nat) : 0 ≤ cntW b s p l ∧ cntW b s p l ≤ l.length := by
 unfold cntW
 have := List.length_filter_le (fun (k : Nat) => p (seatAt b s k)) l
 omega
theorem cntW_snoc (b : Book) (s : Int) (p : Int → Bool) (l : List Nat) (k : Nat) : cntW b s p (l ++ [k]) = cntW b s p l + if p (seatAt b s k) = true then 1 else 0 := by
 unfold cntW
 rw [List.filter_append, List.length_append]
 by_cases q : p (seatAt b s k) = true <;> simp [q]
theorem rowC_len (h : House) (b : Book) (s : Int) (L : Int → List Nat) : (rowC h b s L).length = h.prices.length := by simp [rowC]
theorem rowC_get {h : House} {b : Book} {s : Int} {L : Int → List Nat} {c : Nat} (hc : c < (rowC h b s L).length) : (rowC h b s L)[c] = ⟨cntW b s isF (L c), cntW b s isS (L c)⟩ := by simp [rowC]
def markD (D : Nat) : Deferred := { target := .collected D, args := #[] }
def Marks (B : Nat) (Ds : List Nat) (w : World) : Prop := Ds.Nodup ∧ ∀ D ∈ Ds, B ≤ D ∧ w.heap[D]? = some (.deferred (some []))
theorem Marks.nil (B : Nat) (w : World) : Marks B [] w := ⟨List.nodup_nil, by simp⟩
theorem Marks.cons {B D : Nat} {Ds : List Nat} {w : World} (h : Marks B Ds w) (hD : B ≤ D) (hn : D ∉ Ds) (hw : w.heap[D]? = some (.deferred (some []))) : Marks B (D :: Ds) w :=
 ⟨List.nodup_cons.2 ⟨hn, h.1⟩, fun x hx => by
  rcases List.mem_cons.1 hx with rfl | hx
  ·exact ⟨hD, hw⟩
  ·exact h.2 x hx⟩
theorem Marks.lt {B : Nat} {Ds : List Nat} {w : World} (h : Marks B Ds w) {D : Nat} (hD : D ∈ Ds) : D < w.heap.size := (Array.getElem?_eq_some_iff.1 (h.2 D hD).2).1
theorem Marks.step {B : Nat} {Ds : List Nat} {w w' : World} (h : Marks B Ds w) (hs : Step w w') : Marks B Ds w' :=
 ⟨h.1, fun D hD => ⟨(h.2 D hD).1, (hs.block D (h.lt hD) id).trans (h.2 D hD).2⟩⟩
theorem Marks.keep {B : Nat} {Ds : List Nat} {w w' : World} {X : Nat → Prop} (h : Marks B Ds w) (hs : StepX X w w') (hX : ∀ D ∈ Ds, ¬ X D) : Marks B Ds w' :=
 ⟨h.1, fun D hD => ⟨(h.2 D hD).1, (hs.block D (h.lt hD) (hX D hD)).trans (h.2 D hD).2⟩⟩
theorem putObj_stepX (w : World) (D : Nat) (o : Obj) : StepX (fun j => j = D) w (w.putObj D o) := by
 have hg := grownBy_putObj' w D o
 exact ⟨hg.os, hg.tape, hg.output, hg.size, fun k hk hn => hg.block k hk (fun e => hn (by cases e; rfl))⟩
theorem leaves_marks {F : Fence} {n : Nat} {P : Program} {fn : Func} {tmps : Array Value} {R : Ending → World → Prop} {B : Nat} : ∀ (Ds : List Nat) (w : World), Marks B Ds w →
  (∀ w', StepX (fun j => B ≤ j ∧ j ∈ Ds) w w' → ∃ v, (results fn tmps).run P w' = .ok v w' ∧ R (.returned v) w') → LeavesInM F n P fn tmps R (Ds.map markD) .returning w
 | [], w, _, h => h w (StepX.refl _ _)
 | D :: Ds, w, hm, h => by
  obtain ⟨hD, hw⟩ := hm.2 D (by simp)
  have hn := (List.nodup_cons.1 hm.1)
  refine ⟨by simp, .inl ⟨D, _, rfl, run_takeDeferred hw, ?_⟩⟩
  have hp := putObj_stepX w D (.deferred none)
  refine leaves_marks Ds _ ⟨hn.2, fun x hx => ⟨(hm.2 x (by simp [hx])).1, ?_⟩⟩ fun w' hs => h w' ((hp.mono fun j _ hj => ?_).trans (hs.mono fun j _ hj => ?_))
  ·exact (hp.block x (hm.lt (by simp [hx])) (fun e => hn.1 (e ▸ hx))).trans (hm.2 x (by simp [hx])).2
  ·subst hj; exact ⟨hD, by simp⟩
  ·exact ⟨hj.1, by simp [hj.2]⟩
theorem wplI_make2 {P : Program} {w : World} {ops : Array Oper} {rest : List Oper} {o : Oper} {a : Act} {Q : Exit → Act → World → Prop} {t e : TypeId} {bytes : Nat} {ro : Option Nat} {nn : Nat} (ei : EI P t e (.agg #[.int .i64 0, .int .i64 0]) 2 bytes) (hg : o.guard = none) (l c : Operand) (hop : o.op = Op.makeSlice t l c)
  (kl kc : IntKind) (n : Nat) (hl : a.eval l = .int kl n) (hc : a.eval c = .int kc n) (hn : n ≤ 9223372036854775807) (hb : bytes * n ≤ 281474976710656)
  (hK : wpListIn (FW ro) nn P ops Q rest (a.put o.dst (.slice (some ⟨w.heap.size, 0, none⟩) n n)) (w.alloc (.cells (cellsC (List.replicate n ⟨0, 0⟩)).toArray e))) : wpListIn (FW ro) nn P ops Q (o :: rest) a w := by
 obtain ⟨h1, _, i, hi, h2, h3, h4⟩ := ei
 subst h4
 have hb' : (i.bytes : Int) * (n : Int) ≤ 281474976710656 := by
  have h : ((i.bytes * n : Nat) : Int) ≤ 281474976710656 := by omega
  rwa [Int.natCast_mul] at h
 have hr := run_make (P := P) w t e i _ h1 hi h2 kl kc n n (by omega) (Int.le_refl _) hb' (by omega)
 simp only [Int.toNat_natCast, h3, madeCells_count n] at hr
 have hw : Region.wanted o (yielded ops a.tmps) = true := by simp [Region.wanted, hg]
 have hsem : o.semAt (FW ro).round a.eval = execOp a.eval o := by
  unfold Oper.semAt
  cases ro with
  | none => rfl
  | some l => simp [hop]
 unfold wpListIn
 rw [if_pos hw]
 refine ⟨fun f _ => trivial, ?_⟩
 rw [hsem]
 simp [execOp, hop, hl, hc, hr, Result.andThen]
 exact hK
attribute [local go_sem] Oper.semAt_some
def countsR (h : House) (b : Book) : List (List Count) := if checkR h b = 0 then countsL h b else []
theorem infoCount : (Tryz.prog.info? 80).map (fun i => (i.zero, i.size, i.bytes)) = some (some (.agg #[.int .i64 0, .int .i64 0]), 2, 16) := by kernel_rfl
theorem eiCount : EI Tryz.prog 78 80 (.agg #[.int .i64 0, .int .i64 0]) 2 16 := .mk' Tryz.underlying78 infoCount rfl
theorem infoCounts : (Tryz.prog.info? 78).map (fun i => (i.zero, i.size, i.bytes)) = some (some (.slice none 0 0), 1, 24) := by kernel_rfl
theorem eiCounts : EI Tryz.prog 72 78 (.slice none 0 0) 1 24 := .mk' Tryz.underlying72 infoCounts rfl
theorem prices5 {h : House} (hv : valid h = true) : h.prices.length ≤ 5 := by
 simp only [valid, validA, validB, Bool.and_eq_true, withinB, decide_eq_true_eq] at hv
 omega
def rowP (h : House) (b : Book) (s : Int) (c : Nat) : List Count := (List.range h.prices.length).map fun (i : Nat) => if i < c then ⟨cntW b s isF (ofL h i), cntW b s isS (ofL h i)⟩ else ⟨0, 0⟩
theorem rowP_len (h : House) (b : Book) (s : Int) (c : Nat) : (rowP h b s c).length = h.prices.length := by simp [rowP]
theorem rowP_zero (h : House) (b : Book) (s : Int) : rowP h b s 0 = List.replicate h.prices.length ⟨0, 0⟩ := by
 apply List.ext_getElem
 ·simp [rowP]
 ·intro i h1 h2; simp [rowP]
theorem rowP_full (h : House) (b : Book) (s : Int) : rowP h b s h.prices.length = rowC h b s (ofL h) := by
 apply List.ext_getElem
 ·simp [rowP, rowC]
 ·intro i h1 h2
  rw [rowP_len] at h1
  simp [rowP, rowC, h1]
theorem rowP_step (h : House) (b : Book) (s : Int) {c : Nat} (hc : c < h.prices.length) : (rowP h b s c).set c ⟨cntW b s isF (ofL h c), cntW b s isS (ofL h c)⟩ = rowP h b s (c + 1) := by
 apply List.ext_getElem
 ·simp [rowP]
 ·intro i h1 h2
  rw [List.getElem_set]
  split
  ·next he => subst he; simp [rowP]
  ·next hne =>
   simp only [rowP, List.getElem_map, List.getElem_range]
   by_cases h3 : i < c
   ·rw [if_pos h3, if_pos (by omega)]
   ·rw [if_neg h3, if_neg (by omega)]
theorem rowP_same (h : House) (b : Book) (s : Int) {c : Nat} (hc : c < h.prices.length) : (rowP h b s c).set c ⟨0, 0⟩ = rowP h b s c := by
 apply List.ext_getElem
 ·simp
 ·intro i h1 h2
  rw [List.getElem_set]
  split
  ·next he => subst he; simp [rowP]
  ·rfl
def CountI (w0 : World) (gl : Nat) (R : List Count) (c : Nat) {h : House} (b : Book) (s : Int) (pre : List (SeatNo h)) (W : World) : Prop :=
 Bx W gl (cellsC (R.set c ⟨cntW b s isF (seatsOf pre), cntW b s isS (seatsOf pre)⟩)) 80 ∧ StepX (fun j => j = gl ∨ w0.heap.size ≤ j) w0 W
theorem CountI.own {w0 : World} {gl : Nat} {R : List Count} {c : Nat} {h : House} {b : Book} {s : Int} : OwnFrom w0.heap.size (CountI w0 gl R c (h := h) b s) := by
 intro pre A B row ⟨h1, h3⟩ hg hr
 have h4 : ∀ g, (∃ (cs : Array Value) (T : TypeId) (f : Nat × Nat), A.heap[g]? = some (Obj.cells cs T f)) → B.heap[g]? = A.heap[g]? := fun g hcs => by
  obtain ⟨cs, T, f, hc⟩ := hcs
  refine hg.block g (Array.getElem?_eq_some_iff.1 hc).1 fun e => ?_
  obtain ⟨_, o, ho, hn⟩ := hr g e.symm
  rw [hc] at ho
  obtain rfl := Option.some.inj ho
  simp [Obj.isCells] at hn
 refine ⟨?_, h3.trans ⟨hg.os, hg.tape, hg.output, hg.size, fun k hk hn => hg.block k hk fun e => hn (.inr (hr k e.symm).1)⟩⟩
 unfold Bx at *; rw [h4 gl ⟨_, _, _, h1⟩]; exact h1
theorem cellsC_up0 {R : List Count} {c : Nat} (hc : c < R.length) (x y x' : Int) : (cellsC (R.set c ⟨x, y⟩)).set (c * 2) (.int .i64 x') = cellsC (R.set c ⟨x', y⟩) := by
 rw [cellsC_set0 _ c (by rw [List.length_set]; exact hc)]; simp [List.set_set]
theorem cellsC_up1 {R : List Count} {c : Nat} (hc : c < R.length) (x y y' : Int) : (cellsC (R.set c ⟨x, y⟩)).set (c * 2 + 1) (.int .i64 y') = cellsC (R.set c ⟨x, y'⟩) := by
 rw [cellsC_set1 _ c (by rw [List.length_set]; exact hc)]; simp [List.set_set]
theorem count_free {R : List Count} {c : Nat} {h : House} {b : Book} {s : Int} {pre : List (SeatNo h)} {k : Nat} {hk : (k : Int) < sizeL h.sectors} (hc : c < R.length) (hf : seatAt b s k = 0) :
  (cellsC (R.set c ⟨cntW b s isF (seatsOf pre), cntW b s isS (seatsOf pre)⟩)).set (c * 2) (.int .i64 (cntW b s isF (seatsOf pre) + 1)) = cellsC (R.set c ⟨cntW b s isF (seatsOf (pre ++ [⟨k, hk⟩])), cntW b s isS (seatsOf (pre ++ [⟨k, hk⟩]))⟩) := by
 rw [cellsC_up0 hc, seatsOf_snoc, cntW_snoc, cntW_snoc, hf]; simp [isF, isS]
theorem count_sold {R : List Count} {c : Nat} {h : House} {b : Book} {s : Int} {pre : List (SeatNo h)} {k : Nat} {hk : (k : Int) < sizeL h.sectors} (hc : c < R.length) (hf : 0 < seatAt b s k) :
  (cellsC (R.set c ⟨cntW b s isF (seatsOf pre), cntW b s isS (seatsOf pre)⟩)).set (c * 2 + 1) (.int .i64 (cntW b s isS (seatsOf pre) + 1)) = cellsC (R.set c ⟨cntW b s isF (seatsOf (pre ++ [⟨k, hk⟩])), cntW b s isS (seatsOf (pre ++ [⟨k, hk⟩]))⟩) := by
 have h1 : isF (seatAt b s k) = false := by unfold isF; rw [decide_eq_false_iff_not]; omega
 have h2 : isS (seatAt b s k) = true := by unfold isS; rw [decide_eq_true_eq]; exact hf
 rw [cellsC_up1 hc, seatsOf_snoc, cntW_snoc, cntW_snoc, h1, h2]; simp
theorem count_none {R : List Count} {c : Nat} {h : House} {b : Book} {s : Int} {pre : List (SeatNo h)} {k : Nat} {hk : (k : Int) < sizeL h.sectors} (hf : ¬ seatAt b s k = 0) (hg : ¬ 0 < seatAt b s k) :
  cellsC (R.set c ⟨cntW b s isF (seatsOf pre), cntW b s isS (seatsOf pre)⟩) = cellsC (R.set c ⟨cntW b s isF (seatsOf (pre ++ [⟨k, hk⟩])), cntW b s isS (seatsOf (pre ++ [⟨k, hk⟩]))⟩) := by
 have h1 : isF (seatAt b s k) = false := by unfold isF; rw [decide_eq_false_iff_not]; exact hf
 have h2 : isS (seatAt b s k) = false := by unfold isS; rw [decide_eq_false_iff_not]; exact hg
 rw [seatsOf_snoc, cntW_snoc, cntW_snoc, h1, h2]; simp
theorem _root_.Go.BT.OwnL.unmarked {α : Type} [Rep α] {S : Nat → Prop} {base : Nat} {e : TypeId} {w : World} {v : Value} {l : List α} (h : OwnL S base e w v l) {B : Nat} {ds : List Nat} (hM : Marks B ds w) (g : Nat) (hg : v.ownBlock = some g) : g ∉ ds := fun hs => by
 obtain ⟨xs', hx, _⟩ := h
 rcases hx.2 with ⟨he, _⟩ | ⟨g', cap, cur, he, _, hg', _⟩
 ·rw [he] at hg; simp [Value.ownBlock] at hg
 ·rw [he] at hg
  simp [Value.ownBlock] at hg
  subst hg
  rw [(hM.2 _ hs).2] at hg'
  simp at hg'
set_option maxRecDepth 100000 in
set_option maxHeartbeats 8000000 in
theorem Counts_any (S : Nat → Prop) (h : House) (b : Book) (v u : Value) (w : World) (hv : AV S w v h) (hu : AV S w u b) :
  Calls Tryz.prog 28 #[v, u] w fun e w' => ∃ l', e = .returned (.tuple #[l', .int .i64 (checkR h b)]) ∧ SL (Old w) w' l' (countsR h b) ∧ Step w w' := by
 obtain ⟨cs, rfl, hr0⟩ := hv
 have hr := hr0
 obtain ⟨c0, c1, c2, c3, c4, rfl, h0, h1, h2, h3, h4⟩ := hr
 obtain ⟨p0, k0, rfl⟩ := h0.form
 obtain ⟨p1, k1, rfl⟩ := h1.form
 obtain ⟨p2, k2, rfl⟩ := h2.form
 obtain ⟨p3, k3, rfl⟩ := h3.form
 obtain ⟨p4, k4, rfl⟩ := h4.form
 obtain ⟨cs, rfl, hq0⟩ := hu
 have hq := hq0
 obtain ⟨d1, d2, d4, rfl, s1, s2, s4⟩ := hq
 obtain ⟨q1, m1, bs, os, rfl, _, _, hp1, hc1, _⟩ := s1.rows
 obtain ⟨q2, m2, rfl⟩ := s2.form
 obtain ⟨q4, m4, rfl⟩ := s4.form
 obtain ⟨W2, hW2⟩ : ∃ W2, W2 = (w.alloc (.cells #[.slice p0 h.sectors.length k0, .slice p1 h.prices.length k1, .slice p2 h.dates.length k2, .slice p3 h.frm.length k3, .slice p4 h.holds.length k4] 41)).alloc (.cells #[.int .i64 b.agency, .slice q1 b.seats.length m1, .slice q2 b.off.length m2, .int .i64 b.sent, .slice q4 b.took.length m4, .int .i64 b.cash] 77) := ⟨_, rfl⟩
 have hbx : Bx W2 w.heap.size [.slice p0 h.sectors.length k0, .slice p1 h.prices.length k1, .slice p2 h.dates.length k2, .slice p3 h.frm.length k3, .slice p4 h.holds.length k4] 41 := by subst hW2; exact (Bx.new _ _ _).alloc _
 have hb2 : Bx W2 (w.heap.size + 1) [.int .i64 b.agency, .slice q1 b.seats.length m1, .slice q2 b.off.length m2, .int .i64 b.sent, .slice q4 b.took.length m4, .int .i64 b.cash] 77 := by subst hW2; exact Bx.new' _ _ _ _ (by simp)
 have hS : Step w W2 := by subst hW2; exact (by repeat (first | (with_reducible assumption) | (with_reducible exact Step.refl _) | (with_reducible apply Step.s_alloc) | (with_reducible apply Step.s_drew) | (with_reducible apply Step.s_drewN) | (with_reducible refine Step.trans ?_ (by with_reducible assumption))))
 have hz2 : W2.heap.size = w.heap.size + 2 := by subst hW2; simp
 have HB1 := Lib.hid hbx
 have HB2 := Lib.hid hb2
 have HR := Lib.hid (Rep.keep (.of_step hS) hr0)
 have HQ := Lib.hid (Rep.keep (.of_step hS) hq0)
 have HS := Lib.hid hS
 have HZ2 := Lib.hid hz2
 have HP1 := Lib.hid (And.intro hp1 hc1)
 have HT := Lib.hid (Step.refl W2)
 have HW := Lib.hid hW2
 clear hr0 hq0 h0 h1 h2 h3 h4 s1 s2 s4 hp1 hc1 hbx hb2 hS hz2 hW2
 refine callsIn_wide.1 (show CallsIn (FW none) 5 Tryz.prog 28 _ w _ from ?_)
 refine callsIn_of_wp_marks Tryz.func28 rfl trivial ?_ rfl
 simp only [Tryz.ntmps28, List.size_toArray, List.length_cons, List.length_nil, Nat.reduceAdd, Nat.reduceSub, Array.replicate_succ, Array.replicate_zero, List.push_toArray, List.append_toArray, List.nil_append, List.cons_append]
 gi_wp2_with fail
 rw [← HW.out]
 refine (callsIn_FW (check_any S h b _ _ W2 ⟨_, rfl, HR.out⟩ ⟨_, rfl, HQ.out⟩)).mono ?_
 rintro e w1 ⟨rfl, hS1⟩
 have HT := Lib.hid hS1
 clear hS1
 obtain ⟨ck, hck⟩ : ∃ x, x = checkR h b := ⟨_, rfl⟩
 rw [← hck]
 by_cases hc : ck = 0
 rotate_left
 ·have hd : (ck != 0) = true := by simpa using hc
  have HF := Lib.hid (show countsR h b = [] by unfold countsR; rw [← hck, if_neg hc])
  have HK := Lib.hid hck
  clear hc hck
  gi_wp2
  refine ⟨_, results_tmp2 rfl _ _ _, _, by rw [← HK.out]; rfl, ?_, HS.out.trans HT.out⟩
  rw [HF.out]; exact SL.nil _ _
 have HF := Lib.hid (show countsR h b = countsL h b by unfold countsR; rw [← hck, if_pos hc])
 have HCK := Lib.hid (hck.symm.trans hc)
 subst hc
 clear hck
 obtain ⟨e0, e1, e2, e3, e4⟩ := cells5 (HB1.out.step HT.out)
 obtain ⟨f0, f1, f2, f3, f4, f5⟩ := cells6 (HB2.out.step HT.out)
 gi_wp2_with fail
 clear e0 e1 e2 e3 e4 f0 f1 f2 f3 f4 f5
 have HBT := Lib.hid (show Below W2.heap.size W2 w1 from HT.out.below)
 have hOD := (okDesk_of HCK.out).1
 obtain ⟨z, hz⟩ : ∃ z : Nat, sizeL h.sectors = z := ⟨(sizeL h.sectors).toNat, by have := size_pos hOD.1; omega⟩
 have hbv := bounds_valid hOD.1
 have hz100 : z ≤ 100 := by omega
 have hz0 : 0 < z := by have := size_pos hOD.1; omega
 have hpl : h.prices.length ≤ 5 := prices5 hOD.1
 have hn1 : 1 ≤ h.dates.length ∧ h.dates.length ≤ 6 := by omega
 have HSL := Lib.hid hOD.2.2.1
 have HO := Lib.hid hOD
 have HZ := Lib.hid hz
 clear hOD hz hbv
 refine wpIn_loop (fun a' wr => ∃ (ds : List Nat) (u0 u1 u4 u5 u6 u7 u8 u9 u10 u11 u12 u13 u14 u15 u16 u17 u18 u19 u22 u23 u24 u25 u26 u27 u28 u29 u30 u31 u32 u33 u34 u35 u36 u37 u38 u39 u40 u41 u42 u43 u44 u45 u46 u47 u48 u49 u50 u51 u52 u53 u54 u55 u56 u57 u58 u59 u60 u61 u62 u63 u64 u65 u66 u67 u68 u69 u70 u71 u72 u73 : Value), (∃ s : Nat, s ≤ h.dates.length ∧ u22 = .int .i64 s ∧ OwnL (fun j => Old W2 j ∨ j ∈ ds) W2.heap.size 78 wr u7 ((countsL h b).take s) ∧ Below W2.heap.size W2 wr ∧ Marks W2.heap.size ds wr) ∧ a' = { tmps := #[u0, u1, .pointer (some ⟨w.heap.size, 0, none⟩), .pointer (some ⟨w.heap.size + 1, 0, none⟩), u4, u5, u6, u7, u8, u9, u10, u11, u12, u13, u14, u15, u16, u17, u18, u19, .slice q1 b.seats.length m1, .int .i64 b.seats.length, u22, u23, u24, u25, u26, u27, u28, u29, u30, u31, u32, u33, u34, u35, u36, u37, u38, u39, u40, u41, u42, u43, u44, u45, u46, u47, u48, u49, u50, u51, u52, u53, u54, u55, u56, u57, u58, u59, u60, u61, u62, u63, u64, u65, u66, u67, u68, u69, u70, u71, u72, u73], defers := ds.map markD }) (fun a' _ => h.dates.length - (intOf (a'.tmps.getD 22 undef)).toNat) ?atStart ?round
 case atStart =>
  refine ⟨[], ?_⟩
  (repeat apply Exists.intro)
  refine ⟨?_, rfl⟩
  exact ⟨0, Nat.zero_le _, rfl, OwnL.nil _ _ _ _, HBT.out, Marks.nil _ _⟩
 case round =>
  intro a' wr hinv
  obtain ⟨ds, u0, u1, u4, u5, u6, u7, u8, u9, u10, u11, u12, u13, u14, u15, u16, u17, u18, u19, u22, u23, u24, u25, u26, u27, u28, u29, u30, u31, u32, u33, u34, u35, u36, u37, u38, u39, u40, u41, u42, u43, u44, u45, u46, u47, u48, u49, u50, u51, u52, u53, u54, u55, u56, u57, u58, u59, u60, u61, u62, u63, u64, u65, u66, u67, u68, u69, u70, u71, u72, u73, ⟨s, hs, rfl, hown, hB, hM⟩, rfl⟩ := hinv
  dsimp only
  obtain ⟨LL, hLL⟩ : ∃ L, L = (countsL h b).take s := ⟨_, rfl⟩
  rw [← hLL] at hown
  have HLL := Lib.hid hLL
  clear hLL
  clear HT HBT
  have HT := Lib.hid (Step.of hB)
  have HO2 := Lib.hid hown
  have HBL := Lib.hid hB
  have HM := Lib.hid hM
  obtain ⟨pu, cu, rfl, _⟩ := hown.form
  clear hown hB hM
  by_cases hlt : s < h.dates.length
  ·have his : s < b.seats.length := by have := HSL.out; omega
   have hrow : b.seats[s].length = z := by have := HO.out.2.2.2.1 s his; have := HZ.out; omega
   obtain rfl := HP1.out.1 (by omega)
   obtain ⟨ur, hr1, hr2⟩ := HP1.out.2 s his
   obtain ⟨pr, cr, br, orr, rfl, _, _, hpr, hcr, hbb⟩ := hr2.ints
   have HBRL := Lib.hid ((hbb (by rw [hrow]; exact hz0)).1)
   clear hbb
   obtain rfl := hpr (by rw [hrow]; exact hz0)
   have hcr2 : ∀ j, j < z → w.cell? ⟨br, orr + j, none⟩ = some (.int .i64 (seatAt b s j)) := fun j hjz => by
    rw [hcr j (by rw [hrow]; exact hjz)]
    simp [seatAt, List.getD_eq_getElem?_getD, his, show j < b.seats[s].length by rw [hrow]; exact hjz]
   rw [hrow] at hr1
   have HROW := Lib.hid (And.intro hr1 hcr2)
   have hx2 : (0 : Int) ≤ (s : Int) ∧ (s : Int) < (b.seats.length : Int) := by omega
   clear hrow hr1 hr2 hpr hcr hcr2
   obtain ⟨e0, e1, e2, e3, e4⟩ := cells5 (HB1.out.step HT.out)
   have r1 := (HS.out.trans HT.out).kc HROW.out.1
   have y1 := (HB1.out.step HT.out).lt
   gi_wp2_with (gi_at_make; refine wplI_make2 eiCount rfl _ _ rfl .i64 .i64 h.prices.length rfl rfl (by omega) (by omega) ?_)
   clear e0 e1 e2 e3 e4 r1 y1
   obtain ⟨wo, hwo⟩ : ∃ W, W = wr := ⟨_, rfl⟩
   subst hwo
   have HW5 := Lib.hid (show Step wo (((wo.alloc (.cells #[.slice (some ⟨br, orr, none⟩) z cr] 23)).alloc (.cells (cellsC (List.replicate h.prices.length ⟨0, 0⟩)).toArray 80)).alloc (.cells #[.slice (some ⟨wo.heap.size + 1, 0, none⟩) h.prices.length h.prices.length] 78)) from (by repeat (first | (with_reducible assumption) | (with_reducible exact Step.refl _) | (with_reducible apply Step.s_alloc) | (with_reducible apply Step.s_drew) | (with_reducible apply Step.s_drewN) | (with_reducible refine Step.trans ?_ (by with_reducible assumption)))))
   gi_wp2_with fail
   refine wpIn_loop (fun a' wr => ∃ (ds : List Nat) (u0 u1 u4 u5 u6 u8 u11 u12 u13 u14 u15 u16 u17 u18 u19 u23 u24 u25 u26 u27 u28 u29 u32 u33 u34 u35 u36 u37 u38 u39 u40 u41 u42 u43 u44 u45 u46 u47 u48 u49 u50 u51 u52 u53 u54 u55 u56 u57 u58 u59 u60 u61 u62 u63 u64 u65 u66 u67 u68 u69 u70 u71 u72 u73 : Value), (∃ c : Nat, c ≤ h.prices.length ∧ u32 = .int .i64 c ∧ Bx wr (wo.heap.size + 1) (cellsC (rowP h b s c)) 80 ∧ Bx wr wo.heap.size [.slice (some ⟨br, orr, none⟩) z cr] 23 ∧ Bx wr (wo.heap.size + 2) [.slice (some ⟨wo.heap.size + 1, 0, none⟩) h.prices.length h.prices.length] 78 ∧ Step wo wr ∧ Marks W2.heap.size ds wr ∧ OwnL (fun j => Old W2 j ∨ j ∈ ds ∨ j = wo.heap.size + 1) W2.heap.size 78 wr (.slice pu LL.length cu) LL) ∧ a' = { tmps := #[u0, u1, .pointer (some ⟨w.heap.size, 0, none⟩), .pointer (some ⟨w.heap.size + 1, 0, none⟩), u4, u5, u6, .slice pu LL.length cu, u8, .pointer (some ⟨wo.heap.size, 0, none⟩), .pointer (some ⟨wo.heap.size + 2, 0, none⟩), u11, u12, u13, u14, u15, u16, u17, u18, u19, .slice (some ⟨bs, os, none⟩) b.seats.length m1, .int .i64 b.seats.length, .int .i64 s, u23, u24, u25, u26, u27, u28, u29, .slice (some ⟨wo.heap.size + 1, 0, none⟩) h.prices.length h.prices.length, .int .i64 h.prices.length, u32, u33, u34, u35, u36, u37, u38, u39, u40, u41, u42, u43, u44, u45, u46, u47, u48, u49, u50, u51, u52, u53, u54, u55, u56, u57, u58, u59, u60, u61, u62, u63, u64, u65, u66, u67, u68, u69, u70, u71, u72, u73], defers := ds.map markD }) (fun a' _ => h.prices.length - (intOf (a'.tmps.getD 32 undef)).toNat) ?atStart ?round
   case atStart =>
    refine ⟨ds, ?_⟩
    (repeat apply Exists.intro)
    refine ⟨?_, rfl⟩
    exact ⟨0, Nat.zero_le _, rfl, by rw [rowP_zero]; exact (Bx.new' _ _ _ _ (by simp)).alloc _, ((Bx.new _ [_] _).alloc _).alloc _, Bx.new' _ [_] _ _ (by simp), HW5.out, HM.out.step HW5.out, (HO2.out.weak fun j hj hs => hs.elim .inl fun hs => hs.elim .inr fun hs => absurd hj (by omega)).step HW5.out⟩
   case round =>
    clear HM
    intro a' wr hinv
    obtain ⟨ds, u0, u1, u4, u5, u6, u8, u11, u12, u13, u14, u15, u16, u17, u18, u19, u23, u24, u25, u26, u27, u28, u29, u32, u33, u34, u35, u36, u37, u38, u39, u40, u41, u42, u43, u44, u45, u46, u47, u48, u49, u50, u51, u52, u53, u54, u55, u56, u57, u58, u59, u60, u61, u62, u63, u64, u65, u66, u67, u68, u69, u70, u71, u72, u73, ⟨c, hc, rfl, hbl, hb9, hb10, hS, hM, hown⟩, rfl⟩ := hinv
    dsimp only
    have HBLC := Lib.hid hbl
    have HB9 := Lib.hid hb9
    have HB10 := Lib.hid hb10
    have HSI := Lib.hid hS
    have HM := Lib.hid hM
    have HOWN := Lib.hid hown
    have HTI := Lib.hid (HT.out.trans hS)
    have HZO := Lib.hid (And.intro HT.out.size (And.intro hS.size hb10.lt))
    clear hbl hb9 hb10 hS hM hown
    have f9 := HB9.out.cell 0
    have f10 := HB10.out.cell 0
    simp only [List.getElem?_cons_zero] at f9 f10
    by_cases hltc : c < h.prices.length
    ·obtain ⟨e0, e1, e2, e3, e4⟩ := cells5 (HB1.out.step HTI.out)
     have y1 := (HB1.out.step HTI.out).lt
     obtain ⟨w1, hw1⟩ : ∃ W, W = wr.alloc (.cells #[.int .i64 c] 3) := ⟨_, rfl⟩
     have HW1 := Lib.hid hw1
     have hz1 : w1.heap.size = wr.heap.size + 1 := by rw [hw1]; simp
     have hs1 : Step wr w1 := by rw [hw1]; exact Step.alloc _ _
     have hcb : Bx w1 wr.heap.size [.int .i64 c] 3 := by rw [hw1]; exact Bx.new _ [_] _
     have hrw := Rep.weak (T := fun j => W2.heap.size ≤ j) (fun j h1 h2 => by omega) HR.out
     have hcall := Lib.hid (of_any (fun j => W2.heap.size ≤ j) h (.agg #[.slice p0 h.sectors.length k0, .slice p1 h.prices.length k1, .slice p2 h.dates.length k2, .slice p3 h.frm.length k3, .slice p4 h.holds.length k4]) c w1 ⟨_, rfl, Rep.keep (.of_step (HTI.out.trans hs1)) hrw⟩)
     have HZ1 := Lib.hid hz1
     have HS1 := Lib.hid hs1
     have HCB := Lib.hid hcb
     clear hw1 hz1 hs1 hcb hrw
     gi_wp2_with fail
     rw [← HW1.out]
     refine (callsIn_FW hcall.out).mono ?_
     rintro e w2 ⟨x0, x1, x2, x3, x4, rfl, hbh, hrh, hbc, hS2, hz2⟩
     have HBH := Lib.hid hbh
     have HRH := Lib.hid hrh
     have HBC := Lib.hid hbc
     have HT2 := Lib.hid (HS1.out.trans hS2)
     have HCB2 := Lib.hid (HCB.out.step hS2)
     have hz1 := HZ1.out
     have hzo := HZO.out
     have HZZ := Lib.hid (And.intro hz1 (And.intro hz2 hzo))
     clear hcall e0 e1 e2 e3 e4 y1 f9 f10 hbh hrh hbc hS2 hz1 hz2 hzo HCB HW1
     gi_wp2_with fail
     have hseq := Lib.hid (of1_stops 4 (by omega) (fun j => W2.heap.size ≤ j) (fun j => j = wo.heap.size + 1 ∨ w2.heap.size ≤ j) h c w1.heap.size (w1.heap.size + 1) x0 x1 x2 x3 x4 w2 HBH.out HRH.out (HBC.out.cell 0) (by have := HZZ.out; omega) (by have := HZZ.out; omega)
      (fun j hj => by have := HZZ.out; omega) (okSec_valid HO.out.1) (by have := (bounds_valid HO.out.1).2.2.2.2.2.2.2.1; omega))
     have h00 : CountI w2 (wo.heap.size + 1) (rowP h b s c) c (h := h) b s [] w2 := ⟨by
      show Bx w2 _ (cellsC ((rowP h b s c).set c ⟨0, 0⟩)) _
      rw [rowP_same h b s hltc]
      exact HBLC.out.step HT2.out, StepX.refl _ _⟩
     refine wpIn_rangeFunc_ownG rfl (by omega) rfl trivial (Go.Proofs.enters_of Tryz.func111 (by kernel_rfl) rfl) hseq.out (fun h1 h2 => h1.trans h2) (stepX_b (fun j hj => .inr hj)) (Below.refl _ _) (fun _ => rfl)
      (CountI w2 (wo.heap.size + 1) (rowP h b s c) c (h := h) b s) (fun _ _ _ => False) CountI.own (fun _ _ _ _ _ hf _ _ => hf) h00 ?a1 ?assign ?body ?done ?stop
     case assign =>
      intro l x W K hK
      rw [FW_inRound]
      gi_wp2
      exact hK
     case stop => exact fun _ _ _ _ _ _ hf _ => hf.elim
     case done =>
      intro D ys W hDl hys hI hK
      obtain ⟨hbl, hX⟩ := hI
      rw [show seatsOf ys = ofL h c from hys, rowP_step h b s hltc] at hbl
      have hsz := HZZ.out
      have k9 := (HB9.out.step HT2.out).keep hX.keeps (show ¬ (wo.heap.size = wo.heap.size + 1 ∨ w2.heap.size ≤ wo.heap.size) by omega)
      have k10 := (HB10.out.step HT2.out).keep hX.keeps (show ¬ (wo.heap.size + 2 = wo.heap.size + 1 ∨ w2.heap.size ≤ wo.heap.size + 2) by omega)
      have kS : Step wo W := StepX.fresh (HSI.out.trans HT2.out) hX (fun j hj => by omega)
      have hnd : ∀ d ∈ ds, ¬ (d = wo.heap.size + 1 ∨ w2.heap.size ≤ d) := fun d hd hx => by
       rcases hx with hx | hx
       ·have := (HM.out.2 d hd).2
        rw [hx] at this
        have h9 := HBLC.out
        unfold Bx at h9
        rw [h9] at this
        simp at this
       ·have := HM.out.lt hd; have := HT2.out.size; omega
      have kM : Marks W2.heap.size (D :: ds) W := ((HM.out.step HT2.out).keep hX hnd).cons (by omega) (fun hd => hnd D hd (.inr hDl)) hK
      have kO : OwnL (fun j => Old W2 j ∨ j ∈ D :: ds ∨ j = wo.heap.size + 1) W2.heap.size 78 W (.slice pu LL.length cu) LL := by
       have o1 := (HOWN.out.step HT2.out).weak (T := fun j => (Old W2 j ∨ j ∈ ds) ∨ (j = wo.heap.size + 1 ∨ w2.heap.size ≤ j)) fun j hj hs => by
        rcases hs with (hs | hs) | hs | hs
        ·exact .inl hs
        ·exact .inr (.inl hs)
        ·exact .inr (.inr hs)
        ·omega
       have o2 := o1.kept (hX.keeps.mono fun j _ hj => .inr hj) fun g hg => hX.block g (o1.lt g hg).2 fun hx => by
        have := (HO2.out.lt g hg).2
        have := (o1.lt g hg).2
        omega
       exact o2.weak fun j hj hs => by
        rcases hs with hs | hs | hs
        ·exact .inl (.inl hs)
        ·rcases List.mem_cons.1 hs with rfl | hs
         ·exact .inr (.inr hDl)
         ·exact .inl (.inr hs)
        ·exact .inr (.inl hs)
      have HK := Lib.hid (And.intro hbl (And.intro k9 (And.intro k10 (And.intro kS (And.intro kM kO)))))
      clear hys hbl hX hK hsz k9 k10 kS hnd kM kO hDl
      gi_wp2
      refine ⟨⟨D :: ds, ?_⟩, ?_⟩
      ·(repeat apply Exists.intro)
       refine ⟨?_, ?_⟩
       rotate_left
       ·first | rfl | (refine ⟨?_, rfl⟩; repeat (first | refine ⟨rfl, ?_⟩ | exact rfl)) | (repeat (first | refine ⟨rfl, ?_⟩ | exact rfl))
       obtain ⟨g1, g2, g3, g4, g5, g6⟩ := HK.out
       exact ⟨c + 1, by omega, by go_num, g1, g2, g3, g4, g5, g6⟩
      ·simp [intOf]; omega
     case body =>
      intro l pre x W hI hlen
      rw [FW_inRound]
      obtain ⟨xk, hxk⟩ := x
      obtain ⟨hbl, hX⟩ := hI
      have hkz : xk < z := by have := HZ.out; omega
      have hsz := HZZ.out
      have hcell : ∀ b o u, w2.cell? ⟨b, o, none⟩ = some u → ¬ (b = wo.heap.size + 1 ∨ w2.heap.size ≤ b) → W.cell? ⟨b, o, none⟩ = some u := fun b o u hu hn => hX.keeps.cell (a := ⟨b, o, none⟩) hn hu
      have r2 := (HS.out.trans (HTI.out.trans HT2.out)).kc (HROW.out.2 xk hkz)
      have hbr : br < w.heap.size := HBRL.out
      have hwz : W2.heap.size = w.heap.size + 2 := HZ2.out
      have y0 := hcell wo.heap.size 0 _ ((HB9.out.step HT2.out).cell 0) (by omega)
      have y1 := hcell (wo.heap.size + 2) 0 _ ((HB10.out.step HT2.out).cell 0) (by omega)
      have y2 := hcell wr.heap.size 0 _ (HCB2.out.cell 0) (by omega)
      have y3 := hcell br _ _ r2 (by omega)
      have hcR : c < ((rowP h b s c).set c ⟨cntW b s isF (seatsOf pre), cntW b s isS (seatsOf pre)⟩).length := by rw [List.length_set, rowP_len]; exact hltc
      have n0 := hbl.cell (c * 2)
      have n1 := hbl.cell (c * 2 + 1)
      rw [cellsC_get0 hcR] at n0
      rw [cellsC_get1 hcR] at n1
      simp only [List.getElem_set_self] at n0 n1
      have z0 := hbl.frozen (c * 2)
      have z1 := hbl.frozen (c * 2 + 1)
      have b0 := cntW_bound b s isF (seatsOf pre)
      have b1 := cntW_bound b s isS (seatsOf pre)
      rw [seatsOf_len] at b0 b1
      have hmn := manyN_eq
      obtain ⟨m0, hm0⟩ : ∃ y, y = cntW b s isF (seatsOf pre) := ⟨_, rfl⟩
      obtain ⟨m1, hm1⟩ : ∃ y, y = cntW b s isS (seatsOf pre) := ⟨_, rfl⟩
      rw [← hm0] at n0 b0
      rw [← hm1] at n1 b1
      have hw0 : IntKind.i64.wrap (m0 + 1) = m0 + 1 := by rw [IntKind.wrap_i64]; omega
      have hw1 : IntKind.i64.wrap (m1 + 1) = m1 + 1 := by rw [IntKind.wrap_i64]; omega
      obtain ⟨x, hx⟩ : ∃ x, x = seatAt b s xk := ⟨_, rfl⟩
      rw [← hx] at y3
      have HX := Lib.hid hX
      have HBV := Lib.hid hbl
      have HMM := Lib.hid (And.intro hm0 hm1)
      have HSE := Lib.hid hx
      have hix : (0 : Int) ≤ (xk : Int) ∧ (xk : Int) < (z : Int) := by omega
      have hic : (0 : Int) ≤ (c : Int) ∧ (c : Int) < (h.prices.length : Int) := by omega
      have hlc := HZZ.out
      clear hcell r2 hbr hwz hcR b0 b1 hmn hm0 hm1 hx hX hbl hsz hlen hlc
      by_cases q1 : x = 0
      ·have hd : (x == 0) = true := by simpa using q1
       have HN := Lib.hid (count_free (R := rowP h b s c) (c := c) (h := h) (pre := pre) (k := xk) (hk := hxk) (by rw [rowP_len]; exact hltc) (HSE.out.symm.trans q1))
       clear q1
       gi_wp2
       obtain ⟨em0, em1⟩ := HMM.out
       subst em0 em1
       have hX6 : StepX (fun j => j = wo.heap.size + 1 ∨ w2.heap.size ≤ j) W (W.setCell ⟨wo.heap.size + 1, c * 2, none⟩ (.int .i64 (cntW b s isF (seatsOf pre) + 1))) := StepX.setCell (StepX.refl _ _) ⟨wo.heap.size + 1, c * 2, none⟩ _ (.inl rfl)
       have h8 := HBV.out.setCell (c * 2) (.int .i64 (cntW b s isF (seatsOf pre) + 1))
       rw [HN.out] at h8
       exact ⟨(KeepsOthers.setCell _ _ _).from _, hX6, h8, HX.out.trans hX6⟩
      have hd : (x == 0) = false := by simpa using q1
      by_cases q2 : 0 < x
      ·have hd2 : decide (0 < x) = true := by simpa using q2
       have HN := Lib.hid (count_sold (R := rowP h b s c) (c := c) (h := h) (pre := pre) (k := xk) (hk := hxk) (by rw [rowP_len]; exact hltc) (show 0 < seatAt b s xk by rw [← HSE.out]; exact q2))
       clear q1 q2
       gi_wp2
       obtain ⟨em0, em1⟩ := HMM.out
       subst em0 em1
       have hX6 : StepX (fun j => j = wo.heap.size + 1 ∨ w2.heap.size ≤ j) W (W.setCell ⟨wo.heap.size + 1, c * 2 + 1, none⟩ (.int .i64 (cntW b s isS (seatsOf pre) + 1))) := StepX.setCell (StepX.refl _ _) ⟨wo.heap.size + 1, c * 2 + 1, none⟩ _ (.inl rfl)
       have h8 := HBV.out.setCell (c * 2 + 1) (.int .i64 (cntW b s isS (seatsOf pre) + 1))
       rw [HN.out] at h8
       exact ⟨(KeepsOthers.setCell _ _ _).from _, hX6, h8, HX.out.trans hX6⟩
      have hd2 : decide (0 < x) = false := by simpa using q2
      have HN := Lib.hid (count_none (R := rowP h b s c) (c := c) (h := h) (pre := pre) (k := xk) (hk := hxk) (show ¬ seatAt b s xk = 0 by rw [← HSE.out]; exact q1) (show ¬ 0 < seatAt b s xk by rw [← HSE.out]; exact q2))
      clear q1 q2
      gi_wp2
      have h8 := HBV.out
      rw [HN.out] at h8
      exact ⟨keepsFrom_step _ (Step.refl _), StepX.refl _ _, h8, HX.out⟩
    ·obtain rfl : c = h.prices.length := by omega
     have hbl := HBLC.out
     rw [rowP_full] at hbl
     have hOW := HOWN.out.weak (T := fun j => Old W2 j ∨ j ∈ ds) fun j _ hs => by
      rcases hs with hs | hs
      ·exact .inl hs
      ·exact .inr (.inl hs)
     have x1 : ¬ avoid (fun j => Old W2 j ∨ j ∈ ds) (.slice pu LL.length cu) (wo.heap.size + 1) := fun e => by
      rcases e with (e | e) | e
      ·unfold Old at e; have := HZO.out.1; omega
      ·have h8 := (HM.out.2 _ e).2
       have h9 := HBLC.out
       unfold Bx at h9
       rw [h9] at h8
       simp at h8
      ·have := (HO2.out.lt _ e).2; omega
     have hrow : SL (avoid (fun j => Old W2 j ∨ j ∈ ds) (.slice pu LL.length cu)) wr (.slice (some ⟨wo.heap.size + 1, 0, none⟩) (rowC h b s (ofL h)).length h.prices.length) (rowC h b s (ofL h)) := SL.bx_counts hbl x1 _ (by rw [rowC_len]; omega) (by rw [rowC_len]; omega)
     rw [rowC_len] at hrow
     have hue := SLe.one (S := avoid (fun j => Old W2 j ∨ j ∈ ds) (.slice pu LL.length cu)) (w := wr) (cs := [.slice (some ⟨wo.heap.size + 1, 0, none⟩) h.prices.length h.prices.length]) (x := rowC h b s (ofL h)) 78 ⟨_, rfl, hrow⟩
     have hown2 := hOW.alloc (.cells #[.slice (some ⟨wo.heap.size + 1, 0, none⟩) h.prices.length h.prices.length] 78)
     have hkl : (countsL h b).length = h.dates.length := by simp [countsL]
     have hkl2 : s < (countsL h b).length := by omega
     have hn1 : LL.length + [rowC h b s (ofL h)].length = s + 1 := by rw [HLL.out]; simp; omega
     have hn2 : s + 1 ≤ maxLen := by simp only [maxLen]; omega
     have hB3 := HBL.out.trans (HSI.out.below.mono HBL.out.size)
     have hn3 : W2.heap.size ≤ (wr.alloc (.cells #[.slice (some ⟨wo.heap.size + 1, 0, none⟩) h.prices.length h.prices.length] 78)).heap.size := by have := hB3.size; simp; omega
     have hn4 : LL ++ [rowC h b s (ofL h)] = (countsL h b).take (s + 1) := by
      rw [HLL.out, List.take_succ_eq_append_getElem hkl2]; simp [countsL]
     have HB3 := Lib.hid hB3
     have HO3 := Lib.hid hown2
     clear hrow hbl hkl hkl2 hB3 hOW
     gi_wp2_with (gi_at_builtin; refine wplI_append (α := List Count) (S := fun j => Old W2 j ∨ j ∈ ds) (base := W2.heap.size) (v := .slice pu LL.length cu) (l := LL) (m := [rowC h b s (ofL h)]) eiCounts rfl _ _ rfl rfl rfl hown2 hue (s + 1) hn1 ((countsL h b).take (s + 1)) hn4 hn2 (by omega) hn3 ?_)
     intro p' c' w2 hown3 hg
     have hB4 := (HB3.out.alloc HB3.out.size (.cells #[.slice (some ⟨wo.heap.size + 1, 0, none⟩) h.prices.length h.prices.length] 78)).grown hg hn3 (fun g hg => (HO2.out.lt g hg).1)
     have hM4 := (HM.out.step (Step.alloc wr (.cells #[.slice (some ⟨wo.heap.size + 1, 0, none⟩) h.prices.length h.prices.length] 78))).keep (StepX.grown (X := fun j => (Value.slice pu LL.length cu).ownBlock = some j) hg fun j hj _ => hj) (fun d hd hx => HO3.out.unmarked (HM.out.step (Step.alloc wr _)) d hx hd)
     have H7 := Lib.hid (And.intro hown3 (And.intro hB4 hM4))
     clear hown2 hue hn1 hn2 hn3 hn4 hown3 hg hB4 hM4 x1
     gi_wp2
     refine ⟨⟨ds, ?_⟩, ?_⟩
     ·(repeat apply Exists.intro)
      refine ⟨?_, ?_⟩
      rotate_left
      ·first | rfl | (refine ⟨?_, rfl⟩; repeat (first | refine ⟨rfl, ?_⟩ | exact rfl)) | (repeat (first | refine ⟨rfl, ?_⟩ | exact rfl))
      exact ⟨s + 1, by omega, by go_num, H7.out.1, H7.out.2.1, H7.out.2.2⟩
     ·simp [intOf]; omega
  ·have hlt2 : ¬ s < b.seats.length := by have := HSL.out; omega
   have hts : LL = countsL h b := by rw [HLL.out]; exact List.take_of_length_le (by simp [countsL]; omega)
   have HTS := Lib.hid hts
   clear hts
   gi_wp2
   refine leaves_marks ds _ HM.out ?_
   intro w' hs
   refine ⟨_, results_tmp2 rfl _ _ _, _, by rw [HCK.out]; rfl, ?_, StepX.fresh (HS.out.trans HT.out) hs (fun j hj => by have := HZ2.out; omega)⟩
   rw [HF.out, ← HTS.out]
   have hz2 := HZ2.out
   have hsl := OwnL.slb HO2.out fun g hg hs => by
    rcases hs with hs | hs
    ·have := (HO2.out.lt g hg).1; unfold Old at hs; omega
    ·obtain ⟨xs', hx, _⟩ := HO2.out
     rcases hx.2 with ⟨he, _⟩ | ⟨g', cap, cur, he, _, hg', _⟩
     ·rw [he] at hg; simp [Value.ownBlock] at hg
     ·rw [he] at hg
      simp [Value.ownBlock] at hg
      subst hg
      rw [(HM.out.2 _ hs).2] at hg'
      simp at hg'
   exact (hsl.keep (hs.keeps.mono fun j _ hj => .inr hj.2)).weak fun j _ hj => .inl (by unfold Old at *; omega)
end Go.Proofs.YtgpiieogiafdoaaGreat
namespace Go.Proofs.YtgpiieogiafdoaaGreat
set_option linter.unusedSimpArgs false
set_option linter.unusedVariables false
open Go.RowKit Go.BT
theorem _root_.Go.BT.SL.counts {S : Nat → Prop} {w : World} {v : Value} {l : List Count} (h : SL S w v l) :
  ∃ p c b o, v = .slice p l.length c ∧ l.length ≤ c ∧ l.length ≤ 9223372036854775807 ∧ (0 < l.length → p = some ⟨b, o, none⟩) ∧
   (∀ i (h : i < l.length), w.cell? ⟨b, o + i * 2, none⟩ = some (.int .i64 l[i].free) ∧ w.cell? ⟨b, o + i * 2 + 1, none⟩ = some (.int .i64 l[i].sold)) ∧ (0 < l.length → b < w.heap.size ∧ ¬ S b) := by
 obtain ⟨p, c, b, o, hv, hc, hm, hp, ha⟩ := h
 refine ⟨p, c, b, o, hv, hc, hm, hp, fun i hi => ?_, fun h0 => ⟨(ha 0 h0).1, (ha 0 h0).2.1⟩⟩
 obtain ⟨_, _, cs, hr, hcs⟩ := ha i hi
 have hr' : cs = [.int .i64 l[i].free, .int .i64 l[i].sold] := hr
 subst hr'
 exact ⟨hcs 0 _ rfl, hcs 1 _ rfl⟩
theorem DoneEnds.free {h : House} {b : Book} {r : Except Int (Book × List Int)} {w w' : World} {e : Ending} {a3 : Nat} (ha : Bx w a3 [.slice none 0 0] 23)
  (hd : DoneEnds (fun j => j = a3) (doneR h b (bookOf r)) (fun Z => ∃ v', Bx Z a3 [v'] 23 ∧ SL (fun j => j < w.heap.size + 4) Z v' (restOf [] r)) w e w') :
  ∃ v' l', e = .returned (.tuple #[v', .int .i64 (actR (bookOf (gate h b r))).2]) ∧ AV (Old w) w' v' (actR (bookOf (gate h b r))).1 ∧ Bx w' a3 [l'] 23 ∧ SL (Old w) w' l' (restOf [] (gate h b r)) ∧ StepX (fun j => j = a3) w w' := by
 rw [gate_book]
 unfold gate
 by_cases hc : checkR h b = 0
 ·rw [if_pos hc]
  rw [show doneR h b (bookOf r) = bookOf r by simp [doneR, hc]] at hd ⊢
  cases r with
  | ok p =>
   obtain ⟨v', h1, h2, ⟨l', h3, h4⟩, h5⟩ := hd
   exact ⟨v', l', h1, h2, h3, h4.weak (fun j _ hj => by unfold Old at hj; omega), h5⟩
  | error c =>
   obtain ⟨v', h1, h2, h3⟩ := hd
   exact ⟨v', _, h1, h2, ha.step h3, SL.nil _ _, .of h3⟩
 ·rw [if_neg hc]
  rw [show doneR h b (bookOf r) = .error 1 by simp [doneR, hc]] at hd ⊢
  obtain ⟨v', h1, h2, h3⟩ := hd
  exact ⟨v', _, h1, h2, ha.step h3, SL.nil _ _, .of h3⟩
def posL (b : Book) (i k : Nat) : List Nat := (List.range k).filter fun (j : Nat) => decide (0 < seatAt b i j)
structure MovedTo (h : House) (b : Book) (i : Nat) (d : Int) (B : Book) (M : List BT.Move) (k : Nat) : Prop where
 rowI : ∀ q : Nat, seatAt B i q = if q < k ∧ 0 < seatAt b i q then 0 else seatAt b i q
 keep : ∀ s q : Nat, s ≠ i → seatAt b s q ≠ 0 → seatAt B s q = seatAt b s q
 move : ∀ m ∈ M, ∃ j : Nat, m.seat = j ∧ j < k ∧ 0 < seatAt b i j ∧ ((m.shw = -1 ∧ ∀ s : Nat, i < s → s < h.dates.length → openL h B s (classL h.sectors j) d = []) ∨
  ∃ p q : Nat, m.shw = p ∧ m.at_ = q ∧ i < p ∧ p < h.dates.length ∧ (q : Int) < sizeL h.sectors ∧ classL h.sectors q = classL h.sectors j ∧ seatAt b p q = 0 ∧ seatAt B p q = seatAt b i j ∧ offAt b p = false)
 seats : M.map (·.seat) = (posL b i k).map fun (j : Nat) => (j : Int)
theorem classes_at {h : House} (hv : valid h = true) {n : Nat} (hn : sizeL h.sectors = n) : ∃ hl : (classesL h.sectors).length = n, ∀ j (hj : j < n), (classesL h.sectors)[j] = classL h.sectors j ∧ withinB (classL h.sectors j) 0 (h.prices.length - 1) = true := by
 have hs : ∀ i (hi : i < h.sectors.length), 0 ≤ h.sectors[i].seats := fun i hi => ((okSec_valid hv).2 i hi).1
 have hl := classesL_len hs
 refine ⟨by omega, fun j hj => ⟨classesL_get hs j (by omega), ?_⟩⟩
 obtain ⟨c, hc, hcl, _⟩ := class_valid hv (n := (j : Int)) (by omega) (by omega)
 rw [hc]
 simp [withinB]; omega
end Go.Proofs.YtgpiieogiafdoaaGreat
