/- Walks and plain laws, part o. -/
import Derived.Test.YtfhmdpicoccnfaaMa
import Derived.Test.YtfhmdpicoccnfaaMd
import Derived.Test.YtfhmdpicoccnfaaMf
import Derived.Test.YtfhmdpicoccnfaaMk
import Derived.Test.YtfhmdpicoccnfaaRows
import Derived.HandedShaped
import Derived.SizedLaws
set_option maxHeartbeats 16000000
set_option maxRecDepth 100000
namespace Go.Proofs.Ytfhmdpicoccnfaa
set_option linter.unusedSimpArgs false
set_option linter.unusedVariables false
open Go.ChangeShapes Go.WideShapes Go.ChangeAt Go.RowKit Go.BT
theorem opens_rowsH : Opens 84 (List (List Int)) := opens_slice Try.underlying84 (by kernel_rfl) opens_ints
end Go.Proofs.Ytfhmdpicoccnfaa
namespace Go.BT
open Go.RowKit
theorem splice_get (cs ds : List Value) (p k q : Nat) (hp : p + k ≤ cs.length) (hd : ds.length = k) : (cs.take p ++ ds ++ cs.drop (p + k))[q]? = if q < p then cs[q]? else if q < p + k then ds[q - p]? else cs[q]? := by
 have h1 : (cs.take p).length = p := by simp; omega
 by_cases a : q < p
 ·rw [if_pos a, List.append_assoc, List.getElem?_append_left (by omega), List.getElem?_take_of_lt a]
 ·rw [if_neg a]
  by_cases b : q < p + k
  ·rw [if_pos b, List.getElem?_append_left (by simp; omega), List.getElem?_append_right (by omega), h1]
  ·rw [if_neg b, List.getElem?_append_right (by simp; omega), List.getElem?_drop]
   congr 1
   simp
   omega
theorem piece_get (L : List Value) (n k j q : Nat) (hj : j < n) : (((L.take (n * k)).drop (j * k)).take k)[q]? = if q < k then L[j * k + q]? else none := by
 have hm : j * k + k ≤ n * k := by
  have := Nat.mul_le_mul_right k (show j + 1 ≤ n by omega)
  rw [Nat.add_mul, Nat.one_mul] at this
  exact this
 by_cases a : q < k
 ·rw [if_pos a, List.getElem?_take_of_lt a, List.getElem?_drop, List.getElem?_take_of_lt (by omega)]
 ·rw [if_neg a, List.getElem?_take, if_neg a]
theorem OwnL.row_put {α : Type} [Rep α] {S : Nat → Prop} {base : Nat} {e : TypeId} {w : World} {v : Value} {l : List α} (h : OwnL S base e w v l) {i : Nat} (hi : i < l.length) :
  ∃ g cap cs, v = .slice (some ⟨g, 0, none⟩) l.length cap ∧ base ≤ g ∧ Bx w g cs e ∧ i * Rep.k α + Rep.k α ≤ cs.length ∧ Rep.rep (avoid S v) w ((cs.drop (i * Rep.k α)).take (Rep.k α)) l[i] ∧
   ∀ w' ds (y : α), Rep.rep (avoid S v) w ds y → Wrote g w w' → Bx w' g (cs.take (i * Rep.k α) ++ ds ++ cs.drop (i * Rep.k α + Rep.k α)) e → OwnL S base e w' v (l.set i y) := by
 obtain ⟨xs, ⟨hl, ho⟩, hr⟩ := h
 rcases ho with ⟨_, h0⟩ | ⟨g, cap, cur, rfl, hb, hg, hle, hcap, hsz, htk⟩
 ·omega
 have hm : i * Rep.k α + Rep.k α ≤ l.length * Rep.k α := by
  have := Nat.mul_le_mul_right (Rep.k α) (show i + 1 ≤ l.length by omega)
  rw [Nat.add_mul, Nat.one_mul] at this
  exact this
 have hm2 : l.length * Rep.k α ≤ cap * Rep.k α := Nat.mul_le_mul_right _ hle
 have hcl : cur.toList.length = cap * Rep.k α := by simpa using hsz
 have hpi : ((xs.drop (i * Rep.k α)).take (Rep.k α)) = ((cur.toList.drop (i * Rep.k α)).take (Rep.k α)) := by
  subst htk
  refine List.ext_getElem? fun q => ?_
  rw [piece_get _ _ _ _ _ hi]
  by_cases a : q < Rep.k α
  ·rw [if_pos a, List.getElem?_take_of_lt a, List.getElem?_drop]
  ·rw [if_neg a, List.getElem?_take, if_neg a]
 refine ⟨g, cap, cur.toList, rfl, hb, by unfold Bx; rw [hg], by omega, hpi ▸ hr i hi, fun w' ds y hy hw hbx => ?_⟩
 have hd : ds.length = Rep.k α := Rep.len hy
 have hk : Keeps (avoid S (.slice (some ⟨g, 0, none⟩) l.length cap)) w w' := hw.keeps.mono fun j _ hj => .inr (by rw [hj]; rfl)
 refine ⟨(cur.toList.take (i * Rep.k α) ++ ds ++ cur.toList.drop (i * Rep.k α + Rep.k α)).take (l.length * Rep.k α), ⟨?_, .inr ⟨g, cap, _, by simp, hb, hbx, by simpa using hle, hcap, ?_, by simp⟩⟩, fun j hj => ?_⟩
 ·simp; omega
 ·simp; omega
 ·have hj' : j < l.length := by simpa using hj
  have hlen : (l.set i y).length = l.length := by simp
  rw [List.getElem_set]
  by_cases e : i = j
  ·subst e
   rw [if_pos rfl]
   have : (((cur.toList.take (i * Rep.k α) ++ ds ++ cur.toList.drop (i * Rep.k α + Rep.k α)).take (l.length * Rep.k α)).drop (i * Rep.k α)).take (Rep.k α) = ds := by
    refine List.ext_getElem? fun q => ?_
    rw [piece_get _ _ _ _ _ hi]
    by_cases a : q < Rep.k α
    ·rw [if_pos a, splice_get _ _ _ _ _ (by omega) hd, if_neg (by omega), if_pos (by omega), Nat.add_sub_cancel_left]
    ·rw [if_neg a, List.getElem?_eq_none (by omega)]
   rw [this]
   exact Rep.keep hk (Rep.weak (fun _ _ h => h) hy)
  ·rw [if_neg e]
   have h0 := hr j hj'
   have : (((cur.toList.take (i * Rep.k α) ++ ds ++ cur.toList.drop (i * Rep.k α + Rep.k α)).take (l.length * Rep.k α)).drop (j * Rep.k α)).take (Rep.k α) = ((xs.drop (j * Rep.k α)).take (Rep.k α)) := by
    subst htk
    refine List.ext_getElem? fun q => ?_
    rw [piece_get _ _ _ _ _ hj', piece_get _ _ _ _ _ hj']
    by_cases a : q < Rep.k α
    ·rw [if_pos a, if_pos a, splice_get _ _ _ _ _ (by omega) hd]
     rcases Nat.lt_or_gt_of_ne e with h1 | h1
     ·have := Nat.mul_le_mul_right (Rep.k α) (show i + 1 ≤ j by omega)
      rw [Nat.add_mul, Nat.one_mul] at this
      rw [if_neg (by omega), if_neg (by omega)]
     ·have := Nat.mul_le_mul_right (Rep.k α) (show j + 1 ≤ i by omega)
      rw [Nat.add_mul, Nat.one_mul] at this
      rw [if_pos (by omega)]
    ·rw [if_neg a, if_neg a]
   rw [this]
   exact Rep.keep hk h0
section
variable {α : Type} [Rep α] {S : Nat → Prop} {base : Nat} {P : Program} {w : World} {v u : Value} {l m : List α} {t e : TypeId} {z : Value} {bytes : Nat}
end
end Go.BT
namespace Go.BT
open Go.RowKit
structure RawV where
 v : Value
instance : Rep RawV where
 k := 1
 rep _ _ cs x := cs = [x.v] ∧ x.v.oneCell' = true
 len h := by rw [h.1]; rfl
 keep _ h := h
 weak _ h := h
 one h := by obtain ⟨rfl, h⟩ := h; simpa using h
 pos := by decide
instance : Flat RawV where
 flat h := h
theorem ownRaw_cell {S : Nat → Prop} {base : Nat} {e : TypeId} {w : World} {v : Value} {l : List RawV} (h : OwnL S base e w v l) {i : Nat} (hi : i < l.length) :
  ∃ g c, v = .slice (some ⟨g, 0, none⟩) l.length c ∧ w.cell? ⟨g, i, none⟩ = some l[i].v ∧ base ≤ g ∧ g < w.heap.size := by
 obtain ⟨g, cap, cs, rfl, hb, hbx, hle, hr, _⟩ := h.row_put hi
 have hk : Rep.k RawV = 1 := rfl
 rw [hk, Nat.mul_one] at hle hr
 have h1 := hr.1
 refine ⟨g, cap, rfl, ?_, hb, hbx.lt⟩
 rw [hbx.cell]
 have h2 := congrArg (fun l => l[0]?) h1
 simpa [List.getElem?_take, List.getElem?_drop] using h2
end Go.BT
namespace Go.Proofs.Ytfhmdpicoccnfaa
set_option linter.unusedSimpArgs false
set_option linter.unusedVariables false
open Go.RowKit Go.BT
def RowsO (base : Nat) (w : World) (v : Value) (l : List (List Int)) : Prop :=
 ∃ vs : List RawV, vs.length = l.length ∧ OwnL (fun _ => False) base 26 w v vs ∧ (∀ i (h : i < l.length) (h' : i < vs.length), OwnL (fun _ => False) base 3 w vs[i].v l[i]) ∧
  ∀ i j (hi : i < vs.length) (hj : j < vs.length) g, vs[i].v.ownBlock = some g → vs[j].v.ownBlock = some g → i = j
theorem own_types {α β : Type} [Rep α] [Rep β] {S T : Nat → Prop} {b1 b2 : Nat} {e f : TypeId} {w : World} {v u : Value} {l : List α} {m : List β} (h : OwnL S b1 e w v l) (k : OwnL T b2 f w u m) (hne : e ≠ f) {g : Nat} (h1 : v.ownBlock = some g) (h2 : u.ownBlock = some g) : False := by
 obtain ⟨xs, ⟨_, ho⟩, _⟩ := h
 obtain ⟨ys, ⟨_, ko⟩, _⟩ := k
 rcases ho with ⟨rfl, _⟩ | ⟨g1, cap, cur, rfl, _, hg, _⟩
 ·simp [Value.ownBlock] at h1
 rcases ko with ⟨rfl, _⟩ | ⟨g2, cap2, cur2, rfl, _, kg, _⟩
 ·simp [Value.ownBlock] at h2
 simp [Value.ownBlock] at h1 h2
 subst h1 h2
 rw [hg] at kg
 injection kg with kg
 injection kg with _ kg _
 exact hne kg
theorem RowsO.form {base : Nat} {w : World} {v : Value} {l : List (List Int)} (h : RowsO base w v l) : ∃ p c, v = .slice p l.length c := by
 obtain ⟨vs, hl, ho, _⟩ := h
 obtain ⟨p, c, e, _⟩ := ho.form
 exact ⟨p, c, by rw [e, hl]⟩
theorem RowsO.nil (base : Nat) (w : World) : RowsO base w (.slice none 0 0) [] := ⟨[], rfl, OwnL.nil _ _ _ _, fun i h => absurd h (by simp), fun i j h => absurd h (by simp)⟩
theorem RowsO.step {base : Nat} {w w' : World} {v : Value} {l : List (List Int)} (h : RowsO base w v l) (k : Step w w') : RowsO base w' v l := by
 obtain ⟨vs, hl, ho, hr, hd⟩ := h
 exact ⟨vs, hl, ho.step k, fun i hi hi' => (hr i hi hi').step k, hd⟩
theorem RowsO.sl {base : Nat} {w : World} {v : Value} {l : List (List Int)} {S : Nat → Prop} (h : RowsO base w v l) (hs : ∀ j, base ≤ j → ¬ S j) : SL S w v l := by
 obtain ⟨vs, hl, ho, hr, _⟩ := h
 obtain ⟨p, c, e, hm, hc⟩ := ho.form
 subst e
 rw [hl] at hm hc ⊢
 by_cases h0 : 0 < l.length
 ·obtain ⟨g, c', he, _⟩ := ownRaw_cell ho (i := 0) (by omega)
  injection he with he
  subst he
  refine ⟨_, c, g, 0, rfl, hc, by simp only [maxLen] at hm; omega, fun _ => rfl, fun i hi => ?_⟩
  obtain ⟨g', c', he', hce, hb, hlt⟩ := ownRaw_cell ho (i := i) (by omega)
  injection he' with he'
  injection he' with he'
  injection he' with he' _
  subst he'
  refine ⟨hlt, hs _ hb, [(vs[i]'(by omega)).v], ⟨_, rfl, (ownL_flat S (hr i hi (by omega))).sl fun j hj _ => hs j hj⟩, fun j u hj => ?_⟩
  match j, hj with
  | 0, hj =>
   simp only [List.getElem?_cons_zero, Option.some.injEq] at hj
   subst hj
   show w.cell? ⟨g, 0 + i * 1 + 0, none⟩ = _
   rw [Nat.zero_add, Nat.mul_one, Nat.add_zero]
   exact hce
 ·have : l = [] := List.eq_nil_of_length_eq_zero (by omega)
  subst this
  exact ⟨p, c, 0, 0, rfl, Nat.zero_le _, by simp, fun h => absurd h (by simp), fun i hi => absurd hi (by simp)⟩
theorem RowsO.more {base : Nat} {w w' : World} {v v' : Value} {l : List (List Int)} {vs : List RawV} {u : Value} {r : List Int} (hl : vs.length = l.length) (hr : ∀ i (h : i < l.length) (h' : i < vs.length), OwnL (fun _ => False) base 3 w vs[i].v l[i])
  (hd : ∀ i j (hi : i < vs.length) (hj : j < vs.length) g, vs[i].v.ownBlock = some g → vs[j].v.ownBlock = some g → i = j) (ho : OwnL (fun _ => False) base 26 w v vs) (hu : OwnL (fun _ => False) base 3 w u r) (hn : ∀ i (h : i < vs.length) g, vs[i].v.ownBlock = some g → u.ownBlock ≠ some g)
  (hg : w.grownBy w' v.ownBlock) (ho' : OwnL (fun _ => False) base 26 w' v' (vs ++ [⟨u⟩])) : RowsO base w' v' (l ++ [r]) := by
 have keep : ∀ {x : Value} {q : List Int}, OwnL (fun _ => False) base 3 w x q → OwnL (fun _ => False) base 3 w' x q := fun {x q} hx => ownF_row hx fun g hxg => hg.block g (hx.lt g hxg).2 fun e => own_types hx ho (by decide) hxg e.symm
 refine ⟨_, by simp [hl], ho', fun i hi hi' => ?_, fun i j hi hj g h1 h2 => ?_⟩
 ·by_cases e : i < l.length
  ·rw [List.getElem_append_left e, List.getElem_append_left (by omega)]
   exact keep (hr i e (by omega))
  ·have hi2 : i = l.length := by simp at hi; omega
   subst hi2
   rw [List.getElem_append_right (by omega), List.getElem_append_right (by omega)]
   simp only [List.getElem_singleton]
   exact keep hu
 ·have hi3 : i < vs.length + 1 := by simpa using hi
  have hj3 : j < vs.length + 1 := by simpa using hj
  by_cases e1 : i < vs.length <;> by_cases e2 : j < vs.length
  ·rw [List.getElem_append_left e1] at h1
   rw [List.getElem_append_left e2] at h2
   exact hd i j e1 e2 g h1 h2
  ·rw [List.getElem_append_left e1] at h1
   rw [List.getElem_append_right (by omega)] at h2
   simp only [List.getElem_singleton] at h2
   exact (hn i e1 g h1 h2).elim
  ·rw [List.getElem_append_left e2] at h2
   rw [List.getElem_append_right (by omega)] at h1
   simp only [List.getElem_singleton] at h1
   exact (hn j e2 g h2 h1).elim
  ·omega
theorem rowsL_any (S : Nat → Prop) (l : List (List Int)) (v : Value) (w : World) (hv0 : SL S w v l) (hl : l.length ≤ 1000) (hr : ∀ r ∈ l, r.length * 8 ≤ 140737488355328) :
  Calls Try.prog 41 #[v] w fun e w' => ∃ v', e = .returned v' ∧ RowsO w.heap.size w' v' l ∧ Step w w' := by
 obtain ⟨pc, kc, bc, oc, rfl, _, hlc, hpc, hcc, _⟩ := (sl0 hv0).rows
 have HC := zH (And.intro hpc hcc)
 have HR := zH hr
 clear hpc hcc hr hv0
 go_enter Try.func41, Try.ntmps41
 go_wp2
 go_loopw [3, 4] (fun s3 s4 wr => ∃ (k : Nat), k ≤ l.length ∧ s4 = .int .i64 k ∧ RowsO w.heap.size wr s3 (l.take k) ∧ Step w wr) (fun _ s4 _ => l.length - (intOf s4).toNat)
 case atStart => exact ⟨0, Nat.zero_le _, rfl, RowsO.nil _ _, Step.refl _⟩
 case round =>
  obtain ⟨k, hk, rfl, hro, hT⟩ := hrel
  have HT := zH hT
  have HRO := zH hro
  obtain ⟨LL, hLL⟩ : ∃ L, L = l.take k := ⟨_, rfl⟩
  rw [← hLL] at hro
  obtain ⟨p, c, rfl⟩ := hro.form
  have HLL := zH hLL
  clear hT hLL
  by_cases hlt : k < l.length
  ·obtain rfl := HC.out.1 (by omega)
   obtain ⟨ur, hcr, hur⟩ := HC.out.2 k hlt
   obtain ⟨pr, kr, rfl⟩ := hur.form
   have hrl := HR.out _ (List.getElem_mem hlt)
   have hcr := HT.out.kc hcr
   have bcl : bc < wr.heap.size := World.block_lt_of_cell? wr _ hcr
   have hur := hur.keep (.of_step HT.out)
   obtain ⟨r, hre⟩ : ∃ r, r = l[k] := ⟨_, rfl⟩
   rw [← hre] at hrl hcr hur
   obtain ⟨vs, hvl, hvo, hvr, hvd⟩ := hro
   have HVS := zH (And.intro hvl (And.intro hvo (And.intro hvr hvd)))
   have HU := zH hur
   have HRE := zH hre
   have hix : (0 : Int) ≤ (k : Int) ∧ (k : Int) < (l.length : Int) := by omega
   have hlk : LL.length = k := by rw [HLL.out]; simp; omega
   have HLK := zH hlk
   clear hur hre hvl hvo hvr hvd hlk HRO
   go_wp2_with (at_builtin; first
    | (refine wpl_append (α := Int) (S := fun _ => False) (base := wr.heap.size) (v := .slice (some ⟨wr.heap.size, 0, none⟩) 0 0) (l := []) (m := r) eiIntsH rfl _ _ rfl rfl rfl ⟨[], World.ownsRow_lit wr #[] 0 (Nat.le_refl _) (by simp [maxLen]) (by simp), fun i h => absurd h (by simp)⟩ (SL.flat _ (HU.out.keep (.alloc _ _))) r.length (by simp) r rfl ?_ ?_ ?_ ?_)
    | fail "APP2")
   ·simp only [maxLen]; omega
   intro p' c' w' hown hg
   have hX : Step wr w' := .of (((Below.refl _ wr).alloc (Nat.le_refl _) _).grown hg (by simp) (by simp [Value.ownBlock]))
   have HX := zH hX
   have HOWN := zH hown
   have hvo2 := (HVS.out.2.1.step hX).step (Step.alloc w' (.cells #[.slice p' r.length c'] 26))
   have hvl : vs.length = k := by rw [HVS.out.1, HLK.out]
   have hsz := HT.out.size
   have hsz2 := hX.size
   clear hX hg hown hcr bcl
   have HRE := zH (show l.take (k + 1) = LL ++ [r] by rw [HLL.out, HRE.out]; exact List.take_succ_eq_append_getElem hlt)
   go_wp2_with (at_builtin; refine wpl_append (α := RawV) (S := fun _ => False) (base := w.heap.size) (l := vs) (m := [⟨.slice p' r.length c'⟩]) eiRowsH rfl _ _ rfl rfl rfl hvo2 (SLe.one (x := (⟨.slice p' r.length c'⟩ : RawV)) 26 ⟨rfl, rfl⟩) (k + 1) (by simp [hvl]) _ rfl ?_ ?_ ?_ ?_)
   ·simp only [maxLen]; omega
   ·omega
   ·simp; omega
   intro p2 c2 w4 hown2 hg2
   have hs2 := HX.out.trans (Step.alloc w' (.cells #[.slice p' r.length c'] 26))
   have hmore := RowsO.more (base := w.heap.size) (l := LL) (r := r) HVS.out.1 (fun i hi hi' => (HVS.out.2.2.1 i hi hi').step hs2) HVS.out.2.2.2 (HVS.out.2.1.step hs2) (ownF_base (HOWN.out.step (Step.alloc _ _)) hsz) (fun i hi g h1 h2 => by
    have h3 := (HVS.out.2.2.1 i (by rw [← HVS.out.1]; exact hi) hi).lt g h1
    have h4 := HOWN.out.lt g h2
    omega) hg2 hown2
   rw [← HRE.out] at hmore
   have hst : Step w w4 := .of ((HT.out.trans hs2).below.grown hg2 (by have := (HT.out.trans hs2).size; omega) fun g hg => (HVS.out.2.1.lt g hg).1)
   have HM := zH (And.intro hmore hst)
   clear hmore hst hs2 hown2 hg2 hvo2
   go_wp2
   go_roundw
   case rel => exact ⟨k + 1, by omega, by go_num, HM.out.1, HM.out.2⟩
   case measure => simp [intOf]; omega
  ·have hkz : l.length = k := by omega
   have HN := zH (show RowsO w.heap.size wr (.slice p LL.length c) l by rw [← List.take_of_length_le (Nat.le_of_eq hkz)]; exact HRO.out)
   clear hro
   go_wp2
   go_ret
   exact ⟨_, rfl, HN.out, HT.out⟩
end Go.Proofs.Ytfhmdpicoccnfaa
namespace Go.BT
theorem u8_ofH {n : Int} (h : (Lit.int .u8 n).wf = true) : 0 ≤ n ∧ n ≤ 255 := by
 have h2 : IntKind.u8.min = 0 := rfl
 have h3 : IntKind.u8.max = 255 := rfl
 simp [Lit.wf] at h; omega
end Go.BT
namespace Go.Proofs.Ytfhmdpicoccnfaa
set_option linter.unusedSimpArgs false
set_option linter.unusedVariables false
open Go.RowKit Go.BT
structure PE (W6 : World) (pb n N : Nat) (gs : Nat → Nat) (pl : List (List Int)) (i : Nat) (wr : World) : Prop where
 st : StepX (fun j => j = pb) W6 wr
 row : 0 < pl.length → ∃ cs, Bx wr pb cs 26 ∧ (∀ k, k < i → ∃ u, cs[k]? = some u ∧ SL (fun j => j = pb) wr u (pl.getD k [] ++ List.replicate (N - n) 0)) ∧ ∀ k, i ≤ k → k < pl.length → cs[k]? = some (.slice (some ⟨gs k, 0, none⟩) n n)
structure PI (wr : World) (pb n N g i d : Nat) (r : List Int) (cs : List Value) (wr2 : World) : Prop where
 st : StepX (fun j => j = pb) wr wr2
 le : d ≤ N - n
 row : ∃ cs2 u, Bx wr2 pb cs2 26 ∧ cs2.length = cs.length ∧ (∀ k, k ≠ i → cs2[k]? = cs[k]?) ∧ cs2[i]? = some u ∧ ((d = N - n ∧ u = .slice (some ⟨g, 0, none⟩) n n) ∨ OwnL (fun _ => False) wr.heap.size 3 wr2 u (r ++ List.replicate (N - n - d) 0))
end Go.Proofs.Ytfhmdpicoccnfaa
