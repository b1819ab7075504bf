/- Walks and plain laws, part o. -/
import Derived.Test.YtfhmdpicoccnfaaMa
import Derived.Test.YtfhmdpicoccnfaaMd
import Derived.Test.YtfhmdpicoccnfaaMf
import Derived.Test.YtfhmdpicoccnfaaMk
import Derived.Test.YtfhmdpicoccnfaaRows
import Derived.HandedShaped
import Derived.SizedLaws
set_option maxHeartbeats 16000000
set_option maxRecDepth 100000
namespace Go.Proofs.Ytfhmdpicoccnfaa
set_option linter.unusedSimpArgs false
set_option linter.unusedVariables false
open Go.ChangeShapes Go.WideShapes Go.ChangeAt Go.RowKit Go.BT
def OpensP (t : TypeId) (α : Type) [Rep α] (Q : α → Prop) : Prop := ∀ {H : Type} (enc : TypeId × Value → H) (w : World) (fuel : Nat) (cs : List Value) (x : DataW H × List MemPlace), DataW.trod enc Try.prog w 0 (fun _ => true) true fuel t cs = some x → (∀ n ∈ x.1.weights Try.prog t, n ≤ reachBytes) → ∃ y : α, Rep.rep (fun _ => False) w cs y ∧ Q y
theorem opensP_of {t : TypeId} {α : Type} [Rep α] (h : Opens t α) : OpensP t α (fun _ => True) := fun enc w fuel cs x hx _ => by
 obtain ⟨y, hy⟩ := h enc w fuel cs x hx
 exact ⟨y, hy, trivial⟩
theorem weightsAll_mem {H : Type} {P : Program} {e : TypeId} {d : DataW H} : ∀ {l : List (DataW H)}, d ∈ l → ∀ n ∈ d.weights P e, n ∈ DataW.weightsAll P e l
 | [], h, _, _ => by cases h
 | a :: l, h, n, hn => by
  simp only [DataW.weightsAll, List.mem_append]
  rcases List.mem_cons.1 h with rfl | h
  ·exact .inl hn
  ·exact .inr (weightsAll_mem h n hn)
theorem opensP_slice {t e : TypeId} {α : Type} [Rep α] {Q : α → Prop} (ht : Try.prog.underlying t = some (.slice e)) (hc : Try.prog.cellsOf e = Rep.k α) (he : OpensP e α Q) : OpensP t (List α) (fun l => l.length * Try.prog.bytesOf e ≤ reachBytes ∧ ∀ x ∈ l, Q x) := by
 intro H enc w fuel cs x h hwt
 rcases Deep.open_slice ht h with ⟨rfl, _⟩ | ⟨a, len, cap, m, n, D, Pl, rfl, hb, hl, hm, hmm, rfl, hx⟩
 ·exact ⟨[], ⟨_, rfl, SL.nil _ _⟩, by simp, fun x hx => by cases hx⟩
 ·simp only [if_true] at hmm
  have hwt2 : ∀ n ∈ ((len + (m - len)) * Try.prog.bytesOf e) :: (DataW.weightsAll Try.prog e ((List.range len).map D) ++ DataW.weightsAll Try.prog e ((List.range (m - len)).map fun j => D (len + j))), n ≤ reachBytes := by
   intro n hn
   refine hwt n ?_
   simp only [DataW.weights, ht]
   simpa using hn
  have each : ∀ i : Fin len, ∃ y : α, ∃ cs', (Rep.rep (fun _ => False) w cs' y ∧ Q y) ∧ ∀ j v, cs'[j]? = some v → w.cell? (a.add (i.1 * Rep.k α + j)) = some v := fun i => by
   obtain ⟨cs', h1, h2⟩ := hx i.1 (by omega)
   obtain ⟨y, hy⟩ := he enc w n cs' _ h2 fun k hk => hwt2 k (List.mem_cons_of_mem _ (List.mem_append_left _ (weightsAll_mem (List.mem_map.2 ⟨i.1, List.mem_range.2 i.2, rfl⟩) k hk)))
   refine ⟨y, cs', hy, fun j v hj => ?_⟩
   have := (cells_get h1).2 j v hj
   rw [Deep.add_add, hc] at this
   exact this
  let f : Fin len → α := fun i => Classical.choose (each i)
  have hf : ∀ i, ∃ cs', (Rep.rep (fun _ => False) w cs' (f i) ∧ Q (f i)) ∧ ∀ j v, cs'[j]? = some v → w.cell? (a.add (i.1 * Rep.k α + j)) = some v := fun i => Classical.choose_spec (each i)
  have hlen : (List.ofFn f).length = len := by simp
  have hspot : 0 < len → a = ⟨a.block, a.off, none⟩ := fun h0 => by
   obtain ⟨cs', ⟨h1, _⟩, h2⟩ := hf ⟨0, h0⟩
   have hk : cs'.length = Rep.k α := Rep.len h1
   have hp : 0 < cs'.length := by rw [hk]; exact Rep.pos
   have h3 := h2 0 cs'[0] (by simp)
   obtain ⟨b, o, sp⟩ := a
   have : sp = none := by simpa [Addr.add] using World.cell?_spot h3
   rw [this]
  refine ⟨List.ofFn f, ⟨_, rfl, some a, cap, a.block, a.off, by rw [hlen], by rw [hlen]; exact hl, by rw [hlen]; unfold maxLen at hm; omega, fun h0 => by rw [hlen] at h0; rw [← hspot h0], fun i hi => ?_⟩, ?_, fun y hy => ?_⟩
  ·have hi' : i < len := by rw [← hlen]; exact hi
   obtain ⟨cs', ⟨h1, _⟩, h2⟩ := hf ⟨i, hi'⟩
   have hcell : ∀ j v, cs'[j]? = some v → w.cell? ⟨a.block, a.off + i * Rep.k α + j, none⟩ = some v := fun j v hj => by
    have := h2 j v hj
    rw [hspot (by omega)] at this
    rw [Addr.add_lit] at this
    rw [Nat.add_assoc]
    exact this
   have hk : cs'.length = Rep.k α := Rep.len h1
   have hp : 0 < cs'.length := by rw [hk]; exact Rep.pos
   refine ⟨?_, id, cs', by simpa using h1, hcell⟩
   have := hcell 0 cs'[0] (by simp)
   exact World.block_lt_of_cell? w ⟨a.block, _, none⟩ this
  ·rw [hlen]
   have h1 := hwt2 _ (List.mem_cons_self ..)
   exact Nat.le_trans (Nat.mul_le_mul_right _ (by omega)) h1
  ·obtain ⟨i, rfl⟩ := List.mem_ofFn.1 hy
   obtain ⟨_, ⟨_, h2⟩, _⟩ := hf i
   exact h2
theorem opensP_ints : OpensP 26 (List Int) (fun l => l.length * 8 ≤ reachBytes) := fun enc w fuel cs x hx hw => by
 obtain ⟨y, h1, h2⟩ := opensP_slice (t := 26) Try.underlying26 (by kernel_rfl) (opensP_of (opens_int Try.underlying3)) enc w fuel cs x hx hw
 rw [show Try.prog.bytesOf 3 = 8 from by kernel_rfl] at h2
 exact ⟨y, h1, h2.1⟩
theorem opensP_rowsH : OpensP 84 (List (List Int)) (fun l => ∀ r ∈ l, r.length * 8 ≤ reachBytes) := fun enc w fuel cs x hx hw => by
 obtain ⟨y, h1, h2⟩ := opensP_slice (t := 84) Try.underlying84 (by kernel_rfl) opensP_ints enc w fuel cs x hx hw
 exact ⟨y, h1, h2.2⟩
theorem opens_rowsH : Opens 84 (List (List Int)) := opens_slice Try.underlying84 (by kernel_rfl) opens_ints
theorem slP_of {H : Type} {enc : TypeId × Value → H} {W : World} {r : Reach} {b0 : Nat} {t e : TypeId} {α : Type} [Rep α] {Q : List α → Prop} {v : Value} {d : DataW H} {p : List MemPlace} (ho : OpensP t (List α) Q) (hs : Try.prog.underlying t = some (.slice e)) (hv : Value.okWide Try.prog W r b0 t v)
  (h : DataW.Trod enc Try.prog W 0 (fun _ => true) true t v d p) (hw : ∀ n ∈ d.weights Try.prog t, n ≤ reachBytes) : ∃ x : List α, SL (fun _ => False) W v x ∧ Q x := by
 have hq := @slice_of Try.prog W r b0 t e v hs hv
 obtain ⟨fuel, hf⟩ := h
 obtain ⟨y, hy, hQ⟩ := ho enc W fuel _ _ hf hw
 rw [hq] at hy
 exact ⟨y, rep_list hy, hQ⟩
end Go.Proofs.Ytfhmdpicoccnfaa
namespace Go.BT
open Go.RowKit
theorem splice_get (cs ds : List Value) (p k q : Nat) (hp : p + k ≤ cs.length) (hd : ds.length = k) : (cs.take p ++ ds ++ cs.drop (p + k))[q]? = if q < p then cs[q]? else if q < p + k then ds[q - p]? else cs[q]? := by
 have h1 : (cs.take p).length = p := by simp; omega
 by_cases a : q < p
 ·rw [if_pos a, List.append_assoc, List.getElem?_append_left (by omega), List.getElem?_take_of_lt a]
 ·rw [if_neg a]
  by_cases b : q < p + k
  ·rw [if_pos b, List.getElem?_append_left (by simp; omega), List.getElem?_append_right (by omega), h1]
  ·rw [if_neg b, List.getElem?_append_right (by simp; omega), List.getElem?_drop]
   congr 1
   simp
   omega
theorem piece_get (L : List Value) (n k j q : Nat) (hj : j < n) : (((L.take (n * k)).drop (j * k)).take k)[q]? = if q < k then L[j * k + q]? else none := by
 have hm : j * k + k ≤ n * k := by
  have := Nat.mul_le_mul_right k (show j + 1 ≤ n by omega)
  rw [Nat.add_mul, Nat.one_mul] at this
  exact this
 by_cases a : q < k
 ·rw [if_pos a, List.getElem?_take_of_lt a, List.getElem?_drop, List.getElem?_take_of_lt (by omega)]
 ·rw [if_neg a, List.getElem?_take, if_neg a]
theorem OwnL.row_put {α : Type} [Rep α] {S : Nat → Prop} {base : Nat} {e : TypeId} {w : World} {v : Value} {l : List α} (h : OwnL S base e w v l) {i : Nat} (hi : i < l.length) :
  ∃ g cap cs, v = .slice (some ⟨g, 0, none⟩) l.length cap ∧ base ≤ g ∧ Bx w g cs e ∧ i * Rep.k α + Rep.k α ≤ cs.length ∧ Rep.rep (avoid S v) w ((cs.drop (i * Rep.k α)).take (Rep.k α)) l[i] ∧
   ∀ w' ds (y : α), Rep.rep (avoid S v) w ds y → Wrote g w w' → Bx w' g (cs.take (i * Rep.k α) ++ ds ++ cs.drop (i * Rep.k α + Rep.k α)) e → OwnL S base e w' v (l.set i y) := by
 obtain ⟨xs, ⟨hl, ho⟩, hr⟩ := h
 rcases ho with ⟨_, h0⟩ | ⟨g, cap, cur, rfl, hb, hg, hle, hcap, hsz, htk⟩
 ·omega
 have hm : i * Rep.k α + Rep.k α ≤ l.length * Rep.k α := by
  have := Nat.mul_le_mul_right (Rep.k α) (show i + 1 ≤ l.length by omega)
  rw [Nat.add_mul, Nat.one_mul] at this
  exact this
 have hm2 : l.length * Rep.k α ≤ cap * Rep.k α := Nat.mul_le_mul_right _ hle
 have hcl : cur.toList.length = cap * Rep.k α := by simpa using hsz
 have hpi : ((xs.drop (i * Rep.k α)).take (Rep.k α)) = ((cur.toList.drop (i * Rep.k α)).take (Rep.k α)) := by
  subst htk
  refine List.ext_getElem? fun q => ?_
  rw [piece_get _ _ _ _ _ hi]
  by_cases a : q < Rep.k α
  ·rw [if_pos a, List.getElem?_take_of_lt a, List.getElem?_drop]
  ·rw [if_neg a, List.getElem?_take, if_neg a]
 refine ⟨g, cap, cur.toList, rfl, hb, by unfold Bx; rw [hg], by omega, hpi ▸ hr i hi, fun w' ds y hy hw hbx => ?_⟩
 have hd : ds.length = Rep.k α := Rep.len hy
 have hk : Keeps (avoid S (.slice (some ⟨g, 0, none⟩) l.length cap)) w w' := hw.keeps.mono fun j _ hj => .inr (by rw [hj]; rfl)
 refine ⟨(cur.toList.take (i * Rep.k α) ++ ds ++ cur.toList.drop (i * Rep.k α + Rep.k α)).take (l.length * Rep.k α), ⟨?_, .inr ⟨g, cap, _, by simp, hb, hbx, by simpa using hle, hcap, ?_, by simp⟩⟩, fun j hj => ?_⟩
 ·simp; omega
 ·simp; omega
 ·have hj' : j < l.length := by simpa using hj
  have hlen : (l.set i y).length = l.length := by simp
  rw [List.getElem_set]
  by_cases e : i = j
  ·subst e
   rw [if_pos rfl]
   have : (((cur.toList.take (i * Rep.k α) ++ ds ++ cur.toList.drop (i * Rep.k α + Rep.k α)).take (l.length * Rep.k α)).drop (i * Rep.k α)).take (Rep.k α) = ds := by
    refine List.ext_getElem? fun q => ?_
    rw [piece_get _ _ _ _ _ hi]
    by_cases a : q < Rep.k α
    ·rw [if_pos a, splice_get _ _ _ _ _ (by omega) hd, if_neg (by omega), if_pos (by omega), Nat.add_sub_cancel_left]
    ·rw [if_neg a, List.getElem?_eq_none (by omega)]
   rw [this]
   exact Rep.keep hk (Rep.weak (fun _ _ h => h) hy)
  ·rw [if_neg e]
   have h0 := hr j hj'
   have : (((cur.toList.take (i * Rep.k α) ++ ds ++ cur.toList.drop (i * Rep.k α + Rep.k α)).take (l.length * Rep.k α)).drop (j * Rep.k α)).take (Rep.k α) = ((xs.drop (j * Rep.k α)).take (Rep.k α)) := by
    subst htk
    refine List.ext_getElem? fun q => ?_
    rw [piece_get _ _ _ _ _ hj', piece_get _ _ _ _ _ hj']
    by_cases a : q < Rep.k α
    ·rw [if_pos a, if_pos a, splice_get _ _ _ _ _ (by omega) hd]
     rcases Nat.lt_or_gt_of_ne e with h1 | h1
     ·have := Nat.mul_le_mul_right (Rep.k α) (show i + 1 ≤ j by omega)
      rw [Nat.add_mul, Nat.one_mul] at this
      rw [if_neg (by omega), if_neg (by omega)]
     ·have := Nat.mul_le_mul_right (Rep.k α) (show j + 1 ≤ i by omega)
      rw [Nat.add_mul, Nat.one_mul] at this
      rw [if_pos (by omega)]
    ·rw [if_neg a, if_neg a]
   rw [this]
   exact Rep.keep hk h0
theorem run_append_full {α : Type} [Flat α] {S T : Nat → Prop} {base : Nat} {P : Program} {w : World} {l m : List α} {t e : TypeId} {z : Value} {bytes b o : Nat} {u : Value} (ei : EI P t e z (Rep.k α) bytes) (ty : TypeId)
  (hv : SLe S w (.slice (some ⟨b, o, none⟩) l.length l.length) l) (hu : SLe T w u m) (hm : 0 < m.length) (n : Nat) (hn : l.length + m.length = n) (lm : List α) (hlm : l ++ m = lm) (h63 : n ≤ 1000000000) (hbytes : n * bytes ≤ 140737488355328) (hbase : base ≤ w.heap.size) :
  ∃ c w', (Builtin.append_ #[t, t] ty #[.slice (some ⟨b, o, none⟩) l.length l.length, u]).run P w = .ok (.slice (some ⟨w.heap.size, 0, none⟩) n c) w' ∧ OwnL (fun _ => False) base e w' (.slice (some ⟨w.heap.size, 0, none⟩) n c) lm ∧ Step w w' := by
 subst hn hlm
 obtain ⟨ht, hzs, i, hi, hz, hsize, hby⟩ := ei
 obtain ⟨pv, cv, bv, ov, e1, hcv, _, hpv, hav⟩ := hv
 injection e1 with e1 _ e3
 obtain ⟨pu, cu, bu, ou, rfl, hcu, _, hpu, hau⟩ := hu
 obtain ⟨news, hl, hnw, h1, hrs⟩ := cells_of_at m ou hau
 obtain rfl := hpu hm
 have hav' : ∀ i (h : i < l.length), ∃ cs, Rep.rep S w cs l[i] ∧ ∀ j v, cs[j]? = some v → w.cell? ⟨b, o + i * Rep.k α + j, none⟩ = some v := fun i h => by
  have := hpv (by omega)
  rw [← e1] at this
  injection this with this
  injection this with ea eo
  subst ea eo
  exact hav i h
 obtain ⟨olds, hlo, hold, ho1, hro⟩ := cells_of_at l o hav'
 have hfit := growslice_fits (need := l.length + m.length) (old := l.length) (bytes := bytes) (by omega) hbytes
 have hrun := run_append_grow (P := P) (w := w) t ty e i z ht hi hz ⟨b, o, none⟩ l.length l.length olds (by rw [hlo, hsize]) (fun j v hj => by rw [Addr.add_lit]; exact hold j v hj) ⟨bu, ou, none⟩ m.length cu news (by rw [hl, hsize]) (fun j v hj => by rw [Addr.add_lit]; exact hnw j v hj) (by omega) (by omega) (by rw [hby]; exact hfit)
 have hge := grownCap_ge w (l.length + m.length) l.length e
 have hcm : grownCap w (l.length + m.length) l.length e ≤ maxLen := grownCap_le_maxLen w _ _ e (by simp only [maxLen]; omega)
 have hlen : (olds ++ news).length = (l.length + m.length) * Rep.k α := by rw [List.length_append, hlo, hl, Nat.add_mul]
 have hlm : (l ++ m).length = l.length + m.length := List.length_append
 refine ⟨_, _, hrun, ⟨olds ++ news, ⟨by rw [hlm]; exact hlen, .inr ⟨w.heap.size, _, _, by rw [hlm], hbase, heap_alloc_new w.drew _, by rw [hlm]; exact hge, hcm, ?_, ?_⟩⟩, fun k hk => ?_⟩, (Step.drew _).trans (Step.alloc _ _)⟩
 ·simp only [Array.size_append, List.size_toArray, size_zeroCells, hzs, hlo, hl, ← Nat.add_mul]
  congr 1
  omega
 ·simp only [Array.toList_append, List.append_assoc]
  rw [hlm, ← List.append_assoc, ← hlen]
  exact List.take_left
 ·by_cases hkl : k < l.length
  ·have e1 : ((olds ++ news).drop (k * Rep.k α)).take (Rep.k α) = (olds.drop (k * Rep.k α)).take (Rep.k α) := by
    have : k * Rep.k α + Rep.k α ≤ olds.length := by
     rw [hlo, ← Nat.succ_mul]; exact Nat.mul_le_mul_right _ hkl
    rw [List.drop_append_of_le_length (by omega), List.take_append_of_le_length (by rw [List.length_drop]; omega)]
   rw [e1, List.getElem_append_left hkl]
   exact Flat.flat (hro k hkl)
  ·have hk' : k - l.length < m.length := by simp at hk; omega
   have e1 : (olds ++ news).drop (k * Rep.k α) = news.drop ((k - l.length) * Rep.k α) := by
    rw [List.drop_append, List.drop_of_length_le (by rw [hlo]; exact Nat.mul_le_mul_right _ (by omega)), List.nil_append, hlo, ← Nat.sub_mul]
   rw [e1, List.getElem_append_right (by omega)]
   exact Flat.flat (hrs _ hk')
theorem wpl_append_full {α : Type} [Flat α] {S T : Nat → Prop} {base : Nat} {P : Program} {w : World} {l m : List α} {t e : TypeId} {z : Value} {bytes b o : Nat} {v u : Value} {ops : Array Oper} {rest : List Oper} {op : Oper} {a : Act} {Q : Exit → Act → World → Prop}
  (ei : EI P t e z (Rep.k α) bytes) (hgd : op.guard = none) (s x : Operand) (ho : op.op = .call { callee := .builtin .append, args := #[s, x], argTypes := #[t, t] }) (hs : a.eval s = v) (hx : a.eval x = u)
  (hf : v = .slice (some ⟨b, o, none⟩) l.length l.length) (hv : SLe S w v l) (hu : SLe T w u m) (hm : 0 < m.length) (n : Nat) (hn : l.length + m.length = n) (lm : List α) (hlm : l ++ m = lm) (h63 : n ≤ 1000000000) (hbytes : n * bytes ≤ 140737488355328) (hbase : base ≤ w.heap.size)
  (h : ∀ c w', OwnL (fun _ => False) base e w' (.slice (some ⟨w.heap.size, 0, none⟩) n c) lm → Step w w' → wpList P ops Q rest (a.put op.dst (.slice (some ⟨w.heap.size, 0, none⟩) n c)) w') : wpList P ops Q (op :: rest) a w := by
 subst hf
 refine wpList_plain hgd fun _ hK => ?_
 obtain ⟨c, w', hr, h2, h3⟩ := run_append_full ei op.type hv hu hm n hn lm hlm h63 hbytes hbase
 unfold Oper.wp execOp
 simp only [ho, resolve, invoke, builtin, Sem.run_bind, Sem.run_pure, Result.andThen_ok, List.map_toArray, List.map_cons, List.map_nil, hs, hx, hr]
 exact hK _ _ (h c w' h2 h3)
section
variable {α : Type} [Rep α] {S : Nat → Prop} {base : Nat} {P : Program} {w : World} {v u : Value} {l m : List α} {t e : TypeId} {z : Value} {bytes : Nat}
theorem run_append_F (ei : EI P t e z (Rep.k α) bytes) (ty : TypeId) (hown : OwnL S base e w v l) (hu : SLe (avoid S v) w u m)
  (n : Nat) (hn : l.length + m.length = n) (lm : List α) (hlm : l ++ m = lm) (h63 : n ≤ maxLen) (hbytes : n * bytes ≤ 140737488355328) (hbase : base ≤ w.heap.size) :
  ∃ p c w', (Builtin.append_ #[t, t] ty #[v, u]).run P w = .ok (.slice p n c) w' ∧ OwnL S base e w' (.slice p n c) lm ∧ w.grownBy w' v.ownBlock ∧ ∀ k, (Value.slice p n c).ownBlock = some k → v.ownBlock = some k ∨ w.heap.size ≤ k := by
 subst hn hlm
 obtain ⟨ht, hzs, i, hi, hz, hsize, hby⟩ := ei
 obtain ⟨xs, ho, hr⟩ := hown
 obtain ⟨pu, cu, b, o, rfl, hcu, _, hp, hat⟩ := hu
 obtain ⟨news, hl, hnw, h1, hrs⟩ := cells_of_at m o hat
 by_cases hm : m = []
 ·subst hm
  have hform := OwnL.form (S := S) ⟨xs, ho, hr⟩
  obtain ⟨p, c, rfl, hle, _⟩ := hform
  have h0 : news = [] := List.eq_nil_of_length_eq_zero (by simpa using hl)
  subst h0
  cases pu with
  | none =>
   refine ⟨p, c, w, ?_, by rw [List.append_nil]; exact (⟨xs, ho, hr⟩ : OwnL S base e w _ l), World.grownBy.refl _ _, fun k hk => .inl (by cases p <;> simp_all [Value.ownBlock])⟩
   have hc : l.length ≤ c := by
    rcases ho.2 with ⟨h, h0⟩ | ⟨g, cap, cur, hv, _, _, hle, _⟩
    ·rw [h0]; exact Nat.zero_le _
    ·injection hv
   simp [Builtin.append_, run_underlying ht, sizeOf, typeInfo, hi, Builtin.lenOf, Builtin.firstCells, hc]
   cases p <;> simp [storeCells]
  | some a =>
   have hc : l.length ≤ c := by
    rcases ho.2 with ⟨h, h0⟩ | ⟨g, cap, cur, hv, _, _, hle, _⟩
    ·rw [h0]; exact Nat.zero_le _
    ·injection hv
   refine ⟨p, c, w, ?_, by rw [List.append_nil]; exact (⟨xs, ho, hr⟩ : OwnL S base e w _ l), World.grownBy.refl _ _, fun k hk => .inl (by cases p <;> simp_all [Value.ownBlock])⟩
   simp [Builtin.append_, run_underlying ht, sizeOf, typeInfo, hi, Builtin.lenOf, Builtin.firstCells, hc, loadCells, loadCellsFrom]
   cases p <;> simp [storeCells]
 ·have hpos : 0 < m.length := List.length_pos_iff.2 hm
  obtain rfl := hp hpos
  obtain ⟨g, cap, w', hrun, h2, h3, h4, _⟩ := run_append_lies (P := P) w t ty base e i z (Rep.k α) bytes ht hi hz hsize hby hzs Rep.pos v l.length xs ho ⟨b, o, none⟩ m.length cu news hl
   (fun j x hj => by rw [Addr.add_lit]; exact hnw j x hj) h1 hpos h63 hbytes hbase w.heap.size rfl
  have hloc : ∀ k, (Value.slice (some ⟨g, 0, none⟩) (l.length + m.length) cap).ownBlock = some k → v.ownBlock = some k ∨ w.heap.size ≤ k := fun k hk => by
   have hk' : g = k := by simpa [Value.ownBlock] using hk
   subst hk'
   rcases h4 with h4 | h4
   ·exact .inl h4
   ·exact .inr (Nat.le_of_eq h4.symm)
  refine ⟨_, _, w', hrun, ⟨xs ++ news, by simpa using h2, fun k hk => ?_⟩, h3, hloc⟩
  -- what the elements lead to: kept, and not in the new row
  have hkp : Keeps (avoid S v) w w' := Keeps.grown h3 fun j hj _ => .inr hj
  have fresh : ∀ {cs : List Value} {x : α}, Rep.rep (avoid S v) w cs x → Rep.rep (avoid S (.slice (some ⟨g, 0, none⟩) (l.length + m.length) cap)) w' cs x := fun {cs x} hx => by
   have hT : Rep.rep (fun j => avoid S v j ∨ g = j) w cs x := Rep.weak (fun j hj hs => by
    rcases hs with hs | rfl
    ·exact hs
    ·rcases h4 with h4 | h4
     ·exact .inr h4
     ·omega) hx
   exact Rep.weak (fun j _ hs => by
    rcases hs with hs | hs
    ·exact .inl (.inl hs)
    ·simp [Value.ownBlock] at hs; exact .inr hs) (Rep.keep (hkp.mono fun j _ hs => .inl hs) hT)
  have hxl : xs.length = l.length * Rep.k α := ho.1
  by_cases hkl : k < l.length
  ·have e1 : ((xs ++ news).drop (k * Rep.k α)).take (Rep.k α) = (xs.drop (k * Rep.k α)).take (Rep.k α) := by
    have : k * Rep.k α + Rep.k α ≤ xs.length := by
     rw [hxl, ← Nat.succ_mul]; exact Nat.mul_le_mul_right _ hkl
    rw [List.drop_append_of_le_length (by omega), List.take_append_of_le_length (by rw [List.length_drop]; omega)]
   rw [e1, List.getElem_append_left hkl]
   exact fresh (hr k hkl)
  ·have hk' : k - l.length < m.length := by simp at hk; omega
   have e1 : (xs ++ news).drop (k * Rep.k α) = news.drop ((k - l.length) * Rep.k α) := by
    rw [List.drop_append, List.drop_of_length_le (by rw [hxl]; exact Nat.mul_le_mul_right _ (by omega)), List.nil_append, hxl, ← Nat.sub_mul]
   rw [e1, List.getElem_append_right (by omega)]
   exact fresh (hrs _ hk')
theorem wp_append_F {o : Oper} {a : Act} {K : Act → World → Prop} {Q : Exit → Act → World → Prop} (ei : EI P t e z (Rep.k α) bytes) (s x : Operand)
  (ho : o.op = .call { callee := .builtin .append, args := #[s, x], argTypes := #[t, t] }) (hs : a.eval s = v) (hx : a.eval x = u) (hown : OwnL S base e w v l) (hu : SLe (avoid S v) w u m)
  (n : Nat) (hn : l.length + m.length = n) (lm : List α) (hlm : l ++ m = lm) (h63 : n ≤ maxLen) (hbytes : n * bytes ≤ 140737488355328) (hbase : base ≤ w.heap.size)
  (h : ∀ p c w', OwnL S base e w' (.slice p n c) lm → w.grownBy w' v.ownBlock → (∀ k, (Value.slice p n c).ownBlock = some k → v.ownBlock = some k ∨ w.heap.size ≤ k) → K (a.put o.dst (.slice p n c)) w') : o.wp P a w K Q := by
 obtain ⟨p, c, w', hr, h2, h3, h4⟩ := run_append_F ei o.type hown hu n hn lm hlm h63 hbytes hbase
 unfold Oper.wp execOp
 simp only [ho, resolve, invoke, builtin, Sem.run_bind, Sem.run_pure, Result.andThen_ok, List.map_toArray, List.map_cons, List.map_nil, hs, hx, hr]
 exact h p c w' h2 h3 h4
theorem wpl_append_F {ops : Array Oper} {rest : List Oper} {o : Oper} {a : Act} {Q : Exit → Act → World → Prop} (ei : EI P t e z (Rep.k α) bytes) (hgd : o.guard = none) (s x : Operand)
  (ho : o.op = .call { callee := .builtin .append, args := #[s, x], argTypes := #[t, t] }) (hs : a.eval s = v) (hx : a.eval x = u) (hown : OwnL S base e w v l) (hu : SLe (avoid S v) w u m)
  (n : Nat) (hn : l.length + m.length = n) (lm : List α) (hlm : l ++ m = lm) (h63 : n ≤ maxLen) (hbytes : n * bytes ≤ 140737488355328) (hbase : base ≤ w.heap.size)
  (h : ∀ p c w', OwnL S base e w' (.slice p n c) lm → w.grownBy w' v.ownBlock → (∀ k, (Value.slice p n c).ownBlock = some k → v.ownBlock = some k ∨ w.heap.size ≤ k) → wpList P ops Q rest (a.put o.dst (.slice p n c)) w') : wpList P ops Q (o :: rest) a w :=
 wpList_plain hgd fun _ hK => wp_append_F ei s x ho hs hx hown hu n hn lm hlm h63 hbytes hbase fun p c w' h2 h3 h4 => hK _ _ (h p c w' h2 h3 h4)
end
end Go.BT
namespace Go.BT
open Go.RowKit
structure RawV where
 v : Value
instance : Rep RawV where
 k := 1
 rep _ _ cs x := cs = [x.v] ∧ x.v.oneCell' = true
 len h := by rw [h.1]; rfl
 keep _ h := h
 weak _ h := h
 one h := by obtain ⟨rfl, h⟩ := h; simpa using h
 pos := by decide
instance : Flat RawV where
 flat h := h
theorem ownRaw_cell {S : Nat → Prop} {base : Nat} {e : TypeId} {w : World} {v : Value} {l : List RawV} (h : OwnL S base e w v l) {i : Nat} (hi : i < l.length) :
  ∃ g c, v = .slice (some ⟨g, 0, none⟩) l.length c ∧ w.cell? ⟨g, i, none⟩ = some l[i].v ∧ base ≤ g ∧ g < w.heap.size := by
 obtain ⟨g, cap, cs, rfl, hb, hbx, hle, hr, _⟩ := h.row_put hi
 have hk : Rep.k RawV = 1 := rfl
 rw [hk, Nat.mul_one] at hle hr
 have h1 := hr.1
 refine ⟨g, cap, rfl, ?_, hb, hbx.lt⟩
 rw [hbx.cell]
 have h2 := congrArg (fun l => l[0]?) h1
 simpa [List.getElem?_take, List.getElem?_drop] using h2
end Go.BT
namespace Go.Proofs.Ytfhmdpicoccnfaa
set_option linter.unusedSimpArgs false
set_option linter.unusedVariables false
open Go.RowKit Go.BT
def RowsO (base : Nat) (w : World) (v : Value) (l : List (List Int)) : Prop :=
 ∃ vs : List RawV, vs.length = l.length ∧ OwnL (fun _ => False) base 26 w v vs ∧ (∀ i (h : i < l.length) (h' : i < vs.length), OwnL (fun _ => False) base 3 w vs[i].v l[i]) ∧
  ∀ i j (hi : i < vs.length) (hj : j < vs.length) g, vs[i].v.ownBlock = some g → vs[j].v.ownBlock = some g → i = j
theorem own_types {α β : Type} [Rep α] [Rep β] {S T : Nat → Prop} {b1 b2 : Nat} {e f : TypeId} {w : World} {v u : Value} {l : List α} {m : List β} (h : OwnL S b1 e w v l) (k : OwnL T b2 f w u m) (hne : e ≠ f) {g : Nat} (h1 : v.ownBlock = some g) (h2 : u.ownBlock = some g) : False := by
 obtain ⟨xs, ⟨_, ho⟩, _⟩ := h
 obtain ⟨ys, ⟨_, ko⟩, _⟩ := k
 rcases ho with ⟨rfl, _⟩ | ⟨g1, cap, cur, rfl, _, hg, _⟩
 ·simp [Value.ownBlock] at h1
 rcases ko with ⟨rfl, _⟩ | ⟨g2, cap2, cur2, rfl, _, kg, _⟩
 ·simp [Value.ownBlock] at h2
 simp [Value.ownBlock] at h1 h2
 subst h1 h2
 rw [hg] at kg
 injection kg with kg
 injection kg with _ kg _
 exact hne kg
theorem RowsO.form {base : Nat} {w : World} {v : Value} {l : List (List Int)} (h : RowsO base w v l) : ∃ p c, v = .slice p l.length c := by
 obtain ⟨vs, hl, ho, _⟩ := h
 obtain ⟨p, c, e, _⟩ := ho.form
 exact ⟨p, c, by rw [e, hl]⟩
theorem RowsO.nil (base : Nat) (w : World) : RowsO base w (.slice none 0 0) [] := ⟨[], rfl, OwnL.nil _ _ _ _, fun i h => absurd h (by simp), fun i j h => absurd h (by simp)⟩
theorem RowsO.step {base : Nat} {w w' : World} {v : Value} {l : List (List Int)} (h : RowsO base w v l) (k : Step w w') : RowsO base w' v l := by
 obtain ⟨vs, hl, ho, hr, hd⟩ := h
 exact ⟨vs, hl, ho.step k, fun i hi hi' => (hr i hi hi').step k, hd⟩
theorem RowsO.sl {base : Nat} {w : World} {v : Value} {l : List (List Int)} {S : Nat → Prop} (h : RowsO base w v l) (hs : ∀ j, base ≤ j → ¬ S j) : SL S w v l := by
 obtain ⟨vs, hl, ho, hr, _⟩ := h
 obtain ⟨p, c, e, hm, hc⟩ := ho.form
 subst e
 rw [hl] at hm hc ⊢
 by_cases h0 : 0 < l.length
 ·obtain ⟨g, c', he, _⟩ := ownRaw_cell ho (i := 0) (by omega)
  injection he with he
  subst he
  refine ⟨_, c, g, 0, rfl, hc, by simp only [maxLen] at hm; omega, fun _ => rfl, fun i hi => ?_⟩
  obtain ⟨g', c', he', hce, hb, hlt⟩ := ownRaw_cell ho (i := i) (by omega)
  injection he' with he'
  injection he' with he'
  injection he' with he' _
  subst he'
  refine ⟨hlt, hs _ hb, [(vs[i]'(by omega)).v], ⟨_, rfl, (ownL_flat S (hr i hi (by omega))).sl fun j hj _ => hs j hj⟩, fun j u hj => ?_⟩
  match j, hj with
  | 0, hj =>
   simp only [List.getElem?_cons_zero, Option.some.injEq] at hj
   subst hj
   show w.cell? ⟨g, 0 + i * 1 + 0, none⟩ = _
   rw [Nat.zero_add, Nat.mul_one, Nat.add_zero]
   exact hce
 ·have : l = [] := List.eq_nil_of_length_eq_zero (by omega)
  subst this
  exact ⟨p, c, 0, 0, rfl, Nat.zero_le _, by simp, fun h => absurd h (by simp), fun i hi => absurd hi (by simp)⟩
theorem RowsO.more {base : Nat} {w w' : World} {v v' : Value} {l : List (List Int)} {vs : List RawV} {u : Value} {r : List Int} (hl : vs.length = l.length) (hr : ∀ i (h : i < l.length) (h' : i < vs.length), OwnL (fun _ => False) base 3 w vs[i].v l[i])
  (hd : ∀ i j (hi : i < vs.length) (hj : j < vs.length) g, vs[i].v.ownBlock = some g → vs[j].v.ownBlock = some g → i = j) (ho : OwnL (fun _ => False) base 26 w v vs) (hu : OwnL (fun _ => False) base 3 w u r) (hn : ∀ i (h : i < vs.length) g, vs[i].v.ownBlock = some g → u.ownBlock ≠ some g)
  (hg : w.grownBy w' v.ownBlock) (ho' : OwnL (fun _ => False) base 26 w' v' (vs ++ [⟨u⟩])) : RowsO base w' v' (l ++ [r]) := by
 have keep : ∀ {x : Value} {q : List Int}, OwnL (fun _ => False) base 3 w x q → OwnL (fun _ => False) base 3 w' x q := fun {x q} hx => ownF_row hx fun g hxg => hg.block g (hx.lt g hxg).2 fun e => own_types hx ho (by decide) hxg e.symm
 refine ⟨_, by simp [hl], ho', fun i hi hi' => ?_, fun i j hi hj g h1 h2 => ?_⟩
 ·by_cases e : i < l.length
  ·rw [List.getElem_append_left e, List.getElem_append_left (by omega)]
   exact keep (hr i e (by omega))
  ·have hi2 : i = l.length := by simp at hi; omega
   subst hi2
   rw [List.getElem_append_right (by omega), List.getElem_append_right (by omega)]
   simp only [List.getElem_singleton]
   exact keep hu
 ·have hi3 : i < vs.length + 1 := by simpa using hi
  have hj3 : j < vs.length + 1 := by simpa using hj
  by_cases e1 : i < vs.length <;> by_cases e2 : j < vs.length
  ·rw [List.getElem_append_left e1] at h1
   rw [List.getElem_append_left e2] at h2
   exact hd i j e1 e2 g h1 h2
  ·rw [List.getElem_append_left e1] at h1
   rw [List.getElem_append_right (by omega)] at h2
   simp only [List.getElem_singleton] at h2
   exact (hn i e1 g h1 h2).elim
  ·rw [List.getElem_append_left e2] at h2
   rw [List.getElem_append_right (by omega)] at h1
   simp only [List.getElem_singleton] at h1
   exact (hn j e2 g h2 h1).elim
  ·omega
theorem rowsL_any (S : Nat → Prop) (l : List (List Int)) (v : Value) (w : World) (hv0 : SL S w v l) (hl : l.length ≤ 1000) (hr : ∀ r ∈ l, r.length * 8 ≤ 140737488355328) :
  Calls Try.prog 41 #[v] w fun e w' => ∃ v', e = .returned v' ∧ RowsO w.heap.size w' v' l ∧ Step w w' := by
 obtain ⟨pc, kc, bc, oc, rfl, _, hlc, hpc, hcc, _⟩ := (sl0 hv0).rows
 have HC := zH (And.intro hpc hcc)
 have HR := zH hr
 clear hpc hcc hr hv0
 go_enter Try.func41, Try.ntmps41
 go_wp2
 go_loopw [3, 4] (fun s3 s4 wr => ∃ (k : Nat), k ≤ l.length ∧ s4 = .int .i64 k ∧ RowsO w.heap.size wr s3 (l.take k) ∧ Step w wr) (fun _ s4 _ => l.length - (intOf s4).toNat)
 case atStart => exact ⟨0, Nat.zero_le _, rfl, RowsO.nil _ _, Step.refl _⟩
 case round =>
  obtain ⟨k, hk, rfl, hro, hT⟩ := hrel
  have HT := zH hT
  have HRO := zH hro
  obtain ⟨LL, hLL⟩ : ∃ L, L = l.take k := ⟨_, rfl⟩
  rw [← hLL] at hro
  obtain ⟨p, c, rfl⟩ := hro.form
  have HLL := zH hLL
  clear hT hLL
  by_cases hlt : k < l.length
  ·obtain rfl := HC.out.1 (by omega)
   obtain ⟨ur, hcr, hur⟩ := HC.out.2 k hlt
   obtain ⟨pr, kr, rfl⟩ := hur.form
   have hrl := HR.out _ (List.getElem_mem hlt)
   have hcr := HT.out.kc hcr
   have bcl : bc < wr.heap.size := World.block_lt_of_cell? wr _ hcr
   have hur := hur.keep (.of_step HT.out)
   obtain ⟨r, hre⟩ : ∃ r, r = l[k] := ⟨_, rfl⟩
   rw [← hre] at hrl hcr hur
   obtain ⟨vs, hvl, hvo, hvr, hvd⟩ := hro
   have HVS := zH (And.intro hvl (And.intro hvo (And.intro hvr hvd)))
   have HU := zH hur
   have HRE := zH hre
   have hix : (0 : Int) ≤ (k : Int) ∧ (k : Int) < (l.length : Int) := by omega
   have hlk : LL.length = k := by rw [HLL.out]; simp; omega
   have HLK := zH hlk
   clear hur hre hvl hvo hvr hvd hlk HRO
   go_wp2_with (at_builtin; first
    | (refine wpl_append (α := Int) (S := fun _ => False) (base := wr.heap.size) (v := .slice (some ⟨wr.heap.size, 0, none⟩) 0 0) (l := []) (m := r) eiIntsH rfl _ _ rfl rfl rfl ⟨[], World.ownsRow_lit wr #[] 0 (Nat.le_refl _) (by simp [maxLen]) (by simp), fun i h => absurd h (by simp)⟩ (SL.flat _ (HU.out.keep (.alloc _ _))) r.length (by simp) r rfl ?_ ?_ ?_ ?_)
    | fail "APP2")
   ·simp only [maxLen]; omega
   intro p' c' w' hown hg
   have hX : Step wr w' := .of (((Below.refl _ wr).alloc (Nat.le_refl _) _).grown hg (by simp) (by simp [Value.ownBlock]))
   have HX := zH hX
   have HOWN := zH hown
   have hvo2 := (HVS.out.2.1.step hX).step (Step.alloc w' (.cells #[.slice p' r.length c'] 26))
   have hvl : vs.length = k := by rw [HVS.out.1, HLK.out]
   have hsz := HT.out.size
   have hsz2 := hX.size
   clear hX hg hown hcr bcl
   have HRE := zH (show l.take (k + 1) = LL ++ [r] by rw [HLL.out, HRE.out]; exact List.take_succ_eq_append_getElem hlt)
   go_wp2_with (at_builtin; refine wpl_append (α := RawV) (S := fun _ => False) (base := w.heap.size) (l := vs) (m := [⟨.slice p' r.length c'⟩]) eiRowsH rfl _ _ rfl rfl rfl hvo2 (SLe.one (x := (⟨.slice p' r.length c'⟩ : RawV)) 26 ⟨rfl, rfl⟩) (k + 1) (by simp [hvl]) _ rfl ?_ ?_ ?_ ?_)
   ·simp only [maxLen]; omega
   ·omega
   ·simp; omega
   intro p2 c2 w4 hown2 hg2
   have hs2 := HX.out.trans (Step.alloc w' (.cells #[.slice p' r.length c'] 26))
   have hmore := RowsO.more (base := w.heap.size) (l := LL) (r := r) HVS.out.1 (fun i hi hi' => (HVS.out.2.2.1 i hi hi').step hs2) HVS.out.2.2.2 (HVS.out.2.1.step hs2) (ownF_base (HOWN.out.step (Step.alloc _ _)) hsz) (fun i hi g h1 h2 => by
    have h3 := (HVS.out.2.2.1 i (by rw [← HVS.out.1]; exact hi) hi).lt g h1
    have h4 := HOWN.out.lt g h2
    omega) hg2 hown2
   rw [← HRE.out] at hmore
   have hst : Step w w4 := .of ((HT.out.trans hs2).below.grown hg2 (by have := (HT.out.trans hs2).size; omega) fun g hg => (HVS.out.2.1.lt g hg).1)
   have HM := zH (And.intro hmore hst)
   clear hmore hst hs2 hown2 hg2 hvo2
   go_wp2
   go_roundw
   case rel => exact ⟨k + 1, by omega, by go_num, HM.out.1, HM.out.2⟩
   case measure => simp [intOf]; omega
  ·have hkz : l.length = k := by omega
   have HN := zH (show RowsO w.heap.size wr (.slice p LL.length c) l by rw [← List.take_of_length_le (Nat.le_of_eq hkz)]; exact HRO.out)
   clear hro
   go_wp2
   go_ret
   exact ⟨_, rfl, HN.out, HT.out⟩
end Go.Proofs.Ytfhmdpicoccnfaa
namespace Go.BT
theorem u8_ofH {n : Int} (h : (Lit.int .u8 n).wf = true) : 0 ≤ n ∧ n ≤ 255 := by
 have h2 : IntKind.u8.min = 0 := rfl
 have h3 : IntKind.u8.max = 255 := rfl
 simp [Lit.wf] at h; omega
theorem planF_row {pl : List (List Int)} {i n : Nat} (h : (pl.getD i []).length = n) : (List.range n).map (planF pl i) = pl.getD i [] := by
 refine List.ext_getElem (by simp [h, -List.getD_eq_getElem?_getD]) fun j h1 h2 => ?_
 simp only [List.getElem_map, List.getElem_range]
 unfold planF
 rw [List.getD_eq_getElem?_getD, List.getElem?_eq_getElem h2]; rfl
theorem rem_u8 {n : Int} (h : 0 ≤ n ∧ n ≤ 255) : ∃ N : Nat, n.tmod 61 = (N : Int) ∧ N ≤ 60 := by
 refine ⟨(n.tmod 61).toNat, ?_, ?_⟩ <;> rw [Int.tmod_eq_emod_of_nonneg h.1] <;> omega
end Go.BT
namespace Go.Proofs.Ytfhmdpicoccnfaa
set_option linter.unusedSimpArgs false
set_option linter.unusedVariables false
open Go.RowKit Go.BT
structure PE (W6 : World) (pb n N : Nat) (gs : Nat → Nat) (pl : List (List Int)) (i : Nat) (wr : World) : Prop where
 st : StepX (fun j => j = pb) W6 wr
 row : 0 < pl.length → ∃ cs, Bx wr pb cs 26 ∧ (∀ k, k < i → ∃ u, cs[k]? = some u ∧ SL (fun j => j = pb) wr u (pl.getD k [] ++ List.replicate (N - n) 0)) ∧ ∀ k, i ≤ k → k < pl.length → cs[k]? = some (.slice (some ⟨gs k, 0, none⟩) n n)
structure PI (wr : World) (pb n N g i d : Nat) (r : List Int) (cs : List Value) (wr2 : World) : Prop where
 st : StepX (fun j => j = pb) wr wr2
 le : d ≤ N - n
 row : ∃ cs2 u, Bx wr2 pb cs2 26 ∧ cs2.length = cs.length ∧ (∀ k, k ≠ i → cs2[k]? = cs[k]?) ∧ cs2[i]? = some u ∧ ((d = N - n ∧ u = .slice (some ⟨g, 0, none⟩) n n) ∨ OwnL (fun _ => False) wr.heap.size 3 wr2 u (r ++ List.replicate (N - n - d) 0))
theorem GaleEither_any (h : Hall) (m0 : Int) (plan : List (List Int)) (cut : List Int) (v vp vc : Value) (w : World) (hv : AV (fun _ => False) w v h) (hm0 : (Lit.int .u8 m0).wf = true) (hp : SL (fun _ => False) w vp plan) (hc : SL (fun _ => False) w vc cut) (hsz : ∀ r ∈ plan, r.length * 8 ≤ 140737488355328) :
  Calls Try.prog 9 #[v, .int .u8 m0, vp, vc] w fun e w' => e = .returned (.bool true) ∧ Step w w' := by
 have HVK := zH (hv.weak (T := fun j => w.heap.size ≤ j) fun j hj e => by omega)
 have hm := u8_ofH hm0
 obtain ⟨N, hN, hN60⟩ := rem_u8 hm
 have HN := zH hN60
 have HSZ := zH hsz
 clear hm0 hsz
 obtain ⟨c0, c1, rfl, h0, h1⟩ := hv.hall
 obtain ⟨p0, k0, rfl⟩ := h0.form
 obtain ⟨p1, k1, rfl⟩ := h1.form
 obtain ⟨W0, hW0⟩ : ∃ W, W = w.alloc (.cells #[.slice p0 h.people.length k0, .slice p1 h.ways.length k1] 73) := ⟨_, rfl⟩
 have hb : Bx W0 w.heap.size [.slice p0 h.people.length k0, .slice p1 h.ways.length k1] 73 := by subst hW0; exact Bx.new w [_, _] _
 have hS : Step w W0 := by subst hW0; exact Step.alloc _ _
 have hav : ∀ W, Step W0 W → AV (fun _ => False) W (.agg #[.slice p0 h.people.length k0, .slice p1 h.ways.length k1]) h := fun W hW => ⟨_, rfl, _, _, rfl, h0.keep (.of_step (hS.trans hW)), h1.keep (.of_step (hS.trans hW))⟩
 have HAV := zH hav
 have HS := zH hS
 have HW := zH hW0
 have HB := zH hb
 have HT := zH (Step.refl W0)
 clear hv h0 h1 hW0 hb hS hav
 have HP0 := zH (hp.keep (.of_step HS.out))
 have HC0 := zH (hc.keep (.of_step HS.out))
 obtain ⟨pp, kp, rfl⟩ := hp.form
 obtain ⟨pc, kc, rfl⟩ := hc.form
 clear hp hc
 go_enter Try.func9, Try.ntmps9
 go_upto_region 1 with (fail)
 rw [← HW.out]
 have e0 := (HB.out.step HT.out).cell 0
 have e1 := (HB.out.step HT.out).cell 1
 simp only [zD, zE] at e0 e1
 go_wp2_with fail
 refine (SmallH_any (fun _ => False) h _ _ (HAV.out _ HT.out)).mono ?_
 rintro e wn ⟨rfl, hSn⟩
 have HTn := zH (HT.out.trans hSn)
 have HSN := zH hSn
 clear HT hSn
 have HT := HTn
 clear HTn
 clear e0 e1
 cases hs : decide (h.people.length ≤ 15 ∧ h.ways.length ≤ 25) with
 | false =>
  clear hs
  go_wp2_with fail
  refine (gwakes_any _).mono ?_
  rintro e wn ⟨rfl, hSn⟩
  have HTn := zH (HT.out.trans hSn)
  have HSN := zH hSn
  clear HT hSn
  have HT := HTn
  clear HTn
  go_wp2
  go_ret
  exact ⟨rfl, HS.out.trans HT.out⟩
 | true =>
 have HL := zH (show h.people.length ≤ 1000 ∧ h.ways.length ≤ 1000 by have := of_decide_eq_true hs; omega)
 clear hs
 have e0 := (HB.out.step HT.out).cell 0
 have e1 := (HB.out.step HT.out).cell 1
 simp only [zD, zE] at e0 e1
 go_wp2_with fail
 refine (RRightHall_any (fun _ => False) h _ _ (HAV.out _ HT.out)).mono ?_
 rintro e wn ⟨rfl, hSn⟩
 have HTn := zH (HT.out.trans hSn)
 have HSN := zH hSn
 clear HT hSn
 have HT := HTn
 clear HTn
 clear e0 e1
 clear HSN
 cases hb : hallB h with
 | false =>
  clear hb
  go_wp2_with fail
  refine (gwakes_any _).mono ?_
  rintro e wn ⟨rfl, hSn⟩
  have HTn := zH (HT.out.trans hSn)
  have HSN := zH hSn
  clear HT hSn
  have HT := HTn
  clear HTn
  go_wp2
  go_ret
  exact ⟨rfl, HS.out.trans HT.out⟩
 | true =>
 have HQ := zH hb
 have HO := zH (hallB_iff.1 hb)
 clear hb
 by_cases l1 : plan.length ≤ 25
 case neg =>
  have d0 : decide ((25 : Int) < (plan.length : Int)) = true := decide_eq_true (by omega)
  clear l1
  go_wp2_with fail
  refine (gwakes_any _).mono ?_
  rintro e wn ⟨rfl, hSn⟩
  have HTn := zH (HT.out.trans hSn)
  have HSN := zH hSn
  clear HT hSn
  have HT := HTn
  clear HTn
  go_wp2
  go_ret
  exact ⟨rfl, HS.out.trans HT.out⟩
 have d0 : decide ((25 : Int) < (plan.length : Int)) = false := decide_eq_false (by omega)
 by_cases l2 : cut.length ≤ 15
 case neg =>
  have d1 : decide ((15 : Int) < (cut.length : Int)) = true := decide_eq_true (by omega)
  clear l1 l2
  go_wp2_with fail
  refine (gwakes_any _).mono ?_
  rintro e wn ⟨rfl, hSn⟩
  have HTn := zH (HT.out.trans hSn)
  have HSN := zH hSn
  clear HT hSn
  have HT := HTn
  clear HTn
  go_wp2
  go_ret
  exact ⟨rfl, HS.out.trans HT.out⟩
 have d1 : decide ((15 : Int) < (cut.length : Int)) = false := decide_eq_false (by omega)
 have HL2 := zH (And.intro l1 l2)
 clear l1 l2
 have e0 := (HB.out.step HT.out).cell 0
 have e1 := (HB.out.step HT.out).cell 1
 simp only [zD, zE] at e0 e1
 go_wp2_with fail
 refine (GHall_any (fun _ => False) h _ _ (HAV.out _ HT.out) HL.out.1 HL.out.2).mono ?_
 rintro e wn ⟨va, rfl, hv', hSn⟩
 have HVva := zH (av0 hv')
 clear hv' e0 e1
 have HTn := zH (HT.out.trans hSn)
 have HSN := zH hSn
 clear HT hSn
 have HT := HTn
 clear HTn
 clear d0 d1 HSN
 go_wp2_with fail
 have HBASE := zH (HB.out.step HT.out).lt
 obtain ⟨wb, hwb⟩ : ∃ z, z = wn := ⟨_, rfl⟩
 subst hwb
 refine (Leave_own (fun _ => False) h _ _ HVva.out).mono ?_
 rintro e wn ⟨c, least, pl, vo, rfl, hL, hpl, hpo, hSn⟩
 have HLV := zH hL
 have HPO := zH hpo
 have HPS := zH hpl
 obtain ⟨po, ko, rfl⟩ := hpl.form
 have HZ := zH hSn.size
 clear hpl hpo hL HVva
 have HTn := zH (HT.out.trans hSn)
 have HSN := zH hSn
 clear HT hSn
 have HT := HTn
 clear HTn
 clear HSN
 have HP := zH (HP0.out.keep (.of_step HT.out))
 have HC := zH (HC0.out.keep (.of_step HT.out))
 clear HP0 HC0
 have qa := HB.out.step HT.out
 have qb := HS.out.trans HT.out
 have qc := fun W (hW : Step wn W) => HAV.out W (HT.out.trans hW)
 clear HB HS HAV HT
 have HB := zH qa
 have HS := zH qb
 have HAV := zH qc
 have HT := zH (Step.refl wn)
 clear qa qb qc
 obtain ⟨W1, hW1⟩ : ∃ z, z = wn := ⟨_, rfl⟩
 subst hW1
 have hcc : c = 0 ∨ c = 7 := HLV.out.codes HQ.out
 have hc7 : (c != 0 && c != 7) = false := by rcases hcc with rfl | rfl <;> rfl
 clear hc7
 by_cases F : Feas h N
 case neg =>
  rcases hcc with rfl | rfl
  ·have HF := zH F
   have hle : ¬ least ≤ N := fun e => F (by have := (HLV.out.feas HQ.out rfl).mono HO.out (N - least); rwa [show least + (N - least) = N by omega] at this)
   have dl : decide ((least : Int) ≤ (N : Int)) = false := decide_eq_false (by omega)
   have dl' : decide (least ≤ N) = false := decide_eq_false hle
   clear F hle
   have e0 := (HB.out.step HT.out).cell 0
   have e1 := (HB.out.step HT.out).cell 1
   simp only [zD, zE] at e0 e1
   go_wp2_with fail
   refine (GHall_any (fun _ => False) h _ _ (HAV.out _ HT.out) HL.out.1 HL.out.2).mono ?_
   rintro e wn ⟨vb, rfl, hv', hSn⟩
   have HVvb := zH (av0 hv')
   clear hv' e0 e1
   have HTn := zH (HT.out.trans hSn)
   have HSN := zH hSn
   clear HT hSn
   have HT := HTn
   clear HTn
   clear HSN
   go_wp2_with fail
   refine (Stuck_any (fun _ => False) h (N : Int) _ _ HVvb.out).mono ?_
   rintro e wn ⟨c', cu, vq, rfl, hSt, hcv, hSn⟩
   have HCU := zH (sl0 hcv)
   have HST := zH hSt
   obtain ⟨pq, kq, rfl⟩ := hcv.form
   have HPO2 := zH (show ∀ W, Step W1 W → SL (fun _ => False) W (.slice po pl.length ko) pl from fun W hW => (sl0 HPS.out).keep (.of_step hW))
   clear hcv hSt HVvb
   have HTn := zH (HT.out.trans hSn)
   have HSN := zH hSn
   clear HT hSn
   have HT := HTn
   clear HTn
   clear HSN
   have HP2 := zH (HP.out.keep (.of_step HT.out))
   have HC2 := zH (HC.out.keep (.of_step HT.out))
   have HS2 := zH HT.out
   clear HP HC
   obtain ⟨W2, hW2⟩ : ∃ z, z = wn := ⟨_, rfl⟩
   subst hW2
   have HT2 := zH (Step.refl W2)
   obtain ⟨rfl, hstk⟩ := HST.out.cut HQ.out (by have := HN.out; omega) (by rw [Int.toNat_natCast]; exact HF.out)
   rw [Int.toNat_natCast] at hstk
   have HSB := zH hstk
   clear hstk
   go_upto_region 8 with (fail)
   clear HT
   have HT := HT2
   clear HT2
   refine wp_region_seq (kdOf [1, 4, 5, 7, 11, 12] [(9, 3, .tuple #[])]) [0, 1, 0, 0, 11, 31, 0, 127, 0, 0, 0, 1791, 4095, 8191, 16383] [0, 2, 3, 6, 8, 10, 1, 4, 5, 7, 9, 11, 12, 13, 14] [] (by kernel_rfl) (by kernel_rfl) (fun i T z hi hk => by simp only [List.mem_cons, List.not_mem_nil, or_false] at hi; rcases hi with rfl | rfl | rfl | rfl | rfl | rfl | rfl | rfl | rfl | rfl | rfl | rfl | rfl | rfl | rfl <;> simp [kdOf] at hk <;> (obtain ⟨rfl, rfl⟩ := hk; first | (show Option.bind _ _ = some _; kernel_rfl) | (refine ⟨_, rfl, fun _ _ => ?_⟩; go_simp))) ?_
   intro Wx hWx
   have HTx := zH (HT.out.trans hWx)
   clear hWx HT
   have HT := HTx
   clear HTx
   have e0 := (HB.out.step (HS2.out.trans HT.out)).cell 0
   have e1 := (HB.out.step (HS2.out.trans HT.out)).cell 1
   simp only [zD, zE] at e0 e1
   repeat ((first | (refine run_off rfl rfl (by rfl) ?_) | (refine run_chain_off rfl rfl (by rfl) (K0_mono _) ?_) | ((refine run_want rfl rfl (by rfl) ⟨?_, fun W hW => ?_, ?_⟩; rotate_left; (· (have d0 := hW.kc e0; have d1 := hW.kc e1; go_simp; (try with_reducible rfl)))))); (try simp only [Act.put, zA, zB, zC]))
   clear e0 e1
   refine run_chain rfl rfl (by rfl) (fun Wi hWi K' hK => ?_)
   have HTi := zH (HT.out.trans hWi)
   have HZW := zH HTi.out.size
   clear hWi HT
   go_simp
   refine (GHall_any (fun _ => False) h _ Wi (HAV.out _ (HS2.out.trans HTi.out)) HL.out.1 HL.out.2).mono ?_
   rintro e wn ⟨v8, rfl, hv8, hSn⟩
   have HT := zH (HTi.out.trans (StepX.of hSn))
   clear HTi
   have HV8 := zH (av0 hv8)
   clear hv8
   refine hK _ _ (StepX.of hSn) ?_
   clear hSn
   (try simp only [Act.put, zA, zB, zC])
   repeat ((first | (refine run_off rfl rfl (by rfl) ?_) | (refine run_chain_off rfl rfl (by rfl) (K0_mono _) ?_) | ((refine run_want rfl rfl (by rfl) ⟨?_, fun W hW => ?_, ?_⟩; rotate_left; (· (skip; go_simp; (try with_reducible rfl)))))); (try simp only [Act.put, zA, zB, zC]))
   refine run_chain rfl rfl (by rfl) (fun Wi hWi K' hK => ?_)
   have HTi := zH (HT.out.trans hWi)
   have h8i := HV8.out.keep (.of_step hWi)
   clear hWi HT HV8
   go_simp
   refine (rowsL_any (fun _ => False) plan _ Wi (HP2.out.keep (.of_step HTi.out)) (by have := HL2.out.1; omega) HSZ.out).mono ?_
   rintro e wn ⟨v9, rfl, hro, hSn⟩
   have HT := zH (HTi.out.trans (StepX.of hSn))
   have HV8 := zH (h8i.keep (.of_step hSn))
   have HRO := zH (hro.sl (S := fun _ => False) fun _ _ h => h)
   clear HTi h8i hro
   refine hK _ _ (StepX.of hSn) ?_
   clear hSn
   (try simp only [Act.put, zA, zB, zC])
   repeat ((first | (refine run_off rfl rfl (by rfl) ?_) | (refine run_chain_off rfl rfl (by rfl) (K0_mono _) ?_) | ((refine run_want rfl rfl (by rfl) ⟨?_, fun W hW => ?_, ?_⟩; rotate_left; (· (skip; go_simp; (try with_reducible rfl)))))); (try simp only [Act.put, zA, zB, zC]))
   refine run_chain rfl rfl (by rfl) (fun Wi hWi K' hK => ?_)
   have HTi := zH (HT.out.trans hWi)
   have h8i := HV8.out.keep (.of_step hWi)
   have h9i := HRO.out.keep (.of_step hWi)
   clear hWi HT HV8 HRO
   go_simp
   refine (ProveOut_any (fun _ => False) h (N : Int) plan _ _ Wi h8i h9i).mono ?_
   rintro e wn ⟨rfl, hSn⟩
   have HT := zH (HTi.out.trans (StepX.of hSn))
   clear HTi h8i h9i
   obtain ⟨b1, hb1⟩ : ∃ z, z = poutB h (N : Int) plan := ⟨_, rfl⟩
   rw [← hb1]
   have HB1 := zH hb1
   clear hb1
   refine hK _ _ (StepX.of hSn) ?_
   clear hSn
   (try simp only [Act.put, zA, zB, zC])
   have e0 := (HB.out.step (HS2.out.trans HT.out)).cell 0
   have e1 := (HB.out.step (HS2.out.trans HT.out)).cell 1
   simp only [zD, zE] at e0 e1
   repeat ((first | (refine run_off rfl rfl (by rfl) ?_) | (refine run_chain_off rfl rfl (by rfl) (K0_mono _) ?_) | ((refine run_want rfl rfl (by rfl) ⟨?_, fun W hW => ?_, ?_⟩; rotate_left; (· (have d0 := hW.kc e0; have d1 := hW.kc e1; go_simp; (try with_reducible rfl)))))); (try simp only [Act.put, zA, zB, zC]))
   clear e0 e1
   refine run_chain rfl rfl (by rfl) (fun Wi hWi K' hK => ?_)
   have HTi := zH (HT.out.trans hWi)
   have HZW := zH HTi.out.size
   clear hWi HT
   go_simp
   refine (GHall_any (fun _ => False) h _ Wi (HAV.out _ (HS2.out.trans HTi.out)) HL.out.1 HL.out.2).mono ?_
   rintro e wn ⟨v8, rfl, hv8, hSn⟩
   have HT := zH (HTi.out.trans (StepX.of hSn))
   clear HTi
   have HV8 := zH (av0 hv8)
   clear hv8
   refine hK _ _ (StepX.of hSn) ?_
   clear hSn
   (try simp only [Act.put, zA, zB, zC])
   repeat ((first | (refine run_off rfl rfl (by rfl) ?_) | (refine run_chain_off rfl rfl (by rfl) (K0_mono _) ?_) | ((refine run_want rfl rfl (by rfl) ⟨?_, fun W hW => ?_, ?_⟩; rotate_left; (· (skip; go_simp; (try with_reducible rfl)))))); (try simp only [Act.put, zA, zB, zC]))
   refine run_consts rfl rfl (fun WA2 gm hW5 hg hgb hgN => ?_)
   (try simp only [Act.put, zA, zB, zC])
   have HOWN := zH (ownL_at (α := Int) (fun _ => False) W2.heap.size 3 WA2 hg (hgb))
   have h8i := zH (HV8.out.keep (.of_step hW5))
   have HTi := zH (HT.out.trans hW5)
   clear HT HV8 hW5 hg hgb hgN
   have HT := HTi
   have HV8 := h8i
   clear HTi h8i
   repeat ((first | (refine run_off rfl rfl (by rfl) ?_) | (refine run_chain_off rfl rfl (by rfl) (K0_mono _) ?_) | ((refine run_want rfl rfl (by rfl) ⟨?_, fun W hW => ?_, ?_⟩; rotate_left; (· (skip; go_simp; (try with_reducible rfl)))))); (try simp only [Act.put, zA, zB, zC]))
   refine run_chain rfl rfl (by rfl) (fun Wi hWi K' hK => ?_)
   have hu6 := SL.flat (avoid (fun _ => False) (.slice (some ⟨gm, 0, none⟩) 0 0)) (HC2.out.keep (.of_step (HT.out.trans hWi)))
   have hcl := HL2.out.2
   refine wp_append_empty (α := Int) (S := fun _ => False) (base := W2.heap.size) eiIntsH gm _ _ rfl rfl rfl (HOWN.out.step hWi) hu6 cut.length rfl (by simp only [maxLen]; omega) (by omega) (HT.out.trans hWi).size ?_
   intro p2 c2 w8 hown8 hs8
   have HPL := zH (hown8.slb (S := fun _ => False) fun _ _ h => h)
   have HT8 := zH (HT.out.trans (hWi.trans hs8))
   have h8i := zH (HV8.out.keep (.of_step (hWi.trans hs8)))
   refine hK _ _ (StepX.of hs8) ?_
   clear hK hWi hu6 hown8 hs8 HOWN HT HV8 hcl
   (try simp only [Act.put, zA, zB, zC])
   have HT := HT8
   have HV8 := h8i
   clear HT8 h8i
   repeat ((first | (refine run_off rfl rfl (by rfl) ?_) | (refine run_chain_off rfl rfl (by rfl) (K0_mono _) ?_) | ((refine run_want rfl rfl (by rfl) ⟨?_, fun W hW => ?_, ?_⟩; rotate_left; (· (skip; go_simp; (try with_reducible rfl)))))); (try simp only [Act.put, zA, zB, zC]))
   refine run_chain rfl rfl (by rfl) (fun Wi hWi K' hK => ?_)
   have HTi := zH (HT.out.trans hWi)
   have h8i := HV8.out.keep (.of_step hWi)
   have h9i := HPL.out.keep (.of_step hWi)
   clear hWi HT HV8 HPL
   go_simp
   refine (ProveStuck_any (fun _ => False) h (N : Int) cut _ _ Wi h8i h9i).mono ?_
   rintro e wn ⟨rfl, hSn⟩
   have HT := zH (HTi.out.trans (StepX.of hSn))
   clear HTi h8i h9i
   obtain ⟨b2, hb2⟩ : ∃ z, z = pstuckB h (N : Int) cut := ⟨_, rfl⟩
   rw [← hb2]
   have HB2 := zH hb2
   clear hb2
   refine hK _ _ (StepX.of hSn) ?_
   clear hSn
   (try simp only [Act.put, zA, zB, zC])
   repeat ((first | (refine run_off rfl rfl (by rfl) ?_) | (refine run_chain_off rfl rfl (by rfl) (K0_mono _) ?_) | ((refine run_want rfl rfl (by rfl) ⟨?_, fun W hW => ?_, ?_⟩; rotate_left; (· (skip; go_simp; (try with_reducible rfl)))))); (try simp only [Act.put, zA, zB, zC]))
   refine run_end (L := []) rfl (fun W6 hW6 => ?_)
   have HT6 := zH (HT.out.trans hW6)
   clear hW6 HT
   have HT := HT6
   clear HT6
   have hb1 := HB1.out
   have hb2 := HB2.out
   rw [pout_at HQ.out HN.out] at hb1
   rw [pstuck_at HQ.out HN.out] at hb2
   have hb1f : outB h N plan = false := by
    cases q : outB h N plan with
    | false => rfl
    | true => exact (HF.out (outB_iff.1 q).feas).elim
   rw [hb1f] at hb1
   subst hb1
   clear hb1f hb2
   have e0 := (HB.out.step (HS2.out.trans HT.out)).cell 0
   have e1 := (HB.out.step (HS2.out.trans HT.out)).cell 1
   simp only [zD, zE] at e0 e1
   go_wp2_with fail
   refine (GHall_any (fun _ => False) h _ _ (HAV.out _ (HS2.out.trans HT.out)) HL.out.1 HL.out.2).mono ?_
   rintro e wn ⟨vg, rfl, hv', hSn⟩
   have HVG := zH (av0 hv')
   clear hv' e0 e1
   have HTn := zH (HT.out.trans hSn)
   have HSN := zH hSn
   clear HT hSn
   have HT := HTn
   clear HTn
   clear HSN
   have hcall := ProveStuck_any (fun _ => False) h (N : Int) cu _ _ _ HVG.out (HCU.out.keep (.of_step HT.out))
   rw [pstuck_at HQ.out HN.out, HSB.out] at hcall
   have HCALL := zH hcall
   clear hcall
   go_wp2_with fail
   refine (HCALL.out).mono ?_
   rintro e wn ⟨rfl, hSn⟩
   have HTn := zH (HT.out.trans hSn)
   have HSN := zH hSn
   clear HT hSn
   have HT := HTn
   clear HTn
   clear HCALL HSN HVG
   have HTW := zH (HS2.out.trans HT.out)
   clear HT
   have HT := HTW
   go_wp2_with fail
   refine (gwakes_any _).mono ?_
   rintro e wn ⟨rfl, hSn⟩
   have HTn := zH (HT.out.trans hSn)
   have HSN := zH hSn
   clear HT hSn
   have HT := HTn
   clear HTn
   go_wp2
   go_ret
   exact ⟨rfl, HS.out.trans HT.out⟩
  ·have HF := zH F
   clear F
   have e0 := (HB.out.step HT.out).cell 0
   have e1 := (HB.out.step HT.out).cell 1
   simp only [zD, zE] at e0 e1
   go_wp2_with fail
   refine (GHall_any (fun _ => False) h _ _ (HAV.out _ HT.out) HL.out.1 HL.out.2).mono ?_
   rintro e wn ⟨vb, rfl, hv', hSn⟩
   have HVvb := zH (av0 hv')
   clear hv' e0 e1
   have HTn := zH (HT.out.trans hSn)
   have HSN := zH hSn
   clear HT hSn
   have HT := HTn
   clear HTn
   clear HSN
   go_wp2_with fail
   refine (Stuck_any (fun _ => False) h (N : Int) _ _ HVvb.out).mono ?_
   rintro e wn ⟨c', cu, vq, rfl, hSt, hcv, hSn⟩
   have HCU := zH (sl0 hcv)
   have HST := zH hSt
   obtain ⟨pq, kq, rfl⟩ := hcv.form
   have HPO2 := zH (show ∀ W, Step W1 W → SL (fun _ => False) W (.slice po pl.length ko) pl from fun W hW => (sl0 HPS.out).keep (.of_step hW))
   clear hcv hSt HVvb
   have HTn := zH (HT.out.trans hSn)
   have HSN := zH hSn
   clear HT hSn
   have HT := HTn
   clear HTn
   clear HSN
   have HP2 := zH (HP.out.keep (.of_step HT.out))
   have HC2 := zH (HC.out.keep (.of_step HT.out))
   have HS2 := zH HT.out
   clear HP HC
   obtain ⟨W2, hW2⟩ : ∃ z, z = wn := ⟨_, rfl⟩
   subst hW2
   have HT2 := zH (Step.refl W2)
   obtain ⟨rfl, hstk⟩ := HST.out.cut HQ.out (by have := HN.out; omega) (by rw [Int.toNat_natCast]; exact HF.out)
   rw [Int.toNat_natCast] at hstk
   have HSB := zH hstk
   clear hstk
   go_upto_region 8 with (fail)
   clear HT
   have HT := HT2
   clear HT2
   refine wp_region_seq (kdOf [1, 4, 5, 7, 11, 12] [(9, 3, .tuple #[])]) [0, 1, 0, 0, 11, 31, 0, 127, 0, 0, 0, 1791, 4095, 8191, 16383] [0, 2, 3, 6, 8, 10, 1, 4, 5, 7, 9, 11, 12, 13, 14] [] (by kernel_rfl) (by kernel_rfl) (fun i T z hi hk => by simp only [List.mem_cons, List.not_mem_nil, or_false] at hi; rcases hi with rfl | rfl | rfl | rfl | rfl | rfl | rfl | rfl | rfl | rfl | rfl | rfl | rfl | rfl | rfl <;> simp [kdOf] at hk <;> (obtain ⟨rfl, rfl⟩ := hk; first | (show Option.bind _ _ = some _; kernel_rfl) | (refine ⟨_, rfl, fun _ _ => ?_⟩; go_simp))) ?_
   intro Wx hWx
   have HTx := zH (HT.out.trans hWx)
   clear hWx HT
   have HT := HTx
   clear HTx
   have e0 := (HB.out.step (HS2.out.trans HT.out)).cell 0
   have e1 := (HB.out.step (HS2.out.trans HT.out)).cell 1
   simp only [zD, zE] at e0 e1
   repeat ((first | (refine run_off rfl rfl (by rfl) ?_) | (refine run_chain_off rfl rfl (by rfl) (K0_mono _) ?_) | ((refine run_want rfl rfl (by rfl) ⟨?_, fun W hW => ?_, ?_⟩; rotate_left; (· (have d0 := hW.kc e0; have d1 := hW.kc e1; go_simp; (try with_reducible rfl)))))); (try simp only [Act.put, zA, zB, zC]))
   clear e0 e1
   refine run_chain rfl rfl (by rfl) (fun Wi hWi K' hK => ?_)
   have HTi := zH (HT.out.trans hWi)
   have HZW := zH HTi.out.size
   clear hWi HT
   go_simp
   refine (GHall_any (fun _ => False) h _ Wi (HAV.out _ (HS2.out.trans HTi.out)) HL.out.1 HL.out.2).mono ?_
   rintro e wn ⟨v8, rfl, hv8, hSn⟩
   have HT := zH (HTi.out.trans (StepX.of hSn))
   clear HTi
   have HV8 := zH (av0 hv8)
   clear hv8
   refine hK _ _ (StepX.of hSn) ?_
   clear hSn
   (try simp only [Act.put, zA, zB, zC])
   repeat ((first | (refine run_off rfl rfl (by rfl) ?_) | (refine run_chain_off rfl rfl (by rfl) (K0_mono _) ?_) | ((refine run_want rfl rfl (by rfl) ⟨?_, fun W hW => ?_, ?_⟩; rotate_left; (· (skip; go_simp; (try with_reducible rfl)))))); (try simp only [Act.put, zA, zB, zC]))
   refine run_chain rfl rfl (by rfl) (fun Wi hWi K' hK => ?_)
   have HTi := zH (HT.out.trans hWi)
   have h8i := HV8.out.keep (.of_step hWi)
   clear hWi HT HV8
   go_simp
   refine (rowsL_any (fun _ => False) plan _ Wi (HP2.out.keep (.of_step HTi.out)) (by have := HL2.out.1; omega) HSZ.out).mono ?_
   rintro e wn ⟨v9, rfl, hro, hSn⟩
   have HT := zH (HTi.out.trans (StepX.of hSn))
   have HV8 := zH (h8i.keep (.of_step hSn))
   have HRO := zH (hro.sl (S := fun _ => False) fun _ _ h => h)
   clear HTi h8i hro
   refine hK _ _ (StepX.of hSn) ?_
   clear hSn
   (try simp only [Act.put, zA, zB, zC])
   repeat ((first | (refine run_off rfl rfl (by rfl) ?_) | (refine run_chain_off rfl rfl (by rfl) (K0_mono _) ?_) | ((refine run_want rfl rfl (by rfl) ⟨?_, fun W hW => ?_, ?_⟩; rotate_left; (· (skip; go_simp; (try with_reducible rfl)))))); (try simp only [Act.put, zA, zB, zC]))
   refine run_chain rfl rfl (by rfl) (fun Wi hWi K' hK => ?_)
   have HTi := zH (HT.out.trans hWi)
   have h8i := HV8.out.keep (.of_step hWi)
   have h9i := HRO.out.keep (.of_step hWi)
   clear hWi HT HV8 HRO
   go_simp
   refine (ProveOut_any (fun _ => False) h (N : Int) plan _ _ Wi h8i h9i).mono ?_
   rintro e wn ⟨rfl, hSn⟩
   have HT := zH (HTi.out.trans (StepX.of hSn))
   clear HTi h8i h9i
   obtain ⟨b1, hb1⟩ : ∃ z, z = poutB h (N : Int) plan := ⟨_, rfl⟩
   rw [← hb1]
   have HB1 := zH hb1
   clear hb1
   refine hK _ _ (StepX.of hSn) ?_
   clear hSn
   (try simp only [Act.put, zA, zB, zC])
   have e0 := (HB.out.step (HS2.out.trans HT.out)).cell 0
   have e1 := (HB.out.step (HS2.out.trans HT.out)).cell 1
   simp only [zD, zE] at e0 e1
   repeat ((first | (refine run_off rfl rfl (by rfl) ?_) | (refine run_chain_off rfl rfl (by rfl) (K0_mono _) ?_) | ((refine run_want rfl rfl (by rfl) ⟨?_, fun W hW => ?_, ?_⟩; rotate_left; (· (have d0 := hW.kc e0; have d1 := hW.kc e1; go_simp; (try with_reducible rfl)))))); (try simp only [Act.put, zA, zB, zC]))
   clear e0 e1
   refine run_chain rfl rfl (by rfl) (fun Wi hWi K' hK => ?_)
   have HTi := zH (HT.out.trans hWi)
   have HZW := zH HTi.out.size
   clear hWi HT
   go_simp
   refine (GHall_any (fun _ => False) h _ Wi (HAV.out _ (HS2.out.trans HTi.out)) HL.out.1 HL.out.2).mono ?_
   rintro e wn ⟨v8, rfl, hv8, hSn⟩
   have HT := zH (HTi.out.trans (StepX.of hSn))
   clear HTi
   have HV8 := zH (av0 hv8)
   clear hv8
   refine hK _ _ (StepX.of hSn) ?_
   clear hSn
   (try simp only [Act.put, zA, zB, zC])
   repeat ((first | (refine run_off rfl rfl (by rfl) ?_) | (refine run_chain_off rfl rfl (by rfl) (K0_mono _) ?_) | ((refine run_want rfl rfl (by rfl) ⟨?_, fun W hW => ?_, ?_⟩; rotate_left; (· (skip; go_simp; (try with_reducible rfl)))))); (try simp only [Act.put, zA, zB, zC]))
   refine run_consts rfl rfl (fun WA2 gm hW5 hg hgb hgN => ?_)
   (try simp only [Act.put, zA, zB, zC])
   have HOWN := zH (ownL_at (α := Int) (fun _ => False) W2.heap.size 3 WA2 hg (hgb))
   have h8i := zH (HV8.out.keep (.of_step hW5))
   have HTi := zH (HT.out.trans hW5)
   clear HT HV8 hW5 hg hgb hgN
   have HT := HTi
   have HV8 := h8i
   clear HTi h8i
   repeat ((first | (refine run_off rfl rfl (by rfl) ?_) | (refine run_chain_off rfl rfl (by rfl) (K0_mono _) ?_) | ((refine run_want rfl rfl (by rfl) ⟨?_, fun W hW => ?_, ?_⟩; rotate_left; (· (skip; go_simp; (try with_reducible rfl)))))); (try simp only [Act.put, zA, zB, zC]))
   refine run_chain rfl rfl (by rfl) (fun Wi hWi K' hK => ?_)
   have hu6 := SL.flat (avoid (fun _ => False) (.slice (some ⟨gm, 0, none⟩) 0 0)) (HC2.out.keep (.of_step (HT.out.trans hWi)))
   have hcl := HL2.out.2
   refine wp_append_empty (α := Int) (S := fun _ => False) (base := W2.heap.size) eiIntsH gm _ _ rfl rfl rfl (HOWN.out.step hWi) hu6 cut.length rfl (by simp only [maxLen]; omega) (by omega) (HT.out.trans hWi).size ?_
   intro p2 c2 w8 hown8 hs8
   have HPL := zH (hown8.slb (S := fun _ => False) fun _ _ h => h)
   have HT8 := zH (HT.out.trans (hWi.trans hs8))
   have h8i := zH (HV8.out.keep (.of_step (hWi.trans hs8)))
   refine hK _ _ (StepX.of hs8) ?_
   clear hK hWi hu6 hown8 hs8 HOWN HT HV8 hcl
   (try simp only [Act.put, zA, zB, zC])
   have HT := HT8
   have HV8 := h8i
   clear HT8 h8i
   repeat ((first | (refine run_off rfl rfl (by rfl) ?_) | (refine run_chain_off rfl rfl (by rfl) (K0_mono _) ?_) | ((refine run_want rfl rfl (by rfl) ⟨?_, fun W hW => ?_, ?_⟩; rotate_left; (· (skip; go_simp; (try with_reducible rfl)))))); (try simp only [Act.put, zA, zB, zC]))
   refine run_chain rfl rfl (by rfl) (fun Wi hWi K' hK => ?_)
   have HTi := zH (HT.out.trans hWi)
   have h8i := HV8.out.keep (.of_step hWi)
   have h9i := HPL.out.keep (.of_step hWi)
   clear hWi HT HV8 HPL
   go_simp
   refine (ProveStuck_any (fun _ => False) h (N : Int) cut _ _ Wi h8i h9i).mono ?_
   rintro e wn ⟨rfl, hSn⟩
   have HT := zH (HTi.out.trans (StepX.of hSn))
   clear HTi h8i h9i
   obtain ⟨b2, hb2⟩ : ∃ z, z = pstuckB h (N : Int) cut := ⟨_, rfl⟩
   rw [← hb2]
   have HB2 := zH hb2
   clear hb2
   refine hK _ _ (StepX.of hSn) ?_
   clear hSn
   (try simp only [Act.put, zA, zB, zC])
   repeat ((first | (refine run_off rfl rfl (by rfl) ?_) | (refine run_chain_off rfl rfl (by rfl) (K0_mono _) ?_) | ((refine run_want rfl rfl (by rfl) ⟨?_, fun W hW => ?_, ?_⟩; rotate_left; (· (skip; go_simp; (try with_reducible rfl)))))); (try simp only [Act.put, zA, zB, zC]))
   refine run_end (L := []) rfl (fun W6 hW6 => ?_)
   have HT6 := zH (HT.out.trans hW6)
   clear hW6 HT
   have HT := HT6
   clear HT6
   have hb1 := HB1.out
   have hb2 := HB2.out
   rw [pout_at HQ.out HN.out] at hb1
   rw [pstuck_at HQ.out HN.out] at hb2
   have hb1f : outB h N plan = false := by
    cases q : outB h N plan with
    | false => rfl
    | true => exact (HF.out (outB_iff.1 q).feas).elim
   rw [hb1f] at hb1
   subst hb1
   clear hb1f hb2
   have e0 := (HB.out.step (HS2.out.trans HT.out)).cell 0
   have e1 := (HB.out.step (HS2.out.trans HT.out)).cell 1
   simp only [zD, zE] at e0 e1
   go_wp2_with fail
   refine (GHall_any (fun _ => False) h _ _ (HAV.out _ (HS2.out.trans HT.out)) HL.out.1 HL.out.2).mono ?_
   rintro e wn ⟨vg, rfl, hv', hSn⟩
   have HVG := zH (av0 hv')
   clear hv' e0 e1
   have HTn := zH (HT.out.trans hSn)
   have HSN := zH hSn
   clear HT hSn
   have HT := HTn
   clear HTn
   clear HSN
   have hcall := ProveStuck_any (fun _ => False) h (N : Int) cu _ _ _ HVG.out (HCU.out.keep (.of_step HT.out))
   rw [pstuck_at HQ.out HN.out, HSB.out] at hcall
   have HCALL := zH hcall
   clear hcall
   go_wp2_with fail
   refine (HCALL.out).mono ?_
   rintro e wn ⟨rfl, hSn⟩
   have HTn := zH (HT.out.trans hSn)
   have HSN := zH hSn
   clear HT hSn
   have HT := HTn
   clear HTn
   clear HCALL HSN HVG
   have HTW := zH (HS2.out.trans HT.out)
   clear HT
   have HT := HTW
   go_wp2_with fail
   refine (gwakes_any _).mono ?_
   rintro e wn ⟨rfl, hSn⟩
   have HTn := zH (HT.out.trans hSn)
   have HSN := zH hSn
   clear HT hSn
   have HT := HTn
   clear HTn
   go_wp2
   go_ret
   exact ⟨rfl, HS.out.trans HT.out⟩
 case pos =>
  have HF := zH F
  have hc0 : c = 0 := by
   rcases hcc with rfl | rfl
   ·rfl
   ·exact ((HLV.out.none_ HQ.out rfl).2.2 N HN.out F).elim
  subst hc0
  have hle : least ≤ N := by
   by_cases q : least ≤ N
   ·exact q
   ·exact ((HLV.out.good HQ.out rfl).2.2 N (by omega) F).elim
  have dl : decide ((least : Int) ≤ (N : Int)) = true := decide_eq_true (by omega)
  have dl' : decide (least ≤ N) = true := decide_eq_true hle
  have HLE := zH hle
  clear F hle hcc
  have e0 := (HB.out.step HT.out).cell 0
  have e1 := (HB.out.step HT.out).cell 1
  simp only [zD, zE] at e0 e1
  go_wp2_with fail
  refine (GHall_any (fun _ => False) h _ _ (HAV.out _ HT.out) HL.out.1 HL.out.2).mono ?_
  rintro e wn ⟨vb, rfl, hv', hSn⟩
  have HVvb := zH (av0 hv')
  clear hv' e0 e1
  have HTn := zH (HT.out.trans hSn)
  have HSN := zH hSn
  clear HT hSn
  have HT := HTn
  clear HTn
  clear HSN
  go_wp2_with fail
  refine (Stuck_any (fun _ => False) h (N : Int) _ _ HVvb.out).mono ?_
  rintro e wn ⟨c', cu, vq, rfl, hSt, hcv, hSn⟩
  have HCU := zH (sl0 hcv)
  have HST := zH hSt
  obtain ⟨pq, kq, rfl⟩ := hcv.form
  have HPO2 := zH (show ∀ W, Step W1 W → SL (fun _ => False) W (.slice po pl.length ko) pl from fun W hW => (sl0 HPS.out).keep (.of_step hW))
  clear hcv hSt HVvb
  have HTn := zH (HT.out.trans hSn)
  have HSN := zH hSn
  clear HT hSn
  have HT := HTn
  clear HTn
  clear HSN
  have HP2 := zH (HP.out.keep (.of_step HT.out))
  have HC2 := zH (HC.out.keep (.of_step HT.out))
  have HS2 := zH HT.out
  clear HP HC
  obtain ⟨W2, hW2⟩ : ∃ z, z = wn := ⟨_, rfl⟩
  subst hW2
  have HT2 := zH (Step.refl W2)
  obtain ⟨rfl, rfl⟩ := HST.out.out HQ.out (by have := HN.out; omega) (by rw [Int.toNat_natCast]; exact HF.out)
  go_upto_region 8 with (fail)
  clear HT
  have HT := HT2
  clear HT2
  refine wp_region_seq (kdOf [1, 4, 5, 7, 11, 12] [(9, 3, .tuple #[])]) [0, 1, 0, 0, 11, 31, 0, 127, 0, 0, 0, 1791, 4095, 8191, 16383] [0, 2, 3, 6, 8, 10, 1, 4, 5, 7, 9, 11, 12, 13, 14] [] (by kernel_rfl) (by kernel_rfl) (fun i T z hi hk => by simp only [List.mem_cons, List.not_mem_nil, or_false] at hi; rcases hi with rfl | rfl | rfl | rfl | rfl | rfl | rfl | rfl | rfl | rfl | rfl | rfl | rfl | rfl | rfl <;> simp [kdOf] at hk <;> (obtain ⟨rfl, rfl⟩ := hk; first | (show Option.bind _ _ = some _; kernel_rfl) | (refine ⟨_, rfl, fun _ _ => ?_⟩; go_simp))) ?_
  intro Wx hWx
  have HTx := zH (HT.out.trans hWx)
  clear hWx HT
  have HT := HTx
  clear HTx
  have e0 := (HB.out.step (HS2.out.trans HT.out)).cell 0
  have e1 := (HB.out.step (HS2.out.trans HT.out)).cell 1
  simp only [zD, zE] at e0 e1
  repeat ((first | (refine run_off rfl rfl (by rfl) ?_) | (refine run_chain_off rfl rfl (by rfl) (K0_mono _) ?_) | ((refine run_want rfl rfl (by rfl) ⟨?_, fun W hW => ?_, ?_⟩; rotate_left; (· (have d0 := hW.kc e0; have d1 := hW.kc e1; go_simp; (try with_reducible rfl)))))); (try simp only [Act.put, zA, zB, zC]))
  clear e0 e1
  refine run_chain rfl rfl (by rfl) (fun Wi hWi K' hK => ?_)
  have HTi := zH (HT.out.trans hWi)
  have HZW := zH HTi.out.size
  clear hWi HT
  go_simp
  refine (GHall_any (fun _ => False) h _ Wi (HAV.out _ (HS2.out.trans HTi.out)) HL.out.1 HL.out.2).mono ?_
  rintro e wn ⟨v8, rfl, hv8, hSn⟩
  have HT := zH (HTi.out.trans (StepX.of hSn))
  clear HTi
  have HV8 := zH (av0 hv8)
  clear hv8
  refine hK _ _ (StepX.of hSn) ?_
  clear hSn
  (try simp only [Act.put, zA, zB, zC])
  repeat ((first | (refine run_off rfl rfl (by rfl) ?_) | (refine run_chain_off rfl rfl (by rfl) (K0_mono _) ?_) | ((refine run_want rfl rfl (by rfl) ⟨?_, fun W hW => ?_, ?_⟩; rotate_left; (· (skip; go_simp; (try with_reducible rfl)))))); (try simp only [Act.put, zA, zB, zC]))
  refine run_chain rfl rfl (by rfl) (fun Wi hWi K' hK => ?_)
  have HTi := zH (HT.out.trans hWi)
  have h8i := HV8.out.keep (.of_step hWi)
  clear hWi HT HV8
  go_simp
  refine (rowsL_any (fun _ => False) plan _ Wi (HP2.out.keep (.of_step HTi.out)) (by have := HL2.out.1; omega) HSZ.out).mono ?_
  rintro e wn ⟨v9, rfl, hro, hSn⟩
  have HT := zH (HTi.out.trans (StepX.of hSn))
  have HV8 := zH (h8i.keep (.of_step hSn))
  have HRO := zH (hro.sl (S := fun _ => False) fun _ _ h => h)
  clear HTi h8i hro
  refine hK _ _ (StepX.of hSn) ?_
  clear hSn
  (try simp only [Act.put, zA, zB, zC])
  repeat ((first | (refine run_off rfl rfl (by rfl) ?_) | (refine run_chain_off rfl rfl (by rfl) (K0_mono _) ?_) | ((refine run_want rfl rfl (by rfl) ⟨?_, fun W hW => ?_, ?_⟩; rotate_left; (· (skip; go_simp; (try with_reducible rfl)))))); (try simp only [Act.put, zA, zB, zC]))
  refine run_chain rfl rfl (by rfl) (fun Wi hWi K' hK => ?_)
  have HTi := zH (HT.out.trans hWi)
  have h8i := HV8.out.keep (.of_step hWi)
  have h9i := HRO.out.keep (.of_step hWi)
  clear hWi HT HV8 HRO
  go_simp
  refine (ProveOut_any (fun _ => False) h (N : Int) plan _ _ Wi h8i h9i).mono ?_
  rintro e wn ⟨rfl, hSn⟩
  have HT := zH (HTi.out.trans (StepX.of hSn))
  clear HTi h8i h9i
  obtain ⟨b1, hb1⟩ : ∃ z, z = poutB h (N : Int) plan := ⟨_, rfl⟩
  rw [← hb1]
  have HB1 := zH hb1
  clear hb1
  refine hK _ _ (StepX.of hSn) ?_
  clear hSn
  (try simp only [Act.put, zA, zB, zC])
  have e0 := (HB.out.step (HS2.out.trans HT.out)).cell 0
  have e1 := (HB.out.step (HS2.out.trans HT.out)).cell 1
  simp only [zD, zE] at e0 e1
  repeat ((first | (refine run_off rfl rfl (by rfl) ?_) | (refine run_chain_off rfl rfl (by rfl) (K0_mono _) ?_) | ((refine run_want rfl rfl (by rfl) ⟨?_, fun W hW => ?_, ?_⟩; rotate_left; (· (have d0 := hW.kc e0; have d1 := hW.kc e1; go_simp; (try with_reducible rfl)))))); (try simp only [Act.put, zA, zB, zC]))
  clear e0 e1
  refine run_chain rfl rfl (by rfl) (fun Wi hWi K' hK => ?_)
  have HTi := zH (HT.out.trans hWi)
  have HZW := zH HTi.out.size
  clear hWi HT
  go_simp
  refine (GHall_any (fun _ => False) h _ Wi (HAV.out _ (HS2.out.trans HTi.out)) HL.out.1 HL.out.2).mono ?_
  rintro e wn ⟨v8, rfl, hv8, hSn⟩
  have HT := zH (HTi.out.trans (StepX.of hSn))
  clear HTi
  have HV8 := zH (av0 hv8)
  clear hv8
  refine hK _ _ (StepX.of hSn) ?_
  clear hSn
  (try simp only [Act.put, zA, zB, zC])
  repeat ((first | (refine run_off rfl rfl (by rfl) ?_) | (refine run_chain_off rfl rfl (by rfl) (K0_mono _) ?_) | ((refine run_want rfl rfl (by rfl) ⟨?_, fun W hW => ?_, ?_⟩; rotate_left; (· (skip; go_simp; (try with_reducible rfl)))))); (try simp only [Act.put, zA, zB, zC]))
  refine run_consts rfl rfl (fun WA2 gm hW5 hg hgb hgN => ?_)
  (try simp only [Act.put, zA, zB, zC])
  have HOWN := zH (ownL_at (α := Int) (fun _ => False) W2.heap.size 3 WA2 hg (hgb))
  have h8i := zH (HV8.out.keep (.of_step hW5))
  have HTi := zH (HT.out.trans hW5)
  clear HT HV8 hW5 hg hgb hgN
  have HT := HTi
  have HV8 := h8i
  clear HTi h8i
  repeat ((first | (refine run_off rfl rfl (by rfl) ?_) | (refine run_chain_off rfl rfl (by rfl) (K0_mono _) ?_) | ((refine run_want rfl rfl (by rfl) ⟨?_, fun W hW => ?_, ?_⟩; rotate_left; (· (skip; go_simp; (try with_reducible rfl)))))); (try simp only [Act.put, zA, zB, zC]))
  refine run_chain rfl rfl (by rfl) (fun Wi hWi K' hK => ?_)
  have hu6 := SL.flat (avoid (fun _ => False) (.slice (some ⟨gm, 0, none⟩) 0 0)) (HC2.out.keep (.of_step (HT.out.trans hWi)))
  have hcl := HL2.out.2
  refine wp_append_empty (α := Int) (S := fun _ => False) (base := W2.heap.size) eiIntsH gm _ _ rfl rfl rfl (HOWN.out.step hWi) hu6 cut.length rfl (by simp only [maxLen]; omega) (by omega) (HT.out.trans hWi).size ?_
  intro p2 c2 w8 hown8 hs8
  have HPL := zH (hown8.slb (S := fun _ => False) fun _ _ h => h)
  have HT8 := zH (HT.out.trans (hWi.trans hs8))
  have h8i := zH (HV8.out.keep (.of_step (hWi.trans hs8)))
  refine hK _ _ (StepX.of hs8) ?_
  clear hK hWi hu6 hown8 hs8 HOWN HT HV8 hcl
  (try simp only [Act.put, zA, zB, zC])
  have HT := HT8
  have HV8 := h8i
  clear HT8 h8i
  repeat ((first | (refine run_off rfl rfl (by rfl) ?_) | (refine run_chain_off rfl rfl (by rfl) (K0_mono _) ?_) | ((refine run_want rfl rfl (by rfl) ⟨?_, fun W hW => ?_, ?_⟩; rotate_left; (· (skip; go_simp; (try with_reducible rfl)))))); (try simp only [Act.put, zA, zB, zC]))
  refine run_chain rfl rfl (by rfl) (fun Wi hWi K' hK => ?_)
  have HTi := zH (HT.out.trans hWi)
  have h8i := HV8.out.keep (.of_step hWi)
  have h9i := HPL.out.keep (.of_step hWi)
  clear hWi HT HV8 HPL
  go_simp
  refine (ProveStuck_any (fun _ => False) h (N : Int) cut _ _ Wi h8i h9i).mono ?_
  rintro e wn ⟨rfl, hSn⟩
  have HT := zH (HTi.out.trans (StepX.of hSn))
  clear HTi h8i h9i
  obtain ⟨b2, hb2⟩ : ∃ z, z = pstuckB h (N : Int) cut := ⟨_, rfl⟩
  rw [← hb2]
  have HB2 := zH hb2
  clear hb2
  refine hK _ _ (StepX.of hSn) ?_
  clear hSn
  (try simp only [Act.put, zA, zB, zC])
  repeat ((first | (refine run_off rfl rfl (by rfl) ?_) | (refine run_chain_off rfl rfl (by rfl) (K0_mono _) ?_) | ((refine run_want rfl rfl (by rfl) ⟨?_, fun W hW => ?_, ?_⟩; rotate_left; (· (skip; go_simp; (try with_reducible rfl)))))); (try simp only [Act.put, zA, zB, zC]))
  refine run_end (L := []) rfl (fun W6 hW6 => ?_)
  have HT6 := zH (HT.out.trans hW6)
  clear hW6 HT
  have HT := HT6
  clear HT6
  have hb1 := HB1.out
  have hb2 := HB2.out
  rw [pout_at HQ.out HN.out] at hb1
  rw [pstuck_at HQ.out HN.out] at hb2
  have hb2f : stuckB h N cut = false := by
   cases q : stuckB h N cut with
   | false => rfl
   | true => exact (stuckB_not HO.out q HF.out).elim
  rw [hb2f] at hb2
  subst hb2
  clear hb2f hb1
  have hlen : pl.length = h.ways.length := (outB_iff.1 (HLV.out.good HQ.out rfl).2.1).len
  have hrow : ∀ i, i < pl.length → (pl.getD i []).length = least := fun i hi => (outB_iff.1 (HLV.out.good HQ.out rfl).2.1).row i (by rw [← hlen]; exact hi)
  have hpad := ((outB_iff.1 (HLV.out.good HQ.out rfl).2.1).pad HO.out (N - least))
  have hn60 : least ≤ 60 := (HLV.out.good HQ.out rfl).1
  have HPAD := zH (show outB h N (padP pl (N - least)) = true by
   rw [show least + (N - least) = N by have := HLE.out; omega] at hpad
   exact outB_iff.2 hpad)
  have hpw := (HPO.out (by trivial)).keep (w' := W6) fun j hj => (HS2.out.trans HT.out).block j hj id
  have hfm : ∃ (pb : Nat) (gs : Nat → Nat), wb.heap.size ≤ pb ∧ (0 < pl.length → po = some ⟨pb, 0, none⟩ ∧ ∃ cs, Bx W6 pb cs 26 ∧ ∀ k, k < pl.length → cs[k]? = some (.slice (some ⟨gs k, 0, none⟩) least least) ∧ Nums W6 (gs k) 3 least (planF pl k)) := by
   obtain ⟨p, c1, he, _, hpp⟩ := hpw
   injection he with he1 he2 _
   by_cases h0 : 0 < pl.length
   ·obtain ⟨pb, cs, rfl, hb, hbx, hr⟩ := hpp (by omega)
    have hr2 : ∀ k : Nat, ∃ g, k < pl.length → cs[k]? = some (.slice (some ⟨g, 0, none⟩) least least) ∧ Nums W6 g 3 least (planF pl k) := fun k => by
     by_cases q : k < pl.length
     ·obtain ⟨g, h1, h2, h3⟩ := hr k (by omega)
      exact ⟨g, fun _ => ⟨h1, h3⟩⟩
     ·exact ⟨0, fun q' => (q q').elim⟩
    exact ⟨pb, fun k => Classical.choose (hr2 k), hb, fun _ => ⟨he1, cs, hbx, fun k hk => Classical.choose_spec (hr2 k) hk⟩⟩
   ·exact ⟨W6.heap.size, fun _ => 0, by have := (HS2.out.trans HT.out).size; have := HZ.out; omega, fun q => (h0 q).elim⟩
  obtain ⟨pb, gs, hpb, hfm⟩ := hfm
  have HFM := zH hfm
  have HPB := zH hpb
  have HROW := zH hrow
  have hpll : pl.length ≤ 20 := by have := HO.out.w20; omega
  have HST6 := zH (HS.out.trans (HS2.out.trans HT.out))
  have HSX := zH (HS2.out.trans HT.out)
  have HKO := zH HPS.out
  clear hfm hpb hrow hpw hpad hlen HPO2 HCU HP2 HC2 HPS HPO HZ
  clear HT
  go_wp2
  go_loopw [17] (fun s17 wr => ∃ i : Nat, i ≤ pl.length ∧ s17 = .int .i64 i ∧ PE W6 pb least N gs pl i wr) (fun s17 _ => pl.length - (intOf s17).toNat)
  case atStart =>
   refine ⟨0, Nat.zero_le _, rfl, StepX.refl _ _, fun h0 => ?_⟩
   obtain ⟨_, cs, h1, h2⟩ := HFM.out h0
   exact ⟨cs, h1, (fun k hk => by omega), fun k _ hk => (h2 k hk).1⟩
  case round =>
   obtain ⟨i, hi, rfl, hpe⟩ := hrel
   have HPE := zH hpe
   clear hpe
   by_cases hil : i < pl.length
   ·obtain ⟨cs, hbx, hr1, hr2⟩ := HPE.out.row (by omega)
    obtain ⟨rfl, _, hbx6, hgs⟩ := HFM.out (by omega)
    have HNE := zH (show gs i ≠ pb by obtain ⟨_, h1, _⟩ := (hgs i hil).2; exact bx_ne h1 hbx6 (by decide))
    have HG := zH (hgs i hil).2
    have HBX := zH hbx
    have HR1 := zH hr1
    have HR2 := zH hr2
    have HIC := zH (show i < cs.length from (List.getElem?_eq_some_iff.1 (hr2 i (Nat.le_refl _) hil)).1)
    obtain ⟨r, hre⟩ : ∃ z, z = pl.getD i [] := ⟨_, rfl⟩
    have HRL := zH (show r.length = least by rw [hre]; exact HROW.out i hil)
    have HRE := zH hre
    have hst0 : PI wr pb least N (gs i) i (N - least) r cs wr := ⟨StepX.refl _ _, Nat.le_refl _, cs, _, hbx, rfl, (fun k _ => rfl), hr2 i (Nat.le_refl _) hil, .inl ⟨rfl, rfl⟩⟩
    have HST0 := zH hst0
    clear hbx hr1 hr2 hgs hst0 hre hbx6
    have hix : (0 : Int) ≤ (i : Int) ∧ (i : Int) < (pl.length : Int) := by omega
    obtain ⟨wo, hwo⟩ : ∃ z, z = wr := ⟨_, rfl⟩
    subst hwo
    go_wp2
    go_loopg [] (N - least) (fun d wr2 => PI wo pb least N (gs i) i d r cs wr2)
    case atStart => exact HST0.out
    case round =>
     obtain ⟨hst, hdl, cs2, u, hb2, hcl, hoth, hcu, huu⟩ := hrel
     have HX := zH hst
     have HB2x := zH hb2
     have HOTH := zH (And.intro hcl hoth)
     have huf : ∃ pu ku, u = .slice pu (N - gk) ku := by
      rcases huu with ⟨h1, rfl⟩ | h1
      ·exact ⟨_, least, by rw [show N - gk = least by have := HLE.out; omega]⟩
      ·obtain ⟨p1, c1, e1, _⟩ := h1.form
       refine ⟨p1, c1, ?_⟩
       rw [e1]
       congr 1
       have := HLE.out; have := HRL.out
       simp; omega
     obtain ⟨pu, ku, rfl⟩ := huf
     obtain ⟨L, hL⟩ : ∃ z, z = N - gk := ⟨_, rfl⟩
     rw [← hL] at hcu huu
     have HCUX := zH hcu
     have hle := HLE.out
     have hLL : L + gk = N := by omega
     have HUU := zH huu
     have HLL := zH hLL
     have HDL := zH hdl
     have cc := hb2.cell i
     rw [hcu] at cc
     have cz := hb2.frozen i
     have cl := hb2.lt
     clear hst hb2 hcl hoth hcu hL hle
     by_cases hd0 : 0 < gk
     ·have dd : decide ((L : Int) < (N : Int)) = true := decide_eq_true (by omega)
      have dd' : decide (L < N) = true := decide_eq_true (by omega)
      clear hdl hLL
      rcases huu with ⟨h1, h2⟩ | h1
      ·injection h2 with e1 e2 e3
       subst e1 e3 e2
       have hgw := HG.out.row ((HPE.out.st.trans HX.out).block (gs i) HG.out.lt HNE.out)
       have hsl := (Nums.sl (S := fun _ => False) hgw id L (Nat.le_refl _) (by have := hn60; omega)).keep (.alloc wr (.cells #[.int .i64 0] 3))
       rw [planF_row (HROW.out i hil), ← HRE.out] at hsl
       have HSLE := zH hsl.e
       have HH1 := zH h1
       clear h1 hsl hgw
       go_wp2_with (at_builtin; refine wpl_append_full (α := Int) (S := fun _ => False) (T := fun _ => False) (base := wo.heap.size) (l := r) (m := [0]) (b := gs i) (o := 0) eiIntsH rfl _ _ rfl rfl rfl (by rw [HRL.out]; rfl) HSLE.out (SLe.one (x := (0 : Int)) 3 rfl) (by simp) (L + 1) (by rw [HRL.out]; rfl) _ rfl (by omega) (by omega) (by have := HX.out.size; simp; omega) ?_)
       intro c5 w5 hown5 hs5
       have hx5 : StepX (fun j => j = pb) wo w5 := HX.out.trans (.of ((Step.alloc wr _).trans hs5))
       have hb5 := (HB2x.out.alloc (.cells #[.int .i64 0] 3)).step hs5
       rw [show r ++ [0] = r ++ List.replicate (N - L - (gk - 1)) 0 by rw [show N - L - (gk - 1) = 1 by have := HH1.out; omega]; rfl] at hown5
       clear hs5
       have HOWN5 := zH hown5
       have HX5 := zH hx5
       have HB5 := zH hb5
       have zc : ∃ u, w5.cell? ⟨pb, i, none⟩ = some u := by
        rw [hb5.cell]
        exact ⟨_, List.getElem?_eq_getElem (by rw [HOTH.out.1]; exact HIC.out)⟩
       obtain ⟨zu, zc⟩ := zc
       have zz := hb5.frozen i
       have zl := hb5.lt
       clear hown5 hx5 hb5 cc cz cl
       go_wp2
       go_roundg (gk - 1)
       case measure => omega
       case rel =>
        refine ⟨StepX.setCell HX5.out ⟨pb, i, none⟩ _ rfl, by have := HDL.out; omega, _, _, HB5.out.setCell i _, by rw [List.length_set]; exact HOTH.out.1, fun k hk => ?_, by rw [List.getElem?_set, if_pos rfl, if_pos (by rw [HOTH.out.1]; exact HIC.out)], .inr ?_⟩
        ·rw [List.getElem?_set, if_neg (Ne.symm hk)]; exact HOTH.out.2 k hk
        ·exact ownF_row HOWN5.out fun g hg => Below.heap_setCell w5 ⟨pb, i, none⟩ _ g fun e => own_apart HOWN5.out HB5.out (by decide) (by rw [hg, e])
      ·have HH1 := zH h1
       clear h1
       have hown0 := HH1.out.alloc (.cells #[.int .i64 0] 3)
       have q1 : (r ++ List.replicate (N - least - gk) 0).length + [(0 : Int)].length = L + 1 := by
        have h1 := HLL.out; have h2 := HLE.out; have h3 := HDL.out; have h4 := HRL.out
        simp; omega
       have HQ1 := zH q1
       have q2 : L + 1 ≤ maxLen := by have h1 := HLL.out; have h2 := HN.out; simp only [maxLen]; omega
       have q3 : (L + 1) * 8 ≤ 140737488355328 := by have h1 := HLL.out; have h2 := HN.out; omega
       have q4 : wo.heap.size ≤ (wr.alloc (.cells #[.int .i64 0] 3)).heap.size := by have := HX.out.size; simp; omega
       have HQ2 := zH (And.intro q2 (And.intro q3 q4))
       clear q1 q2 q3 q4
       go_wp2_with (at_builtin; refine wpl_append (α := Int) (S := fun _ => False) (base := wo.heap.size) (m := [0]) eiIntsH rfl _ _ rfl rfl rfl hown0 (SLe.one (x := (0 : Int)) 3 rfl) (L + 1) HQ1.out _ rfl HQ2.out.1 HQ2.out.2.1 HQ2.out.2.2 ?_)
       intro p5 c5 w5 hown5 hg5
       have hx5 : StepX (fun j => j = pb) wo w5 := (HX.out.trans (.of (Step.alloc wr _))).over (.grown hg5 fun j hj _ => hj) fun j hj => .inl (hown0.lt j hj).1
       have hb5 := (HB2x.out.alloc (.cells #[.int .i64 0] 3)).keep (S := fun j => (Value.slice pu L ku).ownBlock = some j) (.grown hg5 fun j hj _ => hj) (own_apart hown0 (HB2x.out.alloc _) (by decide))
       have hge := HDL.out
       rw [← List.replicate_succ', show N - least - gk + 1 = N - least - (gk - 1) by omega] at hown5
       clear hge
       clear hg5 hown0
       have HOWN5 := zH hown5
       have HX5 := zH hx5
       have HB5 := zH hb5
       have zc : ∃ u, w5.cell? ⟨pb, i, none⟩ = some u := by
        rw [hb5.cell]
        exact ⟨_, List.getElem?_eq_getElem (by rw [HOTH.out.1]; exact HIC.out)⟩
       obtain ⟨zu, zc⟩ := zc
       have zz := hb5.frozen i
       have zl := hb5.lt
       clear hown5 hx5 hb5 cc cz cl
       go_wp2
       go_roundg (gk - 1)
       case measure => omega
       case rel =>
        refine ⟨StepX.setCell HX5.out ⟨pb, i, none⟩ _ rfl, by have := HDL.out; omega, _, _, HB5.out.setCell i _, by rw [List.length_set]; exact HOTH.out.1, fun k hk => ?_, by rw [List.getElem?_set, if_pos rfl, if_pos (by rw [HOTH.out.1]; exact HIC.out)], .inr ?_⟩
        ·rw [List.getElem?_set, if_neg (Ne.symm hk)]; exact HOTH.out.2 k hk
        ·exact ownF_row HOWN5.out fun g hg => Below.heap_setCell w5 ⟨pb, i, none⟩ _ g fun e => own_apart HOWN5.out HB5.out (by decide) (by rw [hg, e])
     ·have dd : decide ((L : Int) < (N : Int)) = false := decide_eq_false (by omega)
      have dd' : decide (L < N) = false := decide_eq_false (by omega)
      have hg0 : gk = 0 := by omega
      subst hg0
      have HSL9 := zH (show SL (fun j => j = pb) wr (.slice pu L ku) (pl.getD i [] ++ List.replicate (N - least) 0) by
       rw [← HRE.out]
       rcases huu with ⟨h1, h2⟩ | h1
       ·rw [← h1, List.replicate_zero, List.append_nil, h2]
        have hgw := HG.out.row ((HPE.out.st.trans HX.out).block (gs i) HG.out.lt HNE.out)
        have hsl := Nums.sl (S := fun j => j = pb) hgw HNE.out least (Nat.le_refl _) (by have := hn60; omega)
        rw [planF_row (HROW.out i hil), ← HRE.out] at hsl
        exact hsl
       ·rw [Nat.sub_zero] at h1
        exact (ownL_flat (fun j => j = pb) h1).slb fun g hg e => own_apart h1 HB2x.out (by decide) (by rw [hg, e]))
      clear huu hdl hd0 hLL
      go_wp2
      go_roundw
      case rel =>
       refine ⟨i + 1, by omega, by go_num, HPE.out.st.trans HX.out, fun _ => ⟨cs2, HB2x.out, fun k hk => ?_, fun k hk hk2 => ?_⟩⟩
       ·by_cases e : k = i
        ·rw [e]; exact ⟨_, HCUX.out, HSL9.out⟩
        ·obtain ⟨u, h1, h2⟩ := HR1.out k (by omega)
         exact ⟨u, by rw [HOTH.out.2 k e]; exact h1, h2.keep HX.out.keeps⟩
       ·rw [HOTH.out.2 k (by omega)]; exact HR2.out k (by omega) hk2
      case measure => simp [intOf]; omega
   ·have hiz : pl.length = i := by omega
    subst hiz
    have HSLP := zH (show SL (fun _ => False) wr (.slice po pl.length ko) (padP pl (N - least)) by
     have hpl : (padP pl (N - least)).length = pl.length := by simp [padP]
     have hko : pl.length ≤ ko := by
      obtain ⟨p1, c1, b1, o1, he, hc1, _⟩ := HKO.out
      injection he with _ _ he3
      rw [he3]; exact hc1
     rw [← hpl]
     by_cases h0 : 0 < pl.length
     ·obtain ⟨cs, hbx, hr1, _⟩ := HPE.out.row h0
      obtain ⟨rfl, _⟩ := HFM.out h0
      refine ⟨_, ko, pb, 0, rfl, by omega, by omega, fun _ => rfl, fun i hi => ?_⟩
      have hi2 : i < pl.length := by omega
      obtain ⟨u, h1, h2⟩ := hr1 i hi2
      refine ⟨hbx.lt, id, [u], ⟨u, rfl, ?_⟩, fun j v hj => ?_⟩
      ·have he : (padP pl (N - least))[i] = pl.getD i [] ++ List.replicate (N - least) 0 := by simp [padP, List.getD_eq_getElem?_getD, hi2]
       rw [he]
       exact h2.weak fun _ _ h => h.elim
      ·match j, hj with
       | 0, hj =>
        simp only [List.getElem?_cons_zero, Option.some.injEq] at hj
        subst hj
        show wr.cell? ⟨pb, 0 + i * 1 + 0, none⟩ = _
        rw [Nat.zero_add, Nat.mul_one, Nat.add_zero, hbx.cell]
        exact h1
     ·rw [List.eq_nil_of_length_eq_zero (show (padP pl (N - least)).length = 0 by omega)]
      exact ⟨po, ko, 0, 0, rfl, Nat.zero_le _, by simp, fun h => absurd h (by simp), fun i hi => absurd hi (by simp)⟩)
    have hbne : w.heap.size ≠ pb := by have := HPB.out; have := HBASE.out; omega
    have hb9 := (HB.out.step HSX.out).keep HPE.out.st.keeps hbne
    have HAV9 := zH (av0 (HVK.out.keep ((Keeps.of_step HST6.out).trans (HPE.out.st.keeps.mono fun j _ hj => by have := HPB.out; have := HBASE.out; omega))))
    have HB9 := zH hb9
    have hst9 : Step w wr := StepX.fresh HST6.out HPE.out.st fun j hj => by have := HPB.out; have := HBASE.out; omega
    have HT9 := zH hst9
    have e0 := hb9.cell 0
    have e1 := hb9.cell 1
    simp only [zD, zE] at e0 e1
    clear hst9 hb9 hbne hil
    go_wp2_with fail
    refine (GHall_any (fun _ => False) h _ _ HAV9.out HL.out.1 HL.out.2).mono ?_
    rintro e wn ⟨vg, rfl, hv', hSn⟩
    have HVG := zH (av0 hv')
    have HSN2 := zH hSn
    clear hv' e0 e1
    have HTn := zH (HT9.out.trans hSn)
    clear hSn
    have hcall := ProveOut_any (fun _ => False) h (N : Int) (padP pl (N - least)) _ _ _ HVG.out (HSLP.out.keep (.of_step HSN2.out))
    rw [pout_at HQ.out HN.out, HPAD.out] at hcall
    have HCALL := zH hcall
    clear hcall
    go_wp2_with fail
    refine HCALL.out.mono ?_
    rintro e wn ⟨rfl, hSn⟩
    have HT := zH (HTn.out.trans hSn)
    clear hSn HCALL HVG HSLP HS
    have HS := zH (Step.refl w)
    go_wp2_with fail
    refine (gwakes_any _).mono ?_
    rintro e wn ⟨rfl, hSn⟩
    have HTn := zH (HT.out.trans hSn)
    have HSN := zH hSn
    clear HT hSn
    have HT := HTn
    clear HTn
    go_wp2
    go_ret
    exact ⟨rfl, HS.out.trans HT.out⟩
end Go.Proofs.Ytfhmdpicoccnfaa
