/- The law's copy of a tent, its examples and its wakes are walked. -/
import Derived.Test.YtdcjbbeoocldeaaMi
import Derived.Test.YtdcjbbeoocldeaaRows
/- Walks: the law package's copy of a tent: all its memory is the copy's own. -/
namespace Go.Proofs.Ytdcjbbeoocldeaa
set_option linter.unusedSimpArgs false
set_option linter.unusedVariables false
open Go.RowKit Go.BT

/-- A head as it lies in a row: its guys are a slice. -/
structure HeadV where
  area : Int
  bears : Int
  p : Option Addr
  n : Nat
  c : Nat
abbrev HeadV.val (h : HeadV) : Value := .slice h.p h.n h.c
instance : Rep HeadV where
  k := 3
  rep S w cs x := cs = [.int .i64 x.area, .int .i64 x.bears, .slice x.p x.n x.c] ∧ ∀ g, x.val.ownBlock = some g → g < w.heap.size ∧ ¬ S g
  len h := by rw [h.1]; rfl
  keep hk h := ⟨h.1, fun g hg => ⟨Nat.lt_of_lt_of_le (h.2 g hg).1 hk.1, (h.2 g hg).2⟩⟩
  weak hk h := ⟨h.1, fun g hg => ⟨(h.2 g hg).1, fun ht => (h.2 g hg).2 (hk g (h.2 g hg).1 ht)⟩⟩
  one h := by obtain ⟨rfl, _⟩ := h; simp [Value.oneCell']
  pos := by decide
theorem ownL_flat {α : Type} [Flat α] {S : Nat → Prop} (T : Nat → Prop) {base : Nat} {e : TypeId} {w : World} {v : Value} {l : List α} (h : OwnL S base e w v l) : OwnL T base e w v l := by
  obtain ⟨xs, h1, h2⟩ := h
  exact ⟨xs, h1, fun i hi => Flat.flat (h2 i hi)⟩
theorem ownL_base {α : Type} [Rep α] {S : Nat → Prop} {base base' : Nat} {e : TypeId} {w : World} {v : Value} {l : List α} (h : OwnL S base e w v l) (hb : base' ≤ base) : OwnL S base' e w v l := by
  obtain ⟨xs, ⟨h0, h1⟩, h2⟩ := h
  refine ⟨xs, ⟨h0, ?_⟩, h2⟩
  rcases h1 with h1 | ⟨g, cap, cur, e, hg, r⟩
  · exact .inl h1
  · exact .inr ⟨g, cap, cur, e, Nat.le_trans hb hg, r⟩
theorem ownL_grown {α : Type} [Flat α] {S : Nat → Prop} {base : Nat} {e : TypeId} {w w' : World} {v : Value} {l : List α} {row : Option Nat} (h : OwnL S base e w v l) (hg : w.grownBy w' row) (hne : ∀ g, v.ownBlock = some g → row ≠ some g) : OwnL S base e w' v l := by
  obtain ⟨xs, h1, h2⟩ := h
  refine ⟨xs, h1.kept hg ?_, fun i hi => Flat.flat (h2 i hi)⟩
  cases q : v.ownBlock with
  | none => exact .inl rfl
  | some g => exact .inr fun e => hne g q e.symm
/-- The guys of heads in rows of their own, all apart. -/
structure Inner (base : Nat) (w : World) (hs : List HeadV) (t : List Head) : Prop where
  len : hs.length = t.length
  at_ : ∀ i (h1 : i < hs.length) (h2 : i < t.length), hs[i].area = t[i].area ∧ hs[i].bears = t[i].bears ∧ OwnL (fun _ => False) base 91 w hs[i].val t[i].guys
  apart : ∀ i j (h1 : i < hs.length) (h2 : j < hs.length), i ≠ j → ∀ g, hs[i].val.ownBlock = some g → hs[j].val.ownBlock ≠ some g
theorem Inner.nil (base : Nat) (w : World) : Inner base w [] [] := ⟨rfl, fun i h => absurd h (by simp), fun i j h => absurd h (by simp)⟩
theorem Inner.grown {base : Nat} {w w' : World} {hs : List HeadV} {t : List Head} {row : Option Nat} (h : Inner base w hs t) (hg : w.grownBy w' row) (hne : ∀ i (h1 : i < hs.length) g, hs[i].val.ownBlock = some g → row ≠ some g) : Inner base w' hs t :=
  ⟨h.len, fun i h1 h2 => ⟨(h.at_ i h1 h2).1, (h.at_ i h1 h2).2.1, ownL_grown (h.at_ i h1 h2).2.2 hg (hne i h1)⟩, h.apart⟩
theorem Inner.step {base : Nat} {w w' : World} {hs : List HeadV} {t : List Head} (h : Inner base w hs t) (k : Step w w') : Inner base w' hs t :=
  ⟨h.len, fun i h1 h2 => ⟨(h.at_ i h1 h2).1, (h.at_ i h1 h2).2.1, (h.at_ i h1 h2).2.2.step k⟩, h.apart⟩
theorem Inner.lt {base : Nat} {w : World} {hs : List HeadV} {t : List Head} (h : Inner base w hs t) {i : Nat} (h1 : i < hs.length) {g : Nat} (hg : hs[i].val.ownBlock = some g) : base ≤ g ∧ g < w.heap.size :=
  (h.at_ i h1 (by have := h.len; omega)).2.2.lt g hg
theorem Inner.snoc {base : Nat} {w : World} {hs : List HeadV} {t : List Head} (h : Inner base w hs t) {x : HeadV} {y : Head} (hxy : x.area = y.area ∧ x.bears = y.bears ∧ OwnL (fun _ => False) base 91 w x.val y.guys) (hn : ∀ i (h1 : i < hs.length) g, hs[i].val.ownBlock = some g → x.val.ownBlock ≠ some g) : Inner base w (hs ++ [x]) (t ++ [y]) := by
  have hl := h.len
  refine ⟨by simp [hl], fun i h1 h2 => ?_, fun i j h1 h2 hij g hg => ?_⟩
  · by_cases q : i < hs.length
    · rw [List.getElem_append_left q, List.getElem_append_left (by omega)]; exact h.at_ i q (by omega)
    · have : i = hs.length := by simp at h1; omega
      subst this
      rw [show (hs ++ [x])[hs.length]'h1 = x by simp, show (t ++ [y])[hs.length]'h2 = y by rw [List.getElem_append_right (by omega)]; simp [hl]]
      exact hxy
  · by_cases q : i < hs.length
    · rw [List.getElem_append_left q] at hg
      by_cases r : j < hs.length
      · rw [List.getElem_append_left r]; exact h.apart i j q r hij g hg
      · have : j = hs.length := by simp at h2; omega
        subst this
        simpa using hn i q g hg
    · have : i = hs.length := by simp at h1; omega
      subst this
      by_cases r : j < hs.length
      · rw [List.getElem_append_left r]
        have hg' : x.val.ownBlock = some g := by simpa using hg
        exact fun e => hn j r g e hg'
      · exact absurd (show hs.length = j by simp at h2; omega) hij
/-- A tent whose memory is all its own, from base on. -/
def TentO (base : Nat) (w : World) (v : Value) (t : List Head) : Prop := ∃ hs : List HeadV, OwnL (fun _ => False) base 89 w v hs ∧ Inner base w hs t
theorem rep_of_own {α : Type} [Rep α] {S : Nat → Prop} {base : Nat} {e : TypeId} {w : World} {v : Value} {l : List α} (h : OwnL S base e w v l) {i : Nat} (hi : i < l.length) : ∃ cs, Rep.rep (avoid S v) w cs l[i] := by
  obtain ⟨xs, _, h2⟩ := h; exact ⟨_, h2 i hi⟩
/-- A list read in another way. -/
theorem sl_map {α β : Type} [Rep α] [Rep β] (hk : Rep.k α = Rep.k β) {S T : Nat → Prop} {w : World} {v : Value} {l : List α} {m : List β} (h : SL S w v l) (hl : m.length = l.length) (hT : ∀ j, j < w.heap.size → T j → S j)
    (hr : ∀ i (h1 : i < l.length) (h2 : i < m.length) cs, Rep.rep S w cs l[i] → Rep.rep T w cs m[i]) : SL T w v m := by
  obtain ⟨p, c, b, o, hv, hc, hm, hp, ha⟩ := h
  refine ⟨p, c, b, o, by rw [hl]; exact hv, by omega, by omega, fun h0 => hp (by omega), fun i hi => ?_⟩
  obtain ⟨h1, h2, cs, h3, h4⟩ := ha i (by omega)
  exact ⟨h1, fun ht => h2 (hT b h1 ht), cs, hr i (by omega) hi cs h3, by rw [← hk]; exact h4⟩
theorem TentO.own {base : Nat} {w : World} {v : Value} {t : List Head} (h : TentO base w v t) {S : Nat → Prop} (hS : ∀ j, base ≤ j → j < w.heap.size → ¬ S j) : ∃ hs, OwnL S base 89 w v hs ∧ Inner base w hs t := by
  obtain ⟨hs, ⟨xs, h1, h2⟩, hi⟩ := h
  refine ⟨hs, ⟨xs, h1, fun i hx => ⟨(h2 i hx).1, fun g hg => ⟨((h2 i hx).2 g hg).1, fun ha => ?_⟩⟩⟩, hi⟩
  rcases ha with ha | ha
  · have := hi.lt hx hg
    exact hS g this.1 this.2 ha
  · exact ((h2 i hx).2 g hg).2 (.inr ha)
theorem TentO.sl {base : Nat} {w : World} {v : Value} {t : List Head} (h : TentO base w v t) {S : Nat → Prop} (hS : ∀ j, base ≤ j → j < w.heap.size → ¬ S j) : SL S w v t := by
  obtain ⟨hs, ho, hi⟩ := h.own hS
  refine sl_map (l := hs) (m := t) (show Rep.k HeadV = Rep.k Head from rfl) (ho.sl hS) hi.len.symm (fun _ _ h => h) fun i h1 h2 cs hr => ?_
  obtain ⟨a1, a2, a3⟩ := hi.at_ i h1 h2
  exact ⟨_, by rw [hr.1, a1, a2], (ownL_flat S a3).slb fun g hg => (hr.2 g hg).2⟩
theorem TentO.step {base : Nat} {w w' : World} {v : Value} {t : List Head} (h : TentO base w v t) (k : Step w w') : TentO base w' v t := by
  obtain ⟨hs, ho, hi⟩ := h
  exact ⟨hs, ho.step k, hi.step k⟩
theorem infoHead : (Try.prog.info? 89).map (fun i => (i.zero, i.size, i.bytes)) = some (some (.agg #[.int .i64 0, .int .i64 0, .slice none 0 0]), 3, 40) := by kernel_rfl
theorem eiHeads : EI Try.prog 38 89 (.agg #[.int .i64 0, .int .i64 0, .slice none 0 0]) 3 40 := .mk' Try.underlying38 infoHead rfl
theorem infoGuy : (Try.prog.info? 91).map (fun i => (i.zero, i.size, i.bytes)) = some (some (.agg #[.int .i64 0, .int .i64 0, .int .i64 0, .int .i64 0, .int .i64 0]), 5, 40) := by kernel_rfl
theorem eiGuys : EI Try.prog 87 91 (.agg #[.int .i64 0, .int .i64 0, .int .i64 0, .int .i64 0, .int .i64 0]) 5 40 := .mk' Try.underlying87 infoGuy rfl
/-- At most 15 heads of 10 guys. -/
def fewT (t : List Head) : Prop := t.length ≤ 15 ∧ ∀ i (h : i < t.length), t[i].guys.length ≤ 10
set_option maxRecDepth 100000 in
set_option maxHeartbeats 8000000 in
theorem TentO_any (S : Nat → Prop) (t : List Head) (v : Value) (w : World) (hv : SL S w v t) (hn : fewT t) :
    Calls Try.prog 19 #[v] w fun e w' => ∃ v', e = .returned v' ∧ TentO w.heap.size w' v' t ∧ Step w w' := by
  obtain ⟨pt, ct, b, o, rfl, _, hm, hp, hc, hb⟩ := hv.heads
  have HP := Lib.hid (And.intro hp hc)
  have HN := Lib.hid hn
  clear hp hc hb hv hn
  go_enter Try.func19, Try.ntmps19
  go_wp2
  go_loopw [3, 4] (fun out i wr => ∃ (k : Nat) (hs : List HeadV), k ≤ t.length ∧ i = .int .i64 k ∧ OwnL (fun _ => False) w.heap.size 89 wr out hs ∧ Inner w.heap.size wr hs (t.take k) ∧ Below w.heap.size w wr) (fun _ i _ => t.length - (intOf i).toNat)
  case atStart => exact ⟨0, [], Nat.zero_le _, rfl, OwnL.nil _ _ _ _, Inner.nil _ _, Below.refl _ _⟩
  case round =>
    obtain ⟨k, hs, hk, rfl, hown, hin, hB⟩ := hrel
    have hlen : hs.length = k := by rw [hin.len, List.length_take]; omega
    obtain ⟨po, co, rfl, _⟩ := hown.form
    have HO := Lib.hid hown
    have HI := Lib.hid hin
    have HB := Lib.hid hB
    have HT := Lib.hid (Step.of hB)
    have HL := Lib.hid hlen
    clear hown hin hB hlen
    by_cases hlt : k < t.length
    · obtain rfl := HP.out.1 (by omega)
      obtain ⟨c2, e1, e2, e3, e4⟩ := HP.out.2 k hlt
      have e1 := HT.out.keeps.cell id e1
      have e2 := HT.out.keeps.cell id e2
      have hix : (0 : Int) ≤ (k : Int) ∧ (k : Int) < (t.length : Int) := by omega
      have hg10 := HN.out.2 k hlt
      obtain ⟨h, hh⟩ : ∃ h, h = t[k] := ⟨_, rfl⟩
      rw [← hh] at e1 e2 e4 hg10
      have HH := Lib.hid hh
      obtain ⟨pg, cg, bg, og, rfl, _, _, hpg, hcg, _⟩ := e4.guys
      have HG := Lib.hid (And.intro hpg hcg)
      have HE3 := Lib.hid (HT.out.keeps.cell id e3)
      clear hh e4 hpg hcg e3
      obtain ⟨wo, hwo⟩ : ∃ W, W = wr := ⟨_, rfl⟩
      subst hwo
      go_upto_region 5 with (fail)
      have HSZ0 := Lib.hid (HT.out.size)
      refine wp_region_seq (kdOf [] [(11, 89, .agg #[.int .i64 0, .int .i64 0, .slice none 0 0])]) [0, 0, 3, 7, 15, 0, 0, 96, 224, 480, 1023, 0, 4095] [0, 1, 2, 3, 4, 5, 6, 7, 8, 9, 10, 11] [12] (by kernel_rfl) (by kernel_rfl) (fun i T z hi hk => by simp only [List.mem_cons, List.not_mem_nil, or_false] at hi; rcases hi with rfl | rfl | rfl | rfl | rfl | rfl | rfl | rfl | rfl | rfl | rfl | rfl <;> simp [kdOf] at hk <;> (obtain ⟨rfl, rfl⟩ := hk; first | (show Option.bind _ _ = some _; kernel_rfl) | (refine ⟨_, rfl, fun _ _ => ?_⟩; go_simp))) ?_
      intro Wx hWx
      have HWx := Lib.hid hWx
      have e1 := hWx.keeps.cell id e1
      have e2 := hWx.keeps.cell id e2
      clear hWx
      repeat (first | (refine run_off rfl rfl (by rfl) ?_; (try simp only [Act.put, List.setIfInBounds_toArray, List.set_cons_zero, List.set_cons_succ])) | (refine run_chain_off rfl rfl (by rfl) (K0_mono _) ?_; (try simp only [Act.put, List.setIfInBounds_toArray, List.set_cons_zero, List.set_cons_succ])) | ((refine run_want rfl rfl (by rfl) ⟨?_, fun W hW => ?_, ?_⟩; rotate_left; (· (have d0 := hW.keeps.cell id e1; have d1 := hW.keeps.cell id e2; go_simp; (try with_reducible rfl)))); (try simp only [Act.put, List.setIfInBounds_toArray, List.set_cons_zero, List.set_cons_succ])))
      refine run_alloc rfl rfl (fun W5 g hW5 hg hgb hgN => ?_)
      (try simp only [Act.put, List.setIfInBounds_toArray, List.set_cons_zero, List.set_cons_succ])
      refine run_end (L := [_]) rfl (fun W6 hW6 => ?_)
      have hb6 := Bx.step (w := W5) (cs := [_, _, _]) hg hW6
      refine wpl_store (v := .agg #[.int .i64 h.area, .int .i64 h.bears, .slice none 0 0]) rfl _ _ _ rfl rfl rfl hb6 (by kernel_rfl) (by simp [Value.cells]) (by simp [Value.cells, Value.oneCell']) [.int .i64 h.area, .int .i64 h.bears, .slice none 0 0] rfl (fun w7 hb7 hw7 => ?_)
      have hs7 := Step.wrote ((HWx.out.trans hW5).trans hW6) hw7 hgb
      have HS7 := Lib.hid hs7
      have HB7 := Lib.hid hb7
      have HGB := Lib.hid hgb
      clear hW5 hg hgb hgN hW6 hb6 hb7 hw7 hs7 HWx e1 e2 HSZ0
      go_wp2
      go_loopw [6] (fun i wr => ∃ (j : Nat) (q : Value), j ≤ h.guys.length ∧ i = .int .i64 j ∧ Bx wr g [.int .i64 h.area, .int .i64 h.bears, q] 89 ∧ OwnL (fun _ => False) w7.heap.size 91 wr q (h.guys.take j) ∧ StepX (fun x => x = g) w7 wr) (fun i _ => h.guys.length - (intOf i).toNat)
      case atStart => exact ⟨0, _, Nat.zero_le _, rfl, HB7.out, OwnL.nil _ _ _ _, StepX.refl _ _⟩
      case round =>
        obtain ⟨j, q, hj, rfl, hbj, hoj, hX⟩ := hrel
        have HBJ := Lib.hid hbj
        have HOJ := Lib.hid hoj
        have HX := Lib.hid hX
        obtain ⟨LL, hLL⟩ : ∃ L, L = h.guys.take j := ⟨_, rfl⟩
        rw [← hLL] at hoj
        obtain ⟨pq, cq, rfl, _⟩ := hoj.form
        have HGL := Lib.hid HB7.out.lt
        have HNE := Lib.hid (show (Value.slice pq LL.length cq).ownBlock ≠ some g from fun e => by have := (hoj.lt _ e).1; have := HGL.out; omega)
        have HLL := Lib.hid hLL
        clear hbj hoj hX hLL
        have hcell : ∀ b o u, wo.cell? ⟨b, o, none⟩ = some u → wr.cell? ⟨b, o, none⟩ = some u := fun b o u hu => HX.out.keeps.cell (a := ⟨b, o, none⟩) (by have := World.block_lt_of_cell? wo _ hu; have := HGB.out; show ¬ b = g; dsimp only at *; omega) (HS7.out.keeps.cell id hu)
        have e3 := hcell _ _ _ HE3.out
        have yl := HBJ.out.lt
        have m0 := HBJ.out.cell 0
        have m1 := HBJ.out.cell 1
        have m2 := HBJ.out.cell 2
        simp only [List.getElem?_cons_zero, List.getElem?_cons_succ] at m0 m1 m2
        by_cases hltj : j < h.guys.length
        · obtain rfl := HG.out.1 (by omega)
          obtain ⟨g1, g2, g3, g4, g5⟩ := HG.out.2 j hltj
          have g1 := hcell _ _ _ (HT.out.keeps.cell id g1)
          have g2 := hcell _ _ _ (HT.out.keeps.cell id g2)
          have g3 := hcell _ _ _ (HT.out.keeps.cell id g3)
          have g4 := hcell _ _ _ (HT.out.keeps.cell id g4)
          have g5 := hcell _ _ _ (HT.out.keeps.cell id g5)
          have hjx : (0 : Int) ≤ (j : Int) ∧ (j : Int) < (h.guys.length : Int) := by omega
          obtain ⟨y, hy⟩ : ∃ y, y = h.guys[j] := ⟨_, rfl⟩
          rw [← hy] at g1 g2 g3 g4 g5
          have HY := Lib.hid hy
          clear hcell hy
          have hown2 := (HOJ.out.alloc (.cells #[.int .i64 y.x, .int .i64 y.y, .int .i64 y.down, .int .i64 y.soil, .int .i64 y.depth] 75)).alloc (.cells #[.int .i64 y.x, .int .i64 y.y, .int .i64 y.down, .int .i64 y.soil, .int .i64 y.depth] 91)
          have hu := SLe.one (S := avoid (fun _ => False) (.slice pq LL.length cq)) (w := wr.alloc (.cells #[.int .i64 y.x, .int .i64 y.y, .int .i64 y.down, .int .i64 y.soil, .int .i64 y.depth] 75)) (cs := [.int .i64 y.x, .int .i64 y.y, .int .i64 y.down, .int .i64 y.soil, .int .i64 y.depth]) (x := y) 91 rfl
          rw [World.size_alloc, show [y] = [h.guys[j]] by rw [HY.out]] at hu
          have b3 := (HBJ.out.alloc (.cells #[.int .i64 y.x, .int .i64 y.y, .int .i64 y.down, .int .i64 y.soil, .int .i64 y.depth] 75)).alloc (.cells #[.int .i64 y.x, .int .i64 y.y, .int .i64 y.down, .int .i64 y.soil, .int .i64 y.depth] 91)
          have hX2 := (HX.out.alloc' (.cells #[.int .i64 y.x, .int .i64 y.y, .int .i64 y.down, .int .i64 y.soil, .int .i64 y.depth] 75)).alloc' (.cells #[.int .i64 y.x, .int .i64 y.y, .int .i64 y.down, .int .i64 y.soil, .int .i64 y.depth] 91)
          go_wp2_with (at_builtin; refine wpl_append1 (W0 := ((wr.alloc (.cells #[.int .i64 y.x, .int .i64 y.y, .int .i64 y.down, .int .i64 y.soil, .int .i64 y.depth] 75)).alloc (.cells #[.int .i64 y.x, .int .i64 y.y, .int .i64 y.down, .int .i64 y.soil, .int .i64 y.depth] 91))) (l := h.guys) (k := j) eiGuys rfl _ _ rfl rfl rfl hown2 hltj (by omega) (by decide) hu (Below.refl _ _) hX2.size ?_)
          intro p' c' w3 hown3 _ hg
          have b4 := b3.keep (S := fun j => (Value.slice pq LL.length cq).ownBlock = some j) (.grown hg fun j hj _ => hj) HNE.out
          have m0 := b4.cell 0
          have m1 := b4.cell 1
          have m2 := b4.cell 2
          simp only [List.getElem?_cons_zero, List.getElem?_cons_succ] at m0 m1 m2
          have z2 := b4.frozen 2
          have yl := b4.lt
          have hX3 : StepX (fun x => x = g) w7 w3 := hX2.over (X := fun j => (Value.slice pq LL.length cq).ownBlock = some j) (.grown hg fun j hj _ => hj) fun j hj => .inl (HOJ.out.lt j hj).1
          have hn3 : (Value.slice p' (j + 1) c').ownBlock ≠ some g := fun e => by have := (hown3.lt _ e).1; have := HGL.out; omega
          have H3 := Lib.hid (And.intro hown3 (And.intro b4 (And.intro hX3 hn3)))
          clear hown2 hu b3 hX2 hown3 hg b4 hX3 hn3 g1 g2 g3 g4 g5 e3
          go_wp2
          go_roundw
          case rel => exact ⟨j + 1, _, by omega, by go_num, H3.out.2.1.setCell 2 _, ownL_flat _ ((ownL_flat (fun j => j = g) H3.out.1).wrote (.setCell _ _ _ _) rfl H3.out.2.2.2), H3.out.2.2.1.setCell ⟨g, 2, none⟩ _ rfl⟩
          case measure => simp [intOf]; omega
        · have HN2 := Lib.hid (show LL = h.guys by rw [HLL.out, List.take_of_length_le (by omega)])
          have hst := StepX.fresh HS7.out HX.out (fun j hj => by have := HGB.out; omega)
          have hs0 := hst
          have ho2 := HO.out.step hst
          have hi2 := HI.out.step hst
          have hB2 := HB.out.step (Nat.le_refl _) hst
          have hog := HOJ.out
          rw [← HLL.out, HN2.out] at hog
          rw [HN2.out] at m2
          have hrep : Rep.rep (avoid (fun _ => False) (.slice po hs.length co)) wr [.int .i64 h.area, .int .i64 h.bears, .slice pq h.guys.length cq] (⟨h.area, h.bears, pq, h.guys.length, cq⟩ : HeadV) := ⟨rfl, fun g' hg' => ⟨(hog.lt g' hg').2, fun ha => by
            rcases ha with ha | ha
            · exact ha
            · have h1 := (HO.out.lt g' ha).2
              have h2 := (hog.lt g' hg').1
              have h3 := HS7.out.size
              omega⟩⟩
          have hu := SLe.one (S := avoid (fun _ => False) (.slice po hs.length co)) (w := wr) 89 hrep
          have ho3 := ho2.alloc (.cells #[.int .i64 h.area, .int .i64 h.bears, .slice pq h.guys.length cq] 89)
          have hs1 := hs0.trans (Step.alloc wr (.cells #[.int .i64 h.area, .int .i64 h.bears, .slice pq h.guys.length cq] 89))
          have hi3 := (hi2.step (Step.alloc wr (.cells #[.int .i64 h.area, .int .i64 h.bears, .slice pq h.guys.length cq] 89))).snoc (x := ⟨h.area, h.bears, pq, h.guys.length, cq⟩) (y := h) ⟨rfl, rfl, (ownL_base hog (Nat.le_trans HB.out.size HS7.out.size)).alloc _⟩ (fun i h1 g' hg' e => by
            have h2 := (HI.out.lt h1 hg').2
            have h3 := (hog.lt g' e).1
            have h4 := HS7.out.size
            omega)
          have hbz : w.heap.size ≤ (wr.alloc (.cells #[.int .i64 h.area, .int .i64 h.bears, .slice pq h.guys.length cq] 89)).heap.size := by have := hB2.size; simp; omega
          have hl15 := HN.out.1
          have hap : ∀ i (h1 : i < (hs ++ [(⟨h.area, h.bears, pq, h.guys.length, cq⟩ : HeadV)]).length) g', (hs ++ [(⟨h.area, h.bears, pq, h.guys.length, cq⟩ : HeadV)])[i].val.ownBlock = some g' → (Value.slice po hs.length co).ownBlock ≠ some g' := fun i h1 g' hg' e => by
            by_cases q : i < hs.length
            · rw [List.getElem_append_left q] at hg'
              obtain ⟨cs, hr⟩ := rep_of_own ho3 q
              exact (hr.2 g' hg').2 (.inr e)
            · have : i = hs.length := by simp at h1; omega
              subst this
              exact (hrep.2 g' (by simpa using hg')).2 (.inr e)
          have HA := Lib.hid (And.intro hi3 hap)
          have HB3 := Lib.hid (hB2.step (Nat.le_refl _) (Step.alloc wr (.cells #[.int .i64 h.area, .int .i64 h.bears, .slice pq h.guys.length cq] 89)))
          clear hst hs0 ho2 hi2 hB2 hog hi3 hap hs1 hcell hrep
          go_wp2_with (at_builtin; refine wpl_append (S := fun _ => False) (base := w.heap.size) (v := .slice po hs.length co) (l := hs) (m := [⟨h.area, h.bears, pq, h.guys.length, cq⟩]) eiHeads rfl _ _ rfl rfl rfl ho3 hu (hs.length + 1) (by simp) _ rfl (by have := HL.out; simp only [maxLen]; omega) (by have := HL.out; omega) hbz ?_)
          intro p' c' w5 hown3 hg
          have HF := Lib.hid (And.intro hown3 (And.intro (HA.out.1.grown hg HA.out.2) (HB3.out.grown hg hbz (fun j hj => (ho3.lt j hj).1))))
          clear ho3 hu hbz hown3 hg m0 m1 m2 yl e3
          go_wp2
          go_roundw
          case rel =>
            refine ⟨k + 1, hs ++ [⟨h.area, h.bears, pq, h.guys.length, cq⟩], by omega, by go_num, ?_, ?_, HF.out.2.2⟩
            · have h1 := HF.out.1
              simpa using h1
            · have h1 := HF.out.2.1
              rw [List.take_succ_eq_append_getElem hlt, ← HH.out]
              exact h1
          case measure => simp [intOf]; omega
    · have HN2 := Lib.hid (show t.take k = t by rw [List.take_of_length_le (by omega)])
      have hi := HI.out
      rw [HN2.out] at hi
      have HI2 := Lib.hid hi
      clear hi
      go_wp2
      go_ret
      exact ⟨_, rfl, ⟨hs, HO.out, HI2.out⟩, HT.out⟩
end Go.Proofs.Ytdcjbbeoocldeaa
/- Walks: the tent of the document's examples. -/
namespace Go.Proofs.Ytdcjbbeoocldeaa
set_option linter.unusedSimpArgs false
set_option linter.unusedVariables false
open Go.RowKit Go.BT

set_option maxRecDepth 100000 in
set_option maxHeartbeats 8000000 in
theorem four_any (w : World) : Calls Try.prog 56 #[] w fun e w' => ∃ v', e = .returned v' ∧ SL (Old w) w' v' fourL ∧ Step w w' := by
  obtain ⟨w1, hw1⟩ : ∃ W, W = w.alloc (.cells #[.int .i64 100, .int .i64 2000, .slice none 0 0] 89) := ⟨_, rfl⟩
  have HB := Lib.hid (show Bx w1 w.heap.size [.int .i64 100, .int .i64 2000, .slice none 0 0] 89 by subst hw1; exact Bx.new w [_, _, _] _)
  have HS := Lib.hid (show Step w w1 by subst hw1; exact Step.alloc _ _)
  have HZ := Lib.hid (show w1.heap.size = w.heap.size + 1 by subst hw1; simp)
  have HW := Lib.hid hw1
  clear hw1
  go_enter Try.func56, Try.ntmps56
  go_wp2
  rw [← HW.out]
  go_loopw [2] (fun i wr => ∃ (j : Nat) (q : Value), j ≤ 4 ∧ i = .int .i64 j ∧ Bx wr w.heap.size [.int .i64 100, .int .i64 2000, q] 89 ∧ OwnL (fun _ => False) w1.heap.size 91 wr q (fourG.take j) ∧ StepX (fun x => x = w.heap.size) w1 wr) (fun i _ => 4 - (intOf i).toNat)
  case atStart => exact ⟨0, _, Nat.zero_le _, rfl, HB.out, OwnL.nil _ _ _ _, StepX.refl _ _⟩
  case round =>
    obtain ⟨j, q, hj, rfl, hbj, hoj, hX⟩ := hrel
    have HBJ := Lib.hid hbj
    have HOJ := Lib.hid hoj
    have HX := Lib.hid hX
    obtain ⟨LL, hLL⟩ : ∃ L, L = fourG.take j := ⟨_, rfl⟩
    rw [← hLL] at hoj
    obtain ⟨pq, cq, rfl, _⟩ := hoj.form
    have HNE := Lib.hid (show (Value.slice pq LL.length cq).ownBlock ≠ some w.heap.size from fun e => by have := (hoj.lt _ e).1; have := HZ.out; omega)
    have HLL := Lib.hid hLL
    clear hbj hoj hX hLL
    have yl := HBJ.out.lt
    have m0 := HBJ.out.cell 0
    have m1 := HBJ.out.cell 1
    have m2 := HBJ.out.cell 2
    simp only [List.getElem?_cons_zero, List.getElem?_cons_succ] at m0 m1 m2
    by_cases hlt : j < 4
    · have h4 : j = 0 ∨ j = 1 ∨ j = 2 ∨ j = 3 := by omega
      rcases h4 with rfl | rfl | rfl | rfl
      · rw [show ((0 : Nat) : Int) = 0 from rfl]
        have ix0 : ∀ w : World, (Instr.index 149 (.agg #[.int .i64 1000, .int .i64 0, .int .i64 0, .int .i64 1000, .int .i64 (-1000), .int .i64 0, .int .i64 0, .int .i64 (-1000)]) (.int .i64 0)).run Try.prog w = .ok (.agg #[.int .i64 1000, .int .i64 0]) w := fun _ => by kernel_rfl
        have hown2 := (HOJ.out.alloc (.cells #[.int .i64 1000, .int .i64 0] 40)).alloc (.cells #[.int .i64 1000, .int .i64 0, .int .i64 600, .int .i64 0, .int .i64 700] 91)
        have hu := SLe.one (S := avoid (fun _ => False) (.slice pq LL.length cq)) (w := wr.alloc (.cells #[.int .i64 1000, .int .i64 0] 40)) (cs := [.int .i64 1000, .int .i64 0, .int .i64 600, .int .i64 0, .int .i64 700]) (x := fourG[0]) 91 rfl
        rw [World.size_alloc] at hu
        have b3 := (HBJ.out.alloc (.cells #[.int .i64 1000, .int .i64 0] 40)).alloc (.cells #[.int .i64 1000, .int .i64 0, .int .i64 600, .int .i64 0, .int .i64 700] 91)
        have hX2 := (HX.out.alloc' (.cells #[.int .i64 1000, .int .i64 0] 40)).alloc' (.cells #[.int .i64 1000, .int .i64 0, .int .i64 600, .int .i64 0, .int .i64 700] 91)
        go_wp2_with (at_builtin; refine wpl_append1 (W0 := ((wr.alloc (.cells #[.int .i64 1000, .int .i64 0] 40)).alloc (.cells #[.int .i64 1000, .int .i64 0, .int .i64 600, .int .i64 0, .int .i64 700] 91))) (l := fourG) (k := 0) eiGuys rfl _ _ rfl rfl rfl hown2 (by decide) (by decide) (by decide) hu (Below.refl _ _) hX2.size ?_)
        intro p' c' w3 hown3 _ hg
        have b4 := b3.keep (S := fun j => (Value.slice pq LL.length cq).ownBlock = some j) (.grown hg fun j hj _ => hj) HNE.out
        have m0 := b4.cell 0
        have m1 := b4.cell 1
        have m2 := b4.cell 2
        simp only [List.getElem?_cons_zero, List.getElem?_cons_succ] at m0 m1 m2
        have z2 := b4.frozen 2
        have yl := b4.lt
        have hX3 : StepX (fun x => x = w.heap.size) w1 w3 := hX2.over (X := fun j => (Value.slice pq LL.length cq).ownBlock = some j) (.grown hg fun j hj _ => hj) fun j hj => .inl (HOJ.out.lt j hj).1
        have hn3 : (Value.slice p' (0 + 1) c').ownBlock ≠ some w.heap.size := fun e => by have := (hown3.lt _ e).1; have := HZ.out; omega
        have H3 := Lib.hid (And.intro hown3 (And.intro b4 (And.intro hX3 hn3)))
        clear hown2 hu b3 hX2 hown3 hg b4 hX3 hn3
        go_wp2
        go_roundw
        case rel => exact ⟨0 + 1, _, by omega, by go_num, H3.out.2.1.setCell 2 _, ownL_flat _ ((ownL_flat (fun j => j = w.heap.size) H3.out.1).wrote (.setCell _ _ _ _) rfl H3.out.2.2.2), H3.out.2.2.1.setCell ⟨w.heap.size, 2, none⟩ _ rfl⟩
        case measure => simp [intOf]
      · rw [show ((1 : Nat) : Int) = 1 from rfl]
        have ix1 : ∀ w : World, (Instr.index 149 (.agg #[.int .i64 1000, .int .i64 0, .int .i64 0, .int .i64 1000, .int .i64 (-1000), .int .i64 0, .int .i64 0, .int .i64 (-1000)]) (.int .i64 1)).run Try.prog w = .ok (.agg #[.int .i64 0, .int .i64 1000]) w := fun _ => by kernel_rfl
        have hown2 := (HOJ.out.alloc (.cells #[.int .i64 0, .int .i64 1000] 40)).alloc (.cells #[.int .i64 0, .int .i64 1000, .int .i64 600, .int .i64 0, .int .i64 700] 91)
        have hu := SLe.one (S := avoid (fun _ => False) (.slice pq LL.length cq)) (w := wr.alloc (.cells #[.int .i64 0, .int .i64 1000] 40)) (cs := [.int .i64 0, .int .i64 1000, .int .i64 600, .int .i64 0, .int .i64 700]) (x := fourG[1]) 91 rfl
        rw [World.size_alloc] at hu
        have b3 := (HBJ.out.alloc (.cells #[.int .i64 0, .int .i64 1000] 40)).alloc (.cells #[.int .i64 0, .int .i64 1000, .int .i64 600, .int .i64 0, .int .i64 700] 91)
        have hX2 := (HX.out.alloc' (.cells #[.int .i64 0, .int .i64 1000] 40)).alloc' (.cells #[.int .i64 0, .int .i64 1000, .int .i64 600, .int .i64 0, .int .i64 700] 91)
        go_wp2_with (at_builtin; refine wpl_append1 (W0 := ((wr.alloc (.cells #[.int .i64 0, .int .i64 1000] 40)).alloc (.cells #[.int .i64 0, .int .i64 1000, .int .i64 600, .int .i64 0, .int .i64 700] 91))) (l := fourG) (k := 1) eiGuys rfl _ _ rfl rfl rfl hown2 (by decide) (by decide) (by decide) hu (Below.refl _ _) hX2.size ?_)
        intro p' c' w3 hown3 _ hg
        have b4 := b3.keep (S := fun j => (Value.slice pq LL.length cq).ownBlock = some j) (.grown hg fun j hj _ => hj) HNE.out
        have m0 := b4.cell 0
        have m1 := b4.cell 1
        have m2 := b4.cell 2
        simp only [List.getElem?_cons_zero, List.getElem?_cons_succ] at m0 m1 m2
        have z2 := b4.frozen 2
        have yl := b4.lt
        have hX3 : StepX (fun x => x = w.heap.size) w1 w3 := hX2.over (X := fun j => (Value.slice pq LL.length cq).ownBlock = some j) (.grown hg fun j hj _ => hj) fun j hj => .inl (HOJ.out.lt j hj).1
        have hn3 : (Value.slice p' (1 + 1) c').ownBlock ≠ some w.heap.size := fun e => by have := (hown3.lt _ e).1; have := HZ.out; omega
        have H3 := Lib.hid (And.intro hown3 (And.intro b4 (And.intro hX3 hn3)))
        clear hown2 hu b3 hX2 hown3 hg b4 hX3 hn3
        go_wp2
        go_roundw
        case rel => exact ⟨1 + 1, _, by omega, by go_num, H3.out.2.1.setCell 2 _, ownL_flat _ ((ownL_flat (fun j => j = w.heap.size) H3.out.1).wrote (.setCell _ _ _ _) rfl H3.out.2.2.2), H3.out.2.2.1.setCell ⟨w.heap.size, 2, none⟩ _ rfl⟩
        case measure => simp [intOf]
      · rw [show ((2 : Nat) : Int) = 2 from rfl]
        have ix2 : ∀ w : World, (Instr.index 149 (.agg #[.int .i64 1000, .int .i64 0, .int .i64 0, .int .i64 1000, .int .i64 (-1000), .int .i64 0, .int .i64 0, .int .i64 (-1000)]) (.int .i64 2)).run Try.prog w = .ok (.agg #[.int .i64 (-1000), .int .i64 0]) w := fun _ => by kernel_rfl
        have hown2 := (HOJ.out.alloc (.cells #[.int .i64 (-1000), .int .i64 0] 40)).alloc (.cells #[.int .i64 (-1000), .int .i64 0, .int .i64 600, .int .i64 0, .int .i64 700] 91)
        have hu := SLe.one (S := avoid (fun _ => False) (.slice pq LL.length cq)) (w := wr.alloc (.cells #[.int .i64 (-1000), .int .i64 0] 40)) (cs := [.int .i64 (-1000), .int .i64 0, .int .i64 600, .int .i64 0, .int .i64 700]) (x := fourG[2]) 91 rfl
        rw [World.size_alloc] at hu
        have b3 := (HBJ.out.alloc (.cells #[.int .i64 (-1000), .int .i64 0] 40)).alloc (.cells #[.int .i64 (-1000), .int .i64 0, .int .i64 600, .int .i64 0, .int .i64 700] 91)
        have hX2 := (HX.out.alloc' (.cells #[.int .i64 (-1000), .int .i64 0] 40)).alloc' (.cells #[.int .i64 (-1000), .int .i64 0, .int .i64 600, .int .i64 0, .int .i64 700] 91)
        go_wp2_with (at_builtin; refine wpl_append1 (W0 := ((wr.alloc (.cells #[.int .i64 (-1000), .int .i64 0] 40)).alloc (.cells #[.int .i64 (-1000), .int .i64 0, .int .i64 600, .int .i64 0, .int .i64 700] 91))) (l := fourG) (k := 2) eiGuys rfl _ _ rfl rfl rfl hown2 (by decide) (by decide) (by decide) hu (Below.refl _ _) hX2.size ?_)
        intro p' c' w3 hown3 _ hg
        have b4 := b3.keep (S := fun j => (Value.slice pq LL.length cq).ownBlock = some j) (.grown hg fun j hj _ => hj) HNE.out
        have m0 := b4.cell 0
        have m1 := b4.cell 1
        have m2 := b4.cell 2
        simp only [List.getElem?_cons_zero, List.getElem?_cons_succ] at m0 m1 m2
        have z2 := b4.frozen 2
        have yl := b4.lt
        have hX3 : StepX (fun x => x = w.heap.size) w1 w3 := hX2.over (X := fun j => (Value.slice pq LL.length cq).ownBlock = some j) (.grown hg fun j hj _ => hj) fun j hj => .inl (HOJ.out.lt j hj).1
        have hn3 : (Value.slice p' (2 + 1) c').ownBlock ≠ some w.heap.size := fun e => by have := (hown3.lt _ e).1; have := HZ.out; omega
        have H3 := Lib.hid (And.intro hown3 (And.intro b4 (And.intro hX3 hn3)))
        clear hown2 hu b3 hX2 hown3 hg b4 hX3 hn3
        go_wp2
        go_roundw
        case rel => exact ⟨2 + 1, _, by omega, by go_num, H3.out.2.1.setCell 2 _, ownL_flat _ ((ownL_flat (fun j => j = w.heap.size) H3.out.1).wrote (.setCell _ _ _ _) rfl H3.out.2.2.2), H3.out.2.2.1.setCell ⟨w.heap.size, 2, none⟩ _ rfl⟩
        case measure => simp [intOf]
      · rw [show ((3 : Nat) : Int) = 3 from rfl]
        have ix3 : ∀ w : World, (Instr.index 149 (.agg #[.int .i64 1000, .int .i64 0, .int .i64 0, .int .i64 1000, .int .i64 (-1000), .int .i64 0, .int .i64 0, .int .i64 (-1000)]) (.int .i64 3)).run Try.prog w = .ok (.agg #[.int .i64 0, .int .i64 (-1000)]) w := fun _ => by kernel_rfl
        have hown2 := (HOJ.out.alloc (.cells #[.int .i64 0, .int .i64 (-1000)] 40)).alloc (.cells #[.int .i64 0, .int .i64 (-1000), .int .i64 600, .int .i64 0, .int .i64 700] 91)
        have hu := SLe.one (S := avoid (fun _ => False) (.slice pq LL.length cq)) (w := wr.alloc (.cells #[.int .i64 0, .int .i64 (-1000)] 40)) (cs := [.int .i64 0, .int .i64 (-1000), .int .i64 600, .int .i64 0, .int .i64 700]) (x := fourG[3]) 91 rfl
        rw [World.size_alloc] at hu
        have b3 := (HBJ.out.alloc (.cells #[.int .i64 0, .int .i64 (-1000)] 40)).alloc (.cells #[.int .i64 0, .int .i64 (-1000), .int .i64 600, .int .i64 0, .int .i64 700] 91)
        have hX2 := (HX.out.alloc' (.cells #[.int .i64 0, .int .i64 (-1000)] 40)).alloc' (.cells #[.int .i64 0, .int .i64 (-1000), .int .i64 600, .int .i64 0, .int .i64 700] 91)
        go_wp2_with (at_builtin; refine wpl_append1 (W0 := ((wr.alloc (.cells #[.int .i64 0, .int .i64 (-1000)] 40)).alloc (.cells #[.int .i64 0, .int .i64 (-1000), .int .i64 600, .int .i64 0, .int .i64 700] 91))) (l := fourG) (k := 3) eiGuys rfl _ _ rfl rfl rfl hown2 (by decide) (by decide) (by decide) hu (Below.refl _ _) hX2.size ?_)
        intro p' c' w3 hown3 _ hg
        have b4 := b3.keep (S := fun j => (Value.slice pq LL.length cq).ownBlock = some j) (.grown hg fun j hj _ => hj) HNE.out
        have m0 := b4.cell 0
        have m1 := b4.cell 1
        have m2 := b4.cell 2
        simp only [List.getElem?_cons_zero, List.getElem?_cons_succ] at m0 m1 m2
        have z2 := b4.frozen 2
        have yl := b4.lt
        have hX3 : StepX (fun x => x = w.heap.size) w1 w3 := hX2.over (X := fun j => (Value.slice pq LL.length cq).ownBlock = some j) (.grown hg fun j hj _ => hj) fun j hj => .inl (HOJ.out.lt j hj).1
        have hn3 : (Value.slice p' (3 + 1) c').ownBlock ≠ some w.heap.size := fun e => by have := (hown3.lt _ e).1; have := HZ.out; omega
        have H3 := Lib.hid (And.intro hown3 (And.intro b4 (And.intro hX3 hn3)))
        clear hown2 hu b3 hX2 hown3 hg b4 hX3 hn3
        go_wp2
        go_roundw
        case rel => exact ⟨3 + 1, _, by omega, by go_num, H3.out.2.1.setCell 2 _, ownL_flat _ ((ownL_flat (fun j => j = w.heap.size) H3.out.1).wrote (.setCell _ _ _ _) rfl H3.out.2.2.2), H3.out.2.2.1.setCell ⟨w.heap.size, 2, none⟩ _ rfl⟩
        case measure => simp [intOf]
    · obtain rfl : j = 4 := by omega
      have HN := Lib.hid (show LL = fourG by rw [HLL.out]; rfl)
      have hsl := (ownL_flat (Old w) HOJ.out).slb fun g hg hs => by have := (HOJ.out.lt g hg).1; have := HZ.out; unfold Old at hs; omega
      rw [← HLL.out, HN.out] at hsl
      rw [HN.out] at m2
      have hrep : Rep.rep (Old w) wr [.int .i64 100, .int .i64 2000, .slice pq fourG.length cq] fourH := ⟨_, rfl, hsl⟩
      have hst : Step w wr := StepX.fresh HS.out HX.out (fun j hj => by omega)
      have h1 := SL.one (S := Old w) (w := wr) (x := fourH) 89 hrep (fun h => by have := hst.size; unfold Old at h; omega)
      have H1 := Lib.hid (And.intro h1 (hst.trans (Step.alloc wr (.cells #[.int .i64 100, .int .i64 2000, .slice pq fourG.length cq] 89))))
      clear hsl hrep hst h1
      rw [show ((4 : Nat) : Int) = 4 from rfl]
      go_wp2
      go_ret
      exact ⟨_, rfl, H1.out.1, H1.out.2⟩
end Go.Proofs.Ytdcjbbeoocldeaa
/- Walks: the law's wakes: it is true. -/
namespace Go.Proofs.Ytdcjbbeoocldeaa
set_option linter.unusedSimpArgs false
set_option linter.unusedVariables false
open Go.RowKit Go.BT

theorem equal_range (a b c d : Int) (w : World) : (Op.equal 105 (.agg #[.int .i64 a, .int .i64 b]) (.agg #[.int .i64 c, .int .i64 d])).run Try.prog w = .ok (a == c && b == d) w := by
  unfold Op.equal Op.maxDepth
  rw [run_equalIn_agg (w := w) 9999 105 _ _ (by kernel_rfl) (by kernel_rfl)]
  have hf : (Try.prog.fieldsOf 105).toList.map (fun f => (f.name, f.type, f.offset)) = [("Lo", 3, 0), ("Hi", 3, 1)] := by kernel_rfl
  obtain ⟨f, g, hfg⟩ : ∃ f g, (Try.prog.fieldsOf 105).toList = [f, g] := by
    cases hl : (Try.prog.fieldsOf 105).toList with
    | nil => simp [hl] at hf
    | cons f l =>
      cases l with
      | nil => simp [hl] at hf
      | cons g l =>
        cases l with
        | nil => exact ⟨f, g, rfl⟩
        | cons _ _ => simp [hl] at hf
  rw [hfg] at hf ⊢
  simp only [List.map_cons, List.map_nil, List.cons.injEq, Prod.mk.injEq, and_true] at hf
  obtain ⟨⟨n1, t1, o1⟩, n2, t2, o2⟩ := hf
  have hi : Try.prog.underlying 3 = some (.int .i64) := by kernel_rfl
  simp [Op.eqFields, n1, n2, t1, t2, o1, o2, hi, part, run_underlying hi]
  have hq : ∀ (a b : Int) (w : World), (Op.equalIn 9999 3 (.int .i64 a) (.int .i64 b)).run Try.prog w = .ok (a == b) w := fun a b w => run_equalIn_int (w := w) 9998 _ _ .i64 _ _ hi
  simp only [hq, Result.andThen_ok]
  cases a == c <;> cases b == d <;> simp [Result.andThen]
theorem eql_range (a b c d : Int) (w : World) : (binOp .eql 105 (.agg #[.int .i64 a, .int .i64 b]) (.agg #[.int .i64 c, .int .i64 d])).run Try.prog w = .ok (.bool (veq a b c d)) w := by
  have h := equal_range a b c d w
  unfold Op.equal Op.maxDepth at h
  rw [run_eql_struct, h]
  rfl
theorem wk_parts : partsC soilL fourL = 0 := by unfold partsC readyC; rw [four_tests, four_tent, if_pos rfl, if_pos rfl, four_sound]
theorem wk_row : rowL soilL fourH = [56, 56, 56, 56] := by
  unfold rowL fourH fourG
  simp only [List.map_cons, List.map_nil]
  rw [four_part _ (by decide) rfl rfl, four_part _ (by decide) rfl rfl, four_part _ (by decide) rfl rfl, four_part _ (by decide) rfl rfl]
theorem wk_partsR : partsR soilL fourL = [[56, 56, 56, 56]] := by
  unfold partsR
  rw [if_pos wk_parts]
  unfold partsLL fourL
  rw [List.map_cons, List.map_nil, wk_row]
theorem wk_at : atC soilL fourL 0 true = 0 := by
  unfold atC readyC
  rw [four_tests, if_pos rfl, four_tent, if_pos rfl, if_pos (by decide), four_sound]
theorem wk_head : headAt fourL 0 = fourH := rfl
theorem wk_F : headF soilL fourL 0 = fourF := by unfold headF; rw [wk_head]; exact four_forces
theorem wk_P (p : Vec) : headP fourL 0 p = timesV p 100 := rfl
def wkB : Bal := ⟨3136000000, [1680000000, 0, 0, 560000000]⟩
theorem wk_balC : balC soilL fourL 0 ⟨-300, 100⟩ = 0 := by
  unfold balC
  rw [show cornerB ⟨-300, 100⟩ = true by decide, wk_at, if_pos rfl, wk_F, wk_P, four_search, if_pos rfl]
theorem wk_balR : balR soilL fourL 0 ⟨-300, 100⟩ = wkB := by
  unfold balR
  rw [wk_balC, if_pos rfl, wk_F, wk_P, four_search]; rfl
theorem wk_prove : proveBalL soilL fourL 0 ⟨-300, 100⟩ wkB = true := by
  unfold proveBalL
  rw [show cornerB ⟨-300, 100⟩ = true by decide, wk_at, wk_F, wk_P]
  exact four_prove
theorem wk_way : wayB ⟨3, 4⟩ = true := by decide
theorem wk_reach {k : Int} (h : atC soilL fourL 0 (wayB ⟨3, 4⟩) = 0 → IsReach (forcesL soilL (headAt fourL 0).guys) (timesV ⟨3, 4⟩ (headAt fourL 0).area) k) : k = 140 := by
  rw [wk_way] at h
  have := h wk_at
  rw [wk_head, show fourH.guys = fourG from rfl, four_forces] at this
  exact this.unique four_reach
set_option maxRecDepth 100000 in
set_option maxHeartbeats 8000000 in
theorem wakes_any (w : World) : Calls Try.prog 16 #[] w fun e w' => e = .returned (.bool true) ∧ Step w w' := by
  go_enter Try.func16, Try.ntmps16
  have HT := Lib.hid (Step.refl w)
  go_wp2_with fail
  refine (soil_any _).mono ?_
  rintro e wn ⟨v1, rfl, hv1, hSn⟩
  have HTi := Lib.hid (HT.out.trans hSn)
  clear hSn HT
  have HT := HTi
  clear HTi
  go_wp2_with fail
  refine (Holds_ok _ soilL 0 700 _ _ hv1 four_tests four_sound (by decide) (by decide)).mono ?_
  rintro e wn ⟨rfl, hSn⟩
  have HTi := Lib.hid (HT.out.trans hSn)
  clear hSn HT
  have HT := HTi
  clear HTi
  rw [four_holds]
  clear hv1
  obtain ⟨W1, hW1⟩ : ∃ W, W = wn.alloc (.cells #[.int .i64 560, .int .i64 839] 105) := ⟨_, rfl⟩
  have HB1 := Lib.hid (show Bx W1 wn.heap.size [.int .i64 560, .int .i64 839] 105 by rw [hW1]; exact Bx.new wn [_, _] _)
  have hst : Step w W1 := by rw [hW1]; exact HT.out.trans (Step.alloc _ _)
  have HW1 := Lib.hid hW1
  clear hW1 HT
  go_upto_region 2 with (fail)
  rw [← HW1.out]
  generalize wn.heap.size = g1 at *
  have HS := Lib.hid hst
  have HT := Lib.hid (Step.refl W1)
  clear hst HW1
  go_wp2_with fail
  refine (soil_any _).mono ?_
  rintro e wn ⟨v1, rfl, hv1, hSn⟩
  have HTi := Lib.hid (HT.out.trans hSn)
  clear hSn HT
  have HT := HTi
  clear HTi
  have HV1 := Lib.hid hv1
  clear hv1
  go_wp2_with fail
  refine (four_any _).mono ?_
  rintro e wm ⟨v2, rfl, hv2, hSn⟩
  have hv1 := HV1.out.keep (.of_step hSn)
  have HTi := Lib.hid (HT.out.trans hSn)
  clear hSn HT HV1
  have HT := HTi
  clear HTi
  go_wp2_with fail
  refine (Parts_any (fun _ => False) soilL fourL _ _ _ (hv1.weak fun _ _ h => h.elim) (hv2.weak fun _ _ h => h.elim)).mono ?_
  rintro e wn ⟨v3, rfl, hv3, hSn⟩
  have HTi := Lib.hid (HT.out.trans hSn)
  clear hSn HT
  have HT := HTi
  clear HTi
  rw [wk_partsR] at hv3
  rw [wk_parts]
  clear hv1 hv2
  have HV3 := Lib.hid (SL.weak (T := fun _ => False) (fun _ _ h => h.elim) hv3)
  clear hv3
  go_wp2_with fail
  refine (soil_any _).mono ?_
  rintro e wa ⟨v1, rfl, hv1, hSn⟩
  have HV3' := Lib.hid (HV3.out.keep (.of_step hSn))
  have HTi := Lib.hid (HT.out.trans hSn)
  have HV1 := Lib.hid hv1
  clear hSn HT HV3 hv1
  go_wp2_with fail
  refine (four_any _).mono ?_
  rintro e wb ⟨v2, rfl, hv2, hSn⟩
  have hv1 := HV1.out.keep (.of_step hSn)
  have HT := Lib.hid (HTi.out.trans hSn)
  have HV3 := Lib.hid (HV3'.out.keep (.of_step hSn))
  clear hSn HTi HV1 HV3'
  go_wp2_with fail
  refine (Reach_any (fun _ => False) soilL fourL 0 ⟨3, 4⟩ _ _ _ (hv1.weak fun _ _ h => h.elim) (hv2.weak fun _ _ h => h.elim)).mono ?_
  rintro e wc ⟨kr, rfl, hk, _, hSn⟩
  obtain rfl := wk_reach hk
  rw [wk_way, wk_at]
  have HV3' := Lib.hid (HV3.out.keep (.of_step hSn))
  have HTi := Lib.hid (HT.out.trans hSn)
  clear hSn HT HV3 hv1 hv2 hk
  go_wp2_with fail
  refine (soil_any _).mono ?_
  rintro e wd ⟨v1, rfl, hv1, hSn⟩
  have HV3 := Lib.hid (HV3'.out.keep (.of_step hSn))
  have HT := Lib.hid (HTi.out.trans hSn)
  have HV1 := Lib.hid hv1
  clear hSn HTi HV3' hv1
  go_wp2_with fail
  refine (four_any _).mono ?_
  rintro e we ⟨v2, rfl, hv2, hSn⟩
  have hv1 := HV1.out.keep (.of_step hSn)
  have HTi := Lib.hid (HT.out.trans hSn)
  have HV3' := Lib.hid (HV3.out.keep (.of_step hSn))
  clear hSn HT HV1 HV3
  go_wp2_with fail
  refine (Balanced_any (fun _ => False) soilL fourL 0 ⟨-300, 100⟩ _ _ _ (hv1.weak fun _ _ h => h.elim) (hv2.weak fun _ _ h => h.elim)).mono ?_
  rintro e wf ⟨vb, rfl, hvb, hSn⟩
  rw [wk_balR] at hvb
  rw [wk_balC]
  obtain ⟨cb, rfl, hls⟩ := hvb.av.bal
  obtain ⟨pb, kb, rfl⟩ := hls.form
  have hvb := AV.triv hvb.av
  have HV3 := Lib.hid (HV3'.out.keep (.of_step hSn))
  have HT := Lib.hid (HTi.out.trans hSn)
  clear hSn HTi HV3' hv1 hv2 hls
  go_upto_region 5 with (fail)
  obtain ⟨W7, hW7⟩ : ∃ W, W = wf.alloc (.cells #[.int .i64 wkB.whole, .slice pb wkB.parts.length kb] 31) := ⟨_, rfl⟩
  have hb7 : Bx W7 wf.heap.size [.int .i64 wkB.whole, .slice pb wkB.parts.length kb] 31 := by rw [hW7]; exact Bx.new wf [_, _] _
  have hs7 : Step wf W7 := by rw [hW7]; exact Step.alloc _ _
  rw [← hW7]
  have HB7 := Lib.hid hb7
  have HBR := Lib.hid ((HB1.out.step HT.out).step hs7)
  have HV := Lib.hid (HV3.out.keep (.of_step hs7))
  have HVB := Lib.hid (hvb.keep (.of_step hs7))
  have HS7 := Lib.hid (HS.out.trans (HT.out.trans hs7))
  clear hW7 hb7 hs7 HV3 HB1 hvb HT HS
  generalize wf.heap.size = g7 at *
  have HT := Lib.hid (Step.refl W7)
  obtain ⟨p3, c3, b3, o3, rfl, _, _, hp3, hc3, _⟩ := HV.out.rows
  obtain rfl := hp3 (by decide)
  obtain ⟨ur, hr1, hr2⟩ := hc3 0 (by decide)
  obtain ⟨pr, cr, rfl⟩ := hr2.form
  have HR1 := Lib.hid (show W7.cell? ⟨b3, o3, none⟩ = some (.slice pr 4 cr) from hr1)
  have HR2 := Lib.hid (show SL (fun _ => False) W7 (.slice pr 4 cr) ([56, 56, 56, 56] : List Int) from hr2)
  have hq1 := eql_range 560 839 560 839
  rw [veq_self] at hq1
  clear hp3 hc3 hr1 hr2
  refine wp_region_seq (kdOf [28, 29, 36, 37, 40] []) (0 :: 1 :: 3 :: 7 :: 15 :: 31 :: 63 :: 127 :: 255 :: 511 :: 1023 :: 2047 :: 4095 :: 8191 :: 16383 :: 32767 :: 32767 :: 131071 :: 262143 :: 524287 :: 1048575 :: 2097151 :: 4194303 :: 8388607 :: 16777215 :: 33554431 :: 67108863 :: 134217727 :: 33554431 :: 536870911 :: 1073741823 :: 2147483647 :: 4294967295 :: 8589934591 :: 17179869183 :: 34359738367 :: 68719476735 :: 137438953471 :: 68719476735 :: 68719476735 :: 1099511627775 :: 2199023255551 :: 4398046511103 :: []) (0 :: 1 :: 2 :: 3 :: 4 :: 5 :: 6 :: 7 :: 8 :: 9 :: 10 :: 11 :: 12 :: 13 :: 14 :: 15 :: 16 :: 17 :: 18 :: 19 :: 20 :: 21 :: 22 :: 23 :: 24 :: 25 :: 26 :: 27 :: 28 :: 29 :: 30 :: 31 :: 32 :: 33 :: 34 :: 35 :: 38 :: 39 :: 36 :: 37 :: 40 :: 41 :: 42 :: []) [] (by kernel_rfl) (by kernel_rfl) (fun i T z hi hk => by simp [kdOf] at hk <;> (try (split at hk <;> cases hk))) ?_
  intro Wx hWx
  have HTx := Lib.hid (HT.out.trans hWx)
  clear hWx HT
  have HT := HTx
  clear HTx
  have a0 := (HBR.out.step HT.out).cell 0
  have a1 := (HBR.out.step HT.out).cell 1
  have q0 := (HB7.out.step HT.out).cell 0
  have q1 := (HB7.out.step HT.out).cell 1
  have r0 := HT.out.keeps.cell id HR1.out
  simp only [List.getElem?_cons_zero, List.getElem?_cons_succ] at a0 a1 q0 q1
  repeat (first | (refine run_off rfl rfl (by rfl) ?_; (try simp only [Act.put, List.setIfInBounds_toArray, List.set_cons_zero, List.set_cons_succ])) | (refine run_chain_off rfl rfl (by rfl) (K0_mono _) ?_; (try simp only [Act.put, List.setIfInBounds_toArray, List.set_cons_zero, List.set_cons_succ])) | ((refine run_want rfl rfl (by rfl) ⟨?_, fun W hW => ?_, ?_⟩; rotate_left; (· (have d0 := hW.keeps.cell id a0; have d1 := hW.keeps.cell id a1; have d2 := hW.keeps.cell id q0; have d3 := hW.keeps.cell id q1; have d4 := hW.keeps.cell id r0; go_simp; (try with_reducible rfl)))); (try simp only [Act.put, List.setIfInBounds_toArray, List.set_cons_zero, List.set_cons_succ])))
  clear a0 a1 q0 q1 r0
  refine run_chain rfl rfl (by rfl) (fun Wi hWi K' hK => ?_)
  have HTi := Lib.hid (HT.out.trans hWi)
  clear hWi HT
  go_simp
  have hsv : SL (fun _ => False) (Wi.alloc (.cells #[.int .i64 56, .int .i64 56, .int .i64 56, .int .i64 56] 3)) (.slice (some ⟨Wi.heap.size, 0, none⟩) 4 4) ([56, 56, 56, 56] : List Int) :=
    SL.bx_ints (l := [56, 56, 56, 56]) (Bx.new Wi [.int .i64 56, .int .i64 56, .int .i64 56, .int .i64 56] 3) id 4 (by decide) (by decide)
  have HSV := Lib.hid hsv
  refine hK _ _ (StepX.of (Step.alloc _ _)) ?_
  (try simp only [Act.put, List.setIfInBounds_toArray, List.set_cons_zero, List.set_cons_succ])
  have HT := Lib.hid (HTi.out.trans (Step.alloc Wi (.cells #[.int .i64 56, .int .i64 56, .int .i64 56, .int .i64 56] 3)))
  clear hsv HTi hK
  generalize Wi.alloc (.cells #[.int .i64 56, .int .i64 56, .int .i64 56, .int .i64 56] 3) = WA at *
  generalize Wi.heap.size = ga at *
  refine run_chain rfl rfl (by rfl) (fun Wi hWi K' hK => ?_)
  have hsv2 := HSV.out.keep (.of_step hWi)
  have HTi := Lib.hid (HT.out.trans hWi)
  clear hWi HT
  go_simp
  refine (ints_any (fun _ => False) [56, 56, 56, 56] [56, 56, 56, 56] _ _ Wi (HR2.out.keep (.of_step HTi.out)) hsv2).mono ?_
  rintro e wn ⟨rfl, hSn⟩
  have HT := Lib.hid (HTi.out.trans hSn)
  clear HTi hsv2 HSV
  rw [show intsB [56, 56, 56, 56] [56, 56, 56, 56] = true by decide]
  refine hK _ _ (StepX.of hSn) ?_
  clear hSn
  (try simp only [Act.put, List.setIfInBounds_toArray, List.set_cons_zero, List.set_cons_succ])
  have q0 := (HB7.out.step HT.out).cell 0
  have q1 := (HB7.out.step HT.out).cell 1
  simp only [List.getElem?_cons_zero, List.getElem?_cons_succ] at q0 q1
  repeat (first | (refine run_off rfl rfl (by rfl) ?_; (try simp only [Act.put, List.setIfInBounds_toArray, List.set_cons_zero, List.set_cons_succ])) | (refine run_chain_off rfl rfl (by rfl) (K0_mono _) ?_; (try simp only [Act.put, List.setIfInBounds_toArray, List.set_cons_zero, List.set_cons_succ])) | ((refine run_want rfl rfl (by rfl) ⟨?_, fun W hW => ?_, ?_⟩; rotate_left; (· (have d0 := hW.keeps.cell id q0; have d1 := hW.keeps.cell id q1; go_simp; (try with_reducible rfl)))); (try simp only [Act.put, List.setIfInBounds_toArray, List.set_cons_zero, List.set_cons_succ])))
  clear q0 q1
  refine run_chain rfl rfl (by rfl) (fun Wi hWi K' hK => ?_)
  have HTi := Lib.hid (HT.out.trans hWi)
  have HZW := Lib.hid HTi.out.size
  clear hWi HT
  go_simp
  refine (soil_any _).mono ?_
  rintro e wn ⟨v1, rfl, hv1, hSn⟩
  have HT := Lib.hid (HTi.out.trans (StepX.of hSn))
  clear HTi
  have HV1 := Lib.hid hv1
  clear hv1
  refine hK _ _ (StepX.of hSn) ?_
  clear hSn
  (try simp only [Act.put, List.setIfInBounds_toArray, List.set_cons_zero, List.set_cons_succ])
  refine run_chain rfl rfl (by rfl) (fun Wi hWi K' hK => ?_)
  have HTi := Lib.hid (HT.out.trans hWi)
  have HV1i := Lib.hid (HV1.out.keep (.of_step hWi))
  clear hWi HT HV1
  go_simp
  refine (four_any _).mono ?_
  rintro e wn ⟨v2, rfl, hv2, hSn⟩
  have HT := Lib.hid (HTi.out.trans hSn)
  have HV1 := Lib.hid (HV1i.out.keep (.of_step hSn))
  have HV2 := Lib.hid hv2
  clear HTi HV1i hv2
  refine hK _ _ (StepX.of hSn) ?_
  clear hSn
  (try simp only [Act.put, List.setIfInBounds_toArray, List.set_cons_zero, List.set_cons_succ])
  refine run_chain rfl rfl (by rfl) (fun Wi hWi K' hK => ?_)
  have HTi := Lib.hid (HT.out.trans hWi)
  have hv1 := HV1.out.keep (.of_step hWi)
  have hv2 := HV2.out.keep (.of_step hWi)
  clear hWi HT HV1 HV2
  go_simp
  refine (ProveBalance_any (fun _ => False) soilL fourL 0 ⟨-300, 100⟩ wkB _ _ _ _ (hv1.weak fun _ _ h => h.elim) (hv2.weak fun _ _ h => h.elim) (HVB.out.keep (.of_step HTi.out))).mono ?_
  rintro e wn ⟨rfl, hSn⟩
  have HT := Lib.hid (HTi.out.trans hSn)
  rw [wk_prove]
  clear HTi hv1 hv2
  refine hK _ _ (StepX.of hSn) ?_
  clear hSn
  (try simp only [Act.put, List.setIfInBounds_toArray, List.set_cons_zero, List.set_cons_succ])
  repeat (first | (refine run_off rfl rfl (by rfl) ?_; (try simp only [Act.put, List.setIfInBounds_toArray, List.set_cons_zero, List.set_cons_succ])) | (refine run_chain_off rfl rfl (by rfl) (K0_mono _) ?_; (try simp only [Act.put, List.setIfInBounds_toArray, List.set_cons_zero, List.set_cons_succ])) | ((refine run_want rfl rfl (by rfl) ⟨?_, fun W hW => ?_, ?_⟩; rotate_left; (· (skip; go_simp; (try with_reducible rfl)))); (try simp only [Act.put, List.setIfInBounds_toArray, List.set_cons_zero, List.set_cons_succ])))
  refine run_end (L := []) rfl (fun W6 hW6 => ?_)
  have HT6 := Lib.hid (HT.out.trans hW6)
  clear hW6 HT
  have HT := HT6
  clear HT6
  go_wp2
  go_ret
  exact ⟨rfl, HS7.out.trans HT.out⟩
end Go.Proofs.Ytdcjbbeoocldeaa
