/- Sums, sets, parts, and the balances of one and of two guys, are walked. -/
import Derived.Test.YtdcjbbeoocldeaaMf
import Derived.Test.YtdcjbbeoocldeaaRows
/- Walks: sums of vectors; the full pull of a set. -/
namespace Go.Proofs.Ytdcjbbeoocldeaa
set_option linter.unusedSimpArgs false
set_option linter.unusedVariables false
open Go.RowKit Go.BT

def sumL (l : List Vec) : Vec := l.foldl addV ⟨0, 0⟩
theorem sum_take {l : List Vec} {k : Nat} (hk : k < l.length) : sumL (l.take (k + 1)) = addV (sumL (l.take k)) l[k] := by
  unfold sumL
  rw [List.take_succ_eq_append_getElem hk, List.foldl_append]; rfl
set_option maxHeartbeats 2000000 in
theorem sum_any (S : Nat → Prop) (l : List Vec) (v : Value) (w : World) (hv : SL S w v l) (hf : ∀ k, k ≤ l.length → fits (sumL (l.take k)).x ∧ fits (sumL (l.take k)).y) :
    Calls Try.prog 66 #[v] w fun e w' => e = .returned (.agg #[.int .i64 (sumL l).x, .int .i64 (sumL l).y]) ∧ Step w w' := by
  have hm := hv.len
  obtain ⟨pv, cv, b, o, rfl, _, _, hp, hc, _⟩ := hv.vecs
  obtain ⟨W0, hW0⟩ : ∃ W, W = w.alloc (.cells #[.int .i64 0, .int .i64 0] 40) := ⟨_, rfl⟩
  have hb : Bx W0 w.heap.size [.int .i64 0, .int .i64 0] 40 := by subst hW0; exact Bx.new w [_, _] _
  have hS : Step w W0 := by subst hW0; exact Step.alloc _ _
  have HP := Lib.hid (And.intro hp hc)
  have HB := Lib.hid hb
  have HS := Lib.hid hS
  have HW := Lib.hid hW0
  have HF := Lib.hid hf
  clear hp hc hv hb hS hW0 hf
  go_enter Try.func66, Try.ntmps66
  go_wp2
  rw [← HW.out]
  go_loopw [7] (fun i wr => ∃ k : Nat, k ≤ l.length ∧ i = .int .i64 k ∧ Bx wr w.heap.size [.int .i64 (sumL (l.take k)).x, .int .i64 (sumL (l.take k)).y] 40 ∧ Step w wr) (fun i _ => l.length - (intOf i).toNat)
  case atStart => exact ⟨0, Nat.zero_le _, rfl, HB.out, HS.out⟩
  case round =>
    obtain ⟨k, hk, rfl, hb, hT⟩ := hrel
    have HT := Lib.hid hT
    have HB := Lib.hid hb
    have r0 := hb.cell 0
    have r1 := hb.cell 1
    have z0 := hb.frozen 0
    have z1 := hb.frozen 1
    have rl := hb.lt
    simp only [List.getElem?_cons_zero, List.getElem?_cons_succ] at r0 r1
    clear hT hb
    by_cases hlt : k < l.length
    · obtain rfl := HP.out.1 (by omega)
      obtain ⟨e1, e2⟩ := HP.out.2 k hlt
      have e1 := HT.out.keeps.cell id e1
      have e2 := HT.out.keeps.cell id e2
      have hix : (0 : Int) ≤ (k : Int) ∧ (k : Int) < (l.length : Int) := by omega
      have hf := HF.out (k + 1) (by omega)
      rw [sum_take hlt] at hf
      have hw1 := hf.1.wrap
      have hw2 := hf.2.wrap
      have HN := Lib.hid (sum_take hlt)
      obtain ⟨s, hs⟩ : ∃ s, s = sumL (l.take k) := ⟨_, rfl⟩
      rw [← hs] at r0 r1 hw1 hw2 HN HB
      have hw1 : IntKind.i64.wrap (s.x + l[k].x) = s.x + l[k].x := hw1
      have hw2 : IntKind.i64.wrap (s.y + l[k].y) = s.y + l[k].y := hw2
      clear hf hs
      go_wp2
      go_roundw
      case rel =>
        refine ⟨k + 1, by omega, by go_num, ?_, ?_⟩
        · rw [HN.out]
          first
            | exact (((HB.out.setCell 0 (.int .i64 (s.x + l[k].x))).setCell 1 (.int .i64 (s.y + l[k].y))).alloc _)
            | exact ((HB.out.alloc _).setCell 0 (.int .i64 (s.x + l[k].x))).setCell 1 (.int .i64 (s.y + l[k].y))
        · first
            | exact (((HT.out.setNew ⟨w.heap.size, 0, none⟩ _ (Nat.le_refl _)).setNew ⟨w.heap.size, 1, none⟩ _ (Nat.le_refl _)).trans (Step.alloc _ _))
            | exact ((HT.out.trans (Step.alloc _ _)).setNew ⟨w.heap.size, 0, none⟩ _ (Nat.le_refl _)).setNew ⟨w.heap.size, 1, none⟩ _ (Nat.le_refl _)
      case measure => simp [intOf]; omega
    · have HN := Lib.hid (show sumL (l.take k) = sumL l by rw [List.take_of_length_le (by omega)])
      obtain ⟨s, hs⟩ : ∃ s, s = sumL (l.take k) := ⟨_, rfl⟩
      rw [← hs] at r0 r1 HN HB
      clear hs
      go_wp2
      have b2 := set2 HB.out (.int .i64 s.x) (.int .i64 s.y)
      exact ret_struct (k := 2) rfl siVec rfl b2.1 rfl rfl ⟨by rw [HN.out], StepX.fresh HT.out b2.2 (fun j hj => by omega)⟩
theorem and_one : ∀ n : Fin 256, bits .and .i64 ((n.val : Nat) : Int) 1 = ((n.val % 2 : Nat) : Int) := by decide +kernel
theorem bit_eq {s k : Nat} (hs : s < 256) : bits .and .i64 ((s : Int) / 2 ^ k) 1 = if bitB s k = true then 1 else 0 := by
  have h1 : ((s : Int) / 2 ^ k) = ((s / 2 ^ k : Nat) : Int) := by simp
  have h2 : s / 2 ^ k < 256 := Nat.lt_of_le_of_lt (Nat.div_le_self _ _) hs
  rw [h1, and_one ⟨s / 2 ^ k, h2⟩]
  unfold bitB
  rw [Nat.testBit_eq_decide_div_mod_eq]
  dsimp only
  have : s / 2 ^ k % 2 = 0 ∨ s / 2 ^ k % 2 = 1 := by omega
  rcases this with h | h <;> simp [h]
end Go.Proofs.Ytdcjbbeoocldeaa
/- Walks: the full pull of a set. -/
namespace Go.Proofs.Ytdcjbbeoocldeaa
set_option linter.unusedSimpArgs false
set_option linter.unusedVariables false
open Go.RowKit Go.BT

theorem sl_vecs (w : World) (m : List Vec) (hm : m.length ≤ 1000) : SL (fun _ => False) (w.alloc (.cells (cellsV m).toArray 40)) (.slice (some ⟨w.heap.size, 0, none⟩) m.length m.length) m := (own_vecs (fun _ => False) w 40 m hm).slb fun _ _ h => h.elim
theorem sum_two (a b : Vec) : sumL [a, b] = addV a b := by simp [sumL, addV]
theorem sum2_fits {a b : Vec} (ha : inV 1000000000000000000 a) (hb : inV 1000000000000000000 b) : ∀ k, k ≤ [a, b].length → fits (sumL ([a, b].take k)).x ∧ fits (sumL ([a, b].take k)).y := by
  unfold inV at ha hb
  intro k hk
  match k, hk with
  | 0, _ => simp [sumL, fits]
  | 1, _ => simp [sumL, addV, fits]; omega
  | 2, _ => simp [sumL, addV, fits]; omega
theorem full_in {F : List Vec} (hF : smallV F) (s : Nat) : ∀ k : Nat, inV ((k : Int) * 500000) (fullK F s k)
  | 0 => by simp [fullK, inV]
  | k + 1 => by
    have ih := full_in hF s k
    have hf := hF.at k
    obtain ⟨⟨a1, a2⟩, a3, a4⟩ := ih
    obtain ⟨b1, b2, b3, b4⟩ := hf
    unfold fullK
    cases bitB s k with
    | true =>
      refine ⟨⟨?_, ?_⟩, ?_, ?_⟩ <;> simp only [addV, if_true, Int.natCast_add, Int.natCast_one] <;> omega
    | false =>
      refine ⟨⟨?_, ?_⟩, ?_, ?_⟩ <;> simp only [Bool.false_eq_true, if_false, Int.natCast_add, Int.natCast_one] <;> omega
theorem atV_get {F : List Vec} {k : Nat} (hk : k < F.length) : atV F k = F[k] := by simp [atV, List.getD_eq_getElem?_getD, hk]
set_option maxRecDepth 100000 in
set_option maxHeartbeats 4000000 in
theorem full_any (F : List Vec) (area : Int) (s : Nat) (v : Value) (w : World) (hv : MV w v area F) (hF : smallV F) (hn : F.length ≤ 8) (hs : s < 256) :
    Calls Try.prog 90 #[v, .int .i64 s] w fun e w' => e = .returned (.agg #[.int .i64 (fullV F s).x, .int .i64 (fullV F s).y]) ∧ Step w w' := by
  obtain ⟨b, p2, n2, k2, p3, k3, rfl, hsl⟩ := hv
  obtain ⟨W0, hW0⟩ : ∃ W, W = (w.alloc (.cells #[.int .i64 area, .int .i64 b, .slice p2 n2 k2, .slice p3 F.length k3] 117)).alloc (.cells #[.int .i64 0, .int .i64 0] 40) := ⟨_, rfl⟩
  have hb2 : Bx W0 (w.heap.size + 1) [.int .i64 0, .int .i64 0] 40 := by subst hW0; exact Bx.new' _ [_, _] _ _ (by simp)
  have hS : Step w W0 := by subst hW0; exact (by repeat (first | (with_reducible assumption) | (with_reducible exact Step.refl _) | (with_reducible apply Step.s_alloc) | (with_reducible apply Step.s_drew) | (with_reducible apply Step.s_drewN) | (with_reducible refine Step.trans ?_ (by with_reducible assumption))))
  obtain ⟨q3, c3, b3, o3, he3, _, _, hp, hc, _⟩ := hsl.vecs
  injection he3 with he31 _ he33
  subst he31 he33
  have HP := Lib.hid (And.intro hp hc)
  have HB := Lib.hid hb2
  have HS := Lib.hid hS
  have HW := Lib.hid hW0
  have HF := Lib.hid hF
  have HBIT := Lib.hid (fun k => bit_eq (k := k) hs)
  clear hp hc hb2 hS hW0 hF hsl
  go_enter Try.func90, Try.ntmps90
  go_wp2
  rw [← HW.out]
  go_loopw [10] (fun i wr => ∃ k : Nat, k ≤ F.length ∧ i = .int .i64 k ∧ Bx wr (w.heap.size + 1) [.int .i64 (fullK F s k).x, .int .i64 (fullK F s k).y] 40 ∧ Step w wr) (fun i _ => F.length - (intOf i).toNat)
  case atStart => exact ⟨0, Nat.zero_le _, rfl, HB.out, HS.out⟩
  case round =>
    obtain ⟨k, hk, rfl, hb, hT⟩ := hrel
    have HT := Lib.hid hT
    have HB := Lib.hid hb
    have r0 := hb.cell 0
    have r1 := hb.cell 1
    have z0 := hb.frozen 0
    have z1 := hb.frozen 1
    have rl := hb.lt
    simp only [List.getElem?_cons_zero, List.getElem?_cons_succ] at r0 r1
    clear hT hb
    by_cases hlt : k < F.length
    · obtain rfl := HP.out.1 (by omega)
      obtain ⟨e1, e2⟩ := HP.out.2 k hlt
      have e1 := HT.out.keeps.cell id e1
      have e2 := HT.out.keeps.cell id e2
      have hix : (0 : Int) ≤ (k : Int) ∧ (k : Int) < (F.length : Int) := by omega
      have hk0 : (0 : Int) ≤ (k : Int) := by omega
      have hk64 : (k : Int) ≤ 64 := by omega
      have hin := full_in HF.out s k
      have hfs : fullK F s (k + 1) = if bitB s k = true then addV (fullK F s k) F[k] else fullK F s k := by rw [← atV_get hlt]; rfl
      have hbit := HBIT.out k
      obtain ⟨f, hf⟩ : ∃ f, f = fullK F s k := ⟨_, rfl⟩
      rw [← hf] at r0 r1 hin hfs HB
      have HIN := Lib.hid hin
      clear hf hin
      cases hq : bitB s k with
      | true =>
        rw [hq, if_pos rfl] at hbit hfs
        have HN := Lib.hid hfs
        clear hq hfs
        have hsv : SL (fun _ => False) ((wr.alloc (.cells #[.int .i64 F[k].x, .int .i64 F[k].y] 40)).alloc (.cells #[.int .i64 f.x, .int .i64 f.y, .int .i64 F[k].x, .int .i64 F[k].y] 40)) (.slice (some ⟨wr.heap.size + 1, 0, none⟩) 2 2) [f, F[k]] := by
          have h := sl_vecs (wr.alloc (.cells #[.int .i64 F[k].x, .int .i64 F[k].y] 40)) [f, F[k]] (by simp)
          simpa [cellsV] using h
        have hcall := Lib.hid (sum_any (fun _ => False) [f, F[k]] _ _ hsv (sum2_fits (HIN.out.mono (by omega)) ((small_get HF.out hlt).mono (by decide))))
        clear hsv
        go_wp2_with fail
        refine hcall.out.mono ?_
        rintro e w2 ⟨rfl, hS2⟩
        rw [sum_two]
        have hst : Step wr w2 := ((Step.alloc _ _).trans (Step.alloc _ _)).trans hS2
        have HB2 := Lib.hid (HB.out.step hst)
        have HT2 := Lib.hid (HT.out.trans hst)
        have y0 := HB2.out.cell 0
        have y1 := HB2.out.cell 1
        have x0 := HB2.out.frozen 0
        have x1 := HB2.out.frozen 1
        simp only [List.getElem?_cons_zero, List.getElem?_cons_succ] at y0 y1
        clear hcall hS2 hst r0 r1 z0 z1 rl e1 e2
        go_wp2
        go_roundw
        case rel =>
          have b2 := set2 HB2.out (.int .i64 (addV f F[k]).x) (.int .i64 (addV f F[k]).y)
          exact ⟨k + 1, by omega, by go_num, by rw [HN.out]; exact b2.1, StepX.fresh HT2.out b2.2 (fun j hj => by omega)⟩
        case measure => simp [intOf]; omega
      | false =>
        rw [hq, if_neg (by decide)] at hbit hfs
        have HN := Lib.hid hfs
        clear hq hfs
        go_wp2
        go_roundw
        case rel => exact ⟨k + 1, by omega, by go_num, by rw [HN.out]; exact HB.out.alloc _, HT.out.trans (Step.alloc _ _)⟩
        case measure => simp [intOf]; omega
    · have HN := Lib.hid (show fullK F s k = fullV F s by unfold fullV; congr 1; omega)
      obtain ⟨f, hf⟩ : ∃ f, f = fullK F s k := ⟨_, rfl⟩
      rw [← hf] at r0 r1 HN HB
      clear hf
      go_wp2
      have b2 := set2 HB.out (.int .i64 f.x) (.int .i64 f.y)
      exact ret_struct (k := 2) rfl siVec rfl b2.1 rfl rfl ⟨by rw [HN.out], StepX.fresh HT.out b2.2 (fun j hj => by omega)⟩
end Go.Proofs.Ytdcjbbeoocldeaa
/- Walks: the parts of a set and of two others. -/
namespace Go.Proofs.Ytdcjbbeoocldeaa
set_option linter.unusedSimpArgs false
set_option linter.unusedVariables false
open Go.RowKit Go.BT

/-- A slice of numbers whose cells may be written. -/
def _root_.Go.BT.SLT (S : Nat → Prop) (w : World) (v : Value) (l : List Int) : Prop := SL S w v l ∧ ∀ (b o n c : Nat), v = .slice (some ⟨b, o, none⟩) n c → ∀ i, i < n → w.frozen? ⟨b, o + i, none⟩ = false
theorem _root_.Go.BT.SLT.keep {S : Nat → Prop} {w w' : World} {v : Value} {l : List Int} (h : SLT S w v l) (hk : Keeps S w w') : SLT S w' v l := by
  refine ⟨h.1.keep hk, fun b o n c e i hi => ?_⟩
  have h2 := h.2 b o n c e i hi
  obtain ⟨p, c', b', o', hv, _, _, hp, ha⟩ := h.1
  rw [e] at hv
  injection hv with e1 e2 e3
  have hlt : i < l.length := by omega
  have := hp (by omega)
  rw [← e1] at this
  injection this with this
  injection this with eb eo
  subst eb
  have h3 := ha i hlt
  exact (World.frozen?_of_block (w := w) (hk.2 b h3.1 h3.2.1)).trans h2
theorem _root_.Go.BT.SLT.weak {S T : Nat → Prop} {w : World} {v : Value} {l : List Int} (h : SLT S w v l) (hk : ∀ j, j < w.heap.size → T j → S j) : SLT T w v l := ⟨h.1.weak hk, h.2⟩
theorem _root_.Go.BT.SLT.form {S : Nat → Prop} {w : World} {v : Value} {l : List Int} (h : SLT S w v l) : ∃ p c, v = .slice p l.length c := h.1.form
theorem _root_.Go.BT.SLT.nil (S : Nat → Prop) (w : World) : SLT S w (.slice none 0 0) [] := ⟨SL.nil _ _, fun b o n c e => by cases e⟩
theorem _root_.Go.BT.SLT.bx_ints {S : Nat → Prop} {w : World} {g : Nat} {T : TypeId} {l : List Int} (h : Bx w g (l.map (Value.int .i64)) T) (hs : ¬ S g) (c : Nat) (hc : l.length ≤ c) (hm : l.length ≤ 9223372036854775807) : SLT S w (.slice (some ⟨g, 0, none⟩) l.length c) l :=
  ⟨SL.bx_ints h hs c hc hm, fun b o n c e i _ => by injection e with e _ _; injection e with e; injection e with e1 _; subst e1; exact h.frozen _⟩
/-- A balance as a value, whose parts may be written. -/
def _root_.Go.BT.AVO (S : Nat → Prop) (w : World) (v : Value) (x : Bal) : Prop := ∃ cs, v = .agg cs.toArray ∧ ∃ c1, cs = [.int .i64 x.whole, c1] ∧ SLT S w c1 x.parts
theorem _root_.Go.BT.AVO.bal {S : Nat → Prop} {w : World} {v : Value} {x : Bal} (h : AVO S w v x) : ∃ c1, v = .agg #[.int .i64 x.whole, c1] ∧ SLT S w c1 x.parts := by
  obtain ⟨cs, rfl, c1, rfl, r⟩ := h; exact ⟨c1, rfl, r⟩
theorem _root_.Go.BT.AVO.av {S : Nat → Prop} {w : World} {v : Value} {x : Bal} (h : AVO S w v x) : AV S w v x := by
  obtain ⟨cs, e, c1, e1, r⟩ := h; exact ⟨cs, e, c1, e1, r.1⟩
theorem _root_.Go.BT.AVO.keep {S : Nat → Prop} {w w' : World} {v : Value} {x : Bal} (h : AVO S w v x) (hk : Keeps S w w') : AVO S w' v x := by
  obtain ⟨cs, e, c1, e1, r⟩ := h; exact ⟨cs, e, c1, e1, r.keep hk⟩
theorem _root_.Go.BT.AVO.weak {S T : Nat → Prop} {w : World} {v : Value} {x : Bal} (h : AVO S w v x) (hk : ∀ j, j < w.heap.size → T j → S j) : AVO T w v x := by
  obtain ⟨cs, e, c1, e1, r⟩ := h; exact ⟨cs, e, c1, e1, r.weak hk⟩
theorem siBal : SI Try.prog 31 2 := ⟨⟨_, Try.underlying31⟩, by kernel_rfl⟩
def setI (l : List Int) (a : Int) (u : Int) : List Int := if 0 ≤ a then l.set a.toNat u else l
theorem setI_len (l : List Int) (a u : Int) : (setI l a u).length = l.length := by unfold setI; split <;> simp
def setK (n s : Nat) (wh : Int) (k : Nat) : List Int := (List.range n).map fun i => if i < k then (if bitB s i then wh else 0) else 0
theorem setK_len (n s : Nat) (wh : Int) (k : Nat) : (setK n s wh k).length = n := by simp [setK]
theorem setK_zero (n s : Nat) (wh : Int) : setK n s wh 0 = List.replicate n 0 := by
  apply List.ext_getElem
  · simp [setK]
  · intro i h1 h2; simp [setK]
theorem setK_full (n s : Nat) (wh : Int) : setK n s wh n = setP n s wh := by
  apply List.ext_getElem
  · simp [setK, setP]
  · intro i h1 h2
    rw [setK_len] at h1
    simp [setK, setP, h1]
theorem setK_yes {n s : Nat} {wh : Int} {k : Nat} (hk : k < n) (hb : bitB s k = true) : (setK n s wh k).set k wh = setK n s wh (k + 1) := by
  apply List.ext_getElem
  · simp [setK]
  · intro i h1 h2
    rw [List.getElem_set]
    split
    · next he => subst he; simp [setK, hb]
    · next hne =>
      simp only [setK, List.getElem_map, List.getElem_range]
      by_cases h3 : i < k
      · simp [h3, show i < k + 1 by omega]
      · simp [h3, show ¬ i < k + 1 by omega]
theorem setK_no {n s : Nat} {wh : Int} {k : Nat} (hb : bitB s k = false) : setK n s wh k = setK n s wh (k + 1) := by
  apply List.ext_getElem
  · simp [setK]
  · intro i h1 h2
    simp only [setK, List.getElem_map, List.getElem_range]
    by_cases h3 : i < k
    · simp [h3, show i < k + 1 by omega]
    · by_cases h4 : i = k
      · subst h4; simp [hb]
      · simp [h3, show ¬ i < k + 1 by omega]
theorem ints_set (l : List Int) (k : Nat) (x : Int) : (l.map (Value.int .i64)).set k (.int .i64 x) = (l.set k x).map (Value.int .i64) := by rw [List.map_set]
theorem ints_cell {w : World} {g : Nat} {l : List Int} {T : TypeId} (h : Bx w g (l.map (Value.int .i64)) T) {k : Nat} (hk : k < l.length) : w.cell? ⟨g, k, none⟩ = some (.int .i64 l[k]) := by
  rw [h.cell k]; simp [hk]
set_option maxRecDepth 100000 in
set_option maxHeartbeats 4000000 in
theorem parts_any (F : List Vec) (area : Int) (s : Nat) (wh a u b' u' : Int) (v : Value) (w : World) (hv : MV w v area F) (hn : F.length ≤ 8) (hs : s < 256) (ha : -1 ≤ a ∧ a < F.length) (hb : -1 ≤ b' ∧ b' < F.length) (hab : 0 ≤ b' → 0 ≤ a ∧ a ≠ b') :
    Calls Try.prog 91 #[v, .int .i64 s, .int .i64 wh, .int .i64 a, .int .i64 u, .int .i64 b', .int .i64 u'] w fun e w' => ∃ v', e = .returned v' ∧ AVO (Old w) w' v' (⟨wh, setI (setI (setP F.length s wh) a u) b' u'⟩ : Bal) ∧ Step w w' := by
  obtain ⟨b, p2, n2, k2, p3, k3, rfl, hsl⟩ := hv
  obtain ⟨W0, hW0⟩ : ∃ W, W = (((w.alloc (.cells #[.int .i64 area, .int .i64 b, .slice p2 n2 k2, .slice p3 F.length k3] 117)).alloc (.cells #[.int .i64 0, .slice none 0 0] 31)).alloc (.cells (Array.replicate F.length (.int .i64 0)) 3)).alloc (.cells #[.int .i64 wh, .slice (some ⟨w.heap.size + 2, 0, none⟩) F.length F.length] 31) := ⟨_, rfl⟩
  have hb1 : Bx W0 (w.heap.size + 1) [.int .i64 0, .slice none 0 0] 31 := by subst hW0; exact ((Bx.new' _ [_, _] _ _ (by simp)).alloc _).alloc _
  have hb2 : Bx W0 (w.heap.size + 2) ((setK F.length s wh 0).map (Value.int .i64)) 3 := by
    rw [setK_zero, List.map_replicate]
    rw [show Array.replicate F.length (Value.int .i64 0) = (List.replicate F.length (Value.int .i64 0)).toArray by simp] at hW0
    subst hW0; exact (Bx.new' _ _ _ _ (by simp)).alloc _
  have hb3 : Bx W0 (w.heap.size + 3) [.int .i64 wh, .slice (some ⟨w.heap.size + 2, 0, none⟩) F.length F.length] 31 := by subst hW0; exact Bx.new' _ [_, _] _ _ (by simp)
  have hS : Step w W0 := by subst hW0; exact (by repeat (first | (with_reducible assumption) | (with_reducible exact Step.refl _) | (with_reducible apply Step.s_alloc) | (with_reducible apply Step.s_drew) | (with_reducible apply Step.s_drewN) | (with_reducible refine Step.trans ?_ (by with_reducible assumption))))
  have HB1 := Lib.hid hb1
  have HB2 := Lib.hid hb2
  have HB3 := Lib.hid hb3
  have HS := Lib.hid hS
  have HW := Lib.hid hW0
  have HBIT := Lib.hid (fun k => bit_eq (k := k) hs)
  have HA := Lib.hid (And.intro ha hb)
  clear hb1 hb2 hb3 hS hW0 hsl ha hb
  go_enter Try.func91, Try.ntmps91
  go_wp2_with (at_make; refine wpl_make (z := .int .i64 0) eiInts rfl _ _ rfl rfl .i64 .i64 F.length rfl rfl (by omega) (by omega) ?_)
  go_wp2
  rw [show w.heap.size + 1 + 1 = w.heap.size + 2 from rfl, ← HW.out]
  go_loopw [26] (fun i wr => ∃ k : Nat, k ≤ F.length ∧ i = .int .i64 k ∧ Bx wr (w.heap.size + 2) ((setK F.length s wh k).map (Value.int .i64)) 3 ∧ StepX (fun j => j = w.heap.size + 2) W0 wr) (fun i _ => F.length - (intOf i).toNat)
  case atStart => exact ⟨0, Nat.zero_le _, rfl, HB2.out, StepX.refl _ _⟩
  case round =>
    obtain ⟨k, hk, rfl, hb, hX⟩ := hrel
    have HX := Lib.hid hX
    have HB := Lib.hid hb
    have hb3 := HB3.out.keep hX.keeps (show ¬ w.heap.size + 3 = w.heap.size + 2 by omega)
    have t0 := hb3.cell 0
    have t1 := hb3.cell 1
    simp only [List.getElem?_cons_zero, List.getElem?_cons_succ] at t0 t1
    clear hb3 hX
    by_cases hlt : k < F.length
    · have c0 := ints_cell hb (k := k) (by rw [setK_len]; exact hlt)
      have z0 := hb.frozen k
      have hix : (0 : Int) ≤ (k : Int) ∧ (k : Int) < (F.length : Int) := by omega
      have hk0 : (0 : Int) ≤ (k : Int) := by omega
      have hk64 : (k : Int) ≤ 64 := by omega
      have hbit := HBIT.out k
      clear hb
      cases hq : bitB s k with
      | true =>
        rw [hq, if_pos rfl] at hbit
        have HN := Lib.hid (setK_yes (wh := wh) hlt hq)
        clear hq
        go_wp2
        go_roundw
        case rel => exact ⟨k + 1, by omega, by go_num, by rw [← HN.out, ← ints_set]; exact HB.out.setCell _ _, HX.out.setCell ⟨w.heap.size + 2, k, none⟩ _ rfl⟩
        case measure => simp [intOf]; omega
      | false =>
        rw [hq, if_neg (by decide)] at hbit
        have HN := Lib.hid (setK_no (n := F.length) (wh := wh) hq)
        clear hq
        go_wp2
        go_roundw
        case rel => exact ⟨k + 1, by omega, by go_num, by rw [← HN.out]; exact HB.out, HX.out⟩
        case measure => simp [intOf]; omega
    · have HN := Lib.hid (show setK F.length s wh k = setP F.length s wh by rw [← setK_full]; congr 1; omega)
      rw [HN.out] at hb
      have HB := Lib.hid hb
      have hb1 := HB1.out.keep HX.out.keeps (show ¬ w.heap.size + 1 = w.heap.size + 2 by omega)
      have HB1 := Lib.hid hb1
      have HB3x := Lib.hid (HB3.out.keep HX.out.keeps (show ¬ w.heap.size + 3 = w.heap.size + 2 by omega))
      have HT := Lib.hid (StepX.fresh HS.out HX.out (fun j hj => by omega))
      have x0 := hb1.cell 0
      have x1 := hb1.cell 1
      have f0 := hb1.frozen 0
      have f1 := hb1.frozen 1
      simp only [List.getElem?_cons_zero, List.getElem?_cons_succ] at x0 x1
      have HPL := Lib.hid (setP_len F.length s wh)
      obtain ⟨L0, hL0⟩ : ∃ L, L = setP F.length s wh := ⟨_, rfl⟩
      rw [← hL0] at hb HB HPL
      have HL0 := Lib.hid hL0
      clear hb1 hL0 HN
      by_cases h1 : 0 ≤ a
      rotate_left
      · have h2 : ¬ 0 ≤ b' := fun h => h1 (hab h).1
        have hd1 : decide (0 ≤ a) = false := by simpa using h1
        have hd2 : decide (0 ≤ b') = false := by simpa using h2
        have HQ := Lib.hid (show setI (setI (setP F.length s wh) a u) b' u' = L0 by rw [← HL0.out]; unfold setI; rw [if_neg h2, if_neg h1])
        clear hab h1 h2 hb
        go_wp2
        have b2 := set2 (HB1.out) (.int .i64 wh) (.slice (some ⟨w.heap.size + 2, 0, none⟩) F.length F.length)
        have hll : (L0).length = F.length := by have := HPL.out; (try simp); omega
        have hsl : SLT (Old w) _ (.slice (some ⟨w.heap.size + 2, 0, none⟩) (L0).length F.length) (L0) := SLT.bx_ints ((HB.out).keep b2.2.keeps (by omega)) (by unfold Old; omega) F.length (by omega) (by omega)
        rw [hll] at hsl
        exact ret_struct (k := 2) rfl siBal rfl b2.1 rfl rfl ⟨_, rfl, ⟨_, rfl, _, rfl, by rw [HQ.out]; exact hsl⟩, StepX.fresh (HT.out) b2.2 (fun j hj => by omega)⟩
      obtain ⟨an, rfl⟩ : ∃ n : Nat, a = n := ⟨a.toNat, by omega⟩
      have han : an < F.length := by have := HA.out; omega
      have c1 := ints_cell hb (k := an) (by have := HPL.out; omega)
      have z1 := hb.frozen an
      have hix1 : (0 : Int) ≤ (an : Int) ∧ (an : Int) < (F.length : Int) := by omega
      by_cases h2 : 0 ≤ b'
      rotate_left
      · have hd2 : decide (0 ≤ b') = false := by simpa using h2
        have HQ := Lib.hid (show setI (setI (setP F.length s wh) an u) b' u' = L0.set an u by rw [← HL0.out]; unfold setI; rw [if_neg h2, if_pos h1]; rfl)
        clear hab h1 h2 hb
        go_wp2
        have hb5 := HB.out.setCell an (.int .i64 u)
        rw [ints_set] at hb5
        have hb6 := HB1.out.setOther (b := w.heap.size + 2) (o := an) (v := .int .i64 u) (by omega)
        have ht6 := HT.out.setNew ⟨w.heap.size + 2, an, none⟩ (.int .i64 u) (by show w.heap.size ≤ w.heap.size + 2; omega)
        have b2 := set2 (hb6) (.int .i64 wh) (.slice (some ⟨w.heap.size + 2, 0, none⟩) F.length F.length)
        have hll : ((L0.set an u)).length = F.length := by have := HPL.out; (try simp); omega
        have hsl : SLT (Old w) _ (.slice (some ⟨w.heap.size + 2, 0, none⟩) ((L0.set an u)).length F.length) ((L0.set an u)) := SLT.bx_ints ((hb5).keep b2.2.keeps (by omega)) (by unfold Old; omega) F.length (by omega) (by omega)
        rw [hll] at hsl
        exact ret_struct (k := 2) rfl siBal rfl b2.1 rfl rfl ⟨_, rfl, ⟨_, rfl, _, rfl, by rw [HQ.out]; exact hsl⟩, StepX.fresh (ht6) b2.2 (fun j hj => by omega)⟩
      obtain ⟨bn, rfl⟩ : ∃ n : Nat, b' = n := ⟨b'.toNat, by omega⟩
      have hbn : bn < F.length := by have := HA.out; omega
      have hne : ¬ an = bn := fun h => (hab h2).2 (by rw [h])
      have hne2 : ¬ bn = an := fun h => hne h.symm
      have c2 := ints_cell hb (k := bn) (by have := HPL.out; omega)
      have z2 := hb.frozen bn
      have hix2 : (0 : Int) ≤ (bn : Int) ∧ (bn : Int) < (F.length : Int) := by omega
      have HQ := Lib.hid (show setI (setI (setP F.length s wh) an u) bn u' = (L0.set an u).set bn u' by rw [← HL0.out]; unfold setI; rw [if_pos h2, if_pos h1]; rfl)
      clear hab h1 h2 hb
      go_wp2
      have hb5 := HB.out.setCell an (.int .i64 u)
      rw [ints_set] at hb5
      have hb7 := hb5.setCell bn (.int .i64 u')
      rw [ints_set] at hb7
      have hb6 := (HB1.out.setOther (b := w.heap.size + 2) (o := an) (v := .int .i64 u) (by omega)).setOther (b := w.heap.size + 2) (o := bn) (v := .int .i64 u') (by omega)
      have ht6 := (HT.out.setNew ⟨w.heap.size + 2, an, none⟩ (.int .i64 u) (by show w.heap.size ≤ w.heap.size + 2; omega)).setNew ⟨w.heap.size + 2, bn, none⟩ (.int .i64 u') (by show w.heap.size ≤ w.heap.size + 2; omega)
      have b2 := set2 (hb6) (.int .i64 wh) (.slice (some ⟨w.heap.size + 2, 0, none⟩) F.length F.length)
      have hll : (((L0.set an u).set bn u')).length = F.length := by have := HPL.out; (try simp); omega
      have hsl : SLT (Old w) _ (.slice (some ⟨w.heap.size + 2, 0, none⟩) (((L0.set an u).set bn u')).length F.length) (((L0.set an u).set bn u')) := SLT.bx_ints ((hb7).keep b2.2.keeps (by omega)) (by unfold Old; omega) F.length (by omega) (by omega)
      rw [hll] at hsl
      exact ret_struct (k := 2) rfl siBal rfl b2.1 rfl rfl ⟨_, rfl, ⟨_, rfl, _, rfl, by rw [HQ.out]; exact hsl⟩, StepX.fresh (ht6) b2.2 (fun j hj => by omega)⟩
end Go.Proofs.Ytdcjbbeoocldeaa
/- Walks: a balance with one guy that pulls in part. -/
namespace Go.Proofs.Ytdcjbbeoocldeaa
set_option linter.unusedSimpArgs false
set_option linter.unusedVariables false
open Go.RowKit Go.BT

theorem cross_fits {v o : Vec} {A B : Int} (hv : inV A v) (ho : inV B o) (hAB : A * B ≤ 4000000000000000000) : fits (v.x * o.y) ∧ fits (v.y * o.x) ∧ fits (v.x * o.y - v.y * o.x) := by
  have h1 := mul_in hv.1 ho.2
  have h2 := mul_in hv.2 ho.1
  unfold fits
  omega
theorem setI_no (l : List Int) (u : Int) : setI l (-1) u = l := by simp [setI]
theorem setI_nat (l : List Int) (a : Nat) (u : Int) : setI l a u = l.set a u := by simp [setI]
theorem noBal_av {S : Nat → Prop} {w : World} : AVO S w (.agg #[.int .i64 0, .slice none 0 0]) noBal := ⟨_, rfl, _, rfl, SLT.nil _ _⟩
set_option maxRecDepth 100000 in
set_option maxHeartbeats 8000000 in
theorem alone_any (F : List Vec) (area : Int) (need : Vec) (s a : Nat) (v : Value) (w : World) (hv : MV w v area F) (hF : smallV F) (hn : F.length ≤ 8) (hs : s < 256) (ha : a < F.length) (hne : inV 20000000 need) :
    Calls Try.prog 92 #[v, .agg #[.int .i64 need.x, .int .i64 need.y], .int .i64 s, .int .i64 a] w fun e w' => ∃ v', e = .returned (.tuple #[v', .bool (aloneL F need s a).2]) ∧ AVO (Old w) w' v' (aloneL F need s a).1 ∧ Step w w' := by
  have hv0 := hv
  obtain ⟨b, p2, n2, k2, p3, k3, rfl, hsl⟩ := hv
  obtain ⟨W0, hW0⟩ : ∃ W, W = (((w.alloc (.cells #[.int .i64 area, .int .i64 b, .slice p2 n2 k2, .slice p3 F.length k3] 117)).alloc (.cells #[.int .i64 need.x, .int .i64 need.y] 40)).alloc (.cells #[.int .i64 0, .slice none 0 0] 31)).alloc (.cells #[.int .i64 F[a].x, .int .i64 F[a].y] 40) := ⟨_, rfl⟩
  have hb4 : Bx W0 w.heap.size [.int .i64 area, .int .i64 b, .slice p2 n2 k2, .slice p3 F.length k3] 117 := by subst hW0; exact (((Bx.new w [_, _, _, _] _).alloc _).alloc _).alloc _
  have hb5 : Bx W0 (w.heap.size + 1) [.int .i64 need.x, .int .i64 need.y] 40 := by subst hW0; exact ((Bx.new' _ [_, _] _ _ (by simp)).alloc _).alloc _
  have hb8 : Bx W0 (w.heap.size + 2) [.int .i64 0, .slice none 0 0] 31 := by subst hW0; exact (Bx.new' _ [_, _] _ _ (by simp)).alloc _
  have hb10 : Bx W0 (w.heap.size + 3) [.int .i64 F[a].x, .int .i64 F[a].y] 40 := by subst hW0; exact Bx.new' _ [_, _] _ _ (by simp)
  have hS : Step w W0 := by subst hW0; exact (by repeat (first | (with_reducible assumption) | (with_reducible exact Step.refl _) | (with_reducible apply Step.s_alloc) | (with_reducible apply Step.s_drew) | (with_reducible apply Step.s_drewN) | (with_reducible refine Step.trans ?_ (by with_reducible assumption))))
  have hz : W0.heap.size = w.heap.size + 4 := by subst hW0; simp
  obtain ⟨q3, c3, b3, o3, he3, _, _, hp, hc, hbl⟩ := hsl.vecs
  have hblt := (hbl (by omega)).1
  have hblt1 : b3 < w.heap.size + 1 := by omega
  have hblt2 : b3 < w.heap.size + 2 := by omega
  have hblt3 : b3 < w.heap.size + 1 + 1 := by omega
  clear hbl
  injection he3 with he31 _ he33
  subst he31 he33
  obtain rfl := hp (by omega)
  obtain ⟨e1, e2⟩ := hc a ha
  have hix : (0 : Int) ≤ (a : Int) ∧ (a : Int) < (F.length : Int) := by omega
  have HMV := Lib.hid (hv0.step hS)
  have hin := small_get hF ha
  obtain ⟨f, hf⟩ : ∃ f, f = F[a] := ⟨_, rfl⟩
  rw [← hf] at hb10 e1 e2 hin hW0
  have HF2 := Lib.hid hf
  have HB4 := Lib.hid hb4
  have HB5 := Lib.hid hb5
  have HB8 := Lib.hid hb8
  have HB10 := Lib.hid hb10
  have HS := Lib.hid hS
  have HZ := Lib.hid hz
  have HW := Lib.hid hW0
  have HIN := Lib.hid (And.intro hin hne)
  have hdf := dot_fits hin hin (by decide)
  have hcf := cross_fits hin hne (by decide)
  have HDF := Lib.hid (And.intro hdf hcf)
  have HT0 := Lib.hid (Step.refl W0)
  clear hf hp hc hsl hv0 hb4 hb5 hb8 hb10 hS hz hW0 hin hdf hcf hne hF
  go_enter Try.func92, Try.ntmps92
  go_wp2_with fail
  rw [show w.heap.size + 1 + 1 = w.heap.size + 2 from rfl, show w.heap.size + 2 + 1 = w.heap.size + 3 from rfl, ← HW.out]
  refine (dot_any f f _ HDF.out.1.1 HDF.out.1.2.1 HDF.out.1.2.2.1).mono ?_
  rintro e w1 ⟨rfl, hS1⟩
  have HT := Lib.hid hS1
  obtain ⟨dd, hdd⟩ : ∃ d, d = dotV f f := ⟨_, rfl⟩
  rw [← hdd]
  have HDD := Lib.hid hdd
  clear hS1 hdd e1 e2 hblt hblt1 hblt2 hblt3
  by_cases h0 : dd = 0
  · have hd : (dd == 0) = true := by simpa using h0
    have H0 := Lib.hid h0
    clear h0
    have hcb := HB8.out.step HT.out
    have z0 := hcb.frozen 0
    have z1 := hcb.frozen 1
    have y0 := hcb.cell 0
    have y1 := hcb.cell 1
    simp only [List.getElem?_cons_zero, List.getElem?_cons_succ] at y0 y1
    have HCB := Lib.hid hcb
    have HQ := Lib.hid (show aloneL F need s a = (noBal, false) by unfold aloneL; rw [if_pos (by left; rw [atV_get ha, ← HF2.out, ← HDD.out]; exact H0.out)])
    clear hcb
    go_wp2
    have b2 := set2 HCB.out (.int .i64 0) (.slice none 0 0)
    exact ret_struct2 (k := 2) rfl siBal rfl b2.1 rfl rfl ⟨_, by rw [HQ.out]; rfl, by rw [HQ.out]; exact noBal_av, StepX.fresh (HS.out.trans HT.out) b2.2 (fun j hj => by omega)⟩
  have hd : (dd == 0) = false := by simpa using h0
  have H0 := Lib.hid h0
  clear h0
  have g0 := (HB10.out.step HT.out).cell 0
  have g1 := (HB10.out.step HT.out).cell 1
  have n0 := (HB5.out.step HT.out).cell 0
  have n1 := (HB5.out.step HT.out).cell 1
  simp only [List.getElem?_cons_zero, List.getElem?_cons_succ] at g0 g1 n0 n1
  go_wp2_with fail
  refine (cross_any f need _ HDF.out.2.1 HDF.out.2.2.1 HDF.out.2.2.2).mono ?_
  rintro e w2 ⟨rfl, hS2⟩
  have HTx := Lib.hid (HT.out.trans hS2)
  clear HT g0 g1 n0 n1 hS2 hd
  have HT := HTx
  clear HTx
  obtain ⟨cc, hcc⟩ : ∃ d, d = crossV f need := ⟨_, rfl⟩
  rw [← hcc]
  have HCC := Lib.hid hcc
  clear hcc
  by_cases h1 : cc = 0
  rotate_left
  · have hd : (cc != 0) = true := by simpa using h1
    have H1 := Lib.hid h1
    clear h1
    have hcb := HB8.out.step HT.out
    have z0 := hcb.frozen 0
    have z1 := hcb.frozen 1
    have y0 := hcb.cell 0
    have y1 := hcb.cell 1
    simp only [List.getElem?_cons_zero, List.getElem?_cons_succ] at y0 y1
    have HCB := Lib.hid hcb
    have HQ := Lib.hid (show aloneL F need s a = (noBal, false) by unfold aloneL; rw [if_pos (by right; rw [atV_get ha, ← HF2.out, ← HCC.out]; exact H1.out)])
    clear hcb
    go_wp2
    have b2 := set2 HCB.out (.int .i64 0) (.slice none 0 0)
    exact ret_struct2 (k := 2) rfl siBal rfl b2.1 rfl rfl ⟨_, by rw [HQ.out]; rfl, by rw [HQ.out]; exact noBal_av, StepX.fresh (HS.out.trans HT.out) b2.2 (fun j hj => by omega)⟩
  have hd : (cc != 0) = false := by simpa using h1
  have HNO := Lib.hid (show ¬ (dotV (atV F a) (atV F a) = 0 ∨ crossV (atV F a) need ≠ 0) by
    rw [atV_get ha, ← HF2.out, ← HDD.out, ← HCC.out]
    intro h; rcases h with h | h
    · exact H0.out h
    · exact h h1)
  clear h1
  have g0 := (HB10.out.step HT.out).cell 0
  have g1 := (HB10.out.step HT.out).cell 1
  have n0 := (HB5.out.step HT.out).cell 0
  have n1 := (HB5.out.step HT.out).cell 1
  simp only [List.getElem?_cons_zero, List.getElem?_cons_succ] at g0 g1 n0 n1
  go_upto_region 5 with (fail)
  go_quiet (fail)
  have HTx := Lib.hid (HT.out.trans (Step.drewN w2 nq))
  clear HT g0 g1 n0 n1 hd
  have HT := HTx
  clear HTx
  generalize w2.drewN nq = w3 at *
  have hfx : (-500000 ≤ f.x ∧ f.x ≤ 500000) ∧ -500000 ≤ f.y ∧ f.y ≤ 500000 := HIN.out.1
  have hnx : (-20000000 ≤ need.x ∧ need.x ≤ 20000000) ∧ -20000000 ≤ need.y ∧ need.y ≤ 20000000 := HIN.out.2
  have hw1 : IntKind.i64.wrap (-f.x) = -f.x := by rw [IntKind.wrap_i64]; omega
  have hw2 : IntKind.i64.wrap (-f.y) = -f.y := by rw [IntKind.wrap_i64]; omega
  have hw3 : IntKind.i64.wrap (-need.x) = -need.x := by rw [IntKind.wrap_i64]; omega
  have hw4 : IntKind.i64.wrap (-need.y) = -need.y := by rw [IntKind.wrap_i64]; omega
  clear hfx hnx
  by_cases hx : f.x = 0
  · have hd : (f.x == 0) = true := by simpa using hx
    have HX := Lib.hid hx
    clear hx
    have g0 := (HB10.out.step HT.out).cell 0
    have g1 := (HB10.out.step HT.out).cell 1
    have n0 := (HB5.out.step HT.out).cell 0
    have n1 := (HB5.out.step HT.out).cell 1
    simp only [List.getElem?_cons_zero, List.getElem?_cons_succ] at g0 g1 n0 n1
    go_upto_region 7 with (fail)
    go_quiet (fail)
    have HTx := Lib.hid (HT.out.trans (Step.drewN w3 nq))
    clear HT g0 g1 n0 n1 hd
    have HT := HTx
    clear HTx
    generalize w3.drewN nq = w4 at *
    by_cases hl : f.y < 0
    · have hd : decide (f.y < 0) = true := by simpa using hl
      have hrt : ratio f need = (-need.y, -f.y) := by unfold ratio; rw [if_pos HX.out]; dsimp only; rw [if_pos hl]
      clear hl
      have HRT := Lib.hid hrt
      clear hrt
      obtain ⟨m0, m1, m2, m3⟩ := cells4 (HB4.out.step HT.out)
      go_wp2_with fail
      refine (parts_any F area s (-f.y) a (-need.y) (-1) 0 _ _ (HMV.out.step HT.out) hn hs ⟨by omega, by omega⟩ ⟨by omega, by omega⟩ (fun h => absurd h (by decide))).mono ?_
      rintro e w2 ⟨vb, rfl, hvb, hS2⟩
      rw [setI_no, setI_nat] at hvb
      obtain ⟨PL, hPL⟩ : ∃ L, L = (setP F.length s (-f.y)).set a (-need.y) := ⟨_, rfl⟩
      rw [← hPL] at hvb
      have HPL := Lib.hid hPL
      clear hPL
      obtain ⟨c1, rfl, hcl⟩ := hvb.bal
      obtain ⟨pb, kb, rfl⟩ := hcl.form
      have HVB := Lib.hid hvb
      have HTP := Lib.hid HT.out.size
      have HTx := Lib.hid (HT.out.trans hS2)
      clear hvb hcl hS2 HT m0 m1 m2 m3
      have HT := HTx
      clear HTx
      go_wp2_with fail
      refine (canvas.within_any _ _ _ _).mono ?_
      rintro e w' ⟨rfl, rfl⟩
      have hcb := HB8.out.step HT.out
      have z0 := hcb.frozen 0
      have z1 := hcb.frozen 1
      have y0 := hcb.cell 0
      have y1 := hcb.cell 1
      simp only [List.getElem?_cons_zero, List.getElem?_cons_succ] at y0 y1
      have HCB := Lib.hid hcb
      have HQ := Lib.hid (show aloneL F need s a = (⟨-f.y, (setP F.length s (-f.y)).set a (-need.y)⟩, withinB (-need.y) 0 (-f.y)) by unfold aloneL; rw [if_neg HNO.out, atV_get ha, ← HF2.out, HRT.out]; rfl)
      obtain ⟨wb, hwb⟩ : ∃ b, b = withinB (-need.y) 0 (-f.y) := ⟨_, rfl⟩
      rw [← hwb]
      rw [← hwb] at HQ
      rw [← HPL.out] at HQ
      clear hcb hwb
      go_wp2
      have b2 := set2 HCB.out (.int .i64 (-f.y)) (.slice pb PL.length kb)
      have hz0 := HZ.out
      have hz1 := HTP.out
      exact ret_struct2 (k := 2) rfl siBal rfl b2.1 rfl rfl ⟨_, by rw [HQ.out]; rfl, by rw [HQ.out]; exact ((HVB.out.weak (T := fun j => Old w j ∨ j = w.heap.size + 2) (fun j _ hj => by unfold Old at *; omega)).keep (b2.2.keeps.mono fun j _ hj => .inr hj)).weak (fun j _ hj => .inl hj), StepX.fresh (HS.out.trans HT.out) b2.2 (fun j hj => by omega)⟩
    · have hd : decide (f.y < 0) = false := by simpa using hl
      have hrt : ratio f need = (need.y, f.y) := by unfold ratio; rw [if_pos HX.out]; dsimp only; rw [if_neg hl]
      clear hl
      have HRT := Lib.hid hrt
      clear hrt
      obtain ⟨m0, m1, m2, m3⟩ := cells4 (HB4.out.step HT.out)
      go_wp2_with fail
      refine (parts_any F area s (f.y) a (need.y) (-1) 0 _ _ (HMV.out.step HT.out) hn hs ⟨by omega, by omega⟩ ⟨by omega, by omega⟩ (fun h => absurd h (by decide))).mono ?_
      rintro e w2 ⟨vb, rfl, hvb, hS2⟩
      rw [setI_no, setI_nat] at hvb
      obtain ⟨PL, hPL⟩ : ∃ L, L = (setP F.length s (f.y)).set a (need.y) := ⟨_, rfl⟩
      rw [← hPL] at hvb
      have HPL := Lib.hid hPL
      clear hPL
      obtain ⟨c1, rfl, hcl⟩ := hvb.bal
      obtain ⟨pb, kb, rfl⟩ := hcl.form
      have HVB := Lib.hid hvb
      have HTP := Lib.hid HT.out.size
      have HTx := Lib.hid (HT.out.trans hS2)
      clear hvb hcl hS2 HT m0 m1 m2 m3
      have HT := HTx
      clear HTx
      go_wp2_with fail
      refine (canvas.within_any _ _ _ _).mono ?_
      rintro e w' ⟨rfl, rfl⟩
      have hcb := HB8.out.step HT.out
      have z0 := hcb.frozen 0
      have z1 := hcb.frozen 1
      have y0 := hcb.cell 0
      have y1 := hcb.cell 1
      simp only [List.getElem?_cons_zero, List.getElem?_cons_succ] at y0 y1
      have HCB := Lib.hid hcb
      have HQ := Lib.hid (show aloneL F need s a = (⟨f.y, (setP F.length s (f.y)).set a (need.y)⟩, withinB (need.y) 0 (f.y)) by unfold aloneL; rw [if_neg HNO.out, atV_get ha, ← HF2.out, HRT.out]; rfl)
      obtain ⟨wb, hwb⟩ : ∃ b, b = withinB (need.y) 0 (f.y) := ⟨_, rfl⟩
      rw [← hwb]
      rw [← hwb] at HQ
      rw [← HPL.out] at HQ
      clear hcb hwb
      go_wp2
      have b2 := set2 HCB.out (.int .i64 (f.y)) (.slice pb PL.length kb)
      have hz0 := HZ.out
      have hz1 := HTP.out
      exact ret_struct2 (k := 2) rfl siBal rfl b2.1 rfl rfl ⟨_, by rw [HQ.out]; rfl, by rw [HQ.out]; exact ((HVB.out.weak (T := fun j => Old w j ∨ j = w.heap.size + 2) (fun j _ hj => by unfold Old at *; omega)).keep (b2.2.keeps.mono fun j _ hj => .inr hj)).weak (fun j _ hj => .inl hj), StepX.fresh (HS.out.trans HT.out) b2.2 (fun j hj => by omega)⟩
  · have hd0 : (f.x == 0) = false := by simpa using hx
    by_cases hl : f.x < 0
    · have hd : decide (f.x < 0) = true := by simpa using hl
      have hrt : ratio f need = (-need.x, -f.x) := by unfold ratio; rw [if_neg hx]; dsimp only; rw [if_pos hl]
      clear hl hx
      have HRT := Lib.hid hrt
      clear hrt
      obtain ⟨m0, m1, m2, m3⟩ := cells4 (HB4.out.step HT.out)
      go_wp2_with fail
      refine (parts_any F area s (-f.x) a (-need.x) (-1) 0 _ _ (HMV.out.step HT.out) hn hs ⟨by omega, by omega⟩ ⟨by omega, by omega⟩ (fun h => absurd h (by decide))).mono ?_
      rintro e w2 ⟨vb, rfl, hvb, hS2⟩
      rw [setI_no, setI_nat] at hvb
      obtain ⟨PL, hPL⟩ : ∃ L, L = (setP F.length s (-f.x)).set a (-need.x) := ⟨_, rfl⟩
      rw [← hPL] at hvb
      have HPL := Lib.hid hPL
      clear hPL
      obtain ⟨c1, rfl, hcl⟩ := hvb.bal
      obtain ⟨pb, kb, rfl⟩ := hcl.form
      have HVB := Lib.hid hvb
      have HTP := Lib.hid HT.out.size
      have HTx := Lib.hid (HT.out.trans hS2)
      clear hvb hcl hS2 HT m0 m1 m2 m3
      have HT := HTx
      clear HTx
      go_wp2_with fail
      refine (canvas.within_any _ _ _ _).mono ?_
      rintro e w' ⟨rfl, rfl⟩
      have hcb := HB8.out.step HT.out
      have z0 := hcb.frozen 0
      have z1 := hcb.frozen 1
      have y0 := hcb.cell 0
      have y1 := hcb.cell 1
      simp only [List.getElem?_cons_zero, List.getElem?_cons_succ] at y0 y1
      have HCB := Lib.hid hcb
      have HQ := Lib.hid (show aloneL F need s a = (⟨-f.x, (setP F.length s (-f.x)).set a (-need.x)⟩, withinB (-need.x) 0 (-f.x)) by unfold aloneL; rw [if_neg HNO.out, atV_get ha, ← HF2.out, HRT.out]; rfl)
      obtain ⟨wb, hwb⟩ : ∃ b, b = withinB (-need.x) 0 (-f.x) := ⟨_, rfl⟩
      rw [← hwb]
      rw [← hwb] at HQ
      rw [← HPL.out] at HQ
      clear hcb hwb
      go_wp2
      have b2 := set2 HCB.out (.int .i64 (-f.x)) (.slice pb PL.length kb)
      have hz0 := HZ.out
      have hz1 := HTP.out
      exact ret_struct2 (k := 2) rfl siBal rfl b2.1 rfl rfl ⟨_, by rw [HQ.out]; rfl, by rw [HQ.out]; exact ((HVB.out.weak (T := fun j => Old w j ∨ j = w.heap.size + 2) (fun j _ hj => by unfold Old at *; omega)).keep (b2.2.keeps.mono fun j _ hj => .inr hj)).weak (fun j _ hj => .inl hj), StepX.fresh (HS.out.trans HT.out) b2.2 (fun j hj => by omega)⟩
    · have hd : decide (f.x < 0) = false := by simpa using hl
      have hrt : ratio f need = (need.x, f.x) := by unfold ratio; rw [if_neg hx]; dsimp only; rw [if_neg hl]
      clear hl hx
      have HRT := Lib.hid hrt
      clear hrt
      obtain ⟨m0, m1, m2, m3⟩ := cells4 (HB4.out.step HT.out)
      go_wp2_with fail
      refine (parts_any F area s (f.x) a (need.x) (-1) 0 _ _ (HMV.out.step HT.out) hn hs ⟨by omega, by omega⟩ ⟨by omega, by omega⟩ (fun h => absurd h (by decide))).mono ?_
      rintro e w2 ⟨vb, rfl, hvb, hS2⟩
      rw [setI_no, setI_nat] at hvb
      obtain ⟨PL, hPL⟩ : ∃ L, L = (setP F.length s (f.x)).set a (need.x) := ⟨_, rfl⟩
      rw [← hPL] at hvb
      have HPL := Lib.hid hPL
      clear hPL
      obtain ⟨c1, rfl, hcl⟩ := hvb.bal
      obtain ⟨pb, kb, rfl⟩ := hcl.form
      have HVB := Lib.hid hvb
      have HTP := Lib.hid HT.out.size
      have HTx := Lib.hid (HT.out.trans hS2)
      clear hvb hcl hS2 HT m0 m1 m2 m3
      have HT := HTx
      clear HTx
      go_wp2_with fail
      refine (canvas.within_any _ _ _ _).mono ?_
      rintro e w' ⟨rfl, rfl⟩
      have hcb := HB8.out.step HT.out
      have z0 := hcb.frozen 0
      have z1 := hcb.frozen 1
      have y0 := hcb.cell 0
      have y1 := hcb.cell 1
      simp only [List.getElem?_cons_zero, List.getElem?_cons_succ] at y0 y1
      have HCB := Lib.hid hcb
      have HQ := Lib.hid (show aloneL F need s a = (⟨f.x, (setP F.length s (f.x)).set a (need.x)⟩, withinB (need.x) 0 (f.x)) by unfold aloneL; rw [if_neg HNO.out, atV_get ha, ← HF2.out, HRT.out]; rfl)
      obtain ⟨wb, hwb⟩ : ∃ b, b = withinB (need.x) 0 (f.x) := ⟨_, rfl⟩
      rw [← hwb]
      rw [← hwb] at HQ
      rw [← HPL.out] at HQ
      clear hcb hwb
      go_wp2
      have b2 := set2 HCB.out (.int .i64 (f.x)) (.slice pb PL.length kb)
      have hz0 := HZ.out
      have hz1 := HTP.out
      exact ret_struct2 (k := 2) rfl siBal rfl b2.1 rfl rfl ⟨_, by rw [HQ.out]; rfl, by rw [HQ.out]; exact ((HVB.out.weak (T := fun j => Old w j ∨ j = w.heap.size + 2) (fun j _ hj => by unfold Old at *; omega)).keep (b2.2.keeps.mono fun j _ hj => .inr hj)).weak (fun j _ hj => .inl hj), StepX.fresh (HS.out.trans HT.out) b2.2 (fun j hj => by omega)⟩
end Go.Proofs.Ytdcjbbeoocldeaa
/- Walks: a balance with two guys that pull in part. -/
namespace Go.Proofs.Ytdcjbbeoocldeaa
set_option linter.unusedSimpArgs false
set_option linter.unusedVariables false
open Go.RowKit Go.BT

theorem cross_in {v o : Vec} {A B : Int} (hv : inV A v) (ho : inV B o) : -(2 * (A * B)) ≤ crossV v o ∧ crossV v o ≤ 2 * (A * B) := by
  have h1 := mul_in hv.1 ho.2
  have h2 := mul_in hv.2 ho.1
  unfold crossV
  omega
set_option maxRecDepth 100000 in
set_option maxHeartbeats 8000000 in
theorem both_any (F : List Vec) (area : Int) (need : Vec) (s a b' : Nat) (v : Value) (w : World) (hv : MV w v area F) (hF : smallV F) (hn : F.length ≤ 8) (hs : s < 256) (ha : a < F.length) (hb' : b' < a) (hne : inV 20000000 need) :
    Calls Try.prog 93 #[v, .agg #[.int .i64 need.x, .int .i64 need.y], .int .i64 s, .int .i64 a, .int .i64 b'] w fun e w' => ∃ v', e = .returned (.tuple #[v', .bool (bothL F need s a b').2]) ∧ AVO (Old w) w' v' (bothL F need s a b').1 ∧ Step w w' := by
  have hv0 := hv
  obtain ⟨b, p2, n2, k2, p3, k3, rfl, hsl⟩ := hv
  obtain ⟨W0, hW0⟩ : ∃ W, W = ((w.alloc (.cells #[.int .i64 area, .int .i64 b, .slice p2 n2 k2, .slice p3 F.length k3] 117)).alloc (.cells #[.int .i64 need.x, .int .i64 need.y] 40)).alloc (.cells #[.int .i64 0, .slice none 0 0] 31) := ⟨_, rfl⟩
  have hb5 : Bx W0 w.heap.size [.int .i64 area, .int .i64 b, .slice p2 n2 k2, .slice p3 F.length k3] 117 := by subst hW0; exact ((Bx.new w [_, _, _, _] _).alloc _).alloc _
  have hb6 : Bx W0 (w.heap.size + 1) [.int .i64 need.x, .int .i64 need.y] 40 := by subst hW0; exact (Bx.new' _ [_, _] _ _ (by simp)).alloc _
  have hb10 : Bx W0 (w.heap.size + 2) [.int .i64 0, .slice none 0 0] 31 := by subst hW0; exact Bx.new' _ [_, _] _ _ (by simp)
  have hS : Step w W0 := by subst hW0; exact (by repeat (first | (with_reducible assumption) | (with_reducible exact Step.refl _) | (with_reducible apply Step.s_alloc) | (with_reducible apply Step.s_drew) | (with_reducible apply Step.s_drewN) | (with_reducible refine Step.trans ?_ (by with_reducible assumption))))
  have hz : W0.heap.size = w.heap.size + 3 := by subst hW0; simp
  obtain ⟨q3, c3, b3, o3, he3, _, _, hp, hc, hbl⟩ := hsl.vecs
  injection he3 with he31 _ he33
  subst he31 he33
  have HBL3 := Lib.hid (hbl (by omega)).1
  obtain rfl := hp (by omega)
  have HCE := Lib.hid (And.intro (hc a ha) (hc b' (by omega)))
  have hix : (0 : Int) ≤ (a : Int) ∧ (a : Int) < (F.length : Int) := by omega
  have hiy : (0 : Int) ≤ (b' : Int) ∧ (b' : Int) < (F.length : Int) := by omega
  have HMV := Lib.hid (hv0.step hS)
  have hif := small_get hF ha
  have hig := small_get hF (show b' < F.length by omega)
  have HFB := Lib.hid hb'
  obtain ⟨f, hf⟩ : ∃ f, f = F[a] := ⟨_, rfl⟩
  obtain ⟨g, hg⟩ : ∃ g, g = F[b']'(by omega) := ⟨_, rfl⟩
  rw [← hf] at HCE hif
  rw [← hg] at HCE hig
  have HFG := Lib.hid (And.intro hf hg)
  have HB5 := Lib.hid hb5
  have HB6 := Lib.hid hb6
  have HB10 := Lib.hid hb10
  have HS := Lib.hid hS
  have HZ := Lib.hid hz
  have HW := Lib.hid hW0
  have HX1 := Lib.hid (And.intro (cross_fits hif hig (by decide)) (cross_in hif hig))
  have HX2 := Lib.hid (And.intro (cross_fits hne hig (by decide)) (cross_in hne hig))
  have HX3 := Lib.hid (And.intro (cross_fits hif hne (by decide)) (cross_in hif hne))
  have HT := Lib.hid (Step.refl W0)
  clear hf hg hp hc hbl hsl hv0 hb5 hb6 hb10 hS hz hW0 hif hig hne hF
  go_enter Try.func93, Try.ntmps93
  go_upto_region 1 with (fail)
  rw [show w.heap.size + 1 + 1 = w.heap.size + 2 from rfl, ← HW.out]
  obtain ⟨m0, m1, m2, m3⟩ := cells4 HB5.out
  have hl1 : w.heap.size < W0.heap.size := by have := HZ.out; omega
  have hl2 : b3 < W0.heap.size := by have := HZ.out; have := HBL3.out; omega
  have e0 := HS.out.keeps.cell id HCE.out.1.1
  have e1 := HS.out.keeps.cell id HCE.out.1.2
  have e2 := HS.out.keeps.cell id HCE.out.2.1
  have e3 := HS.out.keeps.cell id HCE.out.2.2
  go_cut [12, 13] (fun p q wx => ∃ ga gm, p = .pointer (some ⟨ga, 0, none⟩) ∧ q = .pointer (some ⟨gm, 0, none⟩) ∧ Bx wx ga [.int .i64 f.x, .int .i64 f.y] 40 ∧ Bx wx gm [.int .i64 g.x, .int .i64 g.y] 40 ∧ Step W0 wx)
  case first =>
    go_region
    · go_wp2_with fail
      go_meet
      exact ⟨_, _, rfl, rfl, ((Bx.new W0 [_, _] _).alloc _).step (.drew _), (Bx.new' _ [_, _] _ _ (by simp)).step (.drew _), (by repeat (first | (with_reducible assumption) | (with_reducible exact Step.refl _) | (with_reducible apply Step.s_alloc) | (with_reducible apply Step.s_drew) | (with_reducible apply Step.s_drewN) | (with_reducible refine Step.trans ?_ (by with_reducible assumption))))⟩
    · go_wp2_with fail
      go_meet
      exact ⟨_, _, rfl, rfl, (Bx.new' _ [_, _] _ _ (by simp)).step (.drew _), ((Bx.new W0 [_, _] _).alloc _).step (.drew _), (by repeat (first | (with_reducible assumption) | (with_reducible exact Step.refl _) | (with_reducible apply Step.s_alloc) | (with_reducible apply Step.s_drew) | (with_reducible apply Step.s_drewN) | (with_reducible refine Step.trans ?_ (by with_reducible assumption))))⟩
  case rest =>
    obtain ⟨ga, gm, rfl, rfl, hbf, hbg, hS8⟩ := hcut
    clear m0 m1 m2 m3 e0 e1 e2 e3 hl1 hl2
    obtain ⟨w8, hw8⟩ : ∃ W, W = wc := ⟨_, rfl⟩
    subst hw8
    have HBF := Lib.hid hbf
    have HBG := Lib.hid hbg
    clear HT
    have HT := Lib.hid hS8
    clear hbf hbg hS8
    have HT8 := Lib.hid (Step.refl w8)
    go_upto_region 2 with (fail)
    refine wp_region_seq (kdOf [2, 5, 8] []) [0, 0, 3, 0, 0, 31, 0, 0, 255, 511, 1023, 2047] [0, 1, 3, 4, 6, 7, 2, 5, 8, 9, 10, 11] [] (by kernel_rfl) (by kernel_rfl) (fun i T z hi hk => by simp [kdOf] at hk <;> (try (split at hk <;> cases hk))) ?_
    intro Wx hWx
    have HTb := Lib.hid HT.out
    clear HT
    have HT := Lib.hid hWx
    clear hWx HT8
    have f0 := (HBF.out.step HT.out).cell 0
    have f1 := (HBF.out.step HT.out).cell 1
    have g0 := (HBG.out.step HT.out).cell 0
    have g1 := (HBG.out.step HT.out).cell 1
    have n0 := (HB6.out.step (HTb.out.trans HT.out)).cell 0
    have n1 := (HB6.out.step (HTb.out.trans HT.out)).cell 1
    simp only [List.getElem?_cons_zero, List.getElem?_cons_succ] at f0 f1 g0 g1 n0 n1
    repeat (first | (refine run_off rfl rfl (by rfl) ?_; (try simp only [Act.put, List.setIfInBounds_toArray, List.set_cons_zero, List.set_cons_succ])) | (refine run_chain_off rfl rfl (by rfl) (K0_mono _) ?_; (try simp only [Act.put, List.setIfInBounds_toArray, List.set_cons_zero, List.set_cons_succ])) | ((refine run_want rfl rfl (by rfl) ⟨?_, fun W hW => ?_, ?_⟩; rotate_left; (· (have d0 := hW.keeps.cell id f0; have d1 := hW.keeps.cell id f1; have d2 := hW.keeps.cell id g0; have d3 := hW.keeps.cell id g1; have d4 := hW.keeps.cell id n0; have d5 := hW.keeps.cell id n1; go_simp; (try with_reducible rfl)))); (try simp only [Act.put, List.setIfInBounds_toArray, List.set_cons_zero, List.set_cons_succ])))
    clear f0 f1 g0 g1 n0 n1
    refine run_chain rfl rfl (by rfl) (fun Wi hWi K' hK => ?_)
    have HTi := Lib.hid (HT.out.trans hWi)
    have HZW := Lib.hid HTi.out.size
    clear hWi HT
    go_simp
    refine (cross_any f g _ HX1.out.1.1 HX1.out.1.2.1 HX1.out.1.2.2).mono ?_
    rintro e wn ⟨rfl, hSn⟩
    have HT := Lib.hid (HTi.out.trans (StepX.of hSn))
    clear HTi
    refine hK _ _ (StepX.of hSn) ?_
    clear hSn
    (try simp only [Act.put, List.setIfInBounds_toArray, List.set_cons_zero, List.set_cons_succ])
    repeat (first | (refine run_off rfl rfl (by rfl) ?_; (try simp only [Act.put, List.setIfInBounds_toArray, List.set_cons_zero, List.set_cons_succ])) | (refine run_chain_off rfl rfl (by rfl) (K0_mono _) ?_; (try simp only [Act.put, List.setIfInBounds_toArray, List.set_cons_zero, List.set_cons_succ])) | ((refine run_want rfl rfl (by rfl) ⟨?_, fun W hW => ?_, ?_⟩; rotate_left; (· (skip; go_simp; (try with_reducible rfl)))); (try simp only [Act.put, List.setIfInBounds_toArray, List.set_cons_zero, List.set_cons_succ])))
    refine run_chain rfl rfl (by rfl) (fun Wi hWi K' hK => ?_)
    have HTi := Lib.hid (HT.out.trans hWi)
    have HZW := Lib.hid HTi.out.size
    clear hWi HT
    go_simp
    refine (cross_any need g _ HX2.out.1.1 HX2.out.1.2.1 HX2.out.1.2.2).mono ?_
    rintro e wn ⟨rfl, hSn⟩
    have HT := Lib.hid (HTi.out.trans (StepX.of hSn))
    clear HTi
    refine hK _ _ (StepX.of hSn) ?_
    clear hSn
    (try simp only [Act.put, List.setIfInBounds_toArray, List.set_cons_zero, List.set_cons_succ])
    repeat (first | (refine run_off rfl rfl (by rfl) ?_; (try simp only [Act.put, List.setIfInBounds_toArray, List.set_cons_zero, List.set_cons_succ])) | (refine run_chain_off rfl rfl (by rfl) (K0_mono _) ?_; (try simp only [Act.put, List.setIfInBounds_toArray, List.set_cons_zero, List.set_cons_succ])) | ((refine run_want rfl rfl (by rfl) ⟨?_, fun W hW => ?_, ?_⟩; rotate_left; (· (skip; go_simp; (try with_reducible rfl)))); (try simp only [Act.put, List.setIfInBounds_toArray, List.set_cons_zero, List.set_cons_succ])))
    refine run_chain rfl rfl (by rfl) (fun Wi hWi K' hK => ?_)
    have HTi := Lib.hid (HT.out.trans hWi)
    have HZW := Lib.hid HTi.out.size
    clear hWi HT
    go_simp
    refine (cross_any f need _ HX3.out.1.1 HX3.out.1.2.1 HX3.out.1.2.2).mono ?_
    rintro e wn ⟨rfl, hSn⟩
    have HT := Lib.hid (HTi.out.trans (StepX.of hSn))
    clear HTi
    refine hK _ _ (StepX.of hSn) ?_
    clear hSn
    (try simp only [Act.put, List.setIfInBounds_toArray, List.set_cons_zero, List.set_cons_succ])
    repeat (first | (refine run_off rfl rfl (by rfl) ?_; (try simp only [Act.put, List.setIfInBounds_toArray, List.set_cons_zero, List.set_cons_succ])) | (refine run_chain_off rfl rfl (by rfl) (K0_mono _) ?_; (try simp only [Act.put, List.setIfInBounds_toArray, List.set_cons_zero, List.set_cons_succ])) | ((refine run_want rfl rfl (by rfl) ⟨?_, fun W hW => ?_, ?_⟩; rotate_left; (· (skip; go_simp; (try with_reducible rfl)))); (try simp only [Act.put, List.setIfInBounds_toArray, List.set_cons_zero, List.set_cons_succ])))
    refine run_end (L := []) rfl (fun W6 hW6 => ?_)
    have HT6 := Lib.hid (HT.out.trans hW6)
    clear hW6 HT
    have HT := HT6
    clear HT6
    have HTx := Lib.hid (HTb.out.trans HT.out)
    clear HT HTb
    have HT := HTx
    clear HTx
    obtain ⟨d, hd⟩ : ∃ d, d = crossV f g := ⟨_, rfl⟩
    obtain ⟨n, hnn⟩ : ∃ d, d = crossV need g := ⟨_, rfl⟩
    obtain ⟨o, ho⟩ : ∃ d, d = crossV f need := ⟨_, rfl⟩
    have h1 := HX1.out.2
    have h2 := HX2.out.2
    have h3 := HX3.out.2
    rw [← hd] at h1
    rw [← hnn] at h2
    rw [← ho] at h3
    rw [← hd, ← hnn, ← ho]
    have hw1 : IntKind.i64.wrap (-d) = -d := by rw [IntKind.wrap_i64]; omega
    have hw2 : IntKind.i64.wrap (-n) = -n := by rw [IntKind.wrap_i64]; omega
    have hw3 : IntKind.i64.wrap (-o) = -o := by rw [IntKind.wrap_i64]; omega
    have HDNO := Lib.hid (And.intro hd (And.intro hnn ho))
    clear h1 h2 h3 hd hnn ho
    by_cases hl : d < 0
    · have hd1 : decide (d < 0) = true := by simpa using hl
      obtain ⟨D, hD⟩ : ∃ D, D = -d := ⟨_, rfl⟩
      obtain ⟨N, hN⟩ : ∃ D, D = -n := ⟨_, rfl⟩
      obtain ⟨O, hO⟩ : ∃ D, D = -o := ⟨_, rfl⟩
      have HRT := Lib.hid (show crs f g need = (D, N, O) by unfold crs; rw [← HDNO.out.1, ← HDNO.out.2.1, ← HDNO.out.2.2, if_pos hl, hD, hN, hO])
      have HD := Lib.hid (And.intro hD (And.intro hN hO))
      clear hD hN hO hl
      obtain ⟨m0, m1, m2, m3⟩ := cells4 (HB5.out.step HT.out)
      go_wp2_with fail
      rw [← HD.out.1, ← HD.out.2.1, ← HD.out.2.2]
      refine (parts_any F area s D a N b' O _ _ (HMV.out.step HT.out) hn hs ⟨by omega, by omega⟩ ⟨by omega, by omega⟩ (fun h => ⟨by omega, by omega⟩)).mono ?_
      rintro e w2 ⟨vb, rfl, hvb, hS2⟩
      rw [setI_nat, setI_nat] at hvb
      obtain ⟨PL, hPL⟩ : ∃ L, L = ((setP F.length s D).set a N).set b' O := ⟨_, rfl⟩
      rw [← hPL] at hvb
      have HQ := Lib.hid (show bothL F need s a b' = (⟨D, PL⟩, decide (0 < D) && withinB N 0 D && withinB O 0 D) by
        unfold bothL
        rw [atV_get ha, atV_get (show b' < F.length by omega), ← HFG.out.1, ← HFG.out.2, HRT.out, hPL]; rfl)
      clear hPL
      obtain ⟨c1, rfl, hcl⟩ := hvb.bal
      obtain ⟨pb, kb, rfl⟩ := hcl.form
      have HVB := Lib.hid hvb
      have HTP := Lib.hid HT.out.size
      have HTx := Lib.hid (HT.out.trans hS2)
      clear hvb hcl hS2 HT m0 m1 m2 m3
      have HT := HTx
      clear HTx
      dsimp only
      by_cases hp : 0 < D
      rotate_left
      · have hd9 : decide (0 < D) = false := by simpa using hp
        have q1 : decide (0 < D) = false := hd9
        have q2 : True := trivial
        have q3 : True := trivial
        clear hp
        have hcb := HB10.out.step HT.out
        have z0 := hcb.frozen 0
        have z1 := hcb.frozen 1
        have y0 := hcb.cell 0
        have y1 := hcb.cell 1
        simp only [List.getElem?_cons_zero, List.getElem?_cons_succ] at y0 y1
        have HCB := Lib.hid hcb
        have HQ2 := Lib.hid (HQ.out.trans (show _ = (⟨D, PL⟩, false) from by simp [q1, q2, q3]))
        clear hcb q1 q2 q3
        go_wp2
        have b2 := set2 HCB.out (.int .i64 D) (.slice pb PL.length kb)
        have hz0 := HZ.out
        have hz1 := HTP.out
        exact ret_struct2 (k := 2) rfl siBal rfl b2.1 rfl rfl ⟨_, by rw [HQ2.out]; rfl, by rw [HQ2.out]; exact ((HVB.out.weak (T := fun j => Old w j ∨ j = w.heap.size + 2) (fun j _ hj => by unfold Old at *; omega)).keep (b2.2.keeps.mono fun j _ hj => .inr hj)).weak (fun j _ hj => .inl hj), StepX.fresh (HS.out.trans HT.out) b2.2 (fun j hj => by omega)⟩
      · have hd9 : decide (0 < D) = true := by simpa using hp
        have q1 : decide (0 < D) = true := hd9
        clear hp
        go_wp2_with fail
        refine (canvas.within_any _ _ _ _).mono ?_
        rintro e w' ⟨rfl, rfl⟩
        cases q2 : withinB N 0 D with
        | false =>
          have q3 : True := trivial
          clear hd9
          have hcb := HB10.out.step HT.out
          have z0 := hcb.frozen 0
          have z1 := hcb.frozen 1
          have y0 := hcb.cell 0
          have y1 := hcb.cell 1
          simp only [List.getElem?_cons_zero, List.getElem?_cons_succ] at y0 y1
          have HCB := Lib.hid hcb
          have HQ2 := Lib.hid (HQ.out.trans (show _ = (⟨D, PL⟩, false) from by simp [q1, q2, q3]))
          clear hcb q1 q2 q3
          go_wp2
          have b2 := set2 HCB.out (.int .i64 D) (.slice pb PL.length kb)
          have hz0 := HZ.out
          have hz1 := HTP.out
          exact ret_struct2 (k := 2) rfl siBal rfl b2.1 rfl rfl ⟨_, by rw [HQ2.out]; rfl, by rw [HQ2.out]; exact ((HVB.out.weak (T := fun j => Old w j ∨ j = w.heap.size + 2) (fun j _ hj => by unfold Old at *; omega)).keep (b2.2.keeps.mono fun j _ hj => .inr hj)).weak (fun j _ hj => .inl hj), StepX.fresh (HS.out.trans HT.out) b2.2 (fun j hj => by omega)⟩
        | true =>
          go_wp2_with fail
          refine (canvas.within_any _ _ _ _).mono ?_
          rintro e w' ⟨rfl, rfl⟩
          clear hd9
          cases q3 : withinB O 0 D with
          | false =>
            have hcb := HB10.out.step HT.out
            have z0 := hcb.frozen 0
            have z1 := hcb.frozen 1
            have y0 := hcb.cell 0
            have y1 := hcb.cell 1
            simp only [List.getElem?_cons_zero, List.getElem?_cons_succ] at y0 y1
            have HCB := Lib.hid hcb
            have HQ2 := Lib.hid (HQ.out.trans (show _ = (⟨D, PL⟩, false) from by simp [q1, q2, q3]))
            clear hcb q1 q2 q3
            go_wp2
            have b2 := set2 HCB.out (.int .i64 D) (.slice pb PL.length kb)
            have hz0 := HZ.out
            have hz1 := HTP.out
            exact ret_struct2 (k := 2) rfl siBal rfl b2.1 rfl rfl ⟨_, by rw [HQ2.out]; rfl, by rw [HQ2.out]; exact ((HVB.out.weak (T := fun j => Old w j ∨ j = w.heap.size + 2) (fun j _ hj => by unfold Old at *; omega)).keep (b2.2.keeps.mono fun j _ hj => .inr hj)).weak (fun j _ hj => .inl hj), StepX.fresh (HS.out.trans HT.out) b2.2 (fun j hj => by omega)⟩
          | true =>
            have hcb := HB10.out.step HT.out
            have z0 := hcb.frozen 0
            have z1 := hcb.frozen 1
            have y0 := hcb.cell 0
            have y1 := hcb.cell 1
            simp only [List.getElem?_cons_zero, List.getElem?_cons_succ] at y0 y1
            have HCB := Lib.hid hcb
            have HQ2 := Lib.hid (HQ.out.trans (show _ = (⟨D, PL⟩, true) from by simp [q1, q2, q3]))
            clear hcb q1 q2 q3
            go_wp2
            have b2 := set2 HCB.out (.int .i64 D) (.slice pb PL.length kb)
            have hz0 := HZ.out
            have hz1 := HTP.out
            exact ret_struct2 (k := 2) rfl siBal rfl b2.1 rfl rfl ⟨_, by rw [HQ2.out]; rfl, by rw [HQ2.out]; exact ((HVB.out.weak (T := fun j => Old w j ∨ j = w.heap.size + 2) (fun j _ hj => by unfold Old at *; omega)).keep (b2.2.keeps.mono fun j _ hj => .inr hj)).weak (fun j _ hj => .inl hj), StepX.fresh (HS.out.trans HT.out) b2.2 (fun j hj => by omega)⟩
    · have hd1 : decide (d < 0) = false := by simpa using hl
      obtain ⟨D, hD⟩ : ∃ D, D = d := ⟨_, rfl⟩
      obtain ⟨N, hN⟩ : ∃ D, D = n := ⟨_, rfl⟩
      obtain ⟨O, hO⟩ : ∃ D, D = o := ⟨_, rfl⟩
      have HRT := Lib.hid (show crs f g need = (D, N, O) by unfold crs; rw [← HDNO.out.1, ← HDNO.out.2.1, ← HDNO.out.2.2, if_neg hl, hD, hN, hO])
      clear hl hw1 hw2 hw3
      subst hD hN hO
      obtain ⟨m0, m1, m2, m3⟩ := cells4 (HB5.out.step HT.out)
      go_wp2_with fail
      skip
      refine (parts_any F area s D a N b' O _ _ (HMV.out.step HT.out) hn hs ⟨by omega, by omega⟩ ⟨by omega, by omega⟩ (fun h => ⟨by omega, by omega⟩)).mono ?_
      rintro e w2 ⟨vb, rfl, hvb, hS2⟩
      rw [setI_nat, setI_nat] at hvb
      obtain ⟨PL, hPL⟩ : ∃ L, L = ((setP F.length s D).set a N).set b' O := ⟨_, rfl⟩
      rw [← hPL] at hvb
      have HQ := Lib.hid (show bothL F need s a b' = (⟨D, PL⟩, decide (0 < D) && withinB N 0 D && withinB O 0 D) by
        unfold bothL
        rw [atV_get ha, atV_get (show b' < F.length by omega), ← HFG.out.1, ← HFG.out.2, HRT.out, hPL]; rfl)
      clear hPL
      obtain ⟨c1, rfl, hcl⟩ := hvb.bal
      obtain ⟨pb, kb, rfl⟩ := hcl.form
      have HVB := Lib.hid hvb
      have HTP := Lib.hid HT.out.size
      have HTx := Lib.hid (HT.out.trans hS2)
      clear hvb hcl hS2 HT m0 m1 m2 m3
      have HT := HTx
      clear HTx
      dsimp only
      by_cases hp : 0 < D
      rotate_left
      · have hd9 : decide (0 < D) = false := by simpa using hp
        have q1 : decide (0 < D) = false := hd9
        have q2 : True := trivial
        have q3 : True := trivial
        clear hp
        have hcb := HB10.out.step HT.out
        have z0 := hcb.frozen 0
        have z1 := hcb.frozen 1
        have y0 := hcb.cell 0
        have y1 := hcb.cell 1
        simp only [List.getElem?_cons_zero, List.getElem?_cons_succ] at y0 y1
        have HCB := Lib.hid hcb
        have HQ2 := Lib.hid (HQ.out.trans (show _ = (⟨D, PL⟩, false) from by simp [q1, q2, q3]))
        clear hcb q1 q2 q3
        go_wp2
        have b2 := set2 HCB.out (.int .i64 D) (.slice pb PL.length kb)
        have hz0 := HZ.out
        have hz1 := HTP.out
        exact ret_struct2 (k := 2) rfl siBal rfl b2.1 rfl rfl ⟨_, by rw [HQ2.out]; rfl, by rw [HQ2.out]; exact ((HVB.out.weak (T := fun j => Old w j ∨ j = w.heap.size + 2) (fun j _ hj => by unfold Old at *; omega)).keep (b2.2.keeps.mono fun j _ hj => .inr hj)).weak (fun j _ hj => .inl hj), StepX.fresh (HS.out.trans HT.out) b2.2 (fun j hj => by omega)⟩
      · have hd9 : decide (0 < D) = true := by simpa using hp
        have q1 : decide (0 < D) = true := hd9
        clear hp
        go_wp2_with fail
        refine (canvas.within_any _ _ _ _).mono ?_
        rintro e w' ⟨rfl, rfl⟩
        cases q2 : withinB N 0 D with
        | false =>
          have q3 : True := trivial
          clear hd9
          have hcb := HB10.out.step HT.out
          have z0 := hcb.frozen 0
          have z1 := hcb.frozen 1
          have y0 := hcb.cell 0
          have y1 := hcb.cell 1
          simp only [List.getElem?_cons_zero, List.getElem?_cons_succ] at y0 y1
          have HCB := Lib.hid hcb
          have HQ2 := Lib.hid (HQ.out.trans (show _ = (⟨D, PL⟩, false) from by simp [q1, q2, q3]))
          clear hcb q1 q2 q3
          go_wp2
          have b2 := set2 HCB.out (.int .i64 D) (.slice pb PL.length kb)
          have hz0 := HZ.out
          have hz1 := HTP.out
          exact ret_struct2 (k := 2) rfl siBal rfl b2.1 rfl rfl ⟨_, by rw [HQ2.out]; rfl, by rw [HQ2.out]; exact ((HVB.out.weak (T := fun j => Old w j ∨ j = w.heap.size + 2) (fun j _ hj => by unfold Old at *; omega)).keep (b2.2.keeps.mono fun j _ hj => .inr hj)).weak (fun j _ hj => .inl hj), StepX.fresh (HS.out.trans HT.out) b2.2 (fun j hj => by omega)⟩
        | true =>
          go_wp2_with fail
          refine (canvas.within_any _ _ _ _).mono ?_
          rintro e w' ⟨rfl, rfl⟩
          clear hd9
          cases q3 : withinB O 0 D with
          | false =>
            have hcb := HB10.out.step HT.out
            have z0 := hcb.frozen 0
            have z1 := hcb.frozen 1
            have y0 := hcb.cell 0
            have y1 := hcb.cell 1
            simp only [List.getElem?_cons_zero, List.getElem?_cons_succ] at y0 y1
            have HCB := Lib.hid hcb
            have HQ2 := Lib.hid (HQ.out.trans (show _ = (⟨D, PL⟩, false) from by simp [q1, q2, q3]))
            clear hcb q1 q2 q3
            go_wp2
            have b2 := set2 HCB.out (.int .i64 D) (.slice pb PL.length kb)
            have hz0 := HZ.out
            have hz1 := HTP.out
            exact ret_struct2 (k := 2) rfl siBal rfl b2.1 rfl rfl ⟨_, by rw [HQ2.out]; rfl, by rw [HQ2.out]; exact ((HVB.out.weak (T := fun j => Old w j ∨ j = w.heap.size + 2) (fun j _ hj => by unfold Old at *; omega)).keep (b2.2.keeps.mono fun j _ hj => .inr hj)).weak (fun j _ hj => .inl hj), StepX.fresh (HS.out.trans HT.out) b2.2 (fun j hj => by omega)⟩
          | true =>
            have hcb := HB10.out.step HT.out
            have z0 := hcb.frozen 0
            have z1 := hcb.frozen 1
            have y0 := hcb.cell 0
            have y1 := hcb.cell 1
            simp only [List.getElem?_cons_zero, List.getElem?_cons_succ] at y0 y1
            have HCB := Lib.hid hcb
            have HQ2 := Lib.hid (HQ.out.trans (show _ = (⟨D, PL⟩, true) from by simp [q1, q2, q3]))
            clear hcb q1 q2 q3
            go_wp2
            have b2 := set2 HCB.out (.int .i64 D) (.slice pb PL.length kb)
            have hz0 := HZ.out
            have hz1 := HTP.out
            exact ret_struct2 (k := 2) rfl siBal rfl b2.1 rfl rfl ⟨_, by rw [HQ2.out]; rfl, by rw [HQ2.out]; exact ((HVB.out.weak (T := fun j => Old w j ∨ j = w.heap.size + 2) (fun j _ hj => by unfold Old at *; omega)).keep (b2.2.keeps.mono fun j _ hj => .inr hj)).weak (fun j _ hj => .inl hj), StepX.fresh (HS.out.trans HT.out) b2.2 (fun j hj => by omega)⟩
end Go.Proofs.Ytdcjbbeoocldeaa
