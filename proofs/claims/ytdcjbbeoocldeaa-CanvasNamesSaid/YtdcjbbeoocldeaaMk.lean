/- Arguments that read as data, opened, and the frame of a given statement. -/
import Derived.Test.YtdcjbbeoocldeaaMb
import Derived.Test.YtdcjbbeoocldeaaRows
import Derived.Below
import Derived.Carry
import Derived.ChangeSame
import Derived.Deep.Slices
import Derived.OpenShut
import Derived.ProofKit
import Derived.WalkKit
import Derived.WideShapes
/- Arguments that read as data, opened; and the frame of a given statement: a law whose walk is proved holds of every input. -/
namespace Go.Proofs.Ytdcjbbeoocldeaa
set_option linter.unusedSimpArgs false
set_option linter.unusedVariables false
open Go.ChangeShapes Go.WideShapes Go.ChangeAt Go.RowKit Go.BT

theorem fields2 {cs : List Value} (h : cs.length = 2) : ∃ a b, cs = [a, b] := by
  match cs, h with
  | [a, b], _ => exact ⟨a, b, rfl⟩
theorem fields3 {cs : List Value} (h : cs.length = 3) : ∃ a b c, cs = [a, b, c] := by
  match cs, h with
  | [a, b, c], _ => exact ⟨a, b, c, rfl⟩
theorem fields4 {cs : List Value} (h : cs.length = 4) : ∃ a b c d, cs = [a, b, c, d] := by
  match cs, h with
  | [a, b, c, d], _ => exact ⟨a, b, c, d, rfl⟩
theorem fields5 {cs : List Value} (h : cs.length = 5) : ∃ a b c d e, cs = [a, b, c, d, e] := by
  match cs, h with
  | [a, b, c, d, e], _ => exact ⟨a, b, c, d, e, rfl⟩
/-- What reads as data of type t stands for a value of α. -/
def Opens (t : TypeId) (α : Type) [Rep α] : Prop := ∀ {H : Type} (enc : TypeId × Value → H) (w : World) (fuel : Nat) (cs : List Value) (x : DataW H × List MemPlace), DataW.trod enc Try.prog w 0 (fun _ => true) true fuel t cs = some x → ∃ y : α, Rep.rep (fun _ => False) w cs y

theorem opens_int {t : TypeId} (ht : Try.prog.underlying t = some (.int .i64)) : Opens t Int := by
  intro H enc w fuel cs x h
  cases fuel with
  | zero => simp [DataW.trod] at h
  | succ n =>
    unfold DataW.trod at h
    rw [ht] at h
    have h1 : ∃ n : Int, cs = [.int .i64 n] := by
      split at h
      case h_2 =>
        rename_i k k' n' hk
        split at h
        · rename_i hc
          simp only [Option.some.injEq] at hk
          injection hk with hk
          exact ⟨n', by rw [hc.1, ← hk]⟩
        · cases h
      all_goals simp_all
    obtain ⟨n', rfl⟩ := h1
    exact ⟨n', rfl⟩
theorem opens_bool {t : TypeId} (ht : Try.prog.underlying t = some .bool) : Opens t Bool := by
  intro H enc w fuel cs x h
  cases fuel with
  | zero => simp [DataW.trod] at h
  | succ n =>
    unfold DataW.trod at h
    rw [ht] at h
    have h1 : ∃ b, cs = [.bool b] := by
      split at h <;> first | exact ⟨_, rfl⟩ | simp_all
    obtain ⟨b, rfl⟩ := h1
    exact ⟨b, rfl⟩
theorem cells_get {w : World} {a : Addr} {n : Nat} {cs : List Value} (h : w.cells? 0 a n = some cs) : cs.length = n ∧ ∀ j v, cs[j]? = some v → w.cell? (a.add j) = some v := by
  unfold World.cells? at h
  rw [if_pos (Nat.zero_le _)] at h
  have hl : cs.length = n := by simpa using mapM_some_length h
  refine ⟨hl, fun j v hj => ?_⟩
  have hjn : j < n := by rw [← hl]; exact (List.getElem?_eq_some_iff.1 hj).1
  have := mapM_some_get h j j (by simp [hjn])
  rw [this, hj]
theorem opens_slice {t e : TypeId} {α : Type} [Rep α] (ht : Try.prog.underlying t = some (.slice e)) (hc : Try.prog.cellsOf e = Rep.k α) (he : Opens e α) : Opens t (List α) := by
  intro H enc w fuel cs x h
  rcases Deep.open_slice ht h with ⟨rfl, _⟩ | ⟨a, len, cap, m, n, D, Pl, rfl, hb, hl, hm, hmm, rfl, hx⟩
  · exact ⟨[], _, rfl, SL.nil _ _⟩
  · simp only [if_true] at hmm
    have each : ∀ i : Fin len, ∃ y : α, ∃ cs', Rep.rep (fun _ => False) w cs' y ∧ ∀ j v, cs'[j]? = some v → w.cell? (a.add (i.1 * Rep.k α + j)) = some v := fun i => by
      obtain ⟨cs', h1, h2⟩ := hx i.1 (by omega)
      obtain ⟨y, hy⟩ := he enc w n cs' _ h2
      refine ⟨y, cs', hy, fun j v hj => ?_⟩
      have := (cells_get h1).2 j v hj
      rw [Deep.add_add, hc] at this
      exact this
    let f : Fin len → α := fun i => Classical.choose (each i)
    have hf : ∀ i, ∃ cs', Rep.rep (fun _ => False) w cs' (f i) ∧ ∀ j v, cs'[j]? = some v → w.cell? (a.add (i.1 * Rep.k α + j)) = some v := fun i => Classical.choose_spec (each i)
    have hlen : (List.ofFn f).length = len := by simp
    have hspot : 0 < len → a = ⟨a.block, a.off, none⟩ := fun h0 => by
      obtain ⟨cs', h1, h2⟩ := hf ⟨0, h0⟩
      have hk : cs'.length = Rep.k α := Rep.len h1
      have hp : 0 < cs'.length := by rw [hk]; exact Rep.pos
      have h3 := h2 0 cs'[0] (by simp)
      obtain ⟨b, o, sp⟩ := a
      have : sp = none := by simpa [Addr.add] using World.cell?_spot h3
      rw [this]
    refine ⟨List.ofFn f, _, rfl, some a, cap, a.block, a.off, by rw [hlen], by rw [hlen]; exact hl, by rw [hlen]; unfold maxLen at hm; omega, fun h0 => by rw [hlen] at h0; rw [← hspot h0], fun i hi => ?_⟩
    have hi' : i < len := by rw [← hlen]; exact hi
    obtain ⟨cs', h1, h2⟩ := hf ⟨i, hi'⟩
    have hcell : ∀ j v, cs'[j]? = some v → w.cell? ⟨a.block, a.off + i * Rep.k α + j, none⟩ = some v := fun j v hj => by
      have := h2 j v hj
      rw [hspot (by omega)] at this
      rw [Addr.add_lit] at this
      rw [Nat.add_assoc]
      exact this
    have hk : cs'.length = Rep.k α := Rep.len h1
    have hp : 0 < cs'.length := by rw [hk]; exact Rep.pos
    refine ⟨?_, id, cs', by simpa using h1, hcell⟩
    have := hcell 0 cs'[0] (by simp)
    exact World.block_lt_of_cell? w ⟨a.block, _, none⟩ this

/-- A field of a struct that reads as data. -/
theorem field_opens {H : Type} {enc : TypeId × Value → H} {w : World} {n t : Nat} {α : Type} [Rep α] (ho : Opens t α) {cs : List Value} {xs : List (DataW H × List MemPlace)} {i : Nat} (hi : i < xs.length) (h : DataW.trod enc Try.prog w 0 (fun _ => true) true n t cs = xs[i]?) : ∃ y : α, Rep.rep (fun _ => False) w cs y := by
  rw [List.getElem?_eq_getElem hi] at h
  exact ho enc w n cs _ h
theorem rep_list {α : Type} [Rep α] {w : World} {v : Value} {l : List α} (h : Rep.rep (fun _ => False) w [v] l) : SL (fun _ => False) w v l := by
  obtain ⟨u, e, hs⟩ : ∃ u, [v] = [u] ∧ SL (fun _ => False) w u l := h
  injection e with e
  rw [e]; exact hs
theorem opens_ints : Opens 29 (List Int) := opens_slice Try.underlying29 (by kernel_rfl) (opens_int Try.underlying3)
theorem opens_Tst : Opens 124 Tst := by
  intro H enc w fuel cs x h
  obtain ⟨xs, n, rfl, rfl, hl, hx, hf⟩ := DataW.trod_struct Try.underlying124 h
  rw [show Try.prog.cellsOf 124 = 4 from by kernel_rfl] at hl
  obtain ⟨a, b, c, d, rfl⟩ := fields4 hl
  have hx2 : xs.length = 4 := hx
  have h0 : DataW.trod enc Try.prog w 0 (fun _ => true) true n 3 [a] = xs[0]? := by
    have q : DataW.trod enc Try.prog w 0 (fun _ => true) true n 3 (([a, b, c, d].drop 0).take (Try.prog.cellsOf 3)) = xs[0]? := hf 0 _ rfl
    rw [show Try.prog.cellsOf 3 = 1 from by kernel_rfl] at q
    exact q
  have h1 : DataW.trod enc Try.prog w 0 (fun _ => true) true n 3 [b] = xs[1]? := by
    have q : DataW.trod enc Try.prog w 0 (fun _ => true) true n 3 (([a, b, c, d].drop 1).take (Try.prog.cellsOf 3)) = xs[1]? := hf 1 _ rfl
    rw [show Try.prog.cellsOf 3 = 1 from by kernel_rfl] at q
    exact q
  have h2 : DataW.trod enc Try.prog w 0 (fun _ => true) true n 3 [c] = xs[2]? := by
    have q : DataW.trod enc Try.prog w 0 (fun _ => true) true n 3 (([a, b, c, d].drop 2).take (Try.prog.cellsOf 3)) = xs[2]? := hf 2 _ rfl
    rw [show Try.prog.cellsOf 3 = 1 from by kernel_rfl] at q
    exact q
  have h3 : DataW.trod enc Try.prog w 0 (fun _ => true) true n 4 [d] = xs[3]? := by
    have q : DataW.trod enc Try.prog w 0 (fun _ => true) true n 4 (([a, b, c, d].drop 3).take (Try.prog.cellsOf 4)) = xs[3]? := hf 3 _ rfl
    rw [show Try.prog.cellsOf 4 = 1 from by kernel_rfl] at q
    exact q
  obtain ⟨y0, r0⟩ := field_opens (opens_int Try.underlying3) (by omega) h0
  obtain ⟨y1, r1⟩ := field_opens (opens_int Try.underlying3) (by omega) h1
  obtain ⟨y2, r2⟩ := field_opens (opens_int Try.underlying3) (by omega) h2
  obtain ⟨y3, r3⟩ := field_opens (opens_bool Try.underlying4) (by omega) h3
  have e0 : [a] = [Value.int .i64 y0] := r0
  injection e0 with e0
  have e1 : [b] = [Value.int .i64 y1] := r1
  injection e1 with e1
  have e2 : [c] = [Value.int .i64 y2] := r2
  injection e2 with e2
  have e3 : [d] = [Value.bool y3] := r3
  injection e3 with e3
  exact ⟨⟨y0, y1, y2, y3⟩, by rw [e0, e1, e2, e3]; rfl⟩
theorem opens_Vec : Opens 26 Vec := by
  intro H enc w fuel cs x h
  obtain ⟨xs, n, rfl, rfl, hl, hx, hf⟩ := DataW.trod_struct Try.underlying26 h
  rw [show Try.prog.cellsOf 26 = 2 from by kernel_rfl] at hl
  obtain ⟨a, b, rfl⟩ := fields2 hl
  have hx2 : xs.length = 2 := hx
  have h0 : DataW.trod enc Try.prog w 0 (fun _ => true) true n 3 [a] = xs[0]? := by
    have q : DataW.trod enc Try.prog w 0 (fun _ => true) true n 3 (([a, b].drop 0).take (Try.prog.cellsOf 3)) = xs[0]? := hf 0 _ rfl
    rw [show Try.prog.cellsOf 3 = 1 from by kernel_rfl] at q
    exact q
  have h1 : DataW.trod enc Try.prog w 0 (fun _ => true) true n 3 [b] = xs[1]? := by
    have q : DataW.trod enc Try.prog w 0 (fun _ => true) true n 3 (([a, b].drop 1).take (Try.prog.cellsOf 3)) = xs[1]? := hf 1 _ rfl
    rw [show Try.prog.cellsOf 3 = 1 from by kernel_rfl] at q
    exact q
  obtain ⟨y0, r0⟩ := field_opens (opens_int Try.underlying3) (by omega) h0
  obtain ⟨y1, r1⟩ := field_opens (opens_int Try.underlying3) (by omega) h1
  have e0 : [a] = [Value.int .i64 y0] := r0
  injection e0 with e0
  have e1 : [b] = [Value.int .i64 y1] := r1
  injection e1 with e1
  exact ⟨⟨y0, y1⟩, by rw [e0, e1]; rfl⟩
theorem opens_Guy : Opens 75 Guy := by
  intro H enc w fuel cs x h
  obtain ⟨xs, n, rfl, rfl, hl, hx, hf⟩ := DataW.trod_struct Try.underlying75 h
  rw [show Try.prog.cellsOf 75 = 5 from by kernel_rfl] at hl
  obtain ⟨a, b, c, d, e, rfl⟩ := fields5 hl
  have hx2 : xs.length = 5 := hx
  have h0 : DataW.trod enc Try.prog w 0 (fun _ => true) true n 3 [a] = xs[0]? := by
    have q : DataW.trod enc Try.prog w 0 (fun _ => true) true n 3 (([a, b, c, d, e].drop 0).take (Try.prog.cellsOf 3)) = xs[0]? := hf 0 _ rfl
    rw [show Try.prog.cellsOf 3 = 1 from by kernel_rfl] at q
    exact q
  have h1 : DataW.trod enc Try.prog w 0 (fun _ => true) true n 3 [b] = xs[1]? := by
    have q : DataW.trod enc Try.prog w 0 (fun _ => true) true n 3 (([a, b, c, d, e].drop 1).take (Try.prog.cellsOf 3)) = xs[1]? := hf 1 _ rfl
    rw [show Try.prog.cellsOf 3 = 1 from by kernel_rfl] at q
    exact q
  have h2 : DataW.trod enc Try.prog w 0 (fun _ => true) true n 3 [c] = xs[2]? := by
    have q : DataW.trod enc Try.prog w 0 (fun _ => true) true n 3 (([a, b, c, d, e].drop 2).take (Try.prog.cellsOf 3)) = xs[2]? := hf 2 _ rfl
    rw [show Try.prog.cellsOf 3 = 1 from by kernel_rfl] at q
    exact q
  have h3 : DataW.trod enc Try.prog w 0 (fun _ => true) true n 3 [d] = xs[3]? := by
    have q : DataW.trod enc Try.prog w 0 (fun _ => true) true n 3 (([a, b, c, d, e].drop 3).take (Try.prog.cellsOf 3)) = xs[3]? := hf 3 _ rfl
    rw [show Try.prog.cellsOf 3 = 1 from by kernel_rfl] at q
    exact q
  have h4 : DataW.trod enc Try.prog w 0 (fun _ => true) true n 3 [e] = xs[4]? := by
    have q : DataW.trod enc Try.prog w 0 (fun _ => true) true n 3 (([a, b, c, d, e].drop 4).take (Try.prog.cellsOf 3)) = xs[4]? := hf 4 _ rfl
    rw [show Try.prog.cellsOf 3 = 1 from by kernel_rfl] at q
    exact q
  obtain ⟨y0, r0⟩ := field_opens (opens_int Try.underlying3) (by omega) h0
  obtain ⟨y1, r1⟩ := field_opens (opens_int Try.underlying3) (by omega) h1
  obtain ⟨y2, r2⟩ := field_opens (opens_int Try.underlying3) (by omega) h2
  obtain ⟨y3, r3⟩ := field_opens (opens_int Try.underlying3) (by omega) h3
  obtain ⟨y4, r4⟩ := field_opens (opens_int Try.underlying3) (by omega) h4
  have e0 : [a] = [Value.int .i64 y0] := r0
  injection e0 with e0
  have e1 : [b] = [Value.int .i64 y1] := r1
  injection e1 with e1
  have e2 : [c] = [Value.int .i64 y2] := r2
  injection e2 with e2
  have e3 : [d] = [Value.int .i64 y3] := r3
  injection e3 with e3
  have e4 : [e] = [Value.int .i64 y4] := r4
  injection e4 with e4
  exact ⟨⟨y0, y1, y2, y3, y4⟩, by rw [e0, e1, e2, e3, e4]; rfl⟩
theorem opens_guys : Opens 47 (List Guy) := opens_slice Try.underlying47 (by kernel_rfl) opens_Guy
theorem opens_Head : Opens 49 Head := by
  intro H enc w fuel cs x h
  obtain ⟨xs, n, rfl, rfl, hl, hx, hf⟩ := DataW.trod_struct Try.underlying49 h
  rw [show Try.prog.cellsOf 49 = 3 from by kernel_rfl] at hl
  obtain ⟨a, b, c, rfl⟩ := fields3 hl
  have hx2 : xs.length = 3 := hx
  have h0 : DataW.trod enc Try.prog w 0 (fun _ => true) true n 3 [a] = xs[0]? := by
    have q : DataW.trod enc Try.prog w 0 (fun _ => true) true n 3 (([a, b, c].drop 0).take (Try.prog.cellsOf 3)) = xs[0]? := hf 0 _ rfl
    rw [show Try.prog.cellsOf 3 = 1 from by kernel_rfl] at q
    exact q
  have h1 : DataW.trod enc Try.prog w 0 (fun _ => true) true n 3 [b] = xs[1]? := by
    have q : DataW.trod enc Try.prog w 0 (fun _ => true) true n 3 (([a, b, c].drop 1).take (Try.prog.cellsOf 3)) = xs[1]? := hf 1 _ rfl
    rw [show Try.prog.cellsOf 3 = 1 from by kernel_rfl] at q
    exact q
  have h2 : DataW.trod enc Try.prog w 0 (fun _ => true) true n 47 [c] = xs[2]? := by
    have q : DataW.trod enc Try.prog w 0 (fun _ => true) true n 47 (([a, b, c].drop 2).take (Try.prog.cellsOf 47)) = xs[2]? := hf 2 _ rfl
    rw [show Try.prog.cellsOf 47 = 1 from by kernel_rfl] at q
    exact q
  obtain ⟨y0, r0⟩ := field_opens (opens_int Try.underlying3) (by omega) h0
  obtain ⟨y1, r1⟩ := field_opens (opens_int Try.underlying3) (by omega) h1
  obtain ⟨y2, r2⟩ := field_opens opens_guys (by omega) h2
  have e0 : [a] = [Value.int .i64 y0] := r0
  injection e0 with e0
  have e1 : [b] = [Value.int .i64 y1] := r1
  injection e1 with e1
  exact ⟨⟨y0, y1, y2⟩, _, by rw [e0, e1], rep_list r2⟩
theorem opens_tent : Opens 24 (List Head) := opens_slice Try.underlying24 (by kernel_rfl) opens_Head
theorem opens_tests : Opens 22 (List Tst) := opens_slice Try.underlying22 (by kernel_rfl) opens_Tst
theorem opens_vecs : Opens 45 (List Vec) := opens_slice Try.underlying45 (by kernel_rfl) opens_Vec
theorem opens_Bal : Opens 52 Bal := by
  intro H enc w fuel cs x h
  obtain ⟨xs, n, rfl, rfl, hl, hx, hf⟩ := DataW.trod_struct Try.underlying52 h
  rw [show Try.prog.cellsOf 52 = 2 from by kernel_rfl] at hl
  obtain ⟨a, b, rfl⟩ := fields2 hl
  have hx2 : xs.length = 2 := hx
  have h0 : DataW.trod enc Try.prog w 0 (fun _ => true) true n 3 [a] = xs[0]? := by
    have q : DataW.trod enc Try.prog w 0 (fun _ => true) true n 3 (([a, b].drop 0).take (Try.prog.cellsOf 3)) = xs[0]? := hf 0 _ rfl
    rw [show Try.prog.cellsOf 3 = 1 from by kernel_rfl] at q
    exact q
  have h1 : DataW.trod enc Try.prog w 0 (fun _ => true) true n 29 [b] = xs[1]? := by
    have q : DataW.trod enc Try.prog w 0 (fun _ => true) true n 29 (([a, b].drop 1).take (Try.prog.cellsOf 29)) = xs[1]? := hf 1 _ rfl
    rw [show Try.prog.cellsOf 29 = 1 from by kernel_rfl] at q
    exact q
  obtain ⟨y0, r0⟩ := field_opens (opens_int Try.underlying3) (by omega) h0
  obtain ⟨y1, r1⟩ := field_opens opens_ints (by omega) h1
  have e0 : [a] = [Value.int .i64 y0] := r0
  injection e0 with e0
  exact ⟨⟨y0, y1⟩, _, by rw [e0], rep_list r1⟩
theorem own : ownKnob Try.prog.godebug = none := by kernel_rfl
theorem laid : laidOutB Try.prog = true := by kernel_rfl
section
variable {H : Type} {enc : TypeId × Value → H} {P : Program}
theorem post_of_below {f : Func} {s : ChangeSpec} {apart fresh handsOn again : Bool} {W W' : World} {args : Array Value} {v : Value} {ds gs : List (DataW H)} {before pa pv : List MemPlace}
    (hW : DataW.Whole enc P f.params.toList s.vars apart W args.toList ds gs before)
    (hres : ∀ (b : Nat) (sp : Nat → Bool) (hd : Bool), DataW.TrodAll enc P W' b sp hd f.resultTypes.toList (v.resultList f.resultTypes.size) (s.fn H (ds ++ gs)).results [])
    (hargs : ∀ sp : Nat → Bool, (∀ p ∈ before, sp p.block = true) → DataW.TrodAll enc P W' 0 sp true f.params.toList args.toList (s.fn H (ds ++ gs)).args pa)
    (hvars : ∀ sp : Nat → Bool, (∀ p ∈ before, sp p.block = true) → DataW.TrodVars enc P W' sp s.vars (s.fn H (ds ++ gs)).vars pv)
    (hps : before = pa ++ pv) (hb : Below W.heap.size W W')
    (hok : ∀ (j : Nat) (t : TypeId) (r : Value), f.resultTypes[j]? = some t → (v.resultList f.resultTypes.size)[j]? = some r → Value.okWide P W' .any 0 t r) :
    s.post enc P f apart fresh handsOn again W args v W' := by
  have hlt : ∀ p ∈ before, p.block < W.heap.size := fun p hp => hW.lt p hp
  have hold : ∀ p ∈ before, (fun b => decide (b < W.heap.size)) p.block = true := fun p hp => by simpa using hlt p hp
  refine ⟨ds, gs, before, [], pa, pv, hW, hres _ _ _, hargs _ hold, hvars _ hold, World.keptBut_mono (fun p hp => ⟨hp, ?_⟩) (hb.frame (· ∈ before)), fun _ => ?_⟩
  · rw [hps, List.mem_append] at hp
    exact Or.inr hp
  · obtain ⟨_, _, _, _, _, hz, hn⟩ := hW
    refine ⟨hok, _, _, ([] ++ pa) ++ pv, ⟨[] ++ pa, pv, trodAll_append (hargs _ (fun _ _ => rfl)) (hres _ _ _), hvars _ (fun _ _ => rfl), rfl, ?_, ?_⟩, ?_⟩
    · intro b off hp
      have hin : MemPlace.cell b off ∈ before := by rw [hps]; simpa using hp
      rw [hb.frozen (hlt _ hin)]
      exact hz b off hin
    · intro ha
      have := hn ha
      rw [hps] at this
      simpa using this
    · intro p hp _
      rw [hps]
      simpa using hp
/-- The arguments read behind the call as they did. -/
theorem all_stays (hl : laidOutB P = true) {W W' : World} (hb : Below W.heap.size W W') {sp : Nat → Bool} : ∀ {ts : List TypeId} {vs : List Value} {ds : List (DataW H)} {ps : List MemPlace}, (∀ t ∈ ts, P.readableRec t = true ∧ t < P.types.size) →
    DataW.TrodAll enc P W 0 (fun _ => true) true ts vs ds ps → (∀ x ∈ ps, x.block < W.heap.size) → (∀ x ∈ ps, sp x.block = true) → DataW.TrodAll enc P W' 0 sp true ts vs ds ps
  | [], [], [], _, _, h, _, _ => h
  | t :: ts, v :: vs, d :: ds, ps, ht, h, hlt, hs => by
    obtain ⟨p, q, h1, h2, rfl⟩ := h
    have ht0 := ht t List.mem_cons_self
    exact ⟨p, q, WideElems.Trod_stays hl ht0.1 ht0.2 h1 (fun x hx => hb.same (hlt x (by simp [hx]))) (fun x hx => hs x (by simp [hx])),
      all_stays hl hb (fun t ht' => ht t (List.mem_cons_of_mem _ ht')) h2 (fun x hx => hlt x (by simp [hx])) (fun x hx => hs x (by simp [hx])), rfl⟩
end
theorem agg_of {P : Program} {W : World} {r : Reach} {b0 : Nat} {t : TypeId} {fs : Array Field} {v : Value} (hs : P.underlying t = some (.struct fs)) (hv : Value.okWide P W r b0 t v) : ∃ cs, v = .agg cs := by
  obtain ⟨cs, rfl, hsz⟩ := okWide_struct hs hv
  exact ⟨cs, rfl⟩
set_option maxRecDepth 100000 in
/-- A struct that came in. -/
theorem av_of {H : Type} {enc : TypeId × Value → H} {W : World} {r : Reach} {b0 : Nat} {t : TypeId} {fs : Array Field} {α : Type} [Rep α] {v : Value} {d : DataW H} {p : List MemPlace} (ho : Opens t α) (hs : Try.prog.underlying t = some (.struct fs)) (hv : Value.okWide Try.prog W r b0 t v)
    (h : DataW.Trod enc Try.prog W 0 (fun _ => true) true t v d p) : ∃ x : α, AV (fun _ => False) W v x := by
  have hq := @agg_of Try.prog W r b0 t fs v hs hv
  obtain ⟨cs, rfl⟩ := hq
  obtain ⟨fuel, hf⟩ := h
  obtain ⟨y, hy⟩ := ho enc W fuel _ _ hf
  exact ⟨y, cs.toList, by rw [Array.toArray_toList], hy⟩
theorem slice_of {P : Program} {W : World} {r : Reach} {b0 : Nat} {t e : TypeId} {v : Value} (hs : P.underlying t = some (.slice e)) (hv : Value.okWide P W r b0 t v) : v.cells.toList = [v] := by
  obtain ⟨a, n, c, rfl⟩ := okWide_slice hs hv
  rfl
set_option maxRecDepth 100000 in
/-- A slice that came in. -/
theorem sl_of {H : Type} {enc : TypeId × Value → H} {W : World} {r : Reach} {b0 : Nat} {t e : TypeId} {α : Type} [Rep α] {v : Value} {d : DataW H} {p : List MemPlace} (ho : Opens t (List α)) (hs : Try.prog.underlying t = some (.slice e)) (hv : Value.okWide Try.prog W r b0 t v)
    (h : DataW.Trod enc Try.prog W 0 (fun _ => true) true t v d p) : ∃ x : List α, SL (fun _ => False) W v x := by
  have hq := @slice_of Try.prog W r b0 t e v hs hv
  obtain ⟨fuel, hf⟩ := h
  obtain ⟨y, hy⟩ := ho enc W fuel _ _ hf
  rw [hq] at hy
  exact ⟨y, rep_list hy⟩
end Go.Proofs.Ytdcjbbeoocldeaa
