/- Further arguments opened. -/
import Derived.Test.YtbgfmikbhiblgaaMn
import Derived.Test.YtbgfmikbhiblgaaRows
import Derived.WideShapes
/- An argument opened, further: a message, a slice. -/
namespace Go.Proofs.Ytbgfmikbhiblgaa
open Go.ChangeShapes Go.WideShapes Go.ChangeAt Go.RowKit Go.BT
set_option linter.unusedVariables false
set_option linter.unusedSimpArgs false
theorem opens_Message : Opens 73 BT.Message := by
  intro H enc w fuel cs x h
  obtain ⟨xs, n, rfl, rfl, hl, hx, hf⟩ := DataW.trod_struct Try.underlying73 h
  rw [show Try.prog.cellsOf 73 = 5 from by kernel_rfl] at hl
  obtain ⟨a, b, c, d, e, rfl⟩ := five_fields hl
  have hx2 : xs.length = 5 := hx
  have h0 : DataW.trod enc Try.prog w 0 (fun _ => true) true n 3 [a] = xs[0]? := by
    have q : DataW.trod enc Try.prog w 0 (fun _ => true) true n 3 (([a, b, c, d, e].drop 0).take (Try.prog.cellsOf 3)) = xs[0]? := hf 0 _ rfl
    rw [show Try.prog.cellsOf 3 = 1 from by kernel_rfl] at q
    exact q
  have h1 : DataW.trod enc Try.prog w 0 (fun _ => true) true n 3 [b] = xs[1]? := by
    have q : DataW.trod enc Try.prog w 0 (fun _ => true) true n 3 (([a, b, c, d, e].drop 1).take (Try.prog.cellsOf 3)) = xs[1]? := hf 1 _ rfl
    rw [show Try.prog.cellsOf 3 = 1 from by kernel_rfl] at q
    exact q
  have h2 : DataW.trod enc Try.prog w 0 (fun _ => true) true n 3 [c] = xs[2]? := by
    have q : DataW.trod enc Try.prog w 0 (fun _ => true) true n 3 (([a, b, c, d, e].drop 2).take (Try.prog.cellsOf 3)) = xs[2]? := hf 2 _ rfl
    rw [show Try.prog.cellsOf 3 = 1 from by kernel_rfl] at q
    exact q
  have h3 : DataW.trod enc Try.prog w 0 (fun _ => true) true n 3 [d] = xs[3]? := by
    have q : DataW.trod enc Try.prog w 0 (fun _ => true) true n 3 (([a, b, c, d, e].drop 3).take (Try.prog.cellsOf 3)) = xs[3]? := hf 3 _ rfl
    rw [show Try.prog.cellsOf 3 = 1 from by kernel_rfl] at q
    exact q
  have h4 : DataW.trod enc Try.prog w 0 (fun _ => true) true n 23 [e] = xs[4]? := by
    have q : DataW.trod enc Try.prog w 0 (fun _ => true) true n 23 (([a, b, c, d, e].drop 4).take (Try.prog.cellsOf 23)) = xs[4]? := hf 4 _ rfl
    rw [show Try.prog.cellsOf 23 = 1 from by kernel_rfl] at q
    exact q
  obtain ⟨y0, r0⟩ := field_opens (opens_int Try.underlying3) (by omega) h0
  obtain ⟨y1, r1⟩ := field_opens (opens_int Try.underlying3) (by omega) h1
  obtain ⟨y2, r2⟩ := field_opens (opens_int Try.underlying3) (by omega) h2
  obtain ⟨y3, r3⟩ := field_opens (opens_int Try.underlying3) (by omega) h3
  obtain ⟨y4, r4⟩ := field_opens opens_ints (by omega) h4
  have e0 : [a] = [Value.int .i64 y0] := r0
  have e1 : [b] = [Value.int .i64 y1] := r1
  have e2 : [c] = [Value.int .i64 y2] := r2
  have e3 : [d] = [Value.int .i64 y3] := r3
  injection e0 with e0
  injection e1 with e1
  injection e2 with e2
  injection e3 with e3
  exact ⟨⟨y0, y1, y2, y3, y4⟩, _, by rw [e0, e1, e2, e3], rep_list r4⟩
theorem slice_of {P : Program} {W : World} {r : Reach} {b0 : Nat} {t e : TypeId} {v : Value} (hs : P.underlying t = some (.slice e)) (hv : Value.okWide P W r b0 t v) : v.cells.toList = [v] := by
  obtain ⟨a, n, c, rfl⟩ := okWide_slice hs hv
  rfl
set_option maxRecDepth 100000 in
/-- A slice that came in. -/
theorem sl_of {H : Type} {enc : TypeId × Value → H} {W : World} {r : Reach} {b0 : Nat} {t e : TypeId} {α : Type} [Rep α] {v : Value} {d : DataW H} {p : List MemPlace} (ho : Opens t (List α)) (hs : Try.prog.underlying t = some (.slice e)) (hv : Value.okWide Try.prog W r b0 t v)
    (h : DataW.Trod enc Try.prog W 0 (fun _ => true) true t v d p) : ∃ x : List α, SL (fun _ => False) W v x := by
  have hq := @slice_of Try.prog W r b0 t e v hs hv
  obtain ⟨fuel, hf⟩ := h
  obtain ⟨y, hy⟩ := ho enc W fuel _ _ hf
  rw [hq] at hy
  exact ⟨y, rep_list hy⟩
end Go.Proofs.Ytbgfmikbhiblgaa
