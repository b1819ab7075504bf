/- Walks and plain laws, part V. -/
import Derived.Test.YtfhmdpicoccnfaaMA
import Derived.Test.YtfhmdpicoccnfaaMU
import Derived.Test.YtfhmdpicoccnfaaRows
set_option maxHeartbeats 16000000
set_option maxRecDepth 100000
namespace Go.Proofs.Ytfhmdpicoccnfaa.strikes
open Go.ChangeShapes Go.WideShapes Go.ChangeAt Go.RowKit Go.BT
set_option linter.unusedVariables false
set_option linter.unusedSimpArgs false
theorem lifted (os : Os) (started : os.Started) (H : Type) (enc : TypeId × Value → H) :
  ReturnsInHanded {} Try.checked os 3 .any (Rows.galeStrikesSpec.pre6 enc Try.prog Try.f3 Rows.galeStrikesRow.domain false) (Rows.galeStrikesSpec.post enc Try.prog Try.f3 false true false false) := by
 refine returnsInHanded_of_change (C := Try.checked) own started (by kernel_rfl) Try.func3
  (ChangeSpec.witness6 (enc := enc) (C := Try.checked) false ⟨#[], #[.slice none 0 0, .slice none 0 0], []⟩ 8 (by kernel_rfl) (by kernel_rfl) (by kernel_rfl) (by kernel_rfl)) ?_
 intro W base args ds gs before hval0 hW hcnd _
 have hval : ∀ (j : Nat) t v, Try.f3.params[j]? = some t → args[j]? = some v → Value.okWide Try.prog W .any base t v := hval0
 have hW' := hW
 obtain ⟨p, q, hA0, hV, rfl, hfz, hnd⟩ := hW
 have hA : DataW.TrodAll enc Try.prog W 0 (fun _ => true) true Try.f3.params.toList args.toList ds p := hA0
 have hAk := hA
 rw [Try.params3] at hA hval
 obtain ⟨v0, vs0, d0, ds0, p0, q0, hargs, rfl, rfl, h0, r0⟩ := trodAll_cons hA
 obtain ⟨v1, vs1, d1, ds1, p1, q1, rfl, rfl, rfl, h1, r1⟩ := trodAll_cons r0
 obtain ⟨rfl, rfl, rfl⟩ := trodAll_nil r1
 obtain rfl : args = #[v0, v1] := by cases args; simp_all
 obtain ⟨rfl, rfl⟩ := trodVars_none hV
 obtain ⟨a0, hh0⟩ := sl_of opens_fcs Try.underlying22 (hval 0 22 v0 rfl rfl) h0
 obtain ⟨a1, hh1⟩ := sl_of opens_rdgs Try.underlying23 (hval 1 23 v1 rfl rfl) h1
 clear hA0 hval0
 refine (GaleStrikes_any a0 a1 v0 v1 W hh0 hh1).mono fun e W' ⟨he, hg⟩ => ?_
 subst he
 have hlt := hW'.lt
 refine ⟨_, rfl, post_of_below (pv := []) hW' (fun _ _ _ => (trodAll_cons_mk (shut_bool Try.underlying4 _) trodAll_mk0)) (fun sp hs => all_stays laid hg.below (fun t ht => ?_) hAk (fun x hx => hlt x (by simpa using hx)) (fun x hx => hs x (by simpa using hx))) (fun _ _ => rfl) rfl hg.below (ok_one (by kernel_rfl) rfl (okWide_bool_mk Try.underlying4 _))⟩
 rw [Try.params3] at ht
 have : ∀ t ∈ [22, 23], Try.prog.readableRec t = true ∧ t < Try.prog.types.size := by
  intro t ht
  simp only [List.mem_cons, List.not_mem_nil, or_false] at ht
  rcases ht with rfl | rfl <;> exact ⟨by kernel_rfl, of_decide_eq_true (by kernel_rfl)⟩
 exact this t ht
theorem over : Rows.galeStrikesRow.holds Try.pinned (OpenSpec.ofChange Rows.galeStrikesSpec) :=
 OpenClaim.holds_of_wide 3 Try.f3 rfl rfl rfl rfl rfl rfl rfl ⟨rfl, rfl, rfl, rfl, rfl⟩ rfl rfl rfl rfl rfl (by kernel_rfl) Try.func3 (by kernel_rfl)
  (of_decide_eq_true (by kernel_rfl)) (by unfold Func.isWrapper; first | (rw [if_pos (by decide +kernel)]; kernel_rfl) | (rw [if_neg (by decide +kernel)]; exact ⟨rfl, rfl⟩))
  (fun os started H enc _ => lifted os started H enc)
theorem proved : Rows.GaleStrikesSaid := over
end Go.Proofs.Ytfhmdpicoccnfaa.strikes
