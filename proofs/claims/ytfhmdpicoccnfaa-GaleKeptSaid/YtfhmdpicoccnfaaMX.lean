/- Walks and plain laws, part X. -/
import Derived.Test.YtfhmdpicoccnfaaMA
import Derived.Test.YtfhmdpicoccnfaaMW
import Derived.Test.YtfhmdpicoccnfaaRows
set_option maxHeartbeats 16000000
set_option maxRecDepth 100000
namespace Go.Proofs.Ytfhmdpicoccnfaa
set_option linter.unusedSimpArgs false
set_option linter.unusedVariables false
open Go.ChangeShapes Go.WideShapes Go.ChangeAt Go.RowKit Go.BT
theorem u16_ofK {n : Int} (h : (Lit.int .u16 n).wf = true) : 0 ≤ n ∧ n ≤ 65535 := by
 have h2 : IntKind.u16.min = 0 := rfl
 have h3 : IntKind.u16.max = 65535 := rfl
 simp [Lit.wf] at h; omega
theorem opens_u16 {t : TypeId} (ht : Try.prog.underlying t = some (.int .u16)) : Opens t U16 := by
 intro H enc w fuel cs x h
 cases fuel with
 | zero => simp [DataW.trod] at h
 | succ n =>
  unfold DataW.trod at h
  rw [ht] at h
  have h1 : ∃ n : Int, cs = [.int .u16 n] ∧ (Lit.int .u16 n).wf = true := by
   split at h
   case h_2 =>
    rename_i k k' n' hk
    split at h
    ·rename_i hc
     simp only [Option.some.injEq] at hk
     injection hk with hk
     subst hk
     refine ⟨n', by rw [hc.1], ?_⟩
     exact hc.2
    ·cases h
   all_goals simp_all
  obtain ⟨n', rfl, hw⟩ := h1
  exact ⟨⟨n', (u16_ofK hw).1, (u16_ofK hw).2⟩, rfl⟩
theorem opens_u16s : Opens 93 (List U16) := opens_slice Try.underlying93 (by kernel_rfl) (opens_u16 Try.underlying96)
end Go.Proofs.Ytfhmdpicoccnfaa
namespace Go.Proofs.Ytfhmdpicoccnfaa.kept
open Go.ChangeShapes Go.WideShapes Go.ChangeAt Go.RowKit Go.BT
set_option linter.unusedVariables false
set_option linter.unusedSimpArgs false
theorem lifted (os : Os) (started : os.Started) (H : Type) (enc : TypeId × Value → H) :
  ReturnsInHanded {} Try.checked os 7 .any (Rows.galeKeptSpec.pre6 enc Try.prog Try.f7 Rows.galeKeptRow.domain false) (Rows.galeKeptSpec.post enc Try.prog Try.f7 false true false false) := by
 refine returnsInHanded_of_change (C := Try.checked) own started (by kernel_rfl) Try.func7
  (ChangeSpec.witness6 (enc := enc) (C := Try.checked) false ⟨#[], #[.slice none 0 0, .slice none 0 0, .int .u8 0, .slice none 0 0], []⟩ 8 (by kernel_rfl) (by kernel_rfl) (by kernel_rfl) (by kernel_rfl)) ?_
 intro W base args ds gs before hval0 hW hcnd _
 have hval : ∀ (j : Nat) t v, Try.f7.params[j]? = some t → args[j]? = some v → Value.okWide Try.prog W .any base t v := hval0
 have hW' := hW
 obtain ⟨p, q, hA0, hV, rfl, hfz, hnd⟩ := hW
 have hA : DataW.TrodAll enc Try.prog W 0 (fun _ => true) true Try.f7.params.toList args.toList ds p := hA0
 have hAk := hA
 rw [Try.params7] at hA hval
 obtain ⟨v0, vs0, d0, ds0, p0, q0, hargs, rfl, rfl, h0, r0⟩ := trodAll_cons hA
 obtain ⟨v1, vs1, d1, ds1, p1, q1, rfl, rfl, rfl, h1, r1⟩ := trodAll_cons r0
 obtain ⟨v2, vs2, d2, ds2, p2, q2, rfl, rfl, rfl, h2, r2⟩ := trodAll_cons r1
 obtain ⟨v3, vs3, d3, ds3, p3, q3, rfl, rfl, rfl, h3, r3⟩ := trodAll_cons r2
 obtain ⟨rfl, rfl, rfl⟩ := trodAll_nil r3
 obtain rfl : args = #[v0, v1, v2, v3] := by cases args; simp_all
 obtain ⟨rfl, rfl⟩ := trodVars_none hV
 obtain ⟨a0, hh0⟩ := sl_of opens_fcs Try.underlying22 (hval 0 22 v0 rfl rfl) h0
 obtain ⟨a1, hh1⟩ := sl_of opens_rdgs Try.underlying23 (hval 1 23 v1 rfl rfl) h1
 obtain ⟨a2, rfl, rfl, rfl, w2⟩ := open_int Try.underlying5 (hval 2 5 v2 rfl rfl) h2
 obtain ⟨a3, hh3⟩ := sl_of opens_u16s Try.underlying93 (hval 3 93 v3 rfl rfl) h3
 clear hA0 hval0
 refine (GaleKept_any a0 a1 a2 a3 v0 v1 v3 W hh0 hh1 hh3 w2).mono fun e W' ⟨he, hg⟩ => ?_
 subst he
 have hlt := hW'.lt
 refine ⟨_, rfl, post_of_below (pv := []) hW' (fun _ _ _ => (trodAll_cons_mk (shut_bool Try.underlying4 _) trodAll_mk0)) (fun sp hs => all_stays laid hg.below (fun t ht => ?_) hAk (fun x hx => hlt x (by simpa using hx)) (fun x hx => hs x (by simpa using hx))) (fun _ _ => rfl) rfl hg.below (ok_one (by kernel_rfl) rfl (okWide_bool_mk Try.underlying4 _))⟩
 rw [Try.params7] at ht
 have : ∀ t ∈ [22, 23, 5, 93], Try.prog.readableRec t = true ∧ t < Try.prog.types.size := by
  intro t ht
  simp only [List.mem_cons, List.not_mem_nil, or_false] at ht
  rcases ht with rfl | rfl | rfl | rfl <;> exact ⟨by kernel_rfl, of_decide_eq_true (by kernel_rfl)⟩
 exact this t ht
theorem over : Rows.galeKeptRow.holds Try.pinned (OpenSpec.ofChange Rows.galeKeptSpec) :=
 OpenClaim.holds_of_wide 7 Try.f7 rfl rfl rfl rfl rfl rfl rfl ⟨rfl, rfl, rfl, rfl, rfl⟩ rfl rfl rfl rfl rfl (by kernel_rfl) Try.func7 (by kernel_rfl)
  (of_decide_eq_true (by kernel_rfl)) (by unfold Func.isWrapper; first | (rw [if_pos (by decide +kernel)]; kernel_rfl) | (rw [if_neg (by decide +kernel)]; exact ⟨rfl, rfl⟩))
  (fun os started H enc _ => lifted os started H enc)
theorem proved : Rows.GaleKeptSaid := over
end Go.Proofs.Ytfhmdpicoccnfaa.kept
