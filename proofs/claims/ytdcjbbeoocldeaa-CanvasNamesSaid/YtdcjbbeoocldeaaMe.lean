/- Whether a tent is valid, what clashes, and the head that is asked, are walked. -/
import Derived.Test.YtdcjbbeoocldeaaMd
import Derived.Test.YtdcjbbeoocldeaaRows
/- Walks: the document's tests, tents and clashes. -/
namespace Go.Proofs.Ytdcjbbeoocldeaa
set_option linter.unusedSimpArgs false
set_option linter.unusedVariables false
open Go.RowKit Go.BT

set_option maxHeartbeats 1000000 in
theorem RightGuy_any (x : Guy) (w : World) : Calls Try.prog 47 #[.agg #[.int .i64 x.x, .int .i64 x.y, .int .i64 x.down, .int .i64 x.soil, .int .i64 x.depth]] w fun e w' => e = .returned (.bool (guyB x)) ∧ Step w w' := by
  obtain ⟨xx, xy, dn, sl, dp⟩ := x
  dsimp only
  by_cases hx : xx = 0
  · subst hx
    by_cases hy : xy = 0
    · subst hy
      go_enter Try.func47, Try.ntmps47
      go_wp2_with fail
      refine (bigtopref01.In_any _ _ _ _).mono ?_
      rintro e w' ⟨rfl, rfl⟩
      cases q0 : withinB 0 (-5000) 5000 with
      | false =>
        go_wp2
        go_ret
        exact ⟨by simp [guyB, guyB, q0], (by repeat (first | (with_reducible assumption) | (with_reducible exact Step.refl _) | (with_reducible apply Step.s_alloc) | (with_reducible apply Step.s_drew) | (with_reducible apply Step.s_drewN) | (with_reducible refine Step.trans ?_ (by with_reducible assumption))))⟩
      | true =>
        go_wp2_with fail
        refine (bigtopref01.In_any _ _ _ _).mono ?_
        rintro e w' ⟨rfl, rfl⟩
        cases q1 : withinB 0 (-5000) 5000 with
        | false =>
          go_wp2
          go_ret
          exact ⟨by simp [guyB, guyB, q0, q1], (by repeat (first | (with_reducible assumption) | (with_reducible exact Step.refl _) | (with_reducible apply Step.s_alloc) | (with_reducible apply Step.s_drew) | (with_reducible apply Step.s_drewN) | (with_reducible refine Step.trans ?_ (by with_reducible assumption))))⟩
        | true =>
          go_wp2
          go_ret
          exact ⟨by simp [guyB, guyB, q0, q1], (by repeat (first | (with_reducible assumption) | (with_reducible exact Step.refl _) | (with_reducible apply Step.s_alloc) | (with_reducible apply Step.s_drew) | (with_reducible apply Step.s_drewN) | (with_reducible refine Step.trans ?_ (by with_reducible assumption))))⟩
    · have hd : (xy != 0) = true := by simpa using hy
      go_enter Try.func47, Try.ntmps47
      go_wp2_with fail
      refine (bigtopref01.In_any _ _ _ _).mono ?_
      rintro e w' ⟨rfl, rfl⟩
      cases q0 : withinB 0 (-5000) 5000 with
      | false =>
        go_wp2
        go_ret
        exact ⟨by simp [guyB, hy, q0], (by repeat (first | (with_reducible assumption) | (with_reducible exact Step.refl _) | (with_reducible apply Step.s_alloc) | (with_reducible apply Step.s_drew) | (with_reducible apply Step.s_drewN) | (with_reducible refine Step.trans ?_ (by with_reducible assumption))))⟩
      | true =>
        go_wp2_with fail
        refine (bigtopref01.In_any _ _ _ _).mono ?_
        rintro e w' ⟨rfl, rfl⟩
        cases q1 : withinB xy (-5000) 5000 with
        | false =>
          go_wp2
          go_ret
          exact ⟨by simp [guyB, hy, q0, q1], (by repeat (first | (with_reducible assumption) | (with_reducible exact Step.refl _) | (with_reducible apply Step.s_alloc) | (with_reducible apply Step.s_drew) | (with_reducible apply Step.s_drewN) | (with_reducible refine Step.trans ?_ (by with_reducible assumption))))⟩
        | true =>
          go_wp2_with fail
          refine (bigtopref01.In_any _ _ _ _).mono ?_
          rintro e w' ⟨rfl, rfl⟩
          cases q2 : withinB dn 0 5000 with
          | false =>
            go_wp2
            go_ret
            exact ⟨by simp [guyB, hy, q0, q1, q2], (by repeat (first | (with_reducible assumption) | (with_reducible exact Step.refl _) | (with_reducible apply Step.s_alloc) | (with_reducible apply Step.s_drew) | (with_reducible apply Step.s_drewN) | (with_reducible refine Step.trans ?_ (by with_reducible assumption))))⟩
          | true =>
            go_wp2_with fail
            refine (bigtopref01.In_any _ _ _ _).mono ?_
            rintro e w' ⟨rfl, rfl⟩
            cases q3 : withinB sl 0 9 with
            | false =>
              go_wp2
              go_ret
              exact ⟨by simp [guyB, hy, q0, q1, q2, q3], (by repeat (first | (with_reducible assumption) | (with_reducible exact Step.refl _) | (with_reducible apply Step.s_alloc) | (with_reducible apply Step.s_drew) | (with_reducible apply Step.s_drewN) | (with_reducible refine Step.trans ?_ (by with_reducible assumption))))⟩
            | true =>
              go_wp2_with fail
              refine (bigtopref01.In_any _ _ _ _).mono ?_
              rintro e w' ⟨rfl, rfl⟩
              cases q4 : withinB dp 1 3000 with
              | false =>
                go_wp2
                go_ret
                exact ⟨by simp [guyB, hy, q0, q1, q2, q3, q4], (by repeat (first | (with_reducible assumption) | (with_reducible exact Step.refl _) | (with_reducible apply Step.s_alloc) | (with_reducible apply Step.s_drew) | (with_reducible apply Step.s_drewN) | (with_reducible refine Step.trans ?_ (by with_reducible assumption))))⟩
              | true =>
                go_wp2
                go_ret
                exact ⟨by simp [guyB, hy, q0, q1, q2, q3, q4], (by repeat (first | (with_reducible assumption) | (with_reducible exact Step.refl _) | (with_reducible apply Step.s_alloc) | (with_reducible apply Step.s_drew) | (with_reducible apply Step.s_drewN) | (with_reducible refine Step.trans ?_ (by with_reducible assumption))))⟩
  · have hd : (xx != 0) = true := by simpa using hx
    go_enter Try.func47, Try.ntmps47
    go_wp2_with fail
    refine (bigtopref01.In_any _ _ _ _).mono ?_
    rintro e w' ⟨rfl, rfl⟩
    cases q0 : withinB xx (-5000) 5000 with
    | false =>
      go_wp2
      go_ret
      exact ⟨by simp [guyB, hx, q0], (by repeat (first | (with_reducible assumption) | (with_reducible exact Step.refl _) | (with_reducible apply Step.s_alloc) | (with_reducible apply Step.s_drew) | (with_reducible apply Step.s_drewN) | (with_reducible refine Step.trans ?_ (by with_reducible assumption))))⟩
    | true =>
      go_wp2_with fail
      refine (bigtopref01.In_any _ _ _ _).mono ?_
      rintro e w' ⟨rfl, rfl⟩
      cases q1 : withinB xy (-5000) 5000 with
      | false =>
        go_wp2
        go_ret
        exact ⟨by simp [guyB, hx, q0, q1], (by repeat (first | (with_reducible assumption) | (with_reducible exact Step.refl _) | (with_reducible apply Step.s_alloc) | (with_reducible apply Step.s_drew) | (with_reducible apply Step.s_drewN) | (with_reducible refine Step.trans ?_ (by with_reducible assumption))))⟩
      | true =>
        go_wp2_with fail
        refine (bigtopref01.In_any _ _ _ _).mono ?_
        rintro e w' ⟨rfl, rfl⟩
        cases q2 : withinB dn 0 5000 with
        | false =>
          go_wp2
          go_ret
          exact ⟨by simp [guyB, hx, q0, q1, q2], (by repeat (first | (with_reducible assumption) | (with_reducible exact Step.refl _) | (with_reducible apply Step.s_alloc) | (with_reducible apply Step.s_drew) | (with_reducible apply Step.s_drewN) | (with_reducible refine Step.trans ?_ (by with_reducible assumption))))⟩
        | true =>
          go_wp2_with fail
          refine (bigtopref01.In_any _ _ _ _).mono ?_
          rintro e w' ⟨rfl, rfl⟩
          cases q3 : withinB sl 0 9 with
          | false =>
            go_wp2
            go_ret
            exact ⟨by simp [guyB, hx, q0, q1, q2, q3], (by repeat (first | (with_reducible assumption) | (with_reducible exact Step.refl _) | (with_reducible apply Step.s_alloc) | (with_reducible apply Step.s_drew) | (with_reducible apply Step.s_drewN) | (with_reducible refine Step.trans ?_ (by with_reducible assumption))))⟩
          | true =>
            go_wp2_with fail
            refine (bigtopref01.In_any _ _ _ _).mono ?_
            rintro e w' ⟨rfl, rfl⟩
            cases q4 : withinB dp 1 3000 with
            | false =>
              go_wp2
              go_ret
              exact ⟨by simp [guyB, hx, q0, q1, q2, q3, q4], (by repeat (first | (with_reducible assumption) | (with_reducible exact Step.refl _) | (with_reducible apply Step.s_alloc) | (with_reducible apply Step.s_drew) | (with_reducible apply Step.s_drewN) | (with_reducible refine Step.trans ?_ (by with_reducible assumption))))⟩
            | true =>
              go_wp2
              go_ret
              exact ⟨by simp [guyB, hx, q0, q1, q2, q3, q4], (by repeat (first | (with_reducible assumption) | (with_reducible exact Step.refl _) | (with_reducible apply Step.s_alloc) | (with_reducible apply Step.s_drew) | (with_reducible apply Step.s_drewN) | (with_reducible refine Step.trans ?_ (by with_reducible assumption))))⟩
theorem Corner_any (v : Vec) (w : World) : Calls Try.prog 22 #[.agg #[.int .i64 v.x, .int .i64 v.y]] w fun e w' => e = .returned (.bool (cornerB v)) ∧ Step w w' := by
  go_enter Try.func22, Try.ntmps22
  go_wp2_with fail
  refine (bigtopref01.In_any _ _ _ _).mono ?_
  rintro e w' ⟨rfl, rfl⟩
  cases q0 : withinB v.x (-10000) 10000 with
  | false =>
    go_wp2
    go_ret
    exact ⟨by simp [cornerB, q0], (by repeat (first | (with_reducible assumption) | (with_reducible exact Step.refl _) | (with_reducible apply Step.s_alloc) | (with_reducible apply Step.s_drew) | (with_reducible apply Step.s_drewN) | (with_reducible refine Step.trans ?_ (by with_reducible assumption))))⟩
  | true =>
    go_wp2_with fail
    refine (bigtopref01.In_any _ _ _ _).mono ?_
    rintro e w' ⟨rfl, rfl⟩
    cases q1 : withinB v.y (-10000) 10000 with
    | false =>
      go_wp2
      go_ret
      exact ⟨by simp [cornerB, q0, q1], (by repeat (first | (with_reducible assumption) | (with_reducible exact Step.refl _) | (with_reducible apply Step.s_alloc) | (with_reducible apply Step.s_drew) | (with_reducible apply Step.s_drewN) | (with_reducible refine Step.trans ?_ (by with_reducible assumption))))⟩
    | true =>
      go_wp2
      go_ret
      exact ⟨by simp [cornerB, q0, q1], (by repeat (first | (with_reducible assumption) | (with_reducible exact Step.refl _) | (with_reducible apply Step.s_alloc) | (with_reducible apply Step.s_drew) | (with_reducible apply Step.s_drewN) | (with_reducible refine Step.trans ?_ (by with_reducible assumption))))⟩

set_option maxHeartbeats 2000000 in
theorem TestsFault_any (S : Nat → Prop) (l : List Tst) (v : Value) (w : World) (hv : SL S w v l) : Calls Try.prog 74 #[v] w fun e w' => e = .returned (.int .i64 (testsC l)) ∧ Step w w' := by
  have hm := hv.len
  obtain ⟨pv, cv, b, o, rfl, _, _, hp, hc, _⟩ := hv.tsts
  have HP := Lib.hid (And.intro hp hc)
  have HT0 := Lib.hid (Step.refl w)
  clear hp hc hv
  by_cases hl : 40 < l.length
  · have hd : decide ((40 : Int) < (l.length : Int)) = true := by simp; omega
    go_enter Try.func74, Try.ntmps74
    go_wp2
    go_ret
    exact ⟨by simp [testsC, hl], Step.refl _⟩
  have hd : decide ((40 : Int) < (l.length : Int)) = false := by simp; omega
  have HL := Lib.hid hl
  clear hl
  go_enter Try.func74, Try.ntmps74
  go_wp2
  go_loopw [3] (fun i wr => ∃ k : Nat, k ≤ l.length ∧ i = .int .i64 k ∧ (∀ j (hj : j < k) (hl : j < l.length), tstB l[j] = true) ∧ Step w wr) (fun i _ => l.length - (intOf i).toNat)
  case atStart => exact ⟨0, Nat.zero_le _, rfl, fun j hj => absurd hj (by omega), HT0.out⟩
  case round =>
    obtain ⟨k, hk, rfl, hno, hT⟩ := hrel
    have HN := Lib.hid hno
    have HT := Lib.hid hT
    clear hno hT
    by_cases hlt : k < l.length
    · obtain rfl := HP.out.1 (by omega)
      obtain ⟨e1, e2, e3, e4⟩ := HP.out.2 k hlt
      have e1 := HT.out.keeps.cell id e1
      have e2 := HT.out.keeps.cell id e2
      have e3 := HT.out.keeps.cell id e3
      have hix : (0 : Int) ≤ (k : Int) ∧ (k : Int) < (l.length : Int) := by omega
      have HB := Lib.hid (fun (h : tstB l[k] = false) => (show testsC l = 1 by unfold testsC; rw [if_neg HL.out, if_neg (by rw [all_miss hlt h]; decide)]))
      obtain ⟨x, hx⟩ : ∃ x, x = l[k] := ⟨_, rfl⟩
      rw [← hx] at e1 e2 e3 HB
      have HX := Lib.hid hx
      clear hx e4
      go_wp2_with fail
      refine (bigtopref01.In_any _ _ _ _).mono ?_
      rintro e w' ⟨rfl, rfl⟩
      cases q0 : withinB x.soil 0 9 with
      | false =>
        have HF := Lib.hid (HB.out (by simp [tstB, q0]))
        go_wp2
        go_ret
        exact ⟨by rw [HF.out]; rfl, HT.out⟩
      | true =>
        go_wp2_with fail
        refine (bigtopref01.In_any _ _ _ _).mono ?_
        rintro e w' ⟨rfl, rfl⟩
        cases q1 : withinB x.depth 1 3000 with
        | false =>
          have HF := Lib.hid (HB.out (by simp [tstB, q0, q1]))
          go_wp2
          go_ret
          exact ⟨by rw [HF.out]; rfl, HT.out⟩
        | true =>
          go_wp2_with fail
          refine (bigtopref01.In_any _ _ _ _).mono ?_
          rintro e w' ⟨rfl, rfl⟩
          cases q2 : withinB x.force 1 5000 with
          | false =>
            have HF := Lib.hid (HB.out (by simp [tstB, q0, q1, q2]))
            go_wp2
            go_ret
            exact ⟨by rw [HF.out]; rfl, HT.out⟩
          | true =>
            have HQ := Lib.hid (show tstB l[k] = true by rw [← HX.out]; simp [tstB, q0, q1, q2])
            go_wp2
            go_roundw
            case rel => exact ⟨k + 1, by omega, by go_num, fun j hj hl => if h : j = k then by subst h; exact HQ.out else HN.out j (by omega) hl, HT.out⟩
            case measure => simp [intOf]; omega
    · have HA := Lib.hid (show testsC l = 0 by unfold testsC; rw [if_neg HL.out, if_pos (all_of fun j hj => HN.out j (by omega) hj)])
      go_wp2
      go_ret
      exact ⟨by rw [HA.out]; rfl, HT.out⟩
set_option maxHeartbeats 4000000 in
theorem Right_any (S : Nat → Prop) (t : List Head) (v : Value) (w : World) (hv : SL S w v t) : Calls Try.prog 36 #[v] w fun e w' => e = .returned (.bool (tentB t)) ∧ Step w w' := by
  have hm := hv.len
  obtain ⟨pv, cv, b, o, rfl, _, _, hp, hc, _⟩ := hv.heads
  have HP := Lib.hid (And.intro hp hc)
  have HT0 := Lib.hid (Step.refl w)
  clear hp hc hv
  go_enter Try.func36, Try.ntmps36
  go_wp2
  go_loopw [3] (fun i wr => ∃ k : Nat, k ≤ t.length ∧ i = .int .i64 k ∧ (∀ j (hj : j < k) (hl : j < t.length), headB t[j] = true) ∧ Step w wr) (fun i _ => t.length - (intOf i).toNat)
  case atStart => exact ⟨0, Nat.zero_le _, rfl, fun j hj => absurd hj (by omega), HT0.out⟩
  case round =>
    obtain ⟨k, hk, rfl, hno, hT⟩ := hrel
    have HN := Lib.hid hno
    have HT := Lib.hid hT
    clear hno hT
    by_cases hlt : k < t.length
    · obtain rfl := HP.out.1 (by omega)
      obtain ⟨c2, e1, e2, e3, e4⟩ := HP.out.2 k hlt
      obtain ⟨pg, cg, bg, og, rfl, _, hgl, hpg, hcg, _⟩ := e4.guys
      have HG := Lib.hid (And.intro hpg hcg)
      have HE := Lib.hid e3
      have e1 := HT.out.keeps.cell id e1
      have e2 := HT.out.keeps.cell id e2
      have e3 := HT.out.keeps.cell id e3
      have hix : (0 : Int) ≤ (k : Int) ∧ (k : Int) < (t.length : Int) := by omega
      have HB := Lib.hid (fun (h : headB t[k] = false) => (show tentB t = false by unfold tentB; rw [all_miss hlt h, Bool.and_false]))
      obtain ⟨x, hx⟩ : ∃ x, x = t[k] := ⟨_, rfl⟩
      rw [← hx] at e1 e2 e3 HB HE HG hgl
      have HX := Lib.hid hx
      clear hx e4 hpg hcg
      go_wp2_with fail
      refine (bigtopref01.In_any _ _ _ _).mono ?_
      rintro e w' ⟨rfl, rfl⟩
      cases q0 : withinB x.area 0 1000 with
      | false =>
        have HF := Lib.hid (HB.out (by simp [headB, q0]))
        go_wp2
        go_ret
        exact ⟨by rw [HF.out]; rfl, HT.out⟩
      | true =>
        go_wp2_with fail
        refine (bigtopref01.In_any _ _ _ _).mono ?_
        rintro e w' ⟨rfl, rfl⟩
        cases q1 : withinB x.bears 0 10000000 with
        | false =>
          have HF := Lib.hid (HB.out (by simp [headB, q0, q1]))
          go_wp2
          go_ret
          exact ⟨by rw [HF.out]; rfl, HT.out⟩
        | true =>
          by_cases h8 : x.guys.length ≤ 8
          rotate_left
          · have hd : decide ((8 : Int) < (x.guys.length : Int)) = true := by simp; omega
            have HF := Lib.hid (HB.out (by simp [headB, h8]))
            clear h8
            go_wp2
            go_ret
            exact ⟨by rw [HF.out]; rfl, HT.out⟩
          have hd : decide ((8 : Int) < (x.guys.length : Int)) = false := by simp; omega
          have H8 := Lib.hid h8
          clear h8
          obtain ⟨wo, hwo⟩ : ∃ W, W = wr := ⟨_, rfl⟩
          subst hwo
          have HQ0 := Lib.hid (And.intro q0 q1)
          go_wp2
          clear e1 e2 e3
          go_loopw [4] (fun i wi => ∃ j : Nat, j ≤ x.guys.length ∧ i = .int .i64 j ∧ (∀ m (hm : m < j) (hl : m < x.guys.length), guyB x.guys[m] = true) ∧ Step w wi) (fun i _ => x.guys.length - (intOf i).toNat)
          case atStart => exact ⟨0, Nat.zero_le _, rfl, fun j hj => absurd hj (by omega), HT.out⟩
          case round =>
            obtain ⟨j, hj, rfl, hno, hT⟩ := hrel
            have HNG := Lib.hid hno
            have HTJ := Lib.hid hT
            clear hno hT
            have e3 := HTJ.out.keeps.cell id HE.out
            by_cases hltj : j < x.guys.length
            · obtain rfl := HG.out.1 (by omega)
              obtain ⟨g1, g2, g3, g4, g5⟩ := HG.out.2 j hltj
              have g1 := HTJ.out.keeps.cell id g1
              have g2 := HTJ.out.keeps.cell id g2
              have g3 := HTJ.out.keeps.cell id g3
              have g4 := HTJ.out.keeps.cell id g4
              have g5 := HTJ.out.keeps.cell id g5
              have hjx : (0 : Int) ≤ (j : Int) ∧ (j : Int) < (x.guys.length : Int) := by omega
              go_wp2_with fail
              refine (RightGuy_any x.guys[j] _).mono ?_
              rintro e w1 ⟨rfl, hS⟩
              have HS1 := Lib.hid (HTJ.out.trans hS)
              clear hS g1 g2 g3 g4 g5 e3
              cases qg : guyB x.guys[j] with
              | false =>
                have HF := Lib.hid (HB.out (by unfold headB; rw [all_miss hltj qg, Bool.and_false]))
                clear qg
                go_wp2
                go_ret
                exact ⟨by rw [HF.out]; rfl, HS1.out⟩
              | true =>
                have HQ := Lib.hid qg
                clear qg
                go_wp2
                go_roundw
                case rel => exact ⟨j + 1, by omega, by go_num, fun m hm hl => if h : m = j then by subst h; exact HQ.out else HNG.out m (by omega) hl, HS1.out⟩
                case measure => simp [intOf]; omega
            · have HQ := Lib.hid (show headB t[k] = true by
                rw [← HX.out]
                unfold headB
                rw [HQ0.out.1, HQ0.out.2, all_of fun m hm => HNG.out m (by omega) hm, decide_eq_true H8.out]; rfl)
              go_wp2
              go_roundw
              case rel => exact ⟨k + 1, by omega, by go_num, fun m hm hl => if h : m = k then by subst h; exact HQ.out else HN.out m (by omega) hl, HTJ.out⟩
              case measure => simp [intOf]; omega
    · have HA := Lib.hid (show tentB t = withinB t.length 1 12 by unfold tentB; rw [all_of fun j hj => HN.out j (by omega) hj, Bool.and_true])
      by_cases h1 : 1 ≤ t.length
      · have hd1 : decide ((1 : Int) ≤ (t.length : Int)) = true := by simp; omega
        by_cases h2 : t.length ≤ 12
        · have hd2 : decide ((t.length : Int) ≤ 12) = true := by simp; omega
          have H1 := Lib.hid (show tentB t = true by rw [HA.out]; unfold withinB; rw [hd1, hd2]; rfl)
          clear h1 h2
          go_wp2
          go_ret
          exact ⟨by rw [H1.out]; rfl, HT.out⟩
        · have hd2 : decide ((t.length : Int) ≤ 12) = false := by simp; omega
          have H1 := Lib.hid (show tentB t = false by rw [HA.out]; unfold withinB; rw [hd1, hd2]; rfl)
          clear h1 h2
          go_wp2
          go_ret
          exact ⟨by rw [H1.out]; rfl, HT.out⟩
      · have hd1 : decide ((1 : Int) ≤ (t.length : Int)) = false := by simp; omega
        have H1 := Lib.hid (show tentB t = false by rw [HA.out]; unfold withinB; rw [hd1]; rfl)
        clear h1
        go_wp2
        go_ret
        exact ⟨by rw [H1.out]; rfl, HT.out⟩
end Go.Proofs.Ytdcjbbeoocldeaa
/- Walks: clashes by the document; the errors of what is asked. -/
namespace Go.Proofs.Ytdcjbbeoocldeaa
set_option linter.unusedSimpArgs false
set_option linter.unusedVariables false
open Go.RowKit Go.BT

set_option maxRecDepth 100000 in
set_option maxHeartbeats 8000000 in
theorem Clash_any (S : Nat → Prop) (l : List Tst) (v : Value) (w : World) (hv : SL S w v l) (hl : l.all tstB = true) :
    Calls Try.prog 75 #[v] w fun e w' => ∃ i j : Int, e = .returned (.tuple #[.int .i64 i, .int .i64 j]) ∧ (decide (0 ≤ i) = clashB l) ∧ Step w w' := by
  have hm := hv.len
  obtain ⟨pv, cv, b, o, rfl, _, _, hp, hc, _⟩ := hv.tsts
  have HP := Lib.hid (And.intro hp hc)
  have HL := Lib.hid hl
  have HT0 := Lib.hid (Step.refl w)
  clear hp hc hv hl
  go_enter Try.func75, Try.ntmps75
  go_wp2
  go_loopw [4] (fun i wr => ∃ k : Nat, k ≤ l.length ∧ i = .int .i64 k ∧ (∀ j (hj : j < k) (hl : j < l.length), l.any (againstB l[j]) = false) ∧ Step w wr) (fun i _ => l.length - (intOf i).toNat)
  case atStart => exact ⟨0, Nat.zero_le _, rfl, fun j hj => absurd hj (by omega), HT0.out⟩
  case round =>
    obtain ⟨k, hk, rfl, hno, hT⟩ := hrel
    have HN := Lib.hid hno
    have HT := Lib.hid hT
    clear hno hT
    by_cases hlt : k < l.length
    · obtain rfl := HP.out.1 (by omega)
      have HE := Lib.hid (HP.out.2 k hlt)
      have hix : (0 : Int) ≤ (k : Int) ∧ (k : Int) < (l.length : Int) := by omega
      have htx := all_get HL.out hlt
      have HLK := Lib.hid (show l[k] ∈ l from List.getElem_mem hlt)
      obtain ⟨x, hx⟩ : ∃ x, x = l[k] := ⟨_, rfl⟩
      rw [← hx] at HE htx HLK
      have HX := Lib.hid hx
      have HTX := Lib.hid htx
      clear hx htx
      obtain ⟨wo, hwo⟩ : ∃ W, W = wr := ⟨_, rfl⟩
      subst hwo
      obtain ⟨xs, xd, xf, xh⟩ := x
      cases xh with
      | false =>
        have HQ := Lib.hid (show l.any (againstB l[k]) = false by rw [← HX.out, List.any_eq_false]; intro y _; simp [againstB])
        obtain ⟨e1, e2, e3, e4⟩ := HE.out
        have e4 := HT.out.keeps.cell id e4
        (try dsimp only at e4)
        clear e1 e2 e3
        go_wp2
        go_loopw [5] (fun i wi => i = .int .i64 0 ∧ Step w wi) (fun i _ => 0)
        case atStart => exact ⟨rfl, HT.out⟩
        case round =>
          obtain ⟨rfl, hT⟩ := hrel
          have HTJ := Lib.hid hT
          have e5 := HT.out.keeps
          clear hT
          obtain ⟨_, _, _, e4'⟩ := HE.out
          have e4 := HTJ.out.keeps.cell id e4'
          (try dsimp only at e4)
          have hl0 : (0 : Int) < (l.length : Int) := by omega
          clear e4'
          go_wp2
          go_roundw
          case rel => exact ⟨k + 1, by omega, by go_num, fun m hm hl => if h : m = k then by subst h; exact HQ.out else HN.out m (by omega) hl, HTJ.out⟩
          case measure => simp [intOf]; omega
      | true =>
        go_wp2
        go_loopw [5] (fun i wi => ∃ j : Nat, j ≤ l.length ∧ i = .int .i64 j ∧ (∀ m (hm : m < j) (hl : m < l.length), againstB ⟨xs, xd, xf, true⟩ l[m] = false) ∧ Step w wi) (fun i _ => l.length - (intOf i).toNat)
        case atStart => exact ⟨0, Nat.zero_le _, rfl, fun j hj => absurd hj (by omega), HT.out⟩
        case round =>
          obtain ⟨j, hj, rfl, hno, hT⟩ := hrel
          have HNJ := Lib.hid hno
          have HTJ := Lib.hid hT
          clear hno hT
          obtain ⟨e1, e2, e3, e4⟩ := HE.out
          have e1 := HTJ.out.keeps.cell id e1
          have e2 := HTJ.out.keeps.cell id e2
          have e3 := HTJ.out.keeps.cell id e3
          have e4 := HTJ.out.keeps.cell id e4
          (try dsimp only at e1 e2 e3 e4)
          by_cases hltj : j < l.length
          · obtain ⟨f1, f2, f3, f4⟩ := HP.out.2 j hltj
            have f1 := HTJ.out.keeps.cell id f1
            have f2 := HTJ.out.keeps.cell id f2
            have f3 := HTJ.out.keeps.cell id f3
            have f4 := HTJ.out.keeps.cell id f4
            have hjx : (0 : Int) ≤ (j : Int) ∧ (j : Int) < (l.length : Int) := by omega
            have hty := all_get HL.out hltj
            have HLJ := Lib.hid (show l[j] ∈ l from List.getElem_mem hltj)
            obtain ⟨y, hy⟩ : ∃ y, y = l[j] := ⟨_, rfl⟩
            rw [← hy] at f1 f2 f3 f4 hty HLJ
            have HY := Lib.hid hy
            have hw1 := tst_wrap HTX.out hty
            have hw2 := tst_wrap hty HTX.out
            clear hy hty
            obtain ⟨ys, yd, yf, yh⟩ := y
            (try dsimp only at f1 f2 f3 f4 hw1 hw2)
            cases yh with
            | true =>
              have HQ := Lib.hid (show againstB ⟨xs, xd, xf, true⟩ l[j] = false by rw [← HY.out]; simp [againstB])
              go_upto_region 7 with (fail)
              go_quiet (fail)
              go_wp2
              go_roundw
              case rel => exact ⟨j + 1, by omega, by go_num, fun m hm hl => if h : m = j then by subst h; exact HQ.out else HNJ.out m (by omega) hl, HTJ.out.trans (Step.drewN _ _)⟩
              case measure => simp [intOf]; omega
            | false =>
              by_cases hs : ys = xs
              rotate_left
              · have hd : (ys == xs) = false := by simpa using hs
                have HQ := Lib.hid (show againstB ⟨xs, xd, xf, true⟩ l[j] = false by rw [← HY.out]; simp [againstB]; intro h; exact absurd h.symm hs)
                clear hs
                go_upto_region 7 with (fail)
                go_quiet (fail)
                go_wp2
                go_roundw
                case rel => exact ⟨j + 1, by omega, by go_num, fun m hm hl => if h : m = j then by subst h; exact HQ.out else HNJ.out m (by omega) hl, HTJ.out.trans (Step.drewN _ _)⟩
                case measure => simp [intOf]; omega
              subst hs
              by_cases hg : yf * xd ≤ xf * yd
              · have hd : decide (yf * xd ≤ xf * yd) = true := by simpa using hg
                have HQ := Lib.hid (show clashB l = true from List.any_eq_true.2 ⟨_, HLK.out, List.any_eq_true.2 ⟨_, HLJ.out, by simp [againstB, hg]⟩⟩)
                clear hg
                go_upto_region 7 with (fail)
                go_quiet (fail)
                go_wp2
                go_ret2
                exact ⟨_, _, rfl, by rw [HQ.out]; simp, HTJ.out.trans (Step.drewN _ _)⟩
              · have hd : decide (yf * xd ≤ xf * yd) = false := by simpa using hg
                have HQ := Lib.hid (show againstB ⟨ys, xd, xf, true⟩ l[j] = false by rw [← HY.out]; simp [againstB]; omega)
                clear hg
                go_upto_region 7 with (fail)
                go_quiet (fail)
                go_wp2
                go_roundw
                case rel => exact ⟨j + 1, by omega, by go_num, fun m hm hl => if h : m = j then by subst h; exact HQ.out else HNJ.out m (by omega) hl, HTJ.out.trans (Step.drewN _ _)⟩
                case measure => simp [intOf]; omega
          · have HQ := Lib.hid (show l.any (againstB l[k]) = false by
              rw [← HX.out, List.any_eq_false]
              intro y hy
              obtain ⟨m, hm, rfl⟩ := List.getElem_of_mem hy
              rw [HNJ.out m (by omega) hm]; decide)
            go_wp2
            go_roundw
            case rel => exact ⟨k + 1, by omega, by go_num, fun m hm hl => if h : m = k then by subst h; exact HQ.out else HN.out m (by omega) hl, HTJ.out⟩
            case measure => simp [intOf]; omega
    · have HQ := Lib.hid (show clashB l = false by
        unfold clashB
        rw [List.any_eq_false]
        intro y hy
        obtain ⟨j, hj, rfl⟩ := List.getElem_of_mem hy
        rw [HN.out j (by omega) hj]; decide)
      go_wp2
      go_ret2
      exact ⟨_, _, rfl, by rw [HQ.out]; decide, HT.out⟩
end Go.Proofs.Ytdcjbbeoocldeaa
/- Walks: the errors of what is asked, and the head that is asked. -/
namespace Go.Proofs.Ytdcjbbeoocldeaa
set_option linter.unusedSimpArgs false
set_option linter.unusedVariables false
open Go.RowKit Go.BT

theorem tests_ok {l : List Tst} (h : testsC l = 0) : l.all tstB = true := by
  unfold testsC at h
  split at h
  · simp at h
  · split at h
    · assumption
    · simp at h
theorem tent_ok {t : List Head} (h : tentC t = 0) : tentB t = true := by
  unfold tentC at h
  split at h
  · assumption
  · simp at h
theorem ready_ok {l : List Tst} {t : List Head} (h : readyC l t = 0) : l.all tstB = true ∧ tentB t = true := by
  unfold readyC at h
  split at h
  · rename_i h1; exact ⟨tests_ok h1, tent_ok h⟩
  · rename_i h1; exact absurd h h1
theorem tent_parts {t : List Head} (h : tentB t = true) : (1 ≤ t.length ∧ t.length ≤ 12) ∧ t.all headB = true := by
  simp only [tentB, withinB, Bool.and_eq_true, decide_eq_true_eq] at h
  exact ⟨by omega, h.2⟩
/-- The error of a head that is asked for a push. -/
def atC (l : List Tst) (t : List Head) (i : Int) (r : Bool) : Int := if readyC l t = 0 then (if (withinB i 0 ((t.length : Int) - 1) && r) = true then soundC l else 2) else readyC l t
def headAt (t : List Head) (i : Int) : Head := t.getD i.toNat default
theorem atC_ok {l : List Tst} {t : List Head} {i : Int} {r : Bool} (h : atC l t i r = 0) : l.all tstB = true ∧ tentB t = true ∧ (0 ≤ i ∧ i < t.length) ∧ r = true ∧ clashB l = false := by
  unfold atC at h
  split at h
  · rename_i h1
    obtain ⟨a, b⟩ := ready_ok h1
    split at h
    · rename_i h2
      simp only [withinB, Bool.and_eq_true, decide_eq_true_eq] at h2
      refine ⟨a, b, by omega, h2.2, ?_⟩
      unfold soundC at h
      split at h
      · simp at h
      · rename_i h3; simpa using h3
    · simp at h
  · rename_i h1; exact absurd h h1
theorem headAt_eq {t : List Head} {k : Nat} (hk : k < t.length) : headAt t k = t[k] := by simp [headAt, List.getD_eq_getElem?_getD, hk]
theorem headAt_ok {t : List Head} {i : Int} (ht : tentB t = true) (hi : 0 ≤ i ∧ i < t.length) : headB (headAt t i) = true := by
  obtain ⟨k, rfl⟩ : ∃ k : Nat, i = k := ⟨i.toNat, by omega⟩
  rw [headAt_eq (by omega)]
  exact all_get (tent_parts ht).2 (by omega)
theorem clashing_any (S : Nat → Prop) (l : List Tst) (v : Value) (w : World) (hv : SL S w v l) (hl : l.all tstB = true) :
    Calls Try.prog 40 #[v] w fun e w' => e = .returned (.int .i64 (soundC l)) ∧ Step w w' := by
  have hcall := Lib.hid (Clash_any S l v w hv hl)
  obtain ⟨pv, cv, rfl⟩ := hv.form
  clear hv hl
  go_enter Try.func40, Try.ntmps40
  go_wp2_with fail
  refine hcall.out.mono ?_
  rintro e w' ⟨i, j, rfl, hq, hS⟩
  clear hcall
  cases q : clashB l with
  | true =>
    rw [q] at hq
    have HQ := Lib.hid q
    clear q
    go_wp2
    go_ret
    exact ⟨by simp [soundC, HQ.out], hS⟩
  | false =>
    rw [q] at hq
    have HQ := Lib.hid q
    clear q
    go_wp2
    go_ret
    exact ⟨by simp [soundC, HQ.out], hS⟩
theorem Fault_any (S : Nat → Prop) (l : List Tst) (t : List Head) (v u : Value) (w : World) (hv : SL S w v l) (hu : SL S w u t) :
    Calls Try.prog 39 #[v, u] w fun e w' => e = .returned (.int .i64 (readyC l t)) ∧ Step w w' := by
  have HU := Lib.hid hu
  have hcall := Lib.hid (TestsFault_any S l v w hv)
  obtain ⟨pv, cv, rfl⟩ := hv.form
  obtain ⟨pu, cu, rfl⟩ := hu.form
  clear hv hu
  go_enter Try.func39, Try.ntmps39
  go_wp2_with fail
  refine hcall.out.mono ?_
  rintro e w1 ⟨rfl, hS⟩
  have HS := Lib.hid hS
  obtain ⟨c, hc⟩ : ∃ c, c = testsC l := ⟨_, rfl⟩
  rw [← hc]
  have HC := Lib.hid hc
  clear hcall hc hS
  by_cases h0 : c = 0
  · subst h0
    go_wp2_with fail
    refine (Right_any S t _ _ (HU.out.keep (.of_step HS.out))).mono ?_
    rintro e w2 ⟨rfl, hS2⟩
    cases q : tentB t with
    | true =>
      have HQ := Lib.hid (show readyC l t = 0 by unfold readyC tentC; rw [← HC.out, if_pos rfl, if_pos q])
      clear q
      go_wp2
      go_ret
      exact ⟨by rw [HQ.out]; rfl, HS.out.trans hS2⟩
    | false =>
      have HQ := Lib.hid (show readyC l t = 1 by unfold readyC tentC; rw [← HC.out, if_pos rfl, if_neg (by rw [q]; decide)])
      clear q
      go_wp2
      go_ret
      exact ⟨by rw [HQ.out]; rfl, HS.out.trans hS2⟩
  · have hd : (c != 0) = true := by simpa using h0
    have HQ := Lib.hid (show readyC l t = c by unfold readyC; rw [← HC.out, if_neg h0])
    clear h0
    go_wp2
    go_ret
    exact ⟨by rw [HQ.out]; rfl, HS.out⟩
theorem ready_any (S : Nat → Prop) (l : List Tst) (t : List Head) (v u : Value) (w : World) (hv : SL S w v l) (hu : SL S w u t) :
    Calls Try.prog 69 #[v, u] w fun e w' => e = .returned (.int .i64 (readyC l t)) ∧ Step w w' := by
  have HU := Lib.hid hu
  have hcall := Lib.hid (CheckTests_any S l v w hv)
  obtain ⟨pv, cv, rfl⟩ := hv.form
  obtain ⟨pu, cu, rfl⟩ := hu.form
  clear hv hu
  go_enter Try.func69, Try.ntmps69
  go_wp2_with fail
  refine hcall.out.mono ?_
  rintro e w1 ⟨rfl, hS⟩
  have HS := Lib.hid hS
  obtain ⟨c, hc⟩ : ∃ c, c = testsC l := ⟨_, rfl⟩
  rw [← hc]
  have HC := Lib.hid hc
  clear hcall hc hS
  by_cases h0 : c = 0
  · subst h0
    go_wp2_with fail
    refine (CheckTent_any S t _ _ (HU.out.keep (.of_step HS.out))).mono ?_
    rintro e w2 ⟨rfl, hS2⟩
    have HQ := Lib.hid (show readyC l t = tentC t by unfold readyC; rw [← HC.out, if_pos rfl])
    go_wp2
    go_ret
    exact ⟨by rw [HQ.out]; rfl, HS.out.trans hS2⟩
  · have hd : (c != 0) = true := by simpa using h0
    have HQ := Lib.hid (show readyC l t = c by unfold readyC; rw [← HC.out, if_neg h0])
    clear h0
    go_wp2
    go_ret
    exact ⟨by rw [HQ.out]; rfl, HS.out⟩
theorem asked_any (S : Nat → Prop) (l : List Tst) (t : List Head) (i : Int) (r : Bool) (v u : Value) (w : World) (hv : SL S w v l) (hu : SL S w u t) :
    Calls Try.prog 21 #[v, u, .int .i64 i, .bool r] w fun e w' => e = .returned (.int .i64 (atC l t i r)) ∧ Step w w' := by
  have HV := Lib.hid hv
  have hm := hu.len
  have hcall := Lib.hid (Fault_any S l t v u w hv hu)
  obtain ⟨pv, cv, rfl⟩ := hv.form
  obtain ⟨pu, cu, rfl⟩ := hu.form
  clear hv hu
  go_enter Try.func21, Try.ntmps21
  go_wp2_with fail
  refine hcall.out.mono ?_
  rintro e w1 ⟨rfl, hS⟩
  have HS := Lib.hid hS
  obtain ⟨c, hc⟩ : ∃ c, c = readyC l t := ⟨_, rfl⟩
  rw [← hc]
  have HC := Lib.hid hc
  clear hcall hc hS
  by_cases h0 : c = 0
  · subst h0
    by_cases hi0 : i < 0
    · have hd : decide (i < 0) = true := by simpa using hi0
      have HQ := Lib.hid (show atC l t i r = 2 by unfold atC; rw [if_pos HC.out.symm, if_neg]; simp [withinB]; omega)
      clear hi0
      go_wp2
      go_ret
      exact ⟨by rw [HQ.out]; rfl, HS.out⟩
    have hd : decide (i < 0) = false := by simpa using hi0
    by_cases hi1 : (t.length : Int) ≤ i
    · have hd2 : decide ((t.length : Int) ≤ i) = true := by simpa using hi1
      have HQ := Lib.hid (show atC l t i r = 2 by unfold atC; rw [if_pos HC.out.symm, if_neg]; simp [withinB]; omega)
      clear hi0 hi1
      go_wp2
      go_ret
      exact ⟨by rw [HQ.out]; rfl, HS.out⟩
    have hd2 : decide ((t.length : Int) ≤ i) = false := by simpa using hi1
    cases r with
    | false =>
      have HQ := Lib.hid (show atC l t i false = 2 by unfold atC; rw [if_pos HC.out.symm, if_neg]; simp)
      clear hi0 hi1
      go_wp2
      go_ret
      exact ⟨by rw [HQ.out]; rfl, HS.out⟩
    | true =>
      have HQ := Lib.hid (show atC l t i true = soundC l by unfold atC; rw [if_pos HC.out.symm, if_pos]; simp [withinB]; omega)
      clear hi0 hi1
      go_wp2_with fail
      refine (clashing_any S l _ _ (HV.out.keep (.of_step HS.out)) (ready_ok HC.out.symm).1).mono ?_
      rintro e w2 ⟨rfl, hS2⟩
      go_wp2
      go_ret
      exact ⟨by rw [HQ.out]; rfl, HS.out.trans hS2⟩
  · have hd : (c != 0) = true := by simpa using h0
    have HQ := Lib.hid (show atC l t i r = c by unfold atC; rw [← HC.out, if_neg h0])
    clear h0
    go_wp2
    go_ret
    exact ⟨by rw [HQ.out]; rfl, HS.out⟩
/-- The form of a head with forces. -/
def MF (v : Value) : Prop := ∃ (a b : Int) (p2 : Option Addr) (n2 k2 : Nat) (p3 : Option Addr) (n3 k3 : Nat), v = .agg #[.int .i64 a, .int .i64 b, .slice p2 n2 k2, .slice p3 n3 k3]
theorem MVS.mf {S : Nat → Prop} {w : World} {v : Value} {area : Int} {F : List Vec} (h : MVS S w v area F) : MF v := by
  obtain ⟨b, p2, n2, k2, p3, k3, e, _⟩ := h
  exact ⟨area, b, p2, n2, k2, p3, F.length, k3, e⟩
set_option maxHeartbeats 4000000 in
theorem at_any (S : Nat → Prop) (l : List Tst) (t : List Head) (i : Int) (r : Bool) (v u : Value) (w : World) (hv : SL S w v l) (hu : SL S w u t) :
    Calls Try.prog 58 #[v, u, .int .i64 i, .bool r] w fun e w' => ∃ v', e = .returned (.tuple #[v', .int .i64 (atC l t i r)]) ∧ MF v' ∧ (atC l t i r = 0 → MV w' v' (headAt t i).area (forcesL l (headAt t i).guys)) ∧ Step w w' := by
  have hm := hu.len
  have hv1 := hv.keep (.of_step (Step.alloc w (.cells #[.int .i64 0, .int .i64 0, .slice none 0 0, .slice none 0 0] 117)))
  have hu1 := hu.keep (.of_step (Step.alloc w (.cells #[.int .i64 0, .int .i64 0, .slice none 0 0, .slice none 0 0] 117)))
  have hcall := Lib.hid (ready_any S l t v u _ hv1 hu1)
  have HV := Lib.hid hv1
  have HU := Lib.hid hu1
  obtain ⟨pv, cv, rfl⟩ := hv.form
  obtain ⟨pu, cu, rfl⟩ := hu.form
  clear hv hu hv1 hu1
  go_enter Try.func58, Try.ntmps58
  go_wp2_with fail
  refine hcall.out.mono ?_
  rintro e w1 ⟨rfl, hS⟩
  have HS := Lib.hid hS
  obtain ⟨c, hc⟩ : ∃ c, c = readyC l t := ⟨_, rfl⟩
  rw [← hc]
  have HC := Lib.hid hc
  clear hcall hc hS
  by_cases h0 : c = 0
  rotate_left
  · have hd : (c != 0) = true := by simpa using h0
    have HQ := Lib.hid (show atC l t i r = c by unfold atC; rw [← HC.out, if_neg h0])
    have H0 := Lib.hid h0
    clear h0
    have HB := Lib.hid ((Bx.new w [.int .i64 0, .int .i64 0, .slice none 0 0, .slice none 0 0] 117).step HS.out)
    have z0 := HB.out.frozen 0
    have z1 := HB.out.frozen 1
    have z2 := HB.out.frozen 2
    have z3 := HB.out.frozen 3
    obtain ⟨y0, y1, y2, y3⟩ := cells4 HB.out
    go_wp2
    have b4 := set4 HB.out (.int .i64 0) (.int .i64 0) (.slice none 0 0) (.slice none 0 0)
    exact ret_struct2 (k := 4) rfl siMeas rfl b4.1 rfl rfl ⟨_, by rw [HQ.out]; rfl, ⟨0, 0, none, 0, 0, none, 0, 0, rfl⟩, fun h => absurd (HQ.out.symm.trans h) (by exact H0.out), StepX.fresh ((Step.alloc w _).trans HS.out) b4.2 (fun j hj => by omega)⟩
  subst h0
  have hw : IntKind.i64.wrap ((t.length : Int) - 1) = (t.length : Int) - 1 := by rw [IntKind.wrap_i64]; omega
  go_wp2_with fail
  refine (canvas.within_any _ _ _ _).mono ?_
  rintro e w' ⟨rfl, rfl⟩
  cases q : withinB i 0 ((t.length : Int) - 1) with
  | false =>
    have HQ := Lib.hid (show atC l t i r = 2 by unfold atC; rw [if_pos HC.out.symm, q, if_neg (by simp)])
    clear q
    have HB := Lib.hid ((Bx.new w [.int .i64 0, .int .i64 0, .slice none 0 0, .slice none 0 0] 117).step HS.out)
    have z0 := HB.out.frozen 0
    have z1 := HB.out.frozen 1
    have z2 := HB.out.frozen 2
    have z3 := HB.out.frozen 3
    obtain ⟨y0, y1, y2, y3⟩ := cells4 HB.out
    go_wp2
    have b4 := set4 HB.out (.int .i64 0) (.int .i64 0) (.slice none 0 0) (.slice none 0 0)
    exact ret_struct2 (k := 4) rfl siMeas rfl b4.1 rfl rfl ⟨_, by rw [HQ.out]; rfl, ⟨0, 0, none, 0, 0, none, 0, 0, rfl⟩, fun h => absurd (HQ.out.symm.trans h) (by decide), StepX.fresh ((Step.alloc w _).trans HS.out) b4.2 (fun j hj => by omega)⟩
  | true =>
    cases r with
    | false =>
      have HQ := Lib.hid (show atC l t i false = 2 by unfold atC; rw [if_pos HC.out.symm, if_neg (by simp)])
      clear q
      have HB := Lib.hid ((Bx.new w [.int .i64 0, .int .i64 0, .slice none 0 0, .slice none 0 0] 117).step HS.out)
      have z0 := HB.out.frozen 0
      have z1 := HB.out.frozen 1
      have z2 := HB.out.frozen 2
      have z3 := HB.out.frozen 3
      obtain ⟨y0, y1, y2, y3⟩ := cells4 HB.out
      go_wp2
      have b4 := set4 HB.out (.int .i64 0) (.int .i64 0) (.slice none 0 0) (.slice none 0 0)
      exact ret_struct2 (k := 4) rfl siMeas rfl b4.1 rfl rfl ⟨_, by rw [HQ.out]; rfl, ⟨0, 0, none, 0, 0, none, 0, 0, rfl⟩, fun h => absurd (HQ.out.symm.trans h) (by decide), StepX.fresh ((Step.alloc w _).trans HS.out) b4.2 (fun j hj => by omega)⟩
    | true =>
      have HQ0 := Lib.hid (show atC l t i true = soundC l by unfold atC; rw [if_pos HC.out.symm, q, if_pos (by simp)])
      have hi : 0 ≤ i ∧ i < t.length := by simp only [withinB, Bool.and_eq_true, decide_eq_true_eq] at q; omega
      have HI := Lib.hid hi
      clear q hi
      go_wp2_with fail
      refine (sound_any S l _ _ (HV.out.keep (.of_step HS.out)) (ready_ok HC.out.symm).1).mono ?_
      rintro e w2 ⟨rfl, hS2⟩
      obtain ⟨c, hc⟩ : ∃ c, c = soundC l := ⟨_, rfl⟩
      rw [← hc]
      have HSx := Lib.hid (HS.out.trans hS2)
      clear hS2 HS
      have HS := HSx
      clear HSx
      by_cases h0 : c = 0
      rotate_left
      · have hd : (c != 0) = true := by simpa using h0
        have HQ := Lib.hid (show atC l t i true = c by rw [HQ0.out, ← hc])
        have H0 := Lib.hid h0
        clear h0 hc
        have HB := Lib.hid ((Bx.new w [.int .i64 0, .int .i64 0, .slice none 0 0, .slice none 0 0] 117).step HS.out)
        have z0 := HB.out.frozen 0
        have z1 := HB.out.frozen 1
        have z2 := HB.out.frozen 2
        have z3 := HB.out.frozen 3
        obtain ⟨y0, y1, y2, y3⟩ := cells4 HB.out
        go_wp2
        have b4 := set4 HB.out (.int .i64 0) (.int .i64 0) (.slice none 0 0) (.slice none 0 0)
        exact ret_struct2 (k := 4) rfl siMeas rfl b4.1 rfl rfl ⟨_, by rw [HQ.out]; rfl, ⟨0, 0, none, 0, 0, none, 0, 0, rfl⟩, fun h => absurd (HQ.out.symm.trans h) (by exact H0.out), StepX.fresh ((Step.alloc w _).trans HS.out) b4.2 (fun j hj => by omega)⟩
      subst h0
      have HQ := Lib.hid (show atC l t i true = 0 by rw [HQ0.out, ← hc])
      clear hc
      obtain ⟨k, rfl⟩ : ∃ k : Nat, i = k := ⟨i.toNat, by have := HI.out; omega⟩
      have hlt : k < t.length := by have := HI.out; omega
      have hix : (0 : Int) ≤ (k : Int) ∧ (k : Int) < (t.length : Int) := by omega
      obtain ⟨pt, ct, b, o, het, _, _, hp, hc, _⟩ := (HU.out.keep (.of_step HS.out)).heads
      injection het with he1 _ he3
      subst he1 he3
      obtain rfl := hp (by omega)
      obtain ⟨c2, e1, e2, e3, e4⟩ := hc k hlt
      obtain ⟨pg, cg, rfl⟩ := e4.form
      have hhd := head_parts (all_get (tent_parts (ready_ok HC.out.symm).2).2 hlt)
      have HHD := Lib.hid hhd
      have HE4 := Lib.hid e4
      have HHA := Lib.hid (headAt_eq hlt)
      clear hp hc hhd e4
      go_wp2_with fail
      refine (measure_any S l t[k] _ _ _ (HV.out.keep (.of_step HS.out)) ⟨_, rfl, _, rfl, HE4.out⟩ (ready_ok HC.out.symm).1 HHD.out.2.2.2 (by have := HHD.out.2.2.1; omega)).mono ?_
      rintro e w3 ⟨vm, rfl, hmv, hS3⟩
      obtain ⟨b5, p2, n2, k2, p3, k3, rfl, hsl⟩ := hmv
      have HSL := Lib.hid hsl
      have HS3 := Lib.hid (HS.out.trans hS3)
      have HB := Lib.hid ((Bx.new w [.int .i64 0, .int .i64 0, .slice none 0 0, .slice none 0 0] 117).step (HS.out.trans hS3))
      have z0 := HB.out.frozen 0
      have z1 := HB.out.frozen 1
      have z2 := HB.out.frozen 2
      have z3 := HB.out.frozen 3
      obtain ⟨y0, y1, y2, y3⟩ := cells4 HB.out
      clear hsl hS3 e1 e2 e3
      go_wp2
      have b4 := set4 HB.out (.int .i64 t[k].area) (.int .i64 b5) (.slice p2 n2 k2) (.slice p3 (forcesL l t[k].guys).length k3)
      refine ret_struct2 (k := 4) rfl siMeas rfl b4.1 rfl rfl ⟨_, by rw [HQ.out]; rfl, ⟨_, _, _, _, _, _, _, _, rfl⟩, fun _ => ?_, StepX.fresh ((Step.alloc w _).trans HS3.out) b4.2 (fun j hj => by omega)⟩
      rw [HHA.out]
      refine ⟨b5, p2, n2, k2, p3, k3, rfl, ?_⟩
      have hk5 := (HSL.out.weak (T := fun j => j = w.heap.size) (fun j _ hj => by have := HS.out.size; simp at this; unfold Old; omega)).keep b4.2.keeps
      exact hk5.weak fun _ _ h => h.elim
end Go.Proofs.Ytdcjbbeoocldeaa
