/- The law package's awake is walked: it is true. -/
import Derived.Test.YtbgfmikbhiblgaaMb
import Derived.Test.YtbgfmikbhiblgaaMc
import Derived.Test.YtbgfmikbhiblgaaMg
import Derived.Test.YtbgfmikbhiblgaaMh
import Derived.Test.YtbgfmikbhiblgaaRows
/- Walks: the law's Tent. -/
namespace Go.Proofs.Ytbgfmikbhiblgaa
set_option linter.unusedSimpArgs false
set_option linter.unusedVariables false
open Go.RowKit Go.BT

def tentH : House := ⟨[⟨0, 2⟩, ⟨1, 3⟩], [50, 20], [10, 20], [[0, 5], [0, 5]], [[0, 0, 0, 0, 0], [0, 1, 0, 1, 1]]⟩
set_option maxHeartbeats 2000000 in
theorem Tent_any (w : World) : Calls Try.prog 51 #[] w fun e w' => ∃ v', e = .returned v' ∧ AV (Old w) w' v' tentH ∧ Step w w' := by
  go_enter Try.func51, Try.ntmps51
  go_wp2
  refine ret_struct (k := 5) (g := w.heap.size) (T' := 43) (cs := [.slice (some ⟨w.heap.size + 1, 0, none⟩) 2 2, .slice (some ⟨w.heap.size + 2, 0, none⟩) 2 2, .slice (some ⟨w.heap.size + 3, 0, none⟩) 2 2, .slice (some ⟨w.heap.size + 6, 0, none⟩) 2 2, .slice (some ⟨w.heap.size + 9, 0, none⟩) 2 2]) rfl siHouse rfl ?_ rfl rfl ⟨_, rfl, ⟨_, rfl, ⟨_, _, _, _, _, rfl, ?_, ?_, ?_, ?_, ?_⟩⟩, ?_⟩
  · repeat (first | exact Bx.new _ _ _ | apply Bx.alloc)
  · refine SL.bx (g := w.heap.size + 1) (T := 121) (cs := [.int .i64 0, .int .i64 2, .int .i64 1, .int .i64 3]) (l := tentH.sectors) ?_ (by unfold Old; omega) 2 (by decide) (by decide) (fun i hi => ?_)
    · repeat (first | (with_reducible refine Bx.new' _ _ _ _ ?_; simp; done) | (with_reducible apply Bx.alloc))
    · have hi2 : i = 0 ∨ i = 1 := by simp [tentH] at hi; omega
      rcases hi2 with rfl | rfl <;> rfl
  · refine SL.bx_ints (g := w.heap.size + 2) (T := 3) (l := tentH.prices) ?_ (by unfold Old; omega) 2 (by decide) (by decide)
    show Bx _ _ [.int .i64 50, .int .i64 20] _
    repeat (first | (with_reducible refine Bx.new' _ _ _ _ ?_; simp; done) | (with_reducible apply Bx.alloc))
  · refine SL.bx_ints (g := w.heap.size + 3) (T := 3) (l := tentH.dates) ?_ (by unfold Old; omega) 2 (by decide) (by decide)
    show Bx _ _ [.int .i64 10, .int .i64 20] _
    repeat (first | (with_reducible refine Bx.new' _ _ _ _ ?_; simp; done) | (with_reducible apply Bx.alloc))
  · refine SL.bx (g := w.heap.size + 6) (T := 23) (cs := [.slice (some ⟨w.heap.size + 4, 0, none⟩) 2 2, .slice (some ⟨w.heap.size + 5, 0, none⟩) 2 2]) (l := tentH.frm) ?_ (by unfold Old; omega) 2 (by decide) (by decide) (fun i hi => ?_)
    · repeat (first | (with_reducible refine Bx.new' _ _ _ _ ?_; simp; done) | (with_reducible apply Bx.alloc))
    · have hi2 : i = 0 ∨ i = 1 := by simp [tentH] at hi; omega
      rcases hi2 with rfl | rfl
      · refine ⟨_, rfl, SL.bx_ints (g := w.heap.size + 4) (T := 3) (l := [0, 5]) ?_ (by unfold Old; omega) 2 (by decide) (by decide)⟩
        show Bx _ _ [.int .i64 0, .int .i64 5] _
        repeat (first | (with_reducible refine Bx.new' _ _ _ _ ?_; simp; done) | (with_reducible apply Bx.alloc))
      · refine ⟨_, rfl, SL.bx_ints (g := w.heap.size + 5) (T := 3) (l := [0, 5]) ?_ (by unfold Old; omega) 2 (by decide) (by decide)⟩
        show Bx _ _ [.int .i64 0, .int .i64 5] _
        repeat (first | (with_reducible refine Bx.new' _ _ _ _ ?_; simp; done) | (with_reducible apply Bx.alloc))
  · refine SL.bx (g := w.heap.size + 9) (T := 23) (cs := [.slice (some ⟨w.heap.size + 7, 0, none⟩) 5 5, .slice (some ⟨w.heap.size + 8, 0, none⟩) 5 5]) (l := tentH.holds) ?_ (by unfold Old; omega) 2 (by decide) (by decide) (fun i hi => ?_)
    · repeat (first | (with_reducible refine Bx.new' _ _ _ _ ?_; simp; done) | (with_reducible apply Bx.alloc))
    · have hi2 : i = 0 ∨ i = 1 := by simp [tentH] at hi; omega
      rcases hi2 with rfl | rfl
      · refine ⟨_, rfl, SL.bx_ints (g := w.heap.size + 7) (T := 3) (l := [0, 0, 0, 0, 0]) ?_ (by unfold Old; omega) 5 (by decide) (by decide)⟩
        show Bx _ _ [.int .i64 0, .int .i64 0, .int .i64 0, .int .i64 0, .int .i64 0] _
        repeat (first | (with_reducible refine Bx.new' _ _ _ _ ?_; simp; done) | (with_reducible apply Bx.alloc))
      · refine ⟨_, rfl, SL.bx_ints (g := w.heap.size + 8) (T := 3) (l := [0, 1, 0, 1, 1]) ?_ (by unfold Old; omega) 5 (by decide) (by decide)⟩
        show Bx _ _ [.int .i64 0, .int .i64 1, .int .i64 0, .int .i64 1, .int .i64 1] _
        repeat (first | (with_reducible refine Bx.new' _ _ _ _ ?_; simp; done) | (with_reducible apply Bx.alloc))
  · exact (by repeat (first | (with_reducible assumption) | (with_reducible exact Step.refl _) | (with_reducible apply Step.s_alloc) | (with_reducible apply Step.s_drew) | (with_reducible apply Step.s_drewN) | (with_reducible refine Step.trans ?_ (by with_reducible assumption))))
end Go.Proofs.Ytbgfmikbhiblgaa
/- The plain facts of the law's awake: what the program's functions come to at the chapter's tent. -/
namespace Go.Proofs.Ytbgfmikbhiblgaa
set_option linter.unusedSimpArgs false
set_option linter.unusedVariables false
open Go.RowKit Go.BT

def tentB : Book := ⟨0, [[0, 0, 0, 0, 0], [0, -1, 0, -1, -1]], [false, false], 0, [], 0⟩
def tentC : Book := ⟨0, [[0, 0, 7, 0, 0], [0, -1, 0, -1, -1]], [false, false], 0, [], 20⟩
def tentD : Book := ⟨0, [[0, 0, 0, 0, 0], [0, -1, 7, -1, -1]], [true, false], 0, [], 20⟩
def tentE : Book := ⟨0, [[0, 0, 0, -1, -1], [0, -1, 0, -1, -1]], [false, false], 1, [], 0⟩
theorem tent_class : classR tentH 2 = (1, 0) := by kernel_rfl
theorem tent_open : openR tentH 0 = (tentB, 0) := by kernel_rfl
theorem tent_sell : actR (doneR tentH tentB (sellD tentH tentB 0 2 7 3)) = (tentC, 0) := by kernel_rfl
theorem tent_lose : gate tentH tentC (loseD tentH tentC 0 4) = .ok (tentD, [⟨2, 1, 2⟩]) := by kernel_rfl
theorem tent_give : gate tentH tentB (giveD tentH tentB 1 0 [3, 4]) = .ok (tentE, ⟨0, 1, 1, 0, [3, 4]⟩) := by kernel_rfl
end Go.Proofs.Ytbgfmikbhiblgaa
/- Walks: the law's awake: it is true. -/
namespace Go.Proofs.Ytbgfmikbhiblgaa
set_option linter.unusedSimpArgs false
set_option linter.unusedVariables false
open Go.RowKit Go.BT

theorem tentB_av {S : Nat → Prop} {w : World} {v : Value} (h : AV S w v tentB) : ∃ p1 c1 bb oo v1 p2 c2 p4 c4, v = .agg #[.int .i64 0, .slice (some ⟨bb, oo, none⟩) 2 c1, .slice p2 2 c2, .int .i64 0, .slice p4 0 c4, .int .i64 0] ∧ w.cell? ⟨bb, oo + 1, none⟩ = some (.slice p1 5 v1) ∧ SL S w (.slice p1 5 v1) [0, -1, 0, -1, -1] ∧ AV S w v tentB := by
  obtain ⟨d1, d2, d4, hv, s1, s2, s4⟩ := h.book
  obtain ⟨p1, k1, bb, oo, rfl, _, _, hp, hc, _⟩ := s1.rows
  obtain ⟨p2, k2, rfl⟩ := s2.form
  obtain ⟨p4, k4, rfl⟩ := s4.form
  obtain rfl := hp (by decide)
  obtain ⟨u, hu, hu2⟩ := hc 1 (by decide)
  obtain ⟨pu, cu, rfl⟩ := hu2.form
  exact ⟨pu, k1, bb, oo, cu, p2, k2, p4, k4, hv, hu, hu2, h⟩
theorem _root_.Go.BT.SL.moves {S : Nat → Prop} {w : World} {v : Value} {l : List BT.Move} (h : SL S w v l) :
    ∃ p c b o, v = .slice p l.length c ∧ l.length ≤ c ∧ l.length ≤ 9223372036854775807 ∧ (0 < l.length → p = some ⟨b, o, none⟩) ∧
      (∀ i (h : i < l.length), w.cell? ⟨b, o + i * 3, none⟩ = some (.int .i64 l[i].seat) ∧ w.cell? ⟨b, o + i * 3 + 1, none⟩ = some (.int .i64 l[i].shw) ∧ w.cell? ⟨b, o + i * 3 + 2, none⟩ = some (.int .i64 l[i].at_)) ∧ (0 < l.length → b < w.heap.size ∧ ¬ S b) := by
  obtain ⟨p, c, b, o, hv, hc, hm, hp, ha⟩ := h
  refine ⟨p, c, b, o, hv, hc, hm, hp, fun i hi => ?_, fun h0 => ⟨(ha 0 h0).1, (ha 0 h0).2.1⟩⟩
  obtain ⟨_, _, cs, hr, hcs⟩ := ha i hi
  have hr' : cs = [.int .i64 l[i].seat, .int .i64 l[i].shw, .int .i64 l[i].at_] := hr
  subst hr'
  exact ⟨hcs 0 _ rfl, hcs 1 _ rfl, hcs 2 _ rfl⟩
theorem AV.triv {α : Type} [Rep α] {S : Nat → Prop} {w : World} {v : Value} {x : α} (h : AV S w v x) : AV (fun _ => False) w v x := h.weak fun _ _ h => h.elim
theorem AV.later {α : Type} [Rep α] {S : Nat → Prop} {W w1 w' : World} {v : Value} {x : α} (h : AV (Old W) w1 v x) (hs : ∀ j, j < w1.heap.size → S j → j < W.heap.size) (hk : Keeps S w1 w') : AV S w' v x :=
  (h.weak hs).keep hk
set_option maxRecDepth 100000 in
set_option maxHeartbeats 4000000 in
theorem awake_any (w : World) : Calls Try.prog 13 #[] w fun e w' => e = .returned (.bool true) ∧ Step w w' := by
  go_enter Try.func13, Try.ntmps13
  have HT := Lib.hid (Step.refl w)
  go_wp2_with fail
  refine (Tent_any _).mono ?_
  rintro e wn ⟨v1, rfl, hv1, hSn⟩
  have HTi := Lib.hid (HT.out.trans hSn)
  clear hSn HT
  have HT := HTi
  clear HTi
  go_wp2_with fail
  refine (Class_any _ tentH 2 _ _ hv1).mono ?_
  rintro e wn ⟨rfl, hSn⟩
  have HTi := Lib.hid (HT.out.trans hSn)
  clear hSn HT
  have HT := HTi
  clear HTi
  rw [tent_class]
  clear hv1
  go_wp2_with fail
  refine (Tent_any _).mono ?_
  rintro e wn ⟨v1, rfl, hv1, hSn⟩
  have HTi := Lib.hid (HT.out.trans hSn)
  clear hSn HT
  have HT := HTi
  clear HTi
  go_wp2_with fail
  refine (Open_any _ tentH 0 _ _ hv1).mono ?_
  rintro e wn ⟨v2, rfl, hv2, hSn⟩
  have HTi := Lib.hid (HT.out.trans hSn)
  clear hSn HT
  have HT := HTi
  clear HTi
  rw [tent_open] at hv2 ⊢
  dsimp only at hv2
  clear hv1
  obtain ⟨p1, c1, bb, oo, k1, p2, c2, p4, c4, rfl, g1, g2, hb⟩ := tentB_av hv2
  have HG := Lib.hid (And.intro g1 (And.intro g2 hb))
  clear g1 g2 hb hv2
  go_upto_region 3 with (fail)
  have hbB := Bx.new wn [.int .i64 0, .slice (some ⟨bb, oo, none⟩) 2 c1, .slice p2 2 c2, .int .i64 0, .slice p4 0 c4, .int .i64 0] 36
  have hST := HT.out.trans (Step.alloc wn (.cells #[.int .i64 0, .slice (some ⟨bb, oo, none⟩) 2 c1, .slice p2 2 c2, .int .i64 0, .slice p4 0 c4, .int .i64 0] 36))
  have hav := AV.triv (HG.out.2.2.keep (.of_step (Step.alloc wn (.cells #[.int .i64 0, .slice (some ⟨bb, oo, none⟩) 2 c1, .slice p2 2 c2, .int .i64 0, .slice p4 0 c4, .int .i64 0] 36))))
  have hsl := SL.weak (T := fun _ => False) (fun _ _ h => h.elim) (HG.out.2.1.keep (.of_step (Step.alloc wn (.cells #[.int .i64 0, .slice (some ⟨bb, oo, none⟩) 2 c1, .slice p2 2 c2, .int .i64 0, .slice p4 0 c4, .int .i64 0] 36))))
  have g1 := (Step.alloc wn (.cells #[.int .i64 0, .slice (some ⟨bb, oo, none⟩) 2 c1, .slice p2 2 c2, .int .i64 0, .slice p4 0 c4, .int .i64 0] 36)).keeps.cell id HG.out.1
  clear HG HT
  generalize wn.alloc (.cells #[.int .i64 0, .slice (some ⟨bb, oo, none⟩) 2 c1, .slice p2 2 c2, .int .i64 0, .slice p4 0 c4, .int .i64 0] 36) = W0 at *
  generalize wn.heap.size = gB at *
  have HT := Lib.hid hST
  have HB := Lib.hid hbB
  have HAB := Lib.hid hav
  have HSL := Lib.hid hsl
  obtain ⟨f0, f1, f2, f3, f4, f5⟩ := cells6 HB.out
  have hix : (0 : Int) ≤ 1 ∧ (1 : Int) < 2 := by omega
  clear hST hbB hav hsl
  go_wp2_with fail
  refine (ints_any _ [0, -1, 0, -1, -1] [0, -1, 0, -1, -1] _ _ _ (HSL.out.keep (.alloc _ _)) (SL.bx_ints (l := [0, -1, 0, -1, -1]) (Bx.new _ _ _) (fun h => h) 5 (by decide) (by decide))).mono ?_
  rintro e wm ⟨rfl, hSm⟩
  rw [show intsB [0, -1, 0, -1, -1] [0, -1, 0, -1, -1] = true from by decide]
  have HTi := Lib.hid ((HT.out.trans (Step.alloc _ _)).trans hSm)
  have HTB := Lib.hid ((Step.alloc _ _).trans hSm)
  clear hSm
  have HZM := Lib.hid (show w.heap.size ≤ wm.heap.size ∧ W0.heap.size ≤ wm.heap.size from ⟨HTi.out.size, HTB.out.size⟩)
  clear HT f0 f1 f2 f3 f4 f5 g1 HSL
  have HT := HTi
  clear HTi
  go_upto_region 5 with (fail)
  clear hix
  refine wp_region_seqM (fun c d v a w h => by cases d <;> exact h) (kdOf [0, 2] [(6, 36, .agg #[.int .i64 0, .slice none 0 0, .slice none 0 0, .int .i64 0, .slice none 0 0, .int .i64 0])]) [0, 0, 3, 7, 15, 15, 0, 95, 255] [1, 0, 2, 3, 4, 5, 6] [7, 8] (by kernel_rfl) (by kernel_rfl) (fun i T z hi hk => by simp only [List.mem_cons, List.not_mem_nil, or_false] at hi; rcases hi with rfl | rfl | rfl | rfl | rfl | rfl | rfl <;> simp [kdOf] at hk <;> (obtain ⟨rfl, rfl⟩ := hk; first | (show Option.bind _ _ = some _; kernel_rfl) | (refine ⟨_, rfl, fun _ _ => ?_⟩; go_simp))) ?_
  intro Wx hWx
  have HTx := Lib.hid (HT.out.trans hWx)
  have HTBx := Lib.hid (HTB.out.trans hWx)
  clear hWx HT HTB
  have HT := HTx
  have HTB := HTBx
  clear HTx HTBx
  obtain ⟨f0, f1, f2, f3, f4, f5⟩ := cells6 (HB.out.step HTB.out)
  repeat (first | (refine run_off rfl rfl (by rfl) ?_; (try simp only [Act.put, List.setIfInBounds_toArray, List.set_cons_zero, List.set_cons_succ])) | (refine run_chain_off rfl rfl (by rfl) (K0_mono _) ?_; (try simp only [Act.put, List.setIfInBounds_toArray, List.set_cons_zero, List.set_cons_succ])) | ((refine run_want rfl rfl (by rfl) ⟨?_, fun W hW => ?_, ?_⟩; rotate_left; (· (have d0 := hW.keeps.cell id f0; have d1 := hW.keeps.cell id f1; have d2 := hW.keeps.cell id f2; have d3 := hW.keeps.cell id f3; have d4 := hW.keeps.cell id f4; have d5 := hW.keeps.cell id f5; go_simp; (try with_reducible rfl)))); (try simp only [Act.put, List.setIfInBounds_toArray, List.set_cons_zero, List.set_cons_succ])))
  clear f0 f1 f2 f3 f4 f5
  refine run_chain rfl rfl (by rfl) (fun Wi hWi K' hK => ?_)
  have HTi := Lib.hid (HT.out.trans hWi)
  have HTBi := Lib.hid (HTB.out.trans hWi)
  clear hWi HT HTB
  go_simp
  refine (Tent_any _).mono ?_
  rintro e w5 ⟨v5, rfl, hv5, hS5⟩
  have HV5 := Lib.hid (AV.triv hv5)
  have HT := Lib.hid (HTi.out.trans hS5)
  have HTB := Lib.hid (HTBi.out.trans hS5)
  clear hv5 HTi HTBi
  refine hK _ _ hS5 ?_
  clear hS5 hK
  (try simp only [Act.put, List.setIfInBounds_toArray, List.set_cons_zero, List.set_cons_succ])
  repeat (first | (refine run_off rfl rfl (by rfl) ?_; (try simp only [Act.put, List.setIfInBounds_toArray, List.set_cons_zero, List.set_cons_succ])) | (refine run_chain_off rfl rfl (by rfl) (K0_mono _) ?_; (try simp only [Act.put, List.setIfInBounds_toArray, List.set_cons_zero, List.set_cons_succ])) | ((refine run_want rfl rfl (by rfl) ⟨?_, fun W hW => ?_, ?_⟩; rotate_left; (· (skip; go_simp; (try with_reducible rfl)))); (try simp only [Act.put, List.setIfInBounds_toArray, List.set_cons_zero, List.set_cons_succ])))
  refine run_chain rfl rfl (by rfl) (fun Wi hWi K' hK => ?_)
  have HTi := Lib.hid (HT.out.trans hWi)
  have HTBi := Lib.hid (HTB.out.trans hWi)
  have HV6 := Lib.hid (HV5.out.keep (.of_step hWi))
  clear hWi HT HTB HV5
  go_simp
  refine (Sell_any _ tentH tentB _ _ 0 2 7 3 _ HV6.out (HAB.out.keep (.of_step HTBi.out))).mono ?_
  rintro e w6 ⟨v6, rfl, hv6, hS6⟩
  rw [tent_sell] at hv6 ⊢
  dsimp only at hv6
  obtain ⟨x1, x2, x4, rfl, s1, s2, s4⟩ := hv6.book
  obtain ⟨q1, m1, rfl⟩ := s1.form
  obtain ⟨q2, m2, rfl⟩ := s2.form
  obtain ⟨q4, m4, rfl⟩ := s4.form
  have HV6 := Lib.hid hv6
  have HT := Lib.hid (HTi.out.trans hS6)
  have HTB := Lib.hid (HTBi.out.trans hS6)
  clear s1 s2 s4 hv6 HTi HTBi
  refine hK _ _ hS6 ?_
  clear hS6 hK
  (try simp only [Act.put, List.setIfInBounds_toArray, List.set_cons_zero, List.set_cons_succ])
  repeat (first | (refine run_off rfl rfl (by rfl) ?_; (try simp only [Act.put, List.setIfInBounds_toArray, List.set_cons_zero, List.set_cons_succ])) | (refine run_chain_off rfl rfl (by rfl) (K0_mono _) ?_; (try simp only [Act.put, List.setIfInBounds_toArray, List.set_cons_zero, List.set_cons_succ])) | ((refine run_want rfl rfl (by rfl) ⟨?_, fun W hW => ?_, ?_⟩; rotate_left; (· (skip; go_simp; (try with_reducible rfl)))); (try simp only [Act.put, List.setIfInBounds_toArray, List.set_cons_zero, List.set_cons_succ])))
  refine run_alloc rfl rfl (fun W5 g hW5 hg hgb hgN => ?_)
  (try simp only [Act.put, List.setIfInBounds_toArray, List.set_cons_zero, List.set_cons_succ])
  refine run_end (L := [_, _]) rfl (fun W6 hW6 => ?_)
  have hb6 := Bx.step (w := W5) (cs := [_, _, _, _, _, _]) hg hW6
  refine wpl_store (v := .agg #[.int .i64 tentC.agency, .slice q1 tentC.seats.length m1, .slice q2 tentC.off.length m2, .int .i64 tentC.sent, .slice q4 tentC.took.length m4, .int .i64 tentC.cash]) rfl _ _ _ rfl rfl rfl hb6 (by kernel_rfl) (by simp [Value.cells]) (by simp [Value.cells, Value.oneCell']) [.int .i64 tentC.agency, .slice q1 tentC.seats.length m1, .slice q2 tentC.off.length m2, .int .i64 tentC.sent, .slice q4 tentC.took.length m4, .int .i64 tentC.cash] rfl (fun w7 hb7 hw7 => ?_)
  have hg0 := HZM.out
  have HVC := Lib.hid (AV.triv (AV.later (S := fun j => j = g) (w' := w7) HV6.out (fun j hj hs => by omega) ((Keeps.of_step (hW5.trans hW6)).trans (.wrote hw7 rfl))))
  have HTx := Lib.hid (Step.wrote ((HT.out.trans hW5).trans hW6) hw7 (by omega))
  have HTBx := Lib.hid (Step.wrote ((HTB.out.trans hW5).trans hW6) hw7 (by omega))
  have HC := Lib.hid hb7
  have HZM7 := Lib.hid (show w.heap.size ≤ w7.heap.size ∧ W0.heap.size ≤ w7.heap.size by have := hb7.lt; omega)
  clear hW5 hg hgb hgN hW6 hb6 hb7 hw7 HV6 HT HTB hg0 HZM
  have HT := HTx
  have HTB := HTBx
  clear HTx HTBx
  go_upto_region 6 with (fail)
  refine wp_region_seqM (fun c d v a w h => by cases d <;> exact h) (kdOf [0, 2] [(7, 36, .agg #[.int .i64 0, .slice none 0 0, .slice none 0 0, .int .i64 0, .slice none 0 0, .int .i64 0])]) [0, 0, 3, 7, 15, 15, 15, 0, 159, 447, 1023] [1, 0, 2, 3, 4, 5, 6, 7] [8, 9, 10] (by kernel_rfl) (by kernel_rfl) (fun i T z hi hk => by simp only [List.mem_cons, List.not_mem_nil, or_false] at hi; rcases hi with rfl | rfl | rfl | rfl | rfl | rfl | rfl | rfl <;> simp [kdOf] at hk <;> (obtain ⟨rfl, rfl⟩ := hk; first | (show Option.bind _ _ = some _; kernel_rfl) | (refine ⟨_, rfl, fun _ _ => ?_⟩; go_simp))) ?_
  intro Wx hWx
  have HTx := Lib.hid (HT.out.trans hWx)
  have HTBx := Lib.hid (HTB.out.trans hWx)
  have HWX := Lib.hid hWx
  clear hWx HT HTB
  have HT := HTx
  have HTB := HTBx
  clear HTx HTBx
  obtain ⟨f0, f1, f2, f3, f4, f5⟩ := cells6 (HC.out.step HWX.out)
  repeat (first | (refine run_off rfl rfl (by rfl) ?_; (try simp only [Act.put, List.setIfInBounds_toArray, List.set_cons_zero, List.set_cons_succ])) | (refine run_chain_off rfl rfl (by rfl) (K0_mono _) ?_; (try simp only [Act.put, List.setIfInBounds_toArray, List.set_cons_zero, List.set_cons_succ])) | ((refine run_want rfl rfl (by rfl) ⟨?_, fun W hW => ?_, ?_⟩; rotate_left; (· (have d0 := hW.keeps.cell id f0; have d1 := hW.keeps.cell id f1; have d2 := hW.keeps.cell id f2; have d3 := hW.keeps.cell id f3; have d4 := hW.keeps.cell id f4; have d5 := hW.keeps.cell id f5; go_simp; (try with_reducible rfl)))); (try simp only [Act.put, List.setIfInBounds_toArray, List.set_cons_zero, List.set_cons_succ])))
  clear f0 f1 f2 f3 f4 f5
  have HVC6 := Lib.hid (HVC.out.keep (.of_step HWX.out))
  have HTC := Lib.hid (Step.refl Wx)
  refine run_chain rfl rfl (by rfl) (fun Wi hWi K' hK => ?_)
  have HTi := Lib.hid (HT.out.trans hWi)
  have HTCi := Lib.hid (HTC.out.trans hWi)
  have HTBi := Lib.hid (HTB.out.trans hWi)
  clear hWi HT HTB HTC
  go_simp
  refine (Tent_any _).mono ?_
  rintro e w8 ⟨v8, rfl, hv5, hS5⟩
  have HV5 := Lib.hid (AV.triv hv5)
  have HT := Lib.hid (HTi.out.trans hS5)
  have HTB := Lib.hid (HTBi.out.trans hS5)
  have HTC := Lib.hid (HTCi.out.trans hS5)
  clear hv5 HTi HTBi HTCi
  refine hK _ _ hS5 ?_
  clear hS5 hK
  (try simp only [Act.put, List.setIfInBounds_toArray, List.set_cons_zero, List.set_cons_succ])
  repeat (first | (refine run_off rfl rfl (by rfl) ?_; (try simp only [Act.put, List.setIfInBounds_toArray, List.set_cons_zero, List.set_cons_succ])) | (refine run_chain_off rfl rfl (by rfl) (K0_mono _) ?_; (try simp only [Act.put, List.setIfInBounds_toArray, List.set_cons_zero, List.set_cons_succ])) | ((refine run_want rfl rfl (by rfl) ⟨?_, fun W hW => ?_, ?_⟩; rotate_left; (· (skip; go_simp; (try with_reducible rfl)))); (try simp only [Act.put, List.setIfInBounds_toArray, List.set_cons_zero, List.set_cons_succ])))
  refine run_chain rfl rfl (by rfl) (fun Wi hWi K' hK => ?_)
  have HTi := Lib.hid (HT.out.trans hWi)
  have HTBi := Lib.hid (HTB.out.trans hWi)
  have HTCi := Lib.hid (HTC.out.trans hWi)
  have HV6 := Lib.hid (HV5.out.keep (.of_step hWi))
  clear hWi HT HTB HV5 HTC
  go_simp
  refine (Lose_any _ tentH tentC _ _ 0 4 _ HV6.out (HVC6.out.keep (.of_step HTCi.out))).mono ?_
  rintro e w9 ⟨v9, l9, rfl, hv6, hl9, hS6⟩
  rw [tent_lose] at hv6 hl9 ⊢
  dsimp only [bookOf, actR, restOf] at hv6 hl9
  simp only [bookOf, actR]
  obtain ⟨x1, x2, x4, rfl, s1, s2, s4⟩ := hv6.book
  obtain ⟨q1', m1', rfl⟩ := s1.form
  obtain ⟨q2', m2', rfl⟩ := s2.form
  obtain ⟨q4', m4', rfl⟩ := s4.form
  obtain ⟨pl, cl, bl, ol, rfl, _, _, hpl, hcl, hbl⟩ := hl9.moves
  obtain rfl := hpl (by decide)
  have hcl := hcl 0 (by decide)
  have hbl := hbl (by decide)
  have HCL := Lib.hid (And.intro hcl hbl)
  have HT := Lib.hid (HTi.out.trans hS6)
  have HTB := Lib.hid (HTBi.out.trans hS6)
  have HTC := Lib.hid (HTCi.out.trans hS6)
  clear s1 s2 s4 hv6 HTi HTBi HTCi hcl hbl hpl hl9
  refine hK _ _ hS6 ?_
  clear hS6 hK
  (try simp only [Act.put, List.setIfInBounds_toArray, List.set_cons_zero, List.set_cons_succ])
  repeat (first | (refine run_off rfl rfl (by rfl) ?_; (try simp only [Act.put, List.setIfInBounds_toArray, List.set_cons_zero, List.set_cons_succ])) | (refine run_chain_off rfl rfl (by rfl) (K0_mono _) ?_; (try simp only [Act.put, List.setIfInBounds_toArray, List.set_cons_zero, List.set_cons_succ])) | ((refine run_want rfl rfl (by rfl) ⟨?_, fun W hW => ?_, ?_⟩; rotate_left; (· (skip; go_simp; (try with_reducible rfl)))); (try simp only [Act.put, List.setIfInBounds_toArray, List.set_cons_zero, List.set_cons_succ])))
  refine run_alloc rfl rfl (fun W5 g2 hW5 hg hgb hgN => ?_)
  (try simp only [Act.put, List.setIfInBounds_toArray, List.set_cons_zero, List.set_cons_succ])
  refine run_end (L := [_, _, _]) rfl (fun W6 hW6 => ?_)
  have hb6 := Bx.step (w := W5) (cs := [_, _, _, _, _, _]) hg hW6
  refine wpl_store (v := .agg #[.int .i64 tentD.agency, .slice q1' tentD.seats.length m1', .slice q2' tentD.off.length m2', .int .i64 tentD.sent, .slice q4' tentD.took.length m4', .int .i64 tentD.cash]) rfl _ _ _ rfl rfl rfl hb6 (by kernel_rfl) (by simp [Value.cells]) (by simp [Value.cells, Value.oneCell']) [.int .i64 tentD.agency, .slice q1' tentD.seats.length m1', .slice q2' tentD.off.length m2', .int .i64 tentD.sent, .slice q4' tentD.took.length m4', .int .i64 tentD.cash] rfl (fun w10 hb10 hw10 => ?_)
  have hg0 := HZM7.out
  have hcl := HCL.out.1
  have hbl := HCL.out.2
  have hk10 : Keeps (fun j => j = g2) w9 w10 := (Keeps.of_step (hW5.trans hW6)).trans (.wrote hw10 rfl)
  have hne : ¬ bl = g2 := by
    have h1 := hbl.1
    have h2 := hbl.2
    unfold Old at h2
    intro e
    rw [e] at h1 h2
    omega
  have HM := Lib.hid (And.intro (hk10.cell hne hcl.1) (And.intro (hk10.cell hne hcl.2.1) (hk10.cell hne hcl.2.2)))
  have hgC : g ≠ g2 := by have := HC.out.lt; omega
  have HTx := Lib.hid (Step.wrote ((HT.out.trans hW5).trans hW6) hw10 (by omega))
  have HTBx := Lib.hid (Step.wrote ((HTB.out.trans hW5).trans hW6) hw10 (by omega))
  have HTCx := Lib.hid (HC.out.keep ((Keeps.of_step ((HWX.out.trans HTC.out).trans (hW5.trans hW6))).trans (.wrote hw10 (S := fun j => j = g2) rfl)) hgC)
  have HD := Lib.hid hb10
  have HZM10 := Lib.hid (show w.heap.size ≤ w10.heap.size ∧ W0.heap.size ≤ w10.heap.size by have := hb10.lt; omega)
  clear hW5 hg hgb hgN hW6 hb6 hb10 hw10 HV6 HT HTB hg0 hcl hbl hk10 hne hgC HCL HC HTC HWX HVC HVC6
  have HT := HTx
  have HTB := HTBx
  have HC := HTCx
  clear HTx HTBx HTCx
  go_upto_region 7 with (fail)
  refine wp_region_seqM (fun c d v a w h => by cases d <;> exact h) (kdOf [0, 3] [(2, 3, .tuple #[.int IntKind.i64 3, .int IntKind.i64 4]), (8, 36, .agg #[.int .i64 0, .slice none 0 0, .slice none 0 0, .int .i64 0, .slice none 0 0, .int .i64 0]), (9, 74, .agg #[.int .i64 0, .int .i64 0, .int .i64 0, .int .i64 0, .slice none 0 0])]) [0, 0, 0, 7, 15, 31, 31, 31, 0, 0, 831, 1919, 4095] [1, 0, 2, 3, 4, 5, 6, 7, 8, 9] [10, 11, 12] (by kernel_rfl) (by kernel_rfl) (fun i T z hi hk => by simp only [List.mem_cons, List.not_mem_nil, or_false] at hi; rcases hi with rfl | rfl | rfl | rfl | rfl | rfl | rfl | rfl | rfl | rfl <;> simp [kdOf] at hk <;> (obtain ⟨rfl, rfl⟩ := hk; first | (show Option.bind _ _ = some _; kernel_rfl) | (refine ⟨_, rfl, fun _ _ => ?_⟩; go_simp))) ?_
  intro Wx hWx
  have HTx := Lib.hid (HT.out.trans hWx)
  have HTBx := Lib.hid (HTB.out.trans hWx)
  have HTX := Lib.hid hWx
  clear hWx HT HTB
  have HT := HTx
  have HTB := HTBx
  clear HTx HTBx
  obtain ⟨f0, f1, f2, f3, f4, f5⟩ := cells6 (HB.out.step HTB.out)
  repeat (first | (refine run_off rfl rfl (by rfl) ?_; (try simp only [Act.put, List.setIfInBounds_toArray, List.set_cons_zero, List.set_cons_succ])) | (refine run_chain_off rfl rfl (by rfl) (K0_mono _) ?_; (try simp only [Act.put, List.setIfInBounds_toArray, List.set_cons_zero, List.set_cons_succ])) | ((refine run_want rfl rfl (by rfl) ⟨?_, fun W hW => ?_, ?_⟩; rotate_left; (· (have d0 := hW.keeps.cell id f0; have d1 := hW.keeps.cell id f1; have d2 := hW.keeps.cell id f2; have d3 := hW.keeps.cell id f3; have d4 := hW.keeps.cell id f4; have d5 := hW.keeps.cell id f5; go_simp; (try with_reducible rfl)))); (try simp only [Act.put, List.setIfInBounds_toArray, List.set_cons_zero, List.set_cons_succ])))
  clear f0 f1 f2 f3 f4 f5
  refine run_chain rfl rfl (by rfl) (fun Wi hWi K' hK => ?_)
  have HTi := Lib.hid (HT.out.trans hWi)
  have HTBi := Lib.hid (HTB.out.trans hWi)
  have HTXi := Lib.hid (HTX.out.trans hWi)
  clear hWi HT HTB HTX
  go_simp
  refine (Tent_any _).mono ?_
  rintro e w11 ⟨v11, rfl, hv5, hS5⟩
  have HV5 := Lib.hid (AV.triv hv5)
  have HT := Lib.hid (HTi.out.trans hS5)
  have HTB := Lib.hid (HTBi.out.trans hS5)
  have HTX := Lib.hid (HTXi.out.trans hS5)
  clear hv5 HTi HTBi HTXi
  refine hK _ _ hS5 ?_
  clear hS5 hK
  (try simp only [Act.put, List.setIfInBounds_toArray, List.set_cons_zero, List.set_cons_succ])
  repeat (first | (refine run_off rfl rfl (by rfl) ?_; (try simp only [Act.put, List.setIfInBounds_toArray, List.set_cons_zero, List.set_cons_succ])) | (refine run_chain_off rfl rfl (by rfl) (K0_mono _) ?_; (try simp only [Act.put, List.setIfInBounds_toArray, List.set_cons_zero, List.set_cons_succ])) | ((refine run_want rfl rfl (by rfl) ⟨?_, fun W hW => ?_, ?_⟩; rotate_left; (· (skip; go_simp; (try with_reducible rfl)))); (try simp only [Act.put, List.setIfInBounds_toArray, List.set_cons_zero, List.set_cons_succ])))
  refine run_consts rfl rfl (fun Wk gS hWk hgS hgSb hgSN => ?_)
  have HSL := Lib.hid (SL.bx_ints (S := fun _ => False) (l := [3, 4]) (show Bx Wk gS [.int .i64 3, .int .i64 4] 3 from hgS) (fun h => h) 2 (by decide) (by decide))
  have HTi := Lib.hid (HT.out.trans hWk)
  have HTBi := Lib.hid (HTB.out.trans hWk)
  have HTXi := Lib.hid (HTX.out.trans hWk)
  have HV6 := Lib.hid (HV5.out.keep (.of_step hWk))
  clear hWk hgS hgSb hgSN HT HTB HTX HV5
  (try simp only [Act.put, List.setIfInBounds_toArray, List.set_cons_zero, List.set_cons_succ])
  repeat (first | (refine run_off rfl rfl (by rfl) ?_; (try simp only [Act.put, List.setIfInBounds_toArray, List.set_cons_zero, List.set_cons_succ])) | (refine run_chain_off rfl rfl (by rfl) (K0_mono _) ?_; (try simp only [Act.put, List.setIfInBounds_toArray, List.set_cons_zero, List.set_cons_succ])) | ((refine run_want rfl rfl (by rfl) ⟨?_, fun W hW => ?_, ?_⟩; rotate_left; (· (skip; go_simp; (try with_reducible rfl)))); (try simp only [Act.put, List.setIfInBounds_toArray, List.set_cons_zero, List.set_cons_succ])))
  refine run_chain rfl rfl (by rfl) (fun Wi hWi K' hK => ?_)
  have HT := Lib.hid (HTi.out.trans hWi)
  have HTB := Lib.hid (HTBi.out.trans hWi)
  have HTX := Lib.hid (HTXi.out.trans hWi)
  have HV7 := Lib.hid (HV6.out.keep (.of_step hWi))
  have HSL2 := Lib.hid (HSL.out.keep (.of_step hWi))
  clear hWi HTi HTBi HTXi HV6 HSL
  go_simp
  refine (Give_any _ _ tentH tentB _ _ _ 1 0 [3, 4] _ HV7.out (HAB.out.keep (.of_step HTB.out)) HSL2.out (by decide)).mono ?_
  rintro e w12 ⟨v12, m12, rfl, hv6, hm6, hS6⟩
  rw [tent_give] at hv6 hm6 ⊢
  dsimp only [bookOf, actR, restOf] at hv6 hm6
  simp only [bookOf, actR]
  obtain ⟨x1, x2, x4, rfl, s1, s2, s4⟩ := hv6.book
  obtain ⟨q1x, m1x, rfl⟩ := s1.form
  obtain ⟨q2x, m2x, rfl⟩ := s2.form
  obtain ⟨q4x, m4x, rfl⟩ := s4.form
  obtain ⟨y4, rfl, t4⟩ := hm6.message
  obtain ⟨qm, km, rfl⟩ := t4.form
  have HMM := Lib.hid hm6
  have HTi := Lib.hid (HT.out.trans hS6)
  have HTBi := Lib.hid (HTB.out.trans hS6)
  have HTXi := Lib.hid (HTX.out.trans hS6)
  clear s1 s2 s4 t4 hv6 hm6 HT HTB HTX
  refine hK _ _ hS6 ?_
  clear hS6 hK
  (try simp only [Act.put, List.setIfInBounds_toArray, List.set_cons_zero, List.set_cons_succ])
  repeat (first | (refine run_off rfl rfl (by rfl) ?_; (try simp only [Act.put, List.setIfInBounds_toArray, List.set_cons_zero, List.set_cons_succ])) | (refine run_chain_off rfl rfl (by rfl) (K0_mono _) ?_; (try simp only [Act.put, List.setIfInBounds_toArray, List.set_cons_zero, List.set_cons_succ])) | ((refine run_want rfl rfl (by rfl) ⟨?_, fun W hW => ?_, ?_⟩; rotate_left; (· (skip; go_simp; (try with_reducible rfl)))); (try simp only [Act.put, List.setIfInBounds_toArray, List.set_cons_zero, List.set_cons_succ])))
  refine run_alloc rfl rfl (fun W5 g3 hW5 hg hgb hgN => ?_)
  (try simp only [Act.put, List.setIfInBounds_toArray, List.set_cons_zero, List.set_cons_succ])
  refine run_alloc rfl rfl (fun W6 g4 hW6 hg' hgb' hgN' => ?_)
  (try simp only [Act.put, List.setIfInBounds_toArray, List.set_cons_zero, List.set_cons_succ])
  refine run_end (L := [_, _, _]) rfl (fun W7 hW7 => ?_)
  have hb3 : Bx W7 g3 [_, _, _, _, _, _] 36 := Bx.step (w := W5) (cs := [_, _, _, _, _, _]) hg (hW6.trans hW7)
  have hb4 : Bx W7 g4 [_, _, _, _, _] 74 := Bx.step (w := W6) (cs := [_, _, _, _, _]) hg' hW7
  refine wpl_store (v := .agg #[.int .i64 tentE.agency, .slice q1x tentE.seats.length m1x, .slice q2x tentE.off.length m2x, .int .i64 tentE.sent, .slice q4x tentE.took.length m4x, .int .i64 tentE.cash]) rfl _ _ _ rfl rfl rfl hb3 (by kernel_rfl) (by simp [Value.cells]) (by simp [Value.cells, Value.oneCell']) [.int .i64 tentE.agency, .slice q1x tentE.seats.length m1x, .slice q2x tentE.off.length m2x, .int .i64 tentE.sent, .slice q4x tentE.took.length m4x, .int .i64 tentE.cash] rfl (fun w13 hb13 hw13 => ?_)
  have hne : g4 ≠ g3 := hgN'.2
  have hb4' := hb4.keep hw13.keeps hne
  refine wpl_store (v := .agg #[.int .i64 0, .int .i64 1, .int .i64 1, .int .i64 0, .slice qm 2 km]) rfl _ _ _ rfl rfl rfl hb4' (by kernel_rfl) (by simp [Value.cells]) (by simp [Value.cells, Value.oneCell']) [.int .i64 0, .int .i64 1, .int .i64 1, .int .i64 0, .slice qm 2 km] rfl (fun w14 hb14 hw14 => ?_)
  have hk14 : Keeps (fun j => j = g3 ∨ j = g4) w12 w14 := ((Keeps.of_step ((hW5.trans hW6).trans hW7)).trans (.wrote hw13 (.inl rfl))).trans (.wrote hw14 (.inr rfl))
  have hm14 := Lib.hid (AV.triv (AV.later (S := fun j => j = g3 ∨ j = g4) (w' := w14) HMM.out (fun j hj hs => by omega) hk14))
  have hg0 := HZM10.out
  have HTx := Lib.hid (Step.wrote (Step.wrote (((HTi.out.trans hW5).trans hW6).trans hW7) hw13 (by omega)) hw14 (by omega))
  have hX10 : Keeps (fun j => j = g3 ∨ j = g4) w10 w14 := (Keeps.of_step HTXi.out).trans hk14
  have hc5 := (HC.out.keep hX10 (by have := HC.out.lt; omega)).cell 5
  have hd5 := (HD.out.keep hX10 (by have := HD.out.lt; omega)).cell 5
  have hbl : bl < w10.heap.size := World.block_lt_of_cell? w10 ⟨bl, _, none⟩ HM.out.1
  have m0 := hX10.cell (by show ¬ (bl = g3 ∨ bl = g4); omega) HM.out.1
  have m1 := hX10.cell (by show ¬ (bl = g3 ∨ bl = g4); omega) HM.out.2.1
  have m2 := hX10.cell (by show ¬ (bl = g3 ∨ bl = g4); omega) HM.out.2.2
  obtain ⟨e0, e1, e2, e3, e4⟩ := cells5 hb14
  change w14.cell? ⟨g, 5, none⟩ = some (.int .i64 20) at hc5
  change w14.cell? ⟨g2, 5, none⟩ = some (.int .i64 20) at hd5
  change w14.cell? ⟨bl, ol, none⟩ = some (.int .i64 2) at m0
  change w14.cell? ⟨bl, ol + 1, none⟩ = some (.int .i64 1) at m1
  change w14.cell? ⟨bl, ol + 2, none⟩ = some (.int .i64 2) at m2
  have hmv : ∀ w, (binOp .eql 53 (.agg #[.int .i64 2, .int .i64 1, .int .i64 2]) (.agg #[.int .i64 2, .int .i64 1, .int .i64 2])).run Try.prog w = .ok (.bool true) w := fun _ => by kernel_rfl
  have hix0 : (0 : Int) ≤ 0 ∧ (0 : Int) < 1 := by omega
  clear hW5 hg hgb hgN hW6 hg' hgb' hgN' hW7 hb3 hb4 hb13 hw13 hne hb4' hb14 hw14 hk14 hX10 hbl hg0 HTi HTBi HTXi HMM HD HC HM HV7 HSL2 HZM10 HZM7 HB HAB
  have HT := HTx
  clear HTx
  go_wp2_with fail
  refine (message_any (fun _ => False) ⟨0, 1, 1, 0, [3, 4]⟩ ⟨0, 1, 1, 0, [3, 4]⟩ _ _ _ (hm14.out.keep (.alloc _ _)) ⟨_, rfl, _, rfl, SL.bx_ints (l := [3, 4]) (Bx.new _ _ _) (fun h => h) 2 (by decide) (by decide)⟩).mono ?_
  rintro e w15 ⟨rfl, hSm⟩
  rw [show messB ⟨0, 1, 1, 0, [3, 4]⟩ ⟨0, 1, 1, 0, [3, 4]⟩ = true from by decide]
  go_wp2
  go_ret
  exact ⟨rfl, (HT.out.trans (Step.alloc _ _)).trans hSm⟩
end Go.Proofs.Ytbgfmikbhiblgaa
