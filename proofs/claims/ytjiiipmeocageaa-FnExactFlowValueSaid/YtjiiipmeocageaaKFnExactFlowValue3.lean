/- For the statement FnExactFlowValue of this seat: it is proved here, with no further conditions (part 4 of its texts: walks of the functions, the plain law, the row). -/
import Derived.Test.YtjiiipmeocageaaRows
import Derived.WalkKit
import Derived.ProofKit
import Derived.OpenShut
import Derived.ShutString
import Derived.ChangeOld
import Derived.Below
import Derived.SizedLaws
import Derived.WideShapes
import Derived.Test.YtjiiipmeocageaaKFnExactFlowValue2
section
namespace Go.Proofs.Ytjiiipmeocageaa.Pr
open Go.RowKit Go.Proofs.YtjiiipmeocageaaW.PrintWords Go.Proofs.YtjiiipmeocageaaW.PrintLast Go.Proofs.YtjiiipmeocageaaW.PrintMore
attribute [local go_sem] max2_int min2_int max_two min_two max_three min_three max_four min_four   -- for this text's walks alone
set_option linter.unusedVariables false
set_option linter.unusedSimpArgs false

/-! ### spec_FlowMost: function 32 -/
mutual
def spec_FlowMost.j0 : Nat → Int → Int → Int → Bool → Int → List (S56) → Option (Int)
  | 0, _, _, _, _, _, _ => none
  | k + 1, x1, x2, x7, x33, x521000, x521001 => if x33 = true then (some (-1)) else (spec_FlowMost.l0 k x1 x2 x7 0 x521000 x521001)
def spec_FlowMost.l0 : Nat → Int → Int → Int → Int → Int → List (S56) → Option (Int)
  | 0, _, _, _, _, _, _ => none
  | k + 1, x1, x2, x7, x8, x521000, x521001 => if 0 ≤ x521000 then (if x8 < (shl .i64 1 x521000) then ((spec_l25Side.f x8 x1).bind fun t524 => (if t524 = true then ((spec_l25Side.f x8 x2).bind fun t525 => (spec_FlowMost.j2 k x1 x2 x7 x8 (!t525) x521000 x521001)) else (spec_FlowMost.j2 k x1 x2 x7 x8 false x521000 x521001))) else (some x7)) else (none)
def spec_FlowMost.j2 : Nat → Int → Int → Int → Int → Bool → Int → List (S56) → Option (Int)
  | 0, _, _, _, _, _, _, _ => none
  | k + 1, x1, x2, x7, x8, x49, x521000, x521001 => if x49 = true then ((spec_l25Cut.f k x521000 x521001 x8).bind fun t526 => (if x7 < 0 then (spec_FlowMost.l0 k x1 x2 t526 (wrap64 (x8 + 1)) x521000 x521001) else (if t526 < x7 then (spec_FlowMost.l0 k x1 x2 t526 (wrap64 (x8 + 1)) x521000 x521001) else (spec_FlowMost.l0 k x1 x2 x7 (wrap64 (x8 + 1)) x521000 x521001)))) else (spec_FlowMost.l0 k x1 x2 x7 (wrap64 (x8 + 1)) x521000 x521001)
end
def spec_FlowMost.f (k : Nat) (a0_0 : Int) (l0_1 : List (S56)) (a1 : Int) (a2 : Int) : Option (Int) := (spec_l1Ok.f k a0_0 l0_1).bind fun t521 => (if t521 = true then ((spec_l1In.f a1 0 (wrap64 (a0_0 - 1))).bind fun t522 => (if t522 = true then ((spec_l1In.f a2 0 (wrap64 (a0_0 - 1))).bind fun t523 => (if t523 = true then (spec_FlowMost.j0 k a1 a2 (-1) (a1 == a2) a0_0 l0_1) else (spec_FlowMost.j0 k a1 a2 (-1) true a0_0 l0_1))) else (spec_FlowMost.j0 k a1 a2 (-1) true a0_0 l0_1))) else (spec_FlowMost.j0 k a1 a2 (-1) true a0_0 l0_1))
theorem spec_FlowMost.mono_l : ∀ k, (∀ y0 y1 y2 y3 y4 y5, LeO (spec_FlowMost.j0 k y0 y1 y2 y3 y4 y5) (spec_FlowMost.j0 (k + 1) y0 y1 y2 y3 y4 y5)) ∧ (∀ y0 y1 y2 y3 y4 y5, LeO (spec_FlowMost.l0 k y0 y1 y2 y3 y4 y5) (spec_FlowMost.l0 (k + 1) y0 y1 y2 y3 y4 y5)) ∧ (∀ y0 y1 y2 y3 y4 y5 y6, LeO (spec_FlowMost.j2 k y0 y1 y2 y3 y4 y5 y6) (spec_FlowMost.j2 (k + 1) y0 y1 y2 y3 y4 y5 y6))
  | 0 => ⟨fun _ _ _ _ _ _ r h => by simp [spec_FlowMost.j0] at h, fun _ _ _ _ _ _ r h => by simp [spec_FlowMost.l0] at h, fun _ _ _ _ _ _ _ r h => by simp [spec_FlowMost.j2] at h⟩
  | k + 1 => by
    obtain ⟨ih0, ih1, ih2⟩ := spec_FlowMost.mono_l k
    refine ⟨?_, ?_, ?_⟩
    · intro y0 y1 y2 y3 y4 y5
      unfold spec_FlowMost.j0
      repeat' first
      | (with_reducible exact ih0 _ _ _ _ _ _)
      | (with_reducible exact ih1 _ _ _ _ _ _)
      | (with_reducible exact ih2 _ _ _ _ _ _ _)
      | (with_reducible exact spec_l1Ok.mono _ _ _)
      | (with_reducible exact spec_l25Cut.mono _ _ _ _)
      | (with_reducible exact LeO.refl _)
      | (with_reducible exact LeO.none _)
      | (with_reducible refine LeO.ite ?_ ?_)
      | (with_reducible refine LeO.bind ?_ (fun _ => ?_))
      | exact ih0 _ _ _ _ _ _
      | exact ih1 _ _ _ _ _ _
      | exact ih2 _ _ _ _ _ _ _
      | exact spec_l1Ok.mono _ _ _
      | exact spec_l25Cut.mono _ _ _ _
      | exact LeO.none _
      | refine LeO.ite ?_ ?_
      | refine LeO.bind ?_ (fun _ => ?_)
    · intro y0 y1 y2 y3 y4 y5
      unfold spec_FlowMost.l0
      repeat' first
      | (with_reducible exact ih0 _ _ _ _ _ _)
      | (with_reducible exact ih1 _ _ _ _ _ _)
      | (with_reducible exact ih2 _ _ _ _ _ _ _)
      | (with_reducible exact spec_l1Ok.mono _ _ _)
      | (with_reducible exact spec_l25Cut.mono _ _ _ _)
      | (with_reducible exact LeO.refl _)
      | (with_reducible exact LeO.none _)
      | (with_reducible refine LeO.ite ?_ ?_)
      | (with_reducible refine LeO.bind ?_ (fun _ => ?_))
      | exact ih0 _ _ _ _ _ _
      | exact ih1 _ _ _ _ _ _
      | exact ih2 _ _ _ _ _ _ _
      | exact spec_l1Ok.mono _ _ _
      | exact spec_l25Cut.mono _ _ _ _
      | exact LeO.none _
      | refine LeO.ite ?_ ?_
      | refine LeO.bind ?_ (fun _ => ?_)
    · intro y0 y1 y2 y3 y4 y5 y6
      unfold spec_FlowMost.j2
      repeat' first
      | (with_reducible exact ih0 _ _ _ _ _ _)
      | (with_reducible exact ih1 _ _ _ _ _ _)
      | (with_reducible exact ih2 _ _ _ _ _ _ _)
      | (with_reducible exact spec_l1Ok.mono _ _ _)
      | (with_reducible exact spec_l25Cut.mono _ _ _ _)
      | (with_reducible exact LeO.refl _)
      | (with_reducible exact LeO.none _)
      | (with_reducible refine LeO.ite ?_ ?_)
      | (with_reducible refine LeO.bind ?_ (fun _ => ?_))
      | exact ih0 _ _ _ _ _ _
      | exact ih1 _ _ _ _ _ _
      | exact ih2 _ _ _ _ _ _ _
      | exact spec_l1Ok.mono _ _ _
      | exact spec_l25Cut.mono _ _ _ _
      | exact LeO.none _
      | refine LeO.ite ?_ ?_
      | refine LeO.bind ?_ (fun _ => ?_)
theorem spec_FlowMost.mono : ∀ a0 a1 a2 a3 k, LeO (spec_FlowMost.f k a0 a1 a2 a3) (spec_FlowMost.f (k + 1) a0 a1 a2 a3) := by
  intro a0 a1 a2 a3 k
  obtain ⟨ih0, ih1, ih2⟩ := spec_FlowMost.mono_l k
  unfold spec_FlowMost.f
  repeat' first
      | (with_reducible exact ih0 _ _ _ _ _ _)
      | (with_reducible exact ih1 _ _ _ _ _ _)
      | (with_reducible exact ih2 _ _ _ _ _ _ _)
      | (with_reducible exact spec_l1Ok.mono _ _ _)
      | (with_reducible exact spec_l25Cut.mono _ _ _ _)
      | (with_reducible exact LeO.refl _)
      | (with_reducible exact LeO.none _)
      | (with_reducible refine LeO.ite ?_ ?_)
      | (with_reducible refine LeO.bind ?_ (fun _ => ?_))
      | exact ih0 _ _ _ _ _ _
      | exact ih1 _ _ _ _ _ _
      | exact ih2 _ _ _ _ _ _ _
      | exact spec_l1Ok.mono _ _ _
      | exact spec_l25Cut.mono _ _ _ _
      | exact LeO.none _
      | refine LeO.ite ?_ ?_
      | refine LeO.bind ?_ (fun _ => ?_)
set_option maxHeartbeats 8000000 in
set_option maxRecDepth 100000 in
theorem spec_FlowMost.calls (k : Nat) (a0_0 : Int) (A0_1 : Option Addr) (c0_1 : Nat) (l0_1 : List (S56)) (a1 : Int) (a2 : Int) (r : Int) (w : World) (hr0_1 : Kd.C k56 w A0_1 l0_1.length l0_1) (hc0_1 : l0_1.length ≤ c0_1) (h : spec_FlowMost.f k a0_0 l0_1 a1 a2 = some r) :
    Calls Try.prog 32 #[.agg #[.int .i64 a0_0, .slice A0_1 l0_1.length c0_1], .int .i64 a1, .int .i64 a2] w fun e w' => e = .returned (.int .i64 r) ∧ Below w.heap.size w w' := by
  have hu51 := Try.underlying51
  have HR0_1 := Aside0.mk hr0_1
  have HC0_1 := Aside0.mk hc0_1
  clear hr0_1 hc0_1
  have HB := Aside0.mk (Below.refl w.heap.size w)
  have H : ((spec_l1Ok.f k a0_0 l0_1).bind fun t521 => (if t521 = true then ((spec_l1In.f a1 0 (wrap64 (a0_0 - 1))).bind fun t522 => (if t522 = true then ((spec_l1In.f a2 0 (wrap64 (a0_0 - 1))).bind fun t523 => (if t523 = true then (spec_FlowMost.j0 k a1 a2 (-1) (a1 == a2) a0_0 l0_1) else (spec_FlowMost.j0 k a1 a2 (-1) true a0_0 l0_1))) else (spec_FlowMost.j0 k a1 a2 (-1) true a0_0 l0_1))) else (spec_FlowMost.j0 k a1 a2 (-1) true a0_0 l0_1))) = some r := h
  clear h
  have HC4 := Aside0.mk H
  clear H
  go_enter Try.func32, Try.ntmps32
  go_upto_region 2 with (first | ((with_reducible refine gate_dst (N := 3) rfl ?_); refine box_event ?hg (N := 3) ?hd (cs := #[.int .i64 a0_0, .slice A0_1 l0_1.length c0_1]) (t := 51) ?hr ?_; (case hd => rfl); (case hg => rfl); (case hr => first | (go_simp; done) | (go_simp; rfl)); intro gb520 hg w5 hbox hb; have n0_ := Aside0.mk (below_step (by repeat (first | (with_reducible first | exact HB.out | apply below_alloc | apply pw_below_drewN | apply below_drew1) | exact HB.out)) hb); have n1_ := Aside0.mk (hbox); have n2_ := Aside0.mk ((by rw [hg]; exact (below_size (by repeat (first | (with_reducible first | exact HB.out | apply below_alloc | apply pw_below_drewN | apply below_drew1) | exact HB.out))) : w.heap.size ≤ gb520)); have n3_ := Aside0.mk ((by rw [hg]; exact (below_size (by repeat (first | (with_reducible first | exact HB.out | apply below_alloc | apply pw_below_drewN | apply below_drew1) | exact HB.out))) : w.heap.size ≤ gb520)); clear HB; have HB := n0_; have BK520 := n1_; have GW520 := n2_; have GE520 := n3_; clear n0_ n1_ n2_ n3_; clear hb hbox hg))
  (try simp only [Act.put, List.setIfInBounds_toArray, List.set_cons_zero, List.set_cons_succ])
  go_cut [33] (fun v33 wc => ∃ (kq : Nat) (x33_3 : Bool), v33 = .bool x33_3 ∧ Aside0 (spec_FlowMost.j0 kq a1 a2 (-1) x33_3 a0_0 l0_1 = some r) ∧ Aside0 (kq ≤ k) ∧ Aside0 (wc.heap[gb520]? = some (.cells #[.int .i64 a0_0, (.slice A0_1 l0_1.length c0_1)] 51 (0, 0))) ∧ Aside0 (Below w.heap.size w wc))
  case first =>
    have H := HC4.out
    clear HC4
    replace H := Option.bind_eq_some_iff.mp H
    obtain ⟨t521, A60, H⟩ := H
    replace H : (if t521 = true then ((spec_l1In.f a1 0 (wrap64 (a0_0 - 1))).bind fun t522 => (if t522 = true then ((spec_l1In.f a2 0 (wrap64 (a0_0 - 1))).bind fun t523 => (if t523 = true then (spec_FlowMost.j0 k a1 a2 (-1) (a1 == a2) a0_0 l0_1) else (spec_FlowMost.j0 k a1 a2 (-1) true a0_0 l0_1))) else (spec_FlowMost.j0 k a1 a2 (-1) true a0_0 l0_1))) else (spec_FlowMost.j0 k a1 a2 (-1) true a0_0 l0_1)) = some r := H
    have A6 := Aside0.mk A60
    clear A60
    by_cases c7 : t521 = true
    · subst c7
      have H1 : ((spec_l1In.f a1 0 (wrap64 (a0_0 - 1))).bind fun t522 => (if t522 = true then ((spec_l1In.f a2 0 (wrap64 (a0_0 - 1))).bind fun t523 => (if t523 = true then (spec_FlowMost.j0 k a1 a2 (-1) (a1 == a2) a0_0 l0_1) else (spec_FlowMost.j0 k a1 a2 (-1) true a0_0 l0_1))) else (spec_FlowMost.j0 k a1 a2 (-1) true a0_0 l0_1))) = some r := by rw [if_pos rfl] at H; exact H
      clear H
      have H := H1
      clear H1
      replace H := Option.bind_eq_some_iff.mp H
      obtain ⟨t522, A80, H⟩ := H
      replace H : (if t522 = true then ((spec_l1In.f a2 0 (wrap64 (a0_0 - 1))).bind fun t523 => (if t523 = true then (spec_FlowMost.j0 k a1 a2 (-1) (a1 == a2) a0_0 l0_1) else (spec_FlowMost.j0 k a1 a2 (-1) true a0_0 l0_1))) else (spec_FlowMost.j0 k a1 a2 (-1) true a0_0 l0_1)) = some r := H
      have A8 := Aside0.mk A80
      clear A80
      by_cases c9 : t522 = true
      · subst c9
        have H1 : ((spec_l1In.f a2 0 (wrap64 (a0_0 - 1))).bind fun t523 => (if t523 = true then (spec_FlowMost.j0 k a1 a2 (-1) (a1 == a2) a0_0 l0_1) else (spec_FlowMost.j0 k a1 a2 (-1) true a0_0 l0_1))) = some r := by rw [if_pos rfl] at H; exact H
        clear H
        have H := H1
        clear H1
        replace H := Option.bind_eq_some_iff.mp H
        obtain ⟨t523, A100, H⟩ := H
        replace H : (if t523 = true then (spec_FlowMost.j0 k a1 a2 (-1) (a1 == a2) a0_0 l0_1) else (spec_FlowMost.j0 k a1 a2 (-1) true a0_0 l0_1)) = some r := H
        have A10 := Aside0.mk A100
        clear A100
        by_cases c11 : t523 = true
        · subst c11
          have H1 : (spec_FlowMost.j0 k a1 a2 (-1) (a1 == a2) a0_0 l0_1) = some r := by rw [if_pos rfl] at H; exact H
          clear H
          have H := H1
          clear H1
          have H' := Aside0.mk H
          clear H
          have hcz12_0 : w5.cell? ⟨gb520, 0, none⟩ = some (.int .i64 a0_0) := (blk_cell BK520.out 0).trans rfl
          have hcz12_1 : w5.cell? ⟨gb520, 1, none⟩ = some (.slice A0_1 l0_1.length c0_1) := (blk_cell BK520.out 1).trans rfl
          have hfz12_0 := blk_frozen BK520.out 0
          have hfz12_1 := blk_frozen BK520.out 1
          go_wp2_with (first | ((with_reducible refine gate_callee (f := 65) rfl ?_); refine goesL_ (some 11) rfl rfl Try.func65 (by kernel_rfl) rfl #[.agg #[.int .i64 a0_0, .slice A0_1 l0_1.length c0_1]] rfl (by (try simp only [List.map_toArray, List.map_cons, List.map_nil]); first | done | rfl | (simp only [List.length_drop, List.length_take]; rfl)) ?_; (with_reducible refine (spec_l1Ok.calls k a0_0 _ _ l0_1 true _ ?side1 ?side2 A6.out).mono ?_); (case side1 => repeat (first | exact (Kd.C_below HR0_1.out HB.out) | (with_reducible refine Kd.C_alloc ?_ _) | (with_reducible refine Kd.C_drewN ?_ _) | (with_reducible refine Kd.C_drew ?_))); (case side2 => exact HC0_1.out); rintro e w13 ⟨rfl, hb⟩; refine ⟨_, rfl, ?_⟩; have n0_ := Aside0.mk (blk_below (g := gb520) (o := .cells #[.int .i64 a0_0, .slice A0_1 l0_1.length c0_1] 51 (0, 0)) (by (with_reducible repeat (first | refine blk_drewN ?_ _ | refine blk_drew ?_ | refine blk_alloc ?_ _)); exact BK520.out) hb); have n1_ := Aside0.mk (below_step (by repeat (first | (with_reducible first | exact HB.out | apply below_alloc | apply pw_below_drewN | apply below_drew1 | refine below_set ?_ GE520.out) | exact HB.out)) hb); clear BK520; clear HB; have BK520 := n0_; have HB := n1_; clear n0_ n1_; (try clear hb); (try clear hb2); (try clear hk); (try clear hi); have hcz14_0 : w13.cell? ⟨gb520, 0, none⟩ = some (.int .i64 a0_0) := (blk_cell BK520.out 0).trans rfl; have hcz14_1 : w13.cell? ⟨gb520, 1, none⟩ = some (.slice A0_1 l0_1.length c0_1) := (blk_cell BK520.out 1).trans rfl; have hfz14_0 := blk_frozen BK520.out 0; have hfz14_1 := blk_frozen BK520.out 1) | (go_at_call 64; (with_reducible refine (spec_l1In.calls a1 0 (wrap64 (a0_0 - 1)) true _ A8.out).mono ?_); rintro e w' ⟨rfl, ⟨nd, rfl⟩⟩) | (go_at_call 64; (with_reducible refine (spec_l1In.calls a2 0 (wrap64 (a0_0 - 1)) true _ A10.out).mono ?_); rintro e w' ⟨rfl, ⟨nd, rfl⟩⟩))
          go_meet
          case rel => exact ⟨_, ((a1 == a2)), (by first | rfl | (simp; done) | (simp [*]; done)), H', ⟨by first | omega | exact Nat.le_refl _⟩, ⟨by (with_reducible repeat (first | refine blk_drewN ?_ _ | refine blk_drew ?_ | refine blk_alloc ?_ _)); exact BK520.out⟩, ⟨by repeat (first | (with_reducible first | exact HB.out | apply below_alloc | apply pw_below_drewN | apply below_drew1 | refine below_set ?_ GE520.out) | exact HB.out)⟩⟩
        · replace c11 := Bool.eq_false_iff.mpr c11
          subst c11
          have H1 : (spec_FlowMost.j0 k a1 a2 (-1) true a0_0 l0_1) = some r := by rw [if_neg (show ¬ (false = true) by decide)] at H; exact H
          clear H
          have H := H1
          clear H1
          have H' := Aside0.mk H
          clear H
          have hcz15_0 : w5.cell? ⟨gb520, 0, none⟩ = some (.int .i64 a0_0) := (blk_cell BK520.out 0).trans rfl
          have hcz15_1 : w5.cell? ⟨gb520, 1, none⟩ = some (.slice A0_1 l0_1.length c0_1) := (blk_cell BK520.out 1).trans rfl
          have hfz15_0 := blk_frozen BK520.out 0
          have hfz15_1 := blk_frozen BK520.out 1
          go_wp2_with (first | ((with_reducible refine gate_callee (f := 65) rfl ?_); refine goesL_ (some 11) rfl rfl Try.func65 (by kernel_rfl) rfl #[.agg #[.int .i64 a0_0, .slice A0_1 l0_1.length c0_1]] rfl (by (try simp only [List.map_toArray, List.map_cons, List.map_nil]); first | done | rfl | (simp only [List.length_drop, List.length_take]; rfl)) ?_; (with_reducible refine (spec_l1Ok.calls k a0_0 _ _ l0_1 true _ ?side1 ?side2 A6.out).mono ?_); (case side1 => repeat (first | exact (Kd.C_below HR0_1.out HB.out) | (with_reducible refine Kd.C_alloc ?_ _) | (with_reducible refine Kd.C_drewN ?_ _) | (with_reducible refine Kd.C_drew ?_))); (case side2 => exact HC0_1.out); rintro e w16 ⟨rfl, hb⟩; refine ⟨_, rfl, ?_⟩; have n0_ := Aside0.mk (blk_below (g := gb520) (o := .cells #[.int .i64 a0_0, .slice A0_1 l0_1.length c0_1] 51 (0, 0)) (by (with_reducible repeat (first | refine blk_drewN ?_ _ | refine blk_drew ?_ | refine blk_alloc ?_ _)); exact BK520.out) hb); have n1_ := Aside0.mk (below_step (by repeat (first | (with_reducible first | exact HB.out | apply below_alloc | apply pw_below_drewN | apply below_drew1 | refine below_set ?_ GE520.out) | exact HB.out)) hb); clear BK520; clear HB; have BK520 := n0_; have HB := n1_; clear n0_ n1_; (try clear hb); (try clear hb2); (try clear hk); (try clear hi); have hcz17_0 : w16.cell? ⟨gb520, 0, none⟩ = some (.int .i64 a0_0) := (blk_cell BK520.out 0).trans rfl; have hcz17_1 : w16.cell? ⟨gb520, 1, none⟩ = some (.slice A0_1 l0_1.length c0_1) := (blk_cell BK520.out 1).trans rfl; have hfz17_0 := blk_frozen BK520.out 0; have hfz17_1 := blk_frozen BK520.out 1) | (go_at_call 64; (with_reducible refine (spec_l1In.calls a1 0 (wrap64 (a0_0 - 1)) true _ A8.out).mono ?_); rintro e w' ⟨rfl, ⟨nd, rfl⟩⟩) | (go_at_call 64; (with_reducible refine (spec_l1In.calls a2 0 (wrap64 (a0_0 - 1)) false _ A10.out).mono ?_); rintro e w' ⟨rfl, ⟨nd, rfl⟩⟩))
          go_meet
          case rel => exact ⟨_, (true), (by first | rfl | (simp; done) | (simp [*]; done)), H', ⟨by first | omega | exact Nat.le_refl _⟩, ⟨by (with_reducible repeat (first | refine blk_drewN ?_ _ | refine blk_drew ?_ | refine blk_alloc ?_ _)); exact BK520.out⟩, ⟨by repeat (first | (with_reducible first | exact HB.out | apply below_alloc | apply pw_below_drewN | apply below_drew1 | refine below_set ?_ GE520.out) | exact HB.out)⟩⟩
      · replace c9 := Bool.eq_false_iff.mpr c9
        subst c9
        have H1 : (spec_FlowMost.j0 k a1 a2 (-1) true a0_0 l0_1) = some r := by rw [if_neg (show ¬ (false = true) by decide)] at H; exact H
        clear H
        have H := H1
        clear H1
        have H' := Aside0.mk H
        clear H
        have hcz18_0 : w5.cell? ⟨gb520, 0, none⟩ = some (.int .i64 a0_0) := (blk_cell BK520.out 0).trans rfl
        have hcz18_1 : w5.cell? ⟨gb520, 1, none⟩ = some (.slice A0_1 l0_1.length c0_1) := (blk_cell BK520.out 1).trans rfl
        have hfz18_0 := blk_frozen BK520.out 0
        have hfz18_1 := blk_frozen BK520.out 1
        go_wp2_with (first | ((with_reducible refine gate_callee (f := 65) rfl ?_); refine goesL_ (some 11) rfl rfl Try.func65 (by kernel_rfl) rfl #[.agg #[.int .i64 a0_0, .slice A0_1 l0_1.length c0_1]] rfl (by (try simp only [List.map_toArray, List.map_cons, List.map_nil]); first | done | rfl | (simp only [List.length_drop, List.length_take]; rfl)) ?_; (with_reducible refine (spec_l1Ok.calls k a0_0 _ _ l0_1 true _ ?side1 ?side2 A6.out).mono ?_); (case side1 => repeat (first | exact (Kd.C_below HR0_1.out HB.out) | (with_reducible refine Kd.C_alloc ?_ _) | (with_reducible refine Kd.C_drewN ?_ _) | (with_reducible refine Kd.C_drew ?_))); (case side2 => exact HC0_1.out); rintro e w19 ⟨rfl, hb⟩; refine ⟨_, rfl, ?_⟩; have n0_ := Aside0.mk (blk_below (g := gb520) (o := .cells #[.int .i64 a0_0, .slice A0_1 l0_1.length c0_1] 51 (0, 0)) (by (with_reducible repeat (first | refine blk_drewN ?_ _ | refine blk_drew ?_ | refine blk_alloc ?_ _)); exact BK520.out) hb); have n1_ := Aside0.mk (below_step (by repeat (first | (with_reducible first | exact HB.out | apply below_alloc | apply pw_below_drewN | apply below_drew1 | refine below_set ?_ GE520.out) | exact HB.out)) hb); clear BK520; clear HB; have BK520 := n0_; have HB := n1_; clear n0_ n1_; (try clear hb); (try clear hb2); (try clear hk); (try clear hi); have hcz20_0 : w19.cell? ⟨gb520, 0, none⟩ = some (.int .i64 a0_0) := (blk_cell BK520.out 0).trans rfl; have hcz20_1 : w19.cell? ⟨gb520, 1, none⟩ = some (.slice A0_1 l0_1.length c0_1) := (blk_cell BK520.out 1).trans rfl; have hfz20_0 := blk_frozen BK520.out 0; have hfz20_1 := blk_frozen BK520.out 1) | (go_at_call 64; (with_reducible refine (spec_l1In.calls a1 0 (wrap64 (a0_0 - 1)) false _ A8.out).mono ?_); rintro e w' ⟨rfl, ⟨nd, rfl⟩⟩))
        go_meet
        case rel => exact ⟨_, (true), (by first | rfl | (simp; done) | (simp [*]; done)), H', ⟨by first | omega | exact Nat.le_refl _⟩, ⟨by (with_reducible repeat (first | refine blk_drewN ?_ _ | refine blk_drew ?_ | refine blk_alloc ?_ _)); exact BK520.out⟩, ⟨by repeat (first | (with_reducible first | exact HB.out | apply below_alloc | apply pw_below_drewN | apply below_drew1 | refine below_set ?_ GE520.out) | exact HB.out)⟩⟩
    · replace c7 := Bool.eq_false_iff.mpr c7
      subst c7
      have H1 : (spec_FlowMost.j0 k a1 a2 (-1) true a0_0 l0_1) = some r := by rw [if_neg (show ¬ (false = true) by decide)] at H; exact H
      clear H
      have H := H1
      clear H1
      have H' := Aside0.mk H
      clear H
      have hcz21_0 : w5.cell? ⟨gb520, 0, none⟩ = some (.int .i64 a0_0) := (blk_cell BK520.out 0).trans rfl
      have hcz21_1 : w5.cell? ⟨gb520, 1, none⟩ = some (.slice A0_1 l0_1.length c0_1) := (blk_cell BK520.out 1).trans rfl
      have hfz21_0 := blk_frozen BK520.out 0
      have hfz21_1 := blk_frozen BK520.out 1
      go_wp2_with (first | ((with_reducible refine gate_callee (f := 65) rfl ?_); refine goesL_ (some 11) rfl rfl Try.func65 (by kernel_rfl) rfl #[.agg #[.int .i64 a0_0, .slice A0_1 l0_1.length c0_1]] rfl (by (try simp only [List.map_toArray, List.map_cons, List.map_nil]); first | done | rfl | (simp only [List.length_drop, List.length_take]; rfl)) ?_; (with_reducible refine (spec_l1Ok.calls k a0_0 _ _ l0_1 false _ ?side1 ?side2 A6.out).mono ?_); (case side1 => repeat (first | exact (Kd.C_below HR0_1.out HB.out) | (with_reducible refine Kd.C_alloc ?_ _) | (with_reducible refine Kd.C_drewN ?_ _) | (with_reducible refine Kd.C_drew ?_))); (case side2 => exact HC0_1.out); rintro e w22 ⟨rfl, hb⟩; refine ⟨_, rfl, ?_⟩; have n0_ := Aside0.mk (blk_below (g := gb520) (o := .cells #[.int .i64 a0_0, .slice A0_1 l0_1.length c0_1] 51 (0, 0)) (by (with_reducible repeat (first | refine blk_drewN ?_ _ | refine blk_drew ?_ | refine blk_alloc ?_ _)); exact BK520.out) hb); have n1_ := Aside0.mk (below_step (by repeat (first | (with_reducible first | exact HB.out | apply below_alloc | apply pw_below_drewN | apply below_drew1 | refine below_set ?_ GE520.out) | exact HB.out)) hb); clear BK520; clear HB; have BK520 := n0_; have HB := n1_; clear n0_ n1_; (try clear hb); (try clear hb2); (try clear hk); (try clear hi)))
      go_meet
      case rel => exact ⟨_, (true), (by first | rfl | (simp; done) | (simp [*]; done)), H', ⟨by first | omega | exact Nat.le_refl _⟩, ⟨by (with_reducible repeat (first | refine blk_drewN ?_ _ | refine blk_drew ?_ | refine blk_alloc ?_ _)); exact BK520.out⟩, ⟨by repeat (first | (with_reducible first | exact HB.out | apply below_alloc | apply pw_below_drewN | apply below_drew1 | refine below_set ?_ GE520.out) | exact HB.out)⟩⟩
  case rest =>
    clear HC4
    try clear c1
    try clear p2
    try clear c3
    try clear c6
    try clear p6
    try clear c7
    try clear c9
    try clear c11
    try clear hcz12_0
    try clear hcz12_1
    try clear hcz14_0
    try clear hcz14_1
    try clear hcz15_0
    try clear hcz15_1
    try clear hcz17_0
    try clear hcz17_1
    try clear hcz18_0
    try clear hcz18_1
    try clear hcz20_0
    try clear hcz20_1
    try clear hcz21_0
    try clear hcz21_1
    try clear hfz12_0
    try clear hfz12_1
    try clear hfz14_0
    try clear hfz14_1
    try clear hfz15_0
    try clear hfz15_1
    try clear hfz17_0
    try clear hfz17_1
    try clear hfz18_0
    try clear hfz18_1
    try clear hfz20_0
    try clear hfz20_1
    try clear hfz21_0
    try clear hfz21_1
    obtain ⟨kq, x33_3, rfl, HA, HJ3, BK520, HB⟩ := hcut
    cases kq with
    | zero => exact absurd HA.out (by simp [spec_FlowMost.j0])
    | succ kj3 =>
      have H := HA.out
      clear HA
      simp only [spec_FlowMost.j0] at H
      by_cases c23 : x33_3 = true
      · subst c23
        have H1 : (some (-1)) = some r := by rw [if_pos rfl] at H; exact H
        clear H
        have H := H1
        clear H1
        obtain rfl := Option.some.inj H
        go_wp2
        go_ret
        exact ⟨by first | rfl | (simp [errW_none, errW_some] <;> rfl) | (simp [*, errW_none, errW_some] <;> rfl), by repeat (first | (with_reducible first | exact HB.out | apply below_alloc | apply pw_below_drewN | apply below_drew1 | refine below_set ?_ GE520.out) | exact HB.out)⟩
      · replace c23 := Bool.eq_false_iff.mpr c23
        subst c23
        have H1 : (spec_FlowMost.l0 kj3 a1 a2 (-1) 0 a0_0 l0_1) = some r := by rw [if_neg (show ¬ (false = true) by decide)] at H; exact H
        clear H
        have H := H1
        clear H1
        have H' := Aside0.mk H
        clear H
        go_wp2
        go_loopg [7, 8] kj3 (fun kq v7 v8 w' => ∃ (x7_2 : Int) (x8_2 : Int), v7 = .int .i64 x7_2 ∧ v8 = .int .i64 x8_2 ∧ Aside0 (spec_FlowMost.l0 kq a1 a2 x7_2 x8_2 a0_0 l0_1 = some r) ∧ Aside0 (kq ≤ kj3) ∧ Aside0 (w'.heap[gb520]? = some (.cells #[.int .i64 a0_0, (.slice A0_1 l0_1.length c0_1)] 51 (0, 0))) ∧ Aside0 (Below w.heap.size w w'))
        case atStart => exact ⟨((-1)), (0), (by first | rfl | (simp; done) | (simp [*]; done)), (by first | rfl | (simp; done) | (simp [*]; done)), H', ⟨Nat.le_refl _⟩, ⟨by (with_reducible repeat (first | refine blk_drewN ?_ _ | refine blk_drew ?_ | refine blk_alloc ?_ _)); exact BK520.out⟩, ⟨by repeat (first | (with_reducible first | exact HB.out | apply below_alloc | apply pw_below_drewN | apply below_drew1 | refine below_set ?_ GE520.out) | exact HB.out)⟩⟩
        case round =>
          clear H'
          try clear c1
          try clear c2
          try clear p2
          try clear c3
          try clear c6
          try clear p6
          try clear c7
          try clear c9
          try clear c11
          try clear c23
          try clear hcz12_0
          try clear hcz12_1
          try clear hcz14_0
          try clear hcz14_1
          try clear hcz15_0
          try clear hcz15_1
          try clear hcz17_0
          try clear hcz17_1
          try clear hcz18_0
          try clear hcz18_1
          try clear hcz20_0
          try clear hcz20_1
          try clear hcz21_0
          try clear hcz21_1
          try clear hfz12_0
          try clear hfz12_1
          try clear hfz14_0
          try clear hfz14_1
          try clear hfz15_0
          try clear hfz15_1
          try clear hfz17_0
          try clear hfz17_1
          try clear hfz18_0
          try clear hfz18_1
          try clear hfz20_0
          try clear hfz20_1
          try clear hfz21_0
          try clear hfz21_1
          try clear p2
          try clear p6
          obtain ⟨x7_2, x8_2, rfl, rfl, HA, HK2, BK520, HB⟩ := hrel
          cases gk with
          | zero => exact absurd HA.out (by simp [spec_FlowMost.l0])
          | succ k2 =>
            have H := HA.out
            clear HA
            simp only [spec_FlowMost.l0] at H
            by_cases c24 : 0 ≤ a0_0
            · rw [if_pos c24] at H
              have c24b0 := eq_true c24
              have c24b1 : decide (0 ≤ a0_0) = true := decide_eq_true c24
              clear c24
              obtain ⟨ji25, hji25⟩ : ∃ j_ : Int, (shl .i64 1 a0_0) = j_ := ⟨_, rfl⟩
              replace H : (if x8_2 < (ji25) then ((spec_l25Side.f x8_2 a1).bind fun t524 => (if t524 = true then ((spec_l25Side.f x8_2 a2).bind fun t525 => (spec_FlowMost.j2 k2 a1 a2 x7_2 x8_2 (!t525) a0_0 l0_1)) else (spec_FlowMost.j2 k2 a1 a2 x7_2 x8_2 false a0_0 l0_1))) else (some x7_2)) = some r := by first | (rw [hji25] at H; exact H) | (simp only [hji25] at H ⊢; exact H)
              have hji25_ : (IntKind.i64.wrap (1 * 2 ^ min a0_0.toNat 64)) = ji25 := hji25
              have hji25z : a0_0 ≤ 64 → (IntKind.i64.wrap (1 * 2 ^ a0_0.toNat)) = ji25 := shl_small hji25
              have hji25u : (IntKind.i64.wrap (2 ^ min a0_0.toNat 64)) = ji25 := by have h_ := hji25_; rw [Int.one_mul] at h_; exact h_
              have hji25v : a0_0 ≤ 64 → (IntKind.i64.wrap (2 ^ a0_0.toNat)) = ji25 := fun hle_ => by have h_ := hji25z hle_; rw [Int.one_mul] at h_; exact h_
              have hji25y : (wrap64 (1 * 2 ^ min a0_0.toNat 64)) = ji25 := (i64_w _).symm.trans hji25_
              have hji25x : a0_0 ≤ 64 → (wrap64 (1 * 2 ^ a0_0.toNat)) = ji25 := fun h_ => (i64_w _).symm.trans (hji25z h_)
              by_cases c26 : x8_2 < (ji25)
              · rw [if_pos c26] at H
                have c26b0 : decide (x8_2 < (ji25)) = true := decide_eq_true c26
                clear c26
                have HC27 := Aside0.mk H
                clear H
                have hcz28_0 : wr.cell? ⟨gb520, 0, none⟩ = some (.int .i64 a0_0) := (blk_cell BK520.out 0).trans rfl
                have hcz28_1 : wr.cell? ⟨gb520, 1, none⟩ = some (.slice A0_1 l0_1.length c0_1) := (blk_cell BK520.out 1).trans rfl
                have hfz28_0 := blk_frozen BK520.out 0
                have hfz28_1 := blk_frozen BK520.out 1
                go_upto_region 7 with (fail)
                go_cut [49] (fun v49 wc => ∃ (kq : Nat) (x49_26 : Bool), v49 = .bool x49_26 ∧ Aside0 (spec_FlowMost.j2 kq a1 a2 x7_2 x8_2 x49_26 a0_0 l0_1 = some r) ∧ Aside0 (kq ≤ k2) ∧ Aside0 (wc.heap[gb520]? = some (.cells #[.int .i64 a0_0, (.slice A0_1 l0_1.length c0_1)] 51 (0, 0))) ∧ Aside0 (Below w.heap.size w wc))
                case first =>
                  have H := HC27.out
                  clear HC27
                  replace H := Option.bind_eq_some_iff.mp H
                  obtain ⟨t524, A290, H⟩ := H
                  replace H : (if t524 = true then ((spec_l25Side.f x8_2 a2).bind fun t525 => (spec_FlowMost.j2 k2 a1 a2 x7_2 x8_2 (!t525) a0_0 l0_1)) else (spec_FlowMost.j2 k2 a1 a2 x7_2 x8_2 false a0_0 l0_1)) = some r := H
                  have A29 := Aside0.mk A290
                  clear A290
                  by_cases c30 : t524 = true
                  · subst c30
                    have H1 : ((spec_l25Side.f x8_2 a2).bind fun t525 => (spec_FlowMost.j2 k2 a1 a2 x7_2 x8_2 (!t525) a0_0 l0_1)) = some r := by rw [if_pos rfl] at H; exact H
                    clear H
                    have H := H1
                    clear H1
                    replace H := Option.bind_eq_some_iff.mp H
                    obtain ⟨t525, A310, H⟩ := H
                    replace H : (spec_FlowMost.j2 k2 a1 a2 x7_2 x8_2 (!t525) a0_0 l0_1) = some r := H
                    have A31 := Aside0.mk A310
                    clear A310
                    have H' := Aside0.mk H
                    clear H
                    go_wp2_with (first | ((with_reducible refine gate_callee (f := 68) rfl ?_); refine goesL_ (some 43) rfl rfl Try.func68 (by kernel_rfl) rfl #[.int .i64 x8_2, .int .i64 a1] rfl (by (try simp only [List.map_toArray, List.map_cons, List.map_nil]); first | done | rfl | (simp only [List.length_drop, List.length_take]; rfl)) ?_; (with_reducible refine (spec_l25Side.calls x8_2 a1 true _ A29.out).mono ?_); rintro e w' ⟨rfl, ⟨nd, rfl⟩⟩; refine ⟨_, rfl, ?_⟩) | (go_at_call 68; (with_reducible refine (spec_l25Side.calls x8_2 a2 t525 _ A31.out).mono ?_); rintro e w' ⟨rfl, ⟨nd, rfl⟩⟩))
                    go_meet
                    case rel => exact ⟨_, (!t525), (by first | rfl | (simp; done) | (simp [*]; done)), H', ⟨by have := HJ3.out; have := HK2.out; first | omega | exact Nat.le_refl _⟩, ⟨by (with_reducible repeat (first | refine blk_drewN ?_ _ | refine blk_drew ?_ | refine blk_alloc ?_ _)); exact BK520.out⟩, ⟨by repeat (first | (with_reducible first | exact HB.out | apply below_alloc | apply pw_below_drewN | apply below_drew1 | refine below_set ?_ GE520.out) | exact HB.out)⟩⟩
                  · replace c30 := Bool.eq_false_iff.mpr c30
                    subst c30
                    have H1 : (spec_FlowMost.j2 k2 a1 a2 x7_2 x8_2 false a0_0 l0_1) = some r := by rw [if_neg (show ¬ (false = true) by decide)] at H; exact H
                    clear H
                    have H := H1
                    clear H1
                    have H' := Aside0.mk H
                    clear H
                    go_wp2_with (first | ((with_reducible refine gate_callee (f := 68) rfl ?_); refine goesL_ (some 43) rfl rfl Try.func68 (by kernel_rfl) rfl #[.int .i64 x8_2, .int .i64 a1] rfl (by (try simp only [List.map_toArray, List.map_cons, List.map_nil]); first | done | rfl | (simp only [List.length_drop, List.length_take]; rfl)) ?_; (with_reducible refine (spec_l25Side.calls x8_2 a1 false _ A29.out).mono ?_); rintro e w' ⟨rfl, ⟨nd, rfl⟩⟩; refine ⟨_, rfl, ?_⟩))
                    go_meet
                    case rel => exact ⟨_, (false), (by first | rfl | (simp; done) | (simp [*]; done)), H', ⟨by have := HJ3.out; have := HK2.out; first | omega | exact Nat.le_refl _⟩, ⟨by (with_reducible repeat (first | refine blk_drewN ?_ _ | refine blk_drew ?_ | refine blk_alloc ?_ _)); exact BK520.out⟩, ⟨by repeat (first | (with_reducible first | exact HB.out | apply below_alloc | apply pw_below_drewN | apply below_drew1 | refine below_set ?_ GE520.out) | exact HB.out)⟩⟩
                case rest =>
                  clear HC27
                  try clear c1
                  try clear c2
                  try clear p2
                  try clear c3
                  try clear c6
                  try clear p6
                  try clear c7
                  try clear c9
                  try clear c11
                  try clear c23
                  try clear c24
                  try clear c24b0
                  try clear c24b1
                  try clear c26
                  try clear c26b0
                  try clear c30
                  try clear hcz12_0
                  try clear hcz12_1
                  try clear hcz14_0
                  try clear hcz14_1
                  try clear hcz15_0
                  try clear hcz15_1
                  try clear hcz17_0
                  try clear hcz17_1
                  try clear hcz18_0
                  try clear hcz18_1
                  try clear hcz20_0
                  try clear hcz20_1
                  try clear hcz21_0
                  try clear hcz21_1
                  try clear hcz28_0
                  try clear hcz28_1
                  try clear hfz12_0
                  try clear hfz12_1
                  try clear hfz14_0
                  try clear hfz14_1
                  try clear hfz15_0
                  try clear hfz15_1
                  try clear hfz17_0
                  try clear hfz17_1
                  try clear hfz18_0
                  try clear hfz18_1
                  try clear hfz20_0
                  try clear hfz20_1
                  try clear hfz21_0
                  try clear hfz21_1
                  try clear hfz28_0
                  try clear hfz28_1
                  try clear p2
                  try clear p6
                  obtain ⟨kq, x49_26, rfl, HA, HJ26, BK520, HB⟩ := hcut
                  cases kq with
                  | zero => exact absurd HA.out (by simp [spec_FlowMost.j2])
                  | succ kj26 =>
                    have H := HA.out
                    clear HA
                    simp only [spec_FlowMost.j2] at H
                    by_cases c32 : x49_26 = true
                    · subst c32
                      have H1 : ((spec_l25Cut.f kj26 a0_0 l0_1 x8_2).bind fun t526 => (if x7_2 < 0 then (spec_FlowMost.l0 kj26 a1 a2 t526 (wrap64 (x8_2 + 1)) a0_0 l0_1) else (if t526 < x7_2 then (spec_FlowMost.l0 kj26 a1 a2 t526 (wrap64 (x8_2 + 1)) a0_0 l0_1) else (spec_FlowMost.l0 kj26 a1 a2 x7_2 (wrap64 (x8_2 + 1)) a0_0 l0_1)))) = some r := by rw [if_pos rfl] at H; exact H
                      clear H
                      have H := H1
                      clear H1
                      replace H := Option.bind_eq_some_iff.mp H
                      obtain ⟨t526, A330, H⟩ := H
                      replace H : (if x7_2 < 0 then (spec_FlowMost.l0 kj26 a1 a2 t526 (wrap64 (x8_2 + 1)) a0_0 l0_1) else (if t526 < x7_2 then (spec_FlowMost.l0 kj26 a1 a2 t526 (wrap64 (x8_2 + 1)) a0_0 l0_1) else (spec_FlowMost.l0 kj26 a1 a2 x7_2 (wrap64 (x8_2 + 1)) a0_0 l0_1))) = some r := H
                      have A33 := Aside0.mk A330
                      clear A330
                      by_cases c34 : x7_2 < 0
                      · rw [if_pos c34] at H
                        have c34b0 : decide (x7_2 < 0) = true := decide_eq_true c34
                        clear c34
                        have H' := Aside0.mk H
                        clear H
                        have hcz35_0 : wc.cell? ⟨gb520, 0, none⟩ = some (.int .i64 a0_0) := (blk_cell BK520.out 0).trans rfl
                        have hcz35_1 : wc.cell? ⟨gb520, 1, none⟩ = some (.slice A0_1 l0_1.length c0_1) := (blk_cell BK520.out 1).trans rfl
                        have hfz35_0 := blk_frozen BK520.out 0
                        have hfz35_1 := blk_frozen BK520.out 1
                        go_wp2_with (first | ((with_reducible refine gate_callee (f := 69) rfl ?_); refine goesL_ (some 52) rfl rfl Try.func69 (by kernel_rfl) rfl #[.agg #[.int .i64 a0_0, .slice A0_1 l0_1.length c0_1], .int .i64 x8_2] rfl (by (try simp only [List.map_toArray, List.map_cons, List.map_nil]); first | done | rfl | (simp only [List.length_drop, List.length_take]; rfl)) ?_; (with_reducible refine (spec_l25Cut.calls kj26 a0_0 _ _ l0_1 x8_2 t526 _ ?side1 ?side2 A33.out).mono ?_); (case side1 => repeat (first | exact (Kd.C_below HR0_1.out HB.out) | (with_reducible refine Kd.C_alloc ?_ _) | (with_reducible refine Kd.C_drewN ?_ _) | (with_reducible refine Kd.C_drew ?_))); (case side2 => exact HC0_1.out); rintro e w36 ⟨rfl, hb⟩; refine ⟨_, rfl, ?_⟩; have n0_ := Aside0.mk (blk_below (g := gb520) (o := .cells #[.int .i64 a0_0, .slice A0_1 l0_1.length c0_1] 51 (0, 0)) (by (with_reducible repeat (first | refine blk_drewN ?_ _ | refine blk_drew ?_ | refine blk_alloc ?_ _)); exact BK520.out) hb); have n1_ := Aside0.mk (below_step (by repeat (first | (with_reducible first | exact HB.out | apply below_alloc | apply pw_below_drewN | apply below_drew1 | refine below_set ?_ GE520.out) | exact HB.out)) hb); clear BK520; clear HB; have BK520 := n0_; have HB := n1_; clear n0_ n1_; (try clear hb); (try clear hb2); (try clear hk); (try clear hi)))
                        go_roundg kj26
                        case measure => have := HJ3.out; have := HK2.out; have := HJ26.out; omega
                        case rel => exact ⟨(t526), (wrap64 (x8_2 + 1)), (by first | rfl | (simp; done) | (simp [*]; done)), (by first | rfl | (simp; done) | (simp [*]; done)), H', ⟨by have := HJ3.out; have := HK2.out; have := HJ26.out; omega⟩, ⟨by (with_reducible repeat (first | refine blk_drewN ?_ _ | refine blk_drew ?_ | refine blk_alloc ?_ _)); exact BK520.out⟩, ⟨by repeat (first | (with_reducible first | exact HB.out | apply below_alloc | apply pw_below_drewN | apply below_drew1 | refine below_set ?_ GE520.out) | exact HB.out)⟩⟩
                      · rw [if_neg c34] at H
                        have c34b0 : decide (x7_2 < 0) = false := decide_eq_false c34
                        clear c34
                        by_cases c37 : t526 < x7_2
                        · rw [if_pos c37] at H
                          have c37b0 : decide (t526 < x7_2) = true := decide_eq_true c37
                          clear c37
                          have H' := Aside0.mk H
                          clear H
                          have hcz38_0 : wc.cell? ⟨gb520, 0, none⟩ = some (.int .i64 a0_0) := (blk_cell BK520.out 0).trans rfl
                          have hcz38_1 : wc.cell? ⟨gb520, 1, none⟩ = some (.slice A0_1 l0_1.length c0_1) := (blk_cell BK520.out 1).trans rfl
                          have hfz38_0 := blk_frozen BK520.out 0
                          have hfz38_1 := blk_frozen BK520.out 1
                          go_wp2_with (first | ((with_reducible refine gate_callee (f := 69) rfl ?_); refine goesL_ (some 52) rfl rfl Try.func69 (by kernel_rfl) rfl #[.agg #[.int .i64 a0_0, .slice A0_1 l0_1.length c0_1], .int .i64 x8_2] rfl (by (try simp only [List.map_toArray, List.map_cons, List.map_nil]); first | done | rfl | (simp only [List.length_drop, List.length_take]; rfl)) ?_; (with_reducible refine (spec_l25Cut.calls kj26 a0_0 _ _ l0_1 x8_2 t526 _ ?side1 ?side2 A33.out).mono ?_); (case side1 => repeat (first | exact (Kd.C_below HR0_1.out HB.out) | (with_reducible refine Kd.C_alloc ?_ _) | (with_reducible refine Kd.C_drewN ?_ _) | (with_reducible refine Kd.C_drew ?_))); (case side2 => exact HC0_1.out); rintro e w39 ⟨rfl, hb⟩; refine ⟨_, rfl, ?_⟩; have n0_ := Aside0.mk (blk_below (g := gb520) (o := .cells #[.int .i64 a0_0, .slice A0_1 l0_1.length c0_1] 51 (0, 0)) (by (with_reducible repeat (first | refine blk_drewN ?_ _ | refine blk_drew ?_ | refine blk_alloc ?_ _)); exact BK520.out) hb); have n1_ := Aside0.mk (below_step (by repeat (first | (with_reducible first | exact HB.out | apply below_alloc | apply pw_below_drewN | apply below_drew1 | refine below_set ?_ GE520.out) | exact HB.out)) hb); clear BK520; clear HB; have BK520 := n0_; have HB := n1_; clear n0_ n1_; (try clear hb); (try clear hb2); (try clear hk); (try clear hi)))
                          go_roundg kj26
                          case measure => have := HJ3.out; have := HK2.out; have := HJ26.out; omega
                          case rel => exact ⟨(t526), (wrap64 (x8_2 + 1)), (by first | rfl | (simp; done) | (simp [*]; done)), (by first | rfl | (simp; done) | (simp [*]; done)), H', ⟨by have := HJ3.out; have := HK2.out; have := HJ26.out; omega⟩, ⟨by (with_reducible repeat (first | refine blk_drewN ?_ _ | refine blk_drew ?_ | refine blk_alloc ?_ _)); exact BK520.out⟩, ⟨by repeat (first | (with_reducible first | exact HB.out | apply below_alloc | apply pw_below_drewN | apply below_drew1 | refine below_set ?_ GE520.out) | exact HB.out)⟩⟩
                        · rw [if_neg c37] at H
                          have c37b0 : decide (t526 < x7_2) = false := decide_eq_false c37
                          clear c37
                          have H' := Aside0.mk H
                          clear H
                          have hcz40_0 : wc.cell? ⟨gb520, 0, none⟩ = some (.int .i64 a0_0) := (blk_cell BK520.out 0).trans rfl
                          have hcz40_1 : wc.cell? ⟨gb520, 1, none⟩ = some (.slice A0_1 l0_1.length c0_1) := (blk_cell BK520.out 1).trans rfl
                          have hfz40_0 := blk_frozen BK520.out 0
                          have hfz40_1 := blk_frozen BK520.out 1
                          go_wp2_with (first | ((with_reducible refine gate_callee (f := 69) rfl ?_); refine goesL_ (some 52) rfl rfl Try.func69 (by kernel_rfl) rfl #[.agg #[.int .i64 a0_0, .slice A0_1 l0_1.length c0_1], .int .i64 x8_2] rfl (by (try simp only [List.map_toArray, List.map_cons, List.map_nil]); first | done | rfl | (simp only [List.length_drop, List.length_take]; rfl)) ?_; (with_reducible refine (spec_l25Cut.calls kj26 a0_0 _ _ l0_1 x8_2 t526 _ ?side1 ?side2 A33.out).mono ?_); (case side1 => repeat (first | exact (Kd.C_below HR0_1.out HB.out) | (with_reducible refine Kd.C_alloc ?_ _) | (with_reducible refine Kd.C_drewN ?_ _) | (with_reducible refine Kd.C_drew ?_))); (case side2 => exact HC0_1.out); rintro e w41 ⟨rfl, hb⟩; refine ⟨_, rfl, ?_⟩; have n0_ := Aside0.mk (blk_below (g := gb520) (o := .cells #[.int .i64 a0_0, .slice A0_1 l0_1.length c0_1] 51 (0, 0)) (by (with_reducible repeat (first | refine blk_drewN ?_ _ | refine blk_drew ?_ | refine blk_alloc ?_ _)); exact BK520.out) hb); have n1_ := Aside0.mk (below_step (by repeat (first | (with_reducible first | exact HB.out | apply below_alloc | apply pw_below_drewN | apply below_drew1 | refine below_set ?_ GE520.out) | exact HB.out)) hb); clear BK520; clear HB; have BK520 := n0_; have HB := n1_; clear n0_ n1_; (try clear hb); (try clear hb2); (try clear hk); (try clear hi)))
                          go_roundg kj26
                          case measure => have := HJ3.out; have := HK2.out; have := HJ26.out; omega
                          case rel => exact ⟨(x7_2), (wrap64 (x8_2 + 1)), (by first | rfl | (simp; done) | (simp [*]; done)), (by first | rfl | (simp; done) | (simp [*]; done)), H', ⟨by have := HJ3.out; have := HK2.out; have := HJ26.out; omega⟩, ⟨by (with_reducible repeat (first | refine blk_drewN ?_ _ | refine blk_drew ?_ | refine blk_alloc ?_ _)); exact BK520.out⟩, ⟨by repeat (first | (with_reducible first | exact HB.out | apply below_alloc | apply pw_below_drewN | apply below_drew1 | refine below_set ?_ GE520.out) | exact HB.out)⟩⟩
                    · replace c32 := Bool.eq_false_iff.mpr c32
                      subst c32
                      have H1 : (spec_FlowMost.l0 kj26 a1 a2 x7_2 (wrap64 (x8_2 + 1)) a0_0 l0_1) = some r := by rw [if_neg (show ¬ (false = true) by decide)] at H; exact H
                      clear H
                      have H := H1
                      clear H1
                      have H' := Aside0.mk H
                      clear H
                      go_wp2
                      go_roundg kj26
                      case measure => have := HJ3.out; have := HK2.out; have := HJ26.out; omega
                      case rel => exact ⟨(x7_2), (wrap64 (x8_2 + 1)), (by first | rfl | (simp; done) | (simp [*]; done)), (by first | rfl | (simp; done) | (simp [*]; done)), H', ⟨by have := HJ3.out; have := HK2.out; have := HJ26.out; omega⟩, ⟨by (with_reducible repeat (first | refine blk_drewN ?_ _ | refine blk_drew ?_ | refine blk_alloc ?_ _)); exact BK520.out⟩, ⟨by repeat (first | (with_reducible first | exact HB.out | apply below_alloc | apply pw_below_drewN | apply below_drew1 | refine below_set ?_ GE520.out) | exact HB.out)⟩⟩
              · rw [if_neg c26] at H
                have c26b0 : decide (x8_2 < (ji25)) = false := decide_eq_false c26
                clear c26
                obtain rfl := Option.some.inj H
                have hcz42_0 : wr.cell? ⟨gb520, 0, none⟩ = some (.int .i64 a0_0) := (blk_cell BK520.out 0).trans rfl
                have hcz42_1 : wr.cell? ⟨gb520, 1, none⟩ = some (.slice A0_1 l0_1.length c0_1) := (blk_cell BK520.out 1).trans rfl
                have hfz42_0 := blk_frozen BK520.out 0
                have hfz42_1 := blk_frozen BK520.out 1
                go_wp2
                go_ret
                exact ⟨by first | rfl | (simp [errW_none, errW_some] <;> rfl) | (simp only [← hji25]; first | rfl | (simp [errW_none, errW_some] <;> rfl)) | (simp [*, errW_none, errW_some] <;> rfl), by repeat (first | (with_reducible first | exact HB.out | apply below_alloc | apply pw_below_drewN | apply below_drew1 | refine below_set ?_ GE520.out) | exact HB.out)⟩
            · rw [if_neg c24] at H
              exact absurd H (by simp)

end Go.Proofs.Ytjiiipmeocageaa.Pr
end
section
namespace Go.Proofs.Ytjiiipmeocageaa.Pr
open Go.RowKit Go.Proofs.YtjiiipmeocageaaW.PrintWords Go.Proofs.YtjiiipmeocageaaW.PrintLast Go.Proofs.YtjiiipmeocageaaW.PrintMore
attribute [local go_sem] max2_int min2_int max_two min_two max_three min_three max_four min_four   -- for this text's walks alone
set_option linter.unusedVariables false
set_option linter.unusedSimpArgs false

/-! ### impl_Net_cut: function 72 -/
def impl_Net_cut.l0 : Nat → Int → Int → List (S56) → Int → Int → Option (Int)
  | 0, _, _, _, _, _ => none
  | k + 1, x1, x5, x9, x10, x11 => if x11 < x10 then (if 0 ≤ x11 then (if x11 < (x9.length : Int) then (if 0 ≤ ((rd_T56 x9 x11).f0) then (if (Go.bits .and .i64 (shr .i64 x1 ((rd_T56 x9 x11).f0)) 1) = 1 then (if 0 ≤ ((rd_T56 x9 x11).f1) then (if (Go.bits .and .i64 (shr .i64 x1 ((rd_T56 x9 x11).f1)) 1) = 0 then (impl_Net_cut.l0 k x1 (wrap64 (x5 + ((rd_T56 x9 x11).f4))) x9 x10 (wrap64 (x11 + 1))) else (impl_Net_cut.l0 k x1 x5 x9 x10 (wrap64 (x11 + 1)))) else (none)) else (impl_Net_cut.l0 k x1 x5 x9 x10 (wrap64 (x11 + 1)))) else (none)) else (none)) else (none)) else (some x5)
def impl_Net_cut.f (k : Nat) (a0_0 : Int) (l0_1 : List (S56)) (a1 : Int) : Option (Int) := impl_Net_cut.l0 k a1 0 l0_1 (l0_1.length : Int) 0
theorem impl_Net_cut.mono_l : ∀ k, (∀ y0 y1 y2 y3 y4, LeO (impl_Net_cut.l0 k y0 y1 y2 y3 y4) (impl_Net_cut.l0 (k + 1) y0 y1 y2 y3 y4))
  | 0 => fun _ _ _ _ _ r h => by simp [impl_Net_cut.l0] at h
  | k + 1 => by
    have ih0 := impl_Net_cut.mono_l k
    · intro y0 y1 y2 y3 y4
      unfold impl_Net_cut.l0
      repeat' first
      | (with_reducible exact ih0 _ _ _ _ _)
      | (with_reducible exact LeO.refl _)
      | (with_reducible exact LeO.none _)
      | (with_reducible refine LeO.ite ?_ ?_)
      | (with_reducible refine LeO.bind ?_ (fun _ => ?_))
      | exact ih0 _ _ _ _ _
      | exact LeO.none _
      | refine LeO.ite ?_ ?_
      | refine LeO.bind ?_ (fun _ => ?_)
theorem impl_Net_cut.mono : ∀ a0 a1 a2 k, LeO (impl_Net_cut.f k a0 a1 a2) (impl_Net_cut.f (k + 1) a0 a1 a2) := by
  intro a0 a1 a2 k
  have ih0 := impl_Net_cut.mono_l k
  unfold impl_Net_cut.f
  repeat' first
      | (with_reducible exact ih0 _ _ _ _ _)
      | (with_reducible exact LeO.refl _)
      | (with_reducible exact LeO.none _)
      | (with_reducible refine LeO.ite ?_ ?_)
      | (with_reducible refine LeO.bind ?_ (fun _ => ?_))
      | exact ih0 _ _ _ _ _
      | exact LeO.none _
      | refine LeO.ite ?_ ?_
      | refine LeO.bind ?_ (fun _ => ?_)
set_option maxHeartbeats 8000000 in
set_option maxRecDepth 100000 in
theorem impl_Net_cut.calls (k : Nat) (a0_0 : Int) (A0_1 : Option Addr) (c0_1 : Nat) (l0_1 : List (S56)) (a1 : Int) (r : Int) (w : World) (hr0_1 : Kd.C k56 w A0_1 l0_1.length l0_1) (hc0_1 : l0_1.length ≤ c0_1) (h : impl_Net_cut.f k a0_0 l0_1 a1 = some r) :
    Calls Try.prog 72 #[.agg #[.int .i64 a0_0, .slice A0_1 l0_1.length c0_1], .int .i64 a1] w fun e w' => e = .returned (.int .i64 r) ∧ Below w.heap.size w w' := by
  have hu51 := Try.underlying51
  have hu56 := Try.underlying56
  have HR0_1 := Aside0.mk hr0_1
  have HC0_1 := Aside0.mk hc0_1
  clear hr0_1 hc0_1
  have HB := Aside0.mk (Below.refl w.heap.size w)
  have H : (impl_Net_cut.l0 k a1 0 l0_1 (l0_1.length : Int) 0) = some r := h
  clear h
  have H' := Aside0.mk H
  clear H
  go_enter Try.func72, Try.ntmps72
  go_wp2_with (first | ((with_reducible refine gate_dst (N := 2) rfl ?_); refine box_event ?hg (N := 2) ?hd (cs := #[.int .i64 a0_0, .slice A0_1 l0_1.length c0_1]) (t := 51) ?hr ?_; (case hd => rfl); (case hg => rfl); (case hr => first | (go_simp; done) | (go_simp; rfl)); intro gb554 hg w3 hbox hb; have n0_ := Aside0.mk (below_step (by repeat (first | (with_reducible first | exact HB.out | apply below_alloc | apply pw_below_drewN | apply below_drew1) | exact HB.out)) hb); have n1_ := Aside0.mk (hbox); have n2_ := Aside0.mk ((by rw [hg]; exact (below_size (by repeat (first | (with_reducible first | exact HB.out | apply below_alloc | apply pw_below_drewN | apply below_drew1) | exact HB.out))) : w.heap.size ≤ gb554)); have n3_ := Aside0.mk ((by rw [hg]; exact (below_size (by repeat (first | (with_reducible first | exact HB.out | apply below_alloc | apply pw_below_drewN | apply below_drew1) | exact HB.out))) : w.heap.size ≤ gb554)); clear HB; have HB := n0_; have BK554 := n1_; have GW554 := n2_; have GE554 := n3_; clear n0_ n1_ n2_ n3_; clear hb hbox hg; have hcz4_0 : w3.cell? ⟨gb554, 0, none⟩ = some (.int .i64 a0_0) := (blk_cell BK554.out 0).trans rfl; have hcz4_1 : w3.cell? ⟨gb554, 1, none⟩ = some (.slice A0_1 l0_1.length c0_1) := (blk_cell BK554.out 1).trans rfl; have hfz4_0 := blk_frozen BK554.out 0; have hfz4_1 := blk_frozen BK554.out 1))
  go_loopg [5, 11] k (fun kq v5 v11 w' => ∃ (x5_1 : Int) (x11_1 : Int), v5 = .int .i64 x5_1 ∧ v11 = .int .i64 x11_1 ∧ Aside0 (impl_Net_cut.l0 kq a1 x5_1 l0_1 (l0_1.length : Int) x11_1 = some r) ∧ Aside0 (kq ≤ k) ∧ Aside0 (w'.heap[gb554]? = some (.cells #[.int .i64 a0_0, (.slice A0_1 l0_1.length c0_1)] 51 (0, 0))) ∧ Aside0 (Below w.heap.size w w'))
  case atStart => exact ⟨(0), (0), (by first | rfl | (simp; done) | (simp [*]; done)), (by first | rfl | (simp; done) | (simp [*]; done)), H', ⟨Nat.le_refl _⟩, ⟨by (with_reducible repeat (first | refine blk_drewN ?_ _ | refine blk_drew ?_ | refine blk_alloc ?_ _)); exact BK554.out⟩, ⟨by repeat (first | (with_reducible first | exact HB.out | apply below_alloc | apply pw_below_drewN | apply below_drew1 | refine below_set ?_ GE554.out) | exact HB.out)⟩⟩
  case round =>
    clear H'
    try clear p2
    try clear hcz4_0
    try clear hcz4_1
    try clear hfz4_0
    try clear hfz4_1
    obtain ⟨x5_1, x11_1, rfl, rfl, HA, HK1, BK554, HB⟩ := hrel
    cases gk with
    | zero => exact absurd HA.out (by simp [impl_Net_cut.l0])
    | succ k1 =>
      have H := HA.out
      clear HA
      simp only [impl_Net_cut.l0] at H
      by_cases c5 : x11_1 < (l0_1.length : Int)
      · rw [if_pos c5] at H
        have c5b0 : decide (x11_1 < (l0_1.length : Int)) = true := decide_eq_true c5
        clear c5
        by_cases c6 : 0 ≤ x11_1
        · rw [if_pos c6] at H
          have c6b0 : decide (0 ≤ x11_1) = true := decide_eq_true c6
          clear c6
          by_cases c7 : x11_1 < (l0_1.length : Int)
          · rw [if_pos c7] at H
            have c7b0 : decide (x11_1 < (l0_1.length : Int)) = true := decide_eq_true c7
            clear c7
            by_cases c8 : 0 ≤ ((rd_T56 l0_1 x11_1).f0)
            · rw [if_pos c8] at H
              have c8b0 := eq_true c8
              have c8b1 : decide (0 ≤ ((rd_T56 l0_1 x11_1).f0)) = true := decide_eq_true c8
              clear c8
              obtain ⟨ji9, hji9⟩ : ∃ j_ : Int, (shr .i64 a1 ((rd_T56 l0_1 x11_1).f0)) = j_ := ⟨_, rfl⟩
              replace H : (if (Go.bits .and .i64 (ji9) 1) = 1 then (if 0 ≤ ((rd_T56 l0_1 x11_1).f1) then (if (Go.bits .and .i64 (shr .i64 a1 ((rd_T56 l0_1 x11_1).f1)) 1) = 0 then (impl_Net_cut.l0 k1 a1 (wrap64 (x5_1 + ((rd_T56 l0_1 x11_1).f4))) l0_1 (l0_1.length : Int) (wrap64 (x11_1 + 1))) else (impl_Net_cut.l0 k1 a1 x5_1 l0_1 (l0_1.length : Int) (wrap64 (x11_1 + 1)))) else (none)) else (impl_Net_cut.l0 k1 a1 x5_1 l0_1 (l0_1.length : Int) (wrap64 (x11_1 + 1)))) = some r := by first | (rw [hji9] at H; exact H) | (simp only [hji9] at H ⊢; exact H)
              have hji9_ : (a1 / 2 ^ min ((rd_T56 l0_1 x11_1).f0).toNat 64) = ji9 := hji9
              have hji9z : ((rd_T56 l0_1 x11_1).f0) ≤ 64 → (a1 / 2 ^ ((rd_T56 l0_1 x11_1).f0).toNat) = ji9 := shr_small hji9
              by_cases c10 : (Go.bits .and .i64 (ji9) 1) = 1
              · rw [if_pos c10] at H
                have c10b0 : ((Go.bits .and .i64 (ji9) 1) == 1) = true := beq_iff_eq.mpr c10
                have c10b1 : ((Go.bits .and .i64 (ji9) 1) != 1) = false := bne_eq_false_iff_eq.mpr c10
                clear c10
                by_cases c11 : 0 ≤ ((rd_T56 l0_1 x11_1).f1)
                · rw [if_pos c11] at H
                  have c11b0 := eq_true c11
                  have c11b1 : decide (0 ≤ ((rd_T56 l0_1 x11_1).f1)) = true := decide_eq_true c11
                  clear c11
                  obtain ⟨ji12, hji12⟩ : ∃ j_ : Int, (shr .i64 a1 ((rd_T56 l0_1 x11_1).f1)) = j_ := ⟨_, rfl⟩
                  replace H : (if (Go.bits .and .i64 (ji12) 1) = 0 then (impl_Net_cut.l0 k1 a1 (wrap64 (x5_1 + ((rd_T56 l0_1 x11_1).f4))) l0_1 (l0_1.length : Int) (wrap64 (x11_1 + 1))) else (impl_Net_cut.l0 k1 a1 x5_1 l0_1 (l0_1.length : Int) (wrap64 (x11_1 + 1)))) = some r := by first | (rw [hji12] at H; exact H) | (simp only [hji12] at H ⊢; exact H)
                  have hji12_ : (a1 / 2 ^ min ((rd_T56 l0_1 x11_1).f1).toNat 64) = ji12 := hji12
                  have hji12z : ((rd_T56 l0_1 x11_1).f1) ≤ 64 → (a1 / 2 ^ ((rd_T56 l0_1 x11_1).f1).toNat) = ji12 := shr_small hji12
                  by_cases c13 : (Go.bits .and .i64 (ji12) 1) = 0
                  · rw [if_pos c13] at H
                    have c13b0 : ((Go.bits .and .i64 (ji12) 1) == 0) = true := beq_iff_eq.mpr c13
                    have c13b1 : ((Go.bits .and .i64 (ji12) 1) != 0) = false := bne_eq_false_iff_eq.mpr c13
                    clear c13
                    have H' := Aside0.mk H
                    clear H
                    have p555 : 0 ≤ (x11_1 : Int) := of_decide_eq_true (by first | (with_reducible assumption) | assumption)
                    have q555 : x11_1 < (l0_1.length : Int) := of_decide_eq_true (by first | (with_reducible assumption) | assumption)
                    obtain ⟨ad555, e555, hx555_0, hx555_1, hx555_2, hx555_3, hx555_4⟩ := at_T56 HR0_1.out x11_1 p555 q555
                    cases e555
                    replace hx555_0 := (HB.out.cell (World.block_lt_of_cell? w _ hx555_0)).trans hx555_0
                    replace hx555_1 := (HB.out.cell (World.block_lt_of_cell? w _ hx555_1)).trans hx555_1
                    replace hx555_2 := (HB.out.cell (World.block_lt_of_cell? w _ hx555_2)).trans hx555_2
                    replace hx555_3 := (HB.out.cell (World.block_lt_of_cell? w _ hx555_3)).trans hx555_3
                    replace hx555_4 := (HB.out.cell (World.block_lt_of_cell? w _ hx555_4)).trans hx555_4
                    replace p555 := eq_true p555
                    replace q555 := eq_true q555
                    go_wp2_with (first | ((with_reducible refine gate_dst (N := 7) rfl ?_); refine box_event ?hg (N := 7) ?hd (cs := #[.int .i64 0, .int .i64 0, .int .i64 0, .int .i64 0, .int .i64 0]) (t := 56) ?hr ?_; (case hd => rfl); (case hg => rfl); (case hr => first | (go_simp; done) | (go_simp; rfl)); intro gb556 hg w14 hbox hb; have n0_ := Aside0.mk (blk_below (g := gb554) (o := .cells #[.int .i64 a0_0, .slice (some ad555) l0_1.length c0_1] 51 (0, 0)) (by (with_reducible repeat (first | refine blk_drewN ?_ _ | refine blk_drew ?_ | refine blk_alloc ?_ _)); exact BK554.out) hb); have n1_ := Aside0.mk (below_step (by repeat (first | (with_reducible first | exact HB.out | apply below_alloc | apply pw_below_drewN | apply below_drew1 | refine below_set ?_ GE554.out) | exact HB.out)) hb); have n2_ := Aside0.mk (hbox); have n3_ := Aside0.mk ((by rw [hg]; exact (below_size (by repeat (first | (with_reducible first | exact HB.out | apply below_alloc | apply pw_below_drewN | apply below_drew1 | refine below_set ?_ GE554.out) | exact HB.out))) : w.heap.size ≤ gb556)); have n4_ := Aside0.mk ((by rw [hg]; exact (below_size (by repeat (first | (with_reducible first | exact HB.out | apply below_alloc | apply pw_below_drewN | apply below_drew1 | refine below_set ?_ GE554.out) | exact HB.out))) : w.heap.size ≤ gb556)); have n5_ := Aside0.mk ((by rw [hg]; exact Nat.ne_of_lt (blk_lt (g := gb554) (o := .cells #[.int .i64 a0_0, .slice (some ad555) l0_1.length c0_1] 51 (0, 0)) (by (with_reducible repeat (first | refine blk_drewN ?_ _ | refine blk_drew ?_ | refine blk_alloc ?_ _)); exact BK554.out)) : gb554 ≠ gb556)); have n6_ := Aside0.mk ((by rw [hg]; exact Nat.ne_of_gt (blk_lt (g := gb554) (o := .cells #[.int .i64 a0_0, .slice (some ad555) l0_1.length c0_1] 51 (0, 0)) (by (with_reducible repeat (first | refine blk_drewN ?_ _ | refine blk_drew ?_ | refine blk_alloc ?_ _)); exact BK554.out)) : gb556 ≠ gb554)); clear BK554; clear HB; have BK554 := n0_; have HB := n1_; have BK556 := n2_; have GW556 := n3_; have GE556 := n4_; have NB554_556 := n5_; have NB556_554 := n6_; clear n0_ n1_ n2_ n3_ n4_ n5_ n6_; clear hb hbox hg; have hnb15 := NB556_554.out; have hnc15 := NB554_556.out; have hcz16_0 : w14.cell? ⟨gb556, 0, none⟩ = some (.int .i64 0) := (blk_cell BK556.out 0).trans rfl; have hcz16_1 : w14.cell? ⟨gb556, 1, none⟩ = some (.int .i64 0) := (blk_cell BK556.out 1).trans rfl; have hcz16_2 : w14.cell? ⟨gb556, 2, none⟩ = some (.int .i64 0) := (blk_cell BK556.out 2).trans rfl; have hcz16_3 : w14.cell? ⟨gb556, 3, none⟩ = some (.int .i64 0) := (blk_cell BK556.out 3).trans rfl; have hcz16_4 : w14.cell? ⟨gb556, 4, none⟩ = some (.int .i64 0) := (blk_cell BK556.out 4).trans rfl; have hfz16_0 := blk_frozen BK556.out 0; have hfz16_1 := blk_frozen BK556.out 1; have hfz16_2 := blk_frozen BK556.out 2; have hfz16_3 := blk_frozen BK556.out 3; have hfz16_4 := blk_frozen BK556.out 4))
                    go_roundg k1
                    case measure => have := HK1.out; omega
                    case rel => exact ⟨(wrap64 (x5_1 + ((rd_T56 l0_1 x11_1).f4))), (wrap64 (x11_1 + 1)), (by first | rfl | (simp; done) | (simp [*]; done)), (by first | rfl | (simp; done) | (simp [*]; done)), H', ⟨by have := HK1.out; omega⟩, ⟨by (with_reducible repeat (first | refine blk_drewN ?_ _ | refine blk_drew ?_ | refine blk_alloc ?_ _)); refine blk_far ?_ NB554_556.out _; (with_reducible repeat (first | refine blk_drewN ?_ _ | refine blk_drew ?_ | refine blk_alloc ?_ _)); refine blk_far ?_ NB554_556.out _; (with_reducible repeat (first | refine blk_drewN ?_ _ | refine blk_drew ?_ | refine blk_alloc ?_ _)); refine blk_far ?_ NB554_556.out _; (with_reducible repeat (first | refine blk_drewN ?_ _ | refine blk_drew ?_ | refine blk_alloc ?_ _)); refine blk_far ?_ NB554_556.out _; (with_reducible repeat (first | refine blk_drewN ?_ _ | refine blk_drew ?_ | refine blk_alloc ?_ _)); refine blk_far ?_ NB554_556.out _; (with_reducible repeat (first | refine blk_drewN ?_ _ | refine blk_drew ?_ | refine blk_alloc ?_ _)); exact BK554.out⟩, ⟨by repeat (first | (with_reducible first | exact HB.out | apply below_alloc | apply pw_below_drewN | apply below_drew1 | refine below_set ?_ GE554.out | refine below_set ?_ GE556.out) | exact HB.out)⟩⟩
                  · rw [if_neg c13] at H
                    have c13b0 : ((Go.bits .and .i64 (ji12) 1) == 0) = false := beq_eq_false_iff_ne.mpr c13
                    have c13b1 : ((Go.bits .and .i64 (ji12) 1) != 0) = true := bne_iff_ne.mpr c13
                    have H' := Aside0.mk H
                    clear H
                    have p555 : 0 ≤ (x11_1 : Int) := of_decide_eq_true (by first | (with_reducible assumption) | assumption)
                    have q555 : x11_1 < (l0_1.length : Int) := of_decide_eq_true (by first | (with_reducible assumption) | assumption)
                    obtain ⟨ad555, e555, hx555_0, hx555_1, hx555_2, hx555_3, hx555_4⟩ := at_T56 HR0_1.out x11_1 p555 q555
                    cases e555
                    replace hx555_0 := (HB.out.cell (World.block_lt_of_cell? w _ hx555_0)).trans hx555_0
                    replace hx555_1 := (HB.out.cell (World.block_lt_of_cell? w _ hx555_1)).trans hx555_1
                    replace hx555_2 := (HB.out.cell (World.block_lt_of_cell? w _ hx555_2)).trans hx555_2
                    replace hx555_3 := (HB.out.cell (World.block_lt_of_cell? w _ hx555_3)).trans hx555_3
                    replace hx555_4 := (HB.out.cell (World.block_lt_of_cell? w _ hx555_4)).trans hx555_4
                    replace p555 := eq_true p555
                    replace q555 := eq_true q555
                    go_wp2_with (first | ((with_reducible refine gate_dst (N := 7) rfl ?_); refine box_event ?hg (N := 7) ?hd (cs := #[.int .i64 0, .int .i64 0, .int .i64 0, .int .i64 0, .int .i64 0]) (t := 56) ?hr ?_; (case hd => rfl); (case hg => rfl); (case hr => first | (go_simp; done) | (go_simp; rfl)); intro gb556 hg w17 hbox hb; have n0_ := Aside0.mk (blk_below (g := gb554) (o := .cells #[.int .i64 a0_0, .slice (some ad555) l0_1.length c0_1] 51 (0, 0)) (by (with_reducible repeat (first | refine blk_drewN ?_ _ | refine blk_drew ?_ | refine blk_alloc ?_ _)); exact BK554.out) hb); have n1_ := Aside0.mk (below_step (by repeat (first | (with_reducible first | exact HB.out | apply below_alloc | apply pw_below_drewN | apply below_drew1 | refine below_set ?_ GE554.out) | exact HB.out)) hb); have n2_ := Aside0.mk (hbox); have n3_ := Aside0.mk ((by rw [hg]; exact (below_size (by repeat (first | (with_reducible first | exact HB.out | apply below_alloc | apply pw_below_drewN | apply below_drew1 | refine below_set ?_ GE554.out) | exact HB.out))) : w.heap.size ≤ gb556)); have n4_ := Aside0.mk ((by rw [hg]; exact (below_size (by repeat (first | (with_reducible first | exact HB.out | apply below_alloc | apply pw_below_drewN | apply below_drew1 | refine below_set ?_ GE554.out) | exact HB.out))) : w.heap.size ≤ gb556)); have n5_ := Aside0.mk ((by rw [hg]; exact Nat.ne_of_lt (blk_lt (g := gb554) (o := .cells #[.int .i64 a0_0, .slice (some ad555) l0_1.length c0_1] 51 (0, 0)) (by (with_reducible repeat (first | refine blk_drewN ?_ _ | refine blk_drew ?_ | refine blk_alloc ?_ _)); exact BK554.out)) : gb554 ≠ gb556)); have n6_ := Aside0.mk ((by rw [hg]; exact Nat.ne_of_gt (blk_lt (g := gb554) (o := .cells #[.int .i64 a0_0, .slice (some ad555) l0_1.length c0_1] 51 (0, 0)) (by (with_reducible repeat (first | refine blk_drewN ?_ _ | refine blk_drew ?_ | refine blk_alloc ?_ _)); exact BK554.out)) : gb556 ≠ gb554)); clear BK554; clear HB; have BK554 := n0_; have HB := n1_; have BK556 := n2_; have GW556 := n3_; have GE556 := n4_; have NB554_556 := n5_; have NB556_554 := n6_; clear n0_ n1_ n2_ n3_ n4_ n5_ n6_; clear hb hbox hg; have hnb18 := NB556_554.out; have hnc18 := NB554_556.out; have hcz19_0 : w17.cell? ⟨gb556, 0, none⟩ = some (.int .i64 0) := (blk_cell BK556.out 0).trans rfl; have hcz19_1 : w17.cell? ⟨gb556, 1, none⟩ = some (.int .i64 0) := (blk_cell BK556.out 1).trans rfl; have hcz19_2 : w17.cell? ⟨gb556, 2, none⟩ = some (.int .i64 0) := (blk_cell BK556.out 2).trans rfl; have hcz19_3 : w17.cell? ⟨gb556, 3, none⟩ = some (.int .i64 0) := (blk_cell BK556.out 3).trans rfl; have hcz19_4 : w17.cell? ⟨gb556, 4, none⟩ = some (.int .i64 0) := (blk_cell BK556.out 4).trans rfl; have hfz19_0 := blk_frozen BK556.out 0; have hfz19_1 := blk_frozen BK556.out 1; have hfz19_2 := blk_frozen BK556.out 2; have hfz19_3 := blk_frozen BK556.out 3; have hfz19_4 := blk_frozen BK556.out 4))
                    go_roundg k1
                    case measure => have := HK1.out; omega
                    case rel => exact ⟨(x5_1), (wrap64 (x11_1 + 1)), (by first | rfl | (simp; done) | (simp [*]; done)), (by first | rfl | (simp; done) | (simp [*]; done)), H', ⟨by have := HK1.out; omega⟩, ⟨by (with_reducible repeat (first | refine blk_drewN ?_ _ | refine blk_drew ?_ | refine blk_alloc ?_ _)); refine blk_far ?_ NB554_556.out _; (with_reducible repeat (first | refine blk_drewN ?_ _ | refine blk_drew ?_ | refine blk_alloc ?_ _)); refine blk_far ?_ NB554_556.out _; (with_reducible repeat (first | refine blk_drewN ?_ _ | refine blk_drew ?_ | refine blk_alloc ?_ _)); refine blk_far ?_ NB554_556.out _; (with_reducible repeat (first | refine blk_drewN ?_ _ | refine blk_drew ?_ | refine blk_alloc ?_ _)); refine blk_far ?_ NB554_556.out _; (with_reducible repeat (first | refine blk_drewN ?_ _ | refine blk_drew ?_ | refine blk_alloc ?_ _)); refine blk_far ?_ NB554_556.out _; (with_reducible repeat (first | refine blk_drewN ?_ _ | refine blk_drew ?_ | refine blk_alloc ?_ _)); exact BK554.out⟩, ⟨by repeat (first | (with_reducible first | exact HB.out | apply below_alloc | apply pw_below_drewN | apply below_drew1 | refine below_set ?_ GE554.out | refine below_set ?_ GE556.out) | exact HB.out)⟩⟩
                · rw [if_neg c11] at H
                  exact absurd H (by simp)
              · rw [if_neg c10] at H
                have c10b0 : ((Go.bits .and .i64 (ji9) 1) == 1) = false := beq_eq_false_iff_ne.mpr c10
                have c10b1 : ((Go.bits .and .i64 (ji9) 1) != 1) = true := bne_iff_ne.mpr c10
                have H' := Aside0.mk H
                clear H
                have p555 : 0 ≤ (x11_1 : Int) := of_decide_eq_true (by first | (with_reducible assumption) | assumption)
                have q555 : x11_1 < (l0_1.length : Int) := of_decide_eq_true (by first | (with_reducible assumption) | assumption)
                obtain ⟨ad555, e555, hx555_0, hx555_1, hx555_2, hx555_3, hx555_4⟩ := at_T56 HR0_1.out x11_1 p555 q555
                cases e555
                replace hx555_0 := (HB.out.cell (World.block_lt_of_cell? w _ hx555_0)).trans hx555_0
                replace hx555_1 := (HB.out.cell (World.block_lt_of_cell? w _ hx555_1)).trans hx555_1
                replace hx555_2 := (HB.out.cell (World.block_lt_of_cell? w _ hx555_2)).trans hx555_2
                replace hx555_3 := (HB.out.cell (World.block_lt_of_cell? w _ hx555_3)).trans hx555_3
                replace hx555_4 := (HB.out.cell (World.block_lt_of_cell? w _ hx555_4)).trans hx555_4
                replace p555 := eq_true p555
                replace q555 := eq_true q555
                go_wp2_with (first | ((with_reducible refine gate_dst (N := 7) rfl ?_); refine box_event ?hg (N := 7) ?hd (cs := #[.int .i64 0, .int .i64 0, .int .i64 0, .int .i64 0, .int .i64 0]) (t := 56) ?hr ?_; (case hd => rfl); (case hg => rfl); (case hr => first | (go_simp; done) | (go_simp; rfl)); intro gb556 hg w20 hbox hb; have n0_ := Aside0.mk (blk_below (g := gb554) (o := .cells #[.int .i64 a0_0, .slice (some ad555) l0_1.length c0_1] 51 (0, 0)) (by (with_reducible repeat (first | refine blk_drewN ?_ _ | refine blk_drew ?_ | refine blk_alloc ?_ _)); exact BK554.out) hb); have n1_ := Aside0.mk (below_step (by repeat (first | (with_reducible first | exact HB.out | apply below_alloc | apply pw_below_drewN | apply below_drew1 | refine below_set ?_ GE554.out) | exact HB.out)) hb); have n2_ := Aside0.mk (hbox); have n3_ := Aside0.mk ((by rw [hg]; exact (below_size (by repeat (first | (with_reducible first | exact HB.out | apply below_alloc | apply pw_below_drewN | apply below_drew1 | refine below_set ?_ GE554.out) | exact HB.out))) : w.heap.size ≤ gb556)); have n4_ := Aside0.mk ((by rw [hg]; exact (below_size (by repeat (first | (with_reducible first | exact HB.out | apply below_alloc | apply pw_below_drewN | apply below_drew1 | refine below_set ?_ GE554.out) | exact HB.out))) : w.heap.size ≤ gb556)); have n5_ := Aside0.mk ((by rw [hg]; exact Nat.ne_of_lt (blk_lt (g := gb554) (o := .cells #[.int .i64 a0_0, .slice (some ad555) l0_1.length c0_1] 51 (0, 0)) (by (with_reducible repeat (first | refine blk_drewN ?_ _ | refine blk_drew ?_ | refine blk_alloc ?_ _)); exact BK554.out)) : gb554 ≠ gb556)); have n6_ := Aside0.mk ((by rw [hg]; exact Nat.ne_of_gt (blk_lt (g := gb554) (o := .cells #[.int .i64 a0_0, .slice (some ad555) l0_1.length c0_1] 51 (0, 0)) (by (with_reducible repeat (first | refine blk_drewN ?_ _ | refine blk_drew ?_ | refine blk_alloc ?_ _)); exact BK554.out)) : gb556 ≠ gb554)); clear BK554; clear HB; have BK554 := n0_; have HB := n1_; have BK556 := n2_; have GW556 := n3_; have GE556 := n4_; have NB554_556 := n5_; have NB556_554 := n6_; clear n0_ n1_ n2_ n3_ n4_ n5_ n6_; clear hb hbox hg; have hnb21 := NB556_554.out; have hnc21 := NB554_556.out; have hcz22_0 : w20.cell? ⟨gb556, 0, none⟩ = some (.int .i64 0) := (blk_cell BK556.out 0).trans rfl; have hcz22_1 : w20.cell? ⟨gb556, 1, none⟩ = some (.int .i64 0) := (blk_cell BK556.out 1).trans rfl; have hcz22_2 : w20.cell? ⟨gb556, 2, none⟩ = some (.int .i64 0) := (blk_cell BK556.out 2).trans rfl; have hcz22_3 : w20.cell? ⟨gb556, 3, none⟩ = some (.int .i64 0) := (blk_cell BK556.out 3).trans rfl; have hcz22_4 : w20.cell? ⟨gb556, 4, none⟩ = some (.int .i64 0) := (blk_cell BK556.out 4).trans rfl; have hfz22_0 := blk_frozen BK556.out 0; have hfz22_1 := blk_frozen BK556.out 1; have hfz22_2 := blk_frozen BK556.out 2; have hfz22_3 := blk_frozen BK556.out 3; have hfz22_4 := blk_frozen BK556.out 4))
                go_roundg k1
                case measure => have := HK1.out; omega
                case rel => exact ⟨(x5_1), (wrap64 (x11_1 + 1)), (by first | rfl | (simp; done) | (simp [*]; done)), (by first | rfl | (simp; done) | (simp [*]; done)), H', ⟨by have := HK1.out; omega⟩, ⟨by (with_reducible repeat (first | refine blk_drewN ?_ _ | refine blk_drew ?_ | refine blk_alloc ?_ _)); refine blk_far ?_ NB554_556.out _; (with_reducible repeat (first | refine blk_drewN ?_ _ | refine blk_drew ?_ | refine blk_alloc ?_ _)); refine blk_far ?_ NB554_556.out _; (with_reducible repeat (first | refine blk_drewN ?_ _ | refine blk_drew ?_ | refine blk_alloc ?_ _)); refine blk_far ?_ NB554_556.out _; (with_reducible repeat (first | refine blk_drewN ?_ _ | refine blk_drew ?_ | refine blk_alloc ?_ _)); refine blk_far ?_ NB554_556.out _; (with_reducible repeat (first | refine blk_drewN ?_ _ | refine blk_drew ?_ | refine blk_alloc ?_ _)); refine blk_far ?_ NB554_556.out _; (with_reducible repeat (first | refine blk_drewN ?_ _ | refine blk_drew ?_ | refine blk_alloc ?_ _)); exact BK554.out⟩, ⟨by repeat (first | (with_reducible first | exact HB.out | apply below_alloc | apply pw_below_drewN | apply below_drew1 | refine below_set ?_ GE554.out | refine below_set ?_ GE556.out) | exact HB.out)⟩⟩
            · rw [if_neg c8] at H
              exact absurd H (by simp)
          · rw [if_neg c7] at H
            exact absurd H (by simp)
        · rw [if_neg c6] at H
          exact absurd H (by simp)
      · rw [if_neg c5] at H
        have c5b0 : decide (x11_1 < (l0_1.length : Int)) = false := decide_eq_false c5
        clear c5
        obtain rfl := Option.some.inj H
        go_wp2
        go_ret
        exact ⟨by first | rfl | (simp [errW_none, errW_some] <;> rfl) | (simp [*, errW_none, errW_some] <;> rfl), by repeat (first | (with_reducible first | exact HB.out | apply below_alloc | apply pw_below_drewN | apply below_drew1 | refine below_set ?_ GE554.out) | exact HB.out)⟩

end Go.Proofs.Ytjiiipmeocageaa.Pr
end
section
namespace Go.Proofs.Ytjiiipmeocageaa.Pr
open Go.RowKit Go.Proofs.YtjiiipmeocageaaW.PrintWords Go.Proofs.YtjiiipmeocageaaW.PrintLast Go.Proofs.YtjiiipmeocageaaW.PrintMore
attribute [local go_sem] max2_int min2_int max_two min_two max_three min_three max_four min_four   -- for this text's walks alone
set_option linter.unusedVariables false
set_option linter.unusedSimpArgs false

/-! ### impl_FlowMost: function 34 -/
def impl_FlowMost.l0 : Nat → Int → Int → Int → Int → Int → Int → List (S56) → Option (Int)
  | 0, _, _, _, _, _, _, _ => none
  | k + 1, x1, x2, x7, x16, x17, x558000, x558001 => if x17 < x16 then (if 0 ≤ x1 then (if (Go.bits .and .i64 (shr .i64 x17 x1) 1) = 1 then (if 0 ≤ x2 then (if (Go.bits .and .i64 (shr .i64 x17 x2) 1) = 0 then (if x7 < 0 then ((impl_Net_cut.f k x558000 x558001 x17).bind fun t559 => (impl_FlowMost.l0 k x1 x2 t559 x16 (wrap64 (x17 + 1)) x558000 x558001)) else ((impl_Net_cut.f k x558000 x558001 x17).bind fun t560 => (if t560 < x7 then ((impl_Net_cut.f k x558000 x558001 x17).bind fun t561 => (impl_FlowMost.l0 k x1 x2 t561 x16 (wrap64 (x17 + 1)) x558000 x558001)) else (impl_FlowMost.l0 k x1 x2 x7 x16 (wrap64 (x17 + 1)) x558000 x558001)))) else (impl_FlowMost.l0 k x1 x2 x7 x16 (wrap64 (x17 + 1)) x558000 x558001)) else (none)) else (impl_FlowMost.l0 k x1 x2 x7 x16 (wrap64 (x17 + 1)) x558000 x558001)) else (none)) else (some x7)
def impl_FlowMost.f (k : Nat) (a0_0 : Int) (l0_1 : List (S56)) (a1 : Int) (a2 : Int) : Option (Int) := (impl_apart.f a0_0 l0_1 a1 a2).bind fun t558 => (if t558 = true then (if 0 ≤ a0_0 then (impl_FlowMost.l0 k a1 a2 (-1) (shl .i64 1 a0_0) 0 a0_0 l0_1) else (none)) else (some (-1)))
theorem impl_FlowMost.mono_l : ∀ k, (∀ y0 y1 y2 y3 y4 y5 y6, LeO (impl_FlowMost.l0 k y0 y1 y2 y3 y4 y5 y6) (impl_FlowMost.l0 (k + 1) y0 y1 y2 y3 y4 y5 y6))
  | 0 => fun _ _ _ _ _ _ _ r h => by simp [impl_FlowMost.l0] at h
  | k + 1 => by
    have ih0 := impl_FlowMost.mono_l k
    · intro y0 y1 y2 y3 y4 y5 y6
      unfold impl_FlowMost.l0
      repeat' first
      | (with_reducible exact ih0 _ _ _ _ _ _ _)
      | (with_reducible exact impl_Net_cut.mono _ _ _ _)
      | (with_reducible exact LeO.refl _)
      | (with_reducible exact LeO.none _)
      | (with_reducible refine LeO.ite ?_ ?_)
      | (with_reducible refine LeO.bind ?_ (fun _ => ?_))
      | exact ih0 _ _ _ _ _ _ _
      | exact impl_Net_cut.mono _ _ _ _
      | exact LeO.none _
      | refine LeO.ite ?_ ?_
      | refine LeO.bind ?_ (fun _ => ?_)
theorem impl_FlowMost.mono : ∀ a0 a1 a2 a3 k, LeO (impl_FlowMost.f k a0 a1 a2 a3) (impl_FlowMost.f (k + 1) a0 a1 a2 a3) := by
  intro a0 a1 a2 a3 k
  have ih0 := impl_FlowMost.mono_l k
  unfold impl_FlowMost.f
  repeat' first
      | (with_reducible exact ih0 _ _ _ _ _ _ _)
      | (with_reducible exact impl_Net_cut.mono _ _ _ _)
      | (with_reducible exact LeO.refl _)
      | (with_reducible exact LeO.none _)
      | (with_reducible refine LeO.ite ?_ ?_)
      | (with_reducible refine LeO.bind ?_ (fun _ => ?_))
      | exact ih0 _ _ _ _ _ _ _
      | exact impl_Net_cut.mono _ _ _ _
      | exact LeO.none _
      | refine LeO.ite ?_ ?_
      | refine LeO.bind ?_ (fun _ => ?_)
set_option maxHeartbeats 8000000 in
set_option maxRecDepth 100000 in
theorem impl_FlowMost.calls (k : Nat) (a0_0 : Int) (A0_1 : Option Addr) (c0_1 : Nat) (l0_1 : List (S56)) (a1 : Int) (a2 : Int) (r : Int) (w : World) (hr0_1 : Kd.C k56 w A0_1 l0_1.length l0_1) (hc0_1 : l0_1.length ≤ c0_1) (h : impl_FlowMost.f k a0_0 l0_1 a1 a2 = some r) :
    Calls Try.prog 34 #[.agg #[.int .i64 a0_0, .slice A0_1 l0_1.length c0_1], .int .i64 a1, .int .i64 a2] w fun e w' => e = .returned (.int .i64 r) ∧ Below w.heap.size w w' := by
  have hu51 := Try.underlying51
  have HR0_1 := Aside0.mk hr0_1
  have HC0_1 := Aside0.mk hc0_1
  clear hr0_1 hc0_1
  have HB := Aside0.mk (Below.refl w.heap.size w)
  have H : ((impl_apart.f a0_0 l0_1 a1 a2).bind fun t558 => (if t558 = true then (if 0 ≤ a0_0 then (impl_FlowMost.l0 k a1 a2 (-1) (shl .i64 1 a0_0) 0 a0_0 l0_1) else (none)) else (some (-1)))) = some r := h
  clear h
  replace H := Option.bind_eq_some_iff.mp H
  obtain ⟨t558, A40, H⟩ := H
  replace H : (if t558 = true then (if 0 ≤ a0_0 then (impl_FlowMost.l0 k a1 a2 (-1) (shl .i64 1 a0_0) 0 a0_0 l0_1) else (none)) else (some (-1))) = some r := H
  have A4 := Aside0.mk A40
  clear A40
  by_cases c5 : t558 = true
  · subst c5
    have H1 : (if 0 ≤ a0_0 then (impl_FlowMost.l0 k a1 a2 (-1) (shl .i64 1 a0_0) 0 a0_0 l0_1) else (none)) = some r := by rw [if_pos rfl] at H; exact H
    clear H
    have H := H1
    clear H1
    by_cases c6 : 0 ≤ a0_0
    · rw [if_pos c6] at H
      have c6b0 := eq_true c6
      have c6b1 : decide (0 ≤ a0_0) = true := decide_eq_true c6
      clear c6
      obtain ⟨ji7, hji7⟩ : ∃ j_ : Int, (shl .i64 1 a0_0) = j_ := ⟨_, rfl⟩
      replace H : (impl_FlowMost.l0 k a1 a2 (-1) ji7 0 a0_0 l0_1) = some r := by first | (rw [hji7] at H; exact H) | (simp only [hji7] at H ⊢; exact H)
      (try rw [hji7] at A4)
      have hji7_ : (IntKind.i64.wrap (1 * 2 ^ min a0_0.toNat 64)) = ji7 := hji7
      have hji7z : a0_0 ≤ 64 → (IntKind.i64.wrap (1 * 2 ^ a0_0.toNat)) = ji7 := shl_small hji7
      have hji7u : (IntKind.i64.wrap (2 ^ min a0_0.toNat 64)) = ji7 := by have h_ := hji7_; rw [Int.one_mul] at h_; exact h_
      have hji7v : a0_0 ≤ 64 → (IntKind.i64.wrap (2 ^ a0_0.toNat)) = ji7 := fun hle_ => by have h_ := hji7z hle_; rw [Int.one_mul] at h_; exact h_
      have hji7y : (wrap64 (1 * 2 ^ min a0_0.toNat 64)) = ji7 := (i64_w _).symm.trans hji7_
      have hji7x : a0_0 ≤ 64 → (wrap64 (1 * 2 ^ a0_0.toNat)) = ji7 := fun h_ => (i64_w _).symm.trans (hji7z h_)
      have H' := Aside0.mk H
      clear H
      go_enter Try.func34, Try.ntmps34
      go_wp2_with (first | ((with_reducible refine gate_dst (N := 3) rfl ?_); refine box_event ?hg (N := 3) ?hd (cs := #[.int .i64 a0_0, .slice A0_1 l0_1.length c0_1]) (t := 51) ?hr ?_; (case hd => rfl); (case hg => rfl); (case hr => first | (go_simp; done) | (go_simp; rfl)); intro gb557 hg w8 hbox hb; have n0_ := Aside0.mk (below_step (by repeat (first | (with_reducible first | exact HB.out | apply below_alloc | apply pw_below_drewN | apply below_drew1) | exact HB.out)) hb); have n1_ := Aside0.mk (hbox); have n2_ := Aside0.mk ((by rw [hg]; exact (below_size (by repeat (first | (with_reducible first | exact HB.out | apply below_alloc | apply pw_below_drewN | apply below_drew1) | exact HB.out))) : w.heap.size ≤ gb557)); have n3_ := Aside0.mk ((by rw [hg]; exact (below_size (by repeat (first | (with_reducible first | exact HB.out | apply below_alloc | apply pw_below_drewN | apply below_drew1) | exact HB.out))) : w.heap.size ≤ gb557)); clear HB; have HB := n0_; have BK557 := n1_; have GW557 := n2_; have GE557 := n3_; clear n0_ n1_ n2_ n3_; clear hb hbox hg; have hcz9_0 : w8.cell? ⟨gb557, 0, none⟩ = some (.int .i64 a0_0) := (blk_cell BK557.out 0).trans rfl; have hcz9_1 : w8.cell? ⟨gb557, 1, none⟩ = some (.slice A0_1 l0_1.length c0_1) := (blk_cell BK557.out 1).trans rfl; have hfz9_0 := blk_frozen BK557.out 0; have hfz9_1 := blk_frozen BK557.out 1) | ((with_reducible refine gate_callee (f := 71) rfl ?_); refine goesL_ (some 12) rfl rfl Try.func71 (by kernel_rfl) rfl #[.agg #[.int .i64 a0_0, .slice A0_1 l0_1.length c0_1], .int .i64 a1, .int .i64 a2] rfl (by (try simp only [List.map_toArray, List.map_cons, List.map_nil]); first | done | rfl | (simp only [List.length_drop, List.length_take]; rfl)) ?_; (with_reducible refine (impl_apart.calls a0_0 _ _ l0_1 a1 a2 true _ ?side1 ?side2 A4.out).mono ?_); (case side1 => repeat (first | exact (Kd.C_below HR0_1.out HB.out) | (with_reducible refine Kd.C_alloc ?_ _) | (with_reducible refine Kd.C_drewN ?_ _) | (with_reducible refine Kd.C_drew ?_))); (case side2 => exact HC0_1.out); rintro e w10 ⟨rfl, hb⟩; refine ⟨_, rfl, ?_⟩; have n0_ := Aside0.mk (blk_below (g := gb557) (o := .cells #[.int .i64 a0_0, .slice A0_1 l0_1.length c0_1] 51 (0, 0)) (by (with_reducible repeat (first | refine blk_drewN ?_ _ | refine blk_drew ?_ | refine blk_alloc ?_ _)); exact BK557.out) hb); have n1_ := Aside0.mk (below_step (by repeat (first | (with_reducible first | exact HB.out | apply below_alloc | apply pw_below_drewN | apply below_drew1 | refine below_set ?_ GE557.out) | exact HB.out)) hb); clear BK557; clear HB; have BK557 := n0_; have HB := n1_; clear n0_ n1_; (try clear hb); (try clear hb2); (try clear hk); (try clear hi); have hcz11_0 : w10.cell? ⟨gb557, 0, none⟩ = some (.int .i64 a0_0) := (blk_cell BK557.out 0).trans rfl; have hcz11_1 : w10.cell? ⟨gb557, 1, none⟩ = some (.slice A0_1 l0_1.length c0_1) := (blk_cell BK557.out 1).trans rfl; have hfz11_0 := blk_frozen BK557.out 0; have hfz11_1 := blk_frozen BK557.out 1))
      go_loopg [7, 17] k (fun kq v7 v17 w' => ∃ (x7_1 : Int) (x17_1 : Int), v7 = .int .i64 x7_1 ∧ v17 = .int .i64 x17_1 ∧ Aside0 (impl_FlowMost.l0 kq a1 a2 x7_1 ji7 x17_1 a0_0 l0_1 = some r) ∧ Aside0 (kq ≤ k) ∧ Aside0 (w'.heap[gb557]? = some (.cells #[.int .i64 a0_0, (.slice A0_1 l0_1.length c0_1)] 51 (0, 0))) ∧ Aside0 (Below w.heap.size w w'))
      case atStart => exact ⟨((-1)), (0), (by first | rfl | (simp; done) | (simp [*]; done)), (by first | rfl | (simp; done) | (simp [*]; done)), H', ⟨Nat.le_refl _⟩, ⟨by (with_reducible repeat (first | refine blk_drewN ?_ _ | refine blk_drew ?_ | refine blk_alloc ?_ _)); exact BK557.out⟩, ⟨by repeat (first | (with_reducible first | exact HB.out | apply below_alloc | apply pw_below_drewN | apply below_drew1 | refine below_set ?_ GE557.out) | exact HB.out)⟩⟩
      case round =>
        clear H'
        try clear p2
        try clear c3
        try clear c5
        try clear c6
        try clear c6b0
        try clear c6b1
        try clear p6
        try clear c7
        try clear hcz11_0
        try clear hcz11_1
        try clear hcz9_0
        try clear hcz9_1
        try clear hfz11_0
        try clear hfz11_1
        try clear hfz9_0
        try clear hfz9_1
        obtain ⟨x7_1, x17_1, rfl, rfl, HA, HK1, BK557, HB⟩ := hrel
        cases gk with
        | zero => exact absurd HA.out (by simp [impl_FlowMost.l0])
        | succ k1 =>
          have H := HA.out
          clear HA
          simp only [impl_FlowMost.l0] at H
          by_cases c12 : x17_1 < ji7
          · rw [if_pos c12] at H
            have c12b0 : decide (x17_1 < ji7) = true := decide_eq_true c12
            clear c12
            by_cases c13 : 0 ≤ a1
            · rw [if_pos c13] at H
              have c13b0 := eq_true c13
              have c13b1 : decide (0 ≤ a1) = true := decide_eq_true c13
              clear c13
              obtain ⟨ji14, hji14⟩ : ∃ j_ : Int, (shr .i64 x17_1 a1) = j_ := ⟨_, rfl⟩
              replace H : (if (Go.bits .and .i64 (ji14) 1) = 1 then (if 0 ≤ a2 then (if (Go.bits .and .i64 (shr .i64 x17_1 a2) 1) = 0 then (if x7_1 < 0 then ((impl_Net_cut.f k1 a0_0 l0_1 x17_1).bind fun t559 => (impl_FlowMost.l0 k1 a1 a2 t559 ji7 (wrap64 (x17_1 + 1)) a0_0 l0_1)) else ((impl_Net_cut.f k1 a0_0 l0_1 x17_1).bind fun t560 => (if t560 < x7_1 then ((impl_Net_cut.f k1 a0_0 l0_1 x17_1).bind fun t561 => (impl_FlowMost.l0 k1 a1 a2 t561 ji7 (wrap64 (x17_1 + 1)) a0_0 l0_1)) else (impl_FlowMost.l0 k1 a1 a2 x7_1 ji7 (wrap64 (x17_1 + 1)) a0_0 l0_1)))) else (impl_FlowMost.l0 k1 a1 a2 x7_1 ji7 (wrap64 (x17_1 + 1)) a0_0 l0_1)) else (none)) else (impl_FlowMost.l0 k1 a1 a2 x7_1 ji7 (wrap64 (x17_1 + 1)) a0_0 l0_1)) = some r := by first | (rw [hji14] at H; exact H) | (simp only [hji14] at H ⊢; exact H)
              have hji14_ : (x17_1 / 2 ^ min a1.toNat 64) = ji14 := hji14
              have hji14z : a1 ≤ 64 → (x17_1 / 2 ^ a1.toNat) = ji14 := shr_small hji14
              by_cases c15 : (Go.bits .and .i64 (ji14) 1) = 1
              · rw [if_pos c15] at H
                have c15b0 : ((Go.bits .and .i64 (ji14) 1) == 1) = true := beq_iff_eq.mpr c15
                have c15b1 : ((Go.bits .and .i64 (ji14) 1) != 1) = false := bne_eq_false_iff_eq.mpr c15
                clear c15
                by_cases c16 : 0 ≤ a2
                · rw [if_pos c16] at H
                  have c16b0 := eq_true c16
                  have c16b1 : decide (0 ≤ a2) = true := decide_eq_true c16
                  clear c16
                  obtain ⟨ji17, hji17⟩ : ∃ j_ : Int, (shr .i64 x17_1 a2) = j_ := ⟨_, rfl⟩
                  replace H : (if (Go.bits .and .i64 (ji17) 1) = 0 then (if x7_1 < 0 then ((impl_Net_cut.f k1 a0_0 l0_1 x17_1).bind fun t559 => (impl_FlowMost.l0 k1 a1 a2 t559 ji7 (wrap64 (x17_1 + 1)) a0_0 l0_1)) else ((impl_Net_cut.f k1 a0_0 l0_1 x17_1).bind fun t560 => (if t560 < x7_1 then ((impl_Net_cut.f k1 a0_0 l0_1 x17_1).bind fun t561 => (impl_FlowMost.l0 k1 a1 a2 t561 ji7 (wrap64 (x17_1 + 1)) a0_0 l0_1)) else (impl_FlowMost.l0 k1 a1 a2 x7_1 ji7 (wrap64 (x17_1 + 1)) a0_0 l0_1)))) else (impl_FlowMost.l0 k1 a1 a2 x7_1 ji7 (wrap64 (x17_1 + 1)) a0_0 l0_1)) = some r := by first | (rw [hji17] at H; exact H) | (simp only [hji17] at H ⊢; exact H)
                  have hji17_ : (x17_1 / 2 ^ min a2.toNat 64) = ji17 := hji17
                  have hji17z : a2 ≤ 64 → (x17_1 / 2 ^ a2.toNat) = ji17 := shr_small hji17
                  by_cases c18 : (Go.bits .and .i64 (ji17) 1) = 0
                  · rw [if_pos c18] at H
                    have c18b0 : ((Go.bits .and .i64 (ji17) 1) == 0) = true := beq_iff_eq.mpr c18
                    have c18b1 : ((Go.bits .and .i64 (ji17) 1) != 0) = false := bne_eq_false_iff_eq.mpr c18
                    clear c18
                    by_cases c19 : x7_1 < 0
                    · rw [if_pos c19] at H
                      have c19b0 : decide (x7_1 < 0) = true := decide_eq_true c19
                      clear c19
                      replace H := Option.bind_eq_some_iff.mp H
                      obtain ⟨t559, A200, H⟩ := H
                      replace H : (impl_FlowMost.l0 k1 a1 a2 t559 ji7 (wrap64 (x17_1 + 1)) a0_0 l0_1) = some r := H
                      have A20 := Aside0.mk A200
                      clear A200
                      have H' := Aside0.mk H
                      clear H
                      have hcz21_0 : wr.cell? ⟨gb557, 0, none⟩ = some (.int .i64 a0_0) := (blk_cell BK557.out 0).trans rfl
                      have hcz21_1 : wr.cell? ⟨gb557, 1, none⟩ = some (.slice A0_1 l0_1.length c0_1) := (blk_cell BK557.out 1).trans rfl
                      have hfz21_0 := blk_frozen BK557.out 0
                      have hfz21_1 := blk_frozen BK557.out 1
                      go_wp2_with (first | ((with_reducible refine gate_callee (f := 72) rfl ?_); refine goesL_ (some 45) rfl rfl Try.func72 (by kernel_rfl) rfl #[.agg #[.int .i64 a0_0, .slice A0_1 l0_1.length c0_1], .int .i64 x17_1] rfl (by (try simp only [List.map_toArray, List.map_cons, List.map_nil]); first | done | rfl | (simp only [List.length_drop, List.length_take]; rfl)) ?_; (with_reducible refine (impl_Net_cut.calls k1 a0_0 _ _ l0_1 x17_1 t559 _ ?side1 ?side2 A20.out).mono ?_); (case side1 => repeat (first | exact (Kd.C_below HR0_1.out HB.out) | (with_reducible refine Kd.C_alloc ?_ _) | (with_reducible refine Kd.C_drewN ?_ _) | (with_reducible refine Kd.C_drew ?_))); (case side2 => exact HC0_1.out); rintro e w22 ⟨rfl, hb⟩; refine ⟨_, rfl, ?_⟩; have n0_ := Aside0.mk (blk_below (g := gb557) (o := .cells #[.int .i64 a0_0, .slice A0_1 l0_1.length c0_1] 51 (0, 0)) (by (with_reducible repeat (first | refine blk_drewN ?_ _ | refine blk_drew ?_ | refine blk_alloc ?_ _)); exact BK557.out) hb); have n1_ := Aside0.mk (below_step (by repeat (first | (with_reducible first | exact HB.out | apply below_alloc | apply pw_below_drewN | apply below_drew1 | refine below_set ?_ GE557.out) | exact HB.out)) hb); clear BK557; clear HB; have BK557 := n0_; have HB := n1_; clear n0_ n1_; (try clear hb); (try clear hb2); (try clear hk); (try clear hi)))
                      go_roundg k1
                      case measure => have := HK1.out; omega
                      case rel => exact ⟨(t559), (wrap64 (x17_1 + 1)), (by first | rfl | (simp; done) | (simp [*]; done)), (by first | rfl | (simp; done) | (simp [*]; done)), H', ⟨by have := HK1.out; omega⟩, ⟨by (with_reducible repeat (first | refine blk_drewN ?_ _ | refine blk_drew ?_ | refine blk_alloc ?_ _)); exact BK557.out⟩, ⟨by repeat (first | (with_reducible first | exact HB.out | apply below_alloc | apply pw_below_drewN | apply below_drew1 | refine below_set ?_ GE557.out) | exact HB.out)⟩⟩
                    · rw [if_neg c19] at H
                      have c19b0 : decide (x7_1 < 0) = false := decide_eq_false c19
                      clear c19
                      replace H := Option.bind_eq_some_iff.mp H
                      obtain ⟨t560, A230, H⟩ := H
                      replace H : (if t560 < x7_1 then ((impl_Net_cut.f k1 a0_0 l0_1 x17_1).bind fun t561 => (impl_FlowMost.l0 k1 a1 a2 t561 ji7 (wrap64 (x17_1 + 1)) a0_0 l0_1)) else (impl_FlowMost.l0 k1 a1 a2 x7_1 ji7 (wrap64 (x17_1 + 1)) a0_0 l0_1)) = some r := H
                      have A23 := Aside0.mk A230
                      clear A230
                      by_cases c24 : t560 < x7_1
                      · rw [if_pos c24] at H
                        have c24b0 : decide (t560 < x7_1) = true := decide_eq_true c24
                        clear c24
                        replace H := Option.bind_eq_some_iff.mp H
                        obtain ⟨t561, A250, H⟩ := H
                        replace H : (impl_FlowMost.l0 k1 a1 a2 t561 ji7 (wrap64 (x17_1 + 1)) a0_0 l0_1) = some r := H
                        have A25 := Aside0.mk A250
                        clear A250
                        have H' := Aside0.mk H
                        clear H
                        have hcz26_0 : wr.cell? ⟨gb557, 0, none⟩ = some (.int .i64 a0_0) := (blk_cell BK557.out 0).trans rfl
                        have hcz26_1 : wr.cell? ⟨gb557, 1, none⟩ = some (.slice A0_1 l0_1.length c0_1) := (blk_cell BK557.out 1).trans rfl
                        have hfz26_0 := blk_frozen BK557.out 0
                        have hfz26_1 := blk_frozen BK557.out 1
                        go_wp2_with (first | (go_at_call 72; (with_reducible refine (impl_Net_cut.calls k1 a0_0 _ _ l0_1 x17_1 t560 _ ?side1 ?side2 A23.out).mono ?_); (case side1 => repeat (first | exact (Kd.C_below HR0_1.out HB.out) | (with_reducible refine Kd.C_alloc ?_ _) | (with_reducible refine Kd.C_drewN ?_ _) | (with_reducible refine Kd.C_drew ?_))); (case side2 => exact HC0_1.out); rintro e w27 ⟨rfl, hb⟩; have n0_ := Aside0.mk (blk_below (g := gb557) (o := .cells #[.int .i64 a0_0, .slice A0_1 l0_1.length c0_1] 51 (0, 0)) (by (with_reducible repeat (first | refine blk_drewN ?_ _ | refine blk_drew ?_ | refine blk_alloc ?_ _)); exact BK557.out) hb); have n1_ := Aside0.mk (below_step (by repeat (first | (with_reducible first | exact HB.out | apply below_alloc | apply pw_below_drewN | apply below_drew1 | refine below_set ?_ GE557.out) | exact HB.out)) hb); clear BK557; clear HB; have BK557 := n0_; have HB := n1_; clear n0_ n1_; (try clear hb); (try clear hb2); (try clear hk); (try clear hi); have hcz28_0 : w27.cell? ⟨gb557, 0, none⟩ = some (.int .i64 a0_0) := (blk_cell BK557.out 0).trans rfl; have hcz28_1 : w27.cell? ⟨gb557, 1, none⟩ = some (.slice A0_1 l0_1.length c0_1) := (blk_cell BK557.out 1).trans rfl; have hfz28_0 := blk_frozen BK557.out 0; have hfz28_1 := blk_frozen BK557.out 1) | ((with_reducible refine gate_callee (f := 72) rfl ?_); refine goesL_ (some 45) rfl rfl Try.func72 (by kernel_rfl) rfl #[.agg #[.int .i64 a0_0, .slice A0_1 l0_1.length c0_1], .int .i64 x17_1] rfl (by (try simp only [List.map_toArray, List.map_cons, List.map_nil]); first | done | rfl | (simp only [List.length_drop, List.length_take]; rfl)) ?_; (with_reducible refine (impl_Net_cut.calls k1 a0_0 _ _ l0_1 x17_1 t561 _ ?side1 ?side2 A25.out).mono ?_); (case side1 => repeat (first | exact (Kd.C_below HR0_1.out HB.out) | (with_reducible refine Kd.C_alloc ?_ _) | (with_reducible refine Kd.C_drewN ?_ _) | (with_reducible refine Kd.C_drew ?_))); (case side2 => exact HC0_1.out); rintro e w29 ⟨rfl, hb⟩; refine ⟨_, rfl, ?_⟩; have n0_ := Aside0.mk (blk_below (g := gb557) (o := .cells #[.int .i64 a0_0, .slice A0_1 l0_1.length c0_1] 51 (0, 0)) (by (with_reducible repeat (first | refine blk_drewN ?_ _ | refine blk_drew ?_ | refine blk_alloc ?_ _)); exact BK557.out) hb); have n1_ := Aside0.mk (below_step (by repeat (first | (with_reducible first | exact HB.out | apply below_alloc | apply pw_below_drewN | apply below_drew1 | refine below_set ?_ GE557.out) | exact HB.out)) hb); clear BK557; clear HB; have BK557 := n0_; have HB := n1_; clear n0_ n1_; (try clear hb); (try clear hb2); (try clear hk); (try clear hi)))
                        go_roundg k1
                        case measure => have := HK1.out; omega
                        case rel => exact ⟨(t561), (wrap64 (x17_1 + 1)), (by first | rfl | (simp; done) | (simp [*]; done)), (by first | rfl | (simp; done) | (simp [*]; done)), H', ⟨by have := HK1.out; omega⟩, ⟨by (with_reducible repeat (first | refine blk_drewN ?_ _ | refine blk_drew ?_ | refine blk_alloc ?_ _)); exact BK557.out⟩, ⟨by repeat (first | (with_reducible first | exact HB.out | apply below_alloc | apply pw_below_drewN | apply below_drew1 | refine below_set ?_ GE557.out) | exact HB.out)⟩⟩
                      · rw [if_neg c24] at H
                        have c24b0 : decide (t560 < x7_1) = false := decide_eq_false c24
                        clear c24
                        have H' := Aside0.mk H
                        clear H
                        have hcz30_0 : wr.cell? ⟨gb557, 0, none⟩ = some (.int .i64 a0_0) := (blk_cell BK557.out 0).trans rfl
                        have hcz30_1 : wr.cell? ⟨gb557, 1, none⟩ = some (.slice A0_1 l0_1.length c0_1) := (blk_cell BK557.out 1).trans rfl
                        have hfz30_0 := blk_frozen BK557.out 0
                        have hfz30_1 := blk_frozen BK557.out 1
                        go_wp2_with (first | (go_at_call 72; (with_reducible refine (impl_Net_cut.calls k1 a0_0 _ _ l0_1 x17_1 t560 _ ?side1 ?side2 A23.out).mono ?_); (case side1 => repeat (first | exact (Kd.C_below HR0_1.out HB.out) | (with_reducible refine Kd.C_alloc ?_ _) | (with_reducible refine Kd.C_drewN ?_ _) | (with_reducible refine Kd.C_drew ?_))); (case side2 => exact HC0_1.out); rintro e w31 ⟨rfl, hb⟩; have n0_ := Aside0.mk (blk_below (g := gb557) (o := .cells #[.int .i64 a0_0, .slice A0_1 l0_1.length c0_1] 51 (0, 0)) (by (with_reducible repeat (first | refine blk_drewN ?_ _ | refine blk_drew ?_ | refine blk_alloc ?_ _)); exact BK557.out) hb); have n1_ := Aside0.mk (below_step (by repeat (first | (with_reducible first | exact HB.out | apply below_alloc | apply pw_below_drewN | apply below_drew1 | refine below_set ?_ GE557.out) | exact HB.out)) hb); clear BK557; clear HB; have BK557 := n0_; have HB := n1_; clear n0_ n1_; (try clear hb); (try clear hb2); (try clear hk); (try clear hi)))
                        go_roundg k1
                        case measure => have := HK1.out; omega
                        case rel => exact ⟨(x7_1), (wrap64 (x17_1 + 1)), (by first | rfl | (simp; done) | (simp [*]; done)), (by first | rfl | (simp; done) | (simp [*]; done)), H', ⟨by have := HK1.out; omega⟩, ⟨by (with_reducible repeat (first | refine blk_drewN ?_ _ | refine blk_drew ?_ | refine blk_alloc ?_ _)); exact BK557.out⟩, ⟨by repeat (first | (with_reducible first | exact HB.out | apply below_alloc | apply pw_below_drewN | apply below_drew1 | refine below_set ?_ GE557.out) | exact HB.out)⟩⟩
                  · rw [if_neg c18] at H
                    have c18b0 : ((Go.bits .and .i64 (ji17) 1) == 0) = false := beq_eq_false_iff_ne.mpr c18
                    have c18b1 : ((Go.bits .and .i64 (ji17) 1) != 0) = true := bne_iff_ne.mpr c18
                    have H' := Aside0.mk H
                    clear H
                    go_wp2
                    go_roundg k1
                    case measure => have := HK1.out; omega
                    case rel => exact ⟨(x7_1), (wrap64 (x17_1 + 1)), (by first | rfl | (simp; done) | (simp [*]; done)), (by first | rfl | (simp; done) | (simp [*]; done)), H', ⟨by have := HK1.out; omega⟩, ⟨by (with_reducible repeat (first | refine blk_drewN ?_ _ | refine blk_drew ?_ | refine blk_alloc ?_ _)); exact BK557.out⟩, ⟨by repeat (first | (with_reducible first | exact HB.out | apply below_alloc | apply pw_below_drewN | apply below_drew1 | refine below_set ?_ GE557.out) | exact HB.out)⟩⟩
                · rw [if_neg c16] at H
                  exact absurd H (by simp)
              · rw [if_neg c15] at H
                have c15b0 : ((Go.bits .and .i64 (ji14) 1) == 1) = false := beq_eq_false_iff_ne.mpr c15
                have c15b1 : ((Go.bits .and .i64 (ji14) 1) != 1) = true := bne_iff_ne.mpr c15
                have H' := Aside0.mk H
                clear H
                go_wp2
                go_roundg k1
                case measure => have := HK1.out; omega
                case rel => exact ⟨(x7_1), (wrap64 (x17_1 + 1)), (by first | rfl | (simp; done) | (simp [*]; done)), (by first | rfl | (simp; done) | (simp [*]; done)), H', ⟨by have := HK1.out; omega⟩, ⟨by (with_reducible repeat (first | refine blk_drewN ?_ _ | refine blk_drew ?_ | refine blk_alloc ?_ _)); exact BK557.out⟩, ⟨by repeat (first | (with_reducible first | exact HB.out | apply below_alloc | apply pw_below_drewN | apply below_drew1 | refine below_set ?_ GE557.out) | exact HB.out)⟩⟩
            · rw [if_neg c13] at H
              exact absurd H (by simp)
          · rw [if_neg c12] at H
            have c12b0 : decide (x17_1 < ji7) = false := decide_eq_false c12
            clear c12
            obtain rfl := Option.some.inj H
            go_wp2
            go_ret
            exact ⟨by first | rfl | (simp [errW_none, errW_some] <;> rfl) | (simp only [← hji7]; first | rfl | (simp [errW_none, errW_some] <;> rfl)) | (simp [*, errW_none, errW_some] <;> rfl), by repeat (first | (with_reducible first | exact HB.out | apply below_alloc | apply pw_below_drewN | apply below_drew1 | refine below_set ?_ GE557.out) | exact HB.out)⟩
    · rw [if_neg c6] at H
      exact absurd H (by simp)
  · replace c5 := Bool.eq_false_iff.mpr c5
    subst c5
    have H1 : (some (-1)) = some r := by rw [if_neg (show ¬ (false = true) by decide)] at H; exact H
    clear H
    have H := H1
    clear H1
    obtain rfl := Option.some.inj H
    go_enter Try.func34, Try.ntmps34
    go_wp2_with (first | ((with_reducible refine gate_dst (N := 3) rfl ?_); refine box_event ?hg (N := 3) ?hd (cs := #[.int .i64 a0_0, .slice A0_1 l0_1.length c0_1]) (t := 51) ?hr ?_; (case hd => rfl); (case hg => rfl); (case hr => first | (go_simp; done) | (go_simp; rfl)); intro gb557 hg w32 hbox hb; have n0_ := Aside0.mk (below_step (by repeat (first | (with_reducible first | exact HB.out | apply below_alloc | apply pw_below_drewN | apply below_drew1) | exact HB.out)) hb); have n1_ := Aside0.mk (hbox); have n2_ := Aside0.mk ((by rw [hg]; exact (below_size (by repeat (first | (with_reducible first | exact HB.out | apply below_alloc | apply pw_below_drewN | apply below_drew1) | exact HB.out))) : w.heap.size ≤ gb557)); have n3_ := Aside0.mk ((by rw [hg]; exact (below_size (by repeat (first | (with_reducible first | exact HB.out | apply below_alloc | apply pw_below_drewN | apply below_drew1) | exact HB.out))) : w.heap.size ≤ gb557)); clear HB; have HB := n0_; have BK557 := n1_; have GW557 := n2_; have GE557 := n3_; clear n0_ n1_ n2_ n3_; clear hb hbox hg; have hcz33_0 : w32.cell? ⟨gb557, 0, none⟩ = some (.int .i64 a0_0) := (blk_cell BK557.out 0).trans rfl; have hcz33_1 : w32.cell? ⟨gb557, 1, none⟩ = some (.slice A0_1 l0_1.length c0_1) := (blk_cell BK557.out 1).trans rfl; have hfz33_0 := blk_frozen BK557.out 0; have hfz33_1 := blk_frozen BK557.out 1) | ((with_reducible refine gate_callee (f := 71) rfl ?_); refine goesL_ (some 12) rfl rfl Try.func71 (by kernel_rfl) rfl #[.agg #[.int .i64 a0_0, .slice A0_1 l0_1.length c0_1], .int .i64 a1, .int .i64 a2] rfl (by (try simp only [List.map_toArray, List.map_cons, List.map_nil]); first | done | rfl | (simp only [List.length_drop, List.length_take]; rfl)) ?_; (with_reducible refine (impl_apart.calls a0_0 _ _ l0_1 a1 a2 false _ ?side1 ?side2 A4.out).mono ?_); (case side1 => repeat (first | exact (Kd.C_below HR0_1.out HB.out) | (with_reducible refine Kd.C_alloc ?_ _) | (with_reducible refine Kd.C_drewN ?_ _) | (with_reducible refine Kd.C_drew ?_))); (case side2 => exact HC0_1.out); rintro e w34 ⟨rfl, hb⟩; refine ⟨_, rfl, ?_⟩; have n0_ := Aside0.mk (blk_below (g := gb557) (o := .cells #[.int .i64 a0_0, .slice A0_1 l0_1.length c0_1] 51 (0, 0)) (by (with_reducible repeat (first | refine blk_drewN ?_ _ | refine blk_drew ?_ | refine blk_alloc ?_ _)); exact BK557.out) hb); have n1_ := Aside0.mk (below_step (by repeat (first | (with_reducible first | exact HB.out | apply below_alloc | apply pw_below_drewN | apply below_drew1 | refine below_set ?_ GE557.out) | exact HB.out)) hb); clear BK557; clear HB; have BK557 := n0_; have HB := n1_; clear n0_ n1_; (try clear hb); (try clear hb2); (try clear hk); (try clear hi)))
    go_ret
    exact ⟨by first | rfl | (simp [errW_none, errW_some] <;> rfl) | (simp [*, errW_none, errW_some] <;> rfl), by repeat (first | (with_reducible first | exact HB.out | apply below_alloc | apply pw_below_drewN | apply below_drew1 | refine below_set ?_ GE557.out) | exact HB.out)⟩

end Go.Proofs.Ytjiiipmeocageaa.Pr
end
section
set_option linter.unusedSimpArgs false
set_option linter.unusedVariables false
namespace Go.Proofs.Ytjiiipmeocageaa.Pure
open Go.RowKit Go.Proofs.Ytjiiipmeocageaa.Pr Go.Proofs.YtjiiipmeocageaaW.PrintWords Go.Proofs.YtjiiipmeocageaaW.PrintLast Go.Proofs.YtjiiipmeocageaaW.PrintMore
/-- Is node v in the set s. -/
def side (s v : Nat) : Bool := s.testBit v
theorem shr_fin : ∀ (s : Fin 256) (v : Fin 8), ((Int.tmod (shr .i64 ((s.val : Nat) : Int) ((v.val : Nat) : Int)) 2) == 1) = s.val.testBit v.val ∧ Go.bits .and .i64 (shr .i64 ((s.val : Nat) : Int) ((v.val : Nat) : Int)) 1 = (if s.val.testBit v.val then 1 else 0) := by decide +kernel
theorem shl_fin : ∀ (v : Fin 9), shl .i64 1 ((v.val : Nat) : Int) = ((2 ^ v.val : Nat) : Int) := by decide +kernel
theorem two8 {v : Nat} (h : v ≤ 8) : 2 ^ v ≤ 256 := by
  have : (2:Nat) ^ v ≤ 2 ^ 8 := Nat.pow_le_pow_right (by omega) h
  omega
theorem side_spec {s v : Nat} (hs : s < 256) (hv : v < 8) : spec_l25Side.f (s : Int) (v : Int) = some (side s v) := by
  unfold spec_l25Side.f side
  rw [if_pos (by omega), (shr_fin ⟨s, hs⟩ ⟨v, hv⟩).1]
theorem side_bits {s v : Nat} (hs : s < 256) (hv : v < 8) : Go.bits .and .i64 (shr .i64 (s : Int) (v : Int)) 1 = if side s v = true then 1 else 0 := (shr_fin ⟨s, hs⟩ ⟨v, hv⟩).2
/-- Does the arc lead out of the set. -/
def outB (s : Nat) (a : Arc) : Bool := side s a.f0.toNat && !side s a.f1.toNat
/-- What may go over the first i arcs out of the set. -/
def cutTo (l : List Arc) (s : Nat) : Nat → Int
  | 0 => 0
  | i + 1 => cutTo l s i + if outB s (arc l i) = true then (arc l i).f4 else 0
theorem cutTo_bd {n : Int} {l : List Arc} (h : NetGood n l) (s : Nat) : ∀ i, i ≤ l.length → 0 ≤ cutTo l s i ∧ cutTo l s i ≤ 9 * (i : Int) := by
  intro i
  induction i with
  | zero => intro _; simp [cutTo]
  | succ i ih =>
    intro hi
    have h1 := ih (by omega)
    have h2 := (h.ok i (by omega)).2.2.2.2.2
    simp only [cutTo]
    split <;> omega
/-- What may go out of the set. -/
def cutOf (l : List Arc) (s : Nat) : Int := cutTo l s l.length
theorem cutOf_bd {n : Int} {l : List Arc} (h : NetGood n l) (s : Nat) : 0 ≤ cutOf l s ∧ cutOf l s ≤ 144 := by
  have := cutTo_bd h s l.length (by omega)
  have := h.len
  unfold cutOf
  omega
theorem node8 {n : Int} {l : List Arc} (h : NetGood n l) {i : Nat} (hi : i < l.length) : (∃ v : Nat, (arc l i).f0 = (v : Int) ∧ v < 8) ∧ ∃ v : Nat, (arc l i).f1 = (v : Int) ∧ v < 8 := by
  have h1 := h.ok i hi
  have := h.n8
  exact ⟨⟨(arc l i).f0.toNat, by omega, by omega⟩, ⟨(arc l i).f1.toNat, by omega, by omega⟩⟩
theorem specCut_l {n : Int} {l : List Arc} (hg : NetGood n l) {s : Nat} (hs : s < 256) : ∀ (m i : Nat), l.length - i = m → i ≤ l.length → Ev (fun k => spec_l25Cut.l0 k (s : Int) (cutTo l s i) (i : Int) n l) (cutOf l s) := by
  have h16 := hg.len
  intro m
  induction m with
  | zero =>
    intro i hd hi
    refine Ev.go ?_ (fun k => by rw [spec_l25Cut.l0])
    have e : i = l.length := by omega
    subst e
    exact Ev.neg (by omega) (Ev.now _)
  | succ m ih =>
    intro i hd hi
    have hlt : i < l.length := by omega
    have hn := ih (i + 1) (by omega) (by omega)
    refine Ev.go ?_ (fun k => by rw [spec_l25Cut.l0])
    refine Ev.pos (by omega) (Ev.pos (by omega) ?_)
    obtain ⟨⟨v0, e0, h0⟩, v1, e1, h1⟩ := node8 hg hlt
    have hw : wrap64 (cutTo l s i + (arc l i).f4) = cutTo l s i + (arc l i).f4 := by
      have hb := cutTo_bd hg s i (by omega)
      have hf := (hg.ok i hlt).2.2.2.2.2
      clear hn e0 e1
      generalize cutTo l s i = c at *
      generalize (arc l i).f4 = f at *
      exact w64 (by omega) (by omega)
    have hu := up1 hlt (by simp only [maxLen]; omega)
    rw [rda, e0, e1, hu, hw]
    simp only [cutTo, outB, e0, e1, Int.toNat_natCast] at hn
    refine Ev.bind0 (side_spec hs h0) ?_
    cases c0 : side s v0 with
    | false =>
      rw [c0] at hn
      exact Ev.neg (by simp) (by simpa using hn)
    | true =>
      refine Ev.pos rfl (Ev.bind0 (side_spec hs h1) ?_)
      rw [c0] at hn
      cases c1 : side s v1 with
      | true =>
        rw [c1] at hn
        exact Ev.pos rfl (by simpa using hn)
      | false =>
        rw [c1] at hn
        exact Ev.neg (by simp) (by simpa using hn)
theorem specCut_ev {n : Int} {l : List Arc} (hg : NetGood n l) {s : Nat} (hs : s < 256) : Ev (fun k => spec_l25Cut.f k n l (s : Int)) (cutOf l s) := specCut_l hg hs _ 0 rfl (by omega)
theorem implCut_l {n : Int} {l : List Arc} (hg : NetGood n l) {s : Nat} (hs : s < 256) : ∀ (m i : Nat), l.length - i = m → i ≤ l.length → Ev (fun k => impl_Net_cut.l0 k (s : Int) (cutTo l s i) l (l.length : Int) (i : Int)) (cutOf l s) := by
  have h16 := hg.len
  intro m
  induction m with
  | zero =>
    intro i hd hi
    refine Ev.go ?_ (fun k => by rw [impl_Net_cut.l0])
    have e : i = l.length := by omega
    subst e
    exact Ev.neg (by omega) (Ev.now _)
  | succ m ih =>
    intro i hd hi
    have hlt : i < l.length := by omega
    have hn := ih (i + 1) (by omega) (by omega)
    refine Ev.go ?_ (fun k => by rw [impl_Net_cut.l0])
    refine Ev.pos (by omega) (Ev.pos (by omega) (Ev.pos (by omega) ?_))
    obtain ⟨⟨v0, e0, h0⟩, v1, e1, h1⟩ := node8 hg hlt
    have hw : wrap64 (cutTo l s i + (arc l i).f4) = cutTo l s i + (arc l i).f4 := by
      have hb := cutTo_bd hg s i (by omega)
      have hf := (hg.ok i hlt).2.2.2.2.2
      clear hn e0 e1
      generalize cutTo l s i = c at *
      generalize (arc l i).f4 = f at *
      exact w64 (by omega) (by omega)
    have hu := up1 hlt (by simp only [maxLen]; omega)
    rw [rda, e0, e1, hu, hw, side_bits hs h0, side_bits hs h1]
    simp only [cutTo, outB, e0, e1, Int.toNat_natCast] at hn
    refine Ev.pos (by omega) ?_
    cases c0 : side s v0 with
    | false =>
      rw [c0] at hn
      exact Ev.neg (by simp) (by simpa using hn)
    | true =>
      refine Ev.pos rfl (Ev.pos (by omega) ?_)
      rw [c0] at hn
      cases c1 : side s v1 with
      | true =>
        rw [c1] at hn
        exact Ev.neg (by simp) (by simpa using hn)
      | false =>
        rw [c1] at hn
        exact Ev.pos (by simp) (by simpa using hn)
theorem implCut_ev {n : Int} {l : List Arc} (hg : NetGood n l) {s : Nat} (hs : s < 256) : Ev (fun k => impl_Net_cut.f k n l (s : Int)) (cutOf l s) := implCut_l hg hs _ 0 rfl (by omega)
/-- The least that may go out of a set below s that holds a but not b; -1 if there is none. -/
def mostTo (l : List Arc) (a b : Nat) : Nat → Int
  | 0 => -1
  | s + 1 => if side s a = true then (if side s b = true then mostTo l a b s else if mostTo l a b s < 0 then cutOf l s else if cutOf l s < mostTo l a b s then cutOf l s else mostTo l a b s) else mostTo l a b s
theorem specMost_l {n : Int} {l : List Arc} (hg : NetGood n l) {a b : Nat} (ha : a < 8) (hb : b < 8) {N : Nat} (hN : n = (N : Int)) : ∀ (m s : Nat), 2 ^ N - s = m → s ≤ 2 ^ N → Ev (fun k => spec_FlowMost.l0 k (a : Int) (b : Int) (mostTo l a b s) (s : Int) n l) (mostTo l a b (2 ^ N)) := by
  have hN8 : N ≤ 8 := by have := hg.n8; omega
  have h256 := two8 hN8
  have hsh : shl .i64 1 n = ((2 ^ N : Nat) : Int) := by rw [hN]; exact shl_fin ⟨N, by omega⟩
  intro m
  induction m with
  | zero =>
    intro s hd hi
    refine Ev.go ?_ (fun k => by rw [spec_FlowMost.l0])
    have e : s = 2 ^ N := by omega
    refine Ev.pos (by have := hg.n1; omega) ?_
    rw [hsh]
    subst e
    exact Ev.neg (by omega) (Ev.now _)
  | succ m ih =>
    intro s hd hi
    have hlt : s < 2 ^ N := by omega
    have hn := ih (s + 1) (by omega) (by omega)
    have hu : wrap64 ((s : Int) + 1) = ((s + 1 : Nat) : Int) := up1 hlt (by simp only [maxLen]; omega)
    rw [← hu] at hn
    refine Ev.go ?_ (fun k => by rw [spec_FlowMost.l0])
    refine Ev.pos (by have := hg.n1; omega) ?_
    rw [hsh]
    refine Ev.pos (by omega) (Ev.bind0 (side_spec (by omega) ha) ?_)
    simp only [mostTo] at hn
    cases c0 : side s a with
    | false =>
      rw [c0] at hn
      refine Ev.neg (by simp) (Ev.go ?_ (fun k => by rw [spec_FlowMost.j2]))
      exact Ev.neg (by simp) (by simpa using hn)
    | true =>
      rw [c0] at hn
      refine Ev.pos rfl (Ev.bind0 (side_spec (by omega) hb) (Ev.go ?_ (fun k => by rw [spec_FlowMost.j2])))
      cases c1 : side s b with
      | true =>
        rw [c1] at hn
        exact Ev.neg (by simp) (by simpa using hn)
      | false =>
        rw [c1] at hn
        refine Ev.pos (by simp) (Ev.bind (specCut_ev hg (by omega)) ?_)
        simp only [Bool.false_eq_true, if_false, if_true] at hn
        by_cases c2 : mostTo l a b s < 0
        · rw [if_pos c2] at hn
          exact Ev.pos c2 hn
        · rw [if_neg c2] at hn
          refine Ev.neg c2 ?_
          by_cases c3 : cutOf l s < mostTo l a b s
          · rw [if_pos c3] at hn
            exact Ev.pos c3 hn
          · rw [if_neg c3] at hn
            exact Ev.neg c3 hn
theorem implMost_l {n : Int} {l : List Arc} (hg : NetGood n l) {a b : Nat} (ha : a < 8) (hb : b < 8) {N : Nat} (hN : n = (N : Int)) : ∀ (m s : Nat), 2 ^ N - s = m → s ≤ 2 ^ N → Ev (fun k => impl_FlowMost.l0 k (a : Int) (b : Int) (mostTo l a b s) ((2 ^ N : Nat) : Int) (s : Int) n l) (mostTo l a b (2 ^ N)) := by
  have hN8 : N ≤ 8 := by have := hg.n8; omega
  have h256 := two8 hN8
  intro m
  induction m with
  | zero =>
    intro s hd hi
    refine Ev.go ?_ (fun k => by rw [impl_FlowMost.l0])
    have e : s = 2 ^ N := by omega
    subst e
    exact Ev.neg (by omega) (Ev.now _)
  | succ m ih =>
    intro s hd hi
    have hlt : s < 2 ^ N := by omega
    have hn := ih (s + 1) (by omega) (by omega)
    have hu : wrap64 ((s : Int) + 1) = ((s + 1 : Nat) : Int) := up1 hlt (by simp only [maxLen]; omega)
    rw [← hu] at hn
    refine Ev.go ?_ (fun k => by rw [impl_FlowMost.l0])
    rw [side_bits (by omega) ha, side_bits (by omega) hb]
    refine Ev.pos (by omega) (Ev.pos (by omega) ?_)
    simp only [mostTo] at hn
    cases c0 : side s a with
    | false =>
      rw [c0] at hn
      exact Ev.neg (by simp) (by simpa using hn)
    | true =>
      rw [c0] at hn
      refine Ev.pos rfl (Ev.pos (by omega) ?_)
      cases c1 : side s b with
      | true =>
        rw [c1] at hn
        exact Ev.neg (by simp) (by simpa using hn)
      | false =>
        rw [c1] at hn
        refine Ev.pos (by simp) ?_
        simp only [Bool.false_eq_true, if_false, if_true] at hn
        by_cases c2 : mostTo l a b s < 0
        · rw [if_pos c2] at hn
          exact Ev.pos c2 (Ev.bind (implCut_ev hg (by omega)) hn)
        · rw [if_neg c2] at hn
          refine Ev.neg c2 (Ev.bind (implCut_ev hg (by omega)) ?_)
          by_cases c3 : cutOf l s < mostTo l a b s
          · rw [if_pos c3] at hn
            exact Ev.pos c3 (Ev.bind (implCut_ev hg (by omega)) hn)
          · rw [if_neg c3] at hn
            exact Ev.neg c3 hn
/-- What FlowMost answers. -/
def mostB (n : Int) (l : List Arc) (a b : Int) : Bool := netOkB n l && (okN n a && (okN n b && (a != b)))
def mostV (n : Int) (l : List Arc) (a b : Int) : Int := if mostB n l a b = true then mostTo l a.toNat b.toNat (2 ^ n.toNat) else -1
theorem mostB_iff (n : Int) (l : List Arc) (a b : Int) : mostB n l a b = true ↔ NetGood n l ∧ (0 ≤ a ∧ a < n) ∧ (0 ≤ b ∧ b < n) ∧ a ≠ b := by
  simp only [mostB, Bool.and_eq_true, netOkB_iff, okN, decide_eq_true_eq, bne_iff_ne]
  constructor
  · rintro ⟨h1, ⟨h2, h3⟩, ⟨h4, h5⟩, h6⟩
    exact ⟨h1, ⟨h2, by omega⟩, ⟨h4, by omega⟩, h6⟩
  · rintro ⟨h1, ⟨h2, h3⟩, ⟨h4, h5⟩, h6⟩
    exact ⟨h1, ⟨h2, by omega⟩, ⟨h4, by omega⟩, h6⟩
theorem inB_okN {n : Int} {l : List Arc} (h : NetGood n l) (a : Int) : inB a 0 (wrap64 (n - 1)) = okN n a := by
  have := h.n1
  have := h.n8
  rw [w64 (by omega) (by omega)]
  rfl
theorem specMost_ev (n : Int) (l : List Arc) (a b : Int) (hm : l.length ≤ maxLen) : Ev (fun k => spec_FlowMost.f k n l a b) (mostV n l a b) := by
  unfold spec_FlowMost.f
  refine Ev.bind (l1Ok_ev n l hm) ?_
  have key : ∀ x : Bool, x = mostB n l a b → Ev (fun k => spec_FlowMost.j0 k a b (-1) (!x) n l) (mostV n l a b) := by
    intro x hx
    refine Ev.go ?_ (fun k => by rw [spec_FlowMost.j0])
    unfold mostV
    rw [← hx]
    cases x with
    | false => exact Ev.pos rfl (Ev.now _)
    | true =>
      obtain ⟨hg, ha, hb, hne⟩ := (mostB_iff n l a b).1 hx.symm
      have h8 := hg.n8
      refine Ev.neg (by simp) ?_
      rw [if_pos rfl]
      have := specMost_l hg (a := a.toNat) (b := b.toNat) (by omega) (by omega) (N := n.toNat) (by omega) _ 0 rfl (Nat.zero_le _)
      rwa [show ((a.toNat : Nat) : Int) = a by omega, show ((b.toNat : Nat) : Int) = b by omega] at this
  cases c0 : netOkB n l with
  | false => exact Ev.neg (by simp) (key false (by simp [mostB, c0]))
  | true =>
    have hg := (netOkB_iff n l).1 c0
    refine Ev.pos rfl (Ev.bind0 (in1 _ _ _) ?_)
    rw [inB_okN hg]
    cases c1 : okN n a with
    | false => exact Ev.neg (by simp) (key false (by simp [mostB, c1]))
    | true =>
      refine Ev.pos rfl (Ev.bind0 (in1 _ _ _) ?_)
      rw [inB_okN hg]
      cases c2 : okN n b with
      | false => exact Ev.neg (by simp) (key false (by simp [mostB, c2]))
      | true =>
        refine Ev.pos rfl ?_
        have := key (a != b) (by simp [mostB, c0, c1, c2])
        have e : (a == b) = !(a != b) := by simp [bne]
        rw [e]
        exact this
theorem implMost_ev (n : Int) (l : List Arc) (a b : Int) : Ev (fun k => impl_FlowMost.f k n l a b) (mostV n l a b) := by
  unfold impl_FlowMost.f
  refine Ev.bind0 (apart_eq n l a b) ?_
  unfold mostV
  change Ev (fun k => if mostB n l a b = true then _ else _) _
  cases hx : mostB n l a b with
  | false => exact Ev.neg (by simp) (Ev.now _)
  | true =>
    obtain ⟨hg, ha, hb, hne⟩ := (mostB_iff n l a b).1 hx
    have h1 := hg.n1
    have h8 := hg.n8
    refine Ev.pos rfl (Ev.pos (by omega) ?_)
    rw [if_pos rfl]
    have := implMost_l hg (a := a.toNat) (b := b.toNat) (by omega) (by omega) (N := n.toNat) (by omega) _ 0 rfl (Nat.zero_le _)
    rw [show ((a.toNat : Nat) : Int) = a by omega, show ((b.toNat : Nat) : Int) = b by omega] at this
    have hsh : shl .i64 1 n = ((2 ^ n.toNat : Nat) : Int) := by
      have := shl_fin ⟨n.toNat, by omega⟩
      rwa [show ((n.toNat : Nat) : Int) = n by omega] at this
    rw [hsh]
    exact this
end Go.Proofs.Ytjiiipmeocageaa.Pure
end
section
namespace Go.Proofs.Ytjiiipmeocageaa.Pr
open Go.RowKit Go.Proofs.YtjiiipmeocageaaW.PrintWords Go.Proofs.YtjiiipmeocageaaW.PrintLast Go.Proofs.YtjiiipmeocageaaW.PrintMore
attribute [local go_sem] max2_int min2_int max_two min_two max_three min_three max_four min_four   -- for this text's walks alone
set_option linter.unusedVariables false
set_option linter.unusedSimpArgs false

/-! ### laws_szIntS: function 49 -/
def laws_szIntS.f (l0 : List Int) (a1 : Int) : Option (Int) := if (wrap64 (a1 - (l0.length : Int))) < 0 then (some (-1)) else (some (wrap64 (a1 - (l0.length : Int))))
set_option maxHeartbeats 8000000 in
set_option maxRecDepth 100000 in
theorem laws_szIntS.calls (A0 : Option Addr) (c0 : Nat) (l0 : List Int) (a1 : Int) (r : Int) (w : World) (hr0 : Kd.C (Kd.int .i64) w A0 l0.length l0) (hc0 : l0.length ≤ c0) (h : laws_szIntS.f l0 a1 = some r) :
    Calls Try.prog 49 #[.slice A0 l0.length c0, .int .i64 a1] w fun e w' => e = .returned (.int .i64 r) ∧ Drawn0 w w' := by
  have HR0 := Aside0.mk hr0
  have HC0 := Aside0.mk hc0
  clear hr0 hc0
  have H : (if (wrap64 (a1 - (l0.length : Int))) < 0 then (some (-1)) else (some (wrap64 (a1 - (l0.length : Int))))) = some r := h
  clear h
  by_cases c3 : (wrap64 (a1 - (l0.length : Int))) < 0
  · rw [if_pos c3] at H
    have c3b0 : decide ((wrap64 (a1 - (l0.length : Int))) < 0) = true := decide_eq_true c3
    clear c3
    obtain rfl := Option.some.inj H
    go_enter Try.func49, Try.ntmps49
    go_wp2
    go_ret
    exact ⟨by first | rfl | (simp; done) | (simp [*]; done), by repeat (first | exact Drawn0.refl _ | apply Drawn0.step)⟩
  · rw [if_neg c3] at H
    have c3b0 : decide ((wrap64 (a1 - (l0.length : Int))) < 0) = false := decide_eq_false c3
    clear c3
    obtain rfl := Option.some.inj H
    go_enter Try.func49, Try.ntmps49
    go_wp2
    go_ret
    exact ⟨by first | rfl | (simp; done) | (simp [*]; done), by repeat (first | exact Drawn0.refl _ | apply Drawn0.step)⟩

end Go.Proofs.Ytjiiipmeocageaa.Pr
end
section
namespace Go.Proofs.Ytjiiipmeocageaa.Pr
open Go.RowKit Go.Proofs.YtjiiipmeocageaaW.PrintWords Go.Proofs.YtjiiipmeocageaaW.PrintLast Go.Proofs.YtjiiipmeocageaaW.PrintMore
attribute [local go_sem] max2_int min2_int max_two min_two max_three min_three max_four min_four   -- for this text's walks alone
set_option linter.unusedVariables false
set_option linter.unusedSimpArgs false

/-! ### laws_szFare: function 17 -/
def laws_szFare.f (l0_0 : List Int) (a0_1 : Int) (a0_2 : Int) (a1 : Int) : Option (Int) := (laws_szIntS.f l0_0 a1).bind fun t135 => (if t135 < 0 then (some (-1)) else (some t135))
set_option maxHeartbeats 8000000 in
set_option maxRecDepth 100000 in
theorem laws_szFare.calls (A0_0 : Option Addr) (c0_0 : Nat) (l0_0 : List Int) (a0_1 : Int) (a0_2 : Int) (a1 : Int) (r : Int) (w : World) (hr0_0 : Kd.C (Kd.int .i64) w A0_0 l0_0.length l0_0) (hc0_0 : l0_0.length ≤ c0_0) (h : laws_szFare.f l0_0 a0_1 a0_2 a1 = some r) :
    Calls Try.prog 17 #[.agg #[.slice A0_0 l0_0.length c0_0, .int .i64 a0_1, .int .i64 a0_2], .int .i64 a1] w fun e w' => e = .returned (.int .i64 r) ∧ Below w.heap.size w w' := by
  have hu34 := Try.underlying34
  have HR0_0 := Aside0.mk hr0_0
  have HC0_0 := Aside0.mk hc0_0
  clear hr0_0 hc0_0
  have HB := Aside0.mk (Below.refl w.heap.size w)
  have H : ((laws_szIntS.f l0_0 a1).bind fun t135 => (if t135 < 0 then (some (-1)) else (some t135))) = some r := h
  clear h
  replace H := Option.bind_eq_some_iff.mp H
  obtain ⟨t135, A30, H⟩ := H
  replace H : (if t135 < 0 then (some (-1)) else (some t135)) = some r := H
  have A3 := Aside0.mk A30
  clear A30
  by_cases c4 : t135 < 0
  · rw [if_pos c4] at H
    have c4b0 : decide (t135 < 0) = true := decide_eq_true c4
    clear c4
    obtain rfl := Option.some.inj H
    go_enter Try.func17, Try.ntmps17
    go_wp2_with (first | ((with_reducible refine gate_dst (N := 2) rfl ?_); refine box_event ?hg (N := 2) ?hd (cs := #[.slice A0_0 l0_0.length c0_0, .int .i64 a0_1, .int .i64 a0_2]) (t := 34) ?hr ?_; (case hd => rfl); (case hg => rfl); (case hr => first | (go_simp; done) | (go_simp; rfl)); intro gb134 hg w5 hbox hb; have n0_ := Aside0.mk (below_step (by repeat (first | (with_reducible first | exact HB.out | apply below_alloc | apply pw_below_drewN | apply below_drew1) | exact HB.out)) hb); have n1_ := Aside0.mk (hbox); have n2_ := Aside0.mk ((by rw [hg]; exact (below_size (by repeat (first | (with_reducible first | exact HB.out | apply below_alloc | apply pw_below_drewN | apply below_drew1) | exact HB.out))) : w.heap.size ≤ gb134)); have n3_ := Aside0.mk ((by rw [hg]; exact (below_size (by repeat (first | (with_reducible first | exact HB.out | apply below_alloc | apply pw_below_drewN | apply below_drew1) | exact HB.out))) : w.heap.size ≤ gb134)); clear HB; have HB := n0_; have BK134 := n1_; have GW134 := n2_; have GE134 := n3_; clear n0_ n1_ n2_ n3_; clear hb hbox hg; have hcz6_0 : w5.cell? ⟨gb134, 0, none⟩ = some (.slice A0_0 l0_0.length c0_0) := (blk_cell BK134.out 0).trans rfl; have hcz6_1 : w5.cell? ⟨gb134, 1, none⟩ = some (.int .i64 a0_1) := (blk_cell BK134.out 1).trans rfl; have hcz6_2 : w5.cell? ⟨gb134, 2, none⟩ = some (.int .i64 a0_2) := (blk_cell BK134.out 2).trans rfl; have hfz6_0 := blk_frozen BK134.out 0; have hfz6_1 := blk_frozen BK134.out 1; have hfz6_2 := blk_frozen BK134.out 2) | ((with_reducible refine gate_callee (f := 49) rfl ?_); refine goesL_ (some 8) rfl rfl Try.func49 (by kernel_rfl) rfl #[.slice A0_0 l0_0.length c0_0, .int .i64 a1] rfl (by (try simp only [List.map_toArray, List.map_cons, List.map_nil]); first | done | rfl | (simp only [List.length_drop, List.length_take]; rfl)) ?_; (with_reducible refine (laws_szIntS.calls _ _ l0_0 a1 t135 _ ?side1 ?side2 A3.out).mono ?_); (case side1 => repeat (first | exact (Kd.C_below HR0_0.out HB.out) | (with_reducible refine Kd.C_alloc ?_ _) | (with_reducible refine Kd.C_drewN ?_ _) | (with_reducible refine Kd.C_drew ?_))); (case side2 => exact HC0_0.out); rintro e w' ⟨rfl, ⟨nd, rfl⟩⟩; refine ⟨_, rfl, ?_⟩))
    go_ret
    exact ⟨by first | rfl | (simp [errW_none, errW_some] <;> rfl) | (simp [*, errW_none, errW_some] <;> rfl), by repeat (first | (with_reducible first | exact HB.out | apply below_alloc | apply pw_below_drewN | apply below_drew1 | refine below_set ?_ GE134.out) | exact HB.out)⟩
  · rw [if_neg c4] at H
    have c4b0 : decide (t135 < 0) = false := decide_eq_false c4
    clear c4
    obtain rfl := Option.some.inj H
    go_enter Try.func17, Try.ntmps17
    go_wp2_with (first | ((with_reducible refine gate_dst (N := 2) rfl ?_); refine box_event ?hg (N := 2) ?hd (cs := #[.slice A0_0 l0_0.length c0_0, .int .i64 a0_1, .int .i64 a0_2]) (t := 34) ?hr ?_; (case hd => rfl); (case hg => rfl); (case hr => first | (go_simp; done) | (go_simp; rfl)); intro gb134 hg w7 hbox hb; have n0_ := Aside0.mk (below_step (by repeat (first | (with_reducible first | exact HB.out | apply below_alloc | apply pw_below_drewN | apply below_drew1) | exact HB.out)) hb); have n1_ := Aside0.mk (hbox); have n2_ := Aside0.mk ((by rw [hg]; exact (below_size (by repeat (first | (with_reducible first | exact HB.out | apply below_alloc | apply pw_below_drewN | apply below_drew1) | exact HB.out))) : w.heap.size ≤ gb134)); have n3_ := Aside0.mk ((by rw [hg]; exact (below_size (by repeat (first | (with_reducible first | exact HB.out | apply below_alloc | apply pw_below_drewN | apply below_drew1) | exact HB.out))) : w.heap.size ≤ gb134)); clear HB; have HB := n0_; have BK134 := n1_; have GW134 := n2_; have GE134 := n3_; clear n0_ n1_ n2_ n3_; clear hb hbox hg; have hcz8_0 : w7.cell? ⟨gb134, 0, none⟩ = some (.slice A0_0 l0_0.length c0_0) := (blk_cell BK134.out 0).trans rfl; have hcz8_1 : w7.cell? ⟨gb134, 1, none⟩ = some (.int .i64 a0_1) := (blk_cell BK134.out 1).trans rfl; have hcz8_2 : w7.cell? ⟨gb134, 2, none⟩ = some (.int .i64 a0_2) := (blk_cell BK134.out 2).trans rfl; have hfz8_0 := blk_frozen BK134.out 0; have hfz8_1 := blk_frozen BK134.out 1; have hfz8_2 := blk_frozen BK134.out 2) | ((with_reducible refine gate_callee (f := 49) rfl ?_); refine goesL_ (some 8) rfl rfl Try.func49 (by kernel_rfl) rfl #[.slice A0_0 l0_0.length c0_0, .int .i64 a1] rfl (by (try simp only [List.map_toArray, List.map_cons, List.map_nil]); first | done | rfl | (simp only [List.length_drop, List.length_take]; rfl)) ?_; (with_reducible refine (laws_szIntS.calls _ _ l0_0 a1 t135 _ ?side1 ?side2 A3.out).mono ?_); (case side1 => repeat (first | exact (Kd.C_below HR0_0.out HB.out) | (with_reducible refine Kd.C_alloc ?_ _) | (with_reducible refine Kd.C_drewN ?_ _) | (with_reducible refine Kd.C_drew ?_))); (case side2 => exact HC0_0.out); rintro e w' ⟨rfl, ⟨nd, rfl⟩⟩; refine ⟨_, rfl, ?_⟩))
    go_ret
    exact ⟨by first | rfl | (simp [errW_none, errW_some] <;> rfl) | (simp [*, errW_none, errW_some] <;> rfl), by repeat (first | (with_reducible first | exact HB.out | apply below_alloc | apply pw_below_drewN | apply below_drew1 | refine below_set ?_ GE134.out) | exact HB.out)⟩

end Go.Proofs.Ytjiiipmeocageaa.Pr
end
section
set_option linter.unusedSimpArgs false
set_option linter.unusedVariables false
namespace Go.Proofs.Ytjiiipmeocageaa.Pure
open Go.RowKit Go.Proofs.Ytjiiipmeocageaa.Pr Go.Proofs.YtjiiipmeocageaaW.PrintWords Go.Proofs.YtjiiipmeocageaaW.PrintLast Go.Proofs.YtjiiipmeocageaaW.PrintMore
theorem toIntS_l (l : List Int) (hm : l.length ≤ maxLen) : ∀ (d i : Nat) (x : List Int), l.length - i = d → i ≤ l.length → x.length = l.length → x.take i = l.take i → Ev (fun k => laws_toIntS.l0 k l x (i : Int)) l := by
  intro d
  induction d with
  | zero =>
    intro i x hd hi hx ht
    refine Ev.go ?_ (fun k => by rw [laws_toIntS.l0])
    refine Ev.neg (by omega) (Ev.is ?_)
    have e : i = l.length := by omega
    subst e
    rwa [List.take_of_length_le (by omega), List.take_of_length_le (by omega)] at ht
  | succ d ih =>
    intro i x hd hi hx ht
    have hlt : i < l.length := by omega
    refine Ev.go ?_ (fun k => by rw [laws_toIntS.l0])
    refine Ev.pos (by omega) (Ev.pos (by omega) (Ev.pos (by omega) ?_))
    rw [up1 hlt hm, rdn hlt]
    refine ih (i + 1) _ (by omega) (by omega) (by simp [hx]) ?_
    simp only [Int.toNat_natCast]
    rw [List.take_succ_eq_append_getElem hlt, List.take_succ_eq_append_getElem (by simp; omega), List.take_set_of_le (Nat.le_refl _), ht]
    simp
theorem toIntS_ev (l : List Int) (hm : l.length ≤ 35184372088832) : Ev (fun k => laws_toIntS.f k l) l := by
  unfold laws_toIntS.f
  refine Ev.pos (by omega) (Ev.pos (by simp; omega) ?_)
  exact toIntS_l l (by simp only [maxLen]; omega) _ 0 _ rfl (by omega) (by simp) (by simp)
theorem eqIntS_l (l : List Int) (hm : l.length ≤ maxLen) : ∀ (d i : Nat), l.length - i = d → i ≤ l.length → Ev (fun k => laws_eqIntS.l0 k l l (i : Int)) true := by
  intro d
  induction d with
  | zero =>
    intro i hd hi
    refine Ev.go ?_ (fun k => by rw [laws_eqIntS.l0])
    exact Ev.neg (by omega) (Ev.now _)
  | succ d ih =>
    intro i hd hi
    have hlt : i < l.length := by omega
    refine Ev.go ?_ (fun k => by rw [laws_eqIntS.l0])
    refine Ev.pos (by omega) (Ev.pos (by omega) (Ev.pos (by omega) (Ev.pos rfl ?_)))
    rw [up1 hlt hm]
    exact ih (i + 1) (by omega) (by omega)
theorem eqIntS_ev (l : List Int) (hm : l.length ≤ maxLen) : Ev (fun k => laws_eqIntS.f k l l) true := by
  unfold laws_eqIntS.f
  exact Ev.pos rfl (eqIntS_l l hm _ 0 rfl (by omega))
theorem szIntS_eq (l : List Int) (a : Int) (ha : -1 ≤ a) (ha' : a ≤ 1048576) (hm : l.length ≤ maxLen) : laws_szIntS.f l a = some (if a - (l.length : Int) < 0 then -1 else a - (l.length : Int)) := by
  simp only [maxLen] at hm
  unfold laws_szIntS.f
  rw [w64 (by omega) (by omega)]
  split <;> rfl
theorem szFare_eq (l : List Int) (d w a : Int) (ha : -1 ≤ a) (ha' : a ≤ 1048576) (hm : l.length ≤ maxLen) : laws_szFare.f l d w a = some (if a - (l.length : Int) < 0 then -1 else a - (l.length : Int)) := by
  unfold laws_szFare.f
  rw [szIntS_eq l a ha ha' hm]
  simp only [Option.bind_some]
  split <;> simp <;> omega
end Go.Proofs.Ytjiiipmeocageaa.Pure
end
section
set_option linter.unusedSimpArgs false
set_option linter.unusedVariables false
namespace Go.Proofs.Ytjiiipmeocageaa.Pure
open Go.RowKit Go.Proofs.Ytjiiipmeocageaa.Pr Go.Proofs.YtjiiipmeocageaaW.PrintWords Go.Proofs.YtjiiipmeocageaaW.PrintLast Go.Proofs.YtjiiipmeocageaaW.PrintMore
/-- What goes out of each node less what comes in, when the first i arcs carry what x tells (numbers wrap as Go's do). -/
def netTo (n : Int) (l : List Arc) (x : List Int) : Nat → List Int
  | 0 => List.replicate n.toNat 0
  | i + 1 =>
    let y := (netTo n l x i).set (arc l i).f0.toNat (wrap64 (rd (netTo n l x i) (arc l i).f0 + nth x i))
    y.set (arc l i).f1.toNat (wrap64 (rd y (arc l i).f1 - nth x i))
theorem netTo_len (n : Int) (l : List Arc) (x : List Int) (i : Nat) : (netTo n l x i).length = n.toNat := by
  induction i with
  | zero => simp [netTo]
  | succ i ih => simp [netTo, ih]
/-- Are all nodes from v on but a and b even. -/
def EvenFrom (y : List Int) (a b : Int) (v : Nat) : Prop := ∀ j, j < y.length → v ≤ j → nth y j = 0 ∨ (j : Int) = a ∨ (j : Int) = b
def FitsFrom (l : List Arc) (x : List Int) (i : Nat) : Prop := ∀ j, j < l.length → i ≤ j → 0 ≤ nth x j ∧ nth x j ≤ (arc l j).f4
/-- What FlowValue answers. -/
def ValueOk (n : Int) (l : List Arc) (x : List Int) (a b : Int) : Prop := FitsFrom l x 0 ∧ EvenFrom (netTo n l x l.length) a b 0
open Classical in
noncomputable def valueV (n : Int) (l : List Arc) (x : List Int) (a b : Int) : Int × Bool := if mostB n l a b = true ∧ x.length = l.length ∧ ValueOk n l x a b then (rd (netTo n l x l.length) a, true) else (0, false)
open Classical in
theorem specEven_l {n : Int} {l : List Arc} (hg : NetGood n l) {a b : Int} (ha : 0 ≤ a ∧ a < n) (y : List Int) (hy : y.length = n.toNat) : ∀ (m v : Nat), y.length - v = m → v ≤ y.length → Ev (fun k => spec_l25Ok.l1 k a b y (v : Int) n l) (if EvenFrom y a b v then (rd y a, true) else (0, false)) := by
  have h8 := hg.n8
  have h1 := hg.n1
  intro m
  induction m with
  | zero =>
    intro v hd hi
    refine Ev.go ?_ (fun k => by rw [spec_l25Ok.l1])
    refine Ev.neg (by omega) (Ev.pos (by omega) (Ev.pos (by omega) ?_))
    rw [if_pos (show EvenFrom y a b v from fun j h1 h2 => absurd h1 (by omega))]
    exact Ev.now _
  | succ m ih =>
    intro v hd hi
    have hlt : v < y.length := by omega
    have hn := ih (v + 1) (by omega) (by omega)
    have step : EvenFrom y a b v ↔ (nth y v = 0 ∨ (v : Int) = a ∨ (v : Int) = b) ∧ EvenFrom y a b (v + 1) := by
      constructor
      · exact fun h => ⟨h v hlt (Nat.le_refl _), fun j hj hij => h j hj (by omega)⟩
      · intro h j hj hij
        by_cases e : j = v
        · subst e; exact h.1
        · exact h.2 j hj (by omega)
    rw [← up1 hlt (by simp only [maxLen]; omega)] at hn
    refine Ev.go ?_ (fun k => by rw [spec_l25Ok.l1])
    refine Ev.pos (by omega) (Ev.pos (by omega) (Ev.pos (by omega) ?_))
    rw [rdg v]
    by_cases c0 : nth y v = 0
    · exact Ev.pos c0 (hn.cast (by rw [step]; simp [c0]))
    · refine Ev.neg c0 ?_
      by_cases c1 : (v : Int) = a
      · exact Ev.pos c1 (hn.cast (by rw [step]; simp [c1]))
      · refine Ev.neg c1 ?_
        by_cases c2 : (v : Int) = b
        · exact Ev.pos c2 (hn.cast (by rw [step]; simp [c2]))
        · exact Ev.neg c2 (Ev.is (by rw [step]; simp [c0, c1, c2]))
open Classical in
theorem specVal_l {n : Int} {l : List Arc} (hg : NetGood n l) {a b : Int} (ha : 0 ≤ a ∧ a < n) (x : List Int) (hx : x.length = l.length) : ∀ (m i : Nat), l.length - i = m → i ≤ l.length → Ev (fun k => spec_l25Ok.l0 k x a b (netTo n l x i) (i : Int) n l) (if FitsFrom l x i ∧ EvenFrom (netTo n l x l.length) a b 0 then (rd (netTo n l x l.length) a, true) else (0, false)) := by
  have h16 := hg.len
  intro m
  induction m with
  | zero =>
    intro i hd hi
    have e : i = l.length := by omega
    subst e
    refine Ev.go ?_ (fun k => by rw [spec_l25Ok.l0])
    refine Ev.neg (by omega) ((specEven_l hg ha _ (netTo_len n l x _) _ 0 rfl (Nat.zero_le _)).cast ?_)
    have : FitsFrom l x l.length := fun j h1 h2 => absurd h1 (by omega)
    simp [this]
  | succ m ih =>
    intro i hd hi
    have hlt : i < l.length := by omega
    have hn := ih (i + 1) (by omega) (by omega)
    have hlen := netTo_len n l x i
    have step : FitsFrom l x i ↔ (0 ≤ nth x i ∧ nth x i ≤ (arc l i).f4) ∧ FitsFrom l x (i + 1) := by
      constructor
      · exact fun h => ⟨h i hlt (Nat.le_refl _), fun j hj hij => h j hj (by omega)⟩
      · intro h j hj hij
        by_cases e : j = i
        · subst e; exact h.1
        · exact h.2 j hj (by omega)
    have h1 := hg.n1
    refine Ev.go ?_ (fun k => by rw [spec_l25Ok.l0])
    refine Ev.pos (by omega) (Ev.pos (by omega) (Ev.pos (by omega) (Ev.bind0 (in1 _ _ _) ?_)))
    rw [rda, rdg i]
    cases c0 : inB (nth x i) 0 (arc l i).f4 with
    | false =>
      refine Ev.neg (by simp) (Ev.is ?_)
      rw [if_neg]
      intro h
      have := inB_iff.2 (step.1 h.1).1
      rw [c0] at this
      simp at this
    | true =>
      have hf := inB_iff.1 c0
      have ho := hg.ok i hlt
      have hu := up1 hlt (by simp only [maxLen]; omega)
      refine Ev.pos rfl ?_
      have hl0 : (arc l i).f0 < ((netTo n l x i).length : Int) := by rw [hlen]; omega
      have hl1 : (arc l i).f1 < ((netTo n l x i).length : Int) := by rw [hlen]; omega
      refine Ev.pos ho.1.1 (Ev.pos hl0 (Ev.bind0 rfl (Ev.pos ho.2.1.1 (Ev.pos (by exact hl1) ?_))))
      rw [hu]
      refine hn.cast ?_
      rw [step]
      simp [hf]
open Classical in
theorem implEven_l {n : Int} {l : List Arc} (hg : NetGood n l) {a b : Int} (ha : 0 ≤ a ∧ a < n) (y : List Int) (hy : y.length = n.toNat) : ∀ (m v : Nat), y.length - v = m → v ≤ y.length → Ev (fun k => impl_FlowValue.l1 k a b y (y.length : Int) (v : Int)) (if EvenFrom y a b v then (rd y a, true) else (0, false)) := by
  have h8 := hg.n8
  have h1 := hg.n1
  intro m
  induction m with
  | zero =>
    intro v hd hi
    refine Ev.go ?_ (fun k => by rw [impl_FlowValue.l1])
    refine Ev.neg (by omega) (Ev.pos (by omega) (Ev.pos (by omega) ?_))
    rw [if_pos (show EvenFrom y a b v from fun j h1 h2 => absurd h1 (by omega))]
    exact Ev.now _
  | succ m ih =>
    intro v hd hi
    have hlt : v < y.length := by omega
    have hn := ih (v + 1) (by omega) (by omega)
    have step : EvenFrom y a b v ↔ (nth y v = 0 ∨ (v : Int) = a ∨ (v : Int) = b) ∧ EvenFrom y a b (v + 1) := by
      constructor
      · exact fun h => ⟨h v hlt (Nat.le_refl _), fun j hj hij => h j hj (by omega)⟩
      · intro h j hj hij
        by_cases e : j = v
        · subst e; exact h.1
        · exact h.2 j hj (by omega)
    rw [← up1 hlt (by simp only [maxLen]; omega)] at hn
    refine Ev.go ?_ (fun k => by rw [impl_FlowValue.l1])
    refine Ev.pos (by omega) (Ev.pos (by omega) (Ev.pos (by omega) ?_))
    rw [rdg v]
    by_cases c0 : nth y v = 0
    · exact Ev.pos c0 (hn.cast (by rw [step]; simp [c0]))
    · refine Ev.neg c0 ?_
      by_cases c1 : (v : Int) = a
      · exact Ev.pos c1 (hn.cast (by rw [step]; simp [c1]))
      · refine Ev.neg c1 ?_
        by_cases c2 : (v : Int) = b
        · exact Ev.pos c2 (hn.cast (by rw [step]; simp [c2]))
        · exact Ev.neg c2 (Ev.is (by rw [step]; simp [c0, c1, c2]))
open Classical in
theorem implVal_l {n : Int} {l : List Arc} (hg : NetGood n l) {a b : Int} (ha : 0 ≤ a ∧ a < n) (x : List Int) (hx : x.length = l.length) : ∀ (m i : Nat), l.length - i = m → i ≤ l.length → Ev (fun k => impl_FlowValue.l0 k x a b (netTo n l x i) l (l.length : Int) (i : Int)) (if FitsFrom l x i ∧ EvenFrom (netTo n l x l.length) a b 0 then (rd (netTo n l x l.length) a, true) else (0, false)) := by
  have h16 := hg.len
  intro m
  induction m with
  | zero =>
    intro i hd hi
    have e : i = l.length := by omega
    subst e
    refine Ev.go ?_ (fun k => by rw [impl_FlowValue.l0])
    refine Ev.neg (by omega) ((implEven_l hg ha _ (netTo_len n l x _) _ 0 rfl (Nat.zero_le _)).cast ?_)
    have : FitsFrom l x l.length := fun j h1 h2 => absurd h1 (by omega)
    simp [this]
  | succ m ih =>
    intro i hd hi
    have hlt : i < l.length := by omega
    have hn := ih (i + 1) (by omega) (by omega)
    have hlen := netTo_len n l x i
    have step : FitsFrom l x i ↔ (0 ≤ nth x i ∧ nth x i ≤ (arc l i).f4) ∧ FitsFrom l x (i + 1) := by
      constructor
      · exact fun h => ⟨h i hlt (Nat.le_refl _), fun j hj hij => h j hj (by omega)⟩
      · intro h j hj hij
        by_cases e : j = i
        · subst e; exact h.1
        · exact h.2 j hj (by omega)
    have h1 := hg.n1
    refine Ev.go ?_ (fun k => by rw [impl_FlowValue.l0])
    refine Ev.pos (by omega) (Ev.pos (by omega) (Ev.pos (by omega) (Ev.pos (by omega) (Ev.bind0 (within1 _ _ _) ?_))))
    rw [rda, rdg i]
    cases c0 : inB (nth x i) 0 (arc l i).f4 with
    | false =>
      refine Ev.neg (by simp) (Ev.is ?_)
      rw [if_neg]
      intro h
      have := inB_iff.2 (step.1 h.1).1
      rw [c0] at this
      simp at this
    | true =>
      have hf := inB_iff.1 c0
      have ho := hg.ok i hlt
      have hu := up1 hlt (by simp only [maxLen]; omega)
      refine Ev.pos rfl ?_
      have hl0 : (arc l i).f0 < ((netTo n l x i).length : Int) := by rw [hlen]; omega
      have hl1 : (arc l i).f1 < ((netTo n l x i).length : Int) := by rw [hlen]; omega
      refine Ev.pos ho.1.1 (Ev.pos hl0 (Ev.bind0 rfl (Ev.pos ho.2.1.1 (Ev.pos (by exact hl1) ?_))))
      rw [hu]
      refine hn.cast ?_
      rw [step]
      simp [hf]
theorem specValue_ev (n : Int) (l : List Arc) (x : List Int) (a b : Int) (hm : l.length ≤ maxLen) : Ev (fun k => spec_FlowValue.f k n l x a b) (valueV n l x a b) := by
  unfold spec_FlowValue.f
  have bad : mostB n l a b = false → valueV n l x a b = (0, false) := by
    intro h
    unfold valueV
    rw [if_neg (by simp [h])]
  refine Ev.bind (l1Ok_ev n l hm) ?_
  cases c0 : netOkB n l with
  | false => exact Ev.neg (by simp) (Ev.is (bad (by simp [mostB, c0])).symm)
  | true =>
    have hg := (netOkB_iff n l).1 c0
    refine Ev.pos rfl (Ev.bind0 (in1 _ _ _) ?_)
    rw [inB_okN hg]
    cases c1 : okN n a with
    | false => exact Ev.neg (by simp) (Ev.is (bad (by simp [mostB, c1])).symm)
    | true =>
      refine Ev.pos rfl (Ev.bind0 (in1 _ _ _) ?_)
      rw [inB_okN hg]
      cases c2 : okN n b with
      | false => exact Ev.neg (by simp) (Ev.is (bad (by simp [mostB, c2])).symm)
      | true =>
        refine Ev.pos rfl ?_
        by_cases c3 : a = b
        · exact Ev.pos c3 (Ev.is (bad (by simp [mostB, c3])).symm)
        · refine Ev.neg c3 ?_
          have hB : mostB n l a b = true := by simp [mostB, c0, c1, c2, c3]
          obtain ⟨_, ha, hb, _⟩ := (mostB_iff n l a b).1 hB
          by_cases c4 : x.length = l.length
          · refine Ev.pos (by omega) (Ev.bind (a := valueV n l x a b) ?_ (Ev.now _))
            unfold spec_l25Ok.f
            have h1 := hg.n1
            have h8 := hg.n8
            refine Ev.pos (by omega) (Ev.pos (by omega) ?_)
            refine (specVal_l hg ha x c4 _ 0 rfl (Nat.zero_le _)).cast ?_
            unfold valueV
            by_cases hv : ValueOk n l x a b
            · rw [if_pos (show FitsFrom l x 0 ∧ EvenFrom (netTo n l x l.length) a b 0 from hv), if_pos ⟨hB, c4, hv⟩]
            · rw [if_neg (show ¬ (FitsFrom l x 0 ∧ EvenFrom (netTo n l x l.length) a b 0) from hv), if_neg (fun h => hv h.2.2)]
          · refine Ev.neg (by omega) (Ev.is ?_)
            unfold valueV
            rw [if_neg (by simp [c4])]
theorem implValue_ev (n : Int) (l : List Arc) (x : List Int) (a b : Int) : Ev (fun k => impl_FlowValue.f k n l x a b) (valueV n l x a b) := by
  unfold impl_FlowValue.f
  refine Ev.bind0 (apart_eq n l a b) ?_
  change Ev (fun k => if mostB n l a b = true then _ else _) _
  cases hB : mostB n l a b with
  | false =>
    refine Ev.neg (by simp) (Ev.go ?_ (fun k => by rw [impl_FlowValue.j0]))
    refine Ev.pos rfl (Ev.is ?_)
    unfold valueV
    rw [if_neg (by simp [hB])]
  | true =>
    obtain ⟨hg, ha, hb, _⟩ := (mostB_iff n l a b).1 hB
    refine Ev.pos rfl (Ev.go ?_ (fun k => by rw [impl_FlowValue.j0]))
    by_cases c4 : x.length = l.length
    · have h1 := hg.n1
      have h8 := hg.n8
      refine Ev.neg (by simp [c4]) (Ev.pos (by omega) (Ev.pos (by omega) ?_))
      refine (implVal_l hg ha x c4 _ 0 rfl (Nat.zero_le _)).cast ?_
      unfold valueV
      by_cases hv : ValueOk n l x a b
      · rw [if_pos (show FitsFrom l x 0 ∧ EvenFrom (netTo n l x l.length) a b 0 from hv), if_pos ⟨hB, c4, hv⟩]
      · rw [if_neg (show ¬ (FitsFrom l x 0 ∧ EvenFrom (netTo n l x l.length) a b 0) from hv), if_neg (fun h => hv h.2.2)]
    · refine Ev.pos (by simp; omega) (Ev.is ?_)
      unfold valueV
      rw [if_neg (by simp [c4])]
end Go.Proofs.Ytjiiipmeocageaa.Pure
end
section
set_option linter.unusedSimpArgs false
set_option linter.unusedVariables false
namespace Go.Proofs.Ytjiiipmeocageaa.Pure
open Go.RowKit Go.Proofs.Ytjiiipmeocageaa.Pr Go.Proofs.YtjiiipmeocageaaW.PrintWords Go.Proofs.YtjiiipmeocageaaW.PrintLast Go.Proofs.YtjiiipmeocageaaW.PrintMore
theorem FnExactFlowValue : laws_FnExactFlowValue.Asked := by
  intro n l x a b hn hl hx ha hb
  refine Ev.rounds ?_
  unfold laws_FnExactFlowValue.f
  by_cases hx2 : (x.length : Int) ≤ 1048576
  · refine Ev.neg (by omega) ?_
    refine Ev.bind0 (szNet_eq n l 1048576 (by omega) (by omega) hl.1) ?_
    by_cases hs : (l.length : Int) ≤ 1048576
    · rw [if_neg (by omega)]
      have ht := toNet_ev n l (by omega)
      have hi := toIntS_ev x (by omega)
      have hm : (l.map toA).length ≤ maxLen := by simpa using hl.1
      refine Ev.neg (by omega) (Ev.bind ht (Ev.bind hi (Ev.bind (specValue_ev n _ x a b hm) (Ev.bind ht (Ev.bind hi (Ev.bind (implValue_ev n _ x a b) (Ev.pos rfl ?_)))))))
      refine Ev.go ?_ (fun k => by rw [laws_FnExactFlowValue.j0])
      exact Ev.neg (by simp) (Ev.bind ht (Ev.bind (eqNet_ev n _ hm) (Ev.pos rfl (Ev.bind hi (Ev.bind (eqIntS_ev x hx.1) (Ev.pos rfl (Ev.now _)))))))
    · rw [if_pos (by omega)]
      exact Ev.pos (by omega) (Ev.now _)
  · exact Ev.pos (by omega) (Ev.now _)
end Go.Proofs.Ytjiiipmeocageaa.Pure
end
section
namespace Go.Proofs.Ytjiiipmeocageaa.fnExactFlowValue
open Go.ChangeShapes Go.WideShapes Go.ChangeAt Go.RowKit Go.Proofs.YtjiiipmeocageaaW.PrintWords Go.Proofs.Ytjiiipmeocageaa.Pr
open Go.ChangeMaps (open_string shut_string)
set_option linter.unusedVariables false
set_option linter.unusedSimpArgs false
theorem own : ownKnob Try.prog.godebug = none := by kernel_rfl
theorem laidOut : laidOutB Try.prog = true := by kernel_rfl
instance inh104 : Inhabited S104 := ⟨z104⟩
theorem opens0 : Opens Try.prog (Kd.pair (Kd.int .i64) (Kd.slice 104 k104)) 59 (fun x => I64 x.1 ∧ (fun l => l.length ≤ maxLen ∧ ∀ x ∈ l, (fun b : S104 => (fun x => I64 x.1 ∧ (fun x => I64 x.1 ∧ (fun x => I64 x.1 ∧ (fun x => I64 x.1 ∧ I64 x.2) x.2) x.2) x.2) (b.f0, b.f1, b.f2, b.f3, b.f4)) x) x.2) := (opens_struct (P := Try.prog) Try.underlying59 (opensF_cons (P := Try.prog) (by kernel_rfl) (opens_i64 (P := Try.prog) Try.underlying3) (opensF_last (P := Try.prog) (by kernel_rfl) (by kernel_rfl) (opens_slice (P := Try.prog) Try.underlying57 (by kernel_rfl) (opens_iso (P := Try.prog) (fun x : S104 => (x.f0, x.f1, x.f2, x.f3, x.f4)) (fun x => (⟨x.1, x.2.1, x.2.2.1, x.2.2.2.1, x.2.2.2.2⟩ : S104)) (fun _ => rfl) (opens_struct (P := Try.prog) Try.underlying104 (opensF_cons (P := Try.prog) (by kernel_rfl) (opens_i64 (P := Try.prog) Try.underlying3) (opensF_cons (P := Try.prog) (by kernel_rfl) (opens_i64 (P := Try.prog) Try.underlying3) (opensF_cons (P := Try.prog) (by kernel_rfl) (opens_i64 (P := Try.prog) Try.underlying3) (opensF_cons (P := Try.prog) (by kernel_rfl) (opens_i64 (P := Try.prog) Try.underlying3) (opensF_last (P := Try.prog) (by kernel_rfl) (by kernel_rfl) (opens_i64 (P := Try.prog) Try.underlying3))))))))))))
theorem opens1 : Opens Try.prog (Kd.slice 3 (Kd.int .i64)) 32 (fun l => l.length ≤ maxLen ∧ ∀ x ∈ l, I64 x) := (opens_slice (P := Try.prog) Try.underlying32 (by kernel_rfl) (opens_i64 (P := Try.prog) Try.underlying3))
set_option maxRecDepth 100000 in
set_option maxHeartbeats 2000000 in
theorem lifted (os : Os) (started : os.Started) (H : Type) (enc : TypeId × Value → H) :
    ReturnsInHanded {} Try.checked os 10 .any (Rows.fnExactFlowValueSpec.pre6 enc Try.prog Try.f10 Rows.fnExactFlowValueRow.domain false) (Rows.fnExactFlowValueSpec.post enc Try.prog Try.f10 false true false false) := by
  refine returnsInHanded_of_change_sized (C := Try.checked) own started (by kernel_rfl) Try.func10
    (ChangeSpec.witness6 (enc := enc) (C := Try.checked) false ⟨#[], #[(.agg #[(.int .i64 0), (.slice none 0 0)]), (.slice none 0 0), (.int .i64 0), (.int .i64 0)], []⟩ 8 (by kernel_rfl) (by kernel_rfl) (by kernel_rfl) (by kernel_rfl)) ?_
  intro W base args ds gs before hval0 hW hcnd hsz0 _
  have hval : ∀ (j : Nat) t v, Try.f10.params[j]? = some t → args[j]? = some v → Value.okWide Try.prog W .any base t v := hval0
  have hW' := hW
  obtain ⟨p, q, hA0, hV, rfl, hfz, hnd⟩ := hW
  have hA : DataW.TrodAll enc Try.prog W 0 (fun _ => true) true Try.f10.params.toList args.toList ds p := hA0
  rw [Try.params10] at hA hval
  obtain ⟨v0, vs0, d0, ds0, p0, q0, hargs, rfl, rfl, h0, r0⟩ := trodAll_cons hA
  obtain ⟨v1, vs1, d1, ds1, p1, q1, rfl, rfl, rfl, h1, r1⟩ := trodAll_cons r0
  obtain ⟨v2, vs2, d2, ds2, p2, q2, rfl, rfl, rfl, h2, r2⟩ := trodAll_cons r1
  obtain ⟨v3, vs3, d3, ds3, p3, q3, rfl, rfl, rfl, h3, r3⟩ := trodAll_cons r2
  obtain ⟨rfl, rfl, rfl⟩ := trodAll_nil r3
  obtain rfl : args = #[v0, v1, v2, v3] := by cases args; simp_all
  obtain ⟨rfl, rfl⟩ := trodVars_none hV
  have k0 := h0
  have lt0 : ∀ x ∈ p0, x.block < W.heap.size := by obtain ⟨m, hm⟩ := k0; exact DataW.trod_lt m _ _ _ hm
  obtain ⟨cs0, rfl, hsz0⟩ := okWide_struct Try.underlying59 (hval 0 59 v0 rfl rfl)
  obtain ⟨fuel0, hf0⟩ := h0
  obtain ⟨x0, hK0, w0⟩ := opens0 hf0
  obtain ⟨u0_0, v0_0, e0_0, ha0_0, hb0_0⟩ := hK0
  have e0_1 : u0_0 = [.int .i64 x0.1] := ha0_0
  obtain ⟨A0_2, c0_2, e0_2, hc0_2, hr0_2⟩ := hb0_0
  have z0 : cs0 = #[.int .i64 x0.1, .slice A0_2 x0.2.length c0_2] := by
    apply Array.toList_inj.1
    have ee : (Value.agg cs0).cells.toList = cs0.toList := rfl
    rw [← ee]
    rw [e0_0]
    subst e0_1
    subst e0_2
    rfl
  subst z0
  clear e0_2 e0_1 e0_0
  have k1 := h1
  have lt1 : ∀ x ∈ p1, x.block < W.heap.size := by obtain ⟨m, hm⟩ := k1; exact DataW.trod_lt m _ _ _ hm
  obtain ⟨a1, len1, cap1, rfl⟩ := okWide_slice Try.underlying32 (hval 1 32 v1 rfl rfl)
  obtain ⟨fuel1, hf1⟩ := h1
  obtain ⟨l1, ⟨A1, c1, e1, hc1, hr1⟩, w1⟩ := opens1 hf1
  have e1' : (Value.slice a1 len1 cap1) = .slice A1 l1.length c1 := (List.cons.inj e1).1
  injection e1' with e1a e1b e1c
  subst e1a e1b e1c
  obtain ⟨a2, rfl, rfl, rfl, w2⟩ := open_int Try.underlying3 (hval 2 3 v2 rfl rfl) h2
  obtain ⟨a3, rfl, rfl, rfl, w3⟩ := open_int Try.underlying3 (hval 3 3 v3 rfl rfl) h3
  obtain ⟨k, hh⟩ := Pure.FnExactFlowValue (x0.1) x0.2 l1 a2 a3 w0.1 w0.2 w1 (I64_of w2) (I64_of w3)
  refine (laws_FnExactFlowValue.calls k (x0.1) A0_2 c0_2 x0.2 _ _ l1 a2 a3 true W hr0_2 hc0_2 hr1 hc1 hh).mono fun e W' ⟨he, bel0⟩ => ?_
  have bel : Below W.heap.size W W' := bel0
  subst he
  exact ⟨_, rfl, _, _, _, [], _, [], hW', trodAll_mk1 (shut_bool Try.underlying4 _), (trodAll_cons_mk (Below.trod laidOut (by kernel_rfl) (of_decide_eq_true (by kernel_rfl)) k0 bel lt0) (trodAll_cons_mk (Below.trod laidOut (by kernel_rfl) (of_decide_eq_true (by kernel_rfl)) k1 bel lt1) (trodAll_cons_mk (shut_int Try.underlying3 w2) (trodAll_cons_mk (shut_int Try.underlying3 w3) trodAll_mk0)))), rfl, bel.frame _, fun h => by cases h⟩
theorem over : Rows.fnExactFlowValueRow.holds Try.pinned (OpenSpec.ofChange Rows.fnExactFlowValueSpec) :=
  OpenClaim.holds_of_wide 10 Try.f10 rfl rfl rfl rfl rfl rfl rfl ⟨rfl, rfl, rfl, rfl, rfl⟩ rfl rfl rfl rfl rfl (by kernel_rfl) Try.func10 (by kernel_rfl)
    (of_decide_eq_true (by kernel_rfl)) (by unfold Func.isWrapper; first | (rw [if_pos (by decide +kernel)]; kernel_rfl) | (rw [if_neg (by decide +kernel)]; exact ⟨rfl, rfl⟩))
    (fun os started H enc _ => lifted os started H enc)
theorem proved : Rows.FnExactFlowValueSaid := over
#print axioms proved
end Go.Proofs.Ytjiiipmeocageaa.fnExactFlowValue
namespace Go.Proofs.Ytjiiipmeocageaa
/-- The row, under a short name, for the claim. -/
theorem fnExactFlowValue_holds : Rows.FnExactFlowValueSaid := fnExactFlowValue.proved
end Go.Proofs.Ytjiiipmeocageaa
end
