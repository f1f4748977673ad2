/- For the statement FnBothOver of this seat: it is proved here, with no further conditions (part 9 of its texts: words, walks of the functions, the plain law, the row). -/
import Derived.ChangeArms
import Derived.ChangeSlices
import Derived.Deep.Slices
import Derived.WideShapes
import Derived.DataReads
import Derived.Test.YtljdcinpjnijcaaRows
import Derived.WalkKit
import Derived.ProofKit
import Derived.OpenShut
import Derived.ShutString
import Derived.ChangeOld
import Derived.Below
import Derived.SizedLaws
import Derived.Test.YtljdcinpjnijcaaKFnBothOver7
section
namespace Go.Proofs.Ytljdcinpjnijcaa.Pr
open Go.RowKit Go.Proofs.YtljdcinpjnijcaaW.PrintWords Go.Proofs.YtljdcinpjnijcaaW.PrintLast Go.Proofs.YtljdcinpjnijcaaW.PrintMore
attribute [local go_sem] max2_int min2_int max_two min_two max_three min_three max_four min_four
set_option linter.unusedVariables false
set_option linter.unusedSimpArgs false
mutual
def laws_FnBothOver.j0 : Nat → Int → Int → Int → Int → Bool → Int → List (S34) → Option (Bool)
 | 0, _, _, _, _, _, _, _ => none
 | k + 1, x4, x5, x6, x7, x37, x336000, x336001 => if x37 = true then ((spec_BothOver.f k x336000 x336001 x4 x5 x6).bind fun t338 => (some (x7 == t338))) else ((impl_NearAll.f k x336000 x336001 x4).bind fun t339 => (if 0 ≤ x5 then (if x5 < (t339.length : Int) then ((impl_NearWalk.f k x336000 x336001 x4 x5).bind fun bt343 => (laws_FnBothOver.l0 k x4 x5 x7 (rd t339 x5) bt343.1 bt343.2 0 x336000 x336001)) else (none)) else (none)))
def laws_FnBothOver.l0 : Nat → Int → Int → Int → Int → List Int → Bool → Int → Int → List (S34) → Option (Bool)
 | 0, _, _, _, _, _, _, _, _, _ => none
 | k + 1, x4, x5, x7, x8, x9, x10, x11, x336000, x336001 => if x11 < (x9.length : Int) then (laws_FnBothOver.j2 k x4 x5 x7 x8 x9 x10 x11 x10 x336000 x336001) else (laws_FnBothOver.j2 k x4 x5 x7 x8 x9 x10 x11 false x336000 x336001)
def laws_FnBothOver.j2 : Nat → Int → Int → Int → Int → List Int → Bool → Int → Bool → Int → List (S34) → Option (Bool)
 | 0, _, _, _, _, _, _, _, _, _, _ => none
 | k + 1, x4, x5, x7, x8, x9, x10, x11, x64, x336000, x336001 => if x64 = true then (if 0 ≤ x11 then (if x11 < (x9.length : Int) then (if 0 ≤ (rd x9 x11) then (if (rd x9 x11) < (x336001.length : Int) then ((impl_BothOver.f k x336000 x336001 x4 x5 ((rd_T34 x336001 (rd x9 x11)).f1)).bind fun t349 => (if t349 = x8 then (laws_FnBothOver.l0 k x4 x5 x7 x8 x9 x10 (wrap64 (x11 + 1)) x336000 x336001) else (some false))) else (none)) else (none)) else (none)) else (none)) else (if x7 ≥ x8 then ((impl_BothOver.f k x336000 x336001 x4 x5 x4).bind fun t350 => (if t350 = x8 then ((impl_BothOver.f k x336000 x336001 x4 x5 x5).bind fun t351 => (some (t351 == x8))) else (some false))) else (some false))
end
def laws_FnBothOver.f (k : Nat) (l0 : List Int) : Option (Bool) := if (l0.length : Int) > 1048576 then (some true) else ((spec_DrawBothOver.f k l0).bind fun bt328 => ((impl_BothOver.f k bt328.1 bt328.2.1 bt328.2.2.1 bt328.2.2.2.1 bt328.2.2.2.2).bind fun t336 => ((spec_BothOver.f k bt328.1 bt328.2.1 bt328.2.2.1 bt328.2.2.2.1 bt328.2.2.2.2).bind fun t337 => (if t336 = t337 then (laws_FnBothOver.j0 k bt328.2.2.1 bt328.2.2.2.1 bt328.2.2.2.2 t336 (decide (t336 < 0)) bt328.1 bt328.2.1) else (laws_FnBothOver.j0 k bt328.2.2.1 bt328.2.2.2.1 bt328.2.2.2.2 t336 true bt328.1 bt328.2.1)))))
def laws_FnBothOver.T12 : Bool × List (List Nat × List Nat) := (true, [([], []), ([], []), ([], []), ([], []), ([3], [3]), ([], []), ([], []), ([5, 6], [5, 6]), ([7], [7]), ([4, 8], [4, 8]), ([9], [9]), ([10], [10]), ([0, 1, 2, 11], [0, 1, 2, 11]), ([], []), ([12, 13], [12, 13])])
def laws_FnBothOver.B12 : List Nat := [0, 0, 0, 0, 8, 0, 0, 96, 224, 504, 1016, 2040, 4095, 0, 16383]
theorem laws_FnBothOver.tab12 : rtab .any (opsOf Try.f3 12) = laws_FnBothOver.T12 := by kernel_rfl
theorem laws_FnBothOver.bits12 : waitsOk laws_FnBothOver.T12.2 laws_FnBothOver.B12 = true := by kernel_rfl
set_option maxHeartbeats 8000000 in
set_option maxRecDepth 100000 in
theorem laws_FnBothOver.calls (k : Nat) (A0 : Option Addr) (c0 : Nat) (l0 : List Int) (r : Bool) (w : World) (hr0 : Kd.C (Kd.int .u8) w A0 l0.length l0) (hc0 : l0.length ≤ c0) (h : laws_FnBothOver.f k l0 = some r) :
  Calls Try.prog 3 #[.slice A0 l0.length c0] w fun e w' => e = .returned (.bool r) ∧ Below w.heap.size w w' := by
 have hu25 := Try.underlying25
 have HR0 := Aside0.mk hr0
 have HC0 := Aside0.mk hc0
 clear hr0 hc0
 have HB := Aside0.mk (Below.refl w.heap.size w)
 have H : (if (l0.length : Int) > 1048576 then (some true) else ((spec_DrawBothOver.f k l0).bind fun bt328 => ((impl_BothOver.f k bt328.1 bt328.2.1 bt328.2.2.1 bt328.2.2.2.1 bt328.2.2.2.2).bind fun t336 => ((spec_BothOver.f k bt328.1 bt328.2.1 bt328.2.2.1 bt328.2.2.2.1 bt328.2.2.2.2).bind fun t337 => (if t336 = t337 then (laws_FnBothOver.j0 k bt328.2.2.1 bt328.2.2.2.1 bt328.2.2.2.2 t336 (decide (t336 < 0)) bt328.1 bt328.2.1) else (laws_FnBothOver.j0 k bt328.2.2.1 bt328.2.2.2.1 bt328.2.2.2.2 t336 true bt328.1 bt328.2.1)))))) = some r := h
 clear h
 by_cases c2 : (l0.length : Int) > 1048576
 ·rw [if_pos c2] at H
  have c2b0 : decide (1048576 < (l0.length : Int)) = true := decide_eq_true c2
  have c2b1 : decide (1048576 < l0.length) = true := decide_eq_true (by omega)
  clear c2
  obtain rfl := Option.some.inj H
  go_enter Try.func3, Try.ntmps3
  go_wp2
  go_ret
  exact ⟨by first | rfl | (simp [errW_none, errW_some] <;> rfl) | (simp [*, errW_none, errW_some] <;> rfl), by repeat (first | (with_reducible first | exact HB.out | apply below_alloc | apply pw_below_drewN | apply below_drew1) | exact HB.out)⟩
 ·rw [if_neg c2] at H
  have c2b0 : decide (1048576 < (l0.length : Int)) = false := decide_eq_false c2
  have c2b1 : decide (1048576 < l0.length) = false := decide_eq_false (by omega)
  clear c2
  replace H := Option.bind_eq_some_iff.mp H
  obtain ⟨⟨t328, t329, t332, t333, t334⟩, A30, H⟩ := H
  replace H : ((impl_BothOver.f k t328 t329 t332 t333 t334).bind fun t336 => ((spec_BothOver.f k t328 t329 t332 t333 t334).bind fun t337 => (if t336 = t337 then (laws_FnBothOver.j0 k t332 t333 t334 t336 (decide (t336 < 0)) t328 t329) else (laws_FnBothOver.j0 k t332 t333 t334 t336 true t328 t329)))) = some r := H
  have A3 := Aside0.mk A30
  clear A30
  replace H := Option.bind_eq_some_iff.mp H
  obtain ⟨t336, A40, H⟩ := H
  replace H : ((spec_BothOver.f k t328 t329 t332 t333 t334).bind fun t337 => (if t336 = t337 then (laws_FnBothOver.j0 k t332 t333 t334 t336 (decide (t336 < 0)) t328 t329) else (laws_FnBothOver.j0 k t332 t333 t334 t336 true t328 t329))) = some r := H
  have A4 := Aside0.mk A40
  clear A40
  have HC5 := Aside0.mk H
  clear H
  go_enter Try.func3, Try.ntmps3
  go_upto_region 5 with (first | ((with_reducible refine gate_callee (f := 14) rfl ?_); refine goesL_ (some 17) rfl rfl Try.func14 (by kernel_rfl) rfl #[.slice A0 l0.length c0] rfl (by (try simp only [List.map_toArray, List.map_cons, List.map_nil]); first | done | rfl | (simp only [List.length_drop, List.length_take]; rfl)) ?_; (with_reducible refine (spec_DrawBothOver.calls k _ _ l0 t328 t329 t332 t333 t334 _ ?side1 ?side2 A3.out).mono ?_); (case side1 => repeat (first | exact HR0.out | (with_reducible refine Kd.C_alloc ?_ _) | (with_reducible refine Kd.C_drewN ?_ _) | (with_reducible refine Kd.C_drew ?_))); (case side2 => exact HC0.out); rintro e w6 ⟨v330, rfl, ho0, hb⟩; refine ⟨_, rfl, ?_⟩; have n0_ := Aside0.mk (Kd.R_lower ho0 (below_size (by repeat (first | (with_reducible first | exact HB.out | apply below_alloc | apply pw_below_drewN | apply below_drew1) | exact HB.out)))); have n1_ := Aside0.mk (below_step (by repeat (first | (with_reducible first | exact HB.out | apply below_alloc | apply pw_below_drewN | apply below_drew1) | exact HB.out)) hb); clear HB; have HO331 := n0_; have HB := n1_; clear n0_ n1_; (try clear hb); (try clear hb2); (try clear hk); (try clear hi); (try clear ho0)) | ((with_reducible refine gate_dst (N := 3) rfl ?_); refine box_event ?hg (N := 3) ?hd (cs := #[.int .i64 0, .slice none 0 0]) (t := 25) ?hr ?_; (case hd => rfl); (case hg => rfl); (case hr => first | (go_simp; done) | (go_simp; rfl)); intro gb335 hg w7 hbox hb; have n0_ := Aside0.mk (Kd.R_below (by (with_reducible repeat (first | apply Kd.R_alloc | apply Kd.R_drewN | apply Kd.R_drew)); exact HO331.out) hb); have n1_ := Aside0.mk (below_step (by repeat (first | (with_reducible first | exact HB.out | apply below_alloc | apply pw_below_drewN | apply below_drew1) | exact HB.out)) hb); have n2_ := Aside0.mk (hbox); have n3_ := Aside0.mk ((by rw [hg]; exact (below_size (by repeat (first | (with_reducible first | exact HB.out | apply below_alloc | apply pw_below_drewN | apply below_drew1) | exact HB.out))) : w.heap.size ≤ gb335)); have n4_ := Aside0.mk ((by rw [hg]; exact (below_size (by repeat (first | (with_reducible first | exact HB.out | apply below_alloc | apply pw_below_drewN | apply below_drew1) | exact HB.out))) : w.heap.size ≤ gb335)); clear HO331; clear HB; have HO331 := n0_; have HB := n1_; have BK335 := n2_; have GW335 := n3_; have GE335 := n4_; clear n0_ n1_ n2_ n3_ n4_; clear hb hbox hg; have hcz8_0 : w7.cell? ⟨gb335, 0, none⟩ = some (.int .i64 0) := (blk_cell BK335.out 0).trans rfl; have hcz8_1 : w7.cell? ⟨gb335, 1, none⟩ = some (.slice none 0 0) := (blk_cell BK335.out 1).trans rfl; have hfz8_0 := blk_frozen BK335.out 0; have hfz8_1 := blk_frozen BK335.out 1; obtain ⟨Ao9, co9, eo9⟩ := Kd.R_slice HO331.out; subst eo9) | ((with_reducible refine gate_callee (f := 15) rfl ?_); refine goesL_ (some 26) rfl rfl Try.func15 (by kernel_rfl) rfl #[.agg #[.int .i64 t328, .slice Ao9 t329.length co9], .int .i64 t332, .int .i64 t333, .int .i64 t334] rfl (by (try simp only [List.map_toArray, List.map_cons, List.map_nil]); first | done | rfl | (simp only [List.length_drop, List.length_take]; rfl)) ?_; (with_reducible refine (impl_BothOver.calls k t328 _ _ t329 t332 t333 t334 t336 _ ?side1 ?side2 A4.out).mono ?_); (case side1 => refine (Kd.R_reads' (e := 34) (base := w.heap.size) (ok := fun k_ => True) (n := t329.length) (c := co9) ?_).2.2; exact (by (with_reducible repeat (first | apply Kd.R_alloc | apply Kd.R_drewN | apply Kd.R_drew)); exact (Kd.R_mono (Kd.R_far (p := ⟨gb335, 1, none⟩) (Kd.R_far (p := ⟨gb335, 0, none⟩) (Kd.R_types HO331.out BK335.out (by decide)) (fun _ hk => hk.2) (.int .i64 t328)) (fun _ hk => hk.2) (.slice Ao9 t329.length co9)) (fun _ h_ => h_.1)))); (case side2 => exact (Kd.R_reads' HO331.out).2.1); rintro e w10 ⟨rfl, hb⟩; refine ⟨_, rfl, ?_⟩; have n0_ := Aside0.mk (Kd.R_below (by (with_reducible repeat (first | apply Kd.R_alloc | apply Kd.R_drewN | apply Kd.R_drew)); exact (Kd.R_mono (Kd.R_far (p := ⟨gb335, 1, none⟩) (Kd.R_far (p := ⟨gb335, 0, none⟩) (Kd.R_types HO331.out BK335.out (by decide)) (fun _ hk => hk.2) (.int .i64 t328)) (fun _ hk => hk.2) (.slice Ao9 t329.length co9)) (fun _ h_ => h_.1))) hb); have n1_ := Aside0.mk (blk_below (g := gb335) (o := .cells #[.int .i64 t328, .slice Ao9 t329.length co9] 25 (0, 0)) (by (with_reducible repeat (first | refine blk_drewN ?_ _ | refine blk_drew ?_ | refine blk_alloc ?_ _)); refine blk_put (cs := #[.int .i64 t328, .slice none 0 0]) ?_ 1 _ rfl; (with_reducible repeat (first | refine blk_drewN ?_ _ | refine blk_drew ?_ | refine blk_alloc ?_ _)); refine blk_put (cs := #[.int .i64 0, .slice none 0 0]) ?_ 0 _ rfl; (with_reducible repeat (first | refine blk_drewN ?_ _ | refine blk_drew ?_ | refine blk_alloc ?_ _)); exact BK335.out) hb); have n2_ := Aside0.mk (below_step (by repeat (first | (with_reducible first | exact HB.out | apply below_alloc | apply pw_below_drewN | apply below_drew1 | refine below_set ?_ GE335.out) | exact HB.out)) hb); clear HO331; clear BK335; clear HB; have HO331 := n0_; have BK335 := n1_; have HB := n2_; clear n0_ n1_ n2_; (try clear hb); (try clear hb2); (try clear hk); (try clear hi)))
  (try simp only [Act.put, List.setIfInBounds_toArray, List.set_cons_zero, List.set_cons_succ])
  go_cut [37] (fun v37 wc => ∃ (kq : Nat) (x37_4 : Bool), v37 = .bool x37_4 ∧ Aside0 (laws_FnBothOver.j0 kq t332 t333 t334 t336 x37_4 t328 t329 = some r) ∧ Aside0 (kq ≤ k) ∧ Aside0 (Kd.R k34 34 wc w.heap.size (fun _ => True) (.slice Ao9 t329.length co9) t329) ∧ Aside0 (wc.heap[gb335]? = some (.cells #[.int .i64 t328, (.slice Ao9 t329.length co9)] 25 (0, 0))) ∧ Aside0 (Below w.heap.size w wc))
  case first =>
   have H := HC5.out
   clear HC5
   replace H := Option.bind_eq_some_iff.mp H
   obtain ⟨t337, A110, H⟩ := H
   replace H : (if t336 = t337 then (laws_FnBothOver.j0 k t332 t333 t334 t336 (decide (t336 < 0)) t328 t329) else (laws_FnBothOver.j0 k t332 t333 t334 t336 true t328 t329)) = some r := H
   have A11 := Aside0.mk A110
   clear A110
   by_cases c12 : t336 = t337
   ·rw [if_pos c12] at H
    have c12b0 : (t336 == t337) = true := beq_iff_eq.mpr c12
    have c12b1 : (t336 != t337) = false := bne_eq_false_iff_eq.mpr c12
    clear c12
    (first | rw [c12b0] | (simp only [i64_w, i32_w]; rw [c12b0]) | skip)
    have H' := Aside0.mk H
    clear H
    have hcz13_0 : w10.cell? ⟨gb335, 0, none⟩ = some (.int .i64 t328) := (blk_cell BK335.out 0).trans rfl
    have hcz13_1 : w10.cell? ⟨gb335, 1, none⟩ = some (.slice Ao9 t329.length co9) := (blk_cell BK335.out 1).trans rfl
    have hfz13_0 := blk_frozen BK335.out 0
    have hfz13_1 := blk_frozen BK335.out 1
    go_wp2_with (first | ((with_reducible refine gate_callee (f := 16) rfl ?_); refine goesL_ (some 32) rfl rfl Try.func16 (by kernel_rfl) rfl #[.agg #[.int .i64 t328, .slice Ao9 t329.length co9], .int .i64 t332, .int .i64 t333, .int .i64 t334] rfl (by (try simp only [List.map_toArray, List.map_cons, List.map_nil]); first | done | rfl | (simp only [List.length_drop, List.length_take]; rfl)) ?_; (with_reducible refine (spec_BothOver.calls k t328 _ _ t329 t332 t333 t334 t337 _ ?side1 ?side2 A11.out).mono ?_); (case side1 => repeat (first | exact (Kd.R_reads' HO331.out).2.2 | (with_reducible refine Kd.C_alloc ?_ _) | (with_reducible refine Kd.C_drewN ?_ _) | (with_reducible refine Kd.C_drew ?_))); (case side2 => exact (Kd.R_reads' HO331.out).2.1); rintro e w14 ⟨rfl, hb⟩; refine ⟨_, rfl, ?_⟩; have n0_ := Aside0.mk (Kd.R_below (by (with_reducible repeat (first | apply Kd.R_alloc | apply Kd.R_drewN | apply Kd.R_drew)); exact HO331.out) hb); have n1_ := Aside0.mk (blk_below (g := gb335) (o := .cells #[.int .i64 t328, .slice Ao9 t329.length co9] 25 (0, 0)) (by (with_reducible repeat (first | refine blk_drewN ?_ _ | refine blk_drew ?_ | refine blk_alloc ?_ _)); exact BK335.out) hb); have n2_ := Aside0.mk (below_step (by repeat (first | (with_reducible first | exact HB.out | apply below_alloc | apply pw_below_drewN | apply below_drew1 | refine below_set ?_ GE335.out) | exact HB.out)) hb); clear HO331; clear BK335; clear HB; have HO331 := n0_; have BK335 := n1_; have HB := n2_; clear n0_ n1_ n2_; (try clear hb); (try clear hb2); (try clear hk); (try clear hi)))
    go_meet
    case rel => exact ⟨_, (decide (t336 < 0)), (by first | rfl | (simp; done) | (simp [*]; done)), H', ⟨by first | omega | exact Nat.le_refl _⟩, ⟨by (with_reducible repeat (first | apply Kd.R_alloc | apply Kd.R_drewN | apply Kd.R_drew)); exact HO331.out⟩, ⟨by (with_reducible repeat (first | refine blk_drewN ?_ _ | refine blk_drew ?_ | refine blk_alloc ?_ _)); exact BK335.out⟩, ⟨by repeat (first | (with_reducible first | exact HB.out | apply below_alloc | apply pw_below_drewN | apply below_drew1 | refine below_set ?_ GE335.out) | exact HB.out)⟩⟩
   ·rw [if_neg c12] at H
    have c12b0 : (t336 == t337) = false := beq_eq_false_iff_ne.mpr c12
    have c12b1 : (t336 != t337) = true := bne_iff_ne.mpr c12
    (first | rw [c12b0] | (simp only [i64_w, i32_w]; rw [c12b0]) | skip)
    have H' := Aside0.mk H
    clear H
    have hcz15_0 : w10.cell? ⟨gb335, 0, none⟩ = some (.int .i64 t328) := (blk_cell BK335.out 0).trans rfl
    have hcz15_1 : w10.cell? ⟨gb335, 1, none⟩ = some (.slice Ao9 t329.length co9) := (blk_cell BK335.out 1).trans rfl
    have hfz15_0 := blk_frozen BK335.out 0
    have hfz15_1 := blk_frozen BK335.out 1
    go_wp2_with (first | ((with_reducible refine gate_callee (f := 16) rfl ?_); refine goesL_ (some 32) rfl rfl Try.func16 (by kernel_rfl) rfl #[.agg #[.int .i64 t328, .slice Ao9 t329.length co9], .int .i64 t332, .int .i64 t333, .int .i64 t334] rfl (by (try simp only [List.map_toArray, List.map_cons, List.map_nil]); first | done | rfl | (simp only [List.length_drop, List.length_take]; rfl)) ?_; (with_reducible refine (spec_BothOver.calls k t328 _ _ t329 t332 t333 t334 t337 _ ?side1 ?side2 A11.out).mono ?_); (case side1 => repeat (first | exact (Kd.R_reads' HO331.out).2.2 | (with_reducible refine Kd.C_alloc ?_ _) | (with_reducible refine Kd.C_drewN ?_ _) | (with_reducible refine Kd.C_drew ?_))); (case side2 => exact (Kd.R_reads' HO331.out).2.1); rintro e w16 ⟨rfl, hb⟩; refine ⟨_, rfl, ?_⟩; have n0_ := Aside0.mk (Kd.R_below (by (with_reducible repeat (first | apply Kd.R_alloc | apply Kd.R_drewN | apply Kd.R_drew)); exact HO331.out) hb); have n1_ := Aside0.mk (blk_below (g := gb335) (o := .cells #[.int .i64 t328, .slice Ao9 t329.length co9] 25 (0, 0)) (by (with_reducible repeat (first | refine blk_drewN ?_ _ | refine blk_drew ?_ | refine blk_alloc ?_ _)); exact BK335.out) hb); have n2_ := Aside0.mk (below_step (by repeat (first | (with_reducible first | exact HB.out | apply below_alloc | apply pw_below_drewN | apply below_drew1 | refine below_set ?_ GE335.out) | exact HB.out)) hb); clear HO331; clear BK335; clear HB; have HO331 := n0_; have BK335 := n1_; have HB := n2_; clear n0_ n1_ n2_; (try clear hb); (try clear hb2); (try clear hk); (try clear hi)))
    go_meet
    case rel => exact ⟨_, (true), (by first | rfl | (simp; done) | (simp [*]; done)), H', ⟨by first | omega | exact Nat.le_refl _⟩, ⟨by (with_reducible repeat (first | apply Kd.R_alloc | apply Kd.R_drewN | apply Kd.R_drew)); exact HO331.out⟩, ⟨by (with_reducible repeat (first | refine blk_drewN ?_ _ | refine blk_drew ?_ | refine blk_alloc ?_ _)); exact BK335.out⟩, ⟨by repeat (first | (with_reducible first | exact HB.out | apply below_alloc | apply pw_below_drewN | apply below_drew1 | refine below_set ?_ GE335.out) | exact HB.out)⟩⟩
  case rest =>
   clear HC5
   try clear c1
   try clear c2
   try clear c2b0
   try clear c2b1
   try clear p2
   try clear c3
   try clear c12
   try clear c12b0
   try clear c12b1
   try clear c14
   try clear c15
   try clear c16
   try clear hcz13_0
   try clear hcz13_1
   try clear hcz15_0
   try clear hcz15_1
   try clear hcz8_0
   try clear hcz8_1
   try clear hfz13_0
   try clear hfz13_1
   try clear hfz15_0
   try clear hfz15_1
   try clear hfz8_0
   try clear hfz8_1
   obtain ⟨kq, x37_4, rfl, HA, HJ4, HO_336001, BK335, HB⟩ := hcut
   cases kq with
   | zero => exact absurd HA.out (by simp [laws_FnBothOver.j0])
   | succ kj4 =>
    have H := HA.out
    clear HA
    simp only [laws_FnBothOver.j0] at H
    by_cases c17 : x37_4 = true
    ·subst c17
     have H1 : ((spec_BothOver.f kj4 t328 t329 t332 t333 t334).bind fun t338 => (some (t336 == t338))) = some r := by rw [if_pos rfl] at H; exact H
     clear H
     have H := H1
     clear H1
     replace H := Option.bind_eq_some_iff.mp H
     obtain ⟨t338, A180, H⟩ := H
     replace H : (some (t336 == t338)) = some r := H
     have A18 := Aside0.mk A180
     clear A180
     obtain rfl := Option.some.inj H
     have hcz19_0 : wc.cell? ⟨gb335, 0, none⟩ = some (.int .i64 t328) := (blk_cell BK335.out 0).trans rfl
     have hcz19_1 : wc.cell? ⟨gb335, 1, none⟩ = some (.slice Ao9 t329.length co9) := (blk_cell BK335.out 1).trans rfl
     have hfz19_0 := blk_frozen BK335.out 0
     have hfz19_1 := blk_frozen BK335.out 1
     go_wp2_with (first | ((with_reducible refine gate_callee (f := 16) rfl ?_); refine goesL_ (some 43) rfl rfl Try.func16 (by kernel_rfl) rfl #[.agg #[.int .i64 t328, .slice Ao9 t329.length co9], .int .i64 t332, .int .i64 t333, .int .i64 t334] rfl (by (try simp only [List.map_toArray, List.map_cons, List.map_nil]); first | done | rfl | (simp only [List.length_drop, List.length_take]; rfl)) ?_; (with_reducible refine (spec_BothOver.calls kj4 t328 _ _ t329 t332 t333 t334 t338 _ ?side1 ?side2 A18.out).mono ?_); (case side1 => repeat (first | exact (Kd.R_reads' HO_336001.out).2.2 | (with_reducible refine Kd.C_alloc ?_ _) | (with_reducible refine Kd.C_drewN ?_ _) | (with_reducible refine Kd.C_drew ?_))); (case side2 => exact (Kd.R_reads' HO_336001.out).2.1); rintro e w20 ⟨rfl, hb⟩; refine ⟨_, rfl, ?_⟩; have n0_ := Aside0.mk (Kd.R_below (by (with_reducible repeat (first | apply Kd.R_alloc | apply Kd.R_drewN | apply Kd.R_drew)); exact HO_336001.out) hb); have n1_ := Aside0.mk (blk_below (g := gb335) (o := .cells #[.int .i64 t328, .slice Ao9 t329.length co9] 25 (0, 0)) (by (with_reducible repeat (first | refine blk_drewN ?_ _ | refine blk_drew ?_ | refine blk_alloc ?_ _)); exact BK335.out) hb); have n2_ := Aside0.mk (below_step (by repeat (first | (with_reducible first | exact HB.out | apply below_alloc | apply pw_below_drewN | apply below_drew1 | refine below_set ?_ GE335.out) | exact HB.out)) hb); clear HO_336001; clear BK335; clear HB; have HO_336001 := n0_; have BK335 := n1_; have HB := n2_; clear n0_ n1_ n2_; (try clear hb); (try clear hb2); (try clear hk); (try clear hi)))
     go_ret
     exact ⟨by first | rfl | (simp [errW_none, errW_some] <;> rfl) | (simp [*, errW_none, errW_some] <;> rfl), by repeat (first | (with_reducible first | exact HB.out | apply below_alloc | apply pw_below_drewN | apply below_drew1 | refine below_set ?_ GE335.out) | exact HB.out)⟩
    ·replace c17 := Bool.eq_false_iff.mpr c17
     subst c17
     have H1 : ((impl_NearAll.f kj4 t328 t329 t332).bind fun t339 => (if 0 ≤ t333 then (if t333 < (t339.length : Int) then ((impl_NearWalk.f kj4 t328 t329 t332 t333).bind fun bt343 => (laws_FnBothOver.l0 kj4 t332 t333 t336 (rd t339 t333) bt343.1 bt343.2 0 t328 t329)) else (none)) else (none))) = some r := by rw [if_neg (show ¬ (false = true) by decide)] at H; exact H
     clear H
     have H := H1
     clear H1
     replace H := Option.bind_eq_some_iff.mp H
     obtain ⟨t339, A210, H⟩ := H
     replace H : (if 0 ≤ t333 then (if t333 < (t339.length : Int) then ((impl_NearWalk.f kj4 t328 t329 t332 t333).bind fun bt343 => (laws_FnBothOver.l0 kj4 t332 t333 t336 (rd t339 t333) bt343.1 bt343.2 0 t328 t329)) else (none)) else (none)) = some r := H
     have A21 := Aside0.mk A210
     clear A210
     by_cases c22 : 0 ≤ t333
     ·rw [if_pos c22] at H
      have c22b0 : decide (0 ≤ t333) = true := decide_eq_true c22
      clear c22
      by_cases c23 : t333 < (t339.length : Int)
      ·rw [if_pos c23] at H
       have c23b0 : decide (t333 < (t339.length : Int)) = true := decide_eq_true c23
       clear c23
       replace H := Option.bind_eq_some_iff.mp H
       obtain ⟨⟨t343, t346⟩, A240, H⟩ := H
       replace H : (laws_FnBothOver.l0 kj4 t332 t333 t336 (rd t339 t333) t343 t346 0 t328 t329) = some r := H
       have A24 := Aside0.mk A240
       clear A240
       have H' := Aside0.mk H
       clear H
       have hcz25_0 : wc.cell? ⟨gb335, 0, none⟩ = some (.int .i64 t328) := (blk_cell BK335.out 0).trans rfl
       have hcz25_1 : wc.cell? ⟨gb335, 1, none⟩ = some (.slice Ao9 t329.length co9) := (blk_cell BK335.out 1).trans rfl
       have hfz25_0 := blk_frozen BK335.out 0
       have hfz25_1 := blk_frozen BK335.out 1
       go_wp2_with (first | ((with_reducible refine gate_callee (f := 17) rfl ?_); refine goesL_ (some 47) rfl rfl Try.func17 (by kernel_rfl) rfl #[.agg #[.int .i64 t328, .slice Ao9 t329.length co9], .int .i64 t332] rfl (by (try simp only [List.map_toArray, List.map_cons, List.map_nil]); first | done | rfl | (simp only [List.length_drop, List.length_take]; rfl)) ?_; (with_reducible refine (impl_NearAll.calls kj4 t328 _ _ t329 t332 t339 _ ?side1 ?side2 A21.out).mono ?_); (case side1 => repeat (first | exact (Kd.R_reads' HO_336001.out).2.2 | (with_reducible refine Kd.C_alloc ?_ _) | (with_reducible refine Kd.C_drewN ?_ _) | (with_reducible refine Kd.C_drew ?_))); (case side2 => exact (Kd.R_reads' HO_336001.out).2.1); rintro e w26 ⟨v340, rfl, ho0, hb⟩; refine ⟨_, rfl, ?_⟩; have n0_ := Aside0.mk (Kd.R_below (by (with_reducible repeat (first | apply Kd.R_alloc | apply Kd.R_drewN | apply Kd.R_drew)); exact HO_336001.out) hb); have n1_ := Aside0.mk (Kd.R_lower ho0 (below_size (by repeat (first | (with_reducible first | exact HB.out | apply below_alloc | apply pw_below_drewN | apply below_drew1 | refine below_set ?_ GE335.out) | exact HB.out)))); have n2_ := Aside0.mk (blk_below (g := gb335) (o := .cells #[.int .i64 t328, .slice Ao9 t329.length co9] 25 (0, 0)) (by (with_reducible repeat (first | refine blk_drewN ?_ _ | refine blk_drew ?_ | refine blk_alloc ?_ _)); exact BK335.out) hb); have n3_ := Aside0.mk (below_step (by repeat (first | (with_reducible first | exact HB.out | apply below_alloc | apply pw_below_drewN | apply below_drew1 | refine below_set ?_ GE335.out) | exact HB.out)) hb); clear HO_336001; clear BK335; clear HB; have HO_336001 := n0_; have HO341 := n1_; have BK335 := n2_; have HB := n3_; clear n0_ n1_ n2_ n3_; (try clear hb); (try clear hb2); (try clear hk); (try clear hi); (try clear ho0); obtain ⟨Ao27, co27, eo27⟩ := Kd.R_slice HO341.out; subst eo27; have p342 : 0 ≤ (t333 : Int) := of_decide_eq_true (by first | (with_reducible assumption) | assumption); have q342 : t333 < (t339.length : Int) := of_decide_eq_true (by first | (with_reducible assumption) | assumption); obtain ⟨ad342, e342, hx342_0⟩ := Kd.at_int (Kd.R_reads' HO341.out).2.2 t333 p342 q342; cases e342; replace p342 := eq_true p342; replace q342 := eq_true q342; have hcz28_0 : w26.cell? ⟨gb335, 0, none⟩ = some (.int .i64 t328) := (blk_cell BK335.out 0).trans rfl; have hcz28_1 : w26.cell? ⟨gb335, 1, none⟩ = some (.slice Ao9 t329.length co9) := (blk_cell BK335.out 1).trans rfl; have hfz28_0 := blk_frozen BK335.out 0; have hfz28_1 := blk_frozen BK335.out 1) | ((with_reducible refine gate_callee (f := 18) rfl ?_); refine goesL_ (some 55) rfl rfl Try.func18 (by kernel_rfl) rfl #[.agg #[.int .i64 t328, .slice Ao9 t329.length co9], .int .i64 t332, .int .i64 t333] rfl (by (try simp only [List.map_toArray, List.map_cons, List.map_nil]); first | done | rfl | (simp only [List.length_drop, List.length_take]; rfl)) ?_; (with_reducible refine (impl_NearWalk.calls kj4 t328 _ _ t329 t332 t333 t343 t346 _ ?side1 ?side2 A24.out).mono ?_); (case side1 => repeat (first | exact (Kd.R_reads' HO_336001.out).2.2 | (with_reducible refine Kd.C_alloc ?_ _) | (with_reducible refine Kd.C_drewN ?_ _) | (with_reducible refine Kd.C_drew ?_))); (case side2 => exact (Kd.R_reads' HO_336001.out).2.1); rintro e w29 ⟨v344, rfl, ho0, hb⟩; refine ⟨_, rfl, ?_⟩; have n0_ := Aside0.mk (Kd.R_below (by (with_reducible repeat (first | apply Kd.R_alloc | apply Kd.R_drewN | apply Kd.R_drew)); exact HO_336001.out) hb); have n1_ := Aside0.mk (Kd.R_elder' (by (with_reducible repeat (first | apply Kd.R_alloc | apply Kd.R_drewN | apply Kd.R_drew)); exact HO341.out) (Kd.R_base ho0) hb); have n2_ := Aside0.mk (Kd.R_lower (Kd.R_new' ho0 (Kd.R_lt (by (with_reducible repeat (first | apply Kd.R_alloc | apply Kd.R_drewN | apply Kd.R_drew)); exact HO341.out))) (below_size (by repeat (first | (with_reducible first | exact HB.out | apply below_alloc | apply pw_below_drewN | apply below_drew1 | refine below_set ?_ GE335.out) | exact HB.out)))); have n3_ := Aside0.mk (blk_below (g := gb335) (o := .cells #[.int .i64 t328, .slice Ao9 t329.length co9] 25 (0, 0)) (by (with_reducible repeat (first | refine blk_drewN ?_ _ | refine blk_drew ?_ | refine blk_alloc ?_ _)); exact BK335.out) hb); have n4_ := Aside0.mk (below_step (by repeat (first | (with_reducible first | exact HB.out | apply below_alloc | apply pw_below_drewN | apply below_drew1 | refine below_set ?_ GE335.out) | exact HB.out)) hb); clear HO_336001; clear HO341; clear BK335; clear HB; have HO_336001 := n0_; have HO341 := n1_; have HO345 := n2_; have BK335 := n3_; have HB := n4_; clear n0_ n1_ n2_ n3_ n4_; (try clear hb); (try clear hb2); (try clear hk); (try clear hi); (try clear ho0)))
       go_loopg [11] kj4 (fun kq v11 w' => ∃ (x11_2 : Int), v11 = .int .i64 x11_2 ∧ Aside0 (laws_FnBothOver.l0 kq t332 t333 t336 (rd t339 t333) t343 t346 x11_2 t328 t329 = some r) ∧ Aside0 (kq ≤ kj4) ∧ Aside0 (Kd.R (Kd.int .i64) 3 w' w.heap.size (fun _ => True) v344 t343) ∧ Aside0 (Kd.R k34 34 w' w.heap.size (fun _ => True) (.slice Ao9 t329.length co9) t329) ∧ Aside0 (w'.heap[gb335]? = some (.cells #[.int .i64 t328, (.slice Ao9 t329.length co9)] 25 (0, 0))) ∧ Aside0 (Below w.heap.size w w'))
       case atStart => exact ⟨(0), (by first | rfl | (simp; done) | (simp [*]; done)), H', ⟨Nat.le_refl _⟩, ⟨by (with_reducible repeat (first | apply Kd.R_alloc | apply Kd.R_drewN | apply Kd.R_drew)); exact Kd.R_mono HO345.out (fun _ hk => trivial)⟩, ⟨by (with_reducible repeat (first | apply Kd.R_alloc | apply Kd.R_drewN | apply Kd.R_drew)); exact HO_336001.out⟩, ⟨by (with_reducible repeat (first | refine blk_drewN ?_ _ | refine blk_drew ?_ | refine blk_alloc ?_ _)); exact BK335.out⟩, ⟨by repeat (first | (with_reducible first | exact HB.out | apply below_alloc | apply pw_below_drewN | apply below_drew1 | refine below_set ?_ GE335.out) | exact HB.out)⟩⟩
       case round =>
        clear H'
        try clear c1
        try clear c2
        try clear c2b0
        try clear c2b1
        try clear p2
        try clear c3
        try clear p3
        try clear q3
        try clear hx3
        try clear c12
        try clear c12b0
        try clear c12b1
        try clear c14
        try clear c15
        try clear c16
        try clear c17
        try clear c18
        try clear c22
        try clear c22b0
        try clear c23
        try clear c23b0
        try clear hcz13_0
        try clear hcz13_1
        try clear hcz15_0
        try clear hcz15_1
        try clear hcz19_0
        try clear hcz19_1
        try clear hcz25_0
        try clear hcz25_1
        try clear hcz28_0
        try clear hcz28_1
        try clear hcz8_0
        try clear hcz8_1
        try clear hfz13_0
        try clear hfz13_1
        try clear hfz15_0
        try clear hfz15_1
        try clear hfz19_0
        try clear hfz19_1
        try clear hfz25_0
        try clear hfz25_1
        try clear hfz28_0
        try clear hfz28_1
        try clear hfz8_0
        try clear hfz8_1
        try clear hx342_0
        try clear p2
        try clear p342
        try clear q342
        obtain ⟨x11_2, rfl, HA, HK2, HO_9, HO_336001, BK335, HB⟩ := hrel
        cases gk with
        | zero => exact absurd HA.out (by simp [laws_FnBothOver.l0])
        | succ k2 =>
         have H := HA.out
         clear HA
         simp only [laws_FnBothOver.l0] at H
         have HC30 := Aside0.mk H
         clear H
         go_upto_region 10 with (fail)
         go_cut [64] (fun v64 wc => ∃ (kq : Nat) (x64_29 : Bool), v64 = .bool x64_29 ∧ Aside0 (laws_FnBothOver.j2 kq t332 t333 t336 (rd t339 t333) t343 t346 x11_2 x64_29 t328 t329 = some r) ∧ Aside0 (kq ≤ k2) ∧ Aside0 (Kd.R (Kd.int .i64) 3 wc w.heap.size (fun _ => True) v344 t343) ∧ Aside0 (Kd.R k34 34 wc w.heap.size (fun _ => True) (.slice Ao9 t329.length co9) t329) ∧ Aside0 (wc.heap[gb335]? = some (.cells #[.int .i64 t328, (.slice Ao9 t329.length co9)] 25 (0, 0))) ∧ Aside0 (Below w.heap.size w wc))
         case first =>
          have H := HC30.out
          clear HC30
          by_cases c31 : x11_2 < (t343.length : Int)
          ·rw [if_pos c31] at H
           have c31b0 : decide (x11_2 < (t343.length : Int)) = true := decide_eq_true c31
           clear c31
           (first | rw [c31b0] | (simp only [i64_w, i32_w]; rw [c31b0]) | skip)
           have H' := Aside0.mk H
           clear H
           obtain ⟨Ao32, co32, eo32⟩ := Kd.R_slice HO_9.out
           subst eo32
           go_wp2
           go_meet
           case rel => exact ⟨_, (t346), (by first | rfl | (simp; done) | (simp [*]; done)), H', ⟨by have := HJ4.out; have := HK2.out; first | omega | exact Nat.le_refl _⟩, ⟨by (with_reducible repeat (first | apply Kd.R_alloc | apply Kd.R_drewN | apply Kd.R_drew)); exact HO_9.out⟩, ⟨by (with_reducible repeat (first | apply Kd.R_alloc | apply Kd.R_drewN | apply Kd.R_drew)); exact HO_336001.out⟩, ⟨by (with_reducible repeat (first | refine blk_drewN ?_ _ | refine blk_drew ?_ | refine blk_alloc ?_ _)); exact BK335.out⟩, ⟨by repeat (first | (with_reducible first | exact HB.out | apply below_alloc | apply pw_below_drewN | apply below_drew1 | refine below_set ?_ GE335.out) | exact HB.out)⟩⟩
          ·rw [if_neg c31] at H
           have c31b0 : decide (x11_2 < (t343.length : Int)) = false := decide_eq_false c31
           clear c31
           (first | rw [c31b0] | (simp only [i64_w, i32_w]; rw [c31b0]) | skip)
           have H' := Aside0.mk H
           clear H
           obtain ⟨Ao33, co33, eo33⟩ := Kd.R_slice HO_9.out
           subst eo33
           go_wp2
           go_meet
           case rel => exact ⟨_, (false), (by first | rfl | (simp; done) | (simp [*]; done)), H', ⟨by have := HJ4.out; have := HK2.out; first | omega | exact Nat.le_refl _⟩, ⟨by (with_reducible repeat (first | apply Kd.R_alloc | apply Kd.R_drewN | apply Kd.R_drew)); exact HO_9.out⟩, ⟨by (with_reducible repeat (first | apply Kd.R_alloc | apply Kd.R_drewN | apply Kd.R_drew)); exact HO_336001.out⟩, ⟨by (with_reducible repeat (first | refine blk_drewN ?_ _ | refine blk_drew ?_ | refine blk_alloc ?_ _)); exact BK335.out⟩, ⟨by repeat (first | (with_reducible first | exact HB.out | apply below_alloc | apply pw_below_drewN | apply below_drew1 | refine below_set ?_ GE335.out) | exact HB.out)⟩⟩
         case rest =>
          clear HC30
          try clear c1
          try clear c2
          try clear c2b0
          try clear c2b1
          try clear p2
          try clear c3
          try clear p3
          try clear q3
          try clear hx3
          try clear c12
          try clear c12b0
          try clear c12b1
          try clear c14
          try clear c15
          try clear c16
          try clear c17
          try clear c18
          try clear c22
          try clear c22b0
          try clear c23
          try clear c23b0
          try clear c31
          try clear c31b0
          try clear hcz13_0
          try clear hcz13_1
          try clear hcz15_0
          try clear hcz15_1
          try clear hcz19_0
          try clear hcz19_1
          try clear hcz25_0
          try clear hcz25_1
          try clear hcz28_0
          try clear hcz28_1
          try clear hcz8_0
          try clear hcz8_1
          try clear hfz13_0
          try clear hfz13_1
          try clear hfz15_0
          try clear hfz15_1
          try clear hfz19_0
          try clear hfz19_1
          try clear hfz25_0
          try clear hfz25_1
          try clear hfz28_0
          try clear hfz28_1
          try clear hfz8_0
          try clear hfz8_1
          try clear hx342_0
          try clear p2
          try clear p3
          try clear p342
          try clear q3
          try clear q342
          obtain ⟨kq, x64_29, rfl, HA, HJ29, HO_9, HO_336001, BK335, HB⟩ := hcut
          cases kq with
          | zero => exact absurd HA.out (by simp [laws_FnBothOver.j2])
          | succ kj29 =>
           have H := HA.out
           clear HA
           simp only [laws_FnBothOver.j2] at H
           by_cases c34 : x64_29 = true
           ·subst c34
            have H1 : (if 0 ≤ x11_2 then (if x11_2 < (t343.length : Int) then (if 0 ≤ (rd t343 x11_2) then (if (rd t343 x11_2) < (t329.length : Int) then ((impl_BothOver.f kj29 t328 t329 t332 t333 ((rd_T34 t329 (rd t343 x11_2)).f1)).bind fun t349 => (if t349 = (rd t339 t333) then (laws_FnBothOver.l0 kj29 t332 t333 t336 (rd t339 t333) t343 t346 (wrap64 (x11_2 + 1)) t328 t329) else (some false))) else (none)) else (none)) else (none)) else (none)) = some r := by rw [if_pos rfl] at H; exact H
            clear H
            have H := H1
            clear H1
            by_cases c35 : 0 ≤ x11_2
            ·rw [if_pos c35] at H
             have c35b0 : decide (0 ≤ x11_2) = true := decide_eq_true c35
             clear c35
             by_cases c36 : x11_2 < (t343.length : Int)
             ·rw [if_pos c36] at H
              have c36b0 : decide (x11_2 < (t343.length : Int)) = true := decide_eq_true c36
              clear c36
              by_cases c37 : 0 ≤ (rd t343 x11_2)
              ·rw [if_pos c37] at H
               have c37b0 : decide (0 ≤ (rd t343 x11_2)) = true := decide_eq_true c37
               clear c37
               by_cases c38 : (rd t343 x11_2) < (t329.length : Int)
               ·rw [if_pos c38] at H
                have c38b0 : decide ((rd t343 x11_2) < (t329.length : Int)) = true := decide_eq_true c38
                clear c38
                replace H := Option.bind_eq_some_iff.mp H
                obtain ⟨t349, A390, H⟩ := H
                replace H : (if t349 = (rd t339 t333) then (laws_FnBothOver.l0 kj29 t332 t333 t336 (rd t339 t333) t343 t346 (wrap64 (x11_2 + 1)) t328 t329) else (some false)) = some r := H
                have A39 := Aside0.mk A390
                clear A390
                have HH_ := Aside0.mk H
                clear H
                try go_wp2
                have n0_ := Aside0.mk (Kd.R_drew HO_9.out)
                have n1_ := Aside0.mk (Kd.R_drew HO_336001.out)
                have n2_ := Aside0.mk (blk_drew BK335.out)
                have n3_ := Aside0.mk (below_drew1 HB.out)
                clear HO_9
                clear HO_336001
                clear BK335
                clear HB
                have HO_9 := n0_
                have HO_336001 := n1_
                have BK335 := n2_
                have HB := n3_
                clear n0_ n1_ n2_ n3_
                obtain ⟨Ao42, co42, eo42⟩ := Kd.R_slice HO_9.out
                (first | subst eo42 | (injection eo42 with f1_ f2_ f3_; have f4_ := f1_.symm; have f5_ := f3_.symm; clear f1_ f2_ f3_; subst f4_; subst f5_))
                have p347 : 0 ≤ (x11_2 : Int) := of_decide_eq_true (by first | (with_reducible assumption) | assumption)
                have q347 : x11_2 < (t343.length : Int) := of_decide_eq_true (by first | (with_reducible assumption) | assumption)
                obtain ⟨ad347, e347, hx347_0⟩ := Kd.at_int (Kd.R_reads' HO_9.out).2.2 x11_2 p347 q347
                cases e347
                replace p347 := eq_true p347
                replace q347 := eq_true q347
                have p348 : 0 ≤ ((rd t343 x11_2) : Int) := of_decide_eq_true (by first | (with_reducible assumption) | assumption)
                have q348 : (rd t343 x11_2) < (t329.length : Int) := of_decide_eq_true (by first | (with_reducible assumption) | assumption)
                obtain ⟨ad348, e348, hx348_0, hx348_1, hx348_2, hx348_3, hx348_4⟩ := at_T34 (Kd.R_reads' HO_336001.out).2.2 (rd t343 x11_2) p348 q348
                cases e348
                replace p348 := eq_true p348
                replace q348 := eq_true q348
                refine start_ (n := 15) (S := fun w' => w'.cell? ⟨gb335, 0, none⟩ = some (.int .i64 t328) ∧ w'.cell? ⟨gb335, 1, none⟩ = some (.slice (some ad348) t329.length co9) ∧ w'.cell? (ad347.add (x11_2).toNat) = some (.int .i64 (rd t343 x11_2)) ∧ w'.cell? (ad348.add (((rd t343 x11_2)).toNat * 5)) = some (.int .i64 ((rd_T34 t329 (rd t343 x11_2)).f0)) ∧ w'.cell? ⟨(ad348.add (((rd t343 x11_2)).toNat * 5)).block, (ad348.add (((rd t343 x11_2)).toNat * 5)).off + 1, none⟩ = some (.int .i64 ((rd_T34 t329 (rd t343 x11_2)).f1)) ∧ w'.cell? ⟨(ad348.add (((rd t343 x11_2)).toNat * 5)).block, (ad348.add (((rd t343 x11_2)).toNat * 5)).off + 2, none⟩ = some (.int .i64 ((rd_T34 t329 (rd t343 x11_2)).f2)) ∧ w'.cell? ⟨(ad348.add (((rd t343 x11_2)).toNat * 5)).block, (ad348.add (((rd t343 x11_2)).toNat * 5)).off + 3, none⟩ = some (.int .i64 ((rd_T34 t329 (rd t343 x11_2)).f3)) ∧ w'.cell? ⟨(ad348.add (((rd t343 x11_2)).toNat * 5)).block, (ad348.add (((rd t343 x11_2)).toNat * 5)).off + 4, none⟩ = some (.int .i64 ((rd_T34 t329 (rd t343 x11_2)).f4))) (ds := []) #[false, false, false, false, false, false, false, false, false, false, false, false, false, false, false] (by kernel_rfl) rfl rfl ⟨(blk_cell BK335.out 0).trans rfl, (blk_cell BK335.out 1).trans rfl, hx347_0, hx348_0, hx348_1, hx348_2, hx348_3, hx348_4⟩ (fun hHeld => ?_); refine with_tabW laws_FnBothOver.tab12 laws_FnBothOver.bits12 (fun HT_ HW_ => ?_)
                generalize wc.drew = w41 at HO_9 HO_336001 BK335 HB hx347_0 hx348_0 hx348_1 hx348_2 hx348_3 hx348_4 hHeld ⊢
                refine pure_ (i := 1) (N := some 68) (v := ?_) (a' := ?_) #[false, true, false, false, false, false, false, false, false, false, false, false, false, false, false] rfl rfl (any_of HT_.out (by kernel_rfl)) (fun _ _ _ h => h) (Or.inl ⟨by rfl, ?_⟩) ?_ ?_
                rotate_left
                ·intro w'
                 go_simp
                 with_reducible rfl
                rotate_left
                ·simp only [Act.put, List.setIfInBounds_toArray, List.set_cons_zero, List.set_cons_succ, i64_w, i32_w]
                 rfl
                refine pure_ (i := 2) (N := some 69) (v := ?_) (a' := ?_) #[false, true, true, false, false, false, false, false, false, false, false, false, false, false, false] rfl rfl (any_of HT_.out (by kernel_rfl)) (fun _ _ _ h => h) (Or.inl ⟨by rfl, ?_⟩) ?_ ?_
                rotate_left
                ·intro w'
                 go_simp
                 with_reducible rfl
                rotate_left
                ·simp only [Act.put, List.setIfInBounds_toArray, List.set_cons_zero, List.set_cons_succ, i64_w, i32_w]
                 rfl
                refine pure_ (i := 3) (N := some 70) (v := ?_) (a' := ?_) #[false, true, true, true, false, false, false, false, false, false, false, false, false, false, false] rfl rfl (any_of HT_.out (by kernel_rfl)) (fun _ _ _ h => h) (Or.inl ⟨by rfl, ?_⟩) ?_ ?_
                rotate_left
                ·intro w'
                 go_simp
                 with_reducible rfl
                rotate_left
                ·simp only [Act.put, List.setIfInBounds_toArray, List.set_cons_zero, List.set_cons_succ, i64_w, i32_w]
                 rfl
                refine pure_ (i := 5) (N := some 72) (v := ?_) (a' := ?_) #[false, true, true, true, false, true, false, false, false, false, false, false, false, false, false] rfl rfl (any_of HT_.out (by kernel_rfl)) (fun _ _ _ h => h) (Or.inl ⟨by rfl, ?_⟩) ?_ ?_
                rotate_left
                ·intro w'
                 go_simp
                 with_reducible rfl
                rotate_left
                ·simp only [Act.put, List.setIfInBounds_toArray, List.set_cons_zero, List.set_cons_succ, i64_w, i32_w]
                 rfl
                refine pure_ (i := 6) (N := some 73) (v := ?_) (a' := ?_) #[false, true, true, true, false, true, true, false, false, false, false, false, false, false, false] rfl rfl (any_of HT_.out (by kernel_rfl)) (fun _ _ _ h => h) (Or.inl ⟨by rfl, ?_⟩) ?_ ?_
                rotate_left
                ·intro w'
                 go_simp
                 with_reducible rfl
                rotate_left
                ·simp only [Act.put, List.setIfInBounds_toArray, List.set_cons_zero, List.set_cons_succ, i64_w, i32_w]
                 rfl
                refine pure_ (i := 7) (N := some 74) (v := ?_) (a' := ?_) #[false, true, true, true, false, true, true, true, false, false, false, false, false, false, false] rfl rfl (any_of HT_.out (by kernel_rfl)) (fun _ _ _ h => h) (Or.inl ⟨by rfl, ?_⟩) ?_ ?_
                rotate_left
                ·intro w'
                 go_simp
                 with_reducible rfl
                rotate_left
                ·simp only [Act.put, List.setIfInBounds_toArray, List.set_cons_zero, List.set_cons_succ, i64_w, i32_w]
                 rfl
                refine pure_ (i := 13) (N := some 80) (v := ?_) (a' := ?_) #[false, true, true, true, false, true, true, true, false, false, false, false, false, true, false] rfl rfl (any_of HT_.out (by kernel_rfl)) (fun _ _ _ h => h) (Or.inl ⟨by rfl, ?_⟩) ?_ ?_
                rotate_left
                ·intro w'
                 go_simp
                 with_reducible rfl
                rotate_left
                ·simp only [Act.put, List.setIfInBounds_toArray, List.set_cons_zero, List.set_cons_succ, i64_w, i32_w]
                 rfl
                refine take_ (i := 0) (N := some 67) (v := ?_) (a' := ?_) #[true, true, true, true, false, true, true, true, false, false, false, false, false, true, false] rfl rfl (take_ofW HT_.out HW_.out (by kernel_rfl)) (fun _ _ _ h => h) (Or.inl ⟨by rfl, ?_⟩) hHeld ?_ ?_
                rotate_left
                ·rintro w' ⟨s0, s1, s2, s3, s4, s5, s6, s7⟩
                 go_simp
                 with_reducible rfl
                rotate_left
                ·simp only [Act.put, List.setIfInBounds_toArray, List.set_cons_zero, List.set_cons_succ, i64_w, i32_w]
                 rfl
                refine take_ (i := 4) (N := some 71) (v := ?_) (a' := ?_) #[true, true, true, true, true, true, true, true, false, false, false, false, false, true, false] rfl rfl (take_ofW HT_.out HW_.out (by kernel_rfl)) (fun _ _ _ h => h) (Or.inl ⟨by rfl, ?_⟩) hHeld ?_ ?_
                rotate_left
                ·rintro w' ⟨s0, s1, s2, s3, s4, s5, s6, s7⟩
                 go_simp
                 with_reducible rfl
                rotate_left
                ·simp only [Act.put, List.setIfInBounds_toArray, List.set_cons_zero, List.set_cons_succ, i64_w, i32_w]
                 rfl
                refine take_ (i := 8) (N := some 75) (v := ?_) (a' := ?_) #[true, true, true, true, true, true, true, true, true, false, false, false, false, true, false] rfl rfl (take_ofW HT_.out HW_.out (by kernel_rfl)) (fun _ _ _ h => h) (Or.inl ⟨by rfl, ?_⟩) hHeld ?_ ?_
                rotate_left
                ·rintro w' ⟨s0, s1, s2, s3, s4, s5, s6, s7⟩
                 go_simp
                 with_reducible rfl
                rotate_left
                ·simp only [Act.put, List.setIfInBounds_toArray, List.set_cons_zero, List.set_cons_succ, i64_w, i32_w]
                 rfl
                refine pure_ (i := 9) (N := some 76) (v := ?_) (a' := ?_) #[true, true, true, true, true, true, true, true, true, true, false, false, false, true, false] rfl rfl (any_of HT_.out (by kernel_rfl)) (fun _ _ _ h => h) (Or.inl ⟨by rfl, ?_⟩) ?_ ?_
                rotate_left
                ·intro w'
                 go_simp
                 with_reducible rfl
                rotate_left
                ·simp only [Act.put, List.setIfInBounds_toArray, List.set_cons_zero, List.set_cons_succ, i64_w, i32_w]
                 rfl
                refine pure_ (i := 10) (N := some 77) (v := ?_) (a' := ?_) #[true, true, true, true, true, true, true, true, true, true, true, false, false, true, false] rfl rfl (any_of HT_.out (by kernel_rfl)) (fun _ _ _ h => h) (Or.inl ⟨by rfl, ?_⟩) ?_ ?_
                rotate_left
                ·intro w'
                 go_simp
                 with_reducible rfl
                rotate_left
                ·simp only [Act.put, List.setIfInBounds_toArray, List.set_cons_zero, List.set_cons_succ, i64_w, i32_w]
                 rfl
                refine take_ (i := 11) (N := some 78) (v := ?_) (a' := ?_) #[true, true, true, true, true, true, true, true, true, true, true, true, false, true, false] rfl rfl (take_ofW HT_.out HW_.out (by kernel_rfl)) (fun _ _ _ h => h) (Or.inl ⟨by rfl, ?_⟩) hHeld ?_ ?_
                rotate_left
                ·rintro w' ⟨s0, s1, s2, s3, s4, s5, s6, s7⟩
                 go_simp
                 with_reducible rfl
                rotate_left
                ·simp only [Act.put, List.setIfInBounds_toArray, List.set_cons_zero, List.set_cons_succ, i64_w, i32_w]
                 rfl
                refine one_ (i := 12) (N := some 79) #[true, true, true, true, true, true, true, true, true, true, true, true, true, true, false] rfl rfl (one_of HT_.out (by kernel_rfl)) (by decide) (fun K hK => ?_)
                refine goes_ Try.func15 (by kernel_rfl) rfl #[.agg #[.int .i64 t328, .slice (some ad348) t329.length co9], .int .i64 t332, .int .i64 t333, .int .i64 ((rd_T34 t329 (rd t343 x11_2)).f1)] (by rfl) rfl rfl (by (try simp only [List.map_toArray, List.map_cons, List.map_nil]); first | done | rfl | (simp only [List.length_drop, List.length_take]; rfl)) ?_
                with_reducible refine (impl_BothOver.calls kj29 t328 _ _ t329 t332 t333 ((rd_T34 t329 (rd t343 x11_2)).f1) t349 _ ?side1 ?side2 A39.out).mono ?_
                (case side1 => repeat (first | exact (Kd.R_reads' HO_336001.out).2.2 | (with_reducible refine Kd.C_alloc ?_ _) | (with_reducible refine Kd.C_drewN ?_ _) | (with_reducible refine Kd.C_drew ?_)))
                (case side2 => exact (Kd.R_reads' HO_336001.out).2.1)
                rintro e w43 ⟨rfl, hb⟩
                have HS2_ := (hb.cell (World.block_lt_of_cell? _ _ (hHeld.2.2.1))).trans (hHeld.2.2.1)
                have HS3_ := (hb.cell (World.block_lt_of_cell? _ _ (hHeld.2.2.2.1))).trans (hHeld.2.2.2.1)
                have HS4_ := (hb.cell (World.block_lt_of_cell? _ _ (hHeld.2.2.2.2.1))).trans (hHeld.2.2.2.2.1)
                have HS5_ := (hb.cell (World.block_lt_of_cell? _ _ (hHeld.2.2.2.2.2.1))).trans (hHeld.2.2.2.2.2.1)
                have HS6_ := (hb.cell (World.block_lt_of_cell? _ _ (hHeld.2.2.2.2.2.2.1))).trans (hHeld.2.2.2.2.2.2.1)
                have HS7_ := (hb.cell (World.block_lt_of_cell? _ _ (hHeld.2.2.2.2.2.2.2))).trans (hHeld.2.2.2.2.2.2.2)
                refine ⟨_, rfl, ?_⟩
                have n0_ := Aside0.mk (Kd.R_below (by (with_reducible repeat (first | apply Kd.R_alloc | apply Kd.R_drewN | apply Kd.R_drew)); exact HO_9.out) hb)
                have n1_ := Aside0.mk (Kd.R_below (by (with_reducible repeat (first | apply Kd.R_alloc | apply Kd.R_drewN | apply Kd.R_drew)); exact HO_336001.out) hb)
                have n2_ := Aside0.mk (blk_below (g := gb335) (o := .cells #[.int .i64 t328, .slice (some ad348) t329.length co9] 25 (0, 0)) (by (with_reducible repeat (first | refine blk_drewN ?_ _ | refine blk_drew ?_ | refine blk_alloc ?_ _)); exact BK335.out) hb)
                have n3_ := Aside0.mk (below_step (by repeat (first | (with_reducible first | exact HB.out | apply below_alloc | apply pw_below_drewN | apply below_drew1 | refine below_set ?_ GE335.out) | exact HB.out)) hb)
                clear HO_9
                clear HO_336001
                clear BK335
                clear HB
                have HO_9 := n0_
                have HO_336001 := n1_
                have BK335 := n2_
                have HB := n3_
                clear n0_ n1_ n2_ n3_
                (try clear hb)
                (try clear hb2)
                (try clear hk)
                (try clear hi)
                refine hK.out _ _ ⟨(blk_cell BK335.out 0).trans rfl, (blk_cell BK335.out 1).trans rfl, HS2_, HS3_, HS4_, HS5_, HS6_, HS7_⟩ (fun hHeld => ?_)
                clear hK K
                refine norm_ (a' := ?_) ?_ ?_
                rotate_left
                ·show Act.put _ (some 79) _ = _
                 simp only [Act.put, List.setIfInBounds_toArray, List.set_cons_zero, List.set_cons_succ, i64_w, i32_w]
                 rfl
                refine pure_ (i := 14) (N := some 81) (v := ?_) (a' := ?_) #[true, true, true, true, true, true, true, true, true, true, true, true, true, true, true] rfl rfl (any_of HT_.out (by kernel_rfl)) (fun _ _ _ h => h) (Or.inl ⟨by rfl, ?_⟩) ?_ ?_
                rotate_left
                ·intro w'
                 go_simp
                 with_reducible rfl
                rotate_left
                ·simp only [Act.put, List.setIfInBounds_toArray, List.set_cons_zero, List.set_cons_succ, i64_w, i32_w]
                 rfl
                refine done_ (done_of HT_.out (by kernel_rfl)) ?_
                have H := HH_.out
                clear HH_
                by_cases c40 : t349 = (rd t339 t333)
                ·rw [if_pos c40] at H
                 have c40b0 : (t349 == (rd t339 t333)) = true := beq_iff_eq.mpr c40
                 have c40b1 : (t349 != (rd t339 t333)) = false := bne_eq_false_iff_eq.mpr c40
                 clear c40
                 have H' := Aside0.mk H
                 clear H
                 try go_wp2
                 go_roundg kj29
                 case measure => have := HJ4.out; have := HK2.out; have := HJ29.out; omega
                 case rel => exact ⟨(wrap64 (x11_2 + 1)), (by first | rfl | (simp; done) | (simp [*]; done)), H', ⟨by have := HJ4.out; have := HK2.out; have := HJ29.out; omega⟩, ⟨by (with_reducible repeat (first | apply Kd.R_alloc | apply Kd.R_drewN | apply Kd.R_drew)); exact HO_9.out⟩, ⟨by (with_reducible repeat (first | apply Kd.R_alloc | apply Kd.R_drewN | apply Kd.R_drew)); exact HO_336001.out⟩, ⟨by (with_reducible repeat (first | refine blk_drewN ?_ _ | refine blk_drew ?_ | refine blk_alloc ?_ _)); exact BK335.out⟩, ⟨by repeat (first | (with_reducible first | exact HB.out | apply below_alloc | apply pw_below_drewN | apply below_drew1 | refine below_set ?_ GE335.out) | exact HB.out)⟩⟩
                ·rw [if_neg c40] at H
                 have c40b0 : (t349 == (rd t339 t333)) = false := beq_eq_false_iff_ne.mpr c40
                 have c40b1 : (t349 != (rd t339 t333)) = true := bne_iff_ne.mpr c40
                 obtain rfl := Option.some.inj H
                 try go_wp2
                 go_ret
                 exact ⟨by first | rfl | (simp [errW_none, errW_some] <;> rfl) | (simp [*, errW_none, errW_some] <;> rfl), by repeat (first | (with_reducible first | exact HB.out | apply below_alloc | apply pw_below_drewN | apply below_drew1 | refine below_set ?_ GE335.out) | exact HB.out)⟩
               ·rw [if_neg c38] at H
                exact absurd H (by simp)
              ·rw [if_neg c37] at H
               exact absurd H (by simp)
             ·rw [if_neg c36] at H
              exact absurd H (by simp)
            ·rw [if_neg c35] at H
             exact absurd H (by simp)
           ·replace c34 := Bool.eq_false_iff.mpr c34
            subst c34
            have H1 : (if t336 ≥ (rd t339 t333) then ((impl_BothOver.f kj29 t328 t329 t332 t333 t332).bind fun t350 => (if t350 = (rd t339 t333) then ((impl_BothOver.f kj29 t328 t329 t332 t333 t333).bind fun t351 => (some (t351 == (rd t339 t333)))) else (some false))) else (some false)) = some r := by rw [if_neg (show ¬ (false = true) by decide)] at H; exact H
            clear H
            have H := H1
            clear H1
            by_cases c47 : t336 ≥ (rd t339 t333)
            ·rw [if_pos c47] at H
             have c47b0 : decide ((rd t339 t333) ≤ t336) = true := decide_eq_true c47
             clear c47
             replace H := Option.bind_eq_some_iff.mp H
             obtain ⟨t350, A480, H⟩ := H
             replace H : (if t350 = (rd t339 t333) then ((impl_BothOver.f kj29 t328 t329 t332 t333 t333).bind fun t351 => (some (t351 == (rd t339 t333)))) else (some false)) = some r := H
             have A48 := Aside0.mk A480
             clear A480
             by_cases c49 : t350 = (rd t339 t333)
             ·rw [if_pos c49] at H
              have c49b0 : (t350 == (rd t339 t333)) = true := beq_iff_eq.mpr c49
              have c49b1 : (t350 != (rd t339 t333)) = false := bne_eq_false_iff_eq.mpr c49
              clear c49
              replace H := Option.bind_eq_some_iff.mp H
              obtain ⟨t351, A500, H⟩ := H
              replace H : (some (t351 == (rd t339 t333))) = some r := H
              have A50 := Aside0.mk A500
              clear A500
              obtain rfl := Option.some.inj H
              have hcz51_0 : wc.cell? ⟨gb335, 0, none⟩ = some (.int .i64 t328) := (blk_cell BK335.out 0).trans rfl
              have hcz51_1 : wc.cell? ⟨gb335, 1, none⟩ = some (.slice Ao9 t329.length co9) := (blk_cell BK335.out 1).trans rfl
              have hfz51_0 := blk_frozen BK335.out 0
              have hfz51_1 := blk_frozen BK335.out 1
              go_wp2_with (first | (go_at_call 15; (with_reducible refine (impl_BothOver.calls kj29 t328 _ _ t329 t332 t333 t332 t350 _ ?side1 ?side2 A48.out).mono ?_); (case side1 => repeat (first | exact (Kd.R_reads' HO_336001.out).2.2 | (with_reducible refine Kd.C_alloc ?_ _) | (with_reducible refine Kd.C_drewN ?_ _) | (with_reducible refine Kd.C_drew ?_))); (case side2 => exact (Kd.R_reads' HO_336001.out).2.1); rintro e w52 ⟨rfl, hb⟩; have n0_ := Aside0.mk (Kd.R_below (by (with_reducible repeat (first | apply Kd.R_alloc | apply Kd.R_drewN | apply Kd.R_drew)); exact HO_9.out) hb); have n1_ := Aside0.mk (Kd.R_below (by (with_reducible repeat (first | apply Kd.R_alloc | apply Kd.R_drewN | apply Kd.R_drew)); exact HO_336001.out) hb); have n2_ := Aside0.mk (blk_below (g := gb335) (o := .cells #[.int .i64 t328, .slice Ao9 t329.length co9] 25 (0, 0)) (by (with_reducible repeat (first | refine blk_drewN ?_ _ | refine blk_drew ?_ | refine blk_alloc ?_ _)); exact BK335.out) hb); have n3_ := Aside0.mk (below_step (by repeat (first | (with_reducible first | exact HB.out | apply below_alloc | apply pw_below_drewN | apply below_drew1 | refine below_set ?_ GE335.out) | exact HB.out)) hb); clear HO_9; clear HO_336001; clear BK335; clear HB; have HO_9 := n0_; have HO_336001 := n1_; have BK335 := n2_; have HB := n3_; clear n0_ n1_ n2_ n3_; (try clear hb); (try clear hb2); (try clear hk); (try clear hi); have hcz53_0 : w52.cell? ⟨gb335, 0, none⟩ = some (.int .i64 t328) := (blk_cell BK335.out 0).trans rfl; have hcz53_1 : w52.cell? ⟨gb335, 1, none⟩ = some (.slice Ao9 t329.length co9) := (blk_cell BK335.out 1).trans rfl; have hfz53_0 := blk_frozen BK335.out 0; have hfz53_1 := blk_frozen BK335.out 1) | (go_at_call 15; (with_reducible refine (impl_BothOver.calls kj29 t328 _ _ t329 t332 t333 t333 t351 _ ?side1 ?side2 A50.out).mono ?_); (case side1 => repeat (first | exact (Kd.R_reads' HO_336001.out).2.2 | (with_reducible refine Kd.C_alloc ?_ _) | (with_reducible refine Kd.C_drewN ?_ _) | (with_reducible refine Kd.C_drew ?_))); (case side2 => exact (Kd.R_reads' HO_336001.out).2.1); rintro e w54 ⟨rfl, hb⟩; have n0_ := Aside0.mk (Kd.R_below (by (with_reducible repeat (first | apply Kd.R_alloc | apply Kd.R_drewN | apply Kd.R_drew)); exact HO_9.out) hb); have n1_ := Aside0.mk (Kd.R_below (by (with_reducible repeat (first | apply Kd.R_alloc | apply Kd.R_drewN | apply Kd.R_drew)); exact HO_336001.out) hb); have n2_ := Aside0.mk (blk_below (g := gb335) (o := .cells #[.int .i64 t328, .slice Ao9 t329.length co9] 25 (0, 0)) (by (with_reducible repeat (first | refine blk_drewN ?_ _ | refine blk_drew ?_ | refine blk_alloc ?_ _)); exact BK335.out) hb); have n3_ := Aside0.mk (below_step (by repeat (first | (with_reducible first | exact HB.out | apply below_alloc | apply pw_below_drewN | apply below_drew1 | refine below_set ?_ GE335.out) | exact HB.out)) hb); clear HO_9; clear HO_336001; clear BK335; clear HB; have HO_9 := n0_; have HO_336001 := n1_; have BK335 := n2_; have HB := n3_; clear n0_ n1_ n2_ n3_; (try clear hb); (try clear hb2); (try clear hk); (try clear hi)))
              go_ret
              exact ⟨by first | rfl | (simp [errW_none, errW_some] <;> rfl) | (simp [*, errW_none, errW_some] <;> rfl), by repeat (first | (with_reducible first | exact HB.out | apply below_alloc | apply pw_below_drewN | apply below_drew1 | refine below_set ?_ GE335.out) | exact HB.out)⟩
             ·rw [if_neg c49] at H
              have c49b0 : (t350 == (rd t339 t333)) = false := beq_eq_false_iff_ne.mpr c49
              have c49b1 : (t350 != (rd t339 t333)) = true := bne_iff_ne.mpr c49
              obtain rfl := Option.some.inj H
              have hcz55_0 : wc.cell? ⟨gb335, 0, none⟩ = some (.int .i64 t328) := (blk_cell BK335.out 0).trans rfl
              have hcz55_1 : wc.cell? ⟨gb335, 1, none⟩ = some (.slice Ao9 t329.length co9) := (blk_cell BK335.out 1).trans rfl
              have hfz55_0 := blk_frozen BK335.out 0
              have hfz55_1 := blk_frozen BK335.out 1
              go_wp2_with (first | (go_at_call 15; (with_reducible refine (impl_BothOver.calls kj29 t328 _ _ t329 t332 t333 t332 t350 _ ?side1 ?side2 A48.out).mono ?_); (case side1 => repeat (first | exact (Kd.R_reads' HO_336001.out).2.2 | (with_reducible refine Kd.C_alloc ?_ _) | (with_reducible refine Kd.C_drewN ?_ _) | (with_reducible refine Kd.C_drew ?_))); (case side2 => exact (Kd.R_reads' HO_336001.out).2.1); rintro e w56 ⟨rfl, hb⟩; have n0_ := Aside0.mk (Kd.R_below (by (with_reducible repeat (first | apply Kd.R_alloc | apply Kd.R_drewN | apply Kd.R_drew)); exact HO_9.out) hb); have n1_ := Aside0.mk (Kd.R_below (by (with_reducible repeat (first | apply Kd.R_alloc | apply Kd.R_drewN | apply Kd.R_drew)); exact HO_336001.out) hb); have n2_ := Aside0.mk (blk_below (g := gb335) (o := .cells #[.int .i64 t328, .slice Ao9 t329.length co9] 25 (0, 0)) (by (with_reducible repeat (first | refine blk_drewN ?_ _ | refine blk_drew ?_ | refine blk_alloc ?_ _)); exact BK335.out) hb); have n3_ := Aside0.mk (below_step (by repeat (first | (with_reducible first | exact HB.out | apply below_alloc | apply pw_below_drewN | apply below_drew1 | refine below_set ?_ GE335.out) | exact HB.out)) hb); clear HO_9; clear HO_336001; clear BK335; clear HB; have HO_9 := n0_; have HO_336001 := n1_; have BK335 := n2_; have HB := n3_; clear n0_ n1_ n2_ n3_; (try clear hb); (try clear hb2); (try clear hk); (try clear hi)))
              go_ret
              exact ⟨by first | rfl | (simp [errW_none, errW_some] <;> rfl) | (simp [*, errW_none, errW_some] <;> rfl), by repeat (first | (with_reducible first | exact HB.out | apply below_alloc | apply pw_below_drewN | apply below_drew1 | refine below_set ?_ GE335.out) | exact HB.out)⟩
            ·rw [if_neg c47] at H
             have c47b0 : decide ((rd t339 t333) ≤ t336) = false := decide_eq_false c47
             clear c47
             obtain rfl := Option.some.inj H
             go_wp2
             go_ret
             exact ⟨by first | rfl | (simp [errW_none, errW_some] <;> rfl) | (simp [*, errW_none, errW_some] <;> rfl), by repeat (first | (with_reducible first | exact HB.out | apply below_alloc | apply pw_below_drewN | apply below_drew1 | refine below_set ?_ GE335.out) | exact HB.out)⟩
      ·rw [if_neg c23] at H
       exact absurd H (by simp)
     ·rw [if_neg c22] at H
      exact absurd H (by simp)
end Go.Proofs.Ytljdcinpjnijcaa.Pr
end
section
set_option linter.unusedVariables false
namespace Go.Proofs.YtljdcinpjnijcaaW.PrintWords
open Go.RowKit Go.ChangeShapes Go.WideShapes
def Opens (P : Program) {α : Type} (d : Kd α) (t : TypeId) (wf : α → Prop) : Prop :=
 ∀ {H : Type} {enc : TypeId × Value → H} {w : World} {sp : Nat → Bool} {held : Bool} {fuel : Nat} {cs : List Value} {x : DataW H × List MemPlace}, DataW.trod enc P w 0 sp held fuel t cs = some x → ∃ a, d.K w a cs ∧ wf a
section
variable {P : Program} {α β : Type}
theorem opens_int {t : TypeId} {k : IntKind} (ht : P.underlying t = some (.int k)) : Opens P (Kd.int k) t (fun n => (Lit.int k n).wf = true) := by
 intro H enc w sp held fuel cs x h
 obtain ⟨n, rfl, _, hw⟩ := DataW.trod_int ht h
 exact ⟨n, rfl, hw⟩
theorem addr_add_add (a : Addr) (i j : Nat) : (a.add i).add j = a.add (i + j) := by
 unfold Addr.add
 by_cases hi : i = 0 <;> by_cases hj : j = 0 <;> simp [hi, hj, Nat.add_assoc]
theorem opens_slice [Inhabited α] {d : Kd α} {t e : TypeId} {wf : α → Prop} (ht : P.underlying t = some (.slice e)) (hc : P.cellsOf e = d.sz) (he : Opens P d e wf) : Opens P (Kd.slice e d) t (fun l => l.length ≤ maxLen ∧ ∀ x ∈ l, wf x) := by
 intro H enc w sp held fuel cs x h
 rcases Deep.open_slice ht h with ⟨rfl, _⟩ | ⟨a, len, cap, m, n, D, Pl, rfl, _, hl, hm, hmm, _, hel⟩
 ·exact ⟨[], ⟨none, 0, rfl, Nat.le_refl _, Kd.C_nil d w⟩, by simp, by simp⟩
 ·have hlm : len ≤ m := by rw [hmm]; split <;> omega
  have hx : ∀ i, i < len → ∃ y : α, (∃ c, c.length = d.sz ∧ d.K w y c ∧ ∀ j u, c[j]? = some u → w.cell? (a.add (i * d.sz + j)) = some u) ∧ wf y := by
   intro i hi
   obtain ⟨cs', hcs, htr⟩ := hel i (by omega)
   obtain ⟨y, hk, hw⟩ := he htr
   obtain ⟨_, hlen, hcell⟩ := World.cells?_some hcs
   refine ⟨y, ⟨cs', d.K_len hk, hk, fun j u hu => ?_⟩, hw⟩
   have hj : j < P.cellsOf e := by
    have := (List.getElem?_eq_some_iff.1 hu).1
    omega
   have := hcell j hj
   rw [addr_add_add, hc, hu] at this
   exact this
  obtain ⟨f, hf⟩ := Deep.choose_lt hx
  refine ⟨(List.range len).map f, ⟨some a, cap, by simp, by simpa using hl, by simp, by simp only [maxLen] at hm; simp; omega, fun _ => ⟨a, rfl, fun j p hj => ?_⟩⟩, by simp; omega, fun y hy => ?_⟩
  ·obtain ⟨hj1, hj2⟩ := List.getElem?_eq_some_iff.1 hj
   simp at hj1 hj2
   subst hj2
   exact (hf j hj1).1
  ·simp only [List.mem_map, List.mem_range] at hy
   obtain ⟨i, hi, rfl⟩ := hy
   exact (hf i hi).2
end
end Go.Proofs.YtljdcinpjnijcaaW.PrintWords
end
section
namespace Go.Proofs.Ytljdcinpjnijcaa.Pr
open Go.RowKit Go.Proofs.YtljdcinpjnijcaaW.PrintWords Go.Proofs.YtljdcinpjnijcaaW.PrintLast Go.Proofs.YtljdcinpjnijcaaW.PrintMore
def laws_FnBothOver.Asked : Prop := ∀ (l0 : List Int), (l0.length ≤ maxLen ∧ ∀ x_ ∈ l0, (Lit.int .u8 x_).wf = true) → ∃ k, laws_FnBothOver.f k l0 = some true
end Go.Proofs.Ytljdcinpjnijcaa.Pr
end
section
set_option linter.unusedVariables false
namespace Go.Proofs.YtljdcinpjnijcaaW.PrintWords
open Go.RowKit
section
variable {α β : Type}
theorem Ev.pos {c : Prop} [Decidable c] {t e : Nat → Option α} {r : α} (h : c) (k : Ev t r) : Ev (fun n => if c then t n else e n) r := by
 simp only [if_pos h]; exact k
theorem Ev.neg {c : Prop} [Decidable c] {t e : Nat → Option α} {r : α} (h : ¬ c) (k : Ev e r) : Ev (fun n => if c then t n else e n) r := by
 simp only [if_neg h]; exact k
theorem Ev.bind0 {g : Option α} {f : Nat → α → Option β} {a : α} {r : β} (h : g = some a) (k : Ev (fun n => f n a) r) : Ev (fun n => g.bind (f n)) r := by
 subst h; exact k
theorem Ev.is {a r : α} (h : a = r) : Ev (fun _ => some a) r := by subst h; exact Ev.now _
theorem Ev.cast {g : Nat → Option α} {a r : α} (k : Ev g a) (h : a = r) : Ev g r := h ▸ k
theorem Ev.go {g f : Nat → Option α} {r : α} (k : Ev f r) (h : ∀ k, g (k + 1) = f k) : Ev g r := Ev.step h k
end
theorem w64 {n : Int} (h : -9223372036854775808 ≤ n) (h' : n ≤ 9223372036854775807) : wrap64 n = n := by unfold wrap64; omega
end Go.Proofs.YtljdcinpjnijcaaW.PrintWords
end
section
set_option linter.unusedSimpArgs false
set_option linter.unusedVariables false
namespace Go.Proofs.Ytljdcinpjnijcaa.Pure
open Go.RowKit Go.Proofs.Ytljdcinpjnijcaa.Pr Go.Proofs.YtljdcinpjnijcaaW.PrintWords Go.Proofs.YtljdcinpjnijcaaW.PrintLast Go.Proofs.YtljdcinpjnijcaaW.PrintMore
def inB (x a b : Int) : Bool := decide (a ≤ x) && decide (x ≤ b)
theorem inB_iff {x a b : Int} : inB x a b = true ↔ a ≤ x ∧ x ≤ b := by simp [inB]
theorem in1 (x a b : Int) : spec_l1In.f x a b = some (inB x a b) := by
 unfold spec_l1In.f inB
 by_cases h : x ≥ a
 ·rw [if_pos h]; simp [show a ≤ x from h]
 ·rw [if_neg h]; simp [show ¬ a ≤ x from h]
theorem up1 {i n : Nat} (h : i < n) (hn : n ≤ maxLen) : wrap64 ((i : Int) + 1) = ((i + 1 : Nat) : Int) := by
 simp only [maxLen] at hn
 rw [w64 (by omega) (by omega)]; omega
def nth (l : List Int) (i : Nat) : Int := l.getD i 0
theorem rdg {l : List Int} (i : Nat) : rd l (i : Int) = nth l i := by simp [rd, nth]
theorem nth_get {l : List Int} {i : Nat} (h : i < l.length) : nth l i = l[i] := by simp [nth, h]
theorem getD_mem {l : List Int} {i : Nat} (h : i < l.length) : nth l i ∈ l := by
 rw [nth_get h]
 exact List.getElem_mem h
theorem drop_cons {α : Type} {l : List α} {i : Nat} (h : i < l.length) : l.drop i = l[i] :: l.drop (i + 1) := List.drop_eq_getElem_cons h
def Pv {α : Type} (g : Nat → Option α) (P : α → Prop) : Prop := ∃ r, Ev g r ∧ P r
section
variable {α β : Type} {P : α → Prop}
theorem Pv.of {g : Nat → Option α} {r : α} (h : Ev g r) (hp : P r) : Pv g P := ⟨r, h, hp⟩
theorem Pv.now {a : α} (h : P a) : Pv (fun _ => some a) P := ⟨a, Ev.now a, h⟩
theorem Pv.pos {c : Prop} [Decidable c] {t e : Nat → Option α} (h : c) (k : Pv t P) : Pv (fun n => if c then t n else e n) P := by
 obtain ⟨r, k, hp⟩ := k
 exact ⟨r, Ev.pos h k, hp⟩
theorem Pv.neg {c : Prop} [Decidable c] {t e : Nat → Option α} (h : ¬ c) (k : Pv e P) : Pv (fun n => if c then t n else e n) P := by
 obtain ⟨r, k, hp⟩ := k
 exact ⟨r, Ev.neg h k, hp⟩
theorem Pv.ite {c : Prop} [Decidable c] {t e : Nat → Option α} (h : c → Pv t P) (k : ¬ c → Pv e P) : Pv (fun n => if c then t n else e n) P := by
 by_cases hc : c
 ·exact Pv.pos hc (h hc)
 ·exact Pv.neg hc (k hc)
theorem Pv.bind {g : Nat → Option β} {f : Nat → β → Option α} {R : β → Prop} (h : Pv g R) (k : ∀ b, R b → Pv (fun n => f n b) P) : Pv (fun n => (g n).bind (f n)) P := by
 obtain ⟨b, h, hb⟩ := h
 obtain ⟨r, k, hp⟩ := k b hb
 exact ⟨r, Ev.bind h k, hp⟩
theorem Pv.bind0 {g : Option β} {f : Nat → β → Option α} {b : β} (h : g = some b) (k : Pv (fun n => f n b) P) : Pv (fun n => g.bind (f n)) P := by
 obtain ⟨r, k, hp⟩ := k
 exact ⟨r, Ev.bind0 h k, hp⟩
theorem Pv.go {g f : Nat → Option α} (k : Pv f P) (h : ∀ k, g (k + 1) = f k) : Pv g P := by
 obtain ⟨r, k, hp⟩ := k
 exact ⟨r, Ev.go k h, hp⟩
theorem Pv.mono {g : Nat → Option α} {R : α → Prop} (h : Pv g R) (k : ∀ a, R a → P a) : Pv g P := by
 obtain ⟨r, h, hr⟩ := h
 exact ⟨r, h, k r hr⟩
end
theorem Pv.rounds {g : Nat → Option Bool} (h : Pv g (· = true)) : ∃ k, g k = some true := by
 obtain ⟨r, h, rfl⟩ := h
 exact Ev.rounds h
end Go.Proofs.Ytljdcinpjnijcaa.Pure
end
section
set_option linter.unusedSimpArgs false
set_option linter.unusedVariables false
namespace Go.Proofs.Ytljdcinpjnijcaa.Pure
open Go.RowKit Go.Proofs.Ytljdcinpjnijcaa.Pr Go.Proofs.YtljdcinpjnijcaaW.PrintWords Go.Proofs.YtljdcinpjnijcaaW.PrintLast Go.Proofs.YtljdcinpjnijcaaW.PrintMore
section
variable {t e : Nat → Option Bool} {r : Bool}
theorem Ev.and {b : Bool} (k : Ev t r) : Ev (fun n => if b = true then t n else some false) (b && r) := by
 cases b with
 | false => exact Ev.neg (by simp) (Ev.now _)
 | true => exact Ev.pos rfl k
theorem Ev.nand {c : Prop} [Decidable c] (k : Ev t r) : Ev (fun n => if c then some false else t n) (!decide c && r) := by
 by_cases h : c
 ·exact Ev.pos h (Ev.is (by simp [h]))
 ·exact Ev.neg h (k.cast (by simp [h]))
end
abbrev Arc := S34
def arc (l : List Arc) (i : Nat) : Arc := rd_T34 l (i : Int)
theorem rda (l : List Arc) (i : Nat) : rd_T34 l (i : Int) = arc l i := rfl
theorem arc_get {l : List Arc} {i : Nat} (h : i < l.length) : arc l i = l[i] := by simp [arc, rd_T34, h]
theorem arc_mem {l : List Arc} {i : Nat} (h : i < l.length) : arc l i ∈ l := by
 rw [arc_get h]
 exact List.getElem_mem h
attribute [irreducible] arc
def okArcW (n : Int) (a : Arc) : Bool := inB a.f0 0 (wrap64 (n - 1)) && (inB a.f1 0 (wrap64 (n - 1)) && (!decide (a.f0 = a.f1) && (inB a.f2 0 99 && (inB a.f3 0 99 && inB a.f4 0 9))))
theorem l1Ok_l (n : Int) (l : List Arc) (hm : l.length ≤ maxLen) : ∀ (m i : Nat), l.length - i = m → i ≤ l.length → Ev (fun k => spec_l1Ok.l0 k (i : Int) n l) ((l.drop i).all (okArcW n) && (inB n 1 8 && decide ((l.length : Int) ≤ 16))) := by
 intro m
 induction m with
 | zero =>
  intro i hd hi
  refine Ev.go ?_ (fun k => by rw [spec_l1Ok.l0])
  refine Ev.neg (by omega) (Ev.bind0 (in1 _ _ _) ?_)
  rw [List.drop_of_length_le (by omega)]
  exact (Ev.and (Ev.now _)).cast (by simp)
 | succ m ih =>
  intro i hd hi
  have hlt : i < l.length := by omega
  refine Ev.go ?_ (fun k => by rw [spec_l1Ok.l0])
  rw [drop_cons hlt, ← arc_get hlt, List.all_cons, rda, up1 hlt hm]
  refine Ev.pos (by omega) (Ev.pos (by omega) ?_)
  refine Ev.cast (Ev.bind0 (in1 _ _ _) (Ev.and (Ev.bind0 (in1 _ _ _) (Ev.and (Ev.nand (Ev.bind0 (in1 _ _ _) (Ev.and (Ev.bind0 (in1 _ _ _) (Ev.and (Ev.bind0 (in1 _ _ _) (Ev.and (ih (i + 1) (by omega) (by omega))))))))))))) ?_
  simp only [okArcW, Bool.and_assoc]
theorem okArcW_okArc {n : Int} (h : 1 ≤ n) (h8 : n ≤ 8) (a : Arc) : okArcW n a = okArc n a := by
 unfold okArcW okArc inB okN okC
 rw [w64 (by omega) (by omega)]
 have e : (a.f4 ≤ 9) ↔ (a.f4 ≤ 10 - 1) := by omega
 have e2 : (a.f0 == a.f1) = decide (a.f0 = a.f1) := by
  by_cases c : a.f0 = a.f1 <;> simp [c]
 rw [e2]
 simp only [Bool.and_assoc, e]
theorem l1Ok_ev (n : Int) (l : List Arc) (hm : l.length ≤ maxLen) : Ev (fun k => spec_l1Ok.f k n l) (netOkB n l) := by
 unfold spec_l1Ok.f
 refine (l1Ok_l n l hm _ 0 rfl (by omega)).cast ?_
 unfold netOkB
 rw [List.drop_zero]
 by_cases h : 1 ≤ n ∧ n ≤ 8
 ·have e : l.all (okArcW n) = l.all (okArc n) := by
   congr 1
   funext a
   exact okArcW_okArc h.1 h.2 a
  rw [e, show inB n 1 8 = true from inB_iff.2 h]
  simp [h.1, h.2, Bool.and_comm]
 ·have e : inB n 1 8 = false := by
   cases c : inB n 1 8 with
   | false => rfl
   | true => exact absurd (inB_iff.1 c) h
  rw [e]
  have e2 : (decide (1 ≤ n) && decide (n ≤ 8)) = false := e
  simp only [e2, Bool.false_and, Bool.and_false]
structure NetGood (n : Int) (l : List Arc) : Prop where
 n1 : 1 ≤ n
 n8 : n ≤ 8
 len : l.length ≤ 16
 ok : ∀ i, i < l.length → (0 ≤ (arc l i).f0 ∧ (arc l i).f0 < n) ∧ (0 ≤ (arc l i).f1 ∧ (arc l i).f1 < n) ∧ (arc l i).f0 ≠ (arc l i).f1 ∧ (0 ≤ (arc l i).f2 ∧ (arc l i).f2 ≤ 99) ∧ (0 ≤ (arc l i).f3 ∧ (arc l i).f3 ≤ 99) ∧ (0 ≤ (arc l i).f4 ∧ (arc l i).f4 ≤ 9)
theorem okArc_iff (n : Int) (a : Arc) : okArc n a = true ↔ (0 ≤ a.f0 ∧ a.f0 < n) ∧ (0 ≤ a.f1 ∧ a.f1 < n) ∧ a.f0 ≠ a.f1 ∧ (0 ≤ a.f2 ∧ a.f2 ≤ 99) ∧ (0 ≤ a.f3 ∧ a.f3 ≤ 99) ∧ (0 ≤ a.f4 ∧ a.f4 ≤ 9) := by
 simp only [okArc, okN, okC, Bool.and_eq_true, decide_eq_true_eq, Bool.not_eq_true', beq_eq_false_iff_ne]
 constructor
 ·rintro ⟨⟨⟨⟨⟨⟨a1, a2⟩, a3, a4⟩, a5⟩, a6⟩, a7⟩, a8, a9⟩
  exact ⟨⟨a1, by omega⟩, ⟨a3, by omega⟩, a5, a6, a7, a8, by omega⟩
 ·rintro ⟨⟨a1, a2⟩, ⟨a3, a4⟩, a5, a6, a7, a8, a9⟩
  exact ⟨⟨⟨⟨⟨⟨a1, by omega⟩, a3, by omega⟩, a5⟩, a6⟩, a7⟩, a8, by omega⟩
theorem netOkB_iff (n : Int) (l : List Arc) : netOkB n l = true ↔ NetGood n l := by
 simp only [netOkB, Bool.and_eq_true, decide_eq_true_eq, List.all_eq_true]
 constructor
 ·rintro ⟨⟨⟨h1, h2⟩, h3⟩, h4⟩
  exact ⟨h1, h2, by omega, fun i hi => (okArc_iff n _).1 (h4 _ (arc_mem hi))⟩
 ·rintro ⟨h1, h2, h3, h4⟩
  refine ⟨⟨⟨h1, h2⟩, by omega⟩, fun a ha => ?_⟩
  obtain ⟨i, hi, rfl⟩ := List.getElem_of_mem ha
  rw [← arc_get hi]
  exact (okArc_iff n _).2 (h4 i hi)
theorem hasOf {n : Int} {l : List Arc} (h : NetGood n l) (v : List Int) : impl_Net_has.f n l v = some (v.all (okN n)) := by
 have := h.n1
 have := h.n8
 unfold impl_Net_has.f
 rw [if_pos (by omega), if_pos (by omega)]
theorem nodesIn_eq (n : Int) (l : List Arc) (v : List Int) : impl_nodesIn.f n l v = some (netOkB n l && v.all (okN n)) := by
 unfold impl_nodesIn.f
 rw [show impl_NetOk.f n l = some (netOkB n l) from rfl, Option.bind_some]
 cases h : netOkB n l with
 | false => rfl
 | true => rw [if_pos rfl, hasOf ((netOkB_iff n l).1 h), Option.bind_some, Bool.true_and]
end Go.Proofs.Ytljdcinpjnijcaa.Pure
end
section
set_option linter.unusedSimpArgs false
set_option linter.unusedVariables false
namespace Go.Proofs.Ytljdcinpjnijcaa.Pure
open Go.RowKit Go.Proofs.Ytljdcinpjnijcaa.Pr Go.Proofs.YtljdcinpjnijcaaW.PrintWords Go.Proofs.YtljdcinpjnijcaaW.PrintLast Go.Proofs.YtljdcinpjnijcaaW.PrintMore
def flip (a : Arc) : Arc := ⟨a.f1, a.f0, a.f2, a.f3, a.f4⟩
def back (l : List Arc) : List Arc := l.map flip
theorem back_len (l : List Arc) : (back l).length = l.length := by simp [back]
theorem back_arc {l : List Arc} {i : Nat} (h : i < l.length) : arc (back l) i = flip (arc l i) := by
 rw [arc_get (by rw [back_len]; exact h), arc_get h]
 simp [back]
theorem back_good {n : Int} {l : List Arc} (h : NetGood n l) : NetGood n (back l) := by
 refine ⟨h.n1, h.n8, by rw [back_len]; exact h.len, fun i hi => ?_⟩
 rw [back_len] at hi
 obtain ⟨a1, a2, a3, a4⟩ := h.ok i hi
 rw [back_arc hi]
 exact ⟨a2, a1, fun e => a3 e.symm, a4⟩
theorem implBack_l (n : Int) (l : List Arc) (hm : l.length ≤ 1000) : ∀ (m i : Nat), l.length - i = m → i ≤ l.length → Ev (fun k => impl_Net_back.l0 k l (l.length : Int) (i : Int) n ((back l).take i)) (n, back l) := by
 intro m
 induction m with
 | zero =>
  intro i hd hi
  refine Ev.go ?_ (fun k => by rw [impl_Net_back.l0])
  refine Ev.neg (by omega) (Ev.is ?_)
  rw [List.take_of_length_le (by rw [back_len]; omega)]
 | succ m ih =>
  intro i hd hi
  have hlt : i < l.length := by omega
  refine Ev.go ?_ (fun k => by rw [impl_Net_back.l0])
  have ih := ih (i + 1) (by omega) (by omega)
  have hlt2 : i < (back l).length := by rw [back_len]; exact hlt
  rw [List.take_succ_eq_append_getElem hlt2, ← arc_get hlt2, back_arc hlt] at ih
  rw [up1 hlt (by simp only [maxLen]; omega), rda]
  exact Ev.pos (by omega) (Ev.pos (by omega) (Ev.pos (by omega) (Ev.pos (by simp; omega) ih)))
theorem implBack_ev (n : Int) (l : List Arc) (hm : l.length ≤ 1000) : Ev (fun k => impl_Net_back.f k n l) (n, back l) := by
 unfold impl_Net_back.f
 exact Ev.pos (by omega) (Ev.pos (by omega) (by simpa using implBack_l n l hm _ 0 rfl (Nat.zero_le _)))
end Go.Proofs.Ytljdcinpjnijcaa.Pure
end
section
set_option linter.unusedSimpArgs false
set_option linter.unusedVariables false
namespace Go.Proofs.Ytljdcinpjnijcaa.Pure
open Go.RowKit Go.Proofs.Ytljdcinpjnijcaa.Pr Go.Proofs.YtljdcinpjnijcaaW.PrintWords Go.Proofs.YtljdcinpjnijcaaW.PrintLast Go.Proofs.YtljdcinpjnijcaaW.PrintMore
def lst (n : Nat) (F : Nat → Int) : List Int := (List.range n).map F
theorem lst_len (n : Nat) (F : Nat → Int) : (lst n F).length = n := by simp [lst]
theorem lst_nth {n v : Nat} (F : Nat → Int) (h : v < n) : nth (lst n F) v = F v := by
 simp [nth, lst, h]
theorem lst_rd {n v : Nat} (F : Nat → Int) (h : v < n) : rd (lst n F) (v : Int) = F v := by rw [rdg, lst_nth F h]
theorem lst_congr {n : Nat} {F G : Nat → Int} (h : ∀ v, v < n → F v = G v) : lst n F = lst n G := by
 unfold lst
 exact List.map_congr_left (fun v hv => h v (List.mem_range.1 hv))
theorem lst_snoc (n : Nat) (F : Nat → Int) : lst n F ++ [F n] = lst (n + 1) F := by
 simp [lst, List.range_succ]
def upd (F : Nat → Int) (a : Nat) (x : Int) : Nat → Int := fun v => if v = a then x else F v
theorem lst_set {n a : Nat} (F : Nat → Int) (x : Int) : (lst n F).set a x = lst n (upd F a x) := by
 apply List.ext_getElem (by simp [lst])
 intro i h1 h2
 have hi : i < n := by simpa [lst] using h2
 simp only [List.getElem_set]
 by_cases e : a = i
 ·subst e; simp [lst, upd]
 ·simp [lst, upd, e, show ¬ i = a from fun h => e h.symm]
inductive Conn (E : Nat → Nat → Prop) : Nat → Nat → Prop
 | refl (v : Nat) : Conn E v v
 | tail {u v w : Nat} : Conn E u v → (E v w ∨ E w v) → Conn E u w
end Go.Proofs.Ytljdcinpjnijcaa.Pure
end
section
set_option linter.unusedSectionVars false
namespace Go.Proofs.Ytljdcinpjnijcaa.Sp
structure G where
 n : Nat
 m : Nat
 fr : Nat → Nat
 tw : Nat → Nat
 w : Nat → Int
 use : Nat → Bool
structure G.Ok (g : G) : Prop where
 fl : ∀ i, i < g.m → g.fr i < g.n
 tl : ∀ i, i < g.m → g.tw i < g.n
 w0 : ∀ i, i < g.m → 0 ≤ g.w i
inductive Wk (g : G) : Nat → Nat → Nat → Int → Prop
 | nil (v : Nat) : Wk g v v 0 0
 | cons {i v k : Nat} {c : Int} : i < g.m → g.use i = true → Wk g (g.tw i) v k c → Wk g (g.fr i) v (k + 1) (g.w i + c)
theorem Wk.cast {g : G} {u v k k' : Nat} {c c' : Int} (h : Wk g u v k c) (hk : k = k') (hc : c = c') : Wk g u v k' c' := by
 subst hk; subst hc; exact h
theorem Wk.trans {g : G} {u v x k j : Nat} {c d : Int} (h : Wk g u v k c) (h' : Wk g v x j d) : Wk g u x (k + j) (c + d) := by
 induction h with
 | nil => exact h'.cast (by omega) (by omega)
 | cons hi hu _ ih => exact (Wk.cons hi hu (ih h')).cast (by omega) (by omega)
theorem Wk.one {g : G} {i : Nat} (hi : i < g.m) (hu : g.use i = true) : Wk g (g.fr i) (g.tw i) 1 (g.w i) :=
 (Wk.cons hi hu (.nil _)).cast rfl (by omega)
theorem Wk.nonneg {g : G} (ok : g.Ok) {u v k : Nat} {c : Int} (h : Wk g u v k c) : 0 ≤ c := by
 induction h with
 | nil => omega
 | cons hi _ _ ih => have := ok.w0 _ hi; omega
theorem nodup_len : ∀ (n : Nat) (l : List Nat), l.Nodup → (∀ x ∈ l, x < n) → l.length ≤ n := by
 intro n
 induction n with
 | zero =>
  intro l _ h
  cases l with
  | nil => simp
  | cons a l => exact absurd (h a (by simp)) (by omega)
 | succ n ih =>
  intro l hn h
  have h1 := ih (l.erase n) (hn.erase n) (fun x hx => by
   have h2 := h x (List.mem_of_mem_erase hx)
   have h3 : x ≠ n := by
    rintro rfl
    exact (List.Nodup.not_mem_erase hn) hx
   omega)
  have := List.length_erase_le (a := n) (l := l)
  have h4 : l.length ≤ (l.erase n).length + 1 := by
   rw [List.length_erase]
   split <;> omega
  omega
inductive Sm (g : G) (t : Nat) : Nat → List Nat → Nat → Int → Prop
 | nil : Sm g t t [t] 0 0
 | cons {i k : Nat} {L : List Nat} {c : Int} : i < g.m → g.use i = true → Sm g t (g.tw i) L k c → g.fr i ∉ L → Sm g t (g.fr i) (g.fr i :: L) (k + 1) (g.w i + c)
theorem Sm.wk {g : G} {t u k : Nat} {L : List Nat} {c : Int} (h : Sm g t u L k c) : Wk g u t k c := by
 induction h with
 | nil => exact .nil _
 | cons hi hu _ _ ih => exact .cons hi hu ih
theorem Sm.facts {g : G} (ok : g.Ok) {t u k : Nat} (ht : t < g.n) {L : List Nat} {c : Int} (h : Sm g t u L k c) : L.Nodup ∧ (∀ x ∈ L, x < g.n) ∧ L.length = k + 1 := by
 induction h with
 | nil => simp [ht]
 | cons hi _ _ hn ih =>
  refine ⟨List.nodup_cons.2 ⟨hn, ih.1⟩, ?_, by simp [ih.2.2]⟩
  intro x hx
  rcases List.mem_cons.1 hx with rfl | hx
  ·exact ok.fl _ hi
  ·exact ih.2.1 x hx
theorem Sm.tail {g : G} (ok : g.Ok) {t u k : Nat} {L : List Nat} {c : Int} (h : Sm g t u L k c) {x : Nat} (hx : x ∈ L) : ∃ L' k' c', Sm g t x L' k' c' ∧ k' ≤ k ∧ c' ≤ c := by
 induction h with
 | nil =>
  obtain rfl : x = t := by simpa using hx
  exact ⟨_, _, _, .nil, Nat.le_refl _, Int.le_refl _⟩
 | cons hi hu h hn ih =>
  rcases List.mem_cons.1 hx with rfl | hx
  ·exact ⟨_, _, _, .cons hi hu h hn, Nat.le_refl _, Int.le_refl _⟩
  ·obtain ⟨L', k', c', h1, h2, h3⟩ := ih hx
   have := ok.w0 _ hi
   exact ⟨L', k', c', h1, by omega, by omega⟩
theorem Wk.simple {g : G} (ok : g.Ok) {u v k : Nat} {c : Int} (h : Wk g u v k c) : ∃ L k' c', Sm g v u L k' c' ∧ k' ≤ k ∧ c' ≤ c := by
 induction h with
 | nil v => exact ⟨_, _, _, .nil, Nat.le_refl _, Int.le_refl _⟩
 | @cons i v k c hi hu h ih =>
  obtain ⟨L, k', c', h1, h2, h3⟩ := ih
  by_cases hm : g.fr i ∈ L
  ·obtain ⟨L'', k'', c'', h4, h5, h6⟩ := h1.tail ok hm
   have := ok.w0 _ hi
   exact ⟨L'', k'', c'', h4, by omega, by omega⟩
  ·exact ⟨_, _, _, .cons hi hu h1 hm, by omega, by omega⟩
theorem Wk.short {g : G} (ok : g.Ok) {u v k : Nat} (hv : v < g.n) {c : Int} (h : Wk g u v k c) : ∃ k' c', Wk g u v k' c' ∧ k' < g.n ∧ k' ≤ k ∧ c' ≤ c := by
 obtain ⟨L, k', c', h1, h2, h3⟩ := h.simple ok
 obtain ⟨f1, f2, f3⟩ := h1.facts ok hv
 have := nodup_len _ _ f1 f2
 exact ⟨k', c', h1.wk, by omega, h2, h3⟩
def Opt (g : G) (t : Nat) (L : Nat → Option Int) : Prop := ∀ v, v < g.n → (∀ x, L v = some x → ∃ k, Wk g v t k x) ∧ (∀ k c, Wk g v t k c → ∃ x, L v = some x ∧ x ≤ c)
theorem Opt.uniq {g : G} {t : Nat} {L L' : Nat → Option Int} (h : Opt g t L) (h' : Opt g t L') : ∀ v, v < g.n → L v = L' v := by
 intro v hv
 obtain ⟨a, b⟩ := h v hv
 obtain ⟨a', b'⟩ := h' v hv
 cases e : L v with
 | none =>
  cases e' : L' v with
  | none => rfl
  | some y =>
   obtain ⟨k, hk⟩ := a' y e'
   obtain ⟨x, hx, _⟩ := b k y hk
   rw [e] at hx; cases hx
 | some x =>
  obtain ⟨k, hk⟩ := a x e
  obtain ⟨y, hy, h1⟩ := b' k x hk
  obtain ⟨k', hk'⟩ := a' y hy
  obtain ⟨x', hx', h2⟩ := b k' y hk'
  rw [e] at hx'
  obtain rfl := Option.some.inj hx'
  rw [hy]
  congr 1
  omega
def lts (a : Int) : Option Int → Bool
 | none => true
 | some y => decide (a < y)
def put (L : Nat → Option Int) (a : Nat) (x : Int) : Nat → Option Int := fun v => if v = a then some x else L v
def relax (g : G) (L : Nat → Option Int) (i : Nat) : Nat → Option Int :=
 if g.use i = true then
  match L (g.tw i) with
  | none => L
  | some x => if lts (x + g.w i) (L (g.fr i)) = true then put L (g.fr i) (x + g.w i) else L
 else L
theorem relax_cases (g : G) (L : Nat → Option Int) (i : Nat) : (relax g L i = L ∧ (g.use i = true → ∀ x, L (g.tw i) = some x → lts (x + g.w i) (L (g.fr i)) = false)) ∨ (g.use i = true ∧ ∃ x, L (g.tw i) = some x ∧ lts (x + g.w i) (L (g.fr i)) = true ∧ relax g L i = put L (g.fr i) (x + g.w i)) := by
 unfold relax
 by_cases hu : g.use i = true
 ·rw [if_pos hu]
  cases e : L (g.tw i) with
  | none => exact .inl ⟨rfl, fun _ x hx => by cases hx⟩
  | some x =>
   dsimp only
   by_cases hl : lts (x + g.w i) (L (g.fr i)) = true
   ·rw [if_pos hl]
    exact .inr ⟨hu, x, rfl, hl, rfl⟩
   ·rw [if_neg hl]
    refine .inl ⟨rfl, fun _ y hy => ?_⟩
    obtain rfl := Option.some.inj hy
    simpa using hl
 ·rw [if_neg hu]
  exact .inl ⟨rfl, fun h => absurd h hu⟩
def sweep (g : G) (L : Nat → Option Int) : Nat → (Nat → Option Int)
 | 0 => L
 | i + 1 => relax g (sweep g L i) i
def Le (a b : Option Int) : Prop := ∀ y, b = some y → ∃ x, a = some x ∧ x ≤ y
theorem Le.refl (a : Option Int) : Le a a := fun y h => ⟨y, h, Int.le_refl _⟩
theorem Le.trans {a b c : Option Int} (h : Le a b) (k : Le b c) : Le a c := by
 intro y hy
 obtain ⟨x, hx, h1⟩ := k y hy
 obtain ⟨z, hz, h2⟩ := h x hx
 exact ⟨z, hz, by omega⟩
theorem put_same (L : Nat → Option Int) (a : Nat) (x : Int) : put L a x a = some x := by simp [put]
theorem put_far (L : Nat → Option Int) {a v : Nat} (x : Int) (h : v ≠ a) : put L a x v = L v := by simp [put, h]
theorem relax_le (g : G) (L : Nat → Option Int) (i v : Nat) : Le (relax g L i v) (L v) := by
 rcases relax_cases g L i with ⟨e, _⟩ | ⟨_, x, hx, hl, e⟩
 ·rw [e]; exact Le.refl _
 ·rw [e]
  by_cases hv : v = g.fr i
  ·subst hv
   rw [put_same]
   intro y hy
   rw [hy] at hl
   exact ⟨_, rfl, by simp [lts] at hl; omega⟩
  ·rw [put_far _ _ hv]; exact Le.refl _
theorem relax_arc (g : G) (L : Nat → Option Int) (i : Nat) (hu : g.use i = true) {x : Int} (hx : L (g.tw i) = some x) : Le (relax g L i (g.fr i)) (some (x + g.w i)) := by
 intro y hy
 obtain rfl := Option.some.inj hy
 unfold relax
 rw [if_pos hu, hx]
 dsimp only
 split
 ·exact ⟨_, by simp [put], Int.le_refl _⟩
 ·rename_i hl
  cases e : L (g.fr i) with
  | none => rw [e] at hl; simp [lts] at hl
  | some z => rw [e] at hl; exact ⟨z, rfl, by simp [lts] at hl; omega⟩
theorem sweep_le (g : G) (L : Nat → Option Int) (i s v : Nat) : Le (sweep g L (i + s) v) (sweep g L i v) := by
 induction s with
 | zero => exact Le.refl _
 | succ s ih => exact (relax_le g _ _ v).trans ih
theorem sweep_arc (g : G) (L : Nat → Option Int) {i : Nat} (hi : i < g.m) (hu : g.use i = true) {x : Int} (hx : L (g.tw i) = some x) : ∃ y, sweep g L g.m (g.fr i) = some y ∧ y ≤ x + g.w i := by
 have h0 := sweep_le g L 0 i (g.tw i)
 rw [Nat.zero_add] at h0
 obtain ⟨x', hx', h1⟩ := h0 x hx
 have h2 := relax_arc g (sweep g L i) i hu hx'
 have h3 := sweep_le g L (i + 1) (g.m - (i + 1)) (g.fr i)
 rw [show i + 1 + (g.m - (i + 1)) = g.m by omega] at h3
 obtain ⟨y, hy, h4⟩ := (h3.trans h2) _ rfl
 exact ⟨y, hy, by omega⟩
def Real (g : G) (t : Nat) (L : Nat → Option Int) : Prop := ∀ v x, L v = some x → ∃ k, Wk g v t k x
theorem relax_real {g : G} {t : Nat} {L : Nat → Option Int} (h : Real g t L) {i : Nat} (hi : i < g.m) : Real g t (relax g L i) := by
 intro v x hx
 rcases relax_cases g L i with ⟨e, _⟩ | ⟨hu, y, hy, hl, e⟩
 ·rw [e] at hx; exact h v x hx
 ·rw [e] at hx
  by_cases hv : v = g.fr i
  ·subst hv
   rw [put_same] at hx
   obtain rfl := Option.some.inj hx
   obtain ⟨k, hk⟩ := h _ _ hy
   exact ⟨k + 1, (Wk.cons hi hu hk).cast rfl (by omega)⟩
  ·rw [put_far _ _ hv] at hx; exact h v x hx
theorem sweep_real {g : G} {t : Nat} {L : Nat → Option Int} (h : Real g t L) : ∀ i, i ≤ g.m → Real g t (sweep g L i) := by
 intro i
 induction i with
 | zero => exact fun _ => h
 | succ i ih => exact fun hi => relax_real (ih (by omega)) (by omega)
theorem opt_of_fix {g : G} {t : Nat} {L : Nat → Option Int} (h : Real g t L) (ht : Le (L t) (some 0)) (hf : ∀ v, sweep g L g.m v = L v) : Opt g t L := by
 intro v hv0
 clear hv0
 refine ⟨fun x hx => h v x hx, fun k c hw => ?_⟩
 clear h
 induction hw with
 | nil =>
  obtain ⟨x, hx, h1⟩ := ht 0 rfl
  exact ⟨x, hx, h1⟩
 | cons hi hu _ ih =>
  obtain ⟨x, hx, h1⟩ := ih ht
  obtain ⟨y, hy, h2⟩ := sweep_arc g L hi hu hx
  rw [hf] at hy
  exact ⟨y, hy, by omega⟩
def start (t : Nat) : Nat → Option Int := fun v => if v = t then some 0 else none
def rounds (g : G) (t : Nat) : Nat → (Nat → Option Int)
 | 0 => start t
 | r + 1 => sweep g (rounds g t r) g.m
theorem start_real (g : G) (t : Nat) : Real g t (start t) := by
 intro v x hx
 unfold start at hx
 split at hx
 ·rename_i e
  obtain rfl := Option.some.inj hx
  subst e
  exact ⟨0, .nil _⟩
 ·cases hx
theorem rounds_real (g : G) (t : Nat) : ∀ r, Real g t (rounds g t r) := by
 intro r
 induction r with
 | zero => exact start_real g t
 | succ r ih => exact sweep_real ih _ (Nat.le_refl _)
theorem rounds_le (g : G) (t r s v : Nat) : Le (rounds g t (r + s) v) (rounds g t r v) := by
 induction s with
 | zero => exact Le.refl _
 | succ s ih =>
  have := sweep_le g (rounds g t (r + s)) 0 g.m v
  rw [Nat.zero_add] at this
  exact this.trans ih
theorem rounds_t (g : G) (t r : Nat) : Le (rounds g t r t) (some 0) := by
 have := rounds_le g t 0 r t
 rw [Nat.zero_add] at this
 exact this.trans (by simp [rounds, start]; exact Le.refl _)
theorem rounds_walk {g : G} {t r u k : Nat} {c : Int} (h : Wk g u t k c) (hk : k ≤ r) : ∃ x, rounds g t r u = some x ∧ x ≤ c := by
 induction h generalizing r with
 | nil => exact rounds_t g _ r 0 rfl
 | cons hi hu _ ih =>
  obtain ⟨r, rfl⟩ : ∃ q, r = q + 1 := ⟨r - 1, by omega⟩
  obtain ⟨x, hx, h1⟩ := ih (r := r) (by omega)
  obtain ⟨y, hy, h2⟩ := sweep_arc g _ hi hu hx
  exact ⟨y, hy, by omega⟩
theorem rounds_opt {g : G} (ok : g.Ok) {t r : Nat} (ht : t < g.n) (hr : g.n ≤ r + 1) : Opt g t (rounds g t r) := by
 intro v _
 refine ⟨fun x hx => rounds_real g t r v x hx, fun k c hw => ?_⟩
 obtain ⟨k', c', h1, h2, h3, h4⟩ := hw.short ok ht
 obtain ⟨x, hx, h5⟩ := rounds_walk (r := r) h1 (by omega)
 exact ⟨x, hx, by omega⟩
theorem relax_none {g : G} {L : Nat → Option Int} (hn : ∀ v, g.n ≤ v → L v = none) (ok : g.Ok) {i : Nat} (hi : i < g.m) : ∀ v, g.n ≤ v → relax g L i v = none := by
 intro v hv
 rcases relax_cases g L i with ⟨e, _⟩ | ⟨_, x, hx, hl, e⟩
 ·rw [e]; exact hn v hv
 ·rw [e, put_far _ _ (by have := ok.fl i hi; omega)]; exact hn v hv
theorem sweep_none {g : G} {L : Nat → Option Int} (ok : g.Ok) (hn : ∀ v, g.n ≤ v → L v = none) : ∀ i, i ≤ g.m → ∀ v, g.n ≤ v → sweep g L i v = none := by
 intro i
 induction i with
 | zero => exact fun _ => hn
 | succ i ih => exact fun hi => relax_none (ih (by omega)) ok (by omega)
theorem rounds_none {g : G} (ok : g.Ok) {t : Nat} (ht : t < g.n) : ∀ r v, g.n ≤ v → rounds g t r v = none := by
 intro r
 induction r with
 | zero => intro v hv; simp [rounds, start]; omega
 | succ r ih => exact sweep_none ok ih _ (Nat.le_refl _)
theorem rounds_fix {g : G} (ok : g.Ok) {t r : Nat} (ht : t < g.n) (hr : g.n ≤ r + 1) : ∀ v, rounds g t (r + 1) v = rounds g t r v := by
 intro v
 by_cases hv : v < g.n
 ·exact (rounds_opt ok ht (by omega)).uniq (rounds_opt ok ht hr) v hv
 ·rw [rounds_none ok ht _ v (by omega), rounds_none ok ht _ v (by omega)]
theorem sweep_same {g : G} {L : Nat → Option Int} (h : ∀ v, sweep g L g.m v = L v) {i : Nat} (hi : i ≤ g.m) : ∀ v, sweep g L i v = L v := by
 intro v
 have h1 := sweep_le g L 0 i v
 have h2 := sweep_le g L i (g.m - i) v
 rw [Nat.zero_add] at h1
 rw [show i + (g.m - i) = g.m by omega, h v] at h2
 cases e : L v with
 | none =>
  cases e' : sweep g L i v with
  | none => rfl
  | some y =>
   obtain ⟨x, hx, _⟩ := h2 y e'
   rw [e] at hx; cases hx
 | some x =>
  obtain ⟨y, hy, a1⟩ := h1 x (by simpa [sweep] using e)
  obtain ⟨x', hx', a2⟩ := h2 y hy
  rw [e] at hx'
  obtain rfl := Option.some.inj hx'
  rw [hy]; congr 1; omega
theorem relax_bd {g : G} {L : Nat → Option Int} {B : Int} (h : ∀ v x, L v = some x → 0 ≤ x ∧ x ≤ B) {i : Nat} {w1 : Int} (hw0 : 0 ≤ g.w i) (hw : g.w i ≤ w1) : ∀ v x, relax g L i v = some x → 0 ≤ x ∧ x ≤ B + w1 := by
 intro v x hx
 rcases relax_cases g L i with ⟨e, _⟩ | ⟨_, y, hy, hl, e⟩
 ·rw [e] at hx; have := h v x hx; omega
 ·rw [e] at hx
  by_cases hv : v = g.fr i
  ·subst hv
   rw [put_same] at hx
   obtain rfl := Option.some.inj hx
   have := h _ _ hy; omega
  ·rw [put_far _ _ hv] at hx; have := h v x hx; omega
end Go.Proofs.Ytljdcinpjnijcaa.Sp
namespace Go.Proofs.Ytljdcinpjnijcaa.Sp
structure Dbl (g e s : G) (D : Nat → Option Int) : Prop where
 en : e.n = g.n
 em : e.m = g.m
 ef : e.fr = g.fr
 et : e.tw = g.tw
 eu : e.use = g.use
 ew : ∀ i, i < g.m → e.w i = 1000 * g.w i + 1
 sn : s.n = g.n
 sm : s.m = g.m
 sf : s.fr = g.fr
 st : s.tw = g.tw
 sw : ∀ i, i < g.m → s.w i = 1
 su : ∀ i, i < g.m → (s.use i = true ↔ g.use i = true ∧ ∃ x, D (g.tw i) = some x ∧ D (g.fr i) = some (g.w i + x))
def both (D S : Nat → Option Int) : Nat → Option Int := fun v =>
 match D v with
 | none => none
 | some d => match S v with
  | none => none
  | some k => some (1000 * d + k)
section
variable {g e s : G} {t : Nat} {D S : Nat → Option Int} (h : Dbl g e s D) (ok : g.Ok) (hD : Opt g t D) (hS : Opt s t S) (ht : t < g.n)
include h
theorem Dbl.okS (ok : g.Ok) : s.Ok := by
 refine ⟨?_, ?_, ?_⟩
 ·rw [h.sf, h.sm, h.sn]; exact ok.fl
 ·rw [h.st, h.sm, h.sn]; exact ok.tl
 ·intro i hi
  rw [h.sm] at hi
  rw [h.sw i hi]; omega
theorem Dbl.toE {u v k : Nat} {c : Int} (w : Wk g u v k c) : Wk e u v k (1000 * c + k) := by
 induction w with
 | nil => exact (Wk.nil _).cast rfl (by omega)
 | @cons i v k c hi hu _ ih =>
  have h1 : Wk e (e.tw i) v k (1000 * c + k) := by rw [h.et]; exact ih
  have h2 := Wk.cons (i := i) (by rw [h.em]; exact hi) (by rw [h.eu]; exact hu) h1
  rw [h.ef, h.ew i hi] at h2
  exact h2.cast rfl (by omega)
theorem Dbl.ofE {u v k : Nat} {c : Int} (w : Wk e u v k c) : ∃ c', Wk g u v k c' ∧ c = 1000 * c' + k := by
 induction w with
 | nil => exact ⟨0, .nil _, by omega⟩
 | @cons i v k c hi hu _ ih =>
  obtain ⟨c', h1, h2⟩ := ih
  rw [h.em] at hi
  rw [h.eu] at hu
  rw [h.et] at h1
  refine ⟨g.w i + c', ?_, by rw [h.ew i hi]; omega⟩
  rw [h.ef]
  exact .cons hi hu h1
theorem Dbl.ofS (hD : Opt g t D) (ht : t < g.n) (ok : g.Ok) {u k : Nat} {c : Int} (w : Wk s u t k c) : ∃ d, D u = some d ∧ Wk g u t k d ∧ c = k := by
 generalize ev : t = v at w
 induction w with
 | nil v =>
  subst ev
  obtain ⟨x, hx, h1⟩ := (hD t ht).2 0 0 (.nil _)
  obtain ⟨k, hk⟩ := (hD t ht).1 x hx
  have := hk.nonneg ok
  have e0 : x = 0 := by omega
  subst e0
  exact ⟨0, hx, .nil _, rfl⟩
 | @cons i v k c hi hu _ ih =>
  obtain ⟨d, h1, h2, h3⟩ := ih ev
  rw [h.sm] at hi
  obtain ⟨g1, x, g2, g3⟩ := (h.su i hi).1 hu
  rw [h.st] at h1 h2
  rw [g2] at h1
  obtain rfl := Option.some.inj h1
  rw [h.sf]
  exact ⟨_, g3, .cons hi g1 h2, by rw [h.sw i hi, h3]; omega⟩
theorem Dbl.toS (hD : Opt g t D) (ok : g.Ok) {u k : Nat} {c : Int} (w : Wk g u t k c) (hc : D u = some c) : Wk s u t k k := by
 generalize ev : t = v at w
 induction w with
 | nil => exact .nil _
 | @cons i v k c hi hu w ih =>
  subst ev
  obtain ⟨x, hx, h1⟩ := (hD _ (ok.tl i hi)).2 k c w
  obtain ⟨j, hj⟩ := (hD _ (ok.tl i hi)).1 x hx
  obtain ⟨y, hy, h2⟩ := (hD _ (ok.fl i hi)).2 _ _ (Wk.cons hi hu hj)
  rw [hc] at hy
  obtain rfl := Option.some.inj hy
  have ex : x = c := by omega
  subst ex
  have h3 := ih hx rfl
  rw [← h.st] at h3
  have h4 := Wk.cons (i := i) (by rw [h.sm]; exact hi) ((h.su i hi).2 ⟨hu, x, hx, hc⟩) h3
  rw [h.sf, h.sw i hi] at h4
  exact h4.cast rfl (by omega)
theorem Dbl.some (hD : Opt g t D) (hS : Opt s t S) (ht : t < g.n) (ok : g.Ok) {v : Nat} (hv : v < g.n) {d : Int} (hd : D v = .some d) : ∃ k : Nat, S v = .some (k : Int) ∧ k < g.n ∧ Wk s v t k k := by
 obtain ⟨k, hk⟩ := (hD v hv).1 d hd
 have w := h.toS hD ok hk hd
 obtain ⟨x, hx, h1⟩ := (hS v (by rw [h.sn]; exact hv)).2 _ _ w
 obtain ⟨j, hj⟩ := (hS v (by rw [h.sn]; exact hv)).1 x hx
 obtain ⟨d', e1, e2, e3⟩ := h.ofS hD ht ok hj
 obtain ⟨j', c', w1, w2, w3, w4⟩ := hj.short (h.okS ok) (by rw [h.sn]; exact ht)
 obtain ⟨y, hy, h5⟩ := (hS v (by rw [h.sn]; exact hv)).2 _ _ w1
 rw [hx] at hy
 obtain rfl := Option.some.inj hy
 obtain ⟨_, _, _, e5⟩ := h.ofS hD ht ok w1
 rw [h.sn] at w2
 exact ⟨j, by rw [hx, e3], by omega, e3 ▸ hj⟩
theorem Dbl.opt (hD : Opt g t D) (hS : Opt s t S) (ht : t < g.n) (ok : g.Ok) (h8 : g.n ≤ 1000) : Opt e t (both D S) := by
 intro v hv
 rw [h.en] at hv
 constructor
 ·intro x hx
  unfold both at hx
  cases ed : D v with
  | none => rw [ed] at hx; cases hx
  | some d =>
   obtain ⟨k, hk, h1, h2⟩ := h.some hD hS ht ok hv ed
   rw [ed, hk] at hx
   obtain rfl := Option.some.inj hx
   obtain ⟨d', g1, g2, g3⟩ := h.ofS hD ht ok h2
   rw [ed] at g1
   obtain rfl := Option.some.inj g1
   exact ⟨k, h.toE g2⟩
 ·intro k c w
  obtain ⟨c', w1, rfl⟩ := h.ofE w
  obtain ⟨d, hd, h1⟩ := (hD v hv).2 _ _ w1
  obtain ⟨j, hj, h2, h3⟩ := h.some hD hS ht ok hv hd
  refine ⟨1000 * d + j, by simp [both, hd, hj], ?_⟩
  by_cases e0 : d = c'
  ·subst e0
   have w2 := h.toS hD ok w1 hd
   obtain ⟨x, hx, h4⟩ := (hS v (by rw [h.sn]; exact hv)).2 _ _ w2
   rw [hj] at hx
   obtain rfl := Option.some.inj hx
   omega
  ·omega
end
end Go.Proofs.Ytljdcinpjnijcaa.Sp
end
section
set_option linter.unusedSimpArgs false
set_option linter.unusedVariables false
set_option linter.unusedSectionVars false
namespace Go.Proofs.Ytljdcinpjnijcaa.Pure
open Go.RowKit Go.Proofs.Ytljdcinpjnijcaa.Pr Go.Proofs.YtljdcinpjnijcaaW.PrintWords Go.Proofs.YtljdcinpjnijcaaW.PrintLast Go.Proofs.YtljdcinpjnijcaaW.PrintMore
open Go.Proofs.Ytljdcinpjnijcaa.Sp (G Wk Opt lts put relax sweep rounds start Dbl)
def gr (N : Nat) (l : List Arc) : G := ⟨N, l.length, fun i => (arc l i).f0.toNat, fun i => (arc l i).f1.toNat, fun i => (arc l i).f2, fun _ => true⟩
def grE (N : Nat) (l : List Arc) : G := { gr N l with w := fun i => 1000 * (arc l i).f2 + 1 }
def grS (N : Nat) (l : List Arc) (D : Nat → Option Int) : G := { gr N l with w := fun _ => 1, use := fun i => match D (arc l i).f1.toNat with | none => false | some x => decide (D (arc l i).f0.toNat = some ((arc l i).f2 + x)) }
section
variable {N : Nat} {l : List Arc} (hg : NetGood N l)
include hg
theorem gr_ok : (gr N l).Ok := ⟨fun i hi => by have := hg.ok i hi; show (arc l i).f0.toNat < N; omega, fun i hi => by have := hg.ok i hi; show (arc l i).f1.toNat < N; omega, fun i hi => by have := hg.ok i hi; show 0 ≤ (arc l i).f2; omega⟩
theorem grE_ok : (grE N l).Ok := ⟨fun i hi => by have := hg.ok i hi; show (arc l i).f0.toNat < N; omega, fun i hi => by have := hg.ok i hi; show (arc l i).f1.toNat < N; omega, fun i hi => by have := hg.ok i hi; show 0 ≤ 1000 * (arc l i).f2 + 1; omega⟩
theorem grS_ok (D : Nat → Option Int) : (grS N l D).Ok := ⟨fun i hi => by have := hg.ok i hi; show (arc l i).f0.toNat < N; omega, fun i hi => by have := hg.ok i hi; show (arc l i).f1.toNat < N; omega, fun i hi => by show (0 : Int) ≤ 1; omega⟩
end
theorem dbl (N : Nat) (l : List Arc) (D : Nat → Option Int) : Dbl (gr N l) (grE N l) (grS N l D) D := by
 refine ⟨rfl, rfl, rfl, rfl, rfl, fun i _ => rfl, rfl, rfl, rfl, rfl, fun i _ => rfl, fun i _ => ?_⟩
 show (match D (arc l i).f1.toNat with | none => false | some x => decide (D (arc l i).f0.toNat = some ((arc l i).f2 + x))) = true ↔ _
 cases e : D (arc l i).f1.toNat with
 | none =>
  refine ⟨fun h => (by cases h), fun ⟨_, x, h, _⟩ => ?_⟩
  have h : D (arc l i).f1.toNat = some x := h
  rw [e] at h; cases h
 | some x =>
  dsimp only
  rw [decide_eq_true_iff]
  refine ⟨fun h => ⟨rfl, x, e, h⟩, fun ⟨_, y, h, h2⟩ => ?_⟩
  have h : D (arc l i).f1.toNat = some y := h
  rw [e] at h
  obtain rfl := Option.some.inj h
  exact h2
def dst (N : Nat) (l : List Arc) (t : Nat) : Nat → Option Int := rounds (gr N l) t N
def stp (N : Nat) (l : List Arc) (t : Nat) : Nat → Option Int := rounds (grS N l (dst N l t)) t N
section
variable {N : Nat} {l : List Arc} (hg : NetGood N l) {t : Nat} (ht : t < N)
include hg ht
theorem dst_opt : Opt (gr N l) t (dst N l t) := Sp.rounds_opt (gr_ok hg) ht (by show N ≤ N + 1; omega)
theorem stp_opt : Opt (grS N l (dst N l t)) t (stp N l t) := Sp.rounds_opt (grS_ok hg _) ht (by show N ≤ N + 1; omega)
theorem stp_some {v : Nat} (hv : v < N) {d : Int} (hd : dst N l t v = some d) : ∃ k : Nat, stp N l t v = some (k : Int) ∧ k < N := by
 obtain ⟨k, h1, h2, _⟩ := (dbl N l (dst N l t)).some (dst_opt hg ht) (stp_opt hg ht) ht (gr_ok hg) hv hd
 exact ⟨k, h1, h2⟩
theorem tow_both {v : Nat} (hv : v < N) : rounds (grE N l) t N v = Sp.both (dst N l t) (stp N l t) v := by
 have h8 := hg.n8
 have h1 := Sp.rounds_opt (g := grE N l) (t := t) (r := N) (grE_ok hg) ht (by show N ≤ N + 1; omega)
 have h2 := (dbl N l (dst N l t)).opt (dst_opt hg ht) (stp_opt hg ht) ht (gr_ok hg) (by show N ≤ 1000; omega)
 exact h1.uniq h2 v hv
end
abbrev Msr := S104
def ent : Option Int → Msr
 | none => ⟨99999, 0⟩
 | some x => ⟨x / 1000, x % 1000⟩
def far : Option Int → Int
 | none => 99999
 | some x => x
def lstM (N : Nat) (F : Nat → Msr) : List Msr := (List.range N).map F
theorem lstM_len (N : Nat) (F : Nat → Msr) : (lstM N F).length = N := by simp [lstM]
theorem lstM_rd {N v : Nat} (F : Nat → Msr) (h : v < N) : rd_T104 (lstM N F) (v : Int) = F v := by
 simp [rd_T104, lstM, h]
theorem lstM_congr {N : Nat} {F H : Nat → Msr} (h : ∀ v, v < N → F v = H v) : lstM N F = lstM N H := by
 unfold lstM
 exact List.map_congr_left (fun v hv => h v (List.mem_range.1 hv))
theorem lstM_set {N a : Nat} (L : Nat → Option Int) (x : Int) : (lstM N (fun v => ent (L v))).set a (ent (some x)) = lstM N (fun v => ent (put L a x v)) := by
 apply List.ext_getElem (by simp [lstM])
 intro i h1 h2
 simp only [List.getElem_set]
 by_cases e : a = i
 ·subst e; simp [lstM, put]
 ·simp [lstM, put, e, show ¬ i = a from fun h => e h.symm]
theorem less_eq (a b c d : Int) : impl_measure_less.f a b c d = some (decide (a < c ∨ a = c ∧ b < d)) := by
 unfold impl_measure_less.f
 by_cases h : a < c
 ·rw [if_pos h, decide_eq_true (.inl h)]
 ·rw [if_neg h]
  by_cases h2 : a = c
  ·rw [if_pos h2]
   congr 1
   simp only [decide_eq_decide]
   exact ⟨fun h3 => .inr ⟨h2, h3⟩, fun h3 => h3.elim (fun h4 => absurd h4 h) (fun h4 => h4.2)⟩
  ·rw [if_neg h2, decide_eq_false (fun h3 => h3.elim h (fun h4 => h2 h4.1))]
def Bd (s : Nat) (L : Nat → Option Int) : Prop := ∀ v x, L v = some x → 0 ≤ x ∧ x / 1000 ≤ 99 * (s : Int) ∧ x % 1000 ≤ (s : Int)
theorem Bd.relax {N : Nat} {l : List Arc} (hg : NetGood N l) {s : Nat} {L : Nat → Option Int} (h : Bd s L) (hs : s < 900) {i : Nat} (hi : i < l.length) : Bd (s + 1) (relax (grE N l) L i) := by
 obtain ⟨_, _, _, ⟨a1, a2⟩, _⟩ := hg.ok i hi
 intro v x hx
 rcases Sp.relax_cases (grE N l) L i with ⟨e, _⟩ | ⟨_, y, hy, hl, e⟩
 ·rw [e] at hx; have := h v x hx; omega
 ·rw [e] at hx
  by_cases hv : v = (grE N l).fr i
  ·subst hv
   rw [Sp.put_same] at hx
   have hx : some (y + (1000 * (arc l i).f2 + 1)) = some x := hx
   obtain rfl := Option.some.inj hx
   have := h _ _ hy
   omega
  ·rw [Sp.put_far _ _ hv] at hx; have := h v x hx; omega
theorem Bd.sweep {N : Nat} {l : List Arc} (hg : NetGood N l) {s : Nat} {L : Nat → Option Int} (h : Bd s L) : ∀ i, i ≤ l.length → s + i ≤ 900 → Bd (s + i) (sweep (grE N l) L i) := by
 intro i
 induction i with
 | zero => exact fun _ _ => h
 | succ i ih => exact fun hi hs => (ih (by omega) (by omega)).relax hg (by omega) (by omega)
theorem Bd.mono {s r : Nat} {L : Nat → Option Int} (h : Bd s L) (hs : s ≤ r) : Bd r L := fun v x hx => by have := h v x hx; omega
theorem Bd.rounds {N : Nat} {l : List Arc} (hg : NetGood N l) (t : Nat) : ∀ r, r ≤ 9 → Bd (16 * r) (rounds (grE N l) t r) := by
 intro r
 induction r with
 | zero =>
  intro _ v x hx
  unfold Sp.rounds Sp.start at hx
  split at hx
  ·obtain rfl := Option.some.inj hx; omega
  ·cases hx
 | succ r ih =>
  intro hr
  have := hg.len
  exact ((ih (by omega)).sweep hg l.length (Nat.le_refl _) (by omega)).mono (by omega)
def hit (g : G) (L : Nat → Option Int) (i : Nat) : Bool := match L (g.tw i) with
 | none => false
 | some x => lts (x + g.w i) (L (g.fr i))
def fl (g : G) (L : Nat → Option Int) : Nat → Bool
 | 0 => false
 | i + 1 => fl g L i || hit g (sweep g L i) i
theorem relax_hit {g : G} {L : Nat → Option Int} {i : Nat} (h : hit g L i = false) : relax g L i = L := by
 unfold hit at h
 unfold Sp.relax
 split
 ·cases e : L (g.tw i) with
  | none => rfl
  | some x => rw [e] at h; dsimp only at h ⊢; rw [h]; rfl
 ·rfl
theorem fl_none {g : G} {L : Nat → Option Int} : ∀ i, fl g L i = false → sweep g L i = L
 | 0, _ => rfl
 | i + 1, h => by
  have h : (fl g L i || hit g (sweep g L i) i) = false := h
  rw [Bool.or_eq_false_iff] at h
  show relax g (sweep g L i) i = L
  rw [relax_hit h.2, fl_none i h.1]
theorem fl_same {g : G} (hu : ∀ i, g.use i = true) {L : Nat → Option Int} (h : ∀ v, sweep g L g.m v = L v) : ∀ i, i ≤ g.m → fl g L i = false
 | 0, _ => rfl
 | i + 1, hi => by
  show (fl g L i || hit g (sweep g L i) i) = false
  rw [fl_same hu h i (by omega), Bool.false_or]
  have e1 : sweep g L i = L := funext (Sp.sweep_same h (by omega))
  have e2 : relax g L i = L := by
   have : sweep g L (i + 1) = L := funext (Sp.sweep_same h hi)
   have e3 : sweep g L (i + 1) = relax g (sweep g L i) i := rfl
   rw [e3, e1] at this
   exact this
  rw [e1]
  unfold hit
  unfold Sp.relax at e2
  rw [if_pos (hu i)] at e2
  cases e : L (g.tw i) with
  | none => rfl
  | some x =>
   rw [e] at e2
   dsimp only at e2 ⊢
   cases hl : lts (x + g.w i) (L (g.fr i)) with
   | false => rfl
   | true =>
    rw [if_pos hl] at e2
    have := congrFun e2 (g.fr i)
    rw [Sp.put_same] at this
    rw [← this] at hl
    simp [Sp.lts] at hl
section
variable {N : Nat} {l : List Arc} (hg : NetGood N l)
include hg
theorem tow_l1 (L : Nat → Option Int) {s : Nat} (hs : s ≤ 700) (hL : Bd s L) {R : List Msr} : ∀ (m i : Nat), l.length - i = m → i ≤ l.length →
  Ev (fun k => impl_Net_toward.l0 k (lstM N (fun v => ent (sweep (grE N l) L l.length v))) (fl (grE N l) L l.length) N l) R →
  Ev (fun k => impl_Net_toward.l1 k (lstM N (fun v => ent (sweep (grE N l) L i v))) (fl (grE N l) L i) l (l.length : Int) (i : Int) N l) R := by
 have h16 := hg.len
 intro m
 induction m with
 | zero =>
  intro i hd hi h
  have e : i = l.length := by omega
  subst e
  refine Ev.go ?_ (fun k => by rw [impl_Net_toward.l1])
  exact Ev.neg (by omega) h
 | succ m ih =>
  intro i hd hi h
  have hlt : i < l.length := by omega
  have hn := ih (i + 1) (by omega) (by omega) h
  clear ih h
  have hb := hL.sweep hg i hi (by omega)
  obtain ⟨⟨a1, a2⟩, ⟨a3, a4⟩, a5, ⟨a6, a7⟩, _⟩ := hg.ok i hlt
  have ef : (grE N l).fr i = (arc l i).f0.toNat := rfl
  have et : (grE N l).tw i = (arc l i).f1.toNat := rfl
  have ew : (grE N l).w i = 1000 * (arc l i).f2 + 1 := rfl
  obtain ⟨f, hf⟩ := Int.eq_ofNat_of_zero_le a1
  obtain ⟨t, ht⟩ := Int.eq_ofNat_of_zero_le a3
  rw [hf, Int.toNat_natCast] at ef
  rw [ht, Int.toNat_natCast] at et
  have hfN : f < N := by omega
  have htN : t < N := by omega
  have hsw : sweep (grE N l) L (i + 1) = relax (grE N l) (sweep (grE N l) L i) i := rfl
  have hfl : fl (grE N l) L (i + 1) = (fl (grE N l) L i || hit (grE N l) (sweep (grE N l) L i) i) := rfl
  rw [hsw, hfl] at hn
  clear hsw hfl
  generalize sweep (grE N l) L i = M at hn hb
  generalize fl (grE N l) L i = b at hn
  refine Ev.go ?_ (fun k => by rw [impl_Net_toward.l1])
  rw [rda, up1 hlt (by simp only [maxLen]; omega), hf, ht, lstM_rd _ htN, lstM_rd _ hfN, lstM_len]
  refine Ev.pos (by omega) (Ev.pos (by omega) (Ev.pos (by omega) (Ev.pos (by omega) (Ev.pos (by omega) ?_))))
  cases et2 : M t with
  | none =>
   have hh : hit (grE N l) M i = false := by unfold hit; rw [et, et2]
   rw [hh, relax_hit hh, Bool.or_false] at hn
   exact Ev.pos rfl hn
  | some x =>
   have hx := hb t x et2
   have hq : 0 ≤ x / 1000 := by omega
   have hr : 0 ≤ x % 1000 := by omega
   have w1 : wrap64 (x / 1000 + (arc l i).f2) = x / 1000 + (arc l i).f2 := w64 (by omega) (by omega)
   have w2 : wrap64 (x % 1000 + 1) = x % 1000 + 1 := w64 (by omega) (by omega)
   have e1 : (x + (1000 * (arc l i).f2 + 1)) / 1000 = x / 1000 + (arc l i).f2 := by omega
   have e2 : (x + (1000 * (arc l i).f2 + 1)) % 1000 = x % 1000 + 1 := by omega
   have eent : (⟨x / 1000 + (arc l i).f2, x % 1000 + 1⟩ : Msr) = ent (some (x + (1000 * (arc l i).f2 + 1))) := by simp only [ent, e1, e2]
   have hne : ¬ ((ent (some x)).f0 = 99999) := by show ¬ (x / 1000 = 99999); omega
   have elts : decide ((x / 1000 + (arc l i).f2) < (ent (M f)).f0 ∨ (x / 1000 + (arc l i).f2) = (ent (M f)).f0 ∧ (x % 1000 + 1) < (ent (M f)).f1) = lts (x + (1000 * (arc l i).f2 + 1)) (M f) := by
    cases ef2 : M f with
    | none => exact decide_eq_true (.inl (by show x / 1000 + (arc l i).f2 < 99999; omega))
    | some y =>
     have hy := hb f y ef2
     show decide (_ < y / 1000 ∨ _ = y / 1000 ∧ _ < y % 1000) = decide (_ < y)
     rw [decide_eq_decide]
     omega
   have hh : hit (grE N l) M i = lts (x + (1000 * (arc l i).f2 + 1)) (M f) := by unfold hit; rw [et, et2, ef, ew]
   have hre : relax (grE N l) M i = if lts (x + (1000 * (arc l i).f2 + 1)) (M f) = true then put M f (x + (1000 * (arc l i).f2 + 1)) else M := by
    unfold Sp.relax
    rw [if_pos (show (grE N l).use i = true from rfl), et, et2, ef, ew]
   rw [hh, hre] at hn
   clear hh hre
   refine Ev.neg hne ?_
   show Ev (fun k => if 0 ≤ ((f : Nat) : Int) then _ else _) R
   rw [show (ent (some x)).f0 = x / 1000 from rfl, show (ent (some x)).f1 = x % 1000 from rfl, w1, w2, Int.toNat_natCast, eent, lstM_set]
   clear w1 w2 hne
   refine Ev.pos (by omega) (Ev.pos (by omega) (Ev.bind0 (less_eq _ _ _ _) ?_))
   rw [elts]
   cases c : lts (x + (1000 * (arc l i).f2 + 1)) (M f) with
   | true =>
    rw [c, if_pos rfl, Bool.or_true] at hn
    exact Ev.pos rfl hn
   | false =>
    rw [c, if_neg (by simp), Bool.or_false] at hn
    exact Ev.neg (by simp) hn
theorem tow_l0 {t : Nat} (ht : t < N) : ∀ d r, r + d = N → Ev (fun k => impl_Net_toward.l0 k (lstM N (fun v => ent (rounds (grE N l) t r v))) true N l) (lstM N (fun v => ent (rounds (grE N l) t N v))) := by
 have h8 := hg.n8
 have stop : ∀ r, r ≤ N → fl (grE N l) (rounds (grE N l) t r) l.length = false → lstM N (fun v => ent (rounds (grE N l) t (r + 1) v)) = lstM N (fun v => ent (rounds (grE N l) t N v)) := by
  intro r hr hf
  have e := fl_none l.length hf
  have o1 : Opt (grE N l) t (rounds (grE N l) t r) := Sp.opt_of_fix (Sp.rounds_real _ _ _) (Sp.rounds_t _ _ _) (fun v => congrFun e v)
  have o2 := Sp.rounds_opt (g := grE N l) (t := t) (r := N) (grE_ok hg) ht (by show N ≤ N + 1; omega)
  refine lstM_congr (fun v hv => ?_)
  have e2 : rounds (grE N l) t (r + 1) = rounds (grE N l) t r := e
  rw [e2, o1.uniq o2 v hv]
 intro d
 induction d with
 | zero =>
  intro r hr
  obtain rfl : r = N := by omega
  refine Ev.go ?_ (fun k => by rw [impl_Net_toward.l0])
  refine Ev.pos rfl (tow_l1 hg (rounds (grE r l) t r) (s := 16 * r) (by omega) (Bd.rounds hg t r (by omega)) _ 0 rfl (Nat.zero_le _) ?_)
  have hf := fl_same (g := grE r l) (fun _ => rfl) (L := rounds (grE r l) t r) (Sp.rounds_fix (grE_ok hg) ht (by show r ≤ r + 1; omega)) l.length (Nat.le_refl _)
  rw [hf]
  refine Ev.go ?_ (fun k => by rw [impl_Net_toward.l0])
  exact Ev.neg (by simp) (Ev.is (stop r (Nat.le_refl _) hf))
 | succ d ih =>
  intro r hr
  refine Ev.go ?_ (fun k => by rw [impl_Net_toward.l0])
  refine Ev.pos rfl (tow_l1 hg (rounds (grE N l) t r) (s := 16 * r) (by omega) (Bd.rounds hg t r (by omega)) _ 0 rfl (Nat.zero_le _) ?_)
  cases hf : fl (grE N l) (rounds (grE N l) t r) l.length with
  | true => exact ih (r + 1) (by omega)
  | false =>
   refine Ev.go ?_ (fun k => by rw [impl_Net_toward.l0])
   exact Ev.neg (by simp) (Ev.is (stop r (by omega) hf))
theorem tow_ev {t : Nat} (ht : t < N) : Ev (fun k => impl_Net_toward.f k N l (t : Int)) (lstM N (fun v => ent (rounds (grE N l) t N v))) := by
 have h8 := hg.n8
 unfold impl_Net_toward.f
 refine Ev.bind0 (rep_measure _ N (by omega)) ?_
 refine Ev.pos (by omega) (Ev.pos (by simp; omega) ?_)
 have e : (List.replicate N (⟨99999, 0⟩ : Msr)).set (t : Int).toNat ⟨0, 0⟩ = lstM N (fun v => ent (rounds (grE N l) t 0 v)) := by
  apply List.ext_getElem (by simp [lstM])
  intro i h1 h2
  simp only [Int.toNat_natCast, List.getElem_set]
  by_cases c : t = i
  ·subst c; simp [lstM, Sp.rounds, Sp.start, ent]
  ·simp [lstM, Sp.rounds, Sp.start, ent, c, show ¬ i = t from fun h => c h.symm]
 rw [e]
 exact tow_l0 hg ht N 0 (by omega)
theorem ent_far {t : Nat} (ht : t < N) {v : Nat} (hv : v < N) : (ent (rounds (grE N l) t N v)).f0 = far (dst N l t v) := by
 have h8 := hg.n8
 rw [tow_both hg ht hv]
 unfold Sp.both
 cases e : dst N l t v with
 | none => rfl
 | some d =>
  obtain ⟨k, h1, h2⟩ := stp_some hg ht hv e
  rw [h1]
  show (1000 * d + (k : Int)) / 1000 = d
  omega
end
theorem costs_l (N : Nat) (hN : N ≤ 64) (F : Nat → Msr) : ∀ (m i : Nat), N - i = m → i ≤ N → Ev (fun k => impl_costs.l0 k (lst i (fun v => (F v).f0)) (lstM N F) (N : Int) (i : Int)) (lst N (fun v => (F v).f0)) := by
 intro m
 induction m with
 | zero =>
  intro i hd hi
  refine Ev.go ?_ (fun k => by rw [impl_costs.l0])
  obtain rfl : i = N := by omega
  exact Ev.neg (by omega) (Ev.now _)
 | succ m ih =>
  intro i hd hi
  refine Ev.go ?_ (fun k => by rw [impl_costs.l0])
  rw [up1 (show i < N by omega) (by simp only [maxLen]; omega), lstM_rd F (show i < N by omega), lst_snoc i (fun v => (F v).f0), lst_len, lstM_len]
  exact Ev.pos (by omega) (Ev.pos (by omega) (Ev.pos (by omega) (Ev.pos (by omega) (ih (i + 1) (by omega) (by omega)))))
theorem costs_ev (N : Nat) (hN : N ≤ 64) (F : Nat → Msr) : Ev (fun k => impl_costs.f k (lstM N F)) (lst N (fun v => (F v).f0)) := by
 unfold impl_costs.f
 rw [lstM_len]
 exact Ev.pos (by omega) (Ev.pos (by omega) (costs_l N hN F _ 0 rfl (Nat.zero_le _)))
theorem from_ev {N : Nat} {l : List Arc} (hg : NetGood N l) {s : Nat} (hs : s < N) : Ev (fun k => impl_Net_from.f k N l (s : Int)) (lst N (fun v => far (dst N (back l) s v))) := by
 have h8 := hg.n8
 have h16 := hg.len
 unfold impl_Net_from.f
 refine Ev.bind (implBack_ev _ l (by omega)) (Ev.bind (tow_ev (back_good hg) hs) (Ev.bind (costs_ev N (by omega) _) (Ev.is ?_)))
 exact lst_congr (fun v hv => ent_far (back_good hg) hs hv)
end Go.Proofs.Ytljdcinpjnijcaa.Pure
end
section
set_option linter.unusedSimpArgs false
set_option linter.unusedVariables false
set_option linter.unusedSectionVars false
namespace Go.Proofs.Ytljdcinpjnijcaa.Pure
open Go.RowKit Go.Proofs.Ytljdcinpjnijcaa.Pr Go.Proofs.YtljdcinpjnijcaaW.PrintWords Go.Proofs.YtljdcinpjnijcaaW.PrintLast Go.Proofs.YtljdcinpjnijcaaW.PrintMore
open Go.Proofs.Ytljdcinpjnijcaa.Sp (G Wk Opt)
def Chain (l : List Arc) : Int → List Int → Int → Prop
 | u, [], v => u = v
 | u, k :: w, v => (0 ≤ k ∧ k < l.length ∧ (arc l k.toNat).f0 = u) ∧ Chain l (arc l k.toNat).f1 w v
def sumW (l : List Arc) (w : List Int) : Int := (w.map fun k => (arc l k.toNat).f2).sum
theorem Chain.walk {N : Nat} {l : List Arc} (hg : NetGood N l) : ∀ (w : List Int) (u v : Int), Chain l u w v → Wk (gr N l) u.toNat v.toNat w.length (sumW l w)
 | [], u, v, h => by
  have h : u = v := h
  subst h
  exact .nil _
 | k :: w, u, v, h => by
  have ih := Chain.walk hg w _ v h.2
  have h1 := h.1.1
  have h2 := h.1.2.1
  have e := Wk.cons (g := gr N l) (i := k.toNat) (by show k.toNat < l.length; omega) rfl ih
  have e1 : (gr N l).fr k.toNat = u.toNat := by show (arc l k.toNat).f0.toNat = _; rw [h.1.2.2]
  rw [e1] at e
  exact e.cast rfl (by simp [sumW, gr])
theorem Chain.rng {l : List Arc} : ∀ (w : List Int) (u v : Int), Chain l u w v → ∀ k ∈ w, 0 ≤ k ∧ k < l.length
 | [], _, _, _, k, hk => by simp at hk
 | a :: w, u, v, h, k, hk => by
  rcases List.mem_cons.1 hk with rfl | hk
  ·exact ⟨h.1.1, h.1.2.1⟩
  ·exact Chain.rng w _ v h.2 k hk
theorem back_arc' (l : List Arc) (i : Nat) : arc (back l) i = flip (arc l i) := by
 by_cases h : i < l.length
 ·exact back_arc h
 ·have e1 : arc (back l) i = z34 := by unfold arc; simp [rd_T34, back_len, List.getElem?_eq_none (show l.length ≤ i by omega), List.getElem?_eq_none (show (back l).length ≤ i by rw [back_len]; omega)]
  have e2 : arc l i = z34 := by unfold arc; simp [rd_T34, List.getElem?_eq_none (show l.length ≤ i by omega)]
  rw [e1, e2]; rfl
theorem back_back (l : List Arc) : back (back l) = l := by
 unfold back
 rw [List.map_map]
 have : (flip ∘ flip : Arc → Arc) = id := by funext a; rfl
 rw [this, List.map_id]
theorem walk_back {N : Nat} {l : List Arc} {u v k : Nat} {c : Int} (h : Wk (gr N l) u v k c) : Wk (gr N (back l)) v u k c := by
 induction h with
 | nil v => exact .nil v
 | @cons i v k c hi hu _ ih =>
  have h1 := Wk.one (g := gr N (back l)) (i := i) (by show i < (back l).length; rw [back_len]; exact hi) rfl
  have e1 : (gr N (back l)).fr i = (gr N l).tw i := by show (arc (back l) i).f0.toNat = _; rw [back_arc']; rfl
  have e2 : (gr N (back l)).tw i = (gr N l).fr i := by show (arc (back l) i).f1.toNat = _; rw [back_arc']; rfl
  have e3 : (gr N (back l)).w i = (gr N l).w i := by show (arc (back l) i).f2 = _; rw [back_arc']; rfl
  rw [e1, e2, e3] at h1
  exact (ih.trans h1).cast rfl (by omega)
end Go.Proofs.Ytljdcinpjnijcaa.Pure
end
section
set_option linter.unusedSimpArgs false
set_option linter.unusedVariables false
set_option linter.unusedSectionVars false
namespace Go.Proofs.Ytljdcinpjnijcaa.Pure
open Go.RowKit Go.Proofs.Ytljdcinpjnijcaa.Pr Go.Proofs.YtljdcinpjnijcaaW.PrintWords Go.Proofs.YtljdcinpjnijcaaW.PrintLast Go.Proofs.YtljdcinpjnijcaaW.PrintMore
open Go.Proofs.Ytljdcinpjnijcaa.Sp (G Wk Opt)
def pA (N : Nat) (l : List Arc) (t u : Nat) (a : Arc) : Bool := decide (a.f0 = (u : Int)) && match dst N l t a.f1.toNat, stp N l t a.f1.toNat with
 | some x, some k => decide (dst N l t u = some (a.f2 + x)) && decide (stp N l t u = some (k + 1))
 | _, _ => false
def nxA (N : Nat) (l : List Arc) (t u : Nat) : Int := idxI (pA N l t u) l
def bestW (N : Nat) (l : List Arc) (t : Nat) : Nat → Nat → List Int
 | 0, _ => []
 | k + 1, u => nxA N l t u :: bestW N l t k (arc l (nxA N l t u).toNat).f1.toNat
theorem idxI_spec {α : Type} {p : α → Bool} {l : List α} (h : ∃ x ∈ l, p x = true) : ∃ i : Nat, ∃ hi : i < l.length, idxI p l = (i : Int) ∧ p l[i] = true ∧ ∀ j (hj : j < i), p (l[j]'(by omega)) = false := by
 unfold idxI
 cases e : l.findIdx? p with
 | none =>
  obtain ⟨x, hx, hp⟩ := h
  have := List.findIdx?_eq_none_iff.1 e x hx
  rw [this] at hp; cases hp
 | some i =>
  obtain ⟨hi, h1, h2⟩ := List.findIdx?_eq_some_iff_getElem.1 e
  exact ⟨i, hi, rfl, h1, fun j hj => by simpa using h2 j hj⟩
theorem wk_cost {N : Nat} {l : List Arc} (hg : NetGood N l) {u v k : Nat} {c : Int} (w : Wk (gr N l) u v k c) : c ≤ 99 * (k : Int) := by
 induction w with
 | nil => omega
 | @cons i _ _ c hi _ _ ih =>
  have h : (gr N l).w i ≤ 99 := (hg.ok i hi).2.2.2.1.2
  omega
section
variable {N : Nat} {l : List Arc} (hg : NetGood N l) {t : Nat} (ht : t < N)
include hg ht
theorem dst_t : dst N l t t = some 0 := by
 obtain ⟨x, h1, h2⟩ := (dst_opt hg ht t ht).2 0 0 (.nil t)
 obtain ⟨k, w⟩ := (dst_opt hg ht t ht).1 x h1
 have := w.nonneg (gr_ok hg)
 rw [h1]; congr 1; omega
theorem stp_t : stp N l t t = some 0 := by
 obtain ⟨x, h1, h2⟩ := (stp_opt hg ht t ht).2 0 0 (.nil t)
 obtain ⟨k, w⟩ := (stp_opt hg ht t ht).1 x h1
 have := w.nonneg (grS_ok hg _)
 rw [h1]; congr 1; omega
theorem dst_bd {v : Nat} (hv : v < N) {d : Int} (h : dst N l t v = some d) : 0 ≤ d ∧ d ≤ 693 := by
 have h8 := hg.n8
 obtain ⟨k, w⟩ := (dst_opt hg ht v hv).1 d h
 obtain ⟨k', c', w', h1, h2, h3⟩ := w.short (gr_ok hg) ht
 obtain ⟨x, h4, h5⟩ := (dst_opt hg ht v hv).2 _ _ w'
 rw [h] at h4
 obtain rfl := Option.some.inj h4
 have h6 := wk_cost hg w'
 have h7 : k' < N := h1
 exact ⟨w.nonneg (gr_ok hg), by omega⟩
theorem pA_some {u : Nat} (hu : u < N) (hne : u ≠ t) {d : Int} (hd : dst N l t u = some d) {k : Nat} (hk : stp N l t u = some (k : Int)) : ∃ a ∈ l, pA N l t u a = true := by
 obtain ⟨j, w⟩ := (stp_opt hg ht u hu).1 _ hk
 have hN := (dbl N l (dst N l t))
 generalize hc : (k : Int) = c at w
 cases w with
 | nil => exact absurd rfl hne
 | @cons i v _ c hi hus w =>
  have hil : i < l.length := hi
  have hok := hg.ok i hil
  have ew : (grS N l (dst N l t)).w i = 1 := rfl
  have ef : (grS N l (dst N l t)).fr i = (arc l i).f0.toNat := rfl
  have et : (grS N l (dst N l t)).tw i = (arc l i).f1.toNat := rfl
  rw [ew] at hc
  rw [et] at w
  rw [ef] at hu hd hk
  obtain ⟨_, x, e1, e2⟩ := (hN.su i hi).1 hus
  have e1 : dst N l t (arc l i).f1.toNat = some x := e1
  have e2 : dst N l t (arc l i).f0.toNat = some ((arc l i).f2 + x) := e2
  have h1N : (arc l i).f1.toNat < N := by omega
  obtain ⟨k', e3, h3⟩ := stp_some hg ht h1N e1
  obtain ⟨y, e4, h4⟩ := (stp_opt hg ht _ h1N).2 _ _ w
  rw [e3] at e4
  obtain rfl := Option.some.inj e4
  obtain ⟨j2, w2⟩ := (stp_opt hg ht _ h1N).1 _ e3
  have w3 := Wk.cons (g := grS N l (dst N l t)) (i := i) hi hus w2
  rw [ef] at w3
  obtain ⟨z, e5, h5⟩ := (stp_opt hg ht _ hu).2 _ _ w3
  rw [hk] at e5
  obtain rfl := Option.some.inj e5
  rw [ew] at h5
  refine ⟨arc l i, arc_mem hil, ?_⟩
  show (decide ((arc l i).f0 = (((arc l i).f0.toNat : Nat) : Int)) && _) = true
  rw [decide_eq_true (by omega), Bool.true_and, ef, e1, e3]
  dsimp only
  rw [decide_eq_true e2, Bool.true_and, hk]
  exact decide_eq_true (by congr 1; omega)
theorem nx_ok {u : Nat} (hu : u < N) (hne : u ≠ t) {d : Int} (hd : dst N l t u = some d) {k : Nat} (hk : stp N l t u = some (k : Int)) : ∃ i : Nat, nxA N l t u = (i : Int) ∧ i < l.length ∧ (arc l i).f0 = (u : Int) ∧ (arc l i).f1.toNat < N ∧ dst N l t (arc l i).f1.toNat = some (d - (arc l i).f2) ∧ 0 < k ∧ stp N l t (arc l i).f1.toNat = some ((k - 1 : Nat) : Int) ∧ pA N l t u (arc l i) = true ∧ ∀ j, j < i → pA N l t u (arc l j) = false := by
 obtain ⟨i, hi, e, hp, hf⟩ := idxI_spec (pA_some hg ht hu hne hd hk)
 rw [← arc_get hi] at hp
 have hp0 := hp
 unfold pA at hp
 rw [Bool.and_eq_true, decide_eq_true_eq] at hp
 obtain ⟨h1, h2⟩ := hp
 have hok := hg.ok i hi
 have h1N : (arc l i).f1.toNat < N := by omega
 cases e1 : dst N l t (arc l i).f1.toNat with
 | none => rw [e1] at h2; cases h2
 | some x =>
  obtain ⟨k', e2, _⟩ := stp_some hg ht h1N e1
  rw [e1, e2] at h2
  dsimp only at h2
  rw [Bool.and_eq_true, decide_eq_true_eq, decide_eq_true_eq, hd, hk] at h2
  have a1 := Option.some.inj h2.1
  have a2 := Option.some.inj h2.2
  refine ⟨i, e, hi, h1, h1N, by rw [show d - (arc l i).f2 = x by omega, e1], by omega, by rw [e2]; congr 1; omega, hp0, fun j hj => ?_⟩
  rw [arc_get (by omega)]
  exact hf j hj
theorem bestW_ok : ∀ (k u : Nat) (d : Int), u < N → dst N l t u = some d → stp N l t u = some (k : Int) → Chain l (u : Int) (bestW N l t k u) (t : Int) ∧ (bestW N l t k u).length = k ∧ sumW l (bestW N l t k u) = d
 | 0, u, d, hu, hd, hk => by
  have hut : u = t := by
   apply Classical.byContradiction
   intro hne
   obtain ⟨i, _, _, _, _, _, h0, _⟩ := nx_ok hg ht hu hne hd hk
   omega
  subst hut
  rw [dst_t hg ht] at hd
  exact ⟨rfl, rfl, Option.some.inj hd⟩
 | k + 1, u, d, hu, hd, hk => by
  have hne : u ≠ t := by
   rintro rfl
   rw [stp_t hg ht] at hk
   have := Option.some.inj hk
   omega
  obtain ⟨i, e, hi, h1, h2, h3, _, h4, _⟩ := nx_ok hg ht hu hne hd hk
  have hok := hg.ok i hi
  obtain ⟨a, b, c⟩ := bestW_ok k (arc l i).f1.toNat _ h2 h3 h4
  have e0 : bestW N l t (k + 1) u = (i : Int) :: bestW N l t k (arc l i).f1.toNat := by
   show nxA N l t u :: bestW N l t k (arc l (nxA N l t u).toNat).f1.toNat = _
   rw [e, Int.toNat_natCast]
  rw [e0]
  refine ⟨⟨⟨by omega, by omega, by rw [Int.toNat_natCast]; exact h1⟩, ?_⟩, by rw [List.length_cons, b], ?_⟩
  ·rw [Int.toNat_natCast]
   rw [show (((arc l i).f1.toNat : Nat) : Int) = (arc l i).f1 by omega] at a
   exact a
  ·have : sumW l ((i : Int) :: bestW N l t k (arc l i).f1.toNat) = (arc l i).f2 + sumW l (bestW N l t k (arc l i).f1.toNat) := by simp [sumW]
   rw [this, c]; omega
end
end Go.Proofs.Ytljdcinpjnijcaa.Pure
end
section
set_option linter.unusedSimpArgs false
set_option linter.unusedVariables false
set_option linter.unusedSectionVars false
namespace Go.Proofs.Ytljdcinpjnijcaa.Pure
open Go.RowKit Go.Proofs.Ytljdcinpjnijcaa.Pr Go.Proofs.YtljdcinpjnijcaaW.PrintWords Go.Proofs.YtljdcinpjnijcaaW.PrintLast Go.Proofs.YtljdcinpjnijcaaW.PrintMore
open Go.Proofs.Ytljdcinpjnijcaa.Sp (G Wk Opt rounds)
theorem idxI_congr {α : Type} {p q : α → Bool} {l : List α} (h : ∀ a ∈ l, p a = q a) : idxI p l = idxI q l := by
 have e : l.findIdx? p = l.findIdx? q := by
  induction l with
  | nil => rfl
  | cons a l ih =>
   rw [List.findIdx?_cons, List.findIdx?_cons, h a (List.mem_cons_self ..), ih (fun b hb => h b (List.mem_cons_of_mem _ hb))]
 unfold idxI
 rw [e]
section
variable {N : Nat} {l : List Arc} (hg : NetGood N l) {t : Nat} (ht : t < N)
include hg ht
theorem ent_none {v : Nat} (hv : v < N) (h : dst N l t v = none) : ent (rounds (grE N l) t N v) = ⟨99999, 0⟩ := by
 rw [tow_both hg ht hv]
 unfold Sp.both
 rw [h]; rfl
theorem ent_some {v : Nat} (hv : v < N) {d : Int} {k : Nat} (h : dst N l t v = some d) (hk : stp N l t v = some (k : Int)) : ent (rounds (grE N l) t N v) = ⟨d, (k : Int)⟩ := by
 have h8 := hg.n8
 obtain ⟨k', h1, h2⟩ := stp_some hg ht hv h
 rw [hk] at h1
 have := Option.some.inj h1
 rw [tow_both hg ht hv]
 unfold Sp.both
 rw [h, hk]
 show (⟨(1000 * d + (k : Int)) / 1000, (1000 * d + (k : Int)) % 1000⟩ : Msr) = ⟨d, (k : Int)⟩
 rw [show (1000 * d + (k : Int)) / 1000 = d by omega, show (1000 * d + (k : Int)) % 1000 = (k : Int) by omega]
theorem farc_pA {u : Nat} (hu : u < N) {d : Int} {k : Nat} (hd : dst N l t u = some d) (hk : stp N l t u = some (k : Int)) : ∀ a ∈ l, farc (lstM N (fun v => ent (rounds (grE N l) t N v))) (u : Int) ⟨d, (k : Int)⟩ a = pA N l t u a := by
 intro a ha
 have h8 := hg.n8
 obtain ⟨i, hi, e⟩ := List.getElem_of_mem ha
 have hok := hg.ok i hi
 rw [arc_get hi, e] at hok
 obtain ⟨v, hv⟩ := Int.eq_ofNat_of_zero_le hok.2.1.1
 have hvN : v < N := by omega
 unfold farc pA
 congr 1
 rw [hv, lstM_rd _ hvN, Int.toNat_natCast]
 cases e1 : dst N l t v with
 | none =>
  rw [ent_none hg ht hvN e1]
  simp
 | some x =>
  obtain ⟨k', e2, h2⟩ := stp_some hg ht hvN e1
  rw [ent_some hg ht hvN e1 e2, e2]
  have hx := dst_bd hg ht hvN e1
  have w1 : wrap64 (x + a.f2) = x + a.f2 := w64 (by omega) (by omega)
  have w2 : wrap64 ((k' : Int) + 1) = (k' : Int) + 1 := w64 (by omega) (by omega)
  dsimp only
  rw [w1, w2, decide_eq_false (show ¬ x = 99999 by omega), hd, hk]
  clear w1 w2
  simp only [Bool.not_false, Bool.true_and]
  congr 1
  ·rw [decide_eq_decide]
   exact ⟨fun h => by congr 1; omega, fun h => by have := Option.some.inj h; omega⟩
  ·rw [decide_eq_decide]
   exact ⟨fun h => by congr 1; omega, fun h => by have := Option.some.inj h; omega⟩
theorem best_l : ∀ (k u : Nat) (d : Int) (w : List Int), u < N → dst N l t u = some d → stp N l t u = some (k : Int) → w.length + k ≤ 100 → Ev (fun q => impl_Net_best.l0 q (u : Int) (t : Int) (lstM N (fun v => ent (rounds (grE N l) t N v))) w N l) (w ++ bestW N l t k u, true)
 | 0, u, d, w, hu, hd, hk, _ => by
  have hut : u = t := by
   apply Classical.byContradiction
   intro hne
   obtain ⟨i, _, _, _, _, _, h0, _⟩ := nx_ok hg ht hu hne hd hk
   omega
  subst hut
  refine Ev.go ?_ (fun k => by rw [impl_Net_best.l0])
  exact Ev.pos rfl (Ev.is (by simp [bestW]))
 | k + 1, u, d, w, hu, hd, hk, hw => by
  have h8 := hg.n8
  have hne : u ≠ t := by
   rintro rfl
   rw [stp_t hg ht] at hk
   have := Option.some.inj hk
   omega
  obtain ⟨i, e, hi, h1, h2, h3, _, h4, _⟩ := nx_ok hg ht hu hne hd hk
  have hok := hg.ok i hi
  have ih := best_l k (arc l i).f1.toNat _ (w ++ [(i : Int)]) h2 h3 h4 (by simp; omega)
  have e0 : bestW N l t (k + 1) u = (i : Int) :: bestW N l t k (arc l i).f1.toNat := by
   show nxA N l t u :: bestW N l t k (arc l (nxA N l t u).toNat).f1.toNat = _
   rw [e, Int.toNat_natCast]
  have ef : impl_Net_firstArc.f (N : Int) l (lstM N (fun v => ent (rounds (grE N l) t N v))) (u : Int) = some (i : Int) := by
   unfold impl_Net_firstArc.f
   rw [lstM_len, if_pos (by omega), if_pos (by omega), if_pos ?_, lstM_rd _ hu, ent_some hg ht hu hd hk, idxI_congr (farc_pA hg ht hu hd hk)]
   ·exact congrArg some e
   ·rw [List.all_eq_true]
    intro a ha
    obtain ⟨j, hj, ej⟩ := List.getElem_of_mem ha
    have := hg.ok j hj
    rw [arc_get hj, ej] at this
    simp
    omega
  refine Ev.go ?_ (fun k => by rw [impl_Net_best.l0])
  refine Ev.neg (by omega) (Ev.bind0 ef (Ev.pos (by omega) (Ev.pos (by omega) (Ev.pos (by omega) ?_))))
  rw [rda, show (arc l i).f1 = (((arc l i).f1.toNat : Nat) : Int) by omega]
  exact ih.cast (by rw [e0]; simp)
def bestV (N : Nat) (l : List Arc) (u t : Nat) : List Int × Bool := match dst N l t u, stp N l t u with
 | some _, some k => (bestW N l t k.toNat u, true)
 | _, _ => ([], false)
theorem best_ev {u : Nat} (hu : u < N) : Ev (fun q => impl_Net_best.f q N l (u : Int) (t : Int)) (bestV N l u t) := by
 have h8 := hg.n8
 unfold impl_Net_best.f bestV
 refine Ev.bind (tow_ev hg ht) ?_
 rw [lstM_len, lstM_rd _ hu]
 refine Ev.pos (by omega) (Ev.pos (by omega) ?_)
 cases e1 : dst N l t u with
 | none =>
  rw [ent_none hg ht hu e1]
  exact Ev.pos rfl (Ev.now _)
 | some d =>
  obtain ⟨k, e2, h2⟩ := stp_some hg ht hu e1
  have hx := dst_bd hg ht hu e1
  rw [ent_some hg ht hu e1 e2, e2]
  dsimp only
  rw [Int.toNat_natCast]
  exact Ev.neg (by omega) (Ev.pos (by omega) (Ev.pos (by omega) ((best_l hg ht k u d [] hu e1 e2 (by simp; omega)).cast (by simp))))
end
section
variable {N : Nat} {l : List Arc} (hg : NetGood N l)
include hg
theorem dst_flip {s t : Nat} (hs : s < N) (ht : t < N) : dst N (back l) s t = dst N l t s := by
 have h1 := dst_opt (back_good hg) hs t ht
 have h2 := dst_opt hg ht s hs
 cases e1 : dst N (back l) s t with
 | none =>
  cases e2 : dst N l t s with
  | none => rfl
  | some y =>
   obtain ⟨k, w⟩ := h2.1 y e2
   obtain ⟨x, h, _⟩ := h1.2 _ _ (walk_back w)
   rw [e1] at h; cases h
 | some x =>
  obtain ⟨k, w⟩ := h1.1 x e1
  have w := walk_back w
  rw [back_back] at w
  obtain ⟨y, h3, h4⟩ := h2.2 _ _ w
  obtain ⟨k2, w2⟩ := h2.1 y h3
  obtain ⟨x', h5, h6⟩ := h1.2 _ _ (walk_back w2)
  rw [e1] at h5
  obtain rfl := Option.some.inj h5
  rw [h3]; congr 1; omega
theorem nodes2 {u v : Int} (hu : 0 ≤ u ∧ u < N) (hv : 0 ≤ v ∧ v < N) : impl_nodesIn.f (N : Int) l [u, v] = some true := by
 rw [nodesIn_eq, (netOkB_iff _ _).2 hg]
 simp [okN]
 omega
theorem nearWalk_ev {u t : Nat} (hu : u < N) (ht : t < N) : Ev (fun q => impl_NearWalk.f q N l (u : Int) (t : Int)) (bestV N l u t) := by
 unfold impl_NearWalk.f
 exact Ev.bind0 (nodes2 hg (by omega) (by omega)) (Ev.pos rfl (Ev.bind (best_ev hg ht hu) (Ev.now _)))
theorem nearAll_ev {s : Nat} (hs : s < N) : Ev (fun q => impl_NearAll.f q N l (s : Int)) (lst N (fun v => far (dst N l v s))) := by
 unfold impl_NearAll.f
 refine Ev.bind0 (a := true) (by rw [nodesIn_eq, (netOkB_iff _ _).2 hg]; simp [okN]; omega) (Ev.pos rfl (Ev.bind (from_ev hg hs) (Ev.is ?_)))
 exact lst_congr (fun v hv => by rw [dst_flip hg hs hv])
theorem dst_tri {a b c : Nat} (ha : a < N) (hb : b < N) (hc : c < N) {x y : Int} (h1 : dst N l b a = some x) (h2 : dst N l c b = some y) : ∃ z, dst N l c a = some z ∧ z ≤ x + y := by
 obtain ⟨k, w⟩ := (dst_opt hg hb a ha).1 x h1
 obtain ⟨j, w2⟩ := (dst_opt hg hc b hb).1 y h2
 exact (dst_opt hg hc a ha).2 _ _ (w.trans w2)
end
end Go.Proofs.Ytljdcinpjnijcaa.Pure
end
section
set_option linter.unusedSimpArgs false
set_option linter.unusedVariables false
set_option linter.unusedSectionVars false
namespace Go.Proofs.Ytljdcinpjnijcaa.Pure
open Go.RowKit Go.Proofs.Ytljdcinpjnijcaa.Pr Go.Proofs.YtljdcinpjnijcaaW.PrintWords Go.Proofs.YtljdcinpjnijcaaW.PrintLast Go.Proofs.YtljdcinpjnijcaaW.PrintMore
open Go.Proofs.Ytljdcinpjnijcaa.Sp (G Wk Opt lts put relax sweep rounds start)
theorem lst_put {N a : Nat} (L : Nat → Option Int) (x : Int) : (lst N (fun v => far (L v))).set a x = lst N (fun v => far (put L a x v)) := by
 rw [lst_set]
 apply lst_congr
 intro v _
 unfold upd Sp.put
 split <;> rfl
theorem lst_fill (N i : Nat) (c : Int) (F : Nat → Int) (h : i < N) : (lst N (fun v => if v < i then c else F v)).set i c = lst N (fun v => if v < i + 1 then c else F v) := by
 rw [lst_set]
 apply lst_congr
 intro v _
 unfold upd
 by_cases e : v = i
 ·subst e; simp
 ·rw [if_neg e]
  show (if v < i then c else F v) = _
  by_cases e2 : v < i
  ·rw [if_pos e2, if_pos (by omega)]
  ·rw [if_neg e2, if_neg (by omega)]
theorem start_lst {N s : Nat} (hs : s < N) : (lst N (fun _ => (99999 : Int))).set s 0 = lst N (fun v => far (Sp.start s v)) := by
 rw [lst_set]
 apply lst_congr
 intro v _
 unfold upd Sp.start
 split <;> rfl
def Bw (w : Int) (s : Nat) (L : Nat → Option Int) : Prop := ∀ v x, L v = some x → 0 ≤ x ∧ x ≤ w * (s : Int)
theorem Bw.relax {g : G} {w : Int} {s : Nat} {L : Nat → Option Int} (h : Bw w s L) {i : Nat} (h0 : 0 ≤ g.w i) (h1 : g.w i ≤ w) : Bw w (s + 1) (relax g L i) := by
 intro v x hx
 have := Sp.relax_bd h h0 h1 v x hx
 refine ⟨this.1, ?_⟩
 have e : w * ((s + 1 : Nat) : Int) = w * (s : Int) + w := by rw [Int.natCast_add, Int.mul_add]; simp
 omega
theorem Bw.sweep {g : G} {w : Int} {s : Nat} {L : Nat → Option Int} (h : Bw w s L) (hw : ∀ i, i < g.m → 0 ≤ g.w i ∧ g.w i ≤ w) : ∀ i, i ≤ g.m → Bw w (s + i) (sweep g L i)
 | 0, _ => h
 | i + 1, hi => (Bw.sweep h hw i (by omega)).relax (hw i (by omega)).1 (hw i (by omega)).2
theorem Bw.rounds {g : G} {w : Int} (hw : ∀ i, i < g.m → 0 ≤ g.w i ∧ g.w i ≤ w) (t : Nat) : ∀ r, Bw w (g.m * r) (rounds g t r)
 | 0 => by
  intro v x hx
  unfold Sp.rounds Sp.start at hx
  split at hx
  ·obtain rfl := Option.some.inj hx; simp
  ·cases hx
 | r + 1 => by
  have := (Bw.rounds hw t r).sweep hw g.m (Nat.le_refl _)
  rw [Nat.mul_succ]
  exact this
section
variable {N : Nat} {l : List Arc} (hg : NetGood N l)
include hg
theorem back_gr_fr (i : Nat) : (gr N (back l)).fr i = (arc l i).f1.toNat := by show (arc (back l) i).f0.toNat = _; rw [back_arc']; rfl
theorem back_gr_tw (i : Nat) : (gr N (back l)).tw i = (arc l i).f0.toNat := by show (arc (back l) i).f1.toNat = _; rw [back_arc']; rfl
theorem back_gr_w (i : Nat) : (gr N (back l)).w i = (arc l i).f2 := by show (arc (back l) i).f2 = _; rw [back_arc']; rfl
theorem back_gr_m : (gr N (back l)).m = l.length := back_len l
theorem back_bw : ∀ i, i < (gr N (back l)).m → 0 ≤ (gr N (back l)).w i ∧ (gr N (back l)).w i ≤ 99 := by
 intro i hi
 rw [back_gr_m hg] at hi
 rw [back_gr_w hg]
 exact (hg.ok i hi).2.2.2.1
theorem l3All_arcs (r : Nat) {M : Nat → Option Int} {s : Nat} (hM : Bw 99 s M) (hs : s ≤ 500) (hr : r < N) {R : List Int} : ∀ (m i : Nat), l.length - i = m → i ≤ l.length →
  Ev (fun k => spec_l3All.l1 k (lst N (fun v => far (sweep (gr N (back l)) M l.length v))) ((r + 1 : Nat) : Int) N l) R →
  Ev (fun k => spec_l3All.l2 k (lst N (fun v => far (sweep (gr N (back l)) M i v))) (r : Int) (i : Int) N l) R := by
 have h8 := hg.n8
 have h16 := hg.len
 intro m
 induction m with
 | zero =>
  intro i hd hi h
  obtain rfl : i = l.length := by omega
  refine Ev.go ?_ (fun k => by rw [spec_l3All.l2])
  rw [up1 hr (by simp only [maxLen]; omega)]
  exact Ev.neg (by omega) h
 | succ m ih =>
  intro i hd hi h
  have hlt : i < l.length := by omega
  have hn := ih (i + 1) (by omega) (by omega) h
  clear ih h
  have hb := hM.sweep (back_bw hg) i (by rw [back_gr_m hg]; omega)
  have hsw : sweep (gr N (back l)) M (i + 1) = relax (gr N (back l)) (sweep (gr N (back l)) M i) i := rfl
  rw [hsw] at hn
  generalize sweep (gr N (back l)) M i = L at hn hb
  obtain ⟨⟨a1, a2⟩, ⟨a3, a4⟩, a5, ⟨a6, a7⟩, _⟩ := hg.ok i hlt
  have ef := back_gr_fr hg i
  have et := back_gr_tw hg i
  have ew := back_gr_w hg i
  obtain ⟨f, hf⟩ := Int.eq_ofNat_of_zero_le a1
  obtain ⟨t, ht⟩ := Int.eq_ofNat_of_zero_le a3
  rw [hf, Int.toNat_natCast] at et
  rw [ht, Int.toNat_natCast] at ef
  have hfN : f < N := by omega
  have htN : t < N := by omega
  refine Ev.go ?_ (fun k => by rw [spec_l3All.l2])
  rw [rda, up1 hlt (by simp only [maxLen]; omega), hf, ht, lst_rd _ htN, lst_rd _ hfN, lst_len]
  refine Ev.pos (by omega) (Ev.pos (by omega) (Ev.pos (by omega) (Ev.pos (by omega) ?_)))
  cases e2 : L f with
  | none =>
   have hre : relax (gr N (back l)) L i = L := by unfold Sp.relax; rw [if_pos (show (gr N (back l)).use i = true from rfl), et, e2]
   rw [hre] at hn
   exact Ev.neg (by show ¬ ((99999 : Int) < 99999); omega) hn
  | some x =>
   have hx := hb f x e2
   have w1 : wrap64 (x + (arc l i).f2) = x + (arc l i).f2 := w64 (by omega) (by omega)
   have hre : relax (gr N (back l)) L i = if lts (x + (arc l i).f2) (L t) = true then put L t (x + (arc l i).f2) else L := by
    unfold Sp.relax
    rw [if_pos (show (gr N (back l)).use i = true from rfl), et, e2, ef, ew]
   have elt : (x + (arc l i).f2 < far (L t)) ↔ lts (x + (arc l i).f2) (L t) = true := by
    cases e3 : L t with
    | none => exact ⟨fun _ => rfl, fun _ => by show x + _ < 99999; omega⟩
    | some y => exact ⟨fun h => decide_eq_true h, fun h => of_decide_eq_true h⟩
   rw [hre] at hn
   show Ev (fun k => if x < 99999 then _ else _) R
   rw [show far (some x) = x from rfl, w1, Int.toNat_natCast, lst_put]
   clear w1 hre
   refine Ev.pos (by omega) (Ev.pos (by omega) (Ev.pos (by omega) ?_))
   cases c : lts (x + (arc l i).f2) (L t) with
   | true =>
    rw [c, if_pos rfl] at hn
    exact Ev.pos (elt.2 c) hn
   | false =>
    rw [c, if_neg (by simp)] at hn
    exact Ev.neg (fun h => by rw [elt.1 h] at c; cases c) hn
theorem l3All_rounds {s : Nat} (hs : s < N) : ∀ (m r : Nat), N - r = m → r ≤ N → Ev (fun k => spec_l3All.l1 k (lst N (fun v => far (rounds (gr N (back l)) s r v))) (r : Int) N l) (lst N (fun v => far (dst N (back l) s v))) := by
 have h8 := hg.n8
 have h16 := hg.len
 intro m
 induction m with
 | zero =>
  intro r hd hr
  obtain rfl : r = N := by omega
  refine Ev.go ?_ (fun k => by rw [spec_l3All.l1])
  exact Ev.neg (by omega) (Ev.now _)
 | succ m ih =>
  intro r hd hr
  have hlt : r < N := by omega
  refine Ev.go ?_ (fun k => by rw [spec_l3All.l1])
  refine Ev.pos (by omega) ?_
  have hb := Bw.rounds (back_bw hg) s r
  rw [back_gr_m hg] at hb
  have h16r : l.length * r ≤ 16 * 8 := Nat.mul_le_mul h16 (by omega)
  refine l3All_arcs hg r hb (by omega) hlt _ 0 rfl (Nat.zero_le _) ?_
  have e : sweep (gr N (back l)) (rounds (gr N (back l)) s r) l.length = rounds (gr N (back l)) s (r + 1) := by
   show _ = sweep (gr N (back l)) (rounds (gr N (back l)) s r) (gr N (back l)).m
   rw [back_gr_m hg]
  rw [e]
  exact ih (r + 1) (by omega) (by omega)
theorem l3All_fill {s : Nat} (hs : s < N) : ∀ (m i : Nat), N - i = m → i ≤ N → Ev (fun k => spec_l3All.l0 k (s : Int) (lst N (fun v => if v < i then 99999 else 0)) (i : Int) N l) (lst N (fun v => far (dst N (back l) s v))) := by
 have h8 := hg.n8
 intro m
 induction m with
 | zero =>
  intro i hd hi
  obtain rfl : i = N := by omega
  refine Ev.go ?_ (fun k => by rw [spec_l3All.l0])
  have e : lst i (fun v => if v < i then (99999 : Int) else 0) = lst i (fun _ => 99999) := lst_congr (fun v hv => by rw [if_pos hv])
  rw [e, lst_len]
  refine Ev.neg (by omega) (Ev.pos (by omega) (Ev.pos (by omega) ?_))
  rw [Int.toNat_natCast, start_lst hs]
  exact (l3All_rounds hg hs _ 0 rfl (Nat.zero_le _))
 | succ m ih =>
  intro i hd hi
  have hlt : i < N := by omega
  refine Ev.go ?_ (fun k => by rw [spec_l3All.l0])
  rw [lst_len, Int.toNat_natCast, lst_fill N i 99999 (fun _ => 0) hlt, up1 hlt (by simp only [maxLen]; omega)]
  exact Ev.pos (by omega) (Ev.pos (by omega) (Ev.pos (by omega) (ih (i + 1) (by omega) (by omega))))
theorem zeros_lst : List.replicate N (0 : Int) = lst N (fun v => if v < 0 then 99999 else 0) := by
 apply List.ext_getElem (by simp [lst])
 intro i h1 h2
 simp [lst]
theorem l3All_ev {s : Nat} (hs : s < N) : Ev (fun k => spec_l3All.f k N l (s : Int)) (lst N (fun v => far (dst N (back l) s v))) := by
 have h8 := hg.n8
 unfold spec_l3All.f
 rw [Int.toNat_natCast, zeros_lst hg]
 exact Ev.pos (by omega) (Ev.pos (by omega) (l3All_fill hg hs _ 0 rfl (Nat.zero_le _)))
end
end Go.Proofs.Ytljdcinpjnijcaa.Pure
end
section
set_option linter.unusedSimpArgs false
set_option linter.unusedVariables false
namespace Go.Proofs.Ytljdcinpjnijcaa.Pure
open Go.RowKit Go.Proofs.Ytljdcinpjnijcaa.Pr Go.Proofs.YtljdcinpjnijcaaW.PrintWords Go.Proofs.YtljdcinpjnijcaaW.PrintLast Go.Proofs.YtljdcinpjnijcaaW.PrintMore
structure Rdr (b : List Int) : Prop where
 len : b.length ≤ 2000
 rng : ∀ i, i < b.length → 0 ≤ nth b i ∧ nth b i ≤ 255
theorem Rdr.rd {b : List Int} (h : Rdr b) (i : Int) : 0 ≤ Go.Proofs.YtljdcinpjnijcaaW.PrintWords.rd b i ∧ Go.Proofs.YtljdcinpjnijcaaW.PrintWords.rd b i ≤ 255 := by
 have e : Go.Proofs.YtljdcinpjnijcaaW.PrintWords.rd b i = nth b i.toNat := rfl
 rw [e]
 by_cases c : i.toNat < b.length
 ·exact h.rng _ c
 ·have c2 : b.length ≤ i.toNat := by omega
  simp [nth, List.getElem?_eq_none c2]
theorem tm {x a : Int} (hx : 0 ≤ x) (ha : 0 < a) : 0 ≤ Int.tmod x a ∧ Int.tmod x a < a := by
 rw [Int.tmod_eq_emod_of_nonneg hx]
 exact ⟨Int.emod_nonneg _ (by omega), Int.emod_lt_of_pos _ ha⟩
theorem td {x a : Int} (hx : 0 ≤ x) (ha : 0 < a) : 0 ≤ Int.tdiv x a ∧ Int.tdiv x a ≤ x := by
 rw [Int.tdiv_eq_ediv_of_nonneg hx]
 exact ⟨Int.ediv_nonneg hx (by omega), Int.ediv_le_self _ hx⟩
theorem xor_nn {x y : Int} (hx : 0 ≤ x) (hx' : x < 4294967296) (hy : 0 ≤ y) (hy' : y < 4294967296) : 0 ≤ Go.bits .xor .i64 x y := by
 obtain ⟨x, rfl⟩ := Int.eq_ofNat_of_zero_le hx
 obtain ⟨y, rfl⟩ := Int.eq_ofNat_of_zero_le hy
 have h1 : x ^^^ y < 2 ^ 32 := Nat.xor_lt_two_pow (by omega) (by omega)
 have e : Go.bits .xor .i64 ((x : Nat) : Int) ((y : Nat) : Int) = wrap64 (((BitVec.ofInt 64 ((x : Nat) : Int) ^^^ BitVec.ofInt 64 ((y : Nat) : Int)).toNat : Nat) : Int) := by
  unfold Go.bits
  simp only [i64_w]
  rfl
 rw [e, BitVec.toNat_xor, BitVec.ofInt_natCast, BitVec.ofInt_natCast, BitVec.toNat_ofNat, BitVec.toNat_ofNat, Nat.mod_eq_of_lt (by omega), Nat.mod_eq_of_lt (by omega), w64 (by omega) (by omega)]
 omega
theorem pick_pv {b : List Int} (h : Rdr b) {p a : Int} (hp : 0 ≤ p) (hp' : p ≤ 1000000) : Pv (fun k => spec_l30Rd_pick.f k b p a) (fun r => (0 ≤ r.1 ∧ (a < 1 → r.1 = 0) ∧ (1 ≤ a → r.1 < a)) ∧ r.2 = p + 1) := by
 have w1 : wrap64 (p + 1) = p + 1 := w64 (by omega) (by omega)
 have w2 : wrap64 (p + 1 - 1) = p := by rw [w64 (by omega) (by omega)]; omega
 unfold spec_l30Rd_pick.f
 refine Pv.ite (fun c => ?_) (fun c => ?_)
 ·refine Pv.go ?_ (fun k => by rw [spec_l30Rd_pick.j0])
  exact Pv.pos rfl (Pv.now ⟨⟨Int.le_refl _, fun _ => rfl, fun c2 => by omega⟩, w1⟩)
 ·refine Pv.go ?_ (fun k => by rw [spec_l30Rd_pick.j0])
  refine Pv.ite (fun _ => Pv.now ⟨⟨Int.le_refl _, fun _ => rfl, fun c2 => by dsimp only; omega⟩, w1⟩) (fun c0 => ?_)
  have hb : 0 < (b.length : Int) := by
   have : (b.length : Int) ≠ 0 := by simpa using c0
   omega
  have hb2 := h.len
  rw [w1, w2]
  have fin : ∀ X : Int, 0 ≤ X → Pv (fun _ => some (Int.tmod X a, p + 1)) (fun r => (0 ≤ r.1 ∧ (a < 1 → r.1 = 0) ∧ (1 ≤ a → r.1 < a)) ∧ r.2 = p + 1) := by
   intro X hX
   have := tm hX (show 0 < a by omega)
   exact Pv.now ⟨⟨this.1, fun c2 => absurd c2 c, fun _ => this.2⟩, rfl⟩
  refine Pv.ite (fun c1 => Pv.pos hp (Pv.neg (by omega) ?_)) (fun c1 => ?_)
  ·have := h.rd p
   rw [w64 (n := Go.Proofs.YtljdcinpjnijcaaW.PrintWords.rd b p) (by omega) (by omega)]
   exact fin _ (by omega)
  ·have t1 := tm hp hb
   have e1 : wrap64 (p * 7) = p * 7 := w64 (by omega) (by omega)
   have e2 : wrap64 (p * 7 + 3) = p * 7 + 3 := w64 (by omega) (by omega)
   rw [e1, e2]
   have t2 := tm (show 0 ≤ p * 7 + 3 by omega) hb
   have r1 := h.rd (Int.tmod p b.length)
   have r2 := h.rd (Int.tmod (p * 7 + 3) b.length)
   have d1 := td hp hb
   refine Pv.neg (by omega) (Pv.pos t1.1 (Pv.pos t1.2 (Pv.pos t2.1 (Pv.pos t2.2 (Pv.neg (by omega) ?_)))))
   generalize Go.Proofs.YtljdcinpjnijcaaW.PrintWords.rd b (Int.tmod p b.length) = u at r1
   generalize Go.Proofs.YtljdcinpjnijcaaW.PrintWords.rd b (Int.tmod (p * 7 + 3) b.length) = v at r2
   generalize Int.tdiv p b.length = q at d1
   rw [w64 (n := u) (by omega) (by omega), w64 (n := v) (by omega) (by omega), w64 (n := q) (by omega) (by omega), w64 (n := u * 131) (by omega) (by omega), w64 (n := v * 1117) (by omega) (by omega), w64 (n := p * 29) (by omega) (by omega), w64 (n := q * 53) (by omega) (by omega), w64 (n := u * 131 + v * 1117) (by omega) (by omega), w64 (n := u * 131 + v * 1117 + p * 29) (by omega) (by omega), w64 (n := u * 131 + v * 1117 + p * 29 + q * 53) (by omega) (by omega)]
   have d2 := td (show 0 ≤ u * 131 + v * 1117 + p * 29 + q * 53 by omega) (show (0 : Int) < 64 by omega)
   generalize Int.tdiv (u * 131 + v * 1117 + p * 29 + q * 53) 64 = z at d2
   rw [w64 (n := z) (by omega) (by omega)]
   exact fin _ (xor_nn (by omega) (by omega) (by omega) (by omega))
theorem one_pv {b : List Int} (h : Rdr b) {p : Int} (hp : 0 ≤ p) (hp' : p ≤ 1000000) {l : List Int} (hl : 0 < l.length) : Pv (fun k => spec_l30Rd_one.f k b p l) (fun r => r.1 ∈ l ∧ r.2 = p + 1) := by
 unfold spec_l30Rd_one.f
 refine Pv.bind (pick_pv h hp hp') (fun r ⟨⟨h1, _, h2⟩, h3⟩ => ?_)
 have h2 := h2 (by omega)
 refine Pv.pos h1 (Pv.pos h2 (Pv.now ⟨?_, h3⟩))
 have e : Go.Proofs.YtljdcinpjnijcaaW.PrintWords.rd l r.1 = nth l r.1.toNat := rfl
 dsimp only
 rw [e]
 exact getD_mem (by omega)
theorem u8_range {x : Int} (h : (Lit.int .u8 x).wf = true) : 0 ≤ x ∧ x ≤ 255 := by
 simp only [Lit.wf] at h
 have h2 : IntKind.u8.min ≤ x ∧ x ≤ IntKind.u8.max := by simpa using h
 have e1 : IntKind.u8.min = 0 := by decide
 have e2 : IntKind.u8.max = 255 := by decide
 omega
theorem open_pv {l : List Int} (hl : ∀ x ∈ l, (Lit.int .u8 x).wf = true) : ∃ b, spec_l30Open.f l = some (b, 0) ∧ Rdr b := by
 have key : ∀ m : List Int, m.length ≤ 2000 → (∀ x ∈ m, x ∈ l) → Rdr m := fun m h1 h2 => ⟨h1, fun i hi => u8_range (hl _ (h2 _ (getD_mem hi)))⟩
 unfold spec_l30Open.f
 by_cases c : (l.length : Int) > 2000
 ·rw [if_pos c, if_pos (by omega)]
  exact ⟨_, rfl, key _ (by simp; omega) (fun x hx => List.mem_of_mem_take hx)⟩
 ·rw [if_neg c]
  exact ⟨_, rfl, key _ (by omega) (fun x hx => hx)⟩
end Go.Proofs.Ytljdcinpjnijcaa.Pure
end
section
set_option linter.unusedSimpArgs false
set_option linter.unusedVariables false
namespace Go.Proofs.Ytljdcinpjnijcaa.Pure
open Go.RowKit Go.Proofs.Ytljdcinpjnijcaa.Pr Go.Proofs.YtljdcinpjnijcaaW.PrintWords Go.Proofs.YtljdcinpjnijcaaW.PrintLast Go.Proofs.YtljdcinpjnijcaaW.PrintMore
def NetSz (p : Int) (r : Int × List Arc × Int) : Prop := (0 ≤ r.1 ∧ r.1 ≤ 9) ∧ r.2.1.length ≤ 13 ∧ (p ≤ r.2.2 ∧ r.2.2 ≤ p + 100)
theorem net_l {b : List Int} (h : Rdr b) (n : Int) (hn : 1 ≤ n ∧ n ≤ 9) : ∀ (m : Nat) (p : Int) (l : List Arc), 0 ≤ p → p + 6 * m ≤ 100000 → m ≤ 13 → l.length ≤ 13 - m → Pv (fun k => spec_l30Net.l0 k (m : Int) b p n l) (fun r => r.1 = n ∧ r.2.1.length ≤ 13 ∧ (p ≤ r.2.2 ∧ r.2.2 ≤ p + 6 * m)) := by
 intro m
 induction m with
 | zero =>
  intro p l hp hp' hm hl
  refine Pv.go ?_ (fun k => by rw [spec_l30Net.l0])
  exact Pv.neg (by omega) (Pv.now ⟨rfl, by dsimp only; omega, by dsimp only; omega⟩)
 | succ m ih =>
  intro p l hp hp' hm hl
  have hw : wrap64 (((m + 1 : Nat) : Int) - 1) = (m : Int) := by rw [w64 (by omega) (by omega)]; omega
  refine Pv.go ?_ (fun k => by rw [spec_l30Net.l0])
  rw [hw]
  refine Pv.pos (by omega) (Pv.bind (pick_pv h hp (by omega)) (fun r1 ⟨a1, e1⟩ => Pv.bind (pick_pv h (p := r1.2) (by omega) (by omega)) (fun r2 ⟨a2, e2⟩ => Pv.bind (pick_pv h (p := r2.2) (by omega) (by omega)) (fun r3 ⟨a3, e3⟩ => Pv.bind (one_pv h (p := r3.2) (by omega) (by omega) (by simp)) (fun r4 ⟨a4, e4⟩ => Pv.bind (one_pv h (p := r4.2) (by omega) (by omega) (by simp)) (fun r5 ⟨a5, e5⟩ => Pv.bind (pick_pv h (p := r5.2) (by omega) (by omega)) (fun r6 ⟨a6, e6⟩ => ?_)))))))
  have step : ∀ x : Arc, Pv (fun k => spec_l30Net.l0 k (m : Int) b r6.2 n (l ++ [x])) (fun r => r.1 = n ∧ r.2.1.length ≤ 13 ∧ (p ≤ r.2.2 ∧ r.2.2 ≤ p + 6 * ((m + 1 : Nat) : Int))) := fun x => (ih r6.2 (l ++ [x]) (by omega) (by omega) (by omega) (by simp; omega)).mono (fun r hr => ⟨hr.1, hr.2.1, by omega, by omega⟩)
  refine Pv.ite (fun _ => Pv.neg (by omega) (Pv.pos (by omega) (step _))) (fun _ => Pv.pos (by omega) (step _))
theorem net_pv {b : List Int} (h : Rdr b) {p : Int} (hp : 0 ≤ p) (hp' : p ≤ 10000) : Pv (fun k => spec_l30Net.f k b p) (fun r => (2 ≤ r.1 ∧ r.1 ≤ 6) ∧ r.2.1.length ≤ 13 ∧ (p ≤ r.2.2 ∧ r.2.2 ≤ p + 90)) := by
 unfold spec_l30Net.f
 refine Pv.bind (pick_pv h hp (by omega)) (fun r1 ⟨a1, e1⟩ => Pv.bind (pick_pv h (p := r1.2) (by omega) (by omega)) (fun r2 ⟨a2, e2⟩ => ?_))
 have b1 := a1.2.2 (by omega)
 have b2 := a2.2.2 (by omega)
 have hw : wrap64 (2 + r1.1) = 2 + r1.1 := w64 (by omega) (by omega)
 rw [hw]
 have := net_l h (2 + r1.1) (by omega) r2.1.toNat r2.2 [] (by omega) (by omega) (by omega) (by simp)
 rw [Int.toNat_of_nonneg a2.1] at this
 exact this.mono (fun r hr => ⟨⟨by omega, by omega⟩, hr.2.1, by omega, by omega⟩)
theorem anyNet_pv {b : List Int} (h : Rdr b) {p : Int} (hp : 0 ≤ p) (hp' : p ≤ 10000) : Pv (fun k => spec_l30AnyNet.f k b p) (NetSz p) := by
 unfold spec_l30AnyNet.f
 refine Pv.bind (net_pv h hp hp') (fun r0 ⟨a0, l0, e0⟩ => ?_)
 refine Pv.ite (fun c => ?_) (fun c => Pv.now ⟨by dsimp only; omega, l0, by dsimp only; omega⟩)
 refine Pv.bind (pick_pv h (p := r0.2.2) (by omega) (by omega)) (fun r1 ⟨a1, e1⟩ => Pv.bind (pick_pv h (p := r1.2) (by omega) (by omega)) (fun r2 ⟨a2, e2⟩ => ?_))
 have b1 := a1.2.2 (by omega)
 refine Pv.ite (fun c1 => Pv.pos a1.1 (Pv.pos b1 (Pv.bind (one_pv h (p := r2.2) (by omega) (by omega) (by simp)) (fun r3 ⟨a3, e3⟩ => Pv.now ⟨by dsimp only; omega, by simpa using l0, by dsimp only; omega⟩)))) (fun c1 => ?_)
 refine Pv.ite (fun c2 => Pv.bind (one_pv h (p := r2.2) (by omega) (by omega) (by simp)) (fun r3 ⟨a3, e3⟩ => Pv.pos a1.1 (Pv.pos b1 (Pv.now ⟨by dsimp only; omega, by simpa using l0, by dsimp only; omega⟩)))) (fun c2 => ?_)
 refine Pv.ite (fun c3 => Pv.bind (one_pv h (p := r2.2) (by omega) (by omega) (by simp)) (fun r3 ⟨a3, e3⟩ => Pv.now ⟨?_, l0, by dsimp only; omega⟩)) (fun c3 => Pv.now ⟨by dsimp only; omega, l0, by dsimp only; omega⟩)
 simp only [List.mem_cons, List.not_mem_nil, or_false] at a3
 dsimp only
 omega
end Go.Proofs.Ytljdcinpjnijcaa.Pure
end
section
set_option linter.unusedSimpArgs false
set_option linter.unusedVariables false
set_option linter.unusedSectionVars false
namespace Go.Proofs.Ytljdcinpjnijcaa.Pure
open Go.RowKit Go.Proofs.Ytljdcinpjnijcaa.Pr Go.Proofs.YtljdcinpjnijcaaW.PrintWords Go.Proofs.YtljdcinpjnijcaaW.PrintLast Go.Proofs.YtljdcinpjnijcaaW.PrintMore
open Go.Proofs.Ytljdcinpjnijcaa.Sp (G Wk Opt)
theorem node_pv {b : List Int} (h : Rdr b) {p : Int} (hp : 0 ≤ p) (hp' : p ≤ 20000) (n : Int) (l : List Arc) : Pv (fun k => spec_l30Node.f k b p n l) (fun r => p ≤ r.2 ∧ r.2 ≤ p + 2) := by
 unfold spec_l30Node.f
 refine Pv.bind (pick_pv h hp (by omega)) (fun r1 ⟨a1, e1⟩ => Pv.ite (fun _ => ?_) (fun _ => ?_))
 ·exact Pv.bind (one_pv h (p := r1.2) (by omega) (by omega) (by simp)) (fun r2 ⟨a2, e2⟩ => Pv.now (by dsimp only; omega))
 ·exact Pv.bind (pick_pv h (p := r1.2) (by omega) (by omega)) (fun r2 ⟨a2, e2⟩ => Pv.now (by dsimp only; omega))
def sumF (x y : Option Int) : Int := match x, y with
 | some a, some b => a + b
 | _, _ => 99999
def overV (n : Int) (l : List Arc) (a b o : Int) : Int := if (netOkB n l && (okN n a && (okN n b && okN n o))) = true then sumF (dst n.toNat l o.toNat a.toNat) (dst n.toNat l b.toNat o.toNat) else -1
section
variable {N : Nat} {l : List Arc} (hg : NetGood N l)
include hg
theorem overV_in {a b o : Nat} (ha : a < N) (hb : b < N) (ho : o < N) : overV (N : Int) l (a : Int) (b : Int) (o : Int) = sumF (dst N l o a) (dst N l b o) := by
 unfold overV
 rw [if_pos]
 ·rfl
 ·rw [(netOkB_iff _ _).2 hg]
  simp [okN]
  omega
theorem over_fin {a b o : Nat} (ha : a < N) (hb : b < N) (ho : o < N) : (if far (dst N l o a) = 99999 then some (99999 : Int) else if far (dst N l b o) = 99999 then some 99999 else some (wrap64 (far (dst N l o a) + far (dst N l b o)))) = some (sumF (dst N l o a) (dst N l b o)) := by
 cases e1 : dst N l o a with
 | none => rfl
 | some x =>
  have h1 := dst_bd hg ho ha e1
  rw [if_neg (show ¬ far (some x) = 99999 by show ¬ x = 99999; omega)]
  cases e2 : dst N l b o with
  | none => rfl
  | some y =>
   have h2 := dst_bd hg hb ho e2
   rw [if_neg (show ¬ far (some y) = 99999 by show ¬ y = 99999; omega)]
   show some (wrap64 (x + y)) = some (x + y)
   rw [w64 (by omega) (by omega)]
theorem over_finS {a b o : Nat} (ha : a < N) (hb : b < N) (ho : o < N) : (if far (dst N l o a) ≥ 99999 then some (99999 : Int) else if far (dst N l b o) ≥ 99999 then some 99999 else some (wrap64 (far (dst N l o a) + far (dst N l b o)))) = some (sumF (dst N l o a) (dst N l b o)) := by
 cases e1 : dst N l o a with
 | none => rfl
 | some x =>
  have h1 := dst_bd hg ho ha e1
  rw [if_neg (show ¬ far (some x) ≥ 99999 by show ¬ x ≥ 99999; omega)]
  cases e2 : dst N l b o with
  | none => rfl
  | some y =>
   have h2 := dst_bd hg hb ho e2
   rw [if_neg (show ¬ far (some y) ≥ 99999 by show ¬ y ≥ 99999; omega)]
   show some (wrap64 (x + y)) = some (x + y)
   rw [w64 (by omega) (by omega)]
end
theorem okN_iff {n v : Int} : okN n v = true ↔ 0 ≤ v ∧ v < n := by
 simp only [okN, Bool.and_eq_true, decide_eq_true_eq]
 omega
theorem implOver_ev (n : Int) (l : List Arc) (a b o : Int) : Ev (fun k => impl_BothOver.f k n l a b o) (overV n l a b o) := by
 unfold impl_BothOver.f
 refine Ev.bind0 (nodesIn_eq n l _) ?_
 have e : (netOkB n l && [a, b, o].all (okN n)) = (netOkB n l && (okN n a && (okN n b && okN n o))) := by simp
 rw [e]
 cases hc : (netOkB n l && (okN n a && (okN n b && okN n o))) with
 | false =>
  exact Ev.neg (by simp) (Ev.is (by unfold overV; rw [hc]; rfl))
 | true =>
  have hc' := hc
  rw [Bool.and_eq_true, Bool.and_eq_true, Bool.and_eq_true] at hc'
  obtain ⟨h0, h1, h2, h3⟩ := hc'
  have hg := (netOkB_iff n l).1 h0
  have hn := hg.n1
  have h1 := okN_iff.1 h1
  have h2 := okN_iff.1 h2
  have h3 := okN_iff.1 h3
  obtain ⟨N, rfl⟩ := Int.eq_ofNat_of_zero_le (show 0 ≤ n by omega)
  obtain ⟨a, rfl⟩ := Int.eq_ofNat_of_zero_le h1.1
  obtain ⟨b, rfl⟩ := Int.eq_ofNat_of_zero_le h2.1
  obtain ⟨o, rfl⟩ := Int.eq_ofNat_of_zero_le h3.1
  have ha : a < N := by omega
  have hb : b < N := by omega
  have ho : o < N := by omega
  have ef := over_fin hg ha hb ho
  refine Ev.pos rfl (Ev.bind (from_ev hg ha) ?_)
  rw [lst_len]
  refine Ev.pos (by omega) (Ev.pos (by omega) (Ev.bind (from_ev hg ho) ?_))
  rw [lst_len, lst_rd _ ho, lst_rd _ hb, dst_flip hg ha ho, dst_flip hg ho hb]
  refine Ev.pos (by omega) (Ev.pos (by omega) ?_)
  rw [overV_in hg ha hb ho, ef]
  exact Ev.now _
theorem specOver_ev (n : Int) (l : List Arc) (a b o : Int) (hm : l.length ≤ maxLen) : Ev (fun k => spec_BothOver.f k n l a b o) (overV n l a b o) := by
 unfold spec_BothOver.f
 refine Ev.bind (l1Ok_ev n l hm) ?_
 have bad : (netOkB n l && (okN n a && (okN n b && okN n o))) = false → Ev (fun k => spec_BothOver.j0 k a b o true n l) (overV n l a b o) := by
  intro h
  refine Ev.go ?_ (fun k => by rw [spec_BothOver.j0])
  exact Ev.pos rfl (Ev.is (by unfold overV; rw [h]; rfl))
 cases h0 : netOkB n l with
 | false => exact Ev.neg (by simp) (bad (by rw [h0]; rfl))
 | true =>
  have hg := (netOkB_iff n l).1 h0
  have hn := hg.n1
  have hn8 := hg.n8
  have hw : wrap64 (n - 1) = n - 1 := w64 (by omega) (by omega)
  have hi : ∀ v, inB v 0 (n - 1) = okN n v := fun v => rfl
  rw [hw]
  clear hw
  refine Ev.pos rfl (Ev.bind0 (in1 a 0 (n - 1)) ?_)
  rw [hi]
  cases h1 : okN n a with
  | false => exact Ev.neg (by simp) (bad (by rw [h1]; simp))
  | true =>
   refine Ev.pos rfl (Ev.bind0 (in1 b 0 (n - 1)) ?_)
   rw [hi]
   cases h2 : okN n b with
   | false => exact Ev.neg (by simp) (bad (by rw [h2]; simp))
   | true =>
    refine Ev.pos rfl (Ev.bind0 (in1 o 0 (n - 1)) ?_)
    rw [hi]
    cases h3 : okN n o with
    | false => exact bad (by rw [h3]; simp)
    | true =>
     have h1 := okN_iff.1 h1
     have h2 := okN_iff.1 h2
     have h3 := okN_iff.1 h3
     obtain ⟨N, rfl⟩ := Int.eq_ofNat_of_zero_le (show 0 ≤ n by omega)
     obtain ⟨a, rfl⟩ := Int.eq_ofNat_of_zero_le h1.1
     obtain ⟨b, rfl⟩ := Int.eq_ofNat_of_zero_le h2.1
     obtain ⟨o, rfl⟩ := Int.eq_ofNat_of_zero_le h3.1
     have ha : a < N := by omega
     have hb : b < N := by omega
     have ho : o < N := by omega
     have ef := over_finS hg ha hb ho
     refine Ev.go ?_ (fun k => by rw [spec_BothOver.j0])
     refine Ev.neg (by simp) (Ev.bind (l3All_ev hg ha) ?_)
     rw [lst_len]
     refine Ev.pos (by omega) (Ev.pos (by omega) (Ev.bind (l3All_ev hg ho) ?_))
     rw [lst_len, lst_rd _ ho, lst_rd _ hb, dst_flip hg ha ho, dst_flip hg ho hb]
     refine Ev.pos (by omega) (Ev.pos (by omega) ?_)
     rw [overV_in hg ha hb ho, ef]
     exact Ev.now _
theorem sumF_ge {N : Nat} {l : List Arc} (hg : NetGood N l) {a b o : Nat} (ha : a < N) (hb : b < N) (ho : o < N) : far (dst N l b a) ≤ sumF (dst N l o a) (dst N l b o) := by
 have hbd : far (dst N l b a) ≤ 99999 := by
  cases e : dst N l b a with
  | none => exact Int.le_refl _
  | some x => have := dst_bd hg hb ha e; show x ≤ 99999; omega
 cases e1 : dst N l o a with
 | none => exact hbd
 | some x =>
  cases e2 : dst N l b o with
  | none => exact hbd
  | some y =>
   obtain ⟨z, e3, h3⟩ := dst_tri hg ha ho hb e1 e2
   rw [e3]
   exact h3
theorem chain_over {N : Nat} {l : List Arc} (hg : NetGood N l) {a b : Nat} (ha : a < N) (hb : b < N) {d : Int} (hd : dst N l b a = some d) : ∀ (w : List Int) (u : Int) (c : Int), (0 ≤ u ∧ u < N) → Chain l u w (b : Int) → (∃ k, Wk (gr N l) a u.toNat k c) → c + sumW l w = d → ∀ j, j < w.length → overV (N : Int) l (a : Int) (b : Int) (arc l (nth w j).toNat).f1 = d
 | [], _, _, _, _, _, _, j, hj => by simp at hj
 | k :: w, u, c, hu, hc, ⟨m, hw⟩, he, j, hj => by
  have hk := hc.1
  have hok := hg.ok k.toNat (by omega)
  have e1 : sumW l (k :: w) = (arc l k.toNat).f2 + sumW l w := by simp [sumW]
  have w1 := Wk.one (g := gr N l) (i := k.toNat) (by show k.toNat < l.length; omega) rfl
  have ef : (gr N l).fr k.toNat = u.toNat := by show (arc l k.toNat).f0.toNat = _; rw [hk.2.2]
  have et : (gr N l).tw k.toNat = (arc l k.toNat).f1.toNat := rfl
  have ew : (gr N l).w k.toNat = (arc l k.toNat).f2 := rfl
  rw [ef, et, ew] at w1
  have w2 := hw.trans w1
  cases j with
  | zero =>
   have e0 : nth (k :: w) 0 = k := rfl
   rw [e0]
   obtain ⟨o, ho⟩ := Int.eq_ofNat_of_zero_le hok.2.1.1
   have hoN : o < N := by omega
   have w3 := hc.2.walk hg w _ _
   rw [ho, Int.toNat_natCast] at w2 w3
   rw [Int.toNat_natCast] at w3
   rw [ho, overV_in hg ha hb hoN]
   obtain ⟨x, hx, hx2⟩ := (dst_opt hg hoN a ha).2 _ _ w2
   obtain ⟨y, hy, hy2⟩ := (dst_opt hg hb o hoN).2 _ _ w3
   have h5 := sumF_ge hg ha hb hoN
   rw [hx, hy, hd] at h5
   rw [hx, hy]
   have h5 : d ≤ x + y := h5
   show x + y = d
   omega
  | succ j =>
   have e0 : nth (k :: w) (j + 1) = nth w j := by simp [nth]
   rw [e0]
   exact chain_over hg ha hb hd w _ _ ⟨hok.2.1.1, hok.2.1.2⟩ hc.2 ⟨_, w2⟩ (by omega) j (by simpa using hj)
section
variable {N : Nat} {l : List Arc} (hg : NetGood N l) {a b : Nat} (ha : a < N) (hb : b < N)
include hg ha hb
theorem over_self1 : overV (N : Int) l (a : Int) (b : Int) (a : Int) = far (dst N l b a) := by
 rw [overV_in hg ha hb ha, dst_t hg ha]
 cases dst N l b a with
 | none => rfl
 | some x => show 0 + x = x; omega
theorem over_self2 : overV (N : Int) l (a : Int) (b : Int) (b : Int) = far (dst N l b a) := by
 rw [overV_in hg ha hb hb, dst_t hg hb]
 cases dst N l b a with
 | none => rfl
 | some x => show x + 0 = x; omega
theorem over_end {c : Int} (hc : far (dst N l b a) ≤ c) (w : List Int) (x : Bool) (i : Int) : Ev (fun q => laws_FnBothOver.j2 q (a : Int) (b : Int) c (far (dst N l b a)) w x i false N l) true := by
 refine Ev.go ?_ (fun k => by rw [laws_FnBothOver.j2])
 refine Ev.neg (by simp) (Ev.pos (by omega) (Ev.bind (implOver_ev _ _ _ _ _) ?_))
 rw [over_self1 hg ha hb]
 refine Ev.pos rfl (Ev.bind (implOver_ev _ _ _ _ _) (Ev.is ?_))
 rw [over_self2 hg ha hb]
 simp
theorem over_loop {c : Int} (hc : far (dst N l b a) ≤ c) (w : List Int) (hw : w.length ≤ 100) (hr : ∀ k ∈ w, 0 ≤ k ∧ k < l.length) (ho : ∀ j, j < w.length → overV (N : Int) l (a : Int) (b : Int) (arc l (nth w j).toNat).f1 = far (dst N l b a)) : ∀ (m i : Nat), w.length - i = m → i ≤ w.length → Ev (fun q => laws_FnBothOver.l0 q (a : Int) (b : Int) c (far (dst N l b a)) w true (i : Int) N l) true := by
 intro m
 induction m with
 | zero =>
  intro i hd hi
  refine Ev.go ?_ (fun k => by rw [laws_FnBothOver.l0])
  exact Ev.neg (by omega) (over_end hg ha hb hc w true i)
 | succ m ih =>
  intro i hd hi
  have hlt : i < w.length := by omega
  have hk := hr _ (getD_mem hlt)
  refine Ev.go ?_ (fun k => by rw [laws_FnBothOver.l0])
  refine Ev.pos (by omega) (Ev.go ?_ (fun k => by rw [laws_FnBothOver.j2]))
  have ea : rd_T34 l (nth w i) = arc l (nth w i).toNat := by rw [← rda]; congr 1; omega
  rw [rdg i, ea, up1 hlt (by simp only [maxLen]; omega)]
  refine Ev.pos rfl (Ev.pos (by omega) (Ev.pos (by omega) (Ev.pos (by omega) (Ev.pos (by omega) (Ev.bind (implOver_ev _ _ _ _ _) ?_)))))
  exact Ev.pos (ho i hlt) (ih (i + 1) (by omega) (by omega))
end
theorem FnBothOver : laws_FnBothOver.Asked := by
 intro c hc
 refine Pv.rounds ?_
 unfold laws_FnBothOver.f
 refine Pv.ite (fun _ => Pv.now rfl) (fun _ => ?_)
 unfold spec_DrawBothOver.f
 obtain ⟨bb, e, hb⟩ := open_pv hc.2
 refine Pv.bind (R := fun r => r.2.1.length ≤ 13) (Pv.bind0 e (Pv.bind (anyNet_pv hb (p := 0) (by omega) (by omega)) (fun r1 h1 => ?_))) (fun r h2 => ?_)
 ·have h3 := h1.2.2
  refine Pv.bind (node_pv hb (p := r1.2.2) (by omega) (by omega) _ _) (fun r2 e2 => Pv.bind (node_pv hb (p := r2.2) (by omega) (by omega) _ _) (fun r3 e3 => Pv.bind (node_pv hb (p := r3.2) (by omega) (by omega) _ _) (fun r4 e4 => Pv.now h1.2.1)))
 ·obtain ⟨n, l, a, b, o⟩ := r
  dsimp only at h2 ⊢
  have hm : l.length ≤ maxLen := by simp only [maxLen]; omega
  refine Pv.of (Ev.bind (implOver_ev n l a b o) (Ev.bind (specOver_ev n l a b o hm) (Ev.pos rfl (Ev.go (r := true) ?_ (fun k => by rw [laws_FnBothOver.j0]))))) rfl
  by_cases cn : overV n l a b o < 0
  ·exact Ev.pos (decide_eq_true cn) (Ev.bind (specOver_ev n l a b o hm) (Ev.is (by simp)))
  ·refine Ev.neg (by simpa using cn) ?_
   have hc : (netOkB n l && (okN n a && (okN n b && okN n o))) = true := by
    apply Classical.byContradiction
    intro hf
    apply cn
    unfold overV
    rw [if_neg hf]
    omega
   rw [Bool.and_eq_true, Bool.and_eq_true, Bool.and_eq_true] at hc
   obtain ⟨h0, h1, h2, h3⟩ := hc
   have hg := (netOkB_iff n l).1 h0
   have hn := hg.n1
   have h1 := okN_iff.1 h1
   have h2 := okN_iff.1 h2
   have h3 := okN_iff.1 h3
   obtain ⟨N, rfl⟩ := Int.eq_ofNat_of_zero_le (show 0 ≤ n by omega)
   obtain ⟨a, rfl⟩ := Int.eq_ofNat_of_zero_le h1.1
   obtain ⟨b, rfl⟩ := Int.eq_ofNat_of_zero_le h2.1
   obtain ⟨o, rfl⟩ := Int.eq_ofNat_of_zero_le h3.1
   have ha : a < N := by omega
   have hb : b < N := by omega
   have ho : o < N := by omega
   have hge : far (dst N l b a) ≤ overV (N : Int) l (a : Int) (b : Int) (o : Int) := by rw [overV_in hg ha hb ho]; exact sumF_ge hg ha hb ho
   refine Ev.bind (nearAll_ev hg ha) ?_
   rw [lst_len, lst_rd _ hb]
   refine Ev.pos (by omega) (Ev.pos (by omega) (Ev.bind (nearWalk_ev hg ha hb) ?_))
   unfold bestV
   cases e1 : dst N l b a with
   | none =>
    dsimp only
    refine Ev.go ?_ (fun k => by rw [laws_FnBothOver.l0])
    have := over_end hg ha hb hge [] false 0
    rw [e1] at this
    exact Ev.neg (by simp) this
   | some d =>
    obtain ⟨k, e2, hk⟩ := stp_some hg hb ha e1
    rw [e2]
    dsimp only
    rw [Int.toNat_natCast]
    obtain ⟨c1, c2, c3⟩ := bestW_ok hg hb k a d ha e1 e2
    have h8 := hg.n8
    have := over_loop hg ha hb hge (bestW N l b k a) (by omega) (c1.rng _ _ _) (fun j hj => by rw [e1]; exact chain_over hg ha hb e1 _ (a : Int) 0 (by omega) c1 ⟨0, by rw [Int.toNat_natCast]; exact .nil a⟩ (by omega) j hj) _ 0 rfl (Nat.zero_le _)
    rw [e1] at this
    exact this
end Go.Proofs.Ytljdcinpjnijcaa.Pure
end
section
namespace Go.Proofs.Ytljdcinpjnijcaa.fnBothOver
open Go.ChangeShapes Go.WideShapes Go.ChangeAt Go.RowKit Go.Proofs.YtljdcinpjnijcaaW.PrintWords Go.Proofs.Ytljdcinpjnijcaa.Pr
open Go.ChangeMaps (open_string shut_string)
set_option linter.unusedVariables false
set_option linter.unusedSimpArgs false
theorem own : ownKnob Try.prog.godebug = none := by kernel_rfl
theorem laidOut : laidOutB Try.prog = true := by kernel_rfl
theorem opens0 : Opens Try.prog (Kd.slice 5 (Kd.int .u8)) 22 (fun l => l.length ≤ maxLen ∧ ∀ x ∈ l, (fun n => (Lit.int .u8 n).wf = true) x) := (opens_slice (P := Try.prog) Try.underlying22 (by kernel_rfl) (opens_int (P := Try.prog) (k := .u8) Try.underlying5))
set_option maxRecDepth 100000 in
set_option maxHeartbeats 2000000 in
theorem lifted (os : Os) (started : os.Started) (H : Type) (enc : TypeId × Value → H) :
  ReturnsInHanded {} Try.checked os 3 .any (Rows.fnBothOverSpec.pre6 enc Try.prog Try.f3 Rows.fnBothOverRow.domain false) (Rows.fnBothOverSpec.post enc Try.prog Try.f3 false true false false) := by
 refine returnsInHanded_of_change_sized (C := Try.checked) own started (by kernel_rfl) Try.func3
  (ChangeSpec.witness6 (enc := enc) (C := Try.checked) false ⟨#[], #[(.slice none 0 0)], []⟩ 8 (by kernel_rfl) (by kernel_rfl) (by kernel_rfl) (by kernel_rfl)) ?_
 intro W base args ds gs before hval0 hW hcnd hsz0 _
 have hval : ∀ (j : Nat) t v, Try.f3.params[j]? = some t → args[j]? = some v → Value.okWide Try.prog W .any base t v := hval0
 have hW' := hW
 obtain ⟨p, q, hA0, hV, rfl, hfz, hnd⟩ := hW
 have hA : DataW.TrodAll enc Try.prog W 0 (fun _ => true) true Try.f3.params.toList args.toList ds p := hA0
 rw [Try.params3] at hA hval
 obtain ⟨v0, vs0, d0, ds0, p0, q0, hargs, rfl, rfl, h0, r0⟩ := trodAll_cons hA
 obtain ⟨rfl, rfl, rfl⟩ := trodAll_nil r0
 obtain rfl : args = #[v0] := by cases args; simp_all
 obtain ⟨rfl, rfl⟩ := trodVars_none hV
 have k0 := h0
 have lt0 : ∀ x ∈ p0, x.block < W.heap.size := by obtain ⟨m, hm⟩ := k0; exact DataW.trod_lt m _ _ _ hm
 obtain ⟨a0, len0, cap0, rfl⟩ := okWide_slice Try.underlying22 (hval 0 22 v0 rfl rfl)
 obtain ⟨fuel0, hf0⟩ := h0
 obtain ⟨l0, ⟨A0, c0, e0, hc0, hr0⟩, w0⟩ := opens0 hf0
 have e0' : (Value.slice a0 len0 cap0) = .slice A0 l0.length c0 := (List.cons.inj e0).1
 injection e0' with e0a e0b e0c
 subst e0a e0b e0c
 obtain ⟨k, hh⟩ := Pure.FnBothOver l0 w0
 refine (laws_FnBothOver.calls k _ _ l0 true W hr0 hc0 hh).mono fun e W' ⟨he, bel0⟩ => ?_
 have bel : Below W.heap.size W W' := bel0
 subst he
 exact ⟨_, rfl, _, _, _, [], _, [], hW', trodAll_mk1 (shut_bool Try.underlying4 _), (trodAll_cons_mk (Below.trod laidOut (by kernel_rfl) (of_decide_eq_true (by kernel_rfl)) k0 bel lt0) trodAll_mk0), rfl, bel.frame _, fun h => by cases h⟩
theorem over : Rows.fnBothOverRow.holds Try.pinned (OpenSpec.ofChange Rows.fnBothOverSpec) :=
 OpenClaim.holds_of_wide 3 Try.f3 rfl rfl rfl rfl rfl rfl rfl ⟨rfl, rfl, rfl, rfl, rfl⟩ rfl rfl rfl rfl rfl (by kernel_rfl) Try.func3 (by kernel_rfl)
  (of_decide_eq_true (by kernel_rfl)) (by unfold Func.isWrapper; first | (rw [if_pos (by decide +kernel)]; kernel_rfl) | (rw [if_neg (by decide +kernel)]; exact ⟨rfl, rfl⟩))
  (fun os started H enc _ => lifted os started H enc)
theorem proved : Rows.FnBothOverSaid := over
#print axioms proved
end Go.Proofs.Ytljdcinpjnijcaa.fnBothOver
namespace Go.Proofs.Ytljdcinpjnijcaa
theorem fnBothOver_holds : Rows.FnBothOverSaid := fnBothOver.proved
end Go.Proofs.Ytljdcinpjnijcaa
end
