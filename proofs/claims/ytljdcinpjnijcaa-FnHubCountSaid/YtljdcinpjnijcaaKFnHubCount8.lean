/- For the statement FnHubCount of this seat: it is proved here, with no further conditions (part 9 of its texts: words, walks of the functions, the plain law, the row). -/
import Derived.ChangeArms
import Derived.ChangeSlices
import Derived.Deep.Slices
import Derived.WideShapes
import Derived.DataReads
import Derived.Test.YtljdcinpjnijcaaRows
import Derived.WalkKit
import Derived.ProofKit
import Derived.OpenShut
import Derived.ShutString
import Derived.ChangeOld
import Derived.Below
import Derived.SizedLaws
import Derived.Test.YtljdcinpjnijcaaKFnHubCount7
section
namespace Go.Proofs.Ytljdcinpjnijcaa.Pr
open Go.RowKit Go.Proofs.YtljdcinpjnijcaaW.PrintWords Go.Proofs.YtljdcinpjnijcaaW.PrintLast Go.Proofs.YtljdcinpjnijcaaW.PrintMore
attribute [local go_sem] max2_int min2_int max_two min_two max_three min_three max_four min_four
set_option linter.unusedVariables false
set_option linter.unusedSimpArgs false
abbrev Y68 := true
abbrev N68 := false
mutual
def spec_HubCount.l0 : Nat → List Int → Int → Int → List (S34) → Option (List Int)
 | 0, _, _, _, _ => none
 | k + 1, x3, x4, p5, p3 => if x4 < p5 then (spec_HubCount.l1 k x3 x4 0 p5 p3) else (some x3)
def spec_HubCount.l1 : Nat → List Int → Int → Int → Int → List (S34) → Option (List Int)
 | 0, _, _, _, _, _ => none
 | k + 1, x3, x4, x5, p5, p3 => if x5 < p5 then ((spec_l3Walk.f k p5 p3 x4 x5).bind fun bt581 => (spec_HubCount.l2 k x3 x4 x5 bt581.1 bt581.2 0 p5 p3)) else (spec_HubCount.l0 k x3 (wrap64 (x4 + 1)) p5 p3)
def spec_HubCount.l2 : Nat → List Int → Int → Int → List Int → Bool → Int → Int → List (S34) → Option (List Int)
 | 0, _, _, _, _, _, _, _, _ => none
 | k + 1, x3, x4, x5, x6, x7, x8, p5, p3 => if (wrap64 (x8 + 1)) < (x6.length : Int) then (if x7 = true then (if 0 ≤ x8 then (if x8 < (x6.length : Int) then (if 0 ≤ (rd x6 x8) then (if (rd x6 x8) < (p3.length : Int) then (if 0 ≤ ((rd_T34 p3 (rd x6 x8)).f1) then (if ((rd_T34 p3 (rd x6 x8)).f1) < (x3.length : Int) then (spec_HubCount.l2 k (x3.set (((rd_T34 p3 (rd x6 x8)).f1) : Int).toNat (wrap64 ((rd x3 ((rd_T34 p3 (rd x6 x8)).f1)) + 1))) x4 x5 x6 x7 (wrap64 (x8 + 1)) p5 p3) else (none)) else (none)) else (none)) else (none)) else (none)) else (none)) else (spec_HubCount.l1 k x3 x4 (wrap64 (x5 + 1)) p5 p3)) else (spec_HubCount.l1 k x3 x4 (wrap64 (x5 + 1)) p5 p3)
end
def spec_HubCount.f (k : Nat) (a0_0 : Int) (l0_1 : List (S34)) : Option (List Int) := (spec_l1Ok.f k a0_0 l0_1).bind fun t577 => (if t577 = true then (if 0 ≤ a0_0 then (if (a0_0 : Int).toNat ≤ 35184372088832 then (spec_HubCount.l0 k (List.replicate (a0_0 : Int).toNat 0) 0 a0_0 l0_1) else (none)) else (none)) else (some ([] : List Int)))
def spec_HubCount.T14 : Bool × List (List Nat × List Nat) := (true, [([], []), ([], []), ([1], [1]), ([], []), ([], []), ([3, 4], [3, 4]), ([5], [5]), ([2, 6], [2, 6]), ([7], [7]), ([8], [8]), ([], []), ([], []), ([11], [11]), ([], []), ([], []), ([13, 14], [13, 14]), ([15], [15]), ([12, 16], [12, 16]), ([17], [17]), ([18], [18]), ([10, 19], [10, 19]), ([20], [20]), ([21], [21]), ([0, 9, 0, 1, 2, 3, 4, 5, 6, 7, 8, 9, 10, 11, 12, 13, 14, 15, 16, 17, 18, 19, 20, 21, 22], [0, 9]), ([23, 22, 0, 1, 2, 3, 4, 5, 6, 7, 8, 9, 10, 11, 12, 13, 14, 15, 16, 17, 18, 19, 20, 21, 22], [22, 23])])
def spec_HubCount.B14 : List Nat := [0, 0, 2, 0, 0, 24, 56, 126, 254, 510, 0, 0, 2048, 0, 0, 24576, 57344, 129024, 260096, 522240, 1047552, 2096128, 4193280, 8388607, 16777215]
theorem spec_HubCount.tab14 : rtab .any (opsOf Try.f28 14) = spec_HubCount.T14 := by kernel_rfl
theorem spec_HubCount.bits14 : waitsOk spec_HubCount.T14.2 spec_HubCount.B14 = true := by kernel_rfl
set_option maxHeartbeats 8000000 in
set_option maxRecDepth 100000 in
theorem spec_HubCount.calls (k : Nat) (a0_0 : Int) (A0_1 : Option Addr) (c0_1 : Nat) (l0_1 : List (S34)) (r : List Int) (w : World) (hr0_1 : Kd.C k34 w A0_1 l0_1.length l0_1) (hc0_1 : l0_1.length ≤ c0_1) (h : spec_HubCount.f k a0_0 l0_1 = some r) :
  Calls Try.prog 28 #[.agg #[.int .i64 a0_0, .slice A0_1 l0_1.length c0_1]] w fun e w' => ∃ v0_ : Value, e = .returned (v0_) ∧ Kd.R (Kd.int .i64) 3 w' w.heap.size (fun _ => True) v0_ r ∧ Below w.heap.size w w' := by
 have hu25 := Try.underlying25
 have q8 := Aside0.mk hr0_1
 have u3 := Aside0.mk hc0_1
 clear hr0_1 hc0_1
 have HB := Aside0.mk (Below.refl w.heap.size w)
 have H : ((spec_l1Ok.f k a0_0 l0_1).bind fun t577 => (if t577 = true then (if 0 ≤ a0_0 then (if (a0_0 : Int).toNat ≤ 35184372088832 then (spec_HubCount.l0 k (List.replicate (a0_0 : Int).toNat 0) 0 a0_0 l0_1) else (none)) else (none)) else (some ([] : List Int)))) = some r := h
 clear h
 replace H := Option.bind_eq_some_iff.mp H
 obtain ⟨t577, A20, H⟩ := H
 replace H : (if t577 = true then (if 0 ≤ a0_0 then (if (a0_0 : Int).toNat ≤ 35184372088832 then (spec_HubCount.l0 k (List.replicate (a0_0 : Int).toNat 0) 0 a0_0 l0_1) else (none)) else (none)) else (some ([] : List Int))) = some r := H
 have A2 := Aside0.mk A20
 clear A20
 by_cases c3 : t577 = true
 case neg =>
  replace c3 := Bool.eq_false_iff.mpr c3
  subst c3
  have H1 : (some ([] : List Int)) = some r := by rw [if_neg (show ¬ (false = true) by decide)] at H; exact H
  clear H
  have H := H1
  clear H1
  obtain rfl := Option.some.inj H
  go_enter Try.func28, Try.ntmps28
  go_wp2_with (first | ((with_reducible refine gate_dst (N := 1) rfl ?_); refine box_event ?hg (N := 1) ?hd (cs := #[.int .i64 a0_0, .slice A0_1 l0_1.length c0_1]) (t := 25) ?hr ?_; (case hd => rfl); (case hg => rfl); (case hr => first | (go_simp; done) | (go_simp; rfl)); intro p1 hg w35 hbox hb; have n0_ := Aside0.mk (below_step HB.out hb); have n1_ := Aside0.mk (hbox); have n2_ := Aside0.mk ((by rw [hg]; exact (below_size HB.out) : w.heap.size ≤ p1)); have n3_ := Aside0.mk ((by rw [hg]; exact (below_size HB.out) : w.heap.size ≤ p1)); clear HB; have HB := n0_; have p0 := n1_; have GW576 := n2_; have p6 := n3_; clear n0_ n1_ n2_ n3_; clear hb hbox hg; have hcz36_0 : w35.cell? ⟨p1, 0, none⟩ = some (.int .i64 a0_0) := (blk_cell p0.out 0).trans rfl; have hcz36_1 : w35.cell? ⟨p1, 1, none⟩ = some (.slice A0_1 l0_1.length c0_1) := (blk_cell p0.out 1).trans rfl; have hfz36_0 := blk_frozen p0.out 0; have hfz36_1 := blk_frozen p0.out 1) | ((with_reducible refine gate_callee (f := 53) rfl ?_); refine goesL_ (some 10) rfl rfl Try.func53 (by kernel_rfl) rfl #[.agg #[.int .i64 a0_0, .slice A0_1 l0_1.length c0_1]] rfl (by (try simp only [List.map_toArray, List.map_cons, List.map_nil]); first | done | rfl | (simp only [List.length_drop, List.length_take]; rfl)) ?_; (with_reducible refine (spec_l1Ok.calls k a0_0 _ _ l0_1 false _ ?side1 ?side2 A2.out).mono ?_); (case side1 => repeat (first | exact (Kd.C_below q8.out HB.out) | (with_reducible refine Kd.C_alloc ?_ _) | (with_reducible refine Kd.C_drewN ?_ _) | (with_reducible refine Kd.C_drew ?_))); (case side2 => exact u3.out); rintro e w37 ⟨rfl, hb⟩; refine ⟨_, rfl, ?_⟩; have n0_ := Aside0.mk (blk_below (g := p1) (o := .cells #[.int .i64 a0_0, .slice A0_1 l0_1.length c0_1] 25 (0, 0)) p0.out hb); have n1_ := Aside0.mk (below_step HB.out hb); clear p0; clear HB; have p0 := n0_; have HB := n1_; clear n0_ n1_; (try clear hb); (try clear hb2); (try clear hk); (try clear hi)))
  go_ret
  exact ⟨_, by first | rfl | (simp [errW_none, errW_some] <;> rfl) | (simp [*, errW_none, errW_some] <;> rfl), by first | exact Kd.R_nil _ _ _ _ _ | exact Kd.N_nil _ _ _ _ _ | exact Kd.V_nil _ _ _ _ _ | exact Kd.Q_nil _ _ _ _ _ | exact Kd.S_nil _ _ _ _ _, by repeat (first | (with_reducible first | exact HB.out | apply below_alloc | apply pw_below_drewN | apply below_drew1 | refine below_set ?_ p6.out) | exact HB.out)⟩
 subst c3
 have H1 : (if 0 ≤ a0_0 then (if (a0_0 : Int).toNat ≤ 35184372088832 then (spec_HubCount.l0 k (List.replicate (a0_0 : Int).toNat 0) 0 a0_0 l0_1) else (none)) else (none)) = some r := by rw [if_pos rfl] at H; exact H
 clear H
 have H := H1
 clear H1
 by_cases c4 : 0 ≤ a0_0
 case neg =>
  rw [if_neg c4] at H
  exact absurd H (by simp)
 rw [if_pos c4] at H
 have c4b0 := eq_true c4
 have c4b1 : decide (0 ≤ a0_0) = true := decide_eq_true c4
 clear c4
 by_cases c5 : (a0_0 : Int).toNat ≤ 35184372088832
 case neg =>
  rw [if_neg c5] at H
  exact absurd H (by simp)
 rw [if_pos c5] at H
 have c5b0 := eq_true c5
 have c5b1 : decide ((a0_0 : Int).toNat ≤ 35184372088832) = true := decide_eq_true c5
 clear c5
 obtain ⟨y578, hy578⟩ : ∃ y_ : List Int, y_ = (List.replicate (a0_0 : Int).toNat 0) := ⟨_, rfl⟩
 replace H : (spec_HubCount.l0 k y578 0 a0_0 l0_1) = some r := by first | (rw [hy578]; with_reducible exact H) | (have H2_ := (Option.bind_some _ _).symm.trans H; rw [hy578]; with_reducible exact H2_) | (have H2_ := (Option.bind_some _ _).symm.trans H; with_reducible exact H2_) | with_reducible exact H | (rw [hy578]; exact H) | exact H
 have Ny578 := Aside0.mk hy578
 clear hy578
 have H' := Aside0.mk H
 clear H
 go_enter Try.func28, Try.ntmps28
 go_wp2_with (first | ((with_reducible refine gate_dst (N := 1) rfl ?_); refine box_event ?hg (N := 1) ?hd (cs := #[.int .i64 a0_0, .slice A0_1 l0_1.length c0_1]) (t := 25) ?hr ?_; (case hd => rfl); (case hg => rfl); (case hr => first | (go_simp; done) | (go_simp; rfl)); intro p1 hg w6 hbox hb; have n0_ := Aside0.mk (below_step HB.out hb); have n1_ := Aside0.mk (hbox); have n2_ := Aside0.mk ((by rw [hg]; exact (below_size HB.out) : w.heap.size ≤ p1)); have n3_ := Aside0.mk ((by rw [hg]; exact (below_size HB.out) : w.heap.size ≤ p1)); clear HB; have HB := n0_; have p0 := n1_; have GW576 := n2_; have p6 := n3_; clear n0_ n1_ n2_ n3_; clear hb hbox hg; have q9 : w6.cell? ⟨p1, 0, none⟩ = some (.int .i64 a0_0) := (blk_cell p0.out 0).trans rfl; have r0 : w6.cell? ⟨p1, 1, none⟩ = some (.slice A0_1 l0_1.length c0_1) := (blk_cell p0.out 1).trans rfl; have r1 := blk_frozen p0.out 0; have r2 := blk_frozen p0.out 1) | ((with_reducible refine gate_callee (f := 53) rfl ?_); refine goesL_ (some 10) rfl rfl Try.func53 (by kernel_rfl) rfl #[.agg #[.int .i64 a0_0, .slice A0_1 l0_1.length c0_1]] rfl (by (try simp only [List.map_toArray, List.map_cons, List.map_nil]); first | done | rfl | (simp only [List.length_drop, List.length_take]; rfl)) ?_; (with_reducible refine (spec_l1Ok.calls k a0_0 _ _ l0_1 true _ ?side1 ?side2 A2.out).mono ?_); (case side1 => repeat (first | exact (Kd.C_below q8.out HB.out) | (with_reducible refine Kd.C_alloc ?_ _) | (with_reducible refine Kd.C_drewN ?_ _) | (with_reducible refine Kd.C_drew ?_))); (case side2 => exact u3.out); rintro e w8 ⟨rfl, hb⟩; refine ⟨_, rfl, ?_⟩; have n0_ := Aside0.mk (blk_below (g := p1) (o := .cells #[.int .i64 a0_0, .slice A0_1 l0_1.length c0_1] 25 (0, 0)) p0.out hb); have n1_ := Aside0.mk (below_step HB.out hb); clear p0; clear HB; have p0 := n0_; have HB := n1_; clear n0_ n1_; (try clear hb); (try clear hb2); (try clear hk); (try clear hi); have r3 : w8.cell? ⟨p1, 0, none⟩ = some (.int .i64 a0_0) := (blk_cell p0.out 0).trans rfl; have r4 : w8.cell? ⟨p1, 1, none⟩ = some (.slice A0_1 l0_1.length c0_1) := (blk_cell p0.out 1).trans rfl; have r5 := blk_frozen p0.out 0; have r6 := blk_frozen p0.out 1) | ((with_reducible refine gate_dst (N := 14) rfl ?_); refine Kd.R_make (Kd.int .i64) _ 3 rfl (N := 14) rfl 29 _ _ rfl a0_0 (by first | rfl | (go_simp; done) | (go_simp; rfl)) (by first | rfl | (go_simp; done) | (go_simp; rfl)) Try.underlying29 (.int .i64 0) 8 info3 rfl (by decide) (by omega) 0 (ok := fun _ => True) (okp := fun _ => True) rfl (fun _ hk => hk) trivial (of_decide_eq_true (by first | (with_reducible assumption) | assumption)) (Nat.le_trans (Nat.mul_le_mul_right _ (of_decide_eq_true (by first | (with_reducible assumption) | assumption) : a0_0.toNat ≤ 35184372088832)) (by omega)) (Below.refl _ _) (Nat.le_refl _) ?_; intro v579 w10 ho11 hb hg_ hnew_; clear hg_ hnew_; (first | rw [← Ny578.out] at ho11 | (simp only [Int.reduceToNat] at ho11; rw [← Ny578.out] at ho11)); have n0_ := Aside0.mk (Kd.R_lower ho11 (below_size HB.out)); have n1_ := Aside0.mk (blk_below (g := p1) (o := .cells #[.int .i64 a0_0, .slice A0_1 l0_1.length c0_1] 25 (0, 0)) p0.out hb); have n2_ := Aside0.mk (below_step HB.out hb); clear p0; clear HB; have HO580 := n0_; have p0 := n1_; have HB := n2_; clear n0_ n1_ n2_; clear hb ho11))
 go_loopg [4] k (fun kq v4 w' => ∃ (x3_1 : List Int) (x4_1 : Int), v4 = .int .i64 x4_1 ∧ Aside0 (spec_HubCount.l0 kq x3_1 x4_1 a0_0 l0_1 = some r) ∧ Aside0 (kq ≤ k) ∧ Aside0 (Kd.R (Kd.int .i64) 3 w' w.heap.size (fun _ => True) v579 x3_1) ∧ Aside0 (w'.heap[p1]? = some (.cells #[.int .i64 a0_0, (.slice A0_1 l0_1.length c0_1)] 25 (0, 0))) ∧ Aside0 (Below w.heap.size w w'))
 case atStart => exact ⟨(y578), (0), (by first | rfl | (simp; done) | (simp [*]; done)), H', ⟨Nat.le_refl _⟩, ⟨by exact HO580.out⟩, ⟨by exact p0.out⟩, ⟨by repeat (first | (with_reducible first | exact HB.out | apply below_alloc | apply pw_below_drewN | apply below_drew1 | refine below_set ?_ p6.out) | exact HB.out)⟩⟩
 case round =>
  clear H'
  try clear c2
  try clear p2
  try clear c3
  try clear c4
  try clear c4b0
  try clear c4b1
  try clear c5
  try clear c5b0
  try clear c5b1
  try clear q9
  try clear r0
  try clear r3
  try clear r4
  try clear r1
  try clear r2
  try clear r5
  try clear r6
  obtain ⟨x3_1, x4_1, rfl, HA, HK1, HO_3, p0, HB⟩ := hrel
  cases gk with
  | zero => exact absurd HA.out (by simp [spec_HubCount.l0])
  | succ k1 =>
   have H := HA.out
   clear HA
   simp only [spec_HubCount.l0] at H
   by_cases c12 : x4_1 < a0_0
   case neg =>
    rw [if_neg c12] at H
    have c12b0 : decide (x4_1 < a0_0) = false := decide_eq_false c12
    clear c12
    obtain rfl := Option.some.inj H
    have hcz34_0 : wr.cell? ⟨p1, 0, none⟩ = some (.int .i64 a0_0) := (blk_cell p0.out 0).trans rfl
    have hcz34_1 : wr.cell? ⟨p1, 1, none⟩ = some (.slice A0_1 l0_1.length c0_1) := (blk_cell p0.out 1).trans rfl
    have hfz34_0 := blk_frozen p0.out 0
    have hfz34_1 := blk_frozen p0.out 1
    go_wp2
    go_ret
    exact ⟨_, by first | rfl | (simp [errW_none, errW_some] <;> rfl) | (simp [*, errW_none, errW_some] <;> rfl), by exact HO_3.out, by repeat (first | (with_reducible first | exact HB.out | apply below_alloc | apply pw_below_drewN | apply below_drew1 | refine below_set ?_ p6.out) | exact HB.out)⟩
   rw [if_pos c12] at H
   have c12b0 : decide (x4_1 < a0_0) = true := decide_eq_true c12
   clear c12
   have H' := Aside0.mk H
   clear H
   have r7 : wr.cell? ⟨p1, 0, none⟩ = some (.int .i64 a0_0) := (blk_cell p0.out 0).trans rfl
   have r8 : wr.cell? ⟨p1, 1, none⟩ = some (.slice A0_1 l0_1.length c0_1) := (blk_cell p0.out 1).trans rfl
   have r9 := blk_frozen p0.out 0
   have t0 := blk_frozen p0.out 1
   go_wp2
   go_loopg [5] k1 (fun kq v5 w' => ∃ (x3_2 : List Int) (x5_2 : Int), v5 = .int .i64 x5_2 ∧ Aside0 (spec_HubCount.l1 kq x3_2 x4_1 x5_2 a0_0 l0_1 = some r) ∧ Aside0 (kq ≤ k1) ∧ Aside0 (Kd.R (Kd.int .i64) 3 w' w.heap.size (fun _ => True) v579 x3_2) ∧ Aside0 (w'.heap[p1]? = some (.cells #[.int .i64 a0_0, (.slice A0_1 l0_1.length c0_1)] 25 (0, 0))) ∧ Aside0 (Below w.heap.size w w'))
   case atStart => exact ⟨(x3_1), (0), (by first | rfl | (simp; done) | (simp [*]; done)), H', ⟨Nat.le_refl _⟩, ⟨by exact HO_3.out⟩, ⟨by exact p0.out⟩, ⟨by repeat (first | (with_reducible first | exact HB.out | apply below_alloc | apply pw_below_drewN | apply below_drew1 | refine below_set ?_ p6.out) | exact HB.out)⟩⟩
   case round =>
    clear H'
    try clear c1
    try clear c2
    try clear p2
    try clear c3
    try clear c4
    try clear c4b0
    try clear c4b1
    try clear c5
    try clear c5b0
    try clear c5b1
    try clear c12
    try clear c12b0
    try clear r7
    try clear r8
    try clear q9
    try clear r0
    try clear r3
    try clear r4
    try clear r9
    try clear t0
    try clear r1
    try clear r2
    try clear r5
    try clear r6
    try clear p2
    obtain ⟨x3_2, x5_2, rfl, HA, HK2, HO_3, p0, HB⟩ := hrel
    cases gk with
    | zero => exact absurd HA.out (by simp [spec_HubCount.l1])
    | succ k2 =>
     have H := HA.out
     clear HA
     simp only [spec_HubCount.l1] at H
     by_cases c14 : x5_2 < a0_0
     case neg =>
      rw [if_neg c14] at H
      have c14b0 : decide (x5_2 < a0_0) = false := decide_eq_false c14
      clear c14
      have H' := Aside0.mk H
      clear H
      have hcz33_0 : wr.cell? ⟨p1, 0, none⟩ = some (.int .i64 a0_0) := (blk_cell p0.out 0).trans rfl
      have hcz33_1 : wr.cell? ⟨p1, 1, none⟩ = some (.slice A0_1 l0_1.length c0_1) := (blk_cell p0.out 1).trans rfl
      have hfz33_0 := blk_frozen p0.out 0
      have hfz33_1 := blk_frozen p0.out 1
      go_wp2
      go_roundg k2
      case measure => have := HK1.out; have := HK2.out; omega
      case rel => exact ⟨(x3_2), (wrap64 (x4_1 + 1)), (by first | rfl | (simp; done) | (simp [*]; done)), H', ⟨by have := HK1.out; have := HK2.out; omega⟩, ⟨by exact HO_3.out⟩, ⟨by exact p0.out⟩, ⟨by repeat (first | (with_reducible first | exact HB.out | apply below_alloc | apply pw_below_drewN | apply below_drew1 | refine below_set ?_ p6.out) | exact HB.out)⟩⟩
     rw [if_pos c14] at H
     have c14b0 : decide (x5_2 < a0_0) = true := decide_eq_true c14
     clear c14
     replace H := Option.bind_eq_some_iff.mp H
     obtain ⟨⟨t581, t584⟩, A150, H⟩ := H
     replace H : (spec_HubCount.l2 k2 x3_2 x4_1 x5_2 t581 t584 0 a0_0 l0_1) = some r := H
     have A15 := Aside0.mk A150
     clear A150
     have H' := Aside0.mk H
     clear H
     have u5 : wr.cell? ⟨p1, 0, none⟩ = some (.int .i64 a0_0) := (blk_cell p0.out 0).trans rfl
     have u6 : wr.cell? ⟨p1, 1, none⟩ = some (.slice A0_1 l0_1.length c0_1) := (blk_cell p0.out 1).trans rfl
     have u7 := blk_frozen p0.out 0
     have u8 := blk_frozen p0.out 1
     go_wp2_with (first | ((with_reducible refine gate_callee (f := 66) rfl ?_); refine goesL_ (some 31) rfl rfl Try.func66 (by kernel_rfl) rfl #[.agg #[.int .i64 a0_0, .slice A0_1 l0_1.length c0_1], .int .i64 x4_1, .int .i64 x5_2] rfl (by (try simp only [List.map_toArray, List.map_cons, List.map_nil]); first | done | rfl | (simp only [List.length_drop, List.length_take]; rfl)) ?_; (with_reducible refine (spec_l3Walk.calls k2 a0_0 _ _ l0_1 x4_1 x5_2 t581 t584 _ ?side1 ?side2 A15.out).mono ?_); (case side1 => repeat (first | exact (Kd.C_below q8.out HB.out) | (with_reducible refine Kd.C_alloc ?_ _) | (with_reducible refine Kd.C_drewN ?_ _) | (with_reducible refine Kd.C_drew ?_))); (case side2 => exact u3.out); rintro e w17 ⟨v582, rfl, ho0, hb⟩; refine ⟨_, rfl, ?_⟩; have n0_ := Aside0.mk (Kd.R_elder' HO_3.out (Kd.R_base ho0) hb); have n1_ := Aside0.mk (Kd.R_lower (Kd.R_new' ho0 (Kd.R_lt HO_3.out)) (below_size HB.out)); have n2_ := Aside0.mk (blk_below (g := p1) (o := .cells #[.int .i64 a0_0, .slice A0_1 l0_1.length c0_1] 25 (0, 0)) p0.out hb); have n3_ := Aside0.mk (below_step HB.out hb); clear HO_3; clear p0; clear HB; have HO_3 := n0_; have HO583 := n1_; have p0 := n2_; have HB := n3_; clear n0_ n1_ n2_ n3_; (try clear hb); (try clear hb2); (try clear hk); (try clear hi); (try clear ho0)))
     go_loopg [8] k2 (fun kq v8 w' => ∃ (x3_3 : List Int) (x8_3 : Int), v8 = .int .i64 x8_3 ∧ Aside0 (spec_HubCount.l2 kq x3_3 x4_1 x5_2 t581 t584 x8_3 a0_0 l0_1 = some r) ∧ Aside0 (kq ≤ k2) ∧ Aside0 (Kd.R (Kd.int .i64) 3 w' w.heap.size (fun k_ => some k_ ≠ (v582 : Value).ownBlock) v579 x3_3) ∧ Aside0 (Kd.R (Kd.int .i64) 3 w' w.heap.size (fun k_ => some k_ ≠ (v579 : Value).ownBlock) v582 t581) ∧ Aside0 (w'.heap[p1]? = some (.cells #[.int .i64 a0_0, (.slice A0_1 l0_1.length c0_1)] 25 (0, 0))) ∧ Aside0 (Below w.heap.size w w'))
     case atStart => exact ⟨(x3_2), (0), (by first | rfl | (simp; done) | (simp [*]; done)), H', ⟨Nat.le_refl _⟩, ⟨by exact Kd.R_mono HO_3.out (fun _ hk => hk.2)⟩, ⟨by exact Kd.R_mono HO583.out (fun _ hk => hk.2)⟩, ⟨by exact p0.out⟩, ⟨by repeat (first | (with_reducible first | exact HB.out | apply below_alloc | apply pw_below_drewN | apply below_drew1 | refine below_set ?_ p6.out) | exact HB.out)⟩⟩
     case round =>
      clear H'
      try clear c1
      try clear c2
      try clear p2
      try clear c3
      try clear c4
      try clear c4b0
      try clear c4b1
      try clear c5
      try clear c5b0
      try clear c5b1
      try clear c6
      try clear c12
      try clear c12b0
      try clear c14
      try clear c14b0
      try clear r7
      try clear r8
      try clear u5
      try clear u6
      try clear q9
      try clear r0
      try clear r3
      try clear r4
      try clear r9
      try clear t0
      try clear u7
      try clear u8
      try clear r1
      try clear r2
      try clear r5
      try clear r6
      try clear p2
      obtain ⟨x3_3, x8_3, rfl, HA, HK3, HO_3, HO_6, p0, HB⟩ := hrel
      cases gk with
      | zero => exact absurd HA.out (by simp [spec_HubCount.l2])
      | succ k3 =>
       have H := HA.out
       clear HA
       simp only [spec_HubCount.l2] at H
       by_cases c18 : (wrap64 (x8_3 + 1)) < (t581.length : Int)
       case neg =>
        rw [if_neg c18] at H
        have c18b0 : decide ((wrap64 (x8_3 + 1)) < (t581.length : Int)) = false := decide_eq_false c18
        clear c18
        have H' := Aside0.mk H
        clear H
        obtain ⟨Ao32, co32, eo32⟩ := Kd.R_slice HO_6.out
        subst eo32
        go_wp2
        go_roundg k3
        case measure => have := HK1.out; have := HK2.out; have := HK3.out; omega
        case rel => exact ⟨(x3_3), (wrap64 (x5_2 + 1)), (by first | rfl | (simp; done) | (simp [*]; done)), H', ⟨by have := HK1.out; have := HK2.out; have := HK3.out; omega⟩, ⟨by exact Kd.R_mono HO_3.out (fun _ hk => trivial)⟩, ⟨by exact p0.out⟩, ⟨by repeat (first | (with_reducible first | exact HB.out | apply below_alloc | apply pw_below_drewN | apply below_drew1 | refine below_set ?_ p6.out) | exact HB.out)⟩⟩
       rw [if_pos c18] at H
       have c18b0 : decide ((wrap64 (x8_3 + 1)) < (t581.length : Int)) = true := decide_eq_true c18
       clear c18
       by_cases c19 : t584 = true
       case neg =>
        replace c19 := Bool.eq_false_iff.mpr c19
        subst c19
        have H1 : (spec_HubCount.l1 k3 x3_3 x4_1 (wrap64 (x5_2 + 1)) a0_0 l0_1) = some r := by rw [if_neg (show ¬ (false = true) by decide)] at H; exact H
        clear H
        have H := H1
        clear H1
        have H' := Aside0.mk H
        clear H
        obtain ⟨Ao31, co31, eo31⟩ := Kd.R_slice HO_6.out
        subst eo31
        go_wp2
        go_roundg k3
        case measure => have := HK1.out; have := HK2.out; have := HK3.out; omega
        case rel => exact ⟨(x3_3), (wrap64 (x5_2 + 1)), (by first | rfl | (simp; done) | (simp [*]; done)), H', ⟨by have := HK1.out; have := HK2.out; have := HK3.out; omega⟩, ⟨by exact Kd.R_mono HO_3.out (fun _ hk => trivial)⟩, ⟨by exact p0.out⟩, ⟨by repeat (first | (with_reducible first | exact HB.out | apply below_alloc | apply pw_below_drewN | apply below_drew1 | refine below_set ?_ p6.out) | exact HB.out)⟩⟩
       subst c19
       have H1 : (if 0 ≤ x8_3 then (if x8_3 < (t581.length : Int) then (if 0 ≤ (rd t581 x8_3) then (if (rd t581 x8_3) < (l0_1.length : Int) then (if 0 ≤ ((rd_T34 l0_1 (rd t581 x8_3)).f1) then (if ((rd_T34 l0_1 (rd t581 x8_3)).f1) < (x3_3.length : Int) then (spec_HubCount.l2 k3 (x3_3.set (((rd_T34 l0_1 (rd t581 x8_3)).f1) : Int).toNat (wrap64 ((rd x3_3 ((rd_T34 l0_1 (rd t581 x8_3)).f1)) + 1))) x4_1 x5_2 t581 true (wrap64 (x8_3 + 1)) a0_0 l0_1) else (none)) else (none)) else (none)) else (none)) else (none)) else (none)) = some r := by rw [if_pos rfl] at H; exact H
       clear H
       have H := H1
       clear H1
       by_cases c20 : 0 ≤ x8_3
       case neg =>
        rw [if_neg c20] at H
        exact absurd H (by simp)
       rw [if_pos c20] at H
       have c20b0 : decide (0 ≤ x8_3) = true := decide_eq_true c20
       clear c20
       by_cases c21 : x8_3 < (t581.length : Int)
       case neg =>
        rw [if_neg c21] at H
        exact absurd H (by simp)
       rw [if_pos c21] at H
       have c21b0 : decide (x8_3 < (t581.length : Int)) = true := decide_eq_true c21
       clear c21
       by_cases c22 : 0 ≤ (rd t581 x8_3)
       case neg =>
        rw [if_neg c22] at H
        exact absurd H (by simp)
       rw [if_pos c22] at H
       have c22b0 : decide (0 ≤ (rd t581 x8_3)) = true := decide_eq_true c22
       clear c22
       by_cases c23 : (rd t581 x8_3) < (l0_1.length : Int)
       case neg =>
        rw [if_neg c23] at H
        exact absurd H (by simp)
       rw [if_pos c23] at H
       have c23b0 : decide ((rd t581 x8_3) < (l0_1.length : Int)) = true := decide_eq_true c23
       clear c23
       by_cases c24 : 0 ≤ ((rd_T34 l0_1 (rd t581 x8_3)).f1)
       case neg =>
        rw [if_neg c24] at H
        exact absurd H (by simp)
       rw [if_pos c24] at H
       have c24b0 : decide (0 ≤ ((rd_T34 l0_1 (rd t581 x8_3)).f1)) = true := decide_eq_true c24
       clear c24
       by_cases c25 : ((rd_T34 l0_1 (rd t581 x8_3)).f1) < (x3_3.length : Int)
       case neg =>
        rw [if_neg c25] at H
        exact absurd H (by simp)
       rw [if_pos c25] at H
       have c25b0 : decide (((rd_T34 l0_1 (rd t581 x8_3)).f1) < (x3_3.length : Int)) = true := decide_eq_true c25
       clear c25
       obtain ⟨y590, hy590⟩ : ∃ y_ : List Int, y_ = (x3_3.set (((rd_T34 l0_1 (rd t581 x8_3)).f1) : Int).toNat (wrap64 ((rd x3_3 ((rd_T34 l0_1 (rd t581 x8_3)).f1)) + 1))) := ⟨_, rfl⟩
       replace H : (spec_HubCount.l2 k3 y590 x4_1 x5_2 t581 true (wrap64 (x8_3 + 1)) a0_0 l0_1) = some r := by first | (rw [hy590]; with_reducible exact H) | (have H2_ := (Option.bind_some _ _).symm.trans H; rw [hy590]; with_reducible exact H2_) | (have H2_ := (Option.bind_some _ _).symm.trans H; with_reducible exact H2_) | with_reducible exact H | (rw [hy590]; exact H) | exact H
       have Ny590 := Aside0.mk hy590
       clear hy590
       have H' := Aside0.mk H
       clear H
       obtain ⟨Ao27, co27, eo27⟩ := Kd.R_slice HO_6.out
       subst eo27
       try go_wp2
       have n0_ := Aside0.mk (Kd.R_drew HO_3.out)
       have n1_ := Aside0.mk (Kd.R_drew HO_6.out)
       have n2_ := Aside0.mk (blk_drew p0.out)
       have n3_ := Aside0.mk (below_drew1 HB.out)
       clear HO_3
       clear HO_6
       clear p0
       clear HB
       have HO_3 := n0_
       have HO_6 := n1_
       have p0 := n2_
       have HB := n3_
       clear n0_ n1_ n2_ n3_
       have p585 : 0 ≤ (x8_3 : Int) := of_decide_eq_true (by first | (with_reducible assumption) | assumption)
       have q585 : x8_3 < (t581.length : Int) := of_decide_eq_true (by first | (with_reducible assumption) | assumption)
       obtain ⟨u4, e585, t1⟩ := Kd.at_int (Kd.R_reads' HO_6.out).2.2 x8_3 p585 q585
       cases e585
       replace p585 := eq_true p585
       replace q585 := eq_true q585
       have p586 : 0 ≤ ((rd t581 x8_3) : Int) := of_decide_eq_true (by first | (with_reducible assumption) | assumption)
       have q586 : (rd t581 x8_3) < (l0_1.length : Int) := of_decide_eq_true (by first | (with_reducible assumption) | assumption)
       obtain ⟨p4, e586, p7, p8, p9, q0, q1⟩ := at_T34 q8.out (rd t581 x8_3) p586 q586
       have t2 := q1
       have t3 := q0
       have t4 := p9
       have t5 := p8
       have t6 := p7
       cases e586
       replace p7 := (HB.out.cell (World.block_lt_of_cell? w _ p7)).trans p7
       replace p8 := (HB.out.cell (World.block_lt_of_cell? w _ p8)).trans p8
       replace p9 := (HB.out.cell (World.block_lt_of_cell? w _ p9)).trans p9
       replace q0 := (HB.out.cell (World.block_lt_of_cell? w _ q0)).trans q0
       replace q1 := (HB.out.cell (World.block_lt_of_cell? w _ q1)).trans q1
       replace p586 := eq_true p586
       replace q586 := eq_true q586
       have p587 : 0 ≤ (x8_3 : Int) := of_decide_eq_true (by first | (with_reducible assumption) | assumption)
       have q587 : x8_3 < (t581.length : Int) := of_decide_eq_true (by first | (with_reducible assumption) | assumption)
       obtain ⟨ad587, e587, t7⟩ := Kd.at_int (Kd.R_reads' HO_6.out).2.2 x8_3 p587 q587
       obtain rfl : u4 = ad587 := (by injection e587)
       replace p587 := eq_true p587
       replace q587 := eq_true q587
       have p588 : 0 ≤ ((rd t581 x8_3) : Int) := of_decide_eq_true (by first | (with_reducible assumption) | assumption)
       have q588 : (rd t581 x8_3) < (l0_1.length : Int) := of_decide_eq_true (by first | (with_reducible assumption) | assumption)
       obtain ⟨ad588, e588, q2, q3, q4, q5, q6⟩ := at_T34 q8.out (rd t581 x8_3) p588 q588
       have t8 := q6
       have t9 := q5
       have u0 := q4
       have u1 := q3
       have u2 := q2
       obtain rfl : p4 = ad588 := (by injection e588)
       replace q2 := (HB.out.cell (World.block_lt_of_cell? w _ q2)).trans q2
       replace q3 := (HB.out.cell (World.block_lt_of_cell? w _ q3)).trans q3
       replace q4 := (HB.out.cell (World.block_lt_of_cell? w _ q4)).trans q4
       replace q5 := (HB.out.cell (World.block_lt_of_cell? w _ q5)).trans q5
       replace q6 := (HB.out.cell (World.block_lt_of_cell? w _ q6)).trans q6
       replace p588 := eq_true p588
       replace q588 := eq_true q588
       obtain ⟨Ao29, co29, eo29⟩ := Kd.R_slice HO_3.out
       (first | subst eo29 | (injection eo29 with f1_ f2_ f3_; have f4_ := f1_.symm; have f5_ := f3_.symm; clear f1_ f2_ f3_; subst f4_; subst f5_))
       have p589 : 0 ≤ (((rd_T34 l0_1 (rd t581 x8_3)).f1) : Int) := of_decide_eq_true (by first | (with_reducible assumption) | assumption)
       have q589 : ((rd_T34 l0_1 (rd t581 x8_3)).f1) < (x3_3.length : Int) := of_decide_eq_true (by first | (with_reducible assumption) | assumption)
       obtain ⟨ad589, e589, q7⟩ := Kd.at_int (Kd.R_reads' HO_3.out).2.2 ((rd_T34 l0_1 (rd t581 x8_3)).f1) p589 q589
       cases e589
       replace p589 := eq_true p589
       replace q589 := eq_true q589
       have p26 : 0 ≤ (((rd_T34 l0_1 (rd t581 x8_3)).f1) : Int) := of_decide_eq_true (by first | (with_reducible assumption) | assumption)
       have q26 : (((rd_T34 l0_1 (rd t581 x8_3)).f1) : Int) < ((x3_3.length : Int) : Int) := of_decide_eq_true (by first | (with_reducible assumption) | assumption)
       obtain ⟨go26, co26, eo26, gb26, gl26, cl26, HG26⟩ := Kd.R_form HO_3.out (by omega)
       (first | cases eo26 | (injection eo26 with ea_ en_ ec_; (first | subst ea_ | (injection ea_ with ea_; subst ea_)); subst ec_; clear en_))
       have GB26 := Aside0.mk gb26
       have GG26 := Aside0.mk HG26
       clear gb26 gl26 HG26
       (first | simp only [add_plain] at q7 | skip)
       obtain ⟨hx26_0, hf26_0⟩ := Kd.R_celln 0 HO_3.out (((rd_T34 l0_1 (rd t581 x8_3)).f1) : Int) p26 q26
       replace p26 := eq_true p26
       replace q26 := eq_true q26
       have HP30 := Kd.R_putn HO_3.out (((rd_T34 l0_1 (rd t581 x8_3)).f1) : Int) (wrap64 ((rd x3_3 ((rd_T34 l0_1 (rd t581 x8_3)).f1)) + 1))
       rw [← Ny590.out] at HP30
       have HQ30 := Aside0.mk HP30
       clear HP30
       refine start_ (n := 25) (S := fun w' => w'.cell? ⟨p1, 0, none⟩ = some (.int .i64 a0_0) ∧ w'.cell? ⟨p1, 1, none⟩ = some (.slice (some p4) l0_1.length c0_1) ∧ w'.cell? (u4.add (x8_3).toNat) = some (.int .i64 (rd t581 x8_3)) ∧ w'.cell? (p4.add (((rd t581 x8_3)).toNat * 5)) = some (.int .i64 ((rd_T34 l0_1 (rd t581 x8_3)).f0)) ∧ w'.cell? ⟨(p4.add (((rd t581 x8_3)).toNat * 5)).block, (p4.add (((rd t581 x8_3)).toNat * 5)).off + 1, none⟩ = some (.int .i64 ((rd_T34 l0_1 (rd t581 x8_3)).f1)) ∧ w'.cell? ⟨(p4.add (((rd t581 x8_3)).toNat * 5)).block, (p4.add (((rd t581 x8_3)).toNat * 5)).off + 2, none⟩ = some (.int .i64 ((rd_T34 l0_1 (rd t581 x8_3)).f2)) ∧ w'.cell? ⟨(p4.add (((rd t581 x8_3)).toNat * 5)).block, (p4.add (((rd t581 x8_3)).toNat * 5)).off + 3, none⟩ = some (.int .i64 ((rd_T34 l0_1 (rd t581 x8_3)).f3)) ∧ w'.cell? ⟨(p4.add (((rd t581 x8_3)).toNat * 5)).block, (p4.add (((rd t581 x8_3)).toNat * 5)).off + 4, none⟩ = some (.int .i64 ((rd_T34 l0_1 (rd t581 x8_3)).f4)) ∧ w'.cell? (u4.add (x8_3).toNat) = some (.int .i64 (rd t581 x8_3)) ∧ w'.cell? (p4.add (((rd t581 x8_3)).toNat * 5)) = some (.int .i64 ((rd_T34 l0_1 (rd t581 x8_3)).f0)) ∧ w'.cell? ⟨(p4.add (((rd t581 x8_3)).toNat * 5)).block, (p4.add (((rd t581 x8_3)).toNat * 5)).off + 1, none⟩ = some (.int .i64 ((rd_T34 l0_1 (rd t581 x8_3)).f1)) ∧ w'.cell? ⟨(p4.add (((rd t581 x8_3)).toNat * 5)).block, (p4.add (((rd t581 x8_3)).toNat * 5)).off + 2, none⟩ = some (.int .i64 ((rd_T34 l0_1 (rd t581 x8_3)).f2)) ∧ w'.cell? ⟨(p4.add (((rd t581 x8_3)).toNat * 5)).block, (p4.add (((rd t581 x8_3)).toNat * 5)).off + 3, none⟩ = some (.int .i64 ((rd_T34 l0_1 (rd t581 x8_3)).f3)) ∧ w'.cell? ⟨(p4.add (((rd t581 x8_3)).toNat * 5)).block, (p4.add (((rd t581 x8_3)).toNat * 5)).off + 4, none⟩ = some (.int .i64 ((rd_T34 l0_1 (rd t581 x8_3)).f4)) ∧ w'.cell? ⟨go26, (((rd_T34 l0_1 (rd t581 x8_3)).f1)).toNat, none⟩ = some (.int .i64 (rd x3_3 ((rd_T34 l0_1 (rd t581 x8_3)).f1)))) (ds := [24]) #[N68,N68,N68,N68,N68,N68,N68,N68,N68,N68,N68,N68,N68,N68,N68,N68,N68,N68,N68,N68,N68,N68,N68,N68,N68] (by kernel_rfl) rfl rfl ⟨(blk_cell p0.out 0).trans rfl, (blk_cell p0.out 1).trans rfl, t1, ((HB.out.cell (World.block_lt_of_cell? w _ t6)).trans t6), ((HB.out.cell (World.block_lt_of_cell? w _ t5)).trans t5), ((HB.out.cell (World.block_lt_of_cell? w _ t4)).trans t4), ((HB.out.cell (World.block_lt_of_cell? w _ t3)).trans t3), ((HB.out.cell (World.block_lt_of_cell? w _ t2)).trans t2), t7, ((HB.out.cell (World.block_lt_of_cell? w _ u2)).trans u2), ((HB.out.cell (World.block_lt_of_cell? w _ u1)).trans u1), ((HB.out.cell (World.block_lt_of_cell? w _ u0)).trans u0), ((HB.out.cell (World.block_lt_of_cell? w _ t9)).trans t9), ((HB.out.cell (World.block_lt_of_cell? w _ t8)).trans t8), q7⟩ (fun hHeld => ?_); refine with_tabW spec_HubCount.tab14 spec_HubCount.bits14 (fun HT_ HW_ => ?_)
       generalize wr.drew = w28 at HO_3 HO_6 p0 HB GG26 HQ30 hf26_0 hx26_0 t1 p7 p8 p9 q0 q1 t7 q2 q3 q4 q5 q6 q7 hHeld ⊢
       refine pure_ (i := 0) (N := some 44) (v := ?_) (a' := ?_) #[Y68,N68,N68,N68,N68,N68,N68,N68,N68,N68,N68,N68,N68,N68,N68,N68,N68,N68,N68,N68,N68,N68,N68,N68,N68] rfl rfl (any_of HT_.out (by kernel_rfl)) (fun _ _ _ h => h) (Or.inl ⟨by rfl, ?_⟩) ?_ ?_
       rotate_left
       ·intro w'
        go_simp
        with_reducible rfl
       rotate_left
       ·simp only [Act.put, List.setIfInBounds_toArray, List.set_cons_zero, List.set_cons_succ, i64_w, i32_w]
        rfl
       refine pure_ (i := 1) (N := some 45) (v := ?_) (a' := ?_) #[Y68,Y68,N68,N68,N68,N68,N68,N68,N68,N68,N68,N68,N68,N68,N68,N68,N68,N68,N68,N68,N68,N68,N68,N68,N68] rfl rfl (any_of HT_.out (by kernel_rfl)) (fun _ _ _ h => h) (Or.inl ⟨by rfl, ?_⟩) ?_ ?_
       rotate_left
       ·intro w'
        go_simp
        with_reducible rfl
       rotate_left
       ·simp only [Act.put, List.setIfInBounds_toArray, List.set_cons_zero, List.set_cons_succ, i64_w, i32_w]
        rfl
       refine pure_ (i := 3) (N := some 47) (v := ?_) (a' := ?_) #[Y68,Y68,N68,Y68,N68,N68,N68,N68,N68,N68,N68,N68,N68,N68,N68,N68,N68,N68,N68,N68,N68,N68,N68,N68,N68] rfl rfl (any_of HT_.out (by kernel_rfl)) (fun _ _ _ h => h) (Or.inl ⟨by rfl, ?_⟩) ?_ ?_
       rotate_left
       ·intro w'
        go_simp
        with_reducible rfl
       rotate_left
       ·simp only [Act.put, List.setIfInBounds_toArray, List.set_cons_zero, List.set_cons_succ, i64_w, i32_w]
        rfl
       refine pure_ (i := 4) (N := some 48) (v := ?_) (a' := ?_) #[Y68,Y68,N68,Y68,Y68,N68,N68,N68,N68,N68,N68,N68,N68,N68,N68,N68,N68,N68,N68,N68,N68,N68,N68,N68,N68] rfl rfl (any_of HT_.out (by kernel_rfl)) (fun _ _ _ h => h) (Or.inl ⟨by rfl, ?_⟩) ?_ ?_
       rotate_left
       ·intro w'
        go_simp
        with_reducible rfl
       rotate_left
       ·simp only [Act.put, List.setIfInBounds_toArray, List.set_cons_zero, List.set_cons_succ, i64_w, i32_w]
        rfl
       refine pure_ (i := 5) (N := some 49) (v := ?_) (a' := ?_) #[Y68,Y68,N68,Y68,Y68,Y68,N68,N68,N68,N68,N68,N68,N68,N68,N68,N68,N68,N68,N68,N68,N68,N68,N68,N68,N68] rfl rfl (any_of HT_.out (by kernel_rfl)) (fun _ _ _ h => h) (Or.inl ⟨by rfl, ?_⟩) ?_ ?_
       rotate_left
       ·intro w'
        go_simp
        with_reducible rfl
       rotate_left
       ·simp only [Act.put, List.setIfInBounds_toArray, List.set_cons_zero, List.set_cons_succ, i64_w, i32_w]
        rfl
       refine pure_ (i := 10) (N := some 54) (v := ?_) (a' := ?_) #[Y68,Y68,N68,Y68,Y68,Y68,N68,N68,N68,N68,Y68,N68,N68,N68,N68,N68,N68,N68,N68,N68,N68,N68,N68,N68,N68] rfl rfl (any_of HT_.out (by kernel_rfl)) (fun _ _ _ h => h) (Or.inl ⟨by rfl, ?_⟩) ?_ ?_
       rotate_left
       ·intro w'
        go_simp
        with_reducible rfl
       rotate_left
       ·simp only [Act.put, List.setIfInBounds_toArray, List.set_cons_zero, List.set_cons_succ, i64_w, i32_w]
        rfl
       refine pure_ (i := 11) (N := some 55) (v := ?_) (a' := ?_) #[Y68,Y68,N68,Y68,Y68,Y68,N68,N68,N68,N68,Y68,Y68,N68,N68,N68,N68,N68,N68,N68,N68,N68,N68,N68,N68,N68] rfl rfl (any_of HT_.out (by kernel_rfl)) (fun _ _ _ h => h) (Or.inl ⟨by rfl, ?_⟩) ?_ ?_
       rotate_left
       ·intro w'
        go_simp
        with_reducible rfl
       rotate_left
       ·simp only [Act.put, List.setIfInBounds_toArray, List.set_cons_zero, List.set_cons_succ, i64_w, i32_w]
        rfl
       refine pure_ (i := 13) (N := some 57) (v := ?_) (a' := ?_) #[Y68,Y68,N68,Y68,Y68,Y68,N68,N68,N68,N68,Y68,Y68,N68,Y68,N68,N68,N68,N68,N68,N68,N68,N68,N68,N68,N68] rfl rfl (any_of HT_.out (by kernel_rfl)) (fun _ _ _ h => h) (Or.inl ⟨by rfl, ?_⟩) ?_ ?_
       rotate_left
       ·intro w'
        go_simp
        with_reducible rfl
       rotate_left
       ·simp only [Act.put, List.setIfInBounds_toArray, List.set_cons_zero, List.set_cons_succ, i64_w, i32_w]
        rfl
       refine pure_ (i := 14) (N := some 58) (v := ?_) (a' := ?_) #[Y68,Y68,N68,Y68,Y68,Y68,N68,N68,N68,N68,Y68,Y68,N68,Y68,Y68,N68,N68,N68,N68,N68,N68,N68,N68,N68,N68] rfl rfl (any_of HT_.out (by kernel_rfl)) (fun _ _ _ h => h) (Or.inl ⟨by rfl, ?_⟩) ?_ ?_
       rotate_left
       ·intro w'
        go_simp
        with_reducible rfl
       rotate_left
       ·simp only [Act.put, List.setIfInBounds_toArray, List.set_cons_zero, List.set_cons_succ, i64_w, i32_w]
        rfl
       refine pure_ (i := 15) (N := some 59) (v := ?_) (a' := ?_) #[Y68,Y68,N68,Y68,Y68,Y68,N68,N68,N68,N68,Y68,Y68,N68,Y68,Y68,Y68,N68,N68,N68,N68,N68,N68,N68,N68,N68] rfl rfl (any_of HT_.out (by kernel_rfl)) (fun _ _ _ h => h) (Or.inl ⟨by rfl, ?_⟩) ?_ ?_
       rotate_left
       ·intro w'
        go_simp
        with_reducible rfl
       rotate_left
       ·simp only [Act.put, List.setIfInBounds_toArray, List.set_cons_zero, List.set_cons_succ, i64_w, i32_w]
        rfl
       refine take_ (i := 2) (N := some 46) (v := ?_) (a' := ?_) #[Y68,Y68,Y68,Y68,Y68,Y68,N68,N68,N68,N68,Y68,Y68,N68,Y68,Y68,Y68,N68,N68,N68,N68,N68,N68,N68,N68,N68] rfl rfl (take_ofW HT_.out HW_.out (by kernel_rfl)) (fun _ _ _ h => h) (Or.inl ⟨by rfl, ?_⟩) hHeld ?_ ?_
       rotate_left
       ·rintro w' ⟨s0, s1, s2, s3, s4, s5, s6, s7, s8, s9, s10, s11, s12, s13, s14⟩
        go_simp
        with_reducible rfl
       rotate_left
       ·simp only [Act.put, List.setIfInBounds_toArray, List.set_cons_zero, List.set_cons_succ, i64_w, i32_w]
        rfl
       refine take_ (i := 6) (N := some 50) (v := ?_) (a' := ?_) #[Y68,Y68,Y68,Y68,Y68,Y68,Y68,N68,N68,N68,Y68,Y68,N68,Y68,Y68,Y68,N68,N68,N68,N68,N68,N68,N68,N68,N68] rfl rfl (take_ofW HT_.out HW_.out (by kernel_rfl)) (fun _ _ _ h => h) (Or.inl ⟨by rfl, ?_⟩) hHeld ?_ ?_
       rotate_left
       ·rintro w' ⟨s0, s1, s2, s3, s4, s5, s6, s7, s8, s9, s10, s11, s12, s13, s14⟩
        go_simp
        with_reducible rfl
       rotate_left
       ·simp only [Act.put, List.setIfInBounds_toArray, List.set_cons_zero, List.set_cons_succ, i64_w, i32_w]
        rfl
       refine pure_ (i := 7) (N := some 51) (v := ?_) (a' := ?_) #[Y68,Y68,Y68,Y68,Y68,Y68,Y68,Y68,N68,N68,Y68,Y68,N68,Y68,Y68,Y68,N68,N68,N68,N68,N68,N68,N68,N68,N68] rfl rfl (any_of HT_.out (by kernel_rfl)) (fun _ _ _ h => h) (Or.inl ⟨by rfl, ?_⟩) ?_ ?_
       rotate_left
       ·intro w'
        go_simp
        with_reducible rfl
       rotate_left
       ·simp only [Act.put, List.setIfInBounds_toArray, List.set_cons_zero, List.set_cons_succ, i64_w, i32_w]
        rfl
       refine pure_ (i := 8) (N := some 52) (v := ?_) (a' := ?_) #[Y68,Y68,Y68,Y68,Y68,Y68,Y68,Y68,Y68,N68,Y68,Y68,N68,Y68,Y68,Y68,N68,N68,N68,N68,N68,N68,N68,N68,N68] rfl rfl (any_of HT_.out (by kernel_rfl)) (fun _ _ _ h => h) (Or.inl ⟨by rfl, ?_⟩) ?_ ?_
       rotate_left
       ·intro w'
        go_simp
        with_reducible rfl
       rotate_left
       ·simp only [Act.put, List.setIfInBounds_toArray, List.set_cons_zero, List.set_cons_succ, i64_w, i32_w]
        rfl
       refine take_ (i := 9) (N := some 53) (v := ?_) (a' := ?_) #[Y68,Y68,Y68,Y68,Y68,Y68,Y68,Y68,Y68,Y68,Y68,Y68,N68,Y68,Y68,Y68,N68,N68,N68,N68,N68,N68,N68,N68,N68] rfl rfl (take_ofW HT_.out HW_.out (by kernel_rfl)) (fun _ _ _ h => h) (Or.inl ⟨by rfl, ?_⟩) hHeld ?_ ?_
       rotate_left
       ·rintro w' ⟨s0, s1, s2, s3, s4, s5, s6, s7, s8, s9, s10, s11, s12, s13, s14⟩
        go_simp
        with_reducible rfl
       rotate_left
       ·simp only [Act.put, List.setIfInBounds_toArray, List.set_cons_zero, List.set_cons_succ, i64_w, i32_w]
        rfl
       refine take_ (i := 12) (N := some 56) (v := ?_) (a' := ?_) #[Y68,Y68,Y68,Y68,Y68,Y68,Y68,Y68,Y68,Y68,Y68,Y68,Y68,Y68,Y68,Y68,N68,N68,N68,N68,N68,N68,N68,N68,N68] rfl rfl (take_ofW HT_.out HW_.out (by kernel_rfl)) (fun _ _ _ h => h) (Or.inl ⟨by rfl, ?_⟩) hHeld ?_ ?_
       rotate_left
       ·rintro w' ⟨s0, s1, s2, s3, s4, s5, s6, s7, s8, s9, s10, s11, s12, s13, s14⟩
        go_simp
        with_reducible rfl
       rotate_left
       ·simp only [Act.put, List.setIfInBounds_toArray, List.set_cons_zero, List.set_cons_succ, i64_w, i32_w]
        rfl
       refine take_ (i := 16) (N := some 60) (v := ?_) (a' := ?_) #[Y68,Y68,Y68,Y68,Y68,Y68,Y68,Y68,Y68,Y68,Y68,Y68,Y68,Y68,Y68,Y68,Y68,N68,N68,N68,N68,N68,N68,N68,N68] rfl rfl (take_ofW HT_.out HW_.out (by kernel_rfl)) (fun _ _ _ h => h) (Or.inl ⟨by rfl, ?_⟩) hHeld ?_ ?_
       rotate_left
       ·rintro w' ⟨s0, s1, s2, s3, s4, s5, s6, s7, s8, s9, s10, s11, s12, s13, s14⟩
        go_simp
        with_reducible rfl
       rotate_left
       ·simp only [Act.put, List.setIfInBounds_toArray, List.set_cons_zero, List.set_cons_succ, i64_w, i32_w]
        rfl
       refine pure_ (i := 17) (N := some 61) (v := ?_) (a' := ?_) #[Y68,Y68,Y68,Y68,Y68,Y68,Y68,Y68,Y68,Y68,Y68,Y68,Y68,Y68,Y68,Y68,Y68,Y68,N68,N68,N68,N68,N68,N68,N68] rfl rfl (any_of HT_.out (by kernel_rfl)) (fun _ _ _ h => h) (Or.inl ⟨by rfl, ?_⟩) ?_ ?_
       rotate_left
       ·intro w'
        go_simp
        with_reducible rfl
       rotate_left
       ·simp only [Act.put, List.setIfInBounds_toArray, List.set_cons_zero, List.set_cons_succ, i64_w, i32_w]
        rfl
       refine pure_ (i := 18) (N := some 62) (v := ?_) (a' := ?_) #[Y68,Y68,Y68,Y68,Y68,Y68,Y68,Y68,Y68,Y68,Y68,Y68,Y68,Y68,Y68,Y68,Y68,Y68,Y68,N68,N68,N68,N68,N68,N68] rfl rfl (any_of HT_.out (by kernel_rfl)) (fun _ _ _ h => h) (Or.inl ⟨by rfl, ?_⟩) ?_ ?_
       rotate_left
       ·intro w'
        go_simp
        with_reducible rfl
       rotate_left
       ·simp only [Act.put, List.setIfInBounds_toArray, List.set_cons_zero, List.set_cons_succ, i64_w, i32_w]
        rfl
       refine take_ (i := 19) (N := some 63) (v := ?_) (a' := ?_) #[Y68,Y68,Y68,Y68,Y68,Y68,Y68,Y68,Y68,Y68,Y68,Y68,Y68,Y68,Y68,Y68,Y68,Y68,Y68,Y68,N68,N68,N68,N68,N68] rfl rfl (take_ofW HT_.out HW_.out (by kernel_rfl)) (fun _ _ _ h => h) (Or.inl ⟨by rfl, ?_⟩) hHeld ?_ ?_
       rotate_left
       ·rintro w' ⟨s0, s1, s2, s3, s4, s5, s6, s7, s8, s9, s10, s11, s12, s13, s14⟩
        go_simp
        with_reducible rfl
       rotate_left
       ·simp only [Act.put, List.setIfInBounds_toArray, List.set_cons_zero, List.set_cons_succ, i64_w, i32_w]
        rfl
       refine pure_ (i := 20) (N := some 64) (v := ?_) (a' := ?_) #[Y68,Y68,Y68,Y68,Y68,Y68,Y68,Y68,Y68,Y68,Y68,Y68,Y68,Y68,Y68,Y68,Y68,Y68,Y68,Y68,Y68,N68,N68,N68,N68] rfl rfl (any_of HT_.out (by kernel_rfl)) (fun _ _ _ h => h) (Or.inl ⟨by rfl, ?_⟩) ?_ ?_
       rotate_left
       ·intro w'
        go_simp
        with_reducible rfl
       rotate_left
       ·simp only [Act.put, List.setIfInBounds_toArray, List.set_cons_zero, List.set_cons_succ, i64_w, i32_w]
        rfl
       refine take_ (i := 21) (N := some 65) (v := ?_) (a' := ?_) #[Y68,Y68,Y68,Y68,Y68,Y68,Y68,Y68,Y68,Y68,Y68,Y68,Y68,Y68,Y68,Y68,Y68,Y68,Y68,Y68,Y68,Y68,N68,N68,N68] rfl rfl (take_ofW HT_.out HW_.out (by kernel_rfl)) (fun _ _ _ h => h) (Or.inl ⟨by rfl, ?_⟩) hHeld ?_ ?_
       rotate_left
       ·rintro w' ⟨s0, s1, s2, s3, s4, s5, s6, s7, s8, s9, s10, s11, s12, s13, s14⟩
        go_simp
        with_reducible rfl
       rotate_left
       ·simp only [Act.put, List.setIfInBounds_toArray, List.set_cons_zero, List.set_cons_succ, i64_w, i32_w]
        rfl
       refine pure_ (i := 22) (N := some 66) (v := ?_) (a' := ?_) #[Y68,Y68,Y68,Y68,Y68,Y68,Y68,Y68,Y68,Y68,Y68,Y68,Y68,Y68,Y68,Y68,Y68,Y68,Y68,Y68,Y68,Y68,Y68,N68,N68] rfl rfl (any_of HT_.out (by kernel_rfl)) (fun _ _ _ h => h) (Or.inl ⟨by rfl, ?_⟩) ?_ ?_
       rotate_left
       ·intro w'
        go_simp
        with_reducible rfl
       rotate_left
       ·simp only [Act.put, List.setIfInBounds_toArray, List.set_cons_zero, List.set_cons_succ, i64_w, i32_w]
        rfl
       refine pure_ (i := 23) (N := some 67) (v := ?_) (a' := ?_) #[Y68,Y68,Y68,Y68,Y68,Y68,Y68,Y68,Y68,Y68,Y68,Y68,Y68,Y68,Y68,Y68,Y68,Y68,Y68,Y68,Y68,Y68,Y68,Y68,N68] rfl rfl (any_of HT_.out (by kernel_rfl)) (fun _ _ _ h => h) (Or.inl ⟨by rfl, ?_⟩) ?_ ?_
       rotate_left
       ·intro w'
        go_simp
        with_reducible rfl
       rotate_left
       ·simp only [Act.put, List.setIfInBounds_toArray, List.set_cons_zero, List.set_cons_succ, i64_w, i32_w]
        rfl
       refine last_ (i := 24) (N := none) #[true, true, true, true, true, true, true, true, true, true, true, true, true, true, true, true, true, true, true, true, true, true, true, true, true] rfl rfl (one_of HT_.out (by kernel_rfl)) (by decide) (fun K hK => ?_)
       refine skip_ (w1 := ?_) (by rfl) rfl ?_ ?_
       rotate_left
       ·go_simp
        rfl
       refine hK.out _ _ ?_
       clear hK K
       refine done_ (done_of HT_.out (by kernel_rfl)) ?_
       try go_wp2
       go_roundg k3
       case measure => have := HK1.out; have := HK2.out; have := HK3.out; omega
       case rel => exact ⟨(y590), (wrap64 (x8_3 + 1)), (by first | rfl | (simp; done) | (simp [*]; done)), H', ⟨by have := HK1.out; have := HK2.out; have := HK3.out; omega⟩, ⟨by exact HQ30.out⟩, ⟨by exact Kd.R_mono (Kd.R_far (p := ⟨go26, (((rd_T34 l0_1 (rd t581 x8_3)).f1) : Int).toNat, none⟩) (Kd.R_mono HO_6.out (fun k_ hk => (⟨hk, fun e_ => hk (by rw [e_]; rfl)⟩ : _ ∧ k_ ≠ go26))) (fun _ hk => hk.2) (.int .i64 (wrap64 ((rd x3_3 ((rd_T34 l0_1 (rd t581 x8_3)).f1)) + 1)))) (fun _ hk => hk.1)⟩, ⟨by refine blk_far ?_ (by have h_ := Kd.R_ne HO_3.out p0.out (by decide); intro e_; exact h_ (by rw [e_]; rfl)) _; exact p0.out⟩, ⟨by repeat (first | (with_reducible first | exact HB.out | apply below_alloc | apply pw_below_drewN | apply below_drew1 | refine below_set ?_ GB26.out | refine below_set ?_ p6.out) | exact HB.out)⟩⟩
end Go.Proofs.Ytljdcinpjnijcaa.Pr
end
section
namespace Go.Proofs.Ytljdcinpjnijcaa.Pr
open Go.RowKit Go.Proofs.YtljdcinpjnijcaaW.PrintWords Go.Proofs.YtljdcinpjnijcaaW.PrintLast Go.Proofs.YtljdcinpjnijcaaW.PrintMore
attribute [local go_sem] max2_int min2_int max_two min_two max_three min_three max_four min_four
set_option linter.unusedVariables false
set_option linter.unusedSimpArgs false
mutual
def laws_FnHubCount.j0 : Nat → List Int → Bool → Int → List (S34) → Option (Bool)
 | 0, _, _, _, _ => none
 | k + 1, x4, x28, p4, p5 => if x28 = true then ((spec_HubCount.f k p4 p5).bind fun t603 => ((laws_wkInts.f k x4 t603).bind fun t606 => (some t606))) else (laws_FnHubCount.l0 k x4 0 0 p4 p5)
def laws_FnHubCount.l0 : Nat → List Int → Int → Int → Int → List (S34) → Option (Bool)
 | 0, _, _, _, _, _ => none
 | k + 1, x4, x5, x6, p4, p5 => if x6 < p4 then (if 0 ≤ x6 then (if x6 < (x4.length : Int) then (laws_FnHubCount.l0 k x4 (wrap64 (x5 + (rd x4 x6))) (wrap64 (x6 + 1)) p4 p5) else (none)) else (none)) else (laws_FnHubCount.l1 k x5 0 0 p4 p5)
def laws_FnHubCount.l1 : Nat → Int → Int → Int → Int → List (S34) → Option (Bool)
 | 0, _, _, _, _, _ => none
 | k + 1, x5, x7, x8, p4, p5 => if x8 < p4 then (laws_FnHubCount.l2 k x5 x7 x8 0 p4 p5) else (some (x5 == x7))
def laws_FnHubCount.l2 : Nat → Int → Int → Int → Int → Int → List (S34) → Option (Bool)
 | 0, _, _, _, _, _, _ => none
 | k + 1, x5, x7, x8, x9, p4, p5 => if x9 < p4 then ((impl_NearWalk.f k p4 p5 x8 x9).bind fun bt608 => (if bt608.2 = true then (if (bt608.1.length : Int) > 0 then (laws_FnHubCount.l2 k x5 (wrap64 ((wrap64 (x7 + (bt608.1.length : Int))) - 1)) x8 (wrap64 (x9 + 1)) p4 p5) else (laws_FnHubCount.l2 k x5 x7 x8 (wrap64 (x9 + 1)) p4 p5)) else (laws_FnHubCount.l2 k x5 x7 x8 (wrap64 (x9 + 1)) p4 p5))) else (laws_FnHubCount.l1 k x5 x7 (wrap64 (x8 + 1)) p4 p5)
end
def laws_FnHubCount.f (k : Nat) (l0 : List Int) : Option (Bool) := if (l0.length : Int) > 1048576 then (some true) else ((spec_DrawHubCount.f k l0).bind fun bt591 => ((impl_HubCount.f k bt591.1 bt591.2).bind fun t596 => ((spec_HubCount.f k bt591.1 bt591.2).bind fun t599 => ((laws_wkInts.f k t596 t599).bind fun t602 => (if t602 = true then (laws_FnHubCount.j0 k t596 ((t596.length : Int) == 0) bt591.1 bt591.2) else (laws_FnHubCount.j0 k t596 true bt591.1 bt591.2))))))
set_option maxHeartbeats 8000000 in
set_option maxRecDepth 100000 in
theorem laws_FnHubCount.calls (k : Nat) (A0 : Option Addr) (c0 : Nat) (l0 : List Int) (r : Bool) (w : World) (hr0 : Kd.C (Kd.int .u8) w A0 l0.length l0) (hc0 : l0.length ≤ c0) (h : laws_FnHubCount.f k l0 = some r) :
  Calls Try.prog 6 #[.slice A0 l0.length c0] w fun e w' => e = .returned (.bool r) ∧ Below w.heap.size w w' := by
 have hu25 := Try.underlying25
 have HR0 := Aside0.mk hr0
 have HC0 := Aside0.mk hc0
 clear hr0 hc0
 have HB := Aside0.mk (Below.refl w.heap.size w)
 have H : (if (l0.length : Int) > 1048576 then (some true) else ((spec_DrawHubCount.f k l0).bind fun bt591 => ((impl_HubCount.f k bt591.1 bt591.2).bind fun t596 => ((spec_HubCount.f k bt591.1 bt591.2).bind fun t599 => ((laws_wkInts.f k t596 t599).bind fun t602 => (if t602 = true then (laws_FnHubCount.j0 k t596 ((t596.length : Int) == 0) bt591.1 bt591.2) else (laws_FnHubCount.j0 k t596 true bt591.1 bt591.2))))))) = some r := h
 clear h
 by_cases c2 : (l0.length : Int) > 1048576
 case pos =>
  rw [if_pos c2] at H
  have c2b0 : decide (1048576 < (l0.length : Int)) = true := decide_eq_true c2
  have c2b1 : decide (1048576 < l0.length) = true := decide_eq_true (by omega)
  clear c2
  obtain rfl := Option.some.inj H
  go_enter Try.func6, Try.ntmps6
  go_wp2
  go_ret
  exact ⟨by first | rfl | (simp [errW_none, errW_some] <;> rfl) | (simp [*, errW_none, errW_some] <;> rfl), by repeat (first | (with_reducible first | exact HB.out | apply below_alloc | apply pw_below_drewN | apply below_drew1) | exact HB.out)⟩
 rw [if_neg c2] at H
 have c2b0 : decide (1048576 < (l0.length : Int)) = false := decide_eq_false c2
 have c2b1 : decide (1048576 < l0.length) = false := decide_eq_false (by omega)
 clear c2
 replace H := Option.bind_eq_some_iff.mp H
 obtain ⟨⟨t591, t592⟩, A30, H⟩ := H
 replace H : ((impl_HubCount.f k t591 t592).bind fun t596 => ((spec_HubCount.f k t591 t592).bind fun t599 => ((laws_wkInts.f k t596 t599).bind fun t602 => (if t602 = true then (laws_FnHubCount.j0 k t596 ((t596.length : Int) == 0) t591 t592) else (laws_FnHubCount.j0 k t596 true t591 t592))))) = some r := H
 have A3 := Aside0.mk A30
 clear A30
 replace H := Option.bind_eq_some_iff.mp H
 obtain ⟨t596, A40, H⟩ := H
 replace H : ((spec_HubCount.f k t591 t592).bind fun t599 => ((laws_wkInts.f k t596 t599).bind fun t602 => (if t602 = true then (laws_FnHubCount.j0 k t596 ((t596.length : Int) == 0) t591 t592) else (laws_FnHubCount.j0 k t596 true t591 t592)))) = some r := H
 have A4 := Aside0.mk A40
 clear A40
 have HC5 := Aside0.mk H
 clear H
 go_enter Try.func6, Try.ntmps6
 go_upto_region 5 with (first | ((with_reducible refine gate_callee (f := 25) rfl ?_); refine goesL_ (some 16) rfl rfl Try.func25 (by kernel_rfl) rfl #[.slice A0 l0.length c0] rfl (by (try simp only [List.map_toArray, List.map_cons, List.map_nil]); first | done | rfl | (simp only [List.length_drop, List.length_take]; rfl)) ?_; (with_reducible refine (spec_DrawHubCount.calls k _ _ l0 t591 t592 _ ?side1 ?side2 A3.out).mono ?_); (case side1 => repeat (first | exact HR0.out | (with_reducible refine Kd.C_alloc ?_ _) | (with_reducible refine Kd.C_drewN ?_ _) | (with_reducible refine Kd.C_drew ?_))); (case side2 => exact HC0.out); rintro e w6 ⟨v593, rfl, ho0, hb⟩; refine ⟨_, rfl, ?_⟩; have n0_ := Aside0.mk (Kd.R_lower ho0 (below_size HB.out)); have n1_ := Aside0.mk (below_step HB.out hb); clear HB; have HO594 := n0_; have HB := n1_; clear n0_ n1_; (try clear hb); (try clear hb2); (try clear hk); (try clear hi); (try clear ho0)) | ((with_reducible refine gate_dst (N := 3) rfl ?_); (try (refine gate_guard (by rfl) ?_; dsimp only)); refine box_event ?hg (N := 3) ?hd (cs := #[.int .i64 0, .slice none 0 0]) (t := 25) ?hr ?_; (case hd => rfl); (case hg => rfl); (case hr => first | (go_simp; done) | (go_simp; rfl)); intro p3 hg w7 hbox hb; have n0_ := Aside0.mk (Kd.R_below HO594.out hb); have n1_ := Aside0.mk (below_step HB.out hb); have n2_ := Aside0.mk (hbox); have n3_ := Aside0.mk ((by rw [hg]; exact (below_size HB.out) : w.heap.size ≤ p3)); have n4_ := Aside0.mk ((by rw [hg]; exact (below_size HB.out) : w.heap.size ≤ p3)); clear HO594; clear HB; have HO594 := n0_; have HB := n1_; have p0 := n2_; have GW595 := n3_; have p7 := n4_; clear n0_ n1_ n2_ n3_ n4_; clear hb hbox hg; have q7 : w7.cell? ⟨p3, 0, none⟩ = some (.int .i64 0) := (blk_cell p0.out 0).trans rfl; have q8 : w7.cell? ⟨p3, 1, none⟩ = some (.slice none 0 0) := (blk_cell p0.out 1).trans rfl; have q9 := blk_frozen p0.out 0; have r0 := blk_frozen p0.out 1; obtain ⟨Ao9, co9, eo9⟩ := Kd.R_slice HO594.out; subst eo9) | ((with_reducible refine gate_callee (f := 26) rfl ?_); refine goesL_ (some 18) rfl rfl Try.func26 (by kernel_rfl) rfl #[.agg #[.int .i64 t591, .slice Ao9 t592.length co9]] rfl (by (try simp only [List.map_toArray, List.map_cons, List.map_nil]); first | done | rfl | (simp only [List.length_drop, List.length_take]; rfl)) ?_; (with_reducible refine (impl_HubCount.calls k t591 _ _ t592 t596 _ ?side1 ?side2 A4.out).mono ?_); (case side1 => refine (Kd.R_reads' (e := 34) (base := w.heap.size) (ok := fun k_ => True) (n := t592.length) (c := co9) ?_).2.2; exact (Kd.R_mono (Kd.R_far (p := ⟨p3, 1, none⟩) (Kd.R_far (p := ⟨p3, 0, none⟩) (Kd.R_types HO594.out p0.out (by decide)) (fun _ hk => hk.2) (.int .i64 t591)) (fun _ hk => hk.2) (.slice Ao9 t592.length co9)) (fun _ h_ => h_.1))); (case side2 => exact (Kd.R_reads' HO594.out).2.1); rintro e w10 ⟨v597, rfl, ho0, hb⟩; refine ⟨_, rfl, ?_⟩; have n0_ := Aside0.mk (Kd.R_below (Kd.R_mono (Kd.R_far (p := ⟨p3, 1, none⟩) (Kd.R_far (p := ⟨p3, 0, none⟩) (Kd.R_types HO594.out p0.out (by decide)) (fun _ hk => hk.2) (.int .i64 t591)) (fun _ hk => hk.2) (.slice Ao9 t592.length co9)) (fun _ h_ => h_.1)) hb); have n1_ := Aside0.mk (Kd.R_lower ho0 (below_size (by repeat (first | (with_reducible first | exact HB.out | apply below_alloc | apply pw_below_drewN | apply below_drew1 | refine below_set ?_ p7.out) | exact HB.out)))); have n2_ := Aside0.mk (blk_below (g := p3) (o := .cells #[.int .i64 t591, .slice Ao9 t592.length co9] 25 (0, 0)) (by refine blk_put (cs := #[.int .i64 t591, .slice none 0 0]) ?_ 1 _ rfl; refine blk_put (cs := #[.int .i64 0, .slice none 0 0]) ?_ 0 _ rfl; exact p0.out) hb); have n3_ := Aside0.mk (below_step (by repeat (first | (with_reducible first | exact HB.out | apply below_alloc | apply pw_below_drewN | apply below_drew1 | refine below_set ?_ p7.out) | exact HB.out)) hb); clear HO594; clear p0; clear HB; have HO594 := n0_; have HO598 := n1_; have p0 := n2_; have HB := n3_; clear n0_ n1_ n2_ n3_; (try clear hb); (try clear hb2); (try clear hk); (try clear hi); (try clear ho0)))
 (try simp only [Act.put, List.setIfInBounds_toArray, List.set_cons_zero, List.set_cons_succ])
 go_cut [28] (fun v28 wc => ∃ (kq : Nat) (r5 : Bool), v28 = .bool r5 ∧ Aside0 (laws_FnHubCount.j0 kq t596 r5 t591 t592 = some r) ∧ Aside0 (kq ≤ k) ∧ Aside0 (Kd.R (Kd.int .i64) 3 wc w.heap.size (fun _ => True) v597 t596) ∧ Aside0 (Kd.R k34 34 wc w.heap.size (fun _ => True) (.slice Ao9 t592.length co9) t592) ∧ Aside0 (wc.heap[p3]? = some (.cells #[.int .i64 t591, (.slice Ao9 t592.length co9)] 25 (0, 0))) ∧ Aside0 (Below w.heap.size w wc))
 case first =>
  have H := HC5.out
  clear HC5
  replace H := Option.bind_eq_some_iff.mp H
  obtain ⟨t599, A110, H⟩ := H
  replace H : ((laws_wkInts.f k t596 t599).bind fun t602 => (if t602 = true then (laws_FnHubCount.j0 k t596 ((t596.length : Int) == 0) t591 t592) else (laws_FnHubCount.j0 k t596 true t591 t592))) = some r := H
  have A11 := Aside0.mk A110
  clear A110
  replace H := Option.bind_eq_some_iff.mp H
  obtain ⟨t602, A120, H⟩ := H
  replace H : (if t602 = true then (laws_FnHubCount.j0 k t596 ((t596.length : Int) == 0) t591 t592) else (laws_FnHubCount.j0 k t596 true t591 t592)) = some r := H
  have A12 := Aside0.mk A120
  clear A120
  by_cases c13 : t602 = true
  case pos =>
   subst c13
   have H1 : (laws_FnHubCount.j0 k t596 ((t596.length : Int) == 0) t591 t592) = some r := by rw [if_pos rfl] at H; exact H
   clear H
   have H := H1
   clear H1
   have H' := Aside0.mk H
   clear H
   have p8 : w10.cell? ⟨p3, 0, none⟩ = some (.int .i64 t591) := (blk_cell p0.out 0).trans rfl
   have p9 : w10.cell? ⟨p3, 1, none⟩ = some (.slice Ao9 t592.length co9) := (blk_cell p0.out 1).trans rfl
   have q0 := blk_frozen p0.out 0
   have q1 := blk_frozen p0.out 1
   go_wp2_with (first | ((with_reducible refine gate_callee (f := 28) rfl ?_); refine goesL_ (some 21) rfl rfl Try.func28 (by kernel_rfl) rfl #[.agg #[.int .i64 t591, .slice Ao9 t592.length co9]] rfl (by (try simp only [List.map_toArray, List.map_cons, List.map_nil]); first | done | rfl | (simp only [List.length_drop, List.length_take]; rfl)) ?_; (with_reducible refine (spec_HubCount.calls k t591 _ _ t592 t599 _ ?side1 ?side2 A11.out).mono ?_); (case side1 => repeat (first | exact (Kd.R_reads' HO594.out).2.2 | (with_reducible refine Kd.C_alloc ?_ _) | (with_reducible refine Kd.C_drewN ?_ _) | (with_reducible refine Kd.C_drew ?_))); (case side2 => exact (Kd.R_reads' HO594.out).2.1); rintro e w15 ⟨v600, rfl, ho0, hb⟩; refine ⟨_, rfl, ?_⟩; have n0_ := Aside0.mk (Kd.R_below HO594.out hb); have n1_ := Aside0.mk (Kd.R_elder' HO598.out (Kd.R_base ho0) hb); have n2_ := Aside0.mk (Kd.R_lower (Kd.R_new' ho0 (Kd.R_lt HO598.out)) (below_size HB.out)); have n3_ := Aside0.mk (blk_below (g := p3) (o := .cells #[.int .i64 t591, .slice Ao9 t592.length co9] 25 (0, 0)) p0.out hb); have n4_ := Aside0.mk (below_step HB.out hb); clear HO594; clear HO598; clear p0; clear HB; have HO594 := n0_; have HO598 := n1_; have HO601 := n2_; have p0 := n3_; have HB := n4_; clear n0_ n1_ n2_ n3_ n4_; (try clear hb); (try clear hb2); (try clear hk); (try clear hi); (try clear ho0); obtain ⟨Ao16, co16, eo16⟩ := Kd.R_slice HO598.out; subst eo16; obtain ⟨Ao17, co17, eo17⟩ := Kd.R_slice HO601.out; subst eo17) | ((with_reducible refine gate_callee (f := 27) rfl ?_); refine goesL_ (some 22) rfl rfl Try.func27 (by kernel_rfl) rfl #[.slice Ao16 t596.length co16, .slice Ao17 t599.length co17] rfl (by (try simp only [List.map_toArray, List.map_cons, List.map_nil]); first | done | rfl | (simp only [List.length_drop, List.length_take]; rfl)) ?_; (with_reducible refine (laws_wkInts.calls k _ _ t596 _ _ t599 true _ ?side1 ?side2 ?side3 ?side4 A12.out).mono ?_); (case side1 => repeat (first | exact (Kd.R_reads' HO598.out).2.2 | (with_reducible refine Kd.C_alloc ?_ _) | (with_reducible refine Kd.C_drewN ?_ _) | (with_reducible refine Kd.C_drew ?_))); (case side2 => exact (Kd.R_reads' HO598.out).2.1); (case side3 => repeat (first | exact (Kd.R_reads' HO601.out).2.2 | (with_reducible refine Kd.C_alloc ?_ _) | (with_reducible refine Kd.C_drewN ?_ _) | (with_reducible refine Kd.C_drew ?_))); (case side4 => exact (Kd.R_reads' HO601.out).2.1); rintro e w' ⟨rfl, ⟨nd, rfl⟩⟩; refine ⟨_, rfl, ?_⟩))
   go_meet
   case rel => exact ⟨_, (((t596.length : Int) == 0)), (by first | rfl | (simp; done) | (simp [*]; done)), H', ⟨by first | omega | exact Nat.le_refl _⟩, ⟨by exact Kd.R_mono HO598.out (fun _ hk => trivial)⟩, ⟨by exact HO594.out⟩, ⟨by exact p0.out⟩, ⟨by repeat (first | (with_reducible first | exact HB.out | apply below_alloc | apply pw_below_drewN | apply below_drew1 | refine below_set ?_ p7.out) | exact HB.out)⟩⟩
  replace c13 := Bool.eq_false_iff.mpr c13
  subst c13
  have H1 : (laws_FnHubCount.j0 k t596 true t591 t592) = some r := by rw [if_neg (show ¬ (false = true) by decide)] at H; exact H
  clear H
  have H := H1
  clear H1
  have H' := Aside0.mk H
  clear H
  have q2 : w10.cell? ⟨p3, 0, none⟩ = some (.int .i64 t591) := (blk_cell p0.out 0).trans rfl
  have q3 : w10.cell? ⟨p3, 1, none⟩ = some (.slice Ao9 t592.length co9) := (blk_cell p0.out 1).trans rfl
  have q4 := blk_frozen p0.out 0
  have q5 := blk_frozen p0.out 1
  go_wp2_with (first | ((with_reducible refine gate_callee (f := 28) rfl ?_); refine goesL_ (some 21) rfl rfl Try.func28 (by kernel_rfl) rfl #[.agg #[.int .i64 t591, .slice Ao9 t592.length co9]] rfl (by (try simp only [List.map_toArray, List.map_cons, List.map_nil]); first | done | rfl | (simp only [List.length_drop, List.length_take]; rfl)) ?_; (with_reducible refine (spec_HubCount.calls k t591 _ _ t592 t599 _ ?side1 ?side2 A11.out).mono ?_); (case side1 => repeat (first | exact (Kd.R_reads' HO594.out).2.2 | (with_reducible refine Kd.C_alloc ?_ _) | (with_reducible refine Kd.C_drewN ?_ _) | (with_reducible refine Kd.C_drew ?_))); (case side2 => exact (Kd.R_reads' HO594.out).2.1); rintro e w19 ⟨v600, rfl, ho0, hb⟩; refine ⟨_, rfl, ?_⟩; have n0_ := Aside0.mk (Kd.R_below HO594.out hb); have n1_ := Aside0.mk (Kd.R_elder' HO598.out (Kd.R_base ho0) hb); have n2_ := Aside0.mk (Kd.R_lower (Kd.R_new' ho0 (Kd.R_lt HO598.out)) (below_size HB.out)); have n3_ := Aside0.mk (blk_below (g := p3) (o := .cells #[.int .i64 t591, .slice Ao9 t592.length co9] 25 (0, 0)) p0.out hb); have n4_ := Aside0.mk (below_step HB.out hb); clear HO594; clear HO598; clear p0; clear HB; have HO594 := n0_; have HO598 := n1_; have HO601 := n2_; have p0 := n3_; have HB := n4_; clear n0_ n1_ n2_ n3_ n4_; (try clear hb); (try clear hb2); (try clear hk); (try clear hi); (try clear ho0); obtain ⟨Ao20, co20, eo20⟩ := Kd.R_slice HO598.out; subst eo20; obtain ⟨Ao21, co21, eo21⟩ := Kd.R_slice HO601.out; subst eo21) | ((with_reducible refine gate_callee (f := 27) rfl ?_); refine goesL_ (some 22) rfl rfl Try.func27 (by kernel_rfl) rfl #[.slice Ao20 t596.length co20, .slice Ao21 t599.length co21] rfl (by (try simp only [List.map_toArray, List.map_cons, List.map_nil]); first | done | rfl | (simp only [List.length_drop, List.length_take]; rfl)) ?_; (with_reducible refine (laws_wkInts.calls k _ _ t596 _ _ t599 false _ ?side1 ?side2 ?side3 ?side4 A12.out).mono ?_); (case side1 => repeat (first | exact (Kd.R_reads' HO598.out).2.2 | (with_reducible refine Kd.C_alloc ?_ _) | (with_reducible refine Kd.C_drewN ?_ _) | (with_reducible refine Kd.C_drew ?_))); (case side2 => exact (Kd.R_reads' HO598.out).2.1); (case side3 => repeat (first | exact (Kd.R_reads' HO601.out).2.2 | (with_reducible refine Kd.C_alloc ?_ _) | (with_reducible refine Kd.C_drewN ?_ _) | (with_reducible refine Kd.C_drew ?_))); (case side4 => exact (Kd.R_reads' HO601.out).2.1); rintro e w' ⟨rfl, ⟨nd, rfl⟩⟩; refine ⟨_, rfl, ?_⟩))
  go_meet
  case rel => exact ⟨_, (true), (by first | rfl | (simp; done) | (simp [*]; done)), H', ⟨by first | omega | exact Nat.le_refl _⟩, ⟨by exact Kd.R_mono HO598.out (fun _ hk => trivial)⟩, ⟨by exact HO594.out⟩, ⟨by exact p0.out⟩, ⟨by repeat (first | (with_reducible first | exact HB.out | apply below_alloc | apply pw_below_drewN | apply below_drew1 | refine below_set ?_ p7.out) | exact HB.out)⟩⟩
 case rest =>
  clear HC5
  try clear c1
  try clear c2
  try clear c2b0
  try clear c2b1
  try clear p2
  try clear c6
  try clear c13
  try clear p8
  try clear p9
  try clear q2
  try clear q3
  try clear q7
  try clear q8
  try clear q0
  try clear q1
  try clear q4
  try clear q5
  try clear q9
  try clear r0
  obtain ⟨kq, r5, rfl, HA, HJ4, HO_4, p1, p0, HB⟩ := hcut
  cases kq with
  | zero => exact absurd HA.out (by simp [laws_FnHubCount.j0])
  | succ kj4 =>
   have H := HA.out
   clear HA
   simp only [laws_FnHubCount.j0] at H
   by_cases c22 : r5 = true
   case pos =>
    subst c22
    have H1 : ((spec_HubCount.f kj4 t591 t592).bind fun t603 => ((laws_wkInts.f kj4 t596 t603).bind fun t606 => (some t606))) = some r := by rw [if_pos rfl] at H; exact H
    clear H
    have H := H1
    clear H1
    replace H := Option.bind_eq_some_iff.mp H
    obtain ⟨t603, A230, H⟩ := H
    replace H : ((laws_wkInts.f kj4 t596 t603).bind fun t606 => (some t606)) = some r := H
    have A23 := Aside0.mk A230
    clear A230
    replace H := Option.bind_eq_some_iff.mp H
    obtain ⟨t606, A240, H⟩ := H
    replace H : (some t606) = some r := H
    have A24 := Aside0.mk A240
    clear A240
    obtain rfl := Option.some.inj H
    have r1 : wc.cell? ⟨p3, 0, none⟩ = some (.int .i64 t591) := (blk_cell p0.out 0).trans rfl
    have r2 : wc.cell? ⟨p3, 1, none⟩ = some (.slice Ao9 t592.length co9) := (blk_cell p0.out 1).trans rfl
    have r3 := blk_frozen p0.out 0
    have r4 := blk_frozen p0.out 1
    go_wp2_with (first | ((with_reducible refine gate_callee (f := 28) rfl ?_); refine goesL_ (some 31) rfl rfl Try.func28 (by kernel_rfl) rfl #[.agg #[.int .i64 t591, .slice Ao9 t592.length co9]] rfl (by (try simp only [List.map_toArray, List.map_cons, List.map_nil]); first | done | rfl | (simp only [List.length_drop, List.length_take]; rfl)) ?_; (with_reducible refine (spec_HubCount.calls kj4 t591 _ _ t592 t603 _ ?side1 ?side2 A23.out).mono ?_); (case side1 => repeat (first | exact (Kd.R_reads' p1.out).2.2 | (with_reducible refine Kd.C_alloc ?_ _) | (with_reducible refine Kd.C_drewN ?_ _) | (with_reducible refine Kd.C_drew ?_))); (case side2 => exact (Kd.R_reads' p1.out).2.1); rintro e w26 ⟨v604, rfl, ho0, hb⟩; refine ⟨_, rfl, ?_⟩; have n0_ := Aside0.mk (Kd.R_elder' HO_4.out (Kd.R_base ho0) hb); have n1_ := Aside0.mk (Kd.R_below p1.out hb); have n2_ := Aside0.mk (Kd.R_lower (Kd.R_new' ho0 (Kd.R_lt HO_4.out)) (below_size HB.out)); have n3_ := Aside0.mk (blk_below (g := p3) (o := .cells #[.int .i64 t591, .slice Ao9 t592.length co9] 25 (0, 0)) p0.out hb); have n4_ := Aside0.mk (below_step HB.out hb); clear HO_4; clear p1; clear p0; clear HB; have HO_4 := n0_; have p1 := n1_; have HO605 := n2_; have p0 := n3_; have HB := n4_; clear n0_ n1_ n2_ n3_ n4_; (try clear hb); (try clear hb2); (try clear hk); (try clear hi); (try clear ho0); obtain ⟨Ao27, co27, eo27⟩ := Kd.R_slice HO_4.out; subst eo27; obtain ⟨Ao28, co28, eo28⟩ := Kd.R_slice HO605.out; subst eo28) | ((with_reducible refine gate_callee (f := 27) rfl ?_); refine goesL_ (some 32) rfl rfl Try.func27 (by kernel_rfl) rfl #[.slice Ao27 t596.length co27, .slice Ao28 t603.length co28] rfl (by (try simp only [List.map_toArray, List.map_cons, List.map_nil]); first | done | rfl | (simp only [List.length_drop, List.length_take]; rfl)) ?_; (with_reducible refine (laws_wkInts.calls kj4 _ _ t596 _ _ t603 t606 _ ?side1 ?side2 ?side3 ?side4 A24.out).mono ?_); (case side1 => repeat (first | exact (Kd.R_reads' HO_4.out).2.2 | (with_reducible refine Kd.C_alloc ?_ _) | (with_reducible refine Kd.C_drewN ?_ _) | (with_reducible refine Kd.C_drew ?_))); (case side2 => exact (Kd.R_reads' HO_4.out).2.1); (case side3 => repeat (first | exact (Kd.R_reads' HO605.out).2.2 | (with_reducible refine Kd.C_alloc ?_ _) | (with_reducible refine Kd.C_drewN ?_ _) | (with_reducible refine Kd.C_drew ?_))); (case side4 => exact (Kd.R_reads' HO605.out).2.1); rintro e w' ⟨rfl, ⟨nd, rfl⟩⟩; refine ⟨_, rfl, ?_⟩))
    go_ret
    exact ⟨by first | rfl | (simp [errW_none, errW_some] <;> rfl) | (simp [*, errW_none, errW_some] <;> rfl), by repeat (first | (with_reducible first | exact HB.out | apply below_alloc | apply pw_below_drewN | apply below_drew1 | refine below_set ?_ p7.out) | exact HB.out)⟩
   replace c22 := Bool.eq_false_iff.mpr c22
   subst c22
   have H1 : (laws_FnHubCount.l0 kj4 t596 0 0 t591 t592) = some r := by rw [if_neg (show ¬ (false = true) by decide)] at H; exact H
   clear H
   have H := H1
   clear H1
   have H' := Aside0.mk H
   clear H
   go_wp2
   go_loopg [5, 6] kj4 (fun kq v5 v6 w' => ∃ (x5_2 : Int) (x6_2 : Int), v5 = .int .i64 x5_2 ∧ v6 = .int .i64 x6_2 ∧ Aside0 (laws_FnHubCount.l0 kq t596 x5_2 x6_2 t591 t592 = some r) ∧ Aside0 (kq ≤ kj4) ∧ Aside0 (Kd.R (Kd.int .i64) 3 w' w.heap.size (fun _ => True) v597 t596) ∧ Aside0 (Kd.R k34 34 w' w.heap.size (fun _ => True) (.slice Ao9 t592.length co9) t592) ∧ Aside0 (w'.heap[p3]? = some (.cells #[.int .i64 t591, (.slice Ao9 t592.length co9)] 25 (0, 0))) ∧ Aside0 (Below w.heap.size w w'))
   case atStart => exact ⟨(0), (0), (by first | rfl | (simp; done) | (simp [*]; done)), (by first | rfl | (simp; done) | (simp [*]; done)), H', ⟨Nat.le_refl _⟩, ⟨by exact HO_4.out⟩, ⟨by exact p1.out⟩, ⟨by exact p0.out⟩, ⟨by repeat (first | (with_reducible first | exact HB.out | apply below_alloc | apply pw_below_drewN | apply below_drew1 | refine below_set ?_ p7.out) | exact HB.out)⟩⟩
   case round =>
    clear H'
    try clear c1
    try clear c2
    try clear c2b0
    try clear c2b1
    try clear p2
    try clear c6
    try clear c13
    try clear c22
    try clear c25
    try clear c26
    try clear c27
    try clear c28
    try clear p8
    try clear p9
    try clear q2
    try clear q3
    try clear r1
    try clear r2
    try clear q7
    try clear q8
    try clear q0
    try clear q1
    try clear q4
    try clear q5
    try clear r3
    try clear r4
    try clear q9
    try clear r0
    try clear p2
    obtain ⟨x5_2, x6_2, rfl, rfl, HA, HK2, HO_4, p1, p0, HB⟩ := hrel
    cases gk with
    | zero => exact absurd HA.out (by simp [laws_FnHubCount.l0])
    | succ k2 =>
     have H := HA.out
     clear HA
     simp only [laws_FnHubCount.l0] at H
     by_cases c29 : x6_2 < t591
     case pos =>
      rw [if_pos c29] at H
      have c29b0 : decide (x6_2 < t591) = true := decide_eq_true c29
      clear c29
      by_cases c30 : 0 ≤ x6_2
      case neg =>
       rw [if_neg c30] at H
       exact absurd H (by simp)
      rw [if_pos c30] at H
      have c30b0 : decide (0 ≤ x6_2) = true := decide_eq_true c30
      clear c30
      by_cases c31 : x6_2 < (t596.length : Int)
      case neg =>
       rw [if_neg c31] at H
       exact absurd H (by simp)
      rw [if_pos c31] at H
      have c31b0 : decide (x6_2 < (t596.length : Int)) = true := decide_eq_true c31
      clear c31
      have H' := Aside0.mk H
      clear H
      have r6 : wr.cell? ⟨p3, 0, none⟩ = some (.int .i64 t591) := (blk_cell p0.out 0).trans rfl
      have r7 : wr.cell? ⟨p3, 1, none⟩ = some (.slice Ao9 t592.length co9) := (blk_cell p0.out 1).trans rfl
      have r8 := blk_frozen p0.out 0
      have r9 := blk_frozen p0.out 1
      obtain ⟨Ao33, co33, eo33⟩ := Kd.R_slice HO_4.out
      subst eo33
      have p607 : 0 ≤ (x6_2 : Int) := of_decide_eq_true (by first | (with_reducible assumption) | assumption)
      have q607 : x6_2 < (t596.length : Int) := of_decide_eq_true (by first | (with_reducible assumption) | assumption)
      obtain ⟨ad607, e607, s0⟩ := Kd.at_int (Kd.R_reads' HO_4.out).2.2 x6_2 p607 q607
      cases e607
      replace p607 := eq_true p607
      replace q607 := eq_true q607
      go_wp2
      go_roundg k2
      case measure => have := HJ4.out; have := HK2.out; omega
      case rel => exact ⟨(wrap64 (x5_2 + (rd t596 x6_2))), (wrap64 (x6_2 + 1)), (by first | rfl | (simp; done) | (simp [*]; done)), (by first | rfl | (simp; done) | (simp [*]; done)), H', ⟨by have := HJ4.out; have := HK2.out; omega⟩, ⟨by exact HO_4.out⟩, ⟨by exact p1.out⟩, ⟨by exact p0.out⟩, ⟨by repeat (first | (with_reducible first | exact HB.out | apply below_alloc | apply pw_below_drewN | apply below_drew1 | refine below_set ?_ p7.out) | exact HB.out)⟩⟩
     rw [if_neg c29] at H
     have c29b0 : decide (x6_2 < t591) = false := decide_eq_false c29
     clear c29
     have H' := Aside0.mk H
     clear H
     have s1 : wr.cell? ⟨p3, 0, none⟩ = some (.int .i64 t591) := (blk_cell p0.out 0).trans rfl
     have s2 : wr.cell? ⟨p3, 1, none⟩ = some (.slice Ao9 t592.length co9) := (blk_cell p0.out 1).trans rfl
     have s3 := blk_frozen p0.out 0
     have s4 := blk_frozen p0.out 1
     go_wp2
     go_loopg [7, 8] k2 (fun kq v7 v8 w' => ∃ (x7_3 : Int) (x8_3 : Int), v7 = .int .i64 x7_3 ∧ v8 = .int .i64 x8_3 ∧ Aside0 (laws_FnHubCount.l1 kq x5_2 x7_3 x8_3 t591 t592 = some r) ∧ Aside0 (kq ≤ k2) ∧ Aside0 (Kd.R k34 34 w' w.heap.size (fun _ => True) (.slice Ao9 t592.length co9) t592) ∧ Aside0 (w'.heap[p3]? = some (.cells #[.int .i64 t591, (.slice Ao9 t592.length co9)] 25 (0, 0))) ∧ Aside0 (Below w.heap.size w w'))
     case atStart => exact ⟨(0), (0), (by first | rfl | (simp; done) | (simp [*]; done)), (by first | rfl | (simp; done) | (simp [*]; done)), H', ⟨Nat.le_refl _⟩, ⟨by exact p1.out⟩, ⟨by exact p0.out⟩, ⟨by repeat (first | (with_reducible first | exact HB.out | apply below_alloc | apply pw_below_drewN | apply below_drew1 | refine below_set ?_ p7.out) | exact HB.out)⟩⟩
     case round =>
      clear H'
      try clear c1
      try clear c2
      try clear c2b0
      try clear c2b1
      try clear p2
      try clear c3
      try clear c6
      try clear p6
      try clear q6
      try clear hx6
      try clear c13
      try clear c22
      try clear c25
      try clear c26
      try clear c27
      try clear c28
      try clear c29
      try clear c29b0
      try clear c30
      try clear c30b0
      try clear c31
      try clear c31b0
      try clear p8
      try clear p9
      try clear q2
      try clear q3
      try clear r1
      try clear r2
      try clear r6
      try clear r7
      try clear s1
      try clear s2
      try clear q7
      try clear q8
      try clear q0
      try clear q1
      try clear q4
      try clear q5
      try clear r3
      try clear r4
      try clear r8
      try clear r9
      try clear s3
      try clear s4
      try clear q9
      try clear r0
      try clear s0
      try clear p2
      try clear p607
      try clear q607
      obtain ⟨x7_3, x8_3, rfl, rfl, HA, HK3, p1, p0, HB⟩ := hrel
      cases gk with
      | zero => exact absurd HA.out (by simp [laws_FnHubCount.l1])
      | succ k3 =>
       have H := HA.out
       clear HA
       simp only [laws_FnHubCount.l1] at H
       by_cases c35 : x8_3 < t591
       case neg =>
        rw [if_neg c35] at H
        have c35b0 : decide (x8_3 < t591) = false := decide_eq_false c35
        clear c35
        obtain rfl := Option.some.inj H
        have hcz50_0 : wr.cell? ⟨p3, 0, none⟩ = some (.int .i64 t591) := (blk_cell p0.out 0).trans rfl
        have hcz50_1 : wr.cell? ⟨p3, 1, none⟩ = some (.slice Ao9 t592.length co9) := (blk_cell p0.out 1).trans rfl
        have hfz50_0 := blk_frozen p0.out 0
        have hfz50_1 := blk_frozen p0.out 1
        go_wp2
        go_ret
        exact ⟨by first | rfl | (simp [errW_none, errW_some] <;> rfl) | (simp [*, errW_none, errW_some] <;> rfl), by repeat (first | (with_reducible first | exact HB.out | apply below_alloc | apply pw_below_drewN | apply below_drew1 | refine below_set ?_ p7.out) | exact HB.out)⟩
       rw [if_pos c35] at H
       have c35b0 : decide (x8_3 < t591) = true := decide_eq_true c35
       clear c35
       have H' := Aside0.mk H
       clear H
       have s5 : wr.cell? ⟨p3, 0, none⟩ = some (.int .i64 t591) := (blk_cell p0.out 0).trans rfl
       have s6 : wr.cell? ⟨p3, 1, none⟩ = some (.slice Ao9 t592.length co9) := (blk_cell p0.out 1).trans rfl
       have s7 := blk_frozen p0.out 0
       have s8 := blk_frozen p0.out 1
       go_wp2
       go_loopg [7, 9] k3 (fun kq v7 v9 w' => ∃ (x7_4 : Int) (x9_4 : Int), v7 = .int .i64 x7_4 ∧ v9 = .int .i64 x9_4 ∧ Aside0 (laws_FnHubCount.l2 kq x5_2 x7_4 x8_3 x9_4 t591 t592 = some r) ∧ Aside0 (kq ≤ k3) ∧ Aside0 (Kd.R k34 34 w' w.heap.size (fun _ => True) (.slice Ao9 t592.length co9) t592) ∧ Aside0 (w'.heap[p3]? = some (.cells #[.int .i64 t591, (.slice Ao9 t592.length co9)] 25 (0, 0))) ∧ Aside0 (Below w.heap.size w w'))
       case atStart => exact ⟨(x7_3), (0), (by first | rfl | (simp; done) | (simp [*]; done)), (by first | rfl | (simp; done) | (simp [*]; done)), H', ⟨Nat.le_refl _⟩, ⟨by exact p1.out⟩, ⟨by exact p0.out⟩, ⟨by repeat (first | (with_reducible first | exact HB.out | apply below_alloc | apply pw_below_drewN | apply below_drew1 | refine below_set ?_ p7.out) | exact HB.out)⟩⟩
       case round =>
        clear H'
        try clear c1
        try clear c2
        try clear c2b0
        try clear c2b1
        try clear p2
        try clear c3
        try clear c6
        try clear p6
        try clear q6
        try clear hx6
        try clear c13
        try clear c22
        try clear c25
        try clear c26
        try clear c27
        try clear c28
        try clear c29
        try clear c29b0
        try clear c30
        try clear c30b0
        try clear c31
        try clear c31b0
        try clear c35
        try clear c35b0
        try clear p8
        try clear p9
        try clear q2
        try clear q3
        try clear r1
        try clear r2
        try clear r6
        try clear r7
        try clear s1
        try clear s2
        try clear s5
        try clear s6
        try clear q7
        try clear q8
        try clear q0
        try clear q1
        try clear q4
        try clear q5
        try clear r3
        try clear r4
        try clear r8
        try clear r9
        try clear s3
        try clear s4
        try clear s7
        try clear s8
        try clear q9
        try clear r0
        try clear s0
        try clear p2
        try clear p6
        try clear p607
        try clear q6
        try clear q607
        obtain ⟨x7_4, x9_4, rfl, rfl, HA, HK4, p1, p0, HB⟩ := hrel
        cases gk with
        | zero => exact absurd HA.out (by simp [laws_FnHubCount.l2])
        | succ k4 =>
         have H := HA.out
         clear HA
         simp only [laws_FnHubCount.l2] at H
         by_cases c37 : x9_4 < t591
         case neg =>
          rw [if_neg c37] at H
          have c37b0 : decide (x9_4 < t591) = false := decide_eq_false c37
          clear c37
          have H' := Aside0.mk H
          clear H
          have hcz49_0 : wr.cell? ⟨p3, 0, none⟩ = some (.int .i64 t591) := (blk_cell p0.out 0).trans rfl
          have hcz49_1 : wr.cell? ⟨p3, 1, none⟩ = some (.slice Ao9 t592.length co9) := (blk_cell p0.out 1).trans rfl
          have hfz49_0 := blk_frozen p0.out 0
          have hfz49_1 := blk_frozen p0.out 1
          go_wp2
          go_roundg k4
          case measure => have := HJ4.out; have := HK2.out; have := HK3.out; have := HK4.out; omega
          case rel => exact ⟨(x7_4), (wrap64 (x8_3 + 1)), (by first | rfl | (simp; done) | (simp [*]; done)), (by first | rfl | (simp; done) | (simp [*]; done)), H', ⟨by have := HJ4.out; have := HK2.out; have := HK3.out; have := HK4.out; omega⟩, ⟨by exact p1.out⟩, ⟨by exact p0.out⟩, ⟨by repeat (first | (with_reducible first | exact HB.out | apply below_alloc | apply pw_below_drewN | apply below_drew1 | refine below_set ?_ p7.out) | exact HB.out)⟩⟩
         rw [if_pos c37] at H
         have c37b0 : decide (x9_4 < t591) = true := decide_eq_true c37
         clear c37
         replace H := Option.bind_eq_some_iff.mp H
         obtain ⟨⟨t608, t611⟩, A380, H⟩ := H
         replace H : (if t611 = true then (if (t608.length : Int) > 0 then (laws_FnHubCount.l2 k4 x5_2 (wrap64 ((wrap64 (x7_4 + (t608.length : Int))) - 1)) x8_3 (wrap64 (x9_4 + 1)) t591 t592) else (laws_FnHubCount.l2 k4 x5_2 x7_4 x8_3 (wrap64 (x9_4 + 1)) t591 t592)) else (laws_FnHubCount.l2 k4 x5_2 x7_4 x8_3 (wrap64 (x9_4 + 1)) t591 t592)) = some r := H
         have A38 := Aside0.mk A380
         clear A380
         by_cases c39 : t611 = true
         case neg =>
          replace c39 := Bool.eq_false_iff.mpr c39
          subst c39
          have H1 : (laws_FnHubCount.l2 k4 x5_2 x7_4 x8_3 (wrap64 (x9_4 + 1)) t591 t592) = some r := by rw [if_neg (show ¬ (false = true) by decide)] at H; exact H
          clear H
          have H := H1
          clear H1
          have H' := Aside0.mk H
          clear H
          have hcz47_0 : wr.cell? ⟨p3, 0, none⟩ = some (.int .i64 t591) := (blk_cell p0.out 0).trans rfl
          have hcz47_1 : wr.cell? ⟨p3, 1, none⟩ = some (.slice Ao9 t592.length co9) := (blk_cell p0.out 1).trans rfl
          have hfz47_0 := blk_frozen p0.out 0
          have hfz47_1 := blk_frozen p0.out 1
          go_wp2_with (first | ((with_reducible refine gate_callee (f := 18) rfl ?_); refine goesL_ (some 61) rfl rfl Try.func18 (by kernel_rfl) rfl #[.agg #[.int .i64 t591, .slice Ao9 t592.length co9], .int .i64 x8_3, .int .i64 x9_4] rfl (by (try simp only [List.map_toArray, List.map_cons, List.map_nil]); first | done | rfl | (simp only [List.length_drop, List.length_take]; rfl)) ?_; (with_reducible refine (impl_NearWalk.calls k4 t591 _ _ t592 x8_3 x9_4 t608 false _ ?side1 ?side2 A38.out).mono ?_); (case side1 => repeat (first | exact (Kd.R_reads' p1.out).2.2 | (with_reducible refine Kd.C_alloc ?_ _) | (with_reducible refine Kd.C_drewN ?_ _) | (with_reducible refine Kd.C_drew ?_))); (case side2 => exact (Kd.R_reads' p1.out).2.1); rintro e w48 ⟨v609, rfl, ho0, hb⟩; refine ⟨_, rfl, ?_⟩; have n0_ := Aside0.mk (Kd.R_below p1.out hb); have n1_ := Aside0.mk (Kd.R_lower ho0 (below_size HB.out)); have n2_ := Aside0.mk (blk_below (g := p3) (o := .cells #[.int .i64 t591, .slice Ao9 t592.length co9] 25 (0, 0)) p0.out hb); have n3_ := Aside0.mk (below_step HB.out hb); clear p1; clear p0; clear HB; have p1 := n0_; have HO610 := n1_; have p0 := n2_; have HB := n3_; clear n0_ n1_ n2_ n3_; (try clear hb); (try clear hb2); (try clear hk); (try clear hi); (try clear ho0)))
          go_roundg k4
          case measure => have := HJ4.out; have := HK2.out; have := HK3.out; have := HK4.out; omega
          case rel => exact ⟨(x7_4), (wrap64 (x9_4 + 1)), (by first | rfl | (simp; done) | (simp [*]; done)), (by first | rfl | (simp; done) | (simp [*]; done)), H', ⟨by have := HJ4.out; have := HK2.out; have := HK3.out; have := HK4.out; omega⟩, ⟨by exact p1.out⟩, ⟨by exact p0.out⟩, ⟨by repeat (first | (with_reducible first | exact HB.out | apply below_alloc | apply pw_below_drewN | apply below_drew1 | refine below_set ?_ p7.out) | exact HB.out)⟩⟩
         subst c39
         have H1 : (if (t608.length : Int) > 0 then (laws_FnHubCount.l2 k4 x5_2 (wrap64 ((wrap64 (x7_4 + (t608.length : Int))) - 1)) x8_3 (wrap64 (x9_4 + 1)) t591 t592) else (laws_FnHubCount.l2 k4 x5_2 x7_4 x8_3 (wrap64 (x9_4 + 1)) t591 t592)) = some r := by rw [if_pos rfl] at H; exact H
         clear H
         have H := H1
         clear H1
         by_cases c40 : (t608.length : Int) > 0
         case neg =>
          rw [if_neg c40] at H
          have c40b0 : decide (0 < (t608.length : Int)) = false := decide_eq_false c40
          have c40b1 : decide (0 < t608.length) = false := decide_eq_false (by omega)
          clear c40
          have H' := Aside0.mk H
          clear H
          have hcz44_0 : wr.cell? ⟨p3, 0, none⟩ = some (.int .i64 t591) := (blk_cell p0.out 0).trans rfl
          have hcz44_1 : wr.cell? ⟨p3, 1, none⟩ = some (.slice Ao9 t592.length co9) := (blk_cell p0.out 1).trans rfl
          have hfz44_0 := blk_frozen p0.out 0
          have hfz44_1 := blk_frozen p0.out 1
          go_wp2_with (first | ((with_reducible refine gate_callee (f := 18) rfl ?_); refine goesL_ (some 61) rfl rfl Try.func18 (by kernel_rfl) rfl #[.agg #[.int .i64 t591, .slice Ao9 t592.length co9], .int .i64 x8_3, .int .i64 x9_4] rfl (by (try simp only [List.map_toArray, List.map_cons, List.map_nil]); first | done | rfl | (simp only [List.length_drop, List.length_take]; rfl)) ?_; (with_reducible refine (impl_NearWalk.calls k4 t591 _ _ t592 x8_3 x9_4 t608 true _ ?side1 ?side2 A38.out).mono ?_); (case side1 => repeat (first | exact (Kd.R_reads' p1.out).2.2 | (with_reducible refine Kd.C_alloc ?_ _) | (with_reducible refine Kd.C_drewN ?_ _) | (with_reducible refine Kd.C_drew ?_))); (case side2 => exact (Kd.R_reads' p1.out).2.1); rintro e w45 ⟨v609, rfl, ho0, hb⟩; refine ⟨_, rfl, ?_⟩; have n0_ := Aside0.mk (Kd.R_below p1.out hb); have n1_ := Aside0.mk (Kd.R_lower ho0 (below_size HB.out)); have n2_ := Aside0.mk (blk_below (g := p3) (o := .cells #[.int .i64 t591, .slice Ao9 t592.length co9] 25 (0, 0)) p0.out hb); have n3_ := Aside0.mk (below_step HB.out hb); clear p1; clear p0; clear HB; have p1 := n0_; have HO610 := n1_; have p0 := n2_; have HB := n3_; clear n0_ n1_ n2_ n3_; (try clear hb); (try clear hb2); (try clear hk); (try clear hi); (try clear ho0); obtain ⟨Ao46, co46, eo46⟩ := Kd.R_slice HO610.out; subst eo46))
          go_roundg k4
          case measure => have := HJ4.out; have := HK2.out; have := HK3.out; have := HK4.out; omega
          case rel => exact ⟨(x7_4), (wrap64 (x9_4 + 1)), (by first | rfl | (simp; done) | (simp [*]; done)), (by first | rfl | (simp; done) | (simp [*]; done)), H', ⟨by have := HJ4.out; have := HK2.out; have := HK3.out; have := HK4.out; omega⟩, ⟨by exact p1.out⟩, ⟨by exact p0.out⟩, ⟨by repeat (first | (with_reducible first | exact HB.out | apply below_alloc | apply pw_below_drewN | apply below_drew1 | refine below_set ?_ p7.out) | exact HB.out)⟩⟩
         rw [if_pos c40] at H
         have c40b0 : decide (0 < (t608.length : Int)) = true := decide_eq_true c40
         have c40b1 : decide (0 < t608.length) = true := decide_eq_true (by omega)
         clear c40
         have H' := Aside0.mk H
         clear H
         have hcz41_0 : wr.cell? ⟨p3, 0, none⟩ = some (.int .i64 t591) := (blk_cell p0.out 0).trans rfl
         have hcz41_1 : wr.cell? ⟨p3, 1, none⟩ = some (.slice Ao9 t592.length co9) := (blk_cell p0.out 1).trans rfl
         have hfz41_0 := blk_frozen p0.out 0
         have hfz41_1 := blk_frozen p0.out 1
         go_wp2_with (first | ((with_reducible refine gate_callee (f := 18) rfl ?_); refine goesL_ (some 61) rfl rfl Try.func18 (by kernel_rfl) rfl #[.agg #[.int .i64 t591, .slice Ao9 t592.length co9], .int .i64 x8_3, .int .i64 x9_4] rfl (by (try simp only [List.map_toArray, List.map_cons, List.map_nil]); first | done | rfl | (simp only [List.length_drop, List.length_take]; rfl)) ?_; (with_reducible refine (impl_NearWalk.calls k4 t591 _ _ t592 x8_3 x9_4 t608 true _ ?side1 ?side2 A38.out).mono ?_); (case side1 => repeat (first | exact (Kd.R_reads' p1.out).2.2 | (with_reducible refine Kd.C_alloc ?_ _) | (with_reducible refine Kd.C_drewN ?_ _) | (with_reducible refine Kd.C_drew ?_))); (case side2 => exact (Kd.R_reads' p1.out).2.1); rintro e w42 ⟨v609, rfl, ho0, hb⟩; refine ⟨_, rfl, ?_⟩; have n0_ := Aside0.mk (Kd.R_below p1.out hb); have n1_ := Aside0.mk (Kd.R_lower ho0 (below_size HB.out)); have n2_ := Aside0.mk (blk_below (g := p3) (o := .cells #[.int .i64 t591, .slice Ao9 t592.length co9] 25 (0, 0)) p0.out hb); have n3_ := Aside0.mk (below_step HB.out hb); clear p1; clear p0; clear HB; have p1 := n0_; have HO610 := n1_; have p0 := n2_; have HB := n3_; clear n0_ n1_ n2_ n3_; (try clear hb); (try clear hb2); (try clear hk); (try clear hi); (try clear ho0); obtain ⟨Ao43, co43, eo43⟩ := Kd.R_slice HO610.out; subst eo43))
         go_roundg k4
         case measure => have := HJ4.out; have := HK2.out; have := HK3.out; have := HK4.out; omega
         case rel => exact ⟨(wrap64 ((wrap64 (x7_4 + (t608.length : Int))) - 1)), (wrap64 (x9_4 + 1)), (by first | rfl | (simp; done) | (simp [*]; done)), (by first | rfl | (simp; done) | (simp [*]; done)), H', ⟨by have := HJ4.out; have := HK2.out; have := HK3.out; have := HK4.out; omega⟩, ⟨by exact p1.out⟩, ⟨by exact p0.out⟩, ⟨by repeat (first | (with_reducible first | exact HB.out | apply below_alloc | apply pw_below_drewN | apply below_drew1 | refine below_set ?_ p7.out) | exact HB.out)⟩⟩
end Go.Proofs.Ytljdcinpjnijcaa.Pr
end
section
set_option linter.unusedVariables false
namespace Go.Proofs.YtljdcinpjnijcaaW.PrintWords
open Go.RowKit Go.ChangeShapes Go.WideShapes
def Opens (P : Program) {α : Type} (d : Kd α) (t : TypeId) (wf : α → Prop) : Prop :=
 ∀ {H : Type} {enc : TypeId × Value → H} {w : World} {sp : Nat → Bool} {held : Bool} {fuel : Nat} {cs : List Value} {x : DataW H × List MemPlace}, DataW.trod enc P w 0 sp held fuel t cs = some x → ∃ a, d.K w a cs ∧ wf a
section
variable {P : Program} {α β : Type}
theorem opens_int {t : TypeId} {k : IntKind} (ht : P.underlying t = some (.int k)) : Opens P (Kd.int k) t (fun n => (Lit.int k n).wf = true) := by
 intro H enc w sp held fuel cs x h
 obtain ⟨n, rfl, _, hw⟩ := DataW.trod_int ht h
 exact ⟨n, rfl, hw⟩
theorem addr_add_add (a : Addr) (i j : Nat) : (a.add i).add j = a.add (i + j) := by
 unfold Addr.add
 by_cases hi : i = 0 <;> by_cases hj : j = 0 <;> simp [hi, hj, Nat.add_assoc]
theorem opens_slice [Inhabited α] {d : Kd α} {t e : TypeId} {wf : α → Prop} (ht : P.underlying t = some (.slice e)) (hc : P.cellsOf e = d.sz) (he : Opens P d e wf) : Opens P (Kd.slice e d) t (fun l => l.length ≤ maxLen ∧ ∀ x ∈ l, wf x) := by
 intro H enc w sp held fuel cs x h
 rcases Deep.open_slice ht h with ⟨rfl, _⟩ | ⟨a, len, cap, m, n, D, Pl, rfl, _, hl, hm, hmm, _, hel⟩
 ·exact ⟨[], ⟨none, 0, rfl, Nat.le_refl _, Kd.C_nil d w⟩, by simp, by simp⟩
 ·have hlm : len ≤ m := by rw [hmm]; split <;> omega
  have hx : ∀ i, i < len → ∃ y : α, (∃ c, c.length = d.sz ∧ d.K w y c ∧ ∀ j u, c[j]? = some u → w.cell? (a.add (i * d.sz + j)) = some u) ∧ wf y := by
   intro i hi
   obtain ⟨cs', hcs, htr⟩ := hel i (by omega)
   obtain ⟨y, hk, hw⟩ := he htr
   obtain ⟨_, hlen, hcell⟩ := World.cells?_some hcs
   refine ⟨y, ⟨cs', d.K_len hk, hk, fun j u hu => ?_⟩, hw⟩
   have hj : j < P.cellsOf e := by
    have := (List.getElem?_eq_some_iff.1 hu).1
    omega
   have := hcell j hj
   rw [addr_add_add, hc, hu] at this
   exact this
  obtain ⟨f, hf⟩ := Deep.choose_lt hx
  refine ⟨(List.range len).map f, ⟨some a, cap, by simp, by simpa using hl, by simp, by simp only [maxLen] at hm; simp; omega, fun _ => ⟨a, rfl, fun j p hj => ?_⟩⟩, by simp; omega, fun y hy => ?_⟩
  ·obtain ⟨hj1, hj2⟩ := List.getElem?_eq_some_iff.1 hj
   simp at hj1 hj2
   subst hj2
   exact (hf j hj1).1
  ·simp only [List.mem_map, List.mem_range] at hy
   obtain ⟨i, hi, rfl⟩ := hy
   exact (hf i hi).2
end
end Go.Proofs.YtljdcinpjnijcaaW.PrintWords
end
section
namespace Go.Proofs.Ytljdcinpjnijcaa.Pr
open Go.RowKit Go.Proofs.YtljdcinpjnijcaaW.PrintWords Go.Proofs.YtljdcinpjnijcaaW.PrintLast Go.Proofs.YtljdcinpjnijcaaW.PrintMore
def laws_FnHubCount.Asked : Prop := ∀ (l0 : List Int), (l0.length ≤ maxLen ∧ ∀ x_ ∈ l0, (Lit.int .u8 x_).wf = true) → ∃ k, laws_FnHubCount.f k l0 = some true
end Go.Proofs.Ytljdcinpjnijcaa.Pr
end
section
set_option linter.unusedVariables false
namespace Go.Proofs.YtljdcinpjnijcaaW.PrintWords
open Go.RowKit
section
variable {α β : Type}
theorem Ev.pos {c : Prop} [Decidable c] {t e : Nat → Option α} {r : α} (h : c) (k : Ev t r) : Ev (fun n => if c then t n else e n) r := by
 simp only [if_pos h]; exact k
theorem Ev.neg {c : Prop} [Decidable c] {t e : Nat → Option α} {r : α} (h : ¬ c) (k : Ev e r) : Ev (fun n => if c then t n else e n) r := by
 simp only [if_neg h]; exact k
theorem Ev.bind0 {g : Option α} {f : Nat → α → Option β} {a : α} {r : β} (h : g = some a) (k : Ev (fun n => f n a) r) : Ev (fun n => g.bind (f n)) r := by
 subst h; exact k
theorem Ev.is {a r : α} (h : a = r) : Ev (fun _ => some a) r := by subst h; exact Ev.now _
theorem Ev.cast {g : Nat → Option α} {a r : α} (k : Ev g a) (h : a = r) : Ev g r := h ▸ k
theorem Ev.go {g f : Nat → Option α} {r : α} (k : Ev f r) (h : ∀ k, g (k + 1) = f k) : Ev g r := Ev.step h k
end
theorem w64 {n : Int} (h : -9223372036854775808 ≤ n) (h' : n ≤ 9223372036854775807) : wrap64 n = n := by unfold wrap64; omega
theorem rd_nat {l : List Int} {i : Nat} (h : i < l.length) : rd l (i : Int) = l[i] := by simp [rd, h]
end Go.Proofs.YtljdcinpjnijcaaW.PrintWords
end
section
set_option linter.unusedSimpArgs false
set_option linter.unusedVariables false
namespace Go.Proofs.Ytljdcinpjnijcaa.Pure
open Go.RowKit Go.Proofs.Ytljdcinpjnijcaa.Pr Go.Proofs.YtljdcinpjnijcaaW.PrintWords Go.Proofs.YtljdcinpjnijcaaW.PrintLast Go.Proofs.YtljdcinpjnijcaaW.PrintMore
def inB (x a b : Int) : Bool := decide (a ≤ x) && decide (x ≤ b)
theorem inB_iff {x a b : Int} : inB x a b = true ↔ a ≤ x ∧ x ≤ b := by simp [inB]
theorem in1 (x a b : Int) : spec_l1In.f x a b = some (inB x a b) := by
 unfold spec_l1In.f inB
 by_cases h : x ≥ a
 case pos => rw [if_pos h]; simp [show a ≤ x from h]
 rw [if_neg h]; simp [show ¬ a ≤ x from h]
theorem up1 {i n : Nat} (h : i < n) (hn : n ≤ maxLen) : wrap64 ((i : Int) + 1) = ((i + 1 : Nat) : Int) := by
 simp only [maxLen] at hn
 rw [w64 (by omega) (by omega)]; omega
theorem rdn {l : List Int} {i : Nat} (h : i < l.length) : rd l (i : Int) = l[i] := rd_nat h
def nth (l : List Int) (i : Nat) : Int := l.getD i 0
theorem rdg {l : List Int} (i : Nat) : rd l (i : Int) = nth l i := by simp [rd, nth]
theorem nth_get {l : List Int} {i : Nat} (h : i < l.length) : nth l i = l[i] := by simp [nth, h]
theorem getD_mem {l : List Int} {i : Nat} (h : i < l.length) : nth l i ∈ l := by
 rw [nth_get h]
 exact List.getElem_mem h
theorem drop_cons {α : Type} {l : List α} {i : Nat} (h : i < l.length) : l.drop i = l[i] :: l.drop (i + 1) := List.drop_eq_getElem_cons h
def Pv {α : Type} (g : Nat → Option α) (P : α → Prop) : Prop := ∃ r, Ev g r ∧ P r
section
variable {α β : Type} {P : α → Prop}
theorem Pv.of {g : Nat → Option α} {r : α} (h : Ev g r) (hp : P r) : Pv g P := ⟨r, h, hp⟩
theorem Pv.now {a : α} (h : P a) : Pv (fun _ => some a) P := ⟨a, Ev.now a, h⟩
theorem Pv.pos {c : Prop} [Decidable c] {t e : Nat → Option α} (h : c) (k : Pv t P) : Pv (fun n => if c then t n else e n) P := by
 obtain ⟨r, k, hp⟩ := k
 exact ⟨r, Ev.pos h k, hp⟩
theorem Pv.neg {c : Prop} [Decidable c] {t e : Nat → Option α} (h : ¬ c) (k : Pv e P) : Pv (fun n => if c then t n else e n) P := by
 obtain ⟨r, k, hp⟩ := k
 exact ⟨r, Ev.neg h k, hp⟩
theorem Pv.ite {c : Prop} [Decidable c] {t e : Nat → Option α} (h : c → Pv t P) (k : ¬ c → Pv e P) : Pv (fun n => if c then t n else e n) P := by
 by_cases hc : c
 case neg => exact Pv.neg hc (k hc)
 exact Pv.pos hc (h hc)
theorem Pv.bind {g : Nat → Option β} {f : Nat → β → Option α} {R : β → Prop} (h : Pv g R) (k : ∀ b, R b → Pv (fun n => f n b) P) : Pv (fun n => (g n).bind (f n)) P := by
 obtain ⟨b, h, hb⟩ := h
 obtain ⟨r, k, hp⟩ := k b hb
 exact ⟨r, Ev.bind h k, hp⟩
theorem Pv.bind0 {g : Option β} {f : Nat → β → Option α} {b : β} (h : g = some b) (k : Pv (fun n => f n b) P) : Pv (fun n => g.bind (f n)) P := by
 obtain ⟨r, k, hp⟩ := k
 exact ⟨r, Ev.bind0 h k, hp⟩
theorem Pv.go {g f : Nat → Option α} (k : Pv f P) (h : ∀ k, g (k + 1) = f k) : Pv g P := by
 obtain ⟨r, k, hp⟩ := k
 exact ⟨r, Ev.go k h, hp⟩
theorem Pv.mono {g : Nat → Option α} {R : α → Prop} (h : Pv g R) (k : ∀ a, R a → P a) : Pv g P := by
 obtain ⟨r, h, hr⟩ := h
 exact ⟨r, h, k r hr⟩
end
theorem Pv.rounds {g : Nat → Option Bool} (h : Pv g (· = true)) : ∃ k, g k = some true := by
 obtain ⟨r, h, rfl⟩ := h
 exact Ev.rounds h
end Go.Proofs.Ytljdcinpjnijcaa.Pure
end
section
set_option linter.unusedSimpArgs false
set_option linter.unusedVariables false
namespace Go.Proofs.Ytljdcinpjnijcaa.Pure
open Go.RowKit Go.Proofs.Ytljdcinpjnijcaa.Pr Go.Proofs.YtljdcinpjnijcaaW.PrintWords Go.Proofs.YtljdcinpjnijcaaW.PrintLast Go.Proofs.YtljdcinpjnijcaaW.PrintMore
section
variable {t e : Nat → Option Bool} {r : Bool}
theorem Ev.and {b : Bool} (k : Ev t r) : Ev (fun n => if b = true then t n else some false) (b && r) := by
 cases b with
 | false => exact Ev.neg (by simp) (Ev.now _)
 | true => exact Ev.pos rfl k
theorem Ev.nand {c : Prop} [Decidable c] (k : Ev t r) : Ev (fun n => if c then some false else t n) (!decide c && r) := by
 by_cases h : c
 case pos => exact Ev.pos h (Ev.is (by simp [h]))
 exact Ev.neg h (k.cast (by simp [h]))
end
abbrev Arc := S34
def arc (l : List Arc) (i : Nat) : Arc := rd_T34 l (i : Int)
theorem rda (l : List Arc) (i : Nat) : rd_T34 l (i : Int) = arc l i := rfl
theorem arc_get {l : List Arc} {i : Nat} (h : i < l.length) : arc l i = l[i] := by simp [arc, rd_T34, h]
theorem arc_mem {l : List Arc} {i : Nat} (h : i < l.length) : arc l i ∈ l := by
 rw [arc_get h]
 exact List.getElem_mem h
attribute [irreducible] arc
def okArcW (n : Int) (a : Arc) : Bool := inB a.f0 0 (wrap64 (n - 1)) && (inB a.f1 0 (wrap64 (n - 1)) && (!decide (a.f0 = a.f1) && (inB a.f2 0 99 && (inB a.f3 0 99 && inB a.f4 0 9))))
theorem l1Ok_l (n : Int) (l : List Arc) (hm : l.length ≤ maxLen) : ∀ (m i : Nat), l.length - i = m → i ≤ l.length → Ev (fun k => spec_l1Ok.l0 k (i : Int) n l) ((l.drop i).all (okArcW n) && (inB n 1 8 && decide ((l.length : Int) ≤ 16))) := by
 intro m
 induction m with
 | zero =>
  intro i hd hi
  refine Ev.go ?_ (fun k => by rw [spec_l1Ok.l0])
  refine Ev.neg (by omega) (Ev.bind0 (in1 _ _ _) ?_)
  rw [List.drop_of_length_le (by omega)]
  exact (Ev.and (Ev.now _)).cast (by simp)
 | succ m ih =>
  intro i hd hi
  have hlt : i < l.length := by omega
  refine Ev.go ?_ (fun k => by rw [spec_l1Ok.l0])
  rw [drop_cons hlt, ← arc_get hlt, List.all_cons, rda, up1 hlt hm]
  refine Ev.pos (by omega) (Ev.pos (by omega) ?_)
  refine Ev.cast (Ev.bind0 (in1 _ _ _) (Ev.and (Ev.bind0 (in1 _ _ _) (Ev.and (Ev.nand (Ev.bind0 (in1 _ _ _) (Ev.and (Ev.bind0 (in1 _ _ _) (Ev.and (Ev.bind0 (in1 _ _ _) (Ev.and (ih (i + 1) (by omega) (by omega))))))))))))) ?_
  simp only [okArcW, Bool.and_assoc]
theorem okArcW_okArc {n : Int} (h : 1 ≤ n) (h8 : n ≤ 8) (a : Arc) : okArcW n a = okArc n a := by
 unfold okArcW okArc inB okN okC
 rw [w64 (by omega) (by omega)]
 have e : (a.f4 ≤ 9) ↔ (a.f4 ≤ 10 - 1) := by omega
 have e2 : (a.f0 == a.f1) = decide (a.f0 = a.f1) := by
  by_cases c : a.f0 = a.f1 <;> simp [c]
 rw [e2]
 simp only [Bool.and_assoc, e]
theorem l1Ok_ev (n : Int) (l : List Arc) (hm : l.length ≤ maxLen) : Ev (fun k => spec_l1Ok.f k n l) (netOkB n l) := by
 unfold spec_l1Ok.f
 refine (l1Ok_l n l hm _ 0 rfl (by omega)).cast ?_
 unfold netOkB
 rw [List.drop_zero]
 by_cases h : 1 ≤ n ∧ n ≤ 8
 case pos =>
  have e : l.all (okArcW n) = l.all (okArc n) := by
   congr 1
   funext a
   exact okArcW_okArc h.1 h.2 a
  rw [e, show inB n 1 8 = true from inB_iff.2 h]
  simp [h.1, h.2, Bool.and_comm]
 have e : inB n 1 8 = false := by
  cases c : inB n 1 8 with
  | false => rfl
  | true => exact absurd (inB_iff.1 c) h
 rw [e]
 have e2 : (decide (1 ≤ n) && decide (n ≤ 8)) = false := e
 simp only [e2, Bool.false_and, Bool.and_false]
structure NetGood (n : Int) (l : List Arc) : Prop where
 n1 : 1 ≤ n
 n8 : n ≤ 8
 len : l.length ≤ 16
 ok : ∀ i, i < l.length → (0 ≤ (arc l i).f0 ∧ (arc l i).f0 < n) ∧ (0 ≤ (arc l i).f1 ∧ (arc l i).f1 < n) ∧ (arc l i).f0 ≠ (arc l i).f1 ∧ (0 ≤ (arc l i).f2 ∧ (arc l i).f2 ≤ 99) ∧ (0 ≤ (arc l i).f3 ∧ (arc l i).f3 ≤ 99) ∧ (0 ≤ (arc l i).f4 ∧ (arc l i).f4 ≤ 9)
theorem okArc_iff (n : Int) (a : Arc) : okArc n a = true ↔ (0 ≤ a.f0 ∧ a.f0 < n) ∧ (0 ≤ a.f1 ∧ a.f1 < n) ∧ a.f0 ≠ a.f1 ∧ (0 ≤ a.f2 ∧ a.f2 ≤ 99) ∧ (0 ≤ a.f3 ∧ a.f3 ≤ 99) ∧ (0 ≤ a.f4 ∧ a.f4 ≤ 9) := by
 simp only [okArc, okN, okC, Bool.and_eq_true, decide_eq_true_eq, Bool.not_eq_true', beq_eq_false_iff_ne]
 constructor
 ·rintro ⟨⟨⟨⟨⟨⟨a1, a2⟩, a3, a4⟩, a5⟩, a6⟩, a7⟩, a8, a9⟩
  exact ⟨⟨a1, by omega⟩, ⟨a3, by omega⟩, a5, a6, a7, a8, by omega⟩
 ·rintro ⟨⟨a1, a2⟩, ⟨a3, a4⟩, a5, a6, a7, a8, a9⟩
  exact ⟨⟨⟨⟨⟨⟨a1, by omega⟩, a3, by omega⟩, a5⟩, a6⟩, a7⟩, a8, by omega⟩
theorem netOkB_iff (n : Int) (l : List Arc) : netOkB n l = true ↔ NetGood n l := by
 simp only [netOkB, Bool.and_eq_true, decide_eq_true_eq, List.all_eq_true]
 constructor
 ·rintro ⟨⟨⟨h1, h2⟩, h3⟩, h4⟩
  exact ⟨h1, h2, by omega, fun i hi => (okArc_iff n _).1 (h4 _ (arc_mem hi))⟩
 ·rintro ⟨h1, h2, h3, h4⟩
  refine ⟨⟨⟨h1, h2⟩, by omega⟩, fun a ha => ?_⟩
  obtain ⟨i, hi, rfl⟩ := List.getElem_of_mem ha
  rw [← arc_get hi]
  exact (okArc_iff n _).2 (h4 i hi)
theorem hasOf {n : Int} {l : List Arc} (h : NetGood n l) (v : List Int) : impl_Net_has.f n l v = some (v.all (okN n)) := by
 have := h.n1
 have := h.n8
 unfold impl_Net_has.f
 rw [if_pos (by omega), if_pos (by omega)]
theorem nodesIn_eq (n : Int) (l : List Arc) (v : List Int) : impl_nodesIn.f n l v = some (netOkB n l && v.all (okN n)) := by
 unfold impl_nodesIn.f
 rw [show impl_NetOk.f n l = some (netOkB n l) from rfl, Option.bind_some]
 cases h : netOkB n l with
 | false => rfl
 | true => rw [if_pos rfl, hasOf ((netOkB_iff n l).1 h), Option.bind_some, Bool.true_and]
end Go.Proofs.Ytljdcinpjnijcaa.Pure
end
section
set_option linter.unusedSimpArgs false
set_option linter.unusedVariables false
namespace Go.Proofs.Ytljdcinpjnijcaa.Pure
open Go.RowKit Go.Proofs.Ytljdcinpjnijcaa.Pr Go.Proofs.YtljdcinpjnijcaaW.PrintWords Go.Proofs.YtljdcinpjnijcaaW.PrintLast Go.Proofs.YtljdcinpjnijcaaW.PrintMore
def flip (a : Arc) : Arc := ⟨a.f1, a.f0, a.f2, a.f3, a.f4⟩
def back (l : List Arc) : List Arc := l.map flip
theorem back_len (l : List Arc) : (back l).length = l.length := by simp [back]
theorem back_arc {l : List Arc} {i : Nat} (h : i < l.length) : arc (back l) i = flip (arc l i) := by
 rw [arc_get (by rw [back_len]; exact h), arc_get h]
 simp [back]
theorem back_good {n : Int} {l : List Arc} (h : NetGood n l) : NetGood n (back l) := by
 refine ⟨h.n1, h.n8, by rw [back_len]; exact h.len, fun i hi => ?_⟩
 rw [back_len] at hi
 obtain ⟨a1, a2, a3, a4⟩ := h.ok i hi
 rw [back_arc hi]
 exact ⟨a2, a1, fun e => a3 e.symm, a4⟩
end Go.Proofs.Ytljdcinpjnijcaa.Pure
end
section
set_option linter.unusedSimpArgs false
set_option linter.unusedVariables false
namespace Go.Proofs.Ytljdcinpjnijcaa.Pure
open Go.RowKit Go.Proofs.Ytljdcinpjnijcaa.Pr Go.Proofs.YtljdcinpjnijcaaW.PrintWords Go.Proofs.YtljdcinpjnijcaaW.PrintLast Go.Proofs.YtljdcinpjnijcaaW.PrintMore
def lst (n : Nat) (F : Nat → Int) : List Int := (List.range n).map F
theorem lst_len (n : Nat) (F : Nat → Int) : (lst n F).length = n := by simp [lst]
theorem lst_nth {n v : Nat} (F : Nat → Int) (h : v < n) : nth (lst n F) v = F v := by
 simp [nth, lst, h]
theorem lst_rd {n v : Nat} (F : Nat → Int) (h : v < n) : rd (lst n F) (v : Int) = F v := by rw [rdg, lst_nth F h]
theorem lst_congr {n : Nat} {F G : Nat → Int} (h : ∀ v, v < n → F v = G v) : lst n F = lst n G := by
 unfold lst
 exact List.map_congr_left (fun v hv => h v (List.mem_range.1 hv))
def upd (F : Nat → Int) (a : Nat) (x : Int) : Nat → Int := fun v => if v = a then x else F v
theorem lst_set {n a : Nat} (F : Nat → Int) (x : Int) : (lst n F).set a x = lst n (upd F a x) := by
 apply List.ext_getElem (by simp [lst])
 intro i h1 h2
 have hi : i < n := by simpa [lst] using h2
 simp only [List.getElem_set]
 by_cases e : a = i
 case pos => subst e; simp [lst, upd]
 simp [lst, upd, e, show ¬ i = a from fun h => e h.symm]
inductive Conn (E : Nat → Nat → Prop) : Nat → Nat → Prop
 | refl (v : Nat) : Conn E v v
 | tail {u v w : Nat} : Conn E u v → (E v w ∨ E w v) → Conn E u w
end Go.Proofs.Ytljdcinpjnijcaa.Pure
end
section
set_option linter.unusedSectionVars false
namespace Go.Proofs.Ytljdcinpjnijcaa.Sp
structure G where
 n : Nat
 m : Nat
 fr : Nat → Nat
 tw : Nat → Nat
 w : Nat → Int
 use : Nat → Bool
structure G.Ok (g : G) : Prop where
 fl : ∀ i, i < g.m → g.fr i < g.n
 tl : ∀ i, i < g.m → g.tw i < g.n
 w0 : ∀ i, i < g.m → 0 ≤ g.w i
inductive Wk (g : G) : Nat → Nat → Nat → Int → Prop
 | nil (v : Nat) : Wk g v v 0 0
 | cons {i v k : Nat} {c : Int} : i < g.m → g.use i = true → Wk g (g.tw i) v k c → Wk g (g.fr i) v (k + 1) (g.w i + c)
theorem Wk.cast {g : G} {u v k k' : Nat} {c c' : Int} (h : Wk g u v k c) (hk : k = k') (hc : c = c') : Wk g u v k' c' := by
 subst hk; subst hc; exact h
theorem Wk.nonneg {g : G} (ok : g.Ok) {u v k : Nat} {c : Int} (h : Wk g u v k c) : 0 ≤ c := by
 induction h with
 | nil => omega
 | cons hi _ _ ih => have := ok.w0 _ hi; omega
theorem nodup_len : ∀ (n : Nat) (l : List Nat), l.Nodup → (∀ x ∈ l, x < n) → l.length ≤ n := by
 intro n
 induction n with
 | zero =>
  intro l _ h
  cases l with
  | nil => simp
  | cons a l => exact absurd (h a (by simp)) (by omega)
 | succ n ih =>
  intro l hn h
  have h1 := ih (l.erase n) (hn.erase n) (fun x hx => by
   have h2 := h x (List.mem_of_mem_erase hx)
   have h3 : x ≠ n := by
    rintro rfl
    exact (List.Nodup.not_mem_erase hn) hx
   omega)
  have := List.length_erase_le (a := n) (l := l)
  have h4 : l.length ≤ (l.erase n).length + 1 := by
   rw [List.length_erase]
   split <;> omega
  omega
inductive Sm (g : G) (t : Nat) : Nat → List Nat → Nat → Int → Prop
 | nil : Sm g t t [t] 0 0
 | cons {i k : Nat} {L : List Nat} {c : Int} : i < g.m → g.use i = true → Sm g t (g.tw i) L k c → g.fr i ∉ L → Sm g t (g.fr i) (g.fr i :: L) (k + 1) (g.w i + c)
theorem Sm.wk {g : G} {t u k : Nat} {L : List Nat} {c : Int} (h : Sm g t u L k c) : Wk g u t k c := by
 induction h with
 | nil => exact .nil _
 | cons hi hu _ _ ih => exact .cons hi hu ih
theorem Sm.facts {g : G} (ok : g.Ok) {t u k : Nat} (ht : t < g.n) {L : List Nat} {c : Int} (h : Sm g t u L k c) : L.Nodup ∧ (∀ x ∈ L, x < g.n) ∧ L.length = k + 1 := by
 induction h with
 | nil => simp [ht]
 | cons hi _ _ hn ih =>
  refine ⟨List.nodup_cons.2 ⟨hn, ih.1⟩, ?_, by simp [ih.2.2]⟩
  intro x hx
  rcases List.mem_cons.1 hx with rfl | hx
  ·exact ok.fl _ hi
  ·exact ih.2.1 x hx
theorem Sm.tail {g : G} (ok : g.Ok) {t u k : Nat} {L : List Nat} {c : Int} (h : Sm g t u L k c) {x : Nat} (hx : x ∈ L) : ∃ L' k' c', Sm g t x L' k' c' ∧ k' ≤ k ∧ c' ≤ c := by
 induction h with
 | nil =>
  obtain rfl : x = t := by simpa using hx
  exact ⟨_, _, _, .nil, Nat.le_refl _, Int.le_refl _⟩
 | cons hi hu h hn ih =>
  rcases List.mem_cons.1 hx with rfl | hx
  ·exact ⟨_, _, _, .cons hi hu h hn, Nat.le_refl _, Int.le_refl _⟩
  ·obtain ⟨L', k', c', h1, h2, h3⟩ := ih hx
   have := ok.w0 _ hi
   exact ⟨L', k', c', h1, by omega, by omega⟩
theorem Wk.simple {g : G} (ok : g.Ok) {u v k : Nat} {c : Int} (h : Wk g u v k c) : ∃ L k' c', Sm g v u L k' c' ∧ k' ≤ k ∧ c' ≤ c := by
 induction h with
 | nil v => exact ⟨_, _, _, .nil, Nat.le_refl _, Int.le_refl _⟩
 | @cons i v k c hi hu h ih =>
  obtain ⟨L, k', c', h1, h2, h3⟩ := ih
  by_cases hm : g.fr i ∈ L
  case neg => exact ⟨_, _, _, .cons hi hu h1 hm, by omega, by omega⟩
  obtain ⟨L'', k'', c'', h4, h5, h6⟩ := h1.tail ok hm
  have := ok.w0 _ hi
  exact ⟨L'', k'', c'', h4, by omega, by omega⟩
theorem Wk.short {g : G} (ok : g.Ok) {u v k : Nat} (hv : v < g.n) {c : Int} (h : Wk g u v k c) : ∃ k' c', Wk g u v k' c' ∧ k' < g.n ∧ k' ≤ k ∧ c' ≤ c := by
 obtain ⟨L, k', c', h1, h2, h3⟩ := h.simple ok
 obtain ⟨f1, f2, f3⟩ := h1.facts ok hv
 have := nodup_len _ _ f1 f2
 exact ⟨k', c', h1.wk, by omega, h2, h3⟩
def Opt (g : G) (t : Nat) (L : Nat → Option Int) : Prop := ∀ v, v < g.n → (∀ x, L v = some x → ∃ k, Wk g v t k x) ∧ (∀ k c, Wk g v t k c → ∃ x, L v = some x ∧ x ≤ c)
theorem Opt.uniq {g : G} {t : Nat} {L L' : Nat → Option Int} (h : Opt g t L) (h' : Opt g t L') : ∀ v, v < g.n → L v = L' v := by
 intro v hv
 obtain ⟨a, b⟩ := h v hv
 obtain ⟨a', b'⟩ := h' v hv
 cases e : L v with
 | none =>
  cases e' : L' v with
  | none => rfl
  | some y =>
   obtain ⟨k, hk⟩ := a' y e'
   obtain ⟨x, hx, _⟩ := b k y hk
   rw [e] at hx; cases hx
 | some x =>
  obtain ⟨k, hk⟩ := a x e
  obtain ⟨y, hy, h1⟩ := b' k x hk
  obtain ⟨k', hk'⟩ := a' y hy
  obtain ⟨x', hx', h2⟩ := b k' y hk'
  rw [e] at hx'
  obtain rfl := Option.some.inj hx'
  rw [hy]
  congr 1
  omega
def lts (a : Int) : Option Int → Bool
 | none => true
 | some y => decide (a < y)
def put (L : Nat → Option Int) (a : Nat) (x : Int) : Nat → Option Int := fun v => if v = a then some x else L v
def relax (g : G) (L : Nat → Option Int) (i : Nat) : Nat → Option Int :=
 if g.use i = true then
  match L (g.tw i) with
  | none => L
  | some x => if lts (x + g.w i) (L (g.fr i)) = true then put L (g.fr i) (x + g.w i) else L
 else L
theorem relax_cases (g : G) (L : Nat → Option Int) (i : Nat) : (relax g L i = L ∧ (g.use i = true → ∀ x, L (g.tw i) = some x → lts (x + g.w i) (L (g.fr i)) = false)) ∨ (g.use i = true ∧ ∃ x, L (g.tw i) = some x ∧ lts (x + g.w i) (L (g.fr i)) = true ∧ relax g L i = put L (g.fr i) (x + g.w i)) := by
 unfold relax
 by_cases hu : g.use i = true
 case neg =>
  rw [if_neg hu]
  exact .inl ⟨rfl, fun h => absurd h hu⟩
 rw [if_pos hu]
 cases e : L (g.tw i) with
 | none => exact .inl ⟨rfl, fun _ x hx => by cases hx⟩
 | some x =>
  dsimp only
  by_cases hl : lts (x + g.w i) (L (g.fr i)) = true
  case pos =>
   rw [if_pos hl]
   exact .inr ⟨hu, x, rfl, hl, rfl⟩
  rw [if_neg hl]
  refine .inl ⟨rfl, fun _ y hy => ?_⟩
  obtain rfl := Option.some.inj hy
  simpa using hl
def sweep (g : G) (L : Nat → Option Int) : Nat → (Nat → Option Int)
 | 0 => L
 | i + 1 => relax g (sweep g L i) i
def Le (a b : Option Int) : Prop := ∀ y, b = some y → ∃ x, a = some x ∧ x ≤ y
theorem Le.refl (a : Option Int) : Le a a := fun y h => ⟨y, h, Int.le_refl _⟩
theorem Le.trans {a b c : Option Int} (h : Le a b) (k : Le b c) : Le a c := by
 intro y hy
 obtain ⟨x, hx, h1⟩ := k y hy
 obtain ⟨z, hz, h2⟩ := h x hx
 exact ⟨z, hz, by omega⟩
theorem put_same (L : Nat → Option Int) (a : Nat) (x : Int) : put L a x a = some x := by simp [put]
theorem put_far (L : Nat → Option Int) {a v : Nat} (x : Int) (h : v ≠ a) : put L a x v = L v := by simp [put, h]
theorem relax_le (g : G) (L : Nat → Option Int) (i v : Nat) : Le (relax g L i v) (L v) := by
 rcases relax_cases g L i with ⟨e, _⟩ | ⟨_, x, hx, hl, e⟩
 ·rw [e]; exact Le.refl _
 ·rw [e]
  by_cases hv : v = g.fr i
  case neg => rw [put_far _ _ hv]; exact Le.refl _
  subst hv
  rw [put_same]
  intro y hy
  rw [hy] at hl
  exact ⟨_, rfl, by simp [lts] at hl; omega⟩
theorem relax_arc (g : G) (L : Nat → Option Int) (i : Nat) (hu : g.use i = true) {x : Int} (hx : L (g.tw i) = some x) : Le (relax g L i (g.fr i)) (some (x + g.w i)) := by
 intro y hy
 obtain rfl := Option.some.inj hy
 unfold relax
 rw [if_pos hu, hx]
 dsimp only
 split
 ·exact ⟨_, by simp [put], Int.le_refl _⟩
 ·rename_i hl
  cases e : L (g.fr i) with
  | none => rw [e] at hl; simp [lts] at hl
  | some z => rw [e] at hl; exact ⟨z, rfl, by simp [lts] at hl; omega⟩
theorem sweep_le (g : G) (L : Nat → Option Int) (i s v : Nat) : Le (sweep g L (i + s) v) (sweep g L i v) := by
 induction s with
 | zero => exact Le.refl _
 | succ s ih => exact (relax_le g _ _ v).trans ih
theorem sweep_arc (g : G) (L : Nat → Option Int) {i : Nat} (hi : i < g.m) (hu : g.use i = true) {x : Int} (hx : L (g.tw i) = some x) : ∃ y, sweep g L g.m (g.fr i) = some y ∧ y ≤ x + g.w i := by
 have h0 := sweep_le g L 0 i (g.tw i)
 rw [Nat.zero_add] at h0
 obtain ⟨x', hx', h1⟩ := h0 x hx
 have h2 := relax_arc g (sweep g L i) i hu hx'
 have h3 := sweep_le g L (i + 1) (g.m - (i + 1)) (g.fr i)
 rw [show i + 1 + (g.m - (i + 1)) = g.m by omega] at h3
 obtain ⟨y, hy, h4⟩ := (h3.trans h2) _ rfl
 exact ⟨y, hy, by omega⟩
def Real (g : G) (t : Nat) (L : Nat → Option Int) : Prop := ∀ v x, L v = some x → ∃ k, Wk g v t k x
theorem relax_real {g : G} {t : Nat} {L : Nat → Option Int} (h : Real g t L) {i : Nat} (hi : i < g.m) : Real g t (relax g L i) := by
 intro v x hx
 rcases relax_cases g L i with ⟨e, _⟩ | ⟨hu, y, hy, hl, e⟩
 ·rw [e] at hx; exact h v x hx
 ·rw [e] at hx
  by_cases hv : v = g.fr i
  case neg => rw [put_far _ _ hv] at hx; exact h v x hx
  subst hv
  rw [put_same] at hx
  obtain rfl := Option.some.inj hx
  obtain ⟨k, hk⟩ := h _ _ hy
  exact ⟨k + 1, (Wk.cons hi hu hk).cast rfl (by omega)⟩
theorem sweep_real {g : G} {t : Nat} {L : Nat → Option Int} (h : Real g t L) : ∀ i, i ≤ g.m → Real g t (sweep g L i) := by
 intro i
 induction i with
 | zero => exact fun _ => h
 | succ i ih => exact fun hi => relax_real (ih (by omega)) (by omega)
theorem opt_of_fix {g : G} {t : Nat} {L : Nat → Option Int} (h : Real g t L) (ht : Le (L t) (some 0)) (hf : ∀ v, sweep g L g.m v = L v) : Opt g t L := by
 intro v hv0
 clear hv0
 refine ⟨fun x hx => h v x hx, fun k c hw => ?_⟩
 clear h
 induction hw with
 | nil =>
  obtain ⟨x, hx, h1⟩ := ht 0 rfl
  exact ⟨x, hx, h1⟩
 | cons hi hu _ ih =>
  obtain ⟨x, hx, h1⟩ := ih ht
  obtain ⟨y, hy, h2⟩ := sweep_arc g L hi hu hx
  rw [hf] at hy
  exact ⟨y, hy, by omega⟩
def start (t : Nat) : Nat → Option Int := fun v => if v = t then some 0 else none
def rounds (g : G) (t : Nat) : Nat → (Nat → Option Int)
 | 0 => start t
 | r + 1 => sweep g (rounds g t r) g.m
theorem start_real (g : G) (t : Nat) : Real g t (start t) := by
 intro v x hx
 unfold start at hx
 split at hx
 ·rename_i e
  obtain rfl := Option.some.inj hx
  subst e
  exact ⟨0, .nil _⟩
 ·cases hx
theorem rounds_real (g : G) (t : Nat) : ∀ r, Real g t (rounds g t r) := by
 intro r
 induction r with
 | zero => exact start_real g t
 | succ r ih => exact sweep_real ih _ (Nat.le_refl _)
theorem rounds_le (g : G) (t r s v : Nat) : Le (rounds g t (r + s) v) (rounds g t r v) := by
 induction s with
 | zero => exact Le.refl _
 | succ s ih =>
  have := sweep_le g (rounds g t (r + s)) 0 g.m v
  rw [Nat.zero_add] at this
  exact this.trans ih
theorem rounds_t (g : G) (t r : Nat) : Le (rounds g t r t) (some 0) := by
 have := rounds_le g t 0 r t
 rw [Nat.zero_add] at this
 exact this.trans (by simp [rounds, start]; exact Le.refl _)
theorem rounds_walk {g : G} {t r u k : Nat} {c : Int} (h : Wk g u t k c) (hk : k ≤ r) : ∃ x, rounds g t r u = some x ∧ x ≤ c := by
 induction h generalizing r with
 | nil => exact rounds_t g _ r 0 rfl
 | cons hi hu _ ih =>
  obtain ⟨r, rfl⟩ : ∃ q, r = q + 1 := ⟨r - 1, by omega⟩
  obtain ⟨x, hx, h1⟩ := ih (r := r) (by omega)
  obtain ⟨y, hy, h2⟩ := sweep_arc g _ hi hu hx
  exact ⟨y, hy, by omega⟩
theorem rounds_opt {g : G} (ok : g.Ok) {t r : Nat} (ht : t < g.n) (hr : g.n ≤ r + 1) : Opt g t (rounds g t r) := by
 intro v _
 refine ⟨fun x hx => rounds_real g t r v x hx, fun k c hw => ?_⟩
 obtain ⟨k', c', h1, h2, h3, h4⟩ := hw.short ok ht
 obtain ⟨x, hx, h5⟩ := rounds_walk (r := r) h1 (by omega)
 exact ⟨x, hx, by omega⟩
theorem relax_none {g : G} {L : Nat → Option Int} (hn : ∀ v, g.n ≤ v → L v = none) (ok : g.Ok) {i : Nat} (hi : i < g.m) : ∀ v, g.n ≤ v → relax g L i v = none := by
 intro v hv
 rcases relax_cases g L i with ⟨e, _⟩ | ⟨_, x, hx, hl, e⟩
 ·rw [e]; exact hn v hv
 ·rw [e, put_far _ _ (by have := ok.fl i hi; omega)]; exact hn v hv
theorem sweep_none {g : G} {L : Nat → Option Int} (ok : g.Ok) (hn : ∀ v, g.n ≤ v → L v = none) : ∀ i, i ≤ g.m → ∀ v, g.n ≤ v → sweep g L i v = none := by
 intro i
 induction i with
 | zero => exact fun _ => hn
 | succ i ih => exact fun hi => relax_none (ih (by omega)) ok (by omega)
theorem rounds_none {g : G} (ok : g.Ok) {t : Nat} (ht : t < g.n) : ∀ r v, g.n ≤ v → rounds g t r v = none := by
 intro r
 induction r with
 | zero => intro v hv; simp [rounds, start]; omega
 | succ r ih => exact sweep_none ok ih _ (Nat.le_refl _)
theorem rounds_fix {g : G} (ok : g.Ok) {t r : Nat} (ht : t < g.n) (hr : g.n ≤ r + 1) : ∀ v, rounds g t (r + 1) v = rounds g t r v := by
 intro v
 by_cases hv : v < g.n
 case pos => exact (rounds_opt ok ht (by omega)).uniq (rounds_opt ok ht hr) v hv
 rw [rounds_none ok ht _ v (by omega), rounds_none ok ht _ v (by omega)]
theorem sweep_same {g : G} {L : Nat → Option Int} (h : ∀ v, sweep g L g.m v = L v) {i : Nat} (hi : i ≤ g.m) : ∀ v, sweep g L i v = L v := by
 intro v
 have h1 := sweep_le g L 0 i v
 have h2 := sweep_le g L i (g.m - i) v
 rw [Nat.zero_add] at h1
 rw [show i + (g.m - i) = g.m by omega, h v] at h2
 cases e : L v with
 | none =>
  cases e' : sweep g L i v with
  | none => rfl
  | some y =>
   obtain ⟨x, hx, _⟩ := h2 y e'
   rw [e] at hx; cases hx
 | some x =>
  obtain ⟨y, hy, a1⟩ := h1 x (by simpa [sweep] using e)
  obtain ⟨x', hx', a2⟩ := h2 y hy
  rw [e] at hx'
  obtain rfl := Option.some.inj hx'
  rw [hy]; congr 1; omega
theorem relax_bd {g : G} {L : Nat → Option Int} {B : Int} (h : ∀ v x, L v = some x → 0 ≤ x ∧ x ≤ B) {i : Nat} {w1 : Int} (hw0 : 0 ≤ g.w i) (hw : g.w i ≤ w1) : ∀ v x, relax g L i v = some x → 0 ≤ x ∧ x ≤ B + w1 := by
 intro v x hx
 rcases relax_cases g L i with ⟨e, _⟩ | ⟨_, y, hy, hl, e⟩
 ·rw [e] at hx; have := h v x hx; omega
 ·rw [e] at hx
  by_cases hv : v = g.fr i
  case neg => rw [put_far _ _ hv] at hx; have := h v x hx; omega
  subst hv
  rw [put_same] at hx
  obtain rfl := Option.some.inj hx
  have := h _ _ hy; omega
end Go.Proofs.Ytljdcinpjnijcaa.Sp
namespace Go.Proofs.Ytljdcinpjnijcaa.Sp
structure Dbl (g e s : G) (D : Nat → Option Int) : Prop where
 en : e.n = g.n
 em : e.m = g.m
 ef : e.fr = g.fr
 et : e.tw = g.tw
 eu : e.use = g.use
 ew : ∀ i, i < g.m → e.w i = 1000 * g.w i + 1
 sn : s.n = g.n
 sm : s.m = g.m
 sf : s.fr = g.fr
 st : s.tw = g.tw
 sw : ∀ i, i < g.m → s.w i = 1
 su : ∀ i, i < g.m → (s.use i = true ↔ g.use i = true ∧ ∃ x, D (g.tw i) = some x ∧ D (g.fr i) = some (g.w i + x))
def both (D S : Nat → Option Int) : Nat → Option Int := fun v =>
 match D v with
 | none => none
 | some d => match S v with
  | none => none
  | some k => some (1000 * d + k)
section
variable {g e s : G} {t : Nat} {D S : Nat → Option Int} (h : Dbl g e s D) (ok : g.Ok) (hD : Opt g t D) (hS : Opt s t S) (ht : t < g.n)
include h
theorem Dbl.okS (ok : g.Ok) : s.Ok := by
 refine ⟨?_, ?_, ?_⟩
 ·rw [h.sf, h.sm, h.sn]; exact ok.fl
 ·rw [h.st, h.sm, h.sn]; exact ok.tl
 ·intro i hi
  rw [h.sm] at hi
  rw [h.sw i hi]; omega
theorem Dbl.toE {u v k : Nat} {c : Int} (w : Wk g u v k c) : Wk e u v k (1000 * c + k) := by
 induction w with
 | nil => exact (Wk.nil _).cast rfl (by omega)
 | @cons i v k c hi hu _ ih =>
  have h1 : Wk e (e.tw i) v k (1000 * c + k) := by rw [h.et]; exact ih
  have h2 := Wk.cons (i := i) (by rw [h.em]; exact hi) (by rw [h.eu]; exact hu) h1
  rw [h.ef, h.ew i hi] at h2
  exact h2.cast rfl (by omega)
theorem Dbl.ofE {u v k : Nat} {c : Int} (w : Wk e u v k c) : ∃ c', Wk g u v k c' ∧ c = 1000 * c' + k := by
 induction w with
 | nil => exact ⟨0, .nil _, by omega⟩
 | @cons i v k c hi hu _ ih =>
  obtain ⟨c', h1, h2⟩ := ih
  rw [h.em] at hi
  rw [h.eu] at hu
  rw [h.et] at h1
  refine ⟨g.w i + c', ?_, by rw [h.ew i hi]; omega⟩
  rw [h.ef]
  exact .cons hi hu h1
theorem Dbl.ofS (hD : Opt g t D) (ht : t < g.n) (ok : g.Ok) {u k : Nat} {c : Int} (w : Wk s u t k c) : ∃ d, D u = some d ∧ Wk g u t k d ∧ c = k := by
 generalize ev : t = v at w
 induction w with
 | nil v =>
  subst ev
  obtain ⟨x, hx, h1⟩ := (hD t ht).2 0 0 (.nil _)
  obtain ⟨k, hk⟩ := (hD t ht).1 x hx
  have := hk.nonneg ok
  have e0 : x = 0 := by omega
  subst e0
  exact ⟨0, hx, .nil _, rfl⟩
 | @cons i v k c hi hu _ ih =>
  obtain ⟨d, h1, h2, h3⟩ := ih ev
  rw [h.sm] at hi
  obtain ⟨g1, x, g2, g3⟩ := (h.su i hi).1 hu
  rw [h.st] at h1 h2
  rw [g2] at h1
  obtain rfl := Option.some.inj h1
  rw [h.sf]
  exact ⟨_, g3, .cons hi g1 h2, by rw [h.sw i hi, h3]; omega⟩
theorem Dbl.toS (hD : Opt g t D) (ok : g.Ok) {u k : Nat} {c : Int} (w : Wk g u t k c) (hc : D u = some c) : Wk s u t k k := by
 generalize ev : t = v at w
 induction w with
 | nil => exact .nil _
 | @cons i v k c hi hu w ih =>
  subst ev
  obtain ⟨x, hx, h1⟩ := (hD _ (ok.tl i hi)).2 k c w
  obtain ⟨j, hj⟩ := (hD _ (ok.tl i hi)).1 x hx
  obtain ⟨y, hy, h2⟩ := (hD _ (ok.fl i hi)).2 _ _ (Wk.cons hi hu hj)
  rw [hc] at hy
  obtain rfl := Option.some.inj hy
  have ex : x = c := by omega
  subst ex
  have h3 := ih hx rfl
  rw [← h.st] at h3
  have h4 := Wk.cons (i := i) (by rw [h.sm]; exact hi) ((h.su i hi).2 ⟨hu, x, hx, hc⟩) h3
  rw [h.sf, h.sw i hi] at h4
  exact h4.cast rfl (by omega)
theorem Dbl.some (hD : Opt g t D) (hS : Opt s t S) (ht : t < g.n) (ok : g.Ok) {v : Nat} (hv : v < g.n) {d : Int} (hd : D v = .some d) : ∃ k : Nat, S v = .some (k : Int) ∧ k < g.n ∧ Wk s v t k k := by
 obtain ⟨k, hk⟩ := (hD v hv).1 d hd
 have w := h.toS hD ok hk hd
 obtain ⟨x, hx, h1⟩ := (hS v (by rw [h.sn]; exact hv)).2 _ _ w
 obtain ⟨j, hj⟩ := (hS v (by rw [h.sn]; exact hv)).1 x hx
 obtain ⟨d', e1, e2, e3⟩ := h.ofS hD ht ok hj
 obtain ⟨j', c', w1, w2, w3, w4⟩ := hj.short (h.okS ok) (by rw [h.sn]; exact ht)
 obtain ⟨y, hy, h5⟩ := (hS v (by rw [h.sn]; exact hv)).2 _ _ w1
 rw [hx] at hy
 obtain rfl := Option.some.inj hy
 obtain ⟨_, _, _, e5⟩ := h.ofS hD ht ok w1
 rw [h.sn] at w2
 exact ⟨j, by rw [hx, e3], by omega, e3 ▸ hj⟩
theorem Dbl.opt (hD : Opt g t D) (hS : Opt s t S) (ht : t < g.n) (ok : g.Ok) (h8 : g.n ≤ 1000) : Opt e t (both D S) := by
 intro v hv
 rw [h.en] at hv
 constructor
 ·intro x hx
  unfold both at hx
  cases ed : D v with
  | none => rw [ed] at hx; cases hx
  | some d =>
   obtain ⟨k, hk, h1, h2⟩ := h.some hD hS ht ok hv ed
   rw [ed, hk] at hx
   obtain rfl := Option.some.inj hx
   obtain ⟨d', g1, g2, g3⟩ := h.ofS hD ht ok h2
   rw [ed] at g1
   obtain rfl := Option.some.inj g1
   exact ⟨k, h.toE g2⟩
 ·intro k c w
  obtain ⟨c', w1, rfl⟩ := h.ofE w
  obtain ⟨d, hd, h1⟩ := (hD v hv).2 _ _ w1
  obtain ⟨j, hj, h2, h3⟩ := h.some hD hS ht ok hv hd
  refine ⟨1000 * d + j, by simp [both, hd, hj], ?_⟩
  by_cases e0 : d = c'
  case neg => omega
  subst e0
  have w2 := h.toS hD ok w1 hd
  obtain ⟨x, hx, h4⟩ := (hS v (by rw [h.sn]; exact hv)).2 _ _ w2
  rw [hj] at hx
  obtain rfl := Option.some.inj hx
  omega
end
end Go.Proofs.Ytljdcinpjnijcaa.Sp
end
section
set_option linter.unusedSimpArgs false
set_option linter.unusedVariables false
set_option linter.unusedSectionVars false
namespace Go.Proofs.Ytljdcinpjnijcaa.Pure
open Go.RowKit Go.Proofs.Ytljdcinpjnijcaa.Pr Go.Proofs.YtljdcinpjnijcaaW.PrintWords Go.Proofs.YtljdcinpjnijcaaW.PrintLast Go.Proofs.YtljdcinpjnijcaaW.PrintMore
open Go.Proofs.Ytljdcinpjnijcaa.Sp (G Wk Opt lts put relax sweep rounds start Dbl)
def gr (N : Nat) (l : List Arc) : G := ⟨N, l.length, fun i => (arc l i).f0.toNat, fun i => (arc l i).f1.toNat, fun i => (arc l i).f2, fun _ => true⟩
def grE (N : Nat) (l : List Arc) : G := { gr N l with w := fun i => 1000 * (arc l i).f2 + 1 }
def grS (N : Nat) (l : List Arc) (D : Nat → Option Int) : G := { gr N l with w := fun _ => 1, use := fun i => match D (arc l i).f1.toNat with | none => false | some x => decide (D (arc l i).f0.toNat = some ((arc l i).f2 + x)) }
section
variable {N : Nat} {l : List Arc} (hg : NetGood N l)
include hg
theorem gr_ok : (gr N l).Ok := ⟨fun i hi => by have := hg.ok i hi; show (arc l i).f0.toNat < N; omega, fun i hi => by have := hg.ok i hi; show (arc l i).f1.toNat < N; omega, fun i hi => by have := hg.ok i hi; show 0 ≤ (arc l i).f2; omega⟩
theorem grE_ok : (grE N l).Ok := ⟨fun i hi => by have := hg.ok i hi; show (arc l i).f0.toNat < N; omega, fun i hi => by have := hg.ok i hi; show (arc l i).f1.toNat < N; omega, fun i hi => by have := hg.ok i hi; show 0 ≤ 1000 * (arc l i).f2 + 1; omega⟩
theorem grS_ok (D : Nat → Option Int) : (grS N l D).Ok := ⟨fun i hi => by have := hg.ok i hi; show (arc l i).f0.toNat < N; omega, fun i hi => by have := hg.ok i hi; show (arc l i).f1.toNat < N; omega, fun i hi => by show (0 : Int) ≤ 1; omega⟩
end
theorem dbl (N : Nat) (l : List Arc) (D : Nat → Option Int) : Dbl (gr N l) (grE N l) (grS N l D) D := by
 refine ⟨rfl, rfl, rfl, rfl, rfl, fun i _ => rfl, rfl, rfl, rfl, rfl, fun i _ => rfl, fun i _ => ?_⟩
 show (match D (arc l i).f1.toNat with | none => false | some x => decide (D (arc l i).f0.toNat = some ((arc l i).f2 + x))) = true ↔ _
 cases e : D (arc l i).f1.toNat with
 | none =>
  refine ⟨fun h => (by cases h), fun ⟨_, x, h, _⟩ => ?_⟩
  have h : D (arc l i).f1.toNat = some x := h
  rw [e] at h; cases h
 | some x =>
  dsimp only
  rw [decide_eq_true_iff]
  refine ⟨fun h => ⟨rfl, x, e, h⟩, fun ⟨_, y, h, h2⟩ => ?_⟩
  have h : D (arc l i).f1.toNat = some y := h
  rw [e] at h
  obtain rfl := Option.some.inj h
  exact h2
def dst (N : Nat) (l : List Arc) (t : Nat) : Nat → Option Int := rounds (gr N l) t N
def stp (N : Nat) (l : List Arc) (t : Nat) : Nat → Option Int := rounds (grS N l (dst N l t)) t N
section
variable {N : Nat} {l : List Arc} (hg : NetGood N l) {t : Nat} (ht : t < N)
include hg ht
theorem dst_opt : Opt (gr N l) t (dst N l t) := Sp.rounds_opt (gr_ok hg) ht (by show N ≤ N + 1; omega)
theorem stp_opt : Opt (grS N l (dst N l t)) t (stp N l t) := Sp.rounds_opt (grS_ok hg _) ht (by show N ≤ N + 1; omega)
theorem stp_some {v : Nat} (hv : v < N) {d : Int} (hd : dst N l t v = some d) : ∃ k : Nat, stp N l t v = some (k : Int) ∧ k < N := by
 obtain ⟨k, h1, h2, _⟩ := (dbl N l (dst N l t)).some (dst_opt hg ht) (stp_opt hg ht) ht (gr_ok hg) hv hd
 exact ⟨k, h1, h2⟩
theorem tow_both {v : Nat} (hv : v < N) : rounds (grE N l) t N v = Sp.both (dst N l t) (stp N l t) v := by
 have h8 := hg.n8
 have h1 := Sp.rounds_opt (g := grE N l) (t := t) (r := N) (grE_ok hg) ht (by show N ≤ N + 1; omega)
 have h2 := (dbl N l (dst N l t)).opt (dst_opt hg ht) (stp_opt hg ht) ht (gr_ok hg) (by show N ≤ 1000; omega)
 exact h1.uniq h2 v hv
end
abbrev Msr := S104
def ent : Option Int → Msr
 | none => ⟨99999, 0⟩
 | some x => ⟨x / 1000, x % 1000⟩
def far : Option Int → Int
 | none => 99999
 | some x => x
def lstM (N : Nat) (F : Nat → Msr) : List Msr := (List.range N).map F
theorem lstM_len (N : Nat) (F : Nat → Msr) : (lstM N F).length = N := by simp [lstM]
theorem lstM_rd {N v : Nat} (F : Nat → Msr) (h : v < N) : rd_T104 (lstM N F) (v : Int) = F v := by
 simp [rd_T104, lstM, h]
theorem lstM_congr {N : Nat} {F H : Nat → Msr} (h : ∀ v, v < N → F v = H v) : lstM N F = lstM N H := by
 unfold lstM
 exact List.map_congr_left (fun v hv => h v (List.mem_range.1 hv))
theorem lstM_set {N a : Nat} (L : Nat → Option Int) (x : Int) : (lstM N (fun v => ent (L v))).set a (ent (some x)) = lstM N (fun v => ent (put L a x v)) := by
 apply List.ext_getElem (by simp [lstM])
 intro i h1 h2
 simp only [List.getElem_set]
 by_cases e : a = i
 case pos => subst e; simp [lstM, put]
 simp [lstM, put, e, show ¬ i = a from fun h => e h.symm]
theorem less_eq (a b c d : Int) : impl_measure_less.f a b c d = some (decide (a < c ∨ a = c ∧ b < d)) := by
 unfold impl_measure_less.f
 by_cases h : a < c
 case pos => rw [if_pos h, decide_eq_true (.inl h)]
 rw [if_neg h]
 by_cases h2 : a = c
 case neg => rw [if_neg h2, decide_eq_false (fun h3 => h3.elim h (fun h4 => h2 h4.1))]
 rw [if_pos h2]
 congr 1
 simp only [decide_eq_decide]
 exact ⟨fun h3 => .inr ⟨h2, h3⟩, fun h3 => h3.elim (fun h4 => absurd h4 h) (fun h4 => h4.2)⟩
def Bd (s : Nat) (L : Nat → Option Int) : Prop := ∀ v x, L v = some x → 0 ≤ x ∧ x / 1000 ≤ 99 * (s : Int) ∧ x % 1000 ≤ (s : Int)
theorem Bd.relax {N : Nat} {l : List Arc} (hg : NetGood N l) {s : Nat} {L : Nat → Option Int} (h : Bd s L) (hs : s < 900) {i : Nat} (hi : i < l.length) : Bd (s + 1) (relax (grE N l) L i) := by
 obtain ⟨_, _, _, ⟨a1, a2⟩, _⟩ := hg.ok i hi
 intro v x hx
 rcases Sp.relax_cases (grE N l) L i with ⟨e, _⟩ | ⟨_, y, hy, hl, e⟩
 ·rw [e] at hx; have := h v x hx; omega
 ·rw [e] at hx
  by_cases hv : v = (grE N l).fr i
  case neg => rw [Sp.put_far _ _ hv] at hx; have := h v x hx; omega
  subst hv
  rw [Sp.put_same] at hx
  have hx : some (y + (1000 * (arc l i).f2 + 1)) = some x := hx
  obtain rfl := Option.some.inj hx
  have := h _ _ hy
  omega
theorem Bd.sweep {N : Nat} {l : List Arc} (hg : NetGood N l) {s : Nat} {L : Nat → Option Int} (h : Bd s L) : ∀ i, i ≤ l.length → s + i ≤ 900 → Bd (s + i) (sweep (grE N l) L i) := by
 intro i
 induction i with
 | zero => exact fun _ _ => h
 | succ i ih => exact fun hi hs => (ih (by omega) (by omega)).relax hg (by omega) (by omega)
theorem Bd.mono {s r : Nat} {L : Nat → Option Int} (h : Bd s L) (hs : s ≤ r) : Bd r L := fun v x hx => by have := h v x hx; omega
theorem Bd.rounds {N : Nat} {l : List Arc} (hg : NetGood N l) (t : Nat) : ∀ r, r ≤ 9 → Bd (16 * r) (rounds (grE N l) t r) := by
 intro r
 induction r with
 | zero =>
  intro _ v x hx
  unfold Sp.rounds Sp.start at hx
  split at hx
  ·obtain rfl := Option.some.inj hx; omega
  ·cases hx
 | succ r ih =>
  intro hr
  have := hg.len
  exact ((ih (by omega)).sweep hg l.length (Nat.le_refl _) (by omega)).mono (by omega)
def hit (g : G) (L : Nat → Option Int) (i : Nat) : Bool := match L (g.tw i) with
 | none => false
 | some x => lts (x + g.w i) (L (g.fr i))
def fl (g : G) (L : Nat → Option Int) : Nat → Bool
 | 0 => false
 | i + 1 => fl g L i || hit g (sweep g L i) i
theorem relax_hit {g : G} {L : Nat → Option Int} {i : Nat} (h : hit g L i = false) : relax g L i = L := by
 unfold hit at h
 unfold Sp.relax
 split
 ·cases e : L (g.tw i) with
  | none => rfl
  | some x => rw [e] at h; dsimp only at h ⊢; rw [h]; rfl
 ·rfl
theorem fl_none {g : G} {L : Nat → Option Int} : ∀ i, fl g L i = false → sweep g L i = L
 | 0, _ => rfl
 | i + 1, h => by
  have h : (fl g L i || hit g (sweep g L i) i) = false := h
  rw [Bool.or_eq_false_iff] at h
  show relax g (sweep g L i) i = L
  rw [relax_hit h.2, fl_none i h.1]
theorem fl_same {g : G} (hu : ∀ i, g.use i = true) {L : Nat → Option Int} (h : ∀ v, sweep g L g.m v = L v) : ∀ i, i ≤ g.m → fl g L i = false
 | 0, _ => rfl
 | i + 1, hi => by
  show (fl g L i || hit g (sweep g L i) i) = false
  rw [fl_same hu h i (by omega), Bool.false_or]
  have e1 : sweep g L i = L := funext (Sp.sweep_same h (by omega))
  have e2 : relax g L i = L := by
   have : sweep g L (i + 1) = L := funext (Sp.sweep_same h hi)
   have e3 : sweep g L (i + 1) = relax g (sweep g L i) i := rfl
   rw [e3, e1] at this
   exact this
  rw [e1]
  unfold hit
  unfold Sp.relax at e2
  rw [if_pos (hu i)] at e2
  cases e : L (g.tw i) with
  | none => rfl
  | some x =>
   rw [e] at e2
   dsimp only at e2 ⊢
   cases hl : lts (x + g.w i) (L (g.fr i)) with
   | false => rfl
   | true =>
    rw [if_pos hl] at e2
    have := congrFun e2 (g.fr i)
    rw [Sp.put_same] at this
    rw [← this] at hl
    simp [Sp.lts] at hl
section
variable {N : Nat} {l : List Arc} (hg : NetGood N l)
include hg
theorem tow_l1 (L : Nat → Option Int) {s : Nat} (hs : s ≤ 700) (hL : Bd s L) {R : List Msr} : ∀ (m i : Nat), l.length - i = m → i ≤ l.length →
  Ev (fun k => impl_Net_toward.l0 k (lstM N (fun v => ent (sweep (grE N l) L l.length v))) (fl (grE N l) L l.length) N l) R →
  Ev (fun k => impl_Net_toward.l1 k (lstM N (fun v => ent (sweep (grE N l) L i v))) (fl (grE N l) L i) l (l.length : Int) (i : Int) N l) R := by
 have h16 := hg.len
 intro m
 induction m with
 | zero =>
  intro i hd hi h
  have e : i = l.length := by omega
  subst e
  refine Ev.go ?_ (fun k => by rw [impl_Net_toward.l1])
  exact Ev.neg (by omega) h
 | succ m ih =>
  intro i hd hi h
  have hlt : i < l.length := by omega
  have hn := ih (i + 1) (by omega) (by omega) h
  clear ih h
  have hb := hL.sweep hg i hi (by omega)
  obtain ⟨⟨a1, a2⟩, ⟨a3, a4⟩, a5, ⟨a6, a7⟩, _⟩ := hg.ok i hlt
  have ef : (grE N l).fr i = (arc l i).f0.toNat := rfl
  have et : (grE N l).tw i = (arc l i).f1.toNat := rfl
  have ew : (grE N l).w i = 1000 * (arc l i).f2 + 1 := rfl
  obtain ⟨f, hf⟩ := Int.eq_ofNat_of_zero_le a1
  obtain ⟨t, ht⟩ := Int.eq_ofNat_of_zero_le a3
  rw [hf, Int.toNat_natCast] at ef
  rw [ht, Int.toNat_natCast] at et
  have hfN : f < N := by omega
  have htN : t < N := by omega
  have hsw : sweep (grE N l) L (i + 1) = relax (grE N l) (sweep (grE N l) L i) i := rfl
  have hfl : fl (grE N l) L (i + 1) = (fl (grE N l) L i || hit (grE N l) (sweep (grE N l) L i) i) := rfl
  rw [hsw, hfl] at hn
  clear hsw hfl
  generalize sweep (grE N l) L i = M at hn hb
  generalize fl (grE N l) L i = b at hn
  refine Ev.go ?_ (fun k => by rw [impl_Net_toward.l1])
  rw [rda, up1 hlt (by simp only [maxLen]; omega), hf, ht, lstM_rd _ htN, lstM_rd _ hfN, lstM_len]
  refine Ev.pos (by omega) (Ev.pos (by omega) (Ev.pos (by omega) (Ev.pos (by omega) (Ev.pos (by omega) ?_))))
  cases et2 : M t with
  | none =>
   have hh : hit (grE N l) M i = false := by unfold hit; rw [et, et2]
   rw [hh, relax_hit hh, Bool.or_false] at hn
   exact Ev.pos rfl hn
  | some x =>
   have hx := hb t x et2
   have hq : 0 ≤ x / 1000 := by omega
   have hr : 0 ≤ x % 1000 := by omega
   have w1 : wrap64 (x / 1000 + (arc l i).f2) = x / 1000 + (arc l i).f2 := w64 (by omega) (by omega)
   have w2 : wrap64 (x % 1000 + 1) = x % 1000 + 1 := w64 (by omega) (by omega)
   have e1 : (x + (1000 * (arc l i).f2 + 1)) / 1000 = x / 1000 + (arc l i).f2 := by omega
   have e2 : (x + (1000 * (arc l i).f2 + 1)) % 1000 = x % 1000 + 1 := by omega
   have eent : (⟨x / 1000 + (arc l i).f2, x % 1000 + 1⟩ : Msr) = ent (some (x + (1000 * (arc l i).f2 + 1))) := by simp only [ent, e1, e2]
   have hne : ¬ ((ent (some x)).f0 = 99999) := by show ¬ (x / 1000 = 99999); omega
   have elts : decide ((x / 1000 + (arc l i).f2) < (ent (M f)).f0 ∨ (x / 1000 + (arc l i).f2) = (ent (M f)).f0 ∧ (x % 1000 + 1) < (ent (M f)).f1) = lts (x + (1000 * (arc l i).f2 + 1)) (M f) := by
    cases ef2 : M f with
    | none => exact decide_eq_true (.inl (by show x / 1000 + (arc l i).f2 < 99999; omega))
    | some y =>
     have hy := hb f y ef2
     show decide (_ < y / 1000 ∨ _ = y / 1000 ∧ _ < y % 1000) = decide (_ < y)
     rw [decide_eq_decide]
     omega
   have hh : hit (grE N l) M i = lts (x + (1000 * (arc l i).f2 + 1)) (M f) := by unfold hit; rw [et, et2, ef, ew]
   have hre : relax (grE N l) M i = if lts (x + (1000 * (arc l i).f2 + 1)) (M f) = true then put M f (x + (1000 * (arc l i).f2 + 1)) else M := by
    unfold Sp.relax
    rw [if_pos (show (grE N l).use i = true from rfl), et, et2, ef, ew]
   rw [hh, hre] at hn
   clear hh hre
   refine Ev.neg hne ?_
   show Ev (fun k => if 0 ≤ ((f : Nat) : Int) then _ else _) R
   rw [show (ent (some x)).f0 = x / 1000 from rfl, show (ent (some x)).f1 = x % 1000 from rfl, w1, w2, Int.toNat_natCast, eent, lstM_set]
   clear w1 w2 hne
   refine Ev.pos (by omega) (Ev.pos (by omega) (Ev.bind0 (less_eq _ _ _ _) ?_))
   rw [elts]
   cases c : lts (x + (1000 * (arc l i).f2 + 1)) (M f) with
   | true =>
    rw [c, if_pos rfl, Bool.or_true] at hn
    exact Ev.pos rfl hn
   | false =>
    rw [c, if_neg (by simp), Bool.or_false] at hn
    exact Ev.neg (by simp) hn
theorem tow_l0 {t : Nat} (ht : t < N) : ∀ d r, r + d = N → Ev (fun k => impl_Net_toward.l0 k (lstM N (fun v => ent (rounds (grE N l) t r v))) true N l) (lstM N (fun v => ent (rounds (grE N l) t N v))) := by
 have h8 := hg.n8
 have stop : ∀ r, r ≤ N → fl (grE N l) (rounds (grE N l) t r) l.length = false → lstM N (fun v => ent (rounds (grE N l) t (r + 1) v)) = lstM N (fun v => ent (rounds (grE N l) t N v)) := by
  intro r hr hf
  have e := fl_none l.length hf
  have o1 : Opt (grE N l) t (rounds (grE N l) t r) := Sp.opt_of_fix (Sp.rounds_real _ _ _) (Sp.rounds_t _ _ _) (fun v => congrFun e v)
  have o2 := Sp.rounds_opt (g := grE N l) (t := t) (r := N) (grE_ok hg) ht (by show N ≤ N + 1; omega)
  refine lstM_congr (fun v hv => ?_)
  have e2 : rounds (grE N l) t (r + 1) = rounds (grE N l) t r := e
  rw [e2, o1.uniq o2 v hv]
 intro d
 induction d with
 | zero =>
  intro r hr
  obtain rfl : r = N := by omega
  refine Ev.go ?_ (fun k => by rw [impl_Net_toward.l0])
  refine Ev.pos rfl (tow_l1 hg (rounds (grE r l) t r) (s := 16 * r) (by omega) (Bd.rounds hg t r (by omega)) _ 0 rfl (Nat.zero_le _) ?_)
  have hf := fl_same (g := grE r l) (fun _ => rfl) (L := rounds (grE r l) t r) (Sp.rounds_fix (grE_ok hg) ht (by show r ≤ r + 1; omega)) l.length (Nat.le_refl _)
  rw [hf]
  refine Ev.go ?_ (fun k => by rw [impl_Net_toward.l0])
  exact Ev.neg (by simp) (Ev.is (stop r (Nat.le_refl _) hf))
 | succ d ih =>
  intro r hr
  refine Ev.go ?_ (fun k => by rw [impl_Net_toward.l0])
  refine Ev.pos rfl (tow_l1 hg (rounds (grE N l) t r) (s := 16 * r) (by omega) (Bd.rounds hg t r (by omega)) _ 0 rfl (Nat.zero_le _) ?_)
  cases hf : fl (grE N l) (rounds (grE N l) t r) l.length with
  | true => exact ih (r + 1) (by omega)
  | false =>
   refine Ev.go ?_ (fun k => by rw [impl_Net_toward.l0])
   exact Ev.neg (by simp) (Ev.is (stop r (by omega) hf))
theorem tow_ev {t : Nat} (ht : t < N) : Ev (fun k => impl_Net_toward.f k N l (t : Int)) (lstM N (fun v => ent (rounds (grE N l) t N v))) := by
 have h8 := hg.n8
 unfold impl_Net_toward.f
 refine Ev.bind0 (rep_measure _ N (by omega)) ?_
 refine Ev.pos (by omega) (Ev.pos (by simp; omega) ?_)
 have e : (List.replicate N (⟨99999, 0⟩ : Msr)).set (t : Int).toNat ⟨0, 0⟩ = lstM N (fun v => ent (rounds (grE N l) t 0 v)) := by
  apply List.ext_getElem (by simp [lstM])
  intro i h1 h2
  simp only [Int.toNat_natCast, List.getElem_set]
  by_cases c : t = i
  case pos => subst c; simp [lstM, Sp.rounds, Sp.start, ent]
  simp [lstM, Sp.rounds, Sp.start, ent, c, show ¬ i = t from fun h => c h.symm]
 rw [e]
 exact tow_l0 hg ht N 0 (by omega)
end
end Go.Proofs.Ytljdcinpjnijcaa.Pure
end
section
set_option linter.unusedSimpArgs false
set_option linter.unusedVariables false
set_option linter.unusedSectionVars false
namespace Go.Proofs.Ytljdcinpjnijcaa.Pure
open Go.RowKit Go.Proofs.Ytljdcinpjnijcaa.Pr Go.Proofs.YtljdcinpjnijcaaW.PrintWords Go.Proofs.YtljdcinpjnijcaaW.PrintLast Go.Proofs.YtljdcinpjnijcaaW.PrintMore
open Go.Proofs.Ytljdcinpjnijcaa.Sp (G Wk Opt)
def Chain (l : List Arc) : Int → List Int → Int → Prop
 | u, [], v => u = v
 | u, k :: w, v => (0 ≤ k ∧ k < l.length ∧ (arc l k.toNat).f0 = u) ∧ Chain l (arc l k.toNat).f1 w v
def sumW (l : List Arc) (w : List Int) : Int := (w.map fun k => (arc l k.toNat).f2).sum
theorem Chain.rng {l : List Arc} : ∀ (w : List Int) (u v : Int), Chain l u w v → ∀ k ∈ w, 0 ≤ k ∧ k < l.length
 | [], _, _, _, k, hk => by simp at hk
 | a :: w, u, v, h, k, hk => by
  rcases List.mem_cons.1 hk with rfl | hk
  ·exact ⟨h.1.1, h.1.2.1⟩
  ·exact Chain.rng w _ v h.2 k hk
theorem back_arc' (l : List Arc) (i : Nat) : arc (back l) i = flip (arc l i) := by
 by_cases h : i < l.length
 case pos => exact back_arc h
 have e1 : arc (back l) i = z34 := by unfold arc; simp [rd_T34, back_len, List.getElem?_eq_none (show l.length ≤ i by omega), List.getElem?_eq_none (show (back l).length ≤ i by rw [back_len]; omega)]
 have e2 : arc l i = z34 := by unfold arc; simp [rd_T34, List.getElem?_eq_none (show l.length ≤ i by omega)]
 rw [e1, e2]; rfl
theorem back_back (l : List Arc) : back (back l) = l := by
 unfold back
 rw [List.map_map]
 have : (flip ∘ flip : Arc → Arc) = id := by funext a; rfl
 rw [this, List.map_id]
end Go.Proofs.Ytljdcinpjnijcaa.Pure
end
section
set_option linter.unusedSimpArgs false
set_option linter.unusedVariables false
set_option linter.unusedSectionVars false
namespace Go.Proofs.Ytljdcinpjnijcaa.Pure
open Go.RowKit Go.Proofs.Ytljdcinpjnijcaa.Pr Go.Proofs.YtljdcinpjnijcaaW.PrintWords Go.Proofs.YtljdcinpjnijcaaW.PrintLast Go.Proofs.YtljdcinpjnijcaaW.PrintMore
open Go.Proofs.Ytljdcinpjnijcaa.Sp (G Wk Opt)
def pA (N : Nat) (l : List Arc) (t u : Nat) (a : Arc) : Bool := decide (a.f0 = (u : Int)) && match dst N l t a.f1.toNat, stp N l t a.f1.toNat with
 | some x, some k => decide (dst N l t u = some (a.f2 + x)) && decide (stp N l t u = some (k + 1))
 | _, _ => false
def nxA (N : Nat) (l : List Arc) (t u : Nat) : Int := idxI (pA N l t u) l
def bestW (N : Nat) (l : List Arc) (t : Nat) : Nat → Nat → List Int
 | 0, _ => []
 | k + 1, u => nxA N l t u :: bestW N l t k (arc l (nxA N l t u).toNat).f1.toNat
theorem idxI_spec {α : Type} {p : α → Bool} {l : List α} (h : ∃ x ∈ l, p x = true) : ∃ i : Nat, ∃ hi : i < l.length, idxI p l = (i : Int) ∧ p l[i] = true ∧ ∀ j (hj : j < i), p (l[j]'(by omega)) = false := by
 unfold idxI
 cases e : l.findIdx? p with
 | none =>
  obtain ⟨x, hx, hp⟩ := h
  have := List.findIdx?_eq_none_iff.1 e x hx
  rw [this] at hp; cases hp
 | some i =>
  obtain ⟨hi, h1, h2⟩ := List.findIdx?_eq_some_iff_getElem.1 e
  exact ⟨i, hi, rfl, h1, fun j hj => by simpa using h2 j hj⟩
theorem wk_cost {N : Nat} {l : List Arc} (hg : NetGood N l) {u v k : Nat} {c : Int} (w : Wk (gr N l) u v k c) : c ≤ 99 * (k : Int) := by
 induction w with
 | nil => omega
 | @cons i _ _ c hi _ _ ih =>
  have h : (gr N l).w i ≤ 99 := (hg.ok i hi).2.2.2.1.2
  omega
section
variable {N : Nat} {l : List Arc} (hg : NetGood N l) {t : Nat} (ht : t < N)
include hg ht
theorem dst_t : dst N l t t = some 0 := by
 obtain ⟨x, h1, h2⟩ := (dst_opt hg ht t ht).2 0 0 (.nil t)
 obtain ⟨k, w⟩ := (dst_opt hg ht t ht).1 x h1
 have := w.nonneg (gr_ok hg)
 rw [h1]; congr 1; omega
theorem stp_t : stp N l t t = some 0 := by
 obtain ⟨x, h1, h2⟩ := (stp_opt hg ht t ht).2 0 0 (.nil t)
 obtain ⟨k, w⟩ := (stp_opt hg ht t ht).1 x h1
 have := w.nonneg (grS_ok hg _)
 rw [h1]; congr 1; omega
theorem dst_bd {v : Nat} (hv : v < N) {d : Int} (h : dst N l t v = some d) : 0 ≤ d ∧ d ≤ 693 := by
 have h8 := hg.n8
 obtain ⟨k, w⟩ := (dst_opt hg ht v hv).1 d h
 obtain ⟨k', c', w', h1, h2, h3⟩ := w.short (gr_ok hg) ht
 obtain ⟨x, h4, h5⟩ := (dst_opt hg ht v hv).2 _ _ w'
 rw [h] at h4
 obtain rfl := Option.some.inj h4
 have h6 := wk_cost hg w'
 have h7 : k' < N := h1
 exact ⟨w.nonneg (gr_ok hg), by omega⟩
theorem pA_some {u : Nat} (hu : u < N) (hne : u ≠ t) {d : Int} (hd : dst N l t u = some d) {k : Nat} (hk : stp N l t u = some (k : Int)) : ∃ a ∈ l, pA N l t u a = true := by
 obtain ⟨j, w⟩ := (stp_opt hg ht u hu).1 _ hk
 have hN := (dbl N l (dst N l t))
 generalize hc : (k : Int) = c at w
 cases w with
 | nil => exact absurd rfl hne
 | @cons i v _ c hi hus w =>
  have hil : i < l.length := hi
  have hok := hg.ok i hil
  have ew : (grS N l (dst N l t)).w i = 1 := rfl
  have ef : (grS N l (dst N l t)).fr i = (arc l i).f0.toNat := rfl
  have et : (grS N l (dst N l t)).tw i = (arc l i).f1.toNat := rfl
  rw [ew] at hc
  rw [et] at w
  rw [ef] at hu hd hk
  obtain ⟨_, x, e1, e2⟩ := (hN.su i hi).1 hus
  have e1 : dst N l t (arc l i).f1.toNat = some x := e1
  have e2 : dst N l t (arc l i).f0.toNat = some ((arc l i).f2 + x) := e2
  have h1N : (arc l i).f1.toNat < N := by omega
  obtain ⟨k', e3, h3⟩ := stp_some hg ht h1N e1
  obtain ⟨y, e4, h4⟩ := (stp_opt hg ht _ h1N).2 _ _ w
  rw [e3] at e4
  obtain rfl := Option.some.inj e4
  obtain ⟨j2, w2⟩ := (stp_opt hg ht _ h1N).1 _ e3
  have w3 := Wk.cons (g := grS N l (dst N l t)) (i := i) hi hus w2
  rw [ef] at w3
  obtain ⟨z, e5, h5⟩ := (stp_opt hg ht _ hu).2 _ _ w3
  rw [hk] at e5
  obtain rfl := Option.some.inj e5
  rw [ew] at h5
  refine ⟨arc l i, arc_mem hil, ?_⟩
  show (decide ((arc l i).f0 = (((arc l i).f0.toNat : Nat) : Int)) && _) = true
  rw [decide_eq_true (by omega), Bool.true_and, ef, e1, e3]
  dsimp only
  rw [decide_eq_true e2, Bool.true_and, hk]
  exact decide_eq_true (by congr 1; omega)
theorem nx_ok {u : Nat} (hu : u < N) (hne : u ≠ t) {d : Int} (hd : dst N l t u = some d) {k : Nat} (hk : stp N l t u = some (k : Int)) : ∃ i : Nat, nxA N l t u = (i : Int) ∧ i < l.length ∧ (arc l i).f0 = (u : Int) ∧ (arc l i).f1.toNat < N ∧ dst N l t (arc l i).f1.toNat = some (d - (arc l i).f2) ∧ 0 < k ∧ stp N l t (arc l i).f1.toNat = some ((k - 1 : Nat) : Int) ∧ pA N l t u (arc l i) = true ∧ ∀ j, j < i → pA N l t u (arc l j) = false := by
 obtain ⟨i, hi, e, hp, hf⟩ := idxI_spec (pA_some hg ht hu hne hd hk)
 rw [← arc_get hi] at hp
 have hp0 := hp
 unfold pA at hp
 rw [Bool.and_eq_true, decide_eq_true_eq] at hp
 obtain ⟨h1, h2⟩ := hp
 have hok := hg.ok i hi
 have h1N : (arc l i).f1.toNat < N := by omega
 cases e1 : dst N l t (arc l i).f1.toNat with
 | none => rw [e1] at h2; cases h2
 | some x =>
  obtain ⟨k', e2, _⟩ := stp_some hg ht h1N e1
  rw [e1, e2] at h2
  dsimp only at h2
  rw [Bool.and_eq_true, decide_eq_true_eq, decide_eq_true_eq, hd, hk] at h2
  have a1 := Option.some.inj h2.1
  have a2 := Option.some.inj h2.2
  refine ⟨i, e, hi, h1, h1N, by rw [show d - (arc l i).f2 = x by omega, e1], by omega, by rw [e2]; congr 1; omega, hp0, fun j hj => ?_⟩
  rw [arc_get (by omega)]
  exact hf j hj
theorem bestW_ok : ∀ (k u : Nat) (d : Int), u < N → dst N l t u = some d → stp N l t u = some (k : Int) → Chain l (u : Int) (bestW N l t k u) (t : Int) ∧ (bestW N l t k u).length = k ∧ sumW l (bestW N l t k u) = d
 | 0, u, d, hu, hd, hk => by
  have hut : u = t := by
   apply Classical.byContradiction
   intro hne
   obtain ⟨i, _, _, _, _, _, h0, _⟩ := nx_ok hg ht hu hne hd hk
   omega
  subst hut
  rw [dst_t hg ht] at hd
  exact ⟨rfl, rfl, Option.some.inj hd⟩
 | k + 1, u, d, hu, hd, hk => by
  have hne : u ≠ t := by
   rintro rfl
   rw [stp_t hg ht] at hk
   have := Option.some.inj hk
   omega
  obtain ⟨i, e, hi, h1, h2, h3, _, h4, _⟩ := nx_ok hg ht hu hne hd hk
  have hok := hg.ok i hi
  obtain ⟨a, b, c⟩ := bestW_ok k (arc l i).f1.toNat _ h2 h3 h4
  have e0 : bestW N l t (k + 1) u = (i : Int) :: bestW N l t k (arc l i).f1.toNat := by
   show nxA N l t u :: bestW N l t k (arc l (nxA N l t u).toNat).f1.toNat = _
   rw [e, Int.toNat_natCast]
  rw [e0]
  refine ⟨⟨⟨by omega, by omega, by rw [Int.toNat_natCast]; exact h1⟩, ?_⟩, by rw [List.length_cons, b], ?_⟩
  ·rw [Int.toNat_natCast]
   rw [show (((arc l i).f1.toNat : Nat) : Int) = (arc l i).f1 by omega] at a
   exact a
  ·have : sumW l ((i : Int) :: bestW N l t k (arc l i).f1.toNat) = (arc l i).f2 + sumW l (bestW N l t k (arc l i).f1.toNat) := by simp [sumW]
   rw [this, c]; omega
end
end Go.Proofs.Ytljdcinpjnijcaa.Pure
end
section
set_option linter.unusedSimpArgs false
set_option linter.unusedVariables false
set_option linter.unusedSectionVars false
namespace Go.Proofs.Ytljdcinpjnijcaa.Pure
open Go.RowKit Go.Proofs.Ytljdcinpjnijcaa.Pr Go.Proofs.YtljdcinpjnijcaaW.PrintWords Go.Proofs.YtljdcinpjnijcaaW.PrintLast Go.Proofs.YtljdcinpjnijcaaW.PrintMore
open Go.Proofs.Ytljdcinpjnijcaa.Sp (G Wk Opt rounds)
theorem idxI_congr {α : Type} {p q : α → Bool} {l : List α} (h : ∀ a ∈ l, p a = q a) : idxI p l = idxI q l := by
 have e : l.findIdx? p = l.findIdx? q := by
  induction l with
  | nil => rfl
  | cons a l ih =>
   rw [List.findIdx?_cons, List.findIdx?_cons, h a (List.mem_cons_self ..), ih (fun b hb => h b (List.mem_cons_of_mem _ hb))]
 unfold idxI
 rw [e]
section
variable {N : Nat} {l : List Arc} (hg : NetGood N l) {t : Nat} (ht : t < N)
include hg ht
theorem ent_none {v : Nat} (hv : v < N) (h : dst N l t v = none) : ent (rounds (grE N l) t N v) = ⟨99999, 0⟩ := by
 rw [tow_both hg ht hv]
 unfold Sp.both
 rw [h]; rfl
theorem ent_some {v : Nat} (hv : v < N) {d : Int} {k : Nat} (h : dst N l t v = some d) (hk : stp N l t v = some (k : Int)) : ent (rounds (grE N l) t N v) = ⟨d, (k : Int)⟩ := by
 have h8 := hg.n8
 obtain ⟨k', h1, h2⟩ := stp_some hg ht hv h
 rw [hk] at h1
 have := Option.some.inj h1
 rw [tow_both hg ht hv]
 unfold Sp.both
 rw [h, hk]
 show (⟨(1000 * d + (k : Int)) / 1000, (1000 * d + (k : Int)) % 1000⟩ : Msr) = ⟨d, (k : Int)⟩
 rw [show (1000 * d + (k : Int)) / 1000 = d by omega, show (1000 * d + (k : Int)) % 1000 = (k : Int) by omega]
theorem farc_pA {u : Nat} (hu : u < N) {d : Int} {k : Nat} (hd : dst N l t u = some d) (hk : stp N l t u = some (k : Int)) : ∀ a ∈ l, farc (lstM N (fun v => ent (rounds (grE N l) t N v))) (u : Int) ⟨d, (k : Int)⟩ a = pA N l t u a := by
 intro a ha
 have h8 := hg.n8
 obtain ⟨i, hi, e⟩ := List.getElem_of_mem ha
 have hok := hg.ok i hi
 rw [arc_get hi, e] at hok
 obtain ⟨v, hv⟩ := Int.eq_ofNat_of_zero_le hok.2.1.1
 have hvN : v < N := by omega
 unfold farc pA
 congr 1
 rw [hv, lstM_rd _ hvN, Int.toNat_natCast]
 cases e1 : dst N l t v with
 | none =>
  rw [ent_none hg ht hvN e1]
  simp
 | some x =>
  obtain ⟨k', e2, h2⟩ := stp_some hg ht hvN e1
  rw [ent_some hg ht hvN e1 e2, e2]
  have hx := dst_bd hg ht hvN e1
  have w1 : wrap64 (x + a.f2) = x + a.f2 := w64 (by omega) (by omega)
  have w2 : wrap64 ((k' : Int) + 1) = (k' : Int) + 1 := w64 (by omega) (by omega)
  dsimp only
  rw [w1, w2, decide_eq_false (show ¬ x = 99999 by omega), hd, hk]
  clear w1 w2
  simp only [Bool.not_false, Bool.true_and]
  congr 1
  ·rw [decide_eq_decide]
   exact ⟨fun h => by congr 1; omega, fun h => by have := Option.some.inj h; omega⟩
  ·rw [decide_eq_decide]
   exact ⟨fun h => by congr 1; omega, fun h => by have := Option.some.inj h; omega⟩
theorem best_l : ∀ (k u : Nat) (d : Int) (w : List Int), u < N → dst N l t u = some d → stp N l t u = some (k : Int) → w.length + k ≤ 100 → Ev (fun q => impl_Net_best.l0 q (u : Int) (t : Int) (lstM N (fun v => ent (rounds (grE N l) t N v))) w N l) (w ++ bestW N l t k u, true)
 | 0, u, d, w, hu, hd, hk, _ => by
  have hut : u = t := by
   apply Classical.byContradiction
   intro hne
   obtain ⟨i, _, _, _, _, _, h0, _⟩ := nx_ok hg ht hu hne hd hk
   omega
  subst hut
  refine Ev.go ?_ (fun k => by rw [impl_Net_best.l0])
  exact Ev.pos rfl (Ev.is (by simp [bestW]))
 | k + 1, u, d, w, hu, hd, hk, hw => by
  have h8 := hg.n8
  have hne : u ≠ t := by
   rintro rfl
   rw [stp_t hg ht] at hk
   have := Option.some.inj hk
   omega
  obtain ⟨i, e, hi, h1, h2, h3, _, h4, _⟩ := nx_ok hg ht hu hne hd hk
  have hok := hg.ok i hi
  have ih := best_l k (arc l i).f1.toNat _ (w ++ [(i : Int)]) h2 h3 h4 (by simp; omega)
  have e0 : bestW N l t (k + 1) u = (i : Int) :: bestW N l t k (arc l i).f1.toNat := by
   show nxA N l t u :: bestW N l t k (arc l (nxA N l t u).toNat).f1.toNat = _
   rw [e, Int.toNat_natCast]
  have ef : impl_Net_firstArc.f (N : Int) l (lstM N (fun v => ent (rounds (grE N l) t N v))) (u : Int) = some (i : Int) := by
   unfold impl_Net_firstArc.f
   rw [lstM_len, if_pos (by omega), if_pos (by omega), if_pos ?_, lstM_rd _ hu, ent_some hg ht hu hd hk, idxI_congr (farc_pA hg ht hu hd hk)]
   ·exact congrArg some e
   ·rw [List.all_eq_true]
    intro a ha
    obtain ⟨j, hj, ej⟩ := List.getElem_of_mem ha
    have := hg.ok j hj
    rw [arc_get hj, ej] at this
    simp
    omega
  refine Ev.go ?_ (fun k => by rw [impl_Net_best.l0])
  refine Ev.neg (by omega) (Ev.bind0 ef (Ev.pos (by omega) (Ev.pos (by omega) (Ev.pos (by omega) ?_))))
  rw [rda, show (arc l i).f1 = (((arc l i).f1.toNat : Nat) : Int) by omega]
  exact ih.cast (by rw [e0]; simp)
def bestV (N : Nat) (l : List Arc) (u t : Nat) : List Int × Bool := match dst N l t u, stp N l t u with
 | some _, some k => (bestW N l t k.toNat u, true)
 | _, _ => ([], false)
theorem best_ev {u : Nat} (hu : u < N) : Ev (fun q => impl_Net_best.f q N l (u : Int) (t : Int)) (bestV N l u t) := by
 have h8 := hg.n8
 unfold impl_Net_best.f bestV
 refine Ev.bind (tow_ev hg ht) ?_
 rw [lstM_len, lstM_rd _ hu]
 refine Ev.pos (by omega) (Ev.pos (by omega) ?_)
 cases e1 : dst N l t u with
 | none =>
  rw [ent_none hg ht hu e1]
  exact Ev.pos rfl (Ev.now _)
 | some d =>
  obtain ⟨k, e2, h2⟩ := stp_some hg ht hu e1
  have hx := dst_bd hg ht hu e1
  rw [ent_some hg ht hu e1 e2, e2]
  dsimp only
  rw [Int.toNat_natCast]
  exact Ev.neg (by omega) (Ev.pos (by omega) (Ev.pos (by omega) ((best_l hg ht k u d [] hu e1 e2 (by simp; omega)).cast (by simp))))
end
section
variable {N : Nat} {l : List Arc} (hg : NetGood N l)
include hg
theorem nodes2 {u v : Int} (hu : 0 ≤ u ∧ u < N) (hv : 0 ≤ v ∧ v < N) : impl_nodesIn.f (N : Int) l [u, v] = some true := by
 rw [nodesIn_eq, (netOkB_iff _ _).2 hg]
 simp [okN]
 omega
theorem nearWalk_ev {u t : Nat} (hu : u < N) (ht : t < N) : Ev (fun q => impl_NearWalk.f q N l (u : Int) (t : Int)) (bestV N l u t) := by
 unfold impl_NearWalk.f
 exact Ev.bind0 (nodes2 hg (by omega) (by omega)) (Ev.pos rfl (Ev.bind (best_ev hg ht hu) (Ev.now _)))
end
end Go.Proofs.Ytljdcinpjnijcaa.Pure
end
section
set_option linter.unusedSimpArgs false
set_option linter.unusedVariables false
set_option linter.unusedSectionVars false
namespace Go.Proofs.Ytljdcinpjnijcaa.Pure
open Go.RowKit Go.Proofs.Ytljdcinpjnijcaa.Pr Go.Proofs.YtljdcinpjnijcaaW.PrintWords Go.Proofs.YtljdcinpjnijcaaW.PrintLast Go.Proofs.YtljdcinpjnijcaaW.PrintMore
open Go.Proofs.Ytljdcinpjnijcaa.Sp (G Wk Opt lts put relax sweep rounds start)
theorem lst_put {N a : Nat} (L : Nat → Option Int) (x : Int) : (lst N (fun v => far (L v))).set a x = lst N (fun v => far (put L a x v)) := by
 rw [lst_set]
 apply lst_congr
 intro v _
 unfold upd Sp.put
 split <;> rfl
theorem lst_fill (N i : Nat) (c : Int) (F : Nat → Int) (h : i < N) : (lst N (fun v => if v < i then c else F v)).set i c = lst N (fun v => if v < i + 1 then c else F v) := by
 rw [lst_set]
 apply lst_congr
 intro v _
 unfold upd
 by_cases e : v = i
 case pos => subst e; simp
 rw [if_neg e]
 show (if v < i then c else F v) = _
 by_cases e2 : v < i
 case neg => rw [if_neg e2, if_neg (by omega)]
 rw [if_pos e2, if_pos (by omega)]
theorem start_lst {N s : Nat} (hs : s < N) : (lst N (fun _ => (99999 : Int))).set s 0 = lst N (fun v => far (Sp.start s v)) := by
 rw [lst_set]
 apply lst_congr
 intro v _
 unfold upd Sp.start
 split <;> rfl
def Bw (w : Int) (s : Nat) (L : Nat → Option Int) : Prop := ∀ v x, L v = some x → 0 ≤ x ∧ x ≤ w * (s : Int)
theorem Bw.relax {g : G} {w : Int} {s : Nat} {L : Nat → Option Int} (h : Bw w s L) {i : Nat} (h0 : 0 ≤ g.w i) (h1 : g.w i ≤ w) : Bw w (s + 1) (relax g L i) := by
 intro v x hx
 have := Sp.relax_bd h h0 h1 v x hx
 refine ⟨this.1, ?_⟩
 have e : w * ((s + 1 : Nat) : Int) = w * (s : Int) + w := by rw [Int.natCast_add, Int.mul_add]; simp
 omega
theorem Bw.sweep {g : G} {w : Int} {s : Nat} {L : Nat → Option Int} (h : Bw w s L) (hw : ∀ i, i < g.m → 0 ≤ g.w i ∧ g.w i ≤ w) : ∀ i, i ≤ g.m → Bw w (s + i) (sweep g L i)
 | 0, _ => h
 | i + 1, hi => (Bw.sweep h hw i (by omega)).relax (hw i (by omega)).1 (hw i (by omega)).2
theorem Bw.rounds {g : G} {w : Int} (hw : ∀ i, i < g.m → 0 ≤ g.w i ∧ g.w i ≤ w) (t : Nat) : ∀ r, Bw w (g.m * r) (rounds g t r)
 | 0 => by
  intro v x hx
  unfold Sp.rounds Sp.start at hx
  split at hx
  ·obtain rfl := Option.some.inj hx; simp
  ·cases hx
 | r + 1 => by
  have := (Bw.rounds hw t r).sweep hw g.m (Nat.le_refl _)
  rw [Nat.mul_succ]
  exact this
section
variable {N : Nat} {l : List Arc} (hg : NetGood N l)
include hg
theorem back_gr_fr (i : Nat) : (gr N (back l)).fr i = (arc l i).f1.toNat := by show (arc (back l) i).f0.toNat = _; rw [back_arc']; rfl
theorem back_gr_tw (i : Nat) : (gr N (back l)).tw i = (arc l i).f0.toNat := by show (arc (back l) i).f1.toNat = _; rw [back_arc']; rfl
theorem back_gr_w (i : Nat) : (gr N (back l)).w i = (arc l i).f2 := by show (arc (back l) i).f2 = _; rw [back_arc']; rfl
theorem back_gr_m : (gr N (back l)).m = l.length := back_len l
theorem back_bw : ∀ i, i < (gr N (back l)).m → 0 ≤ (gr N (back l)).w i ∧ (gr N (back l)).w i ≤ 99 := by
 intro i hi
 rw [back_gr_m hg] at hi
 rw [back_gr_w hg]
 exact (hg.ok i hi).2.2.2.1
theorem l3All_arcs (r : Nat) {M : Nat → Option Int} {s : Nat} (hM : Bw 99 s M) (hs : s ≤ 500) (hr : r < N) {R : List Int} : ∀ (m i : Nat), l.length - i = m → i ≤ l.length →
  Ev (fun k => spec_l3All.l1 k (lst N (fun v => far (sweep (gr N (back l)) M l.length v))) ((r + 1 : Nat) : Int) N l) R →
  Ev (fun k => spec_l3All.l2 k (lst N (fun v => far (sweep (gr N (back l)) M i v))) (r : Int) (i : Int) N l) R := by
 have h8 := hg.n8
 have h16 := hg.len
 intro m
 induction m with
 | zero =>
  intro i hd hi h
  obtain rfl : i = l.length := by omega
  refine Ev.go ?_ (fun k => by rw [spec_l3All.l2])
  rw [up1 hr (by simp only [maxLen]; omega)]
  exact Ev.neg (by omega) h
 | succ m ih =>
  intro i hd hi h
  have hlt : i < l.length := by omega
  have hn := ih (i + 1) (by omega) (by omega) h
  clear ih h
  have hb := hM.sweep (back_bw hg) i (by rw [back_gr_m hg]; omega)
  have hsw : sweep (gr N (back l)) M (i + 1) = relax (gr N (back l)) (sweep (gr N (back l)) M i) i := rfl
  rw [hsw] at hn
  generalize sweep (gr N (back l)) M i = L at hn hb
  obtain ⟨⟨a1, a2⟩, ⟨a3, a4⟩, a5, ⟨a6, a7⟩, _⟩ := hg.ok i hlt
  have ef := back_gr_fr hg i
  have et := back_gr_tw hg i
  have ew := back_gr_w hg i
  obtain ⟨f, hf⟩ := Int.eq_ofNat_of_zero_le a1
  obtain ⟨t, ht⟩ := Int.eq_ofNat_of_zero_le a3
  rw [hf, Int.toNat_natCast] at et
  rw [ht, Int.toNat_natCast] at ef
  have hfN : f < N := by omega
  have htN : t < N := by omega
  refine Ev.go ?_ (fun k => by rw [spec_l3All.l2])
  rw [rda, up1 hlt (by simp only [maxLen]; omega), hf, ht, lst_rd _ htN, lst_rd _ hfN, lst_len]
  refine Ev.pos (by omega) (Ev.pos (by omega) (Ev.pos (by omega) (Ev.pos (by omega) ?_)))
  cases e2 : L f with
  | none =>
   have hre : relax (gr N (back l)) L i = L := by unfold Sp.relax; rw [if_pos (show (gr N (back l)).use i = true from rfl), et, e2]
   rw [hre] at hn
   exact Ev.neg (by show ¬ ((99999 : Int) < 99999); omega) hn
  | some x =>
   have hx := hb f x e2
   have w1 : wrap64 (x + (arc l i).f2) = x + (arc l i).f2 := w64 (by omega) (by omega)
   have hre : relax (gr N (back l)) L i = if lts (x + (arc l i).f2) (L t) = true then put L t (x + (arc l i).f2) else L := by
    unfold Sp.relax
    rw [if_pos (show (gr N (back l)).use i = true from rfl), et, e2, ef, ew]
   have elt : (x + (arc l i).f2 < far (L t)) ↔ lts (x + (arc l i).f2) (L t) = true := by
    cases e3 : L t with
    | none => exact ⟨fun _ => rfl, fun _ => by show x + _ < 99999; omega⟩
    | some y => exact ⟨fun h => decide_eq_true h, fun h => of_decide_eq_true h⟩
   rw [hre] at hn
   show Ev (fun k => if x < 99999 then _ else _) R
   rw [show far (some x) = x from rfl, w1, Int.toNat_natCast, lst_put]
   clear w1 hre
   refine Ev.pos (by omega) (Ev.pos (by omega) (Ev.pos (by omega) ?_))
   cases c : lts (x + (arc l i).f2) (L t) with
   | true =>
    rw [c, if_pos rfl] at hn
    exact Ev.pos (elt.2 c) hn
   | false =>
    rw [c, if_neg (by simp)] at hn
    exact Ev.neg (fun h => by rw [elt.1 h] at c; cases c) hn
theorem l3All_rounds {s : Nat} (hs : s < N) : ∀ (m r : Nat), N - r = m → r ≤ N → Ev (fun k => spec_l3All.l1 k (lst N (fun v => far (rounds (gr N (back l)) s r v))) (r : Int) N l) (lst N (fun v => far (dst N (back l) s v))) := by
 have h8 := hg.n8
 have h16 := hg.len
 intro m
 induction m with
 | zero =>
  intro r hd hr
  obtain rfl : r = N := by omega
  refine Ev.go ?_ (fun k => by rw [spec_l3All.l1])
  exact Ev.neg (by omega) (Ev.now _)
 | succ m ih =>
  intro r hd hr
  have hlt : r < N := by omega
  refine Ev.go ?_ (fun k => by rw [spec_l3All.l1])
  refine Ev.pos (by omega) ?_
  have hb := Bw.rounds (back_bw hg) s r
  rw [back_gr_m hg] at hb
  have h16r : l.length * r ≤ 16 * 8 := Nat.mul_le_mul h16 (by omega)
  refine l3All_arcs hg r hb (by omega) hlt _ 0 rfl (Nat.zero_le _) ?_
  have e : sweep (gr N (back l)) (rounds (gr N (back l)) s r) l.length = rounds (gr N (back l)) s (r + 1) := by
   show _ = sweep (gr N (back l)) (rounds (gr N (back l)) s r) (gr N (back l)).m
   rw [back_gr_m hg]
  rw [e]
  exact ih (r + 1) (by omega) (by omega)
theorem l3All_fill {s : Nat} (hs : s < N) : ∀ (m i : Nat), N - i = m → i ≤ N → Ev (fun k => spec_l3All.l0 k (s : Int) (lst N (fun v => if v < i then 99999 else 0)) (i : Int) N l) (lst N (fun v => far (dst N (back l) s v))) := by
 have h8 := hg.n8
 intro m
 induction m with
 | zero =>
  intro i hd hi
  obtain rfl : i = N := by omega
  refine Ev.go ?_ (fun k => by rw [spec_l3All.l0])
  have e : lst i (fun v => if v < i then (99999 : Int) else 0) = lst i (fun _ => 99999) := lst_congr (fun v hv => by rw [if_pos hv])
  rw [e, lst_len]
  refine Ev.neg (by omega) (Ev.pos (by omega) (Ev.pos (by omega) ?_))
  rw [Int.toNat_natCast, start_lst hs]
  exact (l3All_rounds hg hs _ 0 rfl (Nat.zero_le _))
 | succ m ih =>
  intro i hd hi
  have hlt : i < N := by omega
  refine Ev.go ?_ (fun k => by rw [spec_l3All.l0])
  rw [lst_len, Int.toNat_natCast, lst_fill N i 99999 (fun _ => 0) hlt, up1 hlt (by simp only [maxLen]; omega)]
  exact Ev.pos (by omega) (Ev.pos (by omega) (Ev.pos (by omega) (ih (i + 1) (by omega) (by omega))))
theorem zeros_lst : List.replicate N (0 : Int) = lst N (fun v => if v < 0 then 99999 else 0) := by
 apply List.ext_getElem (by simp [lst])
 intro i h1 h2
 simp [lst]
theorem l3All_ev {s : Nat} (hs : s < N) : Ev (fun k => spec_l3All.f k N l (s : Int)) (lst N (fun v => far (dst N (back l) s v))) := by
 have h8 := hg.n8
 unfold spec_l3All.f
 rw [Int.toNat_natCast, zeros_lst hg]
 exact Ev.pos (by omega) (Ev.pos (by omega) (l3All_fill hg hs _ 0 rfl (Nat.zero_le _)))
end
theorem l1Back_l (n m0 : Int) (l : List Arc) (hm : l.length ≤ 1000) : ∀ (m i : Nat), l.length - i = m → i ≤ l.length → Ev (fun k => spec_l1Back.l0 k (i : Int) n l m0 ((back l).take i)) (m0, back l) := by
 intro m
 induction m with
 | zero =>
  intro i hd hi
  refine Ev.go ?_ (fun k => by rw [spec_l1Back.l0])
  refine Ev.neg (by omega) (Ev.is ?_)
  rw [List.take_of_length_le (by rw [back_len]; omega)]
 | succ m ih =>
  intro i hd hi
  have hlt : i < l.length := by omega
  refine Ev.go ?_ (fun k => by rw [spec_l1Back.l0])
  have ih := ih (i + 1) (by omega) (by omega)
  have hlt2 : i < (back l).length := by rw [back_len]; exact hlt
  rw [List.take_succ_eq_append_getElem hlt2, ← arc_get hlt2, back_arc hlt] at ih
  rw [up1 hlt (by simp only [maxLen]; omega), rda]
  exact Ev.pos (by omega) (Ev.pos (by omega) (Ev.pos (by simp; omega) ih))
theorem l1Back_ev (n : Int) (l : List Arc) (hm : l.length ≤ 1000) : Ev (fun k => spec_l1Back.f k n l) (n, back l) := by
 unfold spec_l1Back.f
 simpa using l1Back_l n n l hm _ 0 rfl (Nat.zero_le _)
end Go.Proofs.Ytljdcinpjnijcaa.Pure
end
section
set_option linter.unusedSimpArgs false
set_option linter.unusedVariables false
set_option linter.unusedSectionVars false
namespace Go.Proofs.Ytljdcinpjnijcaa.Pure
open Go.RowKit Go.Proofs.Ytljdcinpjnijcaa.Pr Go.Proofs.YtljdcinpjnijcaaW.PrintWords Go.Proofs.YtljdcinpjnijcaaW.PrintLast Go.Proofs.YtljdcinpjnijcaaW.PrintMore
open Go.Proofs.Ytljdcinpjnijcaa.Sp (G Wk Opt lts put relax sweep rounds start)
def walkW (N : Nat) (l : List Arc) (u t : Nat) : List Int × Bool := match dst N l t u, stp N l t u with
 | some _, some k => (bestW N l t k.toNat u, true)
 | _, _ => ([], false)
section
variable {N : Nat} {l : List Arc} (hg : NetGood N l) {t : Nat} (ht : t < N)
include hg ht
theorem l3Steps_arcs (r : Nat) {M : Nat → Option Int} {s : Nat} (hM : Bw 1 s M) (hs : s ≤ 500) (hr : r < N) {R : List Int} : ∀ (m i : Nat), l.length - i = m → i ≤ l.length →
  Ev (fun k => spec_l3Steps.l1 k (lst N (fun v => far (dst N l t v))) (lst N (fun v => far (sweep (grS N l (dst N l t)) M l.length v))) ((r + 1 : Nat) : Int) N l) R →
  Ev (fun k => spec_l3Steps.l2 k (lst N (fun v => far (dst N l t v))) (lst N (fun v => far (sweep (grS N l (dst N l t)) M i v))) (r : Int) (i : Int) N l) R := by
 have h8 := hg.n8
 have h16 := hg.len
 intro m
 induction m with
 | zero =>
  intro i hd hi h
  obtain rfl : i = l.length := by omega
  refine Ev.go ?_ (fun k => by rw [spec_l3Steps.l2])
  rw [up1 hr (by simp only [maxLen]; omega)]
  exact Ev.neg (by omega) h
 | succ m ih =>
  intro i hd hi h
  have hlt : i < l.length := by omega
  have hn := ih (i + 1) (by omega) (by omega) h
  clear ih h
  have hb := hM.sweep (g := grS N l (dst N l t)) (fun i _ => ⟨by show (0 : Int) ≤ 1; omega, by show (1 : Int) ≤ 1; omega⟩) i hi
  have hsw : sweep (grS N l (dst N l t)) M (i + 1) = relax (grS N l (dst N l t)) (sweep (grS N l (dst N l t)) M i) i := rfl
  rw [hsw] at hn
  clear hsw
  generalize sweep (grS N l (dst N l t)) M i = L at hn hb
  obtain ⟨⟨a1, a2⟩, ⟨a3, a4⟩, a5, ⟨a6, a7⟩, _⟩ := hg.ok i hlt
  have ef : (grS N l (dst N l t)).fr i = (arc l i).f0.toNat := rfl
  have et : (grS N l (dst N l t)).tw i = (arc l i).f1.toNat := rfl
  have ew : (grS N l (dst N l t)).w i = 1 := rfl
  have eu : (grS N l (dst N l t)).use i = (match dst N l t (arc l i).f1.toNat with | none => false | some x => decide (dst N l t (arc l i).f0.toNat = some ((arc l i).f2 + x))) := rfl
  obtain ⟨f, hf⟩ := Int.eq_ofNat_of_zero_le a1
  obtain ⟨g, hgg⟩ := Int.eq_ofNat_of_zero_le a3
  rw [hf, Int.toNat_natCast] at ef
  rw [hgg, Int.toNat_natCast] at et
  rw [hf, hgg, Int.toNat_natCast, Int.toNat_natCast] at eu
  have hfN : f < N := by omega
  have hgN : g < N := by omega
  refine Ev.go ?_ (fun k => by rw [spec_l3Steps.l2])
  rw [rda, up1 hlt (by simp only [maxLen]; omega), hf, hgg, lst_rd _ hfN, lst_rd _ hgN, lst_rd _ hfN, lst_rd _ hgN, lst_len, lst_len]
  refine Ev.pos (by omega) (Ev.pos (by omega) (Ev.pos (by omega) (Ev.pos (by omega) ?_)))
  cases e1 : dst N l t g with
  | none =>
   rw [e1] at eu
   have hre : relax (grS N l (dst N l t)) L i = L := by unfold Sp.relax; rw [eu]; rfl
   rw [hre] at hn
   exact Ev.neg (by show ¬ ((99999 : Int) < 99999); omega) hn
  | some x =>
   have hx := dst_bd hg ht hgN e1
   rw [e1] at eu
   dsimp only at eu
   have w1 : wrap64 ((arc l i).f2 + x) = (arc l i).f2 + x := w64 (by omega) (by omega)
   show Ev (fun k => if x < 99999 then _ else _) R
   rw [show far (some x) = x from rfl, w1]
   clear w1
   refine Ev.pos (by omega) (Ev.pos (by omega) (Ev.pos (by omega) ?_))
   by_cases c : dst N l t f = some ((arc l i).f2 + x)
   case neg =>
    rw [decide_eq_false c] at eu
    have hre : relax (grS N l (dst N l t)) L i = L := by unfold Sp.relax; rw [eu]; rfl
    rw [hre] at hn
    refine Ev.neg ?_ hn
    intro h
    apply c
    cases e3 : dst N l t f with
    | none => rw [e3] at h; have h : (99999 : Int) = (arc l i).f2 + x := h; omega
    | some z => rw [e3] at h; have h : z = (arc l i).f2 + x := h; rw [h]
   rw [decide_eq_true c] at eu
   refine Ev.pos (by rw [c]; rfl) (Ev.pos (by omega) (Ev.pos (by omega) ?_))
   cases e2 : L g with
   | none =>
    have hre : relax (grS N l (dst N l t)) L i = L := by unfold Sp.relax; rw [if_pos eu, et, e2]
    rw [hre] at hn
    have hle : far (L f) ≤ 99999 := by
     cases e3 : L f with
     | none => exact Int.le_refl _
     | some y => have := hb f y e3; show y ≤ 99999; omega
    have w2 : wrap64 (far none + 1) = 100000 := w64 (by decide) (by decide)
    rw [w2]
    clear w2
    exact Ev.neg (by omega) hn
   | some y =>
    have hy := hb g y e2
    have w2 : wrap64 (far (some y) + 1) = y + 1 := w64 (by show _ ≤ y + 1; omega) (by show y + 1 ≤ _; omega)
    have hre : relax (grS N l (dst N l t)) L i = if lts (y + 1) (L f) = true then put L f (y + 1) else L := by
     unfold Sp.relax
     rw [if_pos eu, et, e2, ef, ew]
    have elt : (y + 1 < far (L f)) ↔ lts (y + 1) (L f) = true := by
     cases e3 : L f with
     | none => exact ⟨fun _ => rfl, fun _ => by show y + 1 < 99999; omega⟩
     | some z => exact ⟨fun h => decide_eq_true h, fun h => of_decide_eq_true h⟩
    rw [hre] at hn
    rw [w2, Int.toNat_natCast, lst_put]
    clear w2 hre
    cases c2 : lts (y + 1) (L f) with
    | true =>
     rw [c2, if_pos rfl] at hn
     exact Ev.pos (elt.2 c2) hn
    | false =>
     rw [c2, if_neg (by simp)] at hn
     exact Ev.neg (fun h => by rw [elt.1 h] at c2; cases c2) hn
theorem l3Steps_rounds : ∀ (m r : Nat), N - r = m → r ≤ N → Ev (fun k => spec_l3Steps.l1 k (lst N (fun v => far (dst N l t v))) (lst N (fun v => far (rounds (grS N l (dst N l t)) t r v))) (r : Int) N l) (lst N (fun v => far (stp N l t v))) := by
 have h8 := hg.n8
 have h16 := hg.len
 intro m
 induction m with
 | zero =>
  intro r hd hr
  obtain rfl : r = N := by omega
  refine Ev.go ?_ (fun k => by rw [spec_l3Steps.l1])
  exact Ev.neg (by omega) (Ev.now _)
 | succ m ih =>
  intro r hd hr
  have hlt : r < N := by omega
  refine Ev.go ?_ (fun k => by rw [spec_l3Steps.l1])
  refine Ev.pos (by omega) ?_
  have hb := Bw.rounds (g := grS N l (dst N l t)) (w := 1) (fun i _ => ⟨by show (0 : Int) ≤ 1; omega, by show (1 : Int) ≤ 1; omega⟩) t r
  have h16r : (grS N l (dst N l t)).m * r ≤ 16 * 8 := Nat.mul_le_mul h16 (by omega)
  exact l3Steps_arcs hg ht r hb (by omega) hlt _ 0 rfl (Nat.zero_le _) (ih (r + 1) (by omega) (by omega))
theorem l3Steps_fill : ∀ (m i : Nat), N - i = m → i ≤ N → Ev (fun k => spec_l3Steps.l0 k (t : Int) (lst N (fun v => far (dst N l t v))) (lst N (fun v => if v < i then 99999 else 0)) (i : Int) N l) (lst N (fun v => far (stp N l t v))) := by
 have h8 := hg.n8
 intro m
 induction m with
 | zero =>
  intro i hd hi
  obtain rfl : i = N := by omega
  refine Ev.go ?_ (fun k => by rw [spec_l3Steps.l0])
  have e : lst i (fun v => if v < i then (99999 : Int) else 0) = lst i (fun _ => 99999) := lst_congr (fun v hv => by rw [if_pos hv])
  rw [e, lst_len]
  refine Ev.neg (by omega) (Ev.pos (by omega) (Ev.pos (by omega) ?_))
  rw [Int.toNat_natCast, start_lst ht]
  exact (l3Steps_rounds hg ht _ 0 rfl (Nat.zero_le _))
 | succ m ih =>
  intro i hd hi
  have hlt : i < N := by omega
  refine Ev.go ?_ (fun k => by rw [spec_l3Steps.l0])
  rw [lst_len, Int.toNat_natCast, lst_fill N i 99999 (fun _ => 0) hlt, up1 hlt (by simp only [maxLen]; omega)]
  exact Ev.pos (by omega) (Ev.pos (by omega) (Ev.pos (by omega) (ih (i + 1) (by omega) (by omega))))
theorem l3All_back : Ev (fun k => spec_l3All.f k N (back l) (t : Int)) (lst N (fun v => far (dst N l t v))) := by
 have := l3All_ev (back_good hg) ht
 rw [back_back] at this
 exact this
theorem l3Steps_ev : Ev (fun k => spec_l3Steps.f k N l (t : Int)) (lst N (fun v => far (stp N l t v))) := by
 have h8 := hg.n8
 have h16 := hg.len
 unfold spec_l3Steps.f
 refine Ev.bind (l1Back_ev _ l (by omega)) (Ev.bind (l3All_back hg ht) (Ev.pos (by omega) (Ev.pos (by omega) ?_)))
 rw [Int.toNat_natCast, zeros_lst hg]
 exact l3Steps_fill hg ht _ 0 rfl (Nat.zero_le _)
theorem l3Walk_scan {u : Nat} (hu : u < N) {d : Int} (hd : dst N l t u = some d) {k : Nat} (hk : stp N l t u = some (k : Int)) (w : List Int) (hw : w.length ≤ 1000) {i0 : Nat} (hi0 : i0 < l.length) (hp : pA N l t u (arc l i0) = true) (hf : ∀ j, j < i0 → pA N l t u (arc l j) = false) {R : List Int × Bool}
  (h : Ev (fun k => spec_l3Walk.l0 k (t : Int) (lst N (fun v => far (dst N l t v))) (lst N (fun v => far (stp N l t v))) (w ++ [(i0 : Int)]) (arc l i0).f1 N l) R) :
  ∀ (m i : Nat), i0 - i = m → i ≤ i0 → Ev (fun k => spec_l3Walk.l1 k (t : Int) (lst N (fun v => far (dst N l t v))) (lst N (fun v => far (stp N l t v))) w (u : Int) (i : Int) N l) R := by
 have h8 := hg.n8
 have h16 := hg.len
 have hdb := dst_bd hg ht hu hd
 have key : ∀ (i : Nat), i < l.length → ∀ (A B : Nat → Option (List Int × Bool)), (pA N l t u (arc l i) = true → Ev A R) → (pA N l t u (arc l i) = false → Ev B R) →
   Ev (fun k => if (arc l i).f0 = (u : Int) then (if 0 ≤ (arc l i).f1 then (if (arc l i).f1 < ((lst N (fun v => far (dst N l t v))).length : Int) then (if (rd (lst N (fun v => far (dst N l t v))) ((arc l i).f1)) < 99999 then (if 0 ≤ (u : Int) then (if (u : Int) < ((lst N (fun v => far (dst N l t v))).length : Int) then (if (rd (lst N (fun v => far (dst N l t v))) (u : Int)) = (wrap64 ((arc l i).f2 + (rd (lst N (fun v => far (dst N l t v))) ((arc l i).f1)))) then (if (u : Int) < ((lst N (fun v => far (stp N l t v))).length : Int) then (if (arc l i).f1 < ((lst N (fun v => far (stp N l t v))).length : Int) then (if (rd (lst N (fun v => far (stp N l t v))) (u : Int)) = (wrap64 ((rd (lst N (fun v => far (stp N l t v))) ((arc l i).f1)) + 1)) then A k else B k) else none) else none) else B k) else none) else none) else B k) else none) else none) else B k) R := by
  intro i hi A B hA hB
  have hok := hg.ok i hi
  obtain ⟨g, hgg⟩ := Int.eq_ofNat_of_zero_le hok.2.1.1
  have hgN : g < N := by omega
  have ep : pA N l t u (arc l i) = (decide ((arc l i).f0 = (u : Int)) && match dst N l t g, stp N l t g with | some x, some k' => decide (dst N l t u = some ((arc l i).f2 + x)) && decide (stp N l t u = some (k' + 1)) | _, _ => false) := by
   unfold pA
   rw [hgg, Int.toNat_natCast]
   all_goals (cases dst N l t g <;> cases stp N l t g <;> rfl)
  by_cases c1 : (arc l i).f0 = (u : Int)
  case neg =>
   rw [decide_eq_false c1, Bool.false_and] at ep
   exact Ev.neg c1 (hB ep)
  rw [decide_eq_true c1, Bool.true_and] at ep
  refine Ev.pos c1 ?_
  rw [hgg, lst_rd _ hgN, lst_rd _ hu, lst_rd _ hgN, lst_rd _ hu, lst_len, lst_len]
  refine Ev.pos (by omega) (Ev.pos (by omega) ?_)
  cases e1 : dst N l t g with
  | none =>
   rw [e1] at ep
   exact Ev.neg (by show ¬ ((99999 : Int) < 99999); omega) (hB ep)
  | some x =>
   obtain ⟨k', e2, h2⟩ := stp_some hg ht hgN e1
   have hx := dst_bd hg ht hgN e1
   rw [e1, e2, hd, hk] at ep
   dsimp only at ep
   have w1 : wrap64 ((arc l i).f2 + far (some x)) = (arc l i).f2 + x := w64 (by show _ ≤ (arc l i).f2 + x; omega) (by show (arc l i).f2 + x ≤ _; omega)
   have w2 : wrap64 (far (some (k' : Int)) + 1) = (k' : Int) + 1 := w64 (by show _ ≤ (k' : Int) + 1; omega) (by show (k' : Int) + 1 ≤ _; omega)
   rw [e2, hd, hk, w1, w2]
   clear w1 w2
   refine Ev.pos (by show x < 99999; omega) (Ev.pos (by omega) (Ev.pos (by omega) ?_))
   by_cases c2 : d = (arc l i).f2 + x
   case neg =>
    refine Ev.neg (show ¬ far (some d) = _ from c2) (hB ?_)
    rw [decide_eq_false (fun h => c2 (Option.some.inj h)), Bool.false_and] at ep
    exact ep
   refine Ev.pos (show far (some d) = _ from c2) (Ev.pos (by omega) (Ev.pos (by omega) ?_))
   rw [decide_eq_true (show some d = some ((arc l i).f2 + x) by rw [c2]), Bool.true_and] at ep
   by_cases c3 : (k : Int) = (k' : Int) + 1
   case pos => exact Ev.pos (show far (some (k : Int)) = _ from c3) (hA (ep.trans (decide_eq_true (by rw [c3]))))
   exact Ev.neg (show ¬ far (some (k : Int)) = _ from c3) (hB (ep.trans (decide_eq_false (fun h => c3 (Option.some.inj h)))))
 intro m
 induction m with
 | zero =>
  intro i hd' hi
  obtain rfl : i = i0 := by omega
  refine Ev.go ?_ (fun k => by rw [spec_l3Walk.l1])
  refine Ev.pos (by omega) (Ev.pos (by omega) ?_)
  rw [rda]
  exact key i hi0 _ _ (fun _ => Ev.pos (by omega) h) (fun hc => by rw [hp] at hc; cases hc)
 | succ m ih =>
  intro i hd' hi
  have hlt : i < l.length := by omega
  have ih := ih (i + 1) (by omega) (by omega)
  rw [← up1 hlt (by simp only [maxLen]; omega)] at ih
  refine Ev.go ?_ (fun k => by rw [spec_l3Walk.l1])
  refine Ev.pos (by omega) (Ev.pos (by omega) ?_)
  rw [rda]
  exact key i hlt _ _ (fun hc => by rw [hf i (by omega)] at hc; cases hc) (fun _ => ih)
theorem l3Walk_l : ∀ (k u : Nat) (d : Int) (w : List Int), u < N → dst N l t u = some d → stp N l t u = some (k : Int) → w.length + k ≤ 100 → Ev (fun q => spec_l3Walk.l0 q (t : Int) (lst N (fun v => far (dst N l t v))) (lst N (fun v => far (stp N l t v))) w (u : Int) N l) (w ++ bestW N l t k u, true)
 | 0, u, d, w, hu, hd, hk, _ => by
  have hut : u = t := by
   apply Classical.byContradiction
   intro hne
   obtain ⟨i, _, _, _, _, _, h0, _⟩ := nx_ok hg ht hu hne hd hk
   omega
  subst hut
  refine Ev.go ?_ (fun k => by rw [spec_l3Walk.l0])
  exact Ev.pos rfl (Ev.is (by simp [bestW]))
 | k + 1, u, d, w, hu, hd, hk, hw => by
  have hne : u ≠ t := by
   rintro rfl
   rw [stp_t hg ht] at hk
   have := Option.some.inj hk
   omega
  obtain ⟨i, e, hi, h1, h2, h3, _, h4, h5, h6⟩ := nx_ok hg ht hu hne hd hk
  have hok := hg.ok i hi
  have ih := l3Walk_l k (arc l i).f1.toNat _ (w ++ [(i : Int)]) h2 h3 h4 (by simp; omega)
  have e0 : bestW N l t (k + 1) u = (i : Int) :: bestW N l t k (arc l i).f1.toNat := by
   show nxA N l t u :: bestW N l t k (arc l (nxA N l t u).toNat).f1.toNat = _
   rw [e, Int.toNat_natCast]
  refine Ev.go ?_ (fun k => by rw [spec_l3Walk.l0])
  refine Ev.neg (by omega) (l3Walk_scan hg ht hu hd hk w (by omega) hi h5 h6 ?_ _ 0 rfl (Nat.zero_le _))
  rw [show (((arc l i).f1.toNat : Nat) : Int) = (arc l i).f1 by omega] at ih
  exact ih.cast (by rw [e0]; simp)
theorem l3Walk_ev {u : Nat} (hu : u < N) : Ev (fun q => spec_l3Walk.f q N l (u : Int) (t : Int)) (walkW N l u t) := by
 have h8 := hg.n8
 have h16 := hg.len
 unfold spec_l3Walk.f walkW
 refine Ev.bind (l1Back_ev _ l (by omega)) (Ev.bind (l3All_back hg ht) (Ev.bind (l3Steps_ev hg ht) (Ev.bind0 rfl ?_)))
 rw [lst_len, lst_rd _ hu]
 refine Ev.pos (by omega) (Ev.pos (by omega) ?_)
 cases e1 : dst N l t u with
 | none => exact Ev.pos (by show (99999 : Int) ≥ 99999; omega) (Ev.now _)
 | some d =>
  obtain ⟨k, e2, h2⟩ := stp_some hg ht hu e1
  have hx := dst_bd hg ht hu e1
  rw [e2]
  dsimp only
  rw [Int.toNat_natCast]
  exact Ev.neg (by show ¬ d ≥ 99999; omega) ((l3Walk_l hg ht k u d [] hu e1 e2 (by simp; omega)).cast (by simp))
end
end Go.Proofs.Ytljdcinpjnijcaa.Pure
end
section
namespace Go.Proofs.Ytljdcinpjnijcaa.Pr
open Go.RowKit Go.Proofs.YtljdcinpjnijcaaW.PrintWords Go.Proofs.YtljdcinpjnijcaaW.PrintLast Go.Proofs.YtljdcinpjnijcaaW.PrintMore
attribute [local go_sem] max2_int min2_int max_two min_two max_three min_three max_four min_four
set_option linter.unusedVariables false
set_option linter.unusedSimpArgs false
mutual
def spec_HubArcs.l0 : Nat → List Int → Int → Int → List (S34) → Option (List Int)
 | 0, _, _, _, _ => none
 | k + 1, x3, x4, p3, p4 => if x4 < p3 then (spec_HubArcs.l1 k x3 x4 0 p3 p4) else (some x3)
def spec_HubArcs.l1 : Nat → List Int → Int → Int → Int → List (S34) → Option (List Int)
 | 0, _, _, _, _, _ => none
 | k + 1, x3, x4, x5, p3, p4 => if x5 < p3 then ((spec_l3Walk.f k p3 p4 x4 x5).bind fun bt626 => (spec_HubArcs.l2 k x3 x4 x5 bt626.1 0 p3 p4)) else (spec_HubArcs.l0 k x3 (wrap64 (x4 + 1)) p3 p4)
def spec_HubArcs.l2 : Nat → List Int → Int → Int → List Int → Int → Int → List (S34) → Option (List Int)
 | 0, _, _, _, _, _, _, _ => none
 | k + 1, x3, x4, x5, x6, x8, p3, p4 => if x8 < (x6.length : Int) then (if 0 ≤ x8 then (if 0 ≤ (rd x6 x8) then (if (rd x6 x8) < (x3.length : Int) then (spec_HubArcs.l2 k (x3.set ((rd x6 x8) : Int).toNat (wrap64 ((rd x3 (rd x6 x8)) + 1))) x4 x5 x6 (wrap64 (x8 + 1)) p3 p4) else (none)) else (none)) else (none)) else (spec_HubArcs.l1 k x3 x4 (wrap64 (x5 + 1)) p3 p4)
end
end Go.Proofs.Ytljdcinpjnijcaa.Pr
end
section
set_option linter.unusedSimpArgs false
set_option linter.unusedVariables false
set_option linter.unusedSectionVars false
namespace Go.Proofs.Ytljdcinpjnijcaa.Pure
open Go.RowKit Go.Proofs.Ytljdcinpjnijcaa.Pr Go.Proofs.YtljdcinpjnijcaaW.PrintWords Go.Proofs.YtljdcinpjnijcaaW.PrintLast Go.Proofs.YtljdcinpjnijcaaW.PrintMore
open Go.Proofs.Ytljdcinpjnijcaa.Sp (G Wk Opt)
def addAt (o : List Int) (i : Int) : List Int := o.set i.toNat (wrap64 (rd o i + 1))
theorem addAt_len (o : List Int) (i : Int) : (addAt o i).length = o.length := by simp [addAt]
def addAll (o : List Int) (x : List Int) : List Int := x.foldl addAt o
theorem addAll_len : ∀ (x o : List Int), (addAll o x).length = o.length
 | [], _ => rfl
 | k :: x, o => (addAll_len x (addAt o k)).trans (addAt_len o k)
def mids (l : List Arc) (x : List Int) : List Int := (x.drop 1).map fun k => (arc l k.toNat).f0
def rowF (st : List Int → List Int → List Int) (N : Nat) (l : List Arc) (a : Nat) : Nat → List Int → List Int
 | 0, o => o
 | d + 1, o => rowF st N l a d (st o (bestV N l a (N - (d + 1))).1)
def allF (st : List Int → List Int → List Int) (N : Nat) (l : List Arc) : Nat → List Int → List Int
 | 0, o => o
 | d + 1, o => allF st N l d (rowF st N l (N - (d + 1)) N o)
section
variable {N : Nat} {l : List Arc} (hg : NetGood N l)
include hg
theorem bestV_ok {a b : Nat} (ha : a < N) (hb : b < N) : (∀ k ∈ (bestV N l a b).1, 0 ≤ k ∧ k < l.length) ∧ (bestV N l a b).1.length ≤ 8 ∧ ((bestV N l a b).2 = false → (bestV N l a b).1 = []) ∧ ((bestV N l a b).2 = true → Chain l (a : Int) (bestV N l a b).1 (b : Int)) ∧ ((bestV N l a b).2 = true → a ≠ b → 1 ≤ (bestV N l a b).1.length) ∧ (a = b → (bestV N l a b).1 = []) := by
 have h8 := hg.n8
 unfold bestV
 cases e1 : dst N l b a with
 | none => simp
 | some d =>
  obtain ⟨k, e2, h2⟩ := stp_some hg hb ha e1
  rw [e2]
  dsimp only
  rw [Int.toNat_natCast]
  obtain ⟨c1, c2, c3⟩ := bestW_ok hg hb k a d ha e1 e2
  refine ⟨c1.rng _ _ _, by omega, fun h => (by cases h), fun _ => c1, fun _ hne => ?_, fun hab => ?_⟩
  ·rw [c2]
   cases k with
   | zero =>
    have e0 : bestW N l b 0 a = [] := rfl
    rw [e0] at c1
    have : (a : Int) = (b : Int) := c1
    omega
   | succ k => omega
  ·subst hab
   rw [stp_t hg ha] at e2
   have := Option.some.inj e2
   have hk : k = 0 := by omega
   subst hk
   rfl
theorem hubRow_ev {st : List Int → List Int → Option (List Int)} {sf : List Int → List Int → List Int} {m : Nat} (hst : ∀ a b, a < N → b < N → a ≠ b → (bestV N l a b).2 = true → ∀ o : List Int, o.length = m → st o (bestV N l a b).1 = some (sf o (bestV N l a b).1)) (hlen : ∀ o x, (sf o x).length = o.length) (hnil : ∀ o, sf o [] = o) {a : Nat} (ha : a < N) :
  ∀ (d : Nat) (o : List Int), d ≤ N → o.length = m → Ev (fun k => hubRow st k N l a d o) (rowF sf N l a d o)
 | 0, o, _, _ => Ev.now _
 | d + 1, o, hd, ho => by
  unfold hubRow rowF
  have hb : N - (d + 1) < N := by omega
  obtain ⟨_, _, h3, _, _, h6⟩ := bestV_ok hg ha hb
  refine Ev.bind (best_ev hg hb ha) ?_
  cases h : (bestV N l a (N - (d + 1))).2 with
  | false =>
   rw [h3 h, hnil]
   exact Ev.neg (by simp) (hubRow_ev hst hlen hnil ha d o (by omega) ho)
  | true =>
   refine Ev.pos rfl ?_
   by_cases hab : a = N - (d + 1)
   case pos =>
    rw [h6 hab, hnil]
    exact Ev.pos hab (hubRow_ev hst hlen hnil ha d o (by omega) ho)
   exact Ev.neg hab (Ev.bind0 (hst a _ ha hb hab h o ho) (hubRow_ev hst hlen hnil ha d _ (by omega) (by rw [hlen]; exact ho)))
theorem rowF_len {sf : List Int → List Int → List Int} (hlen : ∀ o x, (sf o x).length = o.length) (a : Nat) : ∀ (d : Nat) (o : List Int), (rowF sf N l a d o).length = o.length
 | 0, _ => rfl
 | d + 1, o => by
  unfold rowF
  rw [rowF_len hlen a d, hlen]
theorem allF_len {sf : List Int → List Int → List Int} (hlen : ∀ o x, (sf o x).length = o.length) : ∀ (d : Nat) (o : List Int), (allF sf N l d o).length = o.length
 | 0, _ => rfl
 | d + 1, o => by
  unfold allF
  rw [allF_len hlen d, rowF_len hg hlen]
theorem hubAll_ev {st : List Int → List Int → Option (List Int)} {sf : List Int → List Int → List Int} {m : Nat} (hst : ∀ a b, a < N → b < N → a ≠ b → (bestV N l a b).2 = true → ∀ o : List Int, o.length = m → st o (bestV N l a b).1 = some (sf o (bestV N l a b).1)) (hlen : ∀ o x, (sf o x).length = o.length) (hnil : ∀ o, sf o [] = o) :
  ∀ (d : Nat) (o : List Int), d ≤ N → o.length = m → Ev (fun k => hubAll st k N l d o) (allF sf N l d o)
 | 0, o, _, _ => Ev.now _
 | d + 1, o, hd, ho => by
  unfold hubAll allF
  exact Ev.bind (hubRow_ev hg hst hlen hnil (show N - (d + 1) < N by omega) N o (Nat.le_refl _) ho) (hubAll_ev hst hlen hnil d _ (by omega) (by rw [rowF_len hg hlen]; exact ho))
end
theorem incL_eq : ∀ (x o : List Int), (∀ k ∈ x, 0 ≤ k ∧ k < o.length) → incL o x = some (addAll o x)
 | [], o, _ => rfl
 | k :: x, o, h => by
  have hk := h k (List.mem_cons_self ..)
  unfold incL
  rw [if_pos hk.1, if_pos hk.2]
  exact incL_eq x (addAt o k) (fun j hj => by rw [addAt_len]; exact h j (List.mem_cons_of_mem _ hj))
def arcsV (n : Int) (l : List Arc) : List Int := if netOkB n l = true then allF addAll n.toNat l n.toNat (List.replicate l.length 0) else []
theorem implHubArcs_ev (n : Int) (l : List Arc) : Ev (fun k => impl_HubArcs.f k n l) (arcsV n l) := by
 unfold impl_HubArcs.f arcsV
 cases h : netOkB n l with
 | false => exact Ev.neg (by simp) (Ev.is (by simp))
 | true =>
  have hg := (netOkB_iff n l).1 h
  have h1 := hg.n1
  obtain ⟨N, rfl⟩ := Int.eq_ofNat_of_zero_le (show 0 ≤ n by omega)
  rw [if_pos rfl, Int.toNat_natCast]
  refine Ev.pos rfl (hubAll_ev hg (m := l.length) (fun a b ha hb _ _ o ho => ?_) (fun o x => addAll_len x o) (fun o => rfl) N _ (Nat.le_refl _) (by simp))
  obtain ⟨h2, h3, _⟩ := bestV_ok hg ha hb
  unfold stA
  rw [if_pos (by omega)]
  exact incL_eq _ _ (fun k hk => by rw [ho]; exact h2 k hk)
section
variable {N : Nat} {l : List Arc} (hg : NetGood N l)
include hg
theorem specHubArcs_l2 {a b : Nat} (hb : b < N) {x : List Int} (hx : x.length ≤ 8) (hr : ∀ k ∈ x, 0 ≤ k ∧ k < l.length) {R : List Int} : ∀ (m i : Nat) (o : List Int), x.length - i = m → i ≤ x.length → o.length = l.length →
  Ev (fun k => spec_HubArcs.l1 k (addAll o (x.drop i)) (a : Int) ((b + 1 : Nat) : Int) N l) R → Ev (fun k => spec_HubArcs.l2 k o (a : Int) (b : Int) x (i : Int) N l) R := by
 have h8 := hg.n8
 intro m
 induction m with
 | zero =>
  intro i o hd hi ho h
  rw [List.drop_of_length_le (by omega)] at h
  refine Ev.go ?_ (fun k => by rw [spec_HubArcs.l2])
  rw [up1 hb (by simp only [maxLen]; omega)]
  exact Ev.neg (by omega) h
 | succ m ih =>
  intro i o hd hi ho h
  have hlt : i < x.length := by omega
  have hk := hr _ (getD_mem hlt)
  rw [drop_cons hlt, ← nth_get hlt] at h
  refine Ev.go ?_ (fun k => by rw [spec_HubArcs.l2])
  rw [rdg i, up1 hlt (by simp only [maxLen]; omega)]
  exact Ev.pos (by omega) (Ev.pos (by omega) (Ev.pos (by omega) (Ev.pos (by omega) (ih (i + 1) (addAt o (nth x i)) (by omega) (by omega) (by rw [addAt_len]; exact ho) h))))
end
theorem incC_eq {l : List Arc} : ∀ (x o : List Int), (∀ k ∈ x, (0 ≤ k ∧ k < l.length) ∧ 0 ≤ (arc l k.toNat).f0 ∧ (arc l k.toNat).f0 < o.length) → incC l o x = some (addAll o (x.map fun k => (arc l k.toNat).f0))
 | [], o, _ => rfl
 | k :: x, o, h => by
  obtain ⟨⟨k0, k1⟩, k2, k3⟩ := h k (List.mem_cons_self ..)
  have e : rd_T34 l k = arc l k.toNat := by unfold arc; rw [Int.toNat_of_nonneg k0]
  unfold incC
  rw [if_pos k0, if_pos k1, e, if_pos k2, if_pos k3]
  exact incC_eq x (addAt o _) (fun j hj => by rw [addAt_len]; exact h j (List.mem_cons_of_mem _ hj))
def cntF (l : List Arc) (o x : List Int) : List Int := addAll o (mids l x)
def cntV (n : Int) (l : List Arc) : List Int := if netOkB n l = true then allF (cntF l) n.toNat l n.toNat (List.replicate n.toNat 0) else []
theorem implHubCount_ev (n : Int) (l : List Arc) : Ev (fun k => impl_HubCount.f k n l) (cntV n l) := by
 unfold impl_HubCount.f cntV
 cases h : netOkB n l with
 | false => exact Ev.neg (by simp) (Ev.is (by simp))
 | true =>
  have hg := (netOkB_iff n l).1 h
  have h1 := hg.n1
  obtain ⟨N, rfl⟩ := Int.eq_ofNat_of_zero_le (show 0 ≤ n by omega)
  rw [if_pos rfl, Int.toNat_natCast]
  refine Ev.pos rfl (hubAll_ev hg (sf := cntF l) (m := N) (fun a b ha hb hab hq o ho => ?_) (fun o x => addAll_len _ o) (fun o => rfl) N _ (Nat.le_refl _) (by simp))
  obtain ⟨h2, h3, _, _, h5, _⟩ := bestV_ok hg ha hb
  unfold stC
  rw [if_pos (by omega), if_pos (h5 hq hab)]
  refine incC_eq _ _ (fun k hk => ?_)
  have hk' := h2 k (List.mem_of_mem_drop hk)
  obtain ⟨q1, q2, _⟩ := hg.ok k.toNat (by omega)
  exact ⟨hk', q1.1, by rw [ho]; exact q1.2⟩
theorem Chain.next {l : List Arc} : ∀ (x : List Int) (u v : Int), Chain l u x v → ∀ i, i + 1 < x.length → (arc l (nth x (i + 1)).toNat).f0 = (arc l (nth x i).toNat).f1
 | [], _, _, _, i, h => absurd h (by simp)
 | [k], _, _, _, i, h => absurd h (by simp)
 | k :: j :: x, u, v, c, 0, h => c.2.1.2.2
 | k :: j :: x, u, v, c, i + 1, h => Chain.next (j :: x) _ v c.2 i (by simp only [List.length_cons] at h ⊢; omega)
section
variable {N : Nat} {l : List Arc} (hg : NetGood N l)
include hg
theorem specHubCount_l2 {a b : Nat} (hb : b < N) {x : List Int} {t : Bool} (hx : x.length ≤ 8) (hr : ∀ k ∈ x, 0 ≤ k ∧ k < l.length) (hc : t = true → ∃ u v, Chain l u x v) (hf : t = false → x = []) {R : List Int} : ∀ (m i : Nat) (o : List Int), x.length - i = m → i ≤ x.length → o.length = N →
  Ev (fun k => spec_HubCount.l1 k (addAll o ((x.drop (i + 1)).map fun k => (arc l k.toNat).f0)) (a : Int) ((b + 1 : Nat) : Int) N l) R → Ev (fun k => spec_HubCount.l2 k o (a : Int) (b : Int) x t (i : Int) N l) R := by
 have h8 := hg.n8
 intro m
 induction m with
 | zero =>
  intro i o hd hi ho h
  rw [List.drop_of_length_le (by omega)] at h
  refine Ev.go ?_ (fun k => by rw [spec_HubCount.l2])
  rw [up1 hb (by simp only [maxLen]; omega), up1 (show i < 9 by omega) (by simp only [maxLen]; omega)]
  exact Ev.neg (by omega) h
 | succ m ih =>
  intro i o hd hi ho h
  have hlt : i < x.length := by omega
  by_cases hl : i + 1 < x.length
  case neg =>
   rw [List.drop_of_length_le (by omega)] at h
   refine Ev.go ?_ (fun k => by rw [spec_HubCount.l2])
   rw [up1 hb (by simp only [maxLen]; omega), up1 (show i < 9 by omega) (by simp only [maxLen]; omega)]
   exact Ev.neg (by omega) h
  have ht : t = true := by
   cases t with
   | false => rw [hf rfl] at hl; simp at hl
   | true => rfl
  obtain ⟨u, v, c⟩ := hc ht
  have hn := Chain.next _ _ _ c i hl
  have hk := hr _ (getD_mem hlt)
  obtain ⟨q1, q2, _⟩ := hg.ok (nth x i).toNat (by omega)
  have e : rd_T34 l (nth x i) = arc l (nth x i).toNat := by unfold arc; rw [Int.toNat_of_nonneg hk.1]
  rw [drop_cons hl, List.map_cons, ← nth_get hl, hn] at h
  refine Ev.go ?_ (fun k => by rw [spec_HubCount.l2])
  rw [rdg i, e, up1 hlt (by simp only [maxLen]; omega)]
  exact Ev.pos (by omega) (Ev.pos ht (Ev.pos (by omega) (Ev.pos (by omega) (Ev.pos hk.1 (Ev.pos hk.2 (Ev.pos q2.1 (Ev.pos (by rw [ho]; exact q2.2) (ih (i + 1) (addAt o _) (by omega) (by omega) (by rw [addAt_len]; exact ho) h))))))))
theorem specHubCount_l1 {a : Nat} (ha : a < N) {R : List Int} : ∀ (d : Nat) (o : List Int), d ≤ N → o.length = N →
  Ev (fun k => spec_HubCount.l0 k (rowF (cntF l) N l a d o) ((a + 1 : Nat) : Int) N l) R → Ev (fun k => spec_HubCount.l1 k o (a : Int) ((N - d : Nat) : Int) N l) R
 | 0, o, _, ho, h => by
  have h8 := hg.n8
  refine Ev.go ?_ (fun k => by rw [spec_HubCount.l1])
  rw [up1 ha (by simp only [maxLen]; omega)]
  exact Ev.neg (by omega) h
 | d + 1, o, hd, ho, h => by
  have hb : N - (d + 1) < N := by omega
  obtain ⟨h2, h3, hf, hc, _⟩ := bestV_ok hg ha hb
  refine Ev.go ?_ (fun k => by rw [spec_HubCount.l1])
  refine Ev.pos (by omega) (Ev.bind (l3Walk_ev hg hb ha) ?_)
  refine specHubCount_l2 hg hb h3 h2 (fun h => ⟨_, _, hc h⟩) hf _ 0 o rfl (Nat.zero_le _) ho ?_
  rw [show N - (d + 1) + 1 = N - d by omega]
  exact specHubCount_l1 ha d _ (by omega) (by rw [addAll_len]; exact ho) h
theorem specHubCount_l0 : ∀ (d : Nat) (o : List Int), d ≤ N → o.length = N → Ev (fun k => spec_HubCount.l0 k o ((N - d : Nat) : Int) N l) (allF (cntF l) N l d o)
 | 0, o, _, ho => by
  refine Ev.go ?_ (fun k => by rw [spec_HubCount.l0])
  exact Ev.neg (by omega) (Ev.now _)
 | d + 1, o, hd, ho => by
  have ha : N - (d + 1) < N := by omega
  refine Ev.go ?_ (fun k => by rw [spec_HubCount.l0])
  refine Ev.pos (by omega) ?_
  have h := specHubCount_l1 hg ha (R := allF (cntF l) N l (d + 1) o) N o (Nat.le_refl _) ho
  rw [Nat.sub_self] at h
  refine h ?_
  rw [show N - (d + 1) + 1 = N - d by omega]
  exact specHubCount_l0 d _ (by omega) (by rw [rowF_len hg (sf := cntF l) (fun o x => addAll_len _ o)]; exact ho)
end
theorem specHubCount_ev (n : Int) (l : List Arc) (hm : l.length ≤ maxLen) : Ev (fun k => spec_HubCount.f k n l) (cntV n l) := by
 unfold spec_HubCount.f cntV
 refine Ev.bind (l1Ok_ev n l hm) ?_
 cases h : netOkB n l with
 | false => exact Ev.neg (by simp) (Ev.is (by simp))
 | true =>
  have hg := (netOkB_iff n l).1 h
  have h1 := hg.n1
  have h8 := hg.n8
  obtain ⟨N, rfl⟩ := Int.eq_ofNat_of_zero_le (show 0 ≤ n by omega)
  rw [if_pos rfl, Int.toNat_natCast]
  refine Ev.pos rfl (Ev.pos (by omega) (Ev.pos (by omega) ?_))
  have := specHubCount_l0 hg N (List.replicate N 0) (Nat.le_refl _) (by simp)
  rw [Nat.sub_self] at this
  exact this
theorem cntV_len (n : Int) (l : List Arc) : (cntV n l).length ≤ 8 := by
 unfold cntV
 cases h : netOkB n l with
 | false => simp
 | true =>
  have hg := (netOkB_iff n l).1 h
  have h1 := hg.n1
  have h8 := hg.n8
  obtain ⟨N, rfl⟩ := Int.eq_ofNat_of_zero_le (show 0 ≤ n by omega)
  rw [if_pos rfl, Int.toNat_natCast, allF_len hg (sf := cntF l) (fun o x => addAll_len _ o)]
  simp only [List.length_replicate]
  omega
end Go.Proofs.Ytljdcinpjnijcaa.Pure
end
section
set_option linter.unusedSimpArgs false
set_option linter.unusedVariables false
namespace Go.Proofs.Ytljdcinpjnijcaa.Pure
open Go.RowKit Go.Proofs.Ytljdcinpjnijcaa.Pr Go.Proofs.YtljdcinpjnijcaaW.PrintWords Go.Proofs.YtljdcinpjnijcaaW.PrintLast Go.Proofs.YtljdcinpjnijcaaW.PrintMore
structure Rdr (b : List Int) : Prop where
 len : b.length ≤ 2000
 rng : ∀ i, i < b.length → 0 ≤ nth b i ∧ nth b i ≤ 255
theorem Rdr.rd {b : List Int} (h : Rdr b) (i : Int) : 0 ≤ Go.Proofs.YtljdcinpjnijcaaW.PrintWords.rd b i ∧ Go.Proofs.YtljdcinpjnijcaaW.PrintWords.rd b i ≤ 255 := by
 have e : Go.Proofs.YtljdcinpjnijcaaW.PrintWords.rd b i = nth b i.toNat := rfl
 rw [e]
 by_cases c : i.toNat < b.length
 case pos => exact h.rng _ c
 have c2 : b.length ≤ i.toNat := by omega
 simp [nth, List.getElem?_eq_none c2]
theorem tm {x a : Int} (hx : 0 ≤ x) (ha : 0 < a) : 0 ≤ Int.tmod x a ∧ Int.tmod x a < a := by
 rw [Int.tmod_eq_emod_of_nonneg hx]
 exact ⟨Int.emod_nonneg _ (by omega), Int.emod_lt_of_pos _ ha⟩
theorem td {x a : Int} (hx : 0 ≤ x) (ha : 0 < a) : 0 ≤ Int.tdiv x a ∧ Int.tdiv x a ≤ x := by
 rw [Int.tdiv_eq_ediv_of_nonneg hx]
 exact ⟨Int.ediv_nonneg hx (by omega), Int.ediv_le_self _ hx⟩
theorem xor_nn {x y : Int} (hx : 0 ≤ x) (hx' : x < 4294967296) (hy : 0 ≤ y) (hy' : y < 4294967296) : 0 ≤ Go.bits .xor .i64 x y := by
 obtain ⟨x, rfl⟩ := Int.eq_ofNat_of_zero_le hx
 obtain ⟨y, rfl⟩ := Int.eq_ofNat_of_zero_le hy
 have h1 : x ^^^ y < 2 ^ 32 := Nat.xor_lt_two_pow (by omega) (by omega)
 have e : Go.bits .xor .i64 ((x : Nat) : Int) ((y : Nat) : Int) = wrap64 (((BitVec.ofInt 64 ((x : Nat) : Int) ^^^ BitVec.ofInt 64 ((y : Nat) : Int)).toNat : Nat) : Int) := by
  unfold Go.bits
  simp only [i64_w]
  rfl
 rw [e, BitVec.toNat_xor, BitVec.ofInt_natCast, BitVec.ofInt_natCast, BitVec.toNat_ofNat, BitVec.toNat_ofNat, Nat.mod_eq_of_lt (by omega), Nat.mod_eq_of_lt (by omega), w64 (by omega) (by omega)]
 omega
theorem pick_pv {b : List Int} (h : Rdr b) {p a : Int} (hp : 0 ≤ p) (hp' : p ≤ 1000000) : Pv (fun k => spec_l30Rd_pick.f k b p a) (fun r => (0 ≤ r.1 ∧ (a < 1 → r.1 = 0) ∧ (1 ≤ a → r.1 < a)) ∧ r.2 = p + 1) := by
 have w1 : wrap64 (p + 1) = p + 1 := w64 (by omega) (by omega)
 have w2 : wrap64 (p + 1 - 1) = p := by rw [w64 (by omega) (by omega)]; omega
 unfold spec_l30Rd_pick.f
 refine Pv.ite (fun c => ?_) (fun c => ?_)
 ·refine Pv.go ?_ (fun k => by rw [spec_l30Rd_pick.j0])
  exact Pv.pos rfl (Pv.now ⟨⟨Int.le_refl _, fun _ => rfl, fun c2 => by omega⟩, w1⟩)
 ·refine Pv.go ?_ (fun k => by rw [spec_l30Rd_pick.j0])
  refine Pv.ite (fun _ => Pv.now ⟨⟨Int.le_refl _, fun _ => rfl, fun c2 => by dsimp only; omega⟩, w1⟩) (fun c0 => ?_)
  have hb : 0 < (b.length : Int) := by
   have : (b.length : Int) ≠ 0 := by simpa using c0
   omega
  have hb2 := h.len
  rw [w1, w2]
  have fin : ∀ X : Int, 0 ≤ X → Pv (fun _ => some (Int.tmod X a, p + 1)) (fun r => (0 ≤ r.1 ∧ (a < 1 → r.1 = 0) ∧ (1 ≤ a → r.1 < a)) ∧ r.2 = p + 1) := by
   intro X hX
   have := tm hX (show 0 < a by omega)
   exact Pv.now ⟨⟨this.1, fun c2 => absurd c2 c, fun _ => this.2⟩, rfl⟩
  refine Pv.ite (fun c1 => Pv.pos hp (Pv.neg (by omega) ?_)) (fun c1 => ?_)
  ·have := h.rd p
   rw [w64 (n := Go.Proofs.YtljdcinpjnijcaaW.PrintWords.rd b p) (by omega) (by omega)]
   exact fin _ (by omega)
  ·have t1 := tm hp hb
   have e1 : wrap64 (p * 7) = p * 7 := w64 (by omega) (by omega)
   have e2 : wrap64 (p * 7 + 3) = p * 7 + 3 := w64 (by omega) (by omega)
   rw [e1, e2]
   have t2 := tm (show 0 ≤ p * 7 + 3 by omega) hb
   have r1 := h.rd (Int.tmod p b.length)
   have r2 := h.rd (Int.tmod (p * 7 + 3) b.length)
   have d1 := td hp hb
   refine Pv.neg (by omega) (Pv.pos t1.1 (Pv.pos t1.2 (Pv.pos t2.1 (Pv.pos t2.2 (Pv.neg (by omega) ?_)))))
   generalize Go.Proofs.YtljdcinpjnijcaaW.PrintWords.rd b (Int.tmod p b.length) = u at r1
   generalize Go.Proofs.YtljdcinpjnijcaaW.PrintWords.rd b (Int.tmod (p * 7 + 3) b.length) = v at r2
   generalize Int.tdiv p b.length = q at d1
   rw [w64 (n := u) (by omega) (by omega), w64 (n := v) (by omega) (by omega), w64 (n := q) (by omega) (by omega), w64 (n := u * 131) (by omega) (by omega), w64 (n := v * 1117) (by omega) (by omega), w64 (n := p * 29) (by omega) (by omega), w64 (n := q * 53) (by omega) (by omega), w64 (n := u * 131 + v * 1117) (by omega) (by omega), w64 (n := u * 131 + v * 1117 + p * 29) (by omega) (by omega), w64 (n := u * 131 + v * 1117 + p * 29 + q * 53) (by omega) (by omega)]
   have d2 := td (show 0 ≤ u * 131 + v * 1117 + p * 29 + q * 53 by omega) (show (0 : Int) < 64 by omega)
   generalize Int.tdiv (u * 131 + v * 1117 + p * 29 + q * 53) 64 = z at d2
   rw [w64 (n := z) (by omega) (by omega)]
   exact fin _ (xor_nn (by omega) (by omega) (by omega) (by omega))
theorem one_pv {b : List Int} (h : Rdr b) {p : Int} (hp : 0 ≤ p) (hp' : p ≤ 1000000) {l : List Int} (hl : 0 < l.length) : Pv (fun k => spec_l30Rd_one.f k b p l) (fun r => r.1 ∈ l ∧ r.2 = p + 1) := by
 unfold spec_l30Rd_one.f
 refine Pv.bind (pick_pv h hp hp') (fun r ⟨⟨h1, _, h2⟩, h3⟩ => ?_)
 have h2 := h2 (by omega)
 refine Pv.pos h1 (Pv.pos h2 (Pv.now ⟨?_, h3⟩))
 have e : Go.Proofs.YtljdcinpjnijcaaW.PrintWords.rd l r.1 = nth l r.1.toNat := rfl
 dsimp only
 rw [e]
 exact getD_mem (by omega)
theorem u8_range {x : Int} (h : (Lit.int .u8 x).wf = true) : 0 ≤ x ∧ x ≤ 255 := by
 simp only [Lit.wf] at h
 have h2 : IntKind.u8.min ≤ x ∧ x ≤ IntKind.u8.max := by simpa using h
 have e1 : IntKind.u8.min = 0 := by decide
 have e2 : IntKind.u8.max = 255 := by decide
 omega
theorem open_pv {l : List Int} (hl : ∀ x ∈ l, (Lit.int .u8 x).wf = true) : ∃ b, spec_l30Open.f l = some (b, 0) ∧ Rdr b := by
 have key : ∀ m : List Int, m.length ≤ 2000 → (∀ x ∈ m, x ∈ l) → Rdr m := fun m h1 h2 => ⟨h1, fun i hi => u8_range (hl _ (h2 _ (getD_mem hi)))⟩
 unfold spec_l30Open.f
 by_cases c : (l.length : Int) > 2000
 case neg =>
  rw [if_neg c]
  exact ⟨_, rfl, key _ (by omega) (fun x hx => hx)⟩
 rw [if_pos c, if_pos (by omega)]
 exact ⟨_, rfl, key _ (by simp; omega) (fun x hx => List.mem_of_mem_take hx)⟩
end Go.Proofs.Ytljdcinpjnijcaa.Pure
end
section
set_option linter.unusedSimpArgs false
set_option linter.unusedVariables false
namespace Go.Proofs.Ytljdcinpjnijcaa.Pure
open Go.RowKit Go.Proofs.Ytljdcinpjnijcaa.Pr Go.Proofs.YtljdcinpjnijcaaW.PrintWords Go.Proofs.YtljdcinpjnijcaaW.PrintLast Go.Proofs.YtljdcinpjnijcaaW.PrintMore
def NetSz (p : Int) (r : Int × List Arc × Int) : Prop := (0 ≤ r.1 ∧ r.1 ≤ 9) ∧ r.2.1.length ≤ 13 ∧ (p ≤ r.2.2 ∧ r.2.2 ≤ p + 100)
theorem net_l {b : List Int} (h : Rdr b) (n : Int) (hn : 1 ≤ n ∧ n ≤ 9) : ∀ (m : Nat) (p : Int) (l : List Arc), 0 ≤ p → p + 6 * m ≤ 100000 → m ≤ 13 → l.length ≤ 13 - m → Pv (fun k => spec_l30Net.l0 k (m : Int) b p n l) (fun r => r.1 = n ∧ r.2.1.length ≤ 13 ∧ (p ≤ r.2.2 ∧ r.2.2 ≤ p + 6 * m)) := by
 intro m
 induction m with
 | zero =>
  intro p l hp hp' hm hl
  refine Pv.go ?_ (fun k => by rw [spec_l30Net.l0])
  exact Pv.neg (by omega) (Pv.now ⟨rfl, by dsimp only; omega, by dsimp only; omega⟩)
 | succ m ih =>
  intro p l hp hp' hm hl
  have hw : wrap64 (((m + 1 : Nat) : Int) - 1) = (m : Int) := by rw [w64 (by omega) (by omega)]; omega
  refine Pv.go ?_ (fun k => by rw [spec_l30Net.l0])
  rw [hw]
  refine Pv.pos (by omega) (Pv.bind (pick_pv h hp (by omega)) (fun r1 ⟨a1, e1⟩ => Pv.bind (pick_pv h (p := r1.2) (by omega) (by omega)) (fun r2 ⟨a2, e2⟩ => Pv.bind (pick_pv h (p := r2.2) (by omega) (by omega)) (fun r3 ⟨a3, e3⟩ => Pv.bind (one_pv h (p := r3.2) (by omega) (by omega) (by simp)) (fun r4 ⟨a4, e4⟩ => Pv.bind (one_pv h (p := r4.2) (by omega) (by omega) (by simp)) (fun r5 ⟨a5, e5⟩ => Pv.bind (pick_pv h (p := r5.2) (by omega) (by omega)) (fun r6 ⟨a6, e6⟩ => ?_)))))))
  have step : ∀ x : Arc, Pv (fun k => spec_l30Net.l0 k (m : Int) b r6.2 n (l ++ [x])) (fun r => r.1 = n ∧ r.2.1.length ≤ 13 ∧ (p ≤ r.2.2 ∧ r.2.2 ≤ p + 6 * ((m + 1 : Nat) : Int))) := fun x => (ih r6.2 (l ++ [x]) (by omega) (by omega) (by omega) (by simp; omega)).mono (fun r hr => ⟨hr.1, hr.2.1, by omega, by omega⟩)
  refine Pv.ite (fun _ => Pv.neg (by omega) (Pv.pos (by omega) (step _))) (fun _ => Pv.pos (by omega) (step _))
theorem net_pv {b : List Int} (h : Rdr b) {p : Int} (hp : 0 ≤ p) (hp' : p ≤ 10000) : Pv (fun k => spec_l30Net.f k b p) (fun r => (2 ≤ r.1 ∧ r.1 ≤ 6) ∧ r.2.1.length ≤ 13 ∧ (p ≤ r.2.2 ∧ r.2.2 ≤ p + 90)) := by
 unfold spec_l30Net.f
 refine Pv.bind (pick_pv h hp (by omega)) (fun r1 ⟨a1, e1⟩ => Pv.bind (pick_pv h (p := r1.2) (by omega) (by omega)) (fun r2 ⟨a2, e2⟩ => ?_))
 have b1 := a1.2.2 (by omega)
 have b2 := a2.2.2 (by omega)
 have hw : wrap64 (2 + r1.1) = 2 + r1.1 := w64 (by omega) (by omega)
 rw [hw]
 have := net_l h (2 + r1.1) (by omega) r2.1.toNat r2.2 [] (by omega) (by omega) (by omega) (by simp)
 rw [Int.toNat_of_nonneg a2.1] at this
 exact this.mono (fun r hr => ⟨⟨by omega, by omega⟩, hr.2.1, by omega, by omega⟩)
theorem anyNet_pv {b : List Int} (h : Rdr b) {p : Int} (hp : 0 ≤ p) (hp' : p ≤ 10000) : Pv (fun k => spec_l30AnyNet.f k b p) (NetSz p) := by
 unfold spec_l30AnyNet.f
 refine Pv.bind (net_pv h hp hp') (fun r0 ⟨a0, l0, e0⟩ => ?_)
 refine Pv.ite (fun c => ?_) (fun c => Pv.now ⟨by dsimp only; omega, l0, by dsimp only; omega⟩)
 refine Pv.bind (pick_pv h (p := r0.2.2) (by omega) (by omega)) (fun r1 ⟨a1, e1⟩ => Pv.bind (pick_pv h (p := r1.2) (by omega) (by omega)) (fun r2 ⟨a2, e2⟩ => ?_))
 have b1 := a1.2.2 (by omega)
 refine Pv.ite (fun c1 => Pv.pos a1.1 (Pv.pos b1 (Pv.bind (one_pv h (p := r2.2) (by omega) (by omega) (by simp)) (fun r3 ⟨a3, e3⟩ => Pv.now ⟨by dsimp only; omega, by simpa using l0, by dsimp only; omega⟩)))) (fun c1 => ?_)
 refine Pv.ite (fun c2 => Pv.bind (one_pv h (p := r2.2) (by omega) (by omega) (by simp)) (fun r3 ⟨a3, e3⟩ => Pv.pos a1.1 (Pv.pos b1 (Pv.now ⟨by dsimp only; omega, by simpa using l0, by dsimp only; omega⟩)))) (fun c2 => ?_)
 refine Pv.ite (fun c3 => Pv.bind (one_pv h (p := r2.2) (by omega) (by omega) (by simp)) (fun r3 ⟨a3, e3⟩ => Pv.now ⟨?_, l0, by dsimp only; omega⟩)) (fun c3 => Pv.now ⟨by dsimp only; omega, l0, by dsimp only; omega⟩)
 simp only [List.mem_cons, List.not_mem_nil, or_false] at a3
 dsimp only
 omega
end Go.Proofs.Ytljdcinpjnijcaa.Pure
end
section
set_option linter.unusedSimpArgs false
set_option linter.unusedVariables false
namespace Go.Proofs.Ytljdcinpjnijcaa.Pure
open Go.RowKit Go.Proofs.Ytljdcinpjnijcaa.Pr Go.Proofs.YtljdcinpjnijcaaW.PrintWords Go.Proofs.YtljdcinpjnijcaaW.PrintLast Go.Proofs.YtljdcinpjnijcaaW.PrintMore
theorem wkInts_l (a b : List Int) (hm : a.length ≤ maxLen) (hl : a.length = b.length) : ∀ (m i : Nat), a.length - i = m → i ≤ a.length → Ev (fun k => laws_wkInts.l0 k a b (i : Int)) (decide (a.drop i = b.drop i)) := by
 intro m
 induction m with
 | zero =>
  intro i hd hi
  refine Ev.go ?_ (fun k => by rw [laws_wkInts.l0])
  refine Ev.neg (by omega) (Ev.is ?_)
  rw [List.drop_of_length_le (by omega), List.drop_of_length_le (by omega)]
  rfl
 | succ m ih =>
  intro i hd hi
  have hlt : i < a.length := by omega
  have hlt2 : i < b.length := by omega
  refine Ev.go ?_ (fun k => by rw [laws_wkInts.l0])
  refine Ev.pos (by omega) (Ev.pos (by omega) (Ev.pos (by omega) ?_))
  rw [rdn hlt, rdn hlt2, up1 hlt hm, drop_cons hlt, drop_cons hlt2]
  by_cases c : a[i] = b[i]
  case neg => exact Ev.neg c (Ev.is (by simp only [List.cons.injEq, c, false_and]; rfl))
  exact Ev.pos c ((ih (i + 1) (by omega) (by omega)).cast (by rw [c]; simp only [List.cons.injEq, true_and]))
theorem wkInts_ev (a b : List Int) (hm : a.length ≤ maxLen) : Ev (fun k => laws_wkInts.f k a b) (decide (a = b)) := by
 unfold laws_wkInts.f
 by_cases c : a.length = b.length
 case pos => exact Ev.pos (by omega) (by simpa using wkInts_l a b hm c _ 0 rfl (Nat.zero_le _))
 exact Ev.neg (by omega) (Ev.is (by rw [eq_comm]; exact decide_eq_false (fun e => c (by rw [e]))))
end Go.Proofs.Ytljdcinpjnijcaa.Pure
end
section
set_option linter.unusedSimpArgs false
set_option linter.unusedVariables false
set_option linter.unusedSectionVars false
namespace Go.Proofs.Ytljdcinpjnijcaa.Pure
open Go.RowKit Go.Proofs.Ytljdcinpjnijcaa.Pr Go.Proofs.YtljdcinpjnijcaaW.PrintWords Go.Proofs.YtljdcinpjnijcaaW.PrintLast Go.Proofs.YtljdcinpjnijcaaW.PrintMore
theorem sum_set : ∀ (o : List Int) (i : Nat) (v : Int) (h : i < o.length), (o.set i v).sum = o.sum - o[i] + v
 | [], i, v, h => absurd h (by simp)
 | a :: o, 0, v, h => by simp only [List.set_cons_zero, List.sum_cons, List.getElem_cons_zero]; omega
 | a :: o, i + 1, v, h => by
  simp only [List.set_cons_succ, List.sum_cons, List.getElem_cons_succ]
  rw [sum_set o i v (by simp only [List.length_cons] at h; omega)]
  omega
def Bnd (o : List Int) (c : Nat) : Prop := ∀ v ∈ o, 0 ≤ v ∧ v ≤ (c : Int)
theorem addAll_sum : ∀ (x o : List Int) (c : Nat), (∀ k ∈ x, 0 ≤ k ∧ k < o.length) → Bnd o c → c + x.length ≤ 100000 → (addAll o x).sum = o.sum + x.length ∧ Bnd (addAll o x) (c + x.length)
 | [], o, c, _, h, _ => ⟨by simp [addAll], by simpa [addAll] using h⟩
 | k :: x, o, c, hk, h, hc => by
  obtain ⟨k0, k1⟩ := hk k (List.mem_cons_self ..)
  obtain ⟨j, rfl⟩ := Int.eq_ofNat_of_zero_le k0
  have hj : j < o.length := by omega
  have hv := h _ (List.getElem_mem hj)
  simp only [List.length_cons] at hc ⊢
  have e : addAt o (j : Int) = o.set j (o[j] + 1) := by
   unfold addAt
   rw [rdn hj, w64 (by omega) (by omega), Int.toNat_natCast]
  have h' : Bnd (addAt o (j : Int)) (c + 1) := by
   intro v hm
   rw [e] at hm
   rcases List.mem_or_eq_of_mem_set hm with q | q
   ·have := h v q
    omega
   ·omega
  obtain ⟨s1, s2⟩ := addAll_sum x (addAt o (j : Int)) (c + 1) (fun i hi => by rw [addAt_len]; exact hk i (List.mem_cons_of_mem _ hi)) h' (by omega)
  refine ⟨?_, fun v hv => ?_⟩
  ·show (addAll (addAt o (j : Int)) x).sum = _
   rw [s1, e, sum_set _ _ _ hj]
   omega
  ·have := s2 v hv
   omega
def rowS (N : Nat) (l : List Arc) (a : Nat) : Nat → Nat
 | 0 => 0
 | d + 1 => ((bestV N l a (N - (d + 1))).1.length - 1) + rowS N l a d
def allS (N : Nat) (l : List Arc) : Nat → Nat
 | 0 => 0
 | d + 1 => rowS N l (N - (d + 1)) N + allS N l d
section
variable {N : Nat} {l : List Arc} (hg : NetGood N l)
include hg
theorem rowS_le {a : Nat} (ha : a < N) : ∀ d, d ≤ N → rowS N l a d ≤ 8 * d
 | 0, _ => by simp [rowS]
 | d + 1, h => by
  obtain ⟨_, h3, _⟩ := bestV_ok hg ha (show N - (d + 1) < N by omega)
  have := rowS_le ha d (by omega)
  unfold rowS
  omega
theorem allS_le : ∀ d, d ≤ N → allS N l d ≤ 64 * d
 | 0, _ => by simp [allS]
 | d + 1, h => by
  have h8 := hg.n8
  have := rowS_le hg (show N - (d + 1) < N by omega) N (Nat.le_refl _)
  have := allS_le d (by omega)
  unfold allS
  omega
theorem row_sum {a : Nat} (ha : a < N) : ∀ (d : Nat) (o : List Int) (c : Nat), d ≤ N → o.length = N → Bnd o c → c + 8 * d ≤ 100000 → (rowF (cntF l) N l a d o).sum = o.sum + rowS N l a d ∧ Bnd (rowF (cntF l) N l a d o) (c + 8 * d)
 | 0, o, c, _, _, h, _ => ⟨by simp [rowF, rowS], by simpa [rowF] using h⟩
 | d + 1, o, c, hd, ho, h, hc => by
  obtain ⟨h2, h3, _⟩ := bestV_ok hg ha (show N - (d + 1) < N by omega)
  have hl : (mids l (bestV N l a (N - (d + 1))).1).length = (bestV N l a (N - (d + 1))).1.length - 1 := by simp [mids]
  obtain ⟨s1, s2⟩ := addAll_sum (mids l (bestV N l a (N - (d + 1))).1) o c (fun k hk => by
   unfold mids at hk
   obtain ⟨q, hq, rfl⟩ := List.mem_map.1 hk
   have hq' := h2 q (List.mem_of_mem_drop hq)
   obtain ⟨q1, q2, _⟩ := hg.ok q.toNat (by omega)
   exact ⟨q1.1, by rw [ho]; exact q1.2⟩) h (by omega)
  obtain ⟨t1, t2⟩ := row_sum ha d (cntF l o (bestV N l a (N - (d + 1))).1) (c + 8) (by omega) (by unfold cntF; rw [addAll_len]; exact ho) (fun v hv => by have := s2 v hv; omega) (by omega)
  unfold rowF rowS
  refine ⟨?_, fun v hv => by have := t2 v hv; omega⟩
  rw [t1]
  unfold cntF
  rw [s1, hl]
  omega
theorem all_sum : ∀ (d : Nat) (o : List Int) (c : Nat), d ≤ N → o.length = N → Bnd o c → c + 64 * d ≤ 100000 → (allF (cntF l) N l d o).sum = o.sum + allS N l d ∧ Bnd (allF (cntF l) N l d o) (c + 64 * d)
 | 0, o, c, _, _, h, _ => ⟨by simp [allF, allS], by simpa [allF] using h⟩
 | d + 1, o, c, hd, ho, h, hc => by
  have h8 := hg.n8
  obtain ⟨s1, s2⟩ := row_sum hg (show N - (d + 1) < N by omega) N o c (Nat.le_refl _) ho h (by omega)
  obtain ⟨t1, t2⟩ := all_sum d (rowF (cntF l) N l (N - (d + 1)) N o) (c + 64) (by omega) (by rw [rowF_len hg (sf := cntF l) (fun o x => addAll_len _ o)]; exact ho) (fun v hv => by have := s2 v hv; omega) (by omega)
  unfold allF allS
  refine ⟨?_, fun v hv => by have := t2 v hv; omega⟩
  rw [t1, s1]
  omega
theorem law_l2 {a : Nat} (ha : a < N) {s : Int} {b : Bool} : ∀ (d m : Nat), d ≤ N → m + 8 * d ≤ 100000 →
  Ev (fun k => laws_FnHubCount.l1 k s ((m + rowS N l a d : Nat) : Int) ((a + 1 : Nat) : Int) N l) b → Ev (fun k => laws_FnHubCount.l2 k s (m : Int) (a : Int) ((N - d : Nat) : Int) N l) b
 | 0, m, _, hm, h => by
  have h8 := hg.n8
  refine Ev.go ?_ (fun k => by rw [laws_FnHubCount.l2])
  rw [up1 ha (by simp only [maxLen]; omega)]
  exact Ev.neg (by omega) h
 | d + 1, m, hd, hm, h => by
  have h8 := hg.n8
  have hb : N - (d + 1) < N := by omega
  obtain ⟨h2, h3, hf, _⟩ := bestV_ok hg ha hb
  refine Ev.go ?_ (fun k => by rw [laws_FnHubCount.l2])
  rw [up1 hb (by simp only [maxLen]; omega), show N - (d + 1) + 1 = N - d by omega]
  refine Ev.pos (by omega) (Ev.bind (nearWalk_ev hg ha hb) ?_)
  have z : (bestV N l a (N - (d + 1))).1.length = 0 → Ev (fun k => laws_FnHubCount.l2 k s (m : Int) (a : Int) ((N - d : Nat) : Int) N l) b := fun h0 =>
   law_l2 ha d m (by omega) (by omega) (by unfold rowS at h; rw [h0] at h; simpa using h)
  cases ht : (bestV N l a (N - (d + 1))).2 with
  | false => exact Ev.neg (by simp) (z (by rw [hf ht]; rfl))
  | true =>
   refine Ev.pos rfl ?_
   by_cases h0 : (bestV N l a (N - (d + 1))).1.length = 0
   case pos => exact Ev.neg (by omega) (z h0)
   refine Ev.pos (by omega) ?_
   rw [w64 (n := (m : Int) + _) (by omega) (by omega), w64 (by omega) (by omega)]
   have := law_l2 ha d (m + ((bestV N l a (N - (d + 1))).1.length - 1)) (by omega) (by omega) (by unfold rowS at h; rw [Nat.add_assoc]; exact h)
   rw [show ((m + ((bestV N l a (N - (d + 1))).1.length - 1) : Nat) : Int) = (m : Int) + ((bestV N l a (N - (d + 1))).1.length : Int) - 1 by omega] at this
   exact this
theorem law_l1 {s : Int} : ∀ (d m : Nat), d ≤ N → m + 64 * d ≤ 100000 → s = ((m + allS N l d : Nat) : Int) → Ev (fun k => laws_FnHubCount.l1 k s (m : Int) ((N - d : Nat) : Int) N l) true
 | 0, m, _, _, h => by
  refine Ev.go ?_ (fun k => by rw [laws_FnHubCount.l1])
  exact Ev.neg (by omega) (Ev.is (by rw [h]; simp [allS]))
 | d + 1, m, hd, hm, h => by
  have h8 := hg.n8
  have ha : N - (d + 1) < N := by omega
  have hr := rowS_le hg ha N (Nat.le_refl _)
  refine Ev.go ?_ (fun k => by rw [laws_FnHubCount.l1])
  refine Ev.pos (by omega) ?_
  have := law_l2 hg ha (s := s) (b := true) N m (Nat.le_refl _) (by omega)
  rw [Nat.sub_self] at this
  refine this ?_
  rw [show N - (d + 1) + 1 = N - d by omega]
  have hh : allS N l (d + 1) = rowS N l (N - (d + 1)) N + allS N l d := rfl
  exact law_l1 d _ (by omega) (by omega) (by omega)
theorem law_l0 {o : List Int} {c : Nat} (ho : o.length = N) (hc : Bnd o c) (hc' : c ≤ 1000) {b : Bool} : ∀ (d i : Nat) (s : Int), N - i = d → i ≤ N → s = (o.take i).sum → 0 ≤ s → s ≤ 1000 * i →
  Ev (fun k => laws_FnHubCount.l1 k o.sum 0 0 N l) b → Ev (fun k => laws_FnHubCount.l0 k o s (i : Int) N l) b := by
 have h8 := hg.n8
 intro d
 induction d with
 | zero =>
  intro i s hd hi hs h0 h1 h
  refine Ev.go ?_ (fun k => by rw [laws_FnHubCount.l0])
  rw [List.take_of_length_le (by omega)] at hs
  rw [hs]
  exact Ev.neg (by omega) h
 | succ d ih =>
  intro i s hd hi hs h0 h1 h
  have hlt : i < o.length := by omega
  have hv := hc _ (List.getElem_mem hlt)
  refine Ev.go ?_ (fun k => by rw [laws_FnHubCount.l0])
  rw [rdn hlt, up1 hlt (by simp only [maxLen]; omega), w64 (by omega) (by omega)]
  refine Ev.pos (by omega) (Ev.pos (by omega) (Ev.pos (by omega) (ih (i + 1) _ (by omega) (by omega) ?_ (by omega) (by omega) h)))
  rw [List.take_succ_eq_append_getElem hlt, List.sum_append, hs]
  simp
end
theorem FnHubCount : laws_FnHubCount.Asked := by
 intro b hc
 refine Pv.rounds ?_
 unfold laws_FnHubCount.f
 by_cases hs : (b.length : Int) > 1048576
 ·exact Pv.pos hs (Pv.now rfl)
 refine Pv.neg hs ?_
 unfold spec_DrawHubCount.f
 obtain ⟨bb, e, hb⟩ := open_pv hc.2
 refine Pv.bind (R := fun r => r.2.length ≤ 13) (Pv.bind0 e (Pv.bind (anyNet_pv hb (p := 0) (by omega) (by omega)) (fun r1 h1 => Pv.now h1.2.1))) (fun r h2 => ?_)
 obtain ⟨n, l⟩ := r
 dsimp only at h2 ⊢
 have hm : l.length ≤ maxLen := by simp only [maxLen]; omega
 have hv := cntV_len n l
 have hvm : (cntV n l).length ≤ maxLen := by simp only [maxLen]; omega
 have hw := wkInts_ev (cntV n l) (cntV n l) hvm
 refine Pv.of (Ev.bind (implHubCount_ev n l) (Ev.bind (specHubCount_ev n l hm) (Ev.bind hw (Ev.pos (by simp) (Ev.go (r := true) ?_ (fun k => by rw [laws_FnHubCount.j0])))))) rfl
 by_cases h0 : (cntV n l).length = 0
 case pos => exact Ev.pos (by simp [h0]) (Ev.bind (specHubCount_ev n l hm) (Ev.bind hw (Ev.is (by simp))))
 refine Ev.neg (by simpa using h0) ?_
 cases hk : netOkB n l with
 | false => exact absurd (by unfold cntV; rw [hk]; rfl) h0
 | true =>
  have hg := (netOkB_iff n l).1 hk
  have h1 := hg.n1
  have h8 := hg.n8
  obtain ⟨N, rfl⟩ := Int.eq_ofNat_of_zero_le (show 0 ≤ n by omega)
  have e : cntV (N : Int) l = allF (cntF l) N l N (List.replicate N 0) := by unfold cntV; rw [hk, if_pos rfl, Int.toNat_natCast]
  obtain ⟨s1, s2⟩ := all_sum hg N (List.replicate N 0) 0 (Nat.le_refl _) (by simp) (fun v hv => by rw [List.eq_of_mem_replicate hv]; omega) (by omega)
  rw [e]
  have hl : (allF (cntF l) N l N (List.replicate N 0)).length = N := by rw [allF_len hg (sf := cntF l) (fun o x => addAll_len _ o)]; simp
  have z : (List.replicate N (0 : Int)).sum = 0 := by simp
  have ha := allS_le hg N (Nat.le_refl _)
  refine law_l0 hg hl s2 (by omega) N 0 0 rfl (Nat.zero_le _) (by simp) (by omega) (by omega) ?_
  have := law_l1 hg (s := (allF (cntF l) N l N (List.replicate N 0)).sum) N 0 (Nat.le_refl _) (by omega) (by rw [s1, z]; omega)
  rw [Nat.sub_self] at this
  exact this
end Go.Proofs.Ytljdcinpjnijcaa.Pure
end
section
namespace Go.Proofs.Ytljdcinpjnijcaa.fnHubCount
open Go.ChangeShapes Go.WideShapes Go.ChangeAt Go.RowKit Go.Proofs.YtljdcinpjnijcaaW.PrintWords Go.Proofs.Ytljdcinpjnijcaa.Pr
open Go.ChangeMaps (open_string shut_string)
set_option linter.unusedVariables false
set_option linter.unusedSimpArgs false
theorem own : ownKnob Try.prog.godebug = none := by kernel_rfl
theorem laidOut : laidOutB Try.prog = true := by kernel_rfl
theorem opens0 : Opens Try.prog (Kd.slice 5 (Kd.int .u8)) 22 (fun l => l.length ≤ maxLen ∧ ∀ x ∈ l, (fun n => (Lit.int .u8 n).wf = true) x) := (opens_slice (P := Try.prog) Try.underlying22 (by kernel_rfl) (opens_int (P := Try.prog) (k := .u8) Try.underlying5))
set_option maxRecDepth 100000 in
set_option maxHeartbeats 2000000 in
theorem lifted (os : Os) (started : os.Started) (H : Type) (enc : TypeId × Value → H) :
  ReturnsInHanded {} Try.checked os 6 .any (Rows.fnHubCountSpec.pre6 enc Try.prog Try.f6 Rows.fnHubCountRow.domain false) (Rows.fnHubCountSpec.post enc Try.prog Try.f6 false true false false) := by
 refine returnsInHanded_of_change_sized (C := Try.checked) own started (by kernel_rfl) Try.func6
  (ChangeSpec.witness6 (enc := enc) (C := Try.checked) false ⟨#[], #[(.slice none 0 0)], []⟩ 8 (by kernel_rfl) (by kernel_rfl) (by kernel_rfl) (by kernel_rfl)) ?_
 intro W base args ds gs before hval0 hW hcnd hsz0 _
 have hval : ∀ (j : Nat) t v, Try.f6.params[j]? = some t → args[j]? = some v → Value.okWide Try.prog W .any base t v := hval0
 have hW' := hW
 obtain ⟨p, q, hA0, hV, rfl, hfz, hnd⟩ := hW
 have hA : DataW.TrodAll enc Try.prog W 0 (fun _ => true) true Try.f6.params.toList args.toList ds p := hA0
 rw [Try.params6] at hA hval
 obtain ⟨v0, vs0, d0, ds0, p0, q0, hargs, rfl, rfl, h0, r0⟩ := trodAll_cons hA
 obtain ⟨rfl, rfl, rfl⟩ := trodAll_nil r0
 obtain rfl : args = #[v0] := by cases args; simp_all
 obtain ⟨rfl, rfl⟩ := trodVars_none hV
 have k0 := h0
 have lt0 : ∀ x ∈ p0, x.block < W.heap.size := by obtain ⟨m, hm⟩ := k0; exact DataW.trod_lt m _ _ _ hm
 obtain ⟨a0, len0, cap0, rfl⟩ := okWide_slice Try.underlying22 (hval 0 22 v0 rfl rfl)
 obtain ⟨fuel0, hf0⟩ := h0
 obtain ⟨l0, ⟨A0, c0, e0, hc0, hr0⟩, w0⟩ := opens0 hf0
 have e0' : (Value.slice a0 len0 cap0) = .slice A0 l0.length c0 := (List.cons.inj e0).1
 injection e0' with e0a e0b e0c
 subst e0a e0b e0c
 obtain ⟨k, hh⟩ := Pure.FnHubCount l0 w0
 refine (laws_FnHubCount.calls k _ _ l0 true W hr0 hc0 hh).mono fun e W' ⟨he, bel0⟩ => ?_
 have bel : Below W.heap.size W W' := bel0
 subst he
 exact ⟨_, rfl, _, _, _, [], _, [], hW', trodAll_mk1 (shut_bool Try.underlying4 _), (trodAll_cons_mk (Below.trod laidOut (by kernel_rfl) (of_decide_eq_true (by kernel_rfl)) k0 bel lt0) trodAll_mk0), rfl, bel.frame _, fun h => by cases h⟩
theorem over : Rows.fnHubCountRow.holds Try.pinned (OpenSpec.ofChange Rows.fnHubCountSpec) :=
 OpenClaim.holds_of_wide 6 Try.f6 rfl rfl rfl rfl rfl rfl rfl ⟨rfl, rfl, rfl, rfl, rfl⟩ rfl rfl rfl rfl rfl (by kernel_rfl) Try.func6 (by kernel_rfl)
  (of_decide_eq_true (by kernel_rfl)) (by unfold Func.isWrapper; first | (rw [if_pos (by decide +kernel)]; kernel_rfl) | (rw [if_neg (by decide +kernel)]; exact ⟨rfl, rfl⟩))
  (fun os started H enc _ => lifted os started H enc)
theorem proved : Rows.FnHubCountSaid := over
#print axioms proved
end Go.Proofs.Ytljdcinpjnijcaa.fnHubCount
namespace Go.Proofs.Ytljdcinpjnijcaa
theorem fnHubCount_holds : Rows.FnHubCountSaid := fnHubCount.proved
end Go.Proofs.Ytljdcinpjnijcaa
end
