/- For the statement FnExactHubCount of this seat: it is proved here, with no further conditions (part 8 of its texts: words, walks of the functions, the plain law, the row). -/
import Derived.ChangeArms
import Derived.ChangeSlices
import Derived.Deep.Slices
import Derived.WideShapes
import Derived.DataReads
import Derived.Test.YtljdcinpjnijcaaKFnExactHubCount6
section
namespace Go.Proofs.Ytljdcinpjnijcaa.Pr
open Go.RowKit Go.Proofs.YtljdcinpjnijcaaW.PrintWords Go.Proofs.YtljdcinpjnijcaaW.PrintLast Go.Proofs.YtljdcinpjnijcaaW.PrintMore
attribute [local go_sem] max2_int min2_int max_two min_two max_three min_three max_four min_four
set_option linter.unusedVariables false
set_option linter.unusedSimpArgs false
abbrev Y68 := true
abbrev N68 := false
mutual
def spec_HubCount.l0 : Nat → List Int → Int → Int → List (S34) → Option (List Int)
 | 0, _, _, _, _ => none
 | k + 1, x3, x4, p5, p3 => if x4 < p5 then (spec_HubCount.l1 k x3 x4 0 p5 p3) else (some x3)
def spec_HubCount.l1 : Nat → List Int → Int → Int → Int → List (S34) → Option (List Int)
 | 0, _, _, _, _, _ => none
 | k + 1, x3, x4, x5, p5, p3 => if x5 < p5 then ((spec_l3Walk.f k p5 p3 x4 x5).bind fun bt581 => (spec_HubCount.l2 k x3 x4 x5 bt581.1 bt581.2 0 p5 p3)) else (spec_HubCount.l0 k x3 (wrap64 (x4 + 1)) p5 p3)
def spec_HubCount.l2 : Nat → List Int → Int → Int → List Int → Bool → Int → Int → List (S34) → Option (List Int)
 | 0, _, _, _, _, _, _, _, _ => none
 | k + 1, x3, x4, x5, x6, x7, x8, p5, p3 => if (wrap64 (x8 + 1)) < (x6.length : Int) then (if x7 = true then (if 0 ≤ x8 then (if x8 < (x6.length : Int) then (if 0 ≤ (rd x6 x8) then (if (rd x6 x8) < (p3.length : Int) then (if 0 ≤ ((rd_T34 p3 (rd x6 x8)).f1) then (if ((rd_T34 p3 (rd x6 x8)).f1) < (x3.length : Int) then (spec_HubCount.l2 k (x3.set (((rd_T34 p3 (rd x6 x8)).f1) : Int).toNat (wrap64 ((rd x3 ((rd_T34 p3 (rd x6 x8)).f1)) + 1))) x4 x5 x6 x7 (wrap64 (x8 + 1)) p5 p3) else (none)) else (none)) else (none)) else (none)) else (none)) else (none)) else (spec_HubCount.l1 k x3 x4 (wrap64 (x5 + 1)) p5 p3)) else (spec_HubCount.l1 k x3 x4 (wrap64 (x5 + 1)) p5 p3)
end
def spec_HubCount.f (k : Nat) (a0_0 : Int) (l0_1 : List (S34)) : Option (List Int) := (spec_l1Ok.f k a0_0 l0_1).bind fun t577 => (if t577 = true then (if 0 ≤ a0_0 then (if (a0_0 : Int).toNat ≤ 35184372088832 then (spec_HubCount.l0 k (List.replicate (a0_0 : Int).toNat 0) 0 a0_0 l0_1) else (none)) else (none)) else (some ([] : List Int)))
def spec_HubCount.T14 : Bool × List (List Nat × List Nat) := (true, [([], []), ([], []), ([1], [1]), ([], []), ([], []), ([3, 4], [3, 4]), ([5], [5]), ([2, 6], [2, 6]), ([7], [7]), ([8], [8]), ([], []), ([], []), ([11], [11]), ([], []), ([], []), ([13, 14], [13, 14]), ([15], [15]), ([12, 16], [12, 16]), ([17], [17]), ([18], [18]), ([10, 19], [10, 19]), ([20], [20]), ([21], [21]), ([0, 9, 0, 1, 2, 3, 4, 5, 6, 7, 8, 9, 10, 11, 12, 13, 14, 15, 16, 17, 18, 19, 20, 21, 22], [0, 9]), ([23, 22, 0, 1, 2, 3, 4, 5, 6, 7, 8, 9, 10, 11, 12, 13, 14, 15, 16, 17, 18, 19, 20, 21, 22], [22, 23])])
def spec_HubCount.B14 : List Nat := [0, 0, 2, 0, 0, 24, 56, 126, 254, 510, 0, 0, 2048, 0, 0, 24576, 57344, 129024, 260096, 522240, 1047552, 2096128, 4193280, 8388607, 16777215]
theorem spec_HubCount.tab14 : rtab .any (opsOf Try.f28 14) = spec_HubCount.T14 := by kernel_rfl
theorem spec_HubCount.bits14 : waitsOk spec_HubCount.T14.2 spec_HubCount.B14 = true := by kernel_rfl
set_option maxHeartbeats 8000000 in
set_option maxRecDepth 100000 in
theorem spec_HubCount.calls (k : Nat) (a0_0 : Int) (A0_1 : Option Addr) (c0_1 : Nat) (l0_1 : List (S34)) (r : List Int) (w : World) (hr0_1 : Kd.C k34 w A0_1 l0_1.length l0_1) (hc0_1 : l0_1.length ≤ c0_1) (h : spec_HubCount.f k a0_0 l0_1 = some r) :
  Calls Try.prog 28 #[.agg #[.int .i64 a0_0, .slice A0_1 l0_1.length c0_1]] w fun e w' => ∃ v0_ : Value, e = .returned (v0_) ∧ Kd.R (Kd.int .i64) 3 w' w.heap.size (fun _ => True) v0_ r ∧ Below w.heap.size w w' := by
 have hu25 := Try.underlying25
 have q8 := Aside0.mk hr0_1
 have u3 := Aside0.mk hc0_1
 clear hr0_1 hc0_1
 have HB := Aside0.mk (Below.refl w.heap.size w)
 have H : ((spec_l1Ok.f k a0_0 l0_1).bind fun t577 => (if t577 = true then (if 0 ≤ a0_0 then (if (a0_0 : Int).toNat ≤ 35184372088832 then (spec_HubCount.l0 k (List.replicate (a0_0 : Int).toNat 0) 0 a0_0 l0_1) else (none)) else (none)) else (some ([] : List Int)))) = some r := h
 clear h
 replace H := Option.bind_eq_some_iff.mp H
 obtain ⟨t577, A20, H⟩ := H
 replace H : (if t577 = true then (if 0 ≤ a0_0 then (if (a0_0 : Int).toNat ≤ 35184372088832 then (spec_HubCount.l0 k (List.replicate (a0_0 : Int).toNat 0) 0 a0_0 l0_1) else (none)) else (none)) else (some ([] : List Int))) = some r := H
 have A2 := Aside0.mk A20
 clear A20
 by_cases c3 : t577 = true
 case neg =>
  replace c3 := Bool.eq_false_iff.mpr c3
  subst c3
  have H1 : (some ([] : List Int)) = some r := by rw [if_neg (show ¬ (false = true) by decide)] at H; exact H
  clear H
  have H := H1
  clear H1
  obtain rfl := Option.some.inj H
  go_enter Try.func28, Try.ntmps28
  go_wp2_with (first | ((with_reducible refine gate_dst (N := 1) rfl ?_); refine box_event ?hg (N := 1) ?hd (cs := #[.int .i64 a0_0, .slice A0_1 l0_1.length c0_1]) (t := 25) ?hr ?_; (case hd => rfl); (case hg => rfl); (case hr => first | (go_simp; done) | (go_simp; rfl)); intro p1 hg w35 hbox hb; have n0_ := Aside0.mk (below_step HB.out hb); have n1_ := Aside0.mk (hbox); have n2_ := Aside0.mk ((by rw [hg]; exact (below_size HB.out) : w.heap.size ≤ p1)); have n3_ := Aside0.mk ((by rw [hg]; exact (below_size HB.out) : w.heap.size ≤ p1)); clear HB; have HB := n0_; have p0 := n1_; have GW576 := n2_; have p6 := n3_; clear n0_ n1_ n2_ n3_; clear hb hbox hg; have hcz36_0 : w35.cell? ⟨p1, 0, none⟩ = some (.int .i64 a0_0) := (blk_cell p0.out 0).trans rfl; have hcz36_1 : w35.cell? ⟨p1, 1, none⟩ = some (.slice A0_1 l0_1.length c0_1) := (blk_cell p0.out 1).trans rfl; have hfz36_0 := blk_frozen p0.out 0; have hfz36_1 := blk_frozen p0.out 1) | ((with_reducible refine gate_callee (f := 53) rfl ?_); refine goesL_ (some 10) rfl rfl Try.func53 (by kernel_rfl) rfl #[.agg #[.int .i64 a0_0, .slice A0_1 l0_1.length c0_1]] rfl (by (try simp only [List.map_toArray, List.map_cons, List.map_nil]); first | done | rfl | (simp only [List.length_drop, List.length_take]; rfl)) ?_; (with_reducible refine (spec_l1Ok.calls k a0_0 _ _ l0_1 false _ ?side1 ?side2 A2.out).mono ?_); (case side1 => repeat (first | exact (Kd.C_below q8.out HB.out) | (with_reducible refine Kd.C_alloc ?_ _) | (with_reducible refine Kd.C_drewN ?_ _) | (with_reducible refine Kd.C_drew ?_))); (case side2 => exact u3.out); rintro e w37 ⟨rfl, hb⟩; refine ⟨_, rfl, ?_⟩; have n0_ := Aside0.mk (blk_below (g := p1) (o := .cells #[.int .i64 a0_0, .slice A0_1 l0_1.length c0_1] 25 (0, 0)) p0.out hb); have n1_ := Aside0.mk (below_step HB.out hb); clear p0; clear HB; have p0 := n0_; have HB := n1_; clear n0_ n1_; (try clear hb); (try clear hb2); (try clear hk); (try clear hi)))
  go_ret
  exact ⟨_, by first | rfl | (simp [errW_none, errW_some] <;> rfl) | (simp [*, errW_none, errW_some] <;> rfl), by first | exact Kd.R_nil _ _ _ _ _ | exact Kd.N_nil _ _ _ _ _ | exact Kd.V_nil _ _ _ _ _ | exact Kd.Q_nil _ _ _ _ _ | exact Kd.S_nil _ _ _ _ _, by repeat (first | (with_reducible first | exact HB.out | apply below_alloc | apply pw_below_drewN | apply below_drew1 | refine below_set ?_ p6.out) | exact HB.out)⟩
 subst c3
 have H1 : (if 0 ≤ a0_0 then (if (a0_0 : Int).toNat ≤ 35184372088832 then (spec_HubCount.l0 k (List.replicate (a0_0 : Int).toNat 0) 0 a0_0 l0_1) else (none)) else (none)) = some r := by rw [if_pos rfl] at H; exact H
 clear H
 have H := H1
 clear H1
 by_cases c4 : 0 ≤ a0_0
 case neg =>
  rw [if_neg c4] at H
  exact absurd H (by simp)
 rw [if_pos c4] at H
 have c4b0 := eq_true c4
 have c4b1 : decide (0 ≤ a0_0) = true := decide_eq_true c4
 clear c4
 by_cases c5 : (a0_0 : Int).toNat ≤ 35184372088832
 case neg =>
  rw [if_neg c5] at H
  exact absurd H (by simp)
 rw [if_pos c5] at H
 have c5b0 := eq_true c5
 have c5b1 : decide ((a0_0 : Int).toNat ≤ 35184372088832) = true := decide_eq_true c5
 clear c5
 obtain ⟨y578, hy578⟩ : ∃ y_ : List Int, y_ = (List.replicate (a0_0 : Int).toNat 0) := ⟨_, rfl⟩
 replace H : (spec_HubCount.l0 k y578 0 a0_0 l0_1) = some r := by first | (rw [hy578]; with_reducible exact H) | (have H2_ := (Option.bind_some _ _).symm.trans H; rw [hy578]; with_reducible exact H2_) | (have H2_ := (Option.bind_some _ _).symm.trans H; with_reducible exact H2_) | with_reducible exact H | (rw [hy578]; exact H) | exact H
 have Ny578 := Aside0.mk hy578
 clear hy578
 have H' := Aside0.mk H
 clear H
 go_enter Try.func28, Try.ntmps28
 go_wp2_with (first | ((with_reducible refine gate_dst (N := 1) rfl ?_); refine box_event ?hg (N := 1) ?hd (cs := #[.int .i64 a0_0, .slice A0_1 l0_1.length c0_1]) (t := 25) ?hr ?_; (case hd => rfl); (case hg => rfl); (case hr => first | (go_simp; done) | (go_simp; rfl)); intro p1 hg w6 hbox hb; have n0_ := Aside0.mk (below_step HB.out hb); have n1_ := Aside0.mk (hbox); have n2_ := Aside0.mk ((by rw [hg]; exact (below_size HB.out) : w.heap.size ≤ p1)); have n3_ := Aside0.mk ((by rw [hg]; exact (below_size HB.out) : w.heap.size ≤ p1)); clear HB; have HB := n0_; have p0 := n1_; have GW576 := n2_; have p6 := n3_; clear n0_ n1_ n2_ n3_; clear hb hbox hg; have q9 : w6.cell? ⟨p1, 0, none⟩ = some (.int .i64 a0_0) := (blk_cell p0.out 0).trans rfl; have r0 : w6.cell? ⟨p1, 1, none⟩ = some (.slice A0_1 l0_1.length c0_1) := (blk_cell p0.out 1).trans rfl; have r1 := blk_frozen p0.out 0; have r2 := blk_frozen p0.out 1) | ((with_reducible refine gate_callee (f := 53) rfl ?_); refine goesL_ (some 10) rfl rfl Try.func53 (by kernel_rfl) rfl #[.agg #[.int .i64 a0_0, .slice A0_1 l0_1.length c0_1]] rfl (by (try simp only [List.map_toArray, List.map_cons, List.map_nil]); first | done | rfl | (simp only [List.length_drop, List.length_take]; rfl)) ?_; (with_reducible refine (spec_l1Ok.calls k a0_0 _ _ l0_1 true _ ?side1 ?side2 A2.out).mono ?_); (case side1 => repeat (first | exact (Kd.C_below q8.out HB.out) | (with_reducible refine Kd.C_alloc ?_ _) | (with_reducible refine Kd.C_drewN ?_ _) | (with_reducible refine Kd.C_drew ?_))); (case side2 => exact u3.out); rintro e w8 ⟨rfl, hb⟩; refine ⟨_, rfl, ?_⟩; have n0_ := Aside0.mk (blk_below (g := p1) (o := .cells #[.int .i64 a0_0, .slice A0_1 l0_1.length c0_1] 25 (0, 0)) p0.out hb); have n1_ := Aside0.mk (below_step HB.out hb); clear p0; clear HB; have p0 := n0_; have HB := n1_; clear n0_ n1_; (try clear hb); (try clear hb2); (try clear hk); (try clear hi); have r3 : w8.cell? ⟨p1, 0, none⟩ = some (.int .i64 a0_0) := (blk_cell p0.out 0).trans rfl; have r4 : w8.cell? ⟨p1, 1, none⟩ = some (.slice A0_1 l0_1.length c0_1) := (blk_cell p0.out 1).trans rfl; have r5 := blk_frozen p0.out 0; have r6 := blk_frozen p0.out 1) | ((with_reducible refine gate_dst (N := 14) rfl ?_); refine Kd.R_make (Kd.int .i64) _ 3 rfl (N := 14) rfl 29 _ _ rfl a0_0 (by first | rfl | (go_simp; done) | (go_simp; rfl)) (by first | rfl | (go_simp; done) | (go_simp; rfl)) Try.underlying29 (.int .i64 0) 8 info3 rfl (by decide) (by omega) 0 (ok := fun _ => True) (okp := fun _ => True) rfl (fun _ hk => hk) trivial (of_decide_eq_true (by first | (with_reducible assumption) | assumption)) (Nat.le_trans (Nat.mul_le_mul_right _ (of_decide_eq_true (by first | (with_reducible assumption) | assumption) : a0_0.toNat ≤ 35184372088832)) (by omega)) (Below.refl _ _) (Nat.le_refl _) ?_; intro v579 w10 ho11 hb hg_ hnew_; clear hg_ hnew_; (first | rw [← Ny578.out] at ho11 | (simp only [Int.reduceToNat] at ho11; rw [← Ny578.out] at ho11)); have n0_ := Aside0.mk (Kd.R_lower ho11 (below_size HB.out)); have n1_ := Aside0.mk (blk_below (g := p1) (o := .cells #[.int .i64 a0_0, .slice A0_1 l0_1.length c0_1] 25 (0, 0)) p0.out hb); have n2_ := Aside0.mk (below_step HB.out hb); clear p0; clear HB; have HO580 := n0_; have p0 := n1_; have HB := n2_; clear n0_ n1_ n2_; clear hb ho11))
 go_loopg [4] k (fun kq v4 w' => ∃ (x3_1 : List Int) (x4_1 : Int), v4 = .int .i64 x4_1 ∧ Aside0 (spec_HubCount.l0 kq x3_1 x4_1 a0_0 l0_1 = some r) ∧ Aside0 (kq ≤ k) ∧ Aside0 (Kd.R (Kd.int .i64) 3 w' w.heap.size (fun _ => True) v579 x3_1) ∧ Aside0 (w'.heap[p1]? = some (.cells #[.int .i64 a0_0, (.slice A0_1 l0_1.length c0_1)] 25 (0, 0))) ∧ Aside0 (Below w.heap.size w w'))
 case atStart => exact ⟨(y578), (0), (by first | rfl | (simp; done) | (simp [*]; done)), H', ⟨Nat.le_refl _⟩, ⟨by exact HO580.out⟩, ⟨by exact p0.out⟩, ⟨by repeat (first | (with_reducible first | exact HB.out | apply below_alloc | apply pw_below_drewN | apply below_drew1 | refine below_set ?_ p6.out) | exact HB.out)⟩⟩
 case round =>
  clear H'
  try clear c2
  try clear p2
  try clear c3
  try clear c4
  try clear c4b0
  try clear c4b1
  try clear c5
  try clear c5b0
  try clear c5b1
  try clear q9
  try clear r0
  try clear r3
  try clear r4
  try clear r1
  try clear r2
  try clear r5
  try clear r6
  obtain ⟨x3_1, x4_1, rfl, HA, HK1, HO_3, p0, HB⟩ := hrel
  cases gk with
  | zero => exact absurd HA.out (by simp [spec_HubCount.l0])
  | succ k1 =>
   have H := HA.out
   clear HA
   simp only [spec_HubCount.l0] at H
   by_cases c12 : x4_1 < a0_0
   case neg =>
    rw [if_neg c12] at H
    have c12b0 : decide (x4_1 < a0_0) = false := decide_eq_false c12
    clear c12
    obtain rfl := Option.some.inj H
    have hcz34_0 : wr.cell? ⟨p1, 0, none⟩ = some (.int .i64 a0_0) := (blk_cell p0.out 0).trans rfl
    have hcz34_1 : wr.cell? ⟨p1, 1, none⟩ = some (.slice A0_1 l0_1.length c0_1) := (blk_cell p0.out 1).trans rfl
    have hfz34_0 := blk_frozen p0.out 0
    have hfz34_1 := blk_frozen p0.out 1
    go_wp2
    go_ret
    exact ⟨_, by first | rfl | (simp [errW_none, errW_some] <;> rfl) | (simp [*, errW_none, errW_some] <;> rfl), by exact HO_3.out, by repeat (first | (with_reducible first | exact HB.out | apply below_alloc | apply pw_below_drewN | apply below_drew1 | refine below_set ?_ p6.out) | exact HB.out)⟩
   rw [if_pos c12] at H
   have c12b0 : decide (x4_1 < a0_0) = true := decide_eq_true c12
   clear c12
   have H' := Aside0.mk H
   clear H
   have r7 : wr.cell? ⟨p1, 0, none⟩ = some (.int .i64 a0_0) := (blk_cell p0.out 0).trans rfl
   have r8 : wr.cell? ⟨p1, 1, none⟩ = some (.slice A0_1 l0_1.length c0_1) := (blk_cell p0.out 1).trans rfl
   have r9 := blk_frozen p0.out 0
   have t0 := blk_frozen p0.out 1
   go_wp2
   go_loopg [5] k1 (fun kq v5 w' => ∃ (x3_2 : List Int) (x5_2 : Int), v5 = .int .i64 x5_2 ∧ Aside0 (spec_HubCount.l1 kq x3_2 x4_1 x5_2 a0_0 l0_1 = some r) ∧ Aside0 (kq ≤ k1) ∧ Aside0 (Kd.R (Kd.int .i64) 3 w' w.heap.size (fun _ => True) v579 x3_2) ∧ Aside0 (w'.heap[p1]? = some (.cells #[.int .i64 a0_0, (.slice A0_1 l0_1.length c0_1)] 25 (0, 0))) ∧ Aside0 (Below w.heap.size w w'))
   case atStart => exact ⟨(x3_1), (0), (by first | rfl | (simp; done) | (simp [*]; done)), H', ⟨Nat.le_refl _⟩, ⟨by exact HO_3.out⟩, ⟨by exact p0.out⟩, ⟨by repeat (first | (with_reducible first | exact HB.out | apply below_alloc | apply pw_below_drewN | apply below_drew1 | refine below_set ?_ p6.out) | exact HB.out)⟩⟩
   case round =>
    clear H'
    try clear c1
    try clear c2
    try clear p2
    try clear c3
    try clear c4
    try clear c4b0
    try clear c4b1
    try clear c5
    try clear c5b0
    try clear c5b1
    try clear c12
    try clear c12b0
    try clear r7
    try clear r8
    try clear q9
    try clear r0
    try clear r3
    try clear r4
    try clear r9
    try clear t0
    try clear r1
    try clear r2
    try clear r5
    try clear r6
    try clear p2
    obtain ⟨x3_2, x5_2, rfl, HA, HK2, HO_3, p0, HB⟩ := hrel
    cases gk with
    | zero => exact absurd HA.out (by simp [spec_HubCount.l1])
    | succ k2 =>
     have H := HA.out
     clear HA
     simp only [spec_HubCount.l1] at H
     by_cases c14 : x5_2 < a0_0
     case neg =>
      rw [if_neg c14] at H
      have c14b0 : decide (x5_2 < a0_0) = false := decide_eq_false c14
      clear c14
      have H' := Aside0.mk H
      clear H
      have hcz33_0 : wr.cell? ⟨p1, 0, none⟩ = some (.int .i64 a0_0) := (blk_cell p0.out 0).trans rfl
      have hcz33_1 : wr.cell? ⟨p1, 1, none⟩ = some (.slice A0_1 l0_1.length c0_1) := (blk_cell p0.out 1).trans rfl
      have hfz33_0 := blk_frozen p0.out 0
      have hfz33_1 := blk_frozen p0.out 1
      go_wp2
      go_roundg k2
      case measure => have := HK1.out; have := HK2.out; omega
      case rel => exact ⟨(x3_2), (wrap64 (x4_1 + 1)), (by first | rfl | (simp; done) | (simp [*]; done)), H', ⟨by have := HK1.out; have := HK2.out; omega⟩, ⟨by exact HO_3.out⟩, ⟨by exact p0.out⟩, ⟨by repeat (first | (with_reducible first | exact HB.out | apply below_alloc | apply pw_below_drewN | apply below_drew1 | refine below_set ?_ p6.out) | exact HB.out)⟩⟩
     rw [if_pos c14] at H
     have c14b0 : decide (x5_2 < a0_0) = true := decide_eq_true c14
     clear c14
     replace H := Option.bind_eq_some_iff.mp H
     obtain ⟨⟨t581, t584⟩, A150, H⟩ := H
     replace H : (spec_HubCount.l2 k2 x3_2 x4_1 x5_2 t581 t584 0 a0_0 l0_1) = some r := H
     have A15 := Aside0.mk A150
     clear A150
     have H' := Aside0.mk H
     clear H
     have u5 : wr.cell? ⟨p1, 0, none⟩ = some (.int .i64 a0_0) := (blk_cell p0.out 0).trans rfl
     have u6 : wr.cell? ⟨p1, 1, none⟩ = some (.slice A0_1 l0_1.length c0_1) := (blk_cell p0.out 1).trans rfl
     have u7 := blk_frozen p0.out 0
     have u8 := blk_frozen p0.out 1
     go_wp2_with (first | ((with_reducible refine gate_callee (f := 66) rfl ?_); refine goesL_ (some 31) rfl rfl Try.func66 (by kernel_rfl) rfl #[.agg #[.int .i64 a0_0, .slice A0_1 l0_1.length c0_1], .int .i64 x4_1, .int .i64 x5_2] rfl (by (try simp only [List.map_toArray, List.map_cons, List.map_nil]); first | done | rfl | (simp only [List.length_drop, List.length_take]; rfl)) ?_; (with_reducible refine (spec_l3Walk.calls k2 a0_0 _ _ l0_1 x4_1 x5_2 t581 t584 _ ?side1 ?side2 A15.out).mono ?_); (case side1 => repeat (first | exact (Kd.C_below q8.out HB.out) | (with_reducible refine Kd.C_alloc ?_ _) | (with_reducible refine Kd.C_drewN ?_ _) | (with_reducible refine Kd.C_drew ?_))); (case side2 => exact u3.out); rintro e w17 ⟨v582, rfl, ho0, hb⟩; refine ⟨_, rfl, ?_⟩; have n0_ := Aside0.mk (Kd.R_elder' HO_3.out (Kd.R_base ho0) hb); have n1_ := Aside0.mk (Kd.R_lower (Kd.R_new' ho0 (Kd.R_lt HO_3.out)) (below_size HB.out)); have n2_ := Aside0.mk (blk_below (g := p1) (o := .cells #[.int .i64 a0_0, .slice A0_1 l0_1.length c0_1] 25 (0, 0)) p0.out hb); have n3_ := Aside0.mk (below_step HB.out hb); clear HO_3; clear p0; clear HB; have HO_3 := n0_; have HO583 := n1_; have p0 := n2_; have HB := n3_; clear n0_ n1_ n2_ n3_; (try clear hb); (try clear hb2); (try clear hk); (try clear hi); (try clear ho0)))
     go_loopg [8] k2 (fun kq v8 w' => ∃ (x3_3 : List Int) (x8_3 : Int), v8 = .int .i64 x8_3 ∧ Aside0 (spec_HubCount.l2 kq x3_3 x4_1 x5_2 t581 t584 x8_3 a0_0 l0_1 = some r) ∧ Aside0 (kq ≤ k2) ∧ Aside0 (Kd.R (Kd.int .i64) 3 w' w.heap.size (fun k_ => some k_ ≠ (v582 : Value).ownBlock) v579 x3_3) ∧ Aside0 (Kd.R (Kd.int .i64) 3 w' w.heap.size (fun k_ => some k_ ≠ (v579 : Value).ownBlock) v582 t581) ∧ Aside0 (w'.heap[p1]? = some (.cells #[.int .i64 a0_0, (.slice A0_1 l0_1.length c0_1)] 25 (0, 0))) ∧ Aside0 (Below w.heap.size w w'))
     case atStart => exact ⟨(x3_2), (0), (by first | rfl | (simp; done) | (simp [*]; done)), H', ⟨Nat.le_refl _⟩, ⟨by exact Kd.R_mono HO_3.out (fun _ hk => hk.2)⟩, ⟨by exact Kd.R_mono HO583.out (fun _ hk => hk.2)⟩, ⟨by exact p0.out⟩, ⟨by repeat (first | (with_reducible first | exact HB.out | apply below_alloc | apply pw_below_drewN | apply below_drew1 | refine below_set ?_ p6.out) | exact HB.out)⟩⟩
     case round =>
      clear H'
      try clear c1
      try clear c2
      try clear p2
      try clear c3
      try clear c4
      try clear c4b0
      try clear c4b1
      try clear c5
      try clear c5b0
      try clear c5b1
      try clear c6
      try clear c12
      try clear c12b0
      try clear c14
      try clear c14b0
      try clear r7
      try clear r8
      try clear u5
      try clear u6
      try clear q9
      try clear r0
      try clear r3
      try clear r4
      try clear r9
      try clear t0
      try clear u7
      try clear u8
      try clear r1
      try clear r2
      try clear r5
      try clear r6
      try clear p2
      obtain ⟨x3_3, x8_3, rfl, HA, HK3, HO_3, HO_6, p0, HB⟩ := hrel
      cases gk with
      | zero => exact absurd HA.out (by simp [spec_HubCount.l2])
      | succ k3 =>
       have H := HA.out
       clear HA
       simp only [spec_HubCount.l2] at H
       by_cases c18 : (wrap64 (x8_3 + 1)) < (t581.length : Int)
       case neg =>
        rw [if_neg c18] at H
        have c18b0 : decide ((wrap64 (x8_3 + 1)) < (t581.length : Int)) = false := decide_eq_false c18
        clear c18
        have H' := Aside0.mk H
        clear H
        obtain ⟨Ao32, co32, eo32⟩ := Kd.R_slice HO_6.out
        subst eo32
        go_wp2
        go_roundg k3
        case measure => have := HK1.out; have := HK2.out; have := HK3.out; omega
        case rel => exact ⟨(x3_3), (wrap64 (x5_2 + 1)), (by first | rfl | (simp; done) | (simp [*]; done)), H', ⟨by have := HK1.out; have := HK2.out; have := HK3.out; omega⟩, ⟨by exact Kd.R_mono HO_3.out (fun _ hk => trivial)⟩, ⟨by exact p0.out⟩, ⟨by repeat (first | (with_reducible first | exact HB.out | apply below_alloc | apply pw_below_drewN | apply below_drew1 | refine below_set ?_ p6.out) | exact HB.out)⟩⟩
       rw [if_pos c18] at H
       have c18b0 : decide ((wrap64 (x8_3 + 1)) < (t581.length : Int)) = true := decide_eq_true c18
       clear c18
       by_cases c19 : t584 = true
       case neg =>
        replace c19 := Bool.eq_false_iff.mpr c19
        subst c19
        have H1 : (spec_HubCount.l1 k3 x3_3 x4_1 (wrap64 (x5_2 + 1)) a0_0 l0_1) = some r := by rw [if_neg (show ¬ (false = true) by decide)] at H; exact H
        clear H
        have H := H1
        clear H1
        have H' := Aside0.mk H
        clear H
        obtain ⟨Ao31, co31, eo31⟩ := Kd.R_slice HO_6.out
        subst eo31
        go_wp2
        go_roundg k3
        case measure => have := HK1.out; have := HK2.out; have := HK3.out; omega
        case rel => exact ⟨(x3_3), (wrap64 (x5_2 + 1)), (by first | rfl | (simp; done) | (simp [*]; done)), H', ⟨by have := HK1.out; have := HK2.out; have := HK3.out; omega⟩, ⟨by exact Kd.R_mono HO_3.out (fun _ hk => trivial)⟩, ⟨by exact p0.out⟩, ⟨by repeat (first | (with_reducible first | exact HB.out | apply below_alloc | apply pw_below_drewN | apply below_drew1 | refine below_set ?_ p6.out) | exact HB.out)⟩⟩
       subst c19
       have H1 : (if 0 ≤ x8_3 then (if x8_3 < (t581.length : Int) then (if 0 ≤ (rd t581 x8_3) then (if (rd t581 x8_3) < (l0_1.length : Int) then (if 0 ≤ ((rd_T34 l0_1 (rd t581 x8_3)).f1) then (if ((rd_T34 l0_1 (rd t581 x8_3)).f1) < (x3_3.length : Int) then (spec_HubCount.l2 k3 (x3_3.set (((rd_T34 l0_1 (rd t581 x8_3)).f1) : Int).toNat (wrap64 ((rd x3_3 ((rd_T34 l0_1 (rd t581 x8_3)).f1)) + 1))) x4_1 x5_2 t581 true (wrap64 (x8_3 + 1)) a0_0 l0_1) else (none)) else (none)) else (none)) else (none)) else (none)) else (none)) = some r := by rw [if_pos rfl] at H; exact H
       clear H
       have H := H1
       clear H1
       by_cases c20 : 0 ≤ x8_3
       case neg =>
        rw [if_neg c20] at H
        exact absurd H (by simp)
       rw [if_pos c20] at H
       have c20b0 : decide (0 ≤ x8_3) = true := decide_eq_true c20
       clear c20
       by_cases c21 : x8_3 < (t581.length : Int)
       case neg =>
        rw [if_neg c21] at H
        exact absurd H (by simp)
       rw [if_pos c21] at H
       have c21b0 : decide (x8_3 < (t581.length : Int)) = true := decide_eq_true c21
       clear c21
       by_cases c22 : 0 ≤ (rd t581 x8_3)
       case neg =>
        rw [if_neg c22] at H
        exact absurd H (by simp)
       rw [if_pos c22] at H
       have c22b0 : decide (0 ≤ (rd t581 x8_3)) = true := decide_eq_true c22
       clear c22
       by_cases c23 : (rd t581 x8_3) < (l0_1.length : Int)
       case neg =>
        rw [if_neg c23] at H
        exact absurd H (by simp)
       rw [if_pos c23] at H
       have c23b0 : decide ((rd t581 x8_3) < (l0_1.length : Int)) = true := decide_eq_true c23
       clear c23
       by_cases c24 : 0 ≤ ((rd_T34 l0_1 (rd t581 x8_3)).f1)
       case neg =>
        rw [if_neg c24] at H
        exact absurd H (by simp)
       rw [if_pos c24] at H
       have c24b0 : decide (0 ≤ ((rd_T34 l0_1 (rd t581 x8_3)).f1)) = true := decide_eq_true c24
       clear c24
       by_cases c25 : ((rd_T34 l0_1 (rd t581 x8_3)).f1) < (x3_3.length : Int)
       case neg =>
        rw [if_neg c25] at H
        exact absurd H (by simp)
       rw [if_pos c25] at H
       have c25b0 : decide (((rd_T34 l0_1 (rd t581 x8_3)).f1) < (x3_3.length : Int)) = true := decide_eq_true c25
       clear c25
       obtain ⟨y590, hy590⟩ : ∃ y_ : List Int, y_ = (x3_3.set (((rd_T34 l0_1 (rd t581 x8_3)).f1) : Int).toNat (wrap64 ((rd x3_3 ((rd_T34 l0_1 (rd t581 x8_3)).f1)) + 1))) := ⟨_, rfl⟩
       replace H : (spec_HubCount.l2 k3 y590 x4_1 x5_2 t581 true (wrap64 (x8_3 + 1)) a0_0 l0_1) = some r := by first | (rw [hy590]; with_reducible exact H) | (have H2_ := (Option.bind_some _ _).symm.trans H; rw [hy590]; with_reducible exact H2_) | (have H2_ := (Option.bind_some _ _).symm.trans H; with_reducible exact H2_) | with_reducible exact H | (rw [hy590]; exact H) | exact H
       have Ny590 := Aside0.mk hy590
       clear hy590
       have H' := Aside0.mk H
       clear H
       obtain ⟨Ao27, co27, eo27⟩ := Kd.R_slice HO_6.out
       subst eo27
       try go_wp2
       have n0_ := Aside0.mk (Kd.R_drew HO_3.out)
       have n1_ := Aside0.mk (Kd.R_drew HO_6.out)
       have n2_ := Aside0.mk (blk_drew p0.out)
       have n3_ := Aside0.mk (below_drew1 HB.out)
       clear HO_3
       clear HO_6
       clear p0
       clear HB
       have HO_3 := n0_
       have HO_6 := n1_
       have p0 := n2_
       have HB := n3_
       clear n0_ n1_ n2_ n3_
       have p585 : 0 ≤ (x8_3 : Int) := of_decide_eq_true (by first | (with_reducible assumption) | assumption)
       have q585 : x8_3 < (t581.length : Int) := of_decide_eq_true (by first | (with_reducible assumption) | assumption)
       obtain ⟨u4, e585, t1⟩ := Kd.at_int (Kd.R_reads' HO_6.out).2.2 x8_3 p585 q585
       cases e585
       replace p585 := eq_true p585
       replace q585 := eq_true q585
       have p586 : 0 ≤ ((rd t581 x8_3) : Int) := of_decide_eq_true (by first | (with_reducible assumption) | assumption)
       have q586 : (rd t581 x8_3) < (l0_1.length : Int) := of_decide_eq_true (by first | (with_reducible assumption) | assumption)
       obtain ⟨p4, e586, p7, p8, p9, q0, q1⟩ := at_T34 q8.out (rd t581 x8_3) p586 q586
       have t2 := q1
       have t3 := q0
       have t4 := p9
       have t5 := p8
       have t6 := p7
       cases e586
       replace p7 := (HB.out.cell (World.block_lt_of_cell? w _ p7)).trans p7
       replace p8 := (HB.out.cell (World.block_lt_of_cell? w _ p8)).trans p8
       replace p9 := (HB.out.cell (World.block_lt_of_cell? w _ p9)).trans p9
       replace q0 := (HB.out.cell (World.block_lt_of_cell? w _ q0)).trans q0
       replace q1 := (HB.out.cell (World.block_lt_of_cell? w _ q1)).trans q1
       replace p586 := eq_true p586
       replace q586 := eq_true q586
       have p587 : 0 ≤ (x8_3 : Int) := of_decide_eq_true (by first | (with_reducible assumption) | assumption)
       have q587 : x8_3 < (t581.length : Int) := of_decide_eq_true (by first | (with_reducible assumption) | assumption)
       obtain ⟨ad587, e587, t7⟩ := Kd.at_int (Kd.R_reads' HO_6.out).2.2 x8_3 p587 q587
       obtain rfl : u4 = ad587 := (by injection e587)
       replace p587 := eq_true p587
       replace q587 := eq_true q587
       have p588 : 0 ≤ ((rd t581 x8_3) : Int) := of_decide_eq_true (by first | (with_reducible assumption) | assumption)
       have q588 : (rd t581 x8_3) < (l0_1.length : Int) := of_decide_eq_true (by first | (with_reducible assumption) | assumption)
       obtain ⟨ad588, e588, q2, q3, q4, q5, q6⟩ := at_T34 q8.out (rd t581 x8_3) p588 q588
       have t8 := q6
       have t9 := q5
       have u0 := q4
       have u1 := q3
       have u2 := q2
       obtain rfl : p4 = ad588 := (by injection e588)
       replace q2 := (HB.out.cell (World.block_lt_of_cell? w _ q2)).trans q2
       replace q3 := (HB.out.cell (World.block_lt_of_cell? w _ q3)).trans q3
       replace q4 := (HB.out.cell (World.block_lt_of_cell? w _ q4)).trans q4
       replace q5 := (HB.out.cell (World.block_lt_of_cell? w _ q5)).trans q5
       replace q6 := (HB.out.cell (World.block_lt_of_cell? w _ q6)).trans q6
       replace p588 := eq_true p588
       replace q588 := eq_true q588
       obtain ⟨Ao29, co29, eo29⟩ := Kd.R_slice HO_3.out
       (first | subst eo29 | (injection eo29 with f1_ f2_ f3_; have f4_ := f1_.symm; have f5_ := f3_.symm; clear f1_ f2_ f3_; subst f4_; subst f5_))
       have p589 : 0 ≤ (((rd_T34 l0_1 (rd t581 x8_3)).f1) : Int) := of_decide_eq_true (by first | (with_reducible assumption) | assumption)
       have q589 : ((rd_T34 l0_1 (rd t581 x8_3)).f1) < (x3_3.length : Int) := of_decide_eq_true (by first | (with_reducible assumption) | assumption)
       obtain ⟨ad589, e589, q7⟩ := Kd.at_int (Kd.R_reads' HO_3.out).2.2 ((rd_T34 l0_1 (rd t581 x8_3)).f1) p589 q589
       cases e589
       replace p589 := eq_true p589
       replace q589 := eq_true q589
       have p26 : 0 ≤ (((rd_T34 l0_1 (rd t581 x8_3)).f1) : Int) := of_decide_eq_true (by first | (with_reducible assumption) | assumption)
       have q26 : (((rd_T34 l0_1 (rd t581 x8_3)).f1) : Int) < ((x3_3.length : Int) : Int) := of_decide_eq_true (by first | (with_reducible assumption) | assumption)
       obtain ⟨go26, co26, eo26, gb26, gl26, cl26, HG26⟩ := Kd.R_form HO_3.out (by omega)
       (first | cases eo26 | (injection eo26 with ea_ en_ ec_; (first | subst ea_ | (injection ea_ with ea_; subst ea_)); subst ec_; clear en_))
       have GB26 := Aside0.mk gb26
       have GG26 := Aside0.mk HG26
       clear gb26 gl26 HG26
       (first | simp only [add_plain] at q7 | skip)
       obtain ⟨hx26_0, hf26_0⟩ := Kd.R_celln 0 HO_3.out (((rd_T34 l0_1 (rd t581 x8_3)).f1) : Int) p26 q26
       replace p26 := eq_true p26
       replace q26 := eq_true q26
       have HP30 := Kd.R_putn HO_3.out (((rd_T34 l0_1 (rd t581 x8_3)).f1) : Int) (wrap64 ((rd x3_3 ((rd_T34 l0_1 (rd t581 x8_3)).f1)) + 1))
       rw [← Ny590.out] at HP30
       have HQ30 := Aside0.mk HP30
       clear HP30
       refine start_ (n := 25) (S := fun w' => w'.cell? ⟨p1, 0, none⟩ = some (.int .i64 a0_0) ∧ w'.cell? ⟨p1, 1, none⟩ = some (.slice (some p4) l0_1.length c0_1) ∧ w'.cell? (u4.add (x8_3).toNat) = some (.int .i64 (rd t581 x8_3)) ∧ w'.cell? (p4.add (((rd t581 x8_3)).toNat * 5)) = some (.int .i64 ((rd_T34 l0_1 (rd t581 x8_3)).f0)) ∧ w'.cell? ⟨(p4.add (((rd t581 x8_3)).toNat * 5)).block, (p4.add (((rd t581 x8_3)).toNat * 5)).off + 1, none⟩ = some (.int .i64 ((rd_T34 l0_1 (rd t581 x8_3)).f1)) ∧ w'.cell? ⟨(p4.add (((rd t581 x8_3)).toNat * 5)).block, (p4.add (((rd t581 x8_3)).toNat * 5)).off + 2, none⟩ = some (.int .i64 ((rd_T34 l0_1 (rd t581 x8_3)).f2)) ∧ w'.cell? ⟨(p4.add (((rd t581 x8_3)).toNat * 5)).block, (p4.add (((rd t581 x8_3)).toNat * 5)).off + 3, none⟩ = some (.int .i64 ((rd_T34 l0_1 (rd t581 x8_3)).f3)) ∧ w'.cell? ⟨(p4.add (((rd t581 x8_3)).toNat * 5)).block, (p4.add (((rd t581 x8_3)).toNat * 5)).off + 4, none⟩ = some (.int .i64 ((rd_T34 l0_1 (rd t581 x8_3)).f4)) ∧ w'.cell? (u4.add (x8_3).toNat) = some (.int .i64 (rd t581 x8_3)) ∧ w'.cell? (p4.add (((rd t581 x8_3)).toNat * 5)) = some (.int .i64 ((rd_T34 l0_1 (rd t581 x8_3)).f0)) ∧ w'.cell? ⟨(p4.add (((rd t581 x8_3)).toNat * 5)).block, (p4.add (((rd t581 x8_3)).toNat * 5)).off + 1, none⟩ = some (.int .i64 ((rd_T34 l0_1 (rd t581 x8_3)).f1)) ∧ w'.cell? ⟨(p4.add (((rd t581 x8_3)).toNat * 5)).block, (p4.add (((rd t581 x8_3)).toNat * 5)).off + 2, none⟩ = some (.int .i64 ((rd_T34 l0_1 (rd t581 x8_3)).f2)) ∧ w'.cell? ⟨(p4.add (((rd t581 x8_3)).toNat * 5)).block, (p4.add (((rd t581 x8_3)).toNat * 5)).off + 3, none⟩ = some (.int .i64 ((rd_T34 l0_1 (rd t581 x8_3)).f3)) ∧ w'.cell? ⟨(p4.add (((rd t581 x8_3)).toNat * 5)).block, (p4.add (((rd t581 x8_3)).toNat * 5)).off + 4, none⟩ = some (.int .i64 ((rd_T34 l0_1 (rd t581 x8_3)).f4)) ∧ w'.cell? ⟨go26, (((rd_T34 l0_1 (rd t581 x8_3)).f1)).toNat, none⟩ = some (.int .i64 (rd x3_3 ((rd_T34 l0_1 (rd t581 x8_3)).f1)))) (ds := [24]) #[N68,N68,N68,N68,N68,N68,N68,N68,N68,N68,N68,N68,N68,N68,N68,N68,N68,N68,N68,N68,N68,N68,N68,N68,N68] (by kernel_rfl) rfl rfl ⟨(blk_cell p0.out 0).trans rfl, (blk_cell p0.out 1).trans rfl, t1, ((HB.out.cell (World.block_lt_of_cell? w _ t6)).trans t6), ((HB.out.cell (World.block_lt_of_cell? w _ t5)).trans t5), ((HB.out.cell (World.block_lt_of_cell? w _ t4)).trans t4), ((HB.out.cell (World.block_lt_of_cell? w _ t3)).trans t3), ((HB.out.cell (World.block_lt_of_cell? w _ t2)).trans t2), t7, ((HB.out.cell (World.block_lt_of_cell? w _ u2)).trans u2), ((HB.out.cell (World.block_lt_of_cell? w _ u1)).trans u1), ((HB.out.cell (World.block_lt_of_cell? w _ u0)).trans u0), ((HB.out.cell (World.block_lt_of_cell? w _ t9)).trans t9), ((HB.out.cell (World.block_lt_of_cell? w _ t8)).trans t8), q7⟩ (fun hHeld => ?_); refine with_tabW spec_HubCount.tab14 spec_HubCount.bits14 (fun HT_ HW_ => ?_)
       generalize wr.drew = w28 at HO_3 HO_6 p0 HB GG26 HQ30 hf26_0 hx26_0 t1 p7 p8 p9 q0 q1 t7 q2 q3 q4 q5 q6 q7 hHeld ⊢
       refine pure_ (i := 0) (N := some 44) (v := ?_) (a' := ?_) #[Y68,N68,N68,N68,N68,N68,N68,N68,N68,N68,N68,N68,N68,N68,N68,N68,N68,N68,N68,N68,N68,N68,N68,N68,N68] rfl rfl (any_of HT_.out (by kernel_rfl)) (fun _ _ _ h => h) (Or.inl ⟨by rfl, ?_⟩) ?_ ?_
       rotate_left
       ·intro w'
        go_simp
        with_reducible rfl
       rotate_left
       ·simp only [Act.put, List.setIfInBounds_toArray, List.set_cons_zero, List.set_cons_succ, i64_w, i32_w]
        rfl
       refine pure_ (i := 1) (N := some 45) (v := ?_) (a' := ?_) #[Y68,Y68,N68,N68,N68,N68,N68,N68,N68,N68,N68,N68,N68,N68,N68,N68,N68,N68,N68,N68,N68,N68,N68,N68,N68] rfl rfl (any_of HT_.out (by kernel_rfl)) (fun _ _ _ h => h) (Or.inl ⟨by rfl, ?_⟩) ?_ ?_
       rotate_left
       ·intro w'
        go_simp
        with_reducible rfl
       rotate_left
       ·simp only [Act.put, List.setIfInBounds_toArray, List.set_cons_zero, List.set_cons_succ, i64_w, i32_w]
        rfl
       refine pure_ (i := 3) (N := some 47) (v := ?_) (a' := ?_) #[Y68,Y68,N68,Y68,N68,N68,N68,N68,N68,N68,N68,N68,N68,N68,N68,N68,N68,N68,N68,N68,N68,N68,N68,N68,N68] rfl rfl (any_of HT_.out (by kernel_rfl)) (fun _ _ _ h => h) (Or.inl ⟨by rfl, ?_⟩) ?_ ?_
       rotate_left
       ·intro w'
        go_simp
        with_reducible rfl
       rotate_left
       ·simp only [Act.put, List.setIfInBounds_toArray, List.set_cons_zero, List.set_cons_succ, i64_w, i32_w]
        rfl
       refine pure_ (i := 4) (N := some 48) (v := ?_) (a' := ?_) #[Y68,Y68,N68,Y68,Y68,N68,N68,N68,N68,N68,N68,N68,N68,N68,N68,N68,N68,N68,N68,N68,N68,N68,N68,N68,N68] rfl rfl (any_of HT_.out (by kernel_rfl)) (fun _ _ _ h => h) (Or.inl ⟨by rfl, ?_⟩) ?_ ?_
       rotate_left
       ·intro w'
        go_simp
        with_reducible rfl
       rotate_left
       ·simp only [Act.put, List.setIfInBounds_toArray, List.set_cons_zero, List.set_cons_succ, i64_w, i32_w]
        rfl
       refine pure_ (i := 5) (N := some 49) (v := ?_) (a' := ?_) #[Y68,Y68,N68,Y68,Y68,Y68,N68,N68,N68,N68,N68,N68,N68,N68,N68,N68,N68,N68,N68,N68,N68,N68,N68,N68,N68] rfl rfl (any_of HT_.out (by kernel_rfl)) (fun _ _ _ h => h) (Or.inl ⟨by rfl, ?_⟩) ?_ ?_
       rotate_left
       ·intro w'
        go_simp
        with_reducible rfl
       rotate_left
       ·simp only [Act.put, List.setIfInBounds_toArray, List.set_cons_zero, List.set_cons_succ, i64_w, i32_w]
        rfl
       refine pure_ (i := 10) (N := some 54) (v := ?_) (a' := ?_) #[Y68,Y68,N68,Y68,Y68,Y68,N68,N68,N68,N68,Y68,N68,N68,N68,N68,N68,N68,N68,N68,N68,N68,N68,N68,N68,N68] rfl rfl (any_of HT_.out (by kernel_rfl)) (fun _ _ _ h => h) (Or.inl ⟨by rfl, ?_⟩) ?_ ?_
       rotate_left
       ·intro w'
        go_simp
        with_reducible rfl
       rotate_left
       ·simp only [Act.put, List.setIfInBounds_toArray, List.set_cons_zero, List.set_cons_succ, i64_w, i32_w]
        rfl
       refine pure_ (i := 11) (N := some 55) (v := ?_) (a' := ?_) #[Y68,Y68,N68,Y68,Y68,Y68,N68,N68,N68,N68,Y68,Y68,N68,N68,N68,N68,N68,N68,N68,N68,N68,N68,N68,N68,N68] rfl rfl (any_of HT_.out (by kernel_rfl)) (fun _ _ _ h => h) (Or.inl ⟨by rfl, ?_⟩) ?_ ?_
       rotate_left
       ·intro w'
        go_simp
        with_reducible rfl
       rotate_left
       ·simp only [Act.put, List.setIfInBounds_toArray, List.set_cons_zero, List.set_cons_succ, i64_w, i32_w]
        rfl
       refine pure_ (i := 13) (N := some 57) (v := ?_) (a' := ?_) #[Y68,Y68,N68,Y68,Y68,Y68,N68,N68,N68,N68,Y68,Y68,N68,Y68,N68,N68,N68,N68,N68,N68,N68,N68,N68,N68,N68] rfl rfl (any_of HT_.out (by kernel_rfl)) (fun _ _ _ h => h) (Or.inl ⟨by rfl, ?_⟩) ?_ ?_
       rotate_left
       ·intro w'
        go_simp
        with_reducible rfl
       rotate_left
       ·simp only [Act.put, List.setIfInBounds_toArray, List.set_cons_zero, List.set_cons_succ, i64_w, i32_w]
        rfl
       refine pure_ (i := 14) (N := some 58) (v := ?_) (a' := ?_) #[Y68,Y68,N68,Y68,Y68,Y68,N68,N68,N68,N68,Y68,Y68,N68,Y68,Y68,N68,N68,N68,N68,N68,N68,N68,N68,N68,N68] rfl rfl (any_of HT_.out (by kernel_rfl)) (fun _ _ _ h => h) (Or.inl ⟨by rfl, ?_⟩) ?_ ?_
       rotate_left
       ·intro w'
        go_simp
        with_reducible rfl
       rotate_left
       ·simp only [Act.put, List.setIfInBounds_toArray, List.set_cons_zero, List.set_cons_succ, i64_w, i32_w]
        rfl
       refine pure_ (i := 15) (N := some 59) (v := ?_) (a' := ?_) #[Y68,Y68,N68,Y68,Y68,Y68,N68,N68,N68,N68,Y68,Y68,N68,Y68,Y68,Y68,N68,N68,N68,N68,N68,N68,N68,N68,N68] rfl rfl (any_of HT_.out (by kernel_rfl)) (fun _ _ _ h => h) (Or.inl ⟨by rfl, ?_⟩) ?_ ?_
       rotate_left
       ·intro w'
        go_simp
        with_reducible rfl
       rotate_left
       ·simp only [Act.put, List.setIfInBounds_toArray, List.set_cons_zero, List.set_cons_succ, i64_w, i32_w]
        rfl
       refine take_ (i := 2) (N := some 46) (v := ?_) (a' := ?_) #[Y68,Y68,Y68,Y68,Y68,Y68,N68,N68,N68,N68,Y68,Y68,N68,Y68,Y68,Y68,N68,N68,N68,N68,N68,N68,N68,N68,N68] rfl rfl (take_ofW HT_.out HW_.out (by kernel_rfl)) (fun _ _ _ h => h) (Or.inl ⟨by rfl, ?_⟩) hHeld ?_ ?_
       rotate_left
       ·rintro w' ⟨s0, s1, s2, s3, s4, s5, s6, s7, s8, s9, s10, s11, s12, s13, s14⟩
        go_simp
        with_reducible rfl
       rotate_left
       ·simp only [Act.put, List.setIfInBounds_toArray, List.set_cons_zero, List.set_cons_succ, i64_w, i32_w]
        rfl
       refine take_ (i := 6) (N := some 50) (v := ?_) (a' := ?_) #[Y68,Y68,Y68,Y68,Y68,Y68,Y68,N68,N68,N68,Y68,Y68,N68,Y68,Y68,Y68,N68,N68,N68,N68,N68,N68,N68,N68,N68] rfl rfl (take_ofW HT_.out HW_.out (by kernel_rfl)) (fun _ _ _ h => h) (Or.inl ⟨by rfl, ?_⟩) hHeld ?_ ?_
       rotate_left
       ·rintro w' ⟨s0, s1, s2, s3, s4, s5, s6, s7, s8, s9, s10, s11, s12, s13, s14⟩
        go_simp
        with_reducible rfl
       rotate_left
       ·simp only [Act.put, List.setIfInBounds_toArray, List.set_cons_zero, List.set_cons_succ, i64_w, i32_w]
        rfl
       refine pure_ (i := 7) (N := some 51) (v := ?_) (a' := ?_) #[Y68,Y68,Y68,Y68,Y68,Y68,Y68,Y68,N68,N68,Y68,Y68,N68,Y68,Y68,Y68,N68,N68,N68,N68,N68,N68,N68,N68,N68] rfl rfl (any_of HT_.out (by kernel_rfl)) (fun _ _ _ h => h) (Or.inl ⟨by rfl, ?_⟩) ?_ ?_
       rotate_left
       ·intro w'
        go_simp
        with_reducible rfl
       rotate_left
       ·simp only [Act.put, List.setIfInBounds_toArray, List.set_cons_zero, List.set_cons_succ, i64_w, i32_w]
        rfl
       refine pure_ (i := 8) (N := some 52) (v := ?_) (a' := ?_) #[Y68,Y68,Y68,Y68,Y68,Y68,Y68,Y68,Y68,N68,Y68,Y68,N68,Y68,Y68,Y68,N68,N68,N68,N68,N68,N68,N68,N68,N68] rfl rfl (any_of HT_.out (by kernel_rfl)) (fun _ _ _ h => h) (Or.inl ⟨by rfl, ?_⟩) ?_ ?_
       rotate_left
       ·intro w'
        go_simp
        with_reducible rfl
       rotate_left
       ·simp only [Act.put, List.setIfInBounds_toArray, List.set_cons_zero, List.set_cons_succ, i64_w, i32_w]
        rfl
       refine take_ (i := 9) (N := some 53) (v := ?_) (a' := ?_) #[Y68,Y68,Y68,Y68,Y68,Y68,Y68,Y68,Y68,Y68,Y68,Y68,N68,Y68,Y68,Y68,N68,N68,N68,N68,N68,N68,N68,N68,N68] rfl rfl (take_ofW HT_.out HW_.out (by kernel_rfl)) (fun _ _ _ h => h) (Or.inl ⟨by rfl, ?_⟩) hHeld ?_ ?_
       rotate_left
       ·rintro w' ⟨s0, s1, s2, s3, s4, s5, s6, s7, s8, s9, s10, s11, s12, s13, s14⟩
        go_simp
        with_reducible rfl
       rotate_left
       ·simp only [Act.put, List.setIfInBounds_toArray, List.set_cons_zero, List.set_cons_succ, i64_w, i32_w]
        rfl
       refine take_ (i := 12) (N := some 56) (v := ?_) (a' := ?_) #[Y68,Y68,Y68,Y68,Y68,Y68,Y68,Y68,Y68,Y68,Y68,Y68,Y68,Y68,Y68,Y68,N68,N68,N68,N68,N68,N68,N68,N68,N68] rfl rfl (take_ofW HT_.out HW_.out (by kernel_rfl)) (fun _ _ _ h => h) (Or.inl ⟨by rfl, ?_⟩) hHeld ?_ ?_
       rotate_left
       ·rintro w' ⟨s0, s1, s2, s3, s4, s5, s6, s7, s8, s9, s10, s11, s12, s13, s14⟩
        go_simp
        with_reducible rfl
       rotate_left
       ·simp only [Act.put, List.setIfInBounds_toArray, List.set_cons_zero, List.set_cons_succ, i64_w, i32_w]
        rfl
       refine take_ (i := 16) (N := some 60) (v := ?_) (a' := ?_) #[Y68,Y68,Y68,Y68,Y68,Y68,Y68,Y68,Y68,Y68,Y68,Y68,Y68,Y68,Y68,Y68,Y68,N68,N68,N68,N68,N68,N68,N68,N68] rfl rfl (take_ofW HT_.out HW_.out (by kernel_rfl)) (fun _ _ _ h => h) (Or.inl ⟨by rfl, ?_⟩) hHeld ?_ ?_
       rotate_left
       ·rintro w' ⟨s0, s1, s2, s3, s4, s5, s6, s7, s8, s9, s10, s11, s12, s13, s14⟩
        go_simp
        with_reducible rfl
       rotate_left
       ·simp only [Act.put, List.setIfInBounds_toArray, List.set_cons_zero, List.set_cons_succ, i64_w, i32_w]
        rfl
       refine pure_ (i := 17) (N := some 61) (v := ?_) (a' := ?_) #[Y68,Y68,Y68,Y68,Y68,Y68,Y68,Y68,Y68,Y68,Y68,Y68,Y68,Y68,Y68,Y68,Y68,Y68,N68,N68,N68,N68,N68,N68,N68] rfl rfl (any_of HT_.out (by kernel_rfl)) (fun _ _ _ h => h) (Or.inl ⟨by rfl, ?_⟩) ?_ ?_
       rotate_left
       ·intro w'
        go_simp
        with_reducible rfl
       rotate_left
       ·simp only [Act.put, List.setIfInBounds_toArray, List.set_cons_zero, List.set_cons_succ, i64_w, i32_w]
        rfl
       refine pure_ (i := 18) (N := some 62) (v := ?_) (a' := ?_) #[Y68,Y68,Y68,Y68,Y68,Y68,Y68,Y68,Y68,Y68,Y68,Y68,Y68,Y68,Y68,Y68,Y68,Y68,Y68,N68,N68,N68,N68,N68,N68] rfl rfl (any_of HT_.out (by kernel_rfl)) (fun _ _ _ h => h) (Or.inl ⟨by rfl, ?_⟩) ?_ ?_
       rotate_left
       ·intro w'
        go_simp
        with_reducible rfl
       rotate_left
       ·simp only [Act.put, List.setIfInBounds_toArray, List.set_cons_zero, List.set_cons_succ, i64_w, i32_w]
        rfl
       refine take_ (i := 19) (N := some 63) (v := ?_) (a' := ?_) #[Y68,Y68,Y68,Y68,Y68,Y68,Y68,Y68,Y68,Y68,Y68,Y68,Y68,Y68,Y68,Y68,Y68,Y68,Y68,Y68,N68,N68,N68,N68,N68] rfl rfl (take_ofW HT_.out HW_.out (by kernel_rfl)) (fun _ _ _ h => h) (Or.inl ⟨by rfl, ?_⟩) hHeld ?_ ?_
       rotate_left
       ·rintro w' ⟨s0, s1, s2, s3, s4, s5, s6, s7, s8, s9, s10, s11, s12, s13, s14⟩
        go_simp
        with_reducible rfl
       rotate_left
       ·simp only [Act.put, List.setIfInBounds_toArray, List.set_cons_zero, List.set_cons_succ, i64_w, i32_w]
        rfl
       refine pure_ (i := 20) (N := some 64) (v := ?_) (a' := ?_) #[Y68,Y68,Y68,Y68,Y68,Y68,Y68,Y68,Y68,Y68,Y68,Y68,Y68,Y68,Y68,Y68,Y68,Y68,Y68,Y68,Y68,N68,N68,N68,N68] rfl rfl (any_of HT_.out (by kernel_rfl)) (fun _ _ _ h => h) (Or.inl ⟨by rfl, ?_⟩) ?_ ?_
       rotate_left
       ·intro w'
        go_simp
        with_reducible rfl
       rotate_left
       ·simp only [Act.put, List.setIfInBounds_toArray, List.set_cons_zero, List.set_cons_succ, i64_w, i32_w]
        rfl
       refine take_ (i := 21) (N := some 65) (v := ?_) (a' := ?_) #[Y68,Y68,Y68,Y68,Y68,Y68,Y68,Y68,Y68,Y68,Y68,Y68,Y68,Y68,Y68,Y68,Y68,Y68,Y68,Y68,Y68,Y68,N68,N68,N68] rfl rfl (take_ofW HT_.out HW_.out (by kernel_rfl)) (fun _ _ _ h => h) (Or.inl ⟨by rfl, ?_⟩) hHeld ?_ ?_
       rotate_left
       ·rintro w' ⟨s0, s1, s2, s3, s4, s5, s6, s7, s8, s9, s10, s11, s12, s13, s14⟩
        go_simp
        with_reducible rfl
       rotate_left
       ·simp only [Act.put, List.setIfInBounds_toArray, List.set_cons_zero, List.set_cons_succ, i64_w, i32_w]
        rfl
       refine pure_ (i := 22) (N := some 66) (v := ?_) (a' := ?_) #[Y68,Y68,Y68,Y68,Y68,Y68,Y68,Y68,Y68,Y68,Y68,Y68,Y68,Y68,Y68,Y68,Y68,Y68,Y68,Y68,Y68,Y68,Y68,N68,N68] rfl rfl (any_of HT_.out (by kernel_rfl)) (fun _ _ _ h => h) (Or.inl ⟨by rfl, ?_⟩) ?_ ?_
       rotate_left
       ·intro w'
        go_simp
        with_reducible rfl
       rotate_left
       ·simp only [Act.put, List.setIfInBounds_toArray, List.set_cons_zero, List.set_cons_succ, i64_w, i32_w]
        rfl
       refine pure_ (i := 23) (N := some 67) (v := ?_) (a' := ?_) #[Y68,Y68,Y68,Y68,Y68,Y68,Y68,Y68,Y68,Y68,Y68,Y68,Y68,Y68,Y68,Y68,Y68,Y68,Y68,Y68,Y68,Y68,Y68,Y68,N68] rfl rfl (any_of HT_.out (by kernel_rfl)) (fun _ _ _ h => h) (Or.inl ⟨by rfl, ?_⟩) ?_ ?_
       rotate_left
       ·intro w'
        go_simp
        with_reducible rfl
       rotate_left
       ·simp only [Act.put, List.setIfInBounds_toArray, List.set_cons_zero, List.set_cons_succ, i64_w, i32_w]
        rfl
       refine last_ (i := 24) (N := none) #[true, true, true, true, true, true, true, true, true, true, true, true, true, true, true, true, true, true, true, true, true, true, true, true, true] rfl rfl (one_of HT_.out (by kernel_rfl)) (by decide) (fun K hK => ?_)
       refine skip_ (w1 := ?_) (by rfl) rfl ?_ ?_
       rotate_left
       ·go_simp
        rfl
       refine hK.out _ _ ?_
       clear hK K
       refine done_ (done_of HT_.out (by kernel_rfl)) ?_
       try go_wp2
       go_roundg k3
       case measure => have := HK1.out; have := HK2.out; have := HK3.out; omega
       case rel => exact ⟨(y590), (wrap64 (x8_3 + 1)), (by first | rfl | (simp; done) | (simp [*]; done)), H', ⟨by have := HK1.out; have := HK2.out; have := HK3.out; omega⟩, ⟨by exact HQ30.out⟩, ⟨by exact Kd.R_mono (Kd.R_far (p := ⟨go26, (((rd_T34 l0_1 (rd t581 x8_3)).f1) : Int).toNat, none⟩) (Kd.R_mono HO_6.out (fun k_ hk => (⟨hk, fun e_ => hk (by rw [e_]; rfl)⟩ : _ ∧ k_ ≠ go26))) (fun _ hk => hk.2) (.int .i64 (wrap64 ((rd x3_3 ((rd_T34 l0_1 (rd t581 x8_3)).f1)) + 1)))) (fun _ hk => hk.1)⟩, ⟨by refine blk_far ?_ (by have h_ := Kd.R_ne HO_3.out p0.out (by decide); intro e_; exact h_ (by rw [e_]; rfl)) _; exact p0.out⟩, ⟨by repeat (first | (with_reducible first | exact HB.out | apply below_alloc | apply pw_below_drewN | apply below_drew1 | refine below_set ?_ GB26.out | refine below_set ?_ p6.out) | exact HB.out)⟩⟩
end Go.Proofs.Ytljdcinpjnijcaa.Pr
end
section
namespace Go.Proofs.Ytljdcinpjnijcaa.Pr
open Go.RowKit Go.Proofs.YtljdcinpjnijcaaW.PrintWords Go.Proofs.YtljdcinpjnijcaaW.PrintLast Go.Proofs.YtljdcinpjnijcaaW.PrintMore
attribute [local go_sem] max2_int min2_int max_two min_two max_three min_three max_four min_four
set_option linter.unusedVariables false
set_option linter.unusedSimpArgs false
def laws_eqIntS.l0 : Nat → List Int → List Int → Int → Option (Bool)
 | 0, _, _, _ => none
 | k + 1, x0, x1, x5 => if x5 < (x0.length : Int) then (if 0 ≤ x5 then (if x5 < (x1.length : Int) then (if (rd x0 x5) = (rd x1 x5) then (laws_eqIntS.l0 k x0 x1 (wrap64 (x5 + 1))) else (some false)) else (none)) else (none)) else (some true)
def laws_eqIntS.f (k : Nat) (l0 : List Int) (l1 : List Int) : Option (Bool) := if (l0.length : Int) = (l1.length : Int) then (laws_eqIntS.l0 k l0 l1 0) else (some false)
set_option maxHeartbeats 8000000 in
set_option maxRecDepth 100000 in
theorem laws_eqIntS.calls (k : Nat) (A0 : Option Addr) (c0 : Nat) (l0 : List Int) (A1 : Option Addr) (c1 : Nat) (l1 : List Int) (r : Bool) (w : World) (hr0 : Kd.C (Kd.int .i64) w A0 l0.length l0) (hc0 : l0.length ≤ c0) (hr1 : Kd.C (Kd.int .i64) w A1 l1.length l1) (hc1 : l1.length ≤ c1) (h : laws_eqIntS.f k l0 l1 = some r) :
  Calls Try.prog 32 #[.slice A0 l0.length c0, .slice A1 l1.length c1] w fun e w' => e = .returned (.bool r) ∧ Drawn0 w w' := by
 have HR0 := Aside0.mk hr0
 have HC0 := Aside0.mk hc0
 clear hr0 hc0
 have HR1 := Aside0.mk hr1
 have HC1 := Aside0.mk hc1
 clear hr1 hc1
 have H : (if (l0.length : Int) = (l1.length : Int) then (laws_eqIntS.l0 k l0 l1 0) else (some false)) = some r := h
 clear h
 by_cases c3 : (l0.length : Int) = (l1.length : Int)
 case neg =>
  rw [if_neg c3] at H
  have c3b0 : ((l0.length : Int) == (l1.length : Int)) = false := beq_eq_false_iff_ne.mpr c3
  have c3b1 : ((l0.length : Int) != (l1.length : Int)) = true := bne_iff_ne.mpr c3
  have c3b2 : (l0.length == l1.length) = false := by first | simpa using c3 | (simp at c3 ⊢; omega)
  obtain rfl := Option.some.inj H
  go_enter Try.func32, Try.ntmps32
  go_wp2
  repeat (go_quiet (fail); try go_wp2)
  go_ret
  exact ⟨by first | rfl | (simp; done) | (simp [*]; done), by repeat (first | exact Drawn0.refl _ | apply Drawn0.step)⟩
 rw [if_pos c3] at H
 have c3b0 : ((l0.length : Int) == (l1.length : Int)) = true := beq_iff_eq.mpr c3
 have c3b1 : ((l0.length : Int) != (l1.length : Int)) = false := bne_eq_false_iff_eq.mpr c3
 have c3b2 : (l0.length == l1.length) = true := by first | simpa using c3 | (simp at c3 ⊢; omega)
 clear c3
 have H' := Aside0.mk H
 clear H
 go_enter Try.func32, Try.ntmps32
 go_wp2
 repeat (go_quiet (fail); try go_wp2)
 go_loopg [5] k (fun kq v5 w' => ∃ (x5_1 : Int), v5 = .int .i64 x5_1 ∧ Aside0 (laws_eqIntS.l0 kq l0 l1 x5_1 = some r) ∧ Aside0 (kq ≤ k) ∧ Drawn0 w w')
 case atStart => exact ⟨(0), (by first | rfl | (simp; done) | (simp [*]; done)), H', ⟨Nat.le_refl _⟩, by repeat (first | exact Drawn0.refl _ | apply Drawn0.step)⟩
 case round =>
  clear H'
  try clear c1
  try clear p2
  try clear c3
  try clear c3b0
  try clear c3b1
  try clear c3b2
  obtain ⟨x5_1, rfl, HA, HK1, ⟨m1, rfl⟩⟩ := hrel
  cases gk with
  | zero => exact absurd HA.out (by simp [laws_eqIntS.l0])
  | succ k1 =>
   have H := HA.out
   clear HA
   simp only [laws_eqIntS.l0] at H
   by_cases c4 : x5_1 < (l0.length : Int)
   case neg =>
    rw [if_neg c4] at H
    have c4b0 : decide (x5_1 < (l0.length : Int)) = false := decide_eq_false c4
    clear c4
    obtain rfl := Option.some.inj H
    go_wp2
    repeat (go_quiet (fail); try go_wp2)
    go_ret
    exact ⟨by first | rfl | (simp; done) | (simp [*]; done), by repeat (first | exact Drawn0.refl _ | apply Drawn0.step)⟩
   rw [if_pos c4] at H
   have c4b0 : decide (x5_1 < (l0.length : Int)) = true := decide_eq_true c4
   clear c4
   by_cases c5 : 0 ≤ x5_1
   case neg =>
    rw [if_neg c5] at H
    exact absurd H (by simp)
   rw [if_pos c5] at H
   have c5b0 : decide (0 ≤ x5_1) = true := decide_eq_true c5
   clear c5
   by_cases c6 : x5_1 < (l1.length : Int)
   case neg =>
    rw [if_neg c6] at H
    exact absurd H (by simp)
   rw [if_pos c6] at H
   have c6b0 : decide (x5_1 < (l1.length : Int)) = true := decide_eq_true c6
   clear c6
   by_cases c7 : (rd l0 x5_1) = (rd l1 x5_1)
   case neg =>
    rw [if_neg c7] at H
    have c7b0 : ((rd l0 x5_1) == (rd l1 x5_1)) = false := beq_eq_false_iff_ne.mpr c7
    have c7b1 : ((rd l0 x5_1) != (rd l1 x5_1)) = true := bne_iff_ne.mpr c7
    obtain rfl := Option.some.inj H
    have p673 : 0 ≤ (x5_1 : Int) := of_decide_eq_true (by first | (with_reducible assumption) | assumption)
    have q673 : x5_1 < (l0.length : Int) := of_decide_eq_true (by first | (with_reducible assumption) | assumption)
    obtain ⟨ad673, e673, p0⟩ := Kd.at_int HR0.out x5_1 p673 q673
    cases e673
    replace p673 := eq_true p673
    replace q673 := eq_true q673
    have p674 : 0 ≤ (x5_1 : Int) := of_decide_eq_true (by first | (with_reducible assumption) | assumption)
    have q674 : x5_1 < (l1.length : Int) := of_decide_eq_true (by first | (with_reducible assumption) | assumption)
    obtain ⟨ad674, e674, p1⟩ := Kd.at_int HR1.out x5_1 p674 q674
    cases e674
    replace p674 := eq_true p674
    replace q674 := eq_true q674
    go_wp2
    repeat (go_quiet (fail); try go_wp2)
    go_ret
    exact ⟨by first | rfl | (simp; done) | (simp [*]; done), by repeat (first | exact Drawn0.refl _ | apply Drawn0.step)⟩
   rw [if_pos c7] at H
   have c7b0 : ((rd l0 x5_1) == (rd l1 x5_1)) = true := beq_iff_eq.mpr c7
   have c7b1 : ((rd l0 x5_1) != (rd l1 x5_1)) = false := bne_eq_false_iff_eq.mpr c7
   clear c7
   have H' := Aside0.mk H
   clear H
   have p673 : 0 ≤ (x5_1 : Int) := of_decide_eq_true (by first | (with_reducible assumption) | assumption)
   have q673 : x5_1 < (l0.length : Int) := of_decide_eq_true (by first | (with_reducible assumption) | assumption)
   obtain ⟨ad673, e673, p0⟩ := Kd.at_int HR0.out x5_1 p673 q673
   cases e673
   replace p673 := eq_true p673
   replace q673 := eq_true q673
   have p674 : 0 ≤ (x5_1 : Int) := of_decide_eq_true (by first | (with_reducible assumption) | assumption)
   have q674 : x5_1 < (l1.length : Int) := of_decide_eq_true (by first | (with_reducible assumption) | assumption)
   obtain ⟨ad674, e674, p1⟩ := Kd.at_int HR1.out x5_1 p674 q674
   cases e674
   replace p674 := eq_true p674
   replace q674 := eq_true q674
   go_wp2
   repeat (go_quiet (fail); try go_wp2)
   go_roundg k1
   case measure => have := HK1.out; omega
   case rel => exact ⟨(wrap64 (x5_1 + 1)), (by first | rfl | (simp; done) | (simp [*]; done)), H', ⟨by have := HK1.out; omega⟩, by repeat (first | exact Drawn0.refl _ | apply Drawn0.step)⟩
end Go.Proofs.Ytljdcinpjnijcaa.Pr
end
section
namespace Go.Proofs.Ytljdcinpjnijcaa.Pr
open Go.RowKit Go.Proofs.YtljdcinpjnijcaaW.PrintWords Go.Proofs.YtljdcinpjnijcaaW.PrintLast Go.Proofs.YtljdcinpjnijcaaW.PrintMore
attribute [local go_sem] max2_int min2_int max_two min_two max_three min_three max_four min_four
set_option linter.unusedVariables false
set_option linter.unusedSimpArgs false
def laws_markArcS.l0 : Nat → List (S34) → Int → Int → Option (Int × (List (S34)))
 | 0, _, _, _ => none
 | k + 1, x0, x1, x5 => if x5 < (x0.length : Int) then (if 0 ≤ x5 then ((some (x0.set (x5 : Int).toNat (⟨x1, (rd_T34 x0 x5).f1, (rd_T34 x0 x5).f2, (rd_T34 x0 x5).f3, (rd_T34 x0 x5).f4⟩ : S34) : List (S34))).bind fun y675 => ((some (y675.set (x5 : Int).toNat (⟨(rd_T34 y675 x5).f0, wrap64 (x1 + 1), (rd_T34 y675 x5).f2, (rd_T34 y675 x5).f3, (rd_T34 y675 x5).f4⟩ : S34) : List (S34))).bind fun y676 => ((some (y676.set (x5 : Int).toNat (⟨(rd_T34 y676 x5).f0, (rd_T34 y676 x5).f1, wrap64 ((wrap64 (x1 + 1)) + 1), (rd_T34 y676 x5).f3, (rd_T34 y676 x5).f4⟩ : S34) : List (S34))).bind fun y677 => ((some (y677.set (x5 : Int).toNat (⟨(rd_T34 y677 x5).f0, (rd_T34 y677 x5).f1, (rd_T34 y677 x5).f2, wrap64 ((wrap64 ((wrap64 (x1 + 1)) + 1)) + 1), (rd_T34 y677 x5).f4⟩ : S34) : List (S34))).bind fun y678 => (laws_markArcS.l0 k (y678.set (x5 : Int).toNat (⟨(rd_T34 y678 x5).f0, (rd_T34 y678 x5).f1, (rd_T34 y678 x5).f2, (rd_T34 y678 x5).f3, wrap64 ((wrap64 ((wrap64 ((wrap64 (x1 + 1)) + 1)) + 1)) + 1)⟩ : S34)) (wrap64 ((wrap64 ((wrap64 ((wrap64 ((wrap64 (x1 + 1)) + 1)) + 1)) + 1)) + 1)) (wrap64 (x5 + 1))))))) else (none)) else (some (x1, x0))
def laws_markArcS.f (k : Nat) (l0 : List (S34)) (a1 : Int) : Option (Int × (List (S34))) := laws_markArcS.l0 k l0 a1 0
set_option maxHeartbeats 8000000 in
set_option maxRecDepth 100000 in
theorem laws_markArcS.calls (k : Nat) (P0_ : Nat → Prop) (p0 : Value) (l0 : List (S34)) (a1 : Int) (r1 : Int) (r2 : List (S34)) (w0 w : World) (hB : Below w0.heap.size w0 w) (ho0 : Kd.R k34 34 w w0.heap.size P0_ p0 l0) (h : laws_markArcS.f k l0 a1 = some (r1, r2)) :
  Calls Try.prog 68 #[p0, .int .i64 a1] w fun e w' => e = .returned (.int .i64 r1) ∧ Kd.R k34 34 w' w0.heap.size (fun k_ => (P0_ k_ ∨ w.heap.size ≤ k_)) p0 r2 ∧ Below w0.heap.size w0 w' ∧ Kept w w' (fun k_ => P0_ k_) := by
 have HO0 := Aside0.mk (show Kd.R k34 34 w w0.heap.size (fun k_ => (P0_ k_ ∨ w.heap.size ≤ k_)) p0 l0 from Kd.R_mono ho0 (fun k_ hk => (.inl hk)))
 have HK := Aside0.mk (Kept.refl w (fun k_ => P0_ k_))
 have HW0 := Aside0.mk hB.size
 have HB := Aside0.mk hB
 clear hB
 have H : (laws_markArcS.l0 k l0 a1 0) = some (r1, r2) := h
 clear h
 have H' := Aside0.mk H
 clear H
 go_enter Try.func68, Try.ntmps68
 go_wp2
 go_loopg [1, 5] k (fun kq v1 v5 w' => ∃ (x0_1 : List (S34)) (x1_1 : Int) (x5_1 : Int), v1 = .int .i64 x1_1 ∧ v5 = .int .i64 x5_1 ∧ Aside0 (laws_markArcS.l0 kq x0_1 x1_1 x5_1 = some (r1, r2)) ∧ Aside0 (kq ≤ k) ∧ Aside0 (Kd.R k34 34 w' w0.heap.size (fun k_ => (P0_ k_ ∨ w.heap.size ≤ k_)) p0 x0_1) ∧ Aside0 (Kept w w' (fun k_ => P0_ k_)) ∧ Aside0 (Below w0.heap.size w0 w'))
 case atStart => exact ⟨(l0), (a1), (0), (by first | rfl | (simp; done) | (simp [*]; done)), (by first | rfl | (simp; done) | (simp [*]; done)), H', ⟨Nat.le_refl _⟩, ⟨by (with_reducible repeat (first | apply Kd.R_alloc | apply Kd.R_drewN | apply Kd.R_drew)); exact HO0.out⟩, ⟨by repeat (first | (with_reducible first | exact HK.out | apply Kept.alloc | apply Kept.drewN | apply Kept.drew) | exact HK.out)⟩, ⟨by repeat (first | (with_reducible first | exact HB.out | apply below_alloc | apply pw_below_drewN | apply below_drew1) | exact HB.out)⟩⟩
 case round =>
  clear H'
  try clear p2
  obtain ⟨x0_1, x1_1, x5_1, rfl, rfl, HA, HK1, HO_0, HK, HB⟩ := hrel
  cases gk with
  | zero => exact absurd HA.out (by simp [laws_markArcS.l0])
  | succ k1 =>
   have H := HA.out
   clear HA
   simp only [laws_markArcS.l0] at H
   by_cases c3 : x5_1 < (x0_1.length : Int)
   case neg =>
    rw [if_neg c3] at H
    have c3b0 : decide (x5_1 < (x0_1.length : Int)) = false := decide_eq_false c3
    clear c3
    simp only [Option.some.injEq, Prod.mk.injEq] at H
    obtain ⟨rfl, rfl⟩ := H
    obtain ⟨Ao21, co21, eo21⟩ := Kd.R_slice HO_0.out
    subst eo21
    go_wp2
    go_ret
    exact ⟨by first | rfl | (simp [errW_none, errW_some] <;> rfl) | (simp [*, errW_none, errW_some] <;> rfl), by (with_reducible repeat (first | apply Kd.R_alloc | apply Kd.R_drewN | apply Kd.R_drew)); exact HO_0.out, by repeat (first | (with_reducible first | exact HB.out | apply below_alloc | apply pw_below_drewN | apply below_drew1) | exact HB.out), by repeat (first | (with_reducible first | exact HK.out | apply Kept.alloc | apply Kept.drewN | apply Kept.drew) | exact HK.out)⟩
   rw [if_pos c3] at H
   have c3b0 : decide (x5_1 < (x0_1.length : Int)) = true := decide_eq_true c3
   clear c3
   by_cases c4 : 0 ≤ x5_1
   case neg =>
    rw [if_neg c4] at H
    exact absurd H (by simp)
   rw [if_pos c4] at H
   have c4b0 : decide (0 ≤ x5_1) = true := decide_eq_true c4
   clear c4
   obtain ⟨y675, hy675⟩ : ∃ y_ : List (S34), y_ = (x0_1.set (x5_1 : Int).toNat (⟨x1_1, (rd_T34 x0_1 x5_1).f1, (rd_T34 x0_1 x5_1).f2, (rd_T34 x0_1 x5_1).f3, (rd_T34 x0_1 x5_1).f4⟩ : S34)) := ⟨_, rfl⟩
   replace H : ((some (y675.set (x5_1 : Int).toNat (⟨(rd_T34 y675 x5_1).f0, wrap64 (x1_1 + 1), (rd_T34 y675 x5_1).f2, (rd_T34 y675 x5_1).f3, (rd_T34 y675 x5_1).f4⟩ : S34) : List (S34))).bind fun y676 => ((some (y676.set (x5_1 : Int).toNat (⟨(rd_T34 y676 x5_1).f0, (rd_T34 y676 x5_1).f1, wrap64 ((wrap64 (x1_1 + 1)) + 1), (rd_T34 y676 x5_1).f3, (rd_T34 y676 x5_1).f4⟩ : S34) : List (S34))).bind fun y677 => ((some (y677.set (x5_1 : Int).toNat (⟨(rd_T34 y677 x5_1).f0, (rd_T34 y677 x5_1).f1, (rd_T34 y677 x5_1).f2, wrap64 ((wrap64 ((wrap64 (x1_1 + 1)) + 1)) + 1), (rd_T34 y677 x5_1).f4⟩ : S34) : List (S34))).bind fun y678 => (laws_markArcS.l0 k1 (y678.set (x5_1 : Int).toNat (⟨(rd_T34 y678 x5_1).f0, (rd_T34 y678 x5_1).f1, (rd_T34 y678 x5_1).f2, (rd_T34 y678 x5_1).f3, wrap64 ((wrap64 ((wrap64 ((wrap64 (x1_1 + 1)) + 1)) + 1)) + 1)⟩ : S34)) (wrap64 ((wrap64 ((wrap64 ((wrap64 ((wrap64 (x1_1 + 1)) + 1)) + 1)) + 1)) + 1)) (wrap64 (x5_1 + 1)))))) = some (r1, r2) := by first | (rw [hy675]; with_reducible exact H) | (have H2_ := (Option.bind_some _ _).symm.trans H; rw [hy675]; with_reducible exact H2_) | (have H2_ := (Option.bind_some _ _).symm.trans H; with_reducible exact H2_) | with_reducible exact H | (rw [hy675]; exact H) | exact H
   have Ny675 := Aside0.mk hy675
   clear hy675
   obtain ⟨y676, hy676⟩ : ∃ y_ : List (S34), y_ = (y675.set (x5_1 : Int).toNat (⟨(rd_T34 y675 x5_1).f0, wrap64 (x1_1 + 1), (rd_T34 y675 x5_1).f2, (rd_T34 y675 x5_1).f3, (rd_T34 y675 x5_1).f4⟩ : S34)) := ⟨_, rfl⟩
   replace H : ((some (y676.set (x5_1 : Int).toNat (⟨(rd_T34 y676 x5_1).f0, (rd_T34 y676 x5_1).f1, wrap64 ((wrap64 (x1_1 + 1)) + 1), (rd_T34 y676 x5_1).f3, (rd_T34 y676 x5_1).f4⟩ : S34) : List (S34))).bind fun y677 => ((some (y677.set (x5_1 : Int).toNat (⟨(rd_T34 y677 x5_1).f0, (rd_T34 y677 x5_1).f1, (rd_T34 y677 x5_1).f2, wrap64 ((wrap64 ((wrap64 (x1_1 + 1)) + 1)) + 1), (rd_T34 y677 x5_1).f4⟩ : S34) : List (S34))).bind fun y678 => (laws_markArcS.l0 k1 (y678.set (x5_1 : Int).toNat (⟨(rd_T34 y678 x5_1).f0, (rd_T34 y678 x5_1).f1, (rd_T34 y678 x5_1).f2, (rd_T34 y678 x5_1).f3, wrap64 ((wrap64 ((wrap64 ((wrap64 (x1_1 + 1)) + 1)) + 1)) + 1)⟩ : S34)) (wrap64 ((wrap64 ((wrap64 ((wrap64 ((wrap64 (x1_1 + 1)) + 1)) + 1)) + 1)) + 1)) (wrap64 (x5_1 + 1))))) = some (r1, r2) := by first | (rw [hy676]; with_reducible exact H) | (have H2_ := (Option.bind_some _ _).symm.trans H; rw [hy676]; with_reducible exact H2_) | (have H2_ := (Option.bind_some _ _).symm.trans H; with_reducible exact H2_) | with_reducible exact H | (rw [hy676]; exact H) | exact H
   have Ny676 := Aside0.mk hy676
   clear hy676
   obtain ⟨y677, hy677⟩ : ∃ y_ : List (S34), y_ = (y676.set (x5_1 : Int).toNat (⟨(rd_T34 y676 x5_1).f0, (rd_T34 y676 x5_1).f1, wrap64 ((wrap64 (x1_1 + 1)) + 1), (rd_T34 y676 x5_1).f3, (rd_T34 y676 x5_1).f4⟩ : S34)) := ⟨_, rfl⟩
   replace H : ((some (y677.set (x5_1 : Int).toNat (⟨(rd_T34 y677 x5_1).f0, (rd_T34 y677 x5_1).f1, (rd_T34 y677 x5_1).f2, wrap64 ((wrap64 ((wrap64 (x1_1 + 1)) + 1)) + 1), (rd_T34 y677 x5_1).f4⟩ : S34) : List (S34))).bind fun y678 => (laws_markArcS.l0 k1 (y678.set (x5_1 : Int).toNat (⟨(rd_T34 y678 x5_1).f0, (rd_T34 y678 x5_1).f1, (rd_T34 y678 x5_1).f2, (rd_T34 y678 x5_1).f3, wrap64 ((wrap64 ((wrap64 ((wrap64 (x1_1 + 1)) + 1)) + 1)) + 1)⟩ : S34)) (wrap64 ((wrap64 ((wrap64 ((wrap64 ((wrap64 (x1_1 + 1)) + 1)) + 1)) + 1)) + 1)) (wrap64 (x5_1 + 1)))) = some (r1, r2) := by first | (rw [hy677]; with_reducible exact H) | (have H2_ := (Option.bind_some _ _).symm.trans H; rw [hy677]; with_reducible exact H2_) | (have H2_ := (Option.bind_some _ _).symm.trans H; with_reducible exact H2_) | with_reducible exact H | (rw [hy677]; exact H) | exact H
   have Ny677 := Aside0.mk hy677
   clear hy677
   obtain ⟨y678, hy678⟩ : ∃ y_ : List (S34), y_ = (y677.set (x5_1 : Int).toNat (⟨(rd_T34 y677 x5_1).f0, (rd_T34 y677 x5_1).f1, (rd_T34 y677 x5_1).f2, wrap64 ((wrap64 ((wrap64 (x1_1 + 1)) + 1)) + 1), (rd_T34 y677 x5_1).f4⟩ : S34)) := ⟨_, rfl⟩
   replace H : (laws_markArcS.l0 k1 (y678.set (x5_1 : Int).toNat (⟨(rd_T34 y678 x5_1).f0, (rd_T34 y678 x5_1).f1, (rd_T34 y678 x5_1).f2, (rd_T34 y678 x5_1).f3, wrap64 ((wrap64 ((wrap64 ((wrap64 (x1_1 + 1)) + 1)) + 1)) + 1)⟩ : S34)) (wrap64 ((wrap64 ((wrap64 ((wrap64 ((wrap64 (x1_1 + 1)) + 1)) + 1)) + 1)) + 1)) (wrap64 (x5_1 + 1))) = some (r1, r2) := by first | (rw [hy678]; with_reducible exact H) | (have H2_ := (Option.bind_some _ _).symm.trans H; rw [hy678]; with_reducible exact H2_) | (have H2_ := (Option.bind_some _ _).symm.trans H; with_reducible exact H2_) | with_reducible exact H | (rw [hy678]; exact H) | exact H
   have Ny678 := Aside0.mk hy678
   clear hy678
   obtain ⟨y679, hy679⟩ : ∃ y_ : List (S34), y_ = (y678.set (x5_1 : Int).toNat (⟨(rd_T34 y678 x5_1).f0, (rd_T34 y678 x5_1).f1, (rd_T34 y678 x5_1).f2, (rd_T34 y678 x5_1).f3, wrap64 ((wrap64 ((wrap64 ((wrap64 (x1_1 + 1)) + 1)) + 1)) + 1)⟩ : S34)) := ⟨_, rfl⟩
   replace H : (laws_markArcS.l0 k1 y679 (wrap64 ((wrap64 ((wrap64 ((wrap64 ((wrap64 (x1_1 + 1)) + 1)) + 1)) + 1)) + 1)) (wrap64 (x5_1 + 1))) = some (r1, r2) := by first | (rw [hy679]; with_reducible exact H) | (have H2_ := (Option.bind_some _ _).symm.trans H; rw [hy679]; with_reducible exact H2_) | (have H2_ := (Option.bind_some _ _).symm.trans H; with_reducible exact H2_) | with_reducible exact H | (rw [hy679]; exact H) | exact H
   have Ny679 := Aside0.mk hy679
   clear hy679
   have H' := Aside0.mk H
   clear H
   obtain ⟨Ao10, co10, eo10⟩ := Kd.R_slice HO_0.out
   subst eo10
   have p5 : 0 ≤ (x5_1 : Int) := of_decide_eq_true (by first | (with_reducible assumption) | assumption)
   have q5 : (x5_1 : Int) < ((x0_1.length : Int) : Int) := of_decide_eq_true (by first | (with_reducible assumption) | assumption)
   obtain ⟨go5, co5, eo5, gb5, gl5, cl5, HG5⟩ := Kd.R_form HO_0.out (by omega)
   (first | cases eo5 | (injection eo5 with ea_ en_ ec_; (first | subst ea_ | (injection ea_ with ea_; subst ea_)); subst ec_; clear en_))
   have GB5 := Aside0.mk gb5
   have GG5 := Aside0.mk HG5
   clear gb5 gl5 HG5
   have HMgo5 := Aside0.mk (show (P0_ go5 ∨ w.heap.size ≤ go5) from (HO_0.out.1 _ rfl))
   obtain ⟨ce5, hcl5, hM5, hcc5, hfr5⟩ := Kd.R_elem HO_0.out z34 (x5_1 : Int) p5 q5
   obtain rfl := k34_openM hM5
   have hx5_0 : wr.cell? ⟨go5, (x5_1 : Int).toNat * 5, none⟩ = some (.int .i64 ((rd_T34 x0_1 x5_1).f0)) := hcc5 0 _ rfl
   have hx5_1 : wr.cell? ⟨go5, (x5_1 : Int).toNat * 5 + 1, none⟩ = some (.int .i64 ((rd_T34 x0_1 x5_1).f1)) := hcc5 1 _ rfl
   have hx5_2 : wr.cell? ⟨go5, (x5_1 : Int).toNat * 5 + 2, none⟩ = some (.int .i64 ((rd_T34 x0_1 x5_1).f2)) := hcc5 2 _ rfl
   have hx5_3 : wr.cell? ⟨go5, (x5_1 : Int).toNat * 5 + 3, none⟩ = some (.int .i64 ((rd_T34 x0_1 x5_1).f3)) := hcc5 3 _ rfl
   have hx5_4 : wr.cell? ⟨go5, (x5_1 : Int).toNat * 5 + 4, none⟩ = some (.int .i64 ((rd_T34 x0_1 x5_1).f4)) := hcc5 4 _ rfl
   have hf5_0 : wr.frozen? ⟨go5, (x5_1 : Int).toNat * 5, none⟩ = false := hfr5 0
   have hf5_1 : wr.frozen? ⟨go5, (x5_1 : Int).toNat * 5 + 1, none⟩ = false := hfr5 1
   have hf5_2 : wr.frozen? ⟨go5, (x5_1 : Int).toNat * 5 + 2, none⟩ = false := hfr5 2
   have hf5_3 : wr.frozen? ⟨go5, (x5_1 : Int).toNat * 5 + 3, none⟩ = false := hfr5 3
   have hf5_4 : wr.frozen? ⟨go5, (x5_1 : Int).toNat * 5 + 4, none⟩ = false := hfr5 4
   clear hcl5 hcc5 hfr5; (try clear hM5)
   replace p5 := eq_true p5
   replace q5 := eq_true q5
   have HX11 := Aside0.mk (show Kd.R k34 34 wr w0.heap.size (fun k_ => (P0_ k_ ∨ w.heap.size ≤ k_)) (.slice (some ⟨go5, 0, none⟩) x0_1.length co10) x0_1 from HO_0.out)
   obtain ⟨ce11, hcl11, hM11, p1, hfr11⟩ := Kd.R_elem HX11.out z34 (x5_1 : Int) (of_decide_eq_true (by first | (with_reducible assumption) | assumption)) (by have h_ : (x5_1 : Int) < ((x0_1.length : Int) : Int) := of_decide_eq_true (by first | (with_reducible assumption) | assumption); first | exact h_ | (have e_ := (Kd.R_reads' HO_0.out).1; omega) | simpa using h_)
   obtain rfl := k34_openM hM11
   have HP11 := Kd.R_seg HX11.out (x5_1 : Int) (of_decide_eq_true (by first | (with_reducible assumption) | assumption)) (by have h_ : (x5_1 : Int) < ((x0_1.length : Int) : Int) := of_decide_eq_true (by first | (with_reducible assumption) | assumption); first | exact h_ | (have e_ := (Kd.R_reads' HO_0.out).1; omega) | simpa using h_) (seg := [.int .i64 x1_1]) (j := 0) hcl11 p1 (show 1 ≤ 5 from by decide) (x' := (⟨x1_1, (rd_T34 x0_1 x5_1).f1, (rd_T34 x0_1 x5_1).f2, (rd_T34 x0_1 x5_1).f3, (rd_T34 x0_1 x5_1).f4⟩ : S34)) (k34_mkM _ _ _ (⟨x1_1, (rd_T34 x0_1 x5_1).f1, (rd_T34 x0_1 x5_1).f2, (rd_T34 x0_1 x5_1).f3, (rd_T34 x0_1 x5_1).f4⟩ : S34) ) (fun _ hk => hk)
   have hx11_0 := p1 0 _ rfl
   (try simp only [show (k34).sz = 5 from rfl, Nat.mul_one, Nat.add_zero] at hx11_0)
   have hf11_0 := hfr11 0
   (try simp only [show (k34).sz = 5 from rfl, Nat.mul_one, Nat.add_zero] at hf11_0)
   clear hcl11 p1 hfr11; (try clear hM11)
   go_wp2_with (first | ((with_reducible refine gate_store (t := 3) (p := 16) rfl ?_); refine store_event (t := 3) (p := 16) (v := ?vo_w12) (w1 := (wr.setCell ⟨go5, (x5_1 : Int).toNat * 5, none⟩ (.int .i64 x1_1))) ?hg ?ho ?hn ?hr ?_; (case ho => rfl); (case hg => rfl); (case hn => rfl); (case hr => first | (go_simp; done) | (go_simp; rfl)); intro w12 hw; have hg : wr.grownBy w12 (some go5) := (by rw [hw]; exact HP11.2); have hp_ : Kd.R k34 34 w12 w0.heap.size (fun k_ => (P0_ k_ ∨ w.heap.size ≤ k_)) (.slice (some ⟨go5, 0, none⟩) x0_1.length co10) y675 := (by rw [hw, Ny675.out]; exact HP11.1); clear HP11; have n0_ := Aside0.mk (hp_); have n1_ := Aside0.mk ((by rw [hw]; exact below_set (HB.out) GB5.out : Below w0.heap.size w0 w12)); have n2_ := Aside0.mk (Kept.of_grown (S := (fun k_ => P0_ k_)) hg HK.out (fun k_ e_ => (HO_0.out.1 k_ e_))); clear HO_0; clear HB; clear HK; have HO_0 := n0_; have HB := n1_; have HK := n2_; clear n0_ n1_ n2_; clear hg hw hp_; have p6 : 0 ≤ (x5_1 : Int) := of_decide_eq_true (by first | (with_reducible assumption) | assumption); have q6 : (x5_1 : Int) < ((x0_1.length : Int) : Int) := of_decide_eq_true (by first | (with_reducible assumption) | assumption); obtain ⟨ce6, hcl6, hM6, hcc6, hfr6⟩ := Kd.R_elem HO_0.out z34 (x5_1 : Int) p6 q6; obtain rfl := k34_openM hM6; have hx6_0 : w12.cell? ⟨go5, (x5_1 : Int).toNat * 5, none⟩ = some (.int .i64 ((rd_T34 y675 x5_1).f0)) := hcc6 0 _ rfl; have hx6_1 : w12.cell? ⟨go5, (x5_1 : Int).toNat * 5 + 1, none⟩ = some (.int .i64 ((rd_T34 y675 x5_1).f1)) := hcc6 1 _ rfl; have hx6_2 : w12.cell? ⟨go5, (x5_1 : Int).toNat * 5 + 2, none⟩ = some (.int .i64 ((rd_T34 y675 x5_1).f2)) := hcc6 2 _ rfl; have hx6_3 : w12.cell? ⟨go5, (x5_1 : Int).toNat * 5 + 3, none⟩ = some (.int .i64 ((rd_T34 y675 x5_1).f3)) := hcc6 3 _ rfl; have hx6_4 : w12.cell? ⟨go5, (x5_1 : Int).toNat * 5 + 4, none⟩ = some (.int .i64 ((rd_T34 y675 x5_1).f4)) := hcc6 4 _ rfl; have hf6_0 : w12.frozen? ⟨go5, (x5_1 : Int).toNat * 5, none⟩ = false := hfr6 0; have hf6_1 : w12.frozen? ⟨go5, (x5_1 : Int).toNat * 5 + 1, none⟩ = false := hfr6 1; have hf6_2 : w12.frozen? ⟨go5, (x5_1 : Int).toNat * 5 + 2, none⟩ = false := hfr6 2; have hf6_3 : w12.frozen? ⟨go5, (x5_1 : Int).toNat * 5 + 3, none⟩ = false := hfr6 3; have hf6_4 : w12.frozen? ⟨go5, (x5_1 : Int).toNat * 5 + 4, none⟩ = false := hfr6 4; clear hcl6 hcc6 hfr6; (try clear hM6); replace p6 := eq_true p6; replace q6 := eq_true q6; have HX13 := Aside0.mk (show Kd.R k34 34 w12 w0.heap.size (fun k_ => (P0_ k_ ∨ w.heap.size ≤ k_)) (.slice (some ⟨go5, 0, none⟩) x0_1.length co10) y675 from HO_0.out); obtain ⟨ce13, hcl13, hM13, p3, hfr13⟩ := Kd.R_elem HX13.out z34 (x5_1 : Int) (of_decide_eq_true (by first | (with_reducible assumption) | assumption)) (by have h_ : (x5_1 : Int) < ((x0_1.length : Int) : Int) := of_decide_eq_true (by first | (with_reducible assumption) | assumption); first | exact h_ | (have e_ := (Kd.R_reads' HO_0.out).1; omega) | simpa using h_); obtain rfl := k34_openM hM13; have HP13 := Kd.R_seg HX13.out (x5_1 : Int) (of_decide_eq_true (by first | (with_reducible assumption) | assumption)) (by have h_ : (x5_1 : Int) < ((x0_1.length : Int) : Int) := of_decide_eq_true (by first | (with_reducible assumption) | assumption); first | exact h_ | (have e_ := (Kd.R_reads' HO_0.out).1; omega) | simpa using h_) (seg := [.int .i64 (wrap64 (x1_1 + 1))]) (j := 1) hcl13 p3 (show 2 ≤ 5 from by decide) (x' := (⟨(rd_T34 y675 x5_1).f0, wrap64 (x1_1 + 1), (rd_T34 y675 x5_1).f2, (rd_T34 y675 x5_1).f3, (rd_T34 y675 x5_1).f4⟩ : S34)) (k34_mkM _ _ _ (⟨(rd_T34 y675 x5_1).f0, wrap64 (x1_1 + 1), (rd_T34 y675 x5_1).f2, (rd_T34 y675 x5_1).f3, (rd_T34 y675 x5_1).f4⟩ : S34) ) (fun _ hk => hk); have hx13_1 := p3 1 _ rfl; (try simp only [show (k34).sz = 5 from rfl, Nat.mul_one, Nat.add_zero] at hx13_1); have hf13_1 := hfr13 1; (try simp only [show (k34).sz = 5 from rfl, Nat.mul_one, Nat.add_zero] at hf13_1); clear hcl13 p3 hfr13; (try clear hM13)) | ((with_reducible refine gate_store (t := 3) (p := 23) rfl ?_); refine store_event (t := 3) (p := 23) (v := ?vo_w14) (w1 := (w12.setCell ⟨go5, (x5_1 : Int).toNat * 5 + 1, none⟩ (.int .i64 (wrap64 (x1_1 + 1))))) ?hg ?ho ?hn ?hr ?_; (case ho => rfl); (case hg => rfl); (case hn => rfl); (case hr => first | (go_simp; done) | (go_simp; rfl)); intro w14 hw; have hg : w12.grownBy w14 (some go5) := (by rw [hw]; exact HP13.2); have hp_ : Kd.R k34 34 w14 w0.heap.size (fun k_ => (P0_ k_ ∨ w.heap.size ≤ k_)) (.slice (some ⟨go5, 0, none⟩) x0_1.length co10) y676 := (by rw [hw, Ny676.out]; exact HP13.1); clear HP13; have n0_ := Aside0.mk (hp_); have n1_ := Aside0.mk ((by rw [hw]; exact below_set (HB.out) GB5.out : Below w0.heap.size w0 w14)); have n2_ := Aside0.mk (Kept.of_grown (S := (fun k_ => P0_ k_)) hg HK.out (fun k_ e_ => (HO_0.out.1 k_ e_))); clear HO_0; clear HB; clear HK; have HO_0 := n0_; have HB := n1_; have HK := n2_; clear n0_ n1_ n2_; clear hg hw hp_; have p7 : 0 ≤ (x5_1 : Int) := of_decide_eq_true (by first | (with_reducible assumption) | assumption); have q7 : (x5_1 : Int) < ((x0_1.length : Int) : Int) := of_decide_eq_true (by first | (with_reducible assumption) | assumption); obtain ⟨ce7, hcl7, hM7, hcc7, hfr7⟩ := Kd.R_elem HO_0.out z34 (x5_1 : Int) p7 q7; obtain rfl := k34_openM hM7; have hx7_0 : w14.cell? ⟨go5, (x5_1 : Int).toNat * 5, none⟩ = some (.int .i64 ((rd_T34 y676 x5_1).f0)) := hcc7 0 _ rfl; have hx7_1 : w14.cell? ⟨go5, (x5_1 : Int).toNat * 5 + 1, none⟩ = some (.int .i64 ((rd_T34 y676 x5_1).f1)) := hcc7 1 _ rfl; have hx7_2 : w14.cell? ⟨go5, (x5_1 : Int).toNat * 5 + 2, none⟩ = some (.int .i64 ((rd_T34 y676 x5_1).f2)) := hcc7 2 _ rfl; have hx7_3 : w14.cell? ⟨go5, (x5_1 : Int).toNat * 5 + 3, none⟩ = some (.int .i64 ((rd_T34 y676 x5_1).f3)) := hcc7 3 _ rfl; have hx7_4 : w14.cell? ⟨go5, (x5_1 : Int).toNat * 5 + 4, none⟩ = some (.int .i64 ((rd_T34 y676 x5_1).f4)) := hcc7 4 _ rfl; have hf7_0 : w14.frozen? ⟨go5, (x5_1 : Int).toNat * 5, none⟩ = false := hfr7 0; have hf7_1 : w14.frozen? ⟨go5, (x5_1 : Int).toNat * 5 + 1, none⟩ = false := hfr7 1; have hf7_2 : w14.frozen? ⟨go5, (x5_1 : Int).toNat * 5 + 2, none⟩ = false := hfr7 2; have hf7_3 : w14.frozen? ⟨go5, (x5_1 : Int).toNat * 5 + 3, none⟩ = false := hfr7 3; have hf7_4 : w14.frozen? ⟨go5, (x5_1 : Int).toNat * 5 + 4, none⟩ = false := hfr7 4; clear hcl7 hcc7 hfr7; (try clear hM7); replace p7 := eq_true p7; replace q7 := eq_true q7; have HX15 := Aside0.mk (show Kd.R k34 34 w14 w0.heap.size (fun k_ => (P0_ k_ ∨ w.heap.size ≤ k_)) (.slice (some ⟨go5, 0, none⟩) x0_1.length co10) y676 from HO_0.out); obtain ⟨ce15, hcl15, hM15, p4, hfr15⟩ := Kd.R_elem HX15.out z34 (x5_1 : Int) (of_decide_eq_true (by first | (with_reducible assumption) | assumption)) (by have h_ : (x5_1 : Int) < ((x0_1.length : Int) : Int) := of_decide_eq_true (by first | (with_reducible assumption) | assumption); first | exact h_ | (have e_ := (Kd.R_reads' HO_0.out).1; omega) | simpa using h_); obtain rfl := k34_openM hM15; have HP15 := Kd.R_seg HX15.out (x5_1 : Int) (of_decide_eq_true (by first | (with_reducible assumption) | assumption)) (by have h_ : (x5_1 : Int) < ((x0_1.length : Int) : Int) := of_decide_eq_true (by first | (with_reducible assumption) | assumption); first | exact h_ | (have e_ := (Kd.R_reads' HO_0.out).1; omega) | simpa using h_) (seg := [.int .i64 (wrap64 ((wrap64 (x1_1 + 1)) + 1))]) (j := 2) hcl15 p4 (show 3 ≤ 5 from by decide) (x' := (⟨(rd_T34 y676 x5_1).f0, (rd_T34 y676 x5_1).f1, wrap64 ((wrap64 (x1_1 + 1)) + 1), (rd_T34 y676 x5_1).f3, (rd_T34 y676 x5_1).f4⟩ : S34)) (k34_mkM _ _ _ (⟨(rd_T34 y676 x5_1).f0, (rd_T34 y676 x5_1).f1, wrap64 ((wrap64 (x1_1 + 1)) + 1), (rd_T34 y676 x5_1).f3, (rd_T34 y676 x5_1).f4⟩ : S34) ) (fun _ hk => hk); have hx15_2 := p4 2 _ rfl; (try simp only [show (k34).sz = 5 from rfl, Nat.mul_one, Nat.add_zero] at hx15_2); have hf15_2 := hfr15 2; (try simp only [show (k34).sz = 5 from rfl, Nat.mul_one, Nat.add_zero] at hf15_2); clear hcl15 p4 hfr15; (try clear hM15)) | ((with_reducible refine gate_store (t := 3) (p := 30) rfl ?_); refine store_event (t := 3) (p := 30) (v := ?vo_w16) (w1 := (w14.setCell ⟨go5, (x5_1 : Int).toNat * 5 + 2, none⟩ (.int .i64 (wrap64 ((wrap64 (x1_1 + 1)) + 1))))) ?hg ?ho ?hn ?hr ?_; (case ho => rfl); (case hg => rfl); (case hn => rfl); (case hr => first | (go_simp; done) | (go_simp; rfl)); intro w16 hw; have hg : w14.grownBy w16 (some go5) := (by rw [hw]; exact HP15.2); have hp_ : Kd.R k34 34 w16 w0.heap.size (fun k_ => (P0_ k_ ∨ w.heap.size ≤ k_)) (.slice (some ⟨go5, 0, none⟩) x0_1.length co10) y677 := (by rw [hw, Ny677.out]; exact HP15.1); clear HP15; have n0_ := Aside0.mk (hp_); have n1_ := Aside0.mk ((by rw [hw]; exact below_set (HB.out) GB5.out : Below w0.heap.size w0 w16)); have n2_ := Aside0.mk (Kept.of_grown (S := (fun k_ => P0_ k_)) hg HK.out (fun k_ e_ => (HO_0.out.1 k_ e_))); clear HO_0; clear HB; clear HK; have HO_0 := n0_; have HB := n1_; have HK := n2_; clear n0_ n1_ n2_; clear hg hw hp_; have p8 : 0 ≤ (x5_1 : Int) := of_decide_eq_true (by first | (with_reducible assumption) | assumption); have q8 : (x5_1 : Int) < ((x0_1.length : Int) : Int) := of_decide_eq_true (by first | (with_reducible assumption) | assumption); obtain ⟨ce8, hcl8, hM8, hcc8, hfr8⟩ := Kd.R_elem HO_0.out z34 (x5_1 : Int) p8 q8; obtain rfl := k34_openM hM8; have hx8_0 : w16.cell? ⟨go5, (x5_1 : Int).toNat * 5, none⟩ = some (.int .i64 ((rd_T34 y677 x5_1).f0)) := hcc8 0 _ rfl; have hx8_1 : w16.cell? ⟨go5, (x5_1 : Int).toNat * 5 + 1, none⟩ = some (.int .i64 ((rd_T34 y677 x5_1).f1)) := hcc8 1 _ rfl; have hx8_2 : w16.cell? ⟨go5, (x5_1 : Int).toNat * 5 + 2, none⟩ = some (.int .i64 ((rd_T34 y677 x5_1).f2)) := hcc8 2 _ rfl; have hx8_3 : w16.cell? ⟨go5, (x5_1 : Int).toNat * 5 + 3, none⟩ = some (.int .i64 ((rd_T34 y677 x5_1).f3)) := hcc8 3 _ rfl; have hx8_4 : w16.cell? ⟨go5, (x5_1 : Int).toNat * 5 + 4, none⟩ = some (.int .i64 ((rd_T34 y677 x5_1).f4)) := hcc8 4 _ rfl; have hf8_0 : w16.frozen? ⟨go5, (x5_1 : Int).toNat * 5, none⟩ = false := hfr8 0; have hf8_1 : w16.frozen? ⟨go5, (x5_1 : Int).toNat * 5 + 1, none⟩ = false := hfr8 1; have hf8_2 : w16.frozen? ⟨go5, (x5_1 : Int).toNat * 5 + 2, none⟩ = false := hfr8 2; have hf8_3 : w16.frozen? ⟨go5, (x5_1 : Int).toNat * 5 + 3, none⟩ = false := hfr8 3; have hf8_4 : w16.frozen? ⟨go5, (x5_1 : Int).toNat * 5 + 4, none⟩ = false := hfr8 4; clear hcl8 hcc8 hfr8; (try clear hM8); replace p8 := eq_true p8; replace q8 := eq_true q8; have HX17 := Aside0.mk (show Kd.R k34 34 w16 w0.heap.size (fun k_ => (P0_ k_ ∨ w.heap.size ≤ k_)) (.slice (some ⟨go5, 0, none⟩) x0_1.length co10) y677 from HO_0.out); obtain ⟨ce17, hcl17, hM17, q0, hfr17⟩ := Kd.R_elem HX17.out z34 (x5_1 : Int) (of_decide_eq_true (by first | (with_reducible assumption) | assumption)) (by have h_ : (x5_1 : Int) < ((x0_1.length : Int) : Int) := of_decide_eq_true (by first | (with_reducible assumption) | assumption); first | exact h_ | (have e_ := (Kd.R_reads' HO_0.out).1; omega) | simpa using h_); obtain rfl := k34_openM hM17; have HP17 := Kd.R_seg HX17.out (x5_1 : Int) (of_decide_eq_true (by first | (with_reducible assumption) | assumption)) (by have h_ : (x5_1 : Int) < ((x0_1.length : Int) : Int) := of_decide_eq_true (by first | (with_reducible assumption) | assumption); first | exact h_ | (have e_ := (Kd.R_reads' HO_0.out).1; omega) | simpa using h_) (seg := [.int .i64 (wrap64 ((wrap64 ((wrap64 (x1_1 + 1)) + 1)) + 1))]) (j := 3) hcl17 q0 (show 4 ≤ 5 from by decide) (x' := (⟨(rd_T34 y677 x5_1).f0, (rd_T34 y677 x5_1).f1, (rd_T34 y677 x5_1).f2, wrap64 ((wrap64 ((wrap64 (x1_1 + 1)) + 1)) + 1), (rd_T34 y677 x5_1).f4⟩ : S34)) (k34_mkM _ _ _ (⟨(rd_T34 y677 x5_1).f0, (rd_T34 y677 x5_1).f1, (rd_T34 y677 x5_1).f2, wrap64 ((wrap64 ((wrap64 (x1_1 + 1)) + 1)) + 1), (rd_T34 y677 x5_1).f4⟩ : S34) ) (fun _ hk => hk); have hx17_3 := q0 3 _ rfl; (try simp only [show (k34).sz = 5 from rfl, Nat.mul_one, Nat.add_zero] at hx17_3); have hf17_3 := hfr17 3; (try simp only [show (k34).sz = 5 from rfl, Nat.mul_one, Nat.add_zero] at hf17_3); clear hcl17 q0 hfr17; (try clear hM17)) | ((with_reducible refine gate_store (t := 3) (p := 37) rfl ?_); refine store_event (t := 3) (p := 37) (v := ?vo_w18) (w1 := (w16.setCell ⟨go5, (x5_1 : Int).toNat * 5 + 3, none⟩ (.int .i64 (wrap64 ((wrap64 ((wrap64 (x1_1 + 1)) + 1)) + 1))))) ?hg ?ho ?hn ?hr ?_; (case ho => rfl); (case hg => rfl); (case hn => rfl); (case hr => first | (go_simp; done) | (go_simp; rfl)); intro w18 hw; have hg : w16.grownBy w18 (some go5) := (by rw [hw]; exact HP17.2); have hp_ : Kd.R k34 34 w18 w0.heap.size (fun k_ => (P0_ k_ ∨ w.heap.size ≤ k_)) (.slice (some ⟨go5, 0, none⟩) x0_1.length co10) y678 := (by rw [hw, Ny678.out]; exact HP17.1); clear HP17; have n0_ := Aside0.mk (hp_); have n1_ := Aside0.mk ((by rw [hw]; exact below_set (HB.out) GB5.out : Below w0.heap.size w0 w18)); have n2_ := Aside0.mk (Kept.of_grown (S := (fun k_ => P0_ k_)) hg HK.out (fun k_ e_ => (HO_0.out.1 k_ e_))); clear HO_0; clear HB; clear HK; have HO_0 := n0_; have HB := n1_; have HK := n2_; clear n0_ n1_ n2_; clear hg hw hp_; have p9 : 0 ≤ (x5_1 : Int) := of_decide_eq_true (by first | (with_reducible assumption) | assumption); have q9 : (x5_1 : Int) < ((x0_1.length : Int) : Int) := of_decide_eq_true (by first | (with_reducible assumption) | assumption); obtain ⟨ce9, hcl9, hM9, hcc9, hfr9⟩ := Kd.R_elem HO_0.out z34 (x5_1 : Int) p9 q9; obtain rfl := k34_openM hM9; have hx9_0 : w18.cell? ⟨go5, (x5_1 : Int).toNat * 5, none⟩ = some (.int .i64 ((rd_T34 y678 x5_1).f0)) := hcc9 0 _ rfl; have hx9_1 : w18.cell? ⟨go5, (x5_1 : Int).toNat * 5 + 1, none⟩ = some (.int .i64 ((rd_T34 y678 x5_1).f1)) := hcc9 1 _ rfl; have hx9_2 : w18.cell? ⟨go5, (x5_1 : Int).toNat * 5 + 2, none⟩ = some (.int .i64 ((rd_T34 y678 x5_1).f2)) := hcc9 2 _ rfl; have hx9_3 : w18.cell? ⟨go5, (x5_1 : Int).toNat * 5 + 3, none⟩ = some (.int .i64 ((rd_T34 y678 x5_1).f3)) := hcc9 3 _ rfl; have hx9_4 : w18.cell? ⟨go5, (x5_1 : Int).toNat * 5 + 4, none⟩ = some (.int .i64 ((rd_T34 y678 x5_1).f4)) := hcc9 4 _ rfl; have hf9_0 : w18.frozen? ⟨go5, (x5_1 : Int).toNat * 5, none⟩ = false := hfr9 0; have hf9_1 : w18.frozen? ⟨go5, (x5_1 : Int).toNat * 5 + 1, none⟩ = false := hfr9 1; have hf9_2 : w18.frozen? ⟨go5, (x5_1 : Int).toNat * 5 + 2, none⟩ = false := hfr9 2; have hf9_3 : w18.frozen? ⟨go5, (x5_1 : Int).toNat * 5 + 3, none⟩ = false := hfr9 3; have hf9_4 : w18.frozen? ⟨go5, (x5_1 : Int).toNat * 5 + 4, none⟩ = false := hfr9 4; clear hcl9 hcc9 hfr9; (try clear hM9); replace p9 := eq_true p9; replace q9 := eq_true q9; have HX19 := Aside0.mk (show Kd.R k34 34 w18 w0.heap.size (fun k_ => (P0_ k_ ∨ w.heap.size ≤ k_)) (.slice (some ⟨go5, 0, none⟩) x0_1.length co10) y678 from HO_0.out); obtain ⟨ce19, hcl19, hM19, q1, hfr19⟩ := Kd.R_elem HX19.out z34 (x5_1 : Int) (of_decide_eq_true (by first | (with_reducible assumption) | assumption)) (by have h_ : (x5_1 : Int) < ((x0_1.length : Int) : Int) := of_decide_eq_true (by first | (with_reducible assumption) | assumption); first | exact h_ | (have e_ := (Kd.R_reads' HO_0.out).1; omega) | simpa using h_); obtain rfl := k34_openM hM19; have HP19 := Kd.R_seg HX19.out (x5_1 : Int) (of_decide_eq_true (by first | (with_reducible assumption) | assumption)) (by have h_ : (x5_1 : Int) < ((x0_1.length : Int) : Int) := of_decide_eq_true (by first | (with_reducible assumption) | assumption); first | exact h_ | (have e_ := (Kd.R_reads' HO_0.out).1; omega) | simpa using h_) (seg := [.int .i64 (wrap64 ((wrap64 ((wrap64 ((wrap64 (x1_1 + 1)) + 1)) + 1)) + 1))]) (j := 4) hcl19 q1 (show 5 ≤ 5 from by decide) (x' := (⟨(rd_T34 y678 x5_1).f0, (rd_T34 y678 x5_1).f1, (rd_T34 y678 x5_1).f2, (rd_T34 y678 x5_1).f3, wrap64 ((wrap64 ((wrap64 ((wrap64 (x1_1 + 1)) + 1)) + 1)) + 1)⟩ : S34)) (k34_mkM _ _ _ (⟨(rd_T34 y678 x5_1).f0, (rd_T34 y678 x5_1).f1, (rd_T34 y678 x5_1).f2, (rd_T34 y678 x5_1).f3, wrap64 ((wrap64 ((wrap64 ((wrap64 (x1_1 + 1)) + 1)) + 1)) + 1)⟩ : S34) ) (fun _ hk => hk); have hx19_4 := q1 4 _ rfl; (try simp only [show (k34).sz = 5 from rfl, Nat.mul_one, Nat.add_zero] at hx19_4); have hf19_4 := hfr19 4; (try simp only [show (k34).sz = 5 from rfl, Nat.mul_one, Nat.add_zero] at hf19_4); clear hcl19 q1 hfr19; (try clear hM19)) | ((with_reducible refine gate_store (t := 3) (p := 44) rfl ?_); refine store_event (t := 3) (p := 44) (v := ?vo_w20) (w1 := (w18.setCell ⟨go5, (x5_1 : Int).toNat * 5 + 4, none⟩ (.int .i64 (wrap64 ((wrap64 ((wrap64 ((wrap64 (x1_1 + 1)) + 1)) + 1)) + 1))))) ?hg ?ho ?hn ?hr ?_; (case ho => rfl); (case hg => rfl); (case hn => rfl); (case hr => first | (go_simp; done) | (go_simp; rfl)); intro w20 hw; have hg : w18.grownBy w20 (some go5) := (by rw [hw]; exact HP19.2); have hp_ : Kd.R k34 34 w20 w0.heap.size (fun k_ => (P0_ k_ ∨ w.heap.size ≤ k_)) (.slice (some ⟨go5, 0, none⟩) x0_1.length co10) y679 := (by rw [hw, Ny679.out]; exact HP19.1); clear HP19; have n0_ := Aside0.mk (hp_); have n1_ := Aside0.mk ((by rw [hw]; exact below_set (HB.out) GB5.out : Below w0.heap.size w0 w20)); have n2_ := Aside0.mk (Kept.of_grown (S := (fun k_ => P0_ k_)) hg HK.out (fun k_ e_ => (HO_0.out.1 k_ e_))); clear HO_0; clear HB; clear HK; have HO_0 := n0_; have HB := n1_; have HK := n2_; clear n0_ n1_ n2_; clear hg hw hp_))
   go_roundg k1
   case measure => have := HK1.out; omega
   case rel => exact ⟨(y679), (wrap64 ((wrap64 ((wrap64 ((wrap64 ((wrap64 (x1_1 + 1)) + 1)) + 1)) + 1)) + 1)), (wrap64 (x5_1 + 1)), (by first | rfl | (simp; done) | (simp [*]; done)), (by first | rfl | (simp; done) | (simp [*]; done)), H', ⟨by have := HK1.out; omega⟩, ⟨by (with_reducible repeat (first | apply Kd.R_alloc | apply Kd.R_drewN | apply Kd.R_drew)); exact HO_0.out⟩, ⟨by repeat (first | (with_reducible first | exact HK.out | apply Kept.alloc | apply Kept.drewN | apply Kept.drew) | exact HK.out)⟩, ⟨by repeat (first | (with_reducible first | exact HB.out | apply below_alloc | apply pw_below_drewN | apply below_drew1) | exact HB.out)⟩⟩
end Go.Proofs.Ytljdcinpjnijcaa.Pr
end
section
namespace Go.Proofs.Ytljdcinpjnijcaa.Pr
open Go.RowKit Go.Proofs.YtljdcinpjnijcaaW.PrintWords Go.Proofs.YtljdcinpjnijcaaW.PrintLast Go.Proofs.YtljdcinpjnijcaaW.PrintMore
attribute [local go_sem] max2_int min2_int max_two min_two max_three min_three max_four min_four
set_option linter.unusedVariables false
set_option linter.unusedSimpArgs false
def laws_markNet.f (k : Nat) (a0_0 : Int) (l0_1 : List (S34)) (a1 : Int) : Option (Int × (List (S34))) := (laws_markArcS.f k l0_1 a1).bind fun bt681 => (some (bt681.1, bt681.2))
set_option maxHeartbeats 8000000 in
set_option maxRecDepth 100000 in
theorem laws_markNet.calls (k : Nat) (a0_0 : Int) (P0_1_ : Nat → Prop) (u9000_ : Value) (l0_1 : List (S34)) (a1 : Int) (r1 : Int) (r2 : List (S34)) (w0 w : World) (hB : Below w0.heap.size w0 w) (ho0_1 : Kd.R k34 34 w w0.heap.size P0_1_ u9000_ l0_1) (h : laws_markNet.f k a0_0 l0_1 a1 = some (r1, r2)) :
  Calls Try.prog 33 #[.agg #[.int .i64 a0_0, u9000_], .int .i64 a1] w fun e w' => e = .returned (.int .i64 r1) ∧ Kd.R k34 34 w' w0.heap.size (fun k_ => (P0_1_ k_ ∨ w.heap.size ≤ k_)) u9000_ r2 ∧ Below w0.heap.size w0 w' ∧ Kept w w' (fun k_ => P0_1_ k_) := by
 have hu25 := Try.underlying25
 have HO0_1 := Aside0.mk (show Kd.R k34 34 w w0.heap.size (fun k_ => (P0_1_ k_ ∨ w.heap.size ≤ k_)) u9000_ l0_1 from Kd.R_mono ho0_1 (fun k_ hk => (.inl hk)))
 have HK := Aside0.mk (Kept.refl w (fun k_ => P0_1_ k_))
 have HW0 := Aside0.mk hB.size
 have HB := Aside0.mk hB
 clear hB
 have H : ((laws_markArcS.f k l0_1 a1).bind fun bt681 => (some (bt681.1, bt681.2))) = some (r1, r2) := h
 clear h
 replace H := Option.bind_eq_some_iff.mp H
 obtain ⟨⟨t681, t682⟩, A30, H⟩ := H
 replace H : (some (t681, t682)) = some (r1, r2) := H
 have A3 := Aside0.mk A30
 clear A30
 simp only [Option.some.injEq, Prod.mk.injEq] at H
 obtain ⟨rfl, rfl⟩ := H
 obtain ⟨Ao4, co4, eo4⟩ := Kd.R_slice HO0_1.out
 subst eo4
 go_enter Try.func33, Try.ntmps33
 go_wp2_with (first | ((with_reducible refine gate_dst (N := 2) rfl ?_); refine box_event ?hg (N := 2) ?hd (cs := #[.int .i64 a0_0, .slice Ao4 l0_1.length co4]) (t := 25) ?hr ?_; (case hd => rfl); (case hg => rfl); (case hr => first | (go_simp; done) | (go_simp; rfl)); intro gb680 hg w5 hbox hb; have n0_ := Aside0.mk (Kd.R_below (by (with_reducible repeat (first | apply Kd.R_alloc | apply Kd.R_drewN | apply Kd.R_drew)); exact HO0_1.out) hb); have n1_ := Aside0.mk (Kept.below (S := (fun k_ => P0_1_ k_)) (by repeat (first | (with_reducible first | exact HK.out | apply Kept.alloc | apply Kept.drewN | apply Kept.drew) | exact HK.out)) hb); have n2_ := Aside0.mk (below_step (by repeat (first | (with_reducible first | exact HB.out | apply below_alloc | apply pw_below_drewN | apply below_drew1) | exact HB.out)) hb); have n3_ := Aside0.mk (hbox); have n4_ := Aside0.mk ((by rw [hg]; exact (by first | exact HK.out.1 | exact (show Kept w _ (fun k_ => P0_1_ k_) from by repeat (first | (with_reducible first | exact HK.out | apply Kept.alloc | apply Kept.drewN | apply Kept.drew) | exact HK.out)).1) : w.heap.size ≤ gb680)); have n5_ := Aside0.mk ((by rw [hg]; exact (below_size (by repeat (first | (with_reducible first | exact HB.out | apply below_alloc | apply pw_below_drewN | apply below_drew1) | exact HB.out))) : w0.heap.size ≤ gb680)); clear HO0_1; clear HK; clear HB; have HO0_1 := n0_; have HK := n1_; have HB := n2_; have BK680 := n3_; have GW680 := n4_; have GE680 := n5_; clear n0_ n1_ n2_ n3_ n4_ n5_; clear hb hbox hg; have hcz6_0 : w5.cell? ⟨gb680, 0, none⟩ = some (.int .i64 a0_0) := (blk_cell BK680.out 0).trans rfl; have hcz6_1 : w5.cell? ⟨gb680, 1, none⟩ = some (.slice Ao4 l0_1.length co4) := (blk_cell BK680.out 1).trans rfl; have hfz6_0 := blk_frozen BK680.out 0; have hfz6_1 := blk_frozen BK680.out 1) | ((with_reducible refine gate_callee (f := 68) rfl ?_); refine goesL_ (some 8) rfl rfl Try.func68 (by kernel_rfl) rfl #[.slice Ao4 l0_1.length co4, .int .i64 a1] rfl (by (try simp only [List.map_toArray, List.map_cons, List.map_nil]); first | done | rfl | (simp only [List.length_drop, List.length_take]; rfl)) ?_; (with_reducible refine (laws_markArcS.calls k (fun k_ => some k_ = (.slice Ao4 l0_1.length co4 : Value).ownBlock) (.slice Ao4 l0_1.length co4) l0_1 a1 t681 t682 w0 _ ?side1 ?side2 A3.out).mono ?_); (case side1 => repeat (first | (with_reducible first | exact HB.out | apply below_alloc | apply pw_below_drewN | apply below_drew1 | refine below_set ?_ GE680.out) | exact HB.out)); (case side2 => exact Kd.R_tight rfl HO0_1.out); rintro e w7 ⟨rfl, hy0, hb, hkp⟩; refine ⟨_, rfl, ?_⟩; have n0_ := Aside0.mk (Kd.R_reok rfl hy0 (fun k_ e_ => HO0_1.out.1 k_ e_)); have n1_ := Aside0.mk (blk_kept (by (with_reducible repeat (first | refine blk_drewN ?_ _ | refine blk_drew ?_ | refine blk_alloc ?_ _)); exact BK680.out) hkp (fun hs_ => (fun e_ => (Kd.R_ne HO0_1.out BK680.out (by decide)) e_) hs_)); have n2_ := Aside0.mk (Kept.then_ (S := (fun k_ => P0_1_ k_)) (by repeat (first | (with_reducible first | exact HK.out | apply Kept.alloc | apply Kept.drewN | apply Kept.drew | refine Kept.setCell ?_ (.inr GW680.out) _) | exact HK.out)) hkp (fun k_ hs_ => (fun e_ => (HO0_1.out.1 k_ e_.symm)) hs_)); have n3_ := Aside0.mk (hb); clear HO0_1; clear BK680; clear HK; clear HB; have HO0_1 := n0_; have BK680 := n1_; have HK := n2_; have HB := n3_; clear n0_ n1_ n2_ n3_; (try clear hb); (try clear hkp); (try clear hy0)))
 go_ret
 exact ⟨by first | rfl | (simp [errW_none, errW_some] <;> rfl) | (simp [*, errW_none, errW_some] <;> rfl), by (with_reducible repeat (first | apply Kd.R_alloc | apply Kd.R_drewN | apply Kd.R_drew)); exact HO0_1.out, by repeat (first | (with_reducible first | exact HB.out | apply below_alloc | apply pw_below_drewN | apply below_drew1 | refine below_set ?_ GE680.out) | exact HB.out), by repeat (first | (with_reducible first | exact HK.out | apply Kept.alloc | apply Kept.drewN | apply Kept.drew | refine Kept.setCell ?_ (.inr GW680.out) _) | exact HK.out)⟩
end Go.Proofs.Ytljdcinpjnijcaa.Pr
end
section
namespace Go.Proofs.Ytljdcinpjnijcaa.Pr
open Go.RowKit Go.Proofs.YtljdcinpjnijcaaW.PrintWords Go.Proofs.YtljdcinpjnijcaaW.PrintLast Go.Proofs.YtljdcinpjnijcaaW.PrintMore
attribute [local go_sem] max2_int min2_int max_two min_two max_three min_three max_four min_four
set_option linter.unusedVariables false
set_option linter.unusedSimpArgs false
def laws_markIntS.l0 : Nat → List Int → Int → Int → Option (Int × List Int)
 | 0, _, _, _ => none
 | k + 1, x0, x1, x5 => if x5 < (x0.length : Int) then (if 0 ≤ x5 then (laws_markIntS.l0 k (x0.set (x5 : Int).toNat x1) (wrap64 (x1 + 1)) (wrap64 (x5 + 1))) else (none)) else (some (x1, x0))
def laws_markIntS.f (k : Nat) (l0 : List Int) (a1 : Int) : Option (Int × List Int) := laws_markIntS.l0 k l0 a1 0
set_option maxHeartbeats 8000000 in
set_option maxRecDepth 100000 in
theorem laws_markIntS.calls (k : Nat) (P0_ : Nat → Prop) (p0 : Value) (l0 : List Int) (a1 : Int) (r1 : Int) (r2 : List Int) (w0 w : World) (hB : Below w0.heap.size w0 w) (ho0 : Kd.R (Kd.int .i64) 3 w w0.heap.size P0_ p0 l0) (h : laws_markIntS.f k l0 a1 = some (r1, r2)) :
  Calls Try.prog 34 #[p0, .int .i64 a1] w fun e w' => e = .returned (.int .i64 r1) ∧ Kd.R (Kd.int .i64) 3 w' w0.heap.size (fun k_ => (P0_ k_ ∨ w.heap.size ≤ k_)) p0 r2 ∧ Below w0.heap.size w0 w' ∧ Kept w w' (fun k_ => P0_ k_) := by
 have HO0 := Aside0.mk (show Kd.R (Kd.int .i64) 3 w w0.heap.size (fun k_ => (P0_ k_ ∨ w.heap.size ≤ k_)) p0 l0 from Kd.R_mono ho0 (fun k_ hk => (.inl hk)))
 have HK := Aside0.mk (Kept.refl w (fun k_ => P0_ k_))
 have HW0 := Aside0.mk hB.size
 have HB := Aside0.mk hB
 clear hB
 have H : (laws_markIntS.l0 k l0 a1 0) = some (r1, r2) := h
 clear h
 have H' := Aside0.mk H
 clear H
 go_enter Try.func34, Try.ntmps34
 go_wp2
 go_loopg [1, 5] k (fun kq v1 v5 w' => ∃ (x0_1 : List Int) (x1_1 : Int) (x5_1 : Int), v1 = .int .i64 x1_1 ∧ v5 = .int .i64 x5_1 ∧ Aside0 (laws_markIntS.l0 kq x0_1 x1_1 x5_1 = some (r1, r2)) ∧ Aside0 (kq ≤ k) ∧ Aside0 (Kd.R (Kd.int .i64) 3 w' w0.heap.size (fun k_ => (P0_ k_ ∨ w.heap.size ≤ k_)) p0 x0_1) ∧ Aside0 (Kept w w' (fun k_ => P0_ k_)) ∧ Aside0 (Below w0.heap.size w0 w'))
 case atStart => exact ⟨(l0), (a1), (0), (by first | rfl | (simp; done) | (simp [*]; done)), (by first | rfl | (simp; done) | (simp [*]; done)), H', ⟨Nat.le_refl _⟩, ⟨by (with_reducible repeat (first | apply Kd.R_alloc | apply Kd.R_drewN | apply Kd.R_drew)); exact HO0.out⟩, ⟨by repeat (first | (with_reducible first | exact HK.out | apply Kept.alloc | apply Kept.drewN | apply Kept.drew) | exact HK.out)⟩, ⟨by repeat (first | (with_reducible first | exact HB.out | apply below_alloc | apply pw_below_drewN | apply below_drew1) | exact HB.out)⟩⟩
 case round =>
  clear H'
  try clear p2
  obtain ⟨x0_1, x1_1, x5_1, rfl, rfl, HA, HK1, HO_0, HK, HB⟩ := hrel
  cases gk with
  | zero => exact absurd HA.out (by simp [laws_markIntS.l0])
  | succ k1 =>
   have H := HA.out
   clear HA
   simp only [laws_markIntS.l0] at H
   by_cases c3 : x5_1 < (x0_1.length : Int)
   case neg =>
    rw [if_neg c3] at H
    have c3b0 : decide (x5_1 < (x0_1.length : Int)) = false := decide_eq_false c3
    clear c3
    simp only [Option.some.injEq, Prod.mk.injEq] at H
    obtain ⟨rfl, rfl⟩ := H
    obtain ⟨Ao9, co9, eo9⟩ := Kd.R_slice HO_0.out
    subst eo9
    go_wp2
    go_ret
    exact ⟨by first | rfl | (simp [errW_none, errW_some] <;> rfl) | (simp [*, errW_none, errW_some] <;> rfl), by (with_reducible repeat (first | apply Kd.R_alloc | apply Kd.R_drewN | apply Kd.R_drew)); exact HO_0.out, by repeat (first | (with_reducible first | exact HB.out | apply below_alloc | apply pw_below_drewN | apply below_drew1) | exact HB.out), by repeat (first | (with_reducible first | exact HK.out | apply Kept.alloc | apply Kept.drewN | apply Kept.drew) | exact HK.out)⟩
   rw [if_pos c3] at H
   have c3b0 : decide (x5_1 < (x0_1.length : Int)) = true := decide_eq_true c3
   clear c3
   by_cases c4 : 0 ≤ x5_1
   case neg =>
    rw [if_neg c4] at H
    exact absurd H (by simp)
   rw [if_pos c4] at H
   have c4b0 : decide (0 ≤ x5_1) = true := decide_eq_true c4
   clear c4
   obtain ⟨y683, hy683⟩ : ∃ y_ : List Int, y_ = (x0_1.set (x5_1 : Int).toNat x1_1) := ⟨_, rfl⟩
   replace H : (laws_markIntS.l0 k1 y683 (wrap64 (x1_1 + 1)) (wrap64 (x5_1 + 1))) = some (r1, r2) := by first | (rw [hy683]; with_reducible exact H) | (have H2_ := (Option.bind_some _ _).symm.trans H; rw [hy683]; with_reducible exact H2_) | (have H2_ := (Option.bind_some _ _).symm.trans H; with_reducible exact H2_) | with_reducible exact H | (rw [hy683]; exact H) | exact H
   have Ny683 := Aside0.mk hy683
   clear hy683
   have H' := Aside0.mk H
   clear H
   obtain ⟨Ao6, co6, eo6⟩ := Kd.R_slice HO_0.out
   subst eo6
   have p5 : 0 ≤ (x5_1 : Int) := of_decide_eq_true (by first | (with_reducible assumption) | assumption)
   have q5 : (x5_1 : Int) < ((x0_1.length : Int) : Int) := of_decide_eq_true (by first | (with_reducible assumption) | assumption)
   obtain ⟨go5, co5, eo5, gb5, gl5, cl5, HG5⟩ := Kd.R_form HO_0.out (by omega)
   (first | cases eo5 | (injection eo5 with ea_ en_ ec_; (first | subst ea_ | (injection ea_ with ea_; subst ea_)); subst ec_; clear en_))
   have GB5 := Aside0.mk gb5
   have GG5 := Aside0.mk HG5
   clear gb5 gl5 HG5
   have HMgo5 := Aside0.mk (show (P0_ go5 ∨ w.heap.size ≤ go5) from (HO_0.out.1 _ rfl))
   obtain ⟨hx5_0, hf5_0⟩ := Kd.R_celln 0 HO_0.out (x5_1 : Int) p5 q5
   replace p5 := eq_true p5
   replace q5 := eq_true q5
   have HP7 := Kd.R_putg HO_0.out (x5_1 : Int) x1_1
   go_wp2_with (first | ((with_reducible refine gate_store (t := 3) (p := 15) rfl ?_); refine store_event (t := 3) (p := 15) (v := ?vo_w8) (w1 := (wr.setCell ⟨go5, (x5_1 : Int).toNat, none⟩ (.int .i64 x1_1))) ?hg ?ho ?hn ?hr ?_; (case ho => rfl); (case hg => rfl); (case hn => rfl); (case hr => first | (go_simp; done) | (go_simp; rfl)); intro w8 hw; have hg : wr.grownBy w8 (some go5) := (by rw [hw]; exact HP7.2); have hp_ : Kd.R (Kd.int .i64) 3 w8 w0.heap.size (fun k_ => (P0_ k_ ∨ w.heap.size ≤ k_)) (.slice (some ⟨go5, 0, none⟩) x0_1.length co6) y683 := (by rw [hw, Ny683.out]; exact HP7.1); clear HP7; have n0_ := Aside0.mk (hp_); have n1_ := Aside0.mk ((by rw [hw]; exact below_set (HB.out) GB5.out : Below w0.heap.size w0 w8)); have n2_ := Aside0.mk (Kept.of_grown (S := (fun k_ => P0_ k_)) hg HK.out (fun k_ e_ => (HO_0.out.1 k_ e_))); clear HO_0; clear HB; clear HK; have HO_0 := n0_; have HB := n1_; have HK := n2_; clear n0_ n1_ n2_; clear hg hw hp_))
   go_roundg k1
   case measure => have := HK1.out; omega
   case rel => exact ⟨(y683), (wrap64 (x1_1 + 1)), (wrap64 (x5_1 + 1)), (by first | rfl | (simp; done) | (simp [*]; done)), (by first | rfl | (simp; done) | (simp [*]; done)), H', ⟨by have := HK1.out; omega⟩, ⟨by (with_reducible repeat (first | apply Kd.R_alloc | apply Kd.R_drewN | apply Kd.R_drew)); exact HO_0.out⟩, ⟨by repeat (first | (with_reducible first | exact HK.out | apply Kept.alloc | apply Kept.drewN | apply Kept.drew) | exact HK.out)⟩, ⟨by repeat (first | (with_reducible first | exact HB.out | apply below_alloc | apply pw_below_drewN | apply below_drew1) | exact HB.out)⟩⟩
end Go.Proofs.Ytljdcinpjnijcaa.Pr
end
section
namespace Go.Proofs.Ytljdcinpjnijcaa.Pr
open Go.RowKit Go.Proofs.YtljdcinpjnijcaaW.PrintWords Go.Proofs.YtljdcinpjnijcaaW.PrintLast Go.Proofs.YtljdcinpjnijcaaW.PrintMore
attribute [local go_sem] max2_int min2_int max_two min_two max_three min_three max_four min_four
set_option linter.unusedVariables false
set_option linter.unusedSimpArgs false
def laws_heldIntS.l0 : Nat → List Int → Int → Int → Option (Int)
 | 0, _, _, _ => none
 | k + 1, x0, x1, x5 => if x5 < (x0.length : Int) then (if 0 ≤ x5 then (if (rd x0 x5) = x1 then (laws_heldIntS.l0 k x0 (wrap64 (x1 + 1)) (wrap64 (x5 + 1))) else (some (-1))) else (none)) else (some x1)
def laws_heldIntS.f (k : Nat) (l0 : List Int) (a1 : Int) : Option (Int) := laws_heldIntS.l0 k l0 a1 0
set_option maxHeartbeats 8000000 in
set_option maxRecDepth 100000 in
theorem laws_heldIntS.calls (k : Nat) (A0 : Option Addr) (c0 : Nat) (l0 : List Int) (a1 : Int) (r : Int) (w : World) (hr0 : Kd.C (Kd.int .i64) w A0 l0.length l0) (hc0 : l0.length ≤ c0) (h : laws_heldIntS.f k l0 a1 = some r) :
  Calls Try.prog 35 #[.slice A0 l0.length c0, .int .i64 a1] w fun e w' => e = .returned (.int .i64 r) ∧ Drawn0 w w' := by
 have HR0 := Aside0.mk hr0
 have HC0 := Aside0.mk hc0
 clear hr0 hc0
 have H : (laws_heldIntS.l0 k l0 a1 0) = some r := h
 clear h
 have H' := Aside0.mk H
 clear H
 go_enter Try.func35, Try.ntmps35
 go_wp2
 go_loopg [1, 5] k (fun kq v1 v5 w' => ∃ (x1_1 : Int) (x5_1 : Int), v1 = .int .i64 x1_1 ∧ v5 = .int .i64 x5_1 ∧ Aside0 (laws_heldIntS.l0 kq l0 x1_1 x5_1 = some r) ∧ Aside0 (kq ≤ k) ∧ Drawn0 w w')
 case atStart => exact ⟨(a1), (0), (by first | rfl | (simp; done) | (simp [*]; done)), (by first | rfl | (simp; done) | (simp [*]; done)), H', ⟨Nat.le_refl _⟩, by repeat (first | exact Drawn0.refl _ | apply Drawn0.step)⟩
 case round =>
  clear H'
  try clear p2
  obtain ⟨x1_1, x5_1, rfl, rfl, HA, HK1, ⟨m1, rfl⟩⟩ := hrel
  cases gk with
  | zero => exact absurd HA.out (by simp [laws_heldIntS.l0])
  | succ k1 =>
   have H := HA.out
   clear HA
   simp only [laws_heldIntS.l0] at H
   by_cases c3 : x5_1 < (l0.length : Int)
   case neg =>
    rw [if_neg c3] at H
    have c3b0 : decide (x5_1 < (l0.length : Int)) = false := decide_eq_false c3
    clear c3
    obtain rfl := Option.some.inj H
    go_wp2
    go_ret
    exact ⟨by first | rfl | (simp; done) | (simp [*]; done), by repeat (first | exact Drawn0.refl _ | apply Drawn0.step)⟩
   rw [if_pos c3] at H
   have c3b0 : decide (x5_1 < (l0.length : Int)) = true := decide_eq_true c3
   clear c3
   by_cases c4 : 0 ≤ x5_1
   case neg =>
    rw [if_neg c4] at H
    exact absurd H (by simp)
   rw [if_pos c4] at H
   have c4b0 : decide (0 ≤ x5_1) = true := decide_eq_true c4
   clear c4
   by_cases c5 : (rd l0 x5_1) = x1_1
   case neg =>
    rw [if_neg c5] at H
    have c5b0 : ((rd l0 x5_1) == x1_1) = false := beq_eq_false_iff_ne.mpr c5
    have c5b1 : ((rd l0 x5_1) != x1_1) = true := bne_iff_ne.mpr c5
    obtain rfl := Option.some.inj H
    have p684 : 0 ≤ (x5_1 : Int) := of_decide_eq_true (by first | (with_reducible assumption) | assumption)
    have q684 : x5_1 < (l0.length : Int) := of_decide_eq_true (by first | (with_reducible assumption) | assumption)
    obtain ⟨ad684, e684, hx684_0⟩ := Kd.at_int HR0.out x5_1 p684 q684
    cases e684
    replace p684 := eq_true p684
    replace q684 := eq_true q684
    go_wp2
    go_ret
    exact ⟨by first | rfl | (simp; done) | (simp [*]; done), by repeat (first | exact Drawn0.refl _ | apply Drawn0.step)⟩
   rw [if_pos c5] at H
   have c5b0 : ((rd l0 x5_1) == x1_1) = true := beq_iff_eq.mpr c5
   have c5b1 : ((rd l0 x5_1) != x1_1) = false := bne_eq_false_iff_eq.mpr c5
   clear c5
   have H' := Aside0.mk H
   clear H
   have p684 : 0 ≤ (x5_1 : Int) := of_decide_eq_true (by first | (with_reducible assumption) | assumption)
   have q684 : x5_1 < (l0.length : Int) := of_decide_eq_true (by first | (with_reducible assumption) | assumption)
   obtain ⟨ad684, e684, hx684_0⟩ := Kd.at_int HR0.out x5_1 p684 q684
   cases e684
   replace p684 := eq_true p684
   replace q684 := eq_true q684
   go_wp2
   go_roundg k1
   case measure => have := HK1.out; omega
   case rel => exact ⟨(wrap64 (x1_1 + 1)), (wrap64 (x5_1 + 1)), (by first | rfl | (simp; done) | (simp [*]; done)), (by first | rfl | (simp; done) | (simp [*]; done)), H', ⟨by have := HK1.out; omega⟩, by repeat (first | exact Drawn0.refl _ | apply Drawn0.step)⟩
end Go.Proofs.Ytljdcinpjnijcaa.Pr
end
section
namespace Go.Proofs.Ytljdcinpjnijcaa.Pr
open Go.RowKit Go.Proofs.YtljdcinpjnijcaaW.PrintWords Go.Proofs.YtljdcinpjnijcaaW.PrintLast Go.Proofs.YtljdcinpjnijcaaW.PrintMore
attribute [local go_sem] max2_int min2_int max_two min_two max_three min_three max_four min_four
set_option linter.unusedVariables false
set_option linter.unusedSimpArgs false
def laws_FnExactHubCount.j0 : Nat → List Int → List Int → Bool → Int → List (S112) → Option (Bool)
 | 0, _, _, _, _, _ => none
 | k + 1, x4, x6, x42, q4, q5 => if x42 = true then (some false) else ((laws_markIntS.f k x6 1).bind fun bt749 => ((laws_heldIntS.f k bt749.2 1).bind fun t751 => (if t751 < 0 then (some false) else (if t751 = bt749.1 then ((laws_toNet.f k q4 q5).bind fun bt752 => ((impl_HubCount.f k bt752.1 bt752.2).bind fun t756 => ((laws_eqIntS.f k t756 x4).bind fun t759 => (if t759 = true then ((laws_heldIntS.f k bt749.2 1).bind fun t760 => (if t760 < 0 then (some false) else (if t760 = bt749.1 then (some true) else (some false)))) else (some false))))) else (some false)))))
def laws_FnExactHubCount.f (k : Nat) (a0_0 : Int) (l0_1 : List (S112)) : Option (Bool) := (laws_szNet.f a0_0 l0_1 1048576).bind fun t724 => (if t724 < 0 then (some true) else ((laws_toNet.f k a0_0 l0_1).bind fun bt725 => ((spec_HubCount.f k bt725.1 bt725.2).bind fun t729 => ((laws_toNet.f k a0_0 l0_1).bind fun bt732 => ((impl_HubCount.f k bt732.1 bt732.2).bind fun t737 => ((laws_eqIntS.f k t737 t729).bind fun t740 => (if t740 = true then ((laws_toNet.f k a0_0 l0_1).bind fun bt741 => ((laws_eqNet.f k bt732.1 bt732.2 bt741.1 bt741.2).bind fun t745 => (if t745 = true then ((laws_markNet.f k bt732.1 bt732.2 1).bind fun bt746 => (if bt746.1 < 0 then (laws_FnExactHubCount.j0 k t729 t737 true a0_0 l0_1) else ((laws_eqIntS.f k t737 t729).bind fun t748 => (laws_FnExactHubCount.j0 k t729 t737 (!t748) a0_0 l0_1)))) else (some false)))) else (some false))))))))
set_option maxHeartbeats 8000000 in
set_option maxRecDepth 100000 in
theorem laws_FnExactHubCount.calls (k : Nat) (a0_0 : Int) (A0_1 : Option Addr) (c0_1 : Nat) (l0_1 : List (S112)) (r : Bool) (w : World) (hr0_1 : Kd.C k112 w A0_1 l0_1.length l0_1) (hc0_1 : l0_1.length ≤ c0_1) (h : laws_FnExactHubCount.f k a0_0 l0_1 = some r) :
  Calls Try.prog 9 #[.agg #[.int .i64 a0_0, .slice A0_1 l0_1.length c0_1]] w fun e w' => e = .returned (.bool r) ∧ Below w.heap.size w w' := by
 have hu38 := Try.underlying38
 have hu25 := Try.underlying25
 have q0 := Aside0.mk hr0_1
 have q1 := Aside0.mk hc0_1
 clear hr0_1 hc0_1
 have HB := Aside0.mk (Below.refl w.heap.size w)
 have H : ((laws_szNet.f a0_0 l0_1 1048576).bind fun t724 => (if t724 < 0 then (some true) else ((laws_toNet.f k a0_0 l0_1).bind fun bt725 => ((spec_HubCount.f k bt725.1 bt725.2).bind fun t729 => ((laws_toNet.f k a0_0 l0_1).bind fun bt732 => ((impl_HubCount.f k bt732.1 bt732.2).bind fun t737 => ((laws_eqIntS.f k t737 t729).bind fun t740 => (if t740 = true then ((laws_toNet.f k a0_0 l0_1).bind fun bt741 => ((laws_eqNet.f k bt732.1 bt732.2 bt741.1 bt741.2).bind fun t745 => (if t745 = true then ((laws_markNet.f k bt732.1 bt732.2 1).bind fun bt746 => (if bt746.1 < 0 then (laws_FnExactHubCount.j0 k t729 t737 true a0_0 l0_1) else ((laws_eqIntS.f k t737 t729).bind fun t748 => (laws_FnExactHubCount.j0 k t729 t737 (!t748) a0_0 l0_1)))) else (some false)))) else (some false))))))))) = some r := h
 clear h
 replace H := Option.bind_eq_some_iff.mp H
 obtain ⟨t724, A20, H⟩ := H
 replace H : (if t724 < 0 then (some true) else ((laws_toNet.f k a0_0 l0_1).bind fun bt725 => ((spec_HubCount.f k bt725.1 bt725.2).bind fun t729 => ((laws_toNet.f k a0_0 l0_1).bind fun bt732 => ((impl_HubCount.f k bt732.1 bt732.2).bind fun t737 => ((laws_eqIntS.f k t737 t729).bind fun t740 => (if t740 = true then ((laws_toNet.f k a0_0 l0_1).bind fun bt741 => ((laws_eqNet.f k bt732.1 bt732.2 bt741.1 bt741.2).bind fun t745 => (if t745 = true then ((laws_markNet.f k bt732.1 bt732.2 1).bind fun bt746 => (if bt746.1 < 0 then (laws_FnExactHubCount.j0 k t729 t737 true a0_0 l0_1) else ((laws_eqIntS.f k t737 t729).bind fun t748 => (laws_FnExactHubCount.j0 k t729 t737 (!t748) a0_0 l0_1)))) else (some false)))) else (some false)))))))) = some r := H
 have A2 := Aside0.mk A20
 clear A20
 by_cases c3 : t724 < 0
 case pos =>
  rw [if_pos c3] at H
  have c3b0 : decide (t724 < 0) = true := decide_eq_true c3
  clear c3
  obtain rfl := Option.some.inj H
  go_enter Try.func9, Try.ntmps9
  go_wp2_with (first | ((with_reducible refine gate_dst (N := 1) rfl ?_); refine box_event ?hg (N := 1) ?hd (cs := #[.int .i64 a0_0, .slice A0_1 l0_1.length c0_1]) (t := 38) ?hr ?_; (case hd => rfl); (case hg => rfl); (case hr => first | (go_simp; done) | (go_simp; rfl)); intro p4 hg w4 hbox hb; have n0_ := Aside0.mk (below_step HB.out hb); have n1_ := Aside0.mk (hbox); have n2_ := Aside0.mk ((by rw [hg]; exact (below_size HB.out) : w.heap.size ≤ p4)); have n3_ := Aside0.mk ((by rw [hg]; exact (below_size HB.out) : w.heap.size ≤ p4)); clear HB; have HB := n0_; have p0 := n1_; have q3 := n2_; have p7 := n3_; clear n0_ n1_ n2_ n3_; clear hb hbox hg; have hcz5_0 : w4.cell? ⟨p4, 0, none⟩ = some (.int .i64 a0_0) := (blk_cell p0.out 0).trans rfl; have hcz5_1 : w4.cell? ⟨p4, 1, none⟩ = some (.slice A0_1 l0_1.length c0_1) := (blk_cell p0.out 1).trans rfl; have hfz5_0 := blk_frozen p0.out 0; have hfz5_1 := blk_frozen p0.out 1) | ((with_reducible refine gate_callee (f := 19) rfl ?_); refine goesL_ (some 13) rfl rfl Try.func19 (by kernel_rfl) rfl #[.agg #[.int .i64 a0_0, .slice A0_1 l0_1.length c0_1], .int .i64 1048576] rfl (by (try simp only [List.map_toArray, List.map_cons, List.map_nil]); first | done | rfl | (simp only [List.length_drop, List.length_take]; rfl)) ?_; (with_reducible refine (laws_szNet.calls a0_0 _ _ l0_1 1048576 t724 _ ?side1 ?side2 A2.out).mono ?_); (case side1 => repeat (first | exact (Kd.C_below q0.out HB.out) | (with_reducible refine Kd.C_alloc ?_ _) | (with_reducible refine Kd.C_drewN ?_ _) | (with_reducible refine Kd.C_drew ?_))); (case side2 => exact q1.out); rintro e w6 ⟨rfl, hb⟩; refine ⟨_, rfl, ?_⟩; have n0_ := Aside0.mk (blk_below (g := p4) (o := .cells #[.int .i64 a0_0, .slice A0_1 l0_1.length c0_1] 38 (0, 0)) p0.out hb); have n1_ := Aside0.mk (below_step HB.out hb); clear p0; clear HB; have p0 := n0_; have HB := n1_; clear n0_ n1_; (try clear hb); (try clear hb2); (try clear hk); (try clear hi)))
  go_ret
  exact ⟨by first | rfl | (simp [errW_none, errW_some] <;> rfl) | (simp [*, errW_none, errW_some] <;> rfl), by repeat (first | (with_reducible first | exact HB.out | apply below_alloc | apply pw_below_drewN | apply below_drew1 | refine below_set ?_ p7.out) | exact HB.out)⟩
 rw [if_neg c3] at H
 have c3b0 : decide (t724 < 0) = false := decide_eq_false c3
 clear c3
 replace H := Option.bind_eq_some_iff.mp H
 obtain ⟨⟨t725, t726⟩, A70, H⟩ := H
 replace H : ((spec_HubCount.f k t725 t726).bind fun t729 => ((laws_toNet.f k a0_0 l0_1).bind fun bt732 => ((impl_HubCount.f k bt732.1 bt732.2).bind fun t737 => ((laws_eqIntS.f k t737 t729).bind fun t740 => (if t740 = true then ((laws_toNet.f k a0_0 l0_1).bind fun bt741 => ((laws_eqNet.f k bt732.1 bt732.2 bt741.1 bt741.2).bind fun t745 => (if t745 = true then ((laws_markNet.f k bt732.1 bt732.2 1).bind fun bt746 => (if bt746.1 < 0 then (laws_FnExactHubCount.j0 k t729 t737 true a0_0 l0_1) else ((laws_eqIntS.f k t737 t729).bind fun t748 => (laws_FnExactHubCount.j0 k t729 t737 (!t748) a0_0 l0_1)))) else (some false)))) else (some false)))))) = some r := H
 have A7 := Aside0.mk A70
 clear A70
 replace H := Option.bind_eq_some_iff.mp H
 obtain ⟨t729, A80, H⟩ := H
 replace H : ((laws_toNet.f k a0_0 l0_1).bind fun bt732 => ((impl_HubCount.f k bt732.1 bt732.2).bind fun t737 => ((laws_eqIntS.f k t737 t729).bind fun t740 => (if t740 = true then ((laws_toNet.f k a0_0 l0_1).bind fun bt741 => ((laws_eqNet.f k bt732.1 bt732.2 bt741.1 bt741.2).bind fun t745 => (if t745 = true then ((laws_markNet.f k bt732.1 bt732.2 1).bind fun bt746 => (if bt746.1 < 0 then (laws_FnExactHubCount.j0 k t729 t737 true a0_0 l0_1) else ((laws_eqIntS.f k t737 t729).bind fun t748 => (laws_FnExactHubCount.j0 k t729 t737 (!t748) a0_0 l0_1)))) else (some false)))) else (some false))))) = some r := H
 have A8 := Aside0.mk A80
 clear A80
 replace H := Option.bind_eq_some_iff.mp H
 obtain ⟨⟨t732, t733⟩, A90, H⟩ := H
 replace H : ((impl_HubCount.f k t732 t733).bind fun t737 => ((laws_eqIntS.f k t737 t729).bind fun t740 => (if t740 = true then ((laws_toNet.f k a0_0 l0_1).bind fun bt741 => ((laws_eqNet.f k t732 t733 bt741.1 bt741.2).bind fun t745 => (if t745 = true then ((laws_markNet.f k t732 t733 1).bind fun bt746 => (if bt746.1 < 0 then (laws_FnExactHubCount.j0 k t729 t737 true a0_0 l0_1) else ((laws_eqIntS.f k t737 t729).bind fun t748 => (laws_FnExactHubCount.j0 k t729 t737 (!t748) a0_0 l0_1)))) else (some false)))) else (some false)))) = some r := H
 have A9 := Aside0.mk A90
 clear A90
 replace H := Option.bind_eq_some_iff.mp H
 obtain ⟨t737, A100, H⟩ := H
 replace H : ((laws_eqIntS.f k t737 t729).bind fun t740 => (if t740 = true then ((laws_toNet.f k a0_0 l0_1).bind fun bt741 => ((laws_eqNet.f k t732 t733 bt741.1 bt741.2).bind fun t745 => (if t745 = true then ((laws_markNet.f k t732 t733 1).bind fun bt746 => (if bt746.1 < 0 then (laws_FnExactHubCount.j0 k t729 t737 true a0_0 l0_1) else ((laws_eqIntS.f k t737 t729).bind fun t748 => (laws_FnExactHubCount.j0 k t729 t737 (!t748) a0_0 l0_1)))) else (some false)))) else (some false))) = some r := H
 have A10 := Aside0.mk A100
 clear A100
 replace H := Option.bind_eq_some_iff.mp H
 obtain ⟨t740, A110, H⟩ := H
 replace H : (if t740 = true then ((laws_toNet.f k a0_0 l0_1).bind fun bt741 => ((laws_eqNet.f k t732 t733 bt741.1 bt741.2).bind fun t745 => (if t745 = true then ((laws_markNet.f k t732 t733 1).bind fun bt746 => (if bt746.1 < 0 then (laws_FnExactHubCount.j0 k t729 t737 true a0_0 l0_1) else ((laws_eqIntS.f k t737 t729).bind fun t748 => (laws_FnExactHubCount.j0 k t729 t737 (!t748) a0_0 l0_1)))) else (some false)))) else (some false)) = some r := H
 have A11 := Aside0.mk A110
 clear A110
 by_cases c12 : t740 = true
 case neg =>
  replace c12 := Bool.eq_false_iff.mpr c12
  subst c12
  have H1 : (some false) = some r := by rw [if_neg (show ¬ (false = true) by decide)] at H; exact H
  clear H
  have H := H1
  clear H1
  obtain rfl := Option.some.inj H
  go_enter Try.func9, Try.ntmps9
  go_wp2_with (first | ((with_reducible refine gate_dst (N := 1) rfl ?_); refine box_event ?hg (N := 1) ?hd (cs := #[.int .i64 a0_0, .slice A0_1 l0_1.length c0_1]) (t := 38) ?hr ?_; (case hd => rfl); (case hg => rfl); (case hr => first | (go_simp; done) | (go_simp; rfl)); intro p4 hg w104 hbox hb; have n0_ := Aside0.mk (below_step HB.out hb); have n1_ := Aside0.mk (hbox); have n2_ := Aside0.mk ((by rw [hg]; exact (below_size HB.out) : w.heap.size ≤ p4)); have n3_ := Aside0.mk ((by rw [hg]; exact (below_size HB.out) : w.heap.size ≤ p4)); clear HB; have HB := n0_; have p0 := n1_; have q3 := n2_; have p7 := n3_; clear n0_ n1_ n2_ n3_; clear hb hbox hg; have hcz105_0 : w104.cell? ⟨p4, 0, none⟩ = some (.int .i64 a0_0) := (blk_cell p0.out 0).trans rfl; have hcz105_1 : w104.cell? ⟨p4, 1, none⟩ = some (.slice A0_1 l0_1.length c0_1) := (blk_cell p0.out 1).trans rfl; have hfz105_0 := blk_frozen p0.out 0; have hfz105_1 := blk_frozen p0.out 1) | ((with_reducible refine gate_callee (f := 19) rfl ?_); refine goesL_ (some 13) rfl rfl Try.func19 (by kernel_rfl) rfl #[.agg #[.int .i64 a0_0, .slice A0_1 l0_1.length c0_1], .int .i64 1048576] rfl (by (try simp only [List.map_toArray, List.map_cons, List.map_nil]); first | done | rfl | (simp only [List.length_drop, List.length_take]; rfl)) ?_; (with_reducible refine (laws_szNet.calls a0_0 _ _ l0_1 1048576 t724 _ ?side1 ?side2 A2.out).mono ?_); (case side1 => repeat (first | exact (Kd.C_below q0.out HB.out) | (with_reducible refine Kd.C_alloc ?_ _) | (with_reducible refine Kd.C_drewN ?_ _) | (with_reducible refine Kd.C_drew ?_))); (case side2 => exact q1.out); rintro e w106 ⟨rfl, hb⟩; refine ⟨_, rfl, ?_⟩; have n0_ := Aside0.mk (blk_below (g := p4) (o := .cells #[.int .i64 a0_0, .slice A0_1 l0_1.length c0_1] 38 (0, 0)) p0.out hb); have n1_ := Aside0.mk (below_step HB.out hb); clear p0; clear HB; have p0 := n0_; have HB := n1_; clear n0_ n1_; (try clear hb); (try clear hb2); (try clear hk); (try clear hi); have hcz107_0 : w106.cell? ⟨p4, 0, none⟩ = some (.int .i64 a0_0) := (blk_cell p0.out 0).trans rfl; have hcz107_1 : w106.cell? ⟨p4, 1, none⟩ = some (.slice A0_1 l0_1.length c0_1) := (blk_cell p0.out 1).trans rfl; have hfz107_0 := blk_frozen p0.out 0; have hfz107_1 := blk_frozen p0.out 1) | ((with_reducible refine gate_callee (f := 21) rfl ?_); refine goesL_ (some 17) rfl rfl Try.func21 (by kernel_rfl) rfl #[.agg #[.int .i64 a0_0, .slice A0_1 l0_1.length c0_1]] rfl (by (try simp only [List.map_toArray, List.map_cons, List.map_nil]); first | done | rfl | (simp only [List.length_drop, List.length_take]; rfl)) ?_; (with_reducible refine (laws_toNet.calls k a0_0 _ _ l0_1 t725 t726 _ ?side1 ?side2 A7.out).mono ?_); (case side1 => repeat (first | exact (Kd.C_below q0.out HB.out) | (with_reducible refine Kd.C_alloc ?_ _) | (with_reducible refine Kd.C_drewN ?_ _) | (with_reducible refine Kd.C_drew ?_))); (case side2 => exact q1.out); rintro e w108 ⟨v727, rfl, ho0, hb⟩; refine ⟨_, rfl, ?_⟩; have n0_ := Aside0.mk (Kd.R_lower ho0 (below_size HB.out)); have n1_ := Aside0.mk (blk_below (g := p4) (o := .cells #[.int .i64 a0_0, .slice A0_1 l0_1.length c0_1] 38 (0, 0)) p0.out hb); have n2_ := Aside0.mk (below_step HB.out hb); clear p0; clear HB; have HO728 := n0_; have p0 := n1_; have HB := n2_; clear n0_ n1_ n2_; (try clear hb); (try clear hb2); (try clear hk); (try clear hi); (try clear ho0); obtain ⟨Ao109, co109, eo109⟩ := Kd.R_slice HO728.out; subst eo109) | ((with_reducible refine gate_callee (f := 28) rfl ?_); refine goesL_ (some 18) rfl rfl Try.func28 (by kernel_rfl) rfl #[.agg #[.int .i64 t725, .slice Ao109 t726.length co109]] rfl (by (try simp only [List.map_toArray, List.map_cons, List.map_nil]); first | done | rfl | (simp only [List.length_drop, List.length_take]; rfl)) ?_; (with_reducible refine (spec_HubCount.calls k t725 _ _ t726 t729 _ ?side1 ?side2 A8.out).mono ?_); (case side1 => repeat (first | exact (Kd.R_reads' HO728.out).2.2 | (with_reducible refine Kd.C_alloc ?_ _) | (with_reducible refine Kd.C_drewN ?_ _) | (with_reducible refine Kd.C_drew ?_))); (case side2 => exact (Kd.R_reads' HO728.out).2.1); rintro e w110 ⟨v730, rfl, ho0, hb⟩; refine ⟨_, rfl, ?_⟩; have n0_ := Aside0.mk (Kd.R_below HO728.out hb); have n1_ := Aside0.mk (Kd.R_lower ho0 (below_size HB.out)); have n2_ := Aside0.mk (blk_below (g := p4) (o := .cells #[.int .i64 a0_0, .slice A0_1 l0_1.length c0_1] 38 (0, 0)) p0.out hb); have n3_ := Aside0.mk (below_step HB.out hb); clear HO728; clear p0; clear HB; have HO728 := n0_; have HO731 := n1_; have p0 := n2_; have HB := n3_; clear n0_ n1_ n2_ n3_; (try clear hb); (try clear hb2); (try clear hk); (try clear hi); (try clear ho0); have hcz111_0 : w110.cell? ⟨p4, 0, none⟩ = some (.int .i64 a0_0) := (blk_cell p0.out 0).trans rfl; have hcz111_1 : w110.cell? ⟨p4, 1, none⟩ = some (.slice A0_1 l0_1.length c0_1) := (blk_cell p0.out 1).trans rfl; have hfz111_0 := blk_frozen p0.out 0; have hfz111_1 := blk_frozen p0.out 1) | ((with_reducible refine gate_callee (f := 21) rfl ?_); refine goesL_ (some 20) rfl rfl Try.func21 (by kernel_rfl) rfl #[.agg #[.int .i64 a0_0, .slice A0_1 l0_1.length c0_1]] rfl (by (try simp only [List.map_toArray, List.map_cons, List.map_nil]); first | done | rfl | (simp only [List.length_drop, List.length_take]; rfl)) ?_; (with_reducible refine (laws_toNet.calls k a0_0 _ _ l0_1 t732 t733 _ ?side1 ?side2 A9.out).mono ?_); (case side1 => repeat (first | exact (Kd.C_below q0.out HB.out) | (with_reducible refine Kd.C_alloc ?_ _) | (with_reducible refine Kd.C_drewN ?_ _) | (with_reducible refine Kd.C_drew ?_))); (case side2 => exact q1.out); rintro e w112 ⟨v734, rfl, ho0, hb⟩; refine ⟨_, rfl, ?_⟩; have n0_ := Aside0.mk (Kd.R_elder' HO728.out (Kd.R_base ho0) hb); have n1_ := Aside0.mk (Kd.R_below HO731.out hb); have n2_ := Aside0.mk (Kd.R_lower (Kd.R_new' ho0 (Kd.R_lt HO728.out)) (below_size HB.out)); have n3_ := Aside0.mk (blk_below (g := p4) (o := .cells #[.int .i64 a0_0, .slice A0_1 l0_1.length c0_1] 38 (0, 0)) p0.out hb); have n4_ := Aside0.mk (below_step HB.out hb); clear HO728; clear HO731; clear p0; clear HB; have HO728 := n0_; have HO731 := n1_; have HO735 := n2_; have p0 := n3_; have HB := n4_; clear n0_ n1_ n2_ n3_ n4_; (try clear hb); (try clear hb2); (try clear hk); (try clear hi); (try clear ho0)) | ((with_reducible refine gate_dst (N := 5) rfl ?_); refine box_event ?hg (N := 5) ?hd (cs := #[.int .i64 0, .slice none 0 0]) (t := 25) ?hr ?_; (case hd => rfl); (case hg => rfl); (case hr => first | (go_simp; done) | (go_simp; rfl)); intro p5 hg w113 hbox hb; have n0_ := Aside0.mk (Kd.R_below HO728.out hb); have n1_ := Aside0.mk (Kd.R_below HO731.out hb); have n2_ := Aside0.mk (Kd.R_below HO735.out hb); have n3_ := Aside0.mk (blk_below (g := p4) (o := .cells #[.int .i64 a0_0, .slice A0_1 l0_1.length c0_1] 38 (0, 0)) p0.out hb); have n4_ := Aside0.mk (below_step HB.out hb); have n5_ := Aside0.mk (hbox); have n6_ := Aside0.mk ((by rw [hg]; exact (below_size HB.out) : w.heap.size ≤ p5)); have n7_ := Aside0.mk ((by rw [hg]; exact (below_size HB.out) : w.heap.size ≤ p5)); have n8_ := Aside0.mk ((by rw [hg]; exact Nat.ne_of_lt (blk_lt (g := p4) (o := .cells #[.int .i64 a0_0, .slice A0_1 l0_1.length c0_1] 38 (0, 0)) p0.out) : p4 ≠ p5)); have n9_ := Aside0.mk ((by rw [hg]; exact Nat.ne_of_gt (blk_lt (g := p4) (o := .cells #[.int .i64 a0_0, .slice A0_1 l0_1.length c0_1] 38 (0, 0)) p0.out) : p5 ≠ p4)); clear HO728; clear HO731; clear HO735; clear p0; clear HB; have HO728 := n0_; have HO731 := n1_; have HO735 := n2_; have p0 := n3_; have HB := n4_; have p1 := n5_; have GW736 := n6_; have p8 := n7_; have p6 := n8_; have p9 := n9_; clear n0_ n1_ n2_ n3_ n4_ n5_ n6_ n7_ n8_ n9_; clear hb hbox hg; have hnb114 := p9.out; have hnc114 := p6.out; have hcz115_0 : w113.cell? ⟨p5, 0, none⟩ = some (.int .i64 0) := (blk_cell p1.out 0).trans rfl; have hcz115_1 : w113.cell? ⟨p5, 1, none⟩ = some (.slice none 0 0) := (blk_cell p1.out 1).trans rfl; have hfz115_0 := blk_frozen p1.out 0; have hfz115_1 := blk_frozen p1.out 1; obtain ⟨Ao116, co116, eo116⟩ := Kd.R_slice HO735.out; subst eo116) | ((with_reducible refine gate_callee (f := 26) rfl ?_); refine goesL_ (some 22) rfl rfl Try.func26 (by kernel_rfl) rfl #[.agg #[.int .i64 t732, .slice Ao116 t733.length co116]] rfl (by (try simp only [List.map_toArray, List.map_cons, List.map_nil]); first | done | rfl | (simp only [List.length_drop, List.length_take]; rfl)) ?_; (with_reducible refine (impl_HubCount.calls k t732 _ _ t733 t737 _ ?side1 ?side2 A10.out).mono ?_); (case side1 => refine (Kd.R_reads' (e := 34) (base := w.heap.size) (ok := fun k_ => (True ∧ some k_ ≠ (.slice Ao109 t726.length co109 : Value).ownBlock)) (n := t733.length) (c := co116) ?_).2.2; exact (Kd.R_mono (Kd.R_far (p := ⟨p5, 1, none⟩) (Kd.R_far (p := ⟨p5, 0, none⟩) (Kd.R_types HO735.out p1.out (by decide)) (fun _ hk => hk.2) (.int .i64 t732)) (fun _ hk => hk.2) (.slice Ao116 t733.length co116)) (fun _ h_ => h_.1))); (case side2 => exact (Kd.R_reads' HO735.out).2.1); rintro e w117 ⟨v738, rfl, ho0, hb⟩; refine ⟨_, rfl, ?_⟩; have n0_ := Aside0.mk (Kd.R_below (Kd.R_mono (Kd.R_far (p := ⟨p5, 1, none⟩) (Kd.R_far (p := ⟨p5, 0, none⟩) (Kd.R_types HO728.out p1.out (by decide)) (fun _ hk => hk.2) (.int .i64 t732)) (fun _ hk => hk.2) (.slice Ao116 t733.length co116)) (fun _ h_ => h_.1)) hb); have n1_ := Aside0.mk (Kd.R_elder' (Kd.R_mono (Kd.R_far (p := ⟨p5, 1, none⟩) (Kd.R_far (p := ⟨p5, 0, none⟩) (Kd.R_types HO731.out p1.out (by decide)) (fun _ hk => hk.2) (.int .i64 t732)) (fun _ hk => hk.2) (.slice Ao116 t733.length co116)) (fun _ h_ => h_.1)) (Kd.R_base ho0) hb); have n2_ := Aside0.mk (Kd.R_below (Kd.R_mono (Kd.R_far (p := ⟨p5, 1, none⟩) (Kd.R_far (p := ⟨p5, 0, none⟩) (Kd.R_types HO735.out p1.out (by decide)) (fun _ hk => hk.2) (.int .i64 t732)) (fun _ hk => hk.2) (.slice Ao116 t733.length co116)) (fun _ h_ => h_.1)) hb); have n3_ := Aside0.mk (Kd.R_lower (Kd.R_new' ho0 (Kd.R_lt (Kd.R_mono (Kd.R_far (p := ⟨p5, 1, none⟩) (Kd.R_far (p := ⟨p5, 0, none⟩) (Kd.R_types HO731.out p1.out (by decide)) (fun _ hk => hk.2) (.int .i64 t732)) (fun _ hk => hk.2) (.slice Ao116 t733.length co116)) (fun _ h_ => h_.1)))) (below_size (by repeat (first | (with_reducible first | exact HB.out | apply below_alloc | apply pw_below_drewN | apply below_drew1 | refine below_set ?_ p7.out | refine below_set ?_ p8.out) | exact HB.out)))); have n4_ := Aside0.mk (blk_below (g := p4) (o := .cells #[.int .i64 a0_0, .slice A0_1 l0_1.length c0_1] 38 (0, 0)) (by refine blk_far ?_ p6.out _; refine blk_far ?_ p6.out _; exact p0.out) hb); have n5_ := Aside0.mk (blk_below (g := p5) (o := .cells #[.int .i64 t732, .slice Ao116 t733.length co116] 25 (0, 0)) (by refine blk_put (cs := #[.int .i64 t732, .slice none 0 0]) ?_ 1 _ rfl; refine blk_put (cs := #[.int .i64 0, .slice none 0 0]) ?_ 0 _ rfl; exact p1.out) hb); have n6_ := Aside0.mk (below_step (by repeat (first | (with_reducible first | exact HB.out | apply below_alloc | apply pw_below_drewN | apply below_drew1 | refine below_set ?_ p7.out | refine below_set ?_ p8.out) | exact HB.out)) hb); clear HO728; clear HO731; clear HO735; clear p0; clear p1; clear HB; have HO728 := n0_; have HO731 := n1_; have HO735 := n2_; have HO739 := n3_; have p0 := n4_; have p1 := n5_; have HB := n6_; clear n0_ n1_ n2_ n3_ n4_ n5_ n6_; (try clear hb); (try clear hb2); (try clear hk); (try clear hi); (try clear ho0); obtain ⟨Ao118, co118, eo118⟩ := Kd.R_slice HO739.out; subst eo118; obtain ⟨Ao119, co119, eo119⟩ := Kd.R_slice HO731.out; subst eo119) | ((with_reducible refine gate_callee (f := 32) rfl ?_); refine goesL_ (some 25) rfl rfl Try.func32 (by kernel_rfl) rfl #[.slice Ao118 t737.length co118, .slice Ao119 t729.length co119] rfl (by (try simp only [List.map_toArray, List.map_cons, List.map_nil]); first | done | rfl | (simp only [List.length_drop, List.length_take]; rfl)) ?_; (with_reducible refine (laws_eqIntS.calls k _ _ t737 _ _ t729 false _ ?side1 ?side2 ?side3 ?side4 A11.out).mono ?_); (case side1 => repeat (first | exact (Kd.R_reads' HO739.out).2.2 | (with_reducible refine Kd.C_alloc ?_ _) | (with_reducible refine Kd.C_drewN ?_ _) | (with_reducible refine Kd.C_drew ?_))); (case side2 => exact (Kd.R_reads' HO739.out).2.1); (case side3 => repeat (first | exact (Kd.R_reads' HO731.out).2.2 | (with_reducible refine Kd.C_alloc ?_ _) | (with_reducible refine Kd.C_drewN ?_ _) | (with_reducible refine Kd.C_drew ?_))); (case side4 => exact (Kd.R_reads' HO731.out).2.1); rintro e w' ⟨rfl, ⟨nd, rfl⟩⟩; refine ⟨_, rfl, ?_⟩))
  go_ret
  exact ⟨by first | rfl | (simp [errW_none, errW_some] <;> rfl) | (simp [*, errW_none, errW_some] <;> rfl), by repeat (first | (with_reducible first | exact HB.out | apply below_alloc | apply pw_below_drewN | apply below_drew1 | refine below_set ?_ p7.out | refine below_set ?_ p8.out) | exact HB.out)⟩
 subst c12
 have H1 : ((laws_toNet.f k a0_0 l0_1).bind fun bt741 => ((laws_eqNet.f k t732 t733 bt741.1 bt741.2).bind fun t745 => (if t745 = true then ((laws_markNet.f k t732 t733 1).bind fun bt746 => (if bt746.1 < 0 then (laws_FnExactHubCount.j0 k t729 t737 true a0_0 l0_1) else ((laws_eqIntS.f k t737 t729).bind fun t748 => (laws_FnExactHubCount.j0 k t729 t737 (!t748) a0_0 l0_1)))) else (some false)))) = some r := by rw [if_pos rfl] at H; exact H
 clear H
 have H := H1
 clear H1
 replace H := Option.bind_eq_some_iff.mp H
 obtain ⟨⟨t741, t742⟩, A130, H⟩ := H
 replace H : ((laws_eqNet.f k t732 t733 t741 t742).bind fun t745 => (if t745 = true then ((laws_markNet.f k t732 t733 1).bind fun bt746 => (if bt746.1 < 0 then (laws_FnExactHubCount.j0 k t729 t737 true a0_0 l0_1) else ((laws_eqIntS.f k t737 t729).bind fun t748 => (laws_FnExactHubCount.j0 k t729 t737 (!t748) a0_0 l0_1)))) else (some false))) = some r := H
 have A13 := Aside0.mk A130
 clear A130
 replace H := Option.bind_eq_some_iff.mp H
 obtain ⟨t745, A140, H⟩ := H
 replace H : (if t745 = true then ((laws_markNet.f k t732 t733 1).bind fun bt746 => (if bt746.1 < 0 then (laws_FnExactHubCount.j0 k t729 t737 true a0_0 l0_1) else ((laws_eqIntS.f k t737 t729).bind fun t748 => (laws_FnExactHubCount.j0 k t729 t737 (!t748) a0_0 l0_1)))) else (some false)) = some r := H
 have A14 := Aside0.mk A140
 clear A140
 by_cases c15 : t745 = true
 case neg =>
  replace c15 := Bool.eq_false_iff.mpr c15
  subst c15
  have H1 : (some false) = some r := by rw [if_neg (show ¬ (false = true) by decide)] at H; exact H
  clear H
  have H := H1
  clear H1
  obtain rfl := Option.some.inj H
  go_enter Try.func9, Try.ntmps9
  try go_wp2_with (first | ((with_reducible refine gate_dst (N := 1) rfl ?_); refine box_event ?hg (N := 1) ?hd (cs := #[.int .i64 a0_0, .slice A0_1 l0_1.length c0_1]) (t := 38) ?hr ?_; (case hd => rfl); (case hg => rfl); (case hr => first | (go_simp; done) | (go_simp; rfl)); intro p4 hg w84 hbox hb; have n0_ := Aside0.mk (below_step HB.out hb); have n1_ := Aside0.mk (hbox); have n2_ := Aside0.mk ((by rw [hg]; exact (below_size HB.out) : w.heap.size ≤ p4)); have n3_ := Aside0.mk ((by rw [hg]; exact (below_size HB.out) : w.heap.size ≤ p4)); clear HB; have HB := n0_; have p0 := n1_; have q3 := n2_; have p7 := n3_; clear n0_ n1_ n2_ n3_; clear hb hbox hg; have hcz85_0 : w84.cell? ⟨p4, 0, none⟩ = some (.int .i64 a0_0) := (blk_cell p0.out 0).trans rfl; have hcz85_1 : w84.cell? ⟨p4, 1, none⟩ = some (.slice A0_1 l0_1.length c0_1) := (blk_cell p0.out 1).trans rfl; have hfz85_0 := blk_frozen p0.out 0; have hfz85_1 := blk_frozen p0.out 1) | ((with_reducible refine gate_callee (f := 19) rfl ?_); refine goesL_ (some 13) rfl rfl Try.func19 (by kernel_rfl) rfl #[.agg #[.int .i64 a0_0, .slice A0_1 l0_1.length c0_1], .int .i64 1048576] rfl (by (try simp only [List.map_toArray, List.map_cons, List.map_nil]); first | done | rfl | (simp only [List.length_drop, List.length_take]; rfl)) ?_; (with_reducible refine (laws_szNet.calls a0_0 _ _ l0_1 1048576 t724 _ ?side1 ?side2 A2.out).mono ?_); (case side1 => repeat (first | exact (Kd.C_below q0.out HB.out) | (with_reducible refine Kd.C_alloc ?_ _) | (with_reducible refine Kd.C_drewN ?_ _) | (with_reducible refine Kd.C_drew ?_))); (case side2 => exact q1.out); rintro e w86 ⟨rfl, hb⟩; refine ⟨_, rfl, ?_⟩; have n0_ := Aside0.mk (blk_below (g := p4) (o := .cells #[.int .i64 a0_0, .slice A0_1 l0_1.length c0_1] 38 (0, 0)) p0.out hb); have n1_ := Aside0.mk (below_step HB.out hb); clear p0; clear HB; have p0 := n0_; have HB := n1_; clear n0_ n1_; (try clear hb); (try clear hb2); (try clear hk); (try clear hi); have hcz87_0 : w86.cell? ⟨p4, 0, none⟩ = some (.int .i64 a0_0) := (blk_cell p0.out 0).trans rfl; have hcz87_1 : w86.cell? ⟨p4, 1, none⟩ = some (.slice A0_1 l0_1.length c0_1) := (blk_cell p0.out 1).trans rfl; have hfz87_0 := blk_frozen p0.out 0; have hfz87_1 := blk_frozen p0.out 1) | ((with_reducible refine gate_callee (f := 21) rfl ?_); refine goesL_ (some 17) rfl rfl Try.func21 (by kernel_rfl) rfl #[.agg #[.int .i64 a0_0, .slice A0_1 l0_1.length c0_1]] rfl (by (try simp only [List.map_toArray, List.map_cons, List.map_nil]); first | done | rfl | (simp only [List.length_drop, List.length_take]; rfl)) ?_; (with_reducible refine (laws_toNet.calls k a0_0 _ _ l0_1 t725 t726 _ ?side1 ?side2 A7.out).mono ?_); (case side1 => repeat (first | exact (Kd.C_below q0.out HB.out) | (with_reducible refine Kd.C_alloc ?_ _) | (with_reducible refine Kd.C_drewN ?_ _) | (with_reducible refine Kd.C_drew ?_))); (case side2 => exact q1.out); rintro e w88 ⟨v727, rfl, ho0, hb⟩; refine ⟨_, rfl, ?_⟩; have n0_ := Aside0.mk (Kd.R_lower ho0 (below_size HB.out)); have n1_ := Aside0.mk (blk_below (g := p4) (o := .cells #[.int .i64 a0_0, .slice A0_1 l0_1.length c0_1] 38 (0, 0)) p0.out hb); have n2_ := Aside0.mk (below_step HB.out hb); clear p0; clear HB; have HO728 := n0_; have p0 := n1_; have HB := n2_; clear n0_ n1_ n2_; (try clear hb); (try clear hb2); (try clear hk); (try clear hi); (try clear ho0); obtain ⟨Ao89, co89, eo89⟩ := Kd.R_slice HO728.out; subst eo89) | ((with_reducible refine gate_callee (f := 28) rfl ?_); refine goesL_ (some 18) rfl rfl Try.func28 (by kernel_rfl) rfl #[.agg #[.int .i64 t725, .slice Ao89 t726.length co89]] rfl (by (try simp only [List.map_toArray, List.map_cons, List.map_nil]); first | done | rfl | (simp only [List.length_drop, List.length_take]; rfl)) ?_; (with_reducible refine (spec_HubCount.calls k t725 _ _ t726 t729 _ ?side1 ?side2 A8.out).mono ?_); (case side1 => repeat (first | exact (Kd.R_reads' HO728.out).2.2 | (with_reducible refine Kd.C_alloc ?_ _) | (with_reducible refine Kd.C_drewN ?_ _) | (with_reducible refine Kd.C_drew ?_))); (case side2 => exact (Kd.R_reads' HO728.out).2.1); rintro e w90 ⟨v730, rfl, ho0, hb⟩; refine ⟨_, rfl, ?_⟩; have n0_ := Aside0.mk (Kd.R_below HO728.out hb); have n1_ := Aside0.mk (Kd.R_lower ho0 (below_size HB.out)); have n2_ := Aside0.mk (blk_below (g := p4) (o := .cells #[.int .i64 a0_0, .slice A0_1 l0_1.length c0_1] 38 (0, 0)) p0.out hb); have n3_ := Aside0.mk (below_step HB.out hb); clear HO728; clear p0; clear HB; have HO728 := n0_; have HO731 := n1_; have p0 := n2_; have HB := n3_; clear n0_ n1_ n2_ n3_; (try clear hb); (try clear hb2); (try clear hk); (try clear hi); (try clear ho0); have hcz91_0 : w90.cell? ⟨p4, 0, none⟩ = some (.int .i64 a0_0) := (blk_cell p0.out 0).trans rfl; have hcz91_1 : w90.cell? ⟨p4, 1, none⟩ = some (.slice A0_1 l0_1.length c0_1) := (blk_cell p0.out 1).trans rfl; have hfz91_0 := blk_frozen p0.out 0; have hfz91_1 := blk_frozen p0.out 1) | ((with_reducible refine gate_callee (f := 21) rfl ?_); refine goesL_ (some 20) rfl rfl Try.func21 (by kernel_rfl) rfl #[.agg #[.int .i64 a0_0, .slice A0_1 l0_1.length c0_1]] rfl (by (try simp only [List.map_toArray, List.map_cons, List.map_nil]); first | done | rfl | (simp only [List.length_drop, List.length_take]; rfl)) ?_; (with_reducible refine (laws_toNet.calls k a0_0 _ _ l0_1 t732 t733 _ ?side1 ?side2 A9.out).mono ?_); (case side1 => repeat (first | exact (Kd.C_below q0.out HB.out) | (with_reducible refine Kd.C_alloc ?_ _) | (with_reducible refine Kd.C_drewN ?_ _) | (with_reducible refine Kd.C_drew ?_))); (case side2 => exact q1.out); rintro e w92 ⟨v734, rfl, ho0, hb⟩; refine ⟨_, rfl, ?_⟩; have n0_ := Aside0.mk (Kd.R_elder' HO728.out (Kd.R_base ho0) hb); have n1_ := Aside0.mk (Kd.R_below HO731.out hb); have n2_ := Aside0.mk (Kd.R_lower (Kd.R_new' ho0 (Kd.R_lt HO728.out)) (below_size HB.out)); have n3_ := Aside0.mk (blk_below (g := p4) (o := .cells #[.int .i64 a0_0, .slice A0_1 l0_1.length c0_1] 38 (0, 0)) p0.out hb); have n4_ := Aside0.mk (below_step HB.out hb); clear HO728; clear HO731; clear p0; clear HB; have HO728 := n0_; have HO731 := n1_; have HO735 := n2_; have p0 := n3_; have HB := n4_; clear n0_ n1_ n2_ n3_ n4_; (try clear hb); (try clear hb2); (try clear hk); (try clear hi); (try clear ho0)) | ((with_reducible refine gate_dst (N := 5) rfl ?_); refine box_event ?hg (N := 5) ?hd (cs := #[.int .i64 0, .slice none 0 0]) (t := 25) ?hr ?_; (case hd => rfl); (case hg => rfl); (case hr => first | (go_simp; done) | (go_simp; rfl)); intro p5 hg w93 hbox hb; have n0_ := Aside0.mk (Kd.R_below HO728.out hb); have n1_ := Aside0.mk (Kd.R_below HO731.out hb); have n2_ := Aside0.mk (Kd.R_below HO735.out hb); have n3_ := Aside0.mk (blk_below (g := p4) (o := .cells #[.int .i64 a0_0, .slice A0_1 l0_1.length c0_1] 38 (0, 0)) p0.out hb); have n4_ := Aside0.mk (below_step HB.out hb); have n5_ := Aside0.mk (hbox); have n6_ := Aside0.mk ((by rw [hg]; exact (below_size HB.out) : w.heap.size ≤ p5)); have n7_ := Aside0.mk ((by rw [hg]; exact (below_size HB.out) : w.heap.size ≤ p5)); have n8_ := Aside0.mk ((by rw [hg]; exact Nat.ne_of_lt (blk_lt (g := p4) (o := .cells #[.int .i64 a0_0, .slice A0_1 l0_1.length c0_1] 38 (0, 0)) p0.out) : p4 ≠ p5)); have n9_ := Aside0.mk ((by rw [hg]; exact Nat.ne_of_gt (blk_lt (g := p4) (o := .cells #[.int .i64 a0_0, .slice A0_1 l0_1.length c0_1] 38 (0, 0)) p0.out) : p5 ≠ p4)); clear HO728; clear HO731; clear HO735; clear p0; clear HB; have HO728 := n0_; have HO731 := n1_; have HO735 := n2_; have p0 := n3_; have HB := n4_; have p1 := n5_; have GW736 := n6_; have p8 := n7_; have p6 := n8_; have p9 := n9_; clear n0_ n1_ n2_ n3_ n4_ n5_ n6_ n7_ n8_ n9_; clear hb hbox hg; have hnb94 := p9.out; have hnc94 := p6.out; have hcz95_0 : w93.cell? ⟨p5, 0, none⟩ = some (.int .i64 0) := (blk_cell p1.out 0).trans rfl; have hcz95_1 : w93.cell? ⟨p5, 1, none⟩ = some (.slice none 0 0) := (blk_cell p1.out 1).trans rfl; have hfz95_0 := blk_frozen p1.out 0; have hfz95_1 := blk_frozen p1.out 1; obtain ⟨Ao96, co96, eo96⟩ := Kd.R_slice HO735.out; subst eo96) | ((with_reducible refine gate_callee (f := 26) rfl ?_); refine goesL_ (some 22) rfl rfl Try.func26 (by kernel_rfl) rfl #[.agg #[.int .i64 t732, .slice Ao96 t733.length co96]] rfl (by (try simp only [List.map_toArray, List.map_cons, List.map_nil]); first | done | rfl | (simp only [List.length_drop, List.length_take]; rfl)) ?_; (with_reducible refine (impl_HubCount.calls k t732 _ _ t733 t737 _ ?side1 ?side2 A10.out).mono ?_); (case side1 => refine (Kd.R_reads' (e := 34) (base := w.heap.size) (ok := fun k_ => (True ∧ some k_ ≠ (.slice Ao89 t726.length co89 : Value).ownBlock)) (n := t733.length) (c := co96) ?_).2.2; exact (Kd.R_mono (Kd.R_far (p := ⟨p5, 1, none⟩) (Kd.R_far (p := ⟨p5, 0, none⟩) (Kd.R_types HO735.out p1.out (by decide)) (fun _ hk => hk.2) (.int .i64 t732)) (fun _ hk => hk.2) (.slice Ao96 t733.length co96)) (fun _ h_ => h_.1))); (case side2 => exact (Kd.R_reads' HO735.out).2.1); rintro e w97 ⟨v738, rfl, ho0, hb⟩; refine ⟨_, rfl, ?_⟩; have n0_ := Aside0.mk (Kd.R_below (Kd.R_mono (Kd.R_far (p := ⟨p5, 1, none⟩) (Kd.R_far (p := ⟨p5, 0, none⟩) (Kd.R_types HO728.out p1.out (by decide)) (fun _ hk => hk.2) (.int .i64 t732)) (fun _ hk => hk.2) (.slice Ao96 t733.length co96)) (fun _ h_ => h_.1)) hb); have n1_ := Aside0.mk (Kd.R_elder' (Kd.R_mono (Kd.R_far (p := ⟨p5, 1, none⟩) (Kd.R_far (p := ⟨p5, 0, none⟩) (Kd.R_types HO731.out p1.out (by decide)) (fun _ hk => hk.2) (.int .i64 t732)) (fun _ hk => hk.2) (.slice Ao96 t733.length co96)) (fun _ h_ => h_.1)) (Kd.R_base ho0) hb); have n2_ := Aside0.mk (Kd.R_below (Kd.R_mono (Kd.R_far (p := ⟨p5, 1, none⟩) (Kd.R_far (p := ⟨p5, 0, none⟩) (Kd.R_types HO735.out p1.out (by decide)) (fun _ hk => hk.2) (.int .i64 t732)) (fun _ hk => hk.2) (.slice Ao96 t733.length co96)) (fun _ h_ => h_.1)) hb); have n3_ := Aside0.mk (Kd.R_lower (Kd.R_new' ho0 (Kd.R_lt (Kd.R_mono (Kd.R_far (p := ⟨p5, 1, none⟩) (Kd.R_far (p := ⟨p5, 0, none⟩) (Kd.R_types HO731.out p1.out (by decide)) (fun _ hk => hk.2) (.int .i64 t732)) (fun _ hk => hk.2) (.slice Ao96 t733.length co96)) (fun _ h_ => h_.1)))) (below_size (by repeat (first | (with_reducible first | exact HB.out | apply below_alloc | apply pw_below_drewN | apply below_drew1 | refine below_set ?_ p7.out | refine below_set ?_ p8.out) | exact HB.out)))); have n4_ := Aside0.mk (blk_below (g := p4) (o := .cells #[.int .i64 a0_0, .slice A0_1 l0_1.length c0_1] 38 (0, 0)) (by refine blk_far ?_ p6.out _; refine blk_far ?_ p6.out _; exact p0.out) hb); have n5_ := Aside0.mk (blk_below (g := p5) (o := .cells #[.int .i64 t732, .slice Ao96 t733.length co96] 25 (0, 0)) (by refine blk_put (cs := #[.int .i64 t732, .slice none 0 0]) ?_ 1 _ rfl; refine blk_put (cs := #[.int .i64 0, .slice none 0 0]) ?_ 0 _ rfl; exact p1.out) hb); have n6_ := Aside0.mk (below_step (by repeat (first | (with_reducible first | exact HB.out | apply below_alloc | apply pw_below_drewN | apply below_drew1 | refine below_set ?_ p7.out | refine below_set ?_ p8.out) | exact HB.out)) hb); clear HO728; clear HO731; clear HO735; clear p0; clear p1; clear HB; have HO728 := n0_; have HO731 := n1_; have HO735 := n2_; have HO739 := n3_; have p0 := n4_; have p1 := n5_; have HB := n6_; clear n0_ n1_ n2_ n3_ n4_ n5_ n6_; (try clear hb); (try clear hb2); (try clear hk); (try clear hi); (try clear ho0); obtain ⟨Ao98, co98, eo98⟩ := Kd.R_slice HO739.out; subst eo98; obtain ⟨Ao99, co99, eo99⟩ := Kd.R_slice HO731.out; subst eo99) | ((with_reducible refine gate_callee (f := 32) rfl ?_); refine goesL_ (some 25) rfl rfl Try.func32 (by kernel_rfl) rfl #[.slice Ao98 t737.length co98, .slice Ao99 t729.length co99] rfl (by (try simp only [List.map_toArray, List.map_cons, List.map_nil]); first | done | rfl | (simp only [List.length_drop, List.length_take]; rfl)) ?_; (with_reducible refine (laws_eqIntS.calls k _ _ t737 _ _ t729 true _ ?side1 ?side2 ?side3 ?side4 A11.out).mono ?_); (case side1 => repeat (first | exact (Kd.R_reads' HO739.out).2.2 | (with_reducible refine Kd.C_alloc ?_ _) | (with_reducible refine Kd.C_drewN ?_ _) | (with_reducible refine Kd.C_drew ?_))); (case side2 => exact (Kd.R_reads' HO739.out).2.1); (case side3 => repeat (first | exact (Kd.R_reads' HO731.out).2.2 | (with_reducible refine Kd.C_alloc ?_ _) | (with_reducible refine Kd.C_drewN ?_ _) | (with_reducible refine Kd.C_drew ?_))); (case side4 => exact (Kd.R_reads' HO731.out).2.1); rintro e w' ⟨rfl, ⟨nd, rfl⟩⟩; refine ⟨_, rfl, ?_⟩))
  (try (rw [drewN_self w97]; generalize hq_ : World.drewN w97 _ = w97; have n0_ : Aside0 (Kd.R k34 34 w97 w.heap.size (fun k_ => some k_ ≠ (.slice Ao96 t733.length co96 : Value).ownBlock) (.slice Ao89 t726.length co89) t726) := ⟨by rw [← hq_]; exact (by exact Kd.R_mono HO728.out (fun _ hk => hk.2))⟩; have n1_ : Aside0 (Kd.R (Kd.int .i64) 3 w97 w.heap.size (fun k_ => some k_ ≠ (.slice Ao98 t737.length co98 : Value).ownBlock) (.slice Ao99 t729.length co99) t729) := ⟨by rw [← hq_]; exact (by exact Kd.R_mono HO731.out (fun _ hk => hk.2))⟩; have n2_ : Aside0 (Kd.R k34 34 w97 w.heap.size (fun k_ => some k_ ≠ (.slice Ao89 t726.length co89 : Value).ownBlock) (.slice Ao96 t733.length co96) t733) := ⟨by rw [← hq_]; exact (by exact Kd.R_mono HO735.out (fun _ hk => hk.2))⟩; have n3_ : Aside0 (Kd.R (Kd.int .i64) 3 w97 w.heap.size (fun k_ => some k_ ≠ (.slice Ao99 t729.length co99 : Value).ownBlock) (.slice Ao98 t737.length co98) t737) := ⟨by rw [← hq_]; exact (by exact Kd.R_mono HO739.out (fun _ hk => hk.2))⟩; have n4_ : Aside0 (w97.heap[p4]? = some (.cells #[.int .i64 a0_0, .slice A0_1 l0_1.length c0_1] 38 (0, 0))) := ⟨by rw [← hq_]; exact (by exact p0.out)⟩; have n5_ : Aside0 (w97.heap[p5]? = some (.cells #[.int .i64 t732, .slice Ao96 t733.length co96] 25 (0, 0))) := ⟨by rw [← hq_]; exact (by exact p1.out)⟩; have n6_ : Aside0 (Below w.heap.size w w97) := ⟨by rw [← hq_]; exact (by repeat (first | (with_reducible first | exact HB.out | apply below_alloc | apply pw_below_drewN | apply below_drew1 | refine below_set ?_ p7.out | refine below_set ?_ p8.out) | exact HB.out))⟩; clear HO728 HO731 HO735 HO739 p0 p1 HB hq_; have HO728 := n0_; have HO731 := n1_; have HO735 := n2_; have HO739 := n3_; have p0 := n4_; have p1 := n5_; have HB := n6_; clear n0_ n1_ n2_ n3_ n4_ n5_ n6_))
  have n0_ := Aside0.mk (Kd.R_drew HO728.out)
  have n1_ := Aside0.mk (Kd.R_drew HO731.out)
  have n2_ := Aside0.mk (Kd.R_drew HO735.out)
  have n3_ := Aside0.mk (Kd.R_drew HO739.out)
  have n4_ := Aside0.mk (blk_drew p0.out)
  have n5_ := Aside0.mk (blk_drew p1.out)
  have n6_ := Aside0.mk (below_drew1 HB.out)
  clear HO728
  clear HO731
  clear HO735
  clear HO739
  clear p0
  clear p1
  clear HB
  have HO728 := n0_
  have HO731 := n1_
  have HO735 := n2_
  have HO739 := n3_
  have p0 := n4_
  have p1 := n5_
  have HB := n6_
  clear n0_ n1_ n2_ n3_ n4_ n5_ n6_
  refine start_ (n := 5) (S := fun w' => w'.cell? ⟨p5, 0, none⟩ = some (.int .i64 t732) ∧ w'.cell? ⟨p5, 1, none⟩ = some (.slice Ao96 t733.length co96) ∧ w'.cell? ⟨p4, 0, none⟩ = some (.int .i64 a0_0) ∧ w'.cell? ⟨p4, 1, none⟩ = some (.slice A0_1 l0_1.length c0_1)) (ds := []) #[false, false, false, false, false] (by kernel_rfl) rfl rfl ⟨(blk_cell p1.out 0).trans rfl, (blk_cell p1.out 1).trans rfl, (blk_cell p0.out 0).trans rfl, (blk_cell p0.out 1).trans rfl⟩ (fun hHeld => ?_)
  generalize w97.drew = w100 at HO728 HO731 HO735 HO739 p0 p1 HB hHeld ⊢
  refine take_ (i := 0) (N := some 27) (v := ?_) (a' := ?_) #[true, false, false, false, false] rfl rfl (by kernel_rfl) (fun _ _ _ h => h) (Or.inl ⟨by rfl, ?_⟩) hHeld ?_ ?_
  rotate_left
  ·rintro w' ⟨s0, s1, s2, s3⟩
   go_simp
   with_reducible rfl
  rotate_left
  ·simp only [Act.put, List.setIfInBounds_toArray, List.set_cons_zero, List.set_cons_succ, i64_w, i32_w]
   rfl
  refine take_ (i := 1) (N := some 28) (v := ?_) (a' := ?_) #[true, true, false, false, false] rfl rfl (by kernel_rfl) (fun _ _ _ h => h) (Or.inl ⟨by rfl, ?_⟩) hHeld ?_ ?_
  rotate_left
  ·rintro w' ⟨s0, s1, s2, s3⟩
   go_simp
   with_reducible rfl
  rotate_left
  ·simp only [Act.put, List.setIfInBounds_toArray, List.set_cons_zero, List.set_cons_succ, i64_w, i32_w]
   rfl
  refine one_ (i := 2) (N := some 29) #[true, true, true, false, false] rfl rfl (by kernel_rfl) (by decide) (fun K hK => ?_)
  refine goes_ Try.func21 (by kernel_rfl) rfl #[.agg #[.int .i64 a0_0, .slice A0_1 l0_1.length c0_1]] (by rfl) rfl rfl (by (try simp only [List.map_toArray, List.map_cons, List.map_nil]); first | done | rfl | (simp only [List.length_drop, List.length_take]; rfl)) ?_
  with_reducible refine (laws_toNet.calls k a0_0 _ _ l0_1 t741 t742 _ ?side1 ?side2 A13.out).mono ?_
  (case side1 => repeat (first | exact (Kd.C_below q0.out HB.out) | (with_reducible refine Kd.C_alloc ?_ _) | (with_reducible refine Kd.C_drewN ?_ _) | (with_reducible refine Kd.C_drew ?_)))
  (case side2 => exact q1.out)
  rintro e w101 ⟨v743, rfl, ho0, hb⟩
  refine ⟨_, rfl, ?_⟩
  have n0_ := Aside0.mk (Kd.R_elder' HO728.out (Kd.R_base ho0) hb)
  have n1_ := Aside0.mk (Kd.R_below HO731.out hb)
  have n2_ := Aside0.mk (Kd.R_elder' HO735.out (Kd.R_base ho0) hb)
  have n3_ := Aside0.mk (Kd.R_below HO739.out hb)
  have n4_ := Aside0.mk (Kd.R_lower (Kd.R_new' (Kd.R_new' ho0 (Kd.R_lt HO728.out)) (Kd.R_lt HO735.out)) (below_size HB.out))
  have n5_ := Aside0.mk (blk_below (g := p4) (o := .cells #[.int .i64 a0_0, .slice A0_1 l0_1.length c0_1] 38 (0, 0)) p0.out hb)
  have n6_ := Aside0.mk (blk_below (g := p5) (o := .cells #[.int .i64 t732, .slice Ao96 t733.length co96] 25 (0, 0)) p1.out hb)
  have n7_ := Aside0.mk (below_step HB.out hb)
  clear HO728
  clear HO731
  clear HO735
  clear HO739
  clear p0
  clear p1
  clear HB
  have HO728 := n0_
  have HO731 := n1_
  have HO735 := n2_
  have HO739 := n3_
  have HO744 := n4_
  have p0 := n5_
  have p1 := n6_
  have HB := n7_
  clear n0_ n1_ n2_ n3_ n4_ n5_ n6_ n7_
  (try clear hb)
  (try clear hb2)
  (try clear hk)
  (try clear hi)
  (try clear ho0)
  obtain ⟨Ao102, co102, eo102⟩ := Kd.R_slice HO744.out
  (first | subst eo102 | (injection eo102 with f1_ f2_ f3_; have f4_ := f1_.symm; have f5_ := f3_.symm; clear f1_ f2_ f3_; subst f4_; subst f5_))
  refine hK.out _ _ ⟨(blk_cell p1.out 0).trans rfl, (blk_cell p1.out 1).trans rfl, (blk_cell p0.out 0).trans rfl, (blk_cell p0.out 1).trans rfl⟩ (fun hHeld => ?_)
  clear hK K
  refine norm_ (a' := ?_) ?_ ?_
  rotate_left
  ·show Act.put _ (some 29) _ = _
   simp only [Act.put, List.setIfInBounds_toArray, List.set_cons_zero, List.set_cons_succ, i64_w, i32_w]
   rfl
  refine one_ (i := 3) (N := some 30) #[true, true, true, true, false] rfl rfl (by kernel_rfl) (by decide) (fun K hK => ?_)
  refine goes_ Try.func23 (by kernel_rfl) rfl #[.agg #[.int .i64 t732, .slice Ao96 t733.length co96], .agg #[.int .i64 t741, .slice Ao102 t742.length co102]] (by rfl) rfl rfl (by (try simp only [List.map_toArray, List.map_cons, List.map_nil]); first | done | rfl | (simp only [List.length_drop, List.length_take]; rfl)) ?_
  with_reducible refine (laws_eqNet.calls k t732 _ _ t733 t741 _ _ t742 false _ ?side1 ?side2 ?side3 ?side4 A14.out).mono ?_
  (case side1 => repeat (first | exact (Kd.R_reads' HO735.out).2.2 | (with_reducible refine Kd.C_alloc ?_ _) | (with_reducible refine Kd.C_drewN ?_ _) | (with_reducible refine Kd.C_drew ?_)))
  (case side2 => exact (Kd.R_reads' HO735.out).2.1)
  (case side3 => repeat (first | exact (Kd.R_reads' HO744.out).2.2 | (with_reducible refine Kd.C_alloc ?_ _) | (with_reducible refine Kd.C_drewN ?_ _) | (with_reducible refine Kd.C_drew ?_)))
  (case side4 => exact (Kd.R_reads' HO744.out).2.1)
  rintro e w103 ⟨rfl, hb⟩
  refine ⟨_, rfl, ?_⟩
  have n0_ := Aside0.mk (Kd.R_below HO728.out hb)
  have n1_ := Aside0.mk (Kd.R_below HO731.out hb)
  have n2_ := Aside0.mk (Kd.R_below HO735.out hb)
  have n3_ := Aside0.mk (Kd.R_below HO739.out hb)
  have n4_ := Aside0.mk (Kd.R_below HO744.out hb)
  have n5_ := Aside0.mk (blk_below (g := p4) (o := .cells #[.int .i64 a0_0, .slice A0_1 l0_1.length c0_1] 38 (0, 0)) p0.out hb)
  have n6_ := Aside0.mk (blk_below (g := p5) (o := .cells #[.int .i64 t732, .slice Ao96 t733.length co96] 25 (0, 0)) p1.out hb)
  have n7_ := Aside0.mk (below_step HB.out hb)
  clear HO728
  clear HO731
  clear HO735
  clear HO739
  clear HO744
  clear p0
  clear p1
  clear HB
  have HO728 := n0_
  have HO731 := n1_
  have HO735 := n2_
  have HO739 := n3_
  have HO744 := n4_
  have p0 := n5_
  have p1 := n6_
  have HB := n7_
  clear n0_ n1_ n2_ n3_ n4_ n5_ n6_ n7_
  (try clear hb)
  (try clear hb2)
  (try clear hk)
  (try clear hi)
  refine hK.out _ _ ⟨(blk_cell p1.out 0).trans rfl, (blk_cell p1.out 1).trans rfl, (blk_cell p0.out 0).trans rfl, (blk_cell p0.out 1).trans rfl⟩ (fun hHeld => ?_)
  clear hK K
  refine norm_ (a' := ?_) ?_ ?_
  rotate_left
  ·show Act.put _ (some 30) _ = _
   simp only [Act.put, List.setIfInBounds_toArray, List.set_cons_zero, List.set_cons_succ, i64_w, i32_w]
   rfl
  refine pure_ (i := 4) (N := some 31) (v := ?_) (a' := ?_) #[true, true, true, true, true] rfl rfl (by kernel_rfl) (fun _ _ _ h => h) (Or.inl ⟨by rfl, ?_⟩) ?_ ?_
  rotate_left
  ·intro w'
   go_simp
   with_reducible rfl
  rotate_left
  ·simp only [Act.put, List.setIfInBounds_toArray, List.set_cons_zero, List.set_cons_succ, i64_w, i32_w]
   rfl
  refine done_ (by kernel_rfl) ?_
  try go_wp2
  go_ret
  exact ⟨by first | rfl | (simp [errW_none, errW_some] <;> rfl) | (simp [*, errW_none, errW_some] <;> rfl), by repeat (first | (with_reducible first | exact HB.out | apply below_alloc | apply pw_below_drewN | apply below_drew1 | refine below_set ?_ p7.out | refine below_set ?_ p8.out) | exact HB.out)⟩
 subst c15
 have H1 : ((laws_markNet.f k t732 t733 1).bind fun bt746 => (if bt746.1 < 0 then (laws_FnExactHubCount.j0 k t729 t737 true a0_0 l0_1) else ((laws_eqIntS.f k t737 t729).bind fun t748 => (laws_FnExactHubCount.j0 k t729 t737 (!t748) a0_0 l0_1)))) = some r := by rw [if_pos rfl] at H; exact H
 clear H
 have H := H1
 clear H1
 replace H := Option.bind_eq_some_iff.mp H
 obtain ⟨⟨t746, t747⟩, A160, H⟩ := H
 replace H : (if t746 < 0 then (laws_FnExactHubCount.j0 k t729 t737 true a0_0 l0_1) else ((laws_eqIntS.f k t737 t729).bind fun t748 => (laws_FnExactHubCount.j0 k t729 t737 (!t748) a0_0 l0_1))) = some r := H
 have A16 := Aside0.mk A160
 clear A160
 have HC17 := Aside0.mk H
 clear H
 go_enter Try.func9, Try.ntmps9
 try go_wp2_with (first | ((with_reducible refine gate_dst (N := 1) rfl ?_); refine box_event ?hg (N := 1) ?hd (cs := #[.int .i64 a0_0, .slice A0_1 l0_1.length c0_1]) (t := 38) ?hr ?_; (case hd => rfl); (case hg => rfl); (case hr => first | (go_simp; done) | (go_simp; rfl)); intro p4 hg w18 hbox hb; have n0_ := Aside0.mk (below_step HB.out hb); have n1_ := Aside0.mk (hbox); have n2_ := Aside0.mk ((by rw [hg]; exact (below_size HB.out) : w.heap.size ≤ p4)); have n3_ := Aside0.mk ((by rw [hg]; exact (below_size HB.out) : w.heap.size ≤ p4)); clear HB; have HB := n0_; have p0 := n1_; have q3 := n2_; have p7 := n3_; clear n0_ n1_ n2_ n3_; clear hb hbox hg; have q6 : w18.cell? ⟨p4, 0, none⟩ = some (.int .i64 a0_0) := (blk_cell p0.out 0).trans rfl; have q7 : w18.cell? ⟨p4, 1, none⟩ = some (.slice A0_1 l0_1.length c0_1) := (blk_cell p0.out 1).trans rfl; have q8 := blk_frozen p0.out 0; have q9 := blk_frozen p0.out 1) | ((with_reducible refine gate_callee (f := 19) rfl ?_); refine goesL_ (some 13) rfl rfl Try.func19 (by kernel_rfl) rfl #[.agg #[.int .i64 a0_0, .slice A0_1 l0_1.length c0_1], .int .i64 1048576] rfl (by (try simp only [List.map_toArray, List.map_cons, List.map_nil]); first | done | rfl | (simp only [List.length_drop, List.length_take]; rfl)) ?_; (with_reducible refine (laws_szNet.calls a0_0 _ _ l0_1 1048576 t724 _ ?side1 ?side2 A2.out).mono ?_); (case side1 => repeat (first | exact (Kd.C_below q0.out HB.out) | (with_reducible refine Kd.C_alloc ?_ _) | (with_reducible refine Kd.C_drewN ?_ _) | (with_reducible refine Kd.C_drew ?_))); (case side2 => exact q1.out); rintro e w20 ⟨rfl, hb⟩; refine ⟨_, rfl, ?_⟩; have n0_ := Aside0.mk (blk_below (g := p4) (o := .cells #[.int .i64 a0_0, .slice A0_1 l0_1.length c0_1] 38 (0, 0)) p0.out hb); have n1_ := Aside0.mk (below_step HB.out hb); clear p0; clear HB; have p0 := n0_; have HB := n1_; clear n0_ n1_; (try clear hb); (try clear hb2); (try clear hk); (try clear hi); have r0 : w20.cell? ⟨p4, 0, none⟩ = some (.int .i64 a0_0) := (blk_cell p0.out 0).trans rfl; have r1 : w20.cell? ⟨p4, 1, none⟩ = some (.slice A0_1 l0_1.length c0_1) := (blk_cell p0.out 1).trans rfl; have r2 := blk_frozen p0.out 0; have r3 := blk_frozen p0.out 1) | ((with_reducible refine gate_callee (f := 21) rfl ?_); refine goesL_ (some 17) rfl rfl Try.func21 (by kernel_rfl) rfl #[.agg #[.int .i64 a0_0, .slice A0_1 l0_1.length c0_1]] rfl (by (try simp only [List.map_toArray, List.map_cons, List.map_nil]); first | done | rfl | (simp only [List.length_drop, List.length_take]; rfl)) ?_; (with_reducible refine (laws_toNet.calls k a0_0 _ _ l0_1 t725 t726 _ ?side1 ?side2 A7.out).mono ?_); (case side1 => repeat (first | exact (Kd.C_below q0.out HB.out) | (with_reducible refine Kd.C_alloc ?_ _) | (with_reducible refine Kd.C_drewN ?_ _) | (with_reducible refine Kd.C_drew ?_))); (case side2 => exact q1.out); rintro e w22 ⟨v727, rfl, ho0, hb⟩; refine ⟨_, rfl, ?_⟩; have n0_ := Aside0.mk (Kd.R_lower ho0 (below_size HB.out)); have n1_ := Aside0.mk (blk_below (g := p4) (o := .cells #[.int .i64 a0_0, .slice A0_1 l0_1.length c0_1] 38 (0, 0)) p0.out hb); have n2_ := Aside0.mk (below_step HB.out hb); clear p0; clear HB; have HO728 := n0_; have p0 := n1_; have HB := n2_; clear n0_ n1_ n2_; (try clear hb); (try clear hb2); (try clear hk); (try clear hi); (try clear ho0); obtain ⟨Ao23, co23, eo23⟩ := Kd.R_slice HO728.out; subst eo23) | ((with_reducible refine gate_callee (f := 28) rfl ?_); refine goesL_ (some 18) rfl rfl Try.func28 (by kernel_rfl) rfl #[.agg #[.int .i64 t725, .slice Ao23 t726.length co23]] rfl (by (try simp only [List.map_toArray, List.map_cons, List.map_nil]); first | done | rfl | (simp only [List.length_drop, List.length_take]; rfl)) ?_; (with_reducible refine (spec_HubCount.calls k t725 _ _ t726 t729 _ ?side1 ?side2 A8.out).mono ?_); (case side1 => repeat (first | exact (Kd.R_reads' HO728.out).2.2 | (with_reducible refine Kd.C_alloc ?_ _) | (with_reducible refine Kd.C_drewN ?_ _) | (with_reducible refine Kd.C_drew ?_))); (case side2 => exact (Kd.R_reads' HO728.out).2.1); rintro e w24 ⟨v730, rfl, ho0, hb⟩; refine ⟨_, rfl, ?_⟩; have n0_ := Aside0.mk (Kd.R_below HO728.out hb); have n1_ := Aside0.mk (Kd.R_lower ho0 (below_size HB.out)); have n2_ := Aside0.mk (blk_below (g := p4) (o := .cells #[.int .i64 a0_0, .slice A0_1 l0_1.length c0_1] 38 (0, 0)) p0.out hb); have n3_ := Aside0.mk (below_step HB.out hb); clear HO728; clear p0; clear HB; have HO728 := n0_; have HO731 := n1_; have p0 := n2_; have HB := n3_; clear n0_ n1_ n2_ n3_; (try clear hb); (try clear hb2); (try clear hk); (try clear hi); (try clear ho0); have r4 : w24.cell? ⟨p4, 0, none⟩ = some (.int .i64 a0_0) := (blk_cell p0.out 0).trans rfl; have r5 : w24.cell? ⟨p4, 1, none⟩ = some (.slice A0_1 l0_1.length c0_1) := (blk_cell p0.out 1).trans rfl; have r6 := blk_frozen p0.out 0; have r7 := blk_frozen p0.out 1) | ((with_reducible refine gate_callee (f := 21) rfl ?_); refine goesL_ (some 20) rfl rfl Try.func21 (by kernel_rfl) rfl #[.agg #[.int .i64 a0_0, .slice A0_1 l0_1.length c0_1]] rfl (by (try simp only [List.map_toArray, List.map_cons, List.map_nil]); first | done | rfl | (simp only [List.length_drop, List.length_take]; rfl)) ?_; (with_reducible refine (laws_toNet.calls k a0_0 _ _ l0_1 t732 t733 _ ?side1 ?side2 A9.out).mono ?_); (case side1 => repeat (first | exact (Kd.C_below q0.out HB.out) | (with_reducible refine Kd.C_alloc ?_ _) | (with_reducible refine Kd.C_drewN ?_ _) | (with_reducible refine Kd.C_drew ?_))); (case side2 => exact q1.out); rintro e w26 ⟨v734, rfl, ho0, hb⟩; refine ⟨_, rfl, ?_⟩; have n0_ := Aside0.mk (Kd.R_elder' HO728.out (Kd.R_base ho0) hb); have n1_ := Aside0.mk (Kd.R_below HO731.out hb); have n2_ := Aside0.mk (Kd.R_lower (Kd.R_new' ho0 (Kd.R_lt HO728.out)) (below_size HB.out)); have n3_ := Aside0.mk (blk_below (g := p4) (o := .cells #[.int .i64 a0_0, .slice A0_1 l0_1.length c0_1] 38 (0, 0)) p0.out hb); have n4_ := Aside0.mk (below_step HB.out hb); clear HO728; clear HO731; clear p0; clear HB; have HO728 := n0_; have HO731 := n1_; have HO735 := n2_; have p0 := n3_; have HB := n4_; clear n0_ n1_ n2_ n3_ n4_; (try clear hb); (try clear hb2); (try clear hk); (try clear hi); (try clear ho0)) | ((with_reducible refine gate_dst (N := 5) rfl ?_); refine box_event ?hg (N := 5) ?hd (cs := #[.int .i64 0, .slice none 0 0]) (t := 25) ?hr ?_; (case hd => rfl); (case hg => rfl); (case hr => first | (go_simp; done) | (go_simp; rfl)); intro p5 hg w27 hbox hb; have n0_ := Aside0.mk (Kd.R_below HO728.out hb); have n1_ := Aside0.mk (Kd.R_below HO731.out hb); have n2_ := Aside0.mk (Kd.R_below HO735.out hb); have n3_ := Aside0.mk (blk_below (g := p4) (o := .cells #[.int .i64 a0_0, .slice A0_1 l0_1.length c0_1] 38 (0, 0)) p0.out hb); have n4_ := Aside0.mk (below_step HB.out hb); have n5_ := Aside0.mk (hbox); have n6_ := Aside0.mk ((by rw [hg]; exact (below_size HB.out) : w.heap.size ≤ p5)); have n7_ := Aside0.mk ((by rw [hg]; exact (below_size HB.out) : w.heap.size ≤ p5)); have n8_ := Aside0.mk ((by rw [hg]; exact Nat.ne_of_lt (blk_lt (g := p4) (o := .cells #[.int .i64 a0_0, .slice A0_1 l0_1.length c0_1] 38 (0, 0)) p0.out) : p4 ≠ p5)); have n9_ := Aside0.mk ((by rw [hg]; exact Nat.ne_of_gt (blk_lt (g := p4) (o := .cells #[.int .i64 a0_0, .slice A0_1 l0_1.length c0_1] 38 (0, 0)) p0.out) : p5 ≠ p4)); clear HO728; clear HO731; clear HO735; clear p0; clear HB; have HO728 := n0_; have HO731 := n1_; have HO735 := n2_; have p0 := n3_; have HB := n4_; have p1 := n5_; have GW736 := n6_; have p8 := n7_; have p6 := n8_; have p9 := n9_; clear n0_ n1_ n2_ n3_ n4_ n5_ n6_ n7_ n8_ n9_; clear hb hbox hg; have hnb28 := p9.out; have hnc28 := p6.out; have r8 : w27.cell? ⟨p5, 0, none⟩ = some (.int .i64 0) := (blk_cell p1.out 0).trans rfl; have r9 : w27.cell? ⟨p5, 1, none⟩ = some (.slice none 0 0) := (blk_cell p1.out 1).trans rfl; have s4 := blk_frozen p1.out 0; have s5 := blk_frozen p1.out 1; obtain ⟨Ao30, co30, eo30⟩ := Kd.R_slice HO735.out; subst eo30) | ((with_reducible refine gate_callee (f := 26) rfl ?_); refine goesL_ (some 22) rfl rfl Try.func26 (by kernel_rfl) rfl #[.agg #[.int .i64 t732, .slice Ao30 t733.length co30]] rfl (by (try simp only [List.map_toArray, List.map_cons, List.map_nil]); first | done | rfl | (simp only [List.length_drop, List.length_take]; rfl)) ?_; (with_reducible refine (impl_HubCount.calls k t732 _ _ t733 t737 _ ?side1 ?side2 A10.out).mono ?_); (case side1 => refine (Kd.R_reads' (e := 34) (base := w.heap.size) (ok := fun k_ => (True ∧ some k_ ≠ (.slice Ao23 t726.length co23 : Value).ownBlock)) (n := t733.length) (c := co30) ?_).2.2; exact (Kd.R_mono (Kd.R_far (p := ⟨p5, 1, none⟩) (Kd.R_far (p := ⟨p5, 0, none⟩) (Kd.R_types HO735.out p1.out (by decide)) (fun _ hk => hk.2) (.int .i64 t732)) (fun _ hk => hk.2) (.slice Ao30 t733.length co30)) (fun _ h_ => h_.1))); (case side2 => exact (Kd.R_reads' HO735.out).2.1); rintro e w31 ⟨v738, rfl, ho0, hb⟩; refine ⟨_, rfl, ?_⟩; have n0_ := Aside0.mk (Kd.R_below (Kd.R_mono (Kd.R_far (p := ⟨p5, 1, none⟩) (Kd.R_far (p := ⟨p5, 0, none⟩) (Kd.R_types HO728.out p1.out (by decide)) (fun _ hk => hk.2) (.int .i64 t732)) (fun _ hk => hk.2) (.slice Ao30 t733.length co30)) (fun _ h_ => h_.1)) hb); have n1_ := Aside0.mk (Kd.R_elder' (Kd.R_mono (Kd.R_far (p := ⟨p5, 1, none⟩) (Kd.R_far (p := ⟨p5, 0, none⟩) (Kd.R_types HO731.out p1.out (by decide)) (fun _ hk => hk.2) (.int .i64 t732)) (fun _ hk => hk.2) (.slice Ao30 t733.length co30)) (fun _ h_ => h_.1)) (Kd.R_base ho0) hb); have n2_ := Aside0.mk (Kd.R_below (Kd.R_mono (Kd.R_far (p := ⟨p5, 1, none⟩) (Kd.R_far (p := ⟨p5, 0, none⟩) (Kd.R_types HO735.out p1.out (by decide)) (fun _ hk => hk.2) (.int .i64 t732)) (fun _ hk => hk.2) (.slice Ao30 t733.length co30)) (fun _ h_ => h_.1)) hb); have n3_ := Aside0.mk (Kd.R_lower (Kd.R_new' ho0 (Kd.R_lt (Kd.R_mono (Kd.R_far (p := ⟨p5, 1, none⟩) (Kd.R_far (p := ⟨p5, 0, none⟩) (Kd.R_types HO731.out p1.out (by decide)) (fun _ hk => hk.2) (.int .i64 t732)) (fun _ hk => hk.2) (.slice Ao30 t733.length co30)) (fun _ h_ => h_.1)))) (below_size (by repeat (first | (with_reducible first | exact HB.out | apply below_alloc | apply pw_below_drewN | apply below_drew1 | refine below_set ?_ p7.out | refine below_set ?_ p8.out) | exact HB.out)))); have n4_ := Aside0.mk (blk_below (g := p4) (o := .cells #[.int .i64 a0_0, .slice A0_1 l0_1.length c0_1] 38 (0, 0)) (by refine blk_far ?_ p6.out _; refine blk_far ?_ p6.out _; exact p0.out) hb); have n5_ := Aside0.mk (blk_below (g := p5) (o := .cells #[.int .i64 t732, .slice Ao30 t733.length co30] 25 (0, 0)) (by refine blk_put (cs := #[.int .i64 t732, .slice none 0 0]) ?_ 1 _ rfl; refine blk_put (cs := #[.int .i64 0, .slice none 0 0]) ?_ 0 _ rfl; exact p1.out) hb); have n6_ := Aside0.mk (below_step (by repeat (first | (with_reducible first | exact HB.out | apply below_alloc | apply pw_below_drewN | apply below_drew1 | refine below_set ?_ p7.out | refine below_set ?_ p8.out) | exact HB.out)) hb); clear HO728; clear HO731; clear HO735; clear p0; clear p1; clear HB; have HO728 := n0_; have HO731 := n1_; have HO735 := n2_; have HO739 := n3_; have p0 := n4_; have p1 := n5_; have HB := n6_; clear n0_ n1_ n2_ n3_ n4_ n5_ n6_; (try clear hb); (try clear hb2); (try clear hk); (try clear hi); (try clear ho0); obtain ⟨Ao32, co32, eo32⟩ := Kd.R_slice HO739.out; subst eo32; obtain ⟨Ao33, co33, eo33⟩ := Kd.R_slice HO731.out; subst eo33) | ((with_reducible refine gate_callee (f := 32) rfl ?_); refine goesL_ (some 25) rfl rfl Try.func32 (by kernel_rfl) rfl #[.slice Ao32 t737.length co32, .slice Ao33 t729.length co33] rfl (by (try simp only [List.map_toArray, List.map_cons, List.map_nil]); first | done | rfl | (simp only [List.length_drop, List.length_take]; rfl)) ?_; (with_reducible refine (laws_eqIntS.calls k _ _ t737 _ _ t729 true _ ?side1 ?side2 ?side3 ?side4 A11.out).mono ?_); (case side1 => repeat (first | exact (Kd.R_reads' HO739.out).2.2 | (with_reducible refine Kd.C_alloc ?_ _) | (with_reducible refine Kd.C_drewN ?_ _) | (with_reducible refine Kd.C_drew ?_))); (case side2 => exact (Kd.R_reads' HO739.out).2.1); (case side3 => repeat (first | exact (Kd.R_reads' HO731.out).2.2 | (with_reducible refine Kd.C_alloc ?_ _) | (with_reducible refine Kd.C_drewN ?_ _) | (with_reducible refine Kd.C_drew ?_))); (case side4 => exact (Kd.R_reads' HO731.out).2.1); rintro e w' ⟨rfl, ⟨nd, rfl⟩⟩; refine ⟨_, rfl, ?_⟩))
 (try (rw [drewN_self w31]; generalize hq_ : World.drewN w31 _ = w31; have n0_ : Aside0 (Kd.R k34 34 w31 w.heap.size (fun k_ => some k_ ≠ (.slice Ao30 t733.length co30 : Value).ownBlock) (.slice Ao23 t726.length co23) t726) := ⟨by rw [← hq_]; exact (by exact Kd.R_mono HO728.out (fun _ hk => hk.2))⟩; have n1_ : Aside0 (Kd.R (Kd.int .i64) 3 w31 w.heap.size (fun k_ => some k_ ≠ (.slice Ao32 t737.length co32 : Value).ownBlock) (.slice Ao33 t729.length co33) t729) := ⟨by rw [← hq_]; exact (by exact Kd.R_mono HO731.out (fun _ hk => hk.2))⟩; have n2_ : Aside0 (Kd.R k34 34 w31 w.heap.size (fun k_ => some k_ ≠ (.slice Ao23 t726.length co23 : Value).ownBlock) (.slice Ao30 t733.length co30) t733) := ⟨by rw [← hq_]; exact (by exact Kd.R_mono HO735.out (fun _ hk => hk.2))⟩; have n3_ : Aside0 (Kd.R (Kd.int .i64) 3 w31 w.heap.size (fun k_ => some k_ ≠ (.slice Ao33 t729.length co33 : Value).ownBlock) (.slice Ao32 t737.length co32) t737) := ⟨by rw [← hq_]; exact (by exact Kd.R_mono HO739.out (fun _ hk => hk.2))⟩; have n4_ : Aside0 (w31.heap[p4]? = some (.cells #[.int .i64 a0_0, .slice A0_1 l0_1.length c0_1] 38 (0, 0))) := ⟨by rw [← hq_]; exact (by exact p0.out)⟩; have n5_ : Aside0 (w31.heap[p5]? = some (.cells #[.int .i64 t732, .slice Ao30 t733.length co30] 25 (0, 0))) := ⟨by rw [← hq_]; exact (by exact p1.out)⟩; have n6_ : Aside0 (Below w.heap.size w w31) := ⟨by rw [← hq_]; exact (by repeat (first | (with_reducible first | exact HB.out | apply below_alloc | apply pw_below_drewN | apply below_drew1 | refine below_set ?_ p7.out | refine below_set ?_ p8.out) | exact HB.out))⟩; clear HO728 HO731 HO735 HO739 p0 p1 HB hq_; have HO728 := n0_; have HO731 := n1_; have HO735 := n2_; have HO739 := n3_; have p0 := n4_; have p1 := n5_; have HB := n6_; clear n0_ n1_ n2_ n3_ n4_ n5_ n6_))
 have n0_ := Aside0.mk (Kd.R_drew HO728.out)
 have n1_ := Aside0.mk (Kd.R_drew HO731.out)
 have n2_ := Aside0.mk (Kd.R_drew HO735.out)
 have n3_ := Aside0.mk (Kd.R_drew HO739.out)
 have n4_ := Aside0.mk (blk_drew p0.out)
 have n5_ := Aside0.mk (blk_drew p1.out)
 have n6_ := Aside0.mk (below_drew1 HB.out)
 clear HO728
 clear HO731
 clear HO735
 clear HO739
 clear p0
 clear p1
 clear HB
 have HO728 := n0_
 have HO731 := n1_
 have HO735 := n2_
 have HO739 := n3_
 have p0 := n4_
 have p1 := n5_
 have HB := n6_
 clear n0_ n1_ n2_ n3_ n4_ n5_ n6_
 refine start_ (n := 5) (S := fun w' => w'.cell? ⟨p5, 0, none⟩ = some (.int .i64 t732) ∧ w'.cell? ⟨p5, 1, none⟩ = some (.slice Ao30 t733.length co30) ∧ w'.cell? ⟨p4, 0, none⟩ = some (.int .i64 a0_0) ∧ w'.cell? ⟨p4, 1, none⟩ = some (.slice A0_1 l0_1.length c0_1)) (ds := []) #[false, false, false, false, false] (by kernel_rfl) rfl rfl ⟨(blk_cell p1.out 0).trans rfl, (blk_cell p1.out 1).trans rfl, (blk_cell p0.out 0).trans rfl, (blk_cell p0.out 1).trans rfl⟩ (fun hHeld => ?_)
 generalize w31.drew = w34 at HO728 HO731 HO735 HO739 p0 p1 HB hHeld ⊢
 refine take_ (i := 0) (N := some 27) (v := ?_) (a' := ?_) #[true, false, false, false, false] rfl rfl (by kernel_rfl) (fun _ _ _ h => h) (Or.inl ⟨by rfl, ?_⟩) hHeld ?_ ?_
 rotate_left
 ·rintro w' ⟨s0, s1, s2, s3⟩
  go_simp
  with_reducible rfl
 rotate_left
 ·simp only [Act.put, List.setIfInBounds_toArray, List.set_cons_zero, List.set_cons_succ, i64_w, i32_w]
  rfl
 refine take_ (i := 1) (N := some 28) (v := ?_) (a' := ?_) #[true, true, false, false, false] rfl rfl (by kernel_rfl) (fun _ _ _ h => h) (Or.inl ⟨by rfl, ?_⟩) hHeld ?_ ?_
 rotate_left
 ·rintro w' ⟨s0, s1, s2, s3⟩
  go_simp
  with_reducible rfl
 rotate_left
 ·simp only [Act.put, List.setIfInBounds_toArray, List.set_cons_zero, List.set_cons_succ, i64_w, i32_w]
  rfl
 refine one_ (i := 2) (N := some 29) #[true, true, true, false, false] rfl rfl (by kernel_rfl) (by decide) (fun K hK => ?_)
 refine goes_ Try.func21 (by kernel_rfl) rfl #[.agg #[.int .i64 a0_0, .slice A0_1 l0_1.length c0_1]] (by rfl) rfl rfl (by (try simp only [List.map_toArray, List.map_cons, List.map_nil]); first | done | rfl | (simp only [List.length_drop, List.length_take]; rfl)) ?_
 with_reducible refine (laws_toNet.calls k a0_0 _ _ l0_1 t741 t742 _ ?side1 ?side2 A13.out).mono ?_
 (case side1 => repeat (first | exact (Kd.C_below q0.out HB.out) | (with_reducible refine Kd.C_alloc ?_ _) | (with_reducible refine Kd.C_drewN ?_ _) | (with_reducible refine Kd.C_drew ?_)))
 (case side2 => exact q1.out)
 rintro e w35 ⟨v743, rfl, ho0, hb⟩
 refine ⟨_, rfl, ?_⟩
 have n0_ := Aside0.mk (Kd.R_elder' HO728.out (Kd.R_base ho0) hb)
 have n1_ := Aside0.mk (Kd.R_below HO731.out hb)
 have n2_ := Aside0.mk (Kd.R_elder' HO735.out (Kd.R_base ho0) hb)
 have n3_ := Aside0.mk (Kd.R_below HO739.out hb)
 have n4_ := Aside0.mk (Kd.R_lower (Kd.R_new' (Kd.R_new' ho0 (Kd.R_lt HO728.out)) (Kd.R_lt HO735.out)) (below_size HB.out))
 have n5_ := Aside0.mk (blk_below (g := p4) (o := .cells #[.int .i64 a0_0, .slice A0_1 l0_1.length c0_1] 38 (0, 0)) p0.out hb)
 have n6_ := Aside0.mk (blk_below (g := p5) (o := .cells #[.int .i64 t732, .slice Ao30 t733.length co30] 25 (0, 0)) p1.out hb)
 have n7_ := Aside0.mk (below_step HB.out hb)
 clear HO728
 clear HO731
 clear HO735
 clear HO739
 clear p0
 clear p1
 clear HB
 have HO728 := n0_
 have HO731 := n1_
 have HO735 := n2_
 have HO739 := n3_
 have HO744 := n4_
 have p0 := n5_
 have p1 := n6_
 have HB := n7_
 clear n0_ n1_ n2_ n3_ n4_ n5_ n6_ n7_
 (try clear hb)
 (try clear hb2)
 (try clear hk)
 (try clear hi)
 (try clear ho0)
 obtain ⟨Ao36, co36, eo36⟩ := Kd.R_slice HO744.out
 (first | subst eo36 | (injection eo36 with f1_ f2_ f3_; have f4_ := f1_.symm; have f5_ := f3_.symm; clear f1_ f2_ f3_; subst f4_; subst f5_))
 refine hK.out _ _ ⟨(blk_cell p1.out 0).trans rfl, (blk_cell p1.out 1).trans rfl, (blk_cell p0.out 0).trans rfl, (blk_cell p0.out 1).trans rfl⟩ (fun hHeld => ?_)
 clear hK K
 refine norm_ (a' := ?_) ?_ ?_
 rotate_left
 ·show Act.put _ (some 29) _ = _
  simp only [Act.put, List.setIfInBounds_toArray, List.set_cons_zero, List.set_cons_succ, i64_w, i32_w]
  rfl
 refine one_ (i := 3) (N := some 30) #[true, true, true, true, false] rfl rfl (by kernel_rfl) (by decide) (fun K hK => ?_)
 refine goes_ Try.func23 (by kernel_rfl) rfl #[.agg #[.int .i64 t732, .slice Ao30 t733.length co30], .agg #[.int .i64 t741, .slice Ao36 t742.length co36]] (by rfl) rfl rfl (by (try simp only [List.map_toArray, List.map_cons, List.map_nil]); first | done | rfl | (simp only [List.length_drop, List.length_take]; rfl)) ?_
 with_reducible refine (laws_eqNet.calls k t732 _ _ t733 t741 _ _ t742 true _ ?side1 ?side2 ?side3 ?side4 A14.out).mono ?_
 (case side1 => repeat (first | exact (Kd.R_reads' HO735.out).2.2 | (with_reducible refine Kd.C_alloc ?_ _) | (with_reducible refine Kd.C_drewN ?_ _) | (with_reducible refine Kd.C_drew ?_)))
 (case side2 => exact (Kd.R_reads' HO735.out).2.1)
 (case side3 => repeat (first | exact (Kd.R_reads' HO744.out).2.2 | (with_reducible refine Kd.C_alloc ?_ _) | (with_reducible refine Kd.C_drewN ?_ _) | (with_reducible refine Kd.C_drew ?_)))
 (case side4 => exact (Kd.R_reads' HO744.out).2.1)
 rintro e w37 ⟨rfl, hb⟩
 refine ⟨_, rfl, ?_⟩
 have n0_ := Aside0.mk (Kd.R_below HO728.out hb)
 have n1_ := Aside0.mk (Kd.R_below HO731.out hb)
 have n2_ := Aside0.mk (Kd.R_below HO735.out hb)
 have n3_ := Aside0.mk (Kd.R_below HO739.out hb)
 have n4_ := Aside0.mk (Kd.R_below HO744.out hb)
 have n5_ := Aside0.mk (blk_below (g := p4) (o := .cells #[.int .i64 a0_0, .slice A0_1 l0_1.length c0_1] 38 (0, 0)) p0.out hb)
 have n6_ := Aside0.mk (blk_below (g := p5) (o := .cells #[.int .i64 t732, .slice Ao30 t733.length co30] 25 (0, 0)) p1.out hb)
 have n7_ := Aside0.mk (below_step HB.out hb)
 clear HO728
 clear HO731
 clear HO735
 clear HO739
 clear HO744
 clear p0
 clear p1
 clear HB
 have HO728 := n0_
 have HO731 := n1_
 have HO735 := n2_
 have HO739 := n3_
 have HO744 := n4_
 have p0 := n5_
 have p1 := n6_
 have HB := n7_
 clear n0_ n1_ n2_ n3_ n4_ n5_ n6_ n7_
 (try clear hb)
 (try clear hb2)
 (try clear hk)
 (try clear hi)
 refine hK.out _ _ ⟨(blk_cell p1.out 0).trans rfl, (blk_cell p1.out 1).trans rfl, (blk_cell p0.out 0).trans rfl, (blk_cell p0.out 1).trans rfl⟩ (fun hHeld => ?_)
 clear hK K
 refine norm_ (a' := ?_) ?_ ?_
 rotate_left
 ·show Act.put _ (some 30) _ = _
  simp only [Act.put, List.setIfInBounds_toArray, List.set_cons_zero, List.set_cons_succ, i64_w, i32_w]
  rfl
 refine pure_ (i := 4) (N := some 31) (v := ?_) (a' := ?_) #[true, true, true, true, true] rfl rfl (by kernel_rfl) (fun _ _ _ h => h) (Or.inl ⟨by rfl, ?_⟩) ?_ ?_
 rotate_left
 ·intro w'
  go_simp
  with_reducible rfl
 rotate_left
 ·simp only [Act.put, List.setIfInBounds_toArray, List.set_cons_zero, List.set_cons_succ, i64_w, i32_w]
  rfl
 refine done_ (by kernel_rfl) ?_
 have s6 : w37.cell? ⟨p5, 0, none⟩ = some (.int .i64 t732) := (blk_cell p1.out 0).trans rfl
 have s7 : w37.cell? ⟨p5, 1, none⟩ = some (.slice Ao30 t733.length co30) := (blk_cell p1.out 1).trans rfl
 have s8 := blk_frozen p1.out 0
 have s9 := blk_frozen p1.out 1
 go_upto_region 14 with (first | ((with_reducible refine gate_callee (f := 33) rfl ?_); refine goesL_ (some 34) rfl rfl Try.func33 (by kernel_rfl) rfl #[.agg #[.int .i64 t732, .slice Ao30 t733.length co30], .int .i64 1] rfl (by (try simp only [List.map_toArray, List.map_cons, List.map_nil]); first | done | rfl | (simp only [List.length_drop, List.length_take]; rfl)) ?_; (with_reducible refine (laws_markNet.calls k t732 (fun k_ => some k_ = (.slice Ao30 t733.length co30 : Value).ownBlock) (.slice Ao30 t733.length co30) t733 1 t746 t747 w _ ?side1 ?side2 A16.out).mono ?_); (case side1 => exact HB.out); (case side2 => exact Kd.R_tight rfl HO735.out); rintro e w39 ⟨rfl, hy0, hb, hkp⟩; refine ⟨_, rfl, ?_⟩; have n0_ := Aside0.mk (blk_kept p0.out hkp (fun hs_ => (fun e_ => (Kd.R_ne HO735.out p0.out (by decide)) e_) hs_)); have n1_ := Aside0.mk (Kd.R_mono (ok' := fun k_ => some k_ ≠ (.slice Ao30 t733.length co30 : Value).ownBlock ∧ some k_ ≠ (.slice Ao36 t742.length co36 : Value).ownBlock) (Kd.R_keptB (HO728.out) hkp (by intro k_ hk_ hs_; first | exact (hk_.1.2) hs_ | exact (hk_.1) hs_)) (by intro k_ hk_; first | exact ⟨hk_.1.1.2, hk_.1.2⟩ | exact ⟨hk_.1.1, hk_.1.2⟩)); have n2_ := Aside0.mk (Kd.R_mono (ok' := fun k_ => some k_ ≠ (.slice Ao32 t737.length co32 : Value).ownBlock) (Kd.R_keptB ((Kd.R_apart' HO731.out (Kd.R_typed HO735.out) (by decide))) hkp (fun k_ hk_ hs_ => (hk_.2) hs_)) (by intro k_ hk_; first | exact hk_.1.1.2 | exact hk_.1.1)); have n3_ := Aside0.mk (Kd.R_reok rfl hy0 (fun k_ e_ => HO735.out.1 k_ e_)); have n4_ := Aside0.mk (blk_kept p1.out hkp (fun hs_ => (fun e_ => (Kd.R_ne HO735.out p1.out (by decide)) e_) hs_)); have n5_ := Aside0.mk (Kd.R_mono (ok' := fun k_ => some k_ ≠ (.slice Ao33 t729.length co33 : Value).ownBlock) (Kd.R_keptB ((Kd.R_apart' HO739.out (Kd.R_typed HO735.out) (by decide))) hkp (fun k_ hk_ hs_ => (hk_.2) hs_)) (by intro k_ hk_; first | exact hk_.1.1.2 | exact hk_.1.1)); have n6_ := Aside0.mk (Kd.R_mono (ok' := fun k_ => some k_ ≠ (.slice Ao23 t726.length co23 : Value).ownBlock ∧ some k_ ≠ (.slice Ao30 t733.length co30 : Value).ownBlock) (Kd.R_keptB (HO744.out) hkp (fun k_ hk_ hs_ => (hk_.2) hs_)) (by intro k_ hk_; first | exact ⟨hk_.1.1.2, hk_.1.2⟩ | exact ⟨hk_.1.1, hk_.1.2⟩)); have n7_ := Aside0.mk (hb); clear p0; clear HO728; clear HO731; clear HO735; clear p1; clear HO739; clear HO744; clear HB; have p0 := n0_; have HO728 := n1_; have HO731 := n2_; have HO735 := n3_; have p1 := n4_; have HO739 := n5_; have HO744 := n6_; have HB := n7_; clear n0_ n1_ n2_ n3_ n4_ n5_ n6_ n7_; (try clear hb); (try clear hkp); (try clear hy0)))
 (try simp only [Act.put, List.setIfInBounds_toArray, List.set_cons_zero, List.set_cons_succ])
 go_cut [42] (fun v42 wc => ∃ (kq : Nat) (q2 : Bool), v42 = .bool q2 ∧ Aside0 (laws_FnExactHubCount.j0 kq t729 t737 q2 a0_0 l0_1 = some r) ∧ Aside0 (kq ≤ k) ∧ Aside0 (Kd.R (Kd.int .i64) 3 wc w.heap.size (fun k_ => some k_ ≠ ((.slice Ao32 t737.length co32) : Value).ownBlock) (.slice Ao33 t729.length co33) t729) ∧ Aside0 (Kd.R (Kd.int .i64) 3 wc w.heap.size (fun k_ => some k_ ≠ ((.slice Ao33 t729.length co33) : Value).ownBlock) (.slice Ao32 t737.length co32) t737) ∧ Aside0 (Kd.R k34 34 wc w.heap.size (fun _ => True) (.slice Ao30 t733.length co30) t747) ∧ Aside0 (wc.heap[p4]? = some (.cells #[.int .i64 a0_0, (.slice A0_1 l0_1.length c0_1)] 38 (0, 0))) ∧ Aside0 (wc.heap[p5]? = some (.cells #[.int .i64 t732, (.slice Ao30 t733.length co30)] 25 (0, 0))) ∧ Aside0 (Below w.heap.size w wc))
 case first =>
  have H := HC17.out
  clear HC17
  by_cases c40 : t746 < 0
  case pos =>
   rw [if_pos c40] at H
   have c40b0 : decide (t746 < 0) = true := decide_eq_true c40
   clear c40
   (first | rw [c40b0] | (simp only [i64_w, i32_w]; rw [c40b0]) | skip)
   have H' := Aside0.mk H
   clear H
   go_wp2
   go_meet
   case rel => exact ⟨_, (true), (by first | rfl | (simp; done) | (simp [*]; done)), H', ⟨by first | omega | exact Nat.le_refl _⟩, ⟨by exact HO731.out⟩, ⟨by exact HO739.out⟩, ⟨by exact Kd.R_mono HO735.out (fun _ hk => trivial)⟩, ⟨by exact p0.out⟩, ⟨by exact p1.out⟩, ⟨by repeat (first | (with_reducible first | exact HB.out | apply below_alloc | apply pw_below_drewN | apply below_drew1 | refine below_set ?_ p7.out | refine below_set ?_ p8.out) | exact HB.out)⟩⟩
  rw [if_neg c40] at H
  have c40b0 : decide (t746 < 0) = false := decide_eq_false c40
  clear c40
  (first | rw [c40b0] | (simp only [i64_w, i32_w]; rw [c40b0]) | skip)
  replace H := Option.bind_eq_some_iff.mp H
  obtain ⟨t748, A410, H⟩ := H
  replace H : (laws_FnExactHubCount.j0 k t729 t737 (!t748) a0_0 l0_1) = some r := H
  have A41 := Aside0.mk A410
  clear A410
  have H' := Aside0.mk H
  clear H
  go_wp2_with (first | (go_at_call 32; (with_reducible refine (laws_eqIntS.calls k _ _ t737 _ _ t729 t748 _ ?side1 ?side2 ?side3 ?side4 A41.out).mono ?_); (case side1 => repeat (first | exact (Kd.R_reads' HO739.out).2.2 | (with_reducible refine Kd.C_alloc ?_ _) | (with_reducible refine Kd.C_drewN ?_ _) | (with_reducible refine Kd.C_drew ?_))); (case side2 => exact (Kd.R_reads' HO739.out).2.1); (case side3 => repeat (first | exact (Kd.R_reads' HO731.out).2.2 | (with_reducible refine Kd.C_alloc ?_ _) | (with_reducible refine Kd.C_drewN ?_ _) | (with_reducible refine Kd.C_drew ?_))); (case side4 => exact (Kd.R_reads' HO731.out).2.1); rintro e w' ⟨rfl, ⟨nd, rfl⟩⟩))
  go_meet
  case rel => exact ⟨_, (!t748), (by first | rfl | (simp; done) | (simp [*]; done)), H', ⟨by first | omega | exact Nat.le_refl _⟩, ⟨by exact HO731.out⟩, ⟨by exact HO739.out⟩, ⟨by exact Kd.R_mono HO735.out (fun _ hk => trivial)⟩, ⟨by exact p0.out⟩, ⟨by exact p1.out⟩, ⟨by repeat (first | (with_reducible first | exact HB.out | apply below_alloc | apply pw_below_drewN | apply below_drew1 | refine below_set ?_ p7.out | refine below_set ?_ p8.out) | exact HB.out)⟩⟩
 case rest =>
  clear HC17
  try clear c1
  try clear c2
  try clear p2
  try clear c3
  try clear c3b0
  try clear c4
  try clear c9
  try clear c12
  try clear c15
  try clear c19
  try clear c21
  try clear c23
  try clear c26
  try clear c28
  try clear c32
  try clear c33
  try clear c40
  try clear c40b0
  try clear q6
  try clear q7
  try clear r0
  try clear r1
  try clear r4
  try clear r5
  try clear r8
  try clear r9
  try clear s6
  try clear s7
  try clear hcz5_0
  try clear hcz5_1
  try clear q8
  try clear q9
  try clear r2
  try clear r3
  try clear r6
  try clear r7
  try clear s4
  try clear s5
  try clear s8
  try clear s9
  try clear hfz5_0
  try clear hfz5_1
  obtain ⟨kq, q2, rfl, HA, HJ16, HO_4, HO_6, p3, p0, p1, HB⟩ := hcut
  have hl737001_16 := (Kd.R_reads' p3.out).1
  rw [hl737001_16] at p3
  (try simp only [hl737001_16])
  (try simp only [hl737001_16] at p0)
  (try simp only [hl737001_16] at p1)
  (try simp only [hl737001_16] at HO_4)
  (try simp only [hl737001_16] at HO_6)
  cases kq with
  | zero => exact absurd HA.out (by simp [laws_FnExactHubCount.j0])
  | succ kj16 =>
   have H := HA.out
   clear HA
   simp only [laws_FnExactHubCount.j0] at H
   by_cases c42 : q2 = true
   case pos =>
    subst c42
    have H1 : (some false) = some r := by rw [if_pos rfl] at H; exact H
    clear H
    have H := H1
    clear H1
    obtain rfl := Option.some.inj H
    go_wp2
    go_ret
    exact ⟨by first | rfl | (simp [errW_none, errW_some] <;> rfl) | (simp [*, errW_none, errW_some] <;> rfl), by repeat (first | (with_reducible first | exact HB.out | apply below_alloc | apply pw_below_drewN | apply below_drew1 | refine below_set ?_ p7.out | refine below_set ?_ p8.out) | exact HB.out)⟩
   replace c42 := Bool.eq_false_iff.mpr c42
   subst c42
   have H1 : ((laws_markIntS.f kj16 t737 1).bind fun bt749 => ((laws_heldIntS.f kj16 bt749.2 1).bind fun t751 => (if t751 < 0 then (some false) else (if t751 = bt749.1 then ((laws_toNet.f kj16 a0_0 l0_1).bind fun bt752 => ((impl_HubCount.f kj16 bt752.1 bt752.2).bind fun t756 => ((laws_eqIntS.f kj16 t756 t729).bind fun t759 => (if t759 = true then ((laws_heldIntS.f kj16 bt749.2 1).bind fun t760 => (if t760 < 0 then (some false) else (if t760 = bt749.1 then (some true) else (some false)))) else (some false))))) else (some false))))) = some r := by rw [if_neg (show ¬ (false = true) by decide)] at H; exact H
   clear H
   have H := H1
   clear H1
   replace H := Option.bind_eq_some_iff.mp H
   obtain ⟨⟨t749, t750⟩, A430, H⟩ := H
   replace H : ((laws_heldIntS.f kj16 t750 1).bind fun t751 => (if t751 < 0 then (some false) else (if t751 = t749 then ((laws_toNet.f kj16 a0_0 l0_1).bind fun bt752 => ((impl_HubCount.f kj16 bt752.1 bt752.2).bind fun t756 => ((laws_eqIntS.f kj16 t756 t729).bind fun t759 => (if t759 = true then ((laws_heldIntS.f kj16 t750 1).bind fun t760 => (if t760 < 0 then (some false) else (if t760 = t749 then (some true) else (some false)))) else (some false))))) else (some false)))) = some r := H
   have A43 := Aside0.mk A430
   clear A430
   replace H := Option.bind_eq_some_iff.mp H
   obtain ⟨t751, A440, H⟩ := H
   replace H : (if t751 < 0 then (some false) else (if t751 = t749 then ((laws_toNet.f kj16 a0_0 l0_1).bind fun bt752 => ((impl_HubCount.f kj16 bt752.1 bt752.2).bind fun t756 => ((laws_eqIntS.f kj16 t756 t729).bind fun t759 => (if t759 = true then ((laws_heldIntS.f kj16 t750 1).bind fun t760 => (if t760 < 0 then (some false) else (if t760 = t749 then (some true) else (some false)))) else (some false))))) else (some false))) = some r := H
   have A44 := Aside0.mk A440
   clear A440
   by_cases c45 : t751 < 0
   case pos =>
    rw [if_pos c45] at H
    have c45b0 : decide (t751 < 0) = true := decide_eq_true c45
    clear c45
    obtain rfl := Option.some.inj H
    go_wp2_with (first | ((with_reducible refine gate_callee (f := 34) rfl ?_); refine goesL_ (some 45) rfl rfl Try.func34 (by kernel_rfl) rfl #[.slice Ao32 t737.length co32, .int .i64 1] rfl (by (try simp only [List.map_toArray, List.map_cons, List.map_nil]); first | done | rfl | (simp only [List.length_drop, List.length_take]; rfl)) ?_; (with_reducible refine (laws_markIntS.calls kj16 (fun k_ => some k_ = (.slice Ao32 t737.length co32 : Value).ownBlock) (.slice Ao32 t737.length co32) t737 1 t749 t750 w _ ?side1 ?side2 A43.out).mono ?_); (case side1 => exact HB.out); (case side2 => exact Kd.R_tight rfl HO_6.out); rintro e w46 ⟨rfl, hy0, hb, hkp⟩; refine ⟨_, rfl, ?_⟩; have n0_ := Aside0.mk (Kd.R_mono (ok' := fun k_ => some k_ ≠ (.slice Ao32 t737.length co32 : Value).ownBlock) (Kd.R_keptB (HO_4.out) hkp (fun k_ hk_ hs_ => (hk_) hs_)) (fun k_ hk_ => hk_.1)); have n1_ := Aside0.mk (Kd.R_reok rfl hy0 (fun k_ e_ => HO_6.out.1 k_ e_)); have n2_ := Aside0.mk (Kd.R_mono (ok' := fun k_ => True) (Kd.R_keptB ((Kd.R_apart' p3.out (Kd.R_typed HO_6.out) (by decide))) hkp (fun k_ hk_ hs_ => (hk_.2) hs_)) (fun k_ hk_ => trivial)); have n3_ := Aside0.mk (blk_kept p0.out hkp (fun hs_ => (fun e_ => (Kd.R_ne HO_6.out p0.out (by decide)) e_) hs_)); have n4_ := Aside0.mk (blk_kept p1.out hkp (fun hs_ => (fun e_ => (Kd.R_ne HO_6.out p1.out (by decide)) e_) hs_)); have n5_ := Aside0.mk (hb); clear HO_4; clear HO_6; clear p3; clear p0; clear p1; clear HB; have HO_4 := n0_; have HO_6 := n1_; have p3 := n2_; have p0 := n3_; have p1 := n4_; have HB := n5_; clear n0_ n1_ n2_ n3_ n4_ n5_; (try clear hb); (try clear hkp); (try clear hy0)) | ((with_reducible refine gate_callee (f := 35) rfl ?_); refine goesL_ (some 48) rfl rfl Try.func35 (by kernel_rfl) rfl #[.slice Ao32 t750.length co32, .int .i64 1] rfl (by (try simp only [List.map_toArray, List.map_cons, List.map_nil]); first | done | (rw [show t750.length = t737.length from (Kd.R_reads' HO_6.out).1.symm] <;> rfl) | rfl | (simp only [List.length_drop, List.length_take]; rfl)) ?_; (with_reducible refine (laws_heldIntS.calls kj16 _ _ t750 1 t751 _ ?side1 ?side2 A44.out).mono ?_); (case side1 => repeat (first | exact (Kd.R_reads' HO_6.out).2.2 | (with_reducible refine Kd.C_alloc ?_ _) | (with_reducible refine Kd.C_drewN ?_ _) | (with_reducible refine Kd.C_drew ?_))); (case side2 => rw [show t750.length = t737.length from (Kd.R_reads' HO_6.out).1.symm]; exact (Kd.R_reads' HO_6.out).2.1); rintro e w' ⟨rfl, ⟨nd, rfl⟩⟩; refine ⟨_, rfl, ?_⟩))
    go_ret
    exact ⟨by first | rfl | (simp [errW_none, errW_some] <;> rfl) | (simp [*, errW_none, errW_some] <;> rfl), by repeat (first | (with_reducible first | exact HB.out | apply below_alloc | apply pw_below_drewN | apply below_drew1 | refine below_set ?_ p7.out | refine below_set ?_ p8.out) | exact HB.out)⟩
   rw [if_neg c45] at H
   have c45b0 : decide (t751 < 0) = false := decide_eq_false c45
   clear c45
   by_cases c47 : t751 = t749
   case neg =>
    rw [if_neg c47] at H
    have c47b0 : (t751 == t749) = false := beq_eq_false_iff_ne.mpr c47
    have c47b1 : (t751 != t749) = true := bne_iff_ne.mpr c47
    obtain rfl := Option.some.inj H
    go_wp2_with (first | ((with_reducible refine gate_callee (f := 34) rfl ?_); refine goesL_ (some 45) rfl rfl Try.func34 (by kernel_rfl) rfl #[.slice Ao32 t737.length co32, .int .i64 1] rfl (by (try simp only [List.map_toArray, List.map_cons, List.map_nil]); first | done | rfl | (simp only [List.length_drop, List.length_take]; rfl)) ?_; (with_reducible refine (laws_markIntS.calls kj16 (fun k_ => some k_ = (.slice Ao32 t737.length co32 : Value).ownBlock) (.slice Ao32 t737.length co32) t737 1 t749 t750 w _ ?side1 ?side2 A43.out).mono ?_); (case side1 => exact HB.out); (case side2 => exact Kd.R_tight rfl HO_6.out); rintro e w83 ⟨rfl, hy0, hb, hkp⟩; refine ⟨_, rfl, ?_⟩; have n0_ := Aside0.mk (Kd.R_mono (ok' := fun k_ => some k_ ≠ (.slice Ao32 t737.length co32 : Value).ownBlock) (Kd.R_keptB (HO_4.out) hkp (fun k_ hk_ hs_ => (hk_) hs_)) (fun k_ hk_ => hk_.1)); have n1_ := Aside0.mk (Kd.R_reok rfl hy0 (fun k_ e_ => HO_6.out.1 k_ e_)); have n2_ := Aside0.mk (Kd.R_mono (ok' := fun k_ => True) (Kd.R_keptB ((Kd.R_apart' p3.out (Kd.R_typed HO_6.out) (by decide))) hkp (fun k_ hk_ hs_ => (hk_.2) hs_)) (fun k_ hk_ => trivial)); have n3_ := Aside0.mk (blk_kept p0.out hkp (fun hs_ => (fun e_ => (Kd.R_ne HO_6.out p0.out (by decide)) e_) hs_)); have n4_ := Aside0.mk (blk_kept p1.out hkp (fun hs_ => (fun e_ => (Kd.R_ne HO_6.out p1.out (by decide)) e_) hs_)); have n5_ := Aside0.mk (hb); clear HO_4; clear HO_6; clear p3; clear p0; clear p1; clear HB; have HO_4 := n0_; have HO_6 := n1_; have p3 := n2_; have p0 := n3_; have p1 := n4_; have HB := n5_; clear n0_ n1_ n2_ n3_ n4_ n5_; (try clear hb); (try clear hkp); (try clear hy0)) | ((with_reducible refine gate_callee (f := 35) rfl ?_); refine goesL_ (some 48) rfl rfl Try.func35 (by kernel_rfl) rfl #[.slice Ao32 t750.length co32, .int .i64 1] rfl (by (try simp only [List.map_toArray, List.map_cons, List.map_nil]); first | done | (rw [show t750.length = t737.length from (Kd.R_reads' HO_6.out).1.symm] <;> rfl) | rfl | (simp only [List.length_drop, List.length_take]; rfl)) ?_; (with_reducible refine (laws_heldIntS.calls kj16 _ _ t750 1 t751 _ ?side1 ?side2 A44.out).mono ?_); (case side1 => repeat (first | exact (Kd.R_reads' HO_6.out).2.2 | (with_reducible refine Kd.C_alloc ?_ _) | (with_reducible refine Kd.C_drewN ?_ _) | (with_reducible refine Kd.C_drew ?_))); (case side2 => rw [show t750.length = t737.length from (Kd.R_reads' HO_6.out).1.symm]; exact (Kd.R_reads' HO_6.out).2.1); rintro e w' ⟨rfl, ⟨nd, rfl⟩⟩; refine ⟨_, rfl, ?_⟩))
    go_ret
    exact ⟨by first | rfl | (simp [errW_none, errW_some] <;> rfl) | (simp [*, errW_none, errW_some] <;> rfl), by repeat (first | (with_reducible first | exact HB.out | apply below_alloc | apply pw_below_drewN | apply below_drew1 | refine below_set ?_ p7.out | refine below_set ?_ p8.out) | exact HB.out)⟩
   rw [if_pos c47] at H
   have c47b0 : (t751 == t749) = true := beq_iff_eq.mpr c47
   have c47b1 : (t751 != t749) = false := bne_eq_false_iff_eq.mpr c47
   clear c47
   replace H := Option.bind_eq_some_iff.mp H
   obtain ⟨⟨t752, t753⟩, A480, H⟩ := H
   replace H : ((impl_HubCount.f kj16 t752 t753).bind fun t756 => ((laws_eqIntS.f kj16 t756 t729).bind fun t759 => (if t759 = true then ((laws_heldIntS.f kj16 t750 1).bind fun t760 => (if t760 < 0 then (some false) else (if t760 = t749 then (some true) else (some false)))) else (some false)))) = some r := H
   have A48 := Aside0.mk A480
   clear A480
   replace H := Option.bind_eq_some_iff.mp H
   obtain ⟨t756, A490, H⟩ := H
   replace H : ((laws_eqIntS.f kj16 t756 t729).bind fun t759 => (if t759 = true then ((laws_heldIntS.f kj16 t750 1).bind fun t760 => (if t760 < 0 then (some false) else (if t760 = t749 then (some true) else (some false)))) else (some false))) = some r := H
   have A49 := Aside0.mk A490
   clear A490
   replace H := Option.bind_eq_some_iff.mp H
   obtain ⟨t759, A500, H⟩ := H
   replace H : (if t759 = true then ((laws_heldIntS.f kj16 t750 1).bind fun t760 => (if t760 < 0 then (some false) else (if t760 = t749 then (some true) else (some false)))) else (some false)) = some r := H
   have A50 := Aside0.mk A500
   clear A500
   by_cases c51 : t759 = true
   case neg =>
    replace c51 := Bool.eq_false_iff.mpr c51
    subst c51
    have H1 : (some false) = some r := by rw [if_neg (show ¬ (false = true) by decide)] at H; exact H
    clear H
    have H := H1
    clear H1
    obtain rfl := Option.some.inj H
    go_wp2_with (first | ((with_reducible refine gate_callee (f := 34) rfl ?_); refine goesL_ (some 45) rfl rfl Try.func34 (by kernel_rfl) rfl #[.slice Ao32 t737.length co32, .int .i64 1] rfl (by (try simp only [List.map_toArray, List.map_cons, List.map_nil]); first | done | rfl | (simp only [List.length_drop, List.length_take]; rfl)) ?_; (with_reducible refine (laws_markIntS.calls kj16 (fun k_ => some k_ = (.slice Ao32 t737.length co32 : Value).ownBlock) (.slice Ao32 t737.length co32) t737 1 t749 t750 w _ ?side1 ?side2 A43.out).mono ?_); (case side1 => exact HB.out); (case side2 => exact Kd.R_tight rfl HO_6.out); rintro e w76 ⟨rfl, hy0, hb, hkp⟩; refine ⟨_, rfl, ?_⟩; have n0_ := Aside0.mk (Kd.R_mono (ok' := fun k_ => some k_ ≠ (.slice Ao32 t737.length co32 : Value).ownBlock) (Kd.R_keptB (HO_4.out) hkp (fun k_ hk_ hs_ => (hk_) hs_)) (fun k_ hk_ => hk_.1)); have n1_ := Aside0.mk (Kd.R_reok rfl hy0 (fun k_ e_ => HO_6.out.1 k_ e_)); have n2_ := Aside0.mk (Kd.R_mono (ok' := fun k_ => True) (Kd.R_keptB ((Kd.R_apart' p3.out (Kd.R_typed HO_6.out) (by decide))) hkp (fun k_ hk_ hs_ => (hk_.2) hs_)) (fun k_ hk_ => trivial)); have n3_ := Aside0.mk (blk_kept p0.out hkp (fun hs_ => (fun e_ => (Kd.R_ne HO_6.out p0.out (by decide)) e_) hs_)); have n4_ := Aside0.mk (blk_kept p1.out hkp (fun hs_ => (fun e_ => (Kd.R_ne HO_6.out p1.out (by decide)) e_) hs_)); have n5_ := Aside0.mk (hb); clear HO_4; clear HO_6; clear p3; clear p0; clear p1; clear HB; have HO_4 := n0_; have HO_6 := n1_; have p3 := n2_; have p0 := n3_; have p1 := n4_; have HB := n5_; clear n0_ n1_ n2_ n3_ n4_ n5_; (try clear hb); (try clear hkp); (try clear hy0)) | ((with_reducible refine gate_callee (f := 35) rfl ?_); refine goesL_ (some 48) rfl rfl Try.func35 (by kernel_rfl) rfl #[.slice Ao32 t750.length co32, .int .i64 1] rfl (by (try simp only [List.map_toArray, List.map_cons, List.map_nil]); first | done | (rw [show t750.length = t737.length from (Kd.R_reads' HO_6.out).1.symm] <;> rfl) | rfl | (simp only [List.length_drop, List.length_take]; rfl)) ?_; (with_reducible refine (laws_heldIntS.calls kj16 _ _ t750 1 t751 _ ?side1 ?side2 A44.out).mono ?_); (case side1 => repeat (first | exact (Kd.R_reads' HO_6.out).2.2 | (with_reducible refine Kd.C_alloc ?_ _) | (with_reducible refine Kd.C_drewN ?_ _) | (with_reducible refine Kd.C_drew ?_))); (case side2 => rw [show t750.length = t737.length from (Kd.R_reads' HO_6.out).1.symm]; exact (Kd.R_reads' HO_6.out).2.1); rintro e w' ⟨rfl, ⟨nd, rfl⟩⟩; refine ⟨_, rfl, ?_⟩; have hnb77 := p6.out; have hnc77 := p9.out; have hcz78_0 : w76.cell? ⟨p4, 0, none⟩ = some (.int .i64 a0_0) := (blk_cell p0.out 0).trans rfl; have hcz78_1 : w76.cell? ⟨p4, 1, none⟩ = some (.slice A0_1 l0_1.length c0_1) := (blk_cell p0.out 1).trans rfl; have hfz78_0 := blk_frozen p0.out 0; have hfz78_1 := blk_frozen p0.out 1) | ((with_reducible refine gate_callee (f := 21) rfl ?_); refine goesL_ (some 55) rfl rfl Try.func21 (by kernel_rfl) rfl #[.agg #[.int .i64 a0_0, .slice A0_1 l0_1.length c0_1]] rfl (by (try simp only [List.map_toArray, List.map_cons, List.map_nil]); first | done | rfl | (simp only [List.length_drop, List.length_take]; rfl)) ?_; (with_reducible refine (laws_toNet.calls kj16 a0_0 _ _ l0_1 t752 t753 _ ?side1 ?side2 A48.out).mono ?_); (case side1 => repeat (first | exact (Kd.C_below q0.out (by repeat (first | (with_reducible first | exact HB.out | apply below_alloc | apply pw_below_drewN | apply below_drew1 | refine below_set ?_ p7.out | refine below_set ?_ p8.out) | exact HB.out))) | (with_reducible refine Kd.C_alloc ?_ _) | (with_reducible refine Kd.C_drewN ?_ _) | (with_reducible refine Kd.C_drew ?_))); (case side2 => exact q1.out); rintro e w79 ⟨v754, rfl, ho0, hb⟩; refine ⟨_, rfl, ?_⟩; have n0_ := Aside0.mk (Kd.R_below (by exact HO_4.out) hb); have n1_ := Aside0.mk (Kd.R_below (by exact HO_6.out) hb); have n2_ := Aside0.mk (Kd.R_elder' (by exact p3.out) (Kd.R_base ho0) hb); have n3_ := Aside0.mk (Kd.R_lower (Kd.R_new' ho0 (Kd.R_lt (by exact p3.out))) (below_size (by repeat (first | (with_reducible first | exact HB.out | apply below_alloc | apply pw_below_drewN | apply below_drew1 | refine below_set ?_ p7.out | refine below_set ?_ p8.out) | exact HB.out)))); have n4_ := Aside0.mk (blk_below (g := p4) (o := .cells #[.int .i64 a0_0, .slice A0_1 l0_1.length c0_1] 38 (0, 0)) (by exact p0.out) hb); have n5_ := Aside0.mk (blk_below (g := p5) (o := .cells #[.int .i64 t732, .slice Ao30 t747.length co30] 25 (0, 0)) (by exact p1.out) hb); have n6_ := Aside0.mk (below_step (by repeat (first | (with_reducible first | exact HB.out | apply below_alloc | apply pw_below_drewN | apply below_drew1 | refine below_set ?_ p7.out | refine below_set ?_ p8.out) | exact HB.out)) hb); clear HO_4; clear HO_6; clear p3; clear p0; clear p1; clear HB; have HO_4 := n0_; have HO_6 := n1_; have p3 := n2_; have HO755 := n3_; have p0 := n4_; have p1 := n5_; have HB := n6_; clear n0_ n1_ n2_ n3_ n4_ n5_ n6_; (try clear hb); (try clear hb2); (try clear hk); (try clear hi); (try clear ho0); obtain ⟨Ao80, co80, eo80⟩ := Kd.R_slice HO755.out; subst eo80) | ((with_reducible refine gate_callee (f := 26) rfl ?_); refine goesL_ (some 56) rfl rfl Try.func26 (by kernel_rfl) rfl #[.agg #[.int .i64 t752, .slice Ao80 t753.length co80]] rfl (by (try simp only [List.map_toArray, List.map_cons, List.map_nil]); first | done | rfl | (simp only [List.length_drop, List.length_take]; rfl)) ?_; (with_reducible refine (impl_HubCount.calls kj16 t752 _ _ t753 t756 _ ?side1 ?side2 A49.out).mono ?_); (case side1 => repeat (first | exact (Kd.R_reads' HO755.out).2.2 | (with_reducible refine Kd.C_alloc ?_ _) | (with_reducible refine Kd.C_drewN ?_ _) | (with_reducible refine Kd.C_drew ?_))); (case side2 => exact (Kd.R_reads' HO755.out).2.1); rintro e w81 ⟨v757, rfl, ho0, hb⟩; refine ⟨_, rfl, ?_⟩; have n0_ := Aside0.mk (Kd.R_elder' HO_4.out (Kd.R_base ho0) hb); have n1_ := Aside0.mk (Kd.R_elder' HO_6.out (Kd.R_base ho0) hb); have n2_ := Aside0.mk (Kd.R_below p3.out hb); have n3_ := Aside0.mk (Kd.R_below HO755.out hb); have n4_ := Aside0.mk (Kd.R_lower (Kd.R_new' (Kd.R_new' ho0 (Kd.R_lt HO_4.out)) (Kd.R_lt HO_6.out)) (below_size HB.out)); have n5_ := Aside0.mk (blk_below (g := p4) (o := .cells #[.int .i64 a0_0, .slice A0_1 l0_1.length c0_1] 38 (0, 0)) p0.out hb); have n6_ := Aside0.mk (blk_below (g := p5) (o := .cells #[.int .i64 t732, .slice Ao30 t747.length co30] 25 (0, 0)) p1.out hb); have n7_ := Aside0.mk (below_step HB.out hb); clear HO_4; clear HO_6; clear p3; clear HO755; clear p0; clear p1; clear HB; have HO_4 := n0_; have HO_6 := n1_; have p3 := n2_; have HO755 := n3_; have HO758 := n4_; have p0 := n5_; have p1 := n6_; have HB := n7_; clear n0_ n1_ n2_ n3_ n4_ n5_ n6_ n7_; (try clear hb); (try clear hb2); (try clear hk); (try clear hi); (try clear ho0); obtain ⟨Ao82, co82, eo82⟩ := Kd.R_slice HO758.out; subst eo82) | ((with_reducible refine gate_callee (f := 32) rfl ?_); refine goesL_ (some 59) rfl rfl Try.func32 (by kernel_rfl) rfl #[.slice Ao82 t756.length co82, .slice Ao33 t729.length co33] rfl (by (try simp only [List.map_toArray, List.map_cons, List.map_nil]); first | done | rfl | (simp only [List.length_drop, List.length_take]; rfl)) ?_; (with_reducible refine (laws_eqIntS.calls kj16 _ _ t756 _ _ t729 false _ ?side1 ?side2 ?side3 ?side4 A50.out).mono ?_); (case side1 => repeat (first | exact (Kd.R_reads' HO758.out).2.2 | (with_reducible refine Kd.C_alloc ?_ _) | (with_reducible refine Kd.C_drewN ?_ _) | (with_reducible refine Kd.C_drew ?_))); (case side2 => exact (Kd.R_reads' HO758.out).2.1); (case side3 => repeat (first | exact (Kd.R_reads' HO_4.out).2.2 | (with_reducible refine Kd.C_alloc ?_ _) | (with_reducible refine Kd.C_drewN ?_ _) | (with_reducible refine Kd.C_drew ?_))); (case side4 => exact (Kd.R_reads' HO_4.out).2.1); rintro e w' ⟨rfl, ⟨nd, rfl⟩⟩; refine ⟨_, rfl, ?_⟩))
    go_ret
    exact ⟨by first | rfl | (simp [errW_none, errW_some] <;> rfl) | (simp [*, errW_none, errW_some] <;> rfl), by repeat (first | (with_reducible first | exact HB.out | apply below_alloc | apply pw_below_drewN | apply below_drew1 | refine below_set ?_ p7.out | refine below_set ?_ p8.out) | exact HB.out)⟩
   subst c51
   have H1 : ((laws_heldIntS.f kj16 t750 1).bind fun t760 => (if t760 < 0 then (some false) else (if t760 = t749 then (some true) else (some false)))) = some r := by rw [if_pos rfl] at H; exact H
   clear H
   have H := H1
   clear H1
   replace H := Option.bind_eq_some_iff.mp H
   obtain ⟨t760, A520, H⟩ := H
   replace H : (if t760 < 0 then (some false) else (if t760 = t749 then (some true) else (some false))) = some r := H
   have A52 := Aside0.mk A520
   clear A520
   by_cases c53 : t760 < 0
   case pos =>
    rw [if_pos c53] at H
    have c53b0 : decide (t760 < 0) = true := decide_eq_true c53
    clear c53
    obtain rfl := Option.some.inj H
    go_wp2_with (first | ((with_reducible refine gate_callee (f := 34) rfl ?_); refine goesL_ (some 45) rfl rfl Try.func34 (by kernel_rfl) rfl #[.slice Ao32 t737.length co32, .int .i64 1] rfl (by (try simp only [List.map_toArray, List.map_cons, List.map_nil]); first | done | rfl | (simp only [List.length_drop, List.length_take]; rfl)) ?_; (with_reducible refine (laws_markIntS.calls kj16 (fun k_ => some k_ = (.slice Ao32 t737.length co32 : Value).ownBlock) (.slice Ao32 t737.length co32) t737 1 t749 t750 w _ ?side1 ?side2 A43.out).mono ?_); (case side1 => exact HB.out); (case side2 => exact Kd.R_tight rfl HO_6.out); rintro e w54 ⟨rfl, hy0, hb, hkp⟩; refine ⟨_, rfl, ?_⟩; have n0_ := Aside0.mk (Kd.R_mono (ok' := fun k_ => some k_ ≠ (.slice Ao32 t737.length co32 : Value).ownBlock) (Kd.R_keptB (HO_4.out) hkp (fun k_ hk_ hs_ => (hk_) hs_)) (fun k_ hk_ => hk_.1)); have n1_ := Aside0.mk (Kd.R_reok rfl hy0 (fun k_ e_ => HO_6.out.1 k_ e_)); have n2_ := Aside0.mk (Kd.R_mono (ok' := fun k_ => True) (Kd.R_keptB ((Kd.R_apart' p3.out (Kd.R_typed HO_6.out) (by decide))) hkp (fun k_ hk_ hs_ => (hk_.2) hs_)) (fun k_ hk_ => trivial)); have n3_ := Aside0.mk (blk_kept p0.out hkp (fun hs_ => (fun e_ => (Kd.R_ne HO_6.out p0.out (by decide)) e_) hs_)); have n4_ := Aside0.mk (blk_kept p1.out hkp (fun hs_ => (fun e_ => (Kd.R_ne HO_6.out p1.out (by decide)) e_) hs_)); have n5_ := Aside0.mk (hb); clear HO_4; clear HO_6; clear p3; clear p0; clear p1; clear HB; have HO_4 := n0_; have HO_6 := n1_; have p3 := n2_; have p0 := n3_; have p1 := n4_; have HB := n5_; clear n0_ n1_ n2_ n3_ n4_ n5_; (try clear hb); (try clear hkp); (try clear hy0)) | ((with_reducible refine gate_callee (f := 35) rfl ?_); refine goesL_ (some 48) rfl rfl Try.func35 (by kernel_rfl) rfl #[.slice Ao32 t750.length co32, .int .i64 1] rfl (by (try simp only [List.map_toArray, List.map_cons, List.map_nil]); first | done | (rw [show t750.length = t737.length from (Kd.R_reads' HO_6.out).1.symm] <;> rfl) | rfl | (simp only [List.length_drop, List.length_take]; rfl)) ?_; (with_reducible refine (laws_heldIntS.calls kj16 _ _ t750 1 t751 _ ?side1 ?side2 A44.out).mono ?_); (case side1 => repeat (first | exact (Kd.R_reads' HO_6.out).2.2 | (with_reducible refine Kd.C_alloc ?_ _) | (with_reducible refine Kd.C_drewN ?_ _) | (with_reducible refine Kd.C_drew ?_))); (case side2 => rw [show t750.length = t737.length from (Kd.R_reads' HO_6.out).1.symm]; exact (Kd.R_reads' HO_6.out).2.1); rintro e w' ⟨rfl, ⟨nd, rfl⟩⟩; refine ⟨_, rfl, ?_⟩; have hnb55 := p6.out; have hnc55 := p9.out; have hcz56_0 : w54.cell? ⟨p4, 0, none⟩ = some (.int .i64 a0_0) := (blk_cell p0.out 0).trans rfl; have hcz56_1 : w54.cell? ⟨p4, 1, none⟩ = some (.slice A0_1 l0_1.length c0_1) := (blk_cell p0.out 1).trans rfl; have hfz56_0 := blk_frozen p0.out 0; have hfz56_1 := blk_frozen p0.out 1) | ((with_reducible refine gate_callee (f := 21) rfl ?_); refine goesL_ (some 55) rfl rfl Try.func21 (by kernel_rfl) rfl #[.agg #[.int .i64 a0_0, .slice A0_1 l0_1.length c0_1]] rfl (by (try simp only [List.map_toArray, List.map_cons, List.map_nil]); first | done | rfl | (simp only [List.length_drop, List.length_take]; rfl)) ?_; (with_reducible refine (laws_toNet.calls kj16 a0_0 _ _ l0_1 t752 t753 _ ?side1 ?side2 A48.out).mono ?_); (case side1 => repeat (first | exact (Kd.C_below q0.out (by repeat (first | (with_reducible first | exact HB.out | apply below_alloc | apply pw_below_drewN | apply below_drew1 | refine below_set ?_ p7.out | refine below_set ?_ p8.out) | exact HB.out))) | (with_reducible refine Kd.C_alloc ?_ _) | (with_reducible refine Kd.C_drewN ?_ _) | (with_reducible refine Kd.C_drew ?_))); (case side2 => exact q1.out); rintro e w57 ⟨v754, rfl, ho0, hb⟩; refine ⟨_, rfl, ?_⟩; have n0_ := Aside0.mk (Kd.R_below (by exact HO_4.out) hb); have n1_ := Aside0.mk (Kd.R_below (by exact HO_6.out) hb); have n2_ := Aside0.mk (Kd.R_elder' (by exact p3.out) (Kd.R_base ho0) hb); have n3_ := Aside0.mk (Kd.R_lower (Kd.R_new' ho0 (Kd.R_lt (by exact p3.out))) (below_size (by repeat (first | (with_reducible first | exact HB.out | apply below_alloc | apply pw_below_drewN | apply below_drew1 | refine below_set ?_ p7.out | refine below_set ?_ p8.out) | exact HB.out)))); have n4_ := Aside0.mk (blk_below (g := p4) (o := .cells #[.int .i64 a0_0, .slice A0_1 l0_1.length c0_1] 38 (0, 0)) (by exact p0.out) hb); have n5_ := Aside0.mk (blk_below (g := p5) (o := .cells #[.int .i64 t732, .slice Ao30 t747.length co30] 25 (0, 0)) (by exact p1.out) hb); have n6_ := Aside0.mk (below_step (by repeat (first | (with_reducible first | exact HB.out | apply below_alloc | apply pw_below_drewN | apply below_drew1 | refine below_set ?_ p7.out | refine below_set ?_ p8.out) | exact HB.out)) hb); clear HO_4; clear HO_6; clear p3; clear p0; clear p1; clear HB; have HO_4 := n0_; have HO_6 := n1_; have p3 := n2_; have HO755 := n3_; have p0 := n4_; have p1 := n5_; have HB := n6_; clear n0_ n1_ n2_ n3_ n4_ n5_ n6_; (try clear hb); (try clear hb2); (try clear hk); (try clear hi); (try clear ho0); obtain ⟨Ao58, co58, eo58⟩ := Kd.R_slice HO755.out; subst eo58) | ((with_reducible refine gate_callee (f := 26) rfl ?_); refine goesL_ (some 56) rfl rfl Try.func26 (by kernel_rfl) rfl #[.agg #[.int .i64 t752, .slice Ao58 t753.length co58]] rfl (by (try simp only [List.map_toArray, List.map_cons, List.map_nil]); first | done | rfl | (simp only [List.length_drop, List.length_take]; rfl)) ?_; (with_reducible refine (impl_HubCount.calls kj16 t752 _ _ t753 t756 _ ?side1 ?side2 A49.out).mono ?_); (case side1 => repeat (first | exact (Kd.R_reads' HO755.out).2.2 | (with_reducible refine Kd.C_alloc ?_ _) | (with_reducible refine Kd.C_drewN ?_ _) | (with_reducible refine Kd.C_drew ?_))); (case side2 => exact (Kd.R_reads' HO755.out).2.1); rintro e w59 ⟨v757, rfl, ho0, hb⟩; refine ⟨_, rfl, ?_⟩; have n0_ := Aside0.mk (Kd.R_elder' HO_4.out (Kd.R_base ho0) hb); have n1_ := Aside0.mk (Kd.R_elder' HO_6.out (Kd.R_base ho0) hb); have n2_ := Aside0.mk (Kd.R_below p3.out hb); have n3_ := Aside0.mk (Kd.R_below HO755.out hb); have n4_ := Aside0.mk (Kd.R_lower (Kd.R_new' (Kd.R_new' ho0 (Kd.R_lt HO_4.out)) (Kd.R_lt HO_6.out)) (below_size HB.out)); have n5_ := Aside0.mk (blk_below (g := p4) (o := .cells #[.int .i64 a0_0, .slice A0_1 l0_1.length c0_1] 38 (0, 0)) p0.out hb); have n6_ := Aside0.mk (blk_below (g := p5) (o := .cells #[.int .i64 t732, .slice Ao30 t747.length co30] 25 (0, 0)) p1.out hb); have n7_ := Aside0.mk (below_step HB.out hb); clear HO_4; clear HO_6; clear p3; clear HO755; clear p0; clear p1; clear HB; have HO_4 := n0_; have HO_6 := n1_; have p3 := n2_; have HO755 := n3_; have HO758 := n4_; have p0 := n5_; have p1 := n6_; have HB := n7_; clear n0_ n1_ n2_ n3_ n4_ n5_ n6_ n7_; (try clear hb); (try clear hb2); (try clear hk); (try clear hi); (try clear ho0); obtain ⟨Ao60, co60, eo60⟩ := Kd.R_slice HO758.out; subst eo60) | ((with_reducible refine gate_callee (f := 32) rfl ?_); refine goesL_ (some 59) rfl rfl Try.func32 (by kernel_rfl) rfl #[.slice Ao60 t756.length co60, .slice Ao33 t729.length co33] rfl (by (try simp only [List.map_toArray, List.map_cons, List.map_nil]); first | done | rfl | (simp only [List.length_drop, List.length_take]; rfl)) ?_; (with_reducible refine (laws_eqIntS.calls kj16 _ _ t756 _ _ t729 true _ ?side1 ?side2 ?side3 ?side4 A50.out).mono ?_); (case side1 => repeat (first | exact (Kd.R_reads' HO758.out).2.2 | (with_reducible refine Kd.C_alloc ?_ _) | (with_reducible refine Kd.C_drewN ?_ _) | (with_reducible refine Kd.C_drew ?_))); (case side2 => exact (Kd.R_reads' HO758.out).2.1); (case side3 => repeat (first | exact (Kd.R_reads' HO_4.out).2.2 | (with_reducible refine Kd.C_alloc ?_ _) | (with_reducible refine Kd.C_drewN ?_ _) | (with_reducible refine Kd.C_drew ?_))); (case side4 => exact (Kd.R_reads' HO_4.out).2.1); rintro e w' ⟨rfl, ⟨nd, rfl⟩⟩; refine ⟨_, rfl, ?_⟩) | ((with_reducible refine gate_callee (f := 35) rfl ?_); refine goesL_ (some 63) rfl rfl Try.func35 (by kernel_rfl) rfl #[.slice Ao32 t750.length co32, .int .i64 1] rfl (by (try simp only [List.map_toArray, List.map_cons, List.map_nil]); first | done | (rw [show t750.length = t737.length from (Kd.R_reads' HO_6.out).1.symm] <;> rfl) | rfl | (simp only [List.length_drop, List.length_take]; rfl)) ?_; (with_reducible refine (laws_heldIntS.calls kj16 _ _ t750 1 t760 _ ?side1 ?side2 A52.out).mono ?_); (case side1 => repeat (first | exact (Kd.R_reads' HO_6.out).2.2 | (with_reducible refine Kd.C_alloc ?_ _) | (with_reducible refine Kd.C_drewN ?_ _) | (with_reducible refine Kd.C_drew ?_))); (case side2 => rw [show t750.length = t737.length from (Kd.R_reads' HO_6.out).1.symm]; exact (Kd.R_reads' HO_6.out).2.1); rintro e w' ⟨rfl, ⟨nd, rfl⟩⟩; refine ⟨_, rfl, ?_⟩))
    go_ret
    exact ⟨by first | rfl | (simp [errW_none, errW_some] <;> rfl) | (simp [*, errW_none, errW_some] <;> rfl), by repeat (first | (with_reducible first | exact HB.out | apply below_alloc | apply pw_below_drewN | apply below_drew1 | refine below_set ?_ p7.out | refine below_set ?_ p8.out) | exact HB.out)⟩
   rw [if_neg c53] at H
   have c53b0 : decide (t760 < 0) = false := decide_eq_false c53
   clear c53
   by_cases c61 : t760 = t749
   case neg =>
    rw [if_neg c61] at H
    have c61b0 : (t760 == t749) = false := beq_eq_false_iff_ne.mpr c61
    have c61b1 : (t760 != t749) = true := bne_iff_ne.mpr c61
    obtain rfl := Option.some.inj H
    go_wp2_with (first | ((with_reducible refine gate_callee (f := 34) rfl ?_); refine goesL_ (some 45) rfl rfl Try.func34 (by kernel_rfl) rfl #[.slice Ao32 t737.length co32, .int .i64 1] rfl (by (try simp only [List.map_toArray, List.map_cons, List.map_nil]); first | done | rfl | (simp only [List.length_drop, List.length_take]; rfl)) ?_; (with_reducible refine (laws_markIntS.calls kj16 (fun k_ => some k_ = (.slice Ao32 t737.length co32 : Value).ownBlock) (.slice Ao32 t737.length co32) t737 1 t749 t750 w _ ?side1 ?side2 A43.out).mono ?_); (case side1 => exact HB.out); (case side2 => exact Kd.R_tight rfl HO_6.out); rintro e w69 ⟨rfl, hy0, hb, hkp⟩; refine ⟨_, rfl, ?_⟩; have n0_ := Aside0.mk (Kd.R_mono (ok' := fun k_ => some k_ ≠ (.slice Ao32 t737.length co32 : Value).ownBlock) (Kd.R_keptB (HO_4.out) hkp (fun k_ hk_ hs_ => (hk_) hs_)) (fun k_ hk_ => hk_.1)); have n1_ := Aside0.mk (Kd.R_reok rfl hy0 (fun k_ e_ => HO_6.out.1 k_ e_)); have n2_ := Aside0.mk (Kd.R_mono (ok' := fun k_ => True) (Kd.R_keptB ((Kd.R_apart' p3.out (Kd.R_typed HO_6.out) (by decide))) hkp (fun k_ hk_ hs_ => (hk_.2) hs_)) (fun k_ hk_ => trivial)); have n3_ := Aside0.mk (blk_kept p0.out hkp (fun hs_ => (fun e_ => (Kd.R_ne HO_6.out p0.out (by decide)) e_) hs_)); have n4_ := Aside0.mk (blk_kept p1.out hkp (fun hs_ => (fun e_ => (Kd.R_ne HO_6.out p1.out (by decide)) e_) hs_)); have n5_ := Aside0.mk (hb); clear HO_4; clear HO_6; clear p3; clear p0; clear p1; clear HB; have HO_4 := n0_; have HO_6 := n1_; have p3 := n2_; have p0 := n3_; have p1 := n4_; have HB := n5_; clear n0_ n1_ n2_ n3_ n4_ n5_; (try clear hb); (try clear hkp); (try clear hy0)) | ((with_reducible refine gate_callee (f := 35) rfl ?_); refine goesL_ (some 48) rfl rfl Try.func35 (by kernel_rfl) rfl #[.slice Ao32 t750.length co32, .int .i64 1] rfl (by (try simp only [List.map_toArray, List.map_cons, List.map_nil]); first | done | (rw [show t750.length = t737.length from (Kd.R_reads' HO_6.out).1.symm] <;> rfl) | rfl | (simp only [List.length_drop, List.length_take]; rfl)) ?_; (with_reducible refine (laws_heldIntS.calls kj16 _ _ t750 1 t751 _ ?side1 ?side2 A44.out).mono ?_); (case side1 => repeat (first | exact (Kd.R_reads' HO_6.out).2.2 | (with_reducible refine Kd.C_alloc ?_ _) | (with_reducible refine Kd.C_drewN ?_ _) | (with_reducible refine Kd.C_drew ?_))); (case side2 => rw [show t750.length = t737.length from (Kd.R_reads' HO_6.out).1.symm]; exact (Kd.R_reads' HO_6.out).2.1); rintro e w' ⟨rfl, ⟨nd, rfl⟩⟩; refine ⟨_, rfl, ?_⟩; have hnb70 := p6.out; have hnc70 := p9.out; have hcz71_0 : w69.cell? ⟨p4, 0, none⟩ = some (.int .i64 a0_0) := (blk_cell p0.out 0).trans rfl; have hcz71_1 : w69.cell? ⟨p4, 1, none⟩ = some (.slice A0_1 l0_1.length c0_1) := (blk_cell p0.out 1).trans rfl; have hfz71_0 := blk_frozen p0.out 0; have hfz71_1 := blk_frozen p0.out 1) | ((with_reducible refine gate_callee (f := 21) rfl ?_); refine goesL_ (some 55) rfl rfl Try.func21 (by kernel_rfl) rfl #[.agg #[.int .i64 a0_0, .slice A0_1 l0_1.length c0_1]] rfl (by (try simp only [List.map_toArray, List.map_cons, List.map_nil]); first | done | rfl | (simp only [List.length_drop, List.length_take]; rfl)) ?_; (with_reducible refine (laws_toNet.calls kj16 a0_0 _ _ l0_1 t752 t753 _ ?side1 ?side2 A48.out).mono ?_); (case side1 => repeat (first | exact (Kd.C_below q0.out (by repeat (first | (with_reducible first | exact HB.out | apply below_alloc | apply pw_below_drewN | apply below_drew1 | refine below_set ?_ p7.out | refine below_set ?_ p8.out) | exact HB.out))) | (with_reducible refine Kd.C_alloc ?_ _) | (with_reducible refine Kd.C_drewN ?_ _) | (with_reducible refine Kd.C_drew ?_))); (case side2 => exact q1.out); rintro e w72 ⟨v754, rfl, ho0, hb⟩; refine ⟨_, rfl, ?_⟩; have n0_ := Aside0.mk (Kd.R_below (by exact HO_4.out) hb); have n1_ := Aside0.mk (Kd.R_below (by exact HO_6.out) hb); have n2_ := Aside0.mk (Kd.R_elder' (by exact p3.out) (Kd.R_base ho0) hb); have n3_ := Aside0.mk (Kd.R_lower (Kd.R_new' ho0 (Kd.R_lt (by exact p3.out))) (below_size (by repeat (first | (with_reducible first | exact HB.out | apply below_alloc | apply pw_below_drewN | apply below_drew1 | refine below_set ?_ p7.out | refine below_set ?_ p8.out) | exact HB.out)))); have n4_ := Aside0.mk (blk_below (g := p4) (o := .cells #[.int .i64 a0_0, .slice A0_1 l0_1.length c0_1] 38 (0, 0)) (by exact p0.out) hb); have n5_ := Aside0.mk (blk_below (g := p5) (o := .cells #[.int .i64 t732, .slice Ao30 t747.length co30] 25 (0, 0)) (by exact p1.out) hb); have n6_ := Aside0.mk (below_step (by repeat (first | (with_reducible first | exact HB.out | apply below_alloc | apply pw_below_drewN | apply below_drew1 | refine below_set ?_ p7.out | refine below_set ?_ p8.out) | exact HB.out)) hb); clear HO_4; clear HO_6; clear p3; clear p0; clear p1; clear HB; have HO_4 := n0_; have HO_6 := n1_; have p3 := n2_; have HO755 := n3_; have p0 := n4_; have p1 := n5_; have HB := n6_; clear n0_ n1_ n2_ n3_ n4_ n5_ n6_; (try clear hb); (try clear hb2); (try clear hk); (try clear hi); (try clear ho0); obtain ⟨Ao73, co73, eo73⟩ := Kd.R_slice HO755.out; subst eo73) | ((with_reducible refine gate_callee (f := 26) rfl ?_); refine goesL_ (some 56) rfl rfl Try.func26 (by kernel_rfl) rfl #[.agg #[.int .i64 t752, .slice Ao73 t753.length co73]] rfl (by (try simp only [List.map_toArray, List.map_cons, List.map_nil]); first | done | rfl | (simp only [List.length_drop, List.length_take]; rfl)) ?_; (with_reducible refine (impl_HubCount.calls kj16 t752 _ _ t753 t756 _ ?side1 ?side2 A49.out).mono ?_); (case side1 => repeat (first | exact (Kd.R_reads' HO755.out).2.2 | (with_reducible refine Kd.C_alloc ?_ _) | (with_reducible refine Kd.C_drewN ?_ _) | (with_reducible refine Kd.C_drew ?_))); (case side2 => exact (Kd.R_reads' HO755.out).2.1); rintro e w74 ⟨v757, rfl, ho0, hb⟩; refine ⟨_, rfl, ?_⟩; have n0_ := Aside0.mk (Kd.R_elder' HO_4.out (Kd.R_base ho0) hb); have n1_ := Aside0.mk (Kd.R_elder' HO_6.out (Kd.R_base ho0) hb); have n2_ := Aside0.mk (Kd.R_below p3.out hb); have n3_ := Aside0.mk (Kd.R_below HO755.out hb); have n4_ := Aside0.mk (Kd.R_lower (Kd.R_new' (Kd.R_new' ho0 (Kd.R_lt HO_4.out)) (Kd.R_lt HO_6.out)) (below_size HB.out)); have n5_ := Aside0.mk (blk_below (g := p4) (o := .cells #[.int .i64 a0_0, .slice A0_1 l0_1.length c0_1] 38 (0, 0)) p0.out hb); have n6_ := Aside0.mk (blk_below (g := p5) (o := .cells #[.int .i64 t732, .slice Ao30 t747.length co30] 25 (0, 0)) p1.out hb); have n7_ := Aside0.mk (below_step HB.out hb); clear HO_4; clear HO_6; clear p3; clear HO755; clear p0; clear p1; clear HB; have HO_4 := n0_; have HO_6 := n1_; have p3 := n2_; have HO755 := n3_; have HO758 := n4_; have p0 := n5_; have p1 := n6_; have HB := n7_; clear n0_ n1_ n2_ n3_ n4_ n5_ n6_ n7_; (try clear hb); (try clear hb2); (try clear hk); (try clear hi); (try clear ho0); obtain ⟨Ao75, co75, eo75⟩ := Kd.R_slice HO758.out; subst eo75) | ((with_reducible refine gate_callee (f := 32) rfl ?_); refine goesL_ (some 59) rfl rfl Try.func32 (by kernel_rfl) rfl #[.slice Ao75 t756.length co75, .slice Ao33 t729.length co33] rfl (by (try simp only [List.map_toArray, List.map_cons, List.map_nil]); first | done | rfl | (simp only [List.length_drop, List.length_take]; rfl)) ?_; (with_reducible refine (laws_eqIntS.calls kj16 _ _ t756 _ _ t729 true _ ?side1 ?side2 ?side3 ?side4 A50.out).mono ?_); (case side1 => repeat (first | exact (Kd.R_reads' HO758.out).2.2 | (with_reducible refine Kd.C_alloc ?_ _) | (with_reducible refine Kd.C_drewN ?_ _) | (with_reducible refine Kd.C_drew ?_))); (case side2 => exact (Kd.R_reads' HO758.out).2.1); (case side3 => repeat (first | exact (Kd.R_reads' HO_4.out).2.2 | (with_reducible refine Kd.C_alloc ?_ _) | (with_reducible refine Kd.C_drewN ?_ _) | (with_reducible refine Kd.C_drew ?_))); (case side4 => exact (Kd.R_reads' HO_4.out).2.1); rintro e w' ⟨rfl, ⟨nd, rfl⟩⟩; refine ⟨_, rfl, ?_⟩) | ((with_reducible refine gate_callee (f := 35) rfl ?_); refine goesL_ (some 63) rfl rfl Try.func35 (by kernel_rfl) rfl #[.slice Ao32 t750.length co32, .int .i64 1] rfl (by (try simp only [List.map_toArray, List.map_cons, List.map_nil]); first | done | (rw [show t750.length = t737.length from (Kd.R_reads' HO_6.out).1.symm] <;> rfl) | rfl | (simp only [List.length_drop, List.length_take]; rfl)) ?_; (with_reducible refine (laws_heldIntS.calls kj16 _ _ t750 1 t760 _ ?side1 ?side2 A52.out).mono ?_); (case side1 => repeat (first | exact (Kd.R_reads' HO_6.out).2.2 | (with_reducible refine Kd.C_alloc ?_ _) | (with_reducible refine Kd.C_drewN ?_ _) | (with_reducible refine Kd.C_drew ?_))); (case side2 => rw [show t750.length = t737.length from (Kd.R_reads' HO_6.out).1.symm]; exact (Kd.R_reads' HO_6.out).2.1); rintro e w' ⟨rfl, ⟨nd, rfl⟩⟩; refine ⟨_, rfl, ?_⟩))
    go_ret
    exact ⟨by first | rfl | (simp [errW_none, errW_some] <;> rfl) | (simp [*, errW_none, errW_some] <;> rfl), by repeat (first | (with_reducible first | exact HB.out | apply below_alloc | apply pw_below_drewN | apply below_drew1 | refine below_set ?_ p7.out | refine below_set ?_ p8.out) | exact HB.out)⟩
   rw [if_pos c61] at H
   have c61b0 : (t760 == t749) = true := beq_iff_eq.mpr c61
   have c61b1 : (t760 != t749) = false := bne_eq_false_iff_eq.mpr c61
   clear c61
   obtain rfl := Option.some.inj H
   go_wp2_with (first | ((with_reducible refine gate_callee (f := 34) rfl ?_); refine goesL_ (some 45) rfl rfl Try.func34 (by kernel_rfl) rfl #[.slice Ao32 t737.length co32, .int .i64 1] rfl (by (try simp only [List.map_toArray, List.map_cons, List.map_nil]); first | done | rfl | (simp only [List.length_drop, List.length_take]; rfl)) ?_; (with_reducible refine (laws_markIntS.calls kj16 (fun k_ => some k_ = (.slice Ao32 t737.length co32 : Value).ownBlock) (.slice Ao32 t737.length co32) t737 1 t749 t750 w _ ?side1 ?side2 A43.out).mono ?_); (case side1 => exact HB.out); (case side2 => exact Kd.R_tight rfl HO_6.out); rintro e w62 ⟨rfl, hy0, hb, hkp⟩; refine ⟨_, rfl, ?_⟩; have n0_ := Aside0.mk (Kd.R_mono (ok' := fun k_ => some k_ ≠ (.slice Ao32 t737.length co32 : Value).ownBlock) (Kd.R_keptB (HO_4.out) hkp (fun k_ hk_ hs_ => (hk_) hs_)) (fun k_ hk_ => hk_.1)); have n1_ := Aside0.mk (Kd.R_reok rfl hy0 (fun k_ e_ => HO_6.out.1 k_ e_)); have n2_ := Aside0.mk (Kd.R_mono (ok' := fun k_ => True) (Kd.R_keptB ((Kd.R_apart' p3.out (Kd.R_typed HO_6.out) (by decide))) hkp (fun k_ hk_ hs_ => (hk_.2) hs_)) (fun k_ hk_ => trivial)); have n3_ := Aside0.mk (blk_kept p0.out hkp (fun hs_ => (fun e_ => (Kd.R_ne HO_6.out p0.out (by decide)) e_) hs_)); have n4_ := Aside0.mk (blk_kept p1.out hkp (fun hs_ => (fun e_ => (Kd.R_ne HO_6.out p1.out (by decide)) e_) hs_)); have n5_ := Aside0.mk (hb); clear HO_4; clear HO_6; clear p3; clear p0; clear p1; clear HB; have HO_4 := n0_; have HO_6 := n1_; have p3 := n2_; have p0 := n3_; have p1 := n4_; have HB := n5_; clear n0_ n1_ n2_ n3_ n4_ n5_; (try clear hb); (try clear hkp); (try clear hy0)) | ((with_reducible refine gate_callee (f := 35) rfl ?_); refine goesL_ (some 48) rfl rfl Try.func35 (by kernel_rfl) rfl #[.slice Ao32 t750.length co32, .int .i64 1] rfl (by (try simp only [List.map_toArray, List.map_cons, List.map_nil]); first | done | (rw [show t750.length = t737.length from (Kd.R_reads' HO_6.out).1.symm] <;> rfl) | rfl | (simp only [List.length_drop, List.length_take]; rfl)) ?_; (with_reducible refine (laws_heldIntS.calls kj16 _ _ t750 1 t751 _ ?side1 ?side2 A44.out).mono ?_); (case side1 => repeat (first | exact (Kd.R_reads' HO_6.out).2.2 | (with_reducible refine Kd.C_alloc ?_ _) | (with_reducible refine Kd.C_drewN ?_ _) | (with_reducible refine Kd.C_drew ?_))); (case side2 => rw [show t750.length = t737.length from (Kd.R_reads' HO_6.out).1.symm]; exact (Kd.R_reads' HO_6.out).2.1); rintro e w' ⟨rfl, ⟨nd, rfl⟩⟩; refine ⟨_, rfl, ?_⟩; have hnb63 := p6.out; have hnc63 := p9.out; have hcz64_0 : w62.cell? ⟨p4, 0, none⟩ = some (.int .i64 a0_0) := (blk_cell p0.out 0).trans rfl; have hcz64_1 : w62.cell? ⟨p4, 1, none⟩ = some (.slice A0_1 l0_1.length c0_1) := (blk_cell p0.out 1).trans rfl; have hfz64_0 := blk_frozen p0.out 0; have hfz64_1 := blk_frozen p0.out 1) | ((with_reducible refine gate_callee (f := 21) rfl ?_); refine goesL_ (some 55) rfl rfl Try.func21 (by kernel_rfl) rfl #[.agg #[.int .i64 a0_0, .slice A0_1 l0_1.length c0_1]] rfl (by (try simp only [List.map_toArray, List.map_cons, List.map_nil]); first | done | rfl | (simp only [List.length_drop, List.length_take]; rfl)) ?_; (with_reducible refine (laws_toNet.calls kj16 a0_0 _ _ l0_1 t752 t753 _ ?side1 ?side2 A48.out).mono ?_); (case side1 => repeat (first | exact (Kd.C_below q0.out (by repeat (first | (with_reducible first | exact HB.out | apply below_alloc | apply pw_below_drewN | apply below_drew1 | refine below_set ?_ p7.out | refine below_set ?_ p8.out) | exact HB.out))) | (with_reducible refine Kd.C_alloc ?_ _) | (with_reducible refine Kd.C_drewN ?_ _) | (with_reducible refine Kd.C_drew ?_))); (case side2 => exact q1.out); rintro e w65 ⟨v754, rfl, ho0, hb⟩; refine ⟨_, rfl, ?_⟩; have n0_ := Aside0.mk (Kd.R_below (by exact HO_4.out) hb); have n1_ := Aside0.mk (Kd.R_below (by exact HO_6.out) hb); have n2_ := Aside0.mk (Kd.R_elder' (by exact p3.out) (Kd.R_base ho0) hb); have n3_ := Aside0.mk (Kd.R_lower (Kd.R_new' ho0 (Kd.R_lt (by exact p3.out))) (below_size (by repeat (first | (with_reducible first | exact HB.out | apply below_alloc | apply pw_below_drewN | apply below_drew1 | refine below_set ?_ p7.out | refine below_set ?_ p8.out) | exact HB.out)))); have n4_ := Aside0.mk (blk_below (g := p4) (o := .cells #[.int .i64 a0_0, .slice A0_1 l0_1.length c0_1] 38 (0, 0)) (by exact p0.out) hb); have n5_ := Aside0.mk (blk_below (g := p5) (o := .cells #[.int .i64 t732, .slice Ao30 t747.length co30] 25 (0, 0)) (by exact p1.out) hb); have n6_ := Aside0.mk (below_step (by repeat (first | (with_reducible first | exact HB.out | apply below_alloc | apply pw_below_drewN | apply below_drew1 | refine below_set ?_ p7.out | refine below_set ?_ p8.out) | exact HB.out)) hb); clear HO_4; clear HO_6; clear p3; clear p0; clear p1; clear HB; have HO_4 := n0_; have HO_6 := n1_; have p3 := n2_; have HO755 := n3_; have p0 := n4_; have p1 := n5_; have HB := n6_; clear n0_ n1_ n2_ n3_ n4_ n5_ n6_; (try clear hb); (try clear hb2); (try clear hk); (try clear hi); (try clear ho0); obtain ⟨Ao66, co66, eo66⟩ := Kd.R_slice HO755.out; subst eo66) | ((with_reducible refine gate_callee (f := 26) rfl ?_); refine goesL_ (some 56) rfl rfl Try.func26 (by kernel_rfl) rfl #[.agg #[.int .i64 t752, .slice Ao66 t753.length co66]] rfl (by (try simp only [List.map_toArray, List.map_cons, List.map_nil]); first | done | rfl | (simp only [List.length_drop, List.length_take]; rfl)) ?_; (with_reducible refine (impl_HubCount.calls kj16 t752 _ _ t753 t756 _ ?side1 ?side2 A49.out).mono ?_); (case side1 => repeat (first | exact (Kd.R_reads' HO755.out).2.2 | (with_reducible refine Kd.C_alloc ?_ _) | (with_reducible refine Kd.C_drewN ?_ _) | (with_reducible refine Kd.C_drew ?_))); (case side2 => exact (Kd.R_reads' HO755.out).2.1); rintro e w67 ⟨v757, rfl, ho0, hb⟩; refine ⟨_, rfl, ?_⟩; have n0_ := Aside0.mk (Kd.R_elder' HO_4.out (Kd.R_base ho0) hb); have n1_ := Aside0.mk (Kd.R_elder' HO_6.out (Kd.R_base ho0) hb); have n2_ := Aside0.mk (Kd.R_below p3.out hb); have n3_ := Aside0.mk (Kd.R_below HO755.out hb); have n4_ := Aside0.mk (Kd.R_lower (Kd.R_new' (Kd.R_new' ho0 (Kd.R_lt HO_4.out)) (Kd.R_lt HO_6.out)) (below_size HB.out)); have n5_ := Aside0.mk (blk_below (g := p4) (o := .cells #[.int .i64 a0_0, .slice A0_1 l0_1.length c0_1] 38 (0, 0)) p0.out hb); have n6_ := Aside0.mk (blk_below (g := p5) (o := .cells #[.int .i64 t732, .slice Ao30 t747.length co30] 25 (0, 0)) p1.out hb); have n7_ := Aside0.mk (below_step HB.out hb); clear HO_4; clear HO_6; clear p3; clear HO755; clear p0; clear p1; clear HB; have HO_4 := n0_; have HO_6 := n1_; have p3 := n2_; have HO755 := n3_; have HO758 := n4_; have p0 := n5_; have p1 := n6_; have HB := n7_; clear n0_ n1_ n2_ n3_ n4_ n5_ n6_ n7_; (try clear hb); (try clear hb2); (try clear hk); (try clear hi); (try clear ho0); obtain ⟨Ao68, co68, eo68⟩ := Kd.R_slice HO758.out; subst eo68) | ((with_reducible refine gate_callee (f := 32) rfl ?_); refine goesL_ (some 59) rfl rfl Try.func32 (by kernel_rfl) rfl #[.slice Ao68 t756.length co68, .slice Ao33 t729.length co33] rfl (by (try simp only [List.map_toArray, List.map_cons, List.map_nil]); first | done | rfl | (simp only [List.length_drop, List.length_take]; rfl)) ?_; (with_reducible refine (laws_eqIntS.calls kj16 _ _ t756 _ _ t729 true _ ?side1 ?side2 ?side3 ?side4 A50.out).mono ?_); (case side1 => repeat (first | exact (Kd.R_reads' HO758.out).2.2 | (with_reducible refine Kd.C_alloc ?_ _) | (with_reducible refine Kd.C_drewN ?_ _) | (with_reducible refine Kd.C_drew ?_))); (case side2 => exact (Kd.R_reads' HO758.out).2.1); (case side3 => repeat (first | exact (Kd.R_reads' HO_4.out).2.2 | (with_reducible refine Kd.C_alloc ?_ _) | (with_reducible refine Kd.C_drewN ?_ _) | (with_reducible refine Kd.C_drew ?_))); (case side4 => exact (Kd.R_reads' HO_4.out).2.1); rintro e w' ⟨rfl, ⟨nd, rfl⟩⟩; refine ⟨_, rfl, ?_⟩) | ((with_reducible refine gate_callee (f := 35) rfl ?_); refine goesL_ (some 63) rfl rfl Try.func35 (by kernel_rfl) rfl #[.slice Ao32 t750.length co32, .int .i64 1] rfl (by (try simp only [List.map_toArray, List.map_cons, List.map_nil]); first | done | (rw [show t750.length = t737.length from (Kd.R_reads' HO_6.out).1.symm] <;> rfl) | rfl | (simp only [List.length_drop, List.length_take]; rfl)) ?_; (with_reducible refine (laws_heldIntS.calls kj16 _ _ t750 1 t760 _ ?side1 ?side2 A52.out).mono ?_); (case side1 => repeat (first | exact (Kd.R_reads' HO_6.out).2.2 | (with_reducible refine Kd.C_alloc ?_ _) | (with_reducible refine Kd.C_drewN ?_ _) | (with_reducible refine Kd.C_drew ?_))); (case side2 => rw [show t750.length = t737.length from (Kd.R_reads' HO_6.out).1.symm]; exact (Kd.R_reads' HO_6.out).2.1); rintro e w' ⟨rfl, ⟨nd, rfl⟩⟩; refine ⟨_, rfl, ?_⟩))
   go_ret
   exact ⟨by first | rfl | (simp [errW_none, errW_some] <;> rfl) | (simp [*, errW_none, errW_some] <;> rfl), by repeat (first | (with_reducible first | exact HB.out | apply below_alloc | apply pw_below_drewN | apply below_drew1 | refine below_set ?_ p7.out | refine below_set ?_ p8.out) | exact HB.out)⟩
end Go.Proofs.Ytljdcinpjnijcaa.Pr
end
section
set_option linter.unusedVariables false
namespace Go.Proofs.YtljdcinpjnijcaaW.PrintWords
open Go.RowKit Go.ChangeShapes Go.WideShapes
def Opens (P : Program) {α : Type} (d : Kd α) (t : TypeId) (wf : α → Prop) : Prop :=
 ∀ {H : Type} {enc : TypeId × Value → H} {w : World} {sp : Nat → Bool} {held : Bool} {fuel : Nat} {cs : List Value} {x : DataW H × List MemPlace}, DataW.trod enc P w 0 sp held fuel t cs = some x → ∃ a, d.K w a cs ∧ wf a
def OpensF (P : Program) {α : Type} (d : Kd α) (fs : List Field) (off tot : Nat) (wf : α → Prop) : Prop :=
 ∀ {H : Type} {enc : TypeId × Value → H} {w : World} {sp : Nat → Bool} {held : Bool} {fuel : Nat} {cs : List Value}, cs.length = tot → (∀ f ∈ fs, ∃ y, DataW.trod enc P w 0 sp held fuel f.type ((cs.drop f.offset).take (P.cellsOf f.type)) = some y) → ∃ a, d.K w a (cs.drop off) ∧ wf a
section
variable {P : Program} {α β : Type}
def I64 (n : Int) : Prop := -9223372036854775808 ≤ n ∧ n ≤ 9223372036854775807
theorem I64_of {n : Int} (h : (Lit.int .i64 n).wf = true) : I64 n := by
 simp only [Lit.wf, Bool.and_eq_true, decide_eq_true_eq] at h
 have h1 : IntKind.i64.min = -9223372036854775808 := rfl
 have h2 : IntKind.i64.max = 9223372036854775807 := rfl
 unfold I64
 omega
theorem opens_i64 {t : TypeId} (ht : P.underlying t = some (.int .i64)) : Opens P (Kd.int .i64) t I64 := by
 intro H enc w sp held fuel cs x h
 obtain ⟨n, rfl, _, hw⟩ := DataW.trod_int ht h
 exact ⟨n, rfl, I64_of hw⟩
theorem addr_add_add (a : Addr) (i j : Nat) : (a.add i).add j = a.add (i + j) := by
 unfold Addr.add
 by_cases hi : i = 0 <;> by_cases hj : j = 0 <;> simp [hi, hj, Nat.add_assoc]
theorem opens_slice [Inhabited α] {d : Kd α} {t e : TypeId} {wf : α → Prop} (ht : P.underlying t = some (.slice e)) (hc : P.cellsOf e = d.sz) (he : Opens P d e wf) : Opens P (Kd.slice e d) t (fun l => l.length ≤ maxLen ∧ ∀ x ∈ l, wf x) := by
 intro H enc w sp held fuel cs x h
 rcases Deep.open_slice ht h with ⟨rfl, _⟩ | ⟨a, len, cap, m, n, D, Pl, rfl, _, hl, hm, hmm, _, hel⟩
 ·exact ⟨[], ⟨none, 0, rfl, Nat.le_refl _, Kd.C_nil d w⟩, by simp, by simp⟩
 ·have hlm : len ≤ m := by rw [hmm]; split <;> omega
  have hx : ∀ i, i < len → ∃ y : α, (∃ c, c.length = d.sz ∧ d.K w y c ∧ ∀ j u, c[j]? = some u → w.cell? (a.add (i * d.sz + j)) = some u) ∧ wf y := by
   intro i hi
   obtain ⟨cs', hcs, htr⟩ := hel i (by omega)
   obtain ⟨y, hk, hw⟩ := he htr
   obtain ⟨_, hlen, hcell⟩ := World.cells?_some hcs
   refine ⟨y, ⟨cs', d.K_len hk, hk, fun j u hu => ?_⟩, hw⟩
   have hj : j < P.cellsOf e := by
    have := (List.getElem?_eq_some_iff.1 hu).1
    omega
   have := hcell j hj
   rw [addr_add_add, hc, hu] at this
   exact this
  obtain ⟨f, hf⟩ := Deep.choose_lt hx
  refine ⟨(List.range len).map f, ⟨some a, cap, by simp, by simpa using hl, by simp, by simp only [maxLen] at hm; simp; omega, fun _ => ⟨a, rfl, fun j p hj => ?_⟩⟩, by simp; omega, fun y hy => ?_⟩
  ·obtain ⟨hj1, hj2⟩ := List.getElem?_eq_some_iff.1 hj
   simp at hj1 hj2
   subst hj2
   exact (hf j hj1).1
  ·simp only [List.mem_map, List.mem_range] at hy
   obtain ⟨i, hi, rfl⟩ := hy
   exact (hf i hi).2
theorem opensF_last {d : Kd α} {f : Field} {off tot : Nat} {wf : α → Prop} (ho : f.offset = off) (hn : off + P.cellsOf f.type = tot) (h : Opens P d f.type wf) : OpensF P d [f] off tot wf := by
 intro H enc w sp held fuel cs hl hf
 obtain ⟨y, hy⟩ := hf f (by simp)
 obtain ⟨a, hk, hw⟩ := h hy
 refine ⟨a, ?_, hw⟩
 rwa [ho, List.take_of_length_le (by rw [List.length_drop]; omega)] at hk
theorem opensF_cons {d : Kd α} {d' : Kd β} {f : Field} {fs : List Field} {off tot : Nat} {wf : α → Prop} {wf' : β → Prop} (ho : f.offset = off) (h : Opens P d f.type wf) (h' : OpensF P d' fs (off + P.cellsOf f.type) tot wf') :
  OpensF P (Kd.pair d d') (f :: fs) off tot (fun x => wf x.1 ∧ wf' x.2) := by
 intro H enc w sp held fuel cs hl hf
 obtain ⟨y, hy⟩ := hf f (by simp)
 obtain ⟨a, hk, hw⟩ := h hy
 obtain ⟨b, hk', hw'⟩ := h' hl (fun g hg => hf g (by simp [hg]))
 refine ⟨(a, b), ⟨_, _, ?_, hk, hk'⟩, hw, hw'⟩
 rw [ho, ← List.drop_drop, List.take_append_drop]
theorem opens_struct {d : Kd α} {t : TypeId} {fs : Array Field} {wf : α → Prop} (ht : P.underlying t = some (.struct fs)) (h : OpensF P d fs.toList 0 (P.cellsOf t) wf) : Opens P d t wf := by
 intro H enc w sp held fuel cs x hx
 obtain ⟨xs, n, _, _, hl, hlen, hf⟩ := DataW.trod_struct ht hx
 obtain ⟨a, hk, hw⟩ := h hl (fun f hfm => by
  obtain ⟨i, hi, rfl⟩ := List.getElem_of_mem hfm
  have hi' : i < fs.size := by simpa using hi
  have h1 := hf i fs[i] (Array.getElem?_eq_getElem hi')
  rw [List.getElem?_eq_getElem (by omega)] at h1
  exact ⟨_, by simpa using h1⟩)
 exact ⟨a, by simpa using hk, hw⟩
theorem opens_iso {d : Kd α} {t : TypeId} {wf : α → Prop} (f : β → α) (g : α → β) (hfg : ∀ a, f (g a) = a) (h : Opens P d t wf) : Opens P (Kd.iso d f) t (fun b => wf (f b)) := by
 intro H enc w sp held fuel cs x hx
 obtain ⟨a, hk, hw⟩ := h hx
 exact ⟨g a, by show d.K w (f (g a)) cs; rw [hfg]; exact hk, by show wf (f (g a)); rw [hfg]; exact hw⟩
end
end Go.Proofs.YtljdcinpjnijcaaW.PrintWords
end
section
namespace Go.Proofs.Ytljdcinpjnijcaa.Pr
open Go.RowKit Go.Proofs.YtljdcinpjnijcaaW.PrintWords Go.Proofs.YtljdcinpjnijcaaW.PrintLast Go.Proofs.YtljdcinpjnijcaaW.PrintMore
def laws_FnExactHubCount.Asked : Prop := ∀ (a0_0 : Int) (l0_1 : List (S112)), I64 a0_0 → (l0_1.length ≤ maxLen ∧ ∀ x_ ∈ l0_1, (I64 x_.f0 ∧ I64 x_.f1 ∧ I64 x_.f2 ∧ I64 x_.f3 ∧ I64 x_.f4)) → ∃ k, laws_FnExactHubCount.f k a0_0 l0_1 = some true
end Go.Proofs.Ytljdcinpjnijcaa.Pr
end
section
set_option linter.unusedVariables false
namespace Go.Proofs.YtljdcinpjnijcaaW.PrintWords
open Go.RowKit
section
variable {α β : Type}
theorem Ev.pos {c : Prop} [Decidable c] {t e : Nat → Option α} {r : α} (h : c) (k : Ev t r) : Ev (fun n => if c then t n else e n) r := by
 simp only [if_pos h]; exact k
theorem Ev.neg {c : Prop} [Decidable c] {t e : Nat → Option α} {r : α} (h : ¬ c) (k : Ev e r) : Ev (fun n => if c then t n else e n) r := by
 simp only [if_neg h]; exact k
theorem Ev.bind0 {g : Option α} {f : Nat → α → Option β} {a : α} {r : β} (h : g = some a) (k : Ev (fun n => f n a) r) : Ev (fun n => g.bind (f n)) r := by
 subst h; exact k
theorem Ev.is {a r : α} (h : a = r) : Ev (fun _ => some a) r := by subst h; exact Ev.now _
theorem Ev.cast {g : Nat → Option α} {a r : α} (k : Ev g a) (h : a = r) : Ev g r := h ▸ k
theorem Ev.go {g f : Nat → Option α} {r : α} (k : Ev f r) (h : ∀ k, g (k + 1) = f k) : Ev g r := Ev.step h k
end
theorem w64 {n : Int} (h : -9223372036854775808 ≤ n) (h' : n ≤ 9223372036854775807) : wrap64 n = n := by unfold wrap64; omega
end Go.Proofs.YtljdcinpjnijcaaW.PrintWords
end
section
set_option linter.unusedSimpArgs false
set_option linter.unusedVariables false
namespace Go.Proofs.Ytljdcinpjnijcaa.Pure
open Go.RowKit Go.Proofs.Ytljdcinpjnijcaa.Pr Go.Proofs.YtljdcinpjnijcaaW.PrintWords Go.Proofs.YtljdcinpjnijcaaW.PrintLast Go.Proofs.YtljdcinpjnijcaaW.PrintMore
def inB (x a b : Int) : Bool := decide (a ≤ x) && decide (x ≤ b)
theorem inB_iff {x a b : Int} : inB x a b = true ↔ a ≤ x ∧ x ≤ b := by simp [inB]
theorem in1 (x a b : Int) : spec_l1In.f x a b = some (inB x a b) := by
 unfold spec_l1In.f inB
 by_cases h : x ≥ a
 case pos => rw [if_pos h]; simp [show a ≤ x from h]
 rw [if_neg h]; simp [show ¬ a ≤ x from h]
theorem up1 {i n : Nat} (h : i < n) (hn : n ≤ maxLen) : wrap64 ((i : Int) + 1) = ((i + 1 : Nat) : Int) := by
 simp only [maxLen] at hn
 rw [w64 (by omega) (by omega)]; omega
def nth (l : List Int) (i : Nat) : Int := l.getD i 0
theorem rdg {l : List Int} (i : Nat) : rd l (i : Int) = nth l i := by simp [rd, nth]
theorem nth_get {l : List Int} {i : Nat} (h : i < l.length) : nth l i = l[i] := by simp [nth, h]
theorem getD_mem {l : List Int} {i : Nat} (h : i < l.length) : nth l i ∈ l := by
 rw [nth_get h]
 exact List.getElem_mem h
theorem drop_cons {α : Type} {l : List α} {i : Nat} (h : i < l.length) : l.drop i = l[i] :: l.drop (i + 1) := List.drop_eq_getElem_cons h
def Pv {α : Type} (g : Nat → Option α) (P : α → Prop) : Prop := ∃ r, Ev g r ∧ P r
section
variable {α β : Type} {P : α → Prop}
theorem Pv.now {a : α} (h : P a) : Pv (fun _ => some a) P := ⟨a, Ev.now a, h⟩
theorem Pv.pos {c : Prop} [Decidable c] {t e : Nat → Option α} (h : c) (k : Pv t P) : Pv (fun n => if c then t n else e n) P := by
 obtain ⟨r, k, hp⟩ := k
 exact ⟨r, Ev.pos h k, hp⟩
theorem Pv.neg {c : Prop} [Decidable c] {t e : Nat → Option α} (h : ¬ c) (k : Pv e P) : Pv (fun n => if c then t n else e n) P := by
 obtain ⟨r, k, hp⟩ := k
 exact ⟨r, Ev.neg h k, hp⟩
theorem Pv.bind {g : Nat → Option β} {f : Nat → β → Option α} {R : β → Prop} (h : Pv g R) (k : ∀ b, R b → Pv (fun n => f n b) P) : Pv (fun n => (g n).bind (f n)) P := by
 obtain ⟨b, h, hb⟩ := h
 obtain ⟨r, k, hp⟩ := k b hb
 exact ⟨r, Ev.bind h k, hp⟩
theorem Pv.go {g f : Nat → Option α} (k : Pv f P) (h : ∀ k, g (k + 1) = f k) : Pv g P := by
 obtain ⟨r, k, hp⟩ := k
 exact ⟨r, Ev.go k h, hp⟩
end
end Go.Proofs.Ytljdcinpjnijcaa.Pure
end
section
set_option linter.unusedSimpArgs false
set_option linter.unusedVariables false
namespace Go.Proofs.Ytljdcinpjnijcaa.Pure
open Go.RowKit Go.Proofs.Ytljdcinpjnijcaa.Pr Go.Proofs.YtljdcinpjnijcaaW.PrintWords Go.Proofs.YtljdcinpjnijcaaW.PrintLast Go.Proofs.YtljdcinpjnijcaaW.PrintMore
section
variable {t e : Nat → Option Bool} {r : Bool}
theorem Ev.and {b : Bool} (k : Ev t r) : Ev (fun n => if b = true then t n else some false) (b && r) := by
 cases b with
 | false => exact Ev.neg (by simp) (Ev.now _)
 | true => exact Ev.pos rfl k
theorem Ev.nand {c : Prop} [Decidable c] (k : Ev t r) : Ev (fun n => if c then some false else t n) (!decide c && r) := by
 by_cases h : c
 case pos => exact Ev.pos h (Ev.is (by simp [h]))
 exact Ev.neg h (k.cast (by simp [h]))
end
abbrev Arc := S34
def arc (l : List Arc) (i : Nat) : Arc := rd_T34 l (i : Int)
theorem rda (l : List Arc) (i : Nat) : rd_T34 l (i : Int) = arc l i := rfl
theorem arc_get {l : List Arc} {i : Nat} (h : i < l.length) : arc l i = l[i] := by simp [arc, rd_T34, h]
theorem arc_mem {l : List Arc} {i : Nat} (h : i < l.length) : arc l i ∈ l := by
 rw [arc_get h]
 exact List.getElem_mem h
attribute [irreducible] arc
def okArcW (n : Int) (a : Arc) : Bool := inB a.f0 0 (wrap64 (n - 1)) && (inB a.f1 0 (wrap64 (n - 1)) && (!decide (a.f0 = a.f1) && (inB a.f2 0 99 && (inB a.f3 0 99 && inB a.f4 0 9))))
theorem l1Ok_l (n : Int) (l : List Arc) (hm : l.length ≤ maxLen) : ∀ (m i : Nat), l.length - i = m → i ≤ l.length → Ev (fun k => spec_l1Ok.l0 k (i : Int) n l) ((l.drop i).all (okArcW n) && (inB n 1 8 && decide ((l.length : Int) ≤ 16))) := by
 intro m
 induction m with
 | zero =>
  intro i hd hi
  refine Ev.go ?_ (fun k => by rw [spec_l1Ok.l0])
  refine Ev.neg (by omega) (Ev.bind0 (in1 _ _ _) ?_)
  rw [List.drop_of_length_le (by omega)]
  exact (Ev.and (Ev.now _)).cast (by simp)
 | succ m ih =>
  intro i hd hi
  have hlt : i < l.length := by omega
  refine Ev.go ?_ (fun k => by rw [spec_l1Ok.l0])
  rw [drop_cons hlt, ← arc_get hlt, List.all_cons, rda, up1 hlt hm]
  refine Ev.pos (by omega) (Ev.pos (by omega) ?_)
  refine Ev.cast (Ev.bind0 (in1 _ _ _) (Ev.and (Ev.bind0 (in1 _ _ _) (Ev.and (Ev.nand (Ev.bind0 (in1 _ _ _) (Ev.and (Ev.bind0 (in1 _ _ _) (Ev.and (Ev.bind0 (in1 _ _ _) (Ev.and (ih (i + 1) (by omega) (by omega))))))))))))) ?_
  simp only [okArcW, Bool.and_assoc]
theorem okArcW_okArc {n : Int} (h : 1 ≤ n) (h8 : n ≤ 8) (a : Arc) : okArcW n a = okArc n a := by
 unfold okArcW okArc inB okN okC
 rw [w64 (by omega) (by omega)]
 have e : (a.f4 ≤ 9) ↔ (a.f4 ≤ 10 - 1) := by omega
 have e2 : (a.f0 == a.f1) = decide (a.f0 = a.f1) := by
  by_cases c : a.f0 = a.f1 <;> simp [c]
 rw [e2]
 simp only [Bool.and_assoc, e]
theorem l1Ok_ev (n : Int) (l : List Arc) (hm : l.length ≤ maxLen) : Ev (fun k => spec_l1Ok.f k n l) (netOkB n l) := by
 unfold spec_l1Ok.f
 refine (l1Ok_l n l hm _ 0 rfl (by omega)).cast ?_
 unfold netOkB
 rw [List.drop_zero]
 by_cases h : 1 ≤ n ∧ n ≤ 8
 case pos =>
  have e : l.all (okArcW n) = l.all (okArc n) := by
   congr 1
   funext a
   exact okArcW_okArc h.1 h.2 a
  rw [e, show inB n 1 8 = true from inB_iff.2 h]
  simp [h.1, h.2, Bool.and_comm]
 have e : inB n 1 8 = false := by
  cases c : inB n 1 8 with
  | false => rfl
  | true => exact absurd (inB_iff.1 c) h
 rw [e]
 have e2 : (decide (1 ≤ n) && decide (n ≤ 8)) = false := e
 simp only [e2, Bool.false_and, Bool.and_false]
structure NetGood (n : Int) (l : List Arc) : Prop where
 n1 : 1 ≤ n
 n8 : n ≤ 8
 len : l.length ≤ 16
 ok : ∀ i, i < l.length → (0 ≤ (arc l i).f0 ∧ (arc l i).f0 < n) ∧ (0 ≤ (arc l i).f1 ∧ (arc l i).f1 < n) ∧ (arc l i).f0 ≠ (arc l i).f1 ∧ (0 ≤ (arc l i).f2 ∧ (arc l i).f2 ≤ 99) ∧ (0 ≤ (arc l i).f3 ∧ (arc l i).f3 ≤ 99) ∧ (0 ≤ (arc l i).f4 ∧ (arc l i).f4 ≤ 9)
theorem okArc_iff (n : Int) (a : Arc) : okArc n a = true ↔ (0 ≤ a.f0 ∧ a.f0 < n) ∧ (0 ≤ a.f1 ∧ a.f1 < n) ∧ a.f0 ≠ a.f1 ∧ (0 ≤ a.f2 ∧ a.f2 ≤ 99) ∧ (0 ≤ a.f3 ∧ a.f3 ≤ 99) ∧ (0 ≤ a.f4 ∧ a.f4 ≤ 9) := by
 simp only [okArc, okN, okC, Bool.and_eq_true, decide_eq_true_eq, Bool.not_eq_true', beq_eq_false_iff_ne]
 constructor
 ·rintro ⟨⟨⟨⟨⟨⟨a1, a2⟩, a3, a4⟩, a5⟩, a6⟩, a7⟩, a8, a9⟩
  exact ⟨⟨a1, by omega⟩, ⟨a3, by omega⟩, a5, a6, a7, a8, by omega⟩
 ·rintro ⟨⟨a1, a2⟩, ⟨a3, a4⟩, a5, a6, a7, a8, a9⟩
  exact ⟨⟨⟨⟨⟨⟨a1, by omega⟩, a3, by omega⟩, a5⟩, a6⟩, a7⟩, a8, by omega⟩
theorem netOkB_iff (n : Int) (l : List Arc) : netOkB n l = true ↔ NetGood n l := by
 simp only [netOkB, Bool.and_eq_true, decide_eq_true_eq, List.all_eq_true]
 constructor
 ·rintro ⟨⟨⟨h1, h2⟩, h3⟩, h4⟩
  exact ⟨h1, h2, by omega, fun i hi => (okArc_iff n _).1 (h4 _ (arc_mem hi))⟩
 ·rintro ⟨h1, h2, h3, h4⟩
  refine ⟨⟨⟨h1, h2⟩, by omega⟩, fun a ha => ?_⟩
  obtain ⟨i, hi, rfl⟩ := List.getElem_of_mem ha
  rw [← arc_get hi]
  exact (okArc_iff n _).2 (h4 i hi)
theorem szNet_eq (n : Int) (l : List S112) (a : Int) (ha : -1 ≤ a) (ha' : a ≤ 1048576) (hm : l.length ≤ maxLen) : laws_szNet.f n l a = some (if a - (l.length : Int) < 0 then -1 else a - (l.length : Int)) := by
 simp only [maxLen] at hm
 unfold laws_szNet.f laws_szArcS.f
 rw [w64 (by omega) (by omega)]
 by_cases c : a - (l.length : Int) < 0
 case neg => rw [if_neg c, if_neg c, Option.bind_some, if_neg c]
 rw [if_pos c, if_pos c, Option.bind_some, if_pos (by omega)]
def toA (a : S112) : Arc := ⟨a.f0, a.f1, a.f2, a.f3, a.f4⟩
theorem toArcS_l (l : List S112) (hm : l.length ≤ maxLen) : ∀ (d i : Nat) (x : List Arc), l.length - i = d → i ≤ l.length → x.length = l.length → x.take i = (l.map toA).take i → Ev (fun k => laws_toArcS.l0 k l x (i : Int)) (l.map toA) := by
 intro d
 induction d with
 | zero =>
  intro i x hd hi hx ht
  refine Ev.go ?_ (fun k => by rw [laws_toArcS.l0])
  refine Ev.neg (by omega) (Ev.is ?_)
  have e : i = l.length := by omega
  subst e
  rwa [List.take_of_length_le (by omega), List.take_of_length_le (by simp)] at ht
 | succ d ih =>
  intro i x hd hi hx ht
  have hlt : i < l.length := by omega
  refine Ev.go ?_ (fun k => by rw [laws_toArcS.l0])
  refine Ev.pos (by omega) (Ev.pos (by omega) (Ev.bind0 rfl (Ev.pos (by omega) ?_)))
  rw [up1 hlt hm]
  refine ih (i + 1) _ (by omega) (by omega) (by simp [hx]) ?_
  have hr : rd_T112 l (i : Int) = l[i] := by simp [rd_T112, hlt]
  simp only [Int.toNat_natCast, hr]
  rw [List.take_succ_eq_append_getElem (by simp; omega), List.take_succ_eq_append_getElem (l := l.map toA) (by simpa using hlt), List.take_set_of_le (Nat.le_refl _), ht]
  simp [toA]
theorem toNet_ev (n : Int) (l : List S112) (hm : l.length ≤ 7036874417766) : Ev (fun k => laws_toNet.f k n l) (n, l.map toA) := by
 unfold laws_toNet.f
 refine Ev.bind (a := l.map toA) ?_ (Ev.now _)
 unfold laws_toArcS.f
 refine Ev.pos (by omega) (Ev.pos (by simp; omega) ?_)
 exact toArcS_l l (by simp only [maxLen]; omega) _ 0 _ rfl (by omega) (by simp) (by simp)
theorem eqArcS_l (l : List Arc) (hm : l.length ≤ maxLen) : ∀ (d i : Nat), l.length - i = d → i ≤ l.length → Ev (fun k => laws_eqArcS.l0 k l l (i : Int)) true := by
 intro d
 induction d with
 | zero =>
  intro i hd hi
  refine Ev.go ?_ (fun k => by rw [laws_eqArcS.l0])
  exact Ev.neg (by omega) (Ev.now _)
 | succ d ih =>
  intro i hd hi
  have hlt : i < l.length := by omega
  refine Ev.go ?_ (fun k => by rw [laws_eqArcS.l0])
  refine Ev.pos (by omega) (Ev.pos (by omega) (Ev.pos (by omega) (Ev.bind0 (a := true) (by simp [laws_eqArc.f]) (Ev.pos rfl ?_))))
  rw [up1 hlt hm]
  exact ih (i + 1) (by omega) (by omega)
theorem eqNet_ev (n : Int) (l : List Arc) (hm : l.length ≤ maxLen) : Ev (fun k => laws_eqNet.f k n l n l) true := by
 unfold laws_eqNet.f
 refine Ev.pos rfl (Ev.bind (a := true) ?_ (Ev.pos rfl (Ev.now _)))
 unfold laws_eqArcS.f
 exact Ev.pos rfl (eqArcS_l l hm _ 0 rfl (by omega))
end Go.Proofs.Ytljdcinpjnijcaa.Pure
end
section
set_option linter.unusedSimpArgs false
set_option linter.unusedVariables false
namespace Go.Proofs.Ytljdcinpjnijcaa.Pure
open Go.RowKit Go.Proofs.Ytljdcinpjnijcaa.Pr Go.Proofs.YtljdcinpjnijcaaW.PrintWords Go.Proofs.YtljdcinpjnijcaaW.PrintLast Go.Proofs.YtljdcinpjnijcaaW.PrintMore
def flip (a : Arc) : Arc := ⟨a.f1, a.f0, a.f2, a.f3, a.f4⟩
def back (l : List Arc) : List Arc := l.map flip
theorem back_len (l : List Arc) : (back l).length = l.length := by simp [back]
theorem back_arc {l : List Arc} {i : Nat} (h : i < l.length) : arc (back l) i = flip (arc l i) := by
 rw [arc_get (by rw [back_len]; exact h), arc_get h]
 simp [back]
theorem back_good {n : Int} {l : List Arc} (h : NetGood n l) : NetGood n (back l) := by
 refine ⟨h.n1, h.n8, by rw [back_len]; exact h.len, fun i hi => ?_⟩
 rw [back_len] at hi
 obtain ⟨a1, a2, a3, a4⟩ := h.ok i hi
 rw [back_arc hi]
 exact ⟨a2, a1, fun e => a3 e.symm, a4⟩
end Go.Proofs.Ytljdcinpjnijcaa.Pure
end
section
set_option linter.unusedSimpArgs false
set_option linter.unusedVariables false
namespace Go.Proofs.Ytljdcinpjnijcaa.Pure
open Go.RowKit Go.Proofs.Ytljdcinpjnijcaa.Pr Go.Proofs.YtljdcinpjnijcaaW.PrintWords Go.Proofs.YtljdcinpjnijcaaW.PrintLast Go.Proofs.YtljdcinpjnijcaaW.PrintMore
def lst (n : Nat) (F : Nat → Int) : List Int := (List.range n).map F
theorem lst_len (n : Nat) (F : Nat → Int) : (lst n F).length = n := by simp [lst]
theorem lst_nth {n v : Nat} (F : Nat → Int) (h : v < n) : nth (lst n F) v = F v := by
 simp [nth, lst, h]
theorem lst_rd {n v : Nat} (F : Nat → Int) (h : v < n) : rd (lst n F) (v : Int) = F v := by rw [rdg, lst_nth F h]
theorem lst_congr {n : Nat} {F G : Nat → Int} (h : ∀ v, v < n → F v = G v) : lst n F = lst n G := by
 unfold lst
 exact List.map_congr_left (fun v hv => h v (List.mem_range.1 hv))
theorem lst_of (l : List Int) : lst l.length (nth l) = l := by
 apply List.ext_getElem (lst_len _ _)
 intro i h1 h2
 have := lst_nth (n := l.length) (nth l) (v := i) h2
 rw [nth_get h1, nth_get h2] at this
 exact this
def upd (F : Nat → Int) (a : Nat) (x : Int) : Nat → Int := fun v => if v = a then x else F v
theorem lst_set {n a : Nat} (F : Nat → Int) (x : Int) : (lst n F).set a x = lst n (upd F a x) := by
 apply List.ext_getElem (by simp [lst])
 intro i h1 h2
 have hi : i < n := by simpa [lst] using h2
 simp only [List.getElem_set]
 by_cases e : a = i
 case pos => subst e; simp [lst, upd]
 simp [lst, upd, e, show ¬ i = a from fun h => e h.symm]
theorem upd_same (F : Nat → Int) (a : Nat) (x : Int) : upd F a x a = x := by simp [upd]
theorem upd_far (F : Nat → Int) {a v : Nat} (x : Int) (h : v ≠ a) : upd F a x v = F v := by simp [upd, h]
inductive Conn (E : Nat → Nat → Prop) : Nat → Nat → Prop
 | refl (v : Nat) : Conn E v v
 | tail {u v w : Nat} : Conn E u v → (E v w ∨ E w v) → Conn E u w
end Go.Proofs.Ytljdcinpjnijcaa.Pure
end
section
set_option linter.unusedSectionVars false
namespace Go.Proofs.Ytljdcinpjnijcaa.Sp
structure G where
 n : Nat
 m : Nat
 fr : Nat → Nat
 tw : Nat → Nat
 w : Nat → Int
 use : Nat → Bool
structure G.Ok (g : G) : Prop where
 fl : ∀ i, i < g.m → g.fr i < g.n
 tl : ∀ i, i < g.m → g.tw i < g.n
 w0 : ∀ i, i < g.m → 0 ≤ g.w i
inductive Wk (g : G) : Nat → Nat → Nat → Int → Prop
 | nil (v : Nat) : Wk g v v 0 0
 | cons {i v k : Nat} {c : Int} : i < g.m → g.use i = true → Wk g (g.tw i) v k c → Wk g (g.fr i) v (k + 1) (g.w i + c)
theorem Wk.cast {g : G} {u v k k' : Nat} {c c' : Int} (h : Wk g u v k c) (hk : k = k') (hc : c = c') : Wk g u v k' c' := by
 subst hk; subst hc; exact h
theorem Wk.nonneg {g : G} (ok : g.Ok) {u v k : Nat} {c : Int} (h : Wk g u v k c) : 0 ≤ c := by
 induction h with
 | nil => omega
 | cons hi _ _ ih => have := ok.w0 _ hi; omega
theorem nodup_len : ∀ (n : Nat) (l : List Nat), l.Nodup → (∀ x ∈ l, x < n) → l.length ≤ n := by
 intro n
 induction n with
 | zero =>
  intro l _ h
  cases l with
  | nil => simp
  | cons a l => exact absurd (h a (by simp)) (by omega)
 | succ n ih =>
  intro l hn h
  have h1 := ih (l.erase n) (hn.erase n) (fun x hx => by
   have h2 := h x (List.mem_of_mem_erase hx)
   have h3 : x ≠ n := by
    rintro rfl
    exact (List.Nodup.not_mem_erase hn) hx
   omega)
  have := List.length_erase_le (a := n) (l := l)
  have h4 : l.length ≤ (l.erase n).length + 1 := by
   rw [List.length_erase]
   split <;> omega
  omega
inductive Sm (g : G) (t : Nat) : Nat → List Nat → Nat → Int → Prop
 | nil : Sm g t t [t] 0 0
 | cons {i k : Nat} {L : List Nat} {c : Int} : i < g.m → g.use i = true → Sm g t (g.tw i) L k c → g.fr i ∉ L → Sm g t (g.fr i) (g.fr i :: L) (k + 1) (g.w i + c)
theorem Sm.wk {g : G} {t u k : Nat} {L : List Nat} {c : Int} (h : Sm g t u L k c) : Wk g u t k c := by
 induction h with
 | nil => exact .nil _
 | cons hi hu _ _ ih => exact .cons hi hu ih
theorem Sm.facts {g : G} (ok : g.Ok) {t u k : Nat} (ht : t < g.n) {L : List Nat} {c : Int} (h : Sm g t u L k c) : L.Nodup ∧ (∀ x ∈ L, x < g.n) ∧ L.length = k + 1 := by
 induction h with
 | nil => simp [ht]
 | cons hi _ _ hn ih =>
  refine ⟨List.nodup_cons.2 ⟨hn, ih.1⟩, ?_, by simp [ih.2.2]⟩
  intro x hx
  rcases List.mem_cons.1 hx with rfl | hx
  ·exact ok.fl _ hi
  ·exact ih.2.1 x hx
theorem Sm.tail {g : G} (ok : g.Ok) {t u k : Nat} {L : List Nat} {c : Int} (h : Sm g t u L k c) {x : Nat} (hx : x ∈ L) : ∃ L' k' c', Sm g t x L' k' c' ∧ k' ≤ k ∧ c' ≤ c := by
 induction h with
 | nil =>
  obtain rfl : x = t := by simpa using hx
  exact ⟨_, _, _, .nil, Nat.le_refl _, Int.le_refl _⟩
 | cons hi hu h hn ih =>
  rcases List.mem_cons.1 hx with rfl | hx
  ·exact ⟨_, _, _, .cons hi hu h hn, Nat.le_refl _, Int.le_refl _⟩
  ·obtain ⟨L', k', c', h1, h2, h3⟩ := ih hx
   have := ok.w0 _ hi
   exact ⟨L', k', c', h1, by omega, by omega⟩
theorem Wk.simple {g : G} (ok : g.Ok) {u v k : Nat} {c : Int} (h : Wk g u v k c) : ∃ L k' c', Sm g v u L k' c' ∧ k' ≤ k ∧ c' ≤ c := by
 induction h with
 | nil v => exact ⟨_, _, _, .nil, Nat.le_refl _, Int.le_refl _⟩
 | @cons i v k c hi hu h ih =>
  obtain ⟨L, k', c', h1, h2, h3⟩ := ih
  by_cases hm : g.fr i ∈ L
  case neg => exact ⟨_, _, _, .cons hi hu h1 hm, by omega, by omega⟩
  obtain ⟨L'', k'', c'', h4, h5, h6⟩ := h1.tail ok hm
  have := ok.w0 _ hi
  exact ⟨L'', k'', c'', h4, by omega, by omega⟩
theorem Wk.short {g : G} (ok : g.Ok) {u v k : Nat} (hv : v < g.n) {c : Int} (h : Wk g u v k c) : ∃ k' c', Wk g u v k' c' ∧ k' < g.n ∧ k' ≤ k ∧ c' ≤ c := by
 obtain ⟨L, k', c', h1, h2, h3⟩ := h.simple ok
 obtain ⟨f1, f2, f3⟩ := h1.facts ok hv
 have := nodup_len _ _ f1 f2
 exact ⟨k', c', h1.wk, by omega, h2, h3⟩
def Opt (g : G) (t : Nat) (L : Nat → Option Int) : Prop := ∀ v, v < g.n → (∀ x, L v = some x → ∃ k, Wk g v t k x) ∧ (∀ k c, Wk g v t k c → ∃ x, L v = some x ∧ x ≤ c)
theorem Opt.uniq {g : G} {t : Nat} {L L' : Nat → Option Int} (h : Opt g t L) (h' : Opt g t L') : ∀ v, v < g.n → L v = L' v := by
 intro v hv
 obtain ⟨a, b⟩ := h v hv
 obtain ⟨a', b'⟩ := h' v hv
 cases e : L v with
 | none =>
  cases e' : L' v with
  | none => rfl
  | some y =>
   obtain ⟨k, hk⟩ := a' y e'
   obtain ⟨x, hx, _⟩ := b k y hk
   rw [e] at hx; cases hx
 | some x =>
  obtain ⟨k, hk⟩ := a x e
  obtain ⟨y, hy, h1⟩ := b' k x hk
  obtain ⟨k', hk'⟩ := a' y hy
  obtain ⟨x', hx', h2⟩ := b k' y hk'
  rw [e] at hx'
  obtain rfl := Option.some.inj hx'
  rw [hy]
  congr 1
  omega
def lts (a : Int) : Option Int → Bool
 | none => true
 | some y => decide (a < y)
def put (L : Nat → Option Int) (a : Nat) (x : Int) : Nat → Option Int := fun v => if v = a then some x else L v
def relax (g : G) (L : Nat → Option Int) (i : Nat) : Nat → Option Int :=
 if g.use i = true then
  match L (g.tw i) with
  | none => L
  | some x => if lts (x + g.w i) (L (g.fr i)) = true then put L (g.fr i) (x + g.w i) else L
 else L
theorem relax_cases (g : G) (L : Nat → Option Int) (i : Nat) : (relax g L i = L ∧ (g.use i = true → ∀ x, L (g.tw i) = some x → lts (x + g.w i) (L (g.fr i)) = false)) ∨ (g.use i = true ∧ ∃ x, L (g.tw i) = some x ∧ lts (x + g.w i) (L (g.fr i)) = true ∧ relax g L i = put L (g.fr i) (x + g.w i)) := by
 unfold relax
 by_cases hu : g.use i = true
 case neg =>
  rw [if_neg hu]
  exact .inl ⟨rfl, fun h => absurd h hu⟩
 rw [if_pos hu]
 cases e : L (g.tw i) with
 | none => exact .inl ⟨rfl, fun _ x hx => by cases hx⟩
 | some x =>
  dsimp only
  by_cases hl : lts (x + g.w i) (L (g.fr i)) = true
  case pos =>
   rw [if_pos hl]
   exact .inr ⟨hu, x, rfl, hl, rfl⟩
  rw [if_neg hl]
  refine .inl ⟨rfl, fun _ y hy => ?_⟩
  obtain rfl := Option.some.inj hy
  simpa using hl
def sweep (g : G) (L : Nat → Option Int) : Nat → (Nat → Option Int)
 | 0 => L
 | i + 1 => relax g (sweep g L i) i
def Le (a b : Option Int) : Prop := ∀ y, b = some y → ∃ x, a = some x ∧ x ≤ y
theorem Le.refl (a : Option Int) : Le a a := fun y h => ⟨y, h, Int.le_refl _⟩
theorem Le.trans {a b c : Option Int} (h : Le a b) (k : Le b c) : Le a c := by
 intro y hy
 obtain ⟨x, hx, h1⟩ := k y hy
 obtain ⟨z, hz, h2⟩ := h x hx
 exact ⟨z, hz, by omega⟩
theorem put_same (L : Nat → Option Int) (a : Nat) (x : Int) : put L a x a = some x := by simp [put]
theorem put_far (L : Nat → Option Int) {a v : Nat} (x : Int) (h : v ≠ a) : put L a x v = L v := by simp [put, h]
theorem relax_le (g : G) (L : Nat → Option Int) (i v : Nat) : Le (relax g L i v) (L v) := by
 rcases relax_cases g L i with ⟨e, _⟩ | ⟨_, x, hx, hl, e⟩
 ·rw [e]; exact Le.refl _
 ·rw [e]
  by_cases hv : v = g.fr i
  case neg => rw [put_far _ _ hv]; exact Le.refl _
  subst hv
  rw [put_same]
  intro y hy
  rw [hy] at hl
  exact ⟨_, rfl, by simp [lts] at hl; omega⟩
theorem relax_arc (g : G) (L : Nat → Option Int) (i : Nat) (hu : g.use i = true) {x : Int} (hx : L (g.tw i) = some x) : Le (relax g L i (g.fr i)) (some (x + g.w i)) := by
 intro y hy
 obtain rfl := Option.some.inj hy
 unfold relax
 rw [if_pos hu, hx]
 dsimp only
 split
 ·exact ⟨_, by simp [put], Int.le_refl _⟩
 ·rename_i hl
  cases e : L (g.fr i) with
  | none => rw [e] at hl; simp [lts] at hl
  | some z => rw [e] at hl; exact ⟨z, rfl, by simp [lts] at hl; omega⟩
theorem sweep_le (g : G) (L : Nat → Option Int) (i s v : Nat) : Le (sweep g L (i + s) v) (sweep g L i v) := by
 induction s with
 | zero => exact Le.refl _
 | succ s ih => exact (relax_le g _ _ v).trans ih
theorem sweep_arc (g : G) (L : Nat → Option Int) {i : Nat} (hi : i < g.m) (hu : g.use i = true) {x : Int} (hx : L (g.tw i) = some x) : ∃ y, sweep g L g.m (g.fr i) = some y ∧ y ≤ x + g.w i := by
 have h0 := sweep_le g L 0 i (g.tw i)
 rw [Nat.zero_add] at h0
 obtain ⟨x', hx', h1⟩ := h0 x hx
 have h2 := relax_arc g (sweep g L i) i hu hx'
 have h3 := sweep_le g L (i + 1) (g.m - (i + 1)) (g.fr i)
 rw [show i + 1 + (g.m - (i + 1)) = g.m by omega] at h3
 obtain ⟨y, hy, h4⟩ := (h3.trans h2) _ rfl
 exact ⟨y, hy, by omega⟩
def Real (g : G) (t : Nat) (L : Nat → Option Int) : Prop := ∀ v x, L v = some x → ∃ k, Wk g v t k x
theorem relax_real {g : G} {t : Nat} {L : Nat → Option Int} (h : Real g t L) {i : Nat} (hi : i < g.m) : Real g t (relax g L i) := by
 intro v x hx
 rcases relax_cases g L i with ⟨e, _⟩ | ⟨hu, y, hy, hl, e⟩
 ·rw [e] at hx; exact h v x hx
 ·rw [e] at hx
  by_cases hv : v = g.fr i
  case neg => rw [put_far _ _ hv] at hx; exact h v x hx
  subst hv
  rw [put_same] at hx
  obtain rfl := Option.some.inj hx
  obtain ⟨k, hk⟩ := h _ _ hy
  exact ⟨k + 1, (Wk.cons hi hu hk).cast rfl (by omega)⟩
theorem sweep_real {g : G} {t : Nat} {L : Nat → Option Int} (h : Real g t L) : ∀ i, i ≤ g.m → Real g t (sweep g L i) := by
 intro i
 induction i with
 | zero => exact fun _ => h
 | succ i ih => exact fun hi => relax_real (ih (by omega)) (by omega)
theorem opt_of_fix {g : G} {t : Nat} {L : Nat → Option Int} (h : Real g t L) (ht : Le (L t) (some 0)) (hf : ∀ v, sweep g L g.m v = L v) : Opt g t L := by
 intro v hv0
 clear hv0
 refine ⟨fun x hx => h v x hx, fun k c hw => ?_⟩
 clear h
 induction hw with
 | nil =>
  obtain ⟨x, hx, h1⟩ := ht 0 rfl
  exact ⟨x, hx, h1⟩
 | cons hi hu _ ih =>
  obtain ⟨x, hx, h1⟩ := ih ht
  obtain ⟨y, hy, h2⟩ := sweep_arc g L hi hu hx
  rw [hf] at hy
  exact ⟨y, hy, by omega⟩
def start (t : Nat) : Nat → Option Int := fun v => if v = t then some 0 else none
def rounds (g : G) (t : Nat) : Nat → (Nat → Option Int)
 | 0 => start t
 | r + 1 => sweep g (rounds g t r) g.m
theorem start_real (g : G) (t : Nat) : Real g t (start t) := by
 intro v x hx
 unfold start at hx
 split at hx
 ·rename_i e
  obtain rfl := Option.some.inj hx
  subst e
  exact ⟨0, .nil _⟩
 ·cases hx
theorem rounds_real (g : G) (t : Nat) : ∀ r, Real g t (rounds g t r) := by
 intro r
 induction r with
 | zero => exact start_real g t
 | succ r ih => exact sweep_real ih _ (Nat.le_refl _)
theorem rounds_le (g : G) (t r s v : Nat) : Le (rounds g t (r + s) v) (rounds g t r v) := by
 induction s with
 | zero => exact Le.refl _
 | succ s ih =>
  have := sweep_le g (rounds g t (r + s)) 0 g.m v
  rw [Nat.zero_add] at this
  exact this.trans ih
theorem rounds_t (g : G) (t r : Nat) : Le (rounds g t r t) (some 0) := by
 have := rounds_le g t 0 r t
 rw [Nat.zero_add] at this
 exact this.trans (by simp [rounds, start]; exact Le.refl _)
theorem rounds_walk {g : G} {t r u k : Nat} {c : Int} (h : Wk g u t k c) (hk : k ≤ r) : ∃ x, rounds g t r u = some x ∧ x ≤ c := by
 induction h generalizing r with
 | nil => exact rounds_t g _ r 0 rfl
 | cons hi hu _ ih =>
  obtain ⟨r, rfl⟩ : ∃ q, r = q + 1 := ⟨r - 1, by omega⟩
  obtain ⟨x, hx, h1⟩ := ih (r := r) (by omega)
  obtain ⟨y, hy, h2⟩ := sweep_arc g _ hi hu hx
  exact ⟨y, hy, by omega⟩
theorem rounds_opt {g : G} (ok : g.Ok) {t r : Nat} (ht : t < g.n) (hr : g.n ≤ r + 1) : Opt g t (rounds g t r) := by
 intro v _
 refine ⟨fun x hx => rounds_real g t r v x hx, fun k c hw => ?_⟩
 obtain ⟨k', c', h1, h2, h3, h4⟩ := hw.short ok ht
 obtain ⟨x, hx, h5⟩ := rounds_walk (r := r) h1 (by omega)
 exact ⟨x, hx, by omega⟩
theorem relax_none {g : G} {L : Nat → Option Int} (hn : ∀ v, g.n ≤ v → L v = none) (ok : g.Ok) {i : Nat} (hi : i < g.m) : ∀ v, g.n ≤ v → relax g L i v = none := by
 intro v hv
 rcases relax_cases g L i with ⟨e, _⟩ | ⟨_, x, hx, hl, e⟩
 ·rw [e]; exact hn v hv
 ·rw [e, put_far _ _ (by have := ok.fl i hi; omega)]; exact hn v hv
theorem sweep_none {g : G} {L : Nat → Option Int} (ok : g.Ok) (hn : ∀ v, g.n ≤ v → L v = none) : ∀ i, i ≤ g.m → ∀ v, g.n ≤ v → sweep g L i v = none := by
 intro i
 induction i with
 | zero => exact fun _ => hn
 | succ i ih => exact fun hi => relax_none (ih (by omega)) ok (by omega)
theorem rounds_none {g : G} (ok : g.Ok) {t : Nat} (ht : t < g.n) : ∀ r v, g.n ≤ v → rounds g t r v = none := by
 intro r
 induction r with
 | zero => intro v hv; simp [rounds, start]; omega
 | succ r ih => exact sweep_none ok ih _ (Nat.le_refl _)
theorem rounds_fix {g : G} (ok : g.Ok) {t r : Nat} (ht : t < g.n) (hr : g.n ≤ r + 1) : ∀ v, rounds g t (r + 1) v = rounds g t r v := by
 intro v
 by_cases hv : v < g.n
 case pos => exact (rounds_opt ok ht (by omega)).uniq (rounds_opt ok ht hr) v hv
 rw [rounds_none ok ht _ v (by omega), rounds_none ok ht _ v (by omega)]
theorem sweep_same {g : G} {L : Nat → Option Int} (h : ∀ v, sweep g L g.m v = L v) {i : Nat} (hi : i ≤ g.m) : ∀ v, sweep g L i v = L v := by
 intro v
 have h1 := sweep_le g L 0 i v
 have h2 := sweep_le g L i (g.m - i) v
 rw [Nat.zero_add] at h1
 rw [show i + (g.m - i) = g.m by omega, h v] at h2
 cases e : L v with
 | none =>
  cases e' : sweep g L i v with
  | none => rfl
  | some y =>
   obtain ⟨x, hx, _⟩ := h2 y e'
   rw [e] at hx; cases hx
 | some x =>
  obtain ⟨y, hy, a1⟩ := h1 x (by simpa [sweep] using e)
  obtain ⟨x', hx', a2⟩ := h2 y hy
  rw [e] at hx'
  obtain rfl := Option.some.inj hx'
  rw [hy]; congr 1; omega
theorem relax_bd {g : G} {L : Nat → Option Int} {B : Int} (h : ∀ v x, L v = some x → 0 ≤ x ∧ x ≤ B) {i : Nat} {w1 : Int} (hw0 : 0 ≤ g.w i) (hw : g.w i ≤ w1) : ∀ v x, relax g L i v = some x → 0 ≤ x ∧ x ≤ B + w1 := by
 intro v x hx
 rcases relax_cases g L i with ⟨e, _⟩ | ⟨_, y, hy, hl, e⟩
 ·rw [e] at hx; have := h v x hx; omega
 ·rw [e] at hx
  by_cases hv : v = g.fr i
  case neg => rw [put_far _ _ hv] at hx; have := h v x hx; omega
  subst hv
  rw [put_same] at hx
  obtain rfl := Option.some.inj hx
  have := h _ _ hy; omega
end Go.Proofs.Ytljdcinpjnijcaa.Sp
namespace Go.Proofs.Ytljdcinpjnijcaa.Sp
structure Dbl (g e s : G) (D : Nat → Option Int) : Prop where
 en : e.n = g.n
 em : e.m = g.m
 ef : e.fr = g.fr
 et : e.tw = g.tw
 eu : e.use = g.use
 ew : ∀ i, i < g.m → e.w i = 1000 * g.w i + 1
 sn : s.n = g.n
 sm : s.m = g.m
 sf : s.fr = g.fr
 st : s.tw = g.tw
 sw : ∀ i, i < g.m → s.w i = 1
 su : ∀ i, i < g.m → (s.use i = true ↔ g.use i = true ∧ ∃ x, D (g.tw i) = some x ∧ D (g.fr i) = some (g.w i + x))
def both (D S : Nat → Option Int) : Nat → Option Int := fun v =>
 match D v with
 | none => none
 | some d => match S v with
  | none => none
  | some k => some (1000 * d + k)
section
variable {g e s : G} {t : Nat} {D S : Nat → Option Int} (h : Dbl g e s D) (ok : g.Ok) (hD : Opt g t D) (hS : Opt s t S) (ht : t < g.n)
include h
theorem Dbl.okS (ok : g.Ok) : s.Ok := by
 refine ⟨?_, ?_, ?_⟩
 ·rw [h.sf, h.sm, h.sn]; exact ok.fl
 ·rw [h.st, h.sm, h.sn]; exact ok.tl
 ·intro i hi
  rw [h.sm] at hi
  rw [h.sw i hi]; omega
theorem Dbl.toE {u v k : Nat} {c : Int} (w : Wk g u v k c) : Wk e u v k (1000 * c + k) := by
 induction w with
 | nil => exact (Wk.nil _).cast rfl (by omega)
 | @cons i v k c hi hu _ ih =>
  have h1 : Wk e (e.tw i) v k (1000 * c + k) := by rw [h.et]; exact ih
  have h2 := Wk.cons (i := i) (by rw [h.em]; exact hi) (by rw [h.eu]; exact hu) h1
  rw [h.ef, h.ew i hi] at h2
  exact h2.cast rfl (by omega)
theorem Dbl.ofE {u v k : Nat} {c : Int} (w : Wk e u v k c) : ∃ c', Wk g u v k c' ∧ c = 1000 * c' + k := by
 induction w with
 | nil => exact ⟨0, .nil _, by omega⟩
 | @cons i v k c hi hu _ ih =>
  obtain ⟨c', h1, h2⟩ := ih
  rw [h.em] at hi
  rw [h.eu] at hu
  rw [h.et] at h1
  refine ⟨g.w i + c', ?_, by rw [h.ew i hi]; omega⟩
  rw [h.ef]
  exact .cons hi hu h1
theorem Dbl.ofS (hD : Opt g t D) (ht : t < g.n) (ok : g.Ok) {u k : Nat} {c : Int} (w : Wk s u t k c) : ∃ d, D u = some d ∧ Wk g u t k d ∧ c = k := by
 generalize ev : t = v at w
 induction w with
 | nil v =>
  subst ev
  obtain ⟨x, hx, h1⟩ := (hD t ht).2 0 0 (.nil _)
  obtain ⟨k, hk⟩ := (hD t ht).1 x hx
  have := hk.nonneg ok
  have e0 : x = 0 := by omega
  subst e0
  exact ⟨0, hx, .nil _, rfl⟩
 | @cons i v k c hi hu _ ih =>
  obtain ⟨d, h1, h2, h3⟩ := ih ev
  rw [h.sm] at hi
  obtain ⟨g1, x, g2, g3⟩ := (h.su i hi).1 hu
  rw [h.st] at h1 h2
  rw [g2] at h1
  obtain rfl := Option.some.inj h1
  rw [h.sf]
  exact ⟨_, g3, .cons hi g1 h2, by rw [h.sw i hi, h3]; omega⟩
theorem Dbl.toS (hD : Opt g t D) (ok : g.Ok) {u k : Nat} {c : Int} (w : Wk g u t k c) (hc : D u = some c) : Wk s u t k k := by
 generalize ev : t = v at w
 induction w with
 | nil => exact .nil _
 | @cons i v k c hi hu w ih =>
  subst ev
  obtain ⟨x, hx, h1⟩ := (hD _ (ok.tl i hi)).2 k c w
  obtain ⟨j, hj⟩ := (hD _ (ok.tl i hi)).1 x hx
  obtain ⟨y, hy, h2⟩ := (hD _ (ok.fl i hi)).2 _ _ (Wk.cons hi hu hj)
  rw [hc] at hy
  obtain rfl := Option.some.inj hy
  have ex : x = c := by omega
  subst ex
  have h3 := ih hx rfl
  rw [← h.st] at h3
  have h4 := Wk.cons (i := i) (by rw [h.sm]; exact hi) ((h.su i hi).2 ⟨hu, x, hx, hc⟩) h3
  rw [h.sf, h.sw i hi] at h4
  exact h4.cast rfl (by omega)
theorem Dbl.some (hD : Opt g t D) (hS : Opt s t S) (ht : t < g.n) (ok : g.Ok) {v : Nat} (hv : v < g.n) {d : Int} (hd : D v = .some d) : ∃ k : Nat, S v = .some (k : Int) ∧ k < g.n ∧ Wk s v t k k := by
 obtain ⟨k, hk⟩ := (hD v hv).1 d hd
 have w := h.toS hD ok hk hd
 obtain ⟨x, hx, h1⟩ := (hS v (by rw [h.sn]; exact hv)).2 _ _ w
 obtain ⟨j, hj⟩ := (hS v (by rw [h.sn]; exact hv)).1 x hx
 obtain ⟨d', e1, e2, e3⟩ := h.ofS hD ht ok hj
 obtain ⟨j', c', w1, w2, w3, w4⟩ := hj.short (h.okS ok) (by rw [h.sn]; exact ht)
 obtain ⟨y, hy, h5⟩ := (hS v (by rw [h.sn]; exact hv)).2 _ _ w1
 rw [hx] at hy
 obtain rfl := Option.some.inj hy
 obtain ⟨_, _, _, e5⟩ := h.ofS hD ht ok w1
 rw [h.sn] at w2
 exact ⟨j, by rw [hx, e3], by omega, e3 ▸ hj⟩
theorem Dbl.opt (hD : Opt g t D) (hS : Opt s t S) (ht : t < g.n) (ok : g.Ok) (h8 : g.n ≤ 1000) : Opt e t (both D S) := by
 intro v hv
 rw [h.en] at hv
 constructor
 ·intro x hx
  unfold both at hx
  cases ed : D v with
  | none => rw [ed] at hx; cases hx
  | some d =>
   obtain ⟨k, hk, h1, h2⟩ := h.some hD hS ht ok hv ed
   rw [ed, hk] at hx
   obtain rfl := Option.some.inj hx
   obtain ⟨d', g1, g2, g3⟩ := h.ofS hD ht ok h2
   rw [ed] at g1
   obtain rfl := Option.some.inj g1
   exact ⟨k, h.toE g2⟩
 ·intro k c w
  obtain ⟨c', w1, rfl⟩ := h.ofE w
  obtain ⟨d, hd, h1⟩ := (hD v hv).2 _ _ w1
  obtain ⟨j, hj, h2, h3⟩ := h.some hD hS ht ok hv hd
  refine ⟨1000 * d + j, by simp [both, hd, hj], ?_⟩
  by_cases e0 : d = c'
  case neg => omega
  subst e0
  have w2 := h.toS hD ok w1 hd
  obtain ⟨x, hx, h4⟩ := (hS v (by rw [h.sn]; exact hv)).2 _ _ w2
  rw [hj] at hx
  obtain rfl := Option.some.inj hx
  omega
end
end Go.Proofs.Ytljdcinpjnijcaa.Sp
end
