/- For the statement FnExactRingBest of this seat: it is proved here, with no further conditions (part 8 of its texts: words, walks of the functions, the plain law, the row). -/
import Derived.ChangeArms
import Derived.ChangeSlices
import Derived.Deep.Slices
import Derived.WideShapes
import Derived.DataReads
import Derived.Test.YtljdcinpjnijcaaKFnExactRingBest6
section
namespace Go.Proofs.Ytljdcinpjnijcaa.Pr
open Go.RowKit Go.Proofs.YtljdcinpjnijcaaW.PrintWords Go.Proofs.YtljdcinpjnijcaaW.PrintLast Go.Proofs.YtljdcinpjnijcaaW.PrintMore
attribute [local go_sem] max2_int min2_int max_two min_two max_three min_three max_four min_four
set_option linter.unusedVariables false
set_option linter.unusedSimpArgs false
def spec_l24Best.l0 : Nat → Int → List Int → Int → Int → List (S34) → Option (List Int × Int)
 | 0, _, _, _, _, _ => none
 | k + 1, x4, x5, x6, q6, q2 => if x6 < (q2.length : Int) then (if 0 ≤ x6 then ((spec_l3Walk.f k q6 q2 ((rd_T34 q2 x6).f1) ((rd_T34 q2 x6).f0)).bind fun bt803 => ((spec_l2Cost.f k q6 q2 bt803.1).bind fun t807 => (if bt803.2 = true then (if (wrap64 (((rd_T34 q2 x6).f2) + t807)) < x4 then ((some (([x6] : List Int) : List Int)).bind fun y808 => (if y808.length + bt803.1.length < 17592186044416 then (spec_l24Best.l0 k (wrap64 (((rd_T34 q2 x6).f2) + t807)) (y808 ++ bt803.1) (wrap64 (x6 + 1)) q6 q2) else (none))) else (spec_l24Best.l0 k x4 x5 (wrap64 (x6 + 1)) q6 q2)) else (spec_l24Best.l0 k x4 x5 (wrap64 (x6 + 1)) q6 q2)))) else (none)) else (some (x5, x4))
def spec_l24Best.f (k : Nat) (a0_0 : Int) (l0_1 : List (S34)) : Option (List Int × Int) := spec_l24Best.l0 k 99999 (([] : List Int)) 0 a0_0 l0_1
set_option maxHeartbeats 8000000 in
set_option maxRecDepth 100000 in
theorem spec_l24Best.calls (k : Nat) (a0_0 : Int) (A0_1 : Option Addr) (c0_1 : Nat) (l0_1 : List (S34)) (r1 : List Int) (r2 : Int) (w : World) (hr0_1 : Kd.C k34 w A0_1 l0_1.length l0_1) (hc0_1 : l0_1.length ≤ c0_1) (h : spec_l24Best.f k a0_0 l0_1 = some (r1, r2)) :
  Calls Try.prog 72 #[.agg #[.int .i64 a0_0, .slice A0_1 l0_1.length c0_1]] w fun e w' => ∃ v0_ : Value, e = .returned (.tuple #[v0_, .int .i64 r2]) ∧ Kd.R (Kd.int .i64) 3 w' w.heap.size (fun _ => True) v0_ r1 ∧ Below w.heap.size w w' := by
 have hu25 := Try.underlying25
 have hu34 := Try.underlying34
 have q7 := Aside0.mk hr0_1
 have q8 := Aside0.mk hc0_1
 clear hr0_1 hc0_1
 have HB := Aside0.mk (Below.refl w.heap.size w)
 have H : (spec_l24Best.l0 k 99999 (([] : List Int)) 0 a0_0 l0_1) = some (r1, r2) := h
 clear h
 obtain ⟨y798, hy798⟩ : ∃ y_ : List Int, y_ = (([] : List Int)) := ⟨_, rfl⟩
 replace H : (spec_l24Best.l0 k 99999 y798 0 a0_0 l0_1) = some (r1, r2) := by first | (rw [hy798]; with_reducible exact H) | (have H2_ := (Option.bind_some _ _).symm.trans H; rw [hy798]; with_reducible exact H2_) | (have H2_ := (Option.bind_some _ _).symm.trans H; with_reducible exact H2_) | with_reducible exact H | (rw [hy798]; exact H) | exact H
 have Ny798 := Aside0.mk hy798
 clear hy798
 have H' := Aside0.mk H
 clear H
 go_enter Try.func72, Try.ntmps72
 go_wp2_with (first | ((with_reducible refine gate_dst (N := 1) rfl ?_); refine box_event ?hg (N := 1) ?hd (cs := #[.int .i64 a0_0, .slice A0_1 l0_1.length c0_1]) (t := 25) ?hr ?_; (case hd => rfl); (case hg => rfl); (case hr => first | (go_simp; done) | (go_simp; rfl)); intro p5 hg w2 hbox hb; have n0_ := Aside0.mk (below_step HB.out hb); have n1_ := Aside0.mk (hbox); have n2_ := Aside0.mk ((by rw [hg]; exact (below_size HB.out) : w.heap.size ≤ p5)); have n3_ := Aside0.mk ((by rw [hg]; exact (below_size HB.out) : w.heap.size ≤ p5)); clear HB; have HB := n0_; have p1 := n1_; have GW797 := n2_; have q3 := n3_; clear n0_ n1_ n2_ n3_; clear hb hbox hg) | ((with_reducible refine gate_dst (N := 11) rfl ?_); refine Kd.R_lit (Kd.int .i64) _ 3 ?hg (N := 11) ?hd (xs := ([] : List Int)) (inner := []) (ok := fun _ => True) (okp := fun _ => True) ?hr ?hp (fun _ hk => hk) trivial (Below.refl _ _) (Nat.le_refl _) (by simp) ?_; (case hd => rfl); (case hg => rfl); (case hr => first | (go_simp; done) | (go_simp; rfl)); (case hp => exact (Reps.none _ _)); intro v799 w3 ho4 hb hg_ hnew_; clear hg_ hnew_; (first | rw [← Ny798.out] at ho4 | (simp only [Int.reduceToNat] at ho4; rw [← Ny798.out] at ho4)); have n0_ := Aside0.mk (Kd.R_lower ho4 (below_size HB.out)); have n1_ := Aside0.mk (blk_below (g := p5) (o := .cells #[.int .i64 a0_0, .slice A0_1 l0_1.length c0_1] 25 (0, 0)) p1.out hb); have n2_ := Aside0.mk (below_step HB.out hb); clear p1; clear HB; have HO800 := n0_; have p1 := n1_; have HB := n2_; clear n0_ n1_ n2_; clear hb ho4))
 go_loopg [4, 5, 6] k (fun kq v4 v5 v6 w' => ∃ (x4_1 : Int) (x5_1 : List Int) (x6_1 : Int), v4 = .int .i64 x4_1 ∧ v6 = .int .i64 x6_1 ∧ Aside0 (spec_l24Best.l0 kq x4_1 x5_1 x6_1 a0_0 l0_1 = some (r1, r2)) ∧ Aside0 (kq ≤ k) ∧ Aside0 (Kd.R (Kd.int .i64) 3 w' w.heap.size (fun _ => True) v5 x5_1) ∧ Aside0 (w'.heap[p5]? = some (.cells #[.int .i64 a0_0, (.slice A0_1 l0_1.length c0_1)] 25 (0, 0))) ∧ Aside0 (Below w.heap.size w w'))
 case atStart => exact ⟨(99999), (y798), (0), (by first | rfl | (simp; done) | (simp [*]; done)), (by first | rfl | (simp; done) | (simp [*]; done)), H', ⟨Nat.le_refl _⟩, ⟨by exact HO800.out⟩, ⟨by exact p1.out⟩, ⟨by repeat (first | (with_reducible first | exact HB.out | apply below_alloc | apply pw_below_drewN | apply below_drew1 | refine below_set ?_ q3.out) | exact HB.out)⟩⟩
 case round =>
  clear H'
  try clear p2
  obtain ⟨x4_1, x5_1, x6_1, rfl, rfl, HA, HK1, HO_5, p1, HB⟩ := hrel
  cases gk with
  | zero => exact absurd HA.out (by simp [spec_l24Best.l0])
  | succ k1 =>
   have H := HA.out
   clear HA
   simp only [spec_l24Best.l0] at H
   by_cases c5 : x6_1 < (l0_1.length : Int)
   case neg =>
    rw [if_neg c5] at H
    have c5b0 : decide (x6_1 < (l0_1.length : Int)) = false := decide_eq_false c5
    clear c5
    simp only [Option.some.injEq, Prod.mk.injEq] at H
    obtain ⟨rfl, rfl⟩ := H
    have hcz42_0 : wr.cell? ⟨p5, 0, none⟩ = some (.int .i64 a0_0) := (blk_cell p1.out 0).trans rfl
    have hcz42_1 : wr.cell? ⟨p5, 1, none⟩ = some (.slice A0_1 l0_1.length c0_1) := (blk_cell p1.out 1).trans rfl
    have hfz42_0 := blk_frozen p1.out 0
    have hfz42_1 := blk_frozen p1.out 1
    go_wp2
    go_ret2
    exact ⟨_, by first | rfl | (simp [errW_none, errW_some] <;> rfl) | (simp [*, errW_none, errW_some] <;> rfl), by exact HO_5.out, by repeat (first | (with_reducible first | exact HB.out | apply below_alloc | apply pw_below_drewN | apply below_drew1 | refine below_set ?_ q3.out) | exact HB.out)⟩
   rw [if_pos c5] at H
   have c5b0 : decide (x6_1 < (l0_1.length : Int)) = true := decide_eq_true c5
   clear c5
   by_cases c6 : 0 ≤ x6_1
   case neg =>
    rw [if_neg c6] at H
    exact absurd H (by simp)
   rw [if_pos c6] at H
   have c6b0 : decide (0 ≤ x6_1) = true := decide_eq_true c6
   clear c6
   replace H := Option.bind_eq_some_iff.mp H
   obtain ⟨⟨t803, t806⟩, A70, H⟩ := H
   replace H : ((spec_l2Cost.f k1 a0_0 l0_1 t803).bind fun t807 => (if t806 = true then (if (wrap64 (((rd_T34 l0_1 x6_1).f2) + t807)) < x4_1 then ((some (([x6_1] : List Int) : List Int)).bind fun y808 => (if y808.length + t803.length < 17592186044416 then (spec_l24Best.l0 k1 (wrap64 (((rd_T34 l0_1 x6_1).f2) + t807)) (y808 ++ t803) (wrap64 (x6_1 + 1)) a0_0 l0_1) else (none))) else (spec_l24Best.l0 k1 x4_1 x5_1 (wrap64 (x6_1 + 1)) a0_0 l0_1)) else (spec_l24Best.l0 k1 x4_1 x5_1 (wrap64 (x6_1 + 1)) a0_0 l0_1))) = some (r1, r2) := H
   have A7 := Aside0.mk A70
   clear A70
   replace H := Option.bind_eq_some_iff.mp H
   obtain ⟨t807, A80, H⟩ := H
   replace H : (if t806 = true then (if (wrap64 (((rd_T34 l0_1 x6_1).f2) + t807)) < x4_1 then ((some (([x6_1] : List Int) : List Int)).bind fun y808 => (if y808.length + t803.length < 17592186044416 then (spec_l24Best.l0 k1 (wrap64 (((rd_T34 l0_1 x6_1).f2) + t807)) (y808 ++ t803) (wrap64 (x6_1 + 1)) a0_0 l0_1) else (none))) else (spec_l24Best.l0 k1 x4_1 x5_1 (wrap64 (x6_1 + 1)) a0_0 l0_1)) else (spec_l24Best.l0 k1 x4_1 x5_1 (wrap64 (x6_1 + 1)) a0_0 l0_1)) = some (r1, r2) := H
   have A8 := Aside0.mk A80
   clear A80
   by_cases c9 : t806 = true
   case neg =>
    replace c9 := Bool.eq_false_iff.mpr c9
    subst c9
    have H1 : (spec_l24Best.l0 k1 x4_1 x5_1 (wrap64 (x6_1 + 1)) a0_0 l0_1) = some (r1, r2) := by rw [if_neg (show ¬ (false = true) by decide)] at H; exact H
    clear H
    have H := H1
    clear H1
    have H' := Aside0.mk H
    clear H
    have hcz33_0 : wr.cell? ⟨p5, 0, none⟩ = some (.int .i64 a0_0) := (blk_cell p1.out 0).trans rfl
    have hcz33_1 : wr.cell? ⟨p5, 1, none⟩ = some (.slice A0_1 l0_1.length c0_1) := (blk_cell p1.out 1).trans rfl
    have hfz33_0 := blk_frozen p1.out 0
    have hfz33_1 := blk_frozen p1.out 1
    have p801 : 0 ≤ (x6_1 : Int) := of_decide_eq_true (by first | (with_reducible assumption) | assumption)
    have q801 : x6_1 < (l0_1.length : Int) := of_decide_eq_true (by first | (with_reducible assumption) | assumption)
    obtain ⟨p6, e801, p7, p8, p9, q0, q1⟩ := at_T34 q7.out x6_1 p801 q801
    cases e801
    replace p7 := (HB.out.cell (World.block_lt_of_cell? w _ p7)).trans p7
    replace p8 := (HB.out.cell (World.block_lt_of_cell? w _ p8)).trans p8
    replace p9 := (HB.out.cell (World.block_lt_of_cell? w _ p9)).trans p9
    replace q0 := (HB.out.cell (World.block_lt_of_cell? w _ q0)).trans q0
    replace q1 := (HB.out.cell (World.block_lt_of_cell? w _ q1)).trans q1
    replace p801 := eq_true p801
    replace q801 := eq_true q801
    try go_wp2_with (first | ((with_reducible refine gate_dst (N := 7) rfl ?_); refine box_event ?hg (N := 7) ?hd (cs := #[.int .i64 0, .int .i64 0, .int .i64 0, .int .i64 0, .int .i64 0]) (t := 34) ?hr ?_; (case hd => rfl); (case hg => rfl); (case hr => first | (go_simp; done) | (go_simp; rfl)); intro p3 hg w34 hbox hb; have n0_ := Aside0.mk (Kd.R_below HO_5.out hb); have n1_ := Aside0.mk (blk_below (g := p5) (o := .cells #[.int .i64 a0_0, .slice (some p6) l0_1.length c0_1] 25 (0, 0)) p1.out hb); have n2_ := Aside0.mk (below_step HB.out hb); have n3_ := Aside0.mk (hbox); have n4_ := Aside0.mk ((by rw [hg]; exact (below_size HB.out) : w.heap.size ≤ p3)); have n5_ := Aside0.mk ((by rw [hg]; exact (below_size HB.out) : w.heap.size ≤ p3)); have n6_ := Aside0.mk ((by rw [hg]; exact Nat.ne_of_lt (blk_lt (g := p5) (o := .cells #[.int .i64 a0_0, .slice (some p6) l0_1.length c0_1] 25 (0, 0)) p1.out) : p5 ≠ p3)); have n7_ := Aside0.mk ((by rw [hg]; exact Nat.ne_of_gt (blk_lt (g := p5) (o := .cells #[.int .i64 a0_0, .slice (some p6) l0_1.length c0_1] 25 (0, 0)) p1.out) : p3 ≠ p5)); clear HO_5; clear p1; clear HB; have HO_5 := n0_; have p1 := n1_; have HB := n2_; have p0 := n3_; have GW802 := n4_; have q4 := n5_; have p4 := n6_; have q5 := n7_; clear n0_ n1_ n2_ n3_ n4_ n5_ n6_ n7_; clear hb hbox hg; have hnb35 := q5.out; have hnc35 := p4.out; have hcz36_0 : w34.cell? ⟨p3, 0, none⟩ = some (.int .i64 0) := (blk_cell p0.out 0).trans rfl; have hcz36_1 : w34.cell? ⟨p3, 1, none⟩ = some (.int .i64 0) := (blk_cell p0.out 1).trans rfl; have hcz36_2 : w34.cell? ⟨p3, 2, none⟩ = some (.int .i64 0) := (blk_cell p0.out 2).trans rfl; have hcz36_3 : w34.cell? ⟨p3, 3, none⟩ = some (.int .i64 0) := (blk_cell p0.out 3).trans rfl; have hcz36_4 : w34.cell? ⟨p3, 4, none⟩ = some (.int .i64 0) := (blk_cell p0.out 4).trans rfl; have hfz36_0 := blk_frozen p0.out 0; have hfz36_1 := blk_frozen p0.out 1; have hfz36_2 := blk_frozen p0.out 2; have hfz36_3 := blk_frozen p0.out 3; have hfz36_4 := blk_frozen p0.out 4; have hcz37_0 : w34.cell? ⟨p5, 0, none⟩ = some (.int .i64 a0_0) := (blk_cell p1.out 0).trans rfl; have hcz37_1 : w34.cell? ⟨p5, 1, none⟩ = some (.slice (some p6) l0_1.length c0_1) := (blk_cell p1.out 1).trans rfl; have hfz37_0 := blk_frozen p1.out 0; have hfz37_1 := blk_frozen p1.out 1) | ((with_reducible refine gate_callee (f := 66) rfl ?_); refine goesL_ (some 30) rfl rfl Try.func66 (by kernel_rfl) rfl #[.agg #[.int .i64 a0_0, .slice (some p6) l0_1.length c0_1], .int .i64 ((rd_T34 l0_1 x6_1).f1), .int .i64 ((rd_T34 l0_1 x6_1).f0)] rfl (by (try simp only [List.map_toArray, List.map_cons, List.map_nil]); first | done | rfl | (simp only [List.length_drop, List.length_take]; rfl)) ?_; (with_reducible refine (spec_l3Walk.calls k1 a0_0 _ _ l0_1 ((rd_T34 l0_1 x6_1).f1) ((rd_T34 l0_1 x6_1).f0) t803 false _ ?side1 ?side2 A7.out).mono ?_); (case side1 => exact Kd.C_below q7.out (by repeat (first | (with_reducible first | exact HB.out | apply below_alloc | apply pw_below_drewN | apply below_drew1 | refine below_set ?_ q3.out | refine below_set ?_ q4.out) | exact HB.out))); (case side2 => exact q8.out); rintro e w38 ⟨v804, rfl, ho0, hb⟩; refine ⟨_, rfl, ?_⟩; have n0_ := Aside0.mk (Kd.R_elder' (Kd.R_mono (Kd.R_far (p := ⟨p3, 4, none⟩) (Kd.R_far (p := ⟨p3, 3, none⟩) (Kd.R_far (p := ⟨p3, 2, none⟩) (Kd.R_far (p := ⟨p3, 1, none⟩) (Kd.R_far (p := ⟨p3, 0, none⟩) (Kd.R_types HO_5.out p0.out (by decide)) (fun _ hk => hk.2) (.int .i64 ((rd_T34 l0_1 x6_1).f0))) (fun _ hk => hk.2) (.int .i64 ((rd_T34 l0_1 x6_1).f1))) (fun _ hk => hk.2) (.int .i64 ((rd_T34 l0_1 x6_1).f2))) (fun _ hk => hk.2) (.int .i64 ((rd_T34 l0_1 x6_1).f3))) (fun _ hk => hk.2) (.int .i64 ((rd_T34 l0_1 x6_1).f4))) (fun _ h_ => h_.1)) (Kd.R_base ho0) hb); have n1_ := Aside0.mk (Kd.R_lower (Kd.R_new' ho0 (Kd.R_lt (Kd.R_mono (Kd.R_far (p := ⟨p3, 4, none⟩) (Kd.R_far (p := ⟨p3, 3, none⟩) (Kd.R_far (p := ⟨p3, 2, none⟩) (Kd.R_far (p := ⟨p3, 1, none⟩) (Kd.R_far (p := ⟨p3, 0, none⟩) (Kd.R_types HO_5.out p0.out (by decide)) (fun _ hk => hk.2) (.int .i64 ((rd_T34 l0_1 x6_1).f0))) (fun _ hk => hk.2) (.int .i64 ((rd_T34 l0_1 x6_1).f1))) (fun _ hk => hk.2) (.int .i64 ((rd_T34 l0_1 x6_1).f2))) (fun _ hk => hk.2) (.int .i64 ((rd_T34 l0_1 x6_1).f3))) (fun _ hk => hk.2) (.int .i64 ((rd_T34 l0_1 x6_1).f4))) (fun _ h_ => h_.1)))) (below_size (by repeat (first | (with_reducible first | exact HB.out | apply below_alloc | apply pw_below_drewN | apply below_drew1 | refine below_set ?_ q3.out | refine below_set ?_ q4.out) | exact HB.out)))); have n2_ := Aside0.mk (blk_below (g := p5) (o := .cells #[.int .i64 a0_0, .slice (some p6) l0_1.length c0_1] 25 (0, 0)) (by refine blk_far ?_ p4.out _; refine blk_far ?_ p4.out _; refine blk_far ?_ p4.out _; refine blk_far ?_ p4.out _; refine blk_far ?_ p4.out _; exact p1.out) hb); have n3_ := Aside0.mk (blk_below (g := p3) (o := .cells #[.int .i64 ((rd_T34 l0_1 x6_1).f0), .int .i64 ((rd_T34 l0_1 x6_1).f1), .int .i64 ((rd_T34 l0_1 x6_1).f2), .int .i64 ((rd_T34 l0_1 x6_1).f3), .int .i64 ((rd_T34 l0_1 x6_1).f4)] 34 (0, 0)) (by refine blk_put (cs := #[.int .i64 ((rd_T34 l0_1 x6_1).f0), .int .i64 ((rd_T34 l0_1 x6_1).f1), .int .i64 ((rd_T34 l0_1 x6_1).f2), .int .i64 ((rd_T34 l0_1 x6_1).f3), .int .i64 0]) ?_ 4 _ rfl; refine blk_put (cs := #[.int .i64 ((rd_T34 l0_1 x6_1).f0), .int .i64 ((rd_T34 l0_1 x6_1).f1), .int .i64 ((rd_T34 l0_1 x6_1).f2), .int .i64 0, .int .i64 0]) ?_ 3 _ rfl; refine blk_put (cs := #[.int .i64 ((rd_T34 l0_1 x6_1).f0), .int .i64 ((rd_T34 l0_1 x6_1).f1), .int .i64 0, .int .i64 0, .int .i64 0]) ?_ 2 _ rfl; refine blk_put (cs := #[.int .i64 ((rd_T34 l0_1 x6_1).f0), .int .i64 0, .int .i64 0, .int .i64 0, .int .i64 0]) ?_ 1 _ rfl; refine blk_put (cs := #[.int .i64 0, .int .i64 0, .int .i64 0, .int .i64 0, .int .i64 0]) ?_ 0 _ rfl; exact p0.out) hb); have n4_ := Aside0.mk (below_step (by repeat (first | (with_reducible first | exact HB.out | apply below_alloc | apply pw_below_drewN | apply below_drew1 | refine below_set ?_ q3.out | refine below_set ?_ q4.out) | exact HB.out)) hb); clear HO_5; clear p1; clear p0; clear HB; have HO_5 := n0_; have HO805 := n1_; have p1 := n2_; have p0 := n3_; have HB := n4_; clear n0_ n1_ n2_ n3_ n4_; (try clear hb); (try clear hb2); (try clear hk); (try clear hi); (try clear ho0)))
    have n0_ := Aside0.mk (Kd.R_drew HO_5.out)
    have n1_ := Aside0.mk (Kd.R_drew HO805.out)
    have n2_ := Aside0.mk (blk_drew p1.out)
    have n3_ := Aside0.mk (blk_drew p0.out)
    have n4_ := Aside0.mk (below_drew1 HB.out)
    clear HO_5
    clear HO805
    clear p1
    clear p0
    clear HB
    have HO_5 := n0_
    have HO805 := n1_
    have p1 := n2_
    have p0 := n3_
    have HB := n4_
    clear n0_ n1_ n2_ n3_ n4_
    obtain ⟨Ao40, co40, eo40⟩ := Kd.R_slice HO805.out
    (first | subst eo40 | (injection eo40 with f1_ f2_ f3_; have f4_ := f1_.symm; have f5_ := f3_.symm; clear f1_ f2_ f3_; subst f4_; subst f5_))
    refine start_ (n := 7) (S := fun w' => w'.cell? ⟨p3, 0, none⟩ = some (.int .i64 ((rd_T34 l0_1 x6_1).f0)) ∧ w'.cell? ⟨p3, 1, none⟩ = some (.int .i64 ((rd_T34 l0_1 x6_1).f1)) ∧ w'.cell? ⟨p3, 2, none⟩ = some (.int .i64 ((rd_T34 l0_1 x6_1).f2)) ∧ w'.cell? ⟨p3, 3, none⟩ = some (.int .i64 ((rd_T34 l0_1 x6_1).f3)) ∧ w'.cell? ⟨p3, 4, none⟩ = some (.int .i64 ((rd_T34 l0_1 x6_1).f4)) ∧ w'.cell? ⟨p5, 0, none⟩ = some (.int .i64 a0_0) ∧ w'.cell? ⟨p5, 1, none⟩ = some (.slice (some p6) l0_1.length c0_1)) (ds := []) #[false, false, false, false, false, false, false] (by kernel_rfl) rfl rfl ⟨(blk_cell p0.out 0).trans rfl, (blk_cell p0.out 1).trans rfl, (blk_cell p0.out 2).trans rfl, (blk_cell p0.out 3).trans rfl, (blk_cell p0.out 4).trans rfl, (blk_cell p1.out 0).trans rfl, (blk_cell p1.out 1).trans rfl⟩ (fun hHeld => ?_)
    generalize w38.drew = w39 at HO_5 HO805 p1 p0 HB hHeld ⊢
    refine pure_ (i := 0) (N := some 33) (v := ?_) (a' := ?_) #[true, false, false, false, false, false, false] rfl rfl (by kernel_rfl) (fun _ _ _ h => h) (Or.inl ⟨by rfl, ?_⟩) ?_ ?_
    rotate_left
    ·intro w'
     go_simp
     with_reducible rfl
    rotate_left
    ·simp only [Act.put, List.setIfInBounds_toArray, List.set_cons_zero, List.set_cons_succ, i64_w, i32_w]
     rfl
    refine pure_ (i := 3) (N := some 36) (v := ?_) (a' := ?_) #[true, false, false, true, false, false, false] rfl rfl (by kernel_rfl) (fun _ _ _ h => h) (Or.inl ⟨by rfl, ?_⟩) ?_ ?_
    rotate_left
    ·intro w'
     go_simp
     with_reducible rfl
    rotate_left
    ·simp only [Act.put, List.setIfInBounds_toArray, List.set_cons_zero, List.set_cons_succ, i64_w, i32_w]
     rfl
    refine take_ (i := 1) (N := some 34) (v := ?_) (a' := ?_) #[true, true, false, true, false, false, false] rfl rfl (by kernel_rfl) (fun _ _ _ h => h) (Or.inl ⟨by rfl, ?_⟩) hHeld ?_ ?_
    rotate_left
    ·rintro w' ⟨s0, s1, s2, s3, s4, s5, s6⟩
     go_simp
     with_reducible rfl
    rotate_left
    ·simp only [Act.put, List.setIfInBounds_toArray, List.set_cons_zero, List.set_cons_succ, i64_w, i32_w]
     rfl
    refine take_ (i := 2) (N := some 35) (v := ?_) (a' := ?_) #[true, true, true, true, false, false, false] rfl rfl (by kernel_rfl) (fun _ _ _ h => h) (Or.inl ⟨by rfl, ?_⟩) hHeld ?_ ?_
    rotate_left
    ·rintro w' ⟨s0, s1, s2, s3, s4, s5, s6⟩
     go_simp
     with_reducible rfl
    rotate_left
    ·simp only [Act.put, List.setIfInBounds_toArray, List.set_cons_zero, List.set_cons_succ, i64_w, i32_w]
     rfl
    refine one_ (i := 4) (N := some 37) #[true, true, true, true, true, false, false] rfl rfl (by kernel_rfl) (by decide) (fun K hK => ?_)
    refine goes_ Try.func110 (by kernel_rfl) rfl #[.agg #[.int .i64 a0_0, .slice (some p6) l0_1.length c0_1], .slice Ao40 t803.length co40] (by rfl) rfl rfl (by (try simp only [List.map_toArray, List.map_cons, List.map_nil]); first | done | rfl | (simp only [List.length_drop, List.length_take]; rfl)) ?_
    with_reducible refine (spec_l2Cost.calls k1 a0_0 _ _ l0_1 _ _ t803 t807 _ ?side1 ?side2 ?side3 ?side4 A8.out).mono ?_
    (case side1 => repeat (first | exact (Kd.C_below q7.out HB.out) | (with_reducible refine Kd.C_alloc ?_ _) | (with_reducible refine Kd.C_drewN ?_ _) | (with_reducible refine Kd.C_drew ?_)))
    (case side2 => exact q8.out)
    (case side3 => repeat (first | exact (Kd.R_reads' HO805.out).2.2 | (with_reducible refine Kd.C_alloc ?_ _) | (with_reducible refine Kd.C_drewN ?_ _) | (with_reducible refine Kd.C_drew ?_)))
    (case side4 => exact (Kd.R_reads' HO805.out).2.1)
    rintro e w41 ⟨rfl, hb⟩
    refine ⟨_, rfl, ?_⟩
    have n0_ := Aside0.mk (Kd.R_below HO_5.out hb)
    have n1_ := Aside0.mk (Kd.R_below HO805.out hb)
    have n2_ := Aside0.mk (blk_below (g := p5) (o := .cells #[.int .i64 a0_0, .slice (some p6) l0_1.length c0_1] 25 (0, 0)) p1.out hb)
    have n3_ := Aside0.mk (blk_below (g := p3) (o := .cells #[.int .i64 ((rd_T34 l0_1 x6_1).f0), .int .i64 ((rd_T34 l0_1 x6_1).f1), .int .i64 ((rd_T34 l0_1 x6_1).f2), .int .i64 ((rd_T34 l0_1 x6_1).f3), .int .i64 ((rd_T34 l0_1 x6_1).f4)] 34 (0, 0)) p0.out hb)
    have n4_ := Aside0.mk (below_step HB.out hb)
    clear HO_5
    clear HO805
    clear p1
    clear p0
    clear HB
    have HO_5 := n0_
    have HO805 := n1_
    have p1 := n2_
    have p0 := n3_
    have HB := n4_
    clear n0_ n1_ n2_ n3_ n4_
    (try clear hb)
    (try clear hb2)
    (try clear hk)
    (try clear hi)
    refine hK.out _ _ ⟨(blk_cell p0.out 0).trans rfl, (blk_cell p0.out 1).trans rfl, (blk_cell p0.out 2).trans rfl, (blk_cell p0.out 3).trans rfl, (blk_cell p0.out 4).trans rfl, (blk_cell p1.out 0).trans rfl, (blk_cell p1.out 1).trans rfl⟩ (fun hHeld => ?_)
    clear hK K
    refine norm_ (a' := ?_) ?_ ?_
    rotate_left
    ·show Act.put _ (some 37) _ = _
     simp only [Act.put, List.setIfInBounds_toArray, List.set_cons_zero, List.set_cons_succ, i64_w, i32_w]
     rfl
    refine pure_ (i := 5) (N := some 38) (v := ?_) (a' := ?_) #[true, true, true, true, true, true, false] rfl rfl (by kernel_rfl) (fun _ _ _ h => h) (Or.inl ⟨by rfl, ?_⟩) ?_ ?_
    rotate_left
    ·intro w'
     go_simp
     with_reducible rfl
    rotate_left
    ·simp only [Act.put, List.setIfInBounds_toArray, List.set_cons_zero, List.set_cons_succ, i64_w, i32_w]
     rfl
    refine pure_ (i := 6) (N := some 10) (v := ?_) (a' := ?_) #[true, true, true, true, true, true, true] rfl rfl (by kernel_rfl) (fun _ _ _ h => h) (Or.inl ⟨by rfl, ?_⟩) ?_ ?_
    rotate_left
    ·intro w'
     go_simp
     with_reducible rfl
    rotate_left
    ·simp only [Act.put, List.setIfInBounds_toArray, List.set_cons_zero, List.set_cons_succ, i64_w, i32_w]
     rfl
    refine done_ (by kernel_rfl) ?_
    try go_wp2
    go_roundg k1
    case measure => have := HK1.out; omega
    case rel => exact ⟨(x4_1), (x5_1), (wrap64 (x6_1 + 1)), (by first | rfl | (simp; done) | (simp [*]; done)), (by first | rfl | (simp; done) | (simp [*]; done)), H', ⟨by have := HK1.out; omega⟩, ⟨by exact Kd.R_mono HO_5.out (fun _ hk => trivial)⟩, ⟨by exact p1.out⟩, ⟨by repeat (first | (with_reducible first | exact HB.out | apply below_alloc | apply pw_below_drewN | apply below_drew1 | refine below_set ?_ q3.out | refine below_set ?_ q4.out) | exact HB.out)⟩⟩
   subst c9
   have H1 : (if (wrap64 (((rd_T34 l0_1 x6_1).f2) + t807)) < x4_1 then ((some (([x6_1] : List Int) : List Int)).bind fun y808 => (if y808.length + t803.length < 17592186044416 then (spec_l24Best.l0 k1 (wrap64 (((rd_T34 l0_1 x6_1).f2) + t807)) (y808 ++ t803) (wrap64 (x6_1 + 1)) a0_0 l0_1) else (none))) else (spec_l24Best.l0 k1 x4_1 x5_1 (wrap64 (x6_1 + 1)) a0_0 l0_1)) = some (r1, r2) := by rw [if_pos rfl] at H; exact H
   clear H
   have H := H1
   clear H1
   by_cases c10 : (wrap64 (((rd_T34 l0_1 x6_1).f2) + t807)) < x4_1
   case neg =>
    rw [if_neg c10] at H
    have c10b0 : decide ((wrap64 (((rd_T34 l0_1 x6_1).f2) + t807)) < x4_1) = false := decide_eq_false c10
    clear c10
    have H' := Aside0.mk H
    clear H
    have hcz24_0 : wr.cell? ⟨p5, 0, none⟩ = some (.int .i64 a0_0) := (blk_cell p1.out 0).trans rfl
    have hcz24_1 : wr.cell? ⟨p5, 1, none⟩ = some (.slice A0_1 l0_1.length c0_1) := (blk_cell p1.out 1).trans rfl
    have hfz24_0 := blk_frozen p1.out 0
    have hfz24_1 := blk_frozen p1.out 1
    have p801 : 0 ≤ (x6_1 : Int) := of_decide_eq_true (by first | (with_reducible assumption) | assumption)
    have q801 : x6_1 < (l0_1.length : Int) := of_decide_eq_true (by first | (with_reducible assumption) | assumption)
    obtain ⟨p6, e801, p7, p8, p9, q0, q1⟩ := at_T34 q7.out x6_1 p801 q801
    cases e801
    replace p7 := (HB.out.cell (World.block_lt_of_cell? w _ p7)).trans p7
    replace p8 := (HB.out.cell (World.block_lt_of_cell? w _ p8)).trans p8
    replace p9 := (HB.out.cell (World.block_lt_of_cell? w _ p9)).trans p9
    replace q0 := (HB.out.cell (World.block_lt_of_cell? w _ q0)).trans q0
    replace q1 := (HB.out.cell (World.block_lt_of_cell? w _ q1)).trans q1
    replace p801 := eq_true p801
    replace q801 := eq_true q801
    try go_wp2_with (first | ((with_reducible refine gate_dst (N := 7) rfl ?_); refine box_event ?hg (N := 7) ?hd (cs := #[.int .i64 0, .int .i64 0, .int .i64 0, .int .i64 0, .int .i64 0]) (t := 34) ?hr ?_; (case hd => rfl); (case hg => rfl); (case hr => first | (go_simp; done) | (go_simp; rfl)); intro p3 hg w25 hbox hb; have n0_ := Aside0.mk (Kd.R_below HO_5.out hb); have n1_ := Aside0.mk (blk_below (g := p5) (o := .cells #[.int .i64 a0_0, .slice (some p6) l0_1.length c0_1] 25 (0, 0)) p1.out hb); have n2_ := Aside0.mk (below_step HB.out hb); have n3_ := Aside0.mk (hbox); have n4_ := Aside0.mk ((by rw [hg]; exact (below_size HB.out) : w.heap.size ≤ p3)); have n5_ := Aside0.mk ((by rw [hg]; exact (below_size HB.out) : w.heap.size ≤ p3)); have n6_ := Aside0.mk ((by rw [hg]; exact Nat.ne_of_lt (blk_lt (g := p5) (o := .cells #[.int .i64 a0_0, .slice (some p6) l0_1.length c0_1] 25 (0, 0)) p1.out) : p5 ≠ p3)); have n7_ := Aside0.mk ((by rw [hg]; exact Nat.ne_of_gt (blk_lt (g := p5) (o := .cells #[.int .i64 a0_0, .slice (some p6) l0_1.length c0_1] 25 (0, 0)) p1.out) : p3 ≠ p5)); clear HO_5; clear p1; clear HB; have HO_5 := n0_; have p1 := n1_; have HB := n2_; have p0 := n3_; have GW802 := n4_; have q4 := n5_; have p4 := n6_; have q5 := n7_; clear n0_ n1_ n2_ n3_ n4_ n5_ n6_ n7_; clear hb hbox hg; have hnb26 := q5.out; have hnc26 := p4.out; have hcz27_0 : w25.cell? ⟨p3, 0, none⟩ = some (.int .i64 0) := (blk_cell p0.out 0).trans rfl; have hcz27_1 : w25.cell? ⟨p3, 1, none⟩ = some (.int .i64 0) := (blk_cell p0.out 1).trans rfl; have hcz27_2 : w25.cell? ⟨p3, 2, none⟩ = some (.int .i64 0) := (blk_cell p0.out 2).trans rfl; have hcz27_3 : w25.cell? ⟨p3, 3, none⟩ = some (.int .i64 0) := (blk_cell p0.out 3).trans rfl; have hcz27_4 : w25.cell? ⟨p3, 4, none⟩ = some (.int .i64 0) := (blk_cell p0.out 4).trans rfl; have hfz27_0 := blk_frozen p0.out 0; have hfz27_1 := blk_frozen p0.out 1; have hfz27_2 := blk_frozen p0.out 2; have hfz27_3 := blk_frozen p0.out 3; have hfz27_4 := blk_frozen p0.out 4; have hcz28_0 : w25.cell? ⟨p5, 0, none⟩ = some (.int .i64 a0_0) := (blk_cell p1.out 0).trans rfl; have hcz28_1 : w25.cell? ⟨p5, 1, none⟩ = some (.slice (some p6) l0_1.length c0_1) := (blk_cell p1.out 1).trans rfl; have hfz28_0 := blk_frozen p1.out 0; have hfz28_1 := blk_frozen p1.out 1) | ((with_reducible refine gate_callee (f := 66) rfl ?_); refine goesL_ (some 30) rfl rfl Try.func66 (by kernel_rfl) rfl #[.agg #[.int .i64 a0_0, .slice (some p6) l0_1.length c0_1], .int .i64 ((rd_T34 l0_1 x6_1).f1), .int .i64 ((rd_T34 l0_1 x6_1).f0)] rfl (by (try simp only [List.map_toArray, List.map_cons, List.map_nil]); first | done | rfl | (simp only [List.length_drop, List.length_take]; rfl)) ?_; (with_reducible refine (spec_l3Walk.calls k1 a0_0 _ _ l0_1 ((rd_T34 l0_1 x6_1).f1) ((rd_T34 l0_1 x6_1).f0) t803 true _ ?side1 ?side2 A7.out).mono ?_); (case side1 => exact Kd.C_below q7.out (by repeat (first | (with_reducible first | exact HB.out | apply below_alloc | apply pw_below_drewN | apply below_drew1 | refine below_set ?_ q3.out | refine below_set ?_ q4.out) | exact HB.out))); (case side2 => exact q8.out); rintro e w29 ⟨v804, rfl, ho0, hb⟩; refine ⟨_, rfl, ?_⟩; have n0_ := Aside0.mk (Kd.R_elder' (Kd.R_mono (Kd.R_far (p := ⟨p3, 4, none⟩) (Kd.R_far (p := ⟨p3, 3, none⟩) (Kd.R_far (p := ⟨p3, 2, none⟩) (Kd.R_far (p := ⟨p3, 1, none⟩) (Kd.R_far (p := ⟨p3, 0, none⟩) (Kd.R_types HO_5.out p0.out (by decide)) (fun _ hk => hk.2) (.int .i64 ((rd_T34 l0_1 x6_1).f0))) (fun _ hk => hk.2) (.int .i64 ((rd_T34 l0_1 x6_1).f1))) (fun _ hk => hk.2) (.int .i64 ((rd_T34 l0_1 x6_1).f2))) (fun _ hk => hk.2) (.int .i64 ((rd_T34 l0_1 x6_1).f3))) (fun _ hk => hk.2) (.int .i64 ((rd_T34 l0_1 x6_1).f4))) (fun _ h_ => h_.1)) (Kd.R_base ho0) hb); have n1_ := Aside0.mk (Kd.R_lower (Kd.R_new' ho0 (Kd.R_lt (Kd.R_mono (Kd.R_far (p := ⟨p3, 4, none⟩) (Kd.R_far (p := ⟨p3, 3, none⟩) (Kd.R_far (p := ⟨p3, 2, none⟩) (Kd.R_far (p := ⟨p3, 1, none⟩) (Kd.R_far (p := ⟨p3, 0, none⟩) (Kd.R_types HO_5.out p0.out (by decide)) (fun _ hk => hk.2) (.int .i64 ((rd_T34 l0_1 x6_1).f0))) (fun _ hk => hk.2) (.int .i64 ((rd_T34 l0_1 x6_1).f1))) (fun _ hk => hk.2) (.int .i64 ((rd_T34 l0_1 x6_1).f2))) (fun _ hk => hk.2) (.int .i64 ((rd_T34 l0_1 x6_1).f3))) (fun _ hk => hk.2) (.int .i64 ((rd_T34 l0_1 x6_1).f4))) (fun _ h_ => h_.1)))) (below_size (by repeat (first | (with_reducible first | exact HB.out | apply below_alloc | apply pw_below_drewN | apply below_drew1 | refine below_set ?_ q3.out | refine below_set ?_ q4.out) | exact HB.out)))); have n2_ := Aside0.mk (blk_below (g := p5) (o := .cells #[.int .i64 a0_0, .slice (some p6) l0_1.length c0_1] 25 (0, 0)) (by refine blk_far ?_ p4.out _; refine blk_far ?_ p4.out _; refine blk_far ?_ p4.out _; refine blk_far ?_ p4.out _; refine blk_far ?_ p4.out _; exact p1.out) hb); have n3_ := Aside0.mk (blk_below (g := p3) (o := .cells #[.int .i64 ((rd_T34 l0_1 x6_1).f0), .int .i64 ((rd_T34 l0_1 x6_1).f1), .int .i64 ((rd_T34 l0_1 x6_1).f2), .int .i64 ((rd_T34 l0_1 x6_1).f3), .int .i64 ((rd_T34 l0_1 x6_1).f4)] 34 (0, 0)) (by refine blk_put (cs := #[.int .i64 ((rd_T34 l0_1 x6_1).f0), .int .i64 ((rd_T34 l0_1 x6_1).f1), .int .i64 ((rd_T34 l0_1 x6_1).f2), .int .i64 ((rd_T34 l0_1 x6_1).f3), .int .i64 0]) ?_ 4 _ rfl; refine blk_put (cs := #[.int .i64 ((rd_T34 l0_1 x6_1).f0), .int .i64 ((rd_T34 l0_1 x6_1).f1), .int .i64 ((rd_T34 l0_1 x6_1).f2), .int .i64 0, .int .i64 0]) ?_ 3 _ rfl; refine blk_put (cs := #[.int .i64 ((rd_T34 l0_1 x6_1).f0), .int .i64 ((rd_T34 l0_1 x6_1).f1), .int .i64 0, .int .i64 0, .int .i64 0]) ?_ 2 _ rfl; refine blk_put (cs := #[.int .i64 ((rd_T34 l0_1 x6_1).f0), .int .i64 0, .int .i64 0, .int .i64 0, .int .i64 0]) ?_ 1 _ rfl; refine blk_put (cs := #[.int .i64 0, .int .i64 0, .int .i64 0, .int .i64 0, .int .i64 0]) ?_ 0 _ rfl; exact p0.out) hb); have n4_ := Aside0.mk (below_step (by repeat (first | (with_reducible first | exact HB.out | apply below_alloc | apply pw_below_drewN | apply below_drew1 | refine below_set ?_ q3.out | refine below_set ?_ q4.out) | exact HB.out)) hb); clear HO_5; clear p1; clear p0; clear HB; have HO_5 := n0_; have HO805 := n1_; have p1 := n2_; have p0 := n3_; have HB := n4_; clear n0_ n1_ n2_ n3_ n4_; (try clear hb); (try clear hb2); (try clear hk); (try clear hi); (try clear ho0)))
    have n0_ := Aside0.mk (Kd.R_drew HO_5.out)
    have n1_ := Aside0.mk (Kd.R_drew HO805.out)
    have n2_ := Aside0.mk (blk_drew p1.out)
    have n3_ := Aside0.mk (blk_drew p0.out)
    have n4_ := Aside0.mk (below_drew1 HB.out)
    clear HO_5
    clear HO805
    clear p1
    clear p0
    clear HB
    have HO_5 := n0_
    have HO805 := n1_
    have p1 := n2_
    have p0 := n3_
    have HB := n4_
    clear n0_ n1_ n2_ n3_ n4_
    obtain ⟨Ao31, co31, eo31⟩ := Kd.R_slice HO805.out
    (first | subst eo31 | (injection eo31 with f1_ f2_ f3_; have f4_ := f1_.symm; have f5_ := f3_.symm; clear f1_ f2_ f3_; subst f4_; subst f5_))
    refine start_ (n := 7) (S := fun w' => w'.cell? ⟨p3, 0, none⟩ = some (.int .i64 ((rd_T34 l0_1 x6_1).f0)) ∧ w'.cell? ⟨p3, 1, none⟩ = some (.int .i64 ((rd_T34 l0_1 x6_1).f1)) ∧ w'.cell? ⟨p3, 2, none⟩ = some (.int .i64 ((rd_T34 l0_1 x6_1).f2)) ∧ w'.cell? ⟨p3, 3, none⟩ = some (.int .i64 ((rd_T34 l0_1 x6_1).f3)) ∧ w'.cell? ⟨p3, 4, none⟩ = some (.int .i64 ((rd_T34 l0_1 x6_1).f4)) ∧ w'.cell? ⟨p5, 0, none⟩ = some (.int .i64 a0_0) ∧ w'.cell? ⟨p5, 1, none⟩ = some (.slice (some p6) l0_1.length c0_1)) (ds := []) #[false, false, false, false, false, false, false] (by kernel_rfl) rfl rfl ⟨(blk_cell p0.out 0).trans rfl, (blk_cell p0.out 1).trans rfl, (blk_cell p0.out 2).trans rfl, (blk_cell p0.out 3).trans rfl, (blk_cell p0.out 4).trans rfl, (blk_cell p1.out 0).trans rfl, (blk_cell p1.out 1).trans rfl⟩ (fun hHeld => ?_)
    generalize w29.drew = w30 at HO_5 HO805 p1 p0 HB hHeld ⊢
    refine pure_ (i := 0) (N := some 33) (v := ?_) (a' := ?_) #[true, false, false, false, false, false, false] rfl rfl (by kernel_rfl) (fun _ _ _ h => h) (Or.inl ⟨by rfl, ?_⟩) ?_ ?_
    rotate_left
    ·intro w'
     go_simp
     with_reducible rfl
    rotate_left
    ·simp only [Act.put, List.setIfInBounds_toArray, List.set_cons_zero, List.set_cons_succ, i64_w, i32_w]
     rfl
    refine pure_ (i := 3) (N := some 36) (v := ?_) (a' := ?_) #[true, false, false, true, false, false, false] rfl rfl (by kernel_rfl) (fun _ _ _ h => h) (Or.inl ⟨by rfl, ?_⟩) ?_ ?_
    rotate_left
    ·intro w'
     go_simp
     with_reducible rfl
    rotate_left
    ·simp only [Act.put, List.setIfInBounds_toArray, List.set_cons_zero, List.set_cons_succ, i64_w, i32_w]
     rfl
    refine take_ (i := 1) (N := some 34) (v := ?_) (a' := ?_) #[true, true, false, true, false, false, false] rfl rfl (by kernel_rfl) (fun _ _ _ h => h) (Or.inl ⟨by rfl, ?_⟩) hHeld ?_ ?_
    rotate_left
    ·rintro w' ⟨s0, s1, s2, s3, s4, s5, s6⟩
     go_simp
     with_reducible rfl
    rotate_left
    ·simp only [Act.put, List.setIfInBounds_toArray, List.set_cons_zero, List.set_cons_succ, i64_w, i32_w]
     rfl
    refine take_ (i := 2) (N := some 35) (v := ?_) (a' := ?_) #[true, true, true, true, false, false, false] rfl rfl (by kernel_rfl) (fun _ _ _ h => h) (Or.inl ⟨by rfl, ?_⟩) hHeld ?_ ?_
    rotate_left
    ·rintro w' ⟨s0, s1, s2, s3, s4, s5, s6⟩
     go_simp
     with_reducible rfl
    rotate_left
    ·simp only [Act.put, List.setIfInBounds_toArray, List.set_cons_zero, List.set_cons_succ, i64_w, i32_w]
     rfl
    refine one_ (i := 4) (N := some 37) #[true, true, true, true, true, false, false] rfl rfl (by kernel_rfl) (by decide) (fun K hK => ?_)
    refine goes_ Try.func110 (by kernel_rfl) rfl #[.agg #[.int .i64 a0_0, .slice (some p6) l0_1.length c0_1], .slice Ao31 t803.length co31] (by rfl) rfl rfl (by (try simp only [List.map_toArray, List.map_cons, List.map_nil]); first | done | rfl | (simp only [List.length_drop, List.length_take]; rfl)) ?_
    with_reducible refine (spec_l2Cost.calls k1 a0_0 _ _ l0_1 _ _ t803 t807 _ ?side1 ?side2 ?side3 ?side4 A8.out).mono ?_
    (case side1 => repeat (first | exact (Kd.C_below q7.out HB.out) | (with_reducible refine Kd.C_alloc ?_ _) | (with_reducible refine Kd.C_drewN ?_ _) | (with_reducible refine Kd.C_drew ?_)))
    (case side2 => exact q8.out)
    (case side3 => repeat (first | exact (Kd.R_reads' HO805.out).2.2 | (with_reducible refine Kd.C_alloc ?_ _) | (with_reducible refine Kd.C_drewN ?_ _) | (with_reducible refine Kd.C_drew ?_)))
    (case side4 => exact (Kd.R_reads' HO805.out).2.1)
    rintro e w32 ⟨rfl, hb⟩
    refine ⟨_, rfl, ?_⟩
    have n0_ := Aside0.mk (Kd.R_below HO_5.out hb)
    have n1_ := Aside0.mk (Kd.R_below HO805.out hb)
    have n2_ := Aside0.mk (blk_below (g := p5) (o := .cells #[.int .i64 a0_0, .slice (some p6) l0_1.length c0_1] 25 (0, 0)) p1.out hb)
    have n3_ := Aside0.mk (blk_below (g := p3) (o := .cells #[.int .i64 ((rd_T34 l0_1 x6_1).f0), .int .i64 ((rd_T34 l0_1 x6_1).f1), .int .i64 ((rd_T34 l0_1 x6_1).f2), .int .i64 ((rd_T34 l0_1 x6_1).f3), .int .i64 ((rd_T34 l0_1 x6_1).f4)] 34 (0, 0)) p0.out hb)
    have n4_ := Aside0.mk (below_step HB.out hb)
    clear HO_5
    clear HO805
    clear p1
    clear p0
    clear HB
    have HO_5 := n0_
    have HO805 := n1_
    have p1 := n2_
    have p0 := n3_
    have HB := n4_
    clear n0_ n1_ n2_ n3_ n4_
    (try clear hb)
    (try clear hb2)
    (try clear hk)
    (try clear hi)
    refine hK.out _ _ ⟨(blk_cell p0.out 0).trans rfl, (blk_cell p0.out 1).trans rfl, (blk_cell p0.out 2).trans rfl, (blk_cell p0.out 3).trans rfl, (blk_cell p0.out 4).trans rfl, (blk_cell p1.out 0).trans rfl, (blk_cell p1.out 1).trans rfl⟩ (fun hHeld => ?_)
    clear hK K
    refine norm_ (a' := ?_) ?_ ?_
    rotate_left
    ·show Act.put _ (some 37) _ = _
     simp only [Act.put, List.setIfInBounds_toArray, List.set_cons_zero, List.set_cons_succ, i64_w, i32_w]
     rfl
    refine pure_ (i := 5) (N := some 38) (v := ?_) (a' := ?_) #[true, true, true, true, true, true, false] rfl rfl (by kernel_rfl) (fun _ _ _ h => h) (Or.inl ⟨by rfl, ?_⟩) ?_ ?_
    rotate_left
    ·intro w'
     go_simp
     with_reducible rfl
    rotate_left
    ·simp only [Act.put, List.setIfInBounds_toArray, List.set_cons_zero, List.set_cons_succ, i64_w, i32_w]
     rfl
    refine pure_ (i := 6) (N := some 10) (v := ?_) (a' := ?_) #[true, true, true, true, true, true, true] rfl rfl (by kernel_rfl) (fun _ _ _ h => h) (Or.inl ⟨by rfl, ?_⟩) ?_ ?_
    rotate_left
    ·intro w'
     go_simp
     with_reducible rfl
    rotate_left
    ·simp only [Act.put, List.setIfInBounds_toArray, List.set_cons_zero, List.set_cons_succ, i64_w, i32_w]
     rfl
    refine done_ (by kernel_rfl) ?_
    try go_wp2
    go_roundg k1
    case measure => have := HK1.out; omega
    case rel => exact ⟨(x4_1), (x5_1), (wrap64 (x6_1 + 1)), (by first | rfl | (simp; done) | (simp [*]; done)), (by first | rfl | (simp; done) | (simp [*]; done)), H', ⟨by have := HK1.out; omega⟩, ⟨by exact Kd.R_mono HO_5.out (fun _ hk => trivial)⟩, ⟨by exact p1.out⟩, ⟨by repeat (first | (with_reducible first | exact HB.out | apply below_alloc | apply pw_below_drewN | apply below_drew1 | refine below_set ?_ q3.out | refine below_set ?_ q4.out) | exact HB.out)⟩⟩
   rw [if_pos c10] at H
   have c10b0 : decide ((wrap64 (((rd_T34 l0_1 x6_1).f2) + t807)) < x4_1) = true := decide_eq_true c10
   clear c10
   obtain ⟨y808, hy808⟩ : ∃ y_ : List Int, y_ = (([x6_1] : List Int)) := ⟨_, rfl⟩
   replace H : (if y808.length + t803.length < 17592186044416 then (spec_l24Best.l0 k1 (wrap64 (((rd_T34 l0_1 x6_1).f2) + t807)) (y808 ++ t803) (wrap64 (x6_1 + 1)) a0_0 l0_1) else (none)) = some (r1, r2) := by first | (rw [hy808]; with_reducible exact H) | (have H2_ := (Option.bind_some _ _).symm.trans H; rw [hy808]; with_reducible exact H2_) | (have H2_ := (Option.bind_some _ _).symm.trans H; with_reducible exact H2_) | with_reducible exact H | (rw [hy808]; exact H) | exact H
   have Ny808 := Aside0.mk hy808
   clear hy808
   by_cases c11 : y808.length + t803.length < 17592186044416
   case neg =>
    rw [if_neg c11] at H
    exact absurd H (by simp)
   rw [if_pos c11] at H
   have LMc11 := Aside0.mk c11
   clear c11
   obtain ⟨y811, hy811⟩ : ∃ y_ : List Int, y_ = (y808 ++ t803) := ⟨_, rfl⟩
   replace H : (spec_l24Best.l0 k1 (wrap64 (((rd_T34 l0_1 x6_1).f2) + t807)) y811 (wrap64 (x6_1 + 1)) a0_0 l0_1) = some (r1, r2) := by first | (rw [hy811]; with_reducible exact H) | (have H2_ := (Option.bind_some _ _).symm.trans H; rw [hy811]; with_reducible exact H2_) | (have H2_ := (Option.bind_some _ _).symm.trans H; with_reducible exact H2_) | with_reducible exact H | (rw [hy811]; exact H) | exact H
   have Ny811 := Aside0.mk hy811
   clear hy811
   have H' := Aside0.mk H
   clear H
   have hcz12_0 : wr.cell? ⟨p5, 0, none⟩ = some (.int .i64 a0_0) := (blk_cell p1.out 0).trans rfl
   have hcz12_1 : wr.cell? ⟨p5, 1, none⟩ = some (.slice A0_1 l0_1.length c0_1) := (blk_cell p1.out 1).trans rfl
   have hfz12_0 := blk_frozen p1.out 0
   have hfz12_1 := blk_frozen p1.out 1
   have p801 : 0 ≤ (x6_1 : Int) := of_decide_eq_true (by first | (with_reducible assumption) | assumption)
   have q801 : x6_1 < (l0_1.length : Int) := of_decide_eq_true (by first | (with_reducible assumption) | assumption)
   obtain ⟨p6, e801, p7, p8, p9, q0, q1⟩ := at_T34 q7.out x6_1 p801 q801
   cases e801
   replace p7 := (HB.out.cell (World.block_lt_of_cell? w _ p7)).trans p7
   replace p8 := (HB.out.cell (World.block_lt_of_cell? w _ p8)).trans p8
   replace p9 := (HB.out.cell (World.block_lt_of_cell? w _ p9)).trans p9
   replace q0 := (HB.out.cell (World.block_lt_of_cell? w _ q0)).trans q0
   replace q1 := (HB.out.cell (World.block_lt_of_cell? w _ q1)).trans q1
   replace p801 := eq_true p801
   replace q801 := eq_true q801
   try go_wp2_with (first | ((with_reducible refine gate_dst (N := 7) rfl ?_); refine box_event ?hg (N := 7) ?hd (cs := #[.int .i64 0, .int .i64 0, .int .i64 0, .int .i64 0, .int .i64 0]) (t := 34) ?hr ?_; (case hd => rfl); (case hg => rfl); (case hr => first | (go_simp; done) | (go_simp; rfl)); intro p3 hg w13 hbox hb; have n0_ := Aside0.mk (Kd.R_below HO_5.out hb); have n1_ := Aside0.mk (blk_below (g := p5) (o := .cells #[.int .i64 a0_0, .slice (some p6) l0_1.length c0_1] 25 (0, 0)) p1.out hb); have n2_ := Aside0.mk (below_step HB.out hb); have n3_ := Aside0.mk (hbox); have n4_ := Aside0.mk ((by rw [hg]; exact (below_size HB.out) : w.heap.size ≤ p3)); have n5_ := Aside0.mk ((by rw [hg]; exact (below_size HB.out) : w.heap.size ≤ p3)); have n6_ := Aside0.mk ((by rw [hg]; exact Nat.ne_of_lt (blk_lt (g := p5) (o := .cells #[.int .i64 a0_0, .slice (some p6) l0_1.length c0_1] 25 (0, 0)) p1.out) : p5 ≠ p3)); have n7_ := Aside0.mk ((by rw [hg]; exact Nat.ne_of_gt (blk_lt (g := p5) (o := .cells #[.int .i64 a0_0, .slice (some p6) l0_1.length c0_1] 25 (0, 0)) p1.out) : p3 ≠ p5)); clear HO_5; clear p1; clear HB; have HO_5 := n0_; have p1 := n1_; have HB := n2_; have p0 := n3_; have GW802 := n4_; have q4 := n5_; have p4 := n6_; have q5 := n7_; clear n0_ n1_ n2_ n3_ n4_ n5_ n6_ n7_; clear hb hbox hg; have hnb14 := q5.out; have hnc14 := p4.out; have hcz15_0 : w13.cell? ⟨p3, 0, none⟩ = some (.int .i64 0) := (blk_cell p0.out 0).trans rfl; have hcz15_1 : w13.cell? ⟨p3, 1, none⟩ = some (.int .i64 0) := (blk_cell p0.out 1).trans rfl; have hcz15_2 : w13.cell? ⟨p3, 2, none⟩ = some (.int .i64 0) := (blk_cell p0.out 2).trans rfl; have hcz15_3 : w13.cell? ⟨p3, 3, none⟩ = some (.int .i64 0) := (blk_cell p0.out 3).trans rfl; have hcz15_4 : w13.cell? ⟨p3, 4, none⟩ = some (.int .i64 0) := (blk_cell p0.out 4).trans rfl; have hfz15_0 := blk_frozen p0.out 0; have hfz15_1 := blk_frozen p0.out 1; have hfz15_2 := blk_frozen p0.out 2; have hfz15_3 := blk_frozen p0.out 3; have hfz15_4 := blk_frozen p0.out 4; have hcz16_0 : w13.cell? ⟨p5, 0, none⟩ = some (.int .i64 a0_0) := (blk_cell p1.out 0).trans rfl; have hcz16_1 : w13.cell? ⟨p5, 1, none⟩ = some (.slice (some p6) l0_1.length c0_1) := (blk_cell p1.out 1).trans rfl; have hfz16_0 := blk_frozen p1.out 0; have hfz16_1 := blk_frozen p1.out 1) | ((with_reducible refine gate_callee (f := 66) rfl ?_); refine goesL_ (some 30) rfl rfl Try.func66 (by kernel_rfl) rfl #[.agg #[.int .i64 a0_0, .slice (some p6) l0_1.length c0_1], .int .i64 ((rd_T34 l0_1 x6_1).f1), .int .i64 ((rd_T34 l0_1 x6_1).f0)] rfl (by (try simp only [List.map_toArray, List.map_cons, List.map_nil]); first | done | rfl | (simp only [List.length_drop, List.length_take]; rfl)) ?_; (with_reducible refine (spec_l3Walk.calls k1 a0_0 _ _ l0_1 ((rd_T34 l0_1 x6_1).f1) ((rd_T34 l0_1 x6_1).f0) t803 true _ ?side1 ?side2 A7.out).mono ?_); (case side1 => exact Kd.C_below q7.out (by repeat (first | (with_reducible first | exact HB.out | apply below_alloc | apply pw_below_drewN | apply below_drew1 | refine below_set ?_ q3.out | refine below_set ?_ q4.out) | exact HB.out))); (case side2 => exact q8.out); rintro e w17 ⟨v804, rfl, ho0, hb⟩; refine ⟨_, rfl, ?_⟩; have n0_ := Aside0.mk (Kd.R_elder' (Kd.R_mono (Kd.R_far (p := ⟨p3, 4, none⟩) (Kd.R_far (p := ⟨p3, 3, none⟩) (Kd.R_far (p := ⟨p3, 2, none⟩) (Kd.R_far (p := ⟨p3, 1, none⟩) (Kd.R_far (p := ⟨p3, 0, none⟩) (Kd.R_types HO_5.out p0.out (by decide)) (fun _ hk => hk.2) (.int .i64 ((rd_T34 l0_1 x6_1).f0))) (fun _ hk => hk.2) (.int .i64 ((rd_T34 l0_1 x6_1).f1))) (fun _ hk => hk.2) (.int .i64 ((rd_T34 l0_1 x6_1).f2))) (fun _ hk => hk.2) (.int .i64 ((rd_T34 l0_1 x6_1).f3))) (fun _ hk => hk.2) (.int .i64 ((rd_T34 l0_1 x6_1).f4))) (fun _ h_ => h_.1)) (Kd.R_base ho0) hb); have n1_ := Aside0.mk (Kd.R_lower (Kd.R_new' ho0 (Kd.R_lt (Kd.R_mono (Kd.R_far (p := ⟨p3, 4, none⟩) (Kd.R_far (p := ⟨p3, 3, none⟩) (Kd.R_far (p := ⟨p3, 2, none⟩) (Kd.R_far (p := ⟨p3, 1, none⟩) (Kd.R_far (p := ⟨p3, 0, none⟩) (Kd.R_types HO_5.out p0.out (by decide)) (fun _ hk => hk.2) (.int .i64 ((rd_T34 l0_1 x6_1).f0))) (fun _ hk => hk.2) (.int .i64 ((rd_T34 l0_1 x6_1).f1))) (fun _ hk => hk.2) (.int .i64 ((rd_T34 l0_1 x6_1).f2))) (fun _ hk => hk.2) (.int .i64 ((rd_T34 l0_1 x6_1).f3))) (fun _ hk => hk.2) (.int .i64 ((rd_T34 l0_1 x6_1).f4))) (fun _ h_ => h_.1)))) (below_size (by repeat (first | (with_reducible first | exact HB.out | apply below_alloc | apply pw_below_drewN | apply below_drew1 | refine below_set ?_ q3.out | refine below_set ?_ q4.out) | exact HB.out)))); have n2_ := Aside0.mk (blk_below (g := p5) (o := .cells #[.int .i64 a0_0, .slice (some p6) l0_1.length c0_1] 25 (0, 0)) (by refine blk_far ?_ p4.out _; refine blk_far ?_ p4.out _; refine blk_far ?_ p4.out _; refine blk_far ?_ p4.out _; refine blk_far ?_ p4.out _; exact p1.out) hb); have n3_ := Aside0.mk (blk_below (g := p3) (o := .cells #[.int .i64 ((rd_T34 l0_1 x6_1).f0), .int .i64 ((rd_T34 l0_1 x6_1).f1), .int .i64 ((rd_T34 l0_1 x6_1).f2), .int .i64 ((rd_T34 l0_1 x6_1).f3), .int .i64 ((rd_T34 l0_1 x6_1).f4)] 34 (0, 0)) (by refine blk_put (cs := #[.int .i64 ((rd_T34 l0_1 x6_1).f0), .int .i64 ((rd_T34 l0_1 x6_1).f1), .int .i64 ((rd_T34 l0_1 x6_1).f2), .int .i64 ((rd_T34 l0_1 x6_1).f3), .int .i64 0]) ?_ 4 _ rfl; refine blk_put (cs := #[.int .i64 ((rd_T34 l0_1 x6_1).f0), .int .i64 ((rd_T34 l0_1 x6_1).f1), .int .i64 ((rd_T34 l0_1 x6_1).f2), .int .i64 0, .int .i64 0]) ?_ 3 _ rfl; refine blk_put (cs := #[.int .i64 ((rd_T34 l0_1 x6_1).f0), .int .i64 ((rd_T34 l0_1 x6_1).f1), .int .i64 0, .int .i64 0, .int .i64 0]) ?_ 2 _ rfl; refine blk_put (cs := #[.int .i64 ((rd_T34 l0_1 x6_1).f0), .int .i64 0, .int .i64 0, .int .i64 0, .int .i64 0]) ?_ 1 _ rfl; refine blk_put (cs := #[.int .i64 0, .int .i64 0, .int .i64 0, .int .i64 0, .int .i64 0]) ?_ 0 _ rfl; exact p0.out) hb); have n4_ := Aside0.mk (below_step (by repeat (first | (with_reducible first | exact HB.out | apply below_alloc | apply pw_below_drewN | apply below_drew1 | refine below_set ?_ q3.out | refine below_set ?_ q4.out) | exact HB.out)) hb); clear HO_5; clear p1; clear p0; clear HB; have HO_5 := n0_; have HO805 := n1_; have p1 := n2_; have p0 := n3_; have HB := n4_; clear n0_ n1_ n2_ n3_ n4_; (try clear hb); (try clear hb2); (try clear hk); (try clear hi); (try clear ho0)))
   have n0_ := Aside0.mk (Kd.R_drew HO_5.out)
   have n1_ := Aside0.mk (Kd.R_drew HO805.out)
   have n2_ := Aside0.mk (blk_drew p1.out)
   have n3_ := Aside0.mk (blk_drew p0.out)
   have n4_ := Aside0.mk (below_drew1 HB.out)
   clear HO_5
   clear HO805
   clear p1
   clear p0
   clear HB
   have HO_5 := n0_
   have HO805 := n1_
   have p1 := n2_
   have p0 := n3_
   have HB := n4_
   clear n0_ n1_ n2_ n3_ n4_
   obtain ⟨Ao19, co19, eo19⟩ := Kd.R_slice HO805.out
   (first | subst eo19 | (injection eo19 with f1_ f2_ f3_; have f4_ := f1_.symm; have f5_ := f3_.symm; clear f1_ f2_ f3_; subst f4_; subst f5_))
   refine start_ (n := 7) (S := fun w' => w'.cell? ⟨p3, 0, none⟩ = some (.int .i64 ((rd_T34 l0_1 x6_1).f0)) ∧ w'.cell? ⟨p3, 1, none⟩ = some (.int .i64 ((rd_T34 l0_1 x6_1).f1)) ∧ w'.cell? ⟨p3, 2, none⟩ = some (.int .i64 ((rd_T34 l0_1 x6_1).f2)) ∧ w'.cell? ⟨p3, 3, none⟩ = some (.int .i64 ((rd_T34 l0_1 x6_1).f3)) ∧ w'.cell? ⟨p3, 4, none⟩ = some (.int .i64 ((rd_T34 l0_1 x6_1).f4)) ∧ w'.cell? ⟨p5, 0, none⟩ = some (.int .i64 a0_0) ∧ w'.cell? ⟨p5, 1, none⟩ = some (.slice (some p6) l0_1.length c0_1)) (ds := []) #[false, false, false, false, false, false, false] (by kernel_rfl) rfl rfl ⟨(blk_cell p0.out 0).trans rfl, (blk_cell p0.out 1).trans rfl, (blk_cell p0.out 2).trans rfl, (blk_cell p0.out 3).trans rfl, (blk_cell p0.out 4).trans rfl, (blk_cell p1.out 0).trans rfl, (blk_cell p1.out 1).trans rfl⟩ (fun hHeld => ?_)
   generalize w17.drew = w18 at HO_5 HO805 p1 p0 HB hHeld ⊢
   refine pure_ (i := 0) (N := some 33) (v := ?_) (a' := ?_) #[true, false, false, false, false, false, false] rfl rfl (by kernel_rfl) (fun _ _ _ h => h) (Or.inl ⟨by rfl, ?_⟩) ?_ ?_
   rotate_left
   ·intro w'
    go_simp
    with_reducible rfl
   rotate_left
   ·simp only [Act.put, List.setIfInBounds_toArray, List.set_cons_zero, List.set_cons_succ, i64_w, i32_w]
    rfl
   refine pure_ (i := 3) (N := some 36) (v := ?_) (a' := ?_) #[true, false, false, true, false, false, false] rfl rfl (by kernel_rfl) (fun _ _ _ h => h) (Or.inl ⟨by rfl, ?_⟩) ?_ ?_
   rotate_left
   ·intro w'
    go_simp
    with_reducible rfl
   rotate_left
   ·simp only [Act.put, List.setIfInBounds_toArray, List.set_cons_zero, List.set_cons_succ, i64_w, i32_w]
    rfl
   refine take_ (i := 1) (N := some 34) (v := ?_) (a' := ?_) #[true, true, false, true, false, false, false] rfl rfl (by kernel_rfl) (fun _ _ _ h => h) (Or.inl ⟨by rfl, ?_⟩) hHeld ?_ ?_
   rotate_left
   ·rintro w' ⟨s0, s1, s2, s3, s4, s5, s6⟩
    go_simp
    with_reducible rfl
   rotate_left
   ·simp only [Act.put, List.setIfInBounds_toArray, List.set_cons_zero, List.set_cons_succ, i64_w, i32_w]
    rfl
   refine take_ (i := 2) (N := some 35) (v := ?_) (a' := ?_) #[true, true, true, true, false, false, false] rfl rfl (by kernel_rfl) (fun _ _ _ h => h) (Or.inl ⟨by rfl, ?_⟩) hHeld ?_ ?_
   rotate_left
   ·rintro w' ⟨s0, s1, s2, s3, s4, s5, s6⟩
    go_simp
    with_reducible rfl
   rotate_left
   ·simp only [Act.put, List.setIfInBounds_toArray, List.set_cons_zero, List.set_cons_succ, i64_w, i32_w]
    rfl
   refine one_ (i := 4) (N := some 37) #[true, true, true, true, true, false, false] rfl rfl (by kernel_rfl) (by decide) (fun K hK => ?_)
   refine goes_ Try.func110 (by kernel_rfl) rfl #[.agg #[.int .i64 a0_0, .slice (some p6) l0_1.length c0_1], .slice Ao19 t803.length co19] (by rfl) rfl rfl (by (try simp only [List.map_toArray, List.map_cons, List.map_nil]); first | done | rfl | (simp only [List.length_drop, List.length_take]; rfl)) ?_
   with_reducible refine (spec_l2Cost.calls k1 a0_0 _ _ l0_1 _ _ t803 t807 _ ?side1 ?side2 ?side3 ?side4 A8.out).mono ?_
   (case side1 => repeat (first | exact (Kd.C_below q7.out HB.out) | (with_reducible refine Kd.C_alloc ?_ _) | (with_reducible refine Kd.C_drewN ?_ _) | (with_reducible refine Kd.C_drew ?_)))
   (case side2 => exact q8.out)
   (case side3 => repeat (first | exact (Kd.R_reads' HO805.out).2.2 | (with_reducible refine Kd.C_alloc ?_ _) | (with_reducible refine Kd.C_drewN ?_ _) | (with_reducible refine Kd.C_drew ?_)))
   (case side4 => exact (Kd.R_reads' HO805.out).2.1)
   rintro e w20 ⟨rfl, hb⟩
   refine ⟨_, rfl, ?_⟩
   have n0_ := Aside0.mk (Kd.R_below HO_5.out hb)
   have n1_ := Aside0.mk (Kd.R_below HO805.out hb)
   have n2_ := Aside0.mk (blk_below (g := p5) (o := .cells #[.int .i64 a0_0, .slice (some p6) l0_1.length c0_1] 25 (0, 0)) p1.out hb)
   have n3_ := Aside0.mk (blk_below (g := p3) (o := .cells #[.int .i64 ((rd_T34 l0_1 x6_1).f0), .int .i64 ((rd_T34 l0_1 x6_1).f1), .int .i64 ((rd_T34 l0_1 x6_1).f2), .int .i64 ((rd_T34 l0_1 x6_1).f3), .int .i64 ((rd_T34 l0_1 x6_1).f4)] 34 (0, 0)) p0.out hb)
   have n4_ := Aside0.mk (below_step HB.out hb)
   clear HO_5
   clear HO805
   clear p1
   clear p0
   clear HB
   have HO_5 := n0_
   have HO805 := n1_
   have p1 := n2_
   have p0 := n3_
   have HB := n4_
   clear n0_ n1_ n2_ n3_ n4_
   (try clear hb)
   (try clear hb2)
   (try clear hk)
   (try clear hi)
   refine hK.out _ _ ⟨(blk_cell p0.out 0).trans rfl, (blk_cell p0.out 1).trans rfl, (blk_cell p0.out 2).trans rfl, (blk_cell p0.out 3).trans rfl, (blk_cell p0.out 4).trans rfl, (blk_cell p1.out 0).trans rfl, (blk_cell p1.out 1).trans rfl⟩ (fun hHeld => ?_)
   clear hK K
   refine norm_ (a' := ?_) ?_ ?_
   rotate_left
   ·show Act.put _ (some 37) _ = _
    simp only [Act.put, List.setIfInBounds_toArray, List.set_cons_zero, List.set_cons_succ, i64_w, i32_w]
    rfl
   refine pure_ (i := 5) (N := some 38) (v := ?_) (a' := ?_) #[true, true, true, true, true, true, false] rfl rfl (by kernel_rfl) (fun _ _ _ h => h) (Or.inl ⟨by rfl, ?_⟩) ?_ ?_
   rotate_left
   ·intro w'
    go_simp
    with_reducible rfl
   rotate_left
   ·simp only [Act.put, List.setIfInBounds_toArray, List.set_cons_zero, List.set_cons_succ, i64_w, i32_w]
    rfl
   refine pure_ (i := 6) (N := some 10) (v := ?_) (a' := ?_) #[true, true, true, true, true, true, true] rfl rfl (by kernel_rfl) (fun _ _ _ h => h) (Or.inl ⟨by rfl, ?_⟩) ?_ ?_
   rotate_left
   ·intro w'
    go_simp
    with_reducible rfl
   rotate_left
   ·simp only [Act.put, List.setIfInBounds_toArray, List.set_cons_zero, List.set_cons_succ, i64_w, i32_w]
    rfl
   refine done_ (by kernel_rfl) ?_
   try go_wp2_with (first | ((with_reducible refine gate_dst (N := 47) rfl ?_); refine Kd.R_lit (Kd.int .i64) _ 3 ?hg (N := 47) ?hd (xs := ([x6_1] : List Int)) (inner := [.int .i64 x6_1]) (ok := fun _ => True) (okp := fun _ => True) ?hr ?hp (fun _ hk => hk) trivial (Below.refl _ _) (Nat.le_refl _) (by simp) ?_; (case hd => rfl); (case hg => rfl); (case hr => first | (go_simp; done) | (go_simp; rfl)); (case hp => exact (Reps.one (show Kd.M (Kd.int .i64) _ _ _ x6_1 [.int .i64 x6_1] from rfl) (Reps.none _ _))); intro v809 w21 ho22 hb hg_ hnew_; clear hg_ hnew_; (first | rw [← Ny808.out] at ho22 | (simp only [Int.reduceToNat] at ho22; rw [← Ny808.out] at ho22)); have n0_ := Aside0.mk (Kd.R_elder' HO_5.out (Kd.R_base ho22) hb); have n1_ := Aside0.mk (Kd.R_elder' HO805.out (Kd.R_base ho22) hb); have n2_ := Aside0.mk (Kd.R_lower (Kd.R_new' (Kd.R_new' ho22 (Kd.R_lt HO_5.out)) (Kd.R_lt HO805.out)) (below_size HB.out)); have n3_ := Aside0.mk (blk_below (g := p5) (o := .cells #[.int .i64 a0_0, .slice (some p6) l0_1.length c0_1] 25 (0, 0)) p1.out hb); have n4_ := Aside0.mk (blk_below (g := p3) (o := .cells #[.int .i64 ((rd_T34 l0_1 x6_1).f0), .int .i64 ((rd_T34 l0_1 x6_1).f1), .int .i64 ((rd_T34 l0_1 x6_1).f2), .int .i64 ((rd_T34 l0_1 x6_1).f3), .int .i64 ((rd_T34 l0_1 x6_1).f4)] 34 (0, 0)) p0.out hb); have n5_ := Aside0.mk (below_step HB.out hb); clear HO_5; clear HO805; clear p1; clear p0; clear HB; have HO_5 := n0_; have HO805 := n1_; have HO810 := n2_; have p1 := n3_; have p0 := n4_; have HB := n5_; clear n0_ n1_ n2_ n3_ n4_ n5_; clear hb ho22) | ((with_reducible refine gate_builtin (b := .append) (xs := #[.tmp 47, .tmp 48]) rfl ?_); at_builtin; refine Kd.R_append_rows (Kd.int .i64) (w0 := w) w.heap.size rfl (.tmp 47) (.tmp 48) 29 3 (.int .i64 0) 8 rfl Try.underlying29 info3 rfl (by decide) (by omega) v809 y808 t803 _ _ _ (fun k_ => some k_ ≠ (u5 : Value).ownBlock ∧ some k_ ≠ (.slice Ao19 t803.length co19 : Value).ownBlock) (fun _ => False) rfl rfl ?aO ?aR (fun _ _ h => h) (fun _ h => h.elim) ?aF ?aB ?aS ?aL ?_; (case aR => repeat (first | exact (Kd.R_reads' HO805.out).2.2 | (with_reducible refine Kd.C_alloc ?_ _) | (with_reducible refine Kd.C_drewN ?_ _) | (with_reducible refine Kd.C_drew ?_))); (case aB => exact HB.out); (case aF => exact (fun k_ hk => ⟨Kd.fresh' (Kd.R_lt HO_5.out) k_ hk, Kd.fresh' (Kd.R_lt HO805.out) k_ hk⟩)); (case aO => exact (Kd.R_mono HO810.out (fun _ hk => ⟨hk.1.2, hk.2⟩))); (case aS => exact (below_size HB.out)); (case aL => have := LMc11.out; omega); intro v812 w23 ho hb hg hat; rw [← Ny811.out] at ho; have n0_ := Aside0.mk (Kd.R_after (ok := (fun k_ => some k_ ≠ (.slice Ao19 t803.length co19 : Value).ownBlock)) (Kd.R_mono HO_5.out (fun _ hk => ⟨hk.1.2, hk.2⟩)) hg hat); have n1_ := Aside0.mk (blk_grown (g := p5) (o := .cells #[.int .i64 a0_0, .slice (some p6) l0_1.length c0_1] 25 (0, 0)) p1.out hg (Kd.R_ne HO810.out p1.out (by decide))); have n2_ := Aside0.mk (blk_grown (g := p3) (o := .cells #[.int .i64 ((rd_T34 l0_1 x6_1).f0), .int .i64 ((rd_T34 l0_1 x6_1).f1), .int .i64 ((rd_T34 l0_1 x6_1).f2), .int .i64 ((rd_T34 l0_1 x6_1).f3), .int .i64 ((rd_T34 l0_1 x6_1).f4)] 34 (0, 0)) p0.out hg (Kd.R_ne HO810.out p0.out (by decide))); have n3_ := Aside0.mk (Kd.R_after (ok := (fun k_ => some k_ ≠ (u5 : Value).ownBlock)) (Kd.R_mono HO805.out (fun _ hk => ⟨hk.1.2, hk.2⟩)) hg hat); have n4_ := Aside0.mk (hb); have n5_ := Aside0.mk (ho); clear HO_5; clear p1; clear p0; clear HO805; clear HB; clear HO810; have HO_5 := n0_; have p1 := n1_; have p0 := n2_; have HO805 := n3_; have HB := n4_; have HO813 := n5_; clear n0_ n1_ n2_ n3_ n4_ n5_; clear ho hb hg hat))
   go_roundg k1
   case measure => have := HK1.out; omega
   case rel => exact ⟨(wrap64 (((rd_T34 l0_1 x6_1).f2) + t807)), (y811), (wrap64 (x6_1 + 1)), (by first | rfl | (simp; done) | (simp [*]; done)), (by first | rfl | (simp; done) | (simp [*]; done)), H', ⟨by have := HK1.out; omega⟩, ⟨by exact Kd.R_mono HO813.out (fun _ hk => trivial)⟩, ⟨by exact p1.out⟩, ⟨by repeat (first | (with_reducible first | exact HB.out | apply below_alloc | apply pw_below_drewN | apply below_drew1 | refine below_set ?_ q3.out | refine below_set ?_ q4.out) | exact HB.out)⟩⟩
end Go.Proofs.Ytljdcinpjnijcaa.Pr
end
section
namespace Go.Proofs.Ytljdcinpjnijcaa.Pr
open Go.RowKit Go.Proofs.YtljdcinpjnijcaaW.PrintWords Go.Proofs.YtljdcinpjnijcaaW.PrintLast Go.Proofs.YtljdcinpjnijcaaW.PrintMore
attribute [local go_sem] max2_int min2_int max_two min_two max_three min_three max_four min_four
set_option linter.unusedVariables false
set_option linter.unusedSimpArgs false
def spec_RingBest.f (k : Nat) (a0_0 : Int) (l0_1 : List (S34)) : Option (List Int × Int) := (spec_l1Ok.f k a0_0 l0_1).bind fun t815 => (if t815 = true then ((spec_l24Best.f k a0_0 l0_1).bind fun bt816 => (some (bt816.1, bt816.2))) else (some (([] : List Int), (-1))))
set_option maxHeartbeats 8000000 in
set_option maxRecDepth 100000 in
theorem spec_RingBest.calls (k : Nat) (a0_0 : Int) (A0_1 : Option Addr) (c0_1 : Nat) (l0_1 : List (S34)) (r1 : List Int) (r2 : Int) (w : World) (hr0_1 : Kd.C k34 w A0_1 l0_1.length l0_1) (hc0_1 : l0_1.length ≤ c0_1) (h : spec_RingBest.f k a0_0 l0_1 = some (r1, r2)) :
  Calls Try.prog 38 #[.agg #[.int .i64 a0_0, .slice A0_1 l0_1.length c0_1]] w fun e w' => ∃ v0_ : Value, e = .returned (.tuple #[v0_, .int .i64 r2]) ∧ Kd.R (Kd.int .i64) 3 w' w.heap.size (fun _ => True) v0_ r1 ∧ Below w.heap.size w w' := by
 have hu25 := Try.underlying25
 have p2 := Aside0.mk hr0_1
 have p3 := Aside0.mk hc0_1
 clear hr0_1 hc0_1
 have HB := Aside0.mk (Below.refl w.heap.size w)
 have H : ((spec_l1Ok.f k a0_0 l0_1).bind fun t815 => (if t815 = true then ((spec_l24Best.f k a0_0 l0_1).bind fun bt816 => (some (bt816.1, bt816.2))) else (some (([] : List Int), (-1))))) = some (r1, r2) := h
 clear h
 replace H := Option.bind_eq_some_iff.mp H
 obtain ⟨t815, A20, H⟩ := H
 replace H : (if t815 = true then ((spec_l24Best.f k a0_0 l0_1).bind fun bt816 => (some (bt816.1, bt816.2))) else (some (([] : List Int), (-1)))) = some (r1, r2) := H
 have A2 := Aside0.mk A20
 clear A20
 by_cases c3 : t815 = true
 case neg =>
  replace c3 := Bool.eq_false_iff.mpr c3
  subst c3
  have H1 : (some (([] : List Int), (-1))) = some (r1, r2) := by rw [if_neg (show ¬ (false = true) by decide)] at H; exact H
  clear H
  have H := H1
  clear H1
  simp only [Option.some.injEq, Prod.mk.injEq] at H
  obtain ⟨rfl, rfl⟩ := H
  go_enter Try.func38, Try.ntmps38
  go_wp2_with (first | ((with_reducible refine gate_dst (N := 1) rfl ?_); refine box_event ?hg (N := 1) ?hd (cs := #[.int .i64 a0_0, .slice A0_1 l0_1.length c0_1]) (t := 25) ?hr ?_; (case hd => rfl); (case hg => rfl); (case hr => first | (go_simp; done) | (go_simp; rfl)); intro p1 hg w10 hbox hb; have n0_ := Aside0.mk (below_step HB.out hb); have n1_ := Aside0.mk (hbox); have n2_ := Aside0.mk ((by rw [hg]; exact (below_size HB.out) : w.heap.size ≤ p1)); have n3_ := Aside0.mk ((by rw [hg]; exact (below_size HB.out) : w.heap.size ≤ p1)); clear HB; have HB := n0_; have p0 := n1_; have GW814 := n2_; have p4 := n3_; clear n0_ n1_ n2_ n3_; clear hb hbox hg; have hcz11_0 : w10.cell? ⟨p1, 0, none⟩ = some (.int .i64 a0_0) := (blk_cell p0.out 0).trans rfl; have hcz11_1 : w10.cell? ⟨p1, 1, none⟩ = some (.slice A0_1 l0_1.length c0_1) := (blk_cell p0.out 1).trans rfl; have hfz11_0 := blk_frozen p0.out 0; have hfz11_1 := blk_frozen p0.out 1) | ((with_reducible refine gate_callee (f := 53) rfl ?_); refine goesL_ (some 5) rfl rfl Try.func53 (by kernel_rfl) rfl #[.agg #[.int .i64 a0_0, .slice A0_1 l0_1.length c0_1]] rfl (by (try simp only [List.map_toArray, List.map_cons, List.map_nil]); first | done | rfl | (simp only [List.length_drop, List.length_take]; rfl)) ?_; (with_reducible refine (spec_l1Ok.calls k a0_0 _ _ l0_1 false _ ?side1 ?side2 A2.out).mono ?_); (case side1 => repeat (first | exact (Kd.C_below p2.out HB.out) | (with_reducible refine Kd.C_alloc ?_ _) | (with_reducible refine Kd.C_drewN ?_ _) | (with_reducible refine Kd.C_drew ?_))); (case side2 => exact p3.out); rintro e w12 ⟨rfl, hb⟩; refine ⟨_, rfl, ?_⟩; have n0_ := Aside0.mk (blk_below (g := p1) (o := .cells #[.int .i64 a0_0, .slice A0_1 l0_1.length c0_1] 25 (0, 0)) p0.out hb); have n1_ := Aside0.mk (below_step HB.out hb); clear p0; clear HB; have p0 := n0_; have HB := n1_; clear n0_ n1_; (try clear hb); (try clear hb2); (try clear hk); (try clear hi)))
  go_ret2
  exact ⟨_, by first | rfl | (simp [errW_none, errW_some] <;> rfl) | (simp [*, errW_none, errW_some] <;> rfl), by first | exact Kd.R_nil _ _ _ _ _ | exact Kd.N_nil _ _ _ _ _ | exact Kd.V_nil _ _ _ _ _ | exact Kd.Q_nil _ _ _ _ _ | exact Kd.S_nil _ _ _ _ _, by repeat (first | (with_reducible first | exact HB.out | apply below_alloc | apply pw_below_drewN | apply below_drew1 | refine below_set ?_ p4.out) | exact HB.out)⟩
 subst c3
 have H1 : ((spec_l24Best.f k a0_0 l0_1).bind fun bt816 => (some (bt816.1, bt816.2))) = some (r1, r2) := by rw [if_pos rfl] at H; exact H
 clear H
 have H := H1
 clear H1
 replace H := Option.bind_eq_some_iff.mp H
 obtain ⟨⟨t816, t819⟩, A40, H⟩ := H
 replace H : (some (t816, t819)) = some (r1, r2) := H
 have A4 := Aside0.mk A40
 clear A40
 simp only [Option.some.injEq, Prod.mk.injEq] at H
 obtain ⟨rfl, rfl⟩ := H
 go_enter Try.func38, Try.ntmps38
 go_wp2_with (first | ((with_reducible refine gate_dst (N := 1) rfl ?_); refine box_event ?hg (N := 1) ?hd (cs := #[.int .i64 a0_0, .slice A0_1 l0_1.length c0_1]) (t := 25) ?hr ?_; (case hd => rfl); (case hg => rfl); (case hr => first | (go_simp; done) | (go_simp; rfl)); intro p1 hg w5 hbox hb; have n0_ := Aside0.mk (below_step HB.out hb); have n1_ := Aside0.mk (hbox); have n2_ := Aside0.mk ((by rw [hg]; exact (below_size HB.out) : w.heap.size ≤ p1)); have n3_ := Aside0.mk ((by rw [hg]; exact (below_size HB.out) : w.heap.size ≤ p1)); clear HB; have HB := n0_; have p0 := n1_; have GW814 := n2_; have p4 := n3_; clear n0_ n1_ n2_ n3_; clear hb hbox hg; have hcz6_0 : w5.cell? ⟨p1, 0, none⟩ = some (.int .i64 a0_0) := (blk_cell p0.out 0).trans rfl; have hcz6_1 : w5.cell? ⟨p1, 1, none⟩ = some (.slice A0_1 l0_1.length c0_1) := (blk_cell p0.out 1).trans rfl; have hfz6_0 := blk_frozen p0.out 0; have hfz6_1 := blk_frozen p0.out 1) | ((with_reducible refine gate_callee (f := 53) rfl ?_); refine goesL_ (some 5) rfl rfl Try.func53 (by kernel_rfl) rfl #[.agg #[.int .i64 a0_0, .slice A0_1 l0_1.length c0_1]] rfl (by (try simp only [List.map_toArray, List.map_cons, List.map_nil]); first | done | rfl | (simp only [List.length_drop, List.length_take]; rfl)) ?_; (with_reducible refine (spec_l1Ok.calls k a0_0 _ _ l0_1 true _ ?side1 ?side2 A2.out).mono ?_); (case side1 => repeat (first | exact (Kd.C_below p2.out HB.out) | (with_reducible refine Kd.C_alloc ?_ _) | (with_reducible refine Kd.C_drewN ?_ _) | (with_reducible refine Kd.C_drew ?_))); (case side2 => exact p3.out); rintro e w7 ⟨rfl, hb⟩; refine ⟨_, rfl, ?_⟩; have n0_ := Aside0.mk (blk_below (g := p1) (o := .cells #[.int .i64 a0_0, .slice A0_1 l0_1.length c0_1] 25 (0, 0)) p0.out hb); have n1_ := Aside0.mk (below_step HB.out hb); clear p0; clear HB; have p0 := n0_; have HB := n1_; clear n0_ n1_; (try clear hb); (try clear hb2); (try clear hk); (try clear hi); have hcz8_0 : w7.cell? ⟨p1, 0, none⟩ = some (.int .i64 a0_0) := (blk_cell p0.out 0).trans rfl; have hcz8_1 : w7.cell? ⟨p1, 1, none⟩ = some (.slice A0_1 l0_1.length c0_1) := (blk_cell p0.out 1).trans rfl; have hfz8_0 := blk_frozen p0.out 0; have hfz8_1 := blk_frozen p0.out 1) | ((with_reducible refine gate_callee (f := 72) rfl ?_); refine goesL_ (some 8) rfl rfl Try.func72 (by kernel_rfl) rfl #[.agg #[.int .i64 a0_0, .slice A0_1 l0_1.length c0_1]] rfl (by (try simp only [List.map_toArray, List.map_cons, List.map_nil]); first | done | rfl | (simp only [List.length_drop, List.length_take]; rfl)) ?_; (with_reducible refine (spec_l24Best.calls k a0_0 _ _ l0_1 t816 t819 _ ?side1 ?side2 A4.out).mono ?_); (case side1 => repeat (first | exact (Kd.C_below p2.out HB.out) | (with_reducible refine Kd.C_alloc ?_ _) | (with_reducible refine Kd.C_drewN ?_ _) | (with_reducible refine Kd.C_drew ?_))); (case side2 => exact p3.out); rintro e w9 ⟨v817, rfl, ho0, hb⟩; refine ⟨_, rfl, ?_⟩; have n0_ := Aside0.mk (Kd.R_lower ho0 (below_size HB.out)); have n1_ := Aside0.mk (blk_below (g := p1) (o := .cells #[.int .i64 a0_0, .slice A0_1 l0_1.length c0_1] 25 (0, 0)) p0.out hb); have n2_ := Aside0.mk (below_step HB.out hb); clear p0; clear HB; have HO818 := n0_; have p0 := n1_; have HB := n2_; clear n0_ n1_ n2_; (try clear hb); (try clear hb2); (try clear hk); (try clear hi); (try clear ho0)))
 go_ret2
 exact ⟨_, by first | rfl | (simp [errW_none, errW_some] <;> rfl) | (simp [*, errW_none, errW_some] <;> rfl), by (with_reducible repeat (first | apply Kd.R_alloc | apply Kd.R_drewN | apply Kd.R_drew)); exact HO818.out, by repeat (first | (with_reducible first | exact HB.out | apply below_alloc | apply pw_below_drewN | apply below_drew1 | refine below_set ?_ p4.out) | exact HB.out)⟩
end Go.Proofs.Ytljdcinpjnijcaa.Pr
end
section
namespace Go.Proofs.Ytljdcinpjnijcaa.Pr
open Go.RowKit Go.Proofs.YtljdcinpjnijcaaW.PrintWords Go.Proofs.YtljdcinpjnijcaaW.PrintLast Go.Proofs.YtljdcinpjnijcaaW.PrintMore
attribute [local go_sem] max2_int min2_int max_two min_two max_three min_three max_four min_four
set_option linter.unusedVariables false
set_option linter.unusedSimpArgs false
mutual
def laws_FnExactRingBest.j0 : Nat → List Int → Int → List Int → Int → Bool → Int → List (S112) → Int → List (S34) → Option (Bool)
 | 0, _, _, _, _, _, _, _, _, _ => none
 | k + 1, x4, x5, x7, x8, x40, p9, q0, t1, t2 => if x40 = true then (some false) else ((laws_toNet.f k p9 q0).bind fun bt875 => ((laws_eqNet.f k t1 t2 bt875.1 bt875.2).bind fun t879 => (if t879 = true then ((laws_markNet.f k t1 t2 1).bind fun bt880 => (if bt880.1 < 0 then (laws_FnExactRingBest.j1 k x4 x5 x7 true p9 q0) else ((laws_eqIntS.f k x7 x4).bind fun t882 => (if t882 = true then (laws_FnExactRingBest.j1 k x4 x5 x7 (x8 != x5) p9 q0) else (laws_FnExactRingBest.j1 k x4 x5 x7 true p9 q0))))) else (some false))))
def laws_FnExactRingBest.j1 : Nat → List Int → Int → List Int → Bool → Int → List (S112) → Option (Bool)
 | 0, _, _, _, _, _, _ => none
 | k + 1, x4, x5, x7, x61, p9, q0 => if x61 = true then (some false) else ((laws_markIntS.f k x7 1).bind fun bt883 => ((laws_heldIntS.f k bt883.2 1).bind fun t885 => (if t885 < 0 then (some false) else (if t885 = bt883.1 then ((laws_toNet.f k p9 q0).bind fun bt886 => ((impl_RingBest.f k bt886.1 bt886.2).bind fun bt890 => ((laws_eqIntS.f k bt890.1 x4).bind fun t894 => (if t894 = true then (laws_FnExactRingBest.j2 k bt883.2 bt883.1 (bt890.2 != x5)) else (laws_FnExactRingBest.j2 k bt883.2 bt883.1 true))))) else (some false)))))
def laws_FnExactRingBest.j2 : Nat → List Int → Int → Bool → Option (Bool)
 | 0, _, _, _ => none
 | k + 1, x7, x10, x87 => if x87 = true then (some false) else ((laws_heldIntS.f k x7 1).bind fun t895 => (if t895 < 0 then (some false) else (if t895 = x10 then (some true) else (some false))))
end
def laws_FnExactRingBest.f (k : Nat) (a0_0 : Int) (l0_1 : List (S112)) : Option (Bool) := (laws_szNet.f a0_0 l0_1 1048576).bind fun t856 => (if t856 < 0 then (some true) else ((laws_toNet.f k a0_0 l0_1).bind fun bt857 => ((spec_RingBest.f k bt857.1 bt857.2).bind fun bt861 => ((laws_toNet.f k a0_0 l0_1).bind fun bt865 => ((impl_RingBest.f k bt865.1 bt865.2).bind fun bt870 => ((laws_eqIntS.f k bt870.1 bt861.1).bind fun t874 => (if t874 = true then (laws_FnExactRingBest.j0 k bt861.1 bt861.2 bt870.1 bt870.2 (bt870.2 != bt861.2) a0_0 l0_1 bt865.1 bt865.2) else (laws_FnExactRingBest.j0 k bt861.1 bt861.2 bt870.1 bt870.2 true a0_0 l0_1 bt865.1 bt865.2))))))))
set_option maxHeartbeats 8000000 in
set_option maxRecDepth 100000 in
theorem laws_FnExactRingBest.calls (k : Nat) (a0_0 : Int) (A0_1 : Option Addr) (c0_1 : Nat) (l0_1 : List (S112)) (r : Bool) (w : World) (hr0_1 : Kd.C k112 w A0_1 l0_1.length l0_1) (hc0_1 : l0_1.length ≤ c0_1) (h : laws_FnExactRingBest.f k a0_0 l0_1 = some r) :
  Calls Try.prog 11 #[.agg #[.int .i64 a0_0, .slice A0_1 l0_1.length c0_1]] w fun e w' => e = .returned (.bool r) ∧ Below w.heap.size w w' := by
 have hu38 := Try.underlying38
 have hu25 := Try.underlying25
 have q2 := Aside0.mk hr0_1
 have q3 := Aside0.mk hc0_1
 clear hr0_1 hc0_1
 have HB := Aside0.mk (Below.refl w.heap.size w)
 have H : ((laws_szNet.f a0_0 l0_1 1048576).bind fun t856 => (if t856 < 0 then (some true) else ((laws_toNet.f k a0_0 l0_1).bind fun bt857 => ((spec_RingBest.f k bt857.1 bt857.2).bind fun bt861 => ((laws_toNet.f k a0_0 l0_1).bind fun bt865 => ((impl_RingBest.f k bt865.1 bt865.2).bind fun bt870 => ((laws_eqIntS.f k bt870.1 bt861.1).bind fun t874 => (if t874 = true then (laws_FnExactRingBest.j0 k bt861.1 bt861.2 bt870.1 bt870.2 (bt870.2 != bt861.2) a0_0 l0_1 bt865.1 bt865.2) else (laws_FnExactRingBest.j0 k bt861.1 bt861.2 bt870.1 bt870.2 true a0_0 l0_1 bt865.1 bt865.2))))))))) = some r := h
 clear h
 replace H := Option.bind_eq_some_iff.mp H
 obtain ⟨t856, A20, H⟩ := H
 replace H : (if t856 < 0 then (some true) else ((laws_toNet.f k a0_0 l0_1).bind fun bt857 => ((spec_RingBest.f k bt857.1 bt857.2).bind fun bt861 => ((laws_toNet.f k a0_0 l0_1).bind fun bt865 => ((impl_RingBest.f k bt865.1 bt865.2).bind fun bt870 => ((laws_eqIntS.f k bt870.1 bt861.1).bind fun t874 => (if t874 = true then (laws_FnExactRingBest.j0 k bt861.1 bt861.2 bt870.1 bt870.2 (bt870.2 != bt861.2) a0_0 l0_1 bt865.1 bt865.2) else (laws_FnExactRingBest.j0 k bt861.1 bt861.2 bt870.1 bt870.2 true a0_0 l0_1 bt865.1 bt865.2)))))))) = some r := H
 have A2 := Aside0.mk A20
 clear A20
 by_cases c3 : t856 < 0
 case pos =>
  rw [if_pos c3] at H
  have c3b0 : decide (t856 < 0) = true := decide_eq_true c3
  clear c3
  obtain rfl := Option.some.inj H
  go_enter Try.func11, Try.ntmps11
  go_wp2_with (first | ((with_reducible refine gate_dst (N := 1) rfl ?_); refine box_event ?hg (N := 1) ?hd (cs := #[.int .i64 a0_0, .slice A0_1 l0_1.length c0_1]) (t := 38) ?hr ?_; (case hd => rfl); (case hg => rfl); (case hr => first | (go_simp; done) | (go_simp; rfl)); intro p4 hg w4 hbox hb; have n0_ := Aside0.mk (below_step HB.out hb); have n1_ := Aside0.mk (hbox); have n2_ := Aside0.mk ((by rw [hg]; exact (below_size HB.out) : w.heap.size ≤ p4)); have n3_ := Aside0.mk ((by rw [hg]; exact (below_size HB.out) : w.heap.size ≤ p4)); clear HB; have HB := n0_; have p1 := n1_; have GW855 := n2_; have p6 := n3_; clear n0_ n1_ n2_ n3_; clear hb hbox hg; have s7 : w4.cell? ⟨p4, 0, none⟩ = some (.int .i64 a0_0) := (blk_cell p1.out 0).trans rfl; have s8 : w4.cell? ⟨p4, 1, none⟩ = some (.slice A0_1 l0_1.length c0_1) := (blk_cell p1.out 1).trans rfl; have s9 := blk_frozen p1.out 0; have t0 := blk_frozen p1.out 1) | ((with_reducible refine gate_callee (f := 19) rfl ?_); refine goesL_ (some 16) rfl rfl Try.func19 (by kernel_rfl) rfl #[.agg #[.int .i64 a0_0, .slice A0_1 l0_1.length c0_1], .int .i64 1048576] rfl (by (try simp only [List.map_toArray, List.map_cons, List.map_nil]); first | done | rfl | (simp only [List.length_drop, List.length_take]; rfl)) ?_; (with_reducible refine (laws_szNet.calls a0_0 _ _ l0_1 1048576 t856 _ ?side1 ?side2 A2.out).mono ?_); (case side1 => repeat (first | exact (Kd.C_below q2.out HB.out) | (with_reducible refine Kd.C_alloc ?_ _) | (with_reducible refine Kd.C_drewN ?_ _) | (with_reducible refine Kd.C_drew ?_))); (case side2 => exact q3.out); rintro e w6 ⟨rfl, hb⟩; refine ⟨_, rfl, ?_⟩; have n0_ := Aside0.mk (blk_below (g := p4) (o := .cells #[.int .i64 a0_0, .slice A0_1 l0_1.length c0_1] 38 (0, 0)) p1.out hb); have n1_ := Aside0.mk (below_step HB.out hb); clear p1; clear HB; have p1 := n0_; have HB := n1_; clear n0_ n1_; (try clear hb); (try clear hb2); (try clear hk); (try clear hi)))
  go_ret
  exact ⟨by first | rfl | (simp [errW_none, errW_some] <;> rfl) | (simp [*, errW_none, errW_some] <;> rfl), by repeat (first | (with_reducible first | exact HB.out | apply below_alloc | apply pw_below_drewN | apply below_drew1 | refine below_set ?_ p6.out) | exact HB.out)⟩
 rw [if_neg c3] at H
 have c3b0 : decide (t856 < 0) = false := decide_eq_false c3
 clear c3
 replace H := Option.bind_eq_some_iff.mp H
 obtain ⟨⟨t857, t858⟩, A70, H⟩ := H
 replace H : ((spec_RingBest.f k t857 t858).bind fun bt861 => ((laws_toNet.f k a0_0 l0_1).bind fun bt865 => ((impl_RingBest.f k bt865.1 bt865.2).bind fun bt870 => ((laws_eqIntS.f k bt870.1 bt861.1).bind fun t874 => (if t874 = true then (laws_FnExactRingBest.j0 k bt861.1 bt861.2 bt870.1 bt870.2 (bt870.2 != bt861.2) a0_0 l0_1 bt865.1 bt865.2) else (laws_FnExactRingBest.j0 k bt861.1 bt861.2 bt870.1 bt870.2 true a0_0 l0_1 bt865.1 bt865.2)))))) = some r := H
 have A7 := Aside0.mk A70
 clear A70
 replace H := Option.bind_eq_some_iff.mp H
 obtain ⟨⟨t861, t864⟩, A80, H⟩ := H
 replace H : ((laws_toNet.f k a0_0 l0_1).bind fun bt865 => ((impl_RingBest.f k bt865.1 bt865.2).bind fun bt870 => ((laws_eqIntS.f k bt870.1 t861).bind fun t874 => (if t874 = true then (laws_FnExactRingBest.j0 k t861 t864 bt870.1 bt870.2 (bt870.2 != t864) a0_0 l0_1 bt865.1 bt865.2) else (laws_FnExactRingBest.j0 k t861 t864 bt870.1 bt870.2 true a0_0 l0_1 bt865.1 bt865.2))))) = some r := H
 have A8 := Aside0.mk A80
 clear A80
 replace H := Option.bind_eq_some_iff.mp H
 obtain ⟨⟨t865, t866⟩, A90, H⟩ := H
 replace H : ((impl_RingBest.f k t865 t866).bind fun bt870 => ((laws_eqIntS.f k bt870.1 t861).bind fun t874 => (if t874 = true then (laws_FnExactRingBest.j0 k t861 t864 bt870.1 bt870.2 (bt870.2 != t864) a0_0 l0_1 t865 t866) else (laws_FnExactRingBest.j0 k t861 t864 bt870.1 bt870.2 true a0_0 l0_1 t865 t866)))) = some r := H
 have A9 := Aside0.mk A90
 clear A90
 replace H := Option.bind_eq_some_iff.mp H
 obtain ⟨⟨t870, t873⟩, A100, H⟩ := H
 replace H : ((laws_eqIntS.f k t870 t861).bind fun t874 => (if t874 = true then (laws_FnExactRingBest.j0 k t861 t864 t870 t873 (t873 != t864) a0_0 l0_1 t865 t866) else (laws_FnExactRingBest.j0 k t861 t864 t870 t873 true a0_0 l0_1 t865 t866))) = some r := H
 have A10 := Aside0.mk A100
 clear A100
 have HC11 := Aside0.mk H
 clear H
 go_enter Try.func11, Try.ntmps11
 go_upto_region 8 with (first | ((with_reducible refine gate_dst (N := 1) rfl ?_); refine box_event ?hg (N := 1) ?hd (cs := #[.int .i64 a0_0, .slice A0_1 l0_1.length c0_1]) (t := 38) ?hr ?_; (case hd => rfl); (case hg => rfl); (case hr => first | (go_simp; done) | (go_simp; rfl)); intro p4 hg w12 hbox hb; have n0_ := Aside0.mk (below_step HB.out hb); have n1_ := Aside0.mk (hbox); have n2_ := Aside0.mk ((by rw [hg]; exact (below_size HB.out) : w.heap.size ≤ p4)); have n3_ := Aside0.mk ((by rw [hg]; exact (below_size HB.out) : w.heap.size ≤ p4)); clear HB; have HB := n0_; have p1 := n1_; have GW855 := n2_; have p6 := n3_; clear n0_ n1_ n2_ n3_; clear hb hbox hg; have q4 : w12.cell? ⟨p4, 0, none⟩ = some (.int .i64 a0_0) := (blk_cell p1.out 0).trans rfl; have q5 : w12.cell? ⟨p4, 1, none⟩ = some (.slice A0_1 l0_1.length c0_1) := (blk_cell p1.out 1).trans rfl; have q6 := blk_frozen p1.out 0; have q7 := blk_frozen p1.out 1) | ((with_reducible refine gate_callee (f := 19) rfl ?_); refine goesL_ (some 16) rfl rfl Try.func19 (by kernel_rfl) rfl #[.agg #[.int .i64 a0_0, .slice A0_1 l0_1.length c0_1], .int .i64 1048576] rfl (by (try simp only [List.map_toArray, List.map_cons, List.map_nil]); first | done | rfl | (simp only [List.length_drop, List.length_take]; rfl)) ?_; (with_reducible refine (laws_szNet.calls a0_0 _ _ l0_1 1048576 t856 _ ?side1 ?side2 A2.out).mono ?_); (case side1 => repeat (first | exact (Kd.C_below q2.out HB.out) | (with_reducible refine Kd.C_alloc ?_ _) | (with_reducible refine Kd.C_drewN ?_ _) | (with_reducible refine Kd.C_drew ?_))); (case side2 => exact q3.out); rintro e w14 ⟨rfl, hb⟩; refine ⟨_, rfl, ?_⟩; have n0_ := Aside0.mk (blk_below (g := p4) (o := .cells #[.int .i64 a0_0, .slice A0_1 l0_1.length c0_1] 38 (0, 0)) p1.out hb); have n1_ := Aside0.mk (below_step HB.out hb); clear p1; clear HB; have p1 := n0_; have HB := n1_; clear n0_ n1_; (try clear hb); (try clear hb2); (try clear hk); (try clear hi); have q8 : w14.cell? ⟨p4, 0, none⟩ = some (.int .i64 a0_0) := (blk_cell p1.out 0).trans rfl; have q9 : w14.cell? ⟨p4, 1, none⟩ = some (.slice A0_1 l0_1.length c0_1) := (blk_cell p1.out 1).trans rfl; have r0 := blk_frozen p1.out 0; have r1 := blk_frozen p1.out 1) | ((with_reducible refine gate_callee (f := 21) rfl ?_); refine goesL_ (some 21) rfl rfl Try.func21 (by kernel_rfl) rfl #[.agg #[.int .i64 a0_0, .slice A0_1 l0_1.length c0_1]] rfl (by (try simp only [List.map_toArray, List.map_cons, List.map_nil]); first | done | rfl | (simp only [List.length_drop, List.length_take]; rfl)) ?_; (with_reducible refine (laws_toNet.calls k a0_0 _ _ l0_1 t857 t858 _ ?side1 ?side2 A7.out).mono ?_); (case side1 => repeat (first | exact (Kd.C_below q2.out HB.out) | (with_reducible refine Kd.C_alloc ?_ _) | (with_reducible refine Kd.C_drewN ?_ _) | (with_reducible refine Kd.C_drew ?_))); (case side2 => exact q3.out); rintro e w16 ⟨v859, rfl, ho0, hb⟩; refine ⟨_, rfl, ?_⟩; have n0_ := Aside0.mk (Kd.R_lower ho0 (below_size HB.out)); have n1_ := Aside0.mk (blk_below (g := p4) (o := .cells #[.int .i64 a0_0, .slice A0_1 l0_1.length c0_1] 38 (0, 0)) p1.out hb); have n2_ := Aside0.mk (below_step HB.out hb); clear p1; clear HB; have HO860 := n0_; have p1 := n1_; have HB := n2_; clear n0_ n1_ n2_; (try clear hb); (try clear hb2); (try clear hk); (try clear hi); (try clear ho0); obtain ⟨Ao17, co17, eo17⟩ := Kd.R_slice HO860.out; subst eo17) | ((with_reducible refine gate_callee (f := 38) rfl ?_); refine goesL_ (some 22) rfl rfl Try.func38 (by kernel_rfl) rfl #[.agg #[.int .i64 t857, .slice Ao17 t858.length co17]] rfl (by (try simp only [List.map_toArray, List.map_cons, List.map_nil]); first | done | rfl | (simp only [List.length_drop, List.length_take]; rfl)) ?_; (with_reducible refine (spec_RingBest.calls k t857 _ _ t858 t861 t864 _ ?side1 ?side2 A8.out).mono ?_); (case side1 => repeat (first | exact (Kd.R_reads' HO860.out).2.2 | (with_reducible refine Kd.C_alloc ?_ _) | (with_reducible refine Kd.C_drewN ?_ _) | (with_reducible refine Kd.C_drew ?_))); (case side2 => exact (Kd.R_reads' HO860.out).2.1); rintro e w18 ⟨v862, rfl, ho0, hb⟩; refine ⟨_, rfl, ?_⟩; have n0_ := Aside0.mk (Kd.R_below HO860.out hb); have n1_ := Aside0.mk (Kd.R_lower ho0 (below_size HB.out)); have n2_ := Aside0.mk (blk_below (g := p4) (o := .cells #[.int .i64 a0_0, .slice A0_1 l0_1.length c0_1] 38 (0, 0)) p1.out hb); have n3_ := Aside0.mk (below_step HB.out hb); clear HO860; clear p1; clear HB; have HO860 := n0_; have HO863 := n1_; have p1 := n2_; have HB := n3_; clear n0_ n1_ n2_ n3_; (try clear hb); (try clear hb2); (try clear hk); (try clear hi); (try clear ho0); have r2 : w18.cell? ⟨p4, 0, none⟩ = some (.int .i64 a0_0) := (blk_cell p1.out 0).trans rfl; have r3 : w18.cell? ⟨p4, 1, none⟩ = some (.slice A0_1 l0_1.length c0_1) := (blk_cell p1.out 1).trans rfl; have r4 := blk_frozen p1.out 0; have r5 := blk_frozen p1.out 1) | ((with_reducible refine gate_callee (f := 21) rfl ?_); refine goesL_ (some 26) rfl rfl Try.func21 (by kernel_rfl) rfl #[.agg #[.int .i64 a0_0, .slice A0_1 l0_1.length c0_1]] rfl (by (try simp only [List.map_toArray, List.map_cons, List.map_nil]); first | done | rfl | (simp only [List.length_drop, List.length_take]; rfl)) ?_; (with_reducible refine (laws_toNet.calls k a0_0 _ _ l0_1 t865 t866 _ ?side1 ?side2 A9.out).mono ?_); (case side1 => repeat (first | exact (Kd.C_below q2.out HB.out) | (with_reducible refine Kd.C_alloc ?_ _) | (with_reducible refine Kd.C_drewN ?_ _) | (with_reducible refine Kd.C_drew ?_))); (case side2 => exact q3.out); rintro e w20 ⟨v867, rfl, ho0, hb⟩; refine ⟨_, rfl, ?_⟩; have n0_ := Aside0.mk (Kd.R_elder' HO860.out (Kd.R_base ho0) hb); have n1_ := Aside0.mk (Kd.R_below HO863.out hb); have n2_ := Aside0.mk (Kd.R_lower (Kd.R_new' ho0 (Kd.R_lt HO860.out)) (below_size HB.out)); have n3_ := Aside0.mk (blk_below (g := p4) (o := .cells #[.int .i64 a0_0, .slice A0_1 l0_1.length c0_1] 38 (0, 0)) p1.out hb); have n4_ := Aside0.mk (below_step HB.out hb); clear HO860; clear HO863; clear p1; clear HB; have HO860 := n0_; have HO863 := n1_; have HO868 := n2_; have p1 := n3_; have HB := n4_; clear n0_ n1_ n2_ n3_ n4_; (try clear hb); (try clear hb2); (try clear hk); (try clear hi); (try clear ho0)) | ((with_reducible refine gate_dst (N := 6) rfl ?_); refine box_event ?hg (N := 6) ?hd (cs := #[.int .i64 0, .slice none 0 0]) (t := 25) ?hr ?_; (case hd => rfl); (case hg => rfl); (case hr => first | (go_simp; done) | (go_simp; rfl)); intro p5 hg w21 hbox hb; have n0_ := Aside0.mk (Kd.R_below HO860.out hb); have n1_ := Aside0.mk (Kd.R_below HO863.out hb); have n2_ := Aside0.mk (Kd.R_below HO868.out hb); have n3_ := Aside0.mk (blk_below (g := p4) (o := .cells #[.int .i64 a0_0, .slice A0_1 l0_1.length c0_1] 38 (0, 0)) p1.out hb); have n4_ := Aside0.mk (below_step HB.out hb); have n5_ := Aside0.mk (hbox); have n6_ := Aside0.mk ((by rw [hg]; exact (below_size HB.out) : w.heap.size ≤ p5)); have n7_ := Aside0.mk ((by rw [hg]; exact (below_size HB.out) : w.heap.size ≤ p5)); have n8_ := Aside0.mk ((by rw [hg]; exact Nat.ne_of_lt (blk_lt (g := p4) (o := .cells #[.int .i64 a0_0, .slice A0_1 l0_1.length c0_1] 38 (0, 0)) p1.out) : p4 ≠ p5)); have n9_ := Aside0.mk ((by rw [hg]; exact Nat.ne_of_gt (blk_lt (g := p4) (o := .cells #[.int .i64 a0_0, .slice A0_1 l0_1.length c0_1] 38 (0, 0)) p1.out) : p5 ≠ p4)); clear HO860; clear HO863; clear HO868; clear p1; clear HB; have HO860 := n0_; have HO863 := n1_; have HO868 := n2_; have p1 := n3_; have HB := n4_; have p3 := n5_; have GW869 := n6_; have p7 := n7_; have p8 := n8_; have q1 := n9_; clear n0_ n1_ n2_ n3_ n4_ n5_ n6_ n7_ n8_ n9_; clear hb hbox hg; have hnb22 := q1.out; have hnc22 := p8.out; have r6 : w21.cell? ⟨p5, 0, none⟩ = some (.int .i64 0) := (blk_cell p3.out 0).trans rfl; have r7 : w21.cell? ⟨p5, 1, none⟩ = some (.slice none 0 0) := (blk_cell p3.out 1).trans rfl; have r8 := blk_frozen p3.out 0; have r9 := blk_frozen p3.out 1; obtain ⟨Ao24, co24, eo24⟩ := Kd.R_slice HO868.out; subst eo24) | ((with_reducible refine gate_callee (f := 37) rfl ?_); refine goesL_ (some 29) rfl rfl Try.func37 (by kernel_rfl) rfl #[.agg #[.int .i64 t865, .slice Ao24 t866.length co24]] rfl (by (try simp only [List.map_toArray, List.map_cons, List.map_nil]); first | done | rfl | (simp only [List.length_drop, List.length_take]; rfl)) ?_; (with_reducible refine (impl_RingBest.calls k t865 _ _ t866 t870 t873 _ ?side1 ?side2 A10.out).mono ?_); (case side1 => refine (Kd.R_reads' (e := 34) (base := w.heap.size) (ok := fun k_ => (True ∧ some k_ ≠ (.slice Ao17 t858.length co17 : Value).ownBlock)) (n := t866.length) (c := co24) ?_).2.2; exact (Kd.R_mono (Kd.R_far (p := ⟨p5, 1, none⟩) (Kd.R_far (p := ⟨p5, 0, none⟩) (Kd.R_types HO868.out p3.out (by decide)) (fun _ hk => hk.2) (.int .i64 t865)) (fun _ hk => hk.2) (.slice Ao24 t866.length co24)) (fun _ h_ => h_.1))); (case side2 => exact (Kd.R_reads' HO868.out).2.1); rintro e w25 ⟨v871, rfl, ho0, hb⟩; refine ⟨_, rfl, ?_⟩; have n0_ := Aside0.mk (Kd.R_below (Kd.R_mono (Kd.R_far (p := ⟨p5, 1, none⟩) (Kd.R_far (p := ⟨p5, 0, none⟩) (Kd.R_types HO860.out p3.out (by decide)) (fun _ hk => hk.2) (.int .i64 t865)) (fun _ hk => hk.2) (.slice Ao24 t866.length co24)) (fun _ h_ => h_.1)) hb); have n1_ := Aside0.mk (Kd.R_elder' (Kd.R_mono (Kd.R_far (p := ⟨p5, 1, none⟩) (Kd.R_far (p := ⟨p5, 0, none⟩) (Kd.R_types HO863.out p3.out (by decide)) (fun _ hk => hk.2) (.int .i64 t865)) (fun _ hk => hk.2) (.slice Ao24 t866.length co24)) (fun _ h_ => h_.1)) (Kd.R_base ho0) hb); have n2_ := Aside0.mk (Kd.R_below (Kd.R_mono (Kd.R_far (p := ⟨p5, 1, none⟩) (Kd.R_far (p := ⟨p5, 0, none⟩) (Kd.R_types HO868.out p3.out (by decide)) (fun _ hk => hk.2) (.int .i64 t865)) (fun _ hk => hk.2) (.slice Ao24 t866.length co24)) (fun _ h_ => h_.1)) hb); have n3_ := Aside0.mk (Kd.R_lower (Kd.R_new' ho0 (Kd.R_lt (Kd.R_mono (Kd.R_far (p := ⟨p5, 1, none⟩) (Kd.R_far (p := ⟨p5, 0, none⟩) (Kd.R_types HO863.out p3.out (by decide)) (fun _ hk => hk.2) (.int .i64 t865)) (fun _ hk => hk.2) (.slice Ao24 t866.length co24)) (fun _ h_ => h_.1)))) (below_size (by repeat (first | (with_reducible first | exact HB.out | apply below_alloc | apply pw_below_drewN | apply below_drew1 | refine below_set ?_ p6.out | refine below_set ?_ p7.out) | exact HB.out)))); have n4_ := Aside0.mk (blk_below (g := p4) (o := .cells #[.int .i64 a0_0, .slice A0_1 l0_1.length c0_1] 38 (0, 0)) (by refine blk_far ?_ p8.out _; refine blk_far ?_ p8.out _; exact p1.out) hb); have n5_ := Aside0.mk (blk_below (g := p5) (o := .cells #[.int .i64 t865, .slice Ao24 t866.length co24] 25 (0, 0)) (by refine blk_put (cs := #[.int .i64 t865, .slice none 0 0]) ?_ 1 _ rfl; refine blk_put (cs := #[.int .i64 0, .slice none 0 0]) ?_ 0 _ rfl; exact p3.out) hb); have n6_ := Aside0.mk (below_step (by repeat (first | (with_reducible first | exact HB.out | apply below_alloc | apply pw_below_drewN | apply below_drew1 | refine below_set ?_ p6.out | refine below_set ?_ p7.out) | exact HB.out)) hb); clear HO860; clear HO863; clear HO868; clear p1; clear p3; clear HB; have HO860 := n0_; have HO863 := n1_; have HO868 := n2_; have HO872 := n3_; have p1 := n4_; have p3 := n5_; have HB := n6_; clear n0_ n1_ n2_ n3_ n4_ n5_ n6_; (try clear hb); (try clear hb2); (try clear hk); (try clear hi); (try clear ho0)))
 (try simp only [Act.put, List.setIfInBounds_toArray, List.set_cons_zero, List.set_cons_succ])
 go_cut [40] (fun v40 wc => ∃ (kq : Nat) (s4 : Bool), v40 = .bool s4 ∧ Aside0 (laws_FnExactRingBest.j0 kq t861 t864 t870 t873 s4 a0_0 l0_1 t865 t866 = some r) ∧ Aside0 (kq ≤ k) ∧ Aside0 (Kd.R (Kd.int .i64) 3 wc w.heap.size (fun k_ => some k_ ≠ (v871 : Value).ownBlock) v862 t861) ∧ Aside0 (Kd.R (Kd.int .i64) 3 wc w.heap.size (fun k_ => some k_ ≠ (v862 : Value).ownBlock) v871 t870) ∧ Aside0 (Kd.R k34 34 wc w.heap.size (fun _ => True) (.slice Ao24 t866.length co24) t866) ∧ Aside0 (wc.heap[p4]? = some (.cells #[.int .i64 a0_0, (.slice A0_1 l0_1.length c0_1)] 38 (0, 0))) ∧ Aside0 (wc.heap[p5]? = some (.cells #[.int .i64 t865, (.slice Ao24 t866.length co24)] 25 (0, 0))) ∧ Aside0 (Below w.heap.size w wc))
 case first =>
  have H := HC11.out
  clear HC11
  replace H := Option.bind_eq_some_iff.mp H
  obtain ⟨t874, A260, H⟩ := H
  replace H : (if t874 = true then (laws_FnExactRingBest.j0 k t861 t864 t870 t873 (t873 != t864) a0_0 l0_1 t865 t866) else (laws_FnExactRingBest.j0 k t861 t864 t870 t873 true a0_0 l0_1 t865 t866)) = some r := H
  have A26 := Aside0.mk A260
  clear A260
  by_cases c27 : t874 = true
  case pos =>
   subst c27
   have H1 : (laws_FnExactRingBest.j0 k t861 t864 t870 t873 (t873 != t864) a0_0 l0_1 t865 t866) = some r := by rw [if_pos rfl] at H; exact H
   clear H
   have H := H1
   clear H1
   have H' := Aside0.mk H
   clear H
   obtain ⟨Ao28, co28, eo28⟩ := Kd.R_slice HO872.out
   subst eo28
   obtain ⟨Ao29, co29, eo29⟩ := Kd.R_slice HO863.out
   subst eo29
   go_wp2_with (first | ((with_reducible refine gate_callee (f := 32) rfl ?_); refine goesL_ (some 34) rfl rfl Try.func32 (by kernel_rfl) rfl #[.slice Ao28 t870.length co28, .slice Ao29 t861.length co29] rfl (by (try simp only [List.map_toArray, List.map_cons, List.map_nil]); first | done | rfl | (simp only [List.length_drop, List.length_take]; rfl)) ?_; (with_reducible refine (laws_eqIntS.calls k _ _ t870 _ _ t861 true _ ?side1 ?side2 ?side3 ?side4 A26.out).mono ?_); (case side1 => repeat (first | exact (Kd.R_reads' HO872.out).2.2 | (with_reducible refine Kd.C_alloc ?_ _) | (with_reducible refine Kd.C_drewN ?_ _) | (with_reducible refine Kd.C_drew ?_))); (case side2 => exact (Kd.R_reads' HO872.out).2.1); (case side3 => repeat (first | exact (Kd.R_reads' HO863.out).2.2 | (with_reducible refine Kd.C_alloc ?_ _) | (with_reducible refine Kd.C_drewN ?_ _) | (with_reducible refine Kd.C_drew ?_))); (case side4 => exact (Kd.R_reads' HO863.out).2.1); rintro e w' ⟨rfl, ⟨nd, rfl⟩⟩; refine ⟨_, rfl, ?_⟩))
   go_meet
   case rel => exact ⟨_, ((t873 != t864)), (by first | rfl | (simp; done) | (simp [*]; done)), H', ⟨by first | omega | exact Nat.le_refl _⟩, ⟨by exact Kd.R_mono HO863.out (fun _ hk => hk.2)⟩, ⟨by exact Kd.R_mono HO872.out (fun _ hk => hk.2)⟩, ⟨by exact Kd.R_mono HO868.out (fun _ hk => trivial)⟩, ⟨by exact p1.out⟩, ⟨by exact p3.out⟩, ⟨by repeat (first | (with_reducible first | exact HB.out | apply below_alloc | apply pw_below_drewN | apply below_drew1 | refine below_set ?_ p6.out | refine below_set ?_ p7.out) | exact HB.out)⟩⟩
  replace c27 := Bool.eq_false_iff.mpr c27
  subst c27
  have H1 : (laws_FnExactRingBest.j0 k t861 t864 t870 t873 true a0_0 l0_1 t865 t866) = some r := by rw [if_neg (show ¬ (false = true) by decide)] at H; exact H
  clear H
  have H := H1
  clear H1
  have H' := Aside0.mk H
  clear H
  obtain ⟨Ao30, co30, eo30⟩ := Kd.R_slice HO872.out
  subst eo30
  obtain ⟨Ao31, co31, eo31⟩ := Kd.R_slice HO863.out
  subst eo31
  go_wp2_with (first | ((with_reducible refine gate_callee (f := 32) rfl ?_); refine goesL_ (some 34) rfl rfl Try.func32 (by kernel_rfl) rfl #[.slice Ao30 t870.length co30, .slice Ao31 t861.length co31] rfl (by (try simp only [List.map_toArray, List.map_cons, List.map_nil]); first | done | rfl | (simp only [List.length_drop, List.length_take]; rfl)) ?_; (with_reducible refine (laws_eqIntS.calls k _ _ t870 _ _ t861 false _ ?side1 ?side2 ?side3 ?side4 A26.out).mono ?_); (case side1 => repeat (first | exact (Kd.R_reads' HO872.out).2.2 | (with_reducible refine Kd.C_alloc ?_ _) | (with_reducible refine Kd.C_drewN ?_ _) | (with_reducible refine Kd.C_drew ?_))); (case side2 => exact (Kd.R_reads' HO872.out).2.1); (case side3 => repeat (first | exact (Kd.R_reads' HO863.out).2.2 | (with_reducible refine Kd.C_alloc ?_ _) | (with_reducible refine Kd.C_drewN ?_ _) | (with_reducible refine Kd.C_drew ?_))); (case side4 => exact (Kd.R_reads' HO863.out).2.1); rintro e w' ⟨rfl, ⟨nd, rfl⟩⟩; refine ⟨_, rfl, ?_⟩))
  go_meet
  case rel => exact ⟨_, (true), (by first | rfl | (simp; done) | (simp [*]; done)), H', ⟨by first | omega | exact Nat.le_refl _⟩, ⟨by exact Kd.R_mono HO863.out (fun _ hk => hk.2)⟩, ⟨by exact Kd.R_mono HO872.out (fun _ hk => hk.2)⟩, ⟨by exact Kd.R_mono HO868.out (fun _ hk => trivial)⟩, ⟨by exact p1.out⟩, ⟨by exact p3.out⟩, ⟨by repeat (first | (with_reducible first | exact HB.out | apply below_alloc | apply pw_below_drewN | apply below_drew1 | refine below_set ?_ p6.out | refine below_set ?_ p7.out) | exact HB.out)⟩⟩
 case rest =>
  clear HC11
  try clear c1
  try clear c2
  try clear p2
  try clear c3
  try clear c3b0
  try clear c11
  try clear c19
  try clear c21
  try clear c22
  try clear c27
  try clear q4
  try clear q5
  try clear q8
  try clear q9
  try clear r2
  try clear r3
  try clear r6
  try clear r7
  try clear s7
  try clear s8
  try clear q6
  try clear q7
  try clear r0
  try clear r1
  try clear r4
  try clear r5
  try clear r8
  try clear r9
  try clear s9
  try clear t0
  obtain ⟨kq, s4, rfl, HA, HJ10, HO_4, HO_7, p0, p1, p3, HB⟩ := hcut
  cases kq with
  | zero => exact absurd HA.out (by simp [laws_FnExactRingBest.j0])
  | succ kj10 =>
   have H := HA.out
   clear HA
   simp only [laws_FnExactRingBest.j0] at H
   by_cases c32 : s4 = true
   case pos =>
    subst c32
    have H1 : (some false) = some r := by rw [if_pos rfl] at H; exact H
    clear H
    have H := H1
    clear H1
    obtain rfl := Option.some.inj H
    go_wp2
    go_ret
    exact ⟨by first | rfl | (simp [errW_none, errW_some] <;> rfl) | (simp [*, errW_none, errW_some] <;> rfl), by repeat (first | (with_reducible first | exact HB.out | apply below_alloc | apply pw_below_drewN | apply below_drew1 | refine below_set ?_ p6.out | refine below_set ?_ p7.out) | exact HB.out)⟩
   replace c32 := Bool.eq_false_iff.mpr c32
   subst c32
   have H1 : ((laws_toNet.f kj10 a0_0 l0_1).bind fun bt875 => ((laws_eqNet.f kj10 t865 t866 bt875.1 bt875.2).bind fun t879 => (if t879 = true then ((laws_markNet.f kj10 t865 t866 1).bind fun bt880 => (if bt880.1 < 0 then (laws_FnExactRingBest.j1 kj10 t861 t864 t870 true a0_0 l0_1) else ((laws_eqIntS.f kj10 t870 t861).bind fun t882 => (if t882 = true then (laws_FnExactRingBest.j1 kj10 t861 t864 t870 (t873 != t864) a0_0 l0_1) else (laws_FnExactRingBest.j1 kj10 t861 t864 t870 true a0_0 l0_1))))) else (some false)))) = some r := by rw [if_neg (show ¬ (false = true) by decide)] at H; exact H
   clear H
   have H := H1
   clear H1
   replace H := Option.bind_eq_some_iff.mp H
   obtain ⟨⟨t875, t876⟩, A330, H⟩ := H
   replace H : ((laws_eqNet.f kj10 t865 t866 t875 t876).bind fun t879 => (if t879 = true then ((laws_markNet.f kj10 t865 t866 1).bind fun bt880 => (if bt880.1 < 0 then (laws_FnExactRingBest.j1 kj10 t861 t864 t870 true a0_0 l0_1) else ((laws_eqIntS.f kj10 t870 t861).bind fun t882 => (if t882 = true then (laws_FnExactRingBest.j1 kj10 t861 t864 t870 (t873 != t864) a0_0 l0_1) else (laws_FnExactRingBest.j1 kj10 t861 t864 t870 true a0_0 l0_1))))) else (some false))) = some r := H
   have A33 := Aside0.mk A330
   clear A330
   replace H := Option.bind_eq_some_iff.mp H
   obtain ⟨t879, A340, H⟩ := H
   replace H : (if t879 = true then ((laws_markNet.f kj10 t865 t866 1).bind fun bt880 => (if bt880.1 < 0 then (laws_FnExactRingBest.j1 kj10 t861 t864 t870 true a0_0 l0_1) else ((laws_eqIntS.f kj10 t870 t861).bind fun t882 => (if t882 = true then (laws_FnExactRingBest.j1 kj10 t861 t864 t870 (t873 != t864) a0_0 l0_1) else (laws_FnExactRingBest.j1 kj10 t861 t864 t870 true a0_0 l0_1))))) else (some false)) = some r := H
   have A34 := Aside0.mk A340
   clear A340
   by_cases c35 : t879 = true
   case neg =>
    replace c35 := Bool.eq_false_iff.mpr c35
    subst c35
    have H1 : (some false) = some r := by rw [if_neg (show ¬ (false = true) by decide)] at H; exact H
    clear H
    have H := H1
    clear H1
    obtain rfl := Option.some.inj H
    try go_wp2
    have n0_ := Aside0.mk (Kd.R_drew HO_4.out)
    have n1_ := Aside0.mk (Kd.R_drew HO_7.out)
    have n2_ := Aside0.mk (Kd.R_drew p0.out)
    have n3_ := Aside0.mk (blk_drew p1.out)
    have n4_ := Aside0.mk (blk_drew p3.out)
    have n5_ := Aside0.mk (below_drew1 HB.out)
    clear HO_4
    clear HO_7
    clear p0
    clear p1
    clear p3
    clear HB
    have HO_4 := n0_
    have HO_7 := n1_
    have p0 := n2_
    have p1 := n3_
    have p3 := n4_
    have HB := n5_
    clear n0_ n1_ n2_ n3_ n4_ n5_
    refine start_ (n := 5) (S := fun w' => w'.cell? ⟨p5, 0, none⟩ = some (.int .i64 t865) ∧ w'.cell? ⟨p5, 1, none⟩ = some (.slice Ao24 t866.length co24) ∧ w'.cell? ⟨p4, 0, none⟩ = some (.int .i64 a0_0) ∧ w'.cell? ⟨p4, 1, none⟩ = some (.slice A0_1 l0_1.length c0_1)) (ds := []) #[false, false, false, false, false] (by kernel_rfl) rfl rfl ⟨(blk_cell p3.out 0).trans rfl, (blk_cell p3.out 1).trans rfl, (blk_cell p1.out 0).trans rfl, (blk_cell p1.out 1).trans rfl⟩ (fun hHeld => ?_)
    generalize wc.drew = w81 at HO_4 HO_7 p0 p1 p3 HB hHeld ⊢
    refine take_ (i := 0) (N := some 41) (v := ?_) (a' := ?_) #[true, false, false, false, false] rfl rfl (by kernel_rfl) (fun _ _ _ h => h) (Or.inl ⟨by rfl, ?_⟩) hHeld ?_ ?_
    rotate_left
    ·rintro w' ⟨s0, s1, s2, s3⟩
     go_simp
     with_reducible rfl
    rotate_left
    ·simp only [Act.put, List.setIfInBounds_toArray, List.set_cons_zero, List.set_cons_succ, i64_w, i32_w]
     rfl
    refine take_ (i := 1) (N := some 42) (v := ?_) (a' := ?_) #[true, true, false, false, false] rfl rfl (by kernel_rfl) (fun _ _ _ h => h) (Or.inl ⟨by rfl, ?_⟩) hHeld ?_ ?_
    rotate_left
    ·rintro w' ⟨s0, s1, s2, s3⟩
     go_simp
     with_reducible rfl
    rotate_left
    ·simp only [Act.put, List.setIfInBounds_toArray, List.set_cons_zero, List.set_cons_succ, i64_w, i32_w]
     rfl
    refine one_ (i := 2) (N := some 43) #[true, true, true, false, false] rfl rfl (by kernel_rfl) (by decide) (fun K hK => ?_)
    refine goes_ Try.func21 (by kernel_rfl) rfl #[.agg #[.int .i64 a0_0, .slice A0_1 l0_1.length c0_1]] (by rfl) rfl rfl (by (try simp only [List.map_toArray, List.map_cons, List.map_nil]); first | done | rfl | (simp only [List.length_drop, List.length_take]; rfl)) ?_
    with_reducible refine (laws_toNet.calls kj10 a0_0 _ _ l0_1 t875 t876 _ ?side1 ?side2 A33.out).mono ?_
    (case side1 => repeat (first | exact (Kd.C_below q2.out HB.out) | (with_reducible refine Kd.C_alloc ?_ _) | (with_reducible refine Kd.C_drewN ?_ _) | (with_reducible refine Kd.C_drew ?_)))
    (case side2 => exact q3.out)
    rintro e w82 ⟨v877, rfl, ho0, hb⟩
    refine ⟨_, rfl, ?_⟩
    have n0_ := Aside0.mk (Kd.R_below HO_4.out hb)
    have n1_ := Aside0.mk (Kd.R_below HO_7.out hb)
    have n2_ := Aside0.mk (Kd.R_elder' p0.out (Kd.R_base ho0) hb)
    have n3_ := Aside0.mk (Kd.R_lower (Kd.R_new' ho0 (Kd.R_lt p0.out)) (below_size HB.out))
    have n4_ := Aside0.mk (blk_below (g := p4) (o := .cells #[.int .i64 a0_0, .slice A0_1 l0_1.length c0_1] 38 (0, 0)) p1.out hb)
    have n5_ := Aside0.mk (blk_below (g := p5) (o := .cells #[.int .i64 t865, .slice Ao24 t866.length co24] 25 (0, 0)) p3.out hb)
    have n6_ := Aside0.mk (below_step HB.out hb)
    clear HO_4
    clear HO_7
    clear p0
    clear p1
    clear p3
    clear HB
    have HO_4 := n0_
    have HO_7 := n1_
    have p0 := n2_
    have HO878 := n3_
    have p1 := n4_
    have p3 := n5_
    have HB := n6_
    clear n0_ n1_ n2_ n3_ n4_ n5_ n6_
    (try clear hb)
    (try clear hb2)
    (try clear hk)
    (try clear hi)
    (try clear ho0)
    obtain ⟨Ao83, co83, eo83⟩ := Kd.R_slice HO878.out
    (first | subst eo83 | (injection eo83 with f1_ f2_ f3_; have f4_ := f1_.symm; have f5_ := f3_.symm; clear f1_ f2_ f3_; subst f4_; subst f5_))
    refine hK.out _ _ ⟨(blk_cell p3.out 0).trans rfl, (blk_cell p3.out 1).trans rfl, (blk_cell p1.out 0).trans rfl, (blk_cell p1.out 1).trans rfl⟩ (fun hHeld => ?_)
    clear hK K
    refine norm_ (a' := ?_) ?_ ?_
    rotate_left
    ·show Act.put _ (some 43) _ = _
     simp only [Act.put, List.setIfInBounds_toArray, List.set_cons_zero, List.set_cons_succ, i64_w, i32_w]
     rfl
    refine one_ (i := 3) (N := some 44) #[true, true, true, true, false] rfl rfl (by kernel_rfl) (by decide) (fun K hK => ?_)
    refine goes_ Try.func23 (by kernel_rfl) rfl #[.agg #[.int .i64 t865, .slice Ao24 t866.length co24], .agg #[.int .i64 t875, .slice Ao83 t876.length co83]] (by rfl) rfl rfl (by (try simp only [List.map_toArray, List.map_cons, List.map_nil]); first | done | rfl | (simp only [List.length_drop, List.length_take]; rfl)) ?_
    with_reducible refine (laws_eqNet.calls kj10 t865 _ _ t866 t875 _ _ t876 false _ ?side1 ?side2 ?side3 ?side4 A34.out).mono ?_
    (case side1 => repeat (first | exact (Kd.R_reads' p0.out).2.2 | (with_reducible refine Kd.C_alloc ?_ _) | (with_reducible refine Kd.C_drewN ?_ _) | (with_reducible refine Kd.C_drew ?_)))
    (case side2 => exact (Kd.R_reads' p0.out).2.1)
    (case side3 => repeat (first | exact (Kd.R_reads' HO878.out).2.2 | (with_reducible refine Kd.C_alloc ?_ _) | (with_reducible refine Kd.C_drewN ?_ _) | (with_reducible refine Kd.C_drew ?_)))
    (case side4 => exact (Kd.R_reads' HO878.out).2.1)
    rintro e w84 ⟨rfl, hb⟩
    refine ⟨_, rfl, ?_⟩
    have n0_ := Aside0.mk (Kd.R_below HO_4.out hb)
    have n1_ := Aside0.mk (Kd.R_below HO_7.out hb)
    have n2_ := Aside0.mk (Kd.R_below p0.out hb)
    have n3_ := Aside0.mk (Kd.R_below HO878.out hb)
    have n4_ := Aside0.mk (blk_below (g := p4) (o := .cells #[.int .i64 a0_0, .slice A0_1 l0_1.length c0_1] 38 (0, 0)) p1.out hb)
    have n5_ := Aside0.mk (blk_below (g := p5) (o := .cells #[.int .i64 t865, .slice Ao24 t866.length co24] 25 (0, 0)) p3.out hb)
    have n6_ := Aside0.mk (below_step HB.out hb)
    clear HO_4
    clear HO_7
    clear p0
    clear HO878
    clear p1
    clear p3
    clear HB
    have HO_4 := n0_
    have HO_7 := n1_
    have p0 := n2_
    have HO878 := n3_
    have p1 := n4_
    have p3 := n5_
    have HB := n6_
    clear n0_ n1_ n2_ n3_ n4_ n5_ n6_
    (try clear hb)
    (try clear hb2)
    (try clear hk)
    (try clear hi)
    refine hK.out _ _ ⟨(blk_cell p3.out 0).trans rfl, (blk_cell p3.out 1).trans rfl, (blk_cell p1.out 0).trans rfl, (blk_cell p1.out 1).trans rfl⟩ (fun hHeld => ?_)
    clear hK K
    refine norm_ (a' := ?_) ?_ ?_
    rotate_left
    ·show Act.put _ (some 44) _ = _
     simp only [Act.put, List.setIfInBounds_toArray, List.set_cons_zero, List.set_cons_succ, i64_w, i32_w]
     rfl
    refine pure_ (i := 4) (N := some 45) (v := ?_) (a' := ?_) #[true, true, true, true, true] rfl rfl (by kernel_rfl) (fun _ _ _ h => h) (Or.inl ⟨by rfl, ?_⟩) ?_ ?_
    rotate_left
    ·intro w'
     go_simp
     with_reducible rfl
    rotate_left
    ·simp only [Act.put, List.setIfInBounds_toArray, List.set_cons_zero, List.set_cons_succ, i64_w, i32_w]
     rfl
    refine done_ (by kernel_rfl) ?_
    try go_wp2
    go_ret
    exact ⟨by first | rfl | (simp [errW_none, errW_some] <;> rfl) | (simp [*, errW_none, errW_some] <;> rfl), by repeat (first | (with_reducible first | exact HB.out | apply below_alloc | apply pw_below_drewN | apply below_drew1 | refine below_set ?_ p6.out | refine below_set ?_ p7.out) | exact HB.out)⟩
   subst c35
   have H1 : ((laws_markNet.f kj10 t865 t866 1).bind fun bt880 => (if bt880.1 < 0 then (laws_FnExactRingBest.j1 kj10 t861 t864 t870 true a0_0 l0_1) else ((laws_eqIntS.f kj10 t870 t861).bind fun t882 => (if t882 = true then (laws_FnExactRingBest.j1 kj10 t861 t864 t870 (t873 != t864) a0_0 l0_1) else (laws_FnExactRingBest.j1 kj10 t861 t864 t870 true a0_0 l0_1))))) = some r := by rw [if_pos rfl] at H; exact H
   clear H
   have H := H1
   clear H1
   replace H := Option.bind_eq_some_iff.mp H
   obtain ⟨⟨t880, t881⟩, A360, H⟩ := H
   replace H : (if t880 < 0 then (laws_FnExactRingBest.j1 kj10 t861 t864 t870 true a0_0 l0_1) else ((laws_eqIntS.f kj10 t870 t861).bind fun t882 => (if t882 = true then (laws_FnExactRingBest.j1 kj10 t861 t864 t870 (t873 != t864) a0_0 l0_1) else (laws_FnExactRingBest.j1 kj10 t861 t864 t870 true a0_0 l0_1)))) = some r := H
   have A36 := Aside0.mk A360
   clear A360
   have HC37 := Aside0.mk H
   clear H
   try go_wp2
   have n0_ := Aside0.mk (Kd.R_drew HO_4.out)
   have n1_ := Aside0.mk (Kd.R_drew HO_7.out)
   have n2_ := Aside0.mk (Kd.R_drew p0.out)
   have n3_ := Aside0.mk (blk_drew p1.out)
   have n4_ := Aside0.mk (blk_drew p3.out)
   have n5_ := Aside0.mk (below_drew1 HB.out)
   clear HO_4
   clear HO_7
   clear p0
   clear p1
   clear p3
   clear HB
   have HO_4 := n0_
   have HO_7 := n1_
   have p0 := n2_
   have p1 := n3_
   have p3 := n4_
   have HB := n5_
   clear n0_ n1_ n2_ n3_ n4_ n5_
   refine start_ (n := 5) (S := fun w' => w'.cell? ⟨p5, 0, none⟩ = some (.int .i64 t865) ∧ w'.cell? ⟨p5, 1, none⟩ = some (.slice Ao24 t866.length co24) ∧ w'.cell? ⟨p4, 0, none⟩ = some (.int .i64 a0_0) ∧ w'.cell? ⟨p4, 1, none⟩ = some (.slice A0_1 l0_1.length c0_1)) (ds := []) #[false, false, false, false, false] (by kernel_rfl) rfl rfl ⟨(blk_cell p3.out 0).trans rfl, (blk_cell p3.out 1).trans rfl, (blk_cell p1.out 0).trans rfl, (blk_cell p1.out 1).trans rfl⟩ (fun hHeld => ?_)
   generalize wc.drew = w38 at HO_4 HO_7 p0 p1 p3 HB hHeld ⊢
   refine take_ (i := 0) (N := some 41) (v := ?_) (a' := ?_) #[true, false, false, false, false] rfl rfl (by kernel_rfl) (fun _ _ _ h => h) (Or.inl ⟨by rfl, ?_⟩) hHeld ?_ ?_
   rotate_left
   ·rintro w' ⟨s0, s1, s2, s3⟩
    go_simp
    with_reducible rfl
   rotate_left
   ·simp only [Act.put, List.setIfInBounds_toArray, List.set_cons_zero, List.set_cons_succ, i64_w, i32_w]
    rfl
   refine take_ (i := 1) (N := some 42) (v := ?_) (a' := ?_) #[true, true, false, false, false] rfl rfl (by kernel_rfl) (fun _ _ _ h => h) (Or.inl ⟨by rfl, ?_⟩) hHeld ?_ ?_
   rotate_left
   ·rintro w' ⟨s0, s1, s2, s3⟩
    go_simp
    with_reducible rfl
   rotate_left
   ·simp only [Act.put, List.setIfInBounds_toArray, List.set_cons_zero, List.set_cons_succ, i64_w, i32_w]
    rfl
   refine one_ (i := 2) (N := some 43) #[true, true, true, false, false] rfl rfl (by kernel_rfl) (by decide) (fun K hK => ?_)
   refine goes_ Try.func21 (by kernel_rfl) rfl #[.agg #[.int .i64 a0_0, .slice A0_1 l0_1.length c0_1]] (by rfl) rfl rfl (by (try simp only [List.map_toArray, List.map_cons, List.map_nil]); first | done | rfl | (simp only [List.length_drop, List.length_take]; rfl)) ?_
   with_reducible refine (laws_toNet.calls kj10 a0_0 _ _ l0_1 t875 t876 _ ?side1 ?side2 A33.out).mono ?_
   (case side1 => repeat (first | exact (Kd.C_below q2.out HB.out) | (with_reducible refine Kd.C_alloc ?_ _) | (with_reducible refine Kd.C_drewN ?_ _) | (with_reducible refine Kd.C_drew ?_)))
   (case side2 => exact q3.out)
   rintro e w39 ⟨v877, rfl, ho0, hb⟩
   refine ⟨_, rfl, ?_⟩
   have n0_ := Aside0.mk (Kd.R_below HO_4.out hb)
   have n1_ := Aside0.mk (Kd.R_below HO_7.out hb)
   have n2_ := Aside0.mk (Kd.R_elder' p0.out (Kd.R_base ho0) hb)
   have n3_ := Aside0.mk (Kd.R_lower (Kd.R_new' ho0 (Kd.R_lt p0.out)) (below_size HB.out))
   have n4_ := Aside0.mk (blk_below (g := p4) (o := .cells #[.int .i64 a0_0, .slice A0_1 l0_1.length c0_1] 38 (0, 0)) p1.out hb)
   have n5_ := Aside0.mk (blk_below (g := p5) (o := .cells #[.int .i64 t865, .slice Ao24 t866.length co24] 25 (0, 0)) p3.out hb)
   have n6_ := Aside0.mk (below_step HB.out hb)
   clear HO_4
   clear HO_7
   clear p0
   clear p1
   clear p3
   clear HB
   have HO_4 := n0_
   have HO_7 := n1_
   have p0 := n2_
   have HO878 := n3_
   have p1 := n4_
   have p3 := n5_
   have HB := n6_
   clear n0_ n1_ n2_ n3_ n4_ n5_ n6_
   (try clear hb)
   (try clear hb2)
   (try clear hk)
   (try clear hi)
   (try clear ho0)
   obtain ⟨Ao40, co40, eo40⟩ := Kd.R_slice HO878.out
   (first | subst eo40 | (injection eo40 with f1_ f2_ f3_; have f4_ := f1_.symm; have f5_ := f3_.symm; clear f1_ f2_ f3_; subst f4_; subst f5_))
   refine hK.out _ _ ⟨(blk_cell p3.out 0).trans rfl, (blk_cell p3.out 1).trans rfl, (blk_cell p1.out 0).trans rfl, (blk_cell p1.out 1).trans rfl⟩ (fun hHeld => ?_)
   clear hK K
   refine norm_ (a' := ?_) ?_ ?_
   rotate_left
   ·show Act.put _ (some 43) _ = _
    simp only [Act.put, List.setIfInBounds_toArray, List.set_cons_zero, List.set_cons_succ, i64_w, i32_w]
    rfl
   refine one_ (i := 3) (N := some 44) #[true, true, true, true, false] rfl rfl (by kernel_rfl) (by decide) (fun K hK => ?_)
   refine goes_ Try.func23 (by kernel_rfl) rfl #[.agg #[.int .i64 t865, .slice Ao24 t866.length co24], .agg #[.int .i64 t875, .slice Ao40 t876.length co40]] (by rfl) rfl rfl (by (try simp only [List.map_toArray, List.map_cons, List.map_nil]); first | done | rfl | (simp only [List.length_drop, List.length_take]; rfl)) ?_
   with_reducible refine (laws_eqNet.calls kj10 t865 _ _ t866 t875 _ _ t876 true _ ?side1 ?side2 ?side3 ?side4 A34.out).mono ?_
   (case side1 => repeat (first | exact (Kd.R_reads' p0.out).2.2 | (with_reducible refine Kd.C_alloc ?_ _) | (with_reducible refine Kd.C_drewN ?_ _) | (with_reducible refine Kd.C_drew ?_)))
   (case side2 => exact (Kd.R_reads' p0.out).2.1)
   (case side3 => repeat (first | exact (Kd.R_reads' HO878.out).2.2 | (with_reducible refine Kd.C_alloc ?_ _) | (with_reducible refine Kd.C_drewN ?_ _) | (with_reducible refine Kd.C_drew ?_)))
   (case side4 => exact (Kd.R_reads' HO878.out).2.1)
   rintro e w41 ⟨rfl, hb⟩
   refine ⟨_, rfl, ?_⟩
   have n0_ := Aside0.mk (Kd.R_below HO_4.out hb)
   have n1_ := Aside0.mk (Kd.R_below HO_7.out hb)
   have n2_ := Aside0.mk (Kd.R_below p0.out hb)
   have n3_ := Aside0.mk (Kd.R_below HO878.out hb)
   have n4_ := Aside0.mk (blk_below (g := p4) (o := .cells #[.int .i64 a0_0, .slice A0_1 l0_1.length c0_1] 38 (0, 0)) p1.out hb)
   have n5_ := Aside0.mk (blk_below (g := p5) (o := .cells #[.int .i64 t865, .slice Ao24 t866.length co24] 25 (0, 0)) p3.out hb)
   have n6_ := Aside0.mk (below_step HB.out hb)
   clear HO_4
   clear HO_7
   clear p0
   clear HO878
   clear p1
   clear p3
   clear HB
   have HO_4 := n0_
   have HO_7 := n1_
   have p0 := n2_
   have HO878 := n3_
   have p1 := n4_
   have p3 := n5_
   have HB := n6_
   clear n0_ n1_ n2_ n3_ n4_ n5_ n6_
   (try clear hb)
   (try clear hb2)
   (try clear hk)
   (try clear hi)
   refine hK.out _ _ ⟨(blk_cell p3.out 0).trans rfl, (blk_cell p3.out 1).trans rfl, (blk_cell p1.out 0).trans rfl, (blk_cell p1.out 1).trans rfl⟩ (fun hHeld => ?_)
   clear hK K
   refine norm_ (a' := ?_) ?_ ?_
   rotate_left
   ·show Act.put _ (some 44) _ = _
    simp only [Act.put, List.setIfInBounds_toArray, List.set_cons_zero, List.set_cons_succ, i64_w, i32_w]
    rfl
   refine pure_ (i := 4) (N := some 45) (v := ?_) (a' := ?_) #[true, true, true, true, true] rfl rfl (by kernel_rfl) (fun _ _ _ h => h) (Or.inl ⟨by rfl, ?_⟩) ?_ ?_
   rotate_left
   ·intro w'
    go_simp
    with_reducible rfl
   rotate_left
   ·simp only [Act.put, List.setIfInBounds_toArray, List.set_cons_zero, List.set_cons_succ, i64_w, i32_w]
    rfl
   refine done_ (by kernel_rfl) ?_
   have hnb42 := q1.out
   have hnc42 := p8.out
   have t3 : w41.cell? ⟨p5, 0, none⟩ = some (.int .i64 t865) := (blk_cell p3.out 0).trans rfl
   have t4 : w41.cell? ⟨p5, 1, none⟩ = some (.slice Ao24 t866.length co24) := (blk_cell p3.out 1).trans rfl
   have t5 := blk_frozen p3.out 0
   have t6 := blk_frozen p3.out 1
   go_upto_region 14 with (first | ((with_reducible refine gate_callee (f := 33) rfl ?_); refine goesL_ (some 48) rfl rfl Try.func33 (by kernel_rfl) rfl #[.agg #[.int .i64 t865, .slice Ao24 t866.length co24], .int .i64 1] rfl (by (try simp only [List.map_toArray, List.map_cons, List.map_nil]); first | done | rfl | (simp only [List.length_drop, List.length_take]; rfl)) ?_; (with_reducible refine (laws_markNet.calls kj10 t865 (fun k_ => some k_ = (.slice Ao24 t866.length co24 : Value).ownBlock) (.slice Ao24 t866.length co24) t866 1 t880 t881 w _ ?side1 ?side2 A36.out).mono ?_); (case side1 => exact HB.out); (case side2 => exact Kd.R_tight rfl p0.out); rintro e w44 ⟨rfl, hy0, hb, hkp⟩; refine ⟨_, rfl, ?_⟩; have n0_ := Aside0.mk (Kd.R_mono (ok' := fun k_ => some k_ ≠ (v871 : Value).ownBlock) (Kd.R_keptB ((Kd.R_apart' HO_4.out (Kd.R_typed p0.out) (by decide))) hkp (fun k_ hk_ hs_ => (hk_.2) hs_)) (fun k_ hk_ => hk_.1.1)); have n1_ := Aside0.mk (Kd.R_mono (ok' := fun k_ => some k_ ≠ (v862 : Value).ownBlock) (Kd.R_keptB ((Kd.R_apart' HO_7.out (Kd.R_typed p0.out) (by decide))) hkp (fun k_ hk_ hs_ => (hk_.2) hs_)) (fun k_ hk_ => hk_.1.1)); have n2_ := Aside0.mk (Kd.R_reok rfl hy0 (fun k_ e_ => p0.out.1 k_ e_)); have n3_ := Aside0.mk (blk_kept p1.out hkp (fun hs_ => (fun e_ => (Kd.R_ne p0.out p1.out (by decide)) e_) hs_)); have n4_ := Aside0.mk (blk_kept p3.out hkp (fun hs_ => (fun e_ => (Kd.R_ne p0.out p3.out (by decide)) e_) hs_)); have n5_ := Aside0.mk (Kd.R_mono (ok' := fun k_ => some k_ ≠ (.slice Ao24 t866.length co24 : Value).ownBlock) (Kd.R_keptB (HO878.out) hkp (fun k_ hk_ hs_ => (hk_.2) hs_)) (fun k_ hk_ => hk_.1.2)); have n6_ := Aside0.mk (hb); clear HO_4; clear HO_7; clear p0; clear p1; clear p3; clear HO878; clear HB; have HO_4 := n0_; have HO_7 := n1_; have p0 := n2_; have p1 := n3_; have p3 := n4_; have HO878 := n5_; have HB := n6_; clear n0_ n1_ n2_ n3_ n4_ n5_ n6_; (try clear hb); (try clear hkp); (try clear hy0)))
   (try simp only [Act.put, List.setIfInBounds_toArray, List.set_cons_zero, List.set_cons_succ])
   go_cut [61] (fun v61 wc => ∃ (kq : Nat) (s5 : Bool), v61 = .bool s5 ∧ Aside0 (laws_FnExactRingBest.j1 kq t861 t864 t870 s5 a0_0 l0_1 = some r) ∧ Aside0 (kq ≤ kj10) ∧ Aside0 (Kd.R (Kd.int .i64) 3 wc w.heap.size (fun k_ => some k_ ≠ (v871 : Value).ownBlock) v862 t861) ∧ Aside0 (Kd.R (Kd.int .i64) 3 wc w.heap.size (fun k_ => some k_ ≠ (v862 : Value).ownBlock) v871 t870) ∧ Aside0 (Kd.R k34 34 wc w.heap.size (fun _ => True) (.slice Ao24 t866.length co24) t881) ∧ Aside0 (wc.heap[p4]? = some (.cells #[.int .i64 a0_0, (.slice A0_1 l0_1.length c0_1)] 38 (0, 0))) ∧ Aside0 (wc.heap[p5]? = some (.cells #[.int .i64 t865, (.slice Ao24 t866.length co24)] 25 (0, 0))) ∧ Aside0 (Below w.heap.size w wc))
   case first =>
    have H := HC37.out
    clear HC37
    by_cases c45 : t880 < 0
    case pos =>
     rw [if_pos c45] at H
     have c45b0 : decide (t880 < 0) = true := decide_eq_true c45
     clear c45
     (first | rw [c45b0] | (simp only [i64_w, i32_w]; rw [c45b0]) | skip)
     have H' := Aside0.mk H
     clear H
     go_wp2
     go_meet
     case rel => exact ⟨_, (true), (by first | rfl | (simp; done) | (simp [*]; done)), H', ⟨by have := HJ10.out; first | omega | exact Nat.le_refl _⟩, ⟨by exact HO_4.out⟩, ⟨by exact HO_7.out⟩, ⟨by exact Kd.R_mono p0.out (fun _ hk => trivial)⟩, ⟨by exact p1.out⟩, ⟨by exact p3.out⟩, ⟨by repeat (first | (with_reducible first | exact HB.out | apply below_alloc | apply pw_below_drewN | apply below_drew1 | refine below_set ?_ p6.out | refine below_set ?_ p7.out) | exact HB.out)⟩⟩
    rw [if_neg c45] at H
    have c45b0 : decide (t880 < 0) = false := decide_eq_false c45
    clear c45
    (first | rw [c45b0] | (simp only [i64_w, i32_w]; rw [c45b0]) | skip)
    replace H := Option.bind_eq_some_iff.mp H
    obtain ⟨t882, A460, H⟩ := H
    replace H : (if t882 = true then (laws_FnExactRingBest.j1 kj10 t861 t864 t870 (t873 != t864) a0_0 l0_1) else (laws_FnExactRingBest.j1 kj10 t861 t864 t870 true a0_0 l0_1)) = some r := H
    have A46 := Aside0.mk A460
    clear A460
    by_cases c47 : t882 = true
    case pos =>
     subst c47
     have H1 : (laws_FnExactRingBest.j1 kj10 t861 t864 t870 (t873 != t864) a0_0 l0_1) = some r := by rw [if_pos rfl] at H; exact H
     clear H
     have H := H1
     clear H1
     have H' := Aside0.mk H
     clear H
     obtain ⟨Ao48, co48, eo48⟩ := Kd.R_slice HO_7.out
     subst eo48
     obtain ⟨Ao49, co49, eo49⟩ := Kd.R_slice HO_4.out
     subst eo49
     go_wp2_with (first | (go_at_call 32; (with_reducible refine (laws_eqIntS.calls kj10 _ _ t870 _ _ t861 true _ ?side1 ?side2 ?side3 ?side4 A46.out).mono ?_); (case side1 => repeat (first | exact (Kd.R_reads' HO_7.out).2.2 | (with_reducible refine Kd.C_alloc ?_ _) | (with_reducible refine Kd.C_drewN ?_ _) | (with_reducible refine Kd.C_drew ?_))); (case side2 => exact (Kd.R_reads' HO_7.out).2.1); (case side3 => repeat (first | exact (Kd.R_reads' HO_4.out).2.2 | (with_reducible refine Kd.C_alloc ?_ _) | (with_reducible refine Kd.C_drewN ?_ _) | (with_reducible refine Kd.C_drew ?_))); (case side4 => exact (Kd.R_reads' HO_4.out).2.1); rintro e w' ⟨rfl, ⟨nd, rfl⟩⟩))
     go_meet
     case rel => exact ⟨_, ((t873 != t864)), (by first | rfl | (simp; done) | (simp [*]; done)), H', ⟨by have := HJ10.out; first | omega | exact Nat.le_refl _⟩, ⟨by exact HO_4.out⟩, ⟨by exact HO_7.out⟩, ⟨by exact Kd.R_mono p0.out (fun _ hk => trivial)⟩, ⟨by exact p1.out⟩, ⟨by exact p3.out⟩, ⟨by repeat (first | (with_reducible first | exact HB.out | apply below_alloc | apply pw_below_drewN | apply below_drew1 | refine below_set ?_ p6.out | refine below_set ?_ p7.out) | exact HB.out)⟩⟩
    replace c47 := Bool.eq_false_iff.mpr c47
    subst c47
    have H1 : (laws_FnExactRingBest.j1 kj10 t861 t864 t870 true a0_0 l0_1) = some r := by rw [if_neg (show ¬ (false = true) by decide)] at H; exact H
    clear H
    have H := H1
    clear H1
    have H' := Aside0.mk H
    clear H
    obtain ⟨Ao50, co50, eo50⟩ := Kd.R_slice HO_7.out
    subst eo50
    obtain ⟨Ao51, co51, eo51⟩ := Kd.R_slice HO_4.out
    subst eo51
    go_wp2_with (first | (go_at_call 32; (with_reducible refine (laws_eqIntS.calls kj10 _ _ t870 _ _ t861 false _ ?side1 ?side2 ?side3 ?side4 A46.out).mono ?_); (case side1 => repeat (first | exact (Kd.R_reads' HO_7.out).2.2 | (with_reducible refine Kd.C_alloc ?_ _) | (with_reducible refine Kd.C_drewN ?_ _) | (with_reducible refine Kd.C_drew ?_))); (case side2 => exact (Kd.R_reads' HO_7.out).2.1); (case side3 => repeat (first | exact (Kd.R_reads' HO_4.out).2.2 | (with_reducible refine Kd.C_alloc ?_ _) | (with_reducible refine Kd.C_drewN ?_ _) | (with_reducible refine Kd.C_drew ?_))); (case side4 => exact (Kd.R_reads' HO_4.out).2.1); rintro e w' ⟨rfl, ⟨nd, rfl⟩⟩))
    go_meet
    case rel => exact ⟨_, (true), (by first | rfl | (simp; done) | (simp [*]; done)), H', ⟨by have := HJ10.out; first | omega | exact Nat.le_refl _⟩, ⟨by exact HO_4.out⟩, ⟨by exact HO_7.out⟩, ⟨by exact Kd.R_mono p0.out (fun _ hk => trivial)⟩, ⟨by exact p1.out⟩, ⟨by exact p3.out⟩, ⟨by repeat (first | (with_reducible first | exact HB.out | apply below_alloc | apply pw_below_drewN | apply below_drew1 | refine below_set ?_ p6.out | refine below_set ?_ p7.out) | exact HB.out)⟩⟩
   case rest =>
    clear HC37
    try clear c1
    try clear c2
    try clear p2
    try clear c3
    try clear c3b0
    try clear c4
    try clear c11
    try clear c19
    try clear c21
    try clear c22
    try clear c23
    try clear c27
    try clear c32
    try clear c33
    try clear c35
    try clear c37
    try clear c38
    try clear c42
    try clear c45
    try clear c45b0
    try clear c47
    try clear q4
    try clear q5
    try clear q8
    try clear q9
    try clear r2
    try clear r3
    try clear r6
    try clear r7
    try clear t3
    try clear t4
    try clear s7
    try clear s8
    try clear q6
    try clear q7
    try clear r0
    try clear r1
    try clear r4
    try clear r5
    try clear r8
    try clear r9
    try clear t5
    try clear t6
    try clear s9
    try clear t0
    try clear p2
    obtain ⟨kq, s5, rfl, HA, HJ36, HO_4, HO_7, p0, p1, p3, HB⟩ := hcut
    have hl870001_36 := (Kd.R_reads' p0.out).1
    rw [hl870001_36] at p0
    (try simp only [hl870001_36])
    (try simp only [hl870001_36] at p1)
    (try simp only [hl870001_36] at p3)
    (try simp only [hl870001_36] at HO_4)
    (try simp only [hl870001_36] at HO_7)
    cases kq with
    | zero => exact absurd HA.out (by simp [laws_FnExactRingBest.j1])
    | succ kj36 =>
     have H := HA.out
     clear HA
     simp only [laws_FnExactRingBest.j1] at H
     by_cases c52 : s5 = true
     case pos =>
      subst c52
      have H1 : (some false) = some r := by rw [if_pos rfl] at H; exact H
      clear H
      have H := H1
      clear H1
      obtain rfl := Option.some.inj H
      go_wp2
      go_ret
      exact ⟨by first | rfl | (simp [errW_none, errW_some] <;> rfl) | (simp [*, errW_none, errW_some] <;> rfl), by repeat (first | (with_reducible first | exact HB.out | apply below_alloc | apply pw_below_drewN | apply below_drew1 | refine below_set ?_ p6.out | refine below_set ?_ p7.out) | exact HB.out)⟩
     replace c52 := Bool.eq_false_iff.mpr c52
     subst c52
     have H1 : ((laws_markIntS.f kj36 t870 1).bind fun bt883 => ((laws_heldIntS.f kj36 bt883.2 1).bind fun t885 => (if t885 < 0 then (some false) else (if t885 = bt883.1 then ((laws_toNet.f kj36 a0_0 l0_1).bind fun bt886 => ((impl_RingBest.f kj36 bt886.1 bt886.2).bind fun bt890 => ((laws_eqIntS.f kj36 bt890.1 t861).bind fun t894 => (if t894 = true then (laws_FnExactRingBest.j2 kj36 bt883.2 bt883.1 (bt890.2 != t864)) else (laws_FnExactRingBest.j2 kj36 bt883.2 bt883.1 true))))) else (some false))))) = some r := by rw [if_neg (show ¬ (false = true) by decide)] at H; exact H
     clear H
     have H := H1
     clear H1
     replace H := Option.bind_eq_some_iff.mp H
     obtain ⟨⟨t883, t884⟩, A530, H⟩ := H
     replace H : ((laws_heldIntS.f kj36 t884 1).bind fun t885 => (if t885 < 0 then (some false) else (if t885 = t883 then ((laws_toNet.f kj36 a0_0 l0_1).bind fun bt886 => ((impl_RingBest.f kj36 bt886.1 bt886.2).bind fun bt890 => ((laws_eqIntS.f kj36 bt890.1 t861).bind fun t894 => (if t894 = true then (laws_FnExactRingBest.j2 kj36 t884 t883 (bt890.2 != t864)) else (laws_FnExactRingBest.j2 kj36 t884 t883 true))))) else (some false)))) = some r := H
     have A53 := Aside0.mk A530
     clear A530
     replace H := Option.bind_eq_some_iff.mp H
     obtain ⟨t885, A540, H⟩ := H
     replace H : (if t885 < 0 then (some false) else (if t885 = t883 then ((laws_toNet.f kj36 a0_0 l0_1).bind fun bt886 => ((impl_RingBest.f kj36 bt886.1 bt886.2).bind fun bt890 => ((laws_eqIntS.f kj36 bt890.1 t861).bind fun t894 => (if t894 = true then (laws_FnExactRingBest.j2 kj36 t884 t883 (bt890.2 != t864)) else (laws_FnExactRingBest.j2 kj36 t884 t883 true))))) else (some false))) = some r := H
     have A54 := Aside0.mk A540
     clear A540
     by_cases c55 : t885 < 0
     case pos =>
      rw [if_pos c55] at H
      have c55b0 : decide (t885 < 0) = true := decide_eq_true c55
      clear c55
      obtain rfl := Option.some.inj H
      obtain ⟨Ao56, co56, eo56⟩ := Kd.R_slice HO_7.out
      subst eo56
      go_wp2_with (first | ((with_reducible refine gate_callee (f := 34) rfl ?_); refine goesL_ (some 64) rfl rfl Try.func34 (by kernel_rfl) rfl #[.slice Ao56 t870.length co56, .int .i64 1] rfl (by (try simp only [List.map_toArray, List.map_cons, List.map_nil]); first | done | rfl | (simp only [List.length_drop, List.length_take]; rfl)) ?_; (with_reducible refine (laws_markIntS.calls kj36 (fun k_ => some k_ = (.slice Ao56 t870.length co56 : Value).ownBlock) (.slice Ao56 t870.length co56) t870 1 t883 t884 w _ ?side1 ?side2 A53.out).mono ?_); (case side1 => exact HB.out); (case side2 => exact Kd.R_tight rfl HO_7.out); rintro e w57 ⟨rfl, hy0, hb, hkp⟩; refine ⟨_, rfl, ?_⟩; have n0_ := Aside0.mk (Kd.R_mono (ok' := fun k_ => some k_ ≠ (.slice Ao56 t870.length co56 : Value).ownBlock) (Kd.R_keptB (HO_4.out) hkp (fun k_ hk_ hs_ => (hk_) hs_)) (fun k_ hk_ => hk_.1)); have n1_ := Aside0.mk (Kd.R_reok rfl hy0 (fun k_ e_ => HO_7.out.1 k_ e_)); have n2_ := Aside0.mk (Kd.R_mono (ok' := fun k_ => True) (Kd.R_keptB ((Kd.R_apart' p0.out (Kd.R_typed HO_7.out) (by decide))) hkp (fun k_ hk_ hs_ => (hk_.2) hs_)) (fun k_ hk_ => trivial)); have n3_ := Aside0.mk (blk_kept p1.out hkp (fun hs_ => (fun e_ => (Kd.R_ne HO_7.out p1.out (by decide)) e_) hs_)); have n4_ := Aside0.mk (blk_kept p3.out hkp (fun hs_ => (fun e_ => (Kd.R_ne HO_7.out p3.out (by decide)) e_) hs_)); have n5_ := Aside0.mk (hb); clear HO_4; clear HO_7; clear p0; clear p1; clear p3; clear HB; have HO_4 := n0_; have HO_7 := n1_; have p0 := n2_; have p1 := n3_; have p3 := n4_; have HB := n5_; clear n0_ n1_ n2_ n3_ n4_ n5_; (try clear hb); (try clear hkp); (try clear hy0)) | ((with_reducible refine gate_callee (f := 35) rfl ?_); refine goesL_ (some 67) rfl rfl Try.func35 (by kernel_rfl) rfl #[.slice Ao56 t884.length co56, .int .i64 1] rfl (by (try simp only [List.map_toArray, List.map_cons, List.map_nil]); first | done | (rw [show t884.length = t870.length from (Kd.R_reads' HO_7.out).1.symm] <;> rfl) | rfl | (simp only [List.length_drop, List.length_take]; rfl)) ?_; (with_reducible refine (laws_heldIntS.calls kj36 _ _ t884 1 t885 _ ?side1 ?side2 A54.out).mono ?_); (case side1 => repeat (first | exact (Kd.R_reads' HO_7.out).2.2 | (with_reducible refine Kd.C_alloc ?_ _) | (with_reducible refine Kd.C_drewN ?_ _) | (with_reducible refine Kd.C_drew ?_))); (case side2 => rw [show t884.length = t870.length from (Kd.R_reads' HO_7.out).1.symm]; exact (Kd.R_reads' HO_7.out).2.1); rintro e w' ⟨rfl, ⟨nd, rfl⟩⟩; refine ⟨_, rfl, ?_⟩))
      go_ret
      exact ⟨by first | rfl | (simp [errW_none, errW_some] <;> rfl) | (simp [*, errW_none, errW_some] <;> rfl), by repeat (first | (with_reducible first | exact HB.out | apply below_alloc | apply pw_below_drewN | apply below_drew1 | refine below_set ?_ p6.out | refine below_set ?_ p7.out) | exact HB.out)⟩
     rw [if_neg c55] at H
     have c55b0 : decide (t885 < 0) = false := decide_eq_false c55
     clear c55
     by_cases c58 : t885 = t883
     case neg =>
      rw [if_neg c58] at H
      have c58b0 : (t885 == t883) = false := beq_eq_false_iff_ne.mpr c58
      have c58b1 : (t885 != t883) = true := bne_iff_ne.mpr c58
      obtain rfl := Option.some.inj H
      obtain ⟨Ao79, co79, eo79⟩ := Kd.R_slice HO_7.out
      subst eo79
      go_wp2_with (first | ((with_reducible refine gate_callee (f := 34) rfl ?_); refine goesL_ (some 64) rfl rfl Try.func34 (by kernel_rfl) rfl #[.slice Ao79 t870.length co79, .int .i64 1] rfl (by (try simp only [List.map_toArray, List.map_cons, List.map_nil]); first | done | rfl | (simp only [List.length_drop, List.length_take]; rfl)) ?_; (with_reducible refine (laws_markIntS.calls kj36 (fun k_ => some k_ = (.slice Ao79 t870.length co79 : Value).ownBlock) (.slice Ao79 t870.length co79) t870 1 t883 t884 w _ ?side1 ?side2 A53.out).mono ?_); (case side1 => exact HB.out); (case side2 => exact Kd.R_tight rfl HO_7.out); rintro e w80 ⟨rfl, hy0, hb, hkp⟩; refine ⟨_, rfl, ?_⟩; have n0_ := Aside0.mk (Kd.R_mono (ok' := fun k_ => some k_ ≠ (.slice Ao79 t870.length co79 : Value).ownBlock) (Kd.R_keptB (HO_4.out) hkp (fun k_ hk_ hs_ => (hk_) hs_)) (fun k_ hk_ => hk_.1)); have n1_ := Aside0.mk (Kd.R_reok rfl hy0 (fun k_ e_ => HO_7.out.1 k_ e_)); have n2_ := Aside0.mk (Kd.R_mono (ok' := fun k_ => True) (Kd.R_keptB ((Kd.R_apart' p0.out (Kd.R_typed HO_7.out) (by decide))) hkp (fun k_ hk_ hs_ => (hk_.2) hs_)) (fun k_ hk_ => trivial)); have n3_ := Aside0.mk (blk_kept p1.out hkp (fun hs_ => (fun e_ => (Kd.R_ne HO_7.out p1.out (by decide)) e_) hs_)); have n4_ := Aside0.mk (blk_kept p3.out hkp (fun hs_ => (fun e_ => (Kd.R_ne HO_7.out p3.out (by decide)) e_) hs_)); have n5_ := Aside0.mk (hb); clear HO_4; clear HO_7; clear p0; clear p1; clear p3; clear HB; have HO_4 := n0_; have HO_7 := n1_; have p0 := n2_; have p1 := n3_; have p3 := n4_; have HB := n5_; clear n0_ n1_ n2_ n3_ n4_ n5_; (try clear hb); (try clear hkp); (try clear hy0)) | ((with_reducible refine gate_callee (f := 35) rfl ?_); refine goesL_ (some 67) rfl rfl Try.func35 (by kernel_rfl) rfl #[.slice Ao79 t884.length co79, .int .i64 1] rfl (by (try simp only [List.map_toArray, List.map_cons, List.map_nil]); first | done | (rw [show t884.length = t870.length from (Kd.R_reads' HO_7.out).1.symm] <;> rfl) | rfl | (simp only [List.length_drop, List.length_take]; rfl)) ?_; (with_reducible refine (laws_heldIntS.calls kj36 _ _ t884 1 t885 _ ?side1 ?side2 A54.out).mono ?_); (case side1 => repeat (first | exact (Kd.R_reads' HO_7.out).2.2 | (with_reducible refine Kd.C_alloc ?_ _) | (with_reducible refine Kd.C_drewN ?_ _) | (with_reducible refine Kd.C_drew ?_))); (case side2 => rw [show t884.length = t870.length from (Kd.R_reads' HO_7.out).1.symm]; exact (Kd.R_reads' HO_7.out).2.1); rintro e w' ⟨rfl, ⟨nd, rfl⟩⟩; refine ⟨_, rfl, ?_⟩))
      go_ret
      exact ⟨by first | rfl | (simp [errW_none, errW_some] <;> rfl) | (simp [*, errW_none, errW_some] <;> rfl), by repeat (first | (with_reducible first | exact HB.out | apply below_alloc | apply pw_below_drewN | apply below_drew1 | refine below_set ?_ p6.out | refine below_set ?_ p7.out) | exact HB.out)⟩
     rw [if_pos c58] at H
     have c58b0 : (t885 == t883) = true := beq_iff_eq.mpr c58
     have c58b1 : (t885 != t883) = false := bne_eq_false_iff_eq.mpr c58
     clear c58
     replace H := Option.bind_eq_some_iff.mp H
     obtain ⟨⟨t886, t887⟩, A590, H⟩ := H
     replace H : ((impl_RingBest.f kj36 t886 t887).bind fun bt890 => ((laws_eqIntS.f kj36 bt890.1 t861).bind fun t894 => (if t894 = true then (laws_FnExactRingBest.j2 kj36 t884 t883 (bt890.2 != t864)) else (laws_FnExactRingBest.j2 kj36 t884 t883 true)))) = some r := H
     have A59 := Aside0.mk A590
     clear A590
     replace H := Option.bind_eq_some_iff.mp H
     obtain ⟨⟨t890, t893⟩, A600, H⟩ := H
     replace H : ((laws_eqIntS.f kj36 t890 t861).bind fun t894 => (if t894 = true then (laws_FnExactRingBest.j2 kj36 t884 t883 (t893 != t864)) else (laws_FnExactRingBest.j2 kj36 t884 t883 true))) = some r := H
     have A60 := Aside0.mk A600
     clear A600
     have HC61 := Aside0.mk H
     clear H
     obtain ⟨Ao62, co62, eo62⟩ := Kd.R_slice HO_7.out
     subst eo62
     go_upto_region 25 with (first | ((with_reducible refine gate_callee (f := 34) rfl ?_); refine goesL_ (some 64) rfl rfl Try.func34 (by kernel_rfl) rfl #[.slice Ao62 t870.length co62, .int .i64 1] rfl (by (try simp only [List.map_toArray, List.map_cons, List.map_nil]); first | done | rfl | (simp only [List.length_drop, List.length_take]; rfl)) ?_; (with_reducible refine (laws_markIntS.calls kj36 (fun k_ => some k_ = (.slice Ao62 t870.length co62 : Value).ownBlock) (.slice Ao62 t870.length co62) t870 1 t883 t884 w _ ?side1 ?side2 A53.out).mono ?_); (case side1 => exact HB.out); (case side2 => exact Kd.R_tight rfl HO_7.out); rintro e w63 ⟨rfl, hy0, hb, hkp⟩; refine ⟨_, rfl, ?_⟩; have n0_ := Aside0.mk (Kd.R_mono (ok' := fun k_ => some k_ ≠ (.slice Ao62 t870.length co62 : Value).ownBlock) (Kd.R_keptB (HO_4.out) hkp (fun k_ hk_ hs_ => (hk_) hs_)) (fun k_ hk_ => hk_.1)); have n1_ := Aside0.mk (Kd.R_reok rfl hy0 (fun k_ e_ => HO_7.out.1 k_ e_)); have n2_ := Aside0.mk (Kd.R_mono (ok' := fun k_ => True) (Kd.R_keptB ((Kd.R_apart' p0.out (Kd.R_typed HO_7.out) (by decide))) hkp (fun k_ hk_ hs_ => (hk_.2) hs_)) (fun k_ hk_ => trivial)); have n3_ := Aside0.mk (blk_kept p1.out hkp (fun hs_ => (fun e_ => (Kd.R_ne HO_7.out p1.out (by decide)) e_) hs_)); have n4_ := Aside0.mk (blk_kept p3.out hkp (fun hs_ => (fun e_ => (Kd.R_ne HO_7.out p3.out (by decide)) e_) hs_)); have n5_ := Aside0.mk (hb); clear HO_4; clear HO_7; clear p0; clear p1; clear p3; clear HB; have HO_4 := n0_; have HO_7 := n1_; have p0 := n2_; have p1 := n3_; have p3 := n4_; have HB := n5_; clear n0_ n1_ n2_ n3_ n4_ n5_; (try clear hb); (try clear hkp); (try clear hy0)) | ((with_reducible refine gate_callee (f := 35) rfl ?_); refine goesL_ (some 67) rfl rfl Try.func35 (by kernel_rfl) rfl #[.slice Ao62 t884.length co62, .int .i64 1] rfl (by (try simp only [List.map_toArray, List.map_cons, List.map_nil]); first | done | (rw [show t884.length = t870.length from (Kd.R_reads' HO_7.out).1.symm] <;> rfl) | rfl | (simp only [List.length_drop, List.length_take]; rfl)) ?_; (with_reducible refine (laws_heldIntS.calls kj36 _ _ t884 1 t885 _ ?side1 ?side2 A54.out).mono ?_); (case side1 => repeat (first | exact (Kd.R_reads' HO_7.out).2.2 | (with_reducible refine Kd.C_alloc ?_ _) | (with_reducible refine Kd.C_drewN ?_ _) | (with_reducible refine Kd.C_drew ?_))); (case side2 => rw [show t884.length = t870.length from (Kd.R_reads' HO_7.out).1.symm]; exact (Kd.R_reads' HO_7.out).2.1); rintro e w' ⟨rfl, ⟨nd, rfl⟩⟩; refine ⟨_, rfl, ?_⟩; have hnb64 := p8.out; have hnc64 := q1.out; have t7 : w63.cell? ⟨p4, 0, none⟩ = some (.int .i64 a0_0) := (blk_cell p1.out 0).trans rfl; have t8 : w63.cell? ⟨p4, 1, none⟩ = some (.slice A0_1 l0_1.length c0_1) := (blk_cell p1.out 1).trans rfl; have t9 := blk_frozen p1.out 0; have u0 := blk_frozen p1.out 1) | ((with_reducible refine gate_callee (f := 21) rfl ?_); refine goesL_ (some 75) rfl rfl Try.func21 (by kernel_rfl) rfl #[.agg #[.int .i64 a0_0, .slice A0_1 l0_1.length c0_1]] rfl (by (try simp only [List.map_toArray, List.map_cons, List.map_nil]); first | done | rfl | (simp only [List.length_drop, List.length_take]; rfl)) ?_; (with_reducible refine (laws_toNet.calls kj36 a0_0 _ _ l0_1 t886 t887 _ ?side1 ?side2 A59.out).mono ?_); (case side1 => repeat (first | exact (Kd.C_below q2.out (by repeat (first | (with_reducible first | exact HB.out | apply below_alloc | apply pw_below_drewN | apply below_drew1 | refine below_set ?_ p6.out | refine below_set ?_ p7.out) | exact HB.out))) | (with_reducible refine Kd.C_alloc ?_ _) | (with_reducible refine Kd.C_drewN ?_ _) | (with_reducible refine Kd.C_drew ?_))); (case side2 => exact q3.out); rintro e w66 ⟨v888, rfl, ho0, hb⟩; refine ⟨_, rfl, ?_⟩; have n0_ := Aside0.mk (Kd.R_below (by exact HO_4.out) hb); have n1_ := Aside0.mk (Kd.R_below (by exact HO_7.out) hb); have n2_ := Aside0.mk (Kd.R_elder' (by exact p0.out) (Kd.R_base ho0) hb); have n3_ := Aside0.mk (Kd.R_lower (Kd.R_new' ho0 (Kd.R_lt (by exact p0.out))) (below_size (by repeat (first | (with_reducible first | exact HB.out | apply below_alloc | apply pw_below_drewN | apply below_drew1 | refine below_set ?_ p6.out | refine below_set ?_ p7.out) | exact HB.out)))); have n4_ := Aside0.mk (blk_below (g := p4) (o := .cells #[.int .i64 a0_0, .slice A0_1 l0_1.length c0_1] 38 (0, 0)) (by exact p1.out) hb); have n5_ := Aside0.mk (blk_below (g := p5) (o := .cells #[.int .i64 t865, .slice Ao24 t881.length co24] 25 (0, 0)) (by exact p3.out) hb); have n6_ := Aside0.mk (below_step (by repeat (first | (with_reducible first | exact HB.out | apply below_alloc | apply pw_below_drewN | apply below_drew1 | refine below_set ?_ p6.out | refine below_set ?_ p7.out) | exact HB.out)) hb); clear HO_4; clear HO_7; clear p0; clear p1; clear p3; clear HB; have HO_4 := n0_; have HO_7 := n1_; have p0 := n2_; have HO889 := n3_; have p1 := n4_; have p3 := n5_; have HB := n6_; clear n0_ n1_ n2_ n3_ n4_ n5_ n6_; (try clear hb); (try clear hb2); (try clear hk); (try clear hi); (try clear ho0); obtain ⟨Ao67, co67, eo67⟩ := Kd.R_slice HO889.out; subst eo67) | ((with_reducible refine gate_callee (f := 37) rfl ?_); refine goesL_ (some 76) rfl rfl Try.func37 (by kernel_rfl) rfl #[.agg #[.int .i64 t886, .slice Ao67 t887.length co67]] rfl (by (try simp only [List.map_toArray, List.map_cons, List.map_nil]); first | done | rfl | (simp only [List.length_drop, List.length_take]; rfl)) ?_; (with_reducible refine (impl_RingBest.calls kj36 t886 _ _ t887 t890 t893 _ ?side1 ?side2 A60.out).mono ?_); (case side1 => repeat (first | exact (Kd.R_reads' HO889.out).2.2 | (with_reducible refine Kd.C_alloc ?_ _) | (with_reducible refine Kd.C_drewN ?_ _) | (with_reducible refine Kd.C_drew ?_))); (case side2 => exact (Kd.R_reads' HO889.out).2.1); rintro e w68 ⟨v891, rfl, ho0, hb⟩; refine ⟨_, rfl, ?_⟩; have n0_ := Aside0.mk (Kd.R_elder' HO_4.out (Kd.R_base ho0) hb); have n1_ := Aside0.mk (Kd.R_elder' HO_7.out (Kd.R_base ho0) hb); have n2_ := Aside0.mk (Kd.R_below p0.out hb); have n3_ := Aside0.mk (Kd.R_below HO889.out hb); have n4_ := Aside0.mk (Kd.R_lower (Kd.R_new' (Kd.R_new' ho0 (Kd.R_lt HO_4.out)) (Kd.R_lt HO_7.out)) (below_size HB.out)); have n5_ := Aside0.mk (blk_below (g := p4) (o := .cells #[.int .i64 a0_0, .slice A0_1 l0_1.length c0_1] 38 (0, 0)) p1.out hb); have n6_ := Aside0.mk (blk_below (g := p5) (o := .cells #[.int .i64 t865, .slice Ao24 t881.length co24] 25 (0, 0)) p3.out hb); have n7_ := Aside0.mk (below_step HB.out hb); clear HO_4; clear HO_7; clear p0; clear HO889; clear p1; clear p3; clear HB; have HO_4 := n0_; have HO_7 := n1_; have p0 := n2_; have HO889 := n3_; have HO892 := n4_; have p1 := n5_; have p3 := n6_; have HB := n7_; clear n0_ n1_ n2_ n3_ n4_ n5_ n6_ n7_; (try clear hb); (try clear hb2); (try clear hk); (try clear hi); (try clear ho0)))
     (try simp only [Act.put, List.setIfInBounds_toArray, List.set_cons_zero, List.set_cons_succ])
     go_cut [87] (fun v87 wc => ∃ (kq : Nat) (s6 : Bool), v87 = .bool s6 ∧ Aside0 (laws_FnExactRingBest.j2 kq t884 t883 s6 = some r) ∧ Aside0 (kq ≤ kj36) ∧ Aside0 (Kd.R (Kd.int .i64) 3 wc w.heap.size (fun _ => True) (.slice Ao62 t870.length co62) t884) ∧ Aside0 (Kd.R k34 34 wc w.heap.size (fun _ => True) (.slice Ao24 t881.length co24) t881) ∧ Aside0 (wc.heap[p4]? = some (.cells #[.int .i64 a0_0, (.slice A0_1 l0_1.length c0_1)] 38 (0, 0))) ∧ Aside0 (wc.heap[p5]? = some (.cells #[.int .i64 t865, (.slice Ao24 t881.length co24)] 25 (0, 0))) ∧ Aside0 (Below w.heap.size w wc))
     case first =>
      have H := HC61.out
      clear HC61
      replace H := Option.bind_eq_some_iff.mp H
      obtain ⟨t894, A690, H⟩ := H
      replace H : (if t894 = true then (laws_FnExactRingBest.j2 kj36 t884 t883 (t893 != t864)) else (laws_FnExactRingBest.j2 kj36 t884 t883 true)) = some r := H
      have A69 := Aside0.mk A690
      clear A690
      by_cases c70 : t894 = true
      case pos =>
       subst c70
       have H1 : (laws_FnExactRingBest.j2 kj36 t884 t883 (t893 != t864)) = some r := by rw [if_pos rfl] at H; exact H
       clear H
       have H := H1
       clear H1
       have H' := Aside0.mk H
       clear H
       obtain ⟨Ao71, co71, eo71⟩ := Kd.R_slice HO892.out
       subst eo71
       obtain ⟨Ao72, co72, eo72⟩ := Kd.R_slice HO_4.out
       subst eo72
       go_wp2_with (first | ((with_reducible refine gate_callee (f := 32) rfl ?_); refine goesL_ (some 81) rfl rfl Try.func32 (by kernel_rfl) rfl #[.slice Ao71 t890.length co71, .slice Ao72 t861.length co72] rfl (by (try simp only [List.map_toArray, List.map_cons, List.map_nil]); first | done | rfl | (simp only [List.length_drop, List.length_take]; rfl)) ?_; (with_reducible refine (laws_eqIntS.calls kj36 _ _ t890 _ _ t861 true _ ?side1 ?side2 ?side3 ?side4 A69.out).mono ?_); (case side1 => repeat (first | exact (Kd.R_reads' HO892.out).2.2 | (with_reducible refine Kd.C_alloc ?_ _) | (with_reducible refine Kd.C_drewN ?_ _) | (with_reducible refine Kd.C_drew ?_))); (case side2 => exact (Kd.R_reads' HO892.out).2.1); (case side3 => repeat (first | exact (Kd.R_reads' HO_4.out).2.2 | (with_reducible refine Kd.C_alloc ?_ _) | (with_reducible refine Kd.C_drewN ?_ _) | (with_reducible refine Kd.C_drew ?_))); (case side4 => exact (Kd.R_reads' HO_4.out).2.1); rintro e w' ⟨rfl, ⟨nd, rfl⟩⟩; refine ⟨_, rfl, ?_⟩))
       go_meet
       case rel => exact ⟨_, ((t893 != t864)), (by first | rfl | (simp; done) | (simp [*]; done)), H', ⟨by have := HJ10.out; have := HJ36.out; first | omega | exact Nat.le_refl _⟩, ⟨by (try simp only [hl870001_36]); exact Kd.R_mono HO_7.out (fun _ hk => trivial)⟩, ⟨by (try simp only [hl870001_36]); exact Kd.R_mono p0.out (fun _ hk => trivial)⟩, ⟨by (try simp only [hl870001_36]); exact p1.out⟩, ⟨by (try simp only [hl870001_36]); exact p3.out⟩, ⟨by repeat (first | (with_reducible first | exact HB.out | apply below_alloc | apply pw_below_drewN | apply below_drew1 | refine below_set ?_ p6.out | refine below_set ?_ p7.out) | exact HB.out)⟩⟩
      replace c70 := Bool.eq_false_iff.mpr c70
      subst c70
      have H1 : (laws_FnExactRingBest.j2 kj36 t884 t883 true) = some r := by rw [if_neg (show ¬ (false = true) by decide)] at H; exact H
      clear H
      have H := H1
      clear H1
      have H' := Aside0.mk H
      clear H
      obtain ⟨Ao73, co73, eo73⟩ := Kd.R_slice HO892.out
      subst eo73
      obtain ⟨Ao74, co74, eo74⟩ := Kd.R_slice HO_4.out
      subst eo74
      go_wp2_with (first | ((with_reducible refine gate_callee (f := 32) rfl ?_); refine goesL_ (some 81) rfl rfl Try.func32 (by kernel_rfl) rfl #[.slice Ao73 t890.length co73, .slice Ao74 t861.length co74] rfl (by (try simp only [List.map_toArray, List.map_cons, List.map_nil]); first | done | rfl | (simp only [List.length_drop, List.length_take]; rfl)) ?_; (with_reducible refine (laws_eqIntS.calls kj36 _ _ t890 _ _ t861 false _ ?side1 ?side2 ?side3 ?side4 A69.out).mono ?_); (case side1 => repeat (first | exact (Kd.R_reads' HO892.out).2.2 | (with_reducible refine Kd.C_alloc ?_ _) | (with_reducible refine Kd.C_drewN ?_ _) | (with_reducible refine Kd.C_drew ?_))); (case side2 => exact (Kd.R_reads' HO892.out).2.1); (case side3 => repeat (first | exact (Kd.R_reads' HO_4.out).2.2 | (with_reducible refine Kd.C_alloc ?_ _) | (with_reducible refine Kd.C_drewN ?_ _) | (with_reducible refine Kd.C_drew ?_))); (case side4 => exact (Kd.R_reads' HO_4.out).2.1); rintro e w' ⟨rfl, ⟨nd, rfl⟩⟩; refine ⟨_, rfl, ?_⟩))
      go_meet
      case rel => exact ⟨_, (true), (by first | rfl | (simp; done) | (simp [*]; done)), H', ⟨by have := HJ10.out; have := HJ36.out; first | omega | exact Nat.le_refl _⟩, ⟨by (try simp only [hl870001_36]); exact Kd.R_mono HO_7.out (fun _ hk => trivial)⟩, ⟨by (try simp only [hl870001_36]); exact Kd.R_mono p0.out (fun _ hk => trivial)⟩, ⟨by (try simp only [hl870001_36]); exact p1.out⟩, ⟨by (try simp only [hl870001_36]); exact p3.out⟩, ⟨by repeat (first | (with_reducible first | exact HB.out | apply below_alloc | apply pw_below_drewN | apply below_drew1 | refine below_set ?_ p6.out | refine below_set ?_ p7.out) | exact HB.out)⟩⟩
     case rest =>
      clear HC61
      try clear c1
      try clear c2
      try clear p2
      try clear c3
      try clear c3b0
      try clear c4
      try clear c5
      try clear c6
      try clear c7
      try clear c11
      try clear c19
      try clear c21
      try clear c22
      try clear c23
      try clear c27
      try clear c32
      try clear c33
      try clear c34
      try clear c35
      try clear c37
      try clear c38
      try clear c42
      try clear c45
      try clear c45b0
      try clear c47
      try clear c52
      try clear c55
      try clear c55b0
      try clear c58
      try clear c58b0
      try clear c58b1
      try clear c64
      try clear c70
      try clear q4
      try clear q5
      try clear q8
      try clear q9
      try clear r2
      try clear r3
      try clear r6
      try clear r7
      try clear t3
      try clear t4
      try clear s7
      try clear s8
      try clear t7
      try clear t8
      try clear q6
      try clear q7
      try clear r0
      try clear r1
      try clear r4
      try clear r5
      try clear r8
      try clear r9
      try clear t5
      try clear t6
      try clear s9
      try clear t0
      try clear t9
      try clear u0
      try clear p2
      obtain ⟨kq, s6, rfl, HA, HJ60, HO_7, p0, p1, p3, HB⟩ := hcut
      have hl7_60 := (Kd.R_reads' HO_7.out).1
      rw [hl7_60] at HO_7
      (try simp only [hl7_60])
      (try simp only [hl7_60] at p1)
      (try simp only [hl7_60] at p3)
      (try simp only [hl7_60] at p0)
      cases kq with
      | zero => exact absurd HA.out (by simp [laws_FnExactRingBest.j2])
      | succ kj60 =>
       have H := HA.out
       clear HA
       simp only [laws_FnExactRingBest.j2] at H
       by_cases c75 : s6 = true
       case pos =>
        subst c75
        have H1 : (some false) = some r := by rw [if_pos rfl] at H; exact H
        clear H
        have H := H1
        clear H1
        obtain rfl := Option.some.inj H
        go_wp2
        go_ret
        exact ⟨by first | rfl | (simp [errW_none, errW_some] <;> rfl) | (simp [*, errW_none, errW_some] <;> rfl), by repeat (first | (with_reducible first | exact HB.out | apply below_alloc | apply pw_below_drewN | apply below_drew1 | refine below_set ?_ p6.out | refine below_set ?_ p7.out) | exact HB.out)⟩
       replace c75 := Bool.eq_false_iff.mpr c75
       subst c75
       have H1 : ((laws_heldIntS.f kj60 t884 1).bind fun t895 => (if t895 < 0 then (some false) else (if t895 = t883 then (some true) else (some false)))) = some r := by rw [if_neg (show ¬ (false = true) by decide)] at H; exact H
       clear H
       have H := H1
       clear H1
       replace H := Option.bind_eq_some_iff.mp H
       obtain ⟨t895, A760, H⟩ := H
       replace H : (if t895 < 0 then (some false) else (if t895 = t883 then (some true) else (some false))) = some r := H
       have A76 := Aside0.mk A760
       clear A760
       by_cases c77 : t895 < 0
       case pos =>
        rw [if_pos c77] at H
        have c77b0 : decide (t895 < 0) = true := decide_eq_true c77
        clear c77
        obtain rfl := Option.some.inj H
        go_wp2_with (first | ((with_reducible refine gate_callee (f := 35) rfl ?_); refine goesL_ (some 90) rfl rfl Try.func35 (by kernel_rfl) rfl #[.slice Ao62 t884.length co62, .int .i64 1] rfl (by (try simp only [List.map_toArray, List.map_cons, List.map_nil]); first | done | rfl | (simp only [List.length_drop, List.length_take]; rfl)) ?_; (with_reducible refine (laws_heldIntS.calls kj60 _ _ t884 1 t895 _ ?side1 ?side2 A76.out).mono ?_); (case side1 => repeat (first | exact (Kd.R_reads' HO_7.out).2.2 | (with_reducible refine Kd.C_alloc ?_ _) | (with_reducible refine Kd.C_drewN ?_ _) | (with_reducible refine Kd.C_drew ?_))); (case side2 => exact (Kd.R_reads' HO_7.out).2.1); rintro e w' ⟨rfl, ⟨nd, rfl⟩⟩; refine ⟨_, rfl, ?_⟩))
        go_ret
        exact ⟨by first | rfl | (simp [errW_none, errW_some] <;> rfl) | (simp [*, errW_none, errW_some] <;> rfl), by repeat (first | (with_reducible first | exact HB.out | apply below_alloc | apply pw_below_drewN | apply below_drew1 | refine below_set ?_ p6.out | refine below_set ?_ p7.out) | exact HB.out)⟩
       rw [if_neg c77] at H
       have c77b0 : decide (t895 < 0) = false := decide_eq_false c77
       clear c77
       by_cases c78 : t895 = t883
       case neg =>
        rw [if_neg c78] at H
        have c78b0 : (t895 == t883) = false := beq_eq_false_iff_ne.mpr c78
        have c78b1 : (t895 != t883) = true := bne_iff_ne.mpr c78
        obtain rfl := Option.some.inj H
        go_wp2_with (first | ((with_reducible refine gate_callee (f := 35) rfl ?_); refine goesL_ (some 90) rfl rfl Try.func35 (by kernel_rfl) rfl #[.slice Ao62 t884.length co62, .int .i64 1] rfl (by (try simp only [List.map_toArray, List.map_cons, List.map_nil]); first | done | rfl | (simp only [List.length_drop, List.length_take]; rfl)) ?_; (with_reducible refine (laws_heldIntS.calls kj60 _ _ t884 1 t895 _ ?side1 ?side2 A76.out).mono ?_); (case side1 => repeat (first | exact (Kd.R_reads' HO_7.out).2.2 | (with_reducible refine Kd.C_alloc ?_ _) | (with_reducible refine Kd.C_drewN ?_ _) | (with_reducible refine Kd.C_drew ?_))); (case side2 => exact (Kd.R_reads' HO_7.out).2.1); rintro e w' ⟨rfl, ⟨nd, rfl⟩⟩; refine ⟨_, rfl, ?_⟩))
        go_ret
        exact ⟨by first | rfl | (simp [errW_none, errW_some] <;> rfl) | (simp [*, errW_none, errW_some] <;> rfl), by repeat (first | (with_reducible first | exact HB.out | apply below_alloc | apply pw_below_drewN | apply below_drew1 | refine below_set ?_ p6.out | refine below_set ?_ p7.out) | exact HB.out)⟩
       rw [if_pos c78] at H
       have c78b0 : (t895 == t883) = true := beq_iff_eq.mpr c78
       have c78b1 : (t895 != t883) = false := bne_eq_false_iff_eq.mpr c78
       clear c78
       obtain rfl := Option.some.inj H
       go_wp2_with (first | ((with_reducible refine gate_callee (f := 35) rfl ?_); refine goesL_ (some 90) rfl rfl Try.func35 (by kernel_rfl) rfl #[.slice Ao62 t884.length co62, .int .i64 1] rfl (by (try simp only [List.map_toArray, List.map_cons, List.map_nil]); first | done | rfl | (simp only [List.length_drop, List.length_take]; rfl)) ?_; (with_reducible refine (laws_heldIntS.calls kj60 _ _ t884 1 t895 _ ?side1 ?side2 A76.out).mono ?_); (case side1 => repeat (first | exact (Kd.R_reads' HO_7.out).2.2 | (with_reducible refine Kd.C_alloc ?_ _) | (with_reducible refine Kd.C_drewN ?_ _) | (with_reducible refine Kd.C_drew ?_))); (case side2 => exact (Kd.R_reads' HO_7.out).2.1); rintro e w' ⟨rfl, ⟨nd, rfl⟩⟩; refine ⟨_, rfl, ?_⟩))
       go_ret
       exact ⟨by first | rfl | (simp [errW_none, errW_some] <;> rfl) | (simp [*, errW_none, errW_some] <;> rfl), by repeat (first | (with_reducible first | exact HB.out | apply below_alloc | apply pw_below_drewN | apply below_drew1 | refine below_set ?_ p6.out | refine below_set ?_ p7.out) | exact HB.out)⟩
end Go.Proofs.Ytljdcinpjnijcaa.Pr
end
section
set_option linter.unusedVariables false
namespace Go.Proofs.YtljdcinpjnijcaaW.PrintWords
open Go.RowKit Go.ChangeShapes Go.WideShapes
def Opens (P : Program) {α : Type} (d : Kd α) (t : TypeId) (wf : α → Prop) : Prop :=
 ∀ {H : Type} {enc : TypeId × Value → H} {w : World} {sp : Nat → Bool} {held : Bool} {fuel : Nat} {cs : List Value} {x : DataW H × List MemPlace}, DataW.trod enc P w 0 sp held fuel t cs = some x → ∃ a, d.K w a cs ∧ wf a
def OpensF (P : Program) {α : Type} (d : Kd α) (fs : List Field) (off tot : Nat) (wf : α → Prop) : Prop :=
 ∀ {H : Type} {enc : TypeId × Value → H} {w : World} {sp : Nat → Bool} {held : Bool} {fuel : Nat} {cs : List Value}, cs.length = tot → (∀ f ∈ fs, ∃ y, DataW.trod enc P w 0 sp held fuel f.type ((cs.drop f.offset).take (P.cellsOf f.type)) = some y) → ∃ a, d.K w a (cs.drop off) ∧ wf a
section
variable {P : Program} {α β : Type}
def I64 (n : Int) : Prop := -9223372036854775808 ≤ n ∧ n ≤ 9223372036854775807
theorem I64_of {n : Int} (h : (Lit.int .i64 n).wf = true) : I64 n := by
 simp only [Lit.wf, Bool.and_eq_true, decide_eq_true_eq] at h
 have h1 : IntKind.i64.min = -9223372036854775808 := rfl
 have h2 : IntKind.i64.max = 9223372036854775807 := rfl
 unfold I64
 omega
theorem opens_i64 {t : TypeId} (ht : P.underlying t = some (.int .i64)) : Opens P (Kd.int .i64) t I64 := by
 intro H enc w sp held fuel cs x h
 obtain ⟨n, rfl, _, hw⟩ := DataW.trod_int ht h
 exact ⟨n, rfl, I64_of hw⟩
theorem addr_add_add (a : Addr) (i j : Nat) : (a.add i).add j = a.add (i + j) := by
 unfold Addr.add
 by_cases hi : i = 0 <;> by_cases hj : j = 0 <;> simp [hi, hj, Nat.add_assoc]
theorem opens_slice [Inhabited α] {d : Kd α} {t e : TypeId} {wf : α → Prop} (ht : P.underlying t = some (.slice e)) (hc : P.cellsOf e = d.sz) (he : Opens P d e wf) : Opens P (Kd.slice e d) t (fun l => l.length ≤ maxLen ∧ ∀ x ∈ l, wf x) := by
 intro H enc w sp held fuel cs x h
 rcases Deep.open_slice ht h with ⟨rfl, _⟩ | ⟨a, len, cap, m, n, D, Pl, rfl, _, hl, hm, hmm, _, hel⟩
 ·exact ⟨[], ⟨none, 0, rfl, Nat.le_refl _, Kd.C_nil d w⟩, by simp, by simp⟩
 ·have hlm : len ≤ m := by rw [hmm]; split <;> omega
  have hx : ∀ i, i < len → ∃ y : α, (∃ c, c.length = d.sz ∧ d.K w y c ∧ ∀ j u, c[j]? = some u → w.cell? (a.add (i * d.sz + j)) = some u) ∧ wf y := by
   intro i hi
   obtain ⟨cs', hcs, htr⟩ := hel i (by omega)
   obtain ⟨y, hk, hw⟩ := he htr
   obtain ⟨_, hlen, hcell⟩ := World.cells?_some hcs
   refine ⟨y, ⟨cs', d.K_len hk, hk, fun j u hu => ?_⟩, hw⟩
   have hj : j < P.cellsOf e := by
    have := (List.getElem?_eq_some_iff.1 hu).1
    omega
   have := hcell j hj
   rw [addr_add_add, hc, hu] at this
   exact this
  obtain ⟨f, hf⟩ := Deep.choose_lt hx
  refine ⟨(List.range len).map f, ⟨some a, cap, by simp, by simpa using hl, by simp, by simp only [maxLen] at hm; simp; omega, fun _ => ⟨a, rfl, fun j p hj => ?_⟩⟩, by simp; omega, fun y hy => ?_⟩
  ·obtain ⟨hj1, hj2⟩ := List.getElem?_eq_some_iff.1 hj
   simp at hj1 hj2
   subst hj2
   exact (hf j hj1).1
  ·simp only [List.mem_map, List.mem_range] at hy
   obtain ⟨i, hi, rfl⟩ := hy
   exact (hf i hi).2
theorem opensF_last {d : Kd α} {f : Field} {off tot : Nat} {wf : α → Prop} (ho : f.offset = off) (hn : off + P.cellsOf f.type = tot) (h : Opens P d f.type wf) : OpensF P d [f] off tot wf := by
 intro H enc w sp held fuel cs hl hf
 obtain ⟨y, hy⟩ := hf f (by simp)
 obtain ⟨a, hk, hw⟩ := h hy
 refine ⟨a, ?_, hw⟩
 rwa [ho, List.take_of_length_le (by rw [List.length_drop]; omega)] at hk
theorem opensF_cons {d : Kd α} {d' : Kd β} {f : Field} {fs : List Field} {off tot : Nat} {wf : α → Prop} {wf' : β → Prop} (ho : f.offset = off) (h : Opens P d f.type wf) (h' : OpensF P d' fs (off + P.cellsOf f.type) tot wf') :
  OpensF P (Kd.pair d d') (f :: fs) off tot (fun x => wf x.1 ∧ wf' x.2) := by
 intro H enc w sp held fuel cs hl hf
 obtain ⟨y, hy⟩ := hf f (by simp)
 obtain ⟨a, hk, hw⟩ := h hy
 obtain ⟨b, hk', hw'⟩ := h' hl (fun g hg => hf g (by simp [hg]))
 refine ⟨(a, b), ⟨_, _, ?_, hk, hk'⟩, hw, hw'⟩
 rw [ho, ← List.drop_drop, List.take_append_drop]
theorem opens_struct {d : Kd α} {t : TypeId} {fs : Array Field} {wf : α → Prop} (ht : P.underlying t = some (.struct fs)) (h : OpensF P d fs.toList 0 (P.cellsOf t) wf) : Opens P d t wf := by
 intro H enc w sp held fuel cs x hx
 obtain ⟨xs, n, _, _, hl, hlen, hf⟩ := DataW.trod_struct ht hx
 obtain ⟨a, hk, hw⟩ := h hl (fun f hfm => by
  obtain ⟨i, hi, rfl⟩ := List.getElem_of_mem hfm
  have hi' : i < fs.size := by simpa using hi
  have h1 := hf i fs[i] (Array.getElem?_eq_getElem hi')
  rw [List.getElem?_eq_getElem (by omega)] at h1
  exact ⟨_, by simpa using h1⟩)
 exact ⟨a, by simpa using hk, hw⟩
theorem opens_iso {d : Kd α} {t : TypeId} {wf : α → Prop} (f : β → α) (g : α → β) (hfg : ∀ a, f (g a) = a) (h : Opens P d t wf) : Opens P (Kd.iso d f) t (fun b => wf (f b)) := by
 intro H enc w sp held fuel cs x hx
 obtain ⟨a, hk, hw⟩ := h hx
 exact ⟨g a, by show d.K w (f (g a)) cs; rw [hfg]; exact hk, by show wf (f (g a)); rw [hfg]; exact hw⟩
end
end Go.Proofs.YtljdcinpjnijcaaW.PrintWords
end
section
namespace Go.Proofs.Ytljdcinpjnijcaa.Pr
open Go.RowKit Go.Proofs.YtljdcinpjnijcaaW.PrintWords Go.Proofs.YtljdcinpjnijcaaW.PrintLast Go.Proofs.YtljdcinpjnijcaaW.PrintMore
def laws_FnExactRingBest.Asked : Prop := ∀ (a0_0 : Int) (l0_1 : List (S112)), I64 a0_0 → (l0_1.length ≤ maxLen ∧ ∀ x_ ∈ l0_1, (I64 x_.f0 ∧ I64 x_.f1 ∧ I64 x_.f2 ∧ I64 x_.f3 ∧ I64 x_.f4)) → ∃ k, laws_FnExactRingBest.f k a0_0 l0_1 = some true
end Go.Proofs.Ytljdcinpjnijcaa.Pr
end
section
set_option linter.unusedVariables false
namespace Go.Proofs.YtljdcinpjnijcaaW.PrintWords
open Go.RowKit
section
variable {α β : Type}
theorem Ev.pos {c : Prop} [Decidable c] {t e : Nat → Option α} {r : α} (h : c) (k : Ev t r) : Ev (fun n => if c then t n else e n) r := by
 simp only [if_pos h]; exact k
theorem Ev.neg {c : Prop} [Decidable c] {t e : Nat → Option α} {r : α} (h : ¬ c) (k : Ev e r) : Ev (fun n => if c then t n else e n) r := by
 simp only [if_neg h]; exact k
theorem Ev.bind0 {g : Option α} {f : Nat → α → Option β} {a : α} {r : β} (h : g = some a) (k : Ev (fun n => f n a) r) : Ev (fun n => g.bind (f n)) r := by
 subst h; exact k
theorem Ev.is {a r : α} (h : a = r) : Ev (fun _ => some a) r := by subst h; exact Ev.now _
theorem Ev.cast {g : Nat → Option α} {a r : α} (k : Ev g a) (h : a = r) : Ev g r := h ▸ k
theorem Ev.go {g f : Nat → Option α} {r : α} (k : Ev f r) (h : ∀ k, g (k + 1) = f k) : Ev g r := Ev.step h k
end
theorem w64 {n : Int} (h : -9223372036854775808 ≤ n) (h' : n ≤ 9223372036854775807) : wrap64 n = n := by unfold wrap64; omega
end Go.Proofs.YtljdcinpjnijcaaW.PrintWords
end
section
set_option linter.unusedSimpArgs false
set_option linter.unusedVariables false
namespace Go.Proofs.Ytljdcinpjnijcaa.Pure
open Go.RowKit Go.Proofs.Ytljdcinpjnijcaa.Pr Go.Proofs.YtljdcinpjnijcaaW.PrintWords Go.Proofs.YtljdcinpjnijcaaW.PrintLast Go.Proofs.YtljdcinpjnijcaaW.PrintMore
def inB (x a b : Int) : Bool := decide (a ≤ x) && decide (x ≤ b)
theorem inB_iff {x a b : Int} : inB x a b = true ↔ a ≤ x ∧ x ≤ b := by simp [inB]
theorem in1 (x a b : Int) : spec_l1In.f x a b = some (inB x a b) := by
 unfold spec_l1In.f inB
 by_cases h : x ≥ a
 case pos => rw [if_pos h]; simp [show a ≤ x from h]
 rw [if_neg h]; simp [show ¬ a ≤ x from h]
theorem within1 (x a b : Int) : impl_within.f x a b = some (inB x a b) := by
 unfold impl_within.f inB
 by_cases h : x ≥ a
 case pos => rw [if_pos h]; simp [show a ≤ x from h]
 rw [if_neg h]; simp [show ¬ a ≤ x from h]
theorem up1 {i n : Nat} (h : i < n) (hn : n ≤ maxLen) : wrap64 ((i : Int) + 1) = ((i + 1 : Nat) : Int) := by
 simp only [maxLen] at hn
 rw [w64 (by omega) (by omega)]; omega
def nth (l : List Int) (i : Nat) : Int := l.getD i 0
theorem rdg {l : List Int} (i : Nat) : rd l (i : Int) = nth l i := by simp [rd, nth]
theorem nth_get {l : List Int} {i : Nat} (h : i < l.length) : nth l i = l[i] := by simp [nth, h]
theorem drop_cons {α : Type} {l : List α} {i : Nat} (h : i < l.length) : l.drop i = l[i] :: l.drop (i + 1) := List.drop_eq_getElem_cons h
def Pv {α : Type} (g : Nat → Option α) (P : α → Prop) : Prop := ∃ r, Ev g r ∧ P r
section
variable {α β : Type} {P : α → Prop}
theorem Pv.now {a : α} (h : P a) : Pv (fun _ => some a) P := ⟨a, Ev.now a, h⟩
theorem Pv.pos {c : Prop} [Decidable c] {t e : Nat → Option α} (h : c) (k : Pv t P) : Pv (fun n => if c then t n else e n) P := by
 obtain ⟨r, k, hp⟩ := k
 exact ⟨r, Ev.pos h k, hp⟩
theorem Pv.neg {c : Prop} [Decidable c] {t e : Nat → Option α} (h : ¬ c) (k : Pv e P) : Pv (fun n => if c then t n else e n) P := by
 obtain ⟨r, k, hp⟩ := k
 exact ⟨r, Ev.neg h k, hp⟩
theorem Pv.bind {g : Nat → Option β} {f : Nat → β → Option α} {R : β → Prop} (h : Pv g R) (k : ∀ b, R b → Pv (fun n => f n b) P) : Pv (fun n => (g n).bind (f n)) P := by
 obtain ⟨b, h, hb⟩ := h
 obtain ⟨r, k, hp⟩ := k b hb
 exact ⟨r, Ev.bind h k, hp⟩
theorem Pv.go {g f : Nat → Option α} (k : Pv f P) (h : ∀ k, g (k + 1) = f k) : Pv g P := by
 obtain ⟨r, k, hp⟩ := k
 exact ⟨r, Ev.go k h, hp⟩
end
end Go.Proofs.Ytljdcinpjnijcaa.Pure
end
section
set_option linter.unusedSimpArgs false
set_option linter.unusedVariables false
namespace Go.Proofs.Ytljdcinpjnijcaa.Pure
open Go.RowKit Go.Proofs.Ytljdcinpjnijcaa.Pr Go.Proofs.YtljdcinpjnijcaaW.PrintWords Go.Proofs.YtljdcinpjnijcaaW.PrintLast Go.Proofs.YtljdcinpjnijcaaW.PrintMore
section
variable {t e : Nat → Option Bool} {r : Bool}
theorem Ev.and {b : Bool} (k : Ev t r) : Ev (fun n => if b = true then t n else some false) (b && r) := by
 cases b with
 | false => exact Ev.neg (by simp) (Ev.now _)
 | true => exact Ev.pos rfl k
theorem Ev.nand {c : Prop} [Decidable c] (k : Ev t r) : Ev (fun n => if c then some false else t n) (!decide c && r) := by
 by_cases h : c
 case pos => exact Ev.pos h (Ev.is (by simp [h]))
 exact Ev.neg h (k.cast (by simp [h]))
end
abbrev Arc := S34
def arc (l : List Arc) (i : Nat) : Arc := rd_T34 l (i : Int)
theorem rda (l : List Arc) (i : Nat) : rd_T34 l (i : Int) = arc l i := rfl
theorem arc_get {l : List Arc} {i : Nat} (h : i < l.length) : arc l i = l[i] := by simp [arc, rd_T34, h]
theorem arc_mem {l : List Arc} {i : Nat} (h : i < l.length) : arc l i ∈ l := by
 rw [arc_get h]
 exact List.getElem_mem h
attribute [irreducible] arc
def okArcW (n : Int) (a : Arc) : Bool := inB a.f0 0 (wrap64 (n - 1)) && (inB a.f1 0 (wrap64 (n - 1)) && (!decide (a.f0 = a.f1) && (inB a.f2 0 99 && (inB a.f3 0 99 && inB a.f4 0 9))))
theorem l1Ok_l (n : Int) (l : List Arc) (hm : l.length ≤ maxLen) : ∀ (m i : Nat), l.length - i = m → i ≤ l.length → Ev (fun k => spec_l1Ok.l0 k (i : Int) n l) ((l.drop i).all (okArcW n) && (inB n 1 8 && decide ((l.length : Int) ≤ 16))) := by
 intro m
 induction m with
 | zero =>
  intro i hd hi
  refine Ev.go ?_ (fun k => by rw [spec_l1Ok.l0])
  refine Ev.neg (by omega) (Ev.bind0 (in1 _ _ _) ?_)
  rw [List.drop_of_length_le (by omega)]
  exact (Ev.and (Ev.now _)).cast (by simp)
 | succ m ih =>
  intro i hd hi
  have hlt : i < l.length := by omega
  refine Ev.go ?_ (fun k => by rw [spec_l1Ok.l0])
  rw [drop_cons hlt, ← arc_get hlt, List.all_cons, rda, up1 hlt hm]
  refine Ev.pos (by omega) (Ev.pos (by omega) ?_)
  refine Ev.cast (Ev.bind0 (in1 _ _ _) (Ev.and (Ev.bind0 (in1 _ _ _) (Ev.and (Ev.nand (Ev.bind0 (in1 _ _ _) (Ev.and (Ev.bind0 (in1 _ _ _) (Ev.and (Ev.bind0 (in1 _ _ _) (Ev.and (ih (i + 1) (by omega) (by omega))))))))))))) ?_
  simp only [okArcW, Bool.and_assoc]
theorem okArcW_okArc {n : Int} (h : 1 ≤ n) (h8 : n ≤ 8) (a : Arc) : okArcW n a = okArc n a := by
 unfold okArcW okArc inB okN okC
 rw [w64 (by omega) (by omega)]
 have e : (a.f4 ≤ 9) ↔ (a.f4 ≤ 10 - 1) := by omega
 have e2 : (a.f0 == a.f1) = decide (a.f0 = a.f1) := by
  by_cases c : a.f0 = a.f1 <;> simp [c]
 rw [e2]
 simp only [Bool.and_assoc, e]
theorem l1Ok_ev (n : Int) (l : List Arc) (hm : l.length ≤ maxLen) : Ev (fun k => spec_l1Ok.f k n l) (netOkB n l) := by
 unfold spec_l1Ok.f
 refine (l1Ok_l n l hm _ 0 rfl (by omega)).cast ?_
 unfold netOkB
 rw [List.drop_zero]
 by_cases h : 1 ≤ n ∧ n ≤ 8
 case pos =>
  have e : l.all (okArcW n) = l.all (okArc n) := by
   congr 1
   funext a
   exact okArcW_okArc h.1 h.2 a
  rw [e, show inB n 1 8 = true from inB_iff.2 h]
  simp [h.1, h.2, Bool.and_comm]
 have e : inB n 1 8 = false := by
  cases c : inB n 1 8 with
  | false => rfl
  | true => exact absurd (inB_iff.1 c) h
 rw [e]
 have e2 : (decide (1 ≤ n) && decide (n ≤ 8)) = false := e
 simp only [e2, Bool.false_and, Bool.and_false]
structure NetGood (n : Int) (l : List Arc) : Prop where
 n1 : 1 ≤ n
 n8 : n ≤ 8
 len : l.length ≤ 16
 ok : ∀ i, i < l.length → (0 ≤ (arc l i).f0 ∧ (arc l i).f0 < n) ∧ (0 ≤ (arc l i).f1 ∧ (arc l i).f1 < n) ∧ (arc l i).f0 ≠ (arc l i).f1 ∧ (0 ≤ (arc l i).f2 ∧ (arc l i).f2 ≤ 99) ∧ (0 ≤ (arc l i).f3 ∧ (arc l i).f3 ≤ 99) ∧ (0 ≤ (arc l i).f4 ∧ (arc l i).f4 ≤ 9)
theorem okArc_iff (n : Int) (a : Arc) : okArc n a = true ↔ (0 ≤ a.f0 ∧ a.f0 < n) ∧ (0 ≤ a.f1 ∧ a.f1 < n) ∧ a.f0 ≠ a.f1 ∧ (0 ≤ a.f2 ∧ a.f2 ≤ 99) ∧ (0 ≤ a.f3 ∧ a.f3 ≤ 99) ∧ (0 ≤ a.f4 ∧ a.f4 ≤ 9) := by
 simp only [okArc, okN, okC, Bool.and_eq_true, decide_eq_true_eq, Bool.not_eq_true', beq_eq_false_iff_ne]
 constructor
 ·rintro ⟨⟨⟨⟨⟨⟨a1, a2⟩, a3, a4⟩, a5⟩, a6⟩, a7⟩, a8, a9⟩
  exact ⟨⟨a1, by omega⟩, ⟨a3, by omega⟩, a5, a6, a7, a8, by omega⟩
 ·rintro ⟨⟨a1, a2⟩, ⟨a3, a4⟩, a5, a6, a7, a8, a9⟩
  exact ⟨⟨⟨⟨⟨⟨a1, by omega⟩, a3, by omega⟩, a5⟩, a6⟩, a7⟩, a8, by omega⟩
theorem netOkB_iff (n : Int) (l : List Arc) : netOkB n l = true ↔ NetGood n l := by
 simp only [netOkB, Bool.and_eq_true, decide_eq_true_eq, List.all_eq_true]
 constructor
 ·rintro ⟨⟨⟨h1, h2⟩, h3⟩, h4⟩
  exact ⟨h1, h2, by omega, fun i hi => (okArc_iff n _).1 (h4 _ (arc_mem hi))⟩
 ·rintro ⟨h1, h2, h3, h4⟩
  refine ⟨⟨⟨h1, h2⟩, by omega⟩, fun a ha => ?_⟩
  obtain ⟨i, hi, rfl⟩ := List.getElem_of_mem ha
  rw [← arc_get hi]
  exact (okArc_iff n _).2 (h4 i hi)
theorem szNet_eq (n : Int) (l : List S112) (a : Int) (ha : -1 ≤ a) (ha' : a ≤ 1048576) (hm : l.length ≤ maxLen) : laws_szNet.f n l a = some (if a - (l.length : Int) < 0 then -1 else a - (l.length : Int)) := by
 simp only [maxLen] at hm
 unfold laws_szNet.f laws_szArcS.f
 rw [w64 (by omega) (by omega)]
 by_cases c : a - (l.length : Int) < 0
 case neg => rw [if_neg c, if_neg c, Option.bind_some, if_neg c]
 rw [if_pos c, if_pos c, Option.bind_some, if_pos (by omega)]
def toA (a : S112) : Arc := ⟨a.f0, a.f1, a.f2, a.f3, a.f4⟩
theorem toArcS_l (l : List S112) (hm : l.length ≤ maxLen) : ∀ (d i : Nat) (x : List Arc), l.length - i = d → i ≤ l.length → x.length = l.length → x.take i = (l.map toA).take i → Ev (fun k => laws_toArcS.l0 k l x (i : Int)) (l.map toA) := by
 intro d
 induction d with
 | zero =>
  intro i x hd hi hx ht
  refine Ev.go ?_ (fun k => by rw [laws_toArcS.l0])
  refine Ev.neg (by omega) (Ev.is ?_)
  have e : i = l.length := by omega
  subst e
  rwa [List.take_of_length_le (by omega), List.take_of_length_le (by simp)] at ht
 | succ d ih =>
  intro i x hd hi hx ht
  have hlt : i < l.length := by omega
  refine Ev.go ?_ (fun k => by rw [laws_toArcS.l0])
  refine Ev.pos (by omega) (Ev.pos (by omega) (Ev.bind0 rfl (Ev.pos (by omega) ?_)))
  rw [up1 hlt hm]
  refine ih (i + 1) _ (by omega) (by omega) (by simp [hx]) ?_
  have hr : rd_T112 l (i : Int) = l[i] := by simp [rd_T112, hlt]
  simp only [Int.toNat_natCast, hr]
  rw [List.take_succ_eq_append_getElem (by simp; omega), List.take_succ_eq_append_getElem (l := l.map toA) (by simpa using hlt), List.take_set_of_le (Nat.le_refl _), ht]
  simp [toA]
theorem toNet_ev (n : Int) (l : List S112) (hm : l.length ≤ 7036874417766) : Ev (fun k => laws_toNet.f k n l) (n, l.map toA) := by
 unfold laws_toNet.f
 refine Ev.bind (a := l.map toA) ?_ (Ev.now _)
 unfold laws_toArcS.f
 refine Ev.pos (by omega) (Ev.pos (by simp; omega) ?_)
 exact toArcS_l l (by simp only [maxLen]; omega) _ 0 _ rfl (by omega) (by simp) (by simp)
theorem eqArcS_l (l : List Arc) (hm : l.length ≤ maxLen) : ∀ (d i : Nat), l.length - i = d → i ≤ l.length → Ev (fun k => laws_eqArcS.l0 k l l (i : Int)) true := by
 intro d
 induction d with
 | zero =>
  intro i hd hi
  refine Ev.go ?_ (fun k => by rw [laws_eqArcS.l0])
  exact Ev.neg (by omega) (Ev.now _)
 | succ d ih =>
  intro i hd hi
  have hlt : i < l.length := by omega
  refine Ev.go ?_ (fun k => by rw [laws_eqArcS.l0])
  refine Ev.pos (by omega) (Ev.pos (by omega) (Ev.pos (by omega) (Ev.bind0 (a := true) (by simp [laws_eqArc.f]) (Ev.pos rfl ?_))))
  rw [up1 hlt hm]
  exact ih (i + 1) (by omega) (by omega)
theorem eqNet_ev (n : Int) (l : List Arc) (hm : l.length ≤ maxLen) : Ev (fun k => laws_eqNet.f k n l n l) true := by
 unfold laws_eqNet.f
 refine Ev.pos rfl (Ev.bind (a := true) ?_ (Ev.pos rfl (Ev.now _)))
 unfold laws_eqArcS.f
 exact Ev.pos rfl (eqArcS_l l hm _ 0 rfl (by omega))
end Go.Proofs.Ytljdcinpjnijcaa.Pure
end
section
set_option linter.unusedSimpArgs false
set_option linter.unusedVariables false
namespace Go.Proofs.Ytljdcinpjnijcaa.Pure
open Go.RowKit Go.Proofs.Ytljdcinpjnijcaa.Pr Go.Proofs.YtljdcinpjnijcaaW.PrintWords Go.Proofs.YtljdcinpjnijcaaW.PrintLast Go.Proofs.YtljdcinpjnijcaaW.PrintMore
def flip (a : Arc) : Arc := ⟨a.f1, a.f0, a.f2, a.f3, a.f4⟩
def back (l : List Arc) : List Arc := l.map flip
theorem back_len (l : List Arc) : (back l).length = l.length := by simp [back]
theorem back_arc {l : List Arc} {i : Nat} (h : i < l.length) : arc (back l) i = flip (arc l i) := by
 rw [arc_get (by rw [back_len]; exact h), arc_get h]
 simp [back]
theorem back_good {n : Int} {l : List Arc} (h : NetGood n l) : NetGood n (back l) := by
 refine ⟨h.n1, h.n8, by rw [back_len]; exact h.len, fun i hi => ?_⟩
 rw [back_len] at hi
 obtain ⟨a1, a2, a3, a4⟩ := h.ok i hi
 rw [back_arc hi]
 exact ⟨a2, a1, fun e => a3 e.symm, a4⟩
end Go.Proofs.Ytljdcinpjnijcaa.Pure
end
section
set_option linter.unusedSimpArgs false
set_option linter.unusedVariables false
namespace Go.Proofs.Ytljdcinpjnijcaa.Pure
open Go.RowKit Go.Proofs.Ytljdcinpjnijcaa.Pr Go.Proofs.YtljdcinpjnijcaaW.PrintWords Go.Proofs.YtljdcinpjnijcaaW.PrintLast Go.Proofs.YtljdcinpjnijcaaW.PrintMore
def lst (n : Nat) (F : Nat → Int) : List Int := (List.range n).map F
theorem lst_len (n : Nat) (F : Nat → Int) : (lst n F).length = n := by simp [lst]
theorem lst_nth {n v : Nat} (F : Nat → Int) (h : v < n) : nth (lst n F) v = F v := by
 simp [nth, lst, h]
theorem lst_rd {n v : Nat} (F : Nat → Int) (h : v < n) : rd (lst n F) (v : Int) = F v := by rw [rdg, lst_nth F h]
theorem lst_congr {n : Nat} {F G : Nat → Int} (h : ∀ v, v < n → F v = G v) : lst n F = lst n G := by
 unfold lst
 exact List.map_congr_left (fun v hv => h v (List.mem_range.1 hv))
theorem lst_of (l : List Int) : lst l.length (nth l) = l := by
 apply List.ext_getElem (lst_len _ _)
 intro i h1 h2
 have := lst_nth (n := l.length) (nth l) (v := i) h2
 rw [nth_get h1, nth_get h2] at this
 exact this
def upd (F : Nat → Int) (a : Nat) (x : Int) : Nat → Int := fun v => if v = a then x else F v
theorem lst_set {n a : Nat} (F : Nat → Int) (x : Int) : (lst n F).set a x = lst n (upd F a x) := by
 apply List.ext_getElem (by simp [lst])
 intro i h1 h2
 have hi : i < n := by simpa [lst] using h2
 simp only [List.getElem_set]
 by_cases e : a = i
 case pos => subst e; simp [lst, upd]
 simp [lst, upd, e, show ¬ i = a from fun h => e h.symm]
theorem upd_same (F : Nat → Int) (a : Nat) (x : Int) : upd F a x a = x := by simp [upd]
theorem upd_far (F : Nat → Int) {a v : Nat} (x : Int) (h : v ≠ a) : upd F a x v = F v := by simp [upd, h]
inductive Conn (E : Nat → Nat → Prop) : Nat → Nat → Prop
 | refl (v : Nat) : Conn E v v
 | tail {u v w : Nat} : Conn E u v → (E v w ∨ E w v) → Conn E u w
end Go.Proofs.Ytljdcinpjnijcaa.Pure
end
section
set_option linter.unusedSectionVars false
namespace Go.Proofs.Ytljdcinpjnijcaa.Sp
structure G where
 n : Nat
 m : Nat
 fr : Nat → Nat
 tw : Nat → Nat
 w : Nat → Int
 use : Nat → Bool
structure G.Ok (g : G) : Prop where
 fl : ∀ i, i < g.m → g.fr i < g.n
 tl : ∀ i, i < g.m → g.tw i < g.n
 w0 : ∀ i, i < g.m → 0 ≤ g.w i
inductive Wk (g : G) : Nat → Nat → Nat → Int → Prop
 | nil (v : Nat) : Wk g v v 0 0
 | cons {i v k : Nat} {c : Int} : i < g.m → g.use i = true → Wk g (g.tw i) v k c → Wk g (g.fr i) v (k + 1) (g.w i + c)
theorem Wk.cast {g : G} {u v k k' : Nat} {c c' : Int} (h : Wk g u v k c) (hk : k = k') (hc : c = c') : Wk g u v k' c' := by
 subst hk; subst hc; exact h
theorem Wk.nonneg {g : G} (ok : g.Ok) {u v k : Nat} {c : Int} (h : Wk g u v k c) : 0 ≤ c := by
 induction h with
 | nil => omega
 | cons hi _ _ ih => have := ok.w0 _ hi; omega
theorem nodup_len : ∀ (n : Nat) (l : List Nat), l.Nodup → (∀ x ∈ l, x < n) → l.length ≤ n := by
 intro n
 induction n with
 | zero =>
  intro l _ h
  cases l with
  | nil => simp
  | cons a l => exact absurd (h a (by simp)) (by omega)
 | succ n ih =>
  intro l hn h
  have h1 := ih (l.erase n) (hn.erase n) (fun x hx => by
   have h2 := h x (List.mem_of_mem_erase hx)
   have h3 : x ≠ n := by
    rintro rfl
    exact (List.Nodup.not_mem_erase hn) hx
   omega)
  have := List.length_erase_le (a := n) (l := l)
  have h4 : l.length ≤ (l.erase n).length + 1 := by
   rw [List.length_erase]
   split <;> omega
  omega
inductive Sm (g : G) (t : Nat) : Nat → List Nat → Nat → Int → Prop
 | nil : Sm g t t [t] 0 0
 | cons {i k : Nat} {L : List Nat} {c : Int} : i < g.m → g.use i = true → Sm g t (g.tw i) L k c → g.fr i ∉ L → Sm g t (g.fr i) (g.fr i :: L) (k + 1) (g.w i + c)
theorem Sm.wk {g : G} {t u k : Nat} {L : List Nat} {c : Int} (h : Sm g t u L k c) : Wk g u t k c := by
 induction h with
 | nil => exact .nil _
 | cons hi hu _ _ ih => exact .cons hi hu ih
theorem Sm.facts {g : G} (ok : g.Ok) {t u k : Nat} (ht : t < g.n) {L : List Nat} {c : Int} (h : Sm g t u L k c) : L.Nodup ∧ (∀ x ∈ L, x < g.n) ∧ L.length = k + 1 := by
 induction h with
 | nil => simp [ht]
 | cons hi _ _ hn ih =>
  refine ⟨List.nodup_cons.2 ⟨hn, ih.1⟩, ?_, by simp [ih.2.2]⟩
  intro x hx
  rcases List.mem_cons.1 hx with rfl | hx
  ·exact ok.fl _ hi
  ·exact ih.2.1 x hx
theorem Sm.tail {g : G} (ok : g.Ok) {t u k : Nat} {L : List Nat} {c : Int} (h : Sm g t u L k c) {x : Nat} (hx : x ∈ L) : ∃ L' k' c', Sm g t x L' k' c' ∧ k' ≤ k ∧ c' ≤ c := by
 induction h with
 | nil =>
  obtain rfl : x = t := by simpa using hx
  exact ⟨_, _, _, .nil, Nat.le_refl _, Int.le_refl _⟩
 | cons hi hu h hn ih =>
  rcases List.mem_cons.1 hx with rfl | hx
  ·exact ⟨_, _, _, .cons hi hu h hn, Nat.le_refl _, Int.le_refl _⟩
  ·obtain ⟨L', k', c', h1, h2, h3⟩ := ih hx
   have := ok.w0 _ hi
   exact ⟨L', k', c', h1, by omega, by omega⟩
theorem Wk.simple {g : G} (ok : g.Ok) {u v k : Nat} {c : Int} (h : Wk g u v k c) : ∃ L k' c', Sm g v u L k' c' ∧ k' ≤ k ∧ c' ≤ c := by
 induction h with
 | nil v => exact ⟨_, _, _, .nil, Nat.le_refl _, Int.le_refl _⟩
 | @cons i v k c hi hu h ih =>
  obtain ⟨L, k', c', h1, h2, h3⟩ := ih
  by_cases hm : g.fr i ∈ L
  case neg => exact ⟨_, _, _, .cons hi hu h1 hm, by omega, by omega⟩
  obtain ⟨L'', k'', c'', h4, h5, h6⟩ := h1.tail ok hm
  have := ok.w0 _ hi
  exact ⟨L'', k'', c'', h4, by omega, by omega⟩
theorem Wk.short {g : G} (ok : g.Ok) {u v k : Nat} (hv : v < g.n) {c : Int} (h : Wk g u v k c) : ∃ k' c', Wk g u v k' c' ∧ k' < g.n ∧ k' ≤ k ∧ c' ≤ c := by
 obtain ⟨L, k', c', h1, h2, h3⟩ := h.simple ok
 obtain ⟨f1, f2, f3⟩ := h1.facts ok hv
 have := nodup_len _ _ f1 f2
 exact ⟨k', c', h1.wk, by omega, h2, h3⟩
def Opt (g : G) (t : Nat) (L : Nat → Option Int) : Prop := ∀ v, v < g.n → (∀ x, L v = some x → ∃ k, Wk g v t k x) ∧ (∀ k c, Wk g v t k c → ∃ x, L v = some x ∧ x ≤ c)
theorem Opt.uniq {g : G} {t : Nat} {L L' : Nat → Option Int} (h : Opt g t L) (h' : Opt g t L') : ∀ v, v < g.n → L v = L' v := by
 intro v hv
 obtain ⟨a, b⟩ := h v hv
 obtain ⟨a', b'⟩ := h' v hv
 cases e : L v with
 | none =>
  cases e' : L' v with
  | none => rfl
  | some y =>
   obtain ⟨k, hk⟩ := a' y e'
   obtain ⟨x, hx, _⟩ := b k y hk
   rw [e] at hx; cases hx
 | some x =>
  obtain ⟨k, hk⟩ := a x e
  obtain ⟨y, hy, h1⟩ := b' k x hk
  obtain ⟨k', hk'⟩ := a' y hy
  obtain ⟨x', hx', h2⟩ := b k' y hk'
  rw [e] at hx'
  obtain rfl := Option.some.inj hx'
  rw [hy]
  congr 1
  omega
def lts (a : Int) : Option Int → Bool
 | none => true
 | some y => decide (a < y)
def put (L : Nat → Option Int) (a : Nat) (x : Int) : Nat → Option Int := fun v => if v = a then some x else L v
def relax (g : G) (L : Nat → Option Int) (i : Nat) : Nat → Option Int :=
 if g.use i = true then
  match L (g.tw i) with
  | none => L
  | some x => if lts (x + g.w i) (L (g.fr i)) = true then put L (g.fr i) (x + g.w i) else L
 else L
theorem relax_cases (g : G) (L : Nat → Option Int) (i : Nat) : (relax g L i = L ∧ (g.use i = true → ∀ x, L (g.tw i) = some x → lts (x + g.w i) (L (g.fr i)) = false)) ∨ (g.use i = true ∧ ∃ x, L (g.tw i) = some x ∧ lts (x + g.w i) (L (g.fr i)) = true ∧ relax g L i = put L (g.fr i) (x + g.w i)) := by
 unfold relax
 by_cases hu : g.use i = true
 case neg =>
  rw [if_neg hu]
  exact .inl ⟨rfl, fun h => absurd h hu⟩
 rw [if_pos hu]
 cases e : L (g.tw i) with
 | none => exact .inl ⟨rfl, fun _ x hx => by cases hx⟩
 | some x =>
  dsimp only
  by_cases hl : lts (x + g.w i) (L (g.fr i)) = true
  case pos =>
   rw [if_pos hl]
   exact .inr ⟨hu, x, rfl, hl, rfl⟩
  rw [if_neg hl]
  refine .inl ⟨rfl, fun _ y hy => ?_⟩
  obtain rfl := Option.some.inj hy
  simpa using hl
def sweep (g : G) (L : Nat → Option Int) : Nat → (Nat → Option Int)
 | 0 => L
 | i + 1 => relax g (sweep g L i) i
def Le (a b : Option Int) : Prop := ∀ y, b = some y → ∃ x, a = some x ∧ x ≤ y
theorem Le.refl (a : Option Int) : Le a a := fun y h => ⟨y, h, Int.le_refl _⟩
theorem Le.trans {a b c : Option Int} (h : Le a b) (k : Le b c) : Le a c := by
 intro y hy
 obtain ⟨x, hx, h1⟩ := k y hy
 obtain ⟨z, hz, h2⟩ := h x hx
 exact ⟨z, hz, by omega⟩
theorem put_same (L : Nat → Option Int) (a : Nat) (x : Int) : put L a x a = some x := by simp [put]
theorem put_far (L : Nat → Option Int) {a v : Nat} (x : Int) (h : v ≠ a) : put L a x v = L v := by simp [put, h]
theorem relax_le (g : G) (L : Nat → Option Int) (i v : Nat) : Le (relax g L i v) (L v) := by
 rcases relax_cases g L i with ⟨e, _⟩ | ⟨_, x, hx, hl, e⟩
 ·rw [e]; exact Le.refl _
 ·rw [e]
  by_cases hv : v = g.fr i
  case neg => rw [put_far _ _ hv]; exact Le.refl _
  subst hv
  rw [put_same]
  intro y hy
  rw [hy] at hl
  exact ⟨_, rfl, by simp [lts] at hl; omega⟩
theorem relax_arc (g : G) (L : Nat → Option Int) (i : Nat) (hu : g.use i = true) {x : Int} (hx : L (g.tw i) = some x) : Le (relax g L i (g.fr i)) (some (x + g.w i)) := by
 intro y hy
 obtain rfl := Option.some.inj hy
 unfold relax
 rw [if_pos hu, hx]
 dsimp only
 split
 ·exact ⟨_, by simp [put], Int.le_refl _⟩
 ·rename_i hl
  cases e : L (g.fr i) with
  | none => rw [e] at hl; simp [lts] at hl
  | some z => rw [e] at hl; exact ⟨z, rfl, by simp [lts] at hl; omega⟩
theorem sweep_le (g : G) (L : Nat → Option Int) (i s v : Nat) : Le (sweep g L (i + s) v) (sweep g L i v) := by
 induction s with
 | zero => exact Le.refl _
 | succ s ih => exact (relax_le g _ _ v).trans ih
theorem sweep_arc (g : G) (L : Nat → Option Int) {i : Nat} (hi : i < g.m) (hu : g.use i = true) {x : Int} (hx : L (g.tw i) = some x) : ∃ y, sweep g L g.m (g.fr i) = some y ∧ y ≤ x + g.w i := by
 have h0 := sweep_le g L 0 i (g.tw i)
 rw [Nat.zero_add] at h0
 obtain ⟨x', hx', h1⟩ := h0 x hx
 have h2 := relax_arc g (sweep g L i) i hu hx'
 have h3 := sweep_le g L (i + 1) (g.m - (i + 1)) (g.fr i)
 rw [show i + 1 + (g.m - (i + 1)) = g.m by omega] at h3
 obtain ⟨y, hy, h4⟩ := (h3.trans h2) _ rfl
 exact ⟨y, hy, by omega⟩
def Real (g : G) (t : Nat) (L : Nat → Option Int) : Prop := ∀ v x, L v = some x → ∃ k, Wk g v t k x
theorem relax_real {g : G} {t : Nat} {L : Nat → Option Int} (h : Real g t L) {i : Nat} (hi : i < g.m) : Real g t (relax g L i) := by
 intro v x hx
 rcases relax_cases g L i with ⟨e, _⟩ | ⟨hu, y, hy, hl, e⟩
 ·rw [e] at hx; exact h v x hx
 ·rw [e] at hx
  by_cases hv : v = g.fr i
  case neg => rw [put_far _ _ hv] at hx; exact h v x hx
  subst hv
  rw [put_same] at hx
  obtain rfl := Option.some.inj hx
  obtain ⟨k, hk⟩ := h _ _ hy
  exact ⟨k + 1, (Wk.cons hi hu hk).cast rfl (by omega)⟩
theorem sweep_real {g : G} {t : Nat} {L : Nat → Option Int} (h : Real g t L) : ∀ i, i ≤ g.m → Real g t (sweep g L i) := by
 intro i
 induction i with
 | zero => exact fun _ => h
 | succ i ih => exact fun hi => relax_real (ih (by omega)) (by omega)
theorem opt_of_fix {g : G} {t : Nat} {L : Nat → Option Int} (h : Real g t L) (ht : Le (L t) (some 0)) (hf : ∀ v, sweep g L g.m v = L v) : Opt g t L := by
 intro v hv0
 clear hv0
 refine ⟨fun x hx => h v x hx, fun k c hw => ?_⟩
 clear h
 induction hw with
 | nil =>
  obtain ⟨x, hx, h1⟩ := ht 0 rfl
  exact ⟨x, hx, h1⟩
 | cons hi hu _ ih =>
  obtain ⟨x, hx, h1⟩ := ih ht
  obtain ⟨y, hy, h2⟩ := sweep_arc g L hi hu hx
  rw [hf] at hy
  exact ⟨y, hy, by omega⟩
def start (t : Nat) : Nat → Option Int := fun v => if v = t then some 0 else none
def rounds (g : G) (t : Nat) : Nat → (Nat → Option Int)
 | 0 => start t
 | r + 1 => sweep g (rounds g t r) g.m
theorem start_real (g : G) (t : Nat) : Real g t (start t) := by
 intro v x hx
 unfold start at hx
 split at hx
 ·rename_i e
  obtain rfl := Option.some.inj hx
  subst e
  exact ⟨0, .nil _⟩
 ·cases hx
theorem rounds_real (g : G) (t : Nat) : ∀ r, Real g t (rounds g t r) := by
 intro r
 induction r with
 | zero => exact start_real g t
 | succ r ih => exact sweep_real ih _ (Nat.le_refl _)
theorem rounds_le (g : G) (t r s v : Nat) : Le (rounds g t (r + s) v) (rounds g t r v) := by
 induction s with
 | zero => exact Le.refl _
 | succ s ih =>
  have := sweep_le g (rounds g t (r + s)) 0 g.m v
  rw [Nat.zero_add] at this
  exact this.trans ih
theorem rounds_t (g : G) (t r : Nat) : Le (rounds g t r t) (some 0) := by
 have := rounds_le g t 0 r t
 rw [Nat.zero_add] at this
 exact this.trans (by simp [rounds, start]; exact Le.refl _)
theorem rounds_walk {g : G} {t r u k : Nat} {c : Int} (h : Wk g u t k c) (hk : k ≤ r) : ∃ x, rounds g t r u = some x ∧ x ≤ c := by
 induction h generalizing r with
 | nil => exact rounds_t g _ r 0 rfl
 | cons hi hu _ ih =>
  obtain ⟨r, rfl⟩ : ∃ q, r = q + 1 := ⟨r - 1, by omega⟩
  obtain ⟨x, hx, h1⟩ := ih (r := r) (by omega)
  obtain ⟨y, hy, h2⟩ := sweep_arc g _ hi hu hx
  exact ⟨y, hy, by omega⟩
theorem rounds_opt {g : G} (ok : g.Ok) {t r : Nat} (ht : t < g.n) (hr : g.n ≤ r + 1) : Opt g t (rounds g t r) := by
 intro v _
 refine ⟨fun x hx => rounds_real g t r v x hx, fun k c hw => ?_⟩
 obtain ⟨k', c', h1, h2, h3, h4⟩ := hw.short ok ht
 obtain ⟨x, hx, h5⟩ := rounds_walk (r := r) h1 (by omega)
 exact ⟨x, hx, by omega⟩
theorem relax_none {g : G} {L : Nat → Option Int} (hn : ∀ v, g.n ≤ v → L v = none) (ok : g.Ok) {i : Nat} (hi : i < g.m) : ∀ v, g.n ≤ v → relax g L i v = none := by
 intro v hv
 rcases relax_cases g L i with ⟨e, _⟩ | ⟨_, x, hx, hl, e⟩
 ·rw [e]; exact hn v hv
 ·rw [e, put_far _ _ (by have := ok.fl i hi; omega)]; exact hn v hv
theorem sweep_none {g : G} {L : Nat → Option Int} (ok : g.Ok) (hn : ∀ v, g.n ≤ v → L v = none) : ∀ i, i ≤ g.m → ∀ v, g.n ≤ v → sweep g L i v = none := by
 intro i
 induction i with
 | zero => exact fun _ => hn
 | succ i ih => exact fun hi => relax_none (ih (by omega)) ok (by omega)
theorem rounds_none {g : G} (ok : g.Ok) {t : Nat} (ht : t < g.n) : ∀ r v, g.n ≤ v → rounds g t r v = none := by
 intro r
 induction r with
 | zero => intro v hv; simp [rounds, start]; omega
 | succ r ih => exact sweep_none ok ih _ (Nat.le_refl _)
theorem rounds_fix {g : G} (ok : g.Ok) {t r : Nat} (ht : t < g.n) (hr : g.n ≤ r + 1) : ∀ v, rounds g t (r + 1) v = rounds g t r v := by
 intro v
 by_cases hv : v < g.n
 case pos => exact (rounds_opt ok ht (by omega)).uniq (rounds_opt ok ht hr) v hv
 rw [rounds_none ok ht _ v (by omega), rounds_none ok ht _ v (by omega)]
theorem sweep_same {g : G} {L : Nat → Option Int} (h : ∀ v, sweep g L g.m v = L v) {i : Nat} (hi : i ≤ g.m) : ∀ v, sweep g L i v = L v := by
 intro v
 have h1 := sweep_le g L 0 i v
 have h2 := sweep_le g L i (g.m - i) v
 rw [Nat.zero_add] at h1
 rw [show i + (g.m - i) = g.m by omega, h v] at h2
 cases e : L v with
 | none =>
  cases e' : sweep g L i v with
  | none => rfl
  | some y =>
   obtain ⟨x, hx, _⟩ := h2 y e'
   rw [e] at hx; cases hx
 | some x =>
  obtain ⟨y, hy, a1⟩ := h1 x (by simpa [sweep] using e)
  obtain ⟨x', hx', a2⟩ := h2 y hy
  rw [e] at hx'
  obtain rfl := Option.some.inj hx'
  rw [hy]; congr 1; omega
theorem relax_bd {g : G} {L : Nat → Option Int} {B : Int} (h : ∀ v x, L v = some x → 0 ≤ x ∧ x ≤ B) {i : Nat} {w1 : Int} (hw0 : 0 ≤ g.w i) (hw : g.w i ≤ w1) : ∀ v x, relax g L i v = some x → 0 ≤ x ∧ x ≤ B + w1 := by
 intro v x hx
 rcases relax_cases g L i with ⟨e, _⟩ | ⟨_, y, hy, hl, e⟩
 ·rw [e] at hx; have := h v x hx; omega
 ·rw [e] at hx
  by_cases hv : v = g.fr i
  case neg => rw [put_far _ _ hv] at hx; have := h v x hx; omega
  subst hv
  rw [put_same] at hx
  obtain rfl := Option.some.inj hx
  have := h _ _ hy; omega
end Go.Proofs.Ytljdcinpjnijcaa.Sp
namespace Go.Proofs.Ytljdcinpjnijcaa.Sp
structure Dbl (g e s : G) (D : Nat → Option Int) : Prop where
 en : e.n = g.n
 em : e.m = g.m
 ef : e.fr = g.fr
 et : e.tw = g.tw
 eu : e.use = g.use
 ew : ∀ i, i < g.m → e.w i = 1000 * g.w i + 1
 sn : s.n = g.n
 sm : s.m = g.m
 sf : s.fr = g.fr
 st : s.tw = g.tw
 sw : ∀ i, i < g.m → s.w i = 1
 su : ∀ i, i < g.m → (s.use i = true ↔ g.use i = true ∧ ∃ x, D (g.tw i) = some x ∧ D (g.fr i) = some (g.w i + x))
def both (D S : Nat → Option Int) : Nat → Option Int := fun v =>
 match D v with
 | none => none
 | some d => match S v with
  | none => none
  | some k => some (1000 * d + k)
section
variable {g e s : G} {t : Nat} {D S : Nat → Option Int} (h : Dbl g e s D) (ok : g.Ok) (hD : Opt g t D) (hS : Opt s t S) (ht : t < g.n)
include h
theorem Dbl.okS (ok : g.Ok) : s.Ok := by
 refine ⟨?_, ?_, ?_⟩
 ·rw [h.sf, h.sm, h.sn]; exact ok.fl
 ·rw [h.st, h.sm, h.sn]; exact ok.tl
 ·intro i hi
  rw [h.sm] at hi
  rw [h.sw i hi]; omega
theorem Dbl.toE {u v k : Nat} {c : Int} (w : Wk g u v k c) : Wk e u v k (1000 * c + k) := by
 induction w with
 | nil => exact (Wk.nil _).cast rfl (by omega)
 | @cons i v k c hi hu _ ih =>
  have h1 : Wk e (e.tw i) v k (1000 * c + k) := by rw [h.et]; exact ih
  have h2 := Wk.cons (i := i) (by rw [h.em]; exact hi) (by rw [h.eu]; exact hu) h1
  rw [h.ef, h.ew i hi] at h2
  exact h2.cast rfl (by omega)
theorem Dbl.ofE {u v k : Nat} {c : Int} (w : Wk e u v k c) : ∃ c', Wk g u v k c' ∧ c = 1000 * c' + k := by
 induction w with
 | nil => exact ⟨0, .nil _, by omega⟩
 | @cons i v k c hi hu _ ih =>
  obtain ⟨c', h1, h2⟩ := ih
  rw [h.em] at hi
  rw [h.eu] at hu
  rw [h.et] at h1
  refine ⟨g.w i + c', ?_, by rw [h.ew i hi]; omega⟩
  rw [h.ef]
  exact .cons hi hu h1
theorem Dbl.ofS (hD : Opt g t D) (ht : t < g.n) (ok : g.Ok) {u k : Nat} {c : Int} (w : Wk s u t k c) : ∃ d, D u = some d ∧ Wk g u t k d ∧ c = k := by
 generalize ev : t = v at w
 induction w with
 | nil v =>
  subst ev
  obtain ⟨x, hx, h1⟩ := (hD t ht).2 0 0 (.nil _)
  obtain ⟨k, hk⟩ := (hD t ht).1 x hx
  have := hk.nonneg ok
  have e0 : x = 0 := by omega
  subst e0
  exact ⟨0, hx, .nil _, rfl⟩
 | @cons i v k c hi hu _ ih =>
  obtain ⟨d, h1, h2, h3⟩ := ih ev
  rw [h.sm] at hi
  obtain ⟨g1, x, g2, g3⟩ := (h.su i hi).1 hu
  rw [h.st] at h1 h2
  rw [g2] at h1
  obtain rfl := Option.some.inj h1
  rw [h.sf]
  exact ⟨_, g3, .cons hi g1 h2, by rw [h.sw i hi, h3]; omega⟩
theorem Dbl.toS (hD : Opt g t D) (ok : g.Ok) {u k : Nat} {c : Int} (w : Wk g u t k c) (hc : D u = some c) : Wk s u t k k := by
 generalize ev : t = v at w
 induction w with
 | nil => exact .nil _
 | @cons i v k c hi hu w ih =>
  subst ev
  obtain ⟨x, hx, h1⟩ := (hD _ (ok.tl i hi)).2 k c w
  obtain ⟨j, hj⟩ := (hD _ (ok.tl i hi)).1 x hx
  obtain ⟨y, hy, h2⟩ := (hD _ (ok.fl i hi)).2 _ _ (Wk.cons hi hu hj)
  rw [hc] at hy
  obtain rfl := Option.some.inj hy
  have ex : x = c := by omega
  subst ex
  have h3 := ih hx rfl
  rw [← h.st] at h3
  have h4 := Wk.cons (i := i) (by rw [h.sm]; exact hi) ((h.su i hi).2 ⟨hu, x, hx, hc⟩) h3
  rw [h.sf, h.sw i hi] at h4
  exact h4.cast rfl (by omega)
theorem Dbl.some (hD : Opt g t D) (hS : Opt s t S) (ht : t < g.n) (ok : g.Ok) {v : Nat} (hv : v < g.n) {d : Int} (hd : D v = .some d) : ∃ k : Nat, S v = .some (k : Int) ∧ k < g.n ∧ Wk s v t k k := by
 obtain ⟨k, hk⟩ := (hD v hv).1 d hd
 have w := h.toS hD ok hk hd
 obtain ⟨x, hx, h1⟩ := (hS v (by rw [h.sn]; exact hv)).2 _ _ w
 obtain ⟨j, hj⟩ := (hS v (by rw [h.sn]; exact hv)).1 x hx
 obtain ⟨d', e1, e2, e3⟩ := h.ofS hD ht ok hj
 obtain ⟨j', c', w1, w2, w3, w4⟩ := hj.short (h.okS ok) (by rw [h.sn]; exact ht)
 obtain ⟨y, hy, h5⟩ := (hS v (by rw [h.sn]; exact hv)).2 _ _ w1
 rw [hx] at hy
 obtain rfl := Option.some.inj hy
 obtain ⟨_, _, _, e5⟩ := h.ofS hD ht ok w1
 rw [h.sn] at w2
 exact ⟨j, by rw [hx, e3], by omega, e3 ▸ hj⟩
theorem Dbl.opt (hD : Opt g t D) (hS : Opt s t S) (ht : t < g.n) (ok : g.Ok) (h8 : g.n ≤ 1000) : Opt e t (both D S) := by
 intro v hv
 rw [h.en] at hv
 constructor
 ·intro x hx
  unfold both at hx
  cases ed : D v with
  | none => rw [ed] at hx; cases hx
  | some d =>
   obtain ⟨k, hk, h1, h2⟩ := h.some hD hS ht ok hv ed
   rw [ed, hk] at hx
   obtain rfl := Option.some.inj hx
   obtain ⟨d', g1, g2, g3⟩ := h.ofS hD ht ok h2
   rw [ed] at g1
   obtain rfl := Option.some.inj g1
   exact ⟨k, h.toE g2⟩
 ·intro k c w
  obtain ⟨c', w1, rfl⟩ := h.ofE w
  obtain ⟨d, hd, h1⟩ := (hD v hv).2 _ _ w1
  obtain ⟨j, hj, h2, h3⟩ := h.some hD hS ht ok hv hd
  refine ⟨1000 * d + j, by simp [both, hd, hj], ?_⟩
  by_cases e0 : d = c'
  case neg => omega
  subst e0
  have w2 := h.toS hD ok w1 hd
  obtain ⟨x, hx, h4⟩ := (hS v (by rw [h.sn]; exact hv)).2 _ _ w2
  rw [hj] at hx
  obtain rfl := Option.some.inj hx
  omega
end
end Go.Proofs.Ytljdcinpjnijcaa.Sp
end
section
set_option linter.unusedSimpArgs false
set_option linter.unusedVariables false
set_option linter.unusedSectionVars false
namespace Go.Proofs.Ytljdcinpjnijcaa.Pure
open Go.RowKit Go.Proofs.Ytljdcinpjnijcaa.Pr Go.Proofs.YtljdcinpjnijcaaW.PrintWords Go.Proofs.YtljdcinpjnijcaaW.PrintLast Go.Proofs.YtljdcinpjnijcaaW.PrintMore
open Go.Proofs.Ytljdcinpjnijcaa.Sp (G Wk Opt lts put relax sweep rounds start Dbl)
def gr (N : Nat) (l : List Arc) : G := ⟨N, l.length, fun i => (arc l i).f0.toNat, fun i => (arc l i).f1.toNat, fun i => (arc l i).f2, fun _ => true⟩
def grE (N : Nat) (l : List Arc) : G := { gr N l with w := fun i => 1000 * (arc l i).f2 + 1 }
def grS (N : Nat) (l : List Arc) (D : Nat → Option Int) : G := { gr N l with w := fun _ => 1, use := fun i => match D (arc l i).f1.toNat with | none => false | some x => decide (D (arc l i).f0.toNat = some ((arc l i).f2 + x)) }
section
variable {N : Nat} {l : List Arc} (hg : NetGood N l)
include hg
theorem gr_ok : (gr N l).Ok := ⟨fun i hi => by have := hg.ok i hi; show (arc l i).f0.toNat < N; omega, fun i hi => by have := hg.ok i hi; show (arc l i).f1.toNat < N; omega, fun i hi => by have := hg.ok i hi; show 0 ≤ (arc l i).f2; omega⟩
theorem grE_ok : (grE N l).Ok := ⟨fun i hi => by have := hg.ok i hi; show (arc l i).f0.toNat < N; omega, fun i hi => by have := hg.ok i hi; show (arc l i).f1.toNat < N; omega, fun i hi => by have := hg.ok i hi; show 0 ≤ 1000 * (arc l i).f2 + 1; omega⟩
theorem grS_ok (D : Nat → Option Int) : (grS N l D).Ok := ⟨fun i hi => by have := hg.ok i hi; show (arc l i).f0.toNat < N; omega, fun i hi => by have := hg.ok i hi; show (arc l i).f1.toNat < N; omega, fun i hi => by show (0 : Int) ≤ 1; omega⟩
end
theorem dbl (N : Nat) (l : List Arc) (D : Nat → Option Int) : Dbl (gr N l) (grE N l) (grS N l D) D := by
 refine ⟨rfl, rfl, rfl, rfl, rfl, fun i _ => rfl, rfl, rfl, rfl, rfl, fun i _ => rfl, fun i _ => ?_⟩
 show (match D (arc l i).f1.toNat with | none => false | some x => decide (D (arc l i).f0.toNat = some ((arc l i).f2 + x))) = true ↔ _
 cases e : D (arc l i).f1.toNat with
 | none =>
  refine ⟨fun h => (by cases h), fun ⟨_, x, h, _⟩ => ?_⟩
  have h : D (arc l i).f1.toNat = some x := h
  rw [e] at h; cases h
 | some x =>
  dsimp only
  rw [decide_eq_true_iff]
  refine ⟨fun h => ⟨rfl, x, e, h⟩, fun ⟨_, y, h, h2⟩ => ?_⟩
  have h : D (arc l i).f1.toNat = some y := h
  rw [e] at h
  obtain rfl := Option.some.inj h
  exact h2
def dst (N : Nat) (l : List Arc) (t : Nat) : Nat → Option Int := rounds (gr N l) t N
def stp (N : Nat) (l : List Arc) (t : Nat) : Nat → Option Int := rounds (grS N l (dst N l t)) t N
section
variable {N : Nat} {l : List Arc} (hg : NetGood N l) {t : Nat} (ht : t < N)
include hg ht
theorem dst_opt : Opt (gr N l) t (dst N l t) := Sp.rounds_opt (gr_ok hg) ht (by show N ≤ N + 1; omega)
theorem stp_opt : Opt (grS N l (dst N l t)) t (stp N l t) := Sp.rounds_opt (grS_ok hg _) ht (by show N ≤ N + 1; omega)
theorem stp_some {v : Nat} (hv : v < N) {d : Int} (hd : dst N l t v = some d) : ∃ k : Nat, stp N l t v = some (k : Int) ∧ k < N := by
 obtain ⟨k, h1, h2, _⟩ := (dbl N l (dst N l t)).some (dst_opt hg ht) (stp_opt hg ht) ht (gr_ok hg) hv hd
 exact ⟨k, h1, h2⟩
theorem tow_both {v : Nat} (hv : v < N) : rounds (grE N l) t N v = Sp.both (dst N l t) (stp N l t) v := by
 have h8 := hg.n8
 have h1 := Sp.rounds_opt (g := grE N l) (t := t) (r := N) (grE_ok hg) ht (by show N ≤ N + 1; omega)
 have h2 := (dbl N l (dst N l t)).opt (dst_opt hg ht) (stp_opt hg ht) ht (gr_ok hg) (by show N ≤ 1000; omega)
 exact h1.uniq h2 v hv
end
abbrev Msr := S104
def ent : Option Int → Msr
 | none => ⟨99999, 0⟩
 | some x => ⟨x / 1000, x % 1000⟩
def far : Option Int → Int
 | none => 99999
 | some x => x
def lstM (N : Nat) (F : Nat → Msr) : List Msr := (List.range N).map F
theorem lstM_len (N : Nat) (F : Nat → Msr) : (lstM N F).length = N := by simp [lstM]
theorem lstM_rd {N v : Nat} (F : Nat → Msr) (h : v < N) : rd_T104 (lstM N F) (v : Int) = F v := by
 simp [rd_T104, lstM, h]
theorem lstM_congr {N : Nat} {F H : Nat → Msr} (h : ∀ v, v < N → F v = H v) : lstM N F = lstM N H := by
 unfold lstM
 exact List.map_congr_left (fun v hv => h v (List.mem_range.1 hv))
theorem lstM_set {N a : Nat} (L : Nat → Option Int) (x : Int) : (lstM N (fun v => ent (L v))).set a (ent (some x)) = lstM N (fun v => ent (put L a x v)) := by
 apply List.ext_getElem (by simp [lstM])
 intro i h1 h2
 simp only [List.getElem_set]
 by_cases e : a = i
 case pos => subst e; simp [lstM, put]
 simp [lstM, put, e, show ¬ i = a from fun h => e h.symm]
theorem less_eq (a b c d : Int) : impl_measure_less.f a b c d = some (decide (a < c ∨ a = c ∧ b < d)) := by
 unfold impl_measure_less.f
 by_cases h : a < c
 case pos => rw [if_pos h, decide_eq_true (.inl h)]
 rw [if_neg h]
 by_cases h2 : a = c
 case neg => rw [if_neg h2, decide_eq_false (fun h3 => h3.elim h (fun h4 => h2 h4.1))]
 rw [if_pos h2]
 congr 1
 simp only [decide_eq_decide]
 exact ⟨fun h3 => .inr ⟨h2, h3⟩, fun h3 => h3.elim (fun h4 => absurd h4 h) (fun h4 => h4.2)⟩
def Bd (s : Nat) (L : Nat → Option Int) : Prop := ∀ v x, L v = some x → 0 ≤ x ∧ x / 1000 ≤ 99 * (s : Int) ∧ x % 1000 ≤ (s : Int)
theorem Bd.relax {N : Nat} {l : List Arc} (hg : NetGood N l) {s : Nat} {L : Nat → Option Int} (h : Bd s L) (hs : s < 900) {i : Nat} (hi : i < l.length) : Bd (s + 1) (relax (grE N l) L i) := by
 obtain ⟨_, _, _, ⟨a1, a2⟩, _⟩ := hg.ok i hi
 intro v x hx
 rcases Sp.relax_cases (grE N l) L i with ⟨e, _⟩ | ⟨_, y, hy, hl, e⟩
 ·rw [e] at hx; have := h v x hx; omega
 ·rw [e] at hx
  by_cases hv : v = (grE N l).fr i
  case neg => rw [Sp.put_far _ _ hv] at hx; have := h v x hx; omega
  subst hv
  rw [Sp.put_same] at hx
  have hx : some (y + (1000 * (arc l i).f2 + 1)) = some x := hx
  obtain rfl := Option.some.inj hx
  have := h _ _ hy
  omega
theorem Bd.sweep {N : Nat} {l : List Arc} (hg : NetGood N l) {s : Nat} {L : Nat → Option Int} (h : Bd s L) : ∀ i, i ≤ l.length → s + i ≤ 900 → Bd (s + i) (sweep (grE N l) L i) := by
 intro i
 induction i with
 | zero => exact fun _ _ => h
 | succ i ih => exact fun hi hs => (ih (by omega) (by omega)).relax hg (by omega) (by omega)
theorem Bd.mono {s r : Nat} {L : Nat → Option Int} (h : Bd s L) (hs : s ≤ r) : Bd r L := fun v x hx => by have := h v x hx; omega
theorem Bd.rounds {N : Nat} {l : List Arc} (hg : NetGood N l) (t : Nat) : ∀ r, r ≤ 9 → Bd (16 * r) (rounds (grE N l) t r) := by
 intro r
 induction r with
 | zero =>
  intro _ v x hx
  unfold Sp.rounds Sp.start at hx
  split at hx
  ·obtain rfl := Option.some.inj hx; omega
  ·cases hx
 | succ r ih =>
  intro hr
  have := hg.len
  exact ((ih (by omega)).sweep hg l.length (Nat.le_refl _) (by omega)).mono (by omega)
def hit (g : G) (L : Nat → Option Int) (i : Nat) : Bool := match L (g.tw i) with
 | none => false
 | some x => lts (x + g.w i) (L (g.fr i))
def fl (g : G) (L : Nat → Option Int) : Nat → Bool
 | 0 => false
 | i + 1 => fl g L i || hit g (sweep g L i) i
theorem relax_hit {g : G} {L : Nat → Option Int} {i : Nat} (h : hit g L i = false) : relax g L i = L := by
 unfold hit at h
 unfold Sp.relax
 split
 ·cases e : L (g.tw i) with
  | none => rfl
  | some x => rw [e] at h; dsimp only at h ⊢; rw [h]; rfl
 ·rfl
theorem fl_none {g : G} {L : Nat → Option Int} : ∀ i, fl g L i = false → sweep g L i = L
 | 0, _ => rfl
 | i + 1, h => by
  have h : (fl g L i || hit g (sweep g L i) i) = false := h
  rw [Bool.or_eq_false_iff] at h
  show relax g (sweep g L i) i = L
  rw [relax_hit h.2, fl_none i h.1]
theorem fl_same {g : G} (hu : ∀ i, g.use i = true) {L : Nat → Option Int} (h : ∀ v, sweep g L g.m v = L v) : ∀ i, i ≤ g.m → fl g L i = false
 | 0, _ => rfl
 | i + 1, hi => by
  show (fl g L i || hit g (sweep g L i) i) = false
  rw [fl_same hu h i (by omega), Bool.false_or]
  have e1 : sweep g L i = L := funext (Sp.sweep_same h (by omega))
  have e2 : relax g L i = L := by
   have : sweep g L (i + 1) = L := funext (Sp.sweep_same h hi)
   have e3 : sweep g L (i + 1) = relax g (sweep g L i) i := rfl
   rw [e3, e1] at this
   exact this
  rw [e1]
  unfold hit
  unfold Sp.relax at e2
  rw [if_pos (hu i)] at e2
  cases e : L (g.tw i) with
  | none => rfl
  | some x =>
   rw [e] at e2
   dsimp only at e2 ⊢
   cases hl : lts (x + g.w i) (L (g.fr i)) with
   | false => rfl
   | true =>
    rw [if_pos hl] at e2
    have := congrFun e2 (g.fr i)
    rw [Sp.put_same] at this
    rw [← this] at hl
    simp [Sp.lts] at hl
section
variable {N : Nat} {l : List Arc} (hg : NetGood N l)
include hg
theorem tow_l1 (L : Nat → Option Int) {s : Nat} (hs : s ≤ 700) (hL : Bd s L) {R : List Msr} : ∀ (m i : Nat), l.length - i = m → i ≤ l.length →
  Ev (fun k => impl_Net_toward.l0 k (lstM N (fun v => ent (sweep (grE N l) L l.length v))) (fl (grE N l) L l.length) N l) R →
  Ev (fun k => impl_Net_toward.l1 k (lstM N (fun v => ent (sweep (grE N l) L i v))) (fl (grE N l) L i) l (l.length : Int) (i : Int) N l) R := by
 have h16 := hg.len
 intro m
 induction m with
 | zero =>
  intro i hd hi h
  have e : i = l.length := by omega
  subst e
  refine Ev.go ?_ (fun k => by rw [impl_Net_toward.l1])
  exact Ev.neg (by omega) h
 | succ m ih =>
  intro i hd hi h
  have hlt : i < l.length := by omega
  have hn := ih (i + 1) (by omega) (by omega) h
  clear ih h
  have hb := hL.sweep hg i hi (by omega)
  obtain ⟨⟨a1, a2⟩, ⟨a3, a4⟩, a5, ⟨a6, a7⟩, _⟩ := hg.ok i hlt
  have ef : (grE N l).fr i = (arc l i).f0.toNat := rfl
  have et : (grE N l).tw i = (arc l i).f1.toNat := rfl
  have ew : (grE N l).w i = 1000 * (arc l i).f2 + 1 := rfl
  obtain ⟨f, hf⟩ := Int.eq_ofNat_of_zero_le a1
  obtain ⟨t, ht⟩ := Int.eq_ofNat_of_zero_le a3
  rw [hf, Int.toNat_natCast] at ef
  rw [ht, Int.toNat_natCast] at et
  have hfN : f < N := by omega
  have htN : t < N := by omega
  have hsw : sweep (grE N l) L (i + 1) = relax (grE N l) (sweep (grE N l) L i) i := rfl
  have hfl : fl (grE N l) L (i + 1) = (fl (grE N l) L i || hit (grE N l) (sweep (grE N l) L i) i) := rfl
  rw [hsw, hfl] at hn
  clear hsw hfl
  generalize sweep (grE N l) L i = M at hn hb
  generalize fl (grE N l) L i = b at hn
  refine Ev.go ?_ (fun k => by rw [impl_Net_toward.l1])
  rw [rda, up1 hlt (by simp only [maxLen]; omega), hf, ht, lstM_rd _ htN, lstM_rd _ hfN, lstM_len]
  refine Ev.pos (by omega) (Ev.pos (by omega) (Ev.pos (by omega) (Ev.pos (by omega) (Ev.pos (by omega) ?_))))
  cases et2 : M t with
  | none =>
   have hh : hit (grE N l) M i = false := by unfold hit; rw [et, et2]
   rw [hh, relax_hit hh, Bool.or_false] at hn
   exact Ev.pos rfl hn
  | some x =>
   have hx := hb t x et2
   have hq : 0 ≤ x / 1000 := by omega
   have hr : 0 ≤ x % 1000 := by omega
   have w1 : wrap64 (x / 1000 + (arc l i).f2) = x / 1000 + (arc l i).f2 := w64 (by omega) (by omega)
   have w2 : wrap64 (x % 1000 + 1) = x % 1000 + 1 := w64 (by omega) (by omega)
   have e1 : (x + (1000 * (arc l i).f2 + 1)) / 1000 = x / 1000 + (arc l i).f2 := by omega
   have e2 : (x + (1000 * (arc l i).f2 + 1)) % 1000 = x % 1000 + 1 := by omega
   have eent : (⟨x / 1000 + (arc l i).f2, x % 1000 + 1⟩ : Msr) = ent (some (x + (1000 * (arc l i).f2 + 1))) := by simp only [ent, e1, e2]
   have hne : ¬ ((ent (some x)).f0 = 99999) := by show ¬ (x / 1000 = 99999); omega
   have elts : decide ((x / 1000 + (arc l i).f2) < (ent (M f)).f0 ∨ (x / 1000 + (arc l i).f2) = (ent (M f)).f0 ∧ (x % 1000 + 1) < (ent (M f)).f1) = lts (x + (1000 * (arc l i).f2 + 1)) (M f) := by
    cases ef2 : M f with
    | none => exact decide_eq_true (.inl (by show x / 1000 + (arc l i).f2 < 99999; omega))
    | some y =>
     have hy := hb f y ef2
     show decide (_ < y / 1000 ∨ _ = y / 1000 ∧ _ < y % 1000) = decide (_ < y)
     rw [decide_eq_decide]
     omega
   have hh : hit (grE N l) M i = lts (x + (1000 * (arc l i).f2 + 1)) (M f) := by unfold hit; rw [et, et2, ef, ew]
   have hre : relax (grE N l) M i = if lts (x + (1000 * (arc l i).f2 + 1)) (M f) = true then put M f (x + (1000 * (arc l i).f2 + 1)) else M := by
    unfold Sp.relax
    rw [if_pos (show (grE N l).use i = true from rfl), et, et2, ef, ew]
   rw [hh, hre] at hn
   clear hh hre
   refine Ev.neg hne ?_
   show Ev (fun k => if 0 ≤ ((f : Nat) : Int) then _ else _) R
   rw [show (ent (some x)).f0 = x / 1000 from rfl, show (ent (some x)).f1 = x % 1000 from rfl, w1, w2, Int.toNat_natCast, eent, lstM_set]
   clear w1 w2 hne
   refine Ev.pos (by omega) (Ev.pos (by omega) (Ev.bind0 (less_eq _ _ _ _) ?_))
   rw [elts]
   cases c : lts (x + (1000 * (arc l i).f2 + 1)) (M f) with
   | true =>
    rw [c, if_pos rfl, Bool.or_true] at hn
    exact Ev.pos rfl hn
   | false =>
    rw [c, if_neg (by simp), Bool.or_false] at hn
    exact Ev.neg (by simp) hn
theorem tow_l0 {t : Nat} (ht : t < N) : ∀ d r, r + d = N → Ev (fun k => impl_Net_toward.l0 k (lstM N (fun v => ent (rounds (grE N l) t r v))) true N l) (lstM N (fun v => ent (rounds (grE N l) t N v))) := by
 have h8 := hg.n8
 have stop : ∀ r, r ≤ N → fl (grE N l) (rounds (grE N l) t r) l.length = false → lstM N (fun v => ent (rounds (grE N l) t (r + 1) v)) = lstM N (fun v => ent (rounds (grE N l) t N v)) := by
  intro r hr hf
  have e := fl_none l.length hf
  have o1 : Opt (grE N l) t (rounds (grE N l) t r) := Sp.opt_of_fix (Sp.rounds_real _ _ _) (Sp.rounds_t _ _ _) (fun v => congrFun e v)
  have o2 := Sp.rounds_opt (g := grE N l) (t := t) (r := N) (grE_ok hg) ht (by show N ≤ N + 1; omega)
  refine lstM_congr (fun v hv => ?_)
  have e2 : rounds (grE N l) t (r + 1) = rounds (grE N l) t r := e
  rw [e2, o1.uniq o2 v hv]
 intro d
 induction d with
 | zero =>
  intro r hr
  obtain rfl : r = N := by omega
  refine Ev.go ?_ (fun k => by rw [impl_Net_toward.l0])
  refine Ev.pos rfl (tow_l1 hg (rounds (grE r l) t r) (s := 16 * r) (by omega) (Bd.rounds hg t r (by omega)) _ 0 rfl (Nat.zero_le _) ?_)
  have hf := fl_same (g := grE r l) (fun _ => rfl) (L := rounds (grE r l) t r) (Sp.rounds_fix (grE_ok hg) ht (by show r ≤ r + 1; omega)) l.length (Nat.le_refl _)
  rw [hf]
  refine Ev.go ?_ (fun k => by rw [impl_Net_toward.l0])
  exact Ev.neg (by simp) (Ev.is (stop r (Nat.le_refl _) hf))
 | succ d ih =>
  intro r hr
  refine Ev.go ?_ (fun k => by rw [impl_Net_toward.l0])
  refine Ev.pos rfl (tow_l1 hg (rounds (grE N l) t r) (s := 16 * r) (by omega) (Bd.rounds hg t r (by omega)) _ 0 rfl (Nat.zero_le _) ?_)
  cases hf : fl (grE N l) (rounds (grE N l) t r) l.length with
  | true => exact ih (r + 1) (by omega)
  | false =>
   refine Ev.go ?_ (fun k => by rw [impl_Net_toward.l0])
   exact Ev.neg (by simp) (Ev.is (stop r (by omega) hf))
theorem tow_ev {t : Nat} (ht : t < N) : Ev (fun k => impl_Net_toward.f k N l (t : Int)) (lstM N (fun v => ent (rounds (grE N l) t N v))) := by
 have h8 := hg.n8
 unfold impl_Net_toward.f
 refine Ev.bind0 (rep_measure _ N (by omega)) ?_
 refine Ev.pos (by omega) (Ev.pos (by simp; omega) ?_)
 have e : (List.replicate N (⟨99999, 0⟩ : Msr)).set (t : Int).toNat ⟨0, 0⟩ = lstM N (fun v => ent (rounds (grE N l) t 0 v)) := by
  apply List.ext_getElem (by simp [lstM])
  intro i h1 h2
  simp only [Int.toNat_natCast, List.getElem_set]
  by_cases c : t = i
  case pos => subst c; simp [lstM, Sp.rounds, Sp.start, ent]
  simp [lstM, Sp.rounds, Sp.start, ent, c, show ¬ i = t from fun h => c h.symm]
 rw [e]
 exact tow_l0 hg ht N 0 (by omega)
end
end Go.Proofs.Ytljdcinpjnijcaa.Pure
end
section
namespace Go.Proofs.Ytljdcinpjnijcaa.Pr
open Go.RowKit Go.Proofs.YtljdcinpjnijcaaW.PrintWords Go.Proofs.YtljdcinpjnijcaaW.PrintLast Go.Proofs.YtljdcinpjnijcaaW.PrintMore
attribute [local go_sem] max2_int min2_int max_two min_two max_three min_three max_four min_four
set_option linter.unusedVariables false
set_option linter.unusedSimpArgs false
mutual
def impl_WalkOk.j0 : Nat → List Int → Bool → Int → List (S34) → Option (Bool)
 | 0, _, _, _, _ => none
 | k + 1, x1, x14, q9, p6 => if x14 = true then (some false) else (impl_WalkOk.l0 k x1 x1 (x1.length : Int) 0 q9 p6)
def impl_WalkOk.l0 : Nat → List Int → List Int → Int → Int → Int → List (S34) → Option (Bool)
 | 0, _, _, _, _, _, _ => none
 | k + 1, x1, x15, x16, x17, q9, p6 => if x17 < x16 then (if 0 ≤ x17 then (if x17 < (x15.length : Int) then ((impl_within.f (rd x15 x17) 0 (wrap64 ((p6.length : Int) - 1))).bind fun t907 => (if t907 = true then (if x17 > 0 then (if 0 ≤ (wrap64 (x17 - 1)) then (if (wrap64 (x17 - 1)) < (x1.length : Int) then (if 0 ≤ (rd x1 (wrap64 (x17 - 1))) then (if (rd x1 (wrap64 (x17 - 1))) < (p6.length : Int) then (if 0 ≤ (rd x15 x17) then (if (rd x15 x17) < (p6.length : Int) then (if ((rd_T34 p6 (rd x1 (wrap64 (x17 - 1)))).f1) = ((rd_T34 p6 (rd x15 x17)).f0) then (impl_WalkOk.l0 k x1 x15 x16 (wrap64 (x17 + 1)) q9 p6) else (some false)) else (none)) else (none)) else (none)) else (none)) else (none)) else (none)) else (impl_WalkOk.l0 k x1 x15 x16 (wrap64 (x17 + 1)) q9 p6)) else (some false))) else (none)) else (none)) else (some true)
end
end Go.Proofs.Ytljdcinpjnijcaa.Pr
end
section
set_option linter.unusedSimpArgs false
set_option linter.unusedVariables false
set_option linter.unusedSectionVars false
namespace Go.Proofs.Ytljdcinpjnijcaa.Pure
open Go.RowKit Go.Proofs.Ytljdcinpjnijcaa.Pr Go.Proofs.YtljdcinpjnijcaaW.PrintWords Go.Proofs.YtljdcinpjnijcaaW.PrintLast Go.Proofs.YtljdcinpjnijcaaW.PrintMore
open Go.Proofs.Ytljdcinpjnijcaa.Sp (G Wk Opt)
def wkB (l : List Arc) : Option Int → List Int → Bool
 | _, [] => true
 | p, k :: w => (inB k 0 ((l.length : Int) - 1) && (match p with | none => true | some q => decide ((arc l q.toNat).f1 = (arc l k.toNat).f0))) && wkB l (some k) w
def Chain (l : List Arc) : Int → List Int → Int → Prop
 | u, [], v => u = v
 | u, k :: w, v => (0 ≤ k ∧ k < l.length ∧ (arc l k.toNat).f0 = u) ∧ Chain l (arc l k.toNat).f1 w v
def sumW (l : List Arc) (w : List Int) : Int := (w.map fun k => (arc l k.toNat).f2).sum
theorem sumW_bd {N : Nat} {l : List Arc} (hg : NetGood N l) : ∀ (w : List Int), (∀ k ∈ w, 0 ≤ k ∧ k < l.length) → 0 ≤ sumW l w ∧ sumW l w ≤ 99 * (w.length : Int)
 | [], _ => by simp [sumW]
 | k :: w, h => by
  have ih := sumW_bd hg w (fun x hx => h x (List.mem_cons_of_mem _ hx))
  have h1 := h k (List.mem_cons_self ..)
  have h2 := (hg.ok k.toNat (by omega)).2.2.2.1
  have e : sumW l (k :: w) = (arc l k.toNat).f2 + sumW l w := by simp [sumW]
  rw [e, List.length_cons]
  omega
theorem Chain.rng {l : List Arc} : ∀ (w : List Int) (u v : Int), Chain l u w v → ∀ k ∈ w, 0 ≤ k ∧ k < l.length
 | [], _, _, _, k, hk => by simp at hk
 | a :: w, u, v, h, k, hk => by
  rcases List.mem_cons.1 hk with rfl | hk
  ·exact ⟨h.1.1, h.1.2.1⟩
  ·exact Chain.rng w _ v h.2 k hk
def prv (w : List Int) : Nat → Option Int
 | 0 => none
 | i + 1 => some (nth w i)
theorem walkOk_l (n : Int) {l : List Arc} (hl : l.length ≤ 1000) {w : List Int} (hw : w.length ≤ 1000) : ∀ (m i : Nat), w.length - i = m → i ≤ w.length → (∀ q, prv w i = some q → 0 ≤ q ∧ q < l.length) → Ev (fun k => impl_WalkOk.l0 k w w (w.length : Int) (i : Int) n l) (wkB l (prv w i) (w.drop i)) := by
 intro m
 induction m with
 | zero =>
  intro i hd hi _
  refine Ev.go ?_ (fun k => by rw [impl_WalkOk.l0])
  rw [List.drop_of_length_le (by omega)]
  exact Ev.neg (by omega) (Ev.is (by cases prv w i <;> rfl))
 | succ m ih =>
  intro i hd hi hp
  have hlt : i < w.length := by omega
  refine Ev.go ?_ (fun k => by rw [impl_WalkOk.l0])
  rw [rdg i, up1 hlt (by simp only [maxLen]; omega), drop_cons hlt, ← nth_get hlt]
  refine Ev.pos (by omega) (Ev.pos (by omega) (Ev.pos (by omega) (Ev.bind0 (within1 _ _ _) ?_)))
  rw [w64 (n := (l.length : Int) - 1) (by omega) (by omega)]
  cases hb : inB (nth w i) 0 ((l.length : Int) - 1) with
  | false => exact Ev.neg (by simp) (Ev.is (by simp [wkB, hb]))
  | true =>
   have hk := inB_iff.1 hb
   have ih := ih (i + 1) (by omega) (by omega) (fun q hq => by obtain rfl := Option.some.inj hq; omega)
   refine Ev.pos rfl ?_
   cases i with
   | zero => exact Ev.neg (by omega) (ih.cast (by simp [wkB, hb, prv]))
   | succ j =>
    have hq := hp (nth w j) rfl
    have e : wrap64 (((j + 1 : Nat) : Int) - 1) = (j : Int) := by rw [w64 (by omega) (by omega)]; omega
    rw [e, rdg j]
    have ea : ∀ q : Int, 0 ≤ q → rd_T34 l q = arc l q.toNat := fun q h => by rw [← rda]; congr 1; omega
    rw [ea _ hq.1, ea _ hk.1]
    refine Ev.pos (by omega) (Ev.pos (by omega) (Ev.pos (by omega) (Ev.pos (by omega) (Ev.pos (by omega) (Ev.pos (by omega) (Ev.pos (by omega) ?_))))))
    by_cases c : (arc l (nth w j).toNat).f1 = (arc l (nth w (j + 1)).toNat).f0
    case neg => exact Ev.neg c (Ev.is (by simp [wkB, hb, prv, c]))
    exact Ev.pos c (ih.cast (by simp [wkB, hb, prv, c]))
theorem cost_l {N : Nat} {l : List Arc} (hg : NetGood N l) {w : List Int} (hw : w.length ≤ 1000) (hk : ∀ k ∈ w, 0 ≤ k ∧ k < l.length) : ∀ (m i : Nat), w.length - i = m → i ≤ w.length → Ev (fun k => impl_Net_cost.l0 k (sumW l (w.take i)) w (w.length : Int) (i : Int) N l) (sumW l w) := by
 intro m
 induction m with
 | zero =>
  intro i hd hi
  refine Ev.go ?_ (fun k => by rw [impl_Net_cost.l0])
  rw [List.take_of_length_le (by omega)]
  exact Ev.neg (by omega) (Ev.now _)
 | succ m ih =>
  intro i hd hi
  have hlt : i < w.length := by omega
  have h1 := hk w[i] (List.getElem_mem hlt)
  have h2 := (hg.ok w[i].toNat (by omega)).2.2.2.1
  have hb := sumW_bd hg (w.take i) (fun k hx => hk k (List.mem_of_mem_take hx))
  rw [List.length_take] at hb
  refine Ev.go ?_ (fun k => by rw [impl_Net_cost.l0])
  have ih := ih (i + 1) (by omega) (by omega)
  have e : sumW l (w.take (i + 1)) = sumW l (w.take i) + (arc l w[i].toNat).f2 := by
   unfold sumW
   rw [List.take_succ_eq_append_getElem hlt, List.map_append, List.sum_append_int, List.map_singleton, List.sum_singleton]
  rw [e] at ih
  have ea : rd_T34 l w[i] = arc l w[i].toNat := by rw [← rda]; congr 1; omega
  rw [rdg i, nth_get hlt, ea, up1 hlt (by simp only [maxLen]; omega), w64 (n := sumW l (w.take i) + _) (by omega) (by omega)]
  exact Ev.pos (by omega) (Ev.pos (by omega) (Ev.pos (by omega) (Ev.pos (by omega) (Ev.pos (by omega) ih))))
theorem cost_ev {N : Nat} {l : List Arc} (hg : NetGood N l) {w : List Int} (hw : w.length ≤ 1000) (hk : ∀ k ∈ w, 0 ≤ k ∧ k < l.length) : Ev (fun k => impl_Net_cost.f k N l w) (sumW l w) := by
 unfold impl_Net_cost.f
 simpa [sumW] using cost_l hg hw hk _ 0 rfl (Nat.zero_le _)
theorem back_arc' (l : List Arc) (i : Nat) : arc (back l) i = flip (arc l i) := by
 by_cases h : i < l.length
 case pos => exact back_arc h
 have e1 : arc (back l) i = z34 := by unfold arc; simp [rd_T34, back_len, List.getElem?_eq_none (show l.length ≤ i by omega), List.getElem?_eq_none (show (back l).length ≤ i by rw [back_len]; omega)]
 have e2 : arc l i = z34 := by unfold arc; simp [rd_T34, List.getElem?_eq_none (show l.length ≤ i by omega)]
 rw [e1, e2]; rfl
theorem back_back (l : List Arc) : back (back l) = l := by
 unfold back
 rw [List.map_map]
 have : (flip ∘ flip : Arc → Arc) = id := by funext a; rfl
 rw [this, List.map_id]
end Go.Proofs.Ytljdcinpjnijcaa.Pure
end
section
set_option linter.unusedSimpArgs false
set_option linter.unusedVariables false
set_option linter.unusedSectionVars false
namespace Go.Proofs.Ytljdcinpjnijcaa.Pure
open Go.RowKit Go.Proofs.Ytljdcinpjnijcaa.Pr Go.Proofs.YtljdcinpjnijcaaW.PrintWords Go.Proofs.YtljdcinpjnijcaaW.PrintLast Go.Proofs.YtljdcinpjnijcaaW.PrintMore
open Go.Proofs.Ytljdcinpjnijcaa.Sp (G Wk Opt)
def pA (N : Nat) (l : List Arc) (t u : Nat) (a : Arc) : Bool := decide (a.f0 = (u : Int)) && match dst N l t a.f1.toNat, stp N l t a.f1.toNat with
 | some x, some k => decide (dst N l t u = some (a.f2 + x)) && decide (stp N l t u = some (k + 1))
 | _, _ => false
def nxA (N : Nat) (l : List Arc) (t u : Nat) : Int := idxI (pA N l t u) l
def bestW (N : Nat) (l : List Arc) (t : Nat) : Nat → Nat → List Int
 | 0, _ => []
 | k + 1, u => nxA N l t u :: bestW N l t k (arc l (nxA N l t u).toNat).f1.toNat
theorem idxI_spec {α : Type} {p : α → Bool} {l : List α} (h : ∃ x ∈ l, p x = true) : ∃ i : Nat, ∃ hi : i < l.length, idxI p l = (i : Int) ∧ p l[i] = true ∧ ∀ j (hj : j < i), p (l[j]'(by omega)) = false := by
 unfold idxI
 cases e : l.findIdx? p with
 | none =>
  obtain ⟨x, hx, hp⟩ := h
  have := List.findIdx?_eq_none_iff.1 e x hx
  rw [this] at hp; cases hp
 | some i =>
  obtain ⟨hi, h1, h2⟩ := List.findIdx?_eq_some_iff_getElem.1 e
  exact ⟨i, hi, rfl, h1, fun j hj => by simpa using h2 j hj⟩
theorem wk_cost {N : Nat} {l : List Arc} (hg : NetGood N l) {u v k : Nat} {c : Int} (w : Wk (gr N l) u v k c) : c ≤ 99 * (k : Int) := by
 induction w with
 | nil => omega
 | @cons i _ _ c hi _ _ ih =>
  have h : (gr N l).w i ≤ 99 := (hg.ok i hi).2.2.2.1.2
  omega
section
variable {N : Nat} {l : List Arc} (hg : NetGood N l) {t : Nat} (ht : t < N)
include hg ht
theorem dst_t : dst N l t t = some 0 := by
 obtain ⟨x, h1, h2⟩ := (dst_opt hg ht t ht).2 0 0 (.nil t)
 obtain ⟨k, w⟩ := (dst_opt hg ht t ht).1 x h1
 have := w.nonneg (gr_ok hg)
 rw [h1]; congr 1; omega
theorem stp_t : stp N l t t = some 0 := by
 obtain ⟨x, h1, h2⟩ := (stp_opt hg ht t ht).2 0 0 (.nil t)
 obtain ⟨k, w⟩ := (stp_opt hg ht t ht).1 x h1
 have := w.nonneg (grS_ok hg _)
 rw [h1]; congr 1; omega
theorem dst_bd {v : Nat} (hv : v < N) {d : Int} (h : dst N l t v = some d) : 0 ≤ d ∧ d ≤ 693 := by
 have h8 := hg.n8
 obtain ⟨k, w⟩ := (dst_opt hg ht v hv).1 d h
 obtain ⟨k', c', w', h1, h2, h3⟩ := w.short (gr_ok hg) ht
 obtain ⟨x, h4, h5⟩ := (dst_opt hg ht v hv).2 _ _ w'
 rw [h] at h4
 obtain rfl := Option.some.inj h4
 have h6 := wk_cost hg w'
 have h7 : k' < N := h1
 exact ⟨w.nonneg (gr_ok hg), by omega⟩
theorem pA_some {u : Nat} (hu : u < N) (hne : u ≠ t) {d : Int} (hd : dst N l t u = some d) {k : Nat} (hk : stp N l t u = some (k : Int)) : ∃ a ∈ l, pA N l t u a = true := by
 obtain ⟨j, w⟩ := (stp_opt hg ht u hu).1 _ hk
 have hN := (dbl N l (dst N l t))
 generalize hc : (k : Int) = c at w
 cases w with
 | nil => exact absurd rfl hne
 | @cons i v _ c hi hus w =>
  have hil : i < l.length := hi
  have hok := hg.ok i hil
  have ew : (grS N l (dst N l t)).w i = 1 := rfl
  have ef : (grS N l (dst N l t)).fr i = (arc l i).f0.toNat := rfl
  have et : (grS N l (dst N l t)).tw i = (arc l i).f1.toNat := rfl
  rw [ew] at hc
  rw [et] at w
  rw [ef] at hu hd hk
  obtain ⟨_, x, e1, e2⟩ := (hN.su i hi).1 hus
  have e1 : dst N l t (arc l i).f1.toNat = some x := e1
  have e2 : dst N l t (arc l i).f0.toNat = some ((arc l i).f2 + x) := e2
  have h1N : (arc l i).f1.toNat < N := by omega
  obtain ⟨k', e3, h3⟩ := stp_some hg ht h1N e1
  obtain ⟨y, e4, h4⟩ := (stp_opt hg ht _ h1N).2 _ _ w
  rw [e3] at e4
  obtain rfl := Option.some.inj e4
  obtain ⟨j2, w2⟩ := (stp_opt hg ht _ h1N).1 _ e3
  have w3 := Wk.cons (g := grS N l (dst N l t)) (i := i) hi hus w2
  rw [ef] at w3
  obtain ⟨z, e5, h5⟩ := (stp_opt hg ht _ hu).2 _ _ w3
  rw [hk] at e5
  obtain rfl := Option.some.inj e5
  rw [ew] at h5
  refine ⟨arc l i, arc_mem hil, ?_⟩
  show (decide ((arc l i).f0 = (((arc l i).f0.toNat : Nat) : Int)) && _) = true
  rw [decide_eq_true (by omega), Bool.true_and, ef, e1, e3]
  dsimp only
  rw [decide_eq_true e2, Bool.true_and, hk]
  exact decide_eq_true (by congr 1; omega)
theorem nx_ok {u : Nat} (hu : u < N) (hne : u ≠ t) {d : Int} (hd : dst N l t u = some d) {k : Nat} (hk : stp N l t u = some (k : Int)) : ∃ i : Nat, nxA N l t u = (i : Int) ∧ i < l.length ∧ (arc l i).f0 = (u : Int) ∧ (arc l i).f1.toNat < N ∧ dst N l t (arc l i).f1.toNat = some (d - (arc l i).f2) ∧ 0 < k ∧ stp N l t (arc l i).f1.toNat = some ((k - 1 : Nat) : Int) ∧ pA N l t u (arc l i) = true ∧ ∀ j, j < i → pA N l t u (arc l j) = false := by
 obtain ⟨i, hi, e, hp, hf⟩ := idxI_spec (pA_some hg ht hu hne hd hk)
 rw [← arc_get hi] at hp
 have hp0 := hp
 unfold pA at hp
 rw [Bool.and_eq_true, decide_eq_true_eq] at hp
 obtain ⟨h1, h2⟩ := hp
 have hok := hg.ok i hi
 have h1N : (arc l i).f1.toNat < N := by omega
 cases e1 : dst N l t (arc l i).f1.toNat with
 | none => rw [e1] at h2; cases h2
 | some x =>
  obtain ⟨k', e2, _⟩ := stp_some hg ht h1N e1
  rw [e1, e2] at h2
  dsimp only at h2
  rw [Bool.and_eq_true, decide_eq_true_eq, decide_eq_true_eq, hd, hk] at h2
  have a1 := Option.some.inj h2.1
  have a2 := Option.some.inj h2.2
  refine ⟨i, e, hi, h1, h1N, by rw [show d - (arc l i).f2 = x by omega, e1], by omega, by rw [e2]; congr 1; omega, hp0, fun j hj => ?_⟩
  rw [arc_get (by omega)]
  exact hf j hj
theorem bestW_ok : ∀ (k u : Nat) (d : Int), u < N → dst N l t u = some d → stp N l t u = some (k : Int) → Chain l (u : Int) (bestW N l t k u) (t : Int) ∧ (bestW N l t k u).length = k ∧ sumW l (bestW N l t k u) = d
 | 0, u, d, hu, hd, hk => by
  have hut : u = t := by
   apply Classical.byContradiction
   intro hne
   obtain ⟨i, _, _, _, _, _, h0, _⟩ := nx_ok hg ht hu hne hd hk
   omega
  subst hut
  rw [dst_t hg ht] at hd
  exact ⟨rfl, rfl, Option.some.inj hd⟩
 | k + 1, u, d, hu, hd, hk => by
  have hne : u ≠ t := by
   rintro rfl
   rw [stp_t hg ht] at hk
   have := Option.some.inj hk
   omega
  obtain ⟨i, e, hi, h1, h2, h3, _, h4, _⟩ := nx_ok hg ht hu hne hd hk
  have hok := hg.ok i hi
  obtain ⟨a, b, c⟩ := bestW_ok k (arc l i).f1.toNat _ h2 h3 h4
  have e0 : bestW N l t (k + 1) u = (i : Int) :: bestW N l t k (arc l i).f1.toNat := by
   show nxA N l t u :: bestW N l t k (arc l (nxA N l t u).toNat).f1.toNat = _
   rw [e, Int.toNat_natCast]
  rw [e0]
  refine ⟨⟨⟨by omega, by omega, by rw [Int.toNat_natCast]; exact h1⟩, ?_⟩, by rw [List.length_cons, b], ?_⟩
  ·rw [Int.toNat_natCast]
   rw [show (((arc l i).f1.toNat : Nat) : Int) = (arc l i).f1 by omega] at a
   exact a
  ·have : sumW l ((i : Int) :: bestW N l t k (arc l i).f1.toNat) = (arc l i).f2 + sumW l (bestW N l t k (arc l i).f1.toNat) := by simp [sumW]
   rw [this, c]; omega
end
end Go.Proofs.Ytljdcinpjnijcaa.Pure
end
section
set_option linter.unusedSimpArgs false
set_option linter.unusedVariables false
set_option linter.unusedSectionVars false
namespace Go.Proofs.Ytljdcinpjnijcaa.Pure
open Go.RowKit Go.Proofs.Ytljdcinpjnijcaa.Pr Go.Proofs.YtljdcinpjnijcaaW.PrintWords Go.Proofs.YtljdcinpjnijcaaW.PrintLast Go.Proofs.YtljdcinpjnijcaaW.PrintMore
open Go.Proofs.Ytljdcinpjnijcaa.Sp (G Wk Opt rounds)
theorem idxI_congr {α : Type} {p q : α → Bool} {l : List α} (h : ∀ a ∈ l, p a = q a) : idxI p l = idxI q l := by
 have e : l.findIdx? p = l.findIdx? q := by
  induction l with
  | nil => rfl
  | cons a l ih =>
   rw [List.findIdx?_cons, List.findIdx?_cons, h a (List.mem_cons_self ..), ih (fun b hb => h b (List.mem_cons_of_mem _ hb))]
 unfold idxI
 rw [e]
section
variable {N : Nat} {l : List Arc} (hg : NetGood N l) {t : Nat} (ht : t < N)
include hg ht
theorem ent_none {v : Nat} (hv : v < N) (h : dst N l t v = none) : ent (rounds (grE N l) t N v) = ⟨99999, 0⟩ := by
 rw [tow_both hg ht hv]
 unfold Sp.both
 rw [h]; rfl
theorem ent_some {v : Nat} (hv : v < N) {d : Int} {k : Nat} (h : dst N l t v = some d) (hk : stp N l t v = some (k : Int)) : ent (rounds (grE N l) t N v) = ⟨d, (k : Int)⟩ := by
 have h8 := hg.n8
 obtain ⟨k', h1, h2⟩ := stp_some hg ht hv h
 rw [hk] at h1
 have := Option.some.inj h1
 rw [tow_both hg ht hv]
 unfold Sp.both
 rw [h, hk]
 show (⟨(1000 * d + (k : Int)) / 1000, (1000 * d + (k : Int)) % 1000⟩ : Msr) = ⟨d, (k : Int)⟩
 rw [show (1000 * d + (k : Int)) / 1000 = d by omega, show (1000 * d + (k : Int)) % 1000 = (k : Int) by omega]
theorem farc_pA {u : Nat} (hu : u < N) {d : Int} {k : Nat} (hd : dst N l t u = some d) (hk : stp N l t u = some (k : Int)) : ∀ a ∈ l, farc (lstM N (fun v => ent (rounds (grE N l) t N v))) (u : Int) ⟨d, (k : Int)⟩ a = pA N l t u a := by
 intro a ha
 have h8 := hg.n8
 obtain ⟨i, hi, e⟩ := List.getElem_of_mem ha
 have hok := hg.ok i hi
 rw [arc_get hi, e] at hok
 obtain ⟨v, hv⟩ := Int.eq_ofNat_of_zero_le hok.2.1.1
 have hvN : v < N := by omega
 unfold farc pA
 congr 1
 rw [hv, lstM_rd _ hvN, Int.toNat_natCast]
 cases e1 : dst N l t v with
 | none =>
  rw [ent_none hg ht hvN e1]
  simp
 | some x =>
  obtain ⟨k', e2, h2⟩ := stp_some hg ht hvN e1
  rw [ent_some hg ht hvN e1 e2, e2]
  have hx := dst_bd hg ht hvN e1
  have w1 : wrap64 (x + a.f2) = x + a.f2 := w64 (by omega) (by omega)
  have w2 : wrap64 ((k' : Int) + 1) = (k' : Int) + 1 := w64 (by omega) (by omega)
  dsimp only
  rw [w1, w2, decide_eq_false (show ¬ x = 99999 by omega), hd, hk]
  clear w1 w2
  simp only [Bool.not_false, Bool.true_and]
  congr 1
  ·rw [decide_eq_decide]
   exact ⟨fun h => by congr 1; omega, fun h => by have := Option.some.inj h; omega⟩
  ·rw [decide_eq_decide]
   exact ⟨fun h => by congr 1; omega, fun h => by have := Option.some.inj h; omega⟩
theorem best_l : ∀ (k u : Nat) (d : Int) (w : List Int), u < N → dst N l t u = some d → stp N l t u = some (k : Int) → w.length + k ≤ 100 → Ev (fun q => impl_Net_best.l0 q (u : Int) (t : Int) (lstM N (fun v => ent (rounds (grE N l) t N v))) w N l) (w ++ bestW N l t k u, true)
 | 0, u, d, w, hu, hd, hk, _ => by
  have hut : u = t := by
   apply Classical.byContradiction
   intro hne
   obtain ⟨i, _, _, _, _, _, h0, _⟩ := nx_ok hg ht hu hne hd hk
   omega
  subst hut
  refine Ev.go ?_ (fun k => by rw [impl_Net_best.l0])
  exact Ev.pos rfl (Ev.is (by simp [bestW]))
 | k + 1, u, d, w, hu, hd, hk, hw => by
  have h8 := hg.n8
  have hne : u ≠ t := by
   rintro rfl
   rw [stp_t hg ht] at hk
   have := Option.some.inj hk
   omega
  obtain ⟨i, e, hi, h1, h2, h3, _, h4, _⟩ := nx_ok hg ht hu hne hd hk
  have hok := hg.ok i hi
  have ih := best_l k (arc l i).f1.toNat _ (w ++ [(i : Int)]) h2 h3 h4 (by simp; omega)
  have e0 : bestW N l t (k + 1) u = (i : Int) :: bestW N l t k (arc l i).f1.toNat := by
   show nxA N l t u :: bestW N l t k (arc l (nxA N l t u).toNat).f1.toNat = _
   rw [e, Int.toNat_natCast]
  have ef : impl_Net_firstArc.f (N : Int) l (lstM N (fun v => ent (rounds (grE N l) t N v))) (u : Int) = some (i : Int) := by
   unfold impl_Net_firstArc.f
   rw [lstM_len, if_pos (by omega), if_pos (by omega), if_pos ?_, lstM_rd _ hu, ent_some hg ht hu hd hk, idxI_congr (farc_pA hg ht hu hd hk)]
   ·exact congrArg some e
   ·rw [List.all_eq_true]
    intro a ha
    obtain ⟨j, hj, ej⟩ := List.getElem_of_mem ha
    have := hg.ok j hj
    rw [arc_get hj, ej] at this
    simp
    omega
  refine Ev.go ?_ (fun k => by rw [impl_Net_best.l0])
  refine Ev.neg (by omega) (Ev.bind0 ef (Ev.pos (by omega) (Ev.pos (by omega) (Ev.pos (by omega) ?_))))
  rw [rda, show (arc l i).f1 = (((arc l i).f1.toNat : Nat) : Int) by omega]
  exact ih.cast (by rw [e0]; simp)
def bestV (N : Nat) (l : List Arc) (u t : Nat) : List Int × Bool := match dst N l t u, stp N l t u with
 | some _, some k => (bestW N l t k.toNat u, true)
 | _, _ => ([], false)
theorem best_ev {u : Nat} (hu : u < N) : Ev (fun q => impl_Net_best.f q N l (u : Int) (t : Int)) (bestV N l u t) := by
 have h8 := hg.n8
 unfold impl_Net_best.f bestV
 refine Ev.bind (tow_ev hg ht) ?_
 rw [lstM_len, lstM_rd _ hu]
 refine Ev.pos (by omega) (Ev.pos (by omega) ?_)
 cases e1 : dst N l t u with
 | none =>
  rw [ent_none hg ht hu e1]
  exact Ev.pos rfl (Ev.now _)
 | some d =>
  obtain ⟨k, e2, h2⟩ := stp_some hg ht hu e1
  have hx := dst_bd hg ht hu e1
  rw [ent_some hg ht hu e1 e2, e2]
  dsimp only
  rw [Int.toNat_natCast]
  exact Ev.neg (by omega) (Ev.pos (by omega) (Ev.pos (by omega) ((best_l hg ht k u d [] hu e1 e2 (by simp; omega)).cast (by simp))))
end
section
variable {N : Nat} {l : List Arc} (hg : NetGood N l)
include hg
end
end Go.Proofs.Ytljdcinpjnijcaa.Pure
end
section
set_option linter.unusedSimpArgs false
set_option linter.unusedVariables false
set_option linter.unusedSectionVars false
namespace Go.Proofs.Ytljdcinpjnijcaa.Pure
open Go.RowKit Go.Proofs.Ytljdcinpjnijcaa.Pr Go.Proofs.YtljdcinpjnijcaaW.PrintWords Go.Proofs.YtljdcinpjnijcaaW.PrintLast Go.Proofs.YtljdcinpjnijcaaW.PrintMore
open Go.Proofs.Ytljdcinpjnijcaa.Sp (G Wk Opt lts put relax sweep rounds start)
theorem lst_put {N a : Nat} (L : Nat → Option Int) (x : Int) : (lst N (fun v => far (L v))).set a x = lst N (fun v => far (put L a x v)) := by
 rw [lst_set]
 apply lst_congr
 intro v _
 unfold upd Sp.put
 split <;> rfl
theorem lst_fill (N i : Nat) (c : Int) (F : Nat → Int) (h : i < N) : (lst N (fun v => if v < i then c else F v)).set i c = lst N (fun v => if v < i + 1 then c else F v) := by
 rw [lst_set]
 apply lst_congr
 intro v _
 unfold upd
 by_cases e : v = i
 case pos => subst e; simp
 rw [if_neg e]
 show (if v < i then c else F v) = _
 by_cases e2 : v < i
 case neg => rw [if_neg e2, if_neg (by omega)]
 rw [if_pos e2, if_pos (by omega)]
theorem start_lst {N s : Nat} (hs : s < N) : (lst N (fun _ => (99999 : Int))).set s 0 = lst N (fun v => far (Sp.start s v)) := by
 rw [lst_set]
 apply lst_congr
 intro v _
 unfold upd Sp.start
 split <;> rfl
def Bw (w : Int) (s : Nat) (L : Nat → Option Int) : Prop := ∀ v x, L v = some x → 0 ≤ x ∧ x ≤ w * (s : Int)
theorem Bw.relax {g : G} {w : Int} {s : Nat} {L : Nat → Option Int} (h : Bw w s L) {i : Nat} (h0 : 0 ≤ g.w i) (h1 : g.w i ≤ w) : Bw w (s + 1) (relax g L i) := by
 intro v x hx
 have := Sp.relax_bd h h0 h1 v x hx
 refine ⟨this.1, ?_⟩
 have e : w * ((s + 1 : Nat) : Int) = w * (s : Int) + w := by rw [Int.natCast_add, Int.mul_add]; simp
 omega
theorem Bw.sweep {g : G} {w : Int} {s : Nat} {L : Nat → Option Int} (h : Bw w s L) (hw : ∀ i, i < g.m → 0 ≤ g.w i ∧ g.w i ≤ w) : ∀ i, i ≤ g.m → Bw w (s + i) (sweep g L i)
 | 0, _ => h
 | i + 1, hi => (Bw.sweep h hw i (by omega)).relax (hw i (by omega)).1 (hw i (by omega)).2
theorem Bw.rounds {g : G} {w : Int} (hw : ∀ i, i < g.m → 0 ≤ g.w i ∧ g.w i ≤ w) (t : Nat) : ∀ r, Bw w (g.m * r) (rounds g t r)
 | 0 => by
  intro v x hx
  unfold Sp.rounds Sp.start at hx
  split at hx
  ·obtain rfl := Option.some.inj hx; simp
  ·cases hx
 | r + 1 => by
  have := (Bw.rounds hw t r).sweep hw g.m (Nat.le_refl _)
  rw [Nat.mul_succ]
  exact this
section
variable {N : Nat} {l : List Arc} (hg : NetGood N l)
include hg
theorem back_gr_fr (i : Nat) : (gr N (back l)).fr i = (arc l i).f1.toNat := by show (arc (back l) i).f0.toNat = _; rw [back_arc']; rfl
theorem back_gr_tw (i : Nat) : (gr N (back l)).tw i = (arc l i).f0.toNat := by show (arc (back l) i).f1.toNat = _; rw [back_arc']; rfl
theorem back_gr_w (i : Nat) : (gr N (back l)).w i = (arc l i).f2 := by show (arc (back l) i).f2 = _; rw [back_arc']; rfl
theorem back_gr_m : (gr N (back l)).m = l.length := back_len l
theorem back_bw : ∀ i, i < (gr N (back l)).m → 0 ≤ (gr N (back l)).w i ∧ (gr N (back l)).w i ≤ 99 := by
 intro i hi
 rw [back_gr_m hg] at hi
 rw [back_gr_w hg]
 exact (hg.ok i hi).2.2.2.1
theorem l3All_arcs (r : Nat) {M : Nat → Option Int} {s : Nat} (hM : Bw 99 s M) (hs : s ≤ 500) (hr : r < N) {R : List Int} : ∀ (m i : Nat), l.length - i = m → i ≤ l.length →
  Ev (fun k => spec_l3All.l1 k (lst N (fun v => far (sweep (gr N (back l)) M l.length v))) ((r + 1 : Nat) : Int) N l) R →
  Ev (fun k => spec_l3All.l2 k (lst N (fun v => far (sweep (gr N (back l)) M i v))) (r : Int) (i : Int) N l) R := by
 have h8 := hg.n8
 have h16 := hg.len
 intro m
 induction m with
 | zero =>
  intro i hd hi h
  obtain rfl : i = l.length := by omega
  refine Ev.go ?_ (fun k => by rw [spec_l3All.l2])
  rw [up1 hr (by simp only [maxLen]; omega)]
  exact Ev.neg (by omega) h
 | succ m ih =>
  intro i hd hi h
  have hlt : i < l.length := by omega
  have hn := ih (i + 1) (by omega) (by omega) h
  clear ih h
  have hb := hM.sweep (back_bw hg) i (by rw [back_gr_m hg]; omega)
  have hsw : sweep (gr N (back l)) M (i + 1) = relax (gr N (back l)) (sweep (gr N (back l)) M i) i := rfl
  rw [hsw] at hn
  generalize sweep (gr N (back l)) M i = L at hn hb
  obtain ⟨⟨a1, a2⟩, ⟨a3, a4⟩, a5, ⟨a6, a7⟩, _⟩ := hg.ok i hlt
  have ef := back_gr_fr hg i
  have et := back_gr_tw hg i
  have ew := back_gr_w hg i
  obtain ⟨f, hf⟩ := Int.eq_ofNat_of_zero_le a1
  obtain ⟨t, ht⟩ := Int.eq_ofNat_of_zero_le a3
  rw [hf, Int.toNat_natCast] at et
  rw [ht, Int.toNat_natCast] at ef
  have hfN : f < N := by omega
  have htN : t < N := by omega
  refine Ev.go ?_ (fun k => by rw [spec_l3All.l2])
  rw [rda, up1 hlt (by simp only [maxLen]; omega), hf, ht, lst_rd _ htN, lst_rd _ hfN, lst_len]
  refine Ev.pos (by omega) (Ev.pos (by omega) (Ev.pos (by omega) (Ev.pos (by omega) ?_)))
  cases e2 : L f with
  | none =>
   have hre : relax (gr N (back l)) L i = L := by unfold Sp.relax; rw [if_pos (show (gr N (back l)).use i = true from rfl), et, e2]
   rw [hre] at hn
   exact Ev.neg (by show ¬ ((99999 : Int) < 99999); omega) hn
  | some x =>
   have hx := hb f x e2
   have w1 : wrap64 (x + (arc l i).f2) = x + (arc l i).f2 := w64 (by omega) (by omega)
   have hre : relax (gr N (back l)) L i = if lts (x + (arc l i).f2) (L t) = true then put L t (x + (arc l i).f2) else L := by
    unfold Sp.relax
    rw [if_pos (show (gr N (back l)).use i = true from rfl), et, e2, ef, ew]
   have elt : (x + (arc l i).f2 < far (L t)) ↔ lts (x + (arc l i).f2) (L t) = true := by
    cases e3 : L t with
    | none => exact ⟨fun _ => rfl, fun _ => by show x + _ < 99999; omega⟩
    | some y => exact ⟨fun h => decide_eq_true h, fun h => of_decide_eq_true h⟩
   rw [hre] at hn
   show Ev (fun k => if x < 99999 then _ else _) R
   rw [show far (some x) = x from rfl, w1, Int.toNat_natCast, lst_put]
   clear w1 hre
   refine Ev.pos (by omega) (Ev.pos (by omega) (Ev.pos (by omega) ?_))
   cases c : lts (x + (arc l i).f2) (L t) with
   | true =>
    rw [c, if_pos rfl] at hn
    exact Ev.pos (elt.2 c) hn
   | false =>
    rw [c, if_neg (by simp)] at hn
    exact Ev.neg (fun h => by rw [elt.1 h] at c; cases c) hn
theorem l3All_rounds {s : Nat} (hs : s < N) : ∀ (m r : Nat), N - r = m → r ≤ N → Ev (fun k => spec_l3All.l1 k (lst N (fun v => far (rounds (gr N (back l)) s r v))) (r : Int) N l) (lst N (fun v => far (dst N (back l) s v))) := by
 have h8 := hg.n8
 have h16 := hg.len
 intro m
 induction m with
 | zero =>
  intro r hd hr
  obtain rfl : r = N := by omega
  refine Ev.go ?_ (fun k => by rw [spec_l3All.l1])
  exact Ev.neg (by omega) (Ev.now _)
 | succ m ih =>
  intro r hd hr
  have hlt : r < N := by omega
  refine Ev.go ?_ (fun k => by rw [spec_l3All.l1])
  refine Ev.pos (by omega) ?_
  have hb := Bw.rounds (back_bw hg) s r
  rw [back_gr_m hg] at hb
  have h16r : l.length * r ≤ 16 * 8 := Nat.mul_le_mul h16 (by omega)
  refine l3All_arcs hg r hb (by omega) hlt _ 0 rfl (Nat.zero_le _) ?_
  have e : sweep (gr N (back l)) (rounds (gr N (back l)) s r) l.length = rounds (gr N (back l)) s (r + 1) := by
   show _ = sweep (gr N (back l)) (rounds (gr N (back l)) s r) (gr N (back l)).m
   rw [back_gr_m hg]
  rw [e]
  exact ih (r + 1) (by omega) (by omega)
theorem l3All_fill {s : Nat} (hs : s < N) : ∀ (m i : Nat), N - i = m → i ≤ N → Ev (fun k => spec_l3All.l0 k (s : Int) (lst N (fun v => if v < i then 99999 else 0)) (i : Int) N l) (lst N (fun v => far (dst N (back l) s v))) := by
 have h8 := hg.n8
 intro m
 induction m with
 | zero =>
  intro i hd hi
  obtain rfl : i = N := by omega
  refine Ev.go ?_ (fun k => by rw [spec_l3All.l0])
  have e : lst i (fun v => if v < i then (99999 : Int) else 0) = lst i (fun _ => 99999) := lst_congr (fun v hv => by rw [if_pos hv])
  rw [e, lst_len]
  refine Ev.neg (by omega) (Ev.pos (by omega) (Ev.pos (by omega) ?_))
  rw [Int.toNat_natCast, start_lst hs]
  exact (l3All_rounds hg hs _ 0 rfl (Nat.zero_le _))
 | succ m ih =>
  intro i hd hi
  have hlt : i < N := by omega
  refine Ev.go ?_ (fun k => by rw [spec_l3All.l0])
  rw [lst_len, Int.toNat_natCast, lst_fill N i 99999 (fun _ => 0) hlt, up1 hlt (by simp only [maxLen]; omega)]
  exact Ev.pos (by omega) (Ev.pos (by omega) (Ev.pos (by omega) (ih (i + 1) (by omega) (by omega))))
theorem zeros_lst : List.replicate N (0 : Int) = lst N (fun v => if v < 0 then 99999 else 0) := by
 apply List.ext_getElem (by simp [lst])
 intro i h1 h2
 simp [lst]
theorem l3All_ev {s : Nat} (hs : s < N) : Ev (fun k => spec_l3All.f k N l (s : Int)) (lst N (fun v => far (dst N (back l) s v))) := by
 have h8 := hg.n8
 unfold spec_l3All.f
 rw [Int.toNat_natCast, zeros_lst hg]
 exact Ev.pos (by omega) (Ev.pos (by omega) (l3All_fill hg hs _ 0 rfl (Nat.zero_le _)))
end
theorem l1Back_l (n m0 : Int) (l : List Arc) (hm : l.length ≤ 1000) : ∀ (m i : Nat), l.length - i = m → i ≤ l.length → Ev (fun k => spec_l1Back.l0 k (i : Int) n l m0 ((back l).take i)) (m0, back l) := by
 intro m
 induction m with
 | zero =>
  intro i hd hi
  refine Ev.go ?_ (fun k => by rw [spec_l1Back.l0])
  refine Ev.neg (by omega) (Ev.is ?_)
  rw [List.take_of_length_le (by rw [back_len]; omega)]
 | succ m ih =>
  intro i hd hi
  have hlt : i < l.length := by omega
  refine Ev.go ?_ (fun k => by rw [spec_l1Back.l0])
  have ih := ih (i + 1) (by omega) (by omega)
  have hlt2 : i < (back l).length := by rw [back_len]; exact hlt
  rw [List.take_succ_eq_append_getElem hlt2, ← arc_get hlt2, back_arc hlt] at ih
  rw [up1 hlt (by simp only [maxLen]; omega), rda]
  exact Ev.pos (by omega) (Ev.pos (by omega) (Ev.pos (by simp; omega) ih))
theorem l1Back_ev (n : Int) (l : List Arc) (hm : l.length ≤ 1000) : Ev (fun k => spec_l1Back.f k n l) (n, back l) := by
 unfold spec_l1Back.f
 simpa using l1Back_l n n l hm _ 0 rfl (Nat.zero_le _)
end Go.Proofs.Ytljdcinpjnijcaa.Pure
end
section
set_option linter.unusedSimpArgs false
set_option linter.unusedVariables false
set_option linter.unusedSectionVars false
namespace Go.Proofs.Ytljdcinpjnijcaa.Pure
open Go.RowKit Go.Proofs.Ytljdcinpjnijcaa.Pr Go.Proofs.YtljdcinpjnijcaaW.PrintWords Go.Proofs.YtljdcinpjnijcaaW.PrintLast Go.Proofs.YtljdcinpjnijcaaW.PrintMore
open Go.Proofs.Ytljdcinpjnijcaa.Sp (G Wk Opt lts put relax sweep rounds start)
def walkW (N : Nat) (l : List Arc) (u t : Nat) : List Int × Bool := match dst N l t u, stp N l t u with
 | some _, some k => (bestW N l t k.toNat u, true)
 | _, _ => ([], false)
section
variable {N : Nat} {l : List Arc} (hg : NetGood N l) {t : Nat} (ht : t < N)
include hg ht
theorem l3Steps_arcs (r : Nat) {M : Nat → Option Int} {s : Nat} (hM : Bw 1 s M) (hs : s ≤ 500) (hr : r < N) {R : List Int} : ∀ (m i : Nat), l.length - i = m → i ≤ l.length →
  Ev (fun k => spec_l3Steps.l1 k (lst N (fun v => far (dst N l t v))) (lst N (fun v => far (sweep (grS N l (dst N l t)) M l.length v))) ((r + 1 : Nat) : Int) N l) R →
  Ev (fun k => spec_l3Steps.l2 k (lst N (fun v => far (dst N l t v))) (lst N (fun v => far (sweep (grS N l (dst N l t)) M i v))) (r : Int) (i : Int) N l) R := by
 have h8 := hg.n8
 have h16 := hg.len
 intro m
 induction m with
 | zero =>
  intro i hd hi h
  obtain rfl : i = l.length := by omega
  refine Ev.go ?_ (fun k => by rw [spec_l3Steps.l2])
  rw [up1 hr (by simp only [maxLen]; omega)]
  exact Ev.neg (by omega) h
 | succ m ih =>
  intro i hd hi h
  have hlt : i < l.length := by omega
  have hn := ih (i + 1) (by omega) (by omega) h
  clear ih h
  have hb := hM.sweep (g := grS N l (dst N l t)) (fun i _ => ⟨by show (0 : Int) ≤ 1; omega, by show (1 : Int) ≤ 1; omega⟩) i hi
  have hsw : sweep (grS N l (dst N l t)) M (i + 1) = relax (grS N l (dst N l t)) (sweep (grS N l (dst N l t)) M i) i := rfl
  rw [hsw] at hn
  clear hsw
  generalize sweep (grS N l (dst N l t)) M i = L at hn hb
  obtain ⟨⟨a1, a2⟩, ⟨a3, a4⟩, a5, ⟨a6, a7⟩, _⟩ := hg.ok i hlt
  have ef : (grS N l (dst N l t)).fr i = (arc l i).f0.toNat := rfl
  have et : (grS N l (dst N l t)).tw i = (arc l i).f1.toNat := rfl
  have ew : (grS N l (dst N l t)).w i = 1 := rfl
  have eu : (grS N l (dst N l t)).use i = (match dst N l t (arc l i).f1.toNat with | none => false | some x => decide (dst N l t (arc l i).f0.toNat = some ((arc l i).f2 + x))) := rfl
  obtain ⟨f, hf⟩ := Int.eq_ofNat_of_zero_le a1
  obtain ⟨g, hgg⟩ := Int.eq_ofNat_of_zero_le a3
  rw [hf, Int.toNat_natCast] at ef
  rw [hgg, Int.toNat_natCast] at et
  rw [hf, hgg, Int.toNat_natCast, Int.toNat_natCast] at eu
  have hfN : f < N := by omega
  have hgN : g < N := by omega
  refine Ev.go ?_ (fun k => by rw [spec_l3Steps.l2])
  rw [rda, up1 hlt (by simp only [maxLen]; omega), hf, hgg, lst_rd _ hfN, lst_rd _ hgN, lst_rd _ hfN, lst_rd _ hgN, lst_len, lst_len]
  refine Ev.pos (by omega) (Ev.pos (by omega) (Ev.pos (by omega) (Ev.pos (by omega) ?_)))
  cases e1 : dst N l t g with
  | none =>
   rw [e1] at eu
   have hre : relax (grS N l (dst N l t)) L i = L := by unfold Sp.relax; rw [eu]; rfl
   rw [hre] at hn
   exact Ev.neg (by show ¬ ((99999 : Int) < 99999); omega) hn
  | some x =>
   have hx := dst_bd hg ht hgN e1
   rw [e1] at eu
   dsimp only at eu
   have w1 : wrap64 ((arc l i).f2 + x) = (arc l i).f2 + x := w64 (by omega) (by omega)
   show Ev (fun k => if x < 99999 then _ else _) R
   rw [show far (some x) = x from rfl, w1]
   clear w1
   refine Ev.pos (by omega) (Ev.pos (by omega) (Ev.pos (by omega) ?_))
   by_cases c : dst N l t f = some ((arc l i).f2 + x)
   case neg =>
    rw [decide_eq_false c] at eu
    have hre : relax (grS N l (dst N l t)) L i = L := by unfold Sp.relax; rw [eu]; rfl
    rw [hre] at hn
    refine Ev.neg ?_ hn
    intro h
    apply c
    cases e3 : dst N l t f with
    | none => rw [e3] at h; have h : (99999 : Int) = (arc l i).f2 + x := h; omega
    | some z => rw [e3] at h; have h : z = (arc l i).f2 + x := h; rw [h]
   rw [decide_eq_true c] at eu
   refine Ev.pos (by rw [c]; rfl) (Ev.pos (by omega) (Ev.pos (by omega) ?_))
   cases e2 : L g with
   | none =>
    have hre : relax (grS N l (dst N l t)) L i = L := by unfold Sp.relax; rw [if_pos eu, et, e2]
    rw [hre] at hn
    have hle : far (L f) ≤ 99999 := by
     cases e3 : L f with
     | none => exact Int.le_refl _
     | some y => have := hb f y e3; show y ≤ 99999; omega
    have w2 : wrap64 (far none + 1) = 100000 := w64 (by decide) (by decide)
    rw [w2]
    clear w2
    exact Ev.neg (by omega) hn
   | some y =>
    have hy := hb g y e2
    have w2 : wrap64 (far (some y) + 1) = y + 1 := w64 (by show _ ≤ y + 1; omega) (by show y + 1 ≤ _; omega)
    have hre : relax (grS N l (dst N l t)) L i = if lts (y + 1) (L f) = true then put L f (y + 1) else L := by
     unfold Sp.relax
     rw [if_pos eu, et, e2, ef, ew]
    have elt : (y + 1 < far (L f)) ↔ lts (y + 1) (L f) = true := by
     cases e3 : L f with
     | none => exact ⟨fun _ => rfl, fun _ => by show y + 1 < 99999; omega⟩
     | some z => exact ⟨fun h => decide_eq_true h, fun h => of_decide_eq_true h⟩
    rw [hre] at hn
    rw [w2, Int.toNat_natCast, lst_put]
    clear w2 hre
    cases c2 : lts (y + 1) (L f) with
    | true =>
     rw [c2, if_pos rfl] at hn
     exact Ev.pos (elt.2 c2) hn
    | false =>
     rw [c2, if_neg (by simp)] at hn
     exact Ev.neg (fun h => by rw [elt.1 h] at c2; cases c2) hn
theorem l3Steps_rounds : ∀ (m r : Nat), N - r = m → r ≤ N → Ev (fun k => spec_l3Steps.l1 k (lst N (fun v => far (dst N l t v))) (lst N (fun v => far (rounds (grS N l (dst N l t)) t r v))) (r : Int) N l) (lst N (fun v => far (stp N l t v))) := by
 have h8 := hg.n8
 have h16 := hg.len
 intro m
 induction m with
 | zero =>
  intro r hd hr
  obtain rfl : r = N := by omega
  refine Ev.go ?_ (fun k => by rw [spec_l3Steps.l1])
  exact Ev.neg (by omega) (Ev.now _)
 | succ m ih =>
  intro r hd hr
  have hlt : r < N := by omega
  refine Ev.go ?_ (fun k => by rw [spec_l3Steps.l1])
  refine Ev.pos (by omega) ?_
  have hb := Bw.rounds (g := grS N l (dst N l t)) (w := 1) (fun i _ => ⟨by show (0 : Int) ≤ 1; omega, by show (1 : Int) ≤ 1; omega⟩) t r
  have h16r : (grS N l (dst N l t)).m * r ≤ 16 * 8 := Nat.mul_le_mul h16 (by omega)
  exact l3Steps_arcs hg ht r hb (by omega) hlt _ 0 rfl (Nat.zero_le _) (ih (r + 1) (by omega) (by omega))
theorem l3Steps_fill : ∀ (m i : Nat), N - i = m → i ≤ N → Ev (fun k => spec_l3Steps.l0 k (t : Int) (lst N (fun v => far (dst N l t v))) (lst N (fun v => if v < i then 99999 else 0)) (i : Int) N l) (lst N (fun v => far (stp N l t v))) := by
 have h8 := hg.n8
 intro m
 induction m with
 | zero =>
  intro i hd hi
  obtain rfl : i = N := by omega
  refine Ev.go ?_ (fun k => by rw [spec_l3Steps.l0])
  have e : lst i (fun v => if v < i then (99999 : Int) else 0) = lst i (fun _ => 99999) := lst_congr (fun v hv => by rw [if_pos hv])
  rw [e, lst_len]
  refine Ev.neg (by omega) (Ev.pos (by omega) (Ev.pos (by omega) ?_))
  rw [Int.toNat_natCast, start_lst ht]
  exact (l3Steps_rounds hg ht _ 0 rfl (Nat.zero_le _))
 | succ m ih =>
  intro i hd hi
  have hlt : i < N := by omega
  refine Ev.go ?_ (fun k => by rw [spec_l3Steps.l0])
  rw [lst_len, Int.toNat_natCast, lst_fill N i 99999 (fun _ => 0) hlt, up1 hlt (by simp only [maxLen]; omega)]
  exact Ev.pos (by omega) (Ev.pos (by omega) (Ev.pos (by omega) (ih (i + 1) (by omega) (by omega))))
theorem l3All_back : Ev (fun k => spec_l3All.f k N (back l) (t : Int)) (lst N (fun v => far (dst N l t v))) := by
 have := l3All_ev (back_good hg) ht
 rw [back_back] at this
 exact this
theorem l3Steps_ev : Ev (fun k => spec_l3Steps.f k N l (t : Int)) (lst N (fun v => far (stp N l t v))) := by
 have h8 := hg.n8
 have h16 := hg.len
 unfold spec_l3Steps.f
 refine Ev.bind (l1Back_ev _ l (by omega)) (Ev.bind (l3All_back hg ht) (Ev.pos (by omega) (Ev.pos (by omega) ?_)))
 rw [Int.toNat_natCast, zeros_lst hg]
 exact l3Steps_fill hg ht _ 0 rfl (Nat.zero_le _)
theorem l3Walk_scan {u : Nat} (hu : u < N) {d : Int} (hd : dst N l t u = some d) {k : Nat} (hk : stp N l t u = some (k : Int)) (w : List Int) (hw : w.length ≤ 1000) {i0 : Nat} (hi0 : i0 < l.length) (hp : pA N l t u (arc l i0) = true) (hf : ∀ j, j < i0 → pA N l t u (arc l j) = false) {R : List Int × Bool}
  (h : Ev (fun k => spec_l3Walk.l0 k (t : Int) (lst N (fun v => far (dst N l t v))) (lst N (fun v => far (stp N l t v))) (w ++ [(i0 : Int)]) (arc l i0).f1 N l) R) :
  ∀ (m i : Nat), i0 - i = m → i ≤ i0 → Ev (fun k => spec_l3Walk.l1 k (t : Int) (lst N (fun v => far (dst N l t v))) (lst N (fun v => far (stp N l t v))) w (u : Int) (i : Int) N l) R := by
 have h8 := hg.n8
 have h16 := hg.len
 have hdb := dst_bd hg ht hu hd
 have key : ∀ (i : Nat), i < l.length → ∀ (A B : Nat → Option (List Int × Bool)), (pA N l t u (arc l i) = true → Ev A R) → (pA N l t u (arc l i) = false → Ev B R) →
   Ev (fun k => if (arc l i).f0 = (u : Int) then (if 0 ≤ (arc l i).f1 then (if (arc l i).f1 < ((lst N (fun v => far (dst N l t v))).length : Int) then (if (rd (lst N (fun v => far (dst N l t v))) ((arc l i).f1)) < 99999 then (if 0 ≤ (u : Int) then (if (u : Int) < ((lst N (fun v => far (dst N l t v))).length : Int) then (if (rd (lst N (fun v => far (dst N l t v))) (u : Int)) = (wrap64 ((arc l i).f2 + (rd (lst N (fun v => far (dst N l t v))) ((arc l i).f1)))) then (if (u : Int) < ((lst N (fun v => far (stp N l t v))).length : Int) then (if (arc l i).f1 < ((lst N (fun v => far (stp N l t v))).length : Int) then (if (rd (lst N (fun v => far (stp N l t v))) (u : Int)) = (wrap64 ((rd (lst N (fun v => far (stp N l t v))) ((arc l i).f1)) + 1)) then A k else B k) else none) else none) else B k) else none) else none) else B k) else none) else none) else B k) R := by
  intro i hi A B hA hB
  have hok := hg.ok i hi
  obtain ⟨g, hgg⟩ := Int.eq_ofNat_of_zero_le hok.2.1.1
  have hgN : g < N := by omega
  have ep : pA N l t u (arc l i) = (decide ((arc l i).f0 = (u : Int)) && match dst N l t g, stp N l t g with | some x, some k' => decide (dst N l t u = some ((arc l i).f2 + x)) && decide (stp N l t u = some (k' + 1)) | _, _ => false) := by
   unfold pA
   rw [hgg, Int.toNat_natCast]
   all_goals (cases dst N l t g <;> cases stp N l t g <;> rfl)
  by_cases c1 : (arc l i).f0 = (u : Int)
  case neg =>
   rw [decide_eq_false c1, Bool.false_and] at ep
   exact Ev.neg c1 (hB ep)
  rw [decide_eq_true c1, Bool.true_and] at ep
  refine Ev.pos c1 ?_
  rw [hgg, lst_rd _ hgN, lst_rd _ hu, lst_rd _ hgN, lst_rd _ hu, lst_len, lst_len]
  refine Ev.pos (by omega) (Ev.pos (by omega) ?_)
  cases e1 : dst N l t g with
  | none =>
   rw [e1] at ep
   exact Ev.neg (by show ¬ ((99999 : Int) < 99999); omega) (hB ep)
  | some x =>
   obtain ⟨k', e2, h2⟩ := stp_some hg ht hgN e1
   have hx := dst_bd hg ht hgN e1
   rw [e1, e2, hd, hk] at ep
   dsimp only at ep
   have w1 : wrap64 ((arc l i).f2 + far (some x)) = (arc l i).f2 + x := w64 (by show _ ≤ (arc l i).f2 + x; omega) (by show (arc l i).f2 + x ≤ _; omega)
   have w2 : wrap64 (far (some (k' : Int)) + 1) = (k' : Int) + 1 := w64 (by show _ ≤ (k' : Int) + 1; omega) (by show (k' : Int) + 1 ≤ _; omega)
   rw [e2, hd, hk, w1, w2]
   clear w1 w2
   refine Ev.pos (by show x < 99999; omega) (Ev.pos (by omega) (Ev.pos (by omega) ?_))
   by_cases c2 : d = (arc l i).f2 + x
   case neg =>
    refine Ev.neg (show ¬ far (some d) = _ from c2) (hB ?_)
    rw [decide_eq_false (fun h => c2 (Option.some.inj h)), Bool.false_and] at ep
    exact ep
   refine Ev.pos (show far (some d) = _ from c2) (Ev.pos (by omega) (Ev.pos (by omega) ?_))
   rw [decide_eq_true (show some d = some ((arc l i).f2 + x) by rw [c2]), Bool.true_and] at ep
   by_cases c3 : (k : Int) = (k' : Int) + 1
   case pos => exact Ev.pos (show far (some (k : Int)) = _ from c3) (hA (ep.trans (decide_eq_true (by rw [c3]))))
   exact Ev.neg (show ¬ far (some (k : Int)) = _ from c3) (hB (ep.trans (decide_eq_false (fun h => c3 (Option.some.inj h)))))
 intro m
 induction m with
 | zero =>
  intro i hd' hi
  obtain rfl : i = i0 := by omega
  refine Ev.go ?_ (fun k => by rw [spec_l3Walk.l1])
  refine Ev.pos (by omega) (Ev.pos (by omega) ?_)
  rw [rda]
  exact key i hi0 _ _ (fun _ => Ev.pos (by omega) h) (fun hc => by rw [hp] at hc; cases hc)
 | succ m ih =>
  intro i hd' hi
  have hlt : i < l.length := by omega
  have ih := ih (i + 1) (by omega) (by omega)
  rw [← up1 hlt (by simp only [maxLen]; omega)] at ih
  refine Ev.go ?_ (fun k => by rw [spec_l3Walk.l1])
  refine Ev.pos (by omega) (Ev.pos (by omega) ?_)
  rw [rda]
  exact key i hlt _ _ (fun hc => by rw [hf i (by omega)] at hc; cases hc) (fun _ => ih)
theorem l3Walk_l : ∀ (k u : Nat) (d : Int) (w : List Int), u < N → dst N l t u = some d → stp N l t u = some (k : Int) → w.length + k ≤ 100 → Ev (fun q => spec_l3Walk.l0 q (t : Int) (lst N (fun v => far (dst N l t v))) (lst N (fun v => far (stp N l t v))) w (u : Int) N l) (w ++ bestW N l t k u, true)
 | 0, u, d, w, hu, hd, hk, _ => by
  have hut : u = t := by
   apply Classical.byContradiction
   intro hne
   obtain ⟨i, _, _, _, _, _, h0, _⟩ := nx_ok hg ht hu hne hd hk
   omega
  subst hut
  refine Ev.go ?_ (fun k => by rw [spec_l3Walk.l0])
  exact Ev.pos rfl (Ev.is (by simp [bestW]))
 | k + 1, u, d, w, hu, hd, hk, hw => by
  have hne : u ≠ t := by
   rintro rfl
   rw [stp_t hg ht] at hk
   have := Option.some.inj hk
   omega
  obtain ⟨i, e, hi, h1, h2, h3, _, h4, h5, h6⟩ := nx_ok hg ht hu hne hd hk
  have hok := hg.ok i hi
  have ih := l3Walk_l k (arc l i).f1.toNat _ (w ++ [(i : Int)]) h2 h3 h4 (by simp; omega)
  have e0 : bestW N l t (k + 1) u = (i : Int) :: bestW N l t k (arc l i).f1.toNat := by
   show nxA N l t u :: bestW N l t k (arc l (nxA N l t u).toNat).f1.toNat = _
   rw [e, Int.toNat_natCast]
  refine Ev.go ?_ (fun k => by rw [spec_l3Walk.l0])
  refine Ev.neg (by omega) (l3Walk_scan hg ht hu hd hk w (by omega) hi h5 h6 ?_ _ 0 rfl (Nat.zero_le _))
  rw [show (((arc l i).f1.toNat : Nat) : Int) = (arc l i).f1 by omega] at ih
  exact ih.cast (by rw [e0]; simp)
theorem l3Walk_ev {u : Nat} (hu : u < N) : Ev (fun q => spec_l3Walk.f q N l (u : Int) (t : Int)) (walkW N l u t) := by
 have h8 := hg.n8
 have h16 := hg.len
 unfold spec_l3Walk.f walkW
 refine Ev.bind (l1Back_ev _ l (by omega)) (Ev.bind (l3All_back hg ht) (Ev.bind (l3Steps_ev hg ht) (Ev.bind0 rfl ?_)))
 rw [lst_len, lst_rd _ hu]
 refine Ev.pos (by omega) (Ev.pos (by omega) ?_)
 cases e1 : dst N l t u with
 | none => exact Ev.pos (by show (99999 : Int) ≥ 99999; omega) (Ev.now _)
 | some d =>
  obtain ⟨k, e2, h2⟩ := stp_some hg ht hu e1
  have hx := dst_bd hg ht hu e1
  rw [e2]
  dsimp only
  rw [Int.toNat_natCast]
  exact Ev.neg (by show ¬ d ≥ 99999; omega) ((l3Walk_l hg ht k u d [] hu e1 e2 (by simp; omega)).cast (by simp))
end
end Go.Proofs.Ytljdcinpjnijcaa.Pure
end
section
set_option linter.unusedSimpArgs false
set_option linter.unusedVariables false
set_option linter.unusedSectionVars false
namespace Go.Proofs.Ytljdcinpjnijcaa.Pure
open Go.RowKit Go.Proofs.Ytljdcinpjnijcaa.Pr Go.Proofs.YtljdcinpjnijcaaW.PrintWords Go.Proofs.YtljdcinpjnijcaaW.PrintLast Go.Proofs.YtljdcinpjnijcaaW.PrintMore
open Go.Proofs.Ytljdcinpjnijcaa.Sp (G Wk Opt)
def rW (N : Nat) (l : List Arc) (i : Nat) : List Int × Bool := bestV N l (arc l i).f1.toNat (arc l i).f0.toNat
def rC (N : Nat) (l : List Arc) (i : Nat) : Int := (arc l i).f2 + sumW l (rW N l i).1
def ringN (N : Nat) (l : List Arc) : Nat → List Int × Int
 | 0 => ([], 99999)
 | i + 1 => if (rW N l i).2 = true ∧ rC N l i < (ringN N l i).2 then ((i : Int) :: (rW N l i).1, rC N l i) else ringN N l i
def ringV (n : Int) (l : List Arc) : List Int × Int := if netOkB n l = true then ringN n.toNat l l.length else ([], -1)
theorem concat1 (i : Int) (x : List Int) (h : x.length ≤ 1000) : slices_Concat_int_int.f [[i], x] = some (i :: x) := by
 unfold slices_Concat_int_int.f
 rw [if_pos (by simp; omega)]
 simp
section
variable {N : Nat} {l : List Arc} (hg : NetGood N l)
include hg
theorem rW_ok {i : Nat} (hi : i < l.length) : (∀ k ∈ (rW N l i).1, 0 ≤ k ∧ k < l.length) ∧ (rW N l i).1.length ≤ 8 ∧ ((rW N l i).2 = false → (rW N l i).1 = []) ∧ ((rW N l i).2 = true → Chain l (arc l i).f1 (rW N l i).1 (arc l i).f0 ∧ dst N l (arc l i).f0.toNat (arc l i).f1.toNat = some (sumW l (rW N l i).1)) := by
 have h8 := hg.n8
 have hok := hg.ok i hi
 have hs : (arc l i).f1.toNat < N := by omega
 have ht : (arc l i).f0.toNat < N := by omega
 unfold rW bestV
 cases e1 : dst N l (arc l i).f0.toNat (arc l i).f1.toNat with
 | none => simp
 | some d =>
  obtain ⟨k, e2, h2⟩ := stp_some hg ht hs e1
  rw [e2]
  dsimp only
  rw [Int.toNat_natCast]
  obtain ⟨c1, c2, c3⟩ := bestW_ok hg ht k _ d hs e1 e2
  refine ⟨c1.rng _ _ _, by omega, fun h => (by cases h), fun _ => ⟨?_, by rw [c3]⟩⟩
  rw [Int.toNat_of_nonneg hok.2.1.1, Int.toNat_of_nonneg hok.1.1] at c1
  exact c1
theorem rC_bd {i : Nat} (hi : i < l.length) : 0 ≤ sumW l (rW N l i).1 ∧ sumW l (rW N l i).1 ≤ 792 := by
 obtain ⟨h1, h2, _⟩ := rW_ok hg hi
 have := sumW_bd hg _ h1
 omega
theorem implRing_l : ∀ d i, l.length - i = d → i ≤ l.length → Ev (fun k => impl_RingBest.l0 k (ringN N l i).1 (ringN N l i).2 l (l.length : Int) (i : Int) N l) (ringN N l l.length) := by
 have h8 := hg.n8
 have h16 := hg.len
 intro d
 induction d with
 | zero =>
  intro i hd hi
  obtain rfl : i = l.length := by omega
  refine Ev.go ?_ (fun k => by rw [impl_RingBest.l0])
  exact Ev.neg (by omega) (Ev.now _)
 | succ d ih =>
  intro i hd hi
  have hlt : i < l.length := by omega
  have hok := hg.ok i hlt
  have ih := ih (i + 1) (by omega) (by omega)
  obtain ⟨h1, h2, h3, h4⟩ := rW_ok hg hlt
  have hb := rC_bd hg hlt
  have e := rda l i
  have e0 : (arc l i).f0 = (((arc l i).f0.toNat : Nat) : Int) := (Int.toNat_of_nonneg hok.1.1).symm
  have e1 : (arc l i).f1 = (((arc l i).f1.toNat : Nat) : Int) := (Int.toNat_of_nonneg hok.2.1.1).symm
  have hbest := best_ev hg (t := (arc l i).f0.toNat) (by omega) (u := (arc l i).f1.toNat) (by omega)
  rw [← e0, ← e1] at hbest
  have hcost := cost_ev hg (w := (rW N l i).1) (by omega) h1
  refine Ev.go ?_ (fun k => by rw [impl_RingBest.l0])
  rw [e]
  refine Ev.pos (by omega) (Ev.pos (by omega) (Ev.pos (by omega) (Ev.bind hbest ?_)))
  show Ev (fun k => if (rW N l i).2 = true then _ else _) _
  cases h : (rW N l i).2 with
  | false =>
   have er : ringN N l (i + 1) = ringN N l i := by show (if _ then _ else _) = _; rw [if_neg (by rw [h]; simp)]
   rw [er] at ih
   refine Ev.neg (by simp) (Ev.go ?_ (fun k => by rw [impl_RingBest.j1]))
   rw [up1 hlt (by simp only [maxLen]; omega)]
   exact Ev.neg (by simp) ih
  | true =>
   refine Ev.pos rfl (Ev.bind hcost (Ev.go ?_ (fun k => by rw [impl_RingBest.j1])))
   rw [up1 hlt (by simp only [maxLen]; omega), w64 (n := (arc l i).f2 + _) (by omega) (by omega)]
   by_cases hc : rC N l i < (ringN N l i).2
   case neg =>
    have er : ringN N l (i + 1) = ringN N l i := by show (if _ then _ else _) = _; rw [if_neg (fun q => hc q.2)]
    rw [er] at ih
    exact Ev.neg (by simpa [rC] using hc) ih
   have er : ringN N l (i + 1) = ((i : Int) :: (rW N l i).1, rC N l i) := by show (if _ then _ else _) = _; rw [if_pos ⟨h, hc⟩]
   rw [er] at ih
   refine Ev.pos (decide_eq_true hc) (Ev.bind0 (concat1 _ _ (by show (rW N l i).1.length ≤ 1000; omega)) (Ev.bind hcost ?_))
   rw [w64 (n := (arc l i).f2 + _) (by omega) (by omega)]
   exact ih
theorem l2Cost_l {w : List Int} (hw : w.length ≤ 1000) (hk : ∀ k ∈ w, 0 ≤ k ∧ k < l.length) : ∀ (m i : Nat), w.length - i = m → i ≤ w.length → Ev (fun k => spec_l2Cost.l0 k w (sumW l (w.take i)) (i : Int) N l) (sumW l w) := by
 intro m
 induction m with
 | zero =>
  intro i hd hi
  refine Ev.go ?_ (fun k => by rw [spec_l2Cost.l0])
  rw [List.take_of_length_le (by omega)]
  exact Ev.neg (by omega) (Ev.now _)
 | succ m ih =>
  intro i hd hi
  have hlt : i < w.length := by omega
  have h1 := hk w[i] (List.getElem_mem hlt)
  have h2 := (hg.ok w[i].toNat (by omega)).2.2.2.1
  have hb := sumW_bd hg (w.take i) (fun k hx => hk k (List.mem_of_mem_take hx))
  rw [List.length_take] at hb
  refine Ev.go ?_ (fun k => by rw [spec_l2Cost.l0])
  have ih := ih (i + 1) (by omega) (by omega)
  have e : sumW l (w.take (i + 1)) = sumW l (w.take i) + (arc l w[i].toNat).f2 := by
   unfold sumW
   rw [List.take_succ_eq_append_getElem hlt, List.map_append, List.sum_append_int, List.map_singleton, List.sum_singleton]
  rw [e] at ih
  have ea : rd_T34 l w[i] = arc l w[i].toNat := by rw [← rda]; congr 1; omega
  rw [rdg i, nth_get hlt, ea, up1 hlt (by simp only [maxLen]; omega), w64 (n := sumW l (w.take i) + _) (by omega) (by omega)]
  exact Ev.pos (by omega) (Ev.pos (by omega) (Ev.pos (by omega) (Ev.pos (by omega) ih)))
theorem l2Cost_ev {w : List Int} (hw : w.length ≤ 1000) (hk : ∀ k ∈ w, 0 ≤ k ∧ k < l.length) : Ev (fun k => spec_l2Cost.f k N l w) (sumW l w) := by
 unfold spec_l2Cost.f
 simpa [sumW] using l2Cost_l hg hw hk _ 0 rfl (Nat.zero_le _)
theorem specRing_l : ∀ d i, l.length - i = d → i ≤ l.length → Ev (fun k => spec_l24Best.l0 k (ringN N l i).2 (ringN N l i).1 (i : Int) N l) (ringN N l l.length) := by
 have h8 := hg.n8
 have h16 := hg.len
 intro d
 induction d with
 | zero =>
  intro i hd hi
  obtain rfl : i = l.length := by omega
  refine Ev.go ?_ (fun k => by rw [spec_l24Best.l0])
  exact Ev.neg (by omega) (Ev.now _)
 | succ d ih =>
  intro i hd hi
  have hlt : i < l.length := by omega
  have hok := hg.ok i hlt
  have ih := ih (i + 1) (by omega) (by omega)
  obtain ⟨h1, h2, h3, h4⟩ := rW_ok hg hlt
  have hb := rC_bd hg hlt
  have e := rda l i
  have e0 : (arc l i).f0 = (((arc l i).f0.toNat : Nat) : Int) := (Int.toNat_of_nonneg hok.1.1).symm
  have e1 : (arc l i).f1 = (((arc l i).f1.toNat : Nat) : Int) := (Int.toNat_of_nonneg hok.2.1.1).symm
  have hbest : Ev (fun q => spec_l3Walk.f q N l (((arc l i).f1.toNat : Nat) : Int) (((arc l i).f0.toNat : Nat) : Int)) (rW N l i) := l3Walk_ev hg (t := (arc l i).f0.toNat) (by omega) (u := (arc l i).f1.toNat) (by omega)
  rw [← e0, ← e1] at hbest
  have hcost := l2Cost_ev hg (w := (rW N l i).1) (by omega) h1
  refine Ev.go ?_ (fun k => by rw [spec_l24Best.l0])
  rw [e]
  refine Ev.pos (by omega) (Ev.pos (by omega) (Ev.bind hbest (Ev.bind hcost ?_)))
  rw [up1 hlt (by simp only [maxLen]; omega), w64 (n := (arc l i).f2 + _) (by omega) (by omega)]
  cases h : (rW N l i).2 with
  | false =>
   have er : ringN N l (i + 1) = ringN N l i := by show (if _ then _ else _) = _; rw [if_neg (by rw [h]; simp)]
   rw [er] at ih
   exact Ev.neg (by simp) ih
  | true =>
   refine Ev.pos rfl ?_
   by_cases hc : rC N l i < (ringN N l i).2
   case neg =>
    have er : ringN N l (i + 1) = ringN N l i := by show (if _ then _ else _) = _; rw [if_neg (fun q => hc q.2)]
    rw [er] at ih
    exact Ev.neg hc ih
   have er : ringN N l (i + 1) = ((i : Int) :: (rW N l i).1, rC N l i) := by show (if _ then _ else _) = _; rw [if_pos ⟨h, hc⟩]
   rw [er] at ih
   exact Ev.pos hc (Ev.bind0 rfl (Ev.pos (by simp; omega) ih))
end
theorem implRing_ev (n : Int) (l : List Arc) : Ev (fun k => impl_RingBest.f k n l) (ringV n l) := by
 unfold impl_RingBest.f ringV
 refine Ev.bind0 (show impl_NetOk.f n l = some (netOkB n l) from rfl) ?_
 cases h : netOkB n l with
 | false => exact Ev.neg (by simp) (Ev.is (by simp))
 | true =>
  have hg := (netOkB_iff n l).1 h
  have h1 := hg.n1
  obtain ⟨N, rfl⟩ := Int.eq_ofNat_of_zero_le (show 0 ≤ n by omega)
  rw [if_pos rfl, Int.toNat_natCast]
  exact Ev.pos rfl (implRing_l hg _ 0 rfl (Nat.zero_le _))
theorem specRingB_ev (n : Int) (l : List Arc) (hm : l.length ≤ maxLen) : Ev (fun k => spec_RingBest.f k n l) (ringV n l) := by
 unfold spec_RingBest.f ringV
 refine Ev.bind (l1Ok_ev n l hm) ?_
 cases h : netOkB n l with
 | false => exact Ev.neg (by simp) (Ev.is (by simp))
 | true =>
  have hg := (netOkB_iff n l).1 h
  have h1 := hg.n1
  obtain ⟨N, rfl⟩ := Int.eq_ofNat_of_zero_le (show 0 ≤ n by omega)
  rw [if_pos rfl, Int.toNat_natCast]
  refine Ev.pos rfl ?_
  unfold spec_l24Best.f
  exact Ev.bind (specRing_l hg _ 0 rfl (Nat.zero_le _)) (Ev.now _)
theorem ringN_len {N : Nat} {l : List Arc} (hg : NetGood N l) : ∀ i, i ≤ l.length → (ringN N l i).1.length ≤ 9
 | 0, _ => by simp [ringN]
 | i + 1, h => by
  have ih := ringN_len hg i (by omega)
  obtain ⟨_, h2, _⟩ := rW_ok hg (show i < l.length by omega)
  unfold ringN
  split
  ·simp; omega
  ·exact ih
theorem ringV_len (n : Int) (l : List Arc) : (ringV n l).1.length ≤ 9 := by
 unfold ringV
 cases h : netOkB n l with
 | false => simp
 | true =>
  have hg := (netOkB_iff n l).1 h
  have h1 := hg.n1
  obtain ⟨N, rfl⟩ := Int.eq_ofNat_of_zero_le (show 0 ≤ n by omega)
  rw [if_pos rfl, Int.toNat_natCast]
  exact ringN_len hg _ (Nat.le_refl _)
end Go.Proofs.Ytljdcinpjnijcaa.Pure
end
section
set_option linter.unusedSimpArgs false
set_option linter.unusedVariables false
namespace Go.Proofs.Ytljdcinpjnijcaa.Pure
open Go.RowKit Go.Proofs.Ytljdcinpjnijcaa.Pr Go.Proofs.YtljdcinpjnijcaaW.PrintWords Go.Proofs.YtljdcinpjnijcaaW.PrintLast Go.Proofs.YtljdcinpjnijcaaW.PrintMore
def ramp (a : Int) (n : Nat) : List Int := lst n (fun v => a + v)
theorem markIntS_l (x : List Int) (a : Int) (ha : 0 ≤ a) (hm : a + x.length ≤ 1000000000) : ∀ (m i : Nat), x.length - i = m → i ≤ x.length → Ev (fun k => laws_markIntS.l0 k (lst x.length (fun v => if v < i then a + v else nth x v)) (a + i) (i : Int)) (a + x.length, ramp a x.length) := by
 intro m
 induction m with
 | zero =>
  intro i hd hi
  have e : i = x.length := by omega
  refine Ev.go ?_ (fun k => by rw [laws_markIntS.l0])
  refine Ev.neg (by rw [lst_len]; omega) (Ev.is ?_)
  rw [lst_congr (G := fun v => a + v) (fun v hv => if_pos (by omega)), e]
  rfl
 | succ m ih =>
  intro i hd hi
  have hlt : i < x.length := by omega
  have hn := ih (i + 1) (by omega) (by omega)
  refine Ev.go ?_ (fun k => by rw [laws_markIntS.l0])
  refine Ev.pos (by rw [lst_len]; omega) (Ev.pos (by omega) ?_)
  rw [up1 hlt (by simp only [maxLen]; omega), w64 (by omega) (by omega)]
  simp only [Int.toNat_natCast, lst_set]
  rw [show a + (i : Int) + 1 = a + ((i + 1 : Nat) : Int) by omega, lst_congr (G := fun v => if v < i + 1 then a + v else nth x v) ?_]
  ·exact hn
  ·intro v hv
   by_cases e : v = i
   case pos => subst e; rw [upd_same, if_pos (Nat.lt_succ_self _)]
   rw [upd_far _ _ e]
   by_cases h : v < i
   case neg => rw [if_neg h, if_neg (by omega)]
   rw [if_pos h, if_pos (by omega)]
theorem markIntS_ev (x : List Int) (a : Int) (ha : 0 ≤ a) (hm : a + x.length ≤ 1000000000) : Ev (fun k => laws_markIntS.f k x a) (a + x.length, ramp a x.length) := by
 unfold laws_markIntS.f
 have := markIntS_l x a ha hm _ 0 rfl (Nat.zero_le _)
 rw [lst_congr (G := nth x) (fun v hv => if_neg (Nat.not_lt_zero v)), lst_of, show a + ((0 : Nat) : Int) = a by omega] at this
 exact this
theorem heldIntS_l (a : Int) (n : Nat) (ha : 0 ≤ a) (hm : a + n ≤ 1000000000) : ∀ (m i : Nat), n - i = m → i ≤ n → Ev (fun k => laws_heldIntS.l0 k (ramp a n) (a + i) (i : Int)) (a + n) := by
 intro m
 induction m with
 | zero =>
  intro i hd hi
  have e : i = n := by omega
  subst e
  refine Ev.go ?_ (fun k => by rw [laws_heldIntS.l0])
  exact Ev.neg (by rw [ramp, lst_len]; omega) (Ev.now _)
 | succ m ih =>
  intro i hd hi
  have hlt : i < n := by omega
  have hn := ih (i + 1) (by omega) (by omega)
  refine Ev.go ?_ (fun k => by rw [laws_heldIntS.l0])
  refine Ev.pos (by rw [ramp, lst_len]; omega) (Ev.pos (by omega) (Ev.pos (by rw [ramp, lst_rd _ hlt]) ?_))
  rw [up1 hlt (by simp only [maxLen]; omega), w64 (by omega) (by omega), show a + (i : Int) + 1 = a + ((i + 1 : Nat) : Int) by omega]
  exact hn
theorem heldIntS_ev (a : Int) (n : Nat) (ha : 0 ≤ a) (hm : a + n ≤ 1000000000) : Ev (fun k => laws_heldIntS.f k (ramp a n) a) (a + n) := by
 unfold laws_heldIntS.f
 have := heldIntS_l a n ha hm _ 0 rfl (Nat.zero_le _)
 rwa [show a + ((0 : Nat) : Int) = a by omega] at this
theorem markArcS_l (n : Nat) (a : Int) (ha : 0 ≤ a) (hm : a + 5 * n ≤ 1000000000) : ∀ (m i : Nat) (l : List Arc), l.length = n → n - i = m → i ≤ n → Pv (fun k => laws_markArcS.l0 k l (a + 5 * i) (i : Int)) (fun r => r.1 = a + 5 * n) := by
 intro m
 induction m with
 | zero =>
  intro i l hl hd hi
  have e : i = n := by omega
  subst e
  refine Pv.go ?_ (fun k => by rw [laws_markArcS.l0])
  exact Pv.neg (by omega) (Pv.now rfl)
 | succ m ih =>
  intro i l hl hd hi
  have hlt : i < n := by omega
  have hup : wrap64 ((i : Int) + 1) = ((i + 1 : Nat) : Int) := up1 hlt (by simp only [maxLen]; omega)
  have s1 : wrap64 (a + 5 * (i : Int) + 1) = a + 5 * (i : Int) + 1 := w64 (by omega) (by omega)
  have s2 : wrap64 (a + 5 * (i : Int) + 1 + 1) = a + 5 * (i : Int) + 2 := by rw [w64 (by omega) (by omega)]; omega
  have s3 : wrap64 (a + 5 * (i : Int) + 2 + 1) = a + 5 * (i : Int) + 3 := by rw [w64 (by omega) (by omega)]; omega
  have s4 : wrap64 (a + 5 * (i : Int) + 3 + 1) = a + 5 * (i : Int) + 4 := by rw [w64 (by omega) (by omega)]; omega
  have s5 : wrap64 (a + 5 * (i : Int) + 4 + 1) = a + 5 * ((i + 1 : Nat) : Int) := by rw [w64 (by omega) (by omega)]; omega
  refine Pv.go ?_ (fun k => by rw [laws_markArcS.l0])
  simp only [s1, s2, s3, s4, s5, hup, Option.bind_some]
  exact Pv.pos (by omega) (Pv.pos (by omega) (ih (i + 1) _ (by simp [hl]) (by omega) (by omega)))
theorem markNet_pv (n : Int) (l : List Arc) (a : Int) (ha : 0 ≤ a) (hm : a + 5 * l.length ≤ 1000000000) : Pv (fun k => laws_markNet.f k n l a) (fun r => r.1 = a + 5 * l.length) := by
 have h := markArcS_l l.length a ha hm _ 0 l rfl rfl (Nat.zero_le _)
 rw [show a + 5 * ((0 : Nat) : Int) = a by omega] at h
 exact Pv.bind (R := fun r => r.1 = a + 5 * l.length) h (fun r hr => Pv.now hr)
theorem markNet_ev (n : Int) (l : List Arc) (a : Int) (ha : 0 ≤ a) (hm : a + 5 * l.length ≤ 1000000000) : ∃ y, Ev (fun k => laws_markNet.f k n l a) (a + 5 * l.length, y) := by
 obtain ⟨⟨r, y⟩, h, e⟩ := markNet_pv n l a ha hm
 dsimp only at e
 exact ⟨y, e ▸ h⟩
end Go.Proofs.Ytljdcinpjnijcaa.Pure
end
section
set_option linter.unusedSimpArgs false
set_option linter.unusedVariables false
namespace Go.Proofs.Ytljdcinpjnijcaa.Pure
open Go.RowKit Go.Proofs.Ytljdcinpjnijcaa.Pr Go.Proofs.YtljdcinpjnijcaaW.PrintWords Go.Proofs.YtljdcinpjnijcaaW.PrintLast Go.Proofs.YtljdcinpjnijcaaW.PrintMore
theorem eqIntS_l (l : List Int) (hm : l.length ≤ maxLen) : ∀ (d i : Nat), l.length - i = d → i ≤ l.length → Ev (fun k => laws_eqIntS.l0 k l l (i : Int)) true := by
 intro d
 induction d with
 | zero =>
  intro i hd hi
  refine Ev.go ?_ (fun k => by rw [laws_eqIntS.l0])
  exact Ev.neg (by omega) (Ev.now _)
 | succ d ih =>
  intro i hd hi
  have hlt : i < l.length := by omega
  refine Ev.go ?_ (fun k => by rw [laws_eqIntS.l0])
  refine Ev.pos (by omega) (Ev.pos (by omega) (Ev.pos (by omega) (Ev.pos rfl ?_)))
  rw [up1 hlt hm]
  exact ih (i + 1) (by omega) (by omega)
theorem eqIntS_ev (l : List Int) (hm : l.length ≤ maxLen) : Ev (fun k => laws_eqIntS.f k l l) true := by
 unfold laws_eqIntS.f
 exact Ev.pos rfl (eqIntS_l l hm _ 0 rfl (by omega))
end Go.Proofs.Ytljdcinpjnijcaa.Pure
end
section
set_option linter.unusedSimpArgs false
set_option linter.unusedVariables false
namespace Go.Proofs.Ytljdcinpjnijcaa.Pure
open Go.RowKit Go.Proofs.Ytljdcinpjnijcaa.Pr Go.Proofs.YtljdcinpjnijcaaW.PrintWords Go.Proofs.YtljdcinpjnijcaaW.PrintLast Go.Proofs.YtljdcinpjnijcaaW.PrintMore
theorem FnExactRingBest : laws_FnExactRingBest.Asked := by
 intro n l hn hl
 refine Ev.rounds ?_
 unfold laws_FnExactRingBest.f
 refine Ev.bind0 (szNet_eq n l 1048576 (by omega) (by omega) hl.1) ?_
 by_cases hs : (l.length : Int) ≤ 1048576
 case neg =>
  rw [if_pos (by omega)]
  exact Ev.pos (by omega) (Ev.now _)
 rw [if_neg (by omega)]
 have ht := toNet_ev n l (by omega)
 have hm : (l.map toA).length ≤ maxLen := by simpa using hl.1
 have hlen : (l.map toA).length = l.length := by simp
 have hv := ringV_len n (l.map toA)
 have hvm : (ringV n (l.map toA)).1.length ≤ maxLen := by simp only [maxLen]; omega
 have hq := eqIntS_ev _ hvm
 obtain ⟨y, hy⟩ := markNet_ev n (l.map toA) 1 (by omega) (by omega)
 have hmv := markIntS_ev (ringV n (l.map toA)).1 1 (by omega) (by omega)
 have hh := heldIntS_ev 1 (ringV n (l.map toA)).1.length (by omega) (by omega)
 have hi := implRing_ev n (l.map toA)
 refine Ev.neg (by omega) (Ev.bind ht (Ev.bind (specRingB_ev n _ hm) (Ev.bind ht (Ev.bind hi (Ev.bind hq (Ev.pos rfl (Ev.go ?_ (fun k => by rw [laws_FnExactRingBest.j0]))))))))
 refine Ev.neg (by simp) (Ev.bind ht (Ev.bind (eqNet_ev n _ hm) (Ev.pos rfl (Ev.bind hy (Ev.neg (by simp only; omega) (Ev.bind hq (Ev.pos rfl (Ev.go ?_ (fun k => by rw [laws_FnExactRingBest.j1])))))))))
 refine Ev.neg (by simp) (Ev.bind hmv (Ev.bind hh (Ev.neg (by omega) (Ev.pos rfl (Ev.bind ht (Ev.bind hi (Ev.bind hq (Ev.pos rfl (Ev.go ?_ (fun k => by rw [laws_FnExactRingBest.j2]))))))))))
 exact Ev.neg (by simp) (Ev.bind hh (Ev.neg (by omega) (Ev.pos rfl (Ev.now _))))
end Go.Proofs.Ytljdcinpjnijcaa.Pure
end
