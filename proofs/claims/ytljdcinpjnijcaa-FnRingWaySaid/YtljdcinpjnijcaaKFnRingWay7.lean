/- For the statement FnRingWay of this seat: it is proved here, with no further conditions (part 8 of its texts: words, walks of the functions, the plain law, the row). -/
import Derived.ChangeArms
import Derived.ChangeSlices
import Derived.Deep.Slices
import Derived.WideShapes
import Derived.DataReads
import Derived.Test.YtljdcinpjnijcaaKFnRingWay6
section
namespace Go.Proofs.Ytljdcinpjnijcaa.Pr
open Go.RowKit Go.Proofs.YtljdcinpjnijcaaW.PrintWords Go.Proofs.YtljdcinpjnijcaaW.PrintLast Go.Proofs.YtljdcinpjnijcaaW.PrintMore
attribute [local go_sem] max2_int min2_int max_two min_two max_three min_three max_four min_four
set_option linter.unusedVariables false
set_option linter.unusedSimpArgs false
open List renaming setIfInBounds_toArray → U,set_cons_zero → V,set_cons_succ → Z
open Go.Proofs.YtljdcinpjnijcaaW.PrintWords.Aside0 renaming mk → zx
def spec_l24Best.l0 : Nat → Int → List Int → Int → Int → List (S34) → Option (List Int × Int)
 | 0,_,_,_,_,_ => none
 | k + 1,x4,x5,x6,q6,q2 => if x6 < (q2.length : Int) then (if 0 ≤ x6 then ((spec_l3Walk.f k q6 q2 ((rd_T34 q2 x6).f1) ((rd_T34 q2 x6).f0)).bind fun bt803 => ((spec_l2Cost.f k q6 q2 bt803.1).bind fun t807 => (if bt803.2 = true then (if (wrap64 (((rd_T34 q2 x6).f2) + t807)) < x4 then ((some (([x6] : List Int) : List Int)).bind fun y808 => (if y808.length + bt803.1.length < 17592186044416 then (spec_l24Best.l0 k (wrap64 (((rd_T34 q2 x6).f2) + t807)) (y808 ++ bt803.1) (wrap64 (x6 + 1)) q6 q2) else (none))) else (spec_l24Best.l0 k x4 x5 (wrap64 (x6 + 1)) q6 q2)) else (spec_l24Best.l0 k x4 x5 (wrap64 (x6 + 1)) q6 q2)))) else (none)) else (some (x5,x4))
def spec_l24Best.f (k : Nat) (a0_0 : Int) (l0_1 : List (S34)) : Option (List Int × Int):=spec_l24Best.l0 k 99999 (([] : List Int)) 0 a0_0 l0_1
set_option maxHeartbeats 8000000 in
set_option maxRecDepth 100000 in
theorem spec_l24Best.calls (k : Nat) (a0_0 : Int) (A0_1 : Option Addr) (c0_1 : Nat) (l0_1 : List (S34)) (r1 : List Int) (r2 : Int) (w : World) (hr0_1 : Kd.C k34 w A0_1 l0_1.length l0_1) (hc0_1 : l0_1.length ≤ c0_1) (h : spec_l24Best.f k a0_0 l0_1 = some (r1,r2)) :
  Calls Try.prog 72 #[.agg #[.int .i64 a0_0,.slice A0_1 l0_1.length c0_1]] w fun e w' => ∃ v0_ : Value,e = .returned (.tuple #[v0_,.int .i64 r2]) ∧ Kd.R (Kd.int .i64) 3 w' w.heap.size (fun _ => True) v0_ r1 ∧ Below w.heap.size w w':=by
 have hu25:=Try.underlying25;have hu34:=Try.underlying34;have q7:=zx hr0_1;have q8:=zx hc0_1;clear hr0_1 hc0_1;have HB:=zx (Below.refl w.heap.size w);have H : (spec_l24Best.l0 k 99999 (([] : List Int)) 0 a0_0 l0_1) = some (r1,r2):=h;clear h;obtain ⟨y798,hy798⟩ : ∃ y_ : List Int,y_ = (([] : List Int)):=⟨_,rfl⟩
 replace H : (spec_l24Best.l0 k 99999 y798 0 a0_0 l0_1) = some (r1,r2):=by first | (rw [hy798]; with_reducible exact H) | (have H2_:=(Option.bind_some _ _).symm.trans H; rw [hy798]; with_reducible exact H2_) | (have H2_:=(Option.bind_some _ _).symm.trans H; with_reducible exact H2_) | with_reducible exact H | (rw [hy798]; exact H) | exact H
 have Ny798:=zx hy798;clear hy798;have H':=zx H;clear H
 go_enter Try.func72,Try.ntmps72
 go_wp2_with (first | ((with_reducible refine gate_dst (N:=1) rfl ?_); refine box_event ?hg (N:=1) ?hd (cs:=#[.int .i64 a0_0,.slice A0_1 l0_1.length c0_1]) (t:=25) ?hr ?_; (case hd => rfl); (case hg => rfl); (case hr => first | (go_simp; done) | (go_simp; rfl)); intro p5 hg w2 hbox hb; have n0_:=zx (below_step HB.out hb); have n1_:=zx (hbox); have n2_:=zx ((by rw [hg]; exact (below_size HB.out) : w.heap.size ≤ p5)); have n3_:=zx ((by rw [hg]; exact (below_size HB.out) : w.heap.size ≤ p5)); clear HB; have HB:=n0_; have p1:=n1_; have GW797:=n2_; have q3:=n3_; clear n0_ n1_ n2_ n3_; clear hb hbox hg) | ((with_reducible refine gate_dst (N:=11) rfl ?_); refine Kd.R_lit (Kd.int .i64) _ 3 ?hg (N:=11) ?hd (xs:=([] : List Int)) (inner:=[]) (ok:=fun _ => True) (okp:=fun _ => True) ?hr ?hp (fun _ hk => hk) trivial (Below.refl _ _) (Nat.le_refl _) (by simp) ?_; (case hd => rfl); (case hg => rfl); (case hr => first | (go_simp; done) | (go_simp; rfl)); (case hp => exact (Reps.none _ _)); intro v799 w3 ho4 hb hg_ hnew_; clear hg_ hnew_; (first | rw [← Ny798.out] at ho4 | (simp only [Int.reduceToNat] at ho4; rw [← Ny798.out] at ho4)); have n0_:=zx (Kd.R_lower ho4 (below_size HB.out)); have n1_:=zx (blk_below (g:=p5) (o:=.cells #[.int .i64 a0_0,.slice A0_1 l0_1.length c0_1] 25 (0,0)) p1.out hb); have n2_:=zx (below_step HB.out hb); clear p1; clear HB; have HO800:=n0_; have p1:=n1_; have HB:=n2_; clear n0_ n1_ n2_; clear hb ho4))
 go_loopg [4,5,6] k (fun kq v4 v5 v6 w' => ∃ (x4_1 : Int) (x5_1 : List Int) (x6_1 : Int),v4 = .int .i64 x4_1 ∧ v6 = .int .i64 x6_1 ∧ Aside0 (spec_l24Best.l0 kq x4_1 x5_1 x6_1 a0_0 l0_1 = some (r1,r2)) ∧ Aside0 (kq ≤ k) ∧ Aside0 (Kd.R (Kd.int .i64) 3 w' w.heap.size (fun _ => True) v5 x5_1) ∧ Aside0 (w'.heap[p5]? = some (.cells #[.int .i64 a0_0,(.slice A0_1 l0_1.length c0_1)] 25 (0,0))) ∧ Aside0 (Below w.heap.size w w'))
 case atStart => exact ⟨(99999),(y798),(0),(by first | rfl | (simp; done) | (simp [*]; done)),(by first | rfl | (simp; done) | (simp [*]; done)),H',⟨Nat.le_refl _⟩,⟨by exact HO800.out⟩,⟨by exact p1.out⟩,⟨by repeat (first | (with_reducible first | exact HB.out | apply below_alloc | apply pw_below_drewN | apply below_drew1 | refine below_set ?_ q3.out) | exact HB.out)⟩⟩
 case round =>
  clear H'
  try clear p2
  obtain ⟨x4_1,x5_1,x6_1,rfl,rfl,HA,HK1,HO_5,p1,HB⟩:=hrel;cases gk with
  | zero => exact absurd HA.out (by simp [spec_l24Best.l0])
  | succ k1 =>
   have H:=HA.out;clear HA;simp only [spec_l24Best.l0] at H
   by_cases c5 : x6_1 < (l0_1.length : Int)
   case neg =>
    rw [if_neg c5] at H;have c5b0 : decide (x6_1 < (l0_1.length : Int)) = false:=decide_eq_false c5;clear c5;simp only [Option.some.injEq,Prod.mk.injEq] at H;obtain ⟨rfl,rfl⟩:=H;have hcz42_0 : wr.cell? ⟨p5,0,none⟩ = some (.int .i64 a0_0):=(blk_cell p1.out 0).trans rfl;have hcz42_1 : wr.cell? ⟨p5,1,none⟩ = some (.slice A0_1 l0_1.length c0_1):=(blk_cell p1.out 1).trans rfl;have hfz42_0:=blk_frozen p1.out 0;have hfz42_1:=blk_frozen p1.out 1
    go_wp2
    go_ret2;exact ⟨_,by first | rfl | (simp [errW_none,errW_some] <;> rfl) | (simp [*,errW_none,errW_some] <;> rfl),by exact HO_5.out,by repeat (first | (with_reducible first | exact HB.out | apply below_alloc | apply pw_below_drewN | apply below_drew1 | refine below_set ?_ q3.out) | exact HB.out)⟩
   rw [if_pos c5] at H;have c5b0 : decide (x6_1 < (l0_1.length : Int)) = true:=decide_eq_true c5;clear c5
   by_cases c6 : 0 ≤ x6_1
   case neg =>
    rw [if_neg c6] at H;exact absurd H (by simp)
   rw [if_pos c6] at H;have c6b0 : decide (0 ≤ x6_1) = true:=decide_eq_true c6;clear c6;replace H:=Option.bind_eq_some_iff.mp H;obtain ⟨⟨t803,t806⟩,A70,H⟩:=H;replace H : ((spec_l2Cost.f k1 a0_0 l0_1 t803).bind fun t807 => (if t806 = true then (if (wrap64 (((rd_T34 l0_1 x6_1).f2) + t807)) < x4_1 then ((some (([x6_1] : List Int) : List Int)).bind fun y808 => (if y808.length + t803.length < 17592186044416 then (spec_l24Best.l0 k1 (wrap64 (((rd_T34 l0_1 x6_1).f2) + t807)) (y808 ++ t803) (wrap64 (x6_1 + 1)) a0_0 l0_1) else (none))) else (spec_l24Best.l0 k1 x4_1 x5_1 (wrap64 (x6_1 + 1)) a0_0 l0_1)) else (spec_l24Best.l0 k1 x4_1 x5_1 (wrap64 (x6_1 + 1)) a0_0 l0_1))) = some (r1,r2):=H;have A7:=zx A70;clear A70;replace H:=Option.bind_eq_some_iff.mp H;obtain ⟨t807,A80,H⟩:=H;replace H : (if t806 = true then (if (wrap64 (((rd_T34 l0_1 x6_1).f2) + t807)) < x4_1 then ((some (([x6_1] : List Int) : List Int)).bind fun y808 => (if y808.length + t803.length < 17592186044416 then (spec_l24Best.l0 k1 (wrap64 (((rd_T34 l0_1 x6_1).f2) + t807)) (y808 ++ t803) (wrap64 (x6_1 + 1)) a0_0 l0_1) else (none))) else (spec_l24Best.l0 k1 x4_1 x5_1 (wrap64 (x6_1 + 1)) a0_0 l0_1)) else (spec_l24Best.l0 k1 x4_1 x5_1 (wrap64 (x6_1 + 1)) a0_0 l0_1)) = some (r1,r2):=H;have A8:=zx A80;clear A80
   by_cases c9 : t806 = true
   case neg =>
    replace c9:=Bool.eq_false_iff.mpr c9;subst c9;have H1 : (spec_l24Best.l0 k1 x4_1 x5_1 (wrap64 (x6_1 + 1)) a0_0 l0_1) = some (r1,r2):=by rw [if_neg (show ¬ (false = true) by decide)] at H; exact H
    clear H;have H:=H1;clear H1;have H':=zx H;clear H;have hcz33_0 : wr.cell? ⟨p5,0,none⟩ = some (.int .i64 a0_0):=(blk_cell p1.out 0).trans rfl;have hcz33_1 : wr.cell? ⟨p5,1,none⟩ = some (.slice A0_1 l0_1.length c0_1):=(blk_cell p1.out 1).trans rfl;have hfz33_0:=blk_frozen p1.out 0;have hfz33_1:=blk_frozen p1.out 1;have p801 : 0 ≤ (x6_1 : Int):=of_decide_eq_true (by first | (with_reducible assumption) | assumption);have q801 : x6_1 < (l0_1.length : Int):=of_decide_eq_true (by first | (with_reducible assumption) | assumption);obtain ⟨p6,e801,p7,p8,p9,q0,q1⟩:=at_T34 q7.out x6_1 p801 q801;cases e801;replace p7:=(HB.out.cell (World.block_lt_of_cell? w _ p7)).trans p7;replace p8:=(HB.out.cell (World.block_lt_of_cell? w _ p8)).trans p8;replace p9:=(HB.out.cell (World.block_lt_of_cell? w _ p9)).trans p9;replace q0:=(HB.out.cell (World.block_lt_of_cell? w _ q0)).trans q0;replace q1:=(HB.out.cell (World.block_lt_of_cell? w _ q1)).trans q1;replace p801:=eq_true p801;replace q801:=eq_true q801
    try go_wp2_with (first | ((with_reducible refine gate_dst (N:=7) rfl ?_); refine box_event ?hg (N:=7) ?hd (cs:=#[.int .i64 0,.int .i64 0,.int .i64 0,.int .i64 0,.int .i64 0]) (t:=34) ?hr ?_; (case hd => rfl); (case hg => rfl); (case hr => first | (go_simp; done) | (go_simp; rfl)); intro p3 hg w34 hbox hb; have n0_:=zx (Kd.R_below HO_5.out hb); have n1_:=zx (blk_below (g:=p5) (o:=.cells #[.int .i64 a0_0,.slice (some p6) l0_1.length c0_1] 25 (0,0)) p1.out hb); have n2_:=zx (below_step HB.out hb); have n3_:=zx (hbox); have n4_:=zx ((by rw [hg]; exact (below_size HB.out) : w.heap.size ≤ p3)); have n5_:=zx ((by rw [hg]; exact (below_size HB.out) : w.heap.size ≤ p3)); have n6_:=zx ((by rw [hg]; exact Nat.ne_of_lt (blk_lt (g:=p5) (o:=.cells #[.int .i64 a0_0,.slice (some p6) l0_1.length c0_1] 25 (0,0)) p1.out) : p5 ≠ p3)); have n7_:=zx ((by rw [hg]; exact Nat.ne_of_gt (blk_lt (g:=p5) (o:=.cells #[.int .i64 a0_0,.slice (some p6) l0_1.length c0_1] 25 (0,0)) p1.out) : p3 ≠ p5)); clear HO_5; clear p1; clear HB; have HO_5:=n0_; have p1:=n1_; have HB:=n2_; have p0:=n3_; have GW802:=n4_; have q4:=n5_; have p4:=n6_; have q5:=n7_; clear n0_ n1_ n2_ n3_ n4_ n5_ n6_ n7_; clear hb hbox hg; have hnb35:=q5.out; have hnc35:=p4.out; have hcz36_0 : w34.cell? ⟨p3,0,none⟩ = some (.int .i64 0):=(blk_cell p0.out 0).trans rfl; have hcz36_1 : w34.cell? ⟨p3,1,none⟩ = some (.int .i64 0):=(blk_cell p0.out 1).trans rfl; have hcz36_2 : w34.cell? ⟨p3,2,none⟩ = some (.int .i64 0):=(blk_cell p0.out 2).trans rfl; have hcz36_3 : w34.cell? ⟨p3,3,none⟩ = some (.int .i64 0):=(blk_cell p0.out 3).trans rfl; have hcz36_4 : w34.cell? ⟨p3,4,none⟩ = some (.int .i64 0):=(blk_cell p0.out 4).trans rfl; have hfz36_0:=blk_frozen p0.out 0; have hfz36_1:=blk_frozen p0.out 1; have hfz36_2:=blk_frozen p0.out 2; have hfz36_3:=blk_frozen p0.out 3; have hfz36_4:=blk_frozen p0.out 4; have hcz37_0 : w34.cell? ⟨p5,0,none⟩ = some (.int .i64 a0_0):=(blk_cell p1.out 0).trans rfl; have hcz37_1 : w34.cell? ⟨p5,1,none⟩ = some (.slice (some p6) l0_1.length c0_1):=(blk_cell p1.out 1).trans rfl; have hfz37_0:=blk_frozen p1.out 0; have hfz37_1:=blk_frozen p1.out 1) | ((with_reducible refine gate_callee (f:=66) rfl ?_); refine goesL_ (some 30) rfl rfl Try.func66 (by kernel_rfl) rfl #[.agg #[.int .i64 a0_0,.slice (some p6) l0_1.length c0_1],.int .i64 ((rd_T34 l0_1 x6_1).f1),.int .i64 ((rd_T34 l0_1 x6_1).f0)] rfl (by (try simp only [List.map_toArray,List.map_cons,List.map_nil]); first | done | rfl | (simp only [List.length_drop,List.length_take]; rfl)) ?_; (with_reducible refine (spec_l3Walk.calls k1 a0_0 _ _ l0_1 ((rd_T34 l0_1 x6_1).f1) ((rd_T34 l0_1 x6_1).f0) t803 false _ ?side1 ?side2 A7.out).mono ?_); (case side1 => exact Kd.C_below q7.out (by repeat (first | (with_reducible first | exact HB.out | apply below_alloc | apply pw_below_drewN | apply below_drew1 | refine below_set ?_ q3.out | refine below_set ?_ q4.out) | exact HB.out))); (case side2 => exact q8.out); rintro e w38 ⟨v804,rfl,ho0,hb⟩; refine ⟨_,rfl,?_⟩; have n0_:=zx (Kd.R_elder' (Kd.R_mono (Kd.R_far (p:=⟨p3,4,none⟩) (Kd.R_far (p:=⟨p3,3,none⟩) (Kd.R_far (p:=⟨p3,2,none⟩) (Kd.R_far (p:=⟨p3,1,none⟩) (Kd.R_far (p:=⟨p3,0,none⟩) (Kd.R_types HO_5.out p0.out (by decide)) (fun _ hk => hk.2) (.int .i64 ((rd_T34 l0_1 x6_1).f0))) (fun _ hk => hk.2) (.int .i64 ((rd_T34 l0_1 x6_1).f1))) (fun _ hk => hk.2) (.int .i64 ((rd_T34 l0_1 x6_1).f2))) (fun _ hk => hk.2) (.int .i64 ((rd_T34 l0_1 x6_1).f3))) (fun _ hk => hk.2) (.int .i64 ((rd_T34 l0_1 x6_1).f4))) (fun _ h_ => h_.1)) (Kd.R_base ho0) hb); have n1_:=zx (Kd.R_lower (Kd.R_new' ho0 (Kd.R_lt (Kd.R_mono (Kd.R_far (p:=⟨p3,4,none⟩) (Kd.R_far (p:=⟨p3,3,none⟩) (Kd.R_far (p:=⟨p3,2,none⟩) (Kd.R_far (p:=⟨p3,1,none⟩) (Kd.R_far (p:=⟨p3,0,none⟩) (Kd.R_types HO_5.out p0.out (by decide)) (fun _ hk => hk.2) (.int .i64 ((rd_T34 l0_1 x6_1).f0))) (fun _ hk => hk.2) (.int .i64 ((rd_T34 l0_1 x6_1).f1))) (fun _ hk => hk.2) (.int .i64 ((rd_T34 l0_1 x6_1).f2))) (fun _ hk => hk.2) (.int .i64 ((rd_T34 l0_1 x6_1).f3))) (fun _ hk => hk.2) (.int .i64 ((rd_T34 l0_1 x6_1).f4))) (fun _ h_ => h_.1)))) (below_size (by repeat (first | (with_reducible first | exact HB.out | apply below_alloc | apply pw_below_drewN | apply below_drew1 | refine below_set ?_ q3.out | refine below_set ?_ q4.out) | exact HB.out)))); have n2_:=zx (blk_below (g:=p5) (o:=.cells #[.int .i64 a0_0,.slice (some p6) l0_1.length c0_1] 25 (0,0)) (by refine blk_far ?_ p4.out _; refine blk_far ?_ p4.out _; refine blk_far ?_ p4.out _; refine blk_far ?_ p4.out _; refine blk_far ?_ p4.out _; exact p1.out) hb); have n3_:=zx (blk_below (g:=p3) (o:=.cells #[.int .i64 ((rd_T34 l0_1 x6_1).f0),.int .i64 ((rd_T34 l0_1 x6_1).f1),.int .i64 ((rd_T34 l0_1 x6_1).f2),.int .i64 ((rd_T34 l0_1 x6_1).f3),.int .i64 ((rd_T34 l0_1 x6_1).f4)] 34 (0,0)) (by refine blk_put (cs:=#[.int .i64 ((rd_T34 l0_1 x6_1).f0),.int .i64 ((rd_T34 l0_1 x6_1).f1),.int .i64 ((rd_T34 l0_1 x6_1).f2),.int .i64 ((rd_T34 l0_1 x6_1).f3),.int .i64 0]) ?_ 4 _ rfl; refine blk_put (cs:=#[.int .i64 ((rd_T34 l0_1 x6_1).f0),.int .i64 ((rd_T34 l0_1 x6_1).f1),.int .i64 ((rd_T34 l0_1 x6_1).f2),.int .i64 0,.int .i64 0]) ?_ 3 _ rfl; refine blk_put (cs:=#[.int .i64 ((rd_T34 l0_1 x6_1).f0),.int .i64 ((rd_T34 l0_1 x6_1).f1),.int .i64 0,.int .i64 0,.int .i64 0]) ?_ 2 _ rfl; refine blk_put (cs:=#[.int .i64 ((rd_T34 l0_1 x6_1).f0),.int .i64 0,.int .i64 0,.int .i64 0,.int .i64 0]) ?_ 1 _ rfl; refine blk_put (cs:=#[.int .i64 0,.int .i64 0,.int .i64 0,.int .i64 0,.int .i64 0]) ?_ 0 _ rfl; exact p0.out) hb); have n4_:=zx (below_step (by repeat (first | (with_reducible first | exact HB.out | apply below_alloc | apply pw_below_drewN | apply below_drew1 | refine below_set ?_ q3.out | refine below_set ?_ q4.out) | exact HB.out)) hb); clear HO_5; clear p1; clear p0; clear HB; have HO_5:=n0_; have HO805:=n1_; have p1:=n2_; have p0:=n3_; have HB:=n4_; clear n0_ n1_ n2_ n3_ n4_; (try clear hb); (try clear hb2); (try clear hk); (try clear hi); (try clear ho0)))
    have n0_:=zx (Kd.R_drew HO_5.out);have n1_:=zx (Kd.R_drew HO805.out);have n2_:=zx (blk_drew p1.out);have n3_:=zx (blk_drew p0.out);have n4_:=zx (below_drew1 HB.out);clear HO_5;clear HO805;clear p1;clear p0;clear HB;have HO_5:=n0_;have HO805:=n1_;have p1:=n2_;have p0:=n3_;have HB:=n4_;clear n0_ n1_ n2_ n3_ n4_;obtain ⟨Ao40,co40,eo40⟩:=Kd.R_slice HO805.out
    (first | subst eo40 | (injection eo40 with f1_ f2_ f3_; have f4_:=f1_.symm; have f5_:=f3_.symm; clear f1_ f2_ f3_; subst f4_; subst f5_))
    refine start_ (n:=7) (S:=fun w' => w'.cell? ⟨p3,0,none⟩ = some (.int .i64 ((rd_T34 l0_1 x6_1).f0)) ∧ w'.cell? ⟨p3,1,none⟩ = some (.int .i64 ((rd_T34 l0_1 x6_1).f1)) ∧ w'.cell? ⟨p3,2,none⟩ = some (.int .i64 ((rd_T34 l0_1 x6_1).f2)) ∧ w'.cell? ⟨p3,3,none⟩ = some (.int .i64 ((rd_T34 l0_1 x6_1).f3)) ∧ w'.cell? ⟨p3,4,none⟩ = some (.int .i64 ((rd_T34 l0_1 x6_1).f4)) ∧ w'.cell? ⟨p5,0,none⟩ = some (.int .i64 a0_0) ∧ w'.cell? ⟨p5,1,none⟩ = some (.slice (some p6) l0_1.length c0_1)) (ds:=[]) #[false,false,false,false,false,false,false] (by kernel_rfl) rfl rfl ⟨(blk_cell p0.out 0).trans rfl,(blk_cell p0.out 1).trans rfl,(blk_cell p0.out 2).trans rfl,(blk_cell p0.out 3).trans rfl,(blk_cell p0.out 4).trans rfl,(blk_cell p1.out 0).trans rfl,(blk_cell p1.out 1).trans rfl⟩ (fun hHeld => ?_);generalize w38.drew = w39 at HO_5 HO805 p1 p0 HB hHeld ⊢;refine pure_ (i:=0) (N:=some 33) (v:=?_) (a':=?_) #[true,false,false,false,false,false,false] rfl rfl (by kernel_rfl) (fun _ _ _ h => h) (Or.inl ⟨by rfl,?_⟩) ?_ ?_;rotate_left
    ·intro w';go_simp;with_reducible rfl
    rotate_left
    ·simp only [Act.put,U,V,Z,i64_w,i32_w];rfl
    refine pure_ (i:=3) (N:=some 36) (v:=?_) (a':=?_) #[true,false,false,true,false,false,false] rfl rfl (by kernel_rfl) (fun _ _ _ h => h) (Or.inl ⟨by rfl,?_⟩) ?_ ?_;rotate_left
    ·intro w';go_simp;with_reducible rfl
    rotate_left
    ·simp only [Act.put,U,V,Z,i64_w,i32_w];rfl
    refine take_ (i:=1) (N:=some 34) (v:=?_) (a':=?_) #[true,true,false,true,false,false,false] rfl rfl (by kernel_rfl) (fun _ _ _ h => h) (Or.inl ⟨by rfl,?_⟩) hHeld ?_ ?_;rotate_left
    ·rintro w' ⟨s0,s1,s2,s3,s4,s5,s6⟩;go_simp;with_reducible rfl
    rotate_left
    ·simp only [Act.put,U,V,Z,i64_w,i32_w];rfl
    refine take_ (i:=2) (N:=some 35) (v:=?_) (a':=?_) #[true,true,true,true,false,false,false] rfl rfl (by kernel_rfl) (fun _ _ _ h => h) (Or.inl ⟨by rfl,?_⟩) hHeld ?_ ?_;rotate_left
    ·rintro w' ⟨s0,s1,s2,s3,s4,s5,s6⟩;go_simp;with_reducible rfl
    rotate_left
    ·simp only [Act.put,U,V,Z,i64_w,i32_w];rfl
    refine one_ (i:=4) (N:=some 37) #[true,true,true,true,true,false,false] rfl rfl (by kernel_rfl) (by decide) (fun K hK => ?_);refine goes_ Try.func110 (by kernel_rfl) rfl #[.agg #[.int .i64 a0_0,.slice (some p6) l0_1.length c0_1],.slice Ao40 t803.length co40] (by rfl) rfl rfl (by (try simp only [List.map_toArray,List.map_cons,List.map_nil]); first | done | rfl | (simp only [List.length_drop,List.length_take]; rfl)) ?_;with_reducible refine (spec_l2Cost.calls k1 a0_0 _ _ l0_1 _ _ t803 t807 _ ?side1 ?side2 ?side3 ?side4 A8.out).mono ?_
    (case side1 => repeat (first | exact (Kd.C_below q7.out HB.out) | (with_reducible refine Kd.C_alloc ?_ _) | (with_reducible refine Kd.C_drewN ?_ _) | (with_reducible refine Kd.C_drew ?_)))
    (case side2 => exact q8.out)
    (case side3 => repeat (first | exact (Kd.R_reads' HO805.out).2.2 | (with_reducible refine Kd.C_alloc ?_ _) | (with_reducible refine Kd.C_drewN ?_ _) | (with_reducible refine Kd.C_drew ?_)))
    (case side4 => exact (Kd.R_reads' HO805.out).2.1)
    rintro e w41 ⟨rfl,hb⟩;refine ⟨_,rfl,?_⟩;have n0_:=zx (Kd.R_below HO_5.out hb);have n1_:=zx (Kd.R_below HO805.out hb);have n2_:=zx (blk_below (g:=p5) (o:=.cells #[.int .i64 a0_0,.slice (some p6) l0_1.length c0_1] 25 (0,0)) p1.out hb);have n3_:=zx (blk_below (g:=p3) (o:=.cells #[.int .i64 ((rd_T34 l0_1 x6_1).f0),.int .i64 ((rd_T34 l0_1 x6_1).f1),.int .i64 ((rd_T34 l0_1 x6_1).f2),.int .i64 ((rd_T34 l0_1 x6_1).f3),.int .i64 ((rd_T34 l0_1 x6_1).f4)] 34 (0,0)) p0.out hb);have n4_:=zx (below_step HB.out hb);clear HO_5;clear HO805;clear p1;clear p0;clear HB;have HO_5:=n0_;have HO805:=n1_;have p1:=n2_;have p0:=n3_;have HB:=n4_;clear n0_ n1_ n2_ n3_ n4_
    (try clear hb)
    (try clear hb2)
    (try clear hk)
    (try clear hi)
    refine hK.out _ _ ⟨(blk_cell p0.out 0).trans rfl,(blk_cell p0.out 1).trans rfl,(blk_cell p0.out 2).trans rfl,(blk_cell p0.out 3).trans rfl,(blk_cell p0.out 4).trans rfl,(blk_cell p1.out 0).trans rfl,(blk_cell p1.out 1).trans rfl⟩ (fun hHeld => ?_);clear hK K;refine norm_ (a':=?_) ?_ ?_;rotate_left
    ·show Act.put _ (some 37) _ = _
     simp only [Act.put,U,V,Z,i64_w,i32_w];rfl
    refine pure_ (i:=5) (N:=some 38) (v:=?_) (a':=?_) #[true,true,true,true,true,true,false] rfl rfl (by kernel_rfl) (fun _ _ _ h => h) (Or.inl ⟨by rfl,?_⟩) ?_ ?_;rotate_left
    ·intro w';go_simp;with_reducible rfl
    rotate_left
    ·simp only [Act.put,U,V,Z,i64_w,i32_w];rfl
    refine pure_ (i:=6) (N:=some 10) (v:=?_) (a':=?_) #[true,true,true,true,true,true,true] rfl rfl (by kernel_rfl) (fun _ _ _ h => h) (Or.inl ⟨by rfl,?_⟩) ?_ ?_;rotate_left
    ·intro w';go_simp;with_reducible rfl
    rotate_left
    ·simp only [Act.put,U,V,Z,i64_w,i32_w];rfl
    refine done_ (by kernel_rfl) ?_
    try go_wp2
    go_roundg k1
    case measure => have:=HK1.out; omega
    case rel => exact ⟨(x4_1),(x5_1),(wrap64 (x6_1 + 1)),(by first | rfl | (simp; done) | (simp [*]; done)),(by first | rfl | (simp; done) | (simp [*]; done)),H',⟨by have:=HK1.out; omega⟩,⟨by exact Kd.R_mono HO_5.out (fun _ hk => trivial)⟩,⟨by exact p1.out⟩,⟨by repeat (first | (with_reducible first | exact HB.out | apply below_alloc | apply pw_below_drewN | apply below_drew1 | refine below_set ?_ q3.out | refine below_set ?_ q4.out) | exact HB.out)⟩⟩
   subst c9;have H1 : (if (wrap64 (((rd_T34 l0_1 x6_1).f2) + t807)) < x4_1 then ((some (([x6_1] : List Int) : List Int)).bind fun y808 => (if y808.length + t803.length < 17592186044416 then (spec_l24Best.l0 k1 (wrap64 (((rd_T34 l0_1 x6_1).f2) + t807)) (y808 ++ t803) (wrap64 (x6_1 + 1)) a0_0 l0_1) else (none))) else (spec_l24Best.l0 k1 x4_1 x5_1 (wrap64 (x6_1 + 1)) a0_0 l0_1)) = some (r1,r2):=by rw [if_pos rfl] at H; exact H
   clear H;have H:=H1;clear H1
   by_cases c10 : (wrap64 (((rd_T34 l0_1 x6_1).f2) + t807)) < x4_1
   case neg =>
    rw [if_neg c10] at H;have c10b0 : decide ((wrap64 (((rd_T34 l0_1 x6_1).f2) + t807)) < x4_1) = false:=decide_eq_false c10;clear c10;have H':=zx H;clear H;have hcz24_0 : wr.cell? ⟨p5,0,none⟩ = some (.int .i64 a0_0):=(blk_cell p1.out 0).trans rfl;have hcz24_1 : wr.cell? ⟨p5,1,none⟩ = some (.slice A0_1 l0_1.length c0_1):=(blk_cell p1.out 1).trans rfl;have hfz24_0:=blk_frozen p1.out 0;have hfz24_1:=blk_frozen p1.out 1;have p801 : 0 ≤ (x6_1 : Int):=of_decide_eq_true (by first | (with_reducible assumption) | assumption);have q801 : x6_1 < (l0_1.length : Int):=of_decide_eq_true (by first | (with_reducible assumption) | assumption);obtain ⟨p6,e801,p7,p8,p9,q0,q1⟩:=at_T34 q7.out x6_1 p801 q801;cases e801;replace p7:=(HB.out.cell (World.block_lt_of_cell? w _ p7)).trans p7;replace p8:=(HB.out.cell (World.block_lt_of_cell? w _ p8)).trans p8;replace p9:=(HB.out.cell (World.block_lt_of_cell? w _ p9)).trans p9;replace q0:=(HB.out.cell (World.block_lt_of_cell? w _ q0)).trans q0;replace q1:=(HB.out.cell (World.block_lt_of_cell? w _ q1)).trans q1;replace p801:=eq_true p801;replace q801:=eq_true q801
    try go_wp2_with (first | ((with_reducible refine gate_dst (N:=7) rfl ?_); refine box_event ?hg (N:=7) ?hd (cs:=#[.int .i64 0,.int .i64 0,.int .i64 0,.int .i64 0,.int .i64 0]) (t:=34) ?hr ?_; (case hd => rfl); (case hg => rfl); (case hr => first | (go_simp; done) | (go_simp; rfl)); intro p3 hg w25 hbox hb; have n0_:=zx (Kd.R_below HO_5.out hb); have n1_:=zx (blk_below (g:=p5) (o:=.cells #[.int .i64 a0_0,.slice (some p6) l0_1.length c0_1] 25 (0,0)) p1.out hb); have n2_:=zx (below_step HB.out hb); have n3_:=zx (hbox); have n4_:=zx ((by rw [hg]; exact (below_size HB.out) : w.heap.size ≤ p3)); have n5_:=zx ((by rw [hg]; exact (below_size HB.out) : w.heap.size ≤ p3)); have n6_:=zx ((by rw [hg]; exact Nat.ne_of_lt (blk_lt (g:=p5) (o:=.cells #[.int .i64 a0_0,.slice (some p6) l0_1.length c0_1] 25 (0,0)) p1.out) : p5 ≠ p3)); have n7_:=zx ((by rw [hg]; exact Nat.ne_of_gt (blk_lt (g:=p5) (o:=.cells #[.int .i64 a0_0,.slice (some p6) l0_1.length c0_1] 25 (0,0)) p1.out) : p3 ≠ p5)); clear HO_5; clear p1; clear HB; have HO_5:=n0_; have p1:=n1_; have HB:=n2_; have p0:=n3_; have GW802:=n4_; have q4:=n5_; have p4:=n6_; have q5:=n7_; clear n0_ n1_ n2_ n3_ n4_ n5_ n6_ n7_; clear hb hbox hg; have hnb26:=q5.out; have hnc26:=p4.out; have hcz27_0 : w25.cell? ⟨p3,0,none⟩ = some (.int .i64 0):=(blk_cell p0.out 0).trans rfl; have hcz27_1 : w25.cell? ⟨p3,1,none⟩ = some (.int .i64 0):=(blk_cell p0.out 1).trans rfl; have hcz27_2 : w25.cell? ⟨p3,2,none⟩ = some (.int .i64 0):=(blk_cell p0.out 2).trans rfl; have hcz27_3 : w25.cell? ⟨p3,3,none⟩ = some (.int .i64 0):=(blk_cell p0.out 3).trans rfl; have hcz27_4 : w25.cell? ⟨p3,4,none⟩ = some (.int .i64 0):=(blk_cell p0.out 4).trans rfl; have hfz27_0:=blk_frozen p0.out 0; have hfz27_1:=blk_frozen p0.out 1; have hfz27_2:=blk_frozen p0.out 2; have hfz27_3:=blk_frozen p0.out 3; have hfz27_4:=blk_frozen p0.out 4; have hcz28_0 : w25.cell? ⟨p5,0,none⟩ = some (.int .i64 a0_0):=(blk_cell p1.out 0).trans rfl; have hcz28_1 : w25.cell? ⟨p5,1,none⟩ = some (.slice (some p6) l0_1.length c0_1):=(blk_cell p1.out 1).trans rfl; have hfz28_0:=blk_frozen p1.out 0; have hfz28_1:=blk_frozen p1.out 1) | ((with_reducible refine gate_callee (f:=66) rfl ?_); refine goesL_ (some 30) rfl rfl Try.func66 (by kernel_rfl) rfl #[.agg #[.int .i64 a0_0,.slice (some p6) l0_1.length c0_1],.int .i64 ((rd_T34 l0_1 x6_1).f1),.int .i64 ((rd_T34 l0_1 x6_1).f0)] rfl (by (try simp only [List.map_toArray,List.map_cons,List.map_nil]); first | done | rfl | (simp only [List.length_drop,List.length_take]; rfl)) ?_; (with_reducible refine (spec_l3Walk.calls k1 a0_0 _ _ l0_1 ((rd_T34 l0_1 x6_1).f1) ((rd_T34 l0_1 x6_1).f0) t803 true _ ?side1 ?side2 A7.out).mono ?_); (case side1 => exact Kd.C_below q7.out (by repeat (first | (with_reducible first | exact HB.out | apply below_alloc | apply pw_below_drewN | apply below_drew1 | refine below_set ?_ q3.out | refine below_set ?_ q4.out) | exact HB.out))); (case side2 => exact q8.out); rintro e w29 ⟨v804,rfl,ho0,hb⟩; refine ⟨_,rfl,?_⟩; have n0_:=zx (Kd.R_elder' (Kd.R_mono (Kd.R_far (p:=⟨p3,4,none⟩) (Kd.R_far (p:=⟨p3,3,none⟩) (Kd.R_far (p:=⟨p3,2,none⟩) (Kd.R_far (p:=⟨p3,1,none⟩) (Kd.R_far (p:=⟨p3,0,none⟩) (Kd.R_types HO_5.out p0.out (by decide)) (fun _ hk => hk.2) (.int .i64 ((rd_T34 l0_1 x6_1).f0))) (fun _ hk => hk.2) (.int .i64 ((rd_T34 l0_1 x6_1).f1))) (fun _ hk => hk.2) (.int .i64 ((rd_T34 l0_1 x6_1).f2))) (fun _ hk => hk.2) (.int .i64 ((rd_T34 l0_1 x6_1).f3))) (fun _ hk => hk.2) (.int .i64 ((rd_T34 l0_1 x6_1).f4))) (fun _ h_ => h_.1)) (Kd.R_base ho0) hb); have n1_:=zx (Kd.R_lower (Kd.R_new' ho0 (Kd.R_lt (Kd.R_mono (Kd.R_far (p:=⟨p3,4,none⟩) (Kd.R_far (p:=⟨p3,3,none⟩) (Kd.R_far (p:=⟨p3,2,none⟩) (Kd.R_far (p:=⟨p3,1,none⟩) (Kd.R_far (p:=⟨p3,0,none⟩) (Kd.R_types HO_5.out p0.out (by decide)) (fun _ hk => hk.2) (.int .i64 ((rd_T34 l0_1 x6_1).f0))) (fun _ hk => hk.2) (.int .i64 ((rd_T34 l0_1 x6_1).f1))) (fun _ hk => hk.2) (.int .i64 ((rd_T34 l0_1 x6_1).f2))) (fun _ hk => hk.2) (.int .i64 ((rd_T34 l0_1 x6_1).f3))) (fun _ hk => hk.2) (.int .i64 ((rd_T34 l0_1 x6_1).f4))) (fun _ h_ => h_.1)))) (below_size (by repeat (first | (with_reducible first | exact HB.out | apply below_alloc | apply pw_below_drewN | apply below_drew1 | refine below_set ?_ q3.out | refine below_set ?_ q4.out) | exact HB.out)))); have n2_:=zx (blk_below (g:=p5) (o:=.cells #[.int .i64 a0_0,.slice (some p6) l0_1.length c0_1] 25 (0,0)) (by refine blk_far ?_ p4.out _; refine blk_far ?_ p4.out _; refine blk_far ?_ p4.out _; refine blk_far ?_ p4.out _; refine blk_far ?_ p4.out _; exact p1.out) hb); have n3_:=zx (blk_below (g:=p3) (o:=.cells #[.int .i64 ((rd_T34 l0_1 x6_1).f0),.int .i64 ((rd_T34 l0_1 x6_1).f1),.int .i64 ((rd_T34 l0_1 x6_1).f2),.int .i64 ((rd_T34 l0_1 x6_1).f3),.int .i64 ((rd_T34 l0_1 x6_1).f4)] 34 (0,0)) (by refine blk_put (cs:=#[.int .i64 ((rd_T34 l0_1 x6_1).f0),.int .i64 ((rd_T34 l0_1 x6_1).f1),.int .i64 ((rd_T34 l0_1 x6_1).f2),.int .i64 ((rd_T34 l0_1 x6_1).f3),.int .i64 0]) ?_ 4 _ rfl; refine blk_put (cs:=#[.int .i64 ((rd_T34 l0_1 x6_1).f0),.int .i64 ((rd_T34 l0_1 x6_1).f1),.int .i64 ((rd_T34 l0_1 x6_1).f2),.int .i64 0,.int .i64 0]) ?_ 3 _ rfl; refine blk_put (cs:=#[.int .i64 ((rd_T34 l0_1 x6_1).f0),.int .i64 ((rd_T34 l0_1 x6_1).f1),.int .i64 0,.int .i64 0,.int .i64 0]) ?_ 2 _ rfl; refine blk_put (cs:=#[.int .i64 ((rd_T34 l0_1 x6_1).f0),.int .i64 0,.int .i64 0,.int .i64 0,.int .i64 0]) ?_ 1 _ rfl; refine blk_put (cs:=#[.int .i64 0,.int .i64 0,.int .i64 0,.int .i64 0,.int .i64 0]) ?_ 0 _ rfl; exact p0.out) hb); have n4_:=zx (below_step (by repeat (first | (with_reducible first | exact HB.out | apply below_alloc | apply pw_below_drewN | apply below_drew1 | refine below_set ?_ q3.out | refine below_set ?_ q4.out) | exact HB.out)) hb); clear HO_5; clear p1; clear p0; clear HB; have HO_5:=n0_; have HO805:=n1_; have p1:=n2_; have p0:=n3_; have HB:=n4_; clear n0_ n1_ n2_ n3_ n4_; (try clear hb); (try clear hb2); (try clear hk); (try clear hi); (try clear ho0)))
    have n0_:=zx (Kd.R_drew HO_5.out);have n1_:=zx (Kd.R_drew HO805.out);have n2_:=zx (blk_drew p1.out);have n3_:=zx (blk_drew p0.out);have n4_:=zx (below_drew1 HB.out);clear HO_5;clear HO805;clear p1;clear p0;clear HB;have HO_5:=n0_;have HO805:=n1_;have p1:=n2_;have p0:=n3_;have HB:=n4_;clear n0_ n1_ n2_ n3_ n4_;obtain ⟨Ao31,co31,eo31⟩:=Kd.R_slice HO805.out
    (first | subst eo31 | (injection eo31 with f1_ f2_ f3_; have f4_:=f1_.symm; have f5_:=f3_.symm; clear f1_ f2_ f3_; subst f4_; subst f5_))
    refine start_ (n:=7) (S:=fun w' => w'.cell? ⟨p3,0,none⟩ = some (.int .i64 ((rd_T34 l0_1 x6_1).f0)) ∧ w'.cell? ⟨p3,1,none⟩ = some (.int .i64 ((rd_T34 l0_1 x6_1).f1)) ∧ w'.cell? ⟨p3,2,none⟩ = some (.int .i64 ((rd_T34 l0_1 x6_1).f2)) ∧ w'.cell? ⟨p3,3,none⟩ = some (.int .i64 ((rd_T34 l0_1 x6_1).f3)) ∧ w'.cell? ⟨p3,4,none⟩ = some (.int .i64 ((rd_T34 l0_1 x6_1).f4)) ∧ w'.cell? ⟨p5,0,none⟩ = some (.int .i64 a0_0) ∧ w'.cell? ⟨p5,1,none⟩ = some (.slice (some p6) l0_1.length c0_1)) (ds:=[]) #[false,false,false,false,false,false,false] (by kernel_rfl) rfl rfl ⟨(blk_cell p0.out 0).trans rfl,(blk_cell p0.out 1).trans rfl,(blk_cell p0.out 2).trans rfl,(blk_cell p0.out 3).trans rfl,(blk_cell p0.out 4).trans rfl,(blk_cell p1.out 0).trans rfl,(blk_cell p1.out 1).trans rfl⟩ (fun hHeld => ?_);generalize w29.drew = w30 at HO_5 HO805 p1 p0 HB hHeld ⊢;refine pure_ (i:=0) (N:=some 33) (v:=?_) (a':=?_) #[true,false,false,false,false,false,false] rfl rfl (by kernel_rfl) (fun _ _ _ h => h) (Or.inl ⟨by rfl,?_⟩) ?_ ?_;rotate_left
    ·intro w';go_simp;with_reducible rfl
    rotate_left
    ·simp only [Act.put,U,V,Z,i64_w,i32_w];rfl
    refine pure_ (i:=3) (N:=some 36) (v:=?_) (a':=?_) #[true,false,false,true,false,false,false] rfl rfl (by kernel_rfl) (fun _ _ _ h => h) (Or.inl ⟨by rfl,?_⟩) ?_ ?_;rotate_left
    ·intro w';go_simp;with_reducible rfl
    rotate_left
    ·simp only [Act.put,U,V,Z,i64_w,i32_w];rfl
    refine take_ (i:=1) (N:=some 34) (v:=?_) (a':=?_) #[true,true,false,true,false,false,false] rfl rfl (by kernel_rfl) (fun _ _ _ h => h) (Or.inl ⟨by rfl,?_⟩) hHeld ?_ ?_;rotate_left
    ·rintro w' ⟨s0,s1,s2,s3,s4,s5,s6⟩;go_simp;with_reducible rfl
    rotate_left
    ·simp only [Act.put,U,V,Z,i64_w,i32_w];rfl
    refine take_ (i:=2) (N:=some 35) (v:=?_) (a':=?_) #[true,true,true,true,false,false,false] rfl rfl (by kernel_rfl) (fun _ _ _ h => h) (Or.inl ⟨by rfl,?_⟩) hHeld ?_ ?_;rotate_left
    ·rintro w' ⟨s0,s1,s2,s3,s4,s5,s6⟩;go_simp;with_reducible rfl
    rotate_left
    ·simp only [Act.put,U,V,Z,i64_w,i32_w];rfl
    refine one_ (i:=4) (N:=some 37) #[true,true,true,true,true,false,false] rfl rfl (by kernel_rfl) (by decide) (fun K hK => ?_);refine goes_ Try.func110 (by kernel_rfl) rfl #[.agg #[.int .i64 a0_0,.slice (some p6) l0_1.length c0_1],.slice Ao31 t803.length co31] (by rfl) rfl rfl (by (try simp only [List.map_toArray,List.map_cons,List.map_nil]); first | done | rfl | (simp only [List.length_drop,List.length_take]; rfl)) ?_;with_reducible refine (spec_l2Cost.calls k1 a0_0 _ _ l0_1 _ _ t803 t807 _ ?side1 ?side2 ?side3 ?side4 A8.out).mono ?_
    (case side1 => repeat (first | exact (Kd.C_below q7.out HB.out) | (with_reducible refine Kd.C_alloc ?_ _) | (with_reducible refine Kd.C_drewN ?_ _) | (with_reducible refine Kd.C_drew ?_)))
    (case side2 => exact q8.out)
    (case side3 => repeat (first | exact (Kd.R_reads' HO805.out).2.2 | (with_reducible refine Kd.C_alloc ?_ _) | (with_reducible refine Kd.C_drewN ?_ _) | (with_reducible refine Kd.C_drew ?_)))
    (case side4 => exact (Kd.R_reads' HO805.out).2.1)
    rintro e w32 ⟨rfl,hb⟩;refine ⟨_,rfl,?_⟩;have n0_:=zx (Kd.R_below HO_5.out hb);have n1_:=zx (Kd.R_below HO805.out hb);have n2_:=zx (blk_below (g:=p5) (o:=.cells #[.int .i64 a0_0,.slice (some p6) l0_1.length c0_1] 25 (0,0)) p1.out hb);have n3_:=zx (blk_below (g:=p3) (o:=.cells #[.int .i64 ((rd_T34 l0_1 x6_1).f0),.int .i64 ((rd_T34 l0_1 x6_1).f1),.int .i64 ((rd_T34 l0_1 x6_1).f2),.int .i64 ((rd_T34 l0_1 x6_1).f3),.int .i64 ((rd_T34 l0_1 x6_1).f4)] 34 (0,0)) p0.out hb);have n4_:=zx (below_step HB.out hb);clear HO_5;clear HO805;clear p1;clear p0;clear HB;have HO_5:=n0_;have HO805:=n1_;have p1:=n2_;have p0:=n3_;have HB:=n4_;clear n0_ n1_ n2_ n3_ n4_
    (try clear hb)
    (try clear hb2)
    (try clear hk)
    (try clear hi)
    refine hK.out _ _ ⟨(blk_cell p0.out 0).trans rfl,(blk_cell p0.out 1).trans rfl,(blk_cell p0.out 2).trans rfl,(blk_cell p0.out 3).trans rfl,(blk_cell p0.out 4).trans rfl,(blk_cell p1.out 0).trans rfl,(blk_cell p1.out 1).trans rfl⟩ (fun hHeld => ?_);clear hK K;refine norm_ (a':=?_) ?_ ?_;rotate_left
    ·show Act.put _ (some 37) _ = _
     simp only [Act.put,U,V,Z,i64_w,i32_w];rfl
    refine pure_ (i:=5) (N:=some 38) (v:=?_) (a':=?_) #[true,true,true,true,true,true,false] rfl rfl (by kernel_rfl) (fun _ _ _ h => h) (Or.inl ⟨by rfl,?_⟩) ?_ ?_;rotate_left
    ·intro w';go_simp;with_reducible rfl
    rotate_left
    ·simp only [Act.put,U,V,Z,i64_w,i32_w];rfl
    refine pure_ (i:=6) (N:=some 10) (v:=?_) (a':=?_) #[true,true,true,true,true,true,true] rfl rfl (by kernel_rfl) (fun _ _ _ h => h) (Or.inl ⟨by rfl,?_⟩) ?_ ?_;rotate_left
    ·intro w';go_simp;with_reducible rfl
    rotate_left
    ·simp only [Act.put,U,V,Z,i64_w,i32_w];rfl
    refine done_ (by kernel_rfl) ?_
    try go_wp2
    go_roundg k1
    case measure => have:=HK1.out; omega
    case rel => exact ⟨(x4_1),(x5_1),(wrap64 (x6_1 + 1)),(by first | rfl | (simp; done) | (simp [*]; done)),(by first | rfl | (simp; done) | (simp [*]; done)),H',⟨by have:=HK1.out; omega⟩,⟨by exact Kd.R_mono HO_5.out (fun _ hk => trivial)⟩,⟨by exact p1.out⟩,⟨by repeat (first | (with_reducible first | exact HB.out | apply below_alloc | apply pw_below_drewN | apply below_drew1 | refine below_set ?_ q3.out | refine below_set ?_ q4.out) | exact HB.out)⟩⟩
   rw [if_pos c10] at H;have c10b0 : decide ((wrap64 (((rd_T34 l0_1 x6_1).f2) + t807)) < x4_1) = true:=decide_eq_true c10;clear c10;obtain ⟨y808,hy808⟩ : ∃ y_ : List Int,y_ = (([x6_1] : List Int)):=⟨_,rfl⟩
   replace H : (if y808.length + t803.length < 17592186044416 then (spec_l24Best.l0 k1 (wrap64 (((rd_T34 l0_1 x6_1).f2) + t807)) (y808 ++ t803) (wrap64 (x6_1 + 1)) a0_0 l0_1) else (none)) = some (r1,r2):=by first | (rw [hy808]; with_reducible exact H) | (have H2_:=(Option.bind_some _ _).symm.trans H; rw [hy808]; with_reducible exact H2_) | (have H2_:=(Option.bind_some _ _).symm.trans H; with_reducible exact H2_) | with_reducible exact H | (rw [hy808]; exact H) | exact H
   have Ny808:=zx hy808;clear hy808
   by_cases c11 : y808.length + t803.length < 17592186044416
   case neg =>
    rw [if_neg c11] at H;exact absurd H (by simp)
   rw [if_pos c11] at H;have LMc11:=zx c11;clear c11;obtain ⟨y811,hy811⟩ : ∃ y_ : List Int,y_ = (y808 ++ t803):=⟨_,rfl⟩
   replace H : (spec_l24Best.l0 k1 (wrap64 (((rd_T34 l0_1 x6_1).f2) + t807)) y811 (wrap64 (x6_1 + 1)) a0_0 l0_1) = some (r1,r2):=by first | (rw [hy811]; with_reducible exact H) | (have H2_:=(Option.bind_some _ _).symm.trans H; rw [hy811]; with_reducible exact H2_) | (have H2_:=(Option.bind_some _ _).symm.trans H; with_reducible exact H2_) | with_reducible exact H | (rw [hy811]; exact H) | exact H
   have Ny811:=zx hy811;clear hy811;have H':=zx H;clear H;have hcz12_0 : wr.cell? ⟨p5,0,none⟩ = some (.int .i64 a0_0):=(blk_cell p1.out 0).trans rfl;have hcz12_1 : wr.cell? ⟨p5,1,none⟩ = some (.slice A0_1 l0_1.length c0_1):=(blk_cell p1.out 1).trans rfl;have hfz12_0:=blk_frozen p1.out 0;have hfz12_1:=blk_frozen p1.out 1;have p801 : 0 ≤ (x6_1 : Int):=of_decide_eq_true (by first | (with_reducible assumption) | assumption);have q801 : x6_1 < (l0_1.length : Int):=of_decide_eq_true (by first | (with_reducible assumption) | assumption);obtain ⟨p6,e801,p7,p8,p9,q0,q1⟩:=at_T34 q7.out x6_1 p801 q801;cases e801;replace p7:=(HB.out.cell (World.block_lt_of_cell? w _ p7)).trans p7;replace p8:=(HB.out.cell (World.block_lt_of_cell? w _ p8)).trans p8;replace p9:=(HB.out.cell (World.block_lt_of_cell? w _ p9)).trans p9;replace q0:=(HB.out.cell (World.block_lt_of_cell? w _ q0)).trans q0;replace q1:=(HB.out.cell (World.block_lt_of_cell? w _ q1)).trans q1;replace p801:=eq_true p801;replace q801:=eq_true q801
   try go_wp2_with (first | ((with_reducible refine gate_dst (N:=7) rfl ?_); refine box_event ?hg (N:=7) ?hd (cs:=#[.int .i64 0,.int .i64 0,.int .i64 0,.int .i64 0,.int .i64 0]) (t:=34) ?hr ?_; (case hd => rfl); (case hg => rfl); (case hr => first | (go_simp; done) | (go_simp; rfl)); intro p3 hg w13 hbox hb; have n0_:=zx (Kd.R_below HO_5.out hb); have n1_:=zx (blk_below (g:=p5) (o:=.cells #[.int .i64 a0_0,.slice (some p6) l0_1.length c0_1] 25 (0,0)) p1.out hb); have n2_:=zx (below_step HB.out hb); have n3_:=zx (hbox); have n4_:=zx ((by rw [hg]; exact (below_size HB.out) : w.heap.size ≤ p3)); have n5_:=zx ((by rw [hg]; exact (below_size HB.out) : w.heap.size ≤ p3)); have n6_:=zx ((by rw [hg]; exact Nat.ne_of_lt (blk_lt (g:=p5) (o:=.cells #[.int .i64 a0_0,.slice (some p6) l0_1.length c0_1] 25 (0,0)) p1.out) : p5 ≠ p3)); have n7_:=zx ((by rw [hg]; exact Nat.ne_of_gt (blk_lt (g:=p5) (o:=.cells #[.int .i64 a0_0,.slice (some p6) l0_1.length c0_1] 25 (0,0)) p1.out) : p3 ≠ p5)); clear HO_5; clear p1; clear HB; have HO_5:=n0_; have p1:=n1_; have HB:=n2_; have p0:=n3_; have GW802:=n4_; have q4:=n5_; have p4:=n6_; have q5:=n7_; clear n0_ n1_ n2_ n3_ n4_ n5_ n6_ n7_; clear hb hbox hg; have hnb14:=q5.out; have hnc14:=p4.out; have hcz15_0 : w13.cell? ⟨p3,0,none⟩ = some (.int .i64 0):=(blk_cell p0.out 0).trans rfl; have hcz15_1 : w13.cell? ⟨p3,1,none⟩ = some (.int .i64 0):=(blk_cell p0.out 1).trans rfl; have hcz15_2 : w13.cell? ⟨p3,2,none⟩ = some (.int .i64 0):=(blk_cell p0.out 2).trans rfl; have hcz15_3 : w13.cell? ⟨p3,3,none⟩ = some (.int .i64 0):=(blk_cell p0.out 3).trans rfl; have hcz15_4 : w13.cell? ⟨p3,4,none⟩ = some (.int .i64 0):=(blk_cell p0.out 4).trans rfl; have hfz15_0:=blk_frozen p0.out 0; have hfz15_1:=blk_frozen p0.out 1; have hfz15_2:=blk_frozen p0.out 2; have hfz15_3:=blk_frozen p0.out 3; have hfz15_4:=blk_frozen p0.out 4; have hcz16_0 : w13.cell? ⟨p5,0,none⟩ = some (.int .i64 a0_0):=(blk_cell p1.out 0).trans rfl; have hcz16_1 : w13.cell? ⟨p5,1,none⟩ = some (.slice (some p6) l0_1.length c0_1):=(blk_cell p1.out 1).trans rfl; have hfz16_0:=blk_frozen p1.out 0; have hfz16_1:=blk_frozen p1.out 1) | ((with_reducible refine gate_callee (f:=66) rfl ?_); refine goesL_ (some 30) rfl rfl Try.func66 (by kernel_rfl) rfl #[.agg #[.int .i64 a0_0,.slice (some p6) l0_1.length c0_1],.int .i64 ((rd_T34 l0_1 x6_1).f1),.int .i64 ((rd_T34 l0_1 x6_1).f0)] rfl (by (try simp only [List.map_toArray,List.map_cons,List.map_nil]); first | done | rfl | (simp only [List.length_drop,List.length_take]; rfl)) ?_; (with_reducible refine (spec_l3Walk.calls k1 a0_0 _ _ l0_1 ((rd_T34 l0_1 x6_1).f1) ((rd_T34 l0_1 x6_1).f0) t803 true _ ?side1 ?side2 A7.out).mono ?_); (case side1 => exact Kd.C_below q7.out (by repeat (first | (with_reducible first | exact HB.out | apply below_alloc | apply pw_below_drewN | apply below_drew1 | refine below_set ?_ q3.out | refine below_set ?_ q4.out) | exact HB.out))); (case side2 => exact q8.out); rintro e w17 ⟨v804,rfl,ho0,hb⟩; refine ⟨_,rfl,?_⟩; have n0_:=zx (Kd.R_elder' (Kd.R_mono (Kd.R_far (p:=⟨p3,4,none⟩) (Kd.R_far (p:=⟨p3,3,none⟩) (Kd.R_far (p:=⟨p3,2,none⟩) (Kd.R_far (p:=⟨p3,1,none⟩) (Kd.R_far (p:=⟨p3,0,none⟩) (Kd.R_types HO_5.out p0.out (by decide)) (fun _ hk => hk.2) (.int .i64 ((rd_T34 l0_1 x6_1).f0))) (fun _ hk => hk.2) (.int .i64 ((rd_T34 l0_1 x6_1).f1))) (fun _ hk => hk.2) (.int .i64 ((rd_T34 l0_1 x6_1).f2))) (fun _ hk => hk.2) (.int .i64 ((rd_T34 l0_1 x6_1).f3))) (fun _ hk => hk.2) (.int .i64 ((rd_T34 l0_1 x6_1).f4))) (fun _ h_ => h_.1)) (Kd.R_base ho0) hb); have n1_:=zx (Kd.R_lower (Kd.R_new' ho0 (Kd.R_lt (Kd.R_mono (Kd.R_far (p:=⟨p3,4,none⟩) (Kd.R_far (p:=⟨p3,3,none⟩) (Kd.R_far (p:=⟨p3,2,none⟩) (Kd.R_far (p:=⟨p3,1,none⟩) (Kd.R_far (p:=⟨p3,0,none⟩) (Kd.R_types HO_5.out p0.out (by decide)) (fun _ hk => hk.2) (.int .i64 ((rd_T34 l0_1 x6_1).f0))) (fun _ hk => hk.2) (.int .i64 ((rd_T34 l0_1 x6_1).f1))) (fun _ hk => hk.2) (.int .i64 ((rd_T34 l0_1 x6_1).f2))) (fun _ hk => hk.2) (.int .i64 ((rd_T34 l0_1 x6_1).f3))) (fun _ hk => hk.2) (.int .i64 ((rd_T34 l0_1 x6_1).f4))) (fun _ h_ => h_.1)))) (below_size (by repeat (first | (with_reducible first | exact HB.out | apply below_alloc | apply pw_below_drewN | apply below_drew1 | refine below_set ?_ q3.out | refine below_set ?_ q4.out) | exact HB.out)))); have n2_:=zx (blk_below (g:=p5) (o:=.cells #[.int .i64 a0_0,.slice (some p6) l0_1.length c0_1] 25 (0,0)) (by refine blk_far ?_ p4.out _; refine blk_far ?_ p4.out _; refine blk_far ?_ p4.out _; refine blk_far ?_ p4.out _; refine blk_far ?_ p4.out _; exact p1.out) hb); have n3_:=zx (blk_below (g:=p3) (o:=.cells #[.int .i64 ((rd_T34 l0_1 x6_1).f0),.int .i64 ((rd_T34 l0_1 x6_1).f1),.int .i64 ((rd_T34 l0_1 x6_1).f2),.int .i64 ((rd_T34 l0_1 x6_1).f3),.int .i64 ((rd_T34 l0_1 x6_1).f4)] 34 (0,0)) (by refine blk_put (cs:=#[.int .i64 ((rd_T34 l0_1 x6_1).f0),.int .i64 ((rd_T34 l0_1 x6_1).f1),.int .i64 ((rd_T34 l0_1 x6_1).f2),.int .i64 ((rd_T34 l0_1 x6_1).f3),.int .i64 0]) ?_ 4 _ rfl; refine blk_put (cs:=#[.int .i64 ((rd_T34 l0_1 x6_1).f0),.int .i64 ((rd_T34 l0_1 x6_1).f1),.int .i64 ((rd_T34 l0_1 x6_1).f2),.int .i64 0,.int .i64 0]) ?_ 3 _ rfl; refine blk_put (cs:=#[.int .i64 ((rd_T34 l0_1 x6_1).f0),.int .i64 ((rd_T34 l0_1 x6_1).f1),.int .i64 0,.int .i64 0,.int .i64 0]) ?_ 2 _ rfl; refine blk_put (cs:=#[.int .i64 ((rd_T34 l0_1 x6_1).f0),.int .i64 0,.int .i64 0,.int .i64 0,.int .i64 0]) ?_ 1 _ rfl; refine blk_put (cs:=#[.int .i64 0,.int .i64 0,.int .i64 0,.int .i64 0,.int .i64 0]) ?_ 0 _ rfl; exact p0.out) hb); have n4_:=zx (below_step (by repeat (first | (with_reducible first | exact HB.out | apply below_alloc | apply pw_below_drewN | apply below_drew1 | refine below_set ?_ q3.out | refine below_set ?_ q4.out) | exact HB.out)) hb); clear HO_5; clear p1; clear p0; clear HB; have HO_5:=n0_; have HO805:=n1_; have p1:=n2_; have p0:=n3_; have HB:=n4_; clear n0_ n1_ n2_ n3_ n4_; (try clear hb); (try clear hb2); (try clear hk); (try clear hi); (try clear ho0)))
   have n0_:=zx (Kd.R_drew HO_5.out);have n1_:=zx (Kd.R_drew HO805.out);have n2_:=zx (blk_drew p1.out);have n3_:=zx (blk_drew p0.out);have n4_:=zx (below_drew1 HB.out);clear HO_5;clear HO805;clear p1;clear p0;clear HB;have HO_5:=n0_;have HO805:=n1_;have p1:=n2_;have p0:=n3_;have HB:=n4_;clear n0_ n1_ n2_ n3_ n4_;obtain ⟨Ao19,co19,eo19⟩:=Kd.R_slice HO805.out
   (first | subst eo19 | (injection eo19 with f1_ f2_ f3_; have f4_:=f1_.symm; have f5_:=f3_.symm; clear f1_ f2_ f3_; subst f4_; subst f5_))
   refine start_ (n:=7) (S:=fun w' => w'.cell? ⟨p3,0,none⟩ = some (.int .i64 ((rd_T34 l0_1 x6_1).f0)) ∧ w'.cell? ⟨p3,1,none⟩ = some (.int .i64 ((rd_T34 l0_1 x6_1).f1)) ∧ w'.cell? ⟨p3,2,none⟩ = some (.int .i64 ((rd_T34 l0_1 x6_1).f2)) ∧ w'.cell? ⟨p3,3,none⟩ = some (.int .i64 ((rd_T34 l0_1 x6_1).f3)) ∧ w'.cell? ⟨p3,4,none⟩ = some (.int .i64 ((rd_T34 l0_1 x6_1).f4)) ∧ w'.cell? ⟨p5,0,none⟩ = some (.int .i64 a0_0) ∧ w'.cell? ⟨p5,1,none⟩ = some (.slice (some p6) l0_1.length c0_1)) (ds:=[]) #[false,false,false,false,false,false,false] (by kernel_rfl) rfl rfl ⟨(blk_cell p0.out 0).trans rfl,(blk_cell p0.out 1).trans rfl,(blk_cell p0.out 2).trans rfl,(blk_cell p0.out 3).trans rfl,(blk_cell p0.out 4).trans rfl,(blk_cell p1.out 0).trans rfl,(blk_cell p1.out 1).trans rfl⟩ (fun hHeld => ?_);generalize w17.drew = w18 at HO_5 HO805 p1 p0 HB hHeld ⊢;refine pure_ (i:=0) (N:=some 33) (v:=?_) (a':=?_) #[true,false,false,false,false,false,false] rfl rfl (by kernel_rfl) (fun _ _ _ h => h) (Or.inl ⟨by rfl,?_⟩) ?_ ?_;rotate_left
   ·intro w';go_simp;with_reducible rfl
   rotate_left
   ·simp only [Act.put,U,V,Z,i64_w,i32_w];rfl
   refine pure_ (i:=3) (N:=some 36) (v:=?_) (a':=?_) #[true,false,false,true,false,false,false] rfl rfl (by kernel_rfl) (fun _ _ _ h => h) (Or.inl ⟨by rfl,?_⟩) ?_ ?_;rotate_left
   ·intro w';go_simp;with_reducible rfl
   rotate_left
   ·simp only [Act.put,U,V,Z,i64_w,i32_w];rfl
   refine take_ (i:=1) (N:=some 34) (v:=?_) (a':=?_) #[true,true,false,true,false,false,false] rfl rfl (by kernel_rfl) (fun _ _ _ h => h) (Or.inl ⟨by rfl,?_⟩) hHeld ?_ ?_;rotate_left
   ·rintro w' ⟨s0,s1,s2,s3,s4,s5,s6⟩;go_simp;with_reducible rfl
   rotate_left
   ·simp only [Act.put,U,V,Z,i64_w,i32_w];rfl
   refine take_ (i:=2) (N:=some 35) (v:=?_) (a':=?_) #[true,true,true,true,false,false,false] rfl rfl (by kernel_rfl) (fun _ _ _ h => h) (Or.inl ⟨by rfl,?_⟩) hHeld ?_ ?_;rotate_left
   ·rintro w' ⟨s0,s1,s2,s3,s4,s5,s6⟩;go_simp;with_reducible rfl
   rotate_left
   ·simp only [Act.put,U,V,Z,i64_w,i32_w];rfl
   refine one_ (i:=4) (N:=some 37) #[true,true,true,true,true,false,false] rfl rfl (by kernel_rfl) (by decide) (fun K hK => ?_);refine goes_ Try.func110 (by kernel_rfl) rfl #[.agg #[.int .i64 a0_0,.slice (some p6) l0_1.length c0_1],.slice Ao19 t803.length co19] (by rfl) rfl rfl (by (try simp only [List.map_toArray,List.map_cons,List.map_nil]); first | done | rfl | (simp only [List.length_drop,List.length_take]; rfl)) ?_;with_reducible refine (spec_l2Cost.calls k1 a0_0 _ _ l0_1 _ _ t803 t807 _ ?side1 ?side2 ?side3 ?side4 A8.out).mono ?_
   (case side1 => repeat (first | exact (Kd.C_below q7.out HB.out) | (with_reducible refine Kd.C_alloc ?_ _) | (with_reducible refine Kd.C_drewN ?_ _) | (with_reducible refine Kd.C_drew ?_)))
   (case side2 => exact q8.out)
   (case side3 => repeat (first | exact (Kd.R_reads' HO805.out).2.2 | (with_reducible refine Kd.C_alloc ?_ _) | (with_reducible refine Kd.C_drewN ?_ _) | (with_reducible refine Kd.C_drew ?_)))
   (case side4 => exact (Kd.R_reads' HO805.out).2.1)
   rintro e w20 ⟨rfl,hb⟩;refine ⟨_,rfl,?_⟩;have n0_:=zx (Kd.R_below HO_5.out hb);have n1_:=zx (Kd.R_below HO805.out hb);have n2_:=zx (blk_below (g:=p5) (o:=.cells #[.int .i64 a0_0,.slice (some p6) l0_1.length c0_1] 25 (0,0)) p1.out hb);have n3_:=zx (blk_below (g:=p3) (o:=.cells #[.int .i64 ((rd_T34 l0_1 x6_1).f0),.int .i64 ((rd_T34 l0_1 x6_1).f1),.int .i64 ((rd_T34 l0_1 x6_1).f2),.int .i64 ((rd_T34 l0_1 x6_1).f3),.int .i64 ((rd_T34 l0_1 x6_1).f4)] 34 (0,0)) p0.out hb);have n4_:=zx (below_step HB.out hb);clear HO_5;clear HO805;clear p1;clear p0;clear HB;have HO_5:=n0_;have HO805:=n1_;have p1:=n2_;have p0:=n3_;have HB:=n4_;clear n0_ n1_ n2_ n3_ n4_
   (try clear hb)
   (try clear hb2)
   (try clear hk)
   (try clear hi)
   refine hK.out _ _ ⟨(blk_cell p0.out 0).trans rfl,(blk_cell p0.out 1).trans rfl,(blk_cell p0.out 2).trans rfl,(blk_cell p0.out 3).trans rfl,(blk_cell p0.out 4).trans rfl,(blk_cell p1.out 0).trans rfl,(blk_cell p1.out 1).trans rfl⟩ (fun hHeld => ?_);clear hK K;refine norm_ (a':=?_) ?_ ?_;rotate_left
   ·show Act.put _ (some 37) _ = _
    simp only [Act.put,U,V,Z,i64_w,i32_w];rfl
   refine pure_ (i:=5) (N:=some 38) (v:=?_) (a':=?_) #[true,true,true,true,true,true,false] rfl rfl (by kernel_rfl) (fun _ _ _ h => h) (Or.inl ⟨by rfl,?_⟩) ?_ ?_;rotate_left
   ·intro w';go_simp;with_reducible rfl
   rotate_left
   ·simp only [Act.put,U,V,Z,i64_w,i32_w];rfl
   refine pure_ (i:=6) (N:=some 10) (v:=?_) (a':=?_) #[true,true,true,true,true,true,true] rfl rfl (by kernel_rfl) (fun _ _ _ h => h) (Or.inl ⟨by rfl,?_⟩) ?_ ?_;rotate_left
   ·intro w';go_simp;with_reducible rfl
   rotate_left
   ·simp only [Act.put,U,V,Z,i64_w,i32_w];rfl
   refine done_ (by kernel_rfl) ?_
   try go_wp2_with (first | ((with_reducible refine gate_dst (N:=47) rfl ?_); refine Kd.R_lit (Kd.int .i64) _ 3 ?hg (N:=47) ?hd (xs:=([x6_1] : List Int)) (inner:=[.int .i64 x6_1]) (ok:=fun _ => True) (okp:=fun _ => True) ?hr ?hp (fun _ hk => hk) trivial (Below.refl _ _) (Nat.le_refl _) (by simp) ?_; (case hd => rfl); (case hg => rfl); (case hr => first | (go_simp; done) | (go_simp; rfl)); (case hp => exact (Reps.one (show Kd.M (Kd.int .i64) _ _ _ x6_1 [.int .i64 x6_1] from rfl) (Reps.none _ _))); intro v809 w21 ho22 hb hg_ hnew_; clear hg_ hnew_; (first | rw [← Ny808.out] at ho22 | (simp only [Int.reduceToNat] at ho22; rw [← Ny808.out] at ho22)); have n0_:=zx (Kd.R_elder' HO_5.out (Kd.R_base ho22) hb); have n1_:=zx (Kd.R_elder' HO805.out (Kd.R_base ho22) hb); have n2_:=zx (Kd.R_lower (Kd.R_new' (Kd.R_new' ho22 (Kd.R_lt HO_5.out)) (Kd.R_lt HO805.out)) (below_size HB.out)); have n3_:=zx (blk_below (g:=p5) (o:=.cells #[.int .i64 a0_0,.slice (some p6) l0_1.length c0_1] 25 (0,0)) p1.out hb); have n4_:=zx (blk_below (g:=p3) (o:=.cells #[.int .i64 ((rd_T34 l0_1 x6_1).f0),.int .i64 ((rd_T34 l0_1 x6_1).f1),.int .i64 ((rd_T34 l0_1 x6_1).f2),.int .i64 ((rd_T34 l0_1 x6_1).f3),.int .i64 ((rd_T34 l0_1 x6_1).f4)] 34 (0,0)) p0.out hb); have n5_:=zx (below_step HB.out hb); clear HO_5; clear HO805; clear p1; clear p0; clear HB; have HO_5:=n0_; have HO805:=n1_; have HO810:=n2_; have p1:=n3_; have p0:=n4_; have HB:=n5_; clear n0_ n1_ n2_ n3_ n4_ n5_; clear hb ho22) | ((with_reducible refine gate_builtin (b:=.append) (xs:=#[.tmp 47,.tmp 48]) rfl ?_); at_builtin; refine Kd.R_append_rows (Kd.int .i64) (w0:=w) w.heap.size rfl (.tmp 47) (.tmp 48) 29 3 (.int .i64 0) 8 rfl Try.underlying29 info3 rfl (by decide) (by omega) v809 y808 t803 _ _ _ (fun k_ => some k_ ≠ (u5 : Value).ownBlock ∧ some k_ ≠ (.slice Ao19 t803.length co19 : Value).ownBlock) (fun _ => False) rfl rfl ?aO ?aR (fun _ _ h => h) (fun _ h => h.elim) ?aF ?aB ?aS ?aL ?_; (case aR => repeat (first | exact (Kd.R_reads' HO805.out).2.2 | (with_reducible refine Kd.C_alloc ?_ _) | (with_reducible refine Kd.C_drewN ?_ _) | (with_reducible refine Kd.C_drew ?_))); (case aB => exact HB.out); (case aF => exact (fun k_ hk => ⟨Kd.fresh' (Kd.R_lt HO_5.out) k_ hk,Kd.fresh' (Kd.R_lt HO805.out) k_ hk⟩)); (case aO => exact (Kd.R_mono HO810.out (fun _ hk => ⟨hk.1.2,hk.2⟩))); (case aS => exact (below_size HB.out)); (case aL => have:=LMc11.out; omega); intro v812 w23 ho hb hg hat; rw [← Ny811.out] at ho; have n0_:=zx (Kd.R_after (ok:=(fun k_ => some k_ ≠ (.slice Ao19 t803.length co19 : Value).ownBlock)) (Kd.R_mono HO_5.out (fun _ hk => ⟨hk.1.2,hk.2⟩)) hg hat); have n1_:=zx (blk_grown (g:=p5) (o:=.cells #[.int .i64 a0_0,.slice (some p6) l0_1.length c0_1] 25 (0,0)) p1.out hg (Kd.R_ne HO810.out p1.out (by decide))); have n2_:=zx (blk_grown (g:=p3) (o:=.cells #[.int .i64 ((rd_T34 l0_1 x6_1).f0),.int .i64 ((rd_T34 l0_1 x6_1).f1),.int .i64 ((rd_T34 l0_1 x6_1).f2),.int .i64 ((rd_T34 l0_1 x6_1).f3),.int .i64 ((rd_T34 l0_1 x6_1).f4)] 34 (0,0)) p0.out hg (Kd.R_ne HO810.out p0.out (by decide))); have n3_:=zx (Kd.R_after (ok:=(fun k_ => some k_ ≠ (u5 : Value).ownBlock)) (Kd.R_mono HO805.out (fun _ hk => ⟨hk.1.2,hk.2⟩)) hg hat); have n4_:=zx (hb); have n5_:=zx (ho); clear HO_5; clear p1; clear p0; clear HO805; clear HB; clear HO810; have HO_5:=n0_; have p1:=n1_; have p0:=n2_; have HO805:=n3_; have HB:=n4_; have HO813:=n5_; clear n0_ n1_ n2_ n3_ n4_ n5_; clear ho hb hg hat))
   go_roundg k1
   case measure => have:=HK1.out; omega
   case rel => exact ⟨(wrap64 (((rd_T34 l0_1 x6_1).f2) + t807)),(y811),(wrap64 (x6_1 + 1)),(by first | rfl | (simp; done) | (simp [*]; done)),(by first | rfl | (simp; done) | (simp [*]; done)),H',⟨by have:=HK1.out; omega⟩,⟨by exact Kd.R_mono HO813.out (fun _ hk => trivial)⟩,⟨by exact p1.out⟩,⟨by repeat (first | (with_reducible first | exact HB.out | apply below_alloc | apply pw_below_drewN | apply below_drew1 | refine below_set ?_ q3.out | refine below_set ?_ q4.out) | exact HB.out)⟩⟩
def spec_RingBest.f (k : Nat) (a0_0 : Int) (l0_1 : List (S34)) : Option (List Int × Int):=(spec_l1Ok.f k a0_0 l0_1).bind fun t815 => (if t815 = true then ((spec_l24Best.f k a0_0 l0_1).bind fun bt816 => (some (bt816.1,bt816.2))) else (some (([] : List Int),(-1))))
set_option maxHeartbeats 8000000 in
set_option maxRecDepth 100000 in
theorem spec_RingBest.calls (k : Nat) (a0_0 : Int) (A0_1 : Option Addr) (c0_1 : Nat) (l0_1 : List (S34)) (r1 : List Int) (r2 : Int) (w : World) (hr0_1 : Kd.C k34 w A0_1 l0_1.length l0_1) (hc0_1 : l0_1.length ≤ c0_1) (h : spec_RingBest.f k a0_0 l0_1 = some (r1,r2)) :
  Calls Try.prog 38 #[.agg #[.int .i64 a0_0,.slice A0_1 l0_1.length c0_1]] w fun e w' => ∃ v0_ : Value,e = .returned (.tuple #[v0_,.int .i64 r2]) ∧ Kd.R (Kd.int .i64) 3 w' w.heap.size (fun _ => True) v0_ r1 ∧ Below w.heap.size w w':=by
 have hu25:=Try.underlying25;have p2:=zx hr0_1;have p3:=zx hc0_1;clear hr0_1 hc0_1;have HB:=zx (Below.refl w.heap.size w);have H : ((spec_l1Ok.f k a0_0 l0_1).bind fun t815 => (if t815 = true then ((spec_l24Best.f k a0_0 l0_1).bind fun bt816 => (some (bt816.1,bt816.2))) else (some (([] : List Int),(-1))))) = some (r1,r2):=h;clear h;replace H:=Option.bind_eq_some_iff.mp H;obtain ⟨t815,A20,H⟩:=H;replace H : (if t815 = true then ((spec_l24Best.f k a0_0 l0_1).bind fun bt816 => (some (bt816.1,bt816.2))) else (some (([] : List Int),(-1)))) = some (r1,r2):=H;have A2:=zx A20;clear A20
 by_cases c3 : t815 = true
 case neg =>
  replace c3:=Bool.eq_false_iff.mpr c3;subst c3;have H1 : (some (([] : List Int),(-1))) = some (r1,r2):=by rw [if_neg (show ¬ (false = true) by decide)] at H; exact H
  clear H;have H:=H1;clear H1;simp only [Option.some.injEq,Prod.mk.injEq] at H;obtain ⟨rfl,rfl⟩:=H
  go_enter Try.func38,Try.ntmps38
  go_wp2_with (first | ((with_reducible refine gate_dst (N:=1) rfl ?_); refine box_event ?hg (N:=1) ?hd (cs:=#[.int .i64 a0_0,.slice A0_1 l0_1.length c0_1]) (t:=25) ?hr ?_; (case hd => rfl); (case hg => rfl); (case hr => first | (go_simp; done) | (go_simp; rfl)); intro p1 hg w10 hbox hb; have n0_:=zx (below_step HB.out hb); have n1_:=zx (hbox); have n2_:=zx ((by rw [hg]; exact (below_size HB.out) : w.heap.size ≤ p1)); have n3_:=zx ((by rw [hg]; exact (below_size HB.out) : w.heap.size ≤ p1)); clear HB; have HB:=n0_; have p0:=n1_; have GW814:=n2_; have p4:=n3_; clear n0_ n1_ n2_ n3_; clear hb hbox hg; have hcz11_0 : w10.cell? ⟨p1,0,none⟩ = some (.int .i64 a0_0):=(blk_cell p0.out 0).trans rfl; have hcz11_1 : w10.cell? ⟨p1,1,none⟩ = some (.slice A0_1 l0_1.length c0_1):=(blk_cell p0.out 1).trans rfl; have hfz11_0:=blk_frozen p0.out 0; have hfz11_1:=blk_frozen p0.out 1) | ((with_reducible refine gate_callee (f:=53) rfl ?_); refine goesL_ (some 5) rfl rfl Try.func53 (by kernel_rfl) rfl #[.agg #[.int .i64 a0_0,.slice A0_1 l0_1.length c0_1]] rfl (by (try simp only [List.map_toArray,List.map_cons,List.map_nil]); first | done | rfl | (simp only [List.length_drop,List.length_take]; rfl)) ?_; (with_reducible refine (spec_l1Ok.calls k a0_0 _ _ l0_1 false _ ?side1 ?side2 A2.out).mono ?_); (case side1 => repeat (first | exact (Kd.C_below p2.out HB.out) | (with_reducible refine Kd.C_alloc ?_ _) | (with_reducible refine Kd.C_drewN ?_ _) | (with_reducible refine Kd.C_drew ?_))); (case side2 => exact p3.out); rintro e w12 ⟨rfl,hb⟩; refine ⟨_,rfl,?_⟩; have n0_:=zx (blk_below (g:=p1) (o:=.cells #[.int .i64 a0_0,.slice A0_1 l0_1.length c0_1] 25 (0,0)) p0.out hb); have n1_:=zx (below_step HB.out hb); clear p0; clear HB; have p0:=n0_; have HB:=n1_; clear n0_ n1_; (try clear hb); (try clear hb2); (try clear hk); (try clear hi)))
  go_ret2;exact ⟨_,by first | rfl | (simp [errW_none,errW_some] <;> rfl) | (simp [*,errW_none,errW_some] <;> rfl),by first | exact Kd.R_nil _ _ _ _ _ | exact Kd.N_nil _ _ _ _ _ | exact Kd.V_nil _ _ _ _ _ | exact Kd.Q_nil _ _ _ _ _ | exact Kd.S_nil _ _ _ _ _,by repeat (first | (with_reducible first | exact HB.out | apply below_alloc | apply pw_below_drewN | apply below_drew1 | refine below_set ?_ p4.out) | exact HB.out)⟩
 subst c3;have H1 : ((spec_l24Best.f k a0_0 l0_1).bind fun bt816 => (some (bt816.1,bt816.2))) = some (r1,r2):=by rw [if_pos rfl] at H; exact H
 clear H;have H:=H1;clear H1;replace H:=Option.bind_eq_some_iff.mp H;obtain ⟨⟨t816,t819⟩,A40,H⟩:=H;replace H : (some (t816,t819)) = some (r1,r2):=H;have A4:=zx A40;clear A40;simp only [Option.some.injEq,Prod.mk.injEq] at H;obtain ⟨rfl,rfl⟩:=H
 go_enter Try.func38,Try.ntmps38
 go_wp2_with (first | ((with_reducible refine gate_dst (N:=1) rfl ?_); refine box_event ?hg (N:=1) ?hd (cs:=#[.int .i64 a0_0,.slice A0_1 l0_1.length c0_1]) (t:=25) ?hr ?_; (case hd => rfl); (case hg => rfl); (case hr => first | (go_simp; done) | (go_simp; rfl)); intro p1 hg w5 hbox hb; have n0_:=zx (below_step HB.out hb); have n1_:=zx (hbox); have n2_:=zx ((by rw [hg]; exact (below_size HB.out) : w.heap.size ≤ p1)); have n3_:=zx ((by rw [hg]; exact (below_size HB.out) : w.heap.size ≤ p1)); clear HB; have HB:=n0_; have p0:=n1_; have GW814:=n2_; have p4:=n3_; clear n0_ n1_ n2_ n3_; clear hb hbox hg; have hcz6_0 : w5.cell? ⟨p1,0,none⟩ = some (.int .i64 a0_0):=(blk_cell p0.out 0).trans rfl; have hcz6_1 : w5.cell? ⟨p1,1,none⟩ = some (.slice A0_1 l0_1.length c0_1):=(blk_cell p0.out 1).trans rfl; have hfz6_0:=blk_frozen p0.out 0; have hfz6_1:=blk_frozen p0.out 1) | ((with_reducible refine gate_callee (f:=53) rfl ?_); refine goesL_ (some 5) rfl rfl Try.func53 (by kernel_rfl) rfl #[.agg #[.int .i64 a0_0,.slice A0_1 l0_1.length c0_1]] rfl (by (try simp only [List.map_toArray,List.map_cons,List.map_nil]); first | done | rfl | (simp only [List.length_drop,List.length_take]; rfl)) ?_; (with_reducible refine (spec_l1Ok.calls k a0_0 _ _ l0_1 true _ ?side1 ?side2 A2.out).mono ?_); (case side1 => repeat (first | exact (Kd.C_below p2.out HB.out) | (with_reducible refine Kd.C_alloc ?_ _) | (with_reducible refine Kd.C_drewN ?_ _) | (with_reducible refine Kd.C_drew ?_))); (case side2 => exact p3.out); rintro e w7 ⟨rfl,hb⟩; refine ⟨_,rfl,?_⟩; have n0_:=zx (blk_below (g:=p1) (o:=.cells #[.int .i64 a0_0,.slice A0_1 l0_1.length c0_1] 25 (0,0)) p0.out hb); have n1_:=zx (below_step HB.out hb); clear p0; clear HB; have p0:=n0_; have HB:=n1_; clear n0_ n1_; (try clear hb); (try clear hb2); (try clear hk); (try clear hi); have hcz8_0 : w7.cell? ⟨p1,0,none⟩ = some (.int .i64 a0_0):=(blk_cell p0.out 0).trans rfl; have hcz8_1 : w7.cell? ⟨p1,1,none⟩ = some (.slice A0_1 l0_1.length c0_1):=(blk_cell p0.out 1).trans rfl; have hfz8_0:=blk_frozen p0.out 0; have hfz8_1:=blk_frozen p0.out 1) | ((with_reducible refine gate_callee (f:=72) rfl ?_); refine goesL_ (some 8) rfl rfl Try.func72 (by kernel_rfl) rfl #[.agg #[.int .i64 a0_0,.slice A0_1 l0_1.length c0_1]] rfl (by (try simp only [List.map_toArray,List.map_cons,List.map_nil]); first | done | rfl | (simp only [List.length_drop,List.length_take]; rfl)) ?_; (with_reducible refine (spec_l24Best.calls k a0_0 _ _ l0_1 t816 t819 _ ?side1 ?side2 A4.out).mono ?_); (case side1 => repeat (first | exact (Kd.C_below p2.out HB.out) | (with_reducible refine Kd.C_alloc ?_ _) | (with_reducible refine Kd.C_drewN ?_ _) | (with_reducible refine Kd.C_drew ?_))); (case side2 => exact p3.out); rintro e w9 ⟨v817,rfl,ho0,hb⟩; refine ⟨_,rfl,?_⟩; have n0_:=zx (Kd.R_lower ho0 (below_size HB.out)); have n1_:=zx (blk_below (g:=p1) (o:=.cells #[.int .i64 a0_0,.slice A0_1 l0_1.length c0_1] 25 (0,0)) p0.out hb); have n2_:=zx (below_step HB.out hb); clear p0; clear HB; have HO818:=n0_; have p0:=n1_; have HB:=n2_; clear n0_ n1_ n2_; (try clear hb); (try clear hb2); (try clear hk); (try clear hi); (try clear ho0)))
 go_ret2;exact ⟨_,by first | rfl | (simp [errW_none,errW_some] <;> rfl) | (simp [*,errW_none,errW_some] <;> rfl),by (with_reducible repeat (first | apply Kd.R_alloc | apply Kd.R_drewN | apply Kd.R_drew)); exact HO818.out,by repeat (first | (with_reducible first | exact HB.out | apply below_alloc | apply pw_below_drewN | apply below_drew1 | refine below_set ?_ p4.out) | exact HB.out)⟩
mutual
def laws_FnRingWay.j0 : Nat → List Int → Int → List Int → Int → Bool → Int → List (S34) → Option (Bool)
 | 0,_,_,_,_,_,_,_ => none
 | k + 1,x4,x5,x6,x7,x40,q5,q0 => if x40 = true then (if x5 = x7 then ((laws_wkInts.f k x4 x6).bind fun t834 => (some t834)) else (some false)) else (laws_FnRingWay.l0 k x4 x5 0 q5 q0)
def laws_FnRingWay.l0 : Nat → List Int → Int → Int → Int → List (S34) → Option (Bool)
 | 0,_,_,_,_,_ => none
 | k + 1,x4,x5,x8,q5,q0 => if x8 < (x4.length : Int) then (if 0 ≤ x8 then (if 0 ≤ (rd x4 x8) then (if (rd x4 x8) < (q0.length : Int) then ((impl_NearAll.f k q5 q0 ((rd_T34 q0 (rd x4 x8)).f1)).bind fun t838 => (if 0 ≤ ((rd_T34 q0 (rd x4 x8)).f0) then (if ((rd_T34 q0 (rd x4 x8)).f0) < (t838.length : Int) then (if (wrap64 ((rd t838 ((rd_T34 q0 (rd x4 x8)).f0)) + ((rd_T34 q0 (rd x4 x8)).f2))) = x5 then (laws_FnRingWay.l0 k x4 x5 (wrap64 (x8 + 1)) q5 q0) else (some false)) else (none)) else (none))) else (none)) else (none)) else (none)) else (if 0 < (x4.length : Int) then (if 0 ≤ (rd x4 0) then (if (rd x4 0) < (q0.length : Int) then ((impl_NearWalk.f k q5 q0 ((rd_T34 q0 (rd x4 0)).f1) ((rd_T34 q0 (rd x4 0)).f0)).bind fun bt846 => (if bt846.2 = true then (if 1 ≤ (x4.length : Int) then ((laws_wkInts.f k bt846.1 (x4.drop 1)).bind fun t854 => (some t854)) else (none)) else (some false))) else (none)) else (none)) else (none))
end
def laws_FnRingWay.f (k : Nat) (l0 : List Int) : Option (Bool):=if (l0.length : Int) > 1048576 then (some true) else ((spec_DrawRingBest.f k l0).bind fun bt820 => ((impl_RingBest.f k bt820.1 bt820.2).bind fun bt825 => ((spec_RingBest.f k bt820.1 bt820.2).bind fun bt829 => (if bt825.2 = bt829.2 then ((laws_wkInts.f k bt825.1 bt829.1).bind fun t833 => (if t833 = true then (laws_FnRingWay.j0 k bt825.1 bt825.2 bt829.1 bt829.2 ((bt825.1.length : Int) == 0) bt820.1 bt820.2) else (laws_FnRingWay.j0 k bt825.1 bt825.2 bt829.1 bt829.2 true bt820.1 bt820.2))) else (laws_FnRingWay.j0 k bt825.1 bt825.2 bt829.1 bt829.2 true bt820.1 bt820.2)))))
def laws_FnRingWay.T11 : Bool × List (List Nat × List Nat):=(true,[([],[]),([0],[0]),([],[]),([],[]),([2,3],[2,3]),([4],[4]),([1,5],[1,5]),([6],[6]),([],[]),([8,7,0,1,2,3,4,5,6,7,8],[7,8])])
def laws_FnRingWay.B11 : List Nat:=[0,1,0,0,12,28,63,127,0,511]
theorem laws_FnRingWay.tab11 : rtab .any (opsOf Try.f10 11) = laws_FnRingWay.T11:=by kernel_rfl
theorem laws_FnRingWay.bits11 : waitsOk laws_FnRingWay.T11.2 laws_FnRingWay.B11 = true:=by kernel_rfl
def laws_FnRingWay.T12 : Bool × List (List Nat × List Nat):=(true,[([],[]),([],[]),([1],[1]),([0,2],[0,2]),([],[]),([4],[4]),([3,5],[3,5]),([6],[6]),([],[]),([8],[8]),([7,9],[7,9]),([],[]),([10,11],[10,11])])
def laws_FnRingWay.B12 : List Nat:=[0,0,2,7,0,16,63,127,0,256,1023,0,4095]
theorem laws_FnRingWay.tab12 : rtab .any (opsOf Try.f10 12) = laws_FnRingWay.T12:=by kernel_rfl
theorem laws_FnRingWay.bits12 : waitsOk laws_FnRingWay.T12.2 laws_FnRingWay.B12 = true:=by kernel_rfl
def laws_FnRingWay.T14 : Bool × List (List Nat × List Nat):=(true,[([],[]),([],[]),([1],[1]),([],[]),([3],[3]),([4],[4]),([2,5],[2,5]),([6],[6]),([7],[7]),([],[]),([9],[9]),([],[]),([11],[11]),([12],[12]),([10,13],[10,13]),([14],[14]),([15],[15]),([0,8,16],[0,8,16]),([17],[17]),([18],[18]),([18],[18]),([19,17,0,1,2,3,4,5,6,7,8,9,10,11,12,13,14,15,16,17,18,19],[19]),([20,21,0,1,2,3,4,5,6,7,8,9,10,11,12,13,14,15,16,17,18,19,20,21],[20])])
def laws_FnRingWay.B14 : List Nat:=[0,0,2,0,8,24,62,126,254,0,512,0,2048,6144,15872,32256,65024,131071,262143,524287,524287,1048575,4194303]
theorem laws_FnRingWay.tab14 : rtab .any (opsOf Try.f10 14) = laws_FnRingWay.T14:=by kernel_rfl
theorem laws_FnRingWay.bits14 : waitsOk laws_FnRingWay.T14.2 laws_FnRingWay.B14 = true:=by kernel_rfl
set_option maxHeartbeats 8000000 in
set_option maxRecDepth 100000 in
theorem laws_FnRingWay.calls (k : Nat) (A0 : Option Addr) (c0 : Nat) (l0 : List Int) (r : Bool) (w : World) (hr0 : Kd.C (Kd.int .u8) w A0 l0.length l0) (hc0 : l0.length ≤ c0) (h : laws_FnRingWay.f k l0 = some r) :
  Calls Try.prog 10 #[.slice A0 l0.length c0] w fun e w' => e = .returned (.bool r) ∧ Below w.heap.size w w':=by
 have hu25:=Try.underlying25;have hu34:=Try.underlying34;have HR0:=zx hr0;have HC0:=zx hc0;clear hr0 hc0;have HB:=zx (Below.refl w.heap.size w);have H : (if (l0.length : Int) > 1048576 then (some true) else ((spec_DrawRingBest.f k l0).bind fun bt820 => ((impl_RingBest.f k bt820.1 bt820.2).bind fun bt825 => ((spec_RingBest.f k bt820.1 bt820.2).bind fun bt829 => (if bt825.2 = bt829.2 then ((laws_wkInts.f k bt825.1 bt829.1).bind fun t833 => (if t833 = true then (laws_FnRingWay.j0 k bt825.1 bt825.2 bt829.1 bt829.2 ((bt825.1.length : Int) == 0) bt820.1 bt820.2) else (laws_FnRingWay.j0 k bt825.1 bt825.2 bt829.1 bt829.2 true bt820.1 bt820.2))) else (laws_FnRingWay.j0 k bt825.1 bt825.2 bt829.1 bt829.2 true bt820.1 bt820.2)))))) = some r:=h;clear h
 by_cases c2 : (l0.length : Int) > 1048576
 case pos =>
  rw [if_pos c2] at H;have c2b0 : decide (1048576 < (l0.length : Int)) = true:=decide_eq_true c2;have c2b1 : decide (1048576 < l0.length) = true:=decide_eq_true (by omega);clear c2;obtain rfl:=Option.some.inj H
  go_enter Try.func10,Try.ntmps10
  go_wp2
  go_ret;exact ⟨by first | rfl | (simp [errW_none,errW_some] <;> rfl) | (simp [*,errW_none,errW_some] <;> rfl),by repeat (first | (with_reducible first | exact HB.out | apply below_alloc | apply pw_below_drewN | apply below_drew1) | exact HB.out)⟩
 rw [if_neg c2] at H;have c2b0 : decide (1048576 < (l0.length : Int)) = false:=decide_eq_false c2;have c2b1 : decide (1048576 < l0.length) = false:=decide_eq_false (by omega);clear c2;replace H:=Option.bind_eq_some_iff.mp H;obtain ⟨⟨t820,t821⟩,A30,H⟩:=H;replace H : ((impl_RingBest.f k t820 t821).bind fun bt825 => ((spec_RingBest.f k t820 t821).bind fun bt829 => (if bt825.2 = bt829.2 then ((laws_wkInts.f k bt825.1 bt829.1).bind fun t833 => (if t833 = true then (laws_FnRingWay.j0 k bt825.1 bt825.2 bt829.1 bt829.2 ((bt825.1.length : Int) == 0) t820 t821) else (laws_FnRingWay.j0 k bt825.1 bt825.2 bt829.1 bt829.2 true t820 t821))) else (laws_FnRingWay.j0 k bt825.1 bt825.2 bt829.1 bt829.2 true t820 t821)))) = some r:=H;have A3:=zx A30;clear A30;replace H:=Option.bind_eq_some_iff.mp H;obtain ⟨⟨t825,t828⟩,A40,H⟩:=H;replace H : ((spec_RingBest.f k t820 t821).bind fun bt829 => (if t828 = bt829.2 then ((laws_wkInts.f k t825 bt829.1).bind fun t833 => (if t833 = true then (laws_FnRingWay.j0 k t825 t828 bt829.1 bt829.2 ((t825.length : Int) == 0) t820 t821) else (laws_FnRingWay.j0 k t825 t828 bt829.1 bt829.2 true t820 t821))) else (laws_FnRingWay.j0 k t825 t828 bt829.1 bt829.2 true t820 t821))) = some r:=H;have A4:=zx A40;clear A40;replace H:=Option.bind_eq_some_iff.mp H;obtain ⟨⟨t829,t832⟩,A50,H⟩:=H;replace H : (if t828 = t832 then ((laws_wkInts.f k t825 t829).bind fun t833 => (if t833 = true then (laws_FnRingWay.j0 k t825 t828 t829 t832 ((t825.length : Int) == 0) t820 t821) else (laws_FnRingWay.j0 k t825 t828 t829 t832 true t820 t821))) else (laws_FnRingWay.j0 k t825 t828 t829 t832 true t820 t821)) = some r:=H;have A5:=zx A50;clear A50;have HC6:=zx H;clear H
 go_enter Try.func10,Try.ntmps10
 go_upto_region 6 with (first | ((with_reducible refine gate_callee (f:=36) rfl ?_); refine goesL_ (some 16) rfl rfl Try.func36 (by kernel_rfl) rfl #[.slice A0 l0.length c0] rfl (by (try simp only [List.map_toArray,List.map_cons,List.map_nil]); first | done | rfl | (simp only [List.length_drop,List.length_take]; rfl)) ?_; (with_reducible refine (spec_DrawRingBest.calls k _ _ l0 t820 t821 _ ?side1 ?side2 A3.out).mono ?_); (case side1 => repeat (first | exact HR0.out | (with_reducible refine Kd.C_alloc ?_ _) | (with_reducible refine Kd.C_drewN ?_ _) | (with_reducible refine Kd.C_drew ?_))); (case side2 => exact HC0.out); rintro e w7 ⟨v822,rfl,ho0,hb⟩; refine ⟨_,rfl,?_⟩; have n0_:=zx (Kd.R_lower ho0 (below_size HB.out)); have n1_:=zx (below_step HB.out hb); clear HB; have HO823:=n0_; have HB:=n1_; clear n0_ n1_; (try clear hb); (try clear hb2); (try clear hk); (try clear hi); (try clear ho0)) | ((with_reducible refine gate_dst (N:=3) rfl ?_); (try (refine gate_guard (by rfl) ?_; dsimp only)); refine box_event ?hg (N:=3) ?hd (cs:=#[.int .i64 0,.slice none 0 0]) (t:=25) ?hr ?_; (case hd => rfl); (case hg => rfl); (case hr => first | (go_simp; done) | (go_simp; rfl)); intro p7 hg w8 hbox hb; have n0_:=zx (Kd.R_below HO823.out hb); have n1_:=zx (below_step HB.out hb); have n2_:=zx (hbox); have n3_:=zx ((by rw [hg]; exact (below_size HB.out) : w.heap.size ≤ p7)); have n4_:=zx ((by rw [hg]; exact (below_size HB.out) : w.heap.size ≤ p7)); clear HO823; clear HB; have HO823:=n0_; have HB:=n1_; have p4:=n2_; have GW824:=n3_; have q3:=n4_; clear n0_ n1_ n2_ n3_ n4_; clear hb hbox hg; have u0 : w8.cell? ⟨p7,0,none⟩ = some (.int .i64 0):=(blk_cell p4.out 0).trans rfl; have u1 : w8.cell? ⟨p7,1,none⟩ = some (.slice none 0 0):=(blk_cell p4.out 1).trans rfl; have u2:=blk_frozen p4.out 0; have u3:=blk_frozen p4.out 1; obtain ⟨Ao10,co10,eo10⟩:=Kd.R_slice HO823.out; subst eo10) | ((with_reducible refine gate_callee (f:=37) rfl ?_); refine goesL_ (some 19) rfl rfl Try.func37 (by kernel_rfl) rfl #[.agg #[.int .i64 t820,.slice Ao10 t821.length co10]] rfl (by (try simp only [List.map_toArray,List.map_cons,List.map_nil]); first | done | rfl | (simp only [List.length_drop,List.length_take]; rfl)) ?_; (with_reducible refine (impl_RingBest.calls k t820 _ _ t821 t825 t828 _ ?side1 ?side2 A4.out).mono ?_); (case side1 => refine (Kd.R_reads' (e:=34) (base:=w.heap.size) (ok:=fun k_ => True) (n:=t821.length) (c:=co10) ?_).2.2; exact (Kd.R_mono (Kd.R_far (p:=⟨p7,1,none⟩) (Kd.R_far (p:=⟨p7,0,none⟩) (Kd.R_types HO823.out p4.out (by decide)) (fun _ hk => hk.2) (.int .i64 t820)) (fun _ hk => hk.2) (.slice Ao10 t821.length co10)) (fun _ h_ => h_.1))); (case side2 => exact (Kd.R_reads' HO823.out).2.1); rintro e w11 ⟨v826,rfl,ho0,hb⟩; refine ⟨_,rfl,?_⟩; have n0_:=zx (Kd.R_below (Kd.R_mono (Kd.R_far (p:=⟨p7,1,none⟩) (Kd.R_far (p:=⟨p7,0,none⟩) (Kd.R_types HO823.out p4.out (by decide)) (fun _ hk => hk.2) (.int .i64 t820)) (fun _ hk => hk.2) (.slice Ao10 t821.length co10)) (fun _ h_ => h_.1)) hb); have n1_:=zx (Kd.R_lower ho0 (below_size (by repeat (first | (with_reducible first | exact HB.out | apply below_alloc | apply pw_below_drewN | apply below_drew1 | refine below_set ?_ q3.out) | exact HB.out)))); have n2_:=zx (blk_below (g:=p7) (o:=.cells #[.int .i64 t820,.slice Ao10 t821.length co10] 25 (0,0)) (by refine blk_put (cs:=#[.int .i64 t820,.slice none 0 0]) ?_ 1 _ rfl; refine blk_put (cs:=#[.int .i64 0,.slice none 0 0]) ?_ 0 _ rfl; exact p4.out) hb); have n3_:=zx (below_step (by repeat (first | (with_reducible first | exact HB.out | apply below_alloc | apply pw_below_drewN | apply below_drew1 | refine below_set ?_ q3.out) | exact HB.out)) hb); clear HO823; clear p4; clear HB; have HO823:=n0_; have HO827:=n1_; have p4:=n2_; have HB:=n3_; clear n0_ n1_ n2_ n3_; (try clear hb); (try clear hb2); (try clear hk); (try clear hi); (try clear ho0); have t5 : w11.cell? ⟨p7,0,none⟩ = some (.int .i64 t820):=(blk_cell p4.out 0).trans rfl; have t6 : w11.cell? ⟨p7,1,none⟩ = some (.slice Ao10 t821.length co10):=(blk_cell p4.out 1).trans rfl; have t7:=blk_frozen p4.out 0; have t8:=blk_frozen p4.out 1) | ((with_reducible refine gate_callee (f:=38) rfl ?_); refine goesL_ (some 24) rfl rfl Try.func38 (by kernel_rfl) rfl #[.agg #[.int .i64 t820,.slice Ao10 t821.length co10]] rfl (by (try simp only [List.map_toArray,List.map_cons,List.map_nil]); first | done | rfl | (simp only [List.length_drop,List.length_take]; rfl)) ?_; (with_reducible refine (spec_RingBest.calls k t820 _ _ t821 t829 t832 _ ?side1 ?side2 A5.out).mono ?_); (case side1 => repeat (first | exact (Kd.R_reads' HO823.out).2.2 | (with_reducible refine Kd.C_alloc ?_ _) | (with_reducible refine Kd.C_drewN ?_ _) | (with_reducible refine Kd.C_drew ?_))); (case side2 => exact (Kd.R_reads' HO823.out).2.1); rintro e w13 ⟨v830,rfl,ho0,hb⟩; refine ⟨_,rfl,?_⟩; have n0_:=zx (Kd.R_below HO823.out hb); have n1_:=zx (Kd.R_elder' HO827.out (Kd.R_base ho0) hb); have n2_:=zx (Kd.R_lower (Kd.R_new' ho0 (Kd.R_lt HO827.out)) (below_size HB.out)); have n3_:=zx (blk_below (g:=p7) (o:=.cells #[.int .i64 t820,.slice Ao10 t821.length co10] 25 (0,0)) p4.out hb); have n4_:=zx (below_step HB.out hb); clear HO823; clear HO827; clear p4; clear HB; have HO823:=n0_; have HO827:=n1_; have HO831:=n2_; have p4:=n3_; have HB:=n4_; clear n0_ n1_ n2_ n3_ n4_; (try clear hb); (try clear hb2); (try clear hk); (try clear hi); (try clear ho0)))
 (try simp only [Act.put,U,V,Z])
 go_cut [40] (fun v40 wc => ∃ (kq : Nat) (t9 : Bool),v40 = .bool t9 ∧ Aside0 (laws_FnRingWay.j0 kq t825 t828 t829 t832 t9 t820 t821 = some r) ∧ Aside0 (kq ≤ k) ∧ Aside0 (Kd.R (Kd.int .i64) 3 wc w.heap.size (fun k_ => some k_ ≠ (v830 : Value).ownBlock) v826 t825) ∧ Aside0 (Kd.R (Kd.int .i64) 3 wc w.heap.size (fun k_ => some k_ ≠ (v826 : Value).ownBlock) v830 t829) ∧ Aside0 (Kd.R k34 34 wc w.heap.size (fun _ => True) (.slice Ao10 t821.length co10) t821) ∧ Aside0 (wc.heap[p7]? = some (.cells #[.int .i64 t820,(.slice Ao10 t821.length co10)] 25 (0,0))) ∧ Aside0 (Below w.heap.size w wc))
 case first =>
  have H:=HC6.out;clear HC6
  by_cases c14 : t828 = t832
  case neg =>
   rw [if_neg c14] at H;have c14b0 : (t828 == t832) = false:=beq_eq_false_iff_ne.mpr c14;have c14b1 : (t828 != t832) = true:=bne_iff_ne.mpr c14
   (first | rw [c14b0] | (simp only [i64_w,i32_w]; rw [c14b0]) | skip)
   have H':=zx H;clear H
   go_wp2
   go_meet
   case rel => exact ⟨_,(true),(by first | rfl | (simp; done) | (simp [*]; done)),H',⟨by first | omega | exact Nat.le_refl _⟩,⟨by exact Kd.R_mono HO827.out (fun _ hk => hk.2)⟩,⟨by exact Kd.R_mono HO831.out (fun _ hk => hk.2)⟩,⟨by exact HO823.out⟩,⟨by exact p4.out⟩,⟨by repeat (first | (with_reducible first | exact HB.out | apply below_alloc | apply pw_below_drewN | apply below_drew1 | refine below_set ?_ q3.out) | exact HB.out)⟩⟩
  rw [if_pos c14] at H;have c14b0 : (t828 == t832) = true:=beq_iff_eq.mpr c14;have c14b1 : (t828 != t832) = false:=bne_eq_false_iff_eq.mpr c14;clear c14
  (first | rw [c14b0] | (simp only [i64_w,i32_w]; rw [c14b0]) | skip)
  replace H:=Option.bind_eq_some_iff.mp H;obtain ⟨t833,A150,H⟩:=H;replace H : (if t833 = true then (laws_FnRingWay.j0 k t825 t828 t829 t832 ((t825.length : Int) == 0) t820 t821) else (laws_FnRingWay.j0 k t825 t828 t829 t832 true t820 t821)) = some r:=H;have A15:=zx A150;clear A150
  by_cases c16 : t833 = true
  case pos =>
   subst c16;have H1 : (laws_FnRingWay.j0 k t825 t828 t829 t832 ((t825.length : Int) == 0) t820 t821) = some r:=by rw [if_pos rfl] at H; exact H
   clear H;have H:=H1;clear H1;have H':=zx H;clear H;obtain ⟨Ao17,co17,eo17⟩:=Kd.R_slice HO827.out;subst eo17;obtain ⟨Ao18,co18,eo18⟩:=Kd.R_slice HO831.out;subst eo18
   go_wp2_with (first | (go_at_call 27; (with_reducible refine (laws_wkInts.calls k _ _ t825 _ _ t829 true _ ?side1 ?side2 ?side3 ?side4 A15.out).mono ?_); (case side1 => repeat (first | exact (Kd.R_reads' HO827.out).2.2 | (with_reducible refine Kd.C_alloc ?_ _) | (with_reducible refine Kd.C_drewN ?_ _) | (with_reducible refine Kd.C_drew ?_))); (case side2 => exact (Kd.R_reads' HO827.out).2.1); (case side3 => repeat (first | exact (Kd.R_reads' HO831.out).2.2 | (with_reducible refine Kd.C_alloc ?_ _) | (with_reducible refine Kd.C_drewN ?_ _) | (with_reducible refine Kd.C_drew ?_))); (case side4 => exact (Kd.R_reads' HO831.out).2.1); rintro e w' ⟨rfl,⟨nd,rfl⟩⟩))
   go_meet
   case rel => exact ⟨_,(((t825.length : Int) == 0)),(by first | rfl | (simp; done) | (simp [*]; done)),H',⟨by first | omega | exact Nat.le_refl _⟩,⟨by exact Kd.R_mono HO827.out (fun _ hk => hk.2)⟩,⟨by exact Kd.R_mono HO831.out (fun _ hk => hk.2)⟩,⟨by exact HO823.out⟩,⟨by exact p4.out⟩,⟨by repeat (first | (with_reducible first | exact HB.out | apply below_alloc | apply pw_below_drewN | apply below_drew1 | refine below_set ?_ q3.out) | exact HB.out)⟩⟩
  replace c16:=Bool.eq_false_iff.mpr c16;subst c16;have H1 : (laws_FnRingWay.j0 k t825 t828 t829 t832 true t820 t821) = some r:=by rw [if_neg (show ¬ (false = true) by decide)] at H; exact H
  clear H;have H:=H1;clear H1;have H':=zx H;clear H;obtain ⟨Ao19,co19,eo19⟩:=Kd.R_slice HO827.out;subst eo19;obtain ⟨Ao20,co20,eo20⟩:=Kd.R_slice HO831.out;subst eo20
  go_wp2_with (first | (go_at_call 27; (with_reducible refine (laws_wkInts.calls k _ _ t825 _ _ t829 false _ ?side1 ?side2 ?side3 ?side4 A15.out).mono ?_); (case side1 => repeat (first | exact (Kd.R_reads' HO827.out).2.2 | (with_reducible refine Kd.C_alloc ?_ _) | (with_reducible refine Kd.C_drewN ?_ _) | (with_reducible refine Kd.C_drew ?_))); (case side2 => exact (Kd.R_reads' HO827.out).2.1); (case side3 => repeat (first | exact (Kd.R_reads' HO831.out).2.2 | (with_reducible refine Kd.C_alloc ?_ _) | (with_reducible refine Kd.C_drewN ?_ _) | (with_reducible refine Kd.C_drew ?_))); (case side4 => exact (Kd.R_reads' HO831.out).2.1); rintro e w' ⟨rfl,⟨nd,rfl⟩⟩))
  go_meet
  case rel => exact ⟨_,(true),(by first | rfl | (simp; done) | (simp [*]; done)),H',⟨by first | omega | exact Nat.le_refl _⟩,⟨by exact Kd.R_mono HO827.out (fun _ hk => hk.2)⟩,⟨by exact Kd.R_mono HO831.out (fun _ hk => hk.2)⟩,⟨by exact HO823.out⟩,⟨by exact p4.out⟩,⟨by repeat (first | (with_reducible first | exact HB.out | apply below_alloc | apply pw_below_drewN | apply below_drew1 | refine below_set ?_ q3.out) | exact HB.out)⟩⟩
 case rest =>
  clear HC6
  try clear c1
  try clear c2
  try clear c2b0
  try clear c2b1
  try clear p2
  try clear c3
  try clear c10
  try clear c14
  try clear c14b0
  try clear c14b1
  try clear c16
  try clear t5
  try clear t6
  try clear u0
  try clear u1
  try clear t7
  try clear t8
  try clear u2
  try clear u3
  obtain ⟨kq,t9,rfl,HA,HJ5,HO_4,HO_6,p0,p4,HB⟩:=hcut;cases kq with
  | zero => exact absurd HA.out (by simp [laws_FnRingWay.j0])
  | succ kj5 =>
   have H:=HA.out;clear HA;simp only [laws_FnRingWay.j0] at H
   by_cases c21 : t9 = true
   case pos =>
    subst c21;have H1 : (if t828 = t832 then ((laws_wkInts.f kj5 t825 t829).bind fun t834 => (some t834)) else (some false)) = some r:=by rw [if_pos rfl] at H; exact H
    clear H;have H:=H1;clear H1
    by_cases c22 : t828 = t832
    case neg =>
     rw [if_neg c22] at H;have c22b0 : (t828 == t832) = false:=beq_eq_false_iff_ne.mpr c22;have c22b1 : (t828 != t832) = true:=bne_iff_ne.mpr c22;obtain rfl:=Option.some.inj H
     go_wp2
     go_ret;exact ⟨by first | rfl | (simp [errW_none,errW_some] <;> rfl) | (simp [*,errW_none,errW_some] <;> rfl),by repeat (first | (with_reducible first | exact HB.out | apply below_alloc | apply pw_below_drewN | apply below_drew1 | refine below_set ?_ q3.out) | exact HB.out)⟩
    rw [if_pos c22] at H;have c22b0 : (t828 == t832) = true:=beq_iff_eq.mpr c22;have c22b1 : (t828 != t832) = false:=bne_eq_false_iff_eq.mpr c22;clear c22;replace H:=Option.bind_eq_some_iff.mp H;obtain ⟨t834,A230,H⟩:=H;replace H : (some t834) = some r:=H;have A23:=zx A230;clear A230;obtain rfl:=Option.some.inj H;obtain ⟨Ao24,co24,eo24⟩:=Kd.R_slice HO_4.out;subst eo24;obtain ⟨Ao25,co25,eo25⟩:=Kd.R_slice HO_6.out;subst eo25
    go_wp2_with (first | (go_at_call 27; (with_reducible refine (laws_wkInts.calls kj5 _ _ t825 _ _ t829 t834 _ ?side1 ?side2 ?side3 ?side4 A23.out).mono ?_); (case side1 => repeat (first | exact (Kd.R_reads' HO_4.out).2.2 | (with_reducible refine Kd.C_alloc ?_ _) | (with_reducible refine Kd.C_drewN ?_ _) | (with_reducible refine Kd.C_drew ?_))); (case side2 => exact (Kd.R_reads' HO_4.out).2.1); (case side3 => repeat (first | exact (Kd.R_reads' HO_6.out).2.2 | (with_reducible refine Kd.C_alloc ?_ _) | (with_reducible refine Kd.C_drewN ?_ _) | (with_reducible refine Kd.C_drew ?_))); (case side4 => exact (Kd.R_reads' HO_6.out).2.1); rintro e w' ⟨rfl,⟨nd,rfl⟩⟩))
    go_ret;exact ⟨by first | rfl | (simp [errW_none,errW_some] <;> rfl) | (simp [*,errW_none,errW_some] <;> rfl),by repeat (first | (with_reducible first | exact HB.out | apply below_alloc | apply pw_below_drewN | apply below_drew1 | refine below_set ?_ q3.out) | exact HB.out)⟩
   replace c21:=Bool.eq_false_iff.mpr c21;subst c21;have H1 : (laws_FnRingWay.l0 kj5 t825 t828 0 t820 t821) = some r:=by rw [if_neg (show ¬ (false = true) by decide)] at H; exact H
   clear H;have H:=H1;clear H1;have H':=zx H;clear H
   go_wp2
   go_loopg [8] kj5 (fun kq v8 w' => ∃ (x8_2 : Int),v8 = .int .i64 x8_2 ∧ Aside0 (laws_FnRingWay.l0 kq t825 t828 x8_2 t820 t821 = some r) ∧ Aside0 (kq ≤ kj5) ∧ Aside0 (Kd.R (Kd.int .i64) 3 w' w.heap.size (fun _ => True) v826 t825) ∧ Aside0 (Kd.R k34 34 w' w.heap.size (fun _ => True) (.slice Ao10 t821.length co10) t821) ∧ Aside0 (w'.heap[p7]? = some (.cells #[.int .i64 t820,(.slice Ao10 t821.length co10)] 25 (0,0))) ∧ Aside0 (Below w.heap.size w w'))
   case atStart => exact ⟨(0),(by first | rfl | (simp; done) | (simp [*]; done)),H',⟨Nat.le_refl _⟩,⟨by exact Kd.R_mono HO_4.out (fun _ hk => trivial)⟩,⟨by exact p0.out⟩,⟨by exact p4.out⟩,⟨by repeat (first | (with_reducible first | exact HB.out | apply below_alloc | apply pw_below_drewN | apply below_drew1 | refine below_set ?_ q3.out) | exact HB.out)⟩⟩
   case round =>
    clear H'
    try clear c1
    try clear c2
    try clear c2b0
    try clear c2b1
    try clear p2
    try clear c3
    try clear c10
    try clear c14
    try clear c14b0
    try clear c14b1
    try clear c16
    try clear c21
    try clear c22
    try clear c22b0
    try clear c22b1
    try clear t5
    try clear t6
    try clear u0
    try clear u1
    try clear t7
    try clear t8
    try clear u2
    try clear u3
    try clear p2
    obtain ⟨x8_2,rfl,HA,HK2,HO_4,p0,p4,HB⟩:=hrel;cases gk with
    | zero => exact absurd HA.out (by simp [laws_FnRingWay.l0])
    | succ k2 =>
     have H:=HA.out;clear HA;simp only [laws_FnRingWay.l0] at H
     by_cases c26 : x8_2 < (t825.length : Int)
     case neg =>
      rw [if_neg c26] at H;have c26b0 : decide (x8_2 < (t825.length : Int)) = false:=decide_eq_false c26;clear c26
      by_cases c58 : 0 < (t825.length : Int)
      case neg =>
       rw [if_neg c58] at H;exact absurd H (by simp)
      rw [if_pos c58] at H;have c58b0 : decide (0 < (t825.length : Int)) = true:=decide_eq_true c58;have c58b1 : decide (0 < t825.length) = true:=decide_eq_true (by omega);clear c58
      by_cases c59 : 0 ≤ (rd t825 0)
      case neg =>
       rw [if_neg c59] at H;exact absurd H (by simp)
      rw [if_pos c59] at H;have c59b0 : decide (0 ≤ (rd t825 0)) = true:=decide_eq_true c59;clear c59
      by_cases c60 : (rd t825 0) < (t821.length : Int)
      case neg =>
       rw [if_neg c60] at H;exact absurd H (by simp)
      rw [if_pos c60] at H;have c60b0 : decide ((rd t825 0) < (t821.length : Int)) = true:=decide_eq_true c60;clear c60;replace H:=Option.bind_eq_some_iff.mp H;obtain ⟨⟨t846,t849⟩,A610,H⟩:=H;replace H : (if t849 = true then (if 1 ≤ (t825.length : Int) then ((laws_wkInts.f k2 t846 (t825.drop 1)).bind fun t854 => (some t854)) else (none)) else (some false)) = some r:=H;have A61:=zx A610;clear A610
      by_cases c62 : t849 = true
      case neg =>
       replace c62:=Bool.eq_false_iff.mpr c62;subst c62;have H1 : (some false) = some r:=by rw [if_neg (show ¬ (false = true) by decide)] at H; exact H
       clear H;have H:=H1;clear H1;obtain rfl:=Option.some.inj H;obtain ⟨Ao70,co70,eo70⟩:=Kd.R_slice HO_4.out;subst eo70
       try go_wp2
       have n0_:=zx (Kd.R_drew HO_4.out);have n1_:=zx (Kd.R_drew p0.out);have n2_:=zx (blk_drew p4.out);have n3_:=zx (below_drew1 HB.out);clear HO_4;clear p0;clear p4;clear HB;have HO_4:=n0_;have p0:=n1_;have p4:=n2_;have HB:=n3_;clear n0_ n1_ n2_ n3_;have p842 : 0 ≤ (0 : Int):=(by omega)
       have q842 : 0 < (t825.length : Int):=of_decide_eq_true (by first | (with_reducible assumption) | assumption);obtain ⟨q4,e842,q1⟩:=Kd.at_int (Kd.R_reads' HO_4.out).2.2 0 p842 q842;cases e842;have qi842 : (0 < t825.length) = True:=eq_true (by omega)
       (try rw [show ((0 : Int)).toNat = 0 from rfl] at q1)
       (try rw [Addr.add_zero'] at q1)
       replace p842:=eq_true p842;replace q842:=eq_true q842;have p843 : 0 ≤ ((rd t825 0) : Int):=of_decide_eq_true (by first | (with_reducible assumption) | assumption);have q843 : (rd t825 0) < (t821.length : Int):=of_decide_eq_true (by first | (with_reducible assumption) | assumption);obtain ⟨p6,e843,r2,r3,r4,r5,r6⟩:=at_T34 (Kd.R_reads' p0.out).2.2 (rd t825 0) p843 q843;cases e843;replace p843:=eq_true p843;replace q843:=eq_true q843;have p844 : 0 ≤ (0 : Int):=(by omega)
       have q844 : 0 < (t825.length : Int):=of_decide_eq_true (by first | (with_reducible assumption) | assumption);obtain ⟨u4,e844,q2⟩:=Kd.at_int (Kd.R_reads' HO_4.out).2.2 0 p844 q844;obtain rfl : q4 = u4:=(by injection e844)
       have qi844 : (0 < t825.length) = True:=eq_true (by omega)
       (try rw [show ((0 : Int)).toNat = 0 from rfl] at q2)
       (try rw [Addr.add_zero'] at q2)
       replace p844:=eq_true p844;replace q844:=eq_true q844;have p845 : 0 ≤ ((rd t825 0) : Int):=of_decide_eq_true (by first | (with_reducible assumption) | assumption);have q845 : (rd t825 0) < (t821.length : Int):=of_decide_eq_true (by first | (with_reducible assumption) | assumption);obtain ⟨u5,e845,r7,r8,r9,t0,t1⟩:=at_T34 (Kd.R_reads' p0.out).2.2 (rd t825 0) p845 q845;obtain rfl : p6 = u5:=(by injection e845)
       replace p845:=eq_true p845;replace q845:=eq_true q845;refine start_ (n:=23) (S:=fun w' => w'.cell? ⟨p7,0,none⟩ = some (.int .i64 t820) ∧ w'.cell? ⟨p7,1,none⟩ = some (.slice (some p6) t821.length co10) ∧ w'.cell? q4 = some (.int .i64 (rd t825 0)) ∧ w'.cell? (p6.add (((rd t825 0)).toNat * 5)) = some (.int .i64 ((rd_T34 t821 (rd t825 0)).f0)) ∧ w'.cell? ⟨(p6.add (((rd t825 0)).toNat * 5)).block,(p6.add (((rd t825 0)).toNat * 5)).off + 1,none⟩ = some (.int .i64 ((rd_T34 t821 (rd t825 0)).f1)) ∧ w'.cell? ⟨(p6.add (((rd t825 0)).toNat * 5)).block,(p6.add (((rd t825 0)).toNat * 5)).off + 2,none⟩ = some (.int .i64 ((rd_T34 t821 (rd t825 0)).f2)) ∧ w'.cell? ⟨(p6.add (((rd t825 0)).toNat * 5)).block,(p6.add (((rd t825 0)).toNat * 5)).off + 3,none⟩ = some (.int .i64 ((rd_T34 t821 (rd t825 0)).f3)) ∧ w'.cell? ⟨(p6.add (((rd t825 0)).toNat * 5)).block,(p6.add (((rd t825 0)).toNat * 5)).off + 4,none⟩ = some (.int .i64 ((rd_T34 t821 (rd t825 0)).f4)) ∧ w'.cell? q4 = some (.int .i64 (rd t825 0)) ∧ w'.cell? (p6.add (((rd t825 0)).toNat * 5)) = some (.int .i64 ((rd_T34 t821 (rd t825 0)).f0)) ∧ w'.cell? ⟨(p6.add (((rd t825 0)).toNat * 5)).block,(p6.add (((rd t825 0)).toNat * 5)).off + 1,none⟩ = some (.int .i64 ((rd_T34 t821 (rd t825 0)).f1)) ∧ w'.cell? ⟨(p6.add (((rd t825 0)).toNat * 5)).block,(p6.add (((rd t825 0)).toNat * 5)).off + 2,none⟩ = some (.int .i64 ((rd_T34 t821 (rd t825 0)).f2)) ∧ w'.cell? ⟨(p6.add (((rd t825 0)).toNat * 5)).block,(p6.add (((rd t825 0)).toNat * 5)).off + 3,none⟩ = some (.int .i64 ((rd_T34 t821 (rd t825 0)).f3)) ∧ w'.cell? ⟨(p6.add (((rd t825 0)).toNat * 5)).block,(p6.add (((rd t825 0)).toNat * 5)).off + 4,none⟩ = some (.int .i64 ((rd_T34 t821 (rd t825 0)).f4))) (ds:=[]) #[J,J,J,J,J,J,J,J,J,J,J,J,J,J,J,J,J,J,J,J,J,J,J] (by kernel_rfl) rfl rfl ⟨(blk_cell p4.out 0).trans rfl,(blk_cell p4.out 1).trans rfl,q1,r2,r3,r4,r5,r6,q2,r7,r8,r9,t0,t1⟩ (fun hHeld => ?_); refine with_tabW laws_FnRingWay.tab14 laws_FnRingWay.bits14 (fun HT_ HW_ => ?_);generalize wr.drew = w71 at HO_4 p0 p4 HB q1 r2 r3 r4 r5 r6 q2 r7 r8 r9 t0 t1 hHeld ⊢;refine pure_ (i:=1) (N:=some 78) (v:=?_) (a':=?_) #[J,Y,J,J,J,J,J,J,J,J,J,J,J,J,J,J,J,J,J,J,J,J,J] rfl rfl (any_of HT_.out (by kernel_rfl)) (fun _ _ _ h => h) (Or.inl ⟨by rfl,?_⟩) ?_ ?_;rotate_left
       ·intro w';go_simp;with_reducible rfl
       rotate_left
       ·simp only [Act.put,U,V,Z,i64_w,i32_w];rfl
       refine pure_ (i:=3) (N:=some 80) (v:=?_) (a':=?_) #[J,Y,J,Y,J,J,J,J,J,J,J,J,J,J,J,J,J,J,J,J,J,J,J] rfl rfl (any_of HT_.out (by kernel_rfl)) (fun _ _ _ h => h) (Or.inl ⟨by rfl,?_⟩) ?_ ?_;rotate_left
       ·intro w';go_simp;with_reducible rfl
       rotate_left
       ·simp only [Act.put,U,V,Z,i64_w,i32_w];rfl
       refine pure_ (i:=4) (N:=some 81) (v:=?_) (a':=?_) #[J,Y,J,Y,Y,J,J,J,J,J,J,J,J,J,J,J,J,J,J,J,J,J,J] rfl rfl (any_of HT_.out (by kernel_rfl)) (fun _ _ _ h => h) (Or.inl ⟨by rfl,?_⟩) ?_ ?_;rotate_left
       ·intro w';go_simp;with_reducible rfl
       rotate_left
       ·simp only [Act.put,U,V,Z,i64_w,i32_w];rfl
       refine pure_ (i:=9) (N:=some 86) (v:=?_) (a':=?_) #[J,Y,J,Y,Y,J,J,J,J,Y,J,J,J,J,J,J,J,J,J,J,J,J,J] rfl rfl (any_of HT_.out (by kernel_rfl)) (fun _ _ _ h => h) (Or.inl ⟨by rfl,?_⟩) ?_ ?_;rotate_left
       ·intro w';go_simp;with_reducible rfl
       rotate_left
       ·simp only [Act.put,U,V,Z,i64_w,i32_w];rfl
       refine pure_ (i:=11) (N:=some 88) (v:=?_) (a':=?_) #[J,Y,J,Y,Y,J,J,J,J,Y,J,Y,J,J,J,J,J,J,J,J,J,J,J] rfl rfl (any_of HT_.out (by kernel_rfl)) (fun _ _ _ h => h) (Or.inl ⟨by rfl,?_⟩) ?_ ?_;rotate_left
       ·intro w';go_simp;with_reducible rfl
       rotate_left
       ·simp only [Act.put,U,V,Z,i64_w,i32_w];rfl
       refine pure_ (i:=12) (N:=some 89) (v:=?_) (a':=?_) #[J,Y,J,Y,Y,J,J,J,J,Y,J,Y,Y,J,J,J,J,J,J,J,J,J,J] rfl rfl (any_of HT_.out (by kernel_rfl)) (fun _ _ _ h => h) (Or.inl ⟨by rfl,?_⟩) ?_ ?_;rotate_left
       ·intro w';go_simp;with_reducible rfl
       rotate_left
       ·simp only [Act.put,U,V,Z,i64_w,i32_w];rfl
       refine take_ (i:=0) (N:=some 77) (v:=?_) (a':=?_) #[Y,Y,J,Y,Y,J,J,J,J,Y,J,Y,Y,J,J,J,J,J,J,J,J,J,J] rfl rfl (take_ofW HT_.out HW_.out (by kernel_rfl)) (fun _ _ _ h => h) (Or.inl ⟨by rfl,?_⟩) hHeld ?_ ?_;rotate_left
       ·rintro w' ⟨s0,s1,s2,s3,s4,s5,s6,s7,s8,s9,s10,s11,s12,s13⟩;go_simp;with_reducible rfl
       rotate_left
       ·simp only [Act.put,U,V,Z,i64_w,i32_w];rfl
       refine take_ (i:=2) (N:=some 79) (v:=?_) (a':=?_) #[Y,Y,Y,Y,Y,J,J,J,J,Y,J,Y,Y,J,J,J,J,J,J,J,J,J,J] rfl rfl (take_ofW HT_.out HW_.out (by kernel_rfl)) (fun _ _ _ h => h) (Or.inl ⟨by rfl,?_⟩) hHeld ?_ ?_;rotate_left
       ·rintro w' ⟨s0,s1,s2,s3,s4,s5,s6,s7,s8,s9,s10,s11,s12,s13⟩;go_simp;with_reducible rfl
       rotate_left
       ·simp only [Act.put,U,V,Z,i64_w,i32_w];rfl
       refine take_ (i:=5) (N:=some 82) (v:=?_) (a':=?_) #[Y,Y,Y,Y,Y,Y,J,J,J,Y,J,Y,Y,J,J,J,J,J,J,J,J,J,J] rfl rfl (take_ofW HT_.out HW_.out (by kernel_rfl)) (fun _ _ _ h => h) (Or.inl ⟨by rfl,?_⟩) hHeld ?_ ?_;rotate_left
       ·rintro w' ⟨s0,s1,s2,s3,s4,s5,s6,s7,s8,s9,s10,s11,s12,s13⟩;go_simp;with_reducible rfl
       rotate_left
       ·simp only [Act.put,U,V,Z,i64_w,i32_w];rfl
       refine pure_ (i:=6) (N:=some 83) (v:=?_) (a':=?_) #[Y,Y,Y,Y,Y,Y,Y,J,J,Y,J,Y,Y,J,J,J,J,J,J,J,J,J,J] rfl rfl (any_of HT_.out (by kernel_rfl)) (fun _ _ _ h => h) (Or.inl ⟨by rfl,?_⟩) ?_ ?_;rotate_left
       ·intro w';go_simp;with_reducible rfl
       rotate_left
       ·simp only [Act.put,U,V,Z,i64_w,i32_w];rfl
       refine pure_ (i:=7) (N:=some 84) (v:=?_) (a':=?_) #[Y,Y,Y,Y,Y,Y,Y,Y,J,Y,J,Y,Y,J,J,J,J,J,J,J,J,J,J] rfl rfl (any_of HT_.out (by kernel_rfl)) (fun _ _ _ h => h) (Or.inl ⟨by rfl,?_⟩) ?_ ?_;rotate_left
       ·intro w';go_simp;with_reducible rfl
       rotate_left
       ·simp only [Act.put,U,V,Z,i64_w,i32_w];rfl
       refine take_ (i:=8) (N:=some 85) (v:=?_) (a':=?_) #[Y,Y,Y,Y,Y,Y,Y,Y,Y,Y,J,Y,Y,J,J,J,J,J,J,J,J,J,J] rfl rfl (take_ofW HT_.out HW_.out (by kernel_rfl)) (fun _ _ _ h => h) (Or.inl ⟨by rfl,?_⟩) hHeld ?_ ?_;rotate_left
       ·rintro w' ⟨s0,s1,s2,s3,s4,s5,s6,s7,s8,s9,s10,s11,s12,s13⟩;go_simp;with_reducible rfl
       rotate_left
       ·simp only [Act.put,U,V,Z,i64_w,i32_w];rfl
       refine take_ (i:=10) (N:=some 87) (v:=?_) (a':=?_) #[Y,Y,Y,Y,Y,Y,Y,Y,Y,Y,Y,Y,Y,J,J,J,J,J,J,J,J,J,J] rfl rfl (take_ofW HT_.out HW_.out (by kernel_rfl)) (fun _ _ _ h => h) (Or.inl ⟨by rfl,?_⟩) hHeld ?_ ?_;rotate_left
       ·rintro w' ⟨s0,s1,s2,s3,s4,s5,s6,s7,s8,s9,s10,s11,s12,s13⟩;go_simp;with_reducible rfl
       rotate_left
       ·simp only [Act.put,U,V,Z,i64_w,i32_w];rfl
       refine take_ (i:=13) (N:=some 90) (v:=?_) (a':=?_) #[Y,Y,Y,Y,Y,Y,Y,Y,Y,Y,Y,Y,Y,Y,J,J,J,J,J,J,J,J,J] rfl rfl (take_ofW HT_.out HW_.out (by kernel_rfl)) (fun _ _ _ h => h) (Or.inl ⟨by rfl,?_⟩) hHeld ?_ ?_;rotate_left
       ·rintro w' ⟨s0,s1,s2,s3,s4,s5,s6,s7,s8,s9,s10,s11,s12,s13⟩;go_simp;with_reducible rfl
       rotate_left
       ·simp only [Act.put,U,V,Z,i64_w,i32_w];rfl
       refine pure_ (i:=14) (N:=some 91) (v:=?_) (a':=?_) #[Y,Y,Y,Y,Y,Y,Y,Y,Y,Y,Y,Y,Y,Y,Y,J,J,J,J,J,J,J,J] rfl rfl (any_of HT_.out (by kernel_rfl)) (fun _ _ _ h => h) (Or.inl ⟨by rfl,?_⟩) ?_ ?_;rotate_left
       ·intro w';go_simp;with_reducible rfl
       rotate_left
       ·simp only [Act.put,U,V,Z,i64_w,i32_w];rfl
       refine pure_ (i:=15) (N:=some 92) (v:=?_) (a':=?_) #[Y,Y,Y,Y,Y,Y,Y,Y,Y,Y,Y,Y,Y,Y,Y,Y,J,J,J,J,J,J,J] rfl rfl (any_of HT_.out (by kernel_rfl)) (fun _ _ _ h => h) (Or.inl ⟨by rfl,?_⟩) ?_ ?_;rotate_left
       ·intro w';go_simp;with_reducible rfl
       rotate_left
       ·simp only [Act.put,U,V,Z,i64_w,i32_w];rfl
       refine take_ (i:=16) (N:=some 93) (v:=?_) (a':=?_) #[Y,Y,Y,Y,Y,Y,Y,Y,Y,Y,Y,Y,Y,Y,Y,Y,Y,J,J,J,J,J,J] rfl rfl (take_ofW HT_.out HW_.out (by kernel_rfl)) (fun _ _ _ h => h) (Or.inl ⟨by rfl,?_⟩) hHeld ?_ ?_;rotate_left
       ·rintro w' ⟨s0,s1,s2,s3,s4,s5,s6,s7,s8,s9,s10,s11,s12,s13⟩;go_simp;with_reducible rfl
       rotate_left
       ·simp only [Act.put,U,V,Z,i64_w,i32_w];rfl
       refine one_ (i:=17) (N:=some 94) #[Y,Y,Y,Y,Y,Y,Y,Y,Y,Y,Y,Y,Y,Y,Y,Y,Y,Y,J,J,J,J,J] rfl rfl (one_of HT_.out (by kernel_rfl)) (by decide) (fun K hK => ?_);refine goes_ Try.func18 (by kernel_rfl) rfl #[.agg #[.int .i64 t820,.slice (some p6) t821.length co10],.int .i64 ((rd_T34 t821 (rd t825 0)).f1),.int .i64 ((rd_T34 t821 (rd t825 0)).f0)] (by rfl) rfl rfl (by (try simp only [List.map_toArray,List.map_cons,List.map_nil]); first | done | rfl | (simp only [List.length_drop,List.length_take]; rfl)) ?_;with_reducible refine (impl_NearWalk.calls k2 t820 _ _ t821 ((rd_T34 t821 (rd t825 0)).f1) ((rd_T34 t821 (rd t825 0)).f0) t846 false _ ?side1 ?side2 A61.out).mono ?_
       (case side1 => repeat (first | exact (Kd.R_reads' p0.out).2.2 | (with_reducible refine Kd.C_alloc ?_ _) | (with_reducible refine Kd.C_drewN ?_ _) | (with_reducible refine Kd.C_drew ?_)))
       (case side2 => exact (Kd.R_reads' p0.out).2.1)
       rintro e w72 ⟨v847,rfl,ho0,hb⟩;have HS2_:=(hb.cell (World.block_lt_of_cell? _ _ (hHeld.2.2.1))).trans (hHeld.2.2.1);have HS3_:=(hb.cell (World.block_lt_of_cell? _ _ (hHeld.2.2.2.1))).trans (hHeld.2.2.2.1);have HS4_:=(hb.cell (World.block_lt_of_cell? _ _ (hHeld.2.2.2.2.1))).trans (hHeld.2.2.2.2.1);have HS5_:=(hb.cell (World.block_lt_of_cell? _ _ (hHeld.2.2.2.2.2.1))).trans (hHeld.2.2.2.2.2.1);have HS6_:=(hb.cell (World.block_lt_of_cell? _ _ (hHeld.2.2.2.2.2.2.1))).trans (hHeld.2.2.2.2.2.2.1);have HS7_:=(hb.cell (World.block_lt_of_cell? _ _ (hHeld.2.2.2.2.2.2.2.1))).trans (hHeld.2.2.2.2.2.2.2.1);have HS8_:=(hb.cell (World.block_lt_of_cell? _ _ (hHeld.2.2.2.2.2.2.2.2.1))).trans (hHeld.2.2.2.2.2.2.2.2.1);have HS9_:=(hb.cell (World.block_lt_of_cell? _ _ (hHeld.2.2.2.2.2.2.2.2.2.1))).trans (hHeld.2.2.2.2.2.2.2.2.2.1);have HS10_:=(hb.cell (World.block_lt_of_cell? _ _ (hHeld.2.2.2.2.2.2.2.2.2.2.1))).trans (hHeld.2.2.2.2.2.2.2.2.2.2.1);have HS11_:=(hb.cell (World.block_lt_of_cell? _ _ (hHeld.2.2.2.2.2.2.2.2.2.2.2.1))).trans (hHeld.2.2.2.2.2.2.2.2.2.2.2.1);have HS12_:=(hb.cell (World.block_lt_of_cell? _ _ (hHeld.2.2.2.2.2.2.2.2.2.2.2.2.1))).trans (hHeld.2.2.2.2.2.2.2.2.2.2.2.2.1);have HS13_:=(hb.cell (World.block_lt_of_cell? _ _ (hHeld.2.2.2.2.2.2.2.2.2.2.2.2.2))).trans (hHeld.2.2.2.2.2.2.2.2.2.2.2.2.2);refine ⟨_,rfl,?_⟩;have n0_:=zx (Kd.R_elder' HO_4.out (Kd.R_base ho0) hb);have n1_:=zx (Kd.R_below p0.out hb);have n2_:=zx (Kd.R_lower (Kd.R_new' ho0 (Kd.R_lt HO_4.out)) (below_size HB.out));have n3_:=zx (blk_below (g:=p7) (o:=.cells #[.int .i64 t820,.slice (some p6) t821.length co10] 25 (0,0)) p4.out hb);have n4_:=zx (below_step HB.out hb);clear HO_4;clear p0;clear p4;clear HB;have HO_4:=n0_;have p0:=n1_;have HO848:=n2_;have p4:=n3_;have HB:=n4_;clear n0_ n1_ n2_ n3_ n4_
       (try clear hb)
       (try clear hb2)
       (try clear hk)
       (try clear hi)
       (try clear ho0)
       refine hK.out _ _ ⟨(blk_cell p4.out 0).trans rfl,(blk_cell p4.out 1).trans rfl,HS2_,HS3_,HS4_,HS5_,HS6_,HS7_,HS8_,HS9_,HS10_,HS11_,HS12_,HS13_⟩ (fun hHeld => ?_);clear hK K;refine norm_ (a':=?_) ?_ ?_;rotate_left
       ·show Act.put _ (some 94) _ = _
        simp only [Act.put,U,V,Z,i64_w,i32_w];rfl
       refine pure_ (i:=18) (N:=some 76) (v:=?_) (a':=?_) #[Y,Y,Y,Y,Y,Y,Y,Y,Y,Y,Y,Y,Y,Y,Y,Y,Y,Y,Y,J,J,J,J] rfl rfl (any_of HT_.out (by kernel_rfl)) (fun _ _ _ h => h) (Or.inl ⟨by rfl,?_⟩) ?_ ?_;rotate_left
       ·intro w';go_simp;with_reducible rfl
       rotate_left
       ·simp only [Act.put,U,V,Z,i64_w,i32_w];rfl
       refine pure_ (i:=19) (N:=some 95) (v:=?_) (a':=?_) #[Y,Y,Y,Y,Y,Y,Y,Y,Y,Y,Y,Y,Y,Y,Y,Y,Y,Y,Y,Y,J,J,J] rfl rfl (any_of HT_.out (by kernel_rfl)) (fun _ _ _ h => h) (Or.inl ⟨by rfl,?_⟩) ?_ ?_;rotate_left
       ·intro w';go_simp;with_reducible rfl
       rotate_left
       ·simp only [Act.put,U,V,Z,i64_w,i32_w];rfl
       refine pure_ (i:=20) (N:=some 96) (v:=?_) (a':=?_) #[Y,Y,Y,Y,Y,Y,Y,Y,Y,Y,Y,Y,Y,Y,Y,Y,Y,Y,Y,Y,Y,J,J] rfl rfl (any_of HT_.out (by kernel_rfl)) (fun _ _ _ h => h) (Or.inl ⟨by rfl,?_⟩) ?_ ?_;rotate_left
       ·intro w';go_simp;with_reducible rfl
       rotate_left
       ·simp only [Act.put,U,V,Z,i64_w,i32_w];rfl
       refine pure_ (i:=21) (N:=some 10) (v:=?_) (a':=?_) #[Y,Y,Y,Y,Y,Y,Y,Y,Y,Y,Y,Y,Y,Y,Y,Y,Y,Y,Y,Y,Y,Y,J] rfl rfl (any_of HT_.out (by kernel_rfl)) (fun _ _ _ h => h) (Or.inl ⟨by rfl,?_⟩) ?_ ?_;rotate_left
       ·intro w';go_simp;with_reducible rfl
       rotate_left
       ·simp only [Act.put,U,V,Z,i64_w,i32_w];rfl
       refine pure_ (i:=22) (N:=some 11) (v:=?_) (a':=?_) #[Y,Y,Y,Y,Y,Y,Y,Y,Y,Y,Y,Y,Y,Y,Y,Y,Y,Y,Y,Y,Y,Y,Y] rfl rfl (any_of HT_.out (by kernel_rfl)) (fun _ _ _ h => h) (Or.inl ⟨by rfl,?_⟩) ?_ ?_;rotate_left
       ·intro w';go_simp;with_reducible rfl
       rotate_left
       ·simp only [Act.put,U,V,Z,i64_w,i32_w];rfl
       refine done_ (done_of HT_.out (by kernel_rfl)) ?_
       try go_wp2
       go_ret;exact ⟨by first | rfl | (simp [errW_none,errW_some] <;> rfl) | (simp [*,errW_none,errW_some] <;> rfl),by repeat (first | (with_reducible first | exact HB.out | apply below_alloc | apply pw_below_drewN | apply below_drew1 | refine below_set ?_ q3.out) | exact HB.out)⟩
      subst c62;have H1 : (if 1 ≤ (t825.length : Int) then ((laws_wkInts.f k2 t846 (t825.drop 1)).bind fun t854 => (some t854)) else (none)) = some r:=by rw [if_pos rfl] at H; exact H
      clear H;have H:=H1;clear H1
      by_cases c63 : 1 ≤ (t825.length : Int)
      case neg =>
       rw [if_neg c63] at H;exact absurd H (by simp)
      rw [if_pos c63] at H;have c63b0:=eq_true c63;have c63b1 : decide (1 ≤ (t825.length : Int)) = true:=decide_eq_true c63;clear c63;obtain ⟨y850,hy850⟩ : ∃ y_ : List Int,y_ = (t825.drop 1):=⟨_,rfl⟩
      replace H : ((laws_wkInts.f k2 t846 y850).bind fun t854 => (some t854)) = some r:=by first | (rw [hy850]; with_reducible exact H) | (have H2_:=(Option.bind_some _ _).symm.trans H; rw [hy850]; with_reducible exact H2_) | (have H2_:=(Option.bind_some _ _).symm.trans H; with_reducible exact H2_) | with_reducible exact H | (rw [hy850]; exact H) | exact H
      have Ny850:=zx hy850;clear hy850;replace H:=Option.bind_eq_some_iff.mp H;obtain ⟨t854,A640,H⟩:=H;replace H : (some t854) = some r:=H;have A64:=zx A640;clear A640;obtain rfl:=Option.some.inj H;obtain ⟨Ao65,co65,eo65⟩:=Kd.R_slice HO_4.out;subst eo65
      try go_wp2
      have n0_:=zx (Kd.R_drew HO_4.out);have n1_:=zx (Kd.R_drew p0.out);have n2_:=zx (blk_drew p4.out);have n3_:=zx (below_drew1 HB.out);clear HO_4;clear p0;clear p4;clear HB;have HO_4:=n0_;have p0:=n1_;have p4:=n2_;have HB:=n3_;clear n0_ n1_ n2_ n3_;have p842 : 0 ≤ (0 : Int):=(by omega)
      have q842 : 0 < (t825.length : Int):=of_decide_eq_true (by first | (with_reducible assumption) | assumption);obtain ⟨q4,e842,q1⟩:=Kd.at_int (Kd.R_reads' HO_4.out).2.2 0 p842 q842;cases e842;have qi842 : (0 < t825.length) = True:=eq_true (by omega)
      (try rw [show ((0 : Int)).toNat = 0 from rfl] at q1)
      (try rw [Addr.add_zero'] at q1)
      replace p842:=eq_true p842;replace q842:=eq_true q842;have p843 : 0 ≤ ((rd t825 0) : Int):=of_decide_eq_true (by first | (with_reducible assumption) | assumption);have q843 : (rd t825 0) < (t821.length : Int):=of_decide_eq_true (by first | (with_reducible assumption) | assumption);obtain ⟨p6,e843,r2,r3,r4,r5,r6⟩:=at_T34 (Kd.R_reads' p0.out).2.2 (rd t825 0) p843 q843;cases e843;replace p843:=eq_true p843;replace q843:=eq_true q843;have p844 : 0 ≤ (0 : Int):=(by omega)
      have q844 : 0 < (t825.length : Int):=of_decide_eq_true (by first | (with_reducible assumption) | assumption);obtain ⟨u4,e844,q2⟩:=Kd.at_int (Kd.R_reads' HO_4.out).2.2 0 p844 q844;obtain rfl : q4 = u4:=(by injection e844)
      have qi844 : (0 < t825.length) = True:=eq_true (by omega)
      (try rw [show ((0 : Int)).toNat = 0 from rfl] at q2)
      (try rw [Addr.add_zero'] at q2)
      replace p844:=eq_true p844;replace q844:=eq_true q844;have p845 : 0 ≤ ((rd t825 0) : Int):=of_decide_eq_true (by first | (with_reducible assumption) | assumption);have q845 : (rd t825 0) < (t821.length : Int):=of_decide_eq_true (by first | (with_reducible assumption) | assumption);obtain ⟨u5,e845,r7,r8,r9,t0,t1⟩:=at_T34 (Kd.R_reads' p0.out).2.2 (rd t825 0) p845 q845;obtain rfl : p6 = u5:=(by injection e845)
      replace p845:=eq_true p845;replace q845:=eq_true q845;refine start_ (n:=23) (S:=fun w' => w'.cell? ⟨p7,0,none⟩ = some (.int .i64 t820) ∧ w'.cell? ⟨p7,1,none⟩ = some (.slice (some p6) t821.length co10) ∧ w'.cell? q4 = some (.int .i64 (rd t825 0)) ∧ w'.cell? (p6.add (((rd t825 0)).toNat * 5)) = some (.int .i64 ((rd_T34 t821 (rd t825 0)).f0)) ∧ w'.cell? ⟨(p6.add (((rd t825 0)).toNat * 5)).block,(p6.add (((rd t825 0)).toNat * 5)).off + 1,none⟩ = some (.int .i64 ((rd_T34 t821 (rd t825 0)).f1)) ∧ w'.cell? ⟨(p6.add (((rd t825 0)).toNat * 5)).block,(p6.add (((rd t825 0)).toNat * 5)).off + 2,none⟩ = some (.int .i64 ((rd_T34 t821 (rd t825 0)).f2)) ∧ w'.cell? ⟨(p6.add (((rd t825 0)).toNat * 5)).block,(p6.add (((rd t825 0)).toNat * 5)).off + 3,none⟩ = some (.int .i64 ((rd_T34 t821 (rd t825 0)).f3)) ∧ w'.cell? ⟨(p6.add (((rd t825 0)).toNat * 5)).block,(p6.add (((rd t825 0)).toNat * 5)).off + 4,none⟩ = some (.int .i64 ((rd_T34 t821 (rd t825 0)).f4)) ∧ w'.cell? q4 = some (.int .i64 (rd t825 0)) ∧ w'.cell? (p6.add (((rd t825 0)).toNat * 5)) = some (.int .i64 ((rd_T34 t821 (rd t825 0)).f0)) ∧ w'.cell? ⟨(p6.add (((rd t825 0)).toNat * 5)).block,(p6.add (((rd t825 0)).toNat * 5)).off + 1,none⟩ = some (.int .i64 ((rd_T34 t821 (rd t825 0)).f1)) ∧ w'.cell? ⟨(p6.add (((rd t825 0)).toNat * 5)).block,(p6.add (((rd t825 0)).toNat * 5)).off + 2,none⟩ = some (.int .i64 ((rd_T34 t821 (rd t825 0)).f2)) ∧ w'.cell? ⟨(p6.add (((rd t825 0)).toNat * 5)).block,(p6.add (((rd t825 0)).toNat * 5)).off + 3,none⟩ = some (.int .i64 ((rd_T34 t821 (rd t825 0)).f3)) ∧ w'.cell? ⟨(p6.add (((rd t825 0)).toNat * 5)).block,(p6.add (((rd t825 0)).toNat * 5)).off + 4,none⟩ = some (.int .i64 ((rd_T34 t821 (rd t825 0)).f4))) (ds:=[]) #[J,J,J,J,J,J,J,J,J,J,J,J,J,J,J,J,J,J,J,J,J,J,J] (by kernel_rfl) rfl rfl ⟨(blk_cell p4.out 0).trans rfl,(blk_cell p4.out 1).trans rfl,q1,r2,r3,r4,r5,r6,q2,r7,r8,r9,t0,t1⟩ (fun hHeld => ?_); refine with_tabW laws_FnRingWay.tab14 laws_FnRingWay.bits14 (fun HT_ HW_ => ?_);generalize wr.drew = w66 at HO_4 p0 p4 HB q1 r2 r3 r4 r5 r6 q2 r7 r8 r9 t0 t1 hHeld ⊢;refine pure_ (i:=1) (N:=some 78) (v:=?_) (a':=?_) #[J,Y,J,J,J,J,J,J,J,J,J,J,J,J,J,J,J,J,J,J,J,J,J] rfl rfl (any_of HT_.out (by kernel_rfl)) (fun _ _ _ h => h) (Or.inl ⟨by rfl,?_⟩) ?_ ?_;rotate_left
      ·intro w';go_simp;with_reducible rfl
      rotate_left
      ·simp only [Act.put,U,V,Z,i64_w,i32_w];rfl
      refine pure_ (i:=3) (N:=some 80) (v:=?_) (a':=?_) #[J,Y,J,Y,J,J,J,J,J,J,J,J,J,J,J,J,J,J,J,J,J,J,J] rfl rfl (any_of HT_.out (by kernel_rfl)) (fun _ _ _ h => h) (Or.inl ⟨by rfl,?_⟩) ?_ ?_;rotate_left
      ·intro w';go_simp;with_reducible rfl
      rotate_left
      ·simp only [Act.put,U,V,Z,i64_w,i32_w];rfl
      refine pure_ (i:=4) (N:=some 81) (v:=?_) (a':=?_) #[J,Y,J,Y,Y,J,J,J,J,J,J,J,J,J,J,J,J,J,J,J,J,J,J] rfl rfl (any_of HT_.out (by kernel_rfl)) (fun _ _ _ h => h) (Or.inl ⟨by rfl,?_⟩) ?_ ?_;rotate_left
      ·intro w';go_simp;with_reducible rfl
      rotate_left
      ·simp only [Act.put,U,V,Z,i64_w,i32_w];rfl
      refine pure_ (i:=9) (N:=some 86) (v:=?_) (a':=?_) #[J,Y,J,Y,Y,J,J,J,J,Y,J,J,J,J,J,J,J,J,J,J,J,J,J] rfl rfl (any_of HT_.out (by kernel_rfl)) (fun _ _ _ h => h) (Or.inl ⟨by rfl,?_⟩) ?_ ?_;rotate_left
      ·intro w';go_simp;with_reducible rfl
      rotate_left
      ·simp only [Act.put,U,V,Z,i64_w,i32_w];rfl
      refine pure_ (i:=11) (N:=some 88) (v:=?_) (a':=?_) #[J,Y,J,Y,Y,J,J,J,J,Y,J,Y,J,J,J,J,J,J,J,J,J,J,J] rfl rfl (any_of HT_.out (by kernel_rfl)) (fun _ _ _ h => h) (Or.inl ⟨by rfl,?_⟩) ?_ ?_;rotate_left
      ·intro w';go_simp;with_reducible rfl
      rotate_left
      ·simp only [Act.put,U,V,Z,i64_w,i32_w];rfl
      refine pure_ (i:=12) (N:=some 89) (v:=?_) (a':=?_) #[J,Y,J,Y,Y,J,J,J,J,Y,J,Y,Y,J,J,J,J,J,J,J,J,J,J] rfl rfl (any_of HT_.out (by kernel_rfl)) (fun _ _ _ h => h) (Or.inl ⟨by rfl,?_⟩) ?_ ?_;rotate_left
      ·intro w';go_simp;with_reducible rfl
      rotate_left
      ·simp only [Act.put,U,V,Z,i64_w,i32_w];rfl
      refine take_ (i:=0) (N:=some 77) (v:=?_) (a':=?_) #[Y,Y,J,Y,Y,J,J,J,J,Y,J,Y,Y,J,J,J,J,J,J,J,J,J,J] rfl rfl (take_ofW HT_.out HW_.out (by kernel_rfl)) (fun _ _ _ h => h) (Or.inl ⟨by rfl,?_⟩) hHeld ?_ ?_;rotate_left
      ·rintro w' ⟨s0,s1,s2,s3,s4,s5,s6,s7,s8,s9,s10,s11,s12,s13⟩;go_simp;with_reducible rfl
      rotate_left
      ·simp only [Act.put,U,V,Z,i64_w,i32_w];rfl
      refine take_ (i:=2) (N:=some 79) (v:=?_) (a':=?_) #[Y,Y,Y,Y,Y,J,J,J,J,Y,J,Y,Y,J,J,J,J,J,J,J,J,J,J] rfl rfl (take_ofW HT_.out HW_.out (by kernel_rfl)) (fun _ _ _ h => h) (Or.inl ⟨by rfl,?_⟩) hHeld ?_ ?_;rotate_left
      ·rintro w' ⟨s0,s1,s2,s3,s4,s5,s6,s7,s8,s9,s10,s11,s12,s13⟩;go_simp;with_reducible rfl
      rotate_left
      ·simp only [Act.put,U,V,Z,i64_w,i32_w];rfl
      refine take_ (i:=5) (N:=some 82) (v:=?_) (a':=?_) #[Y,Y,Y,Y,Y,Y,J,J,J,Y,J,Y,Y,J,J,J,J,J,J,J,J,J,J] rfl rfl (take_ofW HT_.out HW_.out (by kernel_rfl)) (fun _ _ _ h => h) (Or.inl ⟨by rfl,?_⟩) hHeld ?_ ?_;rotate_left
      ·rintro w' ⟨s0,s1,s2,s3,s4,s5,s6,s7,s8,s9,s10,s11,s12,s13⟩;go_simp;with_reducible rfl
      rotate_left
      ·simp only [Act.put,U,V,Z,i64_w,i32_w];rfl
      refine pure_ (i:=6) (N:=some 83) (v:=?_) (a':=?_) #[Y,Y,Y,Y,Y,Y,Y,J,J,Y,J,Y,Y,J,J,J,J,J,J,J,J,J,J] rfl rfl (any_of HT_.out (by kernel_rfl)) (fun _ _ _ h => h) (Or.inl ⟨by rfl,?_⟩) ?_ ?_;rotate_left
      ·intro w';go_simp;with_reducible rfl
      rotate_left
      ·simp only [Act.put,U,V,Z,i64_w,i32_w];rfl
      refine pure_ (i:=7) (N:=some 84) (v:=?_) (a':=?_) #[Y,Y,Y,Y,Y,Y,Y,Y,J,Y,J,Y,Y,J,J,J,J,J,J,J,J,J,J] rfl rfl (any_of HT_.out (by kernel_rfl)) (fun _ _ _ h => h) (Or.inl ⟨by rfl,?_⟩) ?_ ?_;rotate_left
      ·intro w';go_simp;with_reducible rfl
      rotate_left
      ·simp only [Act.put,U,V,Z,i64_w,i32_w];rfl
      refine take_ (i:=8) (N:=some 85) (v:=?_) (a':=?_) #[Y,Y,Y,Y,Y,Y,Y,Y,Y,Y,J,Y,Y,J,J,J,J,J,J,J,J,J,J] rfl rfl (take_ofW HT_.out HW_.out (by kernel_rfl)) (fun _ _ _ h => h) (Or.inl ⟨by rfl,?_⟩) hHeld ?_ ?_;rotate_left
      ·rintro w' ⟨s0,s1,s2,s3,s4,s5,s6,s7,s8,s9,s10,s11,s12,s13⟩;go_simp;with_reducible rfl
      rotate_left
      ·simp only [Act.put,U,V,Z,i64_w,i32_w];rfl
      refine take_ (i:=10) (N:=some 87) (v:=?_) (a':=?_) #[Y,Y,Y,Y,Y,Y,Y,Y,Y,Y,Y,Y,Y,J,J,J,J,J,J,J,J,J,J] rfl rfl (take_ofW HT_.out HW_.out (by kernel_rfl)) (fun _ _ _ h => h) (Or.inl ⟨by rfl,?_⟩) hHeld ?_ ?_;rotate_left
      ·rintro w' ⟨s0,s1,s2,s3,s4,s5,s6,s7,s8,s9,s10,s11,s12,s13⟩;go_simp;with_reducible rfl
      rotate_left
      ·simp only [Act.put,U,V,Z,i64_w,i32_w];rfl
      refine take_ (i:=13) (N:=some 90) (v:=?_) (a':=?_) #[Y,Y,Y,Y,Y,Y,Y,Y,Y,Y,Y,Y,Y,Y,J,J,J,J,J,J,J,J,J] rfl rfl (take_ofW HT_.out HW_.out (by kernel_rfl)) (fun _ _ _ h => h) (Or.inl ⟨by rfl,?_⟩) hHeld ?_ ?_;rotate_left
      ·rintro w' ⟨s0,s1,s2,s3,s4,s5,s6,s7,s8,s9,s10,s11,s12,s13⟩;go_simp;with_reducible rfl
      rotate_left
      ·simp only [Act.put,U,V,Z,i64_w,i32_w];rfl
      refine pure_ (i:=14) (N:=some 91) (v:=?_) (a':=?_) #[Y,Y,Y,Y,Y,Y,Y,Y,Y,Y,Y,Y,Y,Y,Y,J,J,J,J,J,J,J,J] rfl rfl (any_of HT_.out (by kernel_rfl)) (fun _ _ _ h => h) (Or.inl ⟨by rfl,?_⟩) ?_ ?_;rotate_left
      ·intro w';go_simp;with_reducible rfl
      rotate_left
      ·simp only [Act.put,U,V,Z,i64_w,i32_w];rfl
      refine pure_ (i:=15) (N:=some 92) (v:=?_) (a':=?_) #[Y,Y,Y,Y,Y,Y,Y,Y,Y,Y,Y,Y,Y,Y,Y,Y,J,J,J,J,J,J,J] rfl rfl (any_of HT_.out (by kernel_rfl)) (fun _ _ _ h => h) (Or.inl ⟨by rfl,?_⟩) ?_ ?_;rotate_left
      ·intro w';go_simp;with_reducible rfl
      rotate_left
      ·simp only [Act.put,U,V,Z,i64_w,i32_w];rfl
      refine take_ (i:=16) (N:=some 93) (v:=?_) (a':=?_) #[Y,Y,Y,Y,Y,Y,Y,Y,Y,Y,Y,Y,Y,Y,Y,Y,Y,J,J,J,J,J,J] rfl rfl (take_ofW HT_.out HW_.out (by kernel_rfl)) (fun _ _ _ h => h) (Or.inl ⟨by rfl,?_⟩) hHeld ?_ ?_;rotate_left
      ·rintro w' ⟨s0,s1,s2,s3,s4,s5,s6,s7,s8,s9,s10,s11,s12,s13⟩;go_simp;with_reducible rfl
      rotate_left
      ·simp only [Act.put,U,V,Z,i64_w,i32_w];rfl
      refine one_ (i:=17) (N:=some 94) #[Y,Y,Y,Y,Y,Y,Y,Y,Y,Y,Y,Y,Y,Y,Y,Y,Y,Y,J,J,J,J,J] rfl rfl (one_of HT_.out (by kernel_rfl)) (by decide) (fun K hK => ?_);refine goes_ Try.func18 (by kernel_rfl) rfl #[.agg #[.int .i64 t820,.slice (some p6) t821.length co10],.int .i64 ((rd_T34 t821 (rd t825 0)).f1),.int .i64 ((rd_T34 t821 (rd t825 0)).f0)] (by rfl) rfl rfl (by (try simp only [List.map_toArray,List.map_cons,List.map_nil]); first | done | rfl | (simp only [List.length_drop,List.length_take]; rfl)) ?_;with_reducible refine (impl_NearWalk.calls k2 t820 _ _ t821 ((rd_T34 t821 (rd t825 0)).f1) ((rd_T34 t821 (rd t825 0)).f0) t846 true _ ?side1 ?side2 A61.out).mono ?_
      (case side1 => repeat (first | exact (Kd.R_reads' p0.out).2.2 | (with_reducible refine Kd.C_alloc ?_ _) | (with_reducible refine Kd.C_drewN ?_ _) | (with_reducible refine Kd.C_drew ?_)))
      (case side2 => exact (Kd.R_reads' p0.out).2.1)
      rintro e w67 ⟨v847,rfl,ho0,hb⟩;have HS2_:=(hb.cell (World.block_lt_of_cell? _ _ (hHeld.2.2.1))).trans (hHeld.2.2.1);have HS3_:=(hb.cell (World.block_lt_of_cell? _ _ (hHeld.2.2.2.1))).trans (hHeld.2.2.2.1);have HS4_:=(hb.cell (World.block_lt_of_cell? _ _ (hHeld.2.2.2.2.1))).trans (hHeld.2.2.2.2.1);have HS5_:=(hb.cell (World.block_lt_of_cell? _ _ (hHeld.2.2.2.2.2.1))).trans (hHeld.2.2.2.2.2.1);have HS6_:=(hb.cell (World.block_lt_of_cell? _ _ (hHeld.2.2.2.2.2.2.1))).trans (hHeld.2.2.2.2.2.2.1);have HS7_:=(hb.cell (World.block_lt_of_cell? _ _ (hHeld.2.2.2.2.2.2.2.1))).trans (hHeld.2.2.2.2.2.2.2.1);have HS8_:=(hb.cell (World.block_lt_of_cell? _ _ (hHeld.2.2.2.2.2.2.2.2.1))).trans (hHeld.2.2.2.2.2.2.2.2.1);have HS9_:=(hb.cell (World.block_lt_of_cell? _ _ (hHeld.2.2.2.2.2.2.2.2.2.1))).trans (hHeld.2.2.2.2.2.2.2.2.2.1);have HS10_:=(hb.cell (World.block_lt_of_cell? _ _ (hHeld.2.2.2.2.2.2.2.2.2.2.1))).trans (hHeld.2.2.2.2.2.2.2.2.2.2.1);have HS11_:=(hb.cell (World.block_lt_of_cell? _ _ (hHeld.2.2.2.2.2.2.2.2.2.2.2.1))).trans (hHeld.2.2.2.2.2.2.2.2.2.2.2.1);have HS12_:=(hb.cell (World.block_lt_of_cell? _ _ (hHeld.2.2.2.2.2.2.2.2.2.2.2.2.1))).trans (hHeld.2.2.2.2.2.2.2.2.2.2.2.2.1);have HS13_:=(hb.cell (World.block_lt_of_cell? _ _ (hHeld.2.2.2.2.2.2.2.2.2.2.2.2.2))).trans (hHeld.2.2.2.2.2.2.2.2.2.2.2.2.2);refine ⟨_,rfl,?_⟩;have n0_:=zx (Kd.R_elder' HO_4.out (Kd.R_base ho0) hb);have n1_:=zx (Kd.R_below p0.out hb);have n2_:=zx (Kd.R_lower (Kd.R_new' ho0 (Kd.R_lt HO_4.out)) (below_size HB.out));have n3_:=zx (blk_below (g:=p7) (o:=.cells #[.int .i64 t820,.slice (some p6) t821.length co10] 25 (0,0)) p4.out hb);have n4_:=zx (below_step HB.out hb);clear HO_4;clear p0;clear p4;clear HB;have HO_4:=n0_;have p0:=n1_;have HO848:=n2_;have p4:=n3_;have HB:=n4_;clear n0_ n1_ n2_ n3_ n4_
      (try clear hb)
      (try clear hb2)
      (try clear hk)
      (try clear hi)
      (try clear ho0)
      refine hK.out _ _ ⟨(blk_cell p4.out 0).trans rfl,(blk_cell p4.out 1).trans rfl,HS2_,HS3_,HS4_,HS5_,HS6_,HS7_,HS8_,HS9_,HS10_,HS11_,HS12_,HS13_⟩ (fun hHeld => ?_);clear hK K;refine norm_ (a':=?_) ?_ ?_;rotate_left
      ·show Act.put _ (some 94) _ = _
       simp only [Act.put,U,V,Z,i64_w,i32_w];rfl
      refine pure_ (i:=18) (N:=some 76) (v:=?_) (a':=?_) #[Y,Y,Y,Y,Y,Y,Y,Y,Y,Y,Y,Y,Y,Y,Y,Y,Y,Y,Y,J,J,J,J] rfl rfl (any_of HT_.out (by kernel_rfl)) (fun _ _ _ h => h) (Or.inl ⟨by rfl,?_⟩) ?_ ?_;rotate_left
      ·intro w';go_simp;with_reducible rfl
      rotate_left
      ·simp only [Act.put,U,V,Z,i64_w,i32_w];rfl
      refine pure_ (i:=19) (N:=some 95) (v:=?_) (a':=?_) #[Y,Y,Y,Y,Y,Y,Y,Y,Y,Y,Y,Y,Y,Y,Y,Y,Y,Y,Y,Y,J,J,J] rfl rfl (any_of HT_.out (by kernel_rfl)) (fun _ _ _ h => h) (Or.inl ⟨by rfl,?_⟩) ?_ ?_;rotate_left
      ·intro w';go_simp;with_reducible rfl
      rotate_left
      ·simp only [Act.put,U,V,Z,i64_w,i32_w];rfl
      refine pure_ (i:=20) (N:=some 96) (v:=?_) (a':=?_) #[Y,Y,Y,Y,Y,Y,Y,Y,Y,Y,Y,Y,Y,Y,Y,Y,Y,Y,Y,Y,Y,J,J] rfl rfl (any_of HT_.out (by kernel_rfl)) (fun _ _ _ h => h) (Or.inl ⟨by rfl,?_⟩) ?_ ?_;rotate_left
      ·intro w';go_simp;with_reducible rfl
      rotate_left
      ·simp only [Act.put,U,V,Z,i64_w,i32_w];rfl
      refine pure_ (i:=21) (N:=some 10) (v:=?_) (a':=?_) #[Y,Y,Y,Y,Y,Y,Y,Y,Y,Y,Y,Y,Y,Y,Y,Y,Y,Y,Y,Y,Y,Y,J] rfl rfl (any_of HT_.out (by kernel_rfl)) (fun _ _ _ h => h) (Or.inl ⟨by rfl,?_⟩) ?_ ?_;rotate_left
      ·intro w';go_simp;with_reducible rfl
      rotate_left
      ·simp only [Act.put,U,V,Z,i64_w,i32_w];rfl
      refine pure_ (i:=22) (N:=some 11) (v:=?_) (a':=?_) #[Y,Y,Y,Y,Y,Y,Y,Y,Y,Y,Y,Y,Y,Y,Y,Y,Y,Y,Y,Y,Y,Y,Y] rfl rfl (any_of HT_.out (by kernel_rfl)) (fun _ _ _ h => h) (Or.inl ⟨by rfl,?_⟩) ?_ ?_;rotate_left
      ·intro w';go_simp;with_reducible rfl
      rotate_left
      ·simp only [Act.put,U,V,Z,i64_w,i32_w];rfl
      refine done_ (done_of HT_.out (by kernel_rfl)) ?_;have q68 : (1 : Int) ≤ ((t825.length : Int) : Int):=of_decide_eq_true (by first | (with_reducible assumption) | assumption);obtain ⟨i068,hi068,_,hsz68,_⟩:=info_parts info3;have t2 : t825.length ≤ co65:=(Kd.R_reads' HO_4.out).2.1;have hC68 : Kd.C (Kd.int .i64) _ (some q4) t825.length t825:=(Kd.R_reads' HO_4.out).2.2;have hcut68:=cut_from (P:=Try.prog) 29 3 .i64 Try.underlying29 hi068 1 hsz68 (some q4) t825.length co65 1 (by omega) q68;have hr68:=Kd.C_drop (m:=(1 : Int).toNat) (c:=co65) hC68 (by omega) t2;obtain ⟨A68,hA68⟩ : ∃ A1,A1 = (if co65 = (1 : Int).toNat then (some q4) else ((some q4) : Option Addr).map (·.add ((1 : Int).toNat * 1))):=⟨_,rfl⟩
      obtain ⟨c68,hc68⟩ : ∃ c1,c1 = co65 - (1 : Int).toNat:=⟨_,rfl⟩
      have hy68 : y850.length = t825.length - (1 : Int).toNat:=(by rw [Ny850.out,List.length_drop] <;> omega)
      rw [show (t825).drop (1 : Int).toNat = y850 from Ny850.out.symm] at hr68;replace hr68 : Kd.C (Kd.int .i64) _ A68 y850.length y850:=(by rw [hA68]; exact hr68)
      rw [← hy68,← hA68,← hc68] at hcut68;have HR853:=zx hr68;have HC853:=zx (show y850.length ≤ c68 from by rw [hy68,hc68]; exact Nat.sub_le_sub_right t2 _);clear hr68 hC68 t2 hi068 hsz68 hc68;have KY68:=zx hy68;have KA68:=zx hA68;clear hy68 hA68;have KL68:=zx (show 1 ≤ t825.length from by omega);replace q68:=eq_true q68;obtain ⟨Ao69,co69,eo69⟩:=Kd.R_slice HO848.out;subst eo69
      try go_wp2_with (first | (go_at_call 27; (with_reducible refine (laws_wkInts.calls k2 _ _ t846 _ _ y850 t854 _ ?side1 ?side2 ?side3 ?side4 A64.out).mono ?_); (case side1 => repeat (first | exact (Kd.R_reads' HO848.out).2.2 | (with_reducible refine Kd.C_alloc ?_ _) | (with_reducible refine Kd.C_drewN ?_ _) | (with_reducible refine Kd.C_drew ?_))); (case side2 => exact (Kd.R_reads' HO848.out).2.1); (case side3 => repeat (first | exact (by repeat (first | (with_reducible exact HR853.out) | (with_reducible refine Kd.C_alloc ?_ _) | (with_reducible refine Kd.C_drewN ?_ _) | (with_reducible refine Kd.C_drew ?_) | exact HR853.out)) | (with_reducible refine Kd.C_alloc ?_ _) | (with_reducible refine Kd.C_drewN ?_ _) | (with_reducible refine Kd.C_drew ?_))); (case side4 => exact HC853.out); rintro e w' ⟨rfl,⟨nd,rfl⟩⟩))
      go_ret;exact ⟨by first | rfl | (simp [errW_none,errW_some] <;> rfl) | (simp [*,errW_none,errW_some] <;> rfl),by repeat (first | (with_reducible first | exact HB.out | apply below_alloc | apply pw_below_drewN | apply below_drew1 | refine below_set ?_ q3.out) | exact HB.out)⟩
     rw [if_pos c26] at H;have c26b0 : decide (x8_2 < (t825.length : Int)) = true:=decide_eq_true c26;clear c26
     by_cases c27 : 0 ≤ x8_2
     case neg =>
      rw [if_neg c27] at H;exact absurd H (by simp)
     rw [if_pos c27] at H;have c27b0 : decide (0 ≤ x8_2) = true:=decide_eq_true c27;clear c27
     by_cases c28 : 0 ≤ (rd t825 x8_2)
     case neg =>
      rw [if_neg c28] at H;exact absurd H (by simp)
     rw [if_pos c28] at H;have c28b0 : decide (0 ≤ (rd t825 x8_2)) = true:=decide_eq_true c28;clear c28
     by_cases c29 : (rd t825 x8_2) < (t821.length : Int)
     case neg =>
      rw [if_neg c29] at H;exact absurd H (by simp)
     rw [if_pos c29] at H;have c29b0 : decide ((rd t825 x8_2) < (t821.length : Int)) = true:=decide_eq_true c29;clear c29;replace H:=Option.bind_eq_some_iff.mp H;obtain ⟨t838,A300,H⟩:=H;replace H : (if 0 ≤ ((rd_T34 t821 (rd t825 x8_2)).f0) then (if ((rd_T34 t821 (rd t825 x8_2)).f0) < (t838.length : Int) then (if (wrap64 ((rd t838 ((rd_T34 t821 (rd t825 x8_2)).f0)) + ((rd_T34 t821 (rd t825 x8_2)).f2))) = t828 then (laws_FnRingWay.l0 k2 t825 t828 (wrap64 (x8_2 + 1)) t820 t821) else (some false)) else (none)) else (none)) = some r:=H;have A30:=zx A300;clear A300
     by_cases c31 : 0 ≤ ((rd_T34 t821 (rd t825 x8_2)).f0)
     case neg =>
      rw [if_neg c31] at H;exact absurd H (by simp)
     rw [if_pos c31] at H;have c31b0 : decide (0 ≤ ((rd_T34 t821 (rd t825 x8_2)).f0)) = true:=decide_eq_true c31;clear c31
     by_cases c32 : ((rd_T34 t821 (rd t825 x8_2)).f0) < (t838.length : Int)
     case neg =>
      rw [if_neg c32] at H;exact absurd H (by simp)
     rw [if_pos c32] at H;have c32b0 : decide (((rd_T34 t821 (rd t825 x8_2)).f0) < (t838.length : Int)) = true:=decide_eq_true c32;clear c32
     by_cases c33 : (wrap64 ((rd t838 ((rd_T34 t821 (rd t825 x8_2)).f0)) + ((rd_T34 t821 (rd t825 x8_2)).f2))) = t828
     case neg =>
      rw [if_neg c33] at H;have c33b0 : ((wrap64 ((rd t838 ((rd_T34 t821 (rd t825 x8_2)).f0)) + ((rd_T34 t821 (rd t825 x8_2)).f2))) == t828) = false:=beq_eq_false_iff_ne.mpr c33;have c33b1 : ((wrap64 ((rd t838 ((rd_T34 t821 (rd t825 x8_2)).f0)) + ((rd_T34 t821 (rd t825 x8_2)).f2))) != t828) = true:=bne_iff_ne.mpr c33;obtain rfl:=Option.some.inj H;obtain ⟨Ao46,co46,eo46⟩:=Kd.R_slice HO_4.out;subst eo46
      try go_wp2
      have n0_:=zx (Kd.R_drew HO_4.out);have n1_:=zx (Kd.R_drew p0.out);have n2_:=zx (blk_drew p4.out);have n3_:=zx (below_drew1 HB.out);clear HO_4;clear p0;clear p4;clear HB;have HO_4:=n0_;have p0:=n1_;have p4:=n2_;have HB:=n3_;clear n0_ n1_ n2_ n3_;have p835 : 0 ≤ (x8_2 : Int):=of_decide_eq_true (by first | (with_reducible assumption) | assumption);have q835 : x8_2 < (t825.length : Int):=of_decide_eq_true (by first | (with_reducible assumption) | assumption);obtain ⟨t3,e835,q6⟩:=Kd.at_int (Kd.R_reads' HO_4.out).2.2 x8_2 p835 q835;cases e835;replace p835:=eq_true p835;replace q835:=eq_true q835;have p836 : 0 ≤ ((rd t825 x8_2) : Int):=of_decide_eq_true (by first | (with_reducible assumption) | assumption);have q836 : (rd t825 x8_2) < (t821.length : Int):=of_decide_eq_true (by first | (with_reducible assumption) | assumption);obtain ⟨p8,e836,q7,q8,q9,r0,r1⟩:=at_T34 (Kd.R_reads' p0.out).2.2 (rd t825 x8_2) p836 q836;cases e836;replace p836:=eq_true p836;replace q836:=eq_true q836;refine start_ (n:=10) (S:=fun w' => w'.cell? ⟨p7,0,none⟩ = some (.int .i64 t820) ∧ w'.cell? ⟨p7,1,none⟩ = some (.slice (some p8) t821.length co10) ∧ w'.cell? (t3.add (x8_2).toNat) = some (.int .i64 (rd t825 x8_2)) ∧ w'.cell? (p8.add (((rd t825 x8_2)).toNat * 5)) = some (.int .i64 ((rd_T34 t821 (rd t825 x8_2)).f0)) ∧ w'.cell? ⟨(p8.add (((rd t825 x8_2)).toNat * 5)).block,(p8.add (((rd t825 x8_2)).toNat * 5)).off + 1,none⟩ = some (.int .i64 ((rd_T34 t821 (rd t825 x8_2)).f1)) ∧ w'.cell? ⟨(p8.add (((rd t825 x8_2)).toNat * 5)).block,(p8.add (((rd t825 x8_2)).toNat * 5)).off + 2,none⟩ = some (.int .i64 ((rd_T34 t821 (rd t825 x8_2)).f2)) ∧ w'.cell? ⟨(p8.add (((rd t825 x8_2)).toNat * 5)).block,(p8.add (((rd t825 x8_2)).toNat * 5)).off + 3,none⟩ = some (.int .i64 ((rd_T34 t821 (rd t825 x8_2)).f3)) ∧ w'.cell? ⟨(p8.add (((rd t825 x8_2)).toNat * 5)).block,(p8.add (((rd t825 x8_2)).toNat * 5)).off + 4,none⟩ = some (.int .i64 ((rd_T34 t821 (rd t825 x8_2)).f4))) (ds:=[]) #[J,J,J,J,J,J,J,J,J,J] (by kernel_rfl) rfl rfl ⟨(blk_cell p4.out 0).trans rfl,(blk_cell p4.out 1).trans rfl,q6,q7,q8,q9,r0,r1⟩ (fun hHeld => ?_); refine with_tabW laws_FnRingWay.tab11 laws_FnRingWay.bits11 (fun HT_ HW_ => ?_);generalize wr.drew = w47 at HO_4 p0 p4 HB q6 q7 q8 q9 r0 r1 hHeld ⊢;refine pure_ (i:=0) (N:=some 55) (v:=?_) (a':=?_) #[Y,J,J,J,J,J,J,J,J,J] rfl rfl (any_of HT_.out (by kernel_rfl)) (fun _ _ _ h => h) (Or.inl ⟨by rfl,?_⟩) ?_ ?_;rotate_left
      ·intro w';go_simp;with_reducible rfl
      rotate_left
      ·simp only [Act.put,U,V,Z,i64_w,i32_w];rfl
      refine pure_ (i:=2) (N:=some 57) (v:=?_) (a':=?_) #[Y,J,Y,J,J,J,J,J,J,J] rfl rfl (any_of HT_.out (by kernel_rfl)) (fun _ _ _ h => h) (Or.inl ⟨by rfl,?_⟩) ?_ ?_;rotate_left
      ·intro w';go_simp;with_reducible rfl
      rotate_left
      ·simp only [Act.put,U,V,Z,i64_w,i32_w];rfl
      refine pure_ (i:=3) (N:=some 58) (v:=?_) (a':=?_) #[Y,J,Y,Y,J,J,J,J,J,J] rfl rfl (any_of HT_.out (by kernel_rfl)) (fun _ _ _ h => h) (Or.inl ⟨by rfl,?_⟩) ?_ ?_;rotate_left
      ·intro w';go_simp;with_reducible rfl
      rotate_left
      ·simp only [Act.put,U,V,Z,i64_w,i32_w];rfl
      refine pure_ (i:=4) (N:=some 59) (v:=?_) (a':=?_) #[Y,J,Y,Y,Y,J,J,J,J,J] rfl rfl (any_of HT_.out (by kernel_rfl)) (fun _ _ _ h => h) (Or.inl ⟨by rfl,?_⟩) ?_ ?_;rotate_left
      ·intro w';go_simp;with_reducible rfl
      rotate_left
      ·simp only [Act.put,U,V,Z,i64_w,i32_w];rfl
      refine take_ (i:=1) (N:=some 56) (v:=?_) (a':=?_) #[Y,Y,Y,Y,Y,J,J,J,J,J] rfl rfl (take_ofW HT_.out HW_.out (by kernel_rfl)) (fun _ _ _ h => h) (Or.inl ⟨by rfl,?_⟩) hHeld ?_ ?_;rotate_left
      ·rintro w' ⟨s0,s1,s2,s3,s4,s5,s6,s7⟩;go_simp;with_reducible rfl
      rotate_left
      ·simp only [Act.put,U,V,Z,i64_w,i32_w];rfl
      refine take_ (i:=5) (N:=some 60) (v:=?_) (a':=?_) #[Y,Y,Y,Y,Y,Y,J,J,J,J] rfl rfl (take_ofW HT_.out HW_.out (by kernel_rfl)) (fun _ _ _ h => h) (Or.inl ⟨by rfl,?_⟩) hHeld ?_ ?_;rotate_left
      ·rintro w' ⟨s0,s1,s2,s3,s4,s5,s6,s7⟩;go_simp;with_reducible rfl
      rotate_left
      ·simp only [Act.put,U,V,Z,i64_w,i32_w];rfl
      refine pure_ (i:=6) (N:=some 61) (v:=?_) (a':=?_) #[Y,Y,Y,Y,Y,Y,Y,J,J,J] rfl rfl (any_of HT_.out (by kernel_rfl)) (fun _ _ _ h => h) (Or.inl ⟨by rfl,?_⟩) ?_ ?_;rotate_left
      ·intro w';go_simp;with_reducible rfl
      rotate_left
      ·simp only [Act.put,U,V,Z,i64_w,i32_w];rfl
      refine take_ (i:=7) (N:=some 62) (v:=?_) (a':=?_) #[Y,Y,Y,Y,Y,Y,Y,Y,J,J] rfl rfl (take_ofW HT_.out HW_.out (by kernel_rfl)) (fun _ _ _ h => h) (Or.inl ⟨by rfl,?_⟩) hHeld ?_ ?_;rotate_left
      ·rintro w' ⟨s0,s1,s2,s3,s4,s5,s6,s7⟩;go_simp;with_reducible rfl
      rotate_left
      ·simp only [Act.put,U,V,Z,i64_w,i32_w];rfl
      refine one_ (i:=8) (N:=some 9) #[Y,Y,Y,Y,Y,Y,Y,Y,Y,J] rfl rfl (one_of HT_.out (by kernel_rfl)) (by decide) (fun K hK => ?_);refine box_step ?hg (N:=9) ?hd (cs:=#[.int .i64 0,.int .i64 0,.int .i64 0,.int .i64 0,.int .i64 0]) (t:=34) ?hr ?_; (case hd => rfl); (case hg => rfl); (case hr => first | (go_simp; done) | (go_simp; rfl));intro p1 hg w48 hbox hb;have HS2_:=(hb.cell (World.block_lt_of_cell? _ _ (hHeld.2.2.1))).trans (hHeld.2.2.1);have HS3_:=(hb.cell (World.block_lt_of_cell? _ _ (hHeld.2.2.2.1))).trans (hHeld.2.2.2.1);have HS4_:=(hb.cell (World.block_lt_of_cell? _ _ (hHeld.2.2.2.2.1))).trans (hHeld.2.2.2.2.1);have HS5_:=(hb.cell (World.block_lt_of_cell? _ _ (hHeld.2.2.2.2.2.1))).trans (hHeld.2.2.2.2.2.1);have HS6_:=(hb.cell (World.block_lt_of_cell? _ _ (hHeld.2.2.2.2.2.2.1))).trans (hHeld.2.2.2.2.2.2.1);have HS7_:=(hb.cell (World.block_lt_of_cell? _ _ (hHeld.2.2.2.2.2.2.2))).trans (hHeld.2.2.2.2.2.2.2);have n0_:=zx (Kd.R_below HO_4.out hb);have n1_:=zx (Kd.R_below (Kd.R_elderB p0.out p1 (Nat.le_of_eq hg.symm)) hb);have n2_:=zx (blk_below (g:=p7) (o:=.cells #[.int .i64 t820,.slice (some p8) t821.length co10] 25 (0,0)) p4.out hb);have n3_:=zx (below_step HB.out hb);have n4_:=zx (hbox);have n5_:=zx ((by rw [hg]; exact (below_size HB.out) : w.heap.size ≤ p1));have n6_:=zx ((by rw [hg]; exact (below_size HB.out) : w.heap.size ≤ p1));have n7_:=zx ((by rw [hg]; exact Nat.ne_of_lt (blk_lt (g:=p7) (o:=.cells #[.int .i64 t820,.slice (some p8) t821.length co10] 25 (0,0)) p4.out) : p7 ≠ p1));have n8_:=zx ((by rw [hg]; exact Nat.ne_of_gt (blk_lt (g:=p7) (o:=.cells #[.int .i64 t820,.slice (some p8) t821.length co10] 25 (0,0)) p4.out) : p1 ≠ p7));clear HO_4;clear p0;clear p4;clear HB;have HO_4:=n0_;have p0:=n1_;have p4:=n2_;have HB:=n3_;have p3:=n4_;have GW837:=n5_;have t4:=n6_;have p5:=n7_;have p9:=n8_;clear n0_ n1_ n2_ n3_ n4_ n5_ n6_ n7_ n8_;clear hb hbox hg;refine hK.out _ _ ⟨(blk_cell p4.out 0).trans rfl,(blk_cell p4.out 1).trans rfl,HS2_,HS3_,HS4_,HS5_,HS6_,HS7_⟩ (fun hHeld => ?_);clear hK K;refine norm_ (a':=?_) ?_ ?_;rotate_left
      ·show Act.put _ (some 9) _ = _
       simp only [Act.put,U,V,Z,i64_w,i32_w];rfl
      refine one_ (i:=9) (N:=none) #[Y,Y,Y,Y,Y,Y,Y,Y,Y,Y] rfl rfl (one_of HT_.out (by kernel_rfl)) (by decide) (fun K hK => ?_);have hs49 : w48.cell? ⟨p1,0,none⟩ = some (.int .i64 0):=(blk_cell p3.out 0).trans rfl;have hfs49:=blk_frozen p3.out 0;have hns49_0:=p5.out;have hms49_0:=p9.out;have hs50 : w48.cell? ⟨p1,1,none⟩ = some (.int .i64 0):=(blk_cell p3.out 1).trans rfl;have hfs50:=blk_frozen p3.out 1;have hns50_0:=p5.out;have hms50_0:=p9.out;have hs51 : w48.cell? ⟨p1,2,none⟩ = some (.int .i64 0):=(blk_cell p3.out 2).trans rfl;have hfs51:=blk_frozen p3.out 2;have hns51_0:=p5.out;have hms51_0:=p9.out;have hs52 : w48.cell? ⟨p1,3,none⟩ = some (.int .i64 0):=(blk_cell p3.out 3).trans rfl;have hfs52:=blk_frozen p3.out 3;have hns52_0:=p5.out;have hms52_0:=p9.out;have hs53 : w48.cell? ⟨p1,4,none⟩ = some (.int .i64 0):=(blk_cell p3.out 4).trans rfl;have hfs53:=blk_frozen p3.out 4;have hns53_0:=p5.out;have hms53_0:=p9.out;refine skip_ (w1:=?_) (by rfl) rfl ?_ ?_;rotate_left
      ·go_simp;rfl
      refine hK.out _ _ ⟨((cell_far (p:=⟨p1,_,none⟩) p5.out _).trans (((cell_far (p:=⟨p1,_,none⟩) p5.out _).trans (((cell_far (p:=⟨p1,_,none⟩) p5.out _).trans (((cell_far (p:=⟨p1,_,none⟩) p5.out _).trans (((cell_far (p:=⟨p1,_,none⟩) p5.out _).trans (hHeld.1)))))))))),((cell_far (p:=⟨p1,_,none⟩) p5.out _).trans (((cell_far (p:=⟨p1,_,none⟩) p5.out _).trans (((cell_far (p:=⟨p1,_,none⟩) p5.out _).trans (((cell_far (p:=⟨p1,_,none⟩) p5.out _).trans (((cell_far (p:=⟨p1,_,none⟩) p5.out _).trans (hHeld.2.1)))))))))),((cell_far (p:=⟨p1,_,none⟩) (by first | exact Kd.own_blk (Kd.R_ne HO_4.out p3.out (by decide)) | (rw [add_block]; exact Kd.own_blk (Kd.R_ne HO_4.out p3.out (by decide))) | (show (Addr.add _ _).block ≠ _; rw [add_block]; exact Kd.own_blk (Kd.R_ne HO_4.out p3.out (by decide))) | (dsimp only; exact Kd.own_blk (Kd.R_ne HO_4.out p3.out (by decide)))) _).trans (((cell_far (p:=⟨p1,_,none⟩) (by first | exact Kd.own_blk (Kd.R_ne HO_4.out p3.out (by decide)) | (rw [add_block]; exact Kd.own_blk (Kd.R_ne HO_4.out p3.out (by decide))) | (show (Addr.add _ _).block ≠ _; rw [add_block]; exact Kd.own_blk (Kd.R_ne HO_4.out p3.out (by decide))) | (dsimp only; exact Kd.own_blk (Kd.R_ne HO_4.out p3.out (by decide)))) _).trans (((cell_far (p:=⟨p1,_,none⟩) (by first | exact Kd.own_blk (Kd.R_ne HO_4.out p3.out (by decide)) | (rw [add_block]; exact Kd.own_blk (Kd.R_ne HO_4.out p3.out (by decide))) | (show (Addr.add _ _).block ≠ _; rw [add_block]; exact Kd.own_blk (Kd.R_ne HO_4.out p3.out (by decide))) | (dsimp only; exact Kd.own_blk (Kd.R_ne HO_4.out p3.out (by decide)))) _).trans (((cell_far (p:=⟨p1,_,none⟩) (by first | exact Kd.own_blk (Kd.R_ne HO_4.out p3.out (by decide)) | (rw [add_block]; exact Kd.own_blk (Kd.R_ne HO_4.out p3.out (by decide))) | (show (Addr.add _ _).block ≠ _; rw [add_block]; exact Kd.own_blk (Kd.R_ne HO_4.out p3.out (by decide))) | (dsimp only; exact Kd.own_blk (Kd.R_ne HO_4.out p3.out (by decide)))) _).trans (((cell_far (p:=⟨p1,_,none⟩) (by first | exact Kd.own_blk (Kd.R_ne HO_4.out p3.out (by decide)) | (rw [add_block]; exact Kd.own_blk (Kd.R_ne HO_4.out p3.out (by decide))) | (show (Addr.add _ _).block ≠ _; rw [add_block]; exact Kd.own_blk (Kd.R_ne HO_4.out p3.out (by decide))) | (dsimp only; exact Kd.own_blk (Kd.R_ne HO_4.out p3.out (by decide)))) _).trans (hHeld.2.2.1)))))))))),((cell_far (p:=⟨p1,_,none⟩) (by first | exact Kd.own_blk (Kd.R_away p0.out (fun _ hk => hk.2)) | (rw [add_block]; exact Kd.own_blk (Kd.R_away p0.out (fun _ hk => hk.2))) | (show (Addr.add _ _).block ≠ _; rw [add_block]; exact Kd.own_blk (Kd.R_away p0.out (fun _ hk => hk.2))) | (dsimp only; exact Kd.own_blk (Kd.R_away p0.out (fun _ hk => hk.2)))) _).trans (((cell_far (p:=⟨p1,_,none⟩) (by first | exact Kd.own_blk (Kd.R_away p0.out (fun _ hk => hk.2)) | (rw [add_block]; exact Kd.own_blk (Kd.R_away p0.out (fun _ hk => hk.2))) | (show (Addr.add _ _).block ≠ _; rw [add_block]; exact Kd.own_blk (Kd.R_away p0.out (fun _ hk => hk.2))) | (dsimp only; exact Kd.own_blk (Kd.R_away p0.out (fun _ hk => hk.2)))) _).trans (((cell_far (p:=⟨p1,_,none⟩) (by first | exact Kd.own_blk (Kd.R_away p0.out (fun _ hk => hk.2)) | (rw [add_block]; exact Kd.own_blk (Kd.R_away p0.out (fun _ hk => hk.2))) | (show (Addr.add _ _).block ≠ _; rw [add_block]; exact Kd.own_blk (Kd.R_away p0.out (fun _ hk => hk.2))) | (dsimp only; exact Kd.own_blk (Kd.R_away p0.out (fun _ hk => hk.2)))) _).trans (((cell_far (p:=⟨p1,_,none⟩) (by first | exact Kd.own_blk (Kd.R_away p0.out (fun _ hk => hk.2)) | (rw [add_block]; exact Kd.own_blk (Kd.R_away p0.out (fun _ hk => hk.2))) | (show (Addr.add _ _).block ≠ _; rw [add_block]; exact Kd.own_blk (Kd.R_away p0.out (fun _ hk => hk.2))) | (dsimp only; exact Kd.own_blk (Kd.R_away p0.out (fun _ hk => hk.2)))) _).trans (((cell_far (p:=⟨p1,_,none⟩) (by first | exact Kd.own_blk (Kd.R_away p0.out (fun _ hk => hk.2)) | (rw [add_block]; exact Kd.own_blk (Kd.R_away p0.out (fun _ hk => hk.2))) | (show (Addr.add _ _).block ≠ _; rw [add_block]; exact Kd.own_blk (Kd.R_away p0.out (fun _ hk => hk.2))) | (dsimp only; exact Kd.own_blk (Kd.R_away p0.out (fun _ hk => hk.2)))) _).trans (hHeld.2.2.2.1)))))))))),((cell_far (p:=⟨p1,_,none⟩) (by first | exact Kd.own_blk (Kd.R_away p0.out (fun _ hk => hk.2)) | (rw [add_block]; exact Kd.own_blk (Kd.R_away p0.out (fun _ hk => hk.2))) | (show (Addr.add _ _).block ≠ _; rw [add_block]; exact Kd.own_blk (Kd.R_away p0.out (fun _ hk => hk.2))) | (dsimp only; exact Kd.own_blk (Kd.R_away p0.out (fun _ hk => hk.2)))) _).trans (((cell_far (p:=⟨p1,_,none⟩) (by first | exact Kd.own_blk (Kd.R_away p0.out (fun _ hk => hk.2)) | (rw [add_block]; exact Kd.own_blk (Kd.R_away p0.out (fun _ hk => hk.2))) | (show (Addr.add _ _).block ≠ _; rw [add_block]; exact Kd.own_blk (Kd.R_away p0.out (fun _ hk => hk.2))) | (dsimp only; exact Kd.own_blk (Kd.R_away p0.out (fun _ hk => hk.2)))) _).trans (((cell_far (p:=⟨p1,_,none⟩) (by first | exact Kd.own_blk (Kd.R_away p0.out (fun _ hk => hk.2)) | (rw [add_block]; exact Kd.own_blk (Kd.R_away p0.out (fun _ hk => hk.2))) | (show (Addr.add _ _).block ≠ _; rw [add_block]; exact Kd.own_blk (Kd.R_away p0.out (fun _ hk => hk.2))) | (dsimp only; exact Kd.own_blk (Kd.R_away p0.out (fun _ hk => hk.2)))) _).trans (((cell_far (p:=⟨p1,_,none⟩) (by first | exact Kd.own_blk (Kd.R_away p0.out (fun _ hk => hk.2)) | (rw [add_block]; exact Kd.own_blk (Kd.R_away p0.out (fun _ hk => hk.2))) | (show (Addr.add _ _).block ≠ _; rw [add_block]; exact Kd.own_blk (Kd.R_away p0.out (fun _ hk => hk.2))) | (dsimp only; exact Kd.own_blk (Kd.R_away p0.out (fun _ hk => hk.2)))) _).trans (((cell_far (p:=⟨p1,_,none⟩) (by first | exact Kd.own_blk (Kd.R_away p0.out (fun _ hk => hk.2)) | (rw [add_block]; exact Kd.own_blk (Kd.R_away p0.out (fun _ hk => hk.2))) | (show (Addr.add _ _).block ≠ _; rw [add_block]; exact Kd.own_blk (Kd.R_away p0.out (fun _ hk => hk.2))) | (dsimp only; exact Kd.own_blk (Kd.R_away p0.out (fun _ hk => hk.2)))) _).trans (hHeld.2.2.2.2.1)))))))))),((cell_far (p:=⟨p1,_,none⟩) (by first | exact Kd.own_blk (Kd.R_away p0.out (fun _ hk => hk.2)) | (rw [add_block]; exact Kd.own_blk (Kd.R_away p0.out (fun _ hk => hk.2))) | (show (Addr.add _ _).block ≠ _; rw [add_block]; exact Kd.own_blk (Kd.R_away p0.out (fun _ hk => hk.2))) | (dsimp only; exact Kd.own_blk (Kd.R_away p0.out (fun _ hk => hk.2)))) _).trans (((cell_far (p:=⟨p1,_,none⟩) (by first | exact Kd.own_blk (Kd.R_away p0.out (fun _ hk => hk.2)) | (rw [add_block]; exact Kd.own_blk (Kd.R_away p0.out (fun _ hk => hk.2))) | (show (Addr.add _ _).block ≠ _; rw [add_block]; exact Kd.own_blk (Kd.R_away p0.out (fun _ hk => hk.2))) | (dsimp only; exact Kd.own_blk (Kd.R_away p0.out (fun _ hk => hk.2)))) _).trans (((cell_far (p:=⟨p1,_,none⟩) (by first | exact Kd.own_blk (Kd.R_away p0.out (fun _ hk => hk.2)) | (rw [add_block]; exact Kd.own_blk (Kd.R_away p0.out (fun _ hk => hk.2))) | (show (Addr.add _ _).block ≠ _; rw [add_block]; exact Kd.own_blk (Kd.R_away p0.out (fun _ hk => hk.2))) | (dsimp only; exact Kd.own_blk (Kd.R_away p0.out (fun _ hk => hk.2)))) _).trans (((cell_far (p:=⟨p1,_,none⟩) (by first | exact Kd.own_blk (Kd.R_away p0.out (fun _ hk => hk.2)) | (rw [add_block]; exact Kd.own_blk (Kd.R_away p0.out (fun _ hk => hk.2))) | (show (Addr.add _ _).block ≠ _; rw [add_block]; exact Kd.own_blk (Kd.R_away p0.out (fun _ hk => hk.2))) | (dsimp only; exact Kd.own_blk (Kd.R_away p0.out (fun _ hk => hk.2)))) _).trans (((cell_far (p:=⟨p1,_,none⟩) (by first | exact Kd.own_blk (Kd.R_away p0.out (fun _ hk => hk.2)) | (rw [add_block]; exact Kd.own_blk (Kd.R_away p0.out (fun _ hk => hk.2))) | (show (Addr.add _ _).block ≠ _; rw [add_block]; exact Kd.own_blk (Kd.R_away p0.out (fun _ hk => hk.2))) | (dsimp only; exact Kd.own_blk (Kd.R_away p0.out (fun _ hk => hk.2)))) _).trans (hHeld.2.2.2.2.2.1)))))))))),((cell_far (p:=⟨p1,_,none⟩) (by first | exact Kd.own_blk (Kd.R_away p0.out (fun _ hk => hk.2)) | (rw [add_block]; exact Kd.own_blk (Kd.R_away p0.out (fun _ hk => hk.2))) | (show (Addr.add _ _).block ≠ _; rw [add_block]; exact Kd.own_blk (Kd.R_away p0.out (fun _ hk => hk.2))) | (dsimp only; exact Kd.own_blk (Kd.R_away p0.out (fun _ hk => hk.2)))) _).trans (((cell_far (p:=⟨p1,_,none⟩) (by first | exact Kd.own_blk (Kd.R_away p0.out (fun _ hk => hk.2)) | (rw [add_block]; exact Kd.own_blk (Kd.R_away p0.out (fun _ hk => hk.2))) | (show (Addr.add _ _).block ≠ _; rw [add_block]; exact Kd.own_blk (Kd.R_away p0.out (fun _ hk => hk.2))) | (dsimp only; exact Kd.own_blk (Kd.R_away p0.out (fun _ hk => hk.2)))) _).trans (((cell_far (p:=⟨p1,_,none⟩) (by first | exact Kd.own_blk (Kd.R_away p0.out (fun _ hk => hk.2)) | (rw [add_block]; exact Kd.own_blk (Kd.R_away p0.out (fun _ hk => hk.2))) | (show (Addr.add _ _).block ≠ _; rw [add_block]; exact Kd.own_blk (Kd.R_away p0.out (fun _ hk => hk.2))) | (dsimp only; exact Kd.own_blk (Kd.R_away p0.out (fun _ hk => hk.2)))) _).trans (((cell_far (p:=⟨p1,_,none⟩) (by first | exact Kd.own_blk (Kd.R_away p0.out (fun _ hk => hk.2)) | (rw [add_block]; exact Kd.own_blk (Kd.R_away p0.out (fun _ hk => hk.2))) | (show (Addr.add _ _).block ≠ _; rw [add_block]; exact Kd.own_blk (Kd.R_away p0.out (fun _ hk => hk.2))) | (dsimp only; exact Kd.own_blk (Kd.R_away p0.out (fun _ hk => hk.2)))) _).trans (((cell_far (p:=⟨p1,_,none⟩) (by first | exact Kd.own_blk (Kd.R_away p0.out (fun _ hk => hk.2)) | (rw [add_block]; exact Kd.own_blk (Kd.R_away p0.out (fun _ hk => hk.2))) | (show (Addr.add _ _).block ≠ _; rw [add_block]; exact Kd.own_blk (Kd.R_away p0.out (fun _ hk => hk.2))) | (dsimp only; exact Kd.own_blk (Kd.R_away p0.out (fun _ hk => hk.2)))) _).trans (hHeld.2.2.2.2.2.2.1)))))))))),((cell_far (p:=⟨p1,_,none⟩) (by first | exact Kd.own_blk (Kd.R_away p0.out (fun _ hk => hk.2)) | (rw [add_block]; exact Kd.own_blk (Kd.R_away p0.out (fun _ hk => hk.2))) | (show (Addr.add _ _).block ≠ _; rw [add_block]; exact Kd.own_blk (Kd.R_away p0.out (fun _ hk => hk.2))) | (dsimp only; exact Kd.own_blk (Kd.R_away p0.out (fun _ hk => hk.2)))) _).trans (((cell_far (p:=⟨p1,_,none⟩) (by first | exact Kd.own_blk (Kd.R_away p0.out (fun _ hk => hk.2)) | (rw [add_block]; exact Kd.own_blk (Kd.R_away p0.out (fun _ hk => hk.2))) | (show (Addr.add _ _).block ≠ _; rw [add_block]; exact Kd.own_blk (Kd.R_away p0.out (fun _ hk => hk.2))) | (dsimp only; exact Kd.own_blk (Kd.R_away p0.out (fun _ hk => hk.2)))) _).trans (((cell_far (p:=⟨p1,_,none⟩) (by first | exact Kd.own_blk (Kd.R_away p0.out (fun _ hk => hk.2)) | (rw [add_block]; exact Kd.own_blk (Kd.R_away p0.out (fun _ hk => hk.2))) | (show (Addr.add _ _).block ≠ _; rw [add_block]; exact Kd.own_blk (Kd.R_away p0.out (fun _ hk => hk.2))) | (dsimp only; exact Kd.own_blk (Kd.R_away p0.out (fun _ hk => hk.2)))) _).trans (((cell_far (p:=⟨p1,_,none⟩) (by first | exact Kd.own_blk (Kd.R_away p0.out (fun _ hk => hk.2)) | (rw [add_block]; exact Kd.own_blk (Kd.R_away p0.out (fun _ hk => hk.2))) | (show (Addr.add _ _).block ≠ _; rw [add_block]; exact Kd.own_blk (Kd.R_away p0.out (fun _ hk => hk.2))) | (dsimp only; exact Kd.own_blk (Kd.R_away p0.out (fun _ hk => hk.2)))) _).trans (((cell_far (p:=⟨p1,_,none⟩) (by first | exact Kd.own_blk (Kd.R_away p0.out (fun _ hk => hk.2)) | (rw [add_block]; exact Kd.own_blk (Kd.R_away p0.out (fun _ hk => hk.2))) | (show (Addr.add _ _).block ≠ _; rw [add_block]; exact Kd.own_blk (Kd.R_away p0.out (fun _ hk => hk.2))) | (dsimp only; exact Kd.own_blk (Kd.R_away p0.out (fun _ hk => hk.2)))) _).trans (hHeld.2.2.2.2.2.2.2))))))))))⟩ (fun hHeld => ?_)
      clear hK K;refine done_ (done_of HT_.out (by kernel_rfl)) ?_
      try go_wp2
      have n0_ : Aside0 (Kd.R (Kd.int .i64) 3 (((((w48.setCell ⟨p1,0,none⟩ (.int .i64 ((rd_T34 t821 (rd t825 x8_2)).f0))).setCell ⟨p1,1,none⟩ (.int .i64 ((rd_T34 t821 (rd t825 x8_2)).f1))).setCell ⟨p1,2,none⟩ (.int .i64 ((rd_T34 t821 (rd t825 x8_2)).f2))).setCell ⟨p1,3,none⟩ (.int .i64 ((rd_T34 t821 (rd t825 x8_2)).f3))).setCell ⟨p1,4,none⟩ (.int .i64 ((rd_T34 t821 (rd t825 x8_2)).f4))) w.heap.size (fun _ => True) (.slice (some t3) t825.length co46) t825):=⟨by exact Kd.R_mono (Kd.R_far (p:=⟨p1,4,none⟩) (Kd.R_far (p:=⟨p1,3,none⟩) (Kd.R_far (p:=⟨p1,2,none⟩) (Kd.R_far (p:=⟨p1,1,none⟩) (Kd.R_far (p:=⟨p1,0,none⟩) (Kd.R_types HO_4.out p3.out (by decide)) (fun _ hk => hk.2) (.int .i64 ((rd_T34 t821 (rd t825 x8_2)).f0))) (fun _ hk => hk.2) (.int .i64 ((rd_T34 t821 (rd t825 x8_2)).f1))) (fun _ hk => hk.2) (.int .i64 ((rd_T34 t821 (rd t825 x8_2)).f2))) (fun _ hk => hk.2) (.int .i64 ((rd_T34 t821 (rd t825 x8_2)).f3))) (fun _ hk => hk.2) (.int .i64 ((rd_T34 t821 (rd t825 x8_2)).f4))) (fun _ hk => trivial)⟩
      have n1_ : Aside0 (Kd.R k34 34 (((((w48.setCell ⟨p1,0,none⟩ (.int .i64 ((rd_T34 t821 (rd t825 x8_2)).f0))).setCell ⟨p1,1,none⟩ (.int .i64 ((rd_T34 t821 (rd t825 x8_2)).f1))).setCell ⟨p1,2,none⟩ (.int .i64 ((rd_T34 t821 (rd t825 x8_2)).f2))).setCell ⟨p1,3,none⟩ (.int .i64 ((rd_T34 t821 (rd t825 x8_2)).f3))).setCell ⟨p1,4,none⟩ (.int .i64 ((rd_T34 t821 (rd t825 x8_2)).f4))) w.heap.size (fun k_ => k_ ≠ p1) (.slice (some p8) t821.length co10) t821):=⟨by exact Kd.R_mono (Kd.R_far (p:=⟨p1,4,none⟩) (Kd.R_far (p:=⟨p1,3,none⟩) (Kd.R_far (p:=⟨p1,2,none⟩) (Kd.R_far (p:=⟨p1,1,none⟩) (Kd.R_far (p:=⟨p1,0,none⟩) (Kd.R_mono p0.out (fun k_ hk => (⟨hk,hk.2⟩ : _ ∧ k_ ≠ p1))) (fun _ hk => hk.2) (.int .i64 ((rd_T34 t821 (rd t825 x8_2)).f0))) (fun _ hk => hk.2) (.int .i64 ((rd_T34 t821 (rd t825 x8_2)).f1))) (fun _ hk => hk.2) (.int .i64 ((rd_T34 t821 (rd t825 x8_2)).f2))) (fun _ hk => hk.2) (.int .i64 ((rd_T34 t821 (rd t825 x8_2)).f3))) (fun _ hk => hk.2) (.int .i64 ((rd_T34 t821 (rd t825 x8_2)).f4))) (fun _ hk => hk.1.2)⟩
      have n2_ : Aside0 ((((((w48.setCell ⟨p1,0,none⟩ (.int .i64 ((rd_T34 t821 (rd t825 x8_2)).f0))).setCell ⟨p1,1,none⟩ (.int .i64 ((rd_T34 t821 (rd t825 x8_2)).f1))).setCell ⟨p1,2,none⟩ (.int .i64 ((rd_T34 t821 (rd t825 x8_2)).f2))).setCell ⟨p1,3,none⟩ (.int .i64 ((rd_T34 t821 (rd t825 x8_2)).f3))).setCell ⟨p1,4,none⟩ (.int .i64 ((rd_T34 t821 (rd t825 x8_2)).f4))).heap[p7]? = some (.cells #[.int .i64 t820,.slice (some p8) t821.length co10] 25 (0,0))):=⟨by refine blk_far ?_ p5.out _; refine blk_far ?_ p5.out _; refine blk_far ?_ p5.out _; refine blk_far ?_ p5.out _; refine blk_far ?_ p5.out _; exact p4.out⟩
      have n3_ : Aside0 ((((((w48.setCell ⟨p1,0,none⟩ (.int .i64 ((rd_T34 t821 (rd t825 x8_2)).f0))).setCell ⟨p1,1,none⟩ (.int .i64 ((rd_T34 t821 (rd t825 x8_2)).f1))).setCell ⟨p1,2,none⟩ (.int .i64 ((rd_T34 t821 (rd t825 x8_2)).f2))).setCell ⟨p1,3,none⟩ (.int .i64 ((rd_T34 t821 (rd t825 x8_2)).f3))).setCell ⟨p1,4,none⟩ (.int .i64 ((rd_T34 t821 (rd t825 x8_2)).f4))).heap[p1]? = some (.cells #[.int .i64 ((rd_T34 t821 (rd t825 x8_2)).f0),.int .i64 ((rd_T34 t821 (rd t825 x8_2)).f1),.int .i64 ((rd_T34 t821 (rd t825 x8_2)).f2),.int .i64 ((rd_T34 t821 (rd t825 x8_2)).f3),.int .i64 ((rd_T34 t821 (rd t825 x8_2)).f4)] 34 (0,0))):=⟨by refine blk_put (cs:=#[.int .i64 ((rd_T34 t821 (rd t825 x8_2)).f0),.int .i64 ((rd_T34 t821 (rd t825 x8_2)).f1),.int .i64 ((rd_T34 t821 (rd t825 x8_2)).f2),.int .i64 ((rd_T34 t821 (rd t825 x8_2)).f3),.int .i64 0]) ?_ 4 _ rfl; refine blk_put (cs:=#[.int .i64 ((rd_T34 t821 (rd t825 x8_2)).f0),.int .i64 ((rd_T34 t821 (rd t825 x8_2)).f1),.int .i64 ((rd_T34 t821 (rd t825 x8_2)).f2),.int .i64 0,.int .i64 0]) ?_ 3 _ rfl; refine blk_put (cs:=#[.int .i64 ((rd_T34 t821 (rd t825 x8_2)).f0),.int .i64 ((rd_T34 t821 (rd t825 x8_2)).f1),.int .i64 0,.int .i64 0,.int .i64 0]) ?_ 2 _ rfl; refine blk_put (cs:=#[.int .i64 ((rd_T34 t821 (rd t825 x8_2)).f0),.int .i64 0,.int .i64 0,.int .i64 0,.int .i64 0]) ?_ 1 _ rfl; refine blk_put (cs:=#[.int .i64 0,.int .i64 0,.int .i64 0,.int .i64 0,.int .i64 0]) ?_ 0 _ rfl; exact p3.out⟩
      have n4_ : Aside0 (Below w.heap.size w (((((w48.setCell ⟨p1,0,none⟩ (.int .i64 ((rd_T34 t821 (rd t825 x8_2)).f0))).setCell ⟨p1,1,none⟩ (.int .i64 ((rd_T34 t821 (rd t825 x8_2)).f1))).setCell ⟨p1,2,none⟩ (.int .i64 ((rd_T34 t821 (rd t825 x8_2)).f2))).setCell ⟨p1,3,none⟩ (.int .i64 ((rd_T34 t821 (rd t825 x8_2)).f3))).setCell ⟨p1,4,none⟩ (.int .i64 ((rd_T34 t821 (rd t825 x8_2)).f4)))):=⟨by repeat (first | (with_reducible first | exact HB.out | apply below_alloc | apply pw_below_drewN | apply below_drew1 | refine below_set ?_ q3.out | refine below_set ?_ t4.out) | exact HB.out)⟩
      (try clear HO_4)
      (try clear p0)
      (try clear p4)
      (try clear p3)
      (try clear HB)
      generalize (((((w48.setCell ⟨p1,0,none⟩ (.int .i64 ((rd_T34 t821 (rd t825 x8_2)).f0))).setCell ⟨p1,1,none⟩ (.int .i64 ((rd_T34 t821 (rd t825 x8_2)).f1))).setCell ⟨p1,2,none⟩ (.int .i64 ((rd_T34 t821 (rd t825 x8_2)).f2))).setCell ⟨p1,3,none⟩ (.int .i64 ((rd_T34 t821 (rd t825 x8_2)).f3))).setCell ⟨p1,4,none⟩ (.int .i64 ((rd_T34 t821 (rd t825 x8_2)).f4))) = w54 at n0_ n1_ n2_ n3_ n4_ ⊢;have HO_4:=n0_;have p0:=n1_;have p4:=n2_;have p3:=n3_;have HB:=n4_;clear n0_ n1_ n2_ n3_ n4_;have n0_:=zx (Kd.R_drew HO_4.out);have n1_:=zx (Kd.R_drew p0.out);have n2_:=zx (blk_drew p4.out);have n3_:=zx (blk_drew p3.out);have n4_:=zx (below_drew1 HB.out);clear HO_4;clear p0;clear p4;clear p3;clear HB;have HO_4:=n0_;have p0:=n1_;have p4:=n2_;have p3:=n3_;have HB:=n4_;clear n0_ n1_ n2_ n3_ n4_;refine start_ (n:=13) (S:=fun w' => w'.cell? ⟨p7,0,none⟩ = some (.int .i64 t820) ∧ w'.cell? ⟨p7,1,none⟩ = some (.slice (some p8) t821.length co10) ∧ w'.cell? ⟨p1,0,none⟩ = some (.int .i64 ((rd_T34 t821 (rd t825 x8_2)).f0)) ∧ w'.cell? ⟨p1,1,none⟩ = some (.int .i64 ((rd_T34 t821 (rd t825 x8_2)).f1)) ∧ w'.cell? ⟨p1,2,none⟩ = some (.int .i64 ((rd_T34 t821 (rd t825 x8_2)).f2)) ∧ w'.cell? ⟨p1,3,none⟩ = some (.int .i64 ((rd_T34 t821 (rd t825 x8_2)).f3)) ∧ w'.cell? ⟨p1,4,none⟩ = some (.int .i64 ((rd_T34 t821 (rd t825 x8_2)).f4))) (ds:=[]) #[J,J,J,J,J,J,J,J,J,J,J,J,J] (by kernel_rfl) rfl rfl ⟨(blk_cell p4.out 0).trans rfl,(blk_cell p4.out 1).trans rfl,(blk_cell p3.out 0).trans rfl,(blk_cell p3.out 1).trans rfl,(blk_cell p3.out 2).trans rfl,(blk_cell p3.out 3).trans rfl,(blk_cell p3.out 4).trans rfl⟩ (fun hHeld => ?_); refine with_tabW laws_FnRingWay.tab12 laws_FnRingWay.bits12 (fun HT_ HW_ => ?_);generalize w54.drew = w55 at HO_4 p0 p4 p3 HB hHeld ⊢;refine pure_ (i:=1) (N:=some 64) (v:=?_) (a':=?_) #[J,Y,J,J,J,J,J,J,J,J,J,J,J] rfl rfl (any_of HT_.out (by kernel_rfl)) (fun _ _ _ h => h) (Or.inl ⟨by rfl,?_⟩) ?_ ?_;rotate_left
      ·intro w';go_simp;with_reducible rfl
      rotate_left
      ·simp only [Act.put,U,V,Z,i64_w,i32_w];rfl
      refine pure_ (i:=4) (N:=some 67) (v:=?_) (a':=?_) #[J,Y,J,J,Y,J,J,J,J,J,J,J,J] rfl rfl (any_of HT_.out (by kernel_rfl)) (fun _ _ _ h => h) (Or.inl ⟨by rfl,?_⟩) ?_ ?_;rotate_left
      ·intro w';go_simp;with_reducible rfl
      rotate_left
      ·simp only [Act.put,U,V,Z,i64_w,i32_w];rfl
      refine pure_ (i:=8) (N:=some 71) (v:=?_) (a':=?_) #[J,Y,J,J,Y,J,J,J,Y,J,J,J,J] rfl rfl (any_of HT_.out (by kernel_rfl)) (fun _ _ _ h => h) (Or.inl ⟨by rfl,?_⟩) ?_ ?_;rotate_left
      ·intro w';go_simp;with_reducible rfl
      rotate_left
      ·simp only [Act.put,U,V,Z,i64_w,i32_w];rfl
      refine pure_ (i:=11) (N:=some 74) (v:=?_) (a':=?_) #[J,Y,J,J,Y,J,J,J,Y,J,J,Y,J] rfl rfl (any_of HT_.out (by kernel_rfl)) (fun _ _ _ h => h) (Or.inl ⟨by rfl,?_⟩) ?_ ?_;rotate_left
      ·intro w';go_simp;with_reducible rfl
      rotate_left
      ·simp only [Act.put,U,V,Z,i64_w,i32_w];rfl
      refine take_ (i:=0) (N:=some 63) (v:=?_) (a':=?_) #[Y,Y,J,J,Y,J,J,J,Y,J,J,Y,J] rfl rfl (take_ofW HT_.out HW_.out (by kernel_rfl)) (fun _ _ _ h => h) (Or.inl ⟨by rfl,?_⟩) hHeld ?_ ?_;rotate_left
      ·rintro w' ⟨s0,s1,s2,s3,s4,s5,s6⟩;go_simp;with_reducible rfl
      rotate_left
      ·simp only [Act.put,U,V,Z,i64_w,i32_w];rfl
      refine take_ (i:=2) (N:=some 65) (v:=?_) (a':=?_) #[Y,Y,Y,J,Y,J,J,J,Y,J,J,Y,J] rfl rfl (take_ofW HT_.out HW_.out (by kernel_rfl)) (fun _ _ _ h => h) (Or.inl ⟨by rfl,?_⟩) hHeld ?_ ?_;rotate_left
      ·rintro w' ⟨s0,s1,s2,s3,s4,s5,s6⟩;go_simp;with_reducible rfl
      rotate_left
      ·simp only [Act.put,U,V,Z,i64_w,i32_w];rfl
      refine take_ (i:=5) (N:=some 68) (v:=?_) (a':=?_) #[Y,Y,Y,J,Y,Y,J,J,Y,J,J,Y,J] rfl rfl (take_ofW HT_.out HW_.out (by kernel_rfl)) (fun _ _ _ h => h) (Or.inl ⟨by rfl,?_⟩) hHeld ?_ ?_;rotate_left
      ·rintro w' ⟨s0,s1,s2,s3,s4,s5,s6⟩;go_simp;with_reducible rfl
      rotate_left
      ·simp only [Act.put,U,V,Z,i64_w,i32_w];rfl
      refine take_ (i:=9) (N:=some 72) (v:=?_) (a':=?_) #[Y,Y,Y,J,Y,Y,J,J,Y,Y,J,Y,J] rfl rfl (take_ofW HT_.out HW_.out (by kernel_rfl)) (fun _ _ _ h => h) (Or.inl ⟨by rfl,?_⟩) hHeld ?_ ?_;rotate_left
      ·rintro w' ⟨s0,s1,s2,s3,s4,s5,s6⟩;go_simp;with_reducible rfl
      rotate_left
      ·simp only [Act.put,U,V,Z,i64_w,i32_w];rfl
      refine one_ (i:=3) (N:=some 66) #[Y,Y,Y,Y,Y,Y,J,J,Y,Y,J,Y,J] rfl rfl (one_of HT_.out (by kernel_rfl)) (by decide) (fun K hK => ?_);refine goes_ Try.func17 (by kernel_rfl) rfl #[.agg #[.int .i64 t820,.slice (some p8) t821.length co10],.int .i64 ((rd_T34 t821 (rd t825 x8_2)).f1)] (by rfl) rfl rfl (by (try simp only [List.map_toArray,List.map_cons,List.map_nil]); first | done | rfl | (simp only [List.length_drop,List.length_take]; rfl)) ?_;with_reducible refine (impl_NearAll.calls k2 t820 _ _ t821 ((rd_T34 t821 (rd t825 x8_2)).f1) t838 _ ?side1 ?side2 A30.out).mono ?_
      (case side1 => repeat (first | exact (Kd.R_reads' p0.out).2.2 | (with_reducible refine Kd.C_alloc ?_ _) | (with_reducible refine Kd.C_drewN ?_ _) | (with_reducible refine Kd.C_drew ?_)))
      (case side2 => exact (Kd.R_reads' p0.out).2.1)
      rintro e w56 ⟨v839,rfl,ho0,hb⟩;refine ⟨_,rfl,?_⟩;have n0_:=zx (Kd.R_elder' HO_4.out (Kd.R_base ho0) hb);have n1_:=zx (Kd.R_below p0.out hb);have n2_:=zx (Kd.R_lower (Kd.R_new' ho0 (Kd.R_lt HO_4.out)) (below_size HB.out));have n3_:=zx (blk_below (g:=p7) (o:=.cells #[.int .i64 t820,.slice (some p8) t821.length co10] 25 (0,0)) p4.out hb);have n4_:=zx (blk_below (g:=p1) (o:=.cells #[.int .i64 ((rd_T34 t821 (rd t825 x8_2)).f0),.int .i64 ((rd_T34 t821 (rd t825 x8_2)).f1),.int .i64 ((rd_T34 t821 (rd t825 x8_2)).f2),.int .i64 ((rd_T34 t821 (rd t825 x8_2)).f3),.int .i64 ((rd_T34 t821 (rd t825 x8_2)).f4)] 34 (0,0)) p3.out hb);have n5_:=zx (below_step HB.out hb);clear HO_4;clear p0;clear p4;clear p3;clear HB;have HO_4:=n0_;have p0:=n1_;have HO840:=n2_;have p4:=n3_;have p3:=n4_;have HB:=n5_;clear n0_ n1_ n2_ n3_ n4_ n5_
      (try clear hb)
      (try clear hb2)
      (try clear hk)
      (try clear hi)
      (try clear ho0)
      obtain ⟨Ao57,co57,eo57⟩:=Kd.R_slice HO840.out
      (first | subst eo57 | (injection eo57 with f1_ f2_ f3_; have f4_:=f1_.symm; have f5_:=f3_.symm; clear f1_ f2_ f3_; subst f4_; subst f5_))
      have p841 : 0 ≤ (((rd_T34 t821 (rd t825 x8_2)).f0) : Int):=of_decide_eq_true (by first | (with_reducible assumption) | assumption);have q841 : ((rd_T34 t821 (rd t825 x8_2)).f0) < (t838.length : Int):=of_decide_eq_true (by first | (with_reducible assumption) | assumption);obtain ⟨ad841,e841,u6⟩:=Kd.at_int (Kd.R_reads' HO840.out).2.2 ((rd_T34 t821 (rd t825 x8_2)).f0) p841 q841;cases e841;replace p841:=eq_true p841;replace q841:=eq_true q841;refine hK.out _ _ ⟨(blk_cell p4.out 0).trans rfl,(blk_cell p4.out 1).trans rfl,(blk_cell p3.out 0).trans rfl,(blk_cell p3.out 1).trans rfl,(blk_cell p3.out 2).trans rfl,(blk_cell p3.out 3).trans rfl,(blk_cell p3.out 4).trans rfl⟩ (fun hHeld => ?_);clear hK K;refine norm_ (a':=?_) ?_ ?_;rotate_left
      ·show Act.put _ (some 66) _ = _
       simp only [Act.put,U,V,Z,i64_w,i32_w];rfl
      refine pure_ (i:=6) (N:=some 69) (v:=?_) (a':=?_) #[Y,Y,Y,Y,Y,Y,Y,J,Y,Y,J,Y,J] rfl rfl (any_of HT_.out (by kernel_rfl)) (fun _ _ _ h => h) (Or.inl ⟨by rfl,?_⟩) ?_ ?_;rotate_left
      ·intro w';go_simp;with_reducible rfl
      rotate_left
      ·simp only [Act.put,U,V,Z,i64_w,i32_w];rfl
      refine one_ (i:=7) (N:=some 70) #[Y,Y,Y,Y,Y,Y,Y,Y,Y,Y,J,Y,J] rfl rfl (one_of HT_.out (by kernel_rfl)) (by decide) (fun K hK => ?_);refine value_ (w1:=w56) (v:=.int .i64 (rd t838 ((rd_T34 t821 (rd t825 x8_2)).f0))) (by rfl) rfl ?_ ?_
      ·go_simp
       (try simp only [i64_w])
       try rfl
      refine hK.out _ _ ⟨(blk_cell p4.out 0).trans rfl,(blk_cell p4.out 1).trans rfl,(blk_cell p3.out 0).trans rfl,(blk_cell p3.out 1).trans rfl,(blk_cell p3.out 2).trans rfl,(blk_cell p3.out 3).trans rfl,(blk_cell p3.out 4).trans rfl⟩ (fun hHeld => ?_);clear hK K;refine norm_ (a':=?_) ?_ ?_;rotate_left
      ·show Act.put _ (some 70) _ = _
       simp only [Act.put,U,V,Z,i64_w,i32_w];rfl
      refine pure_ (i:=10) (N:=some 73) (v:=?_) (a':=?_) #[Y,Y,Y,Y,Y,Y,Y,Y,Y,Y,Y,Y,J] rfl rfl (any_of HT_.out (by kernel_rfl)) (fun _ _ _ h => h) (Or.inl ⟨by rfl,?_⟩) ?_ ?_;rotate_left
      ·intro w';go_simp;with_reducible rfl
      rotate_left
      ·simp only [Act.put,U,V,Z,i64_w,i32_w];rfl
      refine pure_ (i:=12) (N:=some 75) (v:=?_) (a':=?_) #[Y,Y,Y,Y,Y,Y,Y,Y,Y,Y,Y,Y,Y] rfl rfl (any_of HT_.out (by kernel_rfl)) (fun _ _ _ h => h) (Or.inl ⟨by rfl,?_⟩) ?_ ?_;rotate_left
      ·intro w';go_simp;with_reducible rfl
      rotate_left
      ·simp only [Act.put,U,V,Z,i64_w,i32_w];rfl
      refine done_ (done_of HT_.out (by kernel_rfl)) ?_
      try go_wp2
      go_ret;exact ⟨by first | rfl | (simp [errW_none,errW_some] <;> rfl) | (simp [*,errW_none,errW_some] <;> rfl),by repeat (first | (with_reducible first | exact HB.out | apply below_alloc | apply pw_below_drewN | apply below_drew1 | refine below_set ?_ q3.out | refine below_set ?_ t4.out) | exact HB.out)⟩
     rw [if_pos c33] at H;have c33b0 : ((wrap64 ((rd t838 ((rd_T34 t821 (rd t825 x8_2)).f0)) + ((rd_T34 t821 (rd t825 x8_2)).f2))) == t828) = true:=beq_iff_eq.mpr c33;have c33b1 : ((wrap64 ((rd t838 ((rd_T34 t821 (rd t825 x8_2)).f0)) + ((rd_T34 t821 (rd t825 x8_2)).f2))) != t828) = false:=bne_eq_false_iff_eq.mpr c33;clear c33;have H':=zx H;clear H;obtain ⟨Ao34,co34,eo34⟩:=Kd.R_slice HO_4.out;subst eo34
     try go_wp2
     have n0_:=zx (Kd.R_drew HO_4.out);have n1_:=zx (Kd.R_drew p0.out);have n2_:=zx (blk_drew p4.out);have n3_:=zx (below_drew1 HB.out);clear HO_4;clear p0;clear p4;clear HB;have HO_4:=n0_;have p0:=n1_;have p4:=n2_;have HB:=n3_;clear n0_ n1_ n2_ n3_;have p835 : 0 ≤ (x8_2 : Int):=of_decide_eq_true (by first | (with_reducible assumption) | assumption);have q835 : x8_2 < (t825.length : Int):=of_decide_eq_true (by first | (with_reducible assumption) | assumption);obtain ⟨t3,e835,q6⟩:=Kd.at_int (Kd.R_reads' HO_4.out).2.2 x8_2 p835 q835;cases e835;replace p835:=eq_true p835;replace q835:=eq_true q835;have p836 : 0 ≤ ((rd t825 x8_2) : Int):=of_decide_eq_true (by first | (with_reducible assumption) | assumption);have q836 : (rd t825 x8_2) < (t821.length : Int):=of_decide_eq_true (by first | (with_reducible assumption) | assumption);obtain ⟨p8,e836,q7,q8,q9,r0,r1⟩:=at_T34 (Kd.R_reads' p0.out).2.2 (rd t825 x8_2) p836 q836;cases e836;replace p836:=eq_true p836;replace q836:=eq_true q836;refine start_ (n:=10) (S:=fun w' => w'.cell? ⟨p7,0,none⟩ = some (.int .i64 t820) ∧ w'.cell? ⟨p7,1,none⟩ = some (.slice (some p8) t821.length co10) ∧ w'.cell? (t3.add (x8_2).toNat) = some (.int .i64 (rd t825 x8_2)) ∧ w'.cell? (p8.add (((rd t825 x8_2)).toNat * 5)) = some (.int .i64 ((rd_T34 t821 (rd t825 x8_2)).f0)) ∧ w'.cell? ⟨(p8.add (((rd t825 x8_2)).toNat * 5)).block,(p8.add (((rd t825 x8_2)).toNat * 5)).off + 1,none⟩ = some (.int .i64 ((rd_T34 t821 (rd t825 x8_2)).f1)) ∧ w'.cell? ⟨(p8.add (((rd t825 x8_2)).toNat * 5)).block,(p8.add (((rd t825 x8_2)).toNat * 5)).off + 2,none⟩ = some (.int .i64 ((rd_T34 t821 (rd t825 x8_2)).f2)) ∧ w'.cell? ⟨(p8.add (((rd t825 x8_2)).toNat * 5)).block,(p8.add (((rd t825 x8_2)).toNat * 5)).off + 3,none⟩ = some (.int .i64 ((rd_T34 t821 (rd t825 x8_2)).f3)) ∧ w'.cell? ⟨(p8.add (((rd t825 x8_2)).toNat * 5)).block,(p8.add (((rd t825 x8_2)).toNat * 5)).off + 4,none⟩ = some (.int .i64 ((rd_T34 t821 (rd t825 x8_2)).f4))) (ds:=[]) #[J,J,J,J,J,J,J,J,J,J] (by kernel_rfl) rfl rfl ⟨(blk_cell p4.out 0).trans rfl,(blk_cell p4.out 1).trans rfl,q6,q7,q8,q9,r0,r1⟩ (fun hHeld => ?_); refine with_tabW laws_FnRingWay.tab11 laws_FnRingWay.bits11 (fun HT_ HW_ => ?_);generalize wr.drew = w35 at HO_4 p0 p4 HB q6 q7 q8 q9 r0 r1 hHeld ⊢;refine pure_ (i:=0) (N:=some 55) (v:=?_) (a':=?_) #[Y,J,J,J,J,J,J,J,J,J] rfl rfl (any_of HT_.out (by kernel_rfl)) (fun _ _ _ h => h) (Or.inl ⟨by rfl,?_⟩) ?_ ?_;rotate_left
     ·intro w';go_simp;with_reducible rfl
     rotate_left
     ·simp only [Act.put,U,V,Z,i64_w,i32_w];rfl
     refine pure_ (i:=2) (N:=some 57) (v:=?_) (a':=?_) #[Y,J,Y,J,J,J,J,J,J,J] rfl rfl (any_of HT_.out (by kernel_rfl)) (fun _ _ _ h => h) (Or.inl ⟨by rfl,?_⟩) ?_ ?_;rotate_left
     ·intro w';go_simp;with_reducible rfl
     rotate_left
     ·simp only [Act.put,U,V,Z,i64_w,i32_w];rfl
     refine pure_ (i:=3) (N:=some 58) (v:=?_) (a':=?_) #[Y,J,Y,Y,J,J,J,J,J,J] rfl rfl (any_of HT_.out (by kernel_rfl)) (fun _ _ _ h => h) (Or.inl ⟨by rfl,?_⟩) ?_ ?_;rotate_left
     ·intro w';go_simp;with_reducible rfl
     rotate_left
     ·simp only [Act.put,U,V,Z,i64_w,i32_w];rfl
     refine pure_ (i:=4) (N:=some 59) (v:=?_) (a':=?_) #[Y,J,Y,Y,Y,J,J,J,J,J] rfl rfl (any_of HT_.out (by kernel_rfl)) (fun _ _ _ h => h) (Or.inl ⟨by rfl,?_⟩) ?_ ?_;rotate_left
     ·intro w';go_simp;with_reducible rfl
     rotate_left
     ·simp only [Act.put,U,V,Z,i64_w,i32_w];rfl
     refine take_ (i:=1) (N:=some 56) (v:=?_) (a':=?_) #[Y,Y,Y,Y,Y,J,J,J,J,J] rfl rfl (take_ofW HT_.out HW_.out (by kernel_rfl)) (fun _ _ _ h => h) (Or.inl ⟨by rfl,?_⟩) hHeld ?_ ?_;rotate_left
     ·rintro w' ⟨s0,s1,s2,s3,s4,s5,s6,s7⟩;go_simp;with_reducible rfl
     rotate_left
     ·simp only [Act.put,U,V,Z,i64_w,i32_w];rfl
     refine take_ (i:=5) (N:=some 60) (v:=?_) (a':=?_) #[Y,Y,Y,Y,Y,Y,J,J,J,J] rfl rfl (take_ofW HT_.out HW_.out (by kernel_rfl)) (fun _ _ _ h => h) (Or.inl ⟨by rfl,?_⟩) hHeld ?_ ?_;rotate_left
     ·rintro w' ⟨s0,s1,s2,s3,s4,s5,s6,s7⟩;go_simp;with_reducible rfl
     rotate_left
     ·simp only [Act.put,U,V,Z,i64_w,i32_w];rfl
     refine pure_ (i:=6) (N:=some 61) (v:=?_) (a':=?_) #[Y,Y,Y,Y,Y,Y,Y,J,J,J] rfl rfl (any_of HT_.out (by kernel_rfl)) (fun _ _ _ h => h) (Or.inl ⟨by rfl,?_⟩) ?_ ?_;rotate_left
     ·intro w';go_simp;with_reducible rfl
     rotate_left
     ·simp only [Act.put,U,V,Z,i64_w,i32_w];rfl
     refine take_ (i:=7) (N:=some 62) (v:=?_) (a':=?_) #[Y,Y,Y,Y,Y,Y,Y,Y,J,J] rfl rfl (take_ofW HT_.out HW_.out (by kernel_rfl)) (fun _ _ _ h => h) (Or.inl ⟨by rfl,?_⟩) hHeld ?_ ?_;rotate_left
     ·rintro w' ⟨s0,s1,s2,s3,s4,s5,s6,s7⟩;go_simp;with_reducible rfl
     rotate_left
     ·simp only [Act.put,U,V,Z,i64_w,i32_w];rfl
     refine one_ (i:=8) (N:=some 9) #[Y,Y,Y,Y,Y,Y,Y,Y,Y,J] rfl rfl (one_of HT_.out (by kernel_rfl)) (by decide) (fun K hK => ?_);refine box_step ?hg (N:=9) ?hd (cs:=#[.int .i64 0,.int .i64 0,.int .i64 0,.int .i64 0,.int .i64 0]) (t:=34) ?hr ?_; (case hd => rfl); (case hg => rfl); (case hr => first | (go_simp; done) | (go_simp; rfl));intro p1 hg w36 hbox hb;have HS2_:=(hb.cell (World.block_lt_of_cell? _ _ (hHeld.2.2.1))).trans (hHeld.2.2.1);have HS3_:=(hb.cell (World.block_lt_of_cell? _ _ (hHeld.2.2.2.1))).trans (hHeld.2.2.2.1);have HS4_:=(hb.cell (World.block_lt_of_cell? _ _ (hHeld.2.2.2.2.1))).trans (hHeld.2.2.2.2.1);have HS5_:=(hb.cell (World.block_lt_of_cell? _ _ (hHeld.2.2.2.2.2.1))).trans (hHeld.2.2.2.2.2.1);have HS6_:=(hb.cell (World.block_lt_of_cell? _ _ (hHeld.2.2.2.2.2.2.1))).trans (hHeld.2.2.2.2.2.2.1);have HS7_:=(hb.cell (World.block_lt_of_cell? _ _ (hHeld.2.2.2.2.2.2.2))).trans (hHeld.2.2.2.2.2.2.2);have n0_:=zx (Kd.R_below HO_4.out hb);have n1_:=zx (Kd.R_below (Kd.R_elderB p0.out p1 (Nat.le_of_eq hg.symm)) hb);have n2_:=zx (blk_below (g:=p7) (o:=.cells #[.int .i64 t820,.slice (some p8) t821.length co10] 25 (0,0)) p4.out hb);have n3_:=zx (below_step HB.out hb);have n4_:=zx (hbox);have n5_:=zx ((by rw [hg]; exact (below_size HB.out) : w.heap.size ≤ p1));have n6_:=zx ((by rw [hg]; exact (below_size HB.out) : w.heap.size ≤ p1));have n7_:=zx ((by rw [hg]; exact Nat.ne_of_lt (blk_lt (g:=p7) (o:=.cells #[.int .i64 t820,.slice (some p8) t821.length co10] 25 (0,0)) p4.out) : p7 ≠ p1));have n8_:=zx ((by rw [hg]; exact Nat.ne_of_gt (blk_lt (g:=p7) (o:=.cells #[.int .i64 t820,.slice (some p8) t821.length co10] 25 (0,0)) p4.out) : p1 ≠ p7));clear HO_4;clear p0;clear p4;clear HB;have HO_4:=n0_;have p0:=n1_;have p4:=n2_;have HB:=n3_;have p3:=n4_;have GW837:=n5_;have t4:=n6_;have p5:=n7_;have p9:=n8_;clear n0_ n1_ n2_ n3_ n4_ n5_ n6_ n7_ n8_;clear hb hbox hg;refine hK.out _ _ ⟨(blk_cell p4.out 0).trans rfl,(blk_cell p4.out 1).trans rfl,HS2_,HS3_,HS4_,HS5_,HS6_,HS7_⟩ (fun hHeld => ?_);clear hK K;refine norm_ (a':=?_) ?_ ?_;rotate_left
     ·show Act.put _ (some 9) _ = _
      simp only [Act.put,U,V,Z,i64_w,i32_w];rfl
     refine one_ (i:=9) (N:=none) #[Y,Y,Y,Y,Y,Y,Y,Y,Y,Y] rfl rfl (one_of HT_.out (by kernel_rfl)) (by decide) (fun K hK => ?_);have hs37 : w36.cell? ⟨p1,0,none⟩ = some (.int .i64 0):=(blk_cell p3.out 0).trans rfl;have hfs37:=blk_frozen p3.out 0;have hns37_0:=p5.out;have hms37_0:=p9.out;have hs38 : w36.cell? ⟨p1,1,none⟩ = some (.int .i64 0):=(blk_cell p3.out 1).trans rfl;have hfs38:=blk_frozen p3.out 1;have hns38_0:=p5.out;have hms38_0:=p9.out;have hs39 : w36.cell? ⟨p1,2,none⟩ = some (.int .i64 0):=(blk_cell p3.out 2).trans rfl;have hfs39:=blk_frozen p3.out 2;have hns39_0:=p5.out;have hms39_0:=p9.out;have hs40 : w36.cell? ⟨p1,3,none⟩ = some (.int .i64 0):=(blk_cell p3.out 3).trans rfl;have hfs40:=blk_frozen p3.out 3;have hns40_0:=p5.out;have hms40_0:=p9.out;have hs41 : w36.cell? ⟨p1,4,none⟩ = some (.int .i64 0):=(blk_cell p3.out 4).trans rfl;have hfs41:=blk_frozen p3.out 4;have hns41_0:=p5.out;have hms41_0:=p9.out;refine skip_ (w1:=?_) (by rfl) rfl ?_ ?_;rotate_left
     ·go_simp;rfl
     refine hK.out _ _ ⟨((cell_far (p:=⟨p1,_,none⟩) p5.out _).trans (((cell_far (p:=⟨p1,_,none⟩) p5.out _).trans (((cell_far (p:=⟨p1,_,none⟩) p5.out _).trans (((cell_far (p:=⟨p1,_,none⟩) p5.out _).trans (((cell_far (p:=⟨p1,_,none⟩) p5.out _).trans (hHeld.1)))))))))),((cell_far (p:=⟨p1,_,none⟩) p5.out _).trans (((cell_far (p:=⟨p1,_,none⟩) p5.out _).trans (((cell_far (p:=⟨p1,_,none⟩) p5.out _).trans (((cell_far (p:=⟨p1,_,none⟩) p5.out _).trans (((cell_far (p:=⟨p1,_,none⟩) p5.out _).trans (hHeld.2.1)))))))))),((cell_far (p:=⟨p1,_,none⟩) (by first | exact Kd.own_blk (Kd.R_ne HO_4.out p3.out (by decide)) | (rw [add_block]; exact Kd.own_blk (Kd.R_ne HO_4.out p3.out (by decide))) | (show (Addr.add _ _).block ≠ _; rw [add_block]; exact Kd.own_blk (Kd.R_ne HO_4.out p3.out (by decide))) | (dsimp only; exact Kd.own_blk (Kd.R_ne HO_4.out p3.out (by decide)))) _).trans (((cell_far (p:=⟨p1,_,none⟩) (by first | exact Kd.own_blk (Kd.R_ne HO_4.out p3.out (by decide)) | (rw [add_block]; exact Kd.own_blk (Kd.R_ne HO_4.out p3.out (by decide))) | (show (Addr.add _ _).block ≠ _; rw [add_block]; exact Kd.own_blk (Kd.R_ne HO_4.out p3.out (by decide))) | (dsimp only; exact Kd.own_blk (Kd.R_ne HO_4.out p3.out (by decide)))) _).trans (((cell_far (p:=⟨p1,_,none⟩) (by first | exact Kd.own_blk (Kd.R_ne HO_4.out p3.out (by decide)) | (rw [add_block]; exact Kd.own_blk (Kd.R_ne HO_4.out p3.out (by decide))) | (show (Addr.add _ _).block ≠ _; rw [add_block]; exact Kd.own_blk (Kd.R_ne HO_4.out p3.out (by decide))) | (dsimp only; exact Kd.own_blk (Kd.R_ne HO_4.out p3.out (by decide)))) _).trans (((cell_far (p:=⟨p1,_,none⟩) (by first | exact Kd.own_blk (Kd.R_ne HO_4.out p3.out (by decide)) | (rw [add_block]; exact Kd.own_blk (Kd.R_ne HO_4.out p3.out (by decide))) | (show (Addr.add _ _).block ≠ _; rw [add_block]; exact Kd.own_blk (Kd.R_ne HO_4.out p3.out (by decide))) | (dsimp only; exact Kd.own_blk (Kd.R_ne HO_4.out p3.out (by decide)))) _).trans (((cell_far (p:=⟨p1,_,none⟩) (by first | exact Kd.own_blk (Kd.R_ne HO_4.out p3.out (by decide)) | (rw [add_block]; exact Kd.own_blk (Kd.R_ne HO_4.out p3.out (by decide))) | (show (Addr.add _ _).block ≠ _; rw [add_block]; exact Kd.own_blk (Kd.R_ne HO_4.out p3.out (by decide))) | (dsimp only; exact Kd.own_blk (Kd.R_ne HO_4.out p3.out (by decide)))) _).trans (hHeld.2.2.1)))))))))),((cell_far (p:=⟨p1,_,none⟩) (by first | exact Kd.own_blk (Kd.R_away p0.out (fun _ hk => hk.2)) | (rw [add_block]; exact Kd.own_blk (Kd.R_away p0.out (fun _ hk => hk.2))) | (show (Addr.add _ _).block ≠ _; rw [add_block]; exact Kd.own_blk (Kd.R_away p0.out (fun _ hk => hk.2))) | (dsimp only; exact Kd.own_blk (Kd.R_away p0.out (fun _ hk => hk.2)))) _).trans (((cell_far (p:=⟨p1,_,none⟩) (by first | exact Kd.own_blk (Kd.R_away p0.out (fun _ hk => hk.2)) | (rw [add_block]; exact Kd.own_blk (Kd.R_away p0.out (fun _ hk => hk.2))) | (show (Addr.add _ _).block ≠ _; rw [add_block]; exact Kd.own_blk (Kd.R_away p0.out (fun _ hk => hk.2))) | (dsimp only; exact Kd.own_blk (Kd.R_away p0.out (fun _ hk => hk.2)))) _).trans (((cell_far (p:=⟨p1,_,none⟩) (by first | exact Kd.own_blk (Kd.R_away p0.out (fun _ hk => hk.2)) | (rw [add_block]; exact Kd.own_blk (Kd.R_away p0.out (fun _ hk => hk.2))) | (show (Addr.add _ _).block ≠ _; rw [add_block]; exact Kd.own_blk (Kd.R_away p0.out (fun _ hk => hk.2))) | (dsimp only; exact Kd.own_blk (Kd.R_away p0.out (fun _ hk => hk.2)))) _).trans (((cell_far (p:=⟨p1,_,none⟩) (by first | exact Kd.own_blk (Kd.R_away p0.out (fun _ hk => hk.2)) | (rw [add_block]; exact Kd.own_blk (Kd.R_away p0.out (fun _ hk => hk.2))) | (show (Addr.add _ _).block ≠ _; rw [add_block]; exact Kd.own_blk (Kd.R_away p0.out (fun _ hk => hk.2))) | (dsimp only; exact Kd.own_blk (Kd.R_away p0.out (fun _ hk => hk.2)))) _).trans (((cell_far (p:=⟨p1,_,none⟩) (by first | exact Kd.own_blk (Kd.R_away p0.out (fun _ hk => hk.2)) | (rw [add_block]; exact Kd.own_blk (Kd.R_away p0.out (fun _ hk => hk.2))) | (show (Addr.add _ _).block ≠ _; rw [add_block]; exact Kd.own_blk (Kd.R_away p0.out (fun _ hk => hk.2))) | (dsimp only; exact Kd.own_blk (Kd.R_away p0.out (fun _ hk => hk.2)))) _).trans (hHeld.2.2.2.1)))))))))),((cell_far (p:=⟨p1,_,none⟩) (by first | exact Kd.own_blk (Kd.R_away p0.out (fun _ hk => hk.2)) | (rw [add_block]; exact Kd.own_blk (Kd.R_away p0.out (fun _ hk => hk.2))) | (show (Addr.add _ _).block ≠ _; rw [add_block]; exact Kd.own_blk (Kd.R_away p0.out (fun _ hk => hk.2))) | (dsimp only; exact Kd.own_blk (Kd.R_away p0.out (fun _ hk => hk.2)))) _).trans (((cell_far (p:=⟨p1,_,none⟩) (by first | exact Kd.own_blk (Kd.R_away p0.out (fun _ hk => hk.2)) | (rw [add_block]; exact Kd.own_blk (Kd.R_away p0.out (fun _ hk => hk.2))) | (show (Addr.add _ _).block ≠ _; rw [add_block]; exact Kd.own_blk (Kd.R_away p0.out (fun _ hk => hk.2))) | (dsimp only; exact Kd.own_blk (Kd.R_away p0.out (fun _ hk => hk.2)))) _).trans (((cell_far (p:=⟨p1,_,none⟩) (by first | exact Kd.own_blk (Kd.R_away p0.out (fun _ hk => hk.2)) | (rw [add_block]; exact Kd.own_blk (Kd.R_away p0.out (fun _ hk => hk.2))) | (show (Addr.add _ _).block ≠ _; rw [add_block]; exact Kd.own_blk (Kd.R_away p0.out (fun _ hk => hk.2))) | (dsimp only; exact Kd.own_blk (Kd.R_away p0.out (fun _ hk => hk.2)))) _).trans (((cell_far (p:=⟨p1,_,none⟩) (by first | exact Kd.own_blk (Kd.R_away p0.out (fun _ hk => hk.2)) | (rw [add_block]; exact Kd.own_blk (Kd.R_away p0.out (fun _ hk => hk.2))) | (show (Addr.add _ _).block ≠ _; rw [add_block]; exact Kd.own_blk (Kd.R_away p0.out (fun _ hk => hk.2))) | (dsimp only; exact Kd.own_blk (Kd.R_away p0.out (fun _ hk => hk.2)))) _).trans (((cell_far (p:=⟨p1,_,none⟩) (by first | exact Kd.own_blk (Kd.R_away p0.out (fun _ hk => hk.2)) | (rw [add_block]; exact Kd.own_blk (Kd.R_away p0.out (fun _ hk => hk.2))) | (show (Addr.add _ _).block ≠ _; rw [add_block]; exact Kd.own_blk (Kd.R_away p0.out (fun _ hk => hk.2))) | (dsimp only; exact Kd.own_blk (Kd.R_away p0.out (fun _ hk => hk.2)))) _).trans (hHeld.2.2.2.2.1)))))))))),((cell_far (p:=⟨p1,_,none⟩) (by first | exact Kd.own_blk (Kd.R_away p0.out (fun _ hk => hk.2)) | (rw [add_block]; exact Kd.own_blk (Kd.R_away p0.out (fun _ hk => hk.2))) | (show (Addr.add _ _).block ≠ _; rw [add_block]; exact Kd.own_blk (Kd.R_away p0.out (fun _ hk => hk.2))) | (dsimp only; exact Kd.own_blk (Kd.R_away p0.out (fun _ hk => hk.2)))) _).trans (((cell_far (p:=⟨p1,_,none⟩) (by first | exact Kd.own_blk (Kd.R_away p0.out (fun _ hk => hk.2)) | (rw [add_block]; exact Kd.own_blk (Kd.R_away p0.out (fun _ hk => hk.2))) | (show (Addr.add _ _).block ≠ _; rw [add_block]; exact Kd.own_blk (Kd.R_away p0.out (fun _ hk => hk.2))) | (dsimp only; exact Kd.own_blk (Kd.R_away p0.out (fun _ hk => hk.2)))) _).trans (((cell_far (p:=⟨p1,_,none⟩) (by first | exact Kd.own_blk (Kd.R_away p0.out (fun _ hk => hk.2)) | (rw [add_block]; exact Kd.own_blk (Kd.R_away p0.out (fun _ hk => hk.2))) | (show (Addr.add _ _).block ≠ _; rw [add_block]; exact Kd.own_blk (Kd.R_away p0.out (fun _ hk => hk.2))) | (dsimp only; exact Kd.own_blk (Kd.R_away p0.out (fun _ hk => hk.2)))) _).trans (((cell_far (p:=⟨p1,_,none⟩) (by first | exact Kd.own_blk (Kd.R_away p0.out (fun _ hk => hk.2)) | (rw [add_block]; exact Kd.own_blk (Kd.R_away p0.out (fun _ hk => hk.2))) | (show (Addr.add _ _).block ≠ _; rw [add_block]; exact Kd.own_blk (Kd.R_away p0.out (fun _ hk => hk.2))) | (dsimp only; exact Kd.own_blk (Kd.R_away p0.out (fun _ hk => hk.2)))) _).trans (((cell_far (p:=⟨p1,_,none⟩) (by first | exact Kd.own_blk (Kd.R_away p0.out (fun _ hk => hk.2)) | (rw [add_block]; exact Kd.own_blk (Kd.R_away p0.out (fun _ hk => hk.2))) | (show (Addr.add _ _).block ≠ _; rw [add_block]; exact Kd.own_blk (Kd.R_away p0.out (fun _ hk => hk.2))) | (dsimp only; exact Kd.own_blk (Kd.R_away p0.out (fun _ hk => hk.2)))) _).trans (hHeld.2.2.2.2.2.1)))))))))),((cell_far (p:=⟨p1,_,none⟩) (by first | exact Kd.own_blk (Kd.R_away p0.out (fun _ hk => hk.2)) | (rw [add_block]; exact Kd.own_blk (Kd.R_away p0.out (fun _ hk => hk.2))) | (show (Addr.add _ _).block ≠ _; rw [add_block]; exact Kd.own_blk (Kd.R_away p0.out (fun _ hk => hk.2))) | (dsimp only; exact Kd.own_blk (Kd.R_away p0.out (fun _ hk => hk.2)))) _).trans (((cell_far (p:=⟨p1,_,none⟩) (by first | exact Kd.own_blk (Kd.R_away p0.out (fun _ hk => hk.2)) | (rw [add_block]; exact Kd.own_blk (Kd.R_away p0.out (fun _ hk => hk.2))) | (show (Addr.add _ _).block ≠ _; rw [add_block]; exact Kd.own_blk (Kd.R_away p0.out (fun _ hk => hk.2))) | (dsimp only; exact Kd.own_blk (Kd.R_away p0.out (fun _ hk => hk.2)))) _).trans (((cell_far (p:=⟨p1,_,none⟩) (by first | exact Kd.own_blk (Kd.R_away p0.out (fun _ hk => hk.2)) | (rw [add_block]; exact Kd.own_blk (Kd.R_away p0.out (fun _ hk => hk.2))) | (show (Addr.add _ _).block ≠ _; rw [add_block]; exact Kd.own_blk (Kd.R_away p0.out (fun _ hk => hk.2))) | (dsimp only; exact Kd.own_blk (Kd.R_away p0.out (fun _ hk => hk.2)))) _).trans (((cell_far (p:=⟨p1,_,none⟩) (by first | exact Kd.own_blk (Kd.R_away p0.out (fun _ hk => hk.2)) | (rw [add_block]; exact Kd.own_blk (Kd.R_away p0.out (fun _ hk => hk.2))) | (show (Addr.add _ _).block ≠ _; rw [add_block]; exact Kd.own_blk (Kd.R_away p0.out (fun _ hk => hk.2))) | (dsimp only; exact Kd.own_blk (Kd.R_away p0.out (fun _ hk => hk.2)))) _).trans (((cell_far (p:=⟨p1,_,none⟩) (by first | exact Kd.own_blk (Kd.R_away p0.out (fun _ hk => hk.2)) | (rw [add_block]; exact Kd.own_blk (Kd.R_away p0.out (fun _ hk => hk.2))) | (show (Addr.add _ _).block ≠ _; rw [add_block]; exact Kd.own_blk (Kd.R_away p0.out (fun _ hk => hk.2))) | (dsimp only; exact Kd.own_blk (Kd.R_away p0.out (fun _ hk => hk.2)))) _).trans (hHeld.2.2.2.2.2.2.1)))))))))),((cell_far (p:=⟨p1,_,none⟩) (by first | exact Kd.own_blk (Kd.R_away p0.out (fun _ hk => hk.2)) | (rw [add_block]; exact Kd.own_blk (Kd.R_away p0.out (fun _ hk => hk.2))) | (show (Addr.add _ _).block ≠ _; rw [add_block]; exact Kd.own_blk (Kd.R_away p0.out (fun _ hk => hk.2))) | (dsimp only; exact Kd.own_blk (Kd.R_away p0.out (fun _ hk => hk.2)))) _).trans (((cell_far (p:=⟨p1,_,none⟩) (by first | exact Kd.own_blk (Kd.R_away p0.out (fun _ hk => hk.2)) | (rw [add_block]; exact Kd.own_blk (Kd.R_away p0.out (fun _ hk => hk.2))) | (show (Addr.add _ _).block ≠ _; rw [add_block]; exact Kd.own_blk (Kd.R_away p0.out (fun _ hk => hk.2))) | (dsimp only; exact Kd.own_blk (Kd.R_away p0.out (fun _ hk => hk.2)))) _).trans (((cell_far (p:=⟨p1,_,none⟩) (by first | exact Kd.own_blk (Kd.R_away p0.out (fun _ hk => hk.2)) | (rw [add_block]; exact Kd.own_blk (Kd.R_away p0.out (fun _ hk => hk.2))) | (show (Addr.add _ _).block ≠ _; rw [add_block]; exact Kd.own_blk (Kd.R_away p0.out (fun _ hk => hk.2))) | (dsimp only; exact Kd.own_blk (Kd.R_away p0.out (fun _ hk => hk.2)))) _).trans (((cell_far (p:=⟨p1,_,none⟩) (by first | exact Kd.own_blk (Kd.R_away p0.out (fun _ hk => hk.2)) | (rw [add_block]; exact Kd.own_blk (Kd.R_away p0.out (fun _ hk => hk.2))) | (show (Addr.add _ _).block ≠ _; rw [add_block]; exact Kd.own_blk (Kd.R_away p0.out (fun _ hk => hk.2))) | (dsimp only; exact Kd.own_blk (Kd.R_away p0.out (fun _ hk => hk.2)))) _).trans (((cell_far (p:=⟨p1,_,none⟩) (by first | exact Kd.own_blk (Kd.R_away p0.out (fun _ hk => hk.2)) | (rw [add_block]; exact Kd.own_blk (Kd.R_away p0.out (fun _ hk => hk.2))) | (show (Addr.add _ _).block ≠ _; rw [add_block]; exact Kd.own_blk (Kd.R_away p0.out (fun _ hk => hk.2))) | (dsimp only; exact Kd.own_blk (Kd.R_away p0.out (fun _ hk => hk.2)))) _).trans (hHeld.2.2.2.2.2.2.2))))))))))⟩ (fun hHeld => ?_)
     clear hK K;refine done_ (done_of HT_.out (by kernel_rfl)) ?_
     try go_wp2
     have n0_ : Aside0 (Kd.R (Kd.int .i64) 3 (((((w36.setCell ⟨p1,0,none⟩ (.int .i64 ((rd_T34 t821 (rd t825 x8_2)).f0))).setCell ⟨p1,1,none⟩ (.int .i64 ((rd_T34 t821 (rd t825 x8_2)).f1))).setCell ⟨p1,2,none⟩ (.int .i64 ((rd_T34 t821 (rd t825 x8_2)).f2))).setCell ⟨p1,3,none⟩ (.int .i64 ((rd_T34 t821 (rd t825 x8_2)).f3))).setCell ⟨p1,4,none⟩ (.int .i64 ((rd_T34 t821 (rd t825 x8_2)).f4))) w.heap.size (fun _ => True) (.slice (some t3) t825.length co34) t825):=⟨by exact Kd.R_mono (Kd.R_far (p:=⟨p1,4,none⟩) (Kd.R_far (p:=⟨p1,3,none⟩) (Kd.R_far (p:=⟨p1,2,none⟩) (Kd.R_far (p:=⟨p1,1,none⟩) (Kd.R_far (p:=⟨p1,0,none⟩) (Kd.R_types HO_4.out p3.out (by decide)) (fun _ hk => hk.2) (.int .i64 ((rd_T34 t821 (rd t825 x8_2)).f0))) (fun _ hk => hk.2) (.int .i64 ((rd_T34 t821 (rd t825 x8_2)).f1))) (fun _ hk => hk.2) (.int .i64 ((rd_T34 t821 (rd t825 x8_2)).f2))) (fun _ hk => hk.2) (.int .i64 ((rd_T34 t821 (rd t825 x8_2)).f3))) (fun _ hk => hk.2) (.int .i64 ((rd_T34 t821 (rd t825 x8_2)).f4))) (fun _ hk => trivial)⟩
     have n1_ : Aside0 (Kd.R k34 34 (((((w36.setCell ⟨p1,0,none⟩ (.int .i64 ((rd_T34 t821 (rd t825 x8_2)).f0))).setCell ⟨p1,1,none⟩ (.int .i64 ((rd_T34 t821 (rd t825 x8_2)).f1))).setCell ⟨p1,2,none⟩ (.int .i64 ((rd_T34 t821 (rd t825 x8_2)).f2))).setCell ⟨p1,3,none⟩ (.int .i64 ((rd_T34 t821 (rd t825 x8_2)).f3))).setCell ⟨p1,4,none⟩ (.int .i64 ((rd_T34 t821 (rd t825 x8_2)).f4))) w.heap.size (fun k_ => k_ ≠ p1) (.slice (some p8) t821.length co10) t821):=⟨by exact Kd.R_mono (Kd.R_far (p:=⟨p1,4,none⟩) (Kd.R_far (p:=⟨p1,3,none⟩) (Kd.R_far (p:=⟨p1,2,none⟩) (Kd.R_far (p:=⟨p1,1,none⟩) (Kd.R_far (p:=⟨p1,0,none⟩) (Kd.R_mono p0.out (fun k_ hk => (⟨hk,hk.2⟩ : _ ∧ k_ ≠ p1))) (fun _ hk => hk.2) (.int .i64 ((rd_T34 t821 (rd t825 x8_2)).f0))) (fun _ hk => hk.2) (.int .i64 ((rd_T34 t821 (rd t825 x8_2)).f1))) (fun _ hk => hk.2) (.int .i64 ((rd_T34 t821 (rd t825 x8_2)).f2))) (fun _ hk => hk.2) (.int .i64 ((rd_T34 t821 (rd t825 x8_2)).f3))) (fun _ hk => hk.2) (.int .i64 ((rd_T34 t821 (rd t825 x8_2)).f4))) (fun _ hk => hk.1.2)⟩
     have n2_ : Aside0 ((((((w36.setCell ⟨p1,0,none⟩ (.int .i64 ((rd_T34 t821 (rd t825 x8_2)).f0))).setCell ⟨p1,1,none⟩ (.int .i64 ((rd_T34 t821 (rd t825 x8_2)).f1))).setCell ⟨p1,2,none⟩ (.int .i64 ((rd_T34 t821 (rd t825 x8_2)).f2))).setCell ⟨p1,3,none⟩ (.int .i64 ((rd_T34 t821 (rd t825 x8_2)).f3))).setCell ⟨p1,4,none⟩ (.int .i64 ((rd_T34 t821 (rd t825 x8_2)).f4))).heap[p7]? = some (.cells #[.int .i64 t820,.slice (some p8) t821.length co10] 25 (0,0))):=⟨by refine blk_far ?_ p5.out _; refine blk_far ?_ p5.out _; refine blk_far ?_ p5.out _; refine blk_far ?_ p5.out _; refine blk_far ?_ p5.out _; exact p4.out⟩
     have n3_ : Aside0 ((((((w36.setCell ⟨p1,0,none⟩ (.int .i64 ((rd_T34 t821 (rd t825 x8_2)).f0))).setCell ⟨p1,1,none⟩ (.int .i64 ((rd_T34 t821 (rd t825 x8_2)).f1))).setCell ⟨p1,2,none⟩ (.int .i64 ((rd_T34 t821 (rd t825 x8_2)).f2))).setCell ⟨p1,3,none⟩ (.int .i64 ((rd_T34 t821 (rd t825 x8_2)).f3))).setCell ⟨p1,4,none⟩ (.int .i64 ((rd_T34 t821 (rd t825 x8_2)).f4))).heap[p1]? = some (.cells #[.int .i64 ((rd_T34 t821 (rd t825 x8_2)).f0),.int .i64 ((rd_T34 t821 (rd t825 x8_2)).f1),.int .i64 ((rd_T34 t821 (rd t825 x8_2)).f2),.int .i64 ((rd_T34 t821 (rd t825 x8_2)).f3),.int .i64 ((rd_T34 t821 (rd t825 x8_2)).f4)] 34 (0,0))):=⟨by refine blk_put (cs:=#[.int .i64 ((rd_T34 t821 (rd t825 x8_2)).f0),.int .i64 ((rd_T34 t821 (rd t825 x8_2)).f1),.int .i64 ((rd_T34 t821 (rd t825 x8_2)).f2),.int .i64 ((rd_T34 t821 (rd t825 x8_2)).f3),.int .i64 0]) ?_ 4 _ rfl; refine blk_put (cs:=#[.int .i64 ((rd_T34 t821 (rd t825 x8_2)).f0),.int .i64 ((rd_T34 t821 (rd t825 x8_2)).f1),.int .i64 ((rd_T34 t821 (rd t825 x8_2)).f2),.int .i64 0,.int .i64 0]) ?_ 3 _ rfl; refine blk_put (cs:=#[.int .i64 ((rd_T34 t821 (rd t825 x8_2)).f0),.int .i64 ((rd_T34 t821 (rd t825 x8_2)).f1),.int .i64 0,.int .i64 0,.int .i64 0]) ?_ 2 _ rfl; refine blk_put (cs:=#[.int .i64 ((rd_T34 t821 (rd t825 x8_2)).f0),.int .i64 0,.int .i64 0,.int .i64 0,.int .i64 0]) ?_ 1 _ rfl; refine blk_put (cs:=#[.int .i64 0,.int .i64 0,.int .i64 0,.int .i64 0,.int .i64 0]) ?_ 0 _ rfl; exact p3.out⟩
     have n4_ : Aside0 (Below w.heap.size w (((((w36.setCell ⟨p1,0,none⟩ (.int .i64 ((rd_T34 t821 (rd t825 x8_2)).f0))).setCell ⟨p1,1,none⟩ (.int .i64 ((rd_T34 t821 (rd t825 x8_2)).f1))).setCell ⟨p1,2,none⟩ (.int .i64 ((rd_T34 t821 (rd t825 x8_2)).f2))).setCell ⟨p1,3,none⟩ (.int .i64 ((rd_T34 t821 (rd t825 x8_2)).f3))).setCell ⟨p1,4,none⟩ (.int .i64 ((rd_T34 t821 (rd t825 x8_2)).f4)))):=⟨by repeat (first | (with_reducible first | exact HB.out | apply below_alloc | apply pw_below_drewN | apply below_drew1 | refine below_set ?_ q3.out | refine below_set ?_ t4.out) | exact HB.out)⟩
     (try clear HO_4)
     (try clear p0)
     (try clear p4)
     (try clear p3)
     (try clear HB)
     generalize (((((w36.setCell ⟨p1,0,none⟩ (.int .i64 ((rd_T34 t821 (rd t825 x8_2)).f0))).setCell ⟨p1,1,none⟩ (.int .i64 ((rd_T34 t821 (rd t825 x8_2)).f1))).setCell ⟨p1,2,none⟩ (.int .i64 ((rd_T34 t821 (rd t825 x8_2)).f2))).setCell ⟨p1,3,none⟩ (.int .i64 ((rd_T34 t821 (rd t825 x8_2)).f3))).setCell ⟨p1,4,none⟩ (.int .i64 ((rd_T34 t821 (rd t825 x8_2)).f4))) = w42 at n0_ n1_ n2_ n3_ n4_ ⊢;have HO_4:=n0_;have p0:=n1_;have p4:=n2_;have p3:=n3_;have HB:=n4_;clear n0_ n1_ n2_ n3_ n4_;have n0_:=zx (Kd.R_drew HO_4.out);have n1_:=zx (Kd.R_drew p0.out);have n2_:=zx (blk_drew p4.out);have n3_:=zx (blk_drew p3.out);have n4_:=zx (below_drew1 HB.out);clear HO_4;clear p0;clear p4;clear p3;clear HB;have HO_4:=n0_;have p0:=n1_;have p4:=n2_;have p3:=n3_;have HB:=n4_;clear n0_ n1_ n2_ n3_ n4_;refine start_ (n:=13) (S:=fun w' => w'.cell? ⟨p7,0,none⟩ = some (.int .i64 t820) ∧ w'.cell? ⟨p7,1,none⟩ = some (.slice (some p8) t821.length co10) ∧ w'.cell? ⟨p1,0,none⟩ = some (.int .i64 ((rd_T34 t821 (rd t825 x8_2)).f0)) ∧ w'.cell? ⟨p1,1,none⟩ = some (.int .i64 ((rd_T34 t821 (rd t825 x8_2)).f1)) ∧ w'.cell? ⟨p1,2,none⟩ = some (.int .i64 ((rd_T34 t821 (rd t825 x8_2)).f2)) ∧ w'.cell? ⟨p1,3,none⟩ = some (.int .i64 ((rd_T34 t821 (rd t825 x8_2)).f3)) ∧ w'.cell? ⟨p1,4,none⟩ = some (.int .i64 ((rd_T34 t821 (rd t825 x8_2)).f4))) (ds:=[]) #[J,J,J,J,J,J,J,J,J,J,J,J,J] (by kernel_rfl) rfl rfl ⟨(blk_cell p4.out 0).trans rfl,(blk_cell p4.out 1).trans rfl,(blk_cell p3.out 0).trans rfl,(blk_cell p3.out 1).trans rfl,(blk_cell p3.out 2).trans rfl,(blk_cell p3.out 3).trans rfl,(blk_cell p3.out 4).trans rfl⟩ (fun hHeld => ?_); refine with_tabW laws_FnRingWay.tab12 laws_FnRingWay.bits12 (fun HT_ HW_ => ?_);generalize w42.drew = w43 at HO_4 p0 p4 p3 HB hHeld ⊢;refine pure_ (i:=1) (N:=some 64) (v:=?_) (a':=?_) #[J,Y,J,J,J,J,J,J,J,J,J,J,J] rfl rfl (any_of HT_.out (by kernel_rfl)) (fun _ _ _ h => h) (Or.inl ⟨by rfl,?_⟩) ?_ ?_;rotate_left
     ·intro w';go_simp;with_reducible rfl
     rotate_left
     ·simp only [Act.put,U,V,Z,i64_w,i32_w];rfl
     refine pure_ (i:=4) (N:=some 67) (v:=?_) (a':=?_) #[J,Y,J,J,Y,J,J,J,J,J,J,J,J] rfl rfl (any_of HT_.out (by kernel_rfl)) (fun _ _ _ h => h) (Or.inl ⟨by rfl,?_⟩) ?_ ?_;rotate_left
     ·intro w';go_simp;with_reducible rfl
     rotate_left
     ·simp only [Act.put,U,V,Z,i64_w,i32_w];rfl
     refine pure_ (i:=8) (N:=some 71) (v:=?_) (a':=?_) #[J,Y,J,J,Y,J,J,J,Y,J,J,J,J] rfl rfl (any_of HT_.out (by kernel_rfl)) (fun _ _ _ h => h) (Or.inl ⟨by rfl,?_⟩) ?_ ?_;rotate_left
     ·intro w';go_simp;with_reducible rfl
     rotate_left
     ·simp only [Act.put,U,V,Z,i64_w,i32_w];rfl
     refine pure_ (i:=11) (N:=some 74) (v:=?_) (a':=?_) #[J,Y,J,J,Y,J,J,J,Y,J,J,Y,J] rfl rfl (any_of HT_.out (by kernel_rfl)) (fun _ _ _ h => h) (Or.inl ⟨by rfl,?_⟩) ?_ ?_;rotate_left
     ·intro w';go_simp;with_reducible rfl
     rotate_left
     ·simp only [Act.put,U,V,Z,i64_w,i32_w];rfl
     refine take_ (i:=0) (N:=some 63) (v:=?_) (a':=?_) #[Y,Y,J,J,Y,J,J,J,Y,J,J,Y,J] rfl rfl (take_ofW HT_.out HW_.out (by kernel_rfl)) (fun _ _ _ h => h) (Or.inl ⟨by rfl,?_⟩) hHeld ?_ ?_;rotate_left
     ·rintro w' ⟨s0,s1,s2,s3,s4,s5,s6⟩;go_simp;with_reducible rfl
     rotate_left
     ·simp only [Act.put,U,V,Z,i64_w,i32_w];rfl
     refine take_ (i:=2) (N:=some 65) (v:=?_) (a':=?_) #[Y,Y,Y,J,Y,J,J,J,Y,J,J,Y,J] rfl rfl (take_ofW HT_.out HW_.out (by kernel_rfl)) (fun _ _ _ h => h) (Or.inl ⟨by rfl,?_⟩) hHeld ?_ ?_;rotate_left
     ·rintro w' ⟨s0,s1,s2,s3,s4,s5,s6⟩;go_simp;with_reducible rfl
     rotate_left
     ·simp only [Act.put,U,V,Z,i64_w,i32_w];rfl
     refine take_ (i:=5) (N:=some 68) (v:=?_) (a':=?_) #[Y,Y,Y,J,Y,Y,J,J,Y,J,J,Y,J] rfl rfl (take_ofW HT_.out HW_.out (by kernel_rfl)) (fun _ _ _ h => h) (Or.inl ⟨by rfl,?_⟩) hHeld ?_ ?_;rotate_left
     ·rintro w' ⟨s0,s1,s2,s3,s4,s5,s6⟩;go_simp;with_reducible rfl
     rotate_left
     ·simp only [Act.put,U,V,Z,i64_w,i32_w];rfl
     refine take_ (i:=9) (N:=some 72) (v:=?_) (a':=?_) #[Y,Y,Y,J,Y,Y,J,J,Y,Y,J,Y,J] rfl rfl (take_ofW HT_.out HW_.out (by kernel_rfl)) (fun _ _ _ h => h) (Or.inl ⟨by rfl,?_⟩) hHeld ?_ ?_;rotate_left
     ·rintro w' ⟨s0,s1,s2,s3,s4,s5,s6⟩;go_simp;with_reducible rfl
     rotate_left
     ·simp only [Act.put,U,V,Z,i64_w,i32_w];rfl
     refine one_ (i:=3) (N:=some 66) #[Y,Y,Y,Y,Y,Y,J,J,Y,Y,J,Y,J] rfl rfl (one_of HT_.out (by kernel_rfl)) (by decide) (fun K hK => ?_);refine goes_ Try.func17 (by kernel_rfl) rfl #[.agg #[.int .i64 t820,.slice (some p8) t821.length co10],.int .i64 ((rd_T34 t821 (rd t825 x8_2)).f1)] (by rfl) rfl rfl (by (try simp only [List.map_toArray,List.map_cons,List.map_nil]); first | done | rfl | (simp only [List.length_drop,List.length_take]; rfl)) ?_;with_reducible refine (impl_NearAll.calls k2 t820 _ _ t821 ((rd_T34 t821 (rd t825 x8_2)).f1) t838 _ ?side1 ?side2 A30.out).mono ?_
     (case side1 => repeat (first | exact (Kd.R_reads' p0.out).2.2 | (with_reducible refine Kd.C_alloc ?_ _) | (with_reducible refine Kd.C_drewN ?_ _) | (with_reducible refine Kd.C_drew ?_)))
     (case side2 => exact (Kd.R_reads' p0.out).2.1)
     rintro e w44 ⟨v839,rfl,ho0,hb⟩;refine ⟨_,rfl,?_⟩;have n0_:=zx (Kd.R_elder' HO_4.out (Kd.R_base ho0) hb);have n1_:=zx (Kd.R_below p0.out hb);have n2_:=zx (Kd.R_lower (Kd.R_new' ho0 (Kd.R_lt HO_4.out)) (below_size HB.out));have n3_:=zx (blk_below (g:=p7) (o:=.cells #[.int .i64 t820,.slice (some p8) t821.length co10] 25 (0,0)) p4.out hb);have n4_:=zx (blk_below (g:=p1) (o:=.cells #[.int .i64 ((rd_T34 t821 (rd t825 x8_2)).f0),.int .i64 ((rd_T34 t821 (rd t825 x8_2)).f1),.int .i64 ((rd_T34 t821 (rd t825 x8_2)).f2),.int .i64 ((rd_T34 t821 (rd t825 x8_2)).f3),.int .i64 ((rd_T34 t821 (rd t825 x8_2)).f4)] 34 (0,0)) p3.out hb);have n5_:=zx (below_step HB.out hb);clear HO_4;clear p0;clear p4;clear p3;clear HB;have HO_4:=n0_;have p0:=n1_;have HO840:=n2_;have p4:=n3_;have p3:=n4_;have HB:=n5_;clear n0_ n1_ n2_ n3_ n4_ n5_
     (try clear hb)
     (try clear hb2)
     (try clear hk)
     (try clear hi)
     (try clear ho0)
     obtain ⟨Ao45,co45,eo45⟩:=Kd.R_slice HO840.out
     (first | subst eo45 | (injection eo45 with f1_ f2_ f3_; have f4_:=f1_.symm; have f5_:=f3_.symm; clear f1_ f2_ f3_; subst f4_; subst f5_))
     have p841 : 0 ≤ (((rd_T34 t821 (rd t825 x8_2)).f0) : Int):=of_decide_eq_true (by first | (with_reducible assumption) | assumption);have q841 : ((rd_T34 t821 (rd t825 x8_2)).f0) < (t838.length : Int):=of_decide_eq_true (by first | (with_reducible assumption) | assumption);obtain ⟨ad841,e841,u6⟩:=Kd.at_int (Kd.R_reads' HO840.out).2.2 ((rd_T34 t821 (rd t825 x8_2)).f0) p841 q841;cases e841;replace p841:=eq_true p841;replace q841:=eq_true q841;refine hK.out _ _ ⟨(blk_cell p4.out 0).trans rfl,(blk_cell p4.out 1).trans rfl,(blk_cell p3.out 0).trans rfl,(blk_cell p3.out 1).trans rfl,(blk_cell p3.out 2).trans rfl,(blk_cell p3.out 3).trans rfl,(blk_cell p3.out 4).trans rfl⟩ (fun hHeld => ?_);clear hK K;refine norm_ (a':=?_) ?_ ?_;rotate_left
     ·show Act.put _ (some 66) _ = _
      simp only [Act.put,U,V,Z,i64_w,i32_w];rfl
     refine pure_ (i:=6) (N:=some 69) (v:=?_) (a':=?_) #[Y,Y,Y,Y,Y,Y,Y,J,Y,Y,J,Y,J] rfl rfl (any_of HT_.out (by kernel_rfl)) (fun _ _ _ h => h) (Or.inl ⟨by rfl,?_⟩) ?_ ?_;rotate_left
     ·intro w';go_simp;with_reducible rfl
     rotate_left
     ·simp only [Act.put,U,V,Z,i64_w,i32_w];rfl
     refine one_ (i:=7) (N:=some 70) #[Y,Y,Y,Y,Y,Y,Y,Y,Y,Y,J,Y,J] rfl rfl (one_of HT_.out (by kernel_rfl)) (by decide) (fun K hK => ?_);refine value_ (w1:=w44) (v:=.int .i64 (rd t838 ((rd_T34 t821 (rd t825 x8_2)).f0))) (by rfl) rfl ?_ ?_
     ·go_simp
      (try simp only [i64_w])
      try rfl
     refine hK.out _ _ ⟨(blk_cell p4.out 0).trans rfl,(blk_cell p4.out 1).trans rfl,(blk_cell p3.out 0).trans rfl,(blk_cell p3.out 1).trans rfl,(blk_cell p3.out 2).trans rfl,(blk_cell p3.out 3).trans rfl,(blk_cell p3.out 4).trans rfl⟩ (fun hHeld => ?_);clear hK K;refine norm_ (a':=?_) ?_ ?_;rotate_left
     ·show Act.put _ (some 70) _ = _
      simp only [Act.put,U,V,Z,i64_w,i32_w];rfl
     refine pure_ (i:=10) (N:=some 73) (v:=?_) (a':=?_) #[Y,Y,Y,Y,Y,Y,Y,Y,Y,Y,Y,Y,J] rfl rfl (any_of HT_.out (by kernel_rfl)) (fun _ _ _ h => h) (Or.inl ⟨by rfl,?_⟩) ?_ ?_;rotate_left
     ·intro w';go_simp;with_reducible rfl
     rotate_left
     ·simp only [Act.put,U,V,Z,i64_w,i32_w];rfl
     refine pure_ (i:=12) (N:=some 75) (v:=?_) (a':=?_) #[Y,Y,Y,Y,Y,Y,Y,Y,Y,Y,Y,Y,Y] rfl rfl (any_of HT_.out (by kernel_rfl)) (fun _ _ _ h => h) (Or.inl ⟨by rfl,?_⟩) ?_ ?_;rotate_left
     ·intro w';go_simp;with_reducible rfl
     rotate_left
     ·simp only [Act.put,U,V,Z,i64_w,i32_w];rfl
     refine done_ (done_of HT_.out (by kernel_rfl)) ?_
     try go_wp2
     go_roundg k2
     case measure => have:=HJ5.out; have:=HK2.out; omega
     case rel => exact ⟨(wrap64 (x8_2 + 1)),(by first | rfl | (simp; done) | (simp [*]; done)),H',⟨by have:=HJ5.out; have:=HK2.out; omega⟩,⟨by exact Kd.R_mono HO_4.out (fun _ hk => trivial)⟩,⟨by exact Kd.R_mono p0.out (fun _ hk => trivial)⟩,⟨by exact p4.out⟩,⟨by repeat (first | (with_reducible first | exact HB.out | apply below_alloc | apply pw_below_drewN | apply below_drew1 | refine below_set ?_ q3.out | refine below_set ?_ t4.out) | exact HB.out)⟩⟩
end Go.Proofs.Ytljdcinpjnijcaa.Pr
end
section
set_option linter.unusedVariables false
namespace Go.Proofs.YtljdcinpjnijcaaW.PrintWords
open Go.RowKit Go.ChangeShapes Go.WideShapes
def Opens (P : Program) {α : Type} (d : Kd α) (t : TypeId) (wf : α → Prop) : Prop :=
 ∀ {H : Type} {enc : TypeId × Value → H} {w : World} {sp : Nat → Bool} {held : Bool} {fuel : Nat} {cs : List Value} {x : DataW H × List MemPlace},DataW.trod enc P w 0 sp held fuel t cs = some x → ∃ a,d.K w a cs ∧ wf a
section
variable {P : Program} {α β : Type}
theorem opens_int {t : TypeId} {k : IntKind} (ht : P.underlying t = some (.int k)) : Opens P (Kd.int k) t (fun n => (Lit.int k n).wf = true):=by
 intro H enc w sp held fuel cs x h;obtain ⟨n,rfl,_,hw⟩:=DataW.trod_int ht h;exact ⟨n,rfl,hw⟩
theorem addr_add_add (a : Addr) (i j : Nat) : (a.add i).add j = a.add (i + j):=by
 unfold Addr.add
 by_cases hi : i = 0 <;> by_cases hj : j = 0 <;> simp [hi,hj,Nat.add_assoc]
theorem opens_slice [Inhabited α] {d : Kd α} {t e : TypeId} {wf : α → Prop} (ht : P.underlying t = some (.slice e)) (hc : P.cellsOf e = d.sz) (he : Opens P d e wf) : Opens P (Kd.slice e d) t (fun l => l.length ≤ maxLen ∧ ∀ x ∈ l,wf x):=by
 intro H enc w sp held fuel cs x h
 rcases Deep.open_slice ht h with ⟨rfl,_⟩ | ⟨a,len,cap,m,n,D,Pl,rfl,_,hl,hm,hmm,_,hel⟩
 ·exact ⟨[],⟨none,0,rfl,Nat.le_refl _,Kd.C_nil d w⟩,by simp,by simp⟩
 ·have hlm : len ≤ m:=by rw [hmm]; split <;> omega
  have hx : ∀ i,i < len → ∃ y : α,(∃ c,c.length = d.sz ∧ d.K w y c ∧ ∀ j u,c[j]? = some u → w.cell? (a.add (i * d.sz + j)) = some u) ∧ wf y:=by
   intro i hi;obtain ⟨cs',hcs,htr⟩:=hel i (by omega);obtain ⟨y,hk,hw⟩:=he htr;obtain ⟨_,hlen,hcell⟩:=World.cells?_some hcs;refine ⟨y,⟨cs',d.K_len hk,hk,fun j u hu => ?_⟩,hw⟩;have hj : j < P.cellsOf e:=by
    have:=(List.getElem?_eq_some_iff.1 hu).1;omega
   have:=hcell j hj;rw [addr_add_add,hc,hu] at this;exact this
  obtain ⟨f,hf⟩:=Deep.choose_lt hx;refine ⟨(List.range len).map f,⟨some a,cap,by simp,by simpa using hl,by simp,by simp only [maxLen] at hm; simp; omega,fun _ => ⟨a,rfl,fun j p hj => ?_⟩⟩,by simp; omega,fun y hy => ?_⟩
  ·obtain ⟨hj1,hj2⟩:=List.getElem?_eq_some_iff.1 hj;simp at hj1 hj2;subst hj2;exact (hf j hj1).1
  ·simp only [List.mem_map,List.mem_range] at hy;obtain ⟨i,hi,rfl⟩:=hy;exact (hf i hi).2
end
end Go.Proofs.YtljdcinpjnijcaaW.PrintWords
end
section
namespace Go.Proofs.Ytljdcinpjnijcaa.Pr
open Go.RowKit Go.Proofs.YtljdcinpjnijcaaW.PrintWords Go.Proofs.YtljdcinpjnijcaaW.PrintLast Go.Proofs.YtljdcinpjnijcaaW.PrintMore
open List renaming setIfInBounds_toArray → U,set_cons_zero → V,set_cons_succ → Z
open Go.Proofs.YtljdcinpjnijcaaW.PrintWords.Aside0 renaming mk → zx
def laws_FnRingWay.Asked : Prop:=∀ (l0 : List Int),(l0.length ≤ maxLen ∧ ∀ x_ ∈ l0,(Lit.int .u8 x_).wf = true) → ∃ k,laws_FnRingWay.f k l0 = some true
end Go.Proofs.Ytljdcinpjnijcaa.Pr
end
section
set_option linter.unusedVariables false
namespace Go.Proofs.YtljdcinpjnijcaaW.PrintWords
open Go.RowKit
section
variable {α β : Type}
theorem Ev.pos {c : Prop} [Decidable c] {t e : Nat → Option α} {r : α} (h : c) (k : Ev t r) : Ev (fun n => if c then t n else e n) r:=by
 simp only [if_pos h]; exact k
theorem Ev.neg {c : Prop} [Decidable c] {t e : Nat → Option α} {r : α} (h : ¬ c) (k : Ev e r) : Ev (fun n => if c then t n else e n) r:=by
 simp only [if_neg h]; exact k
theorem Ev.bind0 {g : Option α} {f : Nat → α → Option β} {a : α} {r : β} (h : g = some a) (k : Ev (fun n => f n a) r) : Ev (fun n => g.bind (f n)) r:=by
 subst h; exact k
theorem Ev.is {a r : α} (h : a = r) : Ev (fun _ => some a) r:=by subst h; exact Ev.now _
theorem Ev.cast {g : Nat → Option α} {a r : α} (k : Ev g a) (h : a = r) : Ev g r:=h ▸ k
theorem Ev.go {g f : Nat → Option α} {r : α} (k : Ev f r) (h : ∀ k,g (k + 1) = f k) : Ev g r:=Ev.step h k
end
theorem w64 {n : Int} (h : -9223372036854775808 ≤ n) (h' : n ≤ 9223372036854775807) : wrap64 n = n:=by unfold wrap64; omega
theorem rd_nat {l : List Int} {i : Nat} (h : i < l.length) : rd l (i : Int) = l[i]:=by simp [rd,h]
end Go.Proofs.YtljdcinpjnijcaaW.PrintWords
end
section
set_option linter.unusedSimpArgs false
set_option linter.unusedVariables false
namespace Go.Proofs.Ytljdcinpjnijcaa.Pure
open Go.RowKit Go.Proofs.Ytljdcinpjnijcaa.Pr Go.Proofs.YtljdcinpjnijcaaW.PrintWords Go.Proofs.YtljdcinpjnijcaaW.PrintLast Go.Proofs.YtljdcinpjnijcaaW.PrintMore
def inB (x a b : Int) : Bool:=decide (a ≤ x) && decide (x ≤ b)
theorem inB_iff {x a b : Int} : inB x a b = true ↔ a ≤ x ∧ x ≤ b:=by simp [inB]
theorem in1 (x a b : Int) : spec_l1In.f x a b = some (inB x a b):=by
 unfold spec_l1In.f inB
 by_cases h : x ≥ a
 case pos => rw [if_pos h]; simp [show a ≤ x from h]
 rw [if_neg h]; simp [show ¬ a ≤ x from h]
theorem within1 (x a b : Int) : impl_within.f x a b = some (inB x a b):=by
 unfold impl_within.f inB
 by_cases h : x ≥ a
 case pos => rw [if_pos h]; simp [show a ≤ x from h]
 rw [if_neg h]; simp [show ¬ a ≤ x from h]
theorem up1 {i n : Nat} (h : i < n) (hn : n ≤ maxLen) : wrap64 ((i : Int) + 1) = ((i + 1 : Nat) : Int):=by
 simp only [maxLen] at hn;rw [w64 (by omega) (by omega)]; omega
theorem rdn {l : List Int} {i : Nat} (h : i < l.length) : rd l (i : Int) = l[i]:=rd_nat h
def nth (l : List Int) (i : Nat) : Int:=l.getD i 0
theorem rdg {l : List Int} (i : Nat) : rd l (i : Int) = nth l i:=by simp [rd,nth]
theorem nth_get {l : List Int} {i : Nat} (h : i < l.length) : nth l i = l[i]:=by simp [nth,h]
theorem getD_mem {l : List Int} {i : Nat} (h : i < l.length) : nth l i ∈ l:=by
 rw [nth_get h];exact List.getElem_mem h
theorem drop_cons {α : Type} {l : List α} {i : Nat} (h : i < l.length) : l.drop i = l[i] :: l.drop (i + 1):=List.drop_eq_getElem_cons h
def Pv {α : Type} (g : Nat → Option α) (P : α → Prop) : Prop:=∃ r,Ev g r ∧ P r
section
variable {α β : Type} {P : α → Prop}
theorem Pv.of {g : Nat → Option α} {r : α} (h : Ev g r) (hp : P r) : Pv g P:=⟨r,h,hp⟩
theorem Pv.now {a : α} (h : P a) : Pv (fun _ => some a) P:=⟨a,Ev.now a,h⟩
theorem Pv.pos {c : Prop} [Decidable c] {t e : Nat → Option α} (h : c) (k : Pv t P) : Pv (fun n => if c then t n else e n) P:=by
 obtain ⟨r,k,hp⟩:=k;exact ⟨r,Ev.pos h k,hp⟩
theorem Pv.neg {c : Prop} [Decidable c] {t e : Nat → Option α} (h : ¬ c) (k : Pv e P) : Pv (fun n => if c then t n else e n) P:=by
 obtain ⟨r,k,hp⟩:=k;exact ⟨r,Ev.neg h k,hp⟩
theorem Pv.ite {c : Prop} [Decidable c] {t e : Nat → Option α} (h : c → Pv t P) (k : ¬ c → Pv e P) : Pv (fun n => if c then t n else e n) P:=by
 by_cases hc : c
 case neg => exact Pv.neg hc (k hc)
 exact Pv.pos hc (h hc)
theorem Pv.bind {g : Nat → Option β} {f : Nat → β → Option α} {R : β → Prop} (h : Pv g R) (k : ∀ b,R b → Pv (fun n => f n b) P) : Pv (fun n => (g n).bind (f n)) P:=by
 obtain ⟨b,h,hb⟩:=h;obtain ⟨r,k,hp⟩:=k b hb;exact ⟨r,Ev.bind h k,hp⟩
theorem Pv.bind0 {g : Option β} {f : Nat → β → Option α} {b : β} (h : g = some b) (k : Pv (fun n => f n b) P) : Pv (fun n => g.bind (f n)) P:=by
 obtain ⟨r,k,hp⟩:=k;exact ⟨r,Ev.bind0 h k,hp⟩
theorem Pv.go {g f : Nat → Option α} (k : Pv f P) (h : ∀ k,g (k + 1) = f k) : Pv g P:=by
 obtain ⟨r,k,hp⟩:=k;exact ⟨r,Ev.go k h,hp⟩
theorem Pv.mono {g : Nat → Option α} {R : α → Prop} (h : Pv g R) (k : ∀ a,R a → P a) : Pv g P:=by
 obtain ⟨r,h,hr⟩:=h;exact ⟨r,h,k r hr⟩
end
theorem Pv.rounds {g : Nat → Option Bool} (h : Pv g (· = true)) : ∃ k,g k = some true:=by
 obtain ⟨r,h,rfl⟩:=h;exact Ev.rounds h
end Go.Proofs.Ytljdcinpjnijcaa.Pure
end
section
set_option linter.unusedSimpArgs false
set_option linter.unusedVariables false
namespace Go.Proofs.Ytljdcinpjnijcaa.Pure
open Go.RowKit Go.Proofs.Ytljdcinpjnijcaa.Pr Go.Proofs.YtljdcinpjnijcaaW.PrintWords Go.Proofs.YtljdcinpjnijcaaW.PrintLast Go.Proofs.YtljdcinpjnijcaaW.PrintMore
section
variable {t e : Nat → Option Bool} {r : Bool}
theorem Ev.and {b : Bool} (k : Ev t r) : Ev (fun n => if b = true then t n else some false) (b && r):=by
 cases b with
 | false => exact Ev.neg (by simp) (Ev.now _)
 | true => exact Ev.pos rfl k
theorem Ev.nand {c : Prop} [Decidable c] (k : Ev t r) : Ev (fun n => if c then some false else t n) (!decide c && r):=by
 by_cases h : c
 case pos => exact Ev.pos h (Ev.is (by simp [h]))
 exact Ev.neg h (k.cast (by simp [h]))
end
abbrev Arc:=S34
def arc (l : List Arc) (i : Nat) : Arc:=rd_T34 l (i : Int)
theorem rda (l : List Arc) (i : Nat) : rd_T34 l (i : Int) = arc l i:=rfl
theorem arc_get {l : List Arc} {i : Nat} (h : i < l.length) : arc l i = l[i]:=by simp [arc,rd_T34,h]
theorem arc_mem {l : List Arc} {i : Nat} (h : i < l.length) : arc l i ∈ l:=by
 rw [arc_get h];exact List.getElem_mem h
attribute [irreducible] arc
def okArcW (n : Int) (a : Arc) : Bool:=inB a.f0 0 (wrap64 (n - 1)) && (inB a.f1 0 (wrap64 (n - 1)) && (!decide (a.f0 = a.f1) && (inB a.f2 0 99 && (inB a.f3 0 99 && inB a.f4 0 9))))
theorem l1Ok_l (n : Int) (l : List Arc) (hm : l.length ≤ maxLen) : ∀ (m i : Nat),l.length - i = m → i ≤ l.length → Ev (fun k => spec_l1Ok.l0 k (i : Int) n l) ((l.drop i).all (okArcW n) && (inB n 1 8 && decide ((l.length : Int) ≤ 16))):=by
 intro m
 induction m with
 | zero =>
  intro i hd hi;refine Ev.go ?_ (fun k => by rw [spec_l1Ok.l0]);refine Ev.neg (by omega) (Ev.bind0 (in1 _ _ _) ?_);rw [List.drop_of_length_le (by omega)];exact (Ev.and (Ev.now _)).cast (by simp)
 | succ m ih =>
  intro i hd hi;have hlt : i < l.length:=by omega
  refine Ev.go ?_ (fun k => by rw [spec_l1Ok.l0]);rw [drop_cons hlt,← arc_get hlt,List.all_cons,rda,up1 hlt hm];refine Ev.pos (by omega) (Ev.pos (by omega) ?_);refine Ev.cast (Ev.bind0 (in1 _ _ _) (Ev.and (Ev.bind0 (in1 _ _ _) (Ev.and (Ev.nand (Ev.bind0 (in1 _ _ _) (Ev.and (Ev.bind0 (in1 _ _ _) (Ev.and (Ev.bind0 (in1 _ _ _) (Ev.and (ih (i + 1) (by omega) (by omega))))))))))))) ?_;simp only [okArcW,Bool.and_assoc]
theorem okArcW_okArc {n : Int} (h : 1 ≤ n) (h8 : n ≤ 8) (a : Arc) : okArcW n a = okArc n a:=by
 unfold okArcW okArc inB okN okC
 rw [w64 (by omega) (by omega)];have e : (a.f4 ≤ 9) ↔ (a.f4 ≤ 10 - 1):=by omega
 have e2 : (a.f0 == a.f1) = decide (a.f0 = a.f1):=by
  by_cases c : a.f0 = a.f1 <;> simp [c]
 rw [e2];simp only [Bool.and_assoc,e]
theorem l1Ok_ev (n : Int) (l : List Arc) (hm : l.length ≤ maxLen) : Ev (fun k => spec_l1Ok.f k n l) (netOkB n l):=by
 unfold spec_l1Ok.f
 refine (l1Ok_l n l hm _ 0 rfl (by omega)).cast ?_
 unfold netOkB
 rw [List.drop_zero]
 by_cases h : 1 ≤ n ∧ n ≤ 8
 case pos =>
  have e : l.all (okArcW n) = l.all (okArc n):=by
   congr 1
   funext a
   exact okArcW_okArc h.1 h.2 a
  rw [e,show inB n 1 8 = true from inB_iff.2 h];simp [h.1,h.2,Bool.and_comm]
 have e : inB n 1 8 = false:=by
  cases c : inB n 1 8 with
  | false => rfl
  | true => exact absurd (inB_iff.1 c) h
 rw [e];have e2 : (decide (1 ≤ n) && decide (n ≤ 8)) = false:=e;simp only [e2,Bool.false_and,Bool.and_false]
structure NetGood (n : Int) (l : List Arc) : Prop where
 n1 : 1 ≤ n
 n8 : n ≤ 8
 len : l.length ≤ 16
 ok : ∀ i,i < l.length → (0 ≤ (arc l i).f0 ∧ (arc l i).f0 < n) ∧ (0 ≤ (arc l i).f1 ∧ (arc l i).f1 < n) ∧ (arc l i).f0 ≠ (arc l i).f1 ∧ (0 ≤ (arc l i).f2 ∧ (arc l i).f2 ≤ 99) ∧ (0 ≤ (arc l i).f3 ∧ (arc l i).f3 ≤ 99) ∧ (0 ≤ (arc l i).f4 ∧ (arc l i).f4 ≤ 9)
theorem okArc_iff (n : Int) (a : Arc) : okArc n a = true ↔ (0 ≤ a.f0 ∧ a.f0 < n) ∧ (0 ≤ a.f1 ∧ a.f1 < n) ∧ a.f0 ≠ a.f1 ∧ (0 ≤ a.f2 ∧ a.f2 ≤ 99) ∧ (0 ≤ a.f3 ∧ a.f3 ≤ 99) ∧ (0 ≤ a.f4 ∧ a.f4 ≤ 9):=by
 simp only [okArc,okN,okC,Bool.and_eq_true,decide_eq_true_eq,Bool.not_eq_true',beq_eq_false_iff_ne];constructor
 ·rintro ⟨⟨⟨⟨⟨⟨a1,a2⟩,a3,a4⟩,a5⟩,a6⟩,a7⟩,a8,a9⟩;exact ⟨⟨a1,by omega⟩,⟨a3,by omega⟩,a5,a6,a7,a8,by omega⟩
 ·rintro ⟨⟨a1,a2⟩,⟨a3,a4⟩,a5,a6,a7,a8,a9⟩;exact ⟨⟨⟨⟨⟨⟨a1,by omega⟩,a3,by omega⟩,a5⟩,a6⟩,a7⟩,a8,by omega⟩
theorem netOkB_iff (n : Int) (l : List Arc) : netOkB n l = true ↔ NetGood n l:=by
 simp only [netOkB,Bool.and_eq_true,decide_eq_true_eq,List.all_eq_true];constructor
 ·rintro ⟨⟨⟨h1,h2⟩,h3⟩,h4⟩;exact ⟨h1,h2,by omega,fun i hi => (okArc_iff n _).1 (h4 _ (arc_mem hi))⟩
 ·rintro ⟨h1,h2,h3,h4⟩;refine ⟨⟨⟨h1,h2⟩,by omega⟩,fun a ha => ?_⟩;obtain ⟨i,hi,rfl⟩:=List.getElem_of_mem ha;rw [← arc_get hi];exact (okArc_iff n _).2 (h4 i hi)
theorem hasOf {n : Int} {l : List Arc} (h : NetGood n l) (v : List Int) : impl_Net_has.f n l v = some (v.all (okN n)):=by
 have:=h.n1;have:=h.n8
 unfold impl_Net_has.f
 rw [if_pos (by omega),if_pos (by omega)]
theorem nodesIn_eq (n : Int) (l : List Arc) (v : List Int) : impl_nodesIn.f n l v = some (netOkB n l && v.all (okN n)):=by
 unfold impl_nodesIn.f
 rw [show impl_NetOk.f n l = some (netOkB n l) from rfl,Option.bind_some];cases h : netOkB n l with
 | false => rfl
 | true => rw [if_pos rfl,hasOf ((netOkB_iff n l).1 h),Option.bind_some,Bool.true_and]
end Go.Proofs.Ytljdcinpjnijcaa.Pure
end
section
set_option linter.unusedSimpArgs false
set_option linter.unusedVariables false
namespace Go.Proofs.Ytljdcinpjnijcaa.Pure
open Go.RowKit Go.Proofs.Ytljdcinpjnijcaa.Pr Go.Proofs.YtljdcinpjnijcaaW.PrintWords Go.Proofs.YtljdcinpjnijcaaW.PrintLast Go.Proofs.YtljdcinpjnijcaaW.PrintMore
def flip (a : Arc) : Arc:=⟨a.f1,a.f0,a.f2,a.f3,a.f4⟩
def back (l : List Arc) : List Arc:=l.map flip
theorem back_len (l : List Arc) : (back l).length = l.length:=by simp [back]
theorem back_arc {l : List Arc} {i : Nat} (h : i < l.length) : arc (back l) i = flip (arc l i):=by
 rw [arc_get (by rw [back_len]; exact h),arc_get h];simp [back]
theorem back_good {n : Int} {l : List Arc} (h : NetGood n l) : NetGood n (back l):=by
 refine ⟨h.n1,h.n8,by rw [back_len]; exact h.len,fun i hi => ?_⟩;rw [back_len] at hi;obtain ⟨a1,a2,a3,a4⟩:=h.ok i hi;rw [back_arc hi];exact ⟨a2,a1,fun e => a3 e.symm,a4⟩
theorem implBack_l (n : Int) (l : List Arc) (hm : l.length ≤ 1000) : ∀ (m i : Nat),l.length - i = m → i ≤ l.length → Ev (fun k => impl_Net_back.l0 k l (l.length : Int) (i : Int) n ((back l).take i)) (n,back l):=by
 intro m
 induction m with
 | zero =>
  intro i hd hi;refine Ev.go ?_ (fun k => by rw [impl_Net_back.l0]);refine Ev.neg (by omega) (Ev.is ?_);rw [List.take_of_length_le (by rw [back_len]; omega)]
 | succ m ih =>
  intro i hd hi;have hlt : i < l.length:=by omega
  refine Ev.go ?_ (fun k => by rw [impl_Net_back.l0]);have ih:=ih (i + 1) (by omega) (by omega);have hlt2 : i < (back l).length:=by rw [back_len]; exact hlt
  rw [List.take_succ_eq_append_getElem hlt2,← arc_get hlt2,back_arc hlt] at ih;rw [up1 hlt (by simp only [maxLen]; omega),rda];exact Ev.pos (by omega) (Ev.pos (by omega) (Ev.pos (by omega) (Ev.pos (by simp; omega) ih)))
theorem implBack_ev (n : Int) (l : List Arc) (hm : l.length ≤ 1000) : Ev (fun k => impl_Net_back.f k n l) (n,back l):=by
 unfold impl_Net_back.f
 exact Ev.pos (by omega) (Ev.pos (by omega) (by simpa using implBack_l n l hm _ 0 rfl (Nat.zero_le _)))
def lst (n : Nat) (F : Nat → Int) : List Int:=(List.range n).map F
theorem lst_len (n : Nat) (F : Nat → Int) : (lst n F).length = n:=by simp [lst]
theorem lst_nth {n v : Nat} (F : Nat → Int) (h : v < n) : nth (lst n F) v = F v:=by
 simp [nth,lst,h]
theorem lst_rd {n v : Nat} (F : Nat → Int) (h : v < n) : rd (lst n F) (v : Int) = F v:=by rw [rdg,lst_nth F h]
theorem lst_congr {n : Nat} {F G : Nat → Int} (h : ∀ v,v < n → F v = G v) : lst n F = lst n G:=by
 unfold lst
 exact List.map_congr_left (fun v hv => h v (List.mem_range.1 hv))
theorem lst_snoc (n : Nat) (F : Nat → Int) : lst n F ++ [F n] = lst (n + 1) F:=by
 simp [lst,List.range_succ]
def upd (F : Nat → Int) (a : Nat) (x : Int) : Nat → Int:=fun v => if v = a then x else F v
theorem lst_set {n a : Nat} (F : Nat → Int) (x : Int) : (lst n F).set a x = lst n (upd F a x):=by
 apply List.ext_getElem (by simp [lst])
 intro i h1 h2;have hi : i < n:=by simpa [lst] using h2
 simp only [List.getElem_set]
 by_cases e : a = i
 case pos => subst e; simp [lst,upd]
 simp [lst,upd,e,show ¬ i = a from fun h => e h.symm]
inductive Conn (E : Nat → Nat → Prop) : Nat → Nat → Prop
 | refl (v : Nat) : Conn E v v
 | tail {u v w : Nat} : Conn E u v → (E v w ∨ E w v) → Conn E u w
end Go.Proofs.Ytljdcinpjnijcaa.Pure
end
section
set_option linter.unusedSectionVars false
namespace Go.Proofs.Ytljdcinpjnijcaa.Sp
structure G where
 n : Nat
 m : Nat
 fr : Nat → Nat
 tw : Nat → Nat
 w : Nat → Int
 use : Nat → Bool
structure G.Ok (g : G) : Prop where
 fl : ∀ i,i < g.m → g.fr i < g.n
 tl : ∀ i,i < g.m → g.tw i < g.n
 w0 : ∀ i,i < g.m → 0 ≤ g.w i
inductive Wk (g : G) : Nat → Nat → Nat → Int → Prop
 | nil (v : Nat) : Wk g v v 0 0
 | cons {i v k : Nat} {c : Int} : i < g.m → g.use i = true → Wk g (g.tw i) v k c → Wk g (g.fr i) v (k + 1) (g.w i + c)
theorem Wk.cast {g : G} {u v k k' : Nat} {c c' : Int} (h : Wk g u v k c) (hk : k = k') (hc : c = c') : Wk g u v k' c':=by
 subst hk; subst hc; exact h
theorem Wk.trans {g : G} {u v x k j : Nat} {c d : Int} (h : Wk g u v k c) (h' : Wk g v x j d) : Wk g u x (k + j) (c + d):=by
 induction h with
 | nil => exact h'.cast (by omega) (by omega)
 | cons hi hu _ ih => exact (Wk.cons hi hu (ih h')).cast (by omega) (by omega)
theorem Wk.one {g : G} {i : Nat} (hi : i < g.m) (hu : g.use i = true) : Wk g (g.fr i) (g.tw i) 1 (g.w i) :=
 (Wk.cons hi hu (.nil _)).cast rfl (by omega)
theorem Wk.nonneg {g : G} (ok : g.Ok) {u v k : Nat} {c : Int} (h : Wk g u v k c) : 0 ≤ c:=by
 induction h with
 | nil => omega
 | cons hi _ _ ih => have:=ok.w0 _ hi; omega
theorem nodup_len : ∀ (n : Nat) (l : List Nat),l.Nodup → (∀ x ∈ l,x < n) → l.length ≤ n:=by
 intro n
 induction n with
 | zero =>
  intro l _ h;cases l with
  | nil => simp
  | cons a l => exact absurd (h a (by simp)) (by omega)
 | succ n ih =>
  intro l hn h;have h1:=ih (l.erase n) (hn.erase n) (fun x hx => by
   have h2:=h x (List.mem_of_mem_erase hx);have h3 : x ≠ n:=by
    rintro rfl;exact (List.Nodup.not_mem_erase hn) hx
   omega)
  have:=List.length_erase_le (a:=n) (l:=l);have h4 : l.length ≤ (l.erase n).length + 1:=by
   rw [List.length_erase]
   split <;> omega
  omega
inductive Sm (g : G) (t : Nat) : Nat → List Nat → Nat → Int → Prop
 | nil : Sm g t t [t] 0 0
 | cons {i k : Nat} {L : List Nat} {c : Int} : i < g.m → g.use i = true → Sm g t (g.tw i) L k c → g.fr i ∉ L → Sm g t (g.fr i) (g.fr i :: L) (k + 1) (g.w i + c)
theorem Sm.wk {g : G} {t u k : Nat} {L : List Nat} {c : Int} (h : Sm g t u L k c) : Wk g u t k c:=by
 induction h with
 | nil => exact .nil _
 | cons hi hu _ _ ih => exact .cons hi hu ih
theorem Sm.facts {g : G} (ok : g.Ok) {t u k : Nat} (ht : t < g.n) {L : List Nat} {c : Int} (h : Sm g t u L k c) : L.Nodup ∧ (∀ x ∈ L,x < g.n) ∧ L.length = k + 1:=by
 induction h with
 | nil => simp [ht]
 | cons hi _ _ hn ih =>
  refine ⟨List.nodup_cons.2 ⟨hn,ih.1⟩,?_,by simp [ih.2.2]⟩;intro x hx
  rcases List.mem_cons.1 hx with rfl | hx
  ·exact ok.fl _ hi
  ·exact ih.2.1 x hx
theorem Sm.tail {g : G} (ok : g.Ok) {t u k : Nat} {L : List Nat} {c : Int} (h : Sm g t u L k c) {x : Nat} (hx : x ∈ L) : ∃ L' k' c',Sm g t x L' k' c' ∧ k' ≤ k ∧ c' ≤ c:=by
 induction h with
 | nil =>
  obtain rfl : x = t:=by simpa using hx
  exact ⟨_,_,_,.nil,Nat.le_refl _,Int.le_refl _⟩
 | cons hi hu h hn ih =>
  rcases List.mem_cons.1 hx with rfl | hx
  ·exact ⟨_,_,_,.cons hi hu h hn,Nat.le_refl _,Int.le_refl _⟩
  ·obtain ⟨L',k',c',h1,h2,h3⟩:=ih hx;have:=ok.w0 _ hi;exact ⟨L',k',c',h1,by omega,by omega⟩
theorem Wk.simple {g : G} (ok : g.Ok) {u v k : Nat} {c : Int} (h : Wk g u v k c) : ∃ L k' c',Sm g v u L k' c' ∧ k' ≤ k ∧ c' ≤ c:=by
 induction h with
 | nil v => exact ⟨_,_,_,.nil,Nat.le_refl _,Int.le_refl _⟩
 | @cons i v k c hi hu h ih =>
  obtain ⟨L,k',c',h1,h2,h3⟩:=ih
  by_cases hm : g.fr i ∈ L
  case neg => exact ⟨_,_,_,.cons hi hu h1 hm,by omega,by omega⟩
  obtain ⟨L'',k'',c'',h4,h5,h6⟩:=h1.tail ok hm;have:=ok.w0 _ hi;exact ⟨L'',k'',c'',h4,by omega,by omega⟩
theorem Wk.short {g : G} (ok : g.Ok) {u v k : Nat} (hv : v < g.n) {c : Int} (h : Wk g u v k c) : ∃ k' c',Wk g u v k' c' ∧ k' < g.n ∧ k' ≤ k ∧ c' ≤ c:=by
 obtain ⟨L,k',c',h1,h2,h3⟩:=h.simple ok;obtain ⟨f1,f2,f3⟩:=h1.facts ok hv;have:=nodup_len _ _ f1 f2;exact ⟨k',c',h1.wk,by omega,h2,h3⟩
def Opt (g : G) (t : Nat) (L : Nat → Option Int) : Prop:=∀ v,v < g.n → (∀ x,L v = some x → ∃ k,Wk g v t k x) ∧ (∀ k c,Wk g v t k c → ∃ x,L v = some x ∧ x ≤ c)
theorem Opt.uniq {g : G} {t : Nat} {L L' : Nat → Option Int} (h : Opt g t L) (h' : Opt g t L') : ∀ v,v < g.n → L v = L' v:=by
 intro v hv;obtain ⟨a,b⟩:=h v hv;obtain ⟨a',b'⟩:=h' v hv;cases e : L v with
 | none =>
  cases e' : L' v with
  | none => rfl
  | some y =>
   obtain ⟨k,hk⟩:=a' y e';obtain ⟨x,hx,_⟩:=b k y hk;rw [e] at hx; cases hx
 | some x =>
  obtain ⟨k,hk⟩:=a x e;obtain ⟨y,hy,h1⟩:=b' k x hk;obtain ⟨k',hk'⟩:=a' y hy;obtain ⟨x',hx',h2⟩:=b k' y hk';rw [e] at hx';obtain rfl:=Option.some.inj hx';rw [hy]
  congr 1
  omega
def lts (a : Int) : Option Int → Bool
 | none => true
 | some y => decide (a < y)
def put (L : Nat → Option Int) (a : Nat) (x : Int) : Nat → Option Int:=fun v => if v = a then some x else L v
def relax (g : G) (L : Nat → Option Int) (i : Nat) : Nat → Option Int :=
 if g.use i = true then
  match L (g.tw i) with
  | none => L
  | some x => if lts (x + g.w i) (L (g.fr i)) = true then put L (g.fr i) (x + g.w i) else L
 else L
theorem relax_cases (g : G) (L : Nat → Option Int) (i : Nat) : (relax g L i = L ∧ (g.use i = true → ∀ x,L (g.tw i) = some x → lts (x + g.w i) (L (g.fr i)) = false)) ∨ (g.use i = true ∧ ∃ x,L (g.tw i) = some x ∧ lts (x + g.w i) (L (g.fr i)) = true ∧ relax g L i = put L (g.fr i) (x + g.w i)):=by
 unfold relax
 by_cases hu : g.use i = true
 case neg =>
  rw [if_neg hu];exact .inl ⟨rfl,fun h => absurd h hu⟩
 rw [if_pos hu];cases e : L (g.tw i) with
 | none => exact .inl ⟨rfl,fun _ x hx => by cases hx⟩
 | some x =>
  dsimp only
  by_cases hl : lts (x + g.w i) (L (g.fr i)) = true
  case pos =>
   rw [if_pos hl];exact .inr ⟨hu,x,rfl,hl,rfl⟩
  rw [if_neg hl];refine .inl ⟨rfl,fun _ y hy => ?_⟩;obtain rfl:=Option.some.inj hy
  simpa using hl
def sweep (g : G) (L : Nat → Option Int) : Nat → (Nat → Option Int)
 | 0 => L
 | i + 1 => relax g (sweep g L i) i
def Le (a b : Option Int) : Prop:=∀ y,b = some y → ∃ x,a = some x ∧ x ≤ y
theorem Le.refl (a : Option Int) : Le a a:=fun y h => ⟨y,h,Int.le_refl _⟩
theorem Le.trans {a b c : Option Int} (h : Le a b) (k : Le b c) : Le a c:=by
 intro y hy;obtain ⟨x,hx,h1⟩:=k y hy;obtain ⟨z,hz,h2⟩:=h x hx;exact ⟨z,hz,by omega⟩
theorem put_same (L : Nat → Option Int) (a : Nat) (x : Int) : put L a x a = some x:=by simp [put]
theorem put_far (L : Nat → Option Int) {a v : Nat} (x : Int) (h : v ≠ a) : put L a x v = L v:=by simp [put,h]
theorem relax_le (g : G) (L : Nat → Option Int) (i v : Nat) : Le (relax g L i v) (L v):=by
 rcases relax_cases g L i with ⟨e,_⟩ | ⟨_,x,hx,hl,e⟩
 ·rw [e]; exact Le.refl _
 ·rw [e]
  by_cases hv : v = g.fr i
  case neg => rw [put_far _ _ hv]; exact Le.refl _
  subst hv;rw [put_same];intro y hy;rw [hy] at hl;exact ⟨_,rfl,by simp [lts] at hl; omega⟩
theorem relax_arc (g : G) (L : Nat → Option Int) (i : Nat) (hu : g.use i = true) {x : Int} (hx : L (g.tw i) = some x) : Le (relax g L i (g.fr i)) (some (x + g.w i)):=by
 intro y hy;obtain rfl:=Option.some.inj hy
 unfold relax
 rw [if_pos hu,hx];dsimp only
 split
 ·exact ⟨_,by simp [put],Int.le_refl _⟩
 ·rename_i hl;cases e : L (g.fr i) with
  | none => rw [e] at hl; simp [lts] at hl
  | some z => rw [e] at hl; exact ⟨z,rfl,by simp [lts] at hl; omega⟩
theorem sweep_le (g : G) (L : Nat → Option Int) (i s v : Nat) : Le (sweep g L (i + s) v) (sweep g L i v):=by
 induction s with
 | zero => exact Le.refl _
 | succ s ih => exact (relax_le g _ _ v).trans ih
theorem sweep_arc (g : G) (L : Nat → Option Int) {i : Nat} (hi : i < g.m) (hu : g.use i = true) {x : Int} (hx : L (g.tw i) = some x) : ∃ y,sweep g L g.m (g.fr i) = some y ∧ y ≤ x + g.w i:=by
 have h0:=sweep_le g L 0 i (g.tw i);rw [Nat.zero_add] at h0;obtain ⟨x',hx',h1⟩:=h0 x hx;have h2:=relax_arc g (sweep g L i) i hu hx';have h3:=sweep_le g L (i + 1) (g.m - (i + 1)) (g.fr i);rw [show i + 1 + (g.m - (i + 1)) = g.m by omega] at h3;obtain ⟨y,hy,h4⟩:=(h3.trans h2) _ rfl;exact ⟨y,hy,by omega⟩
def Real (g : G) (t : Nat) (L : Nat → Option Int) : Prop:=∀ v x,L v = some x → ∃ k,Wk g v t k x
theorem relax_real {g : G} {t : Nat} {L : Nat → Option Int} (h : Real g t L) {i : Nat} (hi : i < g.m) : Real g t (relax g L i):=by
 intro v x hx
 rcases relax_cases g L i with ⟨e,_⟩ | ⟨hu,y,hy,hl,e⟩
 ·rw [e] at hx; exact h v x hx
 ·rw [e] at hx
  by_cases hv : v = g.fr i
  case neg => rw [put_far _ _ hv] at hx; exact h v x hx
  subst hv;rw [put_same] at hx;obtain rfl:=Option.some.inj hx;obtain ⟨k,hk⟩:=h _ _ hy;exact ⟨k + 1,(Wk.cons hi hu hk).cast rfl (by omega)⟩
theorem sweep_real {g : G} {t : Nat} {L : Nat → Option Int} (h : Real g t L) : ∀ i,i ≤ g.m → Real g t (sweep g L i):=by
 intro i
 induction i with
 | zero => exact fun _ => h
 | succ i ih => exact fun hi => relax_real (ih (by omega)) (by omega)
theorem opt_of_fix {g : G} {t : Nat} {L : Nat → Option Int} (h : Real g t L) (ht : Le (L t) (some 0)) (hf : ∀ v,sweep g L g.m v = L v) : Opt g t L:=by
 intro v hv0;clear hv0;refine ⟨fun x hx => h v x hx,fun k c hw => ?_⟩;clear h
 induction hw with
 | nil =>
  obtain ⟨x,hx,h1⟩:=ht 0 rfl;exact ⟨x,hx,h1⟩
 | cons hi hu _ ih =>
  obtain ⟨x,hx,h1⟩:=ih ht;obtain ⟨y,hy,h2⟩:=sweep_arc g L hi hu hx;rw [hf] at hy;exact ⟨y,hy,by omega⟩
def start (t : Nat) : Nat → Option Int:=fun v => if v = t then some 0 else none
def rounds (g : G) (t : Nat) : Nat → (Nat → Option Int)
 | 0 => start t
 | r + 1 => sweep g (rounds g t r) g.m
theorem start_real (g : G) (t : Nat) : Real g t (start t):=by
 intro v x hx
 unfold start at hx
 split at hx
 ·rename_i e;obtain rfl:=Option.some.inj hx;subst e;exact ⟨0,.nil _⟩
 ·cases hx
theorem rounds_real (g : G) (t : Nat) : ∀ r,Real g t (rounds g t r):=by
 intro r
 induction r with
 | zero => exact start_real g t
 | succ r ih => exact sweep_real ih _ (Nat.le_refl _)
theorem rounds_le (g : G) (t r s v : Nat) : Le (rounds g t (r + s) v) (rounds g t r v):=by
 induction s with
 | zero => exact Le.refl _
 | succ s ih =>
  have:=sweep_le g (rounds g t (r + s)) 0 g.m v;rw [Nat.zero_add] at this;exact this.trans ih
theorem rounds_t (g : G) (t r : Nat) : Le (rounds g t r t) (some 0):=by
 have:=rounds_le g t 0 r t;rw [Nat.zero_add] at this;exact this.trans (by simp [rounds,start]; exact Le.refl _)
theorem rounds_walk {g : G} {t r u k : Nat} {c : Int} (h : Wk g u t k c) (hk : k ≤ r) : ∃ x,rounds g t r u = some x ∧ x ≤ c:=by
 induction h generalizing r with
 | nil => exact rounds_t g _ r 0 rfl
 | cons hi hu _ ih =>
  obtain ⟨r,rfl⟩ : ∃ q,r = q + 1:=⟨r - 1,by omega⟩
  obtain ⟨x,hx,h1⟩:=ih (r:=r) (by omega);obtain ⟨y,hy,h2⟩:=sweep_arc g _ hi hu hx;exact ⟨y,hy,by omega⟩
theorem rounds_opt {g : G} (ok : g.Ok) {t r : Nat} (ht : t < g.n) (hr : g.n ≤ r + 1) : Opt g t (rounds g t r):=by
 intro v _;refine ⟨fun x hx => rounds_real g t r v x hx,fun k c hw => ?_⟩;obtain ⟨k',c',h1,h2,h3,h4⟩:=hw.short ok ht;obtain ⟨x,hx,h5⟩:=rounds_walk (r:=r) h1 (by omega);exact ⟨x,hx,by omega⟩
theorem relax_none {g : G} {L : Nat → Option Int} (hn : ∀ v,g.n ≤ v → L v = none) (ok : g.Ok) {i : Nat} (hi : i < g.m) : ∀ v,g.n ≤ v → relax g L i v = none:=by
 intro v hv
 rcases relax_cases g L i with ⟨e,_⟩ | ⟨_,x,hx,hl,e⟩
 ·rw [e]; exact hn v hv
 ·rw [e,put_far _ _ (by have:=ok.fl i hi; omega)]; exact hn v hv
theorem sweep_none {g : G} {L : Nat → Option Int} (ok : g.Ok) (hn : ∀ v,g.n ≤ v → L v = none) : ∀ i,i ≤ g.m → ∀ v,g.n ≤ v → sweep g L i v = none:=by
 intro i
 induction i with
 | zero => exact fun _ => hn
 | succ i ih => exact fun hi => relax_none (ih (by omega)) ok (by omega)
theorem rounds_none {g : G} (ok : g.Ok) {t : Nat} (ht : t < g.n) : ∀ r v,g.n ≤ v → rounds g t r v = none:=by
 intro r
 induction r with
 | zero => intro v hv; simp [rounds,start]; omega
 | succ r ih => exact sweep_none ok ih _ (Nat.le_refl _)
theorem rounds_fix {g : G} (ok : g.Ok) {t r : Nat} (ht : t < g.n) (hr : g.n ≤ r + 1) : ∀ v,rounds g t (r + 1) v = rounds g t r v:=by
 intro v
 by_cases hv : v < g.n
 case pos => exact (rounds_opt ok ht (by omega)).uniq (rounds_opt ok ht hr) v hv
 rw [rounds_none ok ht _ v (by omega),rounds_none ok ht _ v (by omega)]
theorem sweep_same {g : G} {L : Nat → Option Int} (h : ∀ v,sweep g L g.m v = L v) {i : Nat} (hi : i ≤ g.m) : ∀ v,sweep g L i v = L v:=by
 intro v;have h1:=sweep_le g L 0 i v;have h2:=sweep_le g L i (g.m - i) v;rw [Nat.zero_add] at h1;rw [show i + (g.m - i) = g.m by omega,h v] at h2;cases e : L v with
 | none =>
  cases e' : sweep g L i v with
  | none => rfl
  | some y =>
   obtain ⟨x,hx,_⟩:=h2 y e';rw [e] at hx; cases hx
 | some x =>
  obtain ⟨y,hy,a1⟩:=h1 x (by simpa [sweep] using e);obtain ⟨x',hx',a2⟩:=h2 y hy;rw [e] at hx';obtain rfl:=Option.some.inj hx';rw [hy]; congr 1; omega
theorem relax_bd {g : G} {L : Nat → Option Int} {B : Int} (h : ∀ v x,L v = some x → 0 ≤ x ∧ x ≤ B) {i : Nat} {w1 : Int} (hw0 : 0 ≤ g.w i) (hw : g.w i ≤ w1) : ∀ v x,relax g L i v = some x → 0 ≤ x ∧ x ≤ B + w1:=by
 intro v x hx
 rcases relax_cases g L i with ⟨e,_⟩ | ⟨_,y,hy,hl,e⟩
 ·rw [e] at hx; have:=h v x hx; omega
 ·rw [e] at hx
  by_cases hv : v = g.fr i
  case neg => rw [put_far _ _ hv] at hx; have:=h v x hx; omega
  subst hv;rw [put_same] at hx;obtain rfl:=Option.some.inj hx;have:=h _ _ hy; omega
end Go.Proofs.Ytljdcinpjnijcaa.Sp
namespace Go.Proofs.Ytljdcinpjnijcaa.Sp
structure Dbl (g e s : G) (D : Nat → Option Int) : Prop where
 en : e.n = g.n
 em : e.m = g.m
 ef : e.fr = g.fr
 et : e.tw = g.tw
 eu : e.use = g.use
 ew : ∀ i,i < g.m → e.w i = 1000 * g.w i + 1
 sn : s.n = g.n
 sm : s.m = g.m
 sf : s.fr = g.fr
 st : s.tw = g.tw
 sw : ∀ i,i < g.m → s.w i = 1
 su : ∀ i,i < g.m → (s.use i = true ↔ g.use i = true ∧ ∃ x,D (g.tw i) = some x ∧ D (g.fr i) = some (g.w i + x))
def both (D S : Nat → Option Int) : Nat → Option Int:=fun v =>
 match D v with
 | none => none
 | some d => match S v with
  | none => none
  | some k => some (1000 * d + k)
section
variable {g e s : G} {t : Nat} {D S : Nat → Option Int} (h : Dbl g e s D) (ok : g.Ok) (hD : Opt g t D) (hS : Opt s t S) (ht : t < g.n)
include h
theorem Dbl.okS (ok : g.Ok) : s.Ok:=by
 refine ⟨?_,?_,?_⟩
 ·rw [h.sf,h.sm,h.sn]; exact ok.fl
 ·rw [h.st,h.sm,h.sn]; exact ok.tl
 ·intro i hi;rw [h.sm] at hi;rw [h.sw i hi]; omega
theorem Dbl.toE {u v k : Nat} {c : Int} (w : Wk g u v k c) : Wk e u v k (1000 * c + k):=by
 induction w with
 | nil => exact (Wk.nil _).cast rfl (by omega)
 | @cons i v k c hi hu _ ih =>
  have h1 : Wk e (e.tw i) v k (1000 * c + k):=by rw [h.et]; exact ih
  have h2:=Wk.cons (i:=i) (by rw [h.em]; exact hi) (by rw [h.eu]; exact hu) h1;rw [h.ef,h.ew i hi] at h2;exact h2.cast rfl (by omega)
theorem Dbl.ofE {u v k : Nat} {c : Int} (w : Wk e u v k c) : ∃ c',Wk g u v k c' ∧ c = 1000 * c' + k:=by
 induction w with
 | nil => exact ⟨0,.nil _,by omega⟩
 | @cons i v k c hi hu _ ih =>
  obtain ⟨c',h1,h2⟩:=ih;rw [h.em] at hi;rw [h.eu] at hu;rw [h.et] at h1;refine ⟨g.w i + c',?_,by rw [h.ew i hi]; omega⟩;rw [h.ef];exact .cons hi hu h1
theorem Dbl.ofS (hD : Opt g t D) (ht : t < g.n) (ok : g.Ok) {u k : Nat} {c : Int} (w : Wk s u t k c) : ∃ d,D u = some d ∧ Wk g u t k d ∧ c = k:=by
 generalize ev : t = v at w
 induction w with
 | nil v =>
  subst ev;obtain ⟨x,hx,h1⟩:=(hD t ht).2 0 0 (.nil _);obtain ⟨k,hk⟩:=(hD t ht).1 x hx;have:=hk.nonneg ok;have e0 : x = 0:=by omega
  subst e0;exact ⟨0,hx,.nil _,rfl⟩
 | @cons i v k c hi hu _ ih =>
  obtain ⟨d,h1,h2,h3⟩:=ih ev;rw [h.sm] at hi;obtain ⟨g1,x,g2,g3⟩:=(h.su i hi).1 hu;rw [h.st] at h1 h2;rw [g2] at h1;obtain rfl:=Option.some.inj h1;rw [h.sf];exact ⟨_,g3,.cons hi g1 h2,by rw [h.sw i hi,h3]; omega⟩
theorem Dbl.toS (hD : Opt g t D) (ok : g.Ok) {u k : Nat} {c : Int} (w : Wk g u t k c) (hc : D u = some c) : Wk s u t k k:=by
 generalize ev : t = v at w
 induction w with
 | nil => exact .nil _
 | @cons i v k c hi hu w ih =>
  subst ev;obtain ⟨x,hx,h1⟩:=(hD _ (ok.tl i hi)).2 k c w;obtain ⟨j,hj⟩:=(hD _ (ok.tl i hi)).1 x hx;obtain ⟨y,hy,h2⟩:=(hD _ (ok.fl i hi)).2 _ _ (Wk.cons hi hu hj);rw [hc] at hy;obtain rfl:=Option.some.inj hy;have ex : x = c:=by omega
  subst ex;have h3:=ih hx rfl;rw [← h.st] at h3;have h4:=Wk.cons (i:=i) (by rw [h.sm]; exact hi) ((h.su i hi).2 ⟨hu,x,hx,hc⟩) h3;rw [h.sf,h.sw i hi] at h4;exact h4.cast rfl (by omega)
theorem Dbl.some (hD : Opt g t D) (hS : Opt s t S) (ht : t < g.n) (ok : g.Ok) {v : Nat} (hv : v < g.n) {d : Int} (hd : D v = .some d) : ∃ k : Nat,S v = .some (k : Int) ∧ k < g.n ∧ Wk s v t k k:=by
 obtain ⟨k,hk⟩:=(hD v hv).1 d hd;have w:=h.toS hD ok hk hd;obtain ⟨x,hx,h1⟩:=(hS v (by rw [h.sn]; exact hv)).2 _ _ w;obtain ⟨j,hj⟩:=(hS v (by rw [h.sn]; exact hv)).1 x hx;obtain ⟨d',e1,e2,e3⟩:=h.ofS hD ht ok hj;obtain ⟨j',c',w1,w2,w3,w4⟩:=hj.short (h.okS ok) (by rw [h.sn]; exact ht);obtain ⟨y,hy,h5⟩:=(hS v (by rw [h.sn]; exact hv)).2 _ _ w1;rw [hx] at hy;obtain rfl:=Option.some.inj hy;obtain ⟨_,_,_,e5⟩:=h.ofS hD ht ok w1;rw [h.sn] at w2;exact ⟨j,by rw [hx,e3],by omega,e3 ▸ hj⟩
theorem Dbl.opt (hD : Opt g t D) (hS : Opt s t S) (ht : t < g.n) (ok : g.Ok) (h8 : g.n ≤ 1000) : Opt e t (both D S):=by
 intro v hv;rw [h.en] at hv;constructor
 ·intro x hx
  unfold both at hx
  cases ed : D v with
  | none => rw [ed] at hx; cases hx
  | some d =>
   obtain ⟨k,hk,h1,h2⟩:=h.some hD hS ht ok hv ed;rw [ed,hk] at hx;obtain rfl:=Option.some.inj hx;obtain ⟨d',g1,g2,g3⟩:=h.ofS hD ht ok h2;rw [ed] at g1;obtain rfl:=Option.some.inj g1;exact ⟨k,h.toE g2⟩
 ·intro k c w;obtain ⟨c',w1,rfl⟩:=h.ofE w;obtain ⟨d,hd,h1⟩:=(hD v hv).2 _ _ w1;obtain ⟨j,hj,h2,h3⟩:=h.some hD hS ht ok hv hd;refine ⟨1000 * d + j,by simp [both,hd,hj],?_⟩
  by_cases e0 : d = c'
  case neg => omega
  subst e0;have w2:=h.toS hD ok w1 hd;obtain ⟨x,hx,h4⟩:=(hS v (by rw [h.sn]; exact hv)).2 _ _ w2;rw [hj] at hx;obtain rfl:=Option.some.inj hx;omega
end
end Go.Proofs.Ytljdcinpjnijcaa.Sp
end
section
set_option linter.unusedSimpArgs false
set_option linter.unusedVariables false
set_option linter.unusedSectionVars false
namespace Go.Proofs.Ytljdcinpjnijcaa.Pure
open Go.RowKit Go.Proofs.Ytljdcinpjnijcaa.Pr Go.Proofs.YtljdcinpjnijcaaW.PrintWords Go.Proofs.YtljdcinpjnijcaaW.PrintLast Go.Proofs.YtljdcinpjnijcaaW.PrintMore
open Go.Proofs.Ytljdcinpjnijcaa.Sp (G Wk Opt lts put relax sweep rounds start Dbl)
def gr (N : Nat) (l : List Arc) : G:=⟨N,l.length,fun i => (arc l i).f0.toNat,fun i => (arc l i).f1.toNat,fun i => (arc l i).f2,fun _ => true⟩
def grE (N : Nat) (l : List Arc) : G:={ gr N l with w:=fun i => 1000 * (arc l i).f2 + 1 }
def grS (N : Nat) (l : List Arc) (D : Nat → Option Int) : G:={ gr N l with w:=fun _ => 1,use:=fun i => match D (arc l i).f1.toNat with | none => false | some x => decide (D (arc l i).f0.toNat = some ((arc l i).f2 + x)) }
section
variable {N : Nat} {l : List Arc} (hg : NetGood N l)
include hg
theorem gr_ok : (gr N l).Ok:=⟨fun i hi => by have:=hg.ok i hi; show (arc l i).f0.toNat < N; omega,fun i hi => by have:=hg.ok i hi; show (arc l i).f1.toNat < N; omega,fun i hi => by have:=hg.ok i hi; show 0 ≤ (arc l i).f2; omega⟩
theorem grE_ok : (grE N l).Ok:=⟨fun i hi => by have:=hg.ok i hi; show (arc l i).f0.toNat < N; omega,fun i hi => by have:=hg.ok i hi; show (arc l i).f1.toNat < N; omega,fun i hi => by have:=hg.ok i hi; show 0 ≤ 1000 * (arc l i).f2 + 1; omega⟩
theorem grS_ok (D : Nat → Option Int) : (grS N l D).Ok:=⟨fun i hi => by have:=hg.ok i hi; show (arc l i).f0.toNat < N; omega,fun i hi => by have:=hg.ok i hi; show (arc l i).f1.toNat < N; omega,fun i hi => by show (0 : Int) ≤ 1; omega⟩
end
theorem dbl (N : Nat) (l : List Arc) (D : Nat → Option Int) : Dbl (gr N l) (grE N l) (grS N l D) D:=by
 refine ⟨rfl,rfl,rfl,rfl,rfl,fun i _ => rfl,rfl,rfl,rfl,rfl,fun i _ => rfl,fun i _ => ?_⟩
 show (match D (arc l i).f1.toNat with | none => false | some x => decide (D (arc l i).f0.toNat = some ((arc l i).f2 + x))) = true ↔ _
 cases e : D (arc l i).f1.toNat with
 | none =>
  refine ⟨fun h => (by cases h),fun ⟨_,x,h,_⟩ => ?_⟩;have h : D (arc l i).f1.toNat = some x:=h;rw [e] at h; cases h
 | some x =>
  dsimp only;rw [decide_eq_true_iff];refine ⟨fun h => ⟨rfl,x,e,h⟩,fun ⟨_,y,h,h2⟩ => ?_⟩;have h : D (arc l i).f1.toNat = some y:=h;rw [e] at h;obtain rfl:=Option.some.inj h;exact h2
def dst (N : Nat) (l : List Arc) (t : Nat) : Nat → Option Int:=rounds (gr N l) t N
def stp (N : Nat) (l : List Arc) (t : Nat) : Nat → Option Int:=rounds (grS N l (dst N l t)) t N
section
variable {N : Nat} {l : List Arc} (hg : NetGood N l) {t : Nat} (ht : t < N)
include hg ht
theorem dst_opt : Opt (gr N l) t (dst N l t):=Sp.rounds_opt (gr_ok hg) ht (by show N ≤ N + 1; omega)
theorem stp_opt : Opt (grS N l (dst N l t)) t (stp N l t):=Sp.rounds_opt (grS_ok hg _) ht (by show N ≤ N + 1; omega)
theorem stp_some {v : Nat} (hv : v < N) {d : Int} (hd : dst N l t v = some d) : ∃ k : Nat,stp N l t v = some (k : Int) ∧ k < N:=by
 obtain ⟨k,h1,h2,_⟩:=(dbl N l (dst N l t)).some (dst_opt hg ht) (stp_opt hg ht) ht (gr_ok hg) hv hd;exact ⟨k,h1,h2⟩
theorem tow_both {v : Nat} (hv : v < N) : rounds (grE N l) t N v = Sp.both (dst N l t) (stp N l t) v:=by
 have h8:=hg.n8;have h1:=Sp.rounds_opt (g:=grE N l) (t:=t) (r:=N) (grE_ok hg) ht (by show N ≤ N + 1; omega);have h2:=(dbl N l (dst N l t)).opt (dst_opt hg ht) (stp_opt hg ht) ht (gr_ok hg) (by show N ≤ 1000; omega);exact h1.uniq h2 v hv
end
abbrev Msr:=S104
def ent : Option Int → Msr
 | none => ⟨99999,0⟩
 | some x => ⟨x / 1000,x % 1000⟩
def far : Option Int → Int
 | none => 99999
 | some x => x
def lstM (N : Nat) (F : Nat → Msr) : List Msr:=(List.range N).map F
theorem lstM_len (N : Nat) (F : Nat → Msr) : (lstM N F).length = N:=by simp [lstM]
theorem lstM_rd {N v : Nat} (F : Nat → Msr) (h : v < N) : rd_T104 (lstM N F) (v : Int) = F v:=by
 simp [rd_T104,lstM,h]
theorem lstM_congr {N : Nat} {F H : Nat → Msr} (h : ∀ v,v < N → F v = H v) : lstM N F = lstM N H:=by
 unfold lstM
 exact List.map_congr_left (fun v hv => h v (List.mem_range.1 hv))
theorem lstM_set {N a : Nat} (L : Nat → Option Int) (x : Int) : (lstM N (fun v => ent (L v))).set a (ent (some x)) = lstM N (fun v => ent (put L a x v)):=by
 apply List.ext_getElem (by simp [lstM])
 intro i h1 h2;simp only [List.getElem_set]
 by_cases e : a = i
 case pos => subst e; simp [lstM,put]
 simp [lstM,put,e,show ¬ i = a from fun h => e h.symm]
theorem less_eq (a b c d : Int) : impl_measure_less.f a b c d = some (decide (a < c ∨ a = c ∧ b < d)):=by
 unfold impl_measure_less.f
 by_cases h : a < c
 case pos => rw [if_pos h,decide_eq_true (.inl h)]
 rw [if_neg h]
 by_cases h2 : a = c
 case neg => rw [if_neg h2,decide_eq_false (fun h3 => h3.elim h (fun h4 => h2 h4.1))]
 rw [if_pos h2]
 congr 1
 simp only [decide_eq_decide];exact ⟨fun h3 => .inr ⟨h2,h3⟩,fun h3 => h3.elim (fun h4 => absurd h4 h) (fun h4 => h4.2)⟩
def Bd (s : Nat) (L : Nat → Option Int) : Prop:=∀ v x,L v = some x → 0 ≤ x ∧ x / 1000 ≤ 99 * (s : Int) ∧ x % 1000 ≤ (s : Int)
theorem Bd.relax {N : Nat} {l : List Arc} (hg : NetGood N l) {s : Nat} {L : Nat → Option Int} (h : Bd s L) (hs : s < 900) {i : Nat} (hi : i < l.length) : Bd (s + 1) (relax (grE N l) L i):=by
 obtain ⟨_,_,_,⟨a1,a2⟩,_⟩:=hg.ok i hi;intro v x hx
 rcases Sp.relax_cases (grE N l) L i with ⟨e,_⟩ | ⟨_,y,hy,hl,e⟩
 ·rw [e] at hx; have:=h v x hx; omega
 ·rw [e] at hx
  by_cases hv : v = (grE N l).fr i
  case neg => rw [Sp.put_far _ _ hv] at hx; have:=h v x hx; omega
  subst hv;rw [Sp.put_same] at hx;have hx : some (y + (1000 * (arc l i).f2 + 1)) = some x:=hx;obtain rfl:=Option.some.inj hx;have:=h _ _ hy;omega
theorem Bd.sweep {N : Nat} {l : List Arc} (hg : NetGood N l) {s : Nat} {L : Nat → Option Int} (h : Bd s L) : ∀ i,i ≤ l.length → s + i ≤ 900 → Bd (s + i) (sweep (grE N l) L i):=by
 intro i
 induction i with
 | zero => exact fun _ _ => h
 | succ i ih => exact fun hi hs => (ih (by omega) (by omega)).relax hg (by omega) (by omega)
theorem Bd.mono {s r : Nat} {L : Nat → Option Int} (h : Bd s L) (hs : s ≤ r) : Bd r L:=fun v x hx => by have:=h v x hx; omega
theorem Bd.rounds {N : Nat} {l : List Arc} (hg : NetGood N l) (t : Nat) : ∀ r,r ≤ 9 → Bd (16 * r) (rounds (grE N l) t r):=by
 intro r
 induction r with
 | zero =>
  intro _ v x hx
  unfold Sp.rounds Sp.start at hx
  split at hx
  ·obtain rfl:=Option.some.inj hx; omega
  ·cases hx
 | succ r ih =>
  intro hr;have:=hg.len;exact ((ih (by omega)).sweep hg l.length (Nat.le_refl _) (by omega)).mono (by omega)
def hit (g : G) (L : Nat → Option Int) (i : Nat) : Bool:=match L (g.tw i) with
 | none => false
 | some x => lts (x + g.w i) (L (g.fr i))
def fl (g : G) (L : Nat → Option Int) : Nat → Bool
 | 0 => false
 | i + 1 => fl g L i || hit g (sweep g L i) i
theorem relax_hit {g : G} {L : Nat → Option Int} {i : Nat} (h : hit g L i = false) : relax g L i = L:=by
 unfold hit at h
 unfold Sp.relax
 split
 ·cases e : L (g.tw i) with
  | none => rfl
  | some x => rw [e] at h; dsimp only at h ⊢; rw [h]; rfl
 ·rfl
theorem fl_none {g : G} {L : Nat → Option Int} : ∀ i,fl g L i = false → sweep g L i = L
 | 0,_ => rfl
 | i + 1,h => by
  have h : (fl g L i || hit g (sweep g L i) i) = false:=h;rw [Bool.or_eq_false_iff] at h
  show relax g (sweep g L i) i = L
  rw [relax_hit h.2,fl_none i h.1]
theorem fl_same {g : G} (hu : ∀ i,g.use i = true) {L : Nat → Option Int} (h : ∀ v,sweep g L g.m v = L v) : ∀ i,i ≤ g.m → fl g L i = false
 | 0,_ => rfl
 | i + 1,hi => by
  show (fl g L i || hit g (sweep g L i) i) = false
  rw [fl_same hu h i (by omega),Bool.false_or];have e1 : sweep g L i = L:=funext (Sp.sweep_same h (by omega));have e2 : relax g L i = L:=by
   have : sweep g L (i + 1) = L:=funext (Sp.sweep_same h hi);have e3 : sweep g L (i + 1) = relax g (sweep g L i) i:=rfl;rw [e3,e1] at this;exact this
  rw [e1]
  unfold hit
  unfold Sp.relax at e2
  rw [if_pos (hu i)] at e2;cases e : L (g.tw i) with
  | none => rfl
  | some x =>
   rw [e] at e2;dsimp only at e2 ⊢;cases hl : lts (x + g.w i) (L (g.fr i)) with
   | false => rfl
   | true =>
    rw [if_pos hl] at e2;have:=congrFun e2 (g.fr i);rw [Sp.put_same] at this;rw [← this] at hl;simp [Sp.lts] at hl
section
variable {N : Nat} {l : List Arc} (hg : NetGood N l)
include hg
theorem tow_l1 (L : Nat → Option Int) {s : Nat} (hs : s ≤ 700) (hL : Bd s L) {R : List Msr} : ∀ (m i : Nat),l.length - i = m → i ≤ l.length →
  Ev (fun k => impl_Net_toward.l0 k (lstM N (fun v => ent (sweep (grE N l) L l.length v))) (fl (grE N l) L l.length) N l) R →
  Ev (fun k => impl_Net_toward.l1 k (lstM N (fun v => ent (sweep (grE N l) L i v))) (fl (grE N l) L i) l (l.length : Int) (i : Int) N l) R:=by
 have h16:=hg.len;intro m
 induction m with
 | zero =>
  intro i hd hi h;have e : i = l.length:=by omega
  subst e;refine Ev.go ?_ (fun k => by rw [impl_Net_toward.l1]);exact Ev.neg (by omega) h
 | succ m ih =>
  intro i hd hi h;have hlt : i < l.length:=by omega
  have hn:=ih (i + 1) (by omega) (by omega) h;clear ih h;have hb:=hL.sweep hg i hi (by omega);obtain ⟨⟨a1,a2⟩,⟨a3,a4⟩,a5,⟨a6,a7⟩,_⟩:=hg.ok i hlt;have ef : (grE N l).fr i = (arc l i).f0.toNat:=rfl;have et : (grE N l).tw i = (arc l i).f1.toNat:=rfl;have ew : (grE N l).w i = 1000 * (arc l i).f2 + 1:=rfl;obtain ⟨f,hf⟩:=Int.eq_ofNat_of_zero_le a1;obtain ⟨t,ht⟩:=Int.eq_ofNat_of_zero_le a3;rw [hf,Int.toNat_natCast] at ef;rw [ht,Int.toNat_natCast] at et;have hfN : f < N:=by omega
  have htN : t < N:=by omega
  have hsw : sweep (grE N l) L (i + 1) = relax (grE N l) (sweep (grE N l) L i) i:=rfl;have hfl : fl (grE N l) L (i + 1) = (fl (grE N l) L i || hit (grE N l) (sweep (grE N l) L i) i):=rfl;rw [hsw,hfl] at hn;clear hsw hfl;generalize sweep (grE N l) L i = M at hn hb;generalize fl (grE N l) L i = b at hn;refine Ev.go ?_ (fun k => by rw [impl_Net_toward.l1]);rw [rda,up1 hlt (by simp only [maxLen]; omega),hf,ht,lstM_rd _ htN,lstM_rd _ hfN,lstM_len];refine Ev.pos (by omega) (Ev.pos (by omega) (Ev.pos (by omega) (Ev.pos (by omega) (Ev.pos (by omega) ?_))));cases et2 : M t with
  | none =>
   have hh : hit (grE N l) M i = false:=by unfold hit; rw [et,et2]
   rw [hh,relax_hit hh,Bool.or_false] at hn;exact Ev.pos rfl hn
  | some x =>
   have hx:=hb t x et2;have hq : 0 ≤ x / 1000:=by omega
   have hr : 0 ≤ x % 1000:=by omega
   have w1 : wrap64 (x / 1000 + (arc l i).f2) = x / 1000 + (arc l i).f2:=w64 (by omega) (by omega);have w2 : wrap64 (x % 1000 + 1) = x % 1000 + 1:=w64 (by omega) (by omega);have e1 : (x + (1000 * (arc l i).f2 + 1)) / 1000 = x / 1000 + (arc l i).f2:=by omega
   have e2 : (x + (1000 * (arc l i).f2 + 1)) % 1000 = x % 1000 + 1:=by omega
   have eent : (⟨x / 1000 + (arc l i).f2,x % 1000 + 1⟩ : Msr) = ent (some (x + (1000 * (arc l i).f2 + 1))):=by simp only [ent,e1,e2]
   have hne : ¬ ((ent (some x)).f0 = 99999):=by show ¬ (x / 1000 = 99999); omega
   have elts : decide ((x / 1000 + (arc l i).f2) < (ent (M f)).f0 ∨ (x / 1000 + (arc l i).f2) = (ent (M f)).f0 ∧ (x % 1000 + 1) < (ent (M f)).f1) = lts (x + (1000 * (arc l i).f2 + 1)) (M f):=by
    cases ef2 : M f with
    | none => exact decide_eq_true (.inl (by show x / 1000 + (arc l i).f2 < 99999; omega))
    | some y =>
     have hy:=hb f y ef2
     show decide (_ < y / 1000 ∨ _ = y / 1000 ∧ _ < y % 1000) = decide (_ < y)
     rw [decide_eq_decide];omega
   have hh : hit (grE N l) M i = lts (x + (1000 * (arc l i).f2 + 1)) (M f):=by unfold hit; rw [et,et2,ef,ew]
   have hre : relax (grE N l) M i = if lts (x + (1000 * (arc l i).f2 + 1)) (M f) = true then put M f (x + (1000 * (arc l i).f2 + 1)) else M:=by
    unfold Sp.relax
    rw [if_pos (show (grE N l).use i = true from rfl),et,et2,ef,ew]
   rw [hh,hre] at hn;clear hh hre;refine Ev.neg hne ?_
   show Ev (fun k => if 0 ≤ ((f : Nat) : Int) then _ else _) R
   rw [show (ent (some x)).f0 = x / 1000 from rfl,show (ent (some x)).f1 = x % 1000 from rfl,w1,w2,Int.toNat_natCast,eent,lstM_set];clear w1 w2 hne;refine Ev.pos (by omega) (Ev.pos (by omega) (Ev.bind0 (less_eq _ _ _ _) ?_));rw [elts];cases c : lts (x + (1000 * (arc l i).f2 + 1)) (M f) with
   | true =>
    rw [c,if_pos rfl,Bool.or_true] at hn;exact Ev.pos rfl hn
   | false =>
    rw [c,if_neg (by simp),Bool.or_false] at hn;exact Ev.neg (by simp) hn
theorem tow_l0 {t : Nat} (ht : t < N) : ∀ d r,r + d = N → Ev (fun k => impl_Net_toward.l0 k (lstM N (fun v => ent (rounds (grE N l) t r v))) true N l) (lstM N (fun v => ent (rounds (grE N l) t N v))):=by
 have h8:=hg.n8;have stop : ∀ r,r ≤ N → fl (grE N l) (rounds (grE N l) t r) l.length = false → lstM N (fun v => ent (rounds (grE N l) t (r + 1) v)) = lstM N (fun v => ent (rounds (grE N l) t N v)):=by
  intro r hr hf;have e:=fl_none l.length hf;have o1 : Opt (grE N l) t (rounds (grE N l) t r):=Sp.opt_of_fix (Sp.rounds_real _ _ _) (Sp.rounds_t _ _ _) (fun v => congrFun e v);have o2:=Sp.rounds_opt (g:=grE N l) (t:=t) (r:=N) (grE_ok hg) ht (by show N ≤ N + 1; omega);refine lstM_congr (fun v hv => ?_);have e2 : rounds (grE N l) t (r + 1) = rounds (grE N l) t r:=e;rw [e2,o1.uniq o2 v hv]
 intro d
 induction d with
 | zero =>
  intro r hr;obtain rfl : r = N:=by omega
  refine Ev.go ?_ (fun k => by rw [impl_Net_toward.l0]);refine Ev.pos rfl (tow_l1 hg (rounds (grE r l) t r) (s:=16 * r) (by omega) (Bd.rounds hg t r (by omega)) _ 0 rfl (Nat.zero_le _) ?_);have hf:=fl_same (g:=grE r l) (fun _ => rfl) (L:=rounds (grE r l) t r) (Sp.rounds_fix (grE_ok hg) ht (by show r ≤ r + 1; omega)) l.length (Nat.le_refl _);rw [hf];refine Ev.go ?_ (fun k => by rw [impl_Net_toward.l0]);exact Ev.neg (by simp) (Ev.is (stop r (Nat.le_refl _) hf))
 | succ d ih =>
  intro r hr;refine Ev.go ?_ (fun k => by rw [impl_Net_toward.l0]);refine Ev.pos rfl (tow_l1 hg (rounds (grE N l) t r) (s:=16 * r) (by omega) (Bd.rounds hg t r (by omega)) _ 0 rfl (Nat.zero_le _) ?_);cases hf : fl (grE N l) (rounds (grE N l) t r) l.length with
  | true => exact ih (r + 1) (by omega)
  | false =>
   refine Ev.go ?_ (fun k => by rw [impl_Net_toward.l0]);exact Ev.neg (by simp) (Ev.is (stop r (by omega) hf))
theorem tow_ev {t : Nat} (ht : t < N) : Ev (fun k => impl_Net_toward.f k N l (t : Int)) (lstM N (fun v => ent (rounds (grE N l) t N v))):=by
 have h8:=hg.n8
 unfold impl_Net_toward.f
 refine Ev.bind0 (rep_measure _ N (by omega)) ?_;refine Ev.pos (by omega) (Ev.pos (by simp; omega) ?_);have e : (List.replicate N (⟨99999,0⟩ : Msr)).set (t : Int).toNat ⟨0,0⟩ = lstM N (fun v => ent (rounds (grE N l) t 0 v)):=by
  apply List.ext_getElem (by simp [lstM])
  intro i h1 h2;simp only [Int.toNat_natCast,List.getElem_set]
  by_cases c : t = i
  case pos => subst c; simp [lstM,Sp.rounds,Sp.start,ent]
  simp [lstM,Sp.rounds,Sp.start,ent,c,show ¬ i = t from fun h => c h.symm]
 rw [e];exact tow_l0 hg ht N 0 (by omega)
theorem ent_far {t : Nat} (ht : t < N) {v : Nat} (hv : v < N) : (ent (rounds (grE N l) t N v)).f0 = far (dst N l t v):=by
 have h8:=hg.n8;rw [tow_both hg ht hv]
 unfold Sp.both
 cases e : dst N l t v with
 | none => rfl
 | some d =>
  obtain ⟨k,h1,h2⟩:=stp_some hg ht hv e;rw [h1]
  show (1000 * d + (k : Int)) / 1000 = d
  omega
end
theorem costs_l (N : Nat) (hN : N ≤ 64) (F : Nat → Msr) : ∀ (m i : Nat),N - i = m → i ≤ N → Ev (fun k => impl_costs.l0 k (lst i (fun v => (F v).f0)) (lstM N F) (N : Int) (i : Int)) (lst N (fun v => (F v).f0)):=by
 intro m
 induction m with
 | zero =>
  intro i hd hi;refine Ev.go ?_ (fun k => by rw [impl_costs.l0]);obtain rfl : i = N:=by omega
  exact Ev.neg (by omega) (Ev.now _)
 | succ m ih =>
  intro i hd hi;refine Ev.go ?_ (fun k => by rw [impl_costs.l0]);rw [up1 (show i < N by omega) (by simp only [maxLen]; omega),lstM_rd F (show i < N by omega),lst_snoc i (fun v => (F v).f0),lst_len,lstM_len];exact Ev.pos (by omega) (Ev.pos (by omega) (Ev.pos (by omega) (Ev.pos (by omega) (ih (i + 1) (by omega) (by omega)))))
theorem costs_ev (N : Nat) (hN : N ≤ 64) (F : Nat → Msr) : Ev (fun k => impl_costs.f k (lstM N F)) (lst N (fun v => (F v).f0)):=by
 unfold impl_costs.f
 rw [lstM_len];exact Ev.pos (by omega) (Ev.pos (by omega) (costs_l N hN F _ 0 rfl (Nat.zero_le _)))
theorem from_ev {N : Nat} {l : List Arc} (hg : NetGood N l) {s : Nat} (hs : s < N) : Ev (fun k => impl_Net_from.f k N l (s : Int)) (lst N (fun v => far (dst N (back l) s v))):=by
 have h8:=hg.n8;have h16:=hg.len
 unfold impl_Net_from.f
 refine Ev.bind (implBack_ev _ l (by omega)) (Ev.bind (tow_ev (back_good hg) hs) (Ev.bind (costs_ev N (by omega) _) (Ev.is ?_)));exact lst_congr (fun v hv => ent_far (back_good hg) hs hv)
end Go.Proofs.Ytljdcinpjnijcaa.Pure
end
section
namespace Go.Proofs.Ytljdcinpjnijcaa.Pr
open Go.RowKit Go.Proofs.YtljdcinpjnijcaaW.PrintWords Go.Proofs.YtljdcinpjnijcaaW.PrintLast Go.Proofs.YtljdcinpjnijcaaW.PrintMore
attribute [local go_sem] max2_int min2_int max_two min_two max_three min_three max_four min_four
set_option linter.unusedVariables false
set_option linter.unusedSimpArgs false
open List renaming setIfInBounds_toArray → U,set_cons_zero → V,set_cons_succ → Z
open Go.Proofs.YtljdcinpjnijcaaW.PrintWords.Aside0 renaming mk → zx
mutual
def impl_WalkOk.j0 : Nat → List Int → Bool → Int → List (S34) → Option (Bool)
 | 0,_,_,_,_ => none
 | k + 1,x1,x14,q9,p6 => if x14 = true then (some false) else (impl_WalkOk.l0 k x1 x1 (x1.length : Int) 0 q9 p6)
def impl_WalkOk.l0 : Nat → List Int → List Int → Int → Int → Int → List (S34) → Option (Bool)
 | 0,_,_,_,_,_,_ => none
 | k + 1,x1,x15,x16,x17,q9,p6 => if x17 < x16 then (if 0 ≤ x17 then (if x17 < (x15.length : Int) then ((impl_within.f (rd x15 x17) 0 (wrap64 ((p6.length : Int) - 1))).bind fun t907 => (if t907 = true then (if x17 > 0 then (if 0 ≤ (wrap64 (x17 - 1)) then (if (wrap64 (x17 - 1)) < (x1.length : Int) then (if 0 ≤ (rd x1 (wrap64 (x17 - 1))) then (if (rd x1 (wrap64 (x17 - 1))) < (p6.length : Int) then (if 0 ≤ (rd x15 x17) then (if (rd x15 x17) < (p6.length : Int) then (if ((rd_T34 p6 (rd x1 (wrap64 (x17 - 1)))).f1) = ((rd_T34 p6 (rd x15 x17)).f0) then (impl_WalkOk.l0 k x1 x15 x16 (wrap64 (x17 + 1)) q9 p6) else (some false)) else (none)) else (none)) else (none)) else (none)) else (none)) else (none)) else (impl_WalkOk.l0 k x1 x15 x16 (wrap64 (x17 + 1)) q9 p6)) else (some false))) else (none)) else (none)) else (some true)
end
end Go.Proofs.Ytljdcinpjnijcaa.Pr
end
section
set_option linter.unusedSimpArgs false
set_option linter.unusedVariables false
set_option linter.unusedSectionVars false
namespace Go.Proofs.Ytljdcinpjnijcaa.Pure
open Go.RowKit Go.Proofs.Ytljdcinpjnijcaa.Pr Go.Proofs.YtljdcinpjnijcaaW.PrintWords Go.Proofs.YtljdcinpjnijcaaW.PrintLast Go.Proofs.YtljdcinpjnijcaaW.PrintMore
open Go.Proofs.Ytljdcinpjnijcaa.Sp (G Wk Opt)
def wkB (l : List Arc) : Option Int → List Int → Bool
 | _,[] => true
 | p,k :: w => (inB k 0 ((l.length : Int) - 1) && (match p with | none => true | some q => decide ((arc l q.toNat).f1 = (arc l k.toNat).f0))) && wkB l (some k) w
def Chain (l : List Arc) : Int → List Int → Int → Prop
 | u,[],v => u = v
 | u,k :: w,v => (0 ≤ k ∧ k < l.length ∧ (arc l k.toNat).f0 = u) ∧ Chain l (arc l k.toNat).f1 w v
def sumW (l : List Arc) (w : List Int) : Int:=(w.map fun k => (arc l k.toNat).f2).sum
theorem Chain.walk {N : Nat} {l : List Arc} (hg : NetGood N l) : ∀ (w : List Int) (u v : Int),Chain l u w v → Wk (gr N l) u.toNat v.toNat w.length (sumW l w)
 | [],u,v,h => by
  have h : u = v:=h;subst h;exact .nil _
 | k :: w,u,v,h => by
  have ih:=Chain.walk hg w _ v h.2;have h1:=h.1.1;have h2:=h.1.2.1;have e:=Wk.cons (g:=gr N l) (i:=k.toNat) (by show k.toNat < l.length; omega) rfl ih;have e1 : (gr N l).fr k.toNat = u.toNat:=by show (arc l k.toNat).f0.toNat = _; rw [h.1.2.2]
  rw [e1] at e;exact e.cast rfl (by simp [sumW,gr])
theorem sumW_bd {N : Nat} {l : List Arc} (hg : NetGood N l) : ∀ (w : List Int),(∀ k ∈ w,0 ≤ k ∧ k < l.length) → 0 ≤ sumW l w ∧ sumW l w ≤ 99 * (w.length : Int)
 | [],_ => by simp [sumW]
 | k :: w,h => by
  have ih:=sumW_bd hg w (fun x hx => h x (List.mem_cons_of_mem _ hx));have h1:=h k (List.mem_cons_self ..);have h2:=(hg.ok k.toNat (by omega)).2.2.2.1;have e : sumW l (k :: w) = (arc l k.toNat).f2 + sumW l w:=by simp [sumW]
  rw [e,List.length_cons];omega
theorem Chain.rng {l : List Arc} : ∀ (w : List Int) (u v : Int),Chain l u w v → ∀ k ∈ w,0 ≤ k ∧ k < l.length
 | [],_,_,_,k,hk => by simp at hk
 | a :: w,u,v,h,k,hk => by
  rcases List.mem_cons.1 hk with rfl | hk
  ·exact ⟨h.1.1,h.1.2.1⟩
  ·exact Chain.rng w _ v h.2 k hk
def prv (w : List Int) : Nat → Option Int
 | 0 => none
 | i + 1 => some (nth w i)
theorem walkOk_l (n : Int) {l : List Arc} (hl : l.length ≤ 1000) {w : List Int} (hw : w.length ≤ 1000) : ∀ (m i : Nat),w.length - i = m → i ≤ w.length → (∀ q,prv w i = some q → 0 ≤ q ∧ q < l.length) → Ev (fun k => impl_WalkOk.l0 k w w (w.length : Int) (i : Int) n l) (wkB l (prv w i) (w.drop i)):=by
 intro m
 induction m with
 | zero =>
  intro i hd hi _;refine Ev.go ?_ (fun k => by rw [impl_WalkOk.l0]);rw [List.drop_of_length_le (by omega)];exact Ev.neg (by omega) (Ev.is (by cases prv w i <;> rfl))
 | succ m ih =>
  intro i hd hi hp;have hlt : i < w.length:=by omega
  refine Ev.go ?_ (fun k => by rw [impl_WalkOk.l0]);rw [rdg i,up1 hlt (by simp only [maxLen]; omega),drop_cons hlt,← nth_get hlt];refine Ev.pos (by omega) (Ev.pos (by omega) (Ev.pos (by omega) (Ev.bind0 (within1 _ _ _) ?_)));rw [w64 (n:=(l.length : Int) - 1) (by omega) (by omega)];cases hb : inB (nth w i) 0 ((l.length : Int) - 1) with
  | false => exact Ev.neg (by simp) (Ev.is (by simp [wkB,hb]))
  | true =>
   have hk:=inB_iff.1 hb;have ih:=ih (i + 1) (by omega) (by omega) (fun q hq => by obtain rfl:=Option.some.inj hq; omega);refine Ev.pos rfl ?_;cases i with
   | zero => exact Ev.neg (by omega) (ih.cast (by simp [wkB,hb,prv]))
   | succ j =>
    have hq:=hp (nth w j) rfl;have e : wrap64 (((j + 1 : Nat) : Int) - 1) = (j : Int):=by rw [w64 (by omega) (by omega)]; omega
    rw [e,rdg j];have ea : ∀ q : Int,0 ≤ q → rd_T34 l q = arc l q.toNat:=fun q h => by rw [← rda]; congr 1; omega
    rw [ea _ hq.1,ea _ hk.1];refine Ev.pos (by omega) (Ev.pos (by omega) (Ev.pos (by omega) (Ev.pos (by omega) (Ev.pos (by omega) (Ev.pos (by omega) (Ev.pos (by omega) ?_))))))
    by_cases c : (arc l (nth w j).toNat).f1 = (arc l (nth w (j + 1)).toNat).f0
    case neg => exact Ev.neg c (Ev.is (by simp [wkB,hb,prv,c]))
    exact Ev.pos c (ih.cast (by simp [wkB,hb,prv,c]))
theorem cost_l {N : Nat} {l : List Arc} (hg : NetGood N l) {w : List Int} (hw : w.length ≤ 1000) (hk : ∀ k ∈ w,0 ≤ k ∧ k < l.length) : ∀ (m i : Nat),w.length - i = m → i ≤ w.length → Ev (fun k => impl_Net_cost.l0 k (sumW l (w.take i)) w (w.length : Int) (i : Int) N l) (sumW l w):=by
 intro m
 induction m with
 | zero =>
  intro i hd hi;refine Ev.go ?_ (fun k => by rw [impl_Net_cost.l0]);rw [List.take_of_length_le (by omega)];exact Ev.neg (by omega) (Ev.now _)
 | succ m ih =>
  intro i hd hi;have hlt : i < w.length:=by omega
  have h1:=hk w[i] (List.getElem_mem hlt);have h2:=(hg.ok w[i].toNat (by omega)).2.2.2.1;have hb:=sumW_bd hg (w.take i) (fun k hx => hk k (List.mem_of_mem_take hx));rw [List.length_take] at hb;refine Ev.go ?_ (fun k => by rw [impl_Net_cost.l0]);have ih:=ih (i + 1) (by omega) (by omega);have e : sumW l (w.take (i + 1)) = sumW l (w.take i) + (arc l w[i].toNat).f2:=by
   unfold sumW
   rw [List.take_succ_eq_append_getElem hlt,List.map_append,List.sum_append_int,List.map_singleton,List.sum_singleton]
  rw [e] at ih;have ea : rd_T34 l w[i] = arc l w[i].toNat:=by rw [← rda]; congr 1; omega
  rw [rdg i,nth_get hlt,ea,up1 hlt (by simp only [maxLen]; omega),w64 (n:=sumW l (w.take i) + _) (by omega) (by omega)];exact Ev.pos (by omega) (Ev.pos (by omega) (Ev.pos (by omega) (Ev.pos (by omega) (Ev.pos (by omega) ih))))
theorem cost_ev {N : Nat} {l : List Arc} (hg : NetGood N l) {w : List Int} (hw : w.length ≤ 1000) (hk : ∀ k ∈ w,0 ≤ k ∧ k < l.length) : Ev (fun k => impl_Net_cost.f k N l w) (sumW l w):=by
 unfold impl_Net_cost.f
 simpa [sumW] using cost_l hg hw hk _ 0 rfl (Nat.zero_le _)
theorem back_arc' (l : List Arc) (i : Nat) : arc (back l) i = flip (arc l i):=by
 by_cases h : i < l.length
 case pos => exact back_arc h
 have e1 : arc (back l) i = z34:=by unfold arc; simp [rd_T34,back_len,List.getElem?_eq_none (show l.length ≤ i by omega),List.getElem?_eq_none (show (back l).length ≤ i by rw [back_len]; omega)]
 have e2 : arc l i = z34:=by unfold arc; simp [rd_T34,List.getElem?_eq_none (show l.length ≤ i by omega)]
 rw [e1,e2]; rfl
theorem back_back (l : List Arc) : back (back l) = l:=by
 unfold back
 rw [List.map_map];have : (flip ∘ flip : Arc → Arc) = id:=by funext a; rfl
 rw [this,List.map_id]
theorem walk_back {N : Nat} {l : List Arc} {u v k : Nat} {c : Int} (h : Wk (gr N l) u v k c) : Wk (gr N (back l)) v u k c:=by
 induction h with
 | nil v => exact .nil v
 | @cons i v k c hi hu _ ih =>
  have h1:=Wk.one (g:=gr N (back l)) (i:=i) (by show i < (back l).length; rw [back_len]; exact hi) rfl;have e1 : (gr N (back l)).fr i = (gr N l).tw i:=by show (arc (back l) i).f0.toNat = _; rw [back_arc']; rfl
  have e2 : (gr N (back l)).tw i = (gr N l).fr i:=by show (arc (back l) i).f1.toNat = _; rw [back_arc']; rfl
  have e3 : (gr N (back l)).w i = (gr N l).w i:=by show (arc (back l) i).f2 = _; rw [back_arc']; rfl
  rw [e1,e2,e3] at h1;exact (ih.trans h1).cast rfl (by omega)
def pA (N : Nat) (l : List Arc) (t u : Nat) (a : Arc) : Bool:=decide (a.f0 = (u : Int)) && match dst N l t a.f1.toNat,stp N l t a.f1.toNat with
 | some x,some k => decide (dst N l t u = some (a.f2 + x)) && decide (stp N l t u = some (k + 1))
 | _,_ => false
def nxA (N : Nat) (l : List Arc) (t u : Nat) : Int:=idxI (pA N l t u) l
def bestW (N : Nat) (l : List Arc) (t : Nat) : Nat → Nat → List Int
 | 0,_ => []
 | k + 1,u => nxA N l t u :: bestW N l t k (arc l (nxA N l t u).toNat).f1.toNat
theorem idxI_spec {α : Type} {p : α → Bool} {l : List α} (h : ∃ x ∈ l,p x = true) : ∃ i : Nat,∃ hi : i < l.length,idxI p l = (i : Int) ∧ p l[i] = true ∧ ∀ j (hj : j < i),p (l[j]'(by omega)) = false:=by
 unfold idxI
 cases e : l.findIdx? p with
 | none =>
  obtain ⟨x,hx,hp⟩:=h;have:=List.findIdx?_eq_none_iff.1 e x hx;rw [this] at hp; cases hp
 | some i =>
  obtain ⟨hi,h1,h2⟩:=List.findIdx?_eq_some_iff_getElem.1 e;exact ⟨i,hi,rfl,h1,fun j hj => by simpa using h2 j hj⟩
theorem wk_cost {N : Nat} {l : List Arc} (hg : NetGood N l) {u v k : Nat} {c : Int} (w : Wk (gr N l) u v k c) : c ≤ 99 * (k : Int):=by
 induction w with
 | nil => omega
 | @cons i _ _ c hi _ _ ih =>
  have h : (gr N l).w i ≤ 99:=(hg.ok i hi).2.2.2.1.2;omega
section
variable {N : Nat} {l : List Arc} (hg : NetGood N l) {t : Nat} (ht : t < N)
include hg ht
theorem dst_t : dst N l t t = some 0:=by
 obtain ⟨x,h1,h2⟩:=(dst_opt hg ht t ht).2 0 0 (.nil t);obtain ⟨k,w⟩:=(dst_opt hg ht t ht).1 x h1;have:=w.nonneg (gr_ok hg);rw [h1]; congr 1; omega
theorem stp_t : stp N l t t = some 0:=by
 obtain ⟨x,h1,h2⟩:=(stp_opt hg ht t ht).2 0 0 (.nil t);obtain ⟨k,w⟩:=(stp_opt hg ht t ht).1 x h1;have:=w.nonneg (grS_ok hg _);rw [h1]; congr 1; omega
theorem dst_bd {v : Nat} (hv : v < N) {d : Int} (h : dst N l t v = some d) : 0 ≤ d ∧ d ≤ 693:=by
 have h8:=hg.n8;obtain ⟨k,w⟩:=(dst_opt hg ht v hv).1 d h;obtain ⟨k',c',w',h1,h2,h3⟩:=w.short (gr_ok hg) ht;obtain ⟨x,h4,h5⟩:=(dst_opt hg ht v hv).2 _ _ w';rw [h] at h4;obtain rfl:=Option.some.inj h4;have h6:=wk_cost hg w';have h7 : k' < N:=h1;exact ⟨w.nonneg (gr_ok hg),by omega⟩
theorem pA_some {u : Nat} (hu : u < N) (hne : u ≠ t) {d : Int} (hd : dst N l t u = some d) {k : Nat} (hk : stp N l t u = some (k : Int)) : ∃ a ∈ l,pA N l t u a = true:=by
 obtain ⟨j,w⟩:=(stp_opt hg ht u hu).1 _ hk;have hN:=(dbl N l (dst N l t))
 generalize hc : (k : Int) = c at w;cases w with
 | nil => exact absurd rfl hne
 | @cons i v _ c hi hus w =>
  have hil : i < l.length:=hi;have hok:=hg.ok i hil;have ew : (grS N l (dst N l t)).w i = 1:=rfl;have ef : (grS N l (dst N l t)).fr i = (arc l i).f0.toNat:=rfl;have et : (grS N l (dst N l t)).tw i = (arc l i).f1.toNat:=rfl;rw [ew] at hc;rw [et] at w;rw [ef] at hu hd hk;obtain ⟨_,x,e1,e2⟩:=(hN.su i hi).1 hus;have e1 : dst N l t (arc l i).f1.toNat = some x:=e1;have e2 : dst N l t (arc l i).f0.toNat = some ((arc l i).f2 + x):=e2;have h1N : (arc l i).f1.toNat < N:=by omega
  obtain ⟨k',e3,h3⟩:=stp_some hg ht h1N e1;obtain ⟨y,e4,h4⟩:=(stp_opt hg ht _ h1N).2 _ _ w;rw [e3] at e4;obtain rfl:=Option.some.inj e4;obtain ⟨j2,w2⟩:=(stp_opt hg ht _ h1N).1 _ e3;have w3:=Wk.cons (g:=grS N l (dst N l t)) (i:=i) hi hus w2;rw [ef] at w3;obtain ⟨z,e5,h5⟩:=(stp_opt hg ht _ hu).2 _ _ w3;rw [hk] at e5;obtain rfl:=Option.some.inj e5;rw [ew] at h5;refine ⟨arc l i,arc_mem hil,?_⟩
  show (decide ((arc l i).f0 = (((arc l i).f0.toNat : Nat) : Int)) && _) = true
  rw [decide_eq_true (by omega),Bool.true_and,ef,e1,e3];dsimp only;rw [decide_eq_true e2,Bool.true_and,hk];exact decide_eq_true (by congr 1; omega)
theorem nx_ok {u : Nat} (hu : u < N) (hne : u ≠ t) {d : Int} (hd : dst N l t u = some d) {k : Nat} (hk : stp N l t u = some (k : Int)) : ∃ i : Nat,nxA N l t u = (i : Int) ∧ i < l.length ∧ (arc l i).f0 = (u : Int) ∧ (arc l i).f1.toNat < N ∧ dst N l t (arc l i).f1.toNat = some (d - (arc l i).f2) ∧ 0 < k ∧ stp N l t (arc l i).f1.toNat = some ((k - 1 : Nat) : Int) ∧ pA N l t u (arc l i) = true ∧ ∀ j,j < i → pA N l t u (arc l j) = false:=by
 obtain ⟨i,hi,e,hp,hf⟩:=idxI_spec (pA_some hg ht hu hne hd hk);rw [← arc_get hi] at hp;have hp0:=hp
 unfold pA at hp
 rw [Bool.and_eq_true,decide_eq_true_eq] at hp;obtain ⟨h1,h2⟩:=hp;have hok:=hg.ok i hi;have h1N : (arc l i).f1.toNat < N:=by omega
 cases e1 : dst N l t (arc l i).f1.toNat with
 | none => rw [e1] at h2; cases h2
 | some x =>
  obtain ⟨k',e2,_⟩:=stp_some hg ht h1N e1;rw [e1,e2] at h2;dsimp only at h2;rw [Bool.and_eq_true,decide_eq_true_eq,decide_eq_true_eq,hd,hk] at h2;have a1:=Option.some.inj h2.1;have a2:=Option.some.inj h2.2;refine ⟨i,e,hi,h1,h1N,by rw [show d - (arc l i).f2 = x by omega,e1],by omega,by rw [e2]; congr 1; omega,hp0,fun j hj => ?_⟩;rw [arc_get (by omega)];exact hf j hj
theorem bestW_ok : ∀ (k u : Nat) (d : Int),u < N → dst N l t u = some d → stp N l t u = some (k : Int) → Chain l (u : Int) (bestW N l t k u) (t : Int) ∧ (bestW N l t k u).length = k ∧ sumW l (bestW N l t k u) = d
 | 0,u,d,hu,hd,hk => by
  have hut : u = t:=by
   apply Classical.byContradiction
   intro hne;obtain ⟨i,_,_,_,_,_,h0,_⟩:=nx_ok hg ht hu hne hd hk;omega
  subst hut;rw [dst_t hg ht] at hd;exact ⟨rfl,rfl,Option.some.inj hd⟩
 | k + 1,u,d,hu,hd,hk => by
  have hne : u ≠ t:=by
   rintro rfl;rw [stp_t hg ht] at hk;have:=Option.some.inj hk;omega
  obtain ⟨i,e,hi,h1,h2,h3,_,h4,_⟩:=nx_ok hg ht hu hne hd hk;have hok:=hg.ok i hi;obtain ⟨a,b,c⟩:=bestW_ok k (arc l i).f1.toNat _ h2 h3 h4;have e0 : bestW N l t (k + 1) u = (i : Int) :: bestW N l t k (arc l i).f1.toNat:=by
   show nxA N l t u :: bestW N l t k (arc l (nxA N l t u).toNat).f1.toNat = _
   rw [e,Int.toNat_natCast]
  rw [e0];refine ⟨⟨⟨by omega,by omega,by rw [Int.toNat_natCast]; exact h1⟩,?_⟩,by rw [List.length_cons,b],?_⟩
  ·rw [Int.toNat_natCast];rw [show (((arc l i).f1.toNat : Nat) : Int) = (arc l i).f1 by omega] at a;exact a
  ·have : sumW l ((i : Int) :: bestW N l t k (arc l i).f1.toNat) = (arc l i).f2 + sumW l (bestW N l t k (arc l i).f1.toNat):=by simp [sumW]
   rw [this,c]; omega
end
end Go.Proofs.Ytljdcinpjnijcaa.Pure
end
section
set_option linter.unusedSimpArgs false
set_option linter.unusedVariables false
set_option linter.unusedSectionVars false
namespace Go.Proofs.Ytljdcinpjnijcaa.Pure
open Go.RowKit Go.Proofs.Ytljdcinpjnijcaa.Pr Go.Proofs.YtljdcinpjnijcaaW.PrintWords Go.Proofs.YtljdcinpjnijcaaW.PrintLast Go.Proofs.YtljdcinpjnijcaaW.PrintMore
open Go.Proofs.Ytljdcinpjnijcaa.Sp (G Wk Opt rounds)
theorem idxI_congr {α : Type} {p q : α → Bool} {l : List α} (h : ∀ a ∈ l,p a = q a) : idxI p l = idxI q l:=by
 have e : l.findIdx? p = l.findIdx? q:=by
  induction l with
  | nil => rfl
  | cons a l ih =>
   rw [List.findIdx?_cons,List.findIdx?_cons,h a (List.mem_cons_self ..),ih (fun b hb => h b (List.mem_cons_of_mem _ hb))]
 unfold idxI
 rw [e]
section
variable {N : Nat} {l : List Arc} (hg : NetGood N l) {t : Nat} (ht : t < N)
include hg ht
theorem ent_none {v : Nat} (hv : v < N) (h : dst N l t v = none) : ent (rounds (grE N l) t N v) = ⟨99999,0⟩:=by
 rw [tow_both hg ht hv]
 unfold Sp.both
 rw [h]; rfl
theorem ent_some {v : Nat} (hv : v < N) {d : Int} {k : Nat} (h : dst N l t v = some d) (hk : stp N l t v = some (k : Int)) : ent (rounds (grE N l) t N v) = ⟨d,(k : Int)⟩:=by
 have h8:=hg.n8;obtain ⟨k',h1,h2⟩:=stp_some hg ht hv h;rw [hk] at h1;have:=Option.some.inj h1;rw [tow_both hg ht hv]
 unfold Sp.both
 rw [h,hk]
 show (⟨(1000 * d + (k : Int)) / 1000,(1000 * d + (k : Int)) % 1000⟩ : Msr) = ⟨d,(k : Int)⟩
 rw [show (1000 * d + (k : Int)) / 1000 = d by omega,show (1000 * d + (k : Int)) % 1000 = (k : Int) by omega]
theorem farc_pA {u : Nat} (hu : u < N) {d : Int} {k : Nat} (hd : dst N l t u = some d) (hk : stp N l t u = some (k : Int)) : ∀ a ∈ l,farc (lstM N (fun v => ent (rounds (grE N l) t N v))) (u : Int) ⟨d,(k : Int)⟩ a = pA N l t u a:=by
 intro a ha;have h8:=hg.n8;obtain ⟨i,hi,e⟩:=List.getElem_of_mem ha;have hok:=hg.ok i hi;rw [arc_get hi,e] at hok;obtain ⟨v,hv⟩:=Int.eq_ofNat_of_zero_le hok.2.1.1;have hvN : v < N:=by omega
 unfold farc pA
 congr 1
 rw [hv,lstM_rd _ hvN,Int.toNat_natCast];cases e1 : dst N l t v with
 | none =>
  rw [ent_none hg ht hvN e1];simp
 | some x =>
  obtain ⟨k',e2,h2⟩:=stp_some hg ht hvN e1;rw [ent_some hg ht hvN e1 e2,e2];have hx:=dst_bd hg ht hvN e1;have w1 : wrap64 (x + a.f2) = x + a.f2:=w64 (by omega) (by omega);have w2 : wrap64 ((k' : Int) + 1) = (k' : Int) + 1:=w64 (by omega) (by omega);dsimp only;rw [w1,w2,decide_eq_false (show ¬ x = 99999 by omega),hd,hk];clear w1 w2;simp only [Bool.not_false,Bool.true_and]
  congr 1
  ·rw [decide_eq_decide];exact ⟨fun h => by congr 1; omega,fun h => by have:=Option.some.inj h; omega⟩
  ·rw [decide_eq_decide];exact ⟨fun h => by congr 1; omega,fun h => by have:=Option.some.inj h; omega⟩
theorem best_l : ∀ (k u : Nat) (d : Int) (w : List Int),u < N → dst N l t u = some d → stp N l t u = some (k : Int) → w.length + k ≤ 100 → Ev (fun q => impl_Net_best.l0 q (u : Int) (t : Int) (lstM N (fun v => ent (rounds (grE N l) t N v))) w N l) (w ++ bestW N l t k u,true)
 | 0,u,d,w,hu,hd,hk,_ => by
  have hut : u = t:=by
   apply Classical.byContradiction
   intro hne;obtain ⟨i,_,_,_,_,_,h0,_⟩:=nx_ok hg ht hu hne hd hk;omega
  subst hut;refine Ev.go ?_ (fun k => by rw [impl_Net_best.l0]);exact Ev.pos rfl (Ev.is (by simp [bestW]))
 | k + 1,u,d,w,hu,hd,hk,hw => by
  have h8:=hg.n8;have hne : u ≠ t:=by
   rintro rfl;rw [stp_t hg ht] at hk;have:=Option.some.inj hk;omega
  obtain ⟨i,e,hi,h1,h2,h3,_,h4,_⟩:=nx_ok hg ht hu hne hd hk;have hok:=hg.ok i hi;have ih:=best_l k (arc l i).f1.toNat _ (w ++ [(i : Int)]) h2 h3 h4 (by simp; omega);have e0 : bestW N l t (k + 1) u = (i : Int) :: bestW N l t k (arc l i).f1.toNat:=by
   show nxA N l t u :: bestW N l t k (arc l (nxA N l t u).toNat).f1.toNat = _
   rw [e,Int.toNat_natCast]
  have ef : impl_Net_firstArc.f (N : Int) l (lstM N (fun v => ent (rounds (grE N l) t N v))) (u : Int) = some (i : Int):=by
   unfold impl_Net_firstArc.f
   rw [lstM_len,if_pos (by omega),if_pos (by omega),if_pos ?_,lstM_rd _ hu,ent_some hg ht hu hd hk,idxI_congr (farc_pA hg ht hu hd hk)]
   ·exact congrArg some e
   ·rw [List.all_eq_true];intro a ha;obtain ⟨j,hj,ej⟩:=List.getElem_of_mem ha;have:=hg.ok j hj;rw [arc_get hj,ej] at this;simp;omega
  refine Ev.go ?_ (fun k => by rw [impl_Net_best.l0]);refine Ev.neg (by omega) (Ev.bind0 ef (Ev.pos (by omega) (Ev.pos (by omega) (Ev.pos (by omega) ?_))));rw [rda,show (arc l i).f1 = (((arc l i).f1.toNat : Nat) : Int) by omega];exact ih.cast (by rw [e0]; simp)
def bestV (N : Nat) (l : List Arc) (u t : Nat) : List Int × Bool:=match dst N l t u,stp N l t u with
 | some _,some k => (bestW N l t k.toNat u,true)
 | _,_ => ([],false)
theorem best_ev {u : Nat} (hu : u < N) : Ev (fun q => impl_Net_best.f q N l (u : Int) (t : Int)) (bestV N l u t):=by
 have h8:=hg.n8
 unfold impl_Net_best.f bestV
 refine Ev.bind (tow_ev hg ht) ?_;rw [lstM_len,lstM_rd _ hu];refine Ev.pos (by omega) (Ev.pos (by omega) ?_);cases e1 : dst N l t u with
 | none =>
  rw [ent_none hg ht hu e1];exact Ev.pos rfl (Ev.now _)
 | some d =>
  obtain ⟨k,e2,h2⟩:=stp_some hg ht hu e1;have hx:=dst_bd hg ht hu e1;rw [ent_some hg ht hu e1 e2,e2];dsimp only;rw [Int.toNat_natCast];exact Ev.neg (by omega) (Ev.pos (by omega) (Ev.pos (by omega) ((best_l hg ht k u d [] hu e1 e2 (by simp; omega)).cast (by simp))))
end
section
variable {N : Nat} {l : List Arc} (hg : NetGood N l)
include hg
theorem dst_flip {s t : Nat} (hs : s < N) (ht : t < N) : dst N (back l) s t = dst N l t s:=by
 have h1:=dst_opt (back_good hg) hs t ht;have h2:=dst_opt hg ht s hs;cases e1 : dst N (back l) s t with
 | none =>
  cases e2 : dst N l t s with
  | none => rfl
  | some y =>
   obtain ⟨k,w⟩:=h2.1 y e2;obtain ⟨x,h,_⟩:=h1.2 _ _ (walk_back w);rw [e1] at h; cases h
 | some x =>
  obtain ⟨k,w⟩:=h1.1 x e1;have w:=walk_back w;rw [back_back] at w;obtain ⟨y,h3,h4⟩:=h2.2 _ _ w;obtain ⟨k2,w2⟩:=h2.1 y h3;obtain ⟨x',h5,h6⟩:=h1.2 _ _ (walk_back w2);rw [e1] at h5;obtain rfl:=Option.some.inj h5;rw [h3]; congr 1; omega
theorem nodes2 {u v : Int} (hu : 0 ≤ u ∧ u < N) (hv : 0 ≤ v ∧ v < N) : impl_nodesIn.f (N : Int) l [u,v] = some true:=by
 rw [nodesIn_eq,(netOkB_iff _ _).2 hg];simp [okN];omega
theorem nearWalk_ev {u t : Nat} (hu : u < N) (ht : t < N) : Ev (fun q => impl_NearWalk.f q N l (u : Int) (t : Int)) (bestV N l u t):=by
 unfold impl_NearWalk.f
 exact Ev.bind0 (nodes2 hg (by omega) (by omega)) (Ev.pos rfl (Ev.bind (best_ev hg ht hu) (Ev.now _)))
theorem nearAll_ev {s : Nat} (hs : s < N) : Ev (fun q => impl_NearAll.f q N l (s : Int)) (lst N (fun v => far (dst N l v s))):=by
 unfold impl_NearAll.f
 refine Ev.bind0 (a:=true) (by rw [nodesIn_eq,(netOkB_iff _ _).2 hg]; simp [okN]; omega) (Ev.pos rfl (Ev.bind (from_ev hg hs) (Ev.is ?_)));exact lst_congr (fun v hv => by rw [dst_flip hg hs hv])
end
end Go.Proofs.Ytljdcinpjnijcaa.Pure
end
