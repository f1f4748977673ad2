/- For the statement FnExactBothNear of this seat: it is proved here, with no further conditions (part 4 of its texts: words, walks of the functions, the plain law, the row). -/
import Derived.Deep.RegionLaw
import Derived.Test.YtljdcinpjnijcaaKFnExactBothNear2
section
namespace Go.Proofs.Ytljdcinpjnijcaa.Pr
open Go.RowKit Go.Proofs.YtljdcinpjnijcaaW.PrintWords Go.Proofs.YtljdcinpjnijcaaW.PrintLast Go.Proofs.YtljdcinpjnijcaaW.PrintMore
attribute [local go_sem] max2_int min2_int max_two min_two max_three min_three max_four min_four
set_option linter.unusedVariables false
set_option linter.unusedSimpArgs false
open List renaming setIfInBounds_toArray → J,set_cons_zero → U,set_cons_succ → V
open Go.Proofs.YtljdcinpjnijcaaW.PrintWords.Aside0 renaming mk → Z
abbrev Y:=true
abbrev X:=false
def spec_l20Look.l0 : Nat → Int → List Int → Int → Int → List (S34) → Option (List Int)
 | 0,_,_,_,_,_ => none
 | k + 1,x2,x7,x8,q9,p6 => if x8 < (p6.length : Int) then (if 0 ≤ x8 then (if ((rd_T34 p6 x8).f0) = x2 then (if 0 ≤ x2 then (if x2 < (x7.length : Int) then (if 0 ≤ ((rd_T34 p6 x8).f1) then (if ((rd_T34 p6 x8).f1) < (x7.length : Int) then (if (wrap64 ((rd x7 x2) + ((rd_T34 p6 x8).f2))) < (rd x7 ((rd_T34 p6 x8).f1)) then (spec_l20Look.l0 k x2 (x7.set (((rd_T34 p6 x8).f1) : Int).toNat (wrap64 ((rd x7 x2) + ((rd_T34 p6 x8).f2)))) (wrap64 (x8 + 1)) q9 p6) else (spec_l20Look.l0 k x2 x7 (wrap64 (x8 + 1)) q9 p6)) else (none)) else (none)) else (none)) else (none)) else (spec_l20Look.l0 k x2 x7 (wrap64 (x8 + 1)) q9 p6)) else (none)) else (some x7)
def spec_l20Look.f (k : Nat) (a0_0 : Int) (l0_1 : List (S34)) (l1 : List Int) (a2 : Int) : Option (List Int):=(some (([] : List Int) : List Int)).bind fun y377 => (if y377.length + l1.length < 17592186044416 then (spec_l20Look.l0 k a2 (y377 ++ l1) 0 a0_0 l0_1) else (none))
def spec_l20Look.T6 : Bool × List (List Nat × List Nat):=(true,[([],[]),([0],[0]),([],[]),([1,2],[1,2]),([3],[3]),([4],[4]),([4],[4]),([5,6,4],[4,5,6]),([7,4],[4,7]),([4],[4]),([9,4],[4,9]),([8,10,4],[4,8,10]),([4],[4]),([4],[4]),([13,4],[4,13]),([12,14,4],[4,12,14]),([15,4],[4,15]),([11,16,4],[4,11,16]),([4,17],[4,17])])
def spec_l20Look.B6 : List Nat:=[0,1,0,7,15,31,31,127,255,31,543,2047,31,31,8223,28703,61471,131071,262143]
theorem spec_l20Look.tab6 : rtab .any (opsOf Try.f99 6) = spec_l20Look.T6:=by kernel_rfl
theorem spec_l20Look.bits6 : waitsOk spec_l20Look.T6.2 spec_l20Look.B6 = true:=by kernel_rfl
def spec_l20Look.T7 : Bool × List (List Nat × List Nat):=(true,[([],[]),([],[]),([1],[1]),([],[]),([],[]),([3,4],[3,4]),([5],[5]),([],[]),([7],[7]),([6,8],[6,8]),([0,2,0,1,2,3,4,5,6,7,8,9],[0,2]),([10,9,0,1,2,3,4,5,6,7,8,9],[9,10])])
def spec_l20Look.B7 : List Nat:=[0,0,2,0,0,24,56,0,128,504,1023,2047]
theorem spec_l20Look.tab7 : rtab .any (opsOf Try.f99 7) = spec_l20Look.T7:=by kernel_rfl
theorem spec_l20Look.bits7 : waitsOk spec_l20Look.T7.2 spec_l20Look.B7 = true:=by kernel_rfl
set_option maxHeartbeats 8000000 in
set_option maxRecDepth 100000 in
theorem spec_l20Look.calls (k : Nat) (a0_0 : Int) (A0_1 : Option Addr) (c0_1 : Nat) (l0_1 : List (S34)) (A1 : Option Addr) (c1 : Nat) (l1 : List Int) (a2 : Int) (r : List Int) (w : World) (hr0_1 : Kd.C k34 w A0_1 l0_1.length l0_1) (hc0_1 : l0_1.length ≤ c0_1) (hr1 : Kd.C (Kd.int .i64) w A1 l1.length l1) (hc1 : l1.length ≤ c1) (h : spec_l20Look.f k a0_0 l0_1 l1 a2 = some r) :
  Calls Try.prog 99 #[.agg #[.int .i64 a0_0,.slice A0_1 l0_1.length c0_1],.slice A1 l1.length c1,.int .i64 a2] w fun e w' => ∃ v0_ : Value,e = .returned (v0_) ∧ Kd.R (Kd.int .i64) 3 w' w.heap.size (fun _ => True) v0_ r ∧ Below w.heap.size w w':=by
 have hu25:=Try.underlying25;have hu34:=Try.underlying34;have r1:=Z hr0_1;have HC0_1:=Z hc0_1;clear hr0_1 hc0_1;have HR1:=Z hr1;have HC1:=Z hc1;clear hr1 hc1;have HB:=Z (Below.refl w.heap.size w);have H : ((some (([] : List Int) : List Int)).bind fun y377 => (if y377.length + l1.length < 17592186044416 then (spec_l20Look.l0 k a2 (y377 ++ l1) 0 a0_0 l0_1) else (none))) = some r:=h;clear h;obtain ⟨y377,hy377⟩ : ∃ y_ : List Int,y_ = (([] : List Int)):=⟨_,rfl⟩
 replace H : (if y377.length + l1.length < 17592186044416 then (spec_l20Look.l0 k a2 (y377 ++ l1) 0 a0_0 l0_1) else (none)) = some r:=by first | (rw [hy377]; with_reducible exact H) | (have H2_:=(Option.bind_some _ _).symm.trans H; rw [hy377]; with_reducible exact H2_) | (have H2_:=(Option.bind_some _ _).symm.trans H; with_reducible exact H2_) | with_reducible exact H | (rw [hy377]; exact H) | exact H
 have Ny377:=Z hy377;clear hy377
 by_cases c4 : y377.length + l1.length < 17592186044416
 case neg =>
  rw [if_neg c4] at H;exact absurd H (by simp)
 rw [if_pos c4] at H;have LMc4:=Z c4;clear c4;obtain ⟨y380,hy380⟩ : ∃ y_ : List Int,y_ = (y377 ++ l1):=⟨_,rfl⟩
 replace H : (spec_l20Look.l0 k a2 y380 0 a0_0 l0_1) = some r:=by first | (rw [hy380]; with_reducible exact H) | (have H2_:=(Option.bind_some _ _).symm.trans H; rw [hy380]; with_reducible exact H2_) | (have H2_:=(Option.bind_some _ _).symm.trans H; with_reducible exact H2_) | with_reducible exact H | (rw [hy380]; exact H) | exact H
 have Ny380:=Z hy380;clear hy380;have H':=Z H;clear H
 go_enter Try.func99,Try.ntmps99
 go_wp2_with (first | ((with_reducible refine gate_dst (N:=3) rfl ?_); refine box_event ?hg (N:=3) ?hd (cs:=#[.int .i64 a0_0,.slice A0_1 l0_1.length c0_1]) (t:=25) ?hr ?_; (case hd => rfl); (case hg => rfl); (case hr => first | (go_simp; done) | (go_simp; rfl)); intro p5 hg w5 hbox hb; have n0_:=Z (below_step HB.out hb); have n1_:=Z (hbox); have n2_:=Z ((by rw [hg]; exact (below_size HB.out) : w.heap.size ≤ p5)); have n3_:=Z ((by rw [hg]; exact (below_size HB.out) : w.heap.size ≤ p5)); clear HB; have HB:=n0_; have p3:=n1_; have GW376:=n2_; have q6:=n3_; clear n0_ n1_ n2_ n3_; clear hb hbox hg) | ((with_reducible refine gate_dst (N:=10) rfl ?_); refine Kd.R_lit (Kd.int .i64) _ 3 ?hg (N:=10) ?hd (xs:=([] : List Int)) (inner:=[]) (ok:=fun _ => True) (okp:=fun _ => True) ?hr ?hp (fun _ hk => hk) trivial (Below.refl _ _) (Nat.le_refl _) (by simp) ?_; (case hd => rfl); (case hg => rfl); (case hr => first | (go_simp; done) | (go_simp; rfl)); (case hp => exact (Reps.none _ _)); intro v378 w6 ho7 hb hg_ hnew_; clear hg_ hnew_; (first | rw [← Ny377.out] at ho7 | (simp only [Int.reduceToNat] at ho7; rw [← Ny377.out] at ho7)); have n0_:=Z (Kd.R_lower ho7 (below_size HB.out)); have n1_:=Z (blk_below (g:=p5) (o:=.cells #[.int .i64 a0_0,.slice A0_1 l0_1.length c0_1] 25 (0,0)) p3.out hb); have n2_:=Z (below_step HB.out hb); clear p3; clear HB; have HO379:=n0_; have p3:=n1_; have HB:=n2_; clear n0_ n1_ n2_; clear hb ho7) | ((with_reducible refine gate_builtin (b:=.append) (xs:=#[.tmp 10,.tmp 11]) rfl ?_); at_builtin; refine Kd.R_append_rows (Kd.int .i64) (w0:=w) w.heap.size rfl (.tmp 10) (.tmp 11) 29 3 (.int .i64 0) 8 rfl Try.underlying29 info3 rfl (by decide) (by omega) v378 y377 l1 _ _ _ (fun _ => True) (fun _ => False) rfl rfl ?aO ?aR (fun _ _ h => h) (fun _ h => h.elim) ?aF ?aB ?aS ?aL ?_; (case aR => repeat (first | exact (Kd.C_below HR1.out HB.out) | (with_reducible refine Kd.C_alloc ?_ _) | (with_reducible refine Kd.C_drewN ?_ _) | (with_reducible refine Kd.C_drew ?_))); (case aB => exact HB.out); (case aF => exact (fun _ _ => trivial)); (case aO => exact HO379.out); (case aS => exact (below_size HB.out)); (case aL => have:=LMc4.out; omega); intro v381 w8 ho hb hg hat; rw [← Ny380.out] at ho; have n0_:=Z (blk_grown (g:=p5) (o:=.cells #[.int .i64 a0_0,.slice A0_1 l0_1.length c0_1] 25 (0,0)) p3.out hg (Kd.R_ne HO379.out p3.out (by decide))); have n1_:=Z (hb); have n2_:=Z (ho); clear p3; clear HB; clear HO379; have p3:=n0_; have HB:=n1_; have HO382:=n2_; clear n0_ n1_ n2_; clear ho hb hg hat))
 go_loopg [8] k (fun kq v8 w' => ∃ (x7_1 : List Int) (x8_1 : Int),v8 = .int .i64 x8_1 ∧ Aside0 (spec_l20Look.l0 kq a2 x7_1 x8_1 a0_0 l0_1 = some r) ∧ Aside0 (kq ≤ k) ∧ Aside0 (Kd.R (Kd.int .i64) 3 w' w.heap.size (fun _ => True) v381 x7_1) ∧ Aside0 (w'.heap[p5]? = some (.cells #[.int .i64 a0_0,(.slice A0_1 l0_1.length c0_1)] 25 (0,0))) ∧ Aside0 (Below w.heap.size w w'))
 case atStart => exact ⟨(y380),(0),(by first | rfl | (simp; done) | (simp [*]; done)),H',⟨Nat.le_refl _⟩,⟨by exact HO382.out⟩,⟨by exact p3.out⟩,⟨by repeat (first | (with_reducible first | exact HB.out | apply below_alloc | apply pw_below_drewN | apply below_drew1 | refine below_set ?_ q6.out) | exact HB.out)⟩⟩
 case round =>
  clear H'
  try clear c1
  try clear p2
  try clear c4
  obtain ⟨x7_1,x8_1,rfl,HA,HK1,HO_7,p3,HB⟩:=hrel;cases gk with
  | zero => exact absurd HA.out (by simp [spec_l20Look.l0])
  | succ k1 =>
   have H:=HA.out;clear HA;simp only [spec_l20Look.l0] at H
   by_cases c9 : x8_1 < (l0_1.length : Int)
   case neg =>
    rw [if_neg c9] at H;have c9b0 : decide (x8_1 < (l0_1.length : Int)) = false:=decide_eq_false c9;clear c9;obtain rfl:=Option.some.inj H;have hcz40_0 : wr.cell? ⟨p5,0,none⟩ = some (.int .i64 a0_0):=(blk_cell p3.out 0).trans rfl;have hcz40_1 : wr.cell? ⟨p5,1,none⟩ = some (.slice A0_1 l0_1.length c0_1):=(blk_cell p3.out 1).trans rfl;have hfz40_0:=blk_frozen p3.out 0;have hfz40_1:=blk_frozen p3.out 1
    go_wp2
    go_ret;exact ⟨_,by first | rfl | (simp [errW_none,errW_some] <;> rfl) | (simp [*,errW_none,errW_some] <;> rfl),by exact HO_7.out,by repeat (first | (with_reducible first | exact HB.out | apply below_alloc | apply pw_below_drewN | apply below_drew1 | refine below_set ?_ q6.out) | exact HB.out)⟩
   rw [if_pos c9] at H;have c9b0 : decide (x8_1 < (l0_1.length : Int)) = true:=decide_eq_true c9;clear c9
   by_cases c10 : 0 ≤ x8_1
   case neg =>
    rw [if_neg c10] at H;exact absurd H (by simp)
   rw [if_pos c10] at H;have c10b0 : decide (0 ≤ x8_1) = true:=decide_eq_true c10;clear c10
   by_cases c11 : ((rd_T34 l0_1 x8_1).f0) = a2
   case neg =>
    rw [if_neg c11] at H;have c11b0 : (((rd_T34 l0_1 x8_1).f0) == a2) = false:=beq_eq_false_iff_ne.mpr c11;have c11b1 : (((rd_T34 l0_1 x8_1).f0) != a2) = true:=bne_iff_ne.mpr c11;have H':=Z H;clear H;have hcz34_0 : wr.cell? ⟨p5,0,none⟩ = some (.int .i64 a0_0):=(blk_cell p3.out 0).trans rfl;have hcz34_1 : wr.cell? ⟨p5,1,none⟩ = some (.slice A0_1 l0_1.length c0_1):=(blk_cell p3.out 1).trans rfl;have hfz34_0:=blk_frozen p3.out 0;have hfz34_1:=blk_frozen p3.out 1;have p383 : 0 ≤ (x8_1 : Int):=of_decide_eq_true (by first | (with_reducible assumption) | assumption);have q383 : x8_1 < (l0_1.length : Int):=of_decide_eq_true (by first | (with_reducible assumption) | assumption);obtain ⟨q2,e383,p7,p8,p9,q0,q1⟩:=at_T34 r1.out x8_1 p383 q383;cases e383;replace p7:=(HB.out.cell (World.block_lt_of_cell? w _ p7)).trans p7;replace p8:=(HB.out.cell (World.block_lt_of_cell? w _ p8)).trans p8;replace p9:=(HB.out.cell (World.block_lt_of_cell? w _ p9)).trans p9;replace q0:=(HB.out.cell (World.block_lt_of_cell? w _ q0)).trans q0;replace q1:=(HB.out.cell (World.block_lt_of_cell? w _ q1)).trans q1;replace p383:=eq_true p383;replace q383:=eq_true q383
    try go_wp2_with (first | ((with_reducible refine gate_dst (N:=9) rfl ?_); refine box_event ?hg (N:=9) ?hd (cs:=#[.int .i64 0,.int .i64 0,.int .i64 0,.int .i64 0,.int .i64 0]) (t:=34) ?hr ?_; (case hd => rfl); (case hg => rfl); (case hr => first | (go_simp; done) | (go_simp; rfl)); intro p0 hg w35 hbox hb; have n0_:=Z (Kd.R_below HO_7.out hb); have n1_:=Z (blk_below (g:=p5) (o:=.cells #[.int .i64 a0_0,.slice (some q2) l0_1.length c0_1] 25 (0,0)) p3.out hb); have n2_:=Z (below_step HB.out hb); have n3_:=Z (hbox); have n4_:=Z ((by rw [hg]; exact (below_size HB.out) : w.heap.size ≤ p0)); have n5_:=Z ((by rw [hg]; exact (below_size HB.out) : w.heap.size ≤ p0)); have n6_:=Z ((by rw [hg]; exact Nat.ne_of_lt (blk_lt (g:=p5) (o:=.cells #[.int .i64 a0_0,.slice (some q2) l0_1.length c0_1] 25 (0,0)) p3.out) : p5 ≠ p0)); have n7_:=Z ((by rw [hg]; exact Nat.ne_of_gt (blk_lt (g:=p5) (o:=.cells #[.int .i64 a0_0,.slice (some q2) l0_1.length c0_1] 25 (0,0)) p3.out) : p0 ≠ p5)); clear HO_7; clear p3; clear HB; have HO_7:=n0_; have p3:=n1_; have HB:=n2_; have p1:=n3_; have GW384:=n4_; have q7:=n5_; have p4:=n6_; have q3:=n7_; clear n0_ n1_ n2_ n3_ n4_ n5_ n6_ n7_; clear hb hbox hg; have hnb36:=q3.out; have hnc36:=p4.out; have hcz37_0 : w35.cell? ⟨p0,0,none⟩ = some (.int .i64 0):=(blk_cell p1.out 0).trans rfl; have hcz37_1 : w35.cell? ⟨p0,1,none⟩ = some (.int .i64 0):=(blk_cell p1.out 1).trans rfl; have hcz37_2 : w35.cell? ⟨p0,2,none⟩ = some (.int .i64 0):=(blk_cell p1.out 2).trans rfl; have hcz37_3 : w35.cell? ⟨p0,3,none⟩ = some (.int .i64 0):=(blk_cell p1.out 3).trans rfl; have hcz37_4 : w35.cell? ⟨p0,4,none⟩ = some (.int .i64 0):=(blk_cell p1.out 4).trans rfl; have hfz37_0:=blk_frozen p1.out 0; have hfz37_1:=blk_frozen p1.out 1; have hfz37_2:=blk_frozen p1.out 2; have hfz37_3:=blk_frozen p1.out 3; have hfz37_4:=blk_frozen p1.out 4))
    have n0_ : Aside0 (Kd.R (Kd.int .i64) 3 (((((w35.setCell ⟨p0,0,none⟩ (.int .i64 ((rd_T34 l0_1 x8_1).f0))).setCell ⟨p0,1,none⟩ (.int .i64 ((rd_T34 l0_1 x8_1).f1))).setCell ⟨p0,2,none⟩ (.int .i64 ((rd_T34 l0_1 x8_1).f2))).setCell ⟨p0,3,none⟩ (.int .i64 ((rd_T34 l0_1 x8_1).f3))).setCell ⟨p0,4,none⟩ (.int .i64 ((rd_T34 l0_1 x8_1).f4))) w.heap.size (fun _ => True) v381 x7_1):=⟨by exact Kd.R_mono (Kd.R_far (p:=⟨p0,4,none⟩) (Kd.R_far (p:=⟨p0,3,none⟩) (Kd.R_far (p:=⟨p0,2,none⟩) (Kd.R_far (p:=⟨p0,1,none⟩) (Kd.R_far (p:=⟨p0,0,none⟩) (Kd.R_types HO_7.out p1.out (by decide)) (fun _ hk => hk.2) (.int .i64 ((rd_T34 l0_1 x8_1).f0))) (fun _ hk => hk.2) (.int .i64 ((rd_T34 l0_1 x8_1).f1))) (fun _ hk => hk.2) (.int .i64 ((rd_T34 l0_1 x8_1).f2))) (fun _ hk => hk.2) (.int .i64 ((rd_T34 l0_1 x8_1).f3))) (fun _ hk => hk.2) (.int .i64 ((rd_T34 l0_1 x8_1).f4))) (fun _ hk => trivial)⟩
    have n1_ : Aside0 ((((((w35.setCell ⟨p0,0,none⟩ (.int .i64 ((rd_T34 l0_1 x8_1).f0))).setCell ⟨p0,1,none⟩ (.int .i64 ((rd_T34 l0_1 x8_1).f1))).setCell ⟨p0,2,none⟩ (.int .i64 ((rd_T34 l0_1 x8_1).f2))).setCell ⟨p0,3,none⟩ (.int .i64 ((rd_T34 l0_1 x8_1).f3))).setCell ⟨p0,4,none⟩ (.int .i64 ((rd_T34 l0_1 x8_1).f4))).heap[p5]? = some (.cells #[.int .i64 a0_0,.slice (some q2) l0_1.length c0_1] 25 (0,0))):=⟨by refine blk_far ?_ p4.out _; refine blk_far ?_ p4.out _; refine blk_far ?_ p4.out _; refine blk_far ?_ p4.out _; refine blk_far ?_ p4.out _; exact p3.out⟩
    have n2_ : Aside0 ((((((w35.setCell ⟨p0,0,none⟩ (.int .i64 ((rd_T34 l0_1 x8_1).f0))).setCell ⟨p0,1,none⟩ (.int .i64 ((rd_T34 l0_1 x8_1).f1))).setCell ⟨p0,2,none⟩ (.int .i64 ((rd_T34 l0_1 x8_1).f2))).setCell ⟨p0,3,none⟩ (.int .i64 ((rd_T34 l0_1 x8_1).f3))).setCell ⟨p0,4,none⟩ (.int .i64 ((rd_T34 l0_1 x8_1).f4))).heap[p0]? = some (.cells #[.int .i64 ((rd_T34 l0_1 x8_1).f0),.int .i64 ((rd_T34 l0_1 x8_1).f1),.int .i64 ((rd_T34 l0_1 x8_1).f2),.int .i64 ((rd_T34 l0_1 x8_1).f3),.int .i64 ((rd_T34 l0_1 x8_1).f4)] 34 (0,0))):=⟨by refine blk_put (cs:=#[.int .i64 ((rd_T34 l0_1 x8_1).f0),.int .i64 ((rd_T34 l0_1 x8_1).f1),.int .i64 ((rd_T34 l0_1 x8_1).f2),.int .i64 ((rd_T34 l0_1 x8_1).f3),.int .i64 0]) ?_ 4 _ rfl; refine blk_put (cs:=#[.int .i64 ((rd_T34 l0_1 x8_1).f0),.int .i64 ((rd_T34 l0_1 x8_1).f1),.int .i64 ((rd_T34 l0_1 x8_1).f2),.int .i64 0,.int .i64 0]) ?_ 3 _ rfl; refine blk_put (cs:=#[.int .i64 ((rd_T34 l0_1 x8_1).f0),.int .i64 ((rd_T34 l0_1 x8_1).f1),.int .i64 0,.int .i64 0,.int .i64 0]) ?_ 2 _ rfl; refine blk_put (cs:=#[.int .i64 ((rd_T34 l0_1 x8_1).f0),.int .i64 0,.int .i64 0,.int .i64 0,.int .i64 0]) ?_ 1 _ rfl; refine blk_put (cs:=#[.int .i64 0,.int .i64 0,.int .i64 0,.int .i64 0,.int .i64 0]) ?_ 0 _ rfl; exact p1.out⟩
    have n3_ : Aside0 (Below w.heap.size w (((((w35.setCell ⟨p0,0,none⟩ (.int .i64 ((rd_T34 l0_1 x8_1).f0))).setCell ⟨p0,1,none⟩ (.int .i64 ((rd_T34 l0_1 x8_1).f1))).setCell ⟨p0,2,none⟩ (.int .i64 ((rd_T34 l0_1 x8_1).f2))).setCell ⟨p0,3,none⟩ (.int .i64 ((rd_T34 l0_1 x8_1).f3))).setCell ⟨p0,4,none⟩ (.int .i64 ((rd_T34 l0_1 x8_1).f4)))):=⟨by repeat (first | (with_reducible first | exact HB.out | apply below_alloc | apply pw_below_drewN | apply below_drew1 | refine below_set ?_ q6.out | refine below_set ?_ q7.out) | exact HB.out)⟩
    (try clear HO_7)
    (try clear p3)
    (try clear p1)
    (try clear HB)
    generalize (((((w35.setCell ⟨p0,0,none⟩ (.int .i64 ((rd_T34 l0_1 x8_1).f0))).setCell ⟨p0,1,none⟩ (.int .i64 ((rd_T34 l0_1 x8_1).f1))).setCell ⟨p0,2,none⟩ (.int .i64 ((rd_T34 l0_1 x8_1).f2))).setCell ⟨p0,3,none⟩ (.int .i64 ((rd_T34 l0_1 x8_1).f3))).setCell ⟨p0,4,none⟩ (.int .i64 ((rd_T34 l0_1 x8_1).f4))) = w38 at n0_ n1_ n2_ n3_ ⊢;have HO_7:=n0_;have p3:=n1_;have p1:=n2_;have HB:=n3_;clear n0_ n1_ n2_ n3_;have n0_:=Z (Kd.R_drew HO_7.out);have n1_:=Z (blk_drew p3.out);have n2_:=Z (blk_drew p1.out);have n3_:=Z (below_drew1 HB.out);clear HO_7;clear p3;clear p1;clear HB;have HO_7:=n0_;have p3:=n1_;have p1:=n2_;have HB:=n3_;clear n0_ n1_ n2_ n3_;refine start_ (n:=19) (S:=fun w' => w'.cell? ⟨p0,0,none⟩ = some (.int .i64 ((rd_T34 l0_1 x8_1).f0)) ∧ w'.cell? ⟨p0,1,none⟩ = some (.int .i64 ((rd_T34 l0_1 x8_1).f1)) ∧ w'.cell? ⟨p0,2,none⟩ = some (.int .i64 ((rd_T34 l0_1 x8_1).f2)) ∧ w'.cell? ⟨p0,3,none⟩ = some (.int .i64 ((rd_T34 l0_1 x8_1).f3)) ∧ w'.cell? ⟨p0,4,none⟩ = some (.int .i64 ((rd_T34 l0_1 x8_1).f4))) (ds:=[]) #[X,X,X,X,X,X,X,X,X,X,X,X,X,X,X,X,X,X,X] (by kernel_rfl) rfl rfl ⟨(blk_cell p1.out 0).trans rfl,(blk_cell p1.out 1).trans rfl,(blk_cell p1.out 2).trans rfl,(blk_cell p1.out 3).trans rfl,(blk_cell p1.out 4).trans rfl⟩ (fun hHeld => ?_); refine with_tabW spec_l20Look.tab6 spec_l20Look.bits6 (fun HT_ HW_ => ?_);generalize w38.drew = w39 at HO_7 p3 p1 HB hHeld ⊢;refine pure_ (i:=0) (N:=some 25) (v:=?_) (a':=?_) #[Y,X,X,X,X,X,X,X,X,X,X,X,X,X,X,X,X,X,X] rfl rfl (any_of HT_.out (by kernel_rfl)) (fun _ _ _ h => h) (Or.inl ⟨by rfl,?_⟩) ?_ ?_;rotate_left
    ·intro w';go_simp;with_reducible rfl
    rotate_left
    ·simp only [Act.put,J,U,V,i64_w,i32_w];rfl
    refine pure_ (i:=2) (N:=some 27) (v:=?_) (a':=?_) #[Y,X,Y,X,X,X,X,X,X,X,X,X,X,X,X,X,X,X,X] rfl rfl (any_of HT_.out (by kernel_rfl)) (fun _ _ _ h => h) (Or.inl ⟨by rfl,?_⟩) ?_ ?_;rotate_left
    ·intro w';go_simp;with_reducible rfl
    rotate_left
    ·simp only [Act.put,J,U,V,i64_w,i32_w];rfl
    refine take_ (i:=1) (N:=some 26) (v:=?_) (a':=?_) #[Y,Y,Y,X,X,X,X,X,X,X,X,X,X,X,X,X,X,X,X] rfl rfl (take_ofW HT_.out HW_.out (by kernel_rfl)) (fun _ _ _ h => h) (Or.inl ⟨by rfl,?_⟩) hHeld ?_ ?_;rotate_left
    ·rintro w' ⟨s0,s1,s2,s3,s4⟩;go_simp;with_reducible rfl
    rotate_left
    ·simp only [Act.put,J,U,V,i64_w,i32_w];rfl
    refine pure_ (i:=3) (N:=some 28) (v:=?_) (a':=?_) #[Y,Y,Y,Y,X,X,X,X,X,X,X,X,X,X,X,X,X,X,X] rfl rfl (any_of HT_.out (by kernel_rfl)) (fun _ _ _ h => h) (Or.inl ⟨by rfl,?_⟩) ?_ ?_;rotate_left
    ·intro w';go_simp;with_reducible rfl
    rotate_left
    ·simp only [Act.put,J,U,V,i64_w,i32_w];rfl
    refine pure_ (i:=4) (N:=some 29) (v:=?_) (a':=?_) #[Y,Y,Y,Y,Y,X,X,X,X,X,X,X,X,X,X,X,X,X,X] rfl rfl (any_of HT_.out (by kernel_rfl)) (fun _ _ _ h => h) (Or.inl ⟨by rfl,?_⟩) ?_ ?_;rotate_left
    ·intro w';go_simp;with_reducible rfl
    rotate_left
    ·simp only [Act.put,J,U,V,i64_w,i32_w];rfl
    refine pure_ (i:=5) (N:=some 30) (v:=undef) (a':=?_) #[Y,Y,Y,Y,Y,Y,X,X,X,X,X,X,X,X,X,X,X,X,X] rfl rfl (any_of HT_.out (by kernel_rfl)) (fun _ _ _ h => h) (Or.inr ⟨by rfl,rfl⟩) ?_ ?_;rotate_left
    ·simp only [Act.put,J,U,V,i64_w,i32_w];rfl
    refine pure_ (i:=6) (N:=some 31) (v:=undef) (a':=?_) #[Y,Y,Y,Y,Y,Y,Y,X,X,X,X,X,X,X,X,X,X,X,X] rfl rfl (any_of HT_.out (by kernel_rfl)) (fun _ _ _ h => h) (Or.inr ⟨by rfl,rfl⟩) ?_ ?_;rotate_left
    ·simp only [Act.put,J,U,V,i64_w,i32_w];rfl
    refine pure_ (i:=7) (N:=some 32) (v:=undef) (a':=?_) #[Y,Y,Y,Y,Y,Y,Y,Y,X,X,X,X,X,X,X,X,X,X,X] rfl rfl (any_of HT_.out (by kernel_rfl)) (fun _ _ _ h => h) (Or.inr ⟨by rfl,rfl⟩) ?_ ?_;rotate_left
    ·simp only [Act.put,J,U,V,i64_w,i32_w];rfl
    refine pure_ (i:=8) (N:=some 33) (v:=undef) (a':=?_) #[Y,Y,Y,Y,Y,Y,Y,Y,Y,X,X,X,X,X,X,X,X,X,X] rfl rfl (any_of HT_.out (by kernel_rfl)) (fun _ _ _ h => h) (Or.inr ⟨by rfl,rfl⟩) ?_ ?_;rotate_left
    ·simp only [Act.put,J,U,V,i64_w,i32_w];rfl
    refine pure_ (i:=9) (N:=some 34) (v:=undef) (a':=?_) #[Y,Y,Y,Y,Y,Y,Y,Y,Y,Y,X,X,X,X,X,X,X,X,X] rfl rfl (any_of HT_.out (by kernel_rfl)) (fun _ _ _ h => h) (Or.inr ⟨by rfl,rfl⟩) ?_ ?_;rotate_left
    ·simp only [Act.put,J,U,V,i64_w,i32_w];rfl
    refine pure_ (i:=10) (N:=some 35) (v:=undef) (a':=?_) #[Y,Y,Y,Y,Y,Y,Y,Y,Y,Y,Y,X,X,X,X,X,X,X,X] rfl rfl (any_of HT_.out (by kernel_rfl)) (fun _ _ _ h => h) (Or.inr ⟨by rfl,rfl⟩) ?_ ?_;rotate_left
    ·simp only [Act.put,J,U,V,i64_w,i32_w];rfl
    refine pure_ (i:=11) (N:=some 36) (v:=undef) (a':=?_) #[Y,Y,Y,Y,Y,Y,Y,Y,Y,Y,Y,Y,X,X,X,X,X,X,X] rfl rfl (any_of HT_.out (by kernel_rfl)) (fun _ _ _ h => h) (Or.inr ⟨by rfl,rfl⟩) ?_ ?_;rotate_left
    ·simp only [Act.put,J,U,V,i64_w,i32_w];rfl
    refine pure_ (i:=12) (N:=some 37) (v:=undef) (a':=?_) #[Y,Y,Y,Y,Y,Y,Y,Y,Y,Y,Y,Y,Y,X,X,X,X,X,X] rfl rfl (any_of HT_.out (by kernel_rfl)) (fun _ _ _ h => h) (Or.inr ⟨by rfl,rfl⟩) ?_ ?_;rotate_left
    ·simp only [Act.put,J,U,V,i64_w,i32_w];rfl
    refine pure_ (i:=13) (N:=some 38) (v:=undef) (a':=?_) #[Y,Y,Y,Y,Y,Y,Y,Y,Y,Y,Y,Y,Y,Y,X,X,X,X,X] rfl rfl (any_of HT_.out (by kernel_rfl)) (fun _ _ _ h => h) (Or.inr ⟨by rfl,rfl⟩) ?_ ?_;rotate_left
    ·simp only [Act.put,J,U,V,i64_w,i32_w];rfl
    refine pure_ (i:=14) (N:=some 39) (v:=undef) (a':=?_) #[Y,Y,Y,Y,Y,Y,Y,Y,Y,Y,Y,Y,Y,Y,Y,X,X,X,X] rfl rfl (any_of HT_.out (by kernel_rfl)) (fun _ _ _ h => h) (Or.inr ⟨by rfl,rfl⟩) ?_ ?_;rotate_left
    ·simp only [Act.put,J,U,V,i64_w,i32_w];rfl
    refine pure_ (i:=15) (N:=some 40) (v:=undef) (a':=?_) #[Y,Y,Y,Y,Y,Y,Y,Y,Y,Y,Y,Y,Y,Y,Y,Y,X,X,X] rfl rfl (any_of HT_.out (by kernel_rfl)) (fun _ _ _ h => h) (Or.inr ⟨by rfl,rfl⟩) ?_ ?_;rotate_left
    ·simp only [Act.put,J,U,V,i64_w,i32_w];rfl
    refine pure_ (i:=16) (N:=some 41) (v:=undef) (a':=?_) #[Y,Y,Y,Y,Y,Y,Y,Y,Y,Y,Y,Y,Y,Y,Y,Y,Y,X,X] rfl rfl (any_of HT_.out (by kernel_rfl)) (fun _ _ _ h => h) (Or.inr ⟨by rfl,rfl⟩) ?_ ?_;rotate_left
    ·simp only [Act.put,J,U,V,i64_w,i32_w];rfl
    refine pure_ (i:=17) (N:=some 42) (v:=undef) (a':=?_) #[Y,Y,Y,Y,Y,Y,Y,Y,Y,Y,Y,Y,Y,Y,Y,Y,Y,Y,X] rfl rfl (any_of HT_.out (by kernel_rfl)) (fun _ _ _ h => h) (Or.inr ⟨by rfl,rfl⟩) ?_ ?_;rotate_left
    ·simp only [Act.put,J,U,V,i64_w,i32_w];rfl
    refine pure_ (i:=18) (N:=some 43) (v:=?_) (a':=?_) #[Y,Y,Y,Y,Y,Y,Y,Y,Y,Y,Y,Y,Y,Y,Y,Y,Y,Y,Y] rfl rfl (any_of HT_.out (by kernel_rfl)) (fun _ _ _ h => h) (Or.inl ⟨by rfl,?_⟩) ?_ ?_;rotate_left
    ·intro w';go_simp;with_reducible rfl
    rotate_left
    ·simp only [Act.put,J,U,V,i64_w,i32_w];rfl
    refine done_ (done_of HT_.out (by kernel_rfl)) ?_
    try go_wp2
    go_roundg k1
    case measure => have:=HK1.out; omega
    case rel => exact ⟨(x7_1),(wrap64 (x8_1 + 1)),(by first | rfl | (simp; done) | (simp [*]; done)),H',⟨by have:=HK1.out; omega⟩,⟨by exact HO_7.out⟩,⟨by exact p3.out⟩,⟨by repeat (first | (with_reducible first | exact HB.out | apply below_alloc | apply pw_below_drewN | apply below_drew1 | refine below_set ?_ q6.out | refine below_set ?_ q7.out) | exact HB.out)⟩⟩
   rw [if_pos c11] at H;have c11b0 : (((rd_T34 l0_1 x8_1).f0) == a2) = true:=beq_iff_eq.mpr c11;have c11b1 : (((rd_T34 l0_1 x8_1).f0) != a2) = false:=bne_eq_false_iff_eq.mpr c11;clear c11
   by_cases c12 : 0 ≤ a2
   case neg =>
    rw [if_neg c12] at H;exact absurd H (by simp)
   rw [if_pos c12] at H;have c12b0 : decide (0 ≤ a2) = true:=decide_eq_true c12;clear c12
   by_cases c13 : a2 < (x7_1.length : Int)
   case neg =>
    rw [if_neg c13] at H;exact absurd H (by simp)
   rw [if_pos c13] at H;have c13b0 : decide (a2 < (x7_1.length : Int)) = true:=decide_eq_true c13;clear c13
   by_cases c14 : 0 ≤ ((rd_T34 l0_1 x8_1).f1)
   case neg =>
    rw [if_neg c14] at H;exact absurd H (by simp)
   rw [if_pos c14] at H;have c14b0 : decide (0 ≤ ((rd_T34 l0_1 x8_1).f1)) = true:=decide_eq_true c14;clear c14
   by_cases c15 : ((rd_T34 l0_1 x8_1).f1) < (x7_1.length : Int)
   case neg =>
    rw [if_neg c15] at H;exact absurd H (by simp)
   rw [if_pos c15] at H;have c15b0 : decide (((rd_T34 l0_1 x8_1).f1) < (x7_1.length : Int)) = true:=decide_eq_true c15;clear c15
   by_cases c16 : (wrap64 ((rd x7_1 a2) + ((rd_T34 l0_1 x8_1).f2))) < (rd x7_1 ((rd_T34 l0_1 x8_1).f1))
   case neg =>
    rw [if_neg c16] at H;have c16b0 : decide ((wrap64 ((rd x7_1 a2) + ((rd_T34 l0_1 x8_1).f2))) < (rd x7_1 ((rd_T34 l0_1 x8_1).f1))) = false:=decide_eq_false c16;clear c16;have H':=Z H;clear H;have hcz27_0 : wr.cell? ⟨p5,0,none⟩ = some (.int .i64 a0_0):=(blk_cell p3.out 0).trans rfl;have hcz27_1 : wr.cell? ⟨p5,1,none⟩ = some (.slice A0_1 l0_1.length c0_1):=(blk_cell p3.out 1).trans rfl;have hfz27_0:=blk_frozen p3.out 0;have hfz27_1:=blk_frozen p3.out 1;have p383 : 0 ≤ (x8_1 : Int):=of_decide_eq_true (by first | (with_reducible assumption) | assumption);have q383 : x8_1 < (l0_1.length : Int):=of_decide_eq_true (by first | (with_reducible assumption) | assumption);obtain ⟨q2,e383,p7,p8,p9,q0,q1⟩:=at_T34 r1.out x8_1 p383 q383;cases e383;replace p7:=(HB.out.cell (World.block_lt_of_cell? w _ p7)).trans p7;replace p8:=(HB.out.cell (World.block_lt_of_cell? w _ p8)).trans p8;replace p9:=(HB.out.cell (World.block_lt_of_cell? w _ p9)).trans p9;replace q0:=(HB.out.cell (World.block_lt_of_cell? w _ q0)).trans q0;replace q1:=(HB.out.cell (World.block_lt_of_cell? w _ q1)).trans q1;replace p383:=eq_true p383;replace q383:=eq_true q383
    try go_wp2_with (first | ((with_reducible refine gate_dst (N:=9) rfl ?_); refine box_event ?hg (N:=9) ?hd (cs:=#[.int .i64 0,.int .i64 0,.int .i64 0,.int .i64 0,.int .i64 0]) (t:=34) ?hr ?_; (case hd => rfl); (case hg => rfl); (case hr => first | (go_simp; done) | (go_simp; rfl)); intro p0 hg w28 hbox hb; have n0_:=Z (Kd.R_below HO_7.out hb); have n1_:=Z (blk_below (g:=p5) (o:=.cells #[.int .i64 a0_0,.slice (some q2) l0_1.length c0_1] 25 (0,0)) p3.out hb); have n2_:=Z (below_step HB.out hb); have n3_:=Z (hbox); have n4_:=Z ((by rw [hg]; exact (below_size HB.out) : w.heap.size ≤ p0)); have n5_:=Z ((by rw [hg]; exact (below_size HB.out) : w.heap.size ≤ p0)); have n6_:=Z ((by rw [hg]; exact Nat.ne_of_lt (blk_lt (g:=p5) (o:=.cells #[.int .i64 a0_0,.slice (some q2) l0_1.length c0_1] 25 (0,0)) p3.out) : p5 ≠ p0)); have n7_:=Z ((by rw [hg]; exact Nat.ne_of_gt (blk_lt (g:=p5) (o:=.cells #[.int .i64 a0_0,.slice (some q2) l0_1.length c0_1] 25 (0,0)) p3.out) : p0 ≠ p5)); clear HO_7; clear p3; clear HB; have HO_7:=n0_; have p3:=n1_; have HB:=n2_; have p1:=n3_; have GW384:=n4_; have q7:=n5_; have p4:=n6_; have q3:=n7_; clear n0_ n1_ n2_ n3_ n4_ n5_ n6_ n7_; clear hb hbox hg; have hnb29:=q3.out; have hnc29:=p4.out; have hcz30_0 : w28.cell? ⟨p0,0,none⟩ = some (.int .i64 0):=(blk_cell p1.out 0).trans rfl; have hcz30_1 : w28.cell? ⟨p0,1,none⟩ = some (.int .i64 0):=(blk_cell p1.out 1).trans rfl; have hcz30_2 : w28.cell? ⟨p0,2,none⟩ = some (.int .i64 0):=(blk_cell p1.out 2).trans rfl; have hcz30_3 : w28.cell? ⟨p0,3,none⟩ = some (.int .i64 0):=(blk_cell p1.out 3).trans rfl; have hcz30_4 : w28.cell? ⟨p0,4,none⟩ = some (.int .i64 0):=(blk_cell p1.out 4).trans rfl; have hfz30_0:=blk_frozen p1.out 0; have hfz30_1:=blk_frozen p1.out 1; have hfz30_2:=blk_frozen p1.out 2; have hfz30_3:=blk_frozen p1.out 3; have hfz30_4:=blk_frozen p1.out 4))
    have n0_ : Aside0 (Kd.R (Kd.int .i64) 3 (((((w28.setCell ⟨p0,0,none⟩ (.int .i64 ((rd_T34 l0_1 x8_1).f0))).setCell ⟨p0,1,none⟩ (.int .i64 ((rd_T34 l0_1 x8_1).f1))).setCell ⟨p0,2,none⟩ (.int .i64 ((rd_T34 l0_1 x8_1).f2))).setCell ⟨p0,3,none⟩ (.int .i64 ((rd_T34 l0_1 x8_1).f3))).setCell ⟨p0,4,none⟩ (.int .i64 ((rd_T34 l0_1 x8_1).f4))) w.heap.size (fun _ => True) v381 x7_1):=⟨by exact Kd.R_mono (Kd.R_far (p:=⟨p0,4,none⟩) (Kd.R_far (p:=⟨p0,3,none⟩) (Kd.R_far (p:=⟨p0,2,none⟩) (Kd.R_far (p:=⟨p0,1,none⟩) (Kd.R_far (p:=⟨p0,0,none⟩) (Kd.R_types HO_7.out p1.out (by decide)) (fun _ hk => hk.2) (.int .i64 ((rd_T34 l0_1 x8_1).f0))) (fun _ hk => hk.2) (.int .i64 ((rd_T34 l0_1 x8_1).f1))) (fun _ hk => hk.2) (.int .i64 ((rd_T34 l0_1 x8_1).f2))) (fun _ hk => hk.2) (.int .i64 ((rd_T34 l0_1 x8_1).f3))) (fun _ hk => hk.2) (.int .i64 ((rd_T34 l0_1 x8_1).f4))) (fun _ hk => trivial)⟩
    have n1_ : Aside0 ((((((w28.setCell ⟨p0,0,none⟩ (.int .i64 ((rd_T34 l0_1 x8_1).f0))).setCell ⟨p0,1,none⟩ (.int .i64 ((rd_T34 l0_1 x8_1).f1))).setCell ⟨p0,2,none⟩ (.int .i64 ((rd_T34 l0_1 x8_1).f2))).setCell ⟨p0,3,none⟩ (.int .i64 ((rd_T34 l0_1 x8_1).f3))).setCell ⟨p0,4,none⟩ (.int .i64 ((rd_T34 l0_1 x8_1).f4))).heap[p5]? = some (.cells #[.int .i64 a0_0,.slice (some q2) l0_1.length c0_1] 25 (0,0))):=⟨by refine blk_far ?_ p4.out _; refine blk_far ?_ p4.out _; refine blk_far ?_ p4.out _; refine blk_far ?_ p4.out _; refine blk_far ?_ p4.out _; exact p3.out⟩
    have n2_ : Aside0 ((((((w28.setCell ⟨p0,0,none⟩ (.int .i64 ((rd_T34 l0_1 x8_1).f0))).setCell ⟨p0,1,none⟩ (.int .i64 ((rd_T34 l0_1 x8_1).f1))).setCell ⟨p0,2,none⟩ (.int .i64 ((rd_T34 l0_1 x8_1).f2))).setCell ⟨p0,3,none⟩ (.int .i64 ((rd_T34 l0_1 x8_1).f3))).setCell ⟨p0,4,none⟩ (.int .i64 ((rd_T34 l0_1 x8_1).f4))).heap[p0]? = some (.cells #[.int .i64 ((rd_T34 l0_1 x8_1).f0),.int .i64 ((rd_T34 l0_1 x8_1).f1),.int .i64 ((rd_T34 l0_1 x8_1).f2),.int .i64 ((rd_T34 l0_1 x8_1).f3),.int .i64 ((rd_T34 l0_1 x8_1).f4)] 34 (0,0))):=⟨by refine blk_put (cs:=#[.int .i64 ((rd_T34 l0_1 x8_1).f0),.int .i64 ((rd_T34 l0_1 x8_1).f1),.int .i64 ((rd_T34 l0_1 x8_1).f2),.int .i64 ((rd_T34 l0_1 x8_1).f3),.int .i64 0]) ?_ 4 _ rfl; refine blk_put (cs:=#[.int .i64 ((rd_T34 l0_1 x8_1).f0),.int .i64 ((rd_T34 l0_1 x8_1).f1),.int .i64 ((rd_T34 l0_1 x8_1).f2),.int .i64 0,.int .i64 0]) ?_ 3 _ rfl; refine blk_put (cs:=#[.int .i64 ((rd_T34 l0_1 x8_1).f0),.int .i64 ((rd_T34 l0_1 x8_1).f1),.int .i64 0,.int .i64 0,.int .i64 0]) ?_ 2 _ rfl; refine blk_put (cs:=#[.int .i64 ((rd_T34 l0_1 x8_1).f0),.int .i64 0,.int .i64 0,.int .i64 0,.int .i64 0]) ?_ 1 _ rfl; refine blk_put (cs:=#[.int .i64 0,.int .i64 0,.int .i64 0,.int .i64 0,.int .i64 0]) ?_ 0 _ rfl; exact p1.out⟩
    have n3_ : Aside0 (Below w.heap.size w (((((w28.setCell ⟨p0,0,none⟩ (.int .i64 ((rd_T34 l0_1 x8_1).f0))).setCell ⟨p0,1,none⟩ (.int .i64 ((rd_T34 l0_1 x8_1).f1))).setCell ⟨p0,2,none⟩ (.int .i64 ((rd_T34 l0_1 x8_1).f2))).setCell ⟨p0,3,none⟩ (.int .i64 ((rd_T34 l0_1 x8_1).f3))).setCell ⟨p0,4,none⟩ (.int .i64 ((rd_T34 l0_1 x8_1).f4)))):=⟨by repeat (first | (with_reducible first | exact HB.out | apply below_alloc | apply pw_below_drewN | apply below_drew1 | refine below_set ?_ q6.out | refine below_set ?_ q7.out) | exact HB.out)⟩
    (try clear HO_7)
    (try clear p3)
    (try clear p1)
    (try clear HB)
    generalize (((((w28.setCell ⟨p0,0,none⟩ (.int .i64 ((rd_T34 l0_1 x8_1).f0))).setCell ⟨p0,1,none⟩ (.int .i64 ((rd_T34 l0_1 x8_1).f1))).setCell ⟨p0,2,none⟩ (.int .i64 ((rd_T34 l0_1 x8_1).f2))).setCell ⟨p0,3,none⟩ (.int .i64 ((rd_T34 l0_1 x8_1).f3))).setCell ⟨p0,4,none⟩ (.int .i64 ((rd_T34 l0_1 x8_1).f4))) = w31 at n0_ n1_ n2_ n3_ ⊢;have HO_7:=n0_;have p3:=n1_;have p1:=n2_;have HB:=n3_;clear n0_ n1_ n2_ n3_;have n0_:=Z (Kd.R_drew HO_7.out);have n1_:=Z (blk_drew p3.out);have n2_:=Z (blk_drew p1.out);have n3_:=Z (below_drew1 HB.out);clear HO_7;clear p3;clear p1;clear HB;have HO_7:=n0_;have p3:=n1_;have p1:=n2_;have HB:=n3_;clear n0_ n1_ n2_ n3_;obtain ⟨Ao33,co33,eo33⟩:=Kd.R_slice HO_7.out
    (first | subst eo33 | (injection eo33 with f1_ f2_ f3_; have f4_:=f1_.symm; have f5_:=f3_.symm; clear f1_ f2_ f3_; subst f4_; subst f5_))
    have p385 : 0 ≤ (a2 : Int):=of_decide_eq_true (by first | (with_reducible assumption) | assumption);have q385 : a2 < (x7_1.length : Int):=of_decide_eq_true (by first | (with_reducible assumption) | assumption);obtain ⟨q8,e385,q4⟩:=Kd.at_int (Kd.R_reads' HO_7.out).2.2 a2 p385 q385;cases e385;replace p385:=eq_true p385;replace q385:=eq_true q385;have p386 : 0 ≤ (((rd_T34 l0_1 x8_1).f1) : Int):=of_decide_eq_true (by first | (with_reducible assumption) | assumption);have q386 : ((rd_T34 l0_1 x8_1).f1) < (x7_1.length : Int):=of_decide_eq_true (by first | (with_reducible assumption) | assumption);obtain ⟨r2,e386,q5⟩:=Kd.at_int (Kd.R_reads' HO_7.out).2.2 ((rd_T34 l0_1 x8_1).f1) p386 q386;obtain rfl : q8 = r2:=(by injection e386)
    replace p386:=eq_true p386;replace q386:=eq_true q386;refine start_ (n:=19) (S:=fun w' => w'.cell? ⟨p0,0,none⟩ = some (.int .i64 ((rd_T34 l0_1 x8_1).f0)) ∧ w'.cell? ⟨p0,1,none⟩ = some (.int .i64 ((rd_T34 l0_1 x8_1).f1)) ∧ w'.cell? ⟨p0,2,none⟩ = some (.int .i64 ((rd_T34 l0_1 x8_1).f2)) ∧ w'.cell? ⟨p0,3,none⟩ = some (.int .i64 ((rd_T34 l0_1 x8_1).f3)) ∧ w'.cell? ⟨p0,4,none⟩ = some (.int .i64 ((rd_T34 l0_1 x8_1).f4)) ∧ w'.cell? (q8.add (a2).toNat) = some (.int .i64 (rd x7_1 a2)) ∧ w'.cell? (q8.add (((rd_T34 l0_1 x8_1).f1)).toNat) = some (.int .i64 (rd x7_1 ((rd_T34 l0_1 x8_1).f1)))) (ds:=[]) #[X,X,X,X,X,X,X,X,X,X,X,X,X,X,X,X,X,X,X] (by kernel_rfl) rfl rfl ⟨(blk_cell p1.out 0).trans rfl,(blk_cell p1.out 1).trans rfl,(blk_cell p1.out 2).trans rfl,(blk_cell p1.out 3).trans rfl,(blk_cell p1.out 4).trans rfl,q4,q5⟩ (fun hHeld => ?_); refine with_tabW spec_l20Look.tab6 spec_l20Look.bits6 (fun HT_ HW_ => ?_);generalize w31.drew = w32 at HO_7 p3 p1 HB q4 q5 hHeld ⊢;refine pure_ (i:=0) (N:=some 25) (v:=?_) (a':=?_) #[Y,X,X,X,X,X,X,X,X,X,X,X,X,X,X,X,X,X,X] rfl rfl (any_of HT_.out (by kernel_rfl)) (fun _ _ _ h => h) (Or.inl ⟨by rfl,?_⟩) ?_ ?_;rotate_left
    ·intro w';go_simp;with_reducible rfl
    rotate_left
    ·simp only [Act.put,J,U,V,i64_w,i32_w];rfl
    refine pure_ (i:=2) (N:=some 27) (v:=?_) (a':=?_) #[Y,X,Y,X,X,X,X,X,X,X,X,X,X,X,X,X,X,X,X] rfl rfl (any_of HT_.out (by kernel_rfl)) (fun _ _ _ h => h) (Or.inl ⟨by rfl,?_⟩) ?_ ?_;rotate_left
    ·intro w';go_simp;with_reducible rfl
    rotate_left
    ·simp only [Act.put,J,U,V,i64_w,i32_w];rfl
    refine take_ (i:=1) (N:=some 26) (v:=?_) (a':=?_) #[Y,Y,Y,X,X,X,X,X,X,X,X,X,X,X,X,X,X,X,X] rfl rfl (take_ofW HT_.out HW_.out (by kernel_rfl)) (fun _ _ _ h => h) (Or.inl ⟨by rfl,?_⟩) hHeld ?_ ?_;rotate_left
    ·rintro w' ⟨s0,s1,s2,s3,s4,s5,s6⟩;go_simp;with_reducible rfl
    rotate_left
    ·simp only [Act.put,J,U,V,i64_w,i32_w];rfl
    refine pure_ (i:=3) (N:=some 28) (v:=?_) (a':=?_) #[Y,Y,Y,Y,X,X,X,X,X,X,X,X,X,X,X,X,X,X,X] rfl rfl (any_of HT_.out (by kernel_rfl)) (fun _ _ _ h => h) (Or.inl ⟨by rfl,?_⟩) ?_ ?_;rotate_left
    ·intro w';go_simp;with_reducible rfl
    rotate_left
    ·simp only [Act.put,J,U,V,i64_w,i32_w];rfl
    refine pure_ (i:=4) (N:=some 29) (v:=?_) (a':=?_) #[Y,Y,Y,Y,Y,X,X,X,X,X,X,X,X,X,X,X,X,X,X] rfl rfl (any_of HT_.out (by kernel_rfl)) (fun _ _ _ h => h) (Or.inl ⟨by rfl,?_⟩) ?_ ?_;rotate_left
    ·intro w';go_simp;with_reducible rfl
    rotate_left
    ·simp only [Act.put,J,U,V,i64_w,i32_w];rfl
    refine pure_ (i:=5) (N:=some 30) (v:=?_) (a':=?_) #[Y,Y,Y,Y,Y,Y,X,X,X,X,X,X,X,X,X,X,X,X,X] rfl rfl (any_of HT_.out (by kernel_rfl)) (fun _ _ _ h => h) (Or.inl ⟨by rfl,?_⟩) ?_ ?_;rotate_left
    ·intro w';go_simp;with_reducible rfl
    rotate_left
    ·simp only [Act.put,J,U,V,i64_w,i32_w];rfl
    refine pure_ (i:=6) (N:=some 31) (v:=?_) (a':=?_) #[Y,Y,Y,Y,Y,Y,Y,X,X,X,X,X,X,X,X,X,X,X,X] rfl rfl (any_of HT_.out (by kernel_rfl)) (fun _ _ _ h => h) (Or.inl ⟨by rfl,?_⟩) ?_ ?_;rotate_left
    ·intro w';go_simp;with_reducible rfl
    rotate_left
    ·simp only [Act.put,J,U,V,i64_w,i32_w];rfl
    refine pure_ (i:=7) (N:=some 32) (v:=?_) (a':=?_) #[Y,Y,Y,Y,Y,Y,Y,Y,X,X,X,X,X,X,X,X,X,X,X] rfl rfl (any_of HT_.out (by kernel_rfl)) (fun _ _ _ h => h) (Or.inl ⟨by rfl,?_⟩) ?_ ?_;rotate_left
    ·intro w';go_simp;with_reducible rfl
    rotate_left
    ·simp only [Act.put,J,U,V,i64_w,i32_w];rfl
    refine pure_ (i:=9) (N:=some 34) (v:=?_) (a':=?_) #[Y,Y,Y,Y,Y,Y,Y,Y,X,Y,X,X,X,X,X,X,X,X,X] rfl rfl (any_of HT_.out (by kernel_rfl)) (fun _ _ _ h => h) (Or.inl ⟨by rfl,?_⟩) ?_ ?_;rotate_left
    ·intro w';go_simp;with_reducible rfl
    rotate_left
    ·simp only [Act.put,J,U,V,i64_w,i32_w];rfl
    refine pure_ (i:=12) (N:=some 37) (v:=?_) (a':=?_) #[Y,Y,Y,Y,Y,Y,Y,Y,X,Y,X,X,Y,X,X,X,X,X,X] rfl rfl (any_of HT_.out (by kernel_rfl)) (fun _ _ _ h => h) (Or.inl ⟨by rfl,?_⟩) ?_ ?_;rotate_left
    ·intro w';go_simp;with_reducible rfl
    rotate_left
    ·simp only [Act.put,J,U,V,i64_w,i32_w];rfl
    refine pure_ (i:=13) (N:=some 38) (v:=?_) (a':=?_) #[Y,Y,Y,Y,Y,Y,Y,Y,X,Y,X,X,Y,Y,X,X,X,X,X] rfl rfl (any_of HT_.out (by kernel_rfl)) (fun _ _ _ h => h) (Or.inl ⟨by rfl,?_⟩) ?_ ?_;rotate_left
    ·intro w';go_simp;with_reducible rfl
    rotate_left
    ·simp only [Act.put,J,U,V,i64_w,i32_w];rfl
    refine take_ (i:=8) (N:=some 33) (v:=?_) (a':=?_) #[Y,Y,Y,Y,Y,Y,Y,Y,Y,Y,X,X,Y,Y,X,X,X,X,X] rfl rfl (take_ofW HT_.out HW_.out (by kernel_rfl)) (fun _ _ _ h => h) (Or.inl ⟨by rfl,?_⟩) hHeld ?_ ?_;rotate_left
    ·rintro w' ⟨s0,s1,s2,s3,s4,s5,s6⟩;go_simp;with_reducible rfl
    rotate_left
    ·simp only [Act.put,J,U,V,i64_w,i32_w];rfl
    refine take_ (i:=10) (N:=some 35) (v:=?_) (a':=?_) #[Y,Y,Y,Y,Y,Y,Y,Y,Y,Y,Y,X,Y,Y,X,X,X,X,X] rfl rfl (take_ofW HT_.out HW_.out (by kernel_rfl)) (fun _ _ _ h => h) (Or.inl ⟨by rfl,?_⟩) hHeld ?_ ?_;rotate_left
    ·rintro w' ⟨s0,s1,s2,s3,s4,s5,s6⟩;go_simp;with_reducible rfl
    rotate_left
    ·simp only [Act.put,J,U,V,i64_w,i32_w];rfl
    refine pure_ (i:=11) (N:=some 36) (v:=?_) (a':=?_) #[Y,Y,Y,Y,Y,Y,Y,Y,Y,Y,Y,Y,Y,Y,X,X,X,X,X] rfl rfl (any_of HT_.out (by kernel_rfl)) (fun _ _ _ h => h) (Or.inl ⟨by rfl,?_⟩) ?_ ?_;rotate_left
    ·intro w';go_simp;with_reducible rfl
    rotate_left
    ·simp only [Act.put,J,U,V,i64_w,i32_w];rfl
    refine take_ (i:=14) (N:=some 39) (v:=?_) (a':=?_) #[Y,Y,Y,Y,Y,Y,Y,Y,Y,Y,Y,Y,Y,Y,Y,X,X,X,X] rfl rfl (take_ofW HT_.out HW_.out (by kernel_rfl)) (fun _ _ _ h => h) (Or.inl ⟨by rfl,?_⟩) hHeld ?_ ?_;rotate_left
    ·rintro w' ⟨s0,s1,s2,s3,s4,s5,s6⟩;go_simp;with_reducible rfl
    rotate_left
    ·simp only [Act.put,J,U,V,i64_w,i32_w];rfl
    refine pure_ (i:=15) (N:=some 40) (v:=?_) (a':=?_) #[Y,Y,Y,Y,Y,Y,Y,Y,Y,Y,Y,Y,Y,Y,Y,Y,X,X,X] rfl rfl (any_of HT_.out (by kernel_rfl)) (fun _ _ _ h => h) (Or.inl ⟨by rfl,?_⟩) ?_ ?_;rotate_left
    ·intro w';go_simp;with_reducible rfl
    rotate_left
    ·simp only [Act.put,J,U,V,i64_w,i32_w];rfl
    refine take_ (i:=16) (N:=some 41) (v:=?_) (a':=?_) #[Y,Y,Y,Y,Y,Y,Y,Y,Y,Y,Y,Y,Y,Y,Y,Y,Y,X,X] rfl rfl (take_ofW HT_.out HW_.out (by kernel_rfl)) (fun _ _ _ h => h) (Or.inl ⟨by rfl,?_⟩) hHeld ?_ ?_;rotate_left
    ·rintro w' ⟨s0,s1,s2,s3,s4,s5,s6⟩;go_simp;with_reducible rfl
    rotate_left
    ·simp only [Act.put,J,U,V,i64_w,i32_w];rfl
    refine pure_ (i:=17) (N:=some 42) (v:=?_) (a':=?_) #[Y,Y,Y,Y,Y,Y,Y,Y,Y,Y,Y,Y,Y,Y,Y,Y,Y,Y,X] rfl rfl (any_of HT_.out (by kernel_rfl)) (fun _ _ _ h => h) (Or.inl ⟨by rfl,?_⟩) ?_ ?_;rotate_left
    ·intro w';go_simp;with_reducible rfl
    rotate_left
    ·simp only [Act.put,J,U,V,i64_w,i32_w];rfl
    refine pure_ (i:=18) (N:=some 43) (v:=?_) (a':=?_) #[Y,Y,Y,Y,Y,Y,Y,Y,Y,Y,Y,Y,Y,Y,Y,Y,Y,Y,Y] rfl rfl (any_of HT_.out (by kernel_rfl)) (fun _ _ _ h => h) (Or.inl ⟨by rfl,?_⟩) ?_ ?_;rotate_left
    ·intro w';go_simp;with_reducible rfl
    rotate_left
    ·simp only [Act.put,J,U,V,i64_w,i32_w];rfl
    refine done_ (done_of HT_.out (by kernel_rfl)) ?_
    try go_wp2
    go_roundg k1
    case measure => have:=HK1.out; omega
    case rel => exact ⟨(x7_1),(wrap64 (x8_1 + 1)),(by first | rfl | (simp; done) | (simp [*]; done)),H',⟨by have:=HK1.out; omega⟩,⟨by exact HO_7.out⟩,⟨by exact p3.out⟩,⟨by repeat (first | (with_reducible first | exact HB.out | apply below_alloc | apply pw_below_drewN | apply below_drew1 | refine below_set ?_ q6.out | refine below_set ?_ q7.out) | exact HB.out)⟩⟩
   rw [if_pos c16] at H;have c16b0 : decide ((wrap64 ((rd x7_1 a2) + ((rd_T34 l0_1 x8_1).f2))) < (rd x7_1 ((rd_T34 l0_1 x8_1).f1))) = true:=decide_eq_true c16;clear c16;obtain ⟨y388,hy388⟩ : ∃ y_ : List Int,y_ = (x7_1.set (((rd_T34 l0_1 x8_1).f1) : Int).toNat (wrap64 ((rd x7_1 a2) + ((rd_T34 l0_1 x8_1).f2)))):=⟨_,rfl⟩
   replace H : (spec_l20Look.l0 k1 a2 y388 (wrap64 (x8_1 + 1)) a0_0 l0_1) = some r:=by first | (rw [hy388]; with_reducible exact H) | (have H2_:=(Option.bind_some _ _).symm.trans H; rw [hy388]; with_reducible exact H2_) | (have H2_:=(Option.bind_some _ _).symm.trans H; with_reducible exact H2_) | with_reducible exact H | (rw [hy388]; exact H) | exact H
   have Ny388:=Z hy388;clear hy388;have H':=Z H;clear H;have hcz18_0 : wr.cell? ⟨p5,0,none⟩ = some (.int .i64 a0_0):=(blk_cell p3.out 0).trans rfl;have hcz18_1 : wr.cell? ⟨p5,1,none⟩ = some (.slice A0_1 l0_1.length c0_1):=(blk_cell p3.out 1).trans rfl;have hfz18_0:=blk_frozen p3.out 0;have hfz18_1:=blk_frozen p3.out 1;have p383 : 0 ≤ (x8_1 : Int):=of_decide_eq_true (by first | (with_reducible assumption) | assumption);have q383 : x8_1 < (l0_1.length : Int):=of_decide_eq_true (by first | (with_reducible assumption) | assumption);obtain ⟨q2,e383,p7,p8,p9,q0,q1⟩:=at_T34 r1.out x8_1 p383 q383;cases e383;replace p7:=(HB.out.cell (World.block_lt_of_cell? w _ p7)).trans p7;replace p8:=(HB.out.cell (World.block_lt_of_cell? w _ p8)).trans p8;replace p9:=(HB.out.cell (World.block_lt_of_cell? w _ p9)).trans p9;replace q0:=(HB.out.cell (World.block_lt_of_cell? w _ q0)).trans q0;replace q1:=(HB.out.cell (World.block_lt_of_cell? w _ q1)).trans q1;replace p383:=eq_true p383;replace q383:=eq_true q383
   try go_wp2_with (first | ((with_reducible refine gate_dst (N:=9) rfl ?_); refine box_event ?hg (N:=9) ?hd (cs:=#[.int .i64 0,.int .i64 0,.int .i64 0,.int .i64 0,.int .i64 0]) (t:=34) ?hr ?_; (case hd => rfl); (case hg => rfl); (case hr => first | (go_simp; done) | (go_simp; rfl)); intro p0 hg w19 hbox hb; have n0_:=Z (Kd.R_below HO_7.out hb); have n1_:=Z (blk_below (g:=p5) (o:=.cells #[.int .i64 a0_0,.slice (some q2) l0_1.length c0_1] 25 (0,0)) p3.out hb); have n2_:=Z (below_step HB.out hb); have n3_:=Z (hbox); have n4_:=Z ((by rw [hg]; exact (below_size HB.out) : w.heap.size ≤ p0)); have n5_:=Z ((by rw [hg]; exact (below_size HB.out) : w.heap.size ≤ p0)); have n6_:=Z ((by rw [hg]; exact Nat.ne_of_lt (blk_lt (g:=p5) (o:=.cells #[.int .i64 a0_0,.slice (some q2) l0_1.length c0_1] 25 (0,0)) p3.out) : p5 ≠ p0)); have n7_:=Z ((by rw [hg]; exact Nat.ne_of_gt (blk_lt (g:=p5) (o:=.cells #[.int .i64 a0_0,.slice (some q2) l0_1.length c0_1] 25 (0,0)) p3.out) : p0 ≠ p5)); clear HO_7; clear p3; clear HB; have HO_7:=n0_; have p3:=n1_; have HB:=n2_; have p1:=n3_; have GW384:=n4_; have q7:=n5_; have p4:=n6_; have q3:=n7_; clear n0_ n1_ n2_ n3_ n4_ n5_ n6_ n7_; clear hb hbox hg; have hnb20:=q3.out; have hnc20:=p4.out; have hcz21_0 : w19.cell? ⟨p0,0,none⟩ = some (.int .i64 0):=(blk_cell p1.out 0).trans rfl; have hcz21_1 : w19.cell? ⟨p0,1,none⟩ = some (.int .i64 0):=(blk_cell p1.out 1).trans rfl; have hcz21_2 : w19.cell? ⟨p0,2,none⟩ = some (.int .i64 0):=(blk_cell p1.out 2).trans rfl; have hcz21_3 : w19.cell? ⟨p0,3,none⟩ = some (.int .i64 0):=(blk_cell p1.out 3).trans rfl; have hcz21_4 : w19.cell? ⟨p0,4,none⟩ = some (.int .i64 0):=(blk_cell p1.out 4).trans rfl; have hfz21_0:=blk_frozen p1.out 0; have hfz21_1:=blk_frozen p1.out 1; have hfz21_2:=blk_frozen p1.out 2; have hfz21_3:=blk_frozen p1.out 3; have hfz21_4:=blk_frozen p1.out 4))
   have n0_ : Aside0 (Kd.R (Kd.int .i64) 3 (((((w19.setCell ⟨p0,0,none⟩ (.int .i64 ((rd_T34 l0_1 x8_1).f0))).setCell ⟨p0,1,none⟩ (.int .i64 ((rd_T34 l0_1 x8_1).f1))).setCell ⟨p0,2,none⟩ (.int .i64 ((rd_T34 l0_1 x8_1).f2))).setCell ⟨p0,3,none⟩ (.int .i64 ((rd_T34 l0_1 x8_1).f3))).setCell ⟨p0,4,none⟩ (.int .i64 ((rd_T34 l0_1 x8_1).f4))) w.heap.size (fun _ => True) v381 x7_1):=⟨by exact Kd.R_mono (Kd.R_far (p:=⟨p0,4,none⟩) (Kd.R_far (p:=⟨p0,3,none⟩) (Kd.R_far (p:=⟨p0,2,none⟩) (Kd.R_far (p:=⟨p0,1,none⟩) (Kd.R_far (p:=⟨p0,0,none⟩) (Kd.R_types HO_7.out p1.out (by decide)) (fun _ hk => hk.2) (.int .i64 ((rd_T34 l0_1 x8_1).f0))) (fun _ hk => hk.2) (.int .i64 ((rd_T34 l0_1 x8_1).f1))) (fun _ hk => hk.2) (.int .i64 ((rd_T34 l0_1 x8_1).f2))) (fun _ hk => hk.2) (.int .i64 ((rd_T34 l0_1 x8_1).f3))) (fun _ hk => hk.2) (.int .i64 ((rd_T34 l0_1 x8_1).f4))) (fun _ hk => trivial)⟩
   have n1_ : Aside0 ((((((w19.setCell ⟨p0,0,none⟩ (.int .i64 ((rd_T34 l0_1 x8_1).f0))).setCell ⟨p0,1,none⟩ (.int .i64 ((rd_T34 l0_1 x8_1).f1))).setCell ⟨p0,2,none⟩ (.int .i64 ((rd_T34 l0_1 x8_1).f2))).setCell ⟨p0,3,none⟩ (.int .i64 ((rd_T34 l0_1 x8_1).f3))).setCell ⟨p0,4,none⟩ (.int .i64 ((rd_T34 l0_1 x8_1).f4))).heap[p5]? = some (.cells #[.int .i64 a0_0,.slice (some q2) l0_1.length c0_1] 25 (0,0))):=⟨by refine blk_far ?_ p4.out _; refine blk_far ?_ p4.out _; refine blk_far ?_ p4.out _; refine blk_far ?_ p4.out _; refine blk_far ?_ p4.out _; exact p3.out⟩
   have n2_ : Aside0 ((((((w19.setCell ⟨p0,0,none⟩ (.int .i64 ((rd_T34 l0_1 x8_1).f0))).setCell ⟨p0,1,none⟩ (.int .i64 ((rd_T34 l0_1 x8_1).f1))).setCell ⟨p0,2,none⟩ (.int .i64 ((rd_T34 l0_1 x8_1).f2))).setCell ⟨p0,3,none⟩ (.int .i64 ((rd_T34 l0_1 x8_1).f3))).setCell ⟨p0,4,none⟩ (.int .i64 ((rd_T34 l0_1 x8_1).f4))).heap[p0]? = some (.cells #[.int .i64 ((rd_T34 l0_1 x8_1).f0),.int .i64 ((rd_T34 l0_1 x8_1).f1),.int .i64 ((rd_T34 l0_1 x8_1).f2),.int .i64 ((rd_T34 l0_1 x8_1).f3),.int .i64 ((rd_T34 l0_1 x8_1).f4)] 34 (0,0))):=⟨by refine blk_put (cs:=#[.int .i64 ((rd_T34 l0_1 x8_1).f0),.int .i64 ((rd_T34 l0_1 x8_1).f1),.int .i64 ((rd_T34 l0_1 x8_1).f2),.int .i64 ((rd_T34 l0_1 x8_1).f3),.int .i64 0]) ?_ 4 _ rfl; refine blk_put (cs:=#[.int .i64 ((rd_T34 l0_1 x8_1).f0),.int .i64 ((rd_T34 l0_1 x8_1).f1),.int .i64 ((rd_T34 l0_1 x8_1).f2),.int .i64 0,.int .i64 0]) ?_ 3 _ rfl; refine blk_put (cs:=#[.int .i64 ((rd_T34 l0_1 x8_1).f0),.int .i64 ((rd_T34 l0_1 x8_1).f1),.int .i64 0,.int .i64 0,.int .i64 0]) ?_ 2 _ rfl; refine blk_put (cs:=#[.int .i64 ((rd_T34 l0_1 x8_1).f0),.int .i64 0,.int .i64 0,.int .i64 0,.int .i64 0]) ?_ 1 _ rfl; refine blk_put (cs:=#[.int .i64 0,.int .i64 0,.int .i64 0,.int .i64 0,.int .i64 0]) ?_ 0 _ rfl; exact p1.out⟩
   have n3_ : Aside0 (Below w.heap.size w (((((w19.setCell ⟨p0,0,none⟩ (.int .i64 ((rd_T34 l0_1 x8_1).f0))).setCell ⟨p0,1,none⟩ (.int .i64 ((rd_T34 l0_1 x8_1).f1))).setCell ⟨p0,2,none⟩ (.int .i64 ((rd_T34 l0_1 x8_1).f2))).setCell ⟨p0,3,none⟩ (.int .i64 ((rd_T34 l0_1 x8_1).f3))).setCell ⟨p0,4,none⟩ (.int .i64 ((rd_T34 l0_1 x8_1).f4)))):=⟨by repeat (first | (with_reducible first | exact HB.out | apply below_alloc | apply pw_below_drewN | apply below_drew1 | refine below_set ?_ q6.out | refine below_set ?_ q7.out) | exact HB.out)⟩
   (try clear HO_7)
   (try clear p3)
   (try clear p1)
   (try clear HB)
   generalize (((((w19.setCell ⟨p0,0,none⟩ (.int .i64 ((rd_T34 l0_1 x8_1).f0))).setCell ⟨p0,1,none⟩ (.int .i64 ((rd_T34 l0_1 x8_1).f1))).setCell ⟨p0,2,none⟩ (.int .i64 ((rd_T34 l0_1 x8_1).f2))).setCell ⟨p0,3,none⟩ (.int .i64 ((rd_T34 l0_1 x8_1).f3))).setCell ⟨p0,4,none⟩ (.int .i64 ((rd_T34 l0_1 x8_1).f4))) = w22 at n0_ n1_ n2_ n3_ ⊢;have HO_7:=n0_;have p3:=n1_;have p1:=n2_;have HB:=n3_;clear n0_ n1_ n2_ n3_;have n0_:=Z (Kd.R_drew HO_7.out);have n1_:=Z (blk_drew p3.out);have n2_:=Z (blk_drew p1.out);have n3_:=Z (below_drew1 HB.out);clear HO_7;clear p3;clear p1;clear HB;have HO_7:=n0_;have p3:=n1_;have p1:=n2_;have HB:=n3_;clear n0_ n1_ n2_ n3_;obtain ⟨Ao24,co24,eo24⟩:=Kd.R_slice HO_7.out
   (first | subst eo24 | (injection eo24 with f1_ f2_ f3_; have f4_:=f1_.symm; have f5_:=f3_.symm; clear f1_ f2_ f3_; subst f4_; subst f5_))
   have p385 : 0 ≤ (a2 : Int):=of_decide_eq_true (by first | (with_reducible assumption) | assumption);have q385 : a2 < (x7_1.length : Int):=of_decide_eq_true (by first | (with_reducible assumption) | assumption);obtain ⟨q8,e385,q4⟩:=Kd.at_int (Kd.R_reads' HO_7.out).2.2 a2 p385 q385;cases e385;replace p385:=eq_true p385;replace q385:=eq_true q385;have p386 : 0 ≤ (((rd_T34 l0_1 x8_1).f1) : Int):=of_decide_eq_true (by first | (with_reducible assumption) | assumption);have q386 : ((rd_T34 l0_1 x8_1).f1) < (x7_1.length : Int):=of_decide_eq_true (by first | (with_reducible assumption) | assumption);obtain ⟨r2,e386,q5⟩:=Kd.at_int (Kd.R_reads' HO_7.out).2.2 ((rd_T34 l0_1 x8_1).f1) p386 q386;obtain rfl : q8 = r2:=(by injection e386)
   replace p386:=eq_true p386;replace q386:=eq_true q386;refine start_ (n:=19) (S:=fun w' => w'.cell? ⟨p0,0,none⟩ = some (.int .i64 ((rd_T34 l0_1 x8_1).f0)) ∧ w'.cell? ⟨p0,1,none⟩ = some (.int .i64 ((rd_T34 l0_1 x8_1).f1)) ∧ w'.cell? ⟨p0,2,none⟩ = some (.int .i64 ((rd_T34 l0_1 x8_1).f2)) ∧ w'.cell? ⟨p0,3,none⟩ = some (.int .i64 ((rd_T34 l0_1 x8_1).f3)) ∧ w'.cell? ⟨p0,4,none⟩ = some (.int .i64 ((rd_T34 l0_1 x8_1).f4)) ∧ w'.cell? (q8.add (a2).toNat) = some (.int .i64 (rd x7_1 a2)) ∧ w'.cell? (q8.add (((rd_T34 l0_1 x8_1).f1)).toNat) = some (.int .i64 (rd x7_1 ((rd_T34 l0_1 x8_1).f1)))) (ds:=[]) #[X,X,X,X,X,X,X,X,X,X,X,X,X,X,X,X,X,X,X] (by kernel_rfl) rfl rfl ⟨(blk_cell p1.out 0).trans rfl,(blk_cell p1.out 1).trans rfl,(blk_cell p1.out 2).trans rfl,(blk_cell p1.out 3).trans rfl,(blk_cell p1.out 4).trans rfl,q4,q5⟩ (fun hHeld => ?_); refine with_tabW spec_l20Look.tab6 spec_l20Look.bits6 (fun HT_ HW_ => ?_);generalize w22.drew = w23 at HO_7 p3 p1 HB q4 q5 hHeld ⊢;refine pure_ (i:=0) (N:=some 25) (v:=?_) (a':=?_) #[Y,X,X,X,X,X,X,X,X,X,X,X,X,X,X,X,X,X,X] rfl rfl (any_of HT_.out (by kernel_rfl)) (fun _ _ _ h => h) (Or.inl ⟨by rfl,?_⟩) ?_ ?_;rotate_left
   ·intro w';go_simp;with_reducible rfl
   rotate_left
   ·simp only [Act.put,J,U,V,i64_w,i32_w];rfl
   refine pure_ (i:=2) (N:=some 27) (v:=?_) (a':=?_) #[Y,X,Y,X,X,X,X,X,X,X,X,X,X,X,X,X,X,X,X] rfl rfl (any_of HT_.out (by kernel_rfl)) (fun _ _ _ h => h) (Or.inl ⟨by rfl,?_⟩) ?_ ?_;rotate_left
   ·intro w';go_simp;with_reducible rfl
   rotate_left
   ·simp only [Act.put,J,U,V,i64_w,i32_w];rfl
   refine take_ (i:=1) (N:=some 26) (v:=?_) (a':=?_) #[Y,Y,Y,X,X,X,X,X,X,X,X,X,X,X,X,X,X,X,X] rfl rfl (take_ofW HT_.out HW_.out (by kernel_rfl)) (fun _ _ _ h => h) (Or.inl ⟨by rfl,?_⟩) hHeld ?_ ?_;rotate_left
   ·rintro w' ⟨s0,s1,s2,s3,s4,s5,s6⟩;go_simp;with_reducible rfl
   rotate_left
   ·simp only [Act.put,J,U,V,i64_w,i32_w];rfl
   refine pure_ (i:=3) (N:=some 28) (v:=?_) (a':=?_) #[Y,Y,Y,Y,X,X,X,X,X,X,X,X,X,X,X,X,X,X,X] rfl rfl (any_of HT_.out (by kernel_rfl)) (fun _ _ _ h => h) (Or.inl ⟨by rfl,?_⟩) ?_ ?_;rotate_left
   ·intro w';go_simp;with_reducible rfl
   rotate_left
   ·simp only [Act.put,J,U,V,i64_w,i32_w];rfl
   refine pure_ (i:=4) (N:=some 29) (v:=?_) (a':=?_) #[Y,Y,Y,Y,Y,X,X,X,X,X,X,X,X,X,X,X,X,X,X] rfl rfl (any_of HT_.out (by kernel_rfl)) (fun _ _ _ h => h) (Or.inl ⟨by rfl,?_⟩) ?_ ?_;rotate_left
   ·intro w';go_simp;with_reducible rfl
   rotate_left
   ·simp only [Act.put,J,U,V,i64_w,i32_w];rfl
   refine pure_ (i:=5) (N:=some 30) (v:=?_) (a':=?_) #[Y,Y,Y,Y,Y,Y,X,X,X,X,X,X,X,X,X,X,X,X,X] rfl rfl (any_of HT_.out (by kernel_rfl)) (fun _ _ _ h => h) (Or.inl ⟨by rfl,?_⟩) ?_ ?_;rotate_left
   ·intro w';go_simp;with_reducible rfl
   rotate_left
   ·simp only [Act.put,J,U,V,i64_w,i32_w];rfl
   refine pure_ (i:=6) (N:=some 31) (v:=?_) (a':=?_) #[Y,Y,Y,Y,Y,Y,Y,X,X,X,X,X,X,X,X,X,X,X,X] rfl rfl (any_of HT_.out (by kernel_rfl)) (fun _ _ _ h => h) (Or.inl ⟨by rfl,?_⟩) ?_ ?_;rotate_left
   ·intro w';go_simp;with_reducible rfl
   rotate_left
   ·simp only [Act.put,J,U,V,i64_w,i32_w];rfl
   refine pure_ (i:=7) (N:=some 32) (v:=?_) (a':=?_) #[Y,Y,Y,Y,Y,Y,Y,Y,X,X,X,X,X,X,X,X,X,X,X] rfl rfl (any_of HT_.out (by kernel_rfl)) (fun _ _ _ h => h) (Or.inl ⟨by rfl,?_⟩) ?_ ?_;rotate_left
   ·intro w';go_simp;with_reducible rfl
   rotate_left
   ·simp only [Act.put,J,U,V,i64_w,i32_w];rfl
   refine pure_ (i:=9) (N:=some 34) (v:=?_) (a':=?_) #[Y,Y,Y,Y,Y,Y,Y,Y,X,Y,X,X,X,X,X,X,X,X,X] rfl rfl (any_of HT_.out (by kernel_rfl)) (fun _ _ _ h => h) (Or.inl ⟨by rfl,?_⟩) ?_ ?_;rotate_left
   ·intro w';go_simp;with_reducible rfl
   rotate_left
   ·simp only [Act.put,J,U,V,i64_w,i32_w];rfl
   refine pure_ (i:=12) (N:=some 37) (v:=?_) (a':=?_) #[Y,Y,Y,Y,Y,Y,Y,Y,X,Y,X,X,Y,X,X,X,X,X,X] rfl rfl (any_of HT_.out (by kernel_rfl)) (fun _ _ _ h => h) (Or.inl ⟨by rfl,?_⟩) ?_ ?_;rotate_left
   ·intro w';go_simp;with_reducible rfl
   rotate_left
   ·simp only [Act.put,J,U,V,i64_w,i32_w];rfl
   refine pure_ (i:=13) (N:=some 38) (v:=?_) (a':=?_) #[Y,Y,Y,Y,Y,Y,Y,Y,X,Y,X,X,Y,Y,X,X,X,X,X] rfl rfl (any_of HT_.out (by kernel_rfl)) (fun _ _ _ h => h) (Or.inl ⟨by rfl,?_⟩) ?_ ?_;rotate_left
   ·intro w';go_simp;with_reducible rfl
   rotate_left
   ·simp only [Act.put,J,U,V,i64_w,i32_w];rfl
   refine take_ (i:=8) (N:=some 33) (v:=?_) (a':=?_) #[Y,Y,Y,Y,Y,Y,Y,Y,Y,Y,X,X,Y,Y,X,X,X,X,X] rfl rfl (take_ofW HT_.out HW_.out (by kernel_rfl)) (fun _ _ _ h => h) (Or.inl ⟨by rfl,?_⟩) hHeld ?_ ?_;rotate_left
   ·rintro w' ⟨s0,s1,s2,s3,s4,s5,s6⟩;go_simp;with_reducible rfl
   rotate_left
   ·simp only [Act.put,J,U,V,i64_w,i32_w];rfl
   refine take_ (i:=10) (N:=some 35) (v:=?_) (a':=?_) #[Y,Y,Y,Y,Y,Y,Y,Y,Y,Y,Y,X,Y,Y,X,X,X,X,X] rfl rfl (take_ofW HT_.out HW_.out (by kernel_rfl)) (fun _ _ _ h => h) (Or.inl ⟨by rfl,?_⟩) hHeld ?_ ?_;rotate_left
   ·rintro w' ⟨s0,s1,s2,s3,s4,s5,s6⟩;go_simp;with_reducible rfl
   rotate_left
   ·simp only [Act.put,J,U,V,i64_w,i32_w];rfl
   refine pure_ (i:=11) (N:=some 36) (v:=?_) (a':=?_) #[Y,Y,Y,Y,Y,Y,Y,Y,Y,Y,Y,Y,Y,Y,X,X,X,X,X] rfl rfl (any_of HT_.out (by kernel_rfl)) (fun _ _ _ h => h) (Or.inl ⟨by rfl,?_⟩) ?_ ?_;rotate_left
   ·intro w';go_simp;with_reducible rfl
   rotate_left
   ·simp only [Act.put,J,U,V,i64_w,i32_w];rfl
   refine take_ (i:=14) (N:=some 39) (v:=?_) (a':=?_) #[Y,Y,Y,Y,Y,Y,Y,Y,Y,Y,Y,Y,Y,Y,Y,X,X,X,X] rfl rfl (take_ofW HT_.out HW_.out (by kernel_rfl)) (fun _ _ _ h => h) (Or.inl ⟨by rfl,?_⟩) hHeld ?_ ?_;rotate_left
   ·rintro w' ⟨s0,s1,s2,s3,s4,s5,s6⟩;go_simp;with_reducible rfl
   rotate_left
   ·simp only [Act.put,J,U,V,i64_w,i32_w];rfl
   refine pure_ (i:=15) (N:=some 40) (v:=?_) (a':=?_) #[Y,Y,Y,Y,Y,Y,Y,Y,Y,Y,Y,Y,Y,Y,Y,Y,X,X,X] rfl rfl (any_of HT_.out (by kernel_rfl)) (fun _ _ _ h => h) (Or.inl ⟨by rfl,?_⟩) ?_ ?_;rotate_left
   ·intro w';go_simp;with_reducible rfl
   rotate_left
   ·simp only [Act.put,J,U,V,i64_w,i32_w];rfl
   refine take_ (i:=16) (N:=some 41) (v:=?_) (a':=?_) #[Y,Y,Y,Y,Y,Y,Y,Y,Y,Y,Y,Y,Y,Y,Y,Y,Y,X,X] rfl rfl (take_ofW HT_.out HW_.out (by kernel_rfl)) (fun _ _ _ h => h) (Or.inl ⟨by rfl,?_⟩) hHeld ?_ ?_;rotate_left
   ·rintro w' ⟨s0,s1,s2,s3,s4,s5,s6⟩;go_simp;with_reducible rfl
   rotate_left
   ·simp only [Act.put,J,U,V,i64_w,i32_w];rfl
   refine pure_ (i:=17) (N:=some 42) (v:=?_) (a':=?_) #[Y,Y,Y,Y,Y,Y,Y,Y,Y,Y,Y,Y,Y,Y,Y,Y,Y,Y,X] rfl rfl (any_of HT_.out (by kernel_rfl)) (fun _ _ _ h => h) (Or.inl ⟨by rfl,?_⟩) ?_ ?_;rotate_left
   ·intro w';go_simp;with_reducible rfl
   rotate_left
   ·simp only [Act.put,J,U,V,i64_w,i32_w];rfl
   refine pure_ (i:=18) (N:=some 43) (v:=?_) (a':=?_) #[Y,Y,Y,Y,Y,Y,Y,Y,Y,Y,Y,Y,Y,Y,Y,Y,Y,Y,Y] rfl rfl (any_of HT_.out (by kernel_rfl)) (fun _ _ _ h => h) (Or.inl ⟨by rfl,?_⟩) ?_ ?_;rotate_left
   ·intro w';go_simp;with_reducible rfl
   rotate_left
   ·simp only [Act.put,J,U,V,i64_w,i32_w];rfl
   refine done_ (done_of HT_.out (by kernel_rfl)) ?_
   try go_wp2
   have n0_:=Z (Kd.R_drew HO_7.out);have n1_:=Z (blk_drew p3.out);have n2_:=Z (blk_drew p1.out);have n3_:=Z (below_drew1 HB.out);clear HO_7;clear p3;clear p1;clear HB;have HO_7:=n0_;have p3:=n1_;have p1:=n2_;have HB:=n3_;clear n0_ n1_ n2_ n3_;have p387 : 0 ≤ (a2 : Int):=of_decide_eq_true (by first | (with_reducible assumption) | assumption);have q387 : a2 < (x7_1.length : Int):=of_decide_eq_true (by first | (with_reducible assumption) | assumption);obtain ⟨ad387,e387,r0⟩:=Kd.at_int (Kd.R_reads' HO_7.out).2.2 a2 p387 q387;obtain rfl : q8 = ad387:=(by injection e387)
   replace p387:=eq_true p387;replace q387:=eq_true q387;have p17 : 0 ≤ (((rd_T34 l0_1 x8_1).f1) : Int):=of_decide_eq_true (by first | (with_reducible assumption) | assumption);have q17 : (((rd_T34 l0_1 x8_1).f1) : Int) < ((x7_1.length : Int) : Int):=of_decide_eq_true (by first | (with_reducible assumption) | assumption);obtain ⟨go17,co17,eo17,gb17,gl17,cl17,HG17⟩:=Kd.R_form HO_7.out (by omega)
   (first | cases eo17 | (injection eo17 with ea_ en_ ec_; (first | subst ea_ | (injection ea_ with ea_; subst ea_)); subst ec_; clear en_))
   have GB17:=Z gb17;have GG17:=Z HG17;clear gb17 gl17 HG17
   (first | simp only [add_plain] at q4 | skip)
   (first | simp only [add_plain] at q5 | skip)
   (first | simp only [add_plain] at r0 | skip)
   obtain ⟨hx17_0,hf17_0⟩:=Kd.R_celln 0 HO_7.out (((rd_T34 l0_1 x8_1).f1) : Int) p17 q17;replace p17:=eq_true p17;replace q17:=eq_true q17;have HP26:=Kd.R_putn HO_7.out (((rd_T34 l0_1 x8_1).f1) : Int) (wrap64 ((rd x7_1 a2) + ((rd_T34 l0_1 x8_1).f2)));rw [← Ny388.out] at HP26;have HQ26:=Z HP26;clear HP26;refine start_ (n:=12) (S:=fun w' => w'.cell? ⟨p0,0,none⟩ = some (.int .i64 ((rd_T34 l0_1 x8_1).f0)) ∧ w'.cell? ⟨p0,1,none⟩ = some (.int .i64 ((rd_T34 l0_1 x8_1).f1)) ∧ w'.cell? ⟨p0,2,none⟩ = some (.int .i64 ((rd_T34 l0_1 x8_1).f2)) ∧ w'.cell? ⟨p0,3,none⟩ = some (.int .i64 ((rd_T34 l0_1 x8_1).f3)) ∧ w'.cell? ⟨p0,4,none⟩ = some (.int .i64 ((rd_T34 l0_1 x8_1).f4)) ∧ w'.cell? ⟨go17,(a2).toNat,none⟩ = some (.int .i64 (rd x7_1 a2))) (ds:=[11]) #[X,X,X,X,X,X,X,X,X,X,X,X] (by kernel_rfl) rfl rfl ⟨(blk_cell p1.out 0).trans rfl,(blk_cell p1.out 1).trans rfl,(blk_cell p1.out 2).trans rfl,(blk_cell p1.out 3).trans rfl,(blk_cell p1.out 4).trans rfl,r0⟩ (fun hHeld => ?_); refine with_tabW spec_l20Look.tab7 spec_l20Look.bits7 (fun HT_ HW_ => ?_);generalize w23.drew = w25 at HO_7 p3 p1 HB GG17 HQ26 hf17_0 hx17_0 q4 q5 r0 hHeld ⊢;refine pure_ (i:=0) (N:=some 44) (v:=?_) (a':=?_) #[Y,X,X,X,X,X,X,X,X,X,X,X] rfl rfl (any_of HT_.out (by kernel_rfl)) (fun _ _ _ h => h) (Or.inl ⟨by rfl,?_⟩) ?_ ?_;rotate_left
   ·intro w';go_simp;with_reducible rfl
   rotate_left
   ·simp only [Act.put,J,U,V,i64_w,i32_w];rfl
   refine pure_ (i:=1) (N:=some 45) (v:=?_) (a':=?_) #[Y,Y,X,X,X,X,X,X,X,X,X,X] rfl rfl (any_of HT_.out (by kernel_rfl)) (fun _ _ _ h => h) (Or.inl ⟨by rfl,?_⟩) ?_ ?_;rotate_left
   ·intro w';go_simp;with_reducible rfl
   rotate_left
   ·simp only [Act.put,J,U,V,i64_w,i32_w];rfl
   refine pure_ (i:=3) (N:=some 47) (v:=?_) (a':=?_) #[Y,Y,X,Y,X,X,X,X,X,X,X,X] rfl rfl (any_of HT_.out (by kernel_rfl)) (fun _ _ _ h => h) (Or.inl ⟨by rfl,?_⟩) ?_ ?_;rotate_left
   ·intro w';go_simp;with_reducible rfl
   rotate_left
   ·simp only [Act.put,J,U,V,i64_w,i32_w];rfl
   refine pure_ (i:=4) (N:=some 48) (v:=?_) (a':=?_) #[Y,Y,X,Y,Y,X,X,X,X,X,X,X] rfl rfl (any_of HT_.out (by kernel_rfl)) (fun _ _ _ h => h) (Or.inl ⟨by rfl,?_⟩) ?_ ?_;rotate_left
   ·intro w';go_simp;with_reducible rfl
   rotate_left
   ·simp only [Act.put,J,U,V,i64_w,i32_w];rfl
   refine pure_ (i:=5) (N:=some 49) (v:=?_) (a':=?_) #[Y,Y,X,Y,Y,Y,X,X,X,X,X,X] rfl rfl (any_of HT_.out (by kernel_rfl)) (fun _ _ _ h => h) (Or.inl ⟨by rfl,?_⟩) ?_ ?_;rotate_left
   ·intro w';go_simp;with_reducible rfl
   rotate_left
   ·simp only [Act.put,J,U,V,i64_w,i32_w];rfl
   refine pure_ (i:=7) (N:=some 51) (v:=?_) (a':=?_) #[Y,Y,X,Y,Y,Y,X,Y,X,X,X,X] rfl rfl (any_of HT_.out (by kernel_rfl)) (fun _ _ _ h => h) (Or.inl ⟨by rfl,?_⟩) ?_ ?_;rotate_left
   ·intro w';go_simp;with_reducible rfl
   rotate_left
   ·simp only [Act.put,J,U,V,i64_w,i32_w];rfl
   refine take_ (i:=2) (N:=some 46) (v:=?_) (a':=?_) #[Y,Y,Y,Y,Y,Y,X,Y,X,X,X,X] rfl rfl (take_ofW HT_.out HW_.out (by kernel_rfl)) (fun _ _ _ h => h) (Or.inl ⟨by rfl,?_⟩) hHeld ?_ ?_;rotate_left
   ·rintro w' ⟨s0,s1,s2,s3,s4,s5⟩;go_simp;with_reducible rfl
   rotate_left
   ·simp only [Act.put,J,U,V,i64_w,i32_w];rfl
   refine take_ (i:=6) (N:=some 50) (v:=?_) (a':=?_) #[Y,Y,Y,Y,Y,Y,Y,Y,X,X,X,X] rfl rfl (take_ofW HT_.out HW_.out (by kernel_rfl)) (fun _ _ _ h => h) (Or.inl ⟨by rfl,?_⟩) hHeld ?_ ?_;rotate_left
   ·rintro w' ⟨s0,s1,s2,s3,s4,s5⟩;go_simp;with_reducible rfl
   rotate_left
   ·simp only [Act.put,J,U,V,i64_w,i32_w];rfl
   refine take_ (i:=8) (N:=some 52) (v:=?_) (a':=?_) #[Y,Y,Y,Y,Y,Y,Y,Y,Y,X,X,X] rfl rfl (take_ofW HT_.out HW_.out (by kernel_rfl)) (fun _ _ _ h => h) (Or.inl ⟨by rfl,?_⟩) hHeld ?_ ?_;rotate_left
   ·rintro w' ⟨s0,s1,s2,s3,s4,s5⟩;go_simp;with_reducible rfl
   rotate_left
   ·simp only [Act.put,J,U,V,i64_w,i32_w];rfl
   refine pure_ (i:=9) (N:=some 53) (v:=?_) (a':=?_) #[Y,Y,Y,Y,Y,Y,Y,Y,Y,Y,X,X] rfl rfl (any_of HT_.out (by kernel_rfl)) (fun _ _ _ h => h) (Or.inl ⟨by rfl,?_⟩) ?_ ?_;rotate_left
   ·intro w';go_simp;with_reducible rfl
   rotate_left
   ·simp only [Act.put,J,U,V,i64_w,i32_w];rfl
   refine pure_ (i:=10) (N:=some 54) (v:=?_) (a':=?_) #[Y,Y,Y,Y,Y,Y,Y,Y,Y,Y,Y,X] rfl rfl (any_of HT_.out (by kernel_rfl)) (fun _ _ _ h => h) (Or.inl ⟨by rfl,?_⟩) ?_ ?_;rotate_left
   ·intro w';go_simp;with_reducible rfl
   rotate_left
   ·simp only [Act.put,J,U,V,i64_w,i32_w];rfl
   refine last_ (i:=11) (N:=none) #[true,true,true,true,true,true,true,true,true,true,true,true] rfl rfl (one_of HT_.out (by kernel_rfl)) (by decide) (fun K hK => ?_);refine skip_ (w1:=?_) (by rfl) rfl ?_ ?_;rotate_left
   ·go_simp;rfl
   refine hK.out _ _ ?_;clear hK K;refine done_ (done_of HT_.out (by kernel_rfl)) ?_
   try go_wp2
   go_roundg k1
   case measure => have:=HK1.out; omega
   case rel => exact ⟨(y388),(wrap64 (x8_1 + 1)),(by first | rfl | (simp; done) | (simp [*]; done)),H',⟨by have:=HK1.out; omega⟩,⟨by exact HQ26.out⟩,⟨by refine blk_far ?_ (by have h_:=Kd.R_ne HO_7.out p3.out (by decide); intro e_; exact h_ (by rw [e_]; rfl)) _; exact p3.out⟩,⟨by repeat (first | (with_reducible first | exact HB.out | apply below_alloc | apply pw_below_drewN | apply below_drew1 | refine below_set ?_ GB17.out | refine below_set ?_ q6.out | refine below_set ?_ q7.out) | exact HB.out)⟩⟩
mutual
def spec_l20Both.l0 : Nat → List Int → List Int → List Bool → List Bool → Int → Int → List (S34) → Int → List (S34) → Option (Int × Int)
 | 0,_,_,_,_,_,_,_,_,_ => none
 | k + 1,x9,x10,x11,x12,x13,q8,q9,r0,r3 => (spec_l20Next.f k x9 x11).bind fun t407 => ((spec_l20Next.f k x10 x12).bind fun t408 => (if t407 < 0 then (spec_l20Both.j1 k x9 x10 x11 x12 x13 t407 t408 true q8 q9 r0 r3) else (if t408 < 0 then (spec_l20Both.j1 k x9 x10 x11 x12 x13 t407 t408 true q8 q9 r0 r3) else (if 0 ≤ t407 then (if t407 < (x9.length : Int) then (if 0 ≤ t408 then (if t408 < (x10.length : Int) then ((spec_l20Sum.f k x9 x10).bind fun t411 => (spec_l20Both.j1 k x9 x10 x11 x12 x13 t407 t408 (decide ((wrap64 ((rd x9 t407) + (rd x10 t408))) ≥ t411)) q8 q9 r0 r3)) else (none)) else (none)) else (none)) else (none)))))
def spec_l20Both.j1 : Nat → List Int → List Int → List Bool → List Bool → Int → Int → Int → Bool → Int → List (S34) → Int → List (S34) → Option (Int × Int)
 | 0,_,_,_,_,_,_,_,_,_,_,_,_ => none
 | k + 1,x9,x10,x11,x12,x13,x14,x15,x56,q8,q9,r0,r3 => if x56 = true then ((spec_l20Sum.f k x9 x10).bind fun t412 => (some (t412,x13))) else (if 0 ≤ x14 then (if x14 < (x9.length : Int) then (if 0 ≤ x15 then (if x15 < (x10.length : Int) then (if (rd x9 x14) ≤ (rd x10 x15) then (if x14 < (x11.length : Int) then ((spec_l20Look.f k q8 q9 x9 x14).bind fun t416 => (spec_l20Both.l0 k t416 x10 (x11.set (x14 : Int).toNat true) x12 (wrap64 (x13 + 1)) q8 q9 r0 r3)) else (none)) else (if x15 < (x12.length : Int) then ((spec_l20Look.f k r0 r3 x10 x15).bind fun t420 => (spec_l20Both.l0 k x9 t420 x11 (x12.set (x15 : Int).toNat true) (wrap64 (x13 + 1)) q8 q9 r0 r3)) else (none))) else (none)) else (none)) else (none)) else (none))
end
def spec_l20Both.f (k : Nat) (a0_0 : Int) (l0_1 : List (S34)) (a1 : Int) (a2 : Int) : Option (Int × Int):=(spec_l1Back.f k a0_0 l0_1).bind fun bt390 => ((spec_l20Open.f k a0_0 l0_1 a1).bind fun t395 => ((spec_l20Open.f k a0_0 l0_1 a2).bind fun t398 => (if 0 ≤ a0_0 then (if (a0_0 : Int).toNat ≤ 281474976710656 then (spec_l20Both.l0 k t395 t398 (List.replicate (a0_0 : Int).toNat false) (List.replicate (a0_0 : Int).toNat false) 0 a0_0 l0_1 bt390.1 bt390.2) else (none)) else (none))))
set_option maxHeartbeats 8000000 in
set_option maxRecDepth 100000 in
theorem spec_l20Both.calls (k : Nat) (a0_0 : Int) (A0_1 : Option Addr) (c0_1 : Nat) (l0_1 : List (S34)) (a1 : Int) (a2 : Int) (r1 : Int) (r2 : Int) (w : World) (hr0_1 : Kd.C k34 w A0_1 l0_1.length l0_1) (hc0_1 : l0_1.length ≤ c0_1) (h : spec_l20Both.f k a0_0 l0_1 a1 a2 = some (r1,r2)) :
  Calls Try.prog 58 #[.agg #[.int .i64 a0_0,.slice A0_1 l0_1.length c0_1],.int .i64 a1,.int .i64 a2] w fun e w' => e = .returned (.tuple #[.int .i64 r1,.int .i64 r2]) ∧ Below w.heap.size w w':=by
 have hu25:=Try.underlying25;have r4:=Z hr0_1;have r5:=Z hc0_1;clear hr0_1 hc0_1;have HB:=Z (Below.refl w.heap.size w);have H : ((spec_l1Back.f k a0_0 l0_1).bind fun bt390 => ((spec_l20Open.f k a0_0 l0_1 a1).bind fun t395 => ((spec_l20Open.f k a0_0 l0_1 a2).bind fun t398 => (if 0 ≤ a0_0 then (if (a0_0 : Int).toNat ≤ 281474976710656 then (spec_l20Both.l0 k t395 t398 (List.replicate (a0_0 : Int).toNat false) (List.replicate (a0_0 : Int).toNat false) 0 a0_0 l0_1 bt390.1 bt390.2) else (none)) else (none))))) = some (r1,r2):=h;clear h;replace H:=Option.bind_eq_some_iff.mp H;obtain ⟨⟨t390,t391⟩,A40,H⟩:=H;replace H : ((spec_l20Open.f k a0_0 l0_1 a1).bind fun t395 => ((spec_l20Open.f k a0_0 l0_1 a2).bind fun t398 => (if 0 ≤ a0_0 then (if (a0_0 : Int).toNat ≤ 281474976710656 then (spec_l20Both.l0 k t395 t398 (List.replicate (a0_0 : Int).toNat false) (List.replicate (a0_0 : Int).toNat false) 0 a0_0 l0_1 t390 t391) else (none)) else (none)))) = some (r1,r2):=H;have A4:=Z A40;clear A40;replace H:=Option.bind_eq_some_iff.mp H;obtain ⟨t395,A50,H⟩:=H;replace H : ((spec_l20Open.f k a0_0 l0_1 a2).bind fun t398 => (if 0 ≤ a0_0 then (if (a0_0 : Int).toNat ≤ 281474976710656 then (spec_l20Both.l0 k t395 t398 (List.replicate (a0_0 : Int).toNat false) (List.replicate (a0_0 : Int).toNat false) 0 a0_0 l0_1 t390 t391) else (none)) else (none))) = some (r1,r2):=H;have A5:=Z A50;clear A50;replace H:=Option.bind_eq_some_iff.mp H;obtain ⟨t398,A60,H⟩:=H;replace H : (if 0 ≤ a0_0 then (if (a0_0 : Int).toNat ≤ 281474976710656 then (spec_l20Both.l0 k t395 t398 (List.replicate (a0_0 : Int).toNat false) (List.replicate (a0_0 : Int).toNat false) 0 a0_0 l0_1 t390 t391) else (none)) else (none)) = some (r1,r2):=H;have A6:=Z A60;clear A60
 by_cases c7 : 0 ≤ a0_0
 case neg =>
  rw [if_neg c7] at H;exact absurd H (by simp)
 rw [if_pos c7] at H;have c7b0:=eq_true c7;have c7b1 : decide (0 ≤ a0_0) = true:=decide_eq_true c7;clear c7
 by_cases c8 : (a0_0 : Int).toNat ≤ 281474976710656
 case neg =>
  rw [if_neg c8] at H;exact absurd H (by simp)
 rw [if_pos c8] at H;have c8b0:=eq_true c8;have c8b1 : decide ((a0_0 : Int).toNat ≤ 281474976710656) = true:=decide_eq_true c8;clear c8;obtain ⟨y401,hy401⟩ : ∃ y_ : List Bool,y_ = (List.replicate (a0_0 : Int).toNat false):=⟨_,rfl⟩
 replace H : (spec_l20Both.l0 k t395 t398 y401 (List.replicate (a0_0 : Int).toNat false) 0 a0_0 l0_1 t390 t391) = some (r1,r2):=by first | (rw [hy401]; with_reducible exact H) | (have H2_:=(Option.bind_some _ _).symm.trans H; rw [hy401]; with_reducible exact H2_) | (have H2_:=(Option.bind_some _ _).symm.trans H; with_reducible exact H2_) | with_reducible exact H | (rw [hy401]; exact H) | exact H
 have u2:=Z hy401;clear hy401;obtain ⟨y404,hy404⟩ : ∃ y_ : List Bool,y_ = (List.replicate (a0_0 : Int).toNat false):=⟨_,rfl⟩
 replace H : (spec_l20Both.l0 k t395 t398 y401 y404 0 a0_0 l0_1 t390 t391) = some (r1,r2):=by first | (rw [hy404]; with_reducible exact H) | (have H2_:=(Option.bind_some _ _).symm.trans H; rw [hy404]; with_reducible exact H2_) | (have H2_:=(Option.bind_some _ _).symm.trans H; with_reducible exact H2_) | with_reducible exact H | (rw [hy404]; exact H) | exact H
 have u3:=Z hy404;clear hy404;have H':=Z H;clear H
 go_enter Try.func58,Try.ntmps58
 go_wp2_with (first | ((with_reducible refine gate_dst (N:=3) rfl ?_); refine box_event ?hg (N:=3) ?hd (cs:=#[.int .i64 a0_0,.slice A0_1 l0_1.length c0_1]) (t:=25) ?hr ?_; (case hd => rfl); (case hg => rfl); (case hr => first | (go_simp; done) | (go_simp; rfl)); intro p8 hg w9 hbox hb; have n0_:=Z (below_step HB.out hb); have n1_:=Z (hbox); have n2_:=Z ((by rw [hg]; exact (below_size HB.out) : w.heap.size ≤ p8)); have n3_:=Z ((by rw [hg]; exact (below_size HB.out) : w.heap.size ≤ p8)); clear HB; have HB:=n0_; have p0:=n1_; have GW389:=n2_; have r6:=n3_; clear n0_ n1_ n2_ n3_; clear hb hbox hg; have r8 : w9.cell? ⟨p8,0,none⟩ = some (.int .i64 a0_0):=(blk_cell p0.out 0).trans rfl; have r9 : w9.cell? ⟨p8,1,none⟩ = some (.slice A0_1 l0_1.length c0_1):=(blk_cell p0.out 1).trans rfl; have s0:=blk_frozen p0.out 0; have s1:=blk_frozen p0.out 1) | (go_at_call 95; (with_reducible refine (spec_l1Back.calls k a0_0 _ _ l0_1 t390 t391 _ ?side1 ?side2 A4.out).mono ?_); (case side1 => repeat (first | exact (Kd.C_below r4.out HB.out) | (with_reducible refine Kd.C_alloc ?_ _) | (with_reducible refine Kd.C_drewN ?_ _) | (with_reducible refine Kd.C_drew ?_))); (case side2 => exact r5.out); rintro e w11 ⟨v392,rfl,ho0,hb⟩; have n0_:=Z (Kd.R_lower ho0 (below_size HB.out)); have n1_:=Z (blk_below (g:=p8) (o:=.cells #[.int .i64 a0_0,.slice A0_1 l0_1.length c0_1] 25 (0,0)) p0.out hb); have n2_:=Z (below_step HB.out hb); clear p0; clear HB; have HO393:=n0_; have p0:=n1_; have HB:=n2_; clear n0_ n1_ n2_; (try clear hb); (try clear hb2); (try clear hk); (try clear hi); (try clear ho0)) | ((with_reducible refine gate_dst (N:=8) rfl ?_); refine box_event ?hg (N:=8) ?hd (cs:=#[.int .i64 0,.slice none 0 0]) (t:=25) ?hr ?_; (case hd => rfl); (case hg => rfl); (case hr => first | (go_simp; done) | (go_simp; rfl)); intro q0 hg w12 hbox hb; have n0_:=Z (Kd.R_below HO393.out hb); have n1_:=Z (blk_below (g:=p8) (o:=.cells #[.int .i64 a0_0,.slice A0_1 l0_1.length c0_1] 25 (0,0)) p0.out hb); have n2_:=Z (below_step HB.out hb); have n3_:=Z (hbox); have n4_:=Z ((by rw [hg]; exact (below_size HB.out) : w.heap.size ≤ q0)); have n5_:=Z ((by rw [hg]; exact (below_size HB.out) : w.heap.size ≤ q0)); have n6_:=Z ((by rw [hg]; exact Nat.ne_of_lt (blk_lt (g:=p8) (o:=.cells #[.int .i64 a0_0,.slice A0_1 l0_1.length c0_1] 25 (0,0)) p0.out) : p8 ≠ q0)); have n7_:=Z ((by rw [hg]; exact Nat.ne_of_gt (blk_lt (g:=p8) (o:=.cells #[.int .i64 a0_0,.slice A0_1 l0_1.length c0_1] 25 (0,0)) p0.out) : q0 ≠ p8)); clear HO393; clear p0; clear HB; have HO393:=n0_; have p0:=n1_; have HB:=n2_; have p3:=n3_; have GW394:=n4_; have r7:=n5_; have q5:=n6_; have q6:=n7_; clear n0_ n1_ n2_ n3_ n4_ n5_ n6_ n7_; clear hb hbox hg; have hnb13:=q6.out; have hnc13:=q5.out; have s2 : w12.cell? ⟨q0,0,none⟩ = some (.int .i64 0):=(blk_cell p3.out 0).trans rfl; have s3 : w12.cell? ⟨q0,1,none⟩ = some (.slice none 0 0):=(blk_cell p3.out 1).trans rfl; have s4:=blk_frozen p3.out 0; have s5:=blk_frozen p3.out 1; obtain ⟨Ao15,co15,eo15⟩:=Kd.R_slice HO393.out; subst eo15; have s6 : w12.cell? ⟨p8,0,none⟩ = some (.int .i64 a0_0):=(blk_cell p0.out 0).trans rfl; have s7 : w12.cell? ⟨p8,1,none⟩ = some (.slice A0_1 l0_1.length c0_1):=(blk_cell p0.out 1).trans rfl; have s8:=blk_frozen p0.out 0; have s9:=blk_frozen p0.out 1) | (go_at_call 96; (with_reducible refine (spec_l20Open.calls k a0_0 _ _ l0_1 a1 t395 _ ?side1 ?side2 A5.out).mono ?_); (case side1 => exact Kd.C_below r4.out (by repeat (first | (with_reducible first | exact HB.out | apply below_alloc | apply pw_below_drewN | apply below_drew1 | refine below_set ?_ r6.out | refine below_set ?_ r7.out) | exact HB.out))); (case side2 => exact r5.out); rintro e w17 ⟨v396,rfl,ho0,hb⟩; have n0_:=Z (Kd.R_below (Kd.R_mono (Kd.R_far (p:=⟨q0,1,none⟩) (Kd.R_far (p:=⟨q0,0,none⟩) (Kd.R_types HO393.out p3.out (by decide)) (fun _ hk => hk.2) (.int .i64 t390)) (fun _ hk => hk.2) (.slice Ao15 t391.length co15)) (fun _ h_ => h_.1)) hb); have n1_:=Z (Kd.R_lower ho0 (below_size (by repeat (first | (with_reducible first | exact HB.out | apply below_alloc | apply pw_below_drewN | apply below_drew1 | refine below_set ?_ r6.out | refine below_set ?_ r7.out) | exact HB.out)))); have n2_:=Z (blk_below (g:=p8) (o:=.cells #[.int .i64 a0_0,.slice A0_1 l0_1.length c0_1] 25 (0,0)) (by refine blk_far ?_ q5.out _; refine blk_far ?_ q5.out _; exact p0.out) hb); have n3_:=Z (blk_below (g:=q0) (o:=.cells #[.int .i64 t390,.slice Ao15 t391.length co15] 25 (0,0)) (by refine blk_put (cs:=#[.int .i64 t390,.slice none 0 0]) ?_ 1 _ rfl; refine blk_put (cs:=#[.int .i64 0,.slice none 0 0]) ?_ 0 _ rfl; exact p3.out) hb); have n4_:=Z (below_step (by repeat (first | (with_reducible first | exact HB.out | apply below_alloc | apply pw_below_drewN | apply below_drew1 | refine below_set ?_ r6.out | refine below_set ?_ r7.out) | exact HB.out)) hb); clear HO393; clear p0; clear p3; clear HB; have HO393:=n0_; have HO397:=n1_; have p0:=n2_; have p3:=n3_; have HB:=n4_; clear n0_ n1_ n2_ n3_ n4_; (try clear hb); (try clear hb2); (try clear hk); (try clear hi); (try clear ho0); have t0 : w17.cell? ⟨p8,0,none⟩ = some (.int .i64 a0_0):=(blk_cell p0.out 0).trans rfl; have t1 : w17.cell? ⟨p8,1,none⟩ = some (.slice A0_1 l0_1.length c0_1):=(blk_cell p0.out 1).trans rfl; have t2:=blk_frozen p0.out 0; have t3:=blk_frozen p0.out 1) | (go_at_call 96; (with_reducible refine (spec_l20Open.calls k a0_0 _ _ l0_1 a2 t398 _ ?side1 ?side2 A6.out).mono ?_); (case side1 => repeat (first | exact (Kd.C_below r4.out HB.out) | (with_reducible refine Kd.C_alloc ?_ _) | (with_reducible refine Kd.C_drewN ?_ _) | (with_reducible refine Kd.C_drew ?_))); (case side2 => exact r5.out); rintro e w19 ⟨v399,rfl,ho0,hb⟩; have n0_:=Z (Kd.R_below HO393.out hb); have n1_:=Z (Kd.R_elder' HO397.out (Kd.R_base ho0) hb); have n2_:=Z (Kd.R_lower (Kd.R_new' ho0 (Kd.R_lt HO397.out)) (below_size HB.out)); have n3_:=Z (blk_below (g:=p8) (o:=.cells #[.int .i64 a0_0,.slice A0_1 l0_1.length c0_1] 25 (0,0)) p0.out hb); have n4_:=Z (blk_below (g:=q0) (o:=.cells #[.int .i64 t390,.slice Ao15 t391.length co15] 25 (0,0)) p3.out hb); have n5_:=Z (below_step HB.out hb); clear HO393; clear HO397; clear p0; clear p3; clear HB; have HO393:=n0_; have HO397:=n1_; have HO400:=n2_; have p0:=n3_; have p3:=n4_; have HB:=n5_; clear n0_ n1_ n2_ n3_ n4_ n5_; (try clear hb); (try clear hb2); (try clear hk); (try clear hi); (try clear ho0); have t4 : w19.cell? ⟨p8,0,none⟩ = some (.int .i64 a0_0):=(blk_cell p0.out 0).trans rfl; have t5 : w19.cell? ⟨p8,1,none⟩ = some (.slice A0_1 l0_1.length c0_1):=(blk_cell p0.out 1).trans rfl; have t6:=blk_frozen p0.out 0; have t7:=blk_frozen p0.out 1) | ((with_reducible refine gate_dst (N:=26) rfl ?_); refine Kd.R_make Kd.bool _ 4 rfl (N:=26) rfl 107 _ _ rfl a0_0 (by first | rfl | (go_simp; done) | (go_simp; rfl)) (by first | rfl | (go_simp; done) | (go_simp; rfl)) Try.underlying107 (.bool false) 1 info4 rfl (by decide) (by omega) false (ok:=fun _ => True) (okp:=fun _ => True) rfl (fun _ hk => hk) trivial (of_decide_eq_true (by first | (with_reducible assumption) | assumption)) (Nat.le_trans (Nat.mul_le_mul_right _ (of_decide_eq_true (by first | (with_reducible assumption) | assumption) : a0_0.toNat ≤ 281474976710656)) (by omega)) (Below.refl _ _) (Nat.le_refl _) ?_; intro v402 w21 ho22 hb hg_ hnew_; clear hg_ hnew_; (first | rw [← u2.out] at ho22 | (simp only [Int.reduceToNat] at ho22; rw [← u2.out] at ho22)); have n0_:=Z (Kd.R_below HO393.out hb); have n1_:=Z (Kd.R_below HO397.out hb); have n2_:=Z (Kd.R_below HO400.out hb); have n3_:=Z (Kd.R_lower ho22 (below_size HB.out)); have n4_:=Z (blk_below (g:=p8) (o:=.cells #[.int .i64 a0_0,.slice A0_1 l0_1.length c0_1] 25 (0,0)) p0.out hb); have n5_:=Z (blk_below (g:=q0) (o:=.cells #[.int .i64 t390,.slice Ao15 t391.length co15] 25 (0,0)) p3.out hb); have n6_:=Z (below_step HB.out hb); clear HO393; clear HO397; clear HO400; clear p0; clear p3; clear HB; have HO393:=n0_; have HO397:=n1_; have HO400:=n2_; have HO403:=n3_; have p0:=n4_; have p3:=n5_; have HB:=n6_; clear n0_ n1_ n2_ n3_ n4_ n5_ n6_; clear hb ho22; have t8 : w21.cell? ⟨p8,0,none⟩ = some (.int .i64 a0_0):=(blk_cell p0.out 0).trans rfl; have t9 : w21.cell? ⟨p8,1,none⟩ = some (.slice A0_1 l0_1.length c0_1):=(blk_cell p0.out 1).trans rfl; have u0:=blk_frozen p0.out 0; have u1:=blk_frozen p0.out 1) | ((with_reducible refine gate_dst (N:=29) rfl ?_); refine Kd.R_make Kd.bool _ 4 rfl (N:=29) rfl 107 _ _ rfl a0_0 (by first | rfl | (go_simp; done) | (go_simp; rfl)) (by first | rfl | (go_simp; done) | (go_simp; rfl)) Try.underlying107 (.bool false) 1 info4 rfl (by decide) (by omega) false (ok:=fun _ => True) (okp:=fun _ => True) rfl (fun _ hk => hk) trivial (of_decide_eq_true (by first | (with_reducible assumption) | assumption)) (Nat.le_trans (Nat.mul_le_mul_right _ (of_decide_eq_true (by first | (with_reducible assumption) | assumption) : a0_0.toNat ≤ 281474976710656)) (by omega)) (Below.refl _ _) (Nat.le_refl _) ?_; intro v405 w24 ho25 hb hg_ hnew_; clear hg_ hnew_; (first | rw [← u3.out] at ho25 | (simp only [Int.reduceToNat] at ho25; rw [← u3.out] at ho25)); have n0_:=Z (Kd.R_below HO393.out hb); have n1_:=Z (Kd.R_below HO397.out hb); have n2_:=Z (Kd.R_below HO400.out hb); have n3_:=Z (Kd.R_elder' HO403.out (Kd.R_base ho25) hb); have n4_:=Z (Kd.R_lower (Kd.R_new' ho25 (Kd.R_lt HO403.out)) (below_size HB.out)); have n5_:=Z (blk_below (g:=p8) (o:=.cells #[.int .i64 a0_0,.slice A0_1 l0_1.length c0_1] 25 (0,0)) p0.out hb); have n6_:=Z (blk_below (g:=q0) (o:=.cells #[.int .i64 t390,.slice Ao15 t391.length co15] 25 (0,0)) p3.out hb); have n7_:=Z (below_step HB.out hb); clear HO393; clear HO397; clear HO400; clear HO403; clear p0; clear p3; clear HB; have HO393:=n0_; have HO397:=n1_; have HO400:=n2_; have HO403:=n3_; have HO406:=n4_; have p0:=n5_; have p3:=n6_; have HB:=n7_; clear n0_ n1_ n2_ n3_ n4_ n5_ n6_ n7_; clear hb ho25))
 go_loopg [9,10,13] k (fun kq v9 v10 v13 w' => ∃ (x9_1 : List Int) (q1 : List Int) (q3 : List Bool) (q2 : List Bool) (q7 : Int),v13 = .int .i64 q7 ∧ Aside0 (spec_l20Both.l0 kq x9_1 q1 q3 q2 q7 a0_0 l0_1 t390 t391 = some (r1,r2)) ∧ Aside0 (kq ≤ k) ∧ Aside0 (Kd.R (Kd.int .i64) 3 w' w.heap.size (fun k_ => some k_ ≠ (v10 : Value).ownBlock) v9 x9_1) ∧ Aside0 (Kd.R (Kd.int .i64) 3 w' w.heap.size (fun k_ => some k_ ≠ (v9 : Value).ownBlock) v10 q1) ∧ Aside0 (Kd.R Kd.bool 4 w' w.heap.size (fun k_ => some k_ ≠ (v405 : Value).ownBlock) v402 q3) ∧ Aside0 (Kd.R Kd.bool 4 w' w.heap.size (fun k_ => some k_ ≠ (v402 : Value).ownBlock) v405 q2) ∧ Aside0 (Kd.R k34 34 w' w.heap.size (fun _ => True) (.slice Ao15 t391.length co15) t391) ∧ Aside0 (w'.heap[p8]? = some (.cells #[.int .i64 a0_0,(.slice A0_1 l0_1.length c0_1)] 25 (0,0))) ∧ Aside0 (w'.heap[q0]? = some (.cells #[.int .i64 t390,(.slice Ao15 t391.length co15)] 25 (0,0))) ∧ Aside0 (Below w.heap.size w w'))
 case atStart => exact ⟨(t395),(t398),(y401),(y404),(0),(by first | rfl | (simp; done) | (simp [*]; done)),H',⟨Nat.le_refl _⟩,⟨by exact Kd.R_mono HO397.out (fun _ hk => hk.2)⟩,⟨by exact Kd.R_mono HO400.out (fun _ hk => hk.2)⟩,⟨by exact Kd.R_mono HO403.out (fun _ hk => hk.2)⟩,⟨by exact Kd.R_mono HO406.out (fun _ hk => hk.2)⟩,⟨by exact HO393.out⟩,⟨by exact p0.out⟩,⟨by exact p3.out⟩,⟨by repeat (first | (with_reducible first | exact HB.out | apply below_alloc | apply pw_below_drewN | apply below_drew1 | refine below_set ?_ r6.out | refine below_set ?_ r7.out) | exact HB.out)⟩⟩
 case round =>
  clear H'
  try clear c1
  try clear p2
  try clear c5
  try clear c7
  try clear c7b0
  try clear c7b1
  try clear c8
  try clear c8b0
  try clear c8b1
  try clear c13
  try clear r8
  try clear r9
  try clear s2
  try clear s3
  try clear s6
  try clear s7
  try clear t0
  try clear t1
  try clear t4
  try clear t5
  try clear t8
  try clear t9
  try clear s0
  try clear s1
  try clear s4
  try clear s5
  try clear s8
  try clear s9
  try clear t2
  try clear t3
  try clear t6
  try clear t7
  try clear u0
  try clear u1
  obtain ⟨x9_1,q1,q3,q2,q7,rfl,HA,HK1,HO_9,p5,p9,p7,p1,p0,p3,HB⟩:=hrel;cases gk with
  | zero => exact absurd HA.out (by simp [spec_l20Both.l0])
  | succ k1 =>
   have H:=HA.out;clear HA;simp only [spec_l20Both.l0] at H;replace H:=Option.bind_eq_some_iff.mp H;obtain ⟨t407,A260,H⟩:=H;replace H : ((spec_l20Next.f k1 q1 q2).bind fun t408 => (if t407 < 0 then (spec_l20Both.j1 k1 x9_1 q1 q3 q2 q7 t407 t408 true a0_0 l0_1 t390 t391) else (if t408 < 0 then (spec_l20Both.j1 k1 x9_1 q1 q3 q2 q7 t407 t408 true a0_0 l0_1 t390 t391) else (if 0 ≤ t407 then (if t407 < (x9_1.length : Int) then (if 0 ≤ t408 then (if t408 < (q1.length : Int) then ((spec_l20Sum.f k1 x9_1 q1).bind fun t411 => (spec_l20Both.j1 k1 x9_1 q1 q3 q2 q7 t407 t408 (decide ((wrap64 ((rd x9_1 t407) + (rd q1 t408))) ≥ t411)) a0_0 l0_1 t390 t391)) else (none)) else (none)) else (none)) else (none))))) = some (r1,r2):=H;have A26:=Z A260;clear A260;replace H:=Option.bind_eq_some_iff.mp H;obtain ⟨t408,A270,H⟩:=H;replace H : (if t407 < 0 then (spec_l20Both.j1 k1 x9_1 q1 q3 q2 q7 t407 t408 true a0_0 l0_1 t390 t391) else (if t408 < 0 then (spec_l20Both.j1 k1 x9_1 q1 q3 q2 q7 t407 t408 true a0_0 l0_1 t390 t391) else (if 0 ≤ t407 then (if t407 < (x9_1.length : Int) then (if 0 ≤ t408 then (if t408 < (q1.length : Int) then ((spec_l20Sum.f k1 x9_1 q1).bind fun t411 => (spec_l20Both.j1 k1 x9_1 q1 q3 q2 q7 t407 t408 (decide ((wrap64 ((rd x9_1 t407) + (rd q1 t408))) ≥ t411)) a0_0 l0_1 t390 t391)) else (none)) else (none)) else (none)) else (none)))) = some (r1,r2):=H;have A27:=Z A270;clear A270;have HC28:=Z H;clear H;obtain ⟨Ao29,co29,eo29⟩:=Kd.R_slice HO_9.out;subst eo29;obtain ⟨Ao30,co30,eo30⟩:=Kd.R_slice p9.out;subst eo30
   go_upto_region 9 with (first | (go_at_call 97; (with_reducible refine (spec_l20Next.calls k1 _ _ x9_1 _ _ q3 t407 _ ?side1 ?side2 ?side3 ?side4 A26.out).mono ?_); (case side1 => repeat (first | exact (Kd.R_reads' HO_9.out).2.2 | (with_reducible refine Kd.C_alloc ?_ _) | (with_reducible refine Kd.C_drewN ?_ _) | (with_reducible refine Kd.C_drew ?_))); (case side2 => exact (Kd.R_reads' HO_9.out).2.1); (case side3 => repeat (first | exact (Kd.R_reads' p9.out).2.2 | (with_reducible refine Kd.C_alloc ?_ _) | (with_reducible refine Kd.C_drewN ?_ _) | (with_reducible refine Kd.C_drew ?_))); (case side4 => exact (Kd.R_reads' p9.out).2.1); rintro e w' ⟨rfl,⟨nd,rfl⟩⟩; (try first | exact ⟨rfl,_,World.drewN_drewN _ _ _⟩ | exact ⟨rfl,_,Eq.trans (World.drewN_drewN _ _ _) (congrArg (World.drewN _) (Nat.add_assoc _ _ _))⟩); obtain ⟨Ao31,co31,eo31⟩:=Kd.R_slice p5.out; subst eo31; obtain ⟨Ao32,co32,eo32⟩:=Kd.R_slice p7.out; subst eo32) | (go_at_call 97; (with_reducible refine (spec_l20Next.calls k1 _ _ q1 _ _ q2 t408 _ ?side1 ?side2 ?side3 ?side4 A27.out).mono ?_); (case side1 => repeat (first | exact (Kd.R_reads' p5.out).2.2 | (with_reducible refine Kd.C_alloc ?_ _) | (with_reducible refine Kd.C_drewN ?_ _) | (with_reducible refine Kd.C_drew ?_))); (case side2 => exact (Kd.R_reads' p5.out).2.1); (case side3 => repeat (first | exact (Kd.R_reads' p7.out).2.2 | (with_reducible refine Kd.C_alloc ?_ _) | (with_reducible refine Kd.C_drewN ?_ _) | (with_reducible refine Kd.C_drew ?_))); (case side4 => exact (Kd.R_reads' p7.out).2.1); rintro e w' ⟨rfl,⟨nd,rfl⟩⟩; (try first | exact ⟨rfl,_,World.drewN_drewN _ _ _⟩ | exact ⟨rfl,_,Eq.trans (World.drewN_drewN _ _ _) (congrArg (World.drewN _) (Nat.add_assoc _ _ _))⟩)))
   (try simp only [Act.put,J,U,V])
   go_cut [56] (fun v56 wc => ∃ (kq : Nat) (u4 : Bool),v56 = .bool u4 ∧ Aside0 (spec_l20Both.j1 kq x9_1 q1 q3 q2 q7 t407 t408 u4 a0_0 l0_1 t390 t391 = some (r1,r2)) ∧ Aside0 (kq ≤ k1) ∧ Aside0 (Kd.R (Kd.int .i64) 3 wc w.heap.size (fun k_ => some k_ ≠ ((.slice Ao31 q1.length co31) : Value).ownBlock) (.slice Ao29 x9_1.length co29) x9_1) ∧ Aside0 (Kd.R (Kd.int .i64) 3 wc w.heap.size (fun k_ => some k_ ≠ ((.slice Ao29 x9_1.length co29) : Value).ownBlock) (.slice Ao31 q1.length co31) q1) ∧ Aside0 (Kd.R Kd.bool 4 wc w.heap.size (fun k_ => some k_ ≠ ((.slice Ao32 q2.length co32) : Value).ownBlock) (.slice Ao30 q3.length co30) q3) ∧ Aside0 (Kd.R Kd.bool 4 wc w.heap.size (fun k_ => some k_ ≠ ((.slice Ao30 q3.length co30) : Value).ownBlock) (.slice Ao32 q2.length co32) q2) ∧ Aside0 (Kd.R k34 34 wc w.heap.size (fun _ => True) (.slice Ao15 t391.length co15) t391) ∧ Aside0 (wc.heap[p8]? = some (.cells #[.int .i64 a0_0,(.slice A0_1 l0_1.length c0_1)] 25 (0,0))) ∧ Aside0 (wc.heap[q0]? = some (.cells #[.int .i64 t390,(.slice Ao15 t391.length co15)] 25 (0,0))) ∧ Aside0 (Below w.heap.size w wc))
   case first =>
    have H:=HC28.out;clear HC28
    by_cases c33 : t407 < 0
    case pos =>
     rw [if_pos c33] at H;have c33b0 : decide (t407 < 0) = true:=decide_eq_true c33;clear c33
     (first | rw [c33b0] | (simp only [i64_w,i32_w]; rw [c33b0]) | skip)
     have H':=Z H;clear H
     go_wp2
     repeat (go_quiet (fail); try go_wp2)
     go_meet
     case rel => exact ⟨_,(true),(by first | rfl | (simp; done) | (simp [*]; done)),H',⟨by have:=HK1.out; first | omega | exact Nat.le_refl _⟩,⟨by exact HO_9.out⟩,⟨by exact p5.out⟩,⟨by exact p9.out⟩,⟨by exact p7.out⟩,⟨by exact p1.out⟩,⟨by exact p0.out⟩,⟨by exact p3.out⟩,⟨by repeat (first | (with_reducible first | exact HB.out | apply below_alloc | apply pw_below_drewN | apply below_drew1 | refine below_set ?_ r6.out | refine below_set ?_ r7.out) | exact HB.out)⟩⟩
    rw [if_neg c33] at H;have c33b0 : decide (t407 < 0) = false:=decide_eq_false c33;clear c33
    (first | rw [c33b0] | (simp only [i64_w,i32_w]; rw [c33b0]) | skip)
    by_cases c34 : t408 < 0
    case pos =>
     rw [if_pos c34] at H;have c34b0 : decide (t408 < 0) = true:=decide_eq_true c34;clear c34;have H':=Z H;clear H
     go_wp2
     repeat (go_quiet (fail); try go_wp2)
     go_meet
     case rel => exact ⟨_,(true),(by first | rfl | (simp; done) | (simp [*]; done)),H',⟨by have:=HK1.out; first | omega | exact Nat.le_refl _⟩,⟨by exact HO_9.out⟩,⟨by exact p5.out⟩,⟨by exact p9.out⟩,⟨by exact p7.out⟩,⟨by exact p1.out⟩,⟨by exact p0.out⟩,⟨by exact p3.out⟩,⟨by repeat (first | (with_reducible first | exact HB.out | apply below_alloc | apply pw_below_drewN | apply below_drew1 | refine below_set ?_ r6.out | refine below_set ?_ r7.out) | exact HB.out)⟩⟩
    rw [if_neg c34] at H;have c34b0 : decide (t408 < 0) = false:=decide_eq_false c34;clear c34
    by_cases c35 : 0 ≤ t407
    case neg =>
     rw [if_neg c35] at H;exact absurd H (by simp)
    rw [if_pos c35] at H;have c35b0 : decide (0 ≤ t407) = true:=decide_eq_true c35;clear c35
    by_cases c36 : t407 < (x9_1.length : Int)
    case neg =>
     rw [if_neg c36] at H;exact absurd H (by simp)
    rw [if_pos c36] at H;have c36b0 : decide (t407 < (x9_1.length : Int)) = true:=decide_eq_true c36;clear c36
    by_cases c37 : 0 ≤ t408
    case neg =>
     rw [if_neg c37] at H;exact absurd H (by simp)
    rw [if_pos c37] at H;have c37b0 : decide (0 ≤ t408) = true:=decide_eq_true c37;clear c37
    by_cases c38 : t408 < (q1.length : Int)
    case neg =>
     rw [if_neg c38] at H;exact absurd H (by simp)
    rw [if_pos c38] at H;have c38b0 : decide (t408 < (q1.length : Int)) = true:=decide_eq_true c38;clear c38;replace H:=Option.bind_eq_some_iff.mp H;obtain ⟨t411,A390,H⟩:=H;replace H : (spec_l20Both.j1 k1 x9_1 q1 q3 q2 q7 t407 t408 (decide ((wrap64 ((rd x9_1 t407) + (rd q1 t408))) ≥ t411)) a0_0 l0_1 t390 t391) = some (r1,r2):=H;have A39:=Z A390;clear A390;have H':=Z H;clear H;have p409 : 0 ≤ (t407 : Int):=of_decide_eq_true (by first | (with_reducible assumption) | assumption);have q409 : t407 < (x9_1.length : Int):=of_decide_eq_true (by first | (with_reducible assumption) | assumption);obtain ⟨ad409,e409,v6⟩:=Kd.at_int (Kd.R_reads' HO_9.out).2.2 t407 p409 q409;cases e409;replace p409:=eq_true p409;replace q409:=eq_true q409;have p410 : 0 ≤ (t408 : Int):=of_decide_eq_true (by first | (with_reducible assumption) | assumption);have q410 : t408 < (q1.length : Int):=of_decide_eq_true (by first | (with_reducible assumption) | assumption);obtain ⟨ad410,e410,v7⟩:=Kd.at_int (Kd.R_reads' p5.out).2.2 t408 p410 q410;cases e410;replace p410:=eq_true p410;replace q410:=eq_true q410
    go_wp2_with (first | (go_at_call 98; (with_reducible refine (spec_l20Sum.calls k1 _ _ x9_1 _ _ q1 t411 _ ?side1 ?side2 ?side3 ?side4 A39.out).mono ?_); (case side1 => repeat (first | exact (Kd.R_reads' HO_9.out).2.2 | (with_reducible refine Kd.C_alloc ?_ _) | (with_reducible refine Kd.C_drewN ?_ _) | (with_reducible refine Kd.C_drew ?_))); (case side2 => exact (Kd.R_reads' HO_9.out).2.1); (case side3 => repeat (first | exact (Kd.R_reads' p5.out).2.2 | (with_reducible refine Kd.C_alloc ?_ _) | (with_reducible refine Kd.C_drewN ?_ _) | (with_reducible refine Kd.C_drew ?_))); (case side4 => exact (Kd.R_reads' p5.out).2.1); rintro e w' ⟨rfl,⟨nd,rfl⟩⟩; (try first | exact ⟨rfl,_,World.drewN_drewN _ _ _⟩ | exact ⟨rfl,_,Eq.trans (World.drewN_drewN _ _ _) (congrArg (World.drewN _) (Nat.add_assoc _ _ _))⟩)))
    repeat (go_quiet (first | (go_at_call 98; (with_reducible refine (spec_l20Sum.calls k1 _ _ x9_1 _ _ q1 t411 _ ?side1 ?side2 ?side3 ?side4 A39.out).mono ?_); (case side1 => repeat (first | exact (Kd.R_reads' HO_9.out).2.2 | (with_reducible refine Kd.C_alloc ?_ _) | (with_reducible refine Kd.C_drewN ?_ _) | (with_reducible refine Kd.C_drew ?_))); (case side2 => exact (Kd.R_reads' HO_9.out).2.1); (case side3 => repeat (first | exact (Kd.R_reads' p5.out).2.2 | (with_reducible refine Kd.C_alloc ?_ _) | (with_reducible refine Kd.C_drewN ?_ _) | (with_reducible refine Kd.C_drew ?_))); (case side4 => exact (Kd.R_reads' p5.out).2.1); rintro e w' ⟨rfl,⟨nd,rfl⟩⟩; (try first | exact ⟨rfl,_,World.drewN_drewN _ _ _⟩ | exact ⟨rfl,_,Eq.trans (World.drewN_drewN _ _ _) (congrArg (World.drewN _) (Nat.add_assoc _ _ _))⟩))); try go_wp2_with (first | (go_at_call 98; (with_reducible refine (spec_l20Sum.calls k1 _ _ x9_1 _ _ q1 t411 _ ?side1 ?side2 ?side3 ?side4 A39.out).mono ?_); (case side1 => repeat (first | exact (Kd.R_reads' HO_9.out).2.2 | (with_reducible refine Kd.C_alloc ?_ _) | (with_reducible refine Kd.C_drewN ?_ _) | (with_reducible refine Kd.C_drew ?_))); (case side2 => exact (Kd.R_reads' HO_9.out).2.1); (case side3 => repeat (first | exact (Kd.R_reads' p5.out).2.2 | (with_reducible refine Kd.C_alloc ?_ _) | (with_reducible refine Kd.C_drewN ?_ _) | (with_reducible refine Kd.C_drew ?_))); (case side4 => exact (Kd.R_reads' p5.out).2.1); rintro e w' ⟨rfl,⟨nd,rfl⟩⟩; (try first | exact ⟨rfl,_,World.drewN_drewN _ _ _⟩ | exact ⟨rfl,_,Eq.trans (World.drewN_drewN _ _ _) (congrArg (World.drewN _) (Nat.add_assoc _ _ _))⟩))))
    go_meet
    case rel => exact ⟨_,(decide ((wrap64 ((rd x9_1 t407) + (rd q1 t408))) ≥ t411)),(by first | rfl | (simp; done) | (simp [*]; done)),H',⟨by have:=HK1.out; first | omega | exact Nat.le_refl _⟩,⟨by exact HO_9.out⟩,⟨by exact p5.out⟩,⟨by exact p9.out⟩,⟨by exact p7.out⟩,⟨by exact p1.out⟩,⟨by exact p0.out⟩,⟨by exact p3.out⟩,⟨by repeat (first | (with_reducible first | exact HB.out | apply below_alloc | apply pw_below_drewN | apply below_drew1 | refine below_set ?_ r6.out | refine below_set ?_ r7.out) | exact HB.out)⟩⟩
   case rest =>
    clear HC28
    try clear c1
    try clear p2
    try clear c3
    try clear p4
    try clear q4
    try clear hx4
    try clear c5
    try clear p6
    try clear c7
    try clear c7b0
    try clear c7b1
    try clear c8
    try clear c8b0
    try clear c8b1
    try clear c13
    try clear c33
    try clear c33b0
    try clear c34
    try clear c34b0
    try clear c35
    try clear c35b0
    try clear c36
    try clear c36b0
    try clear c37
    try clear c37b0
    try clear c38
    try clear c38b0
    try clear r8
    try clear r9
    try clear s2
    try clear s3
    try clear s6
    try clear s7
    try clear t0
    try clear t1
    try clear t4
    try clear t5
    try clear t8
    try clear t9
    try clear s0
    try clear s1
    try clear s4
    try clear s5
    try clear s8
    try clear s9
    try clear t2
    try clear t3
    try clear t6
    try clear t7
    try clear u0
    try clear u1
    try clear v6
    try clear v7
    try clear p2
    try clear p409
    try clear p410
    try clear q409
    try clear q410
    obtain ⟨kq,u4,rfl,HA,HJ27,HO_9,p5,p9,p7,p1,p0,p3,HB⟩:=hcut;cases kq with
    | zero => exact absurd HA.out (by simp [spec_l20Both.j1])
    | succ kj27 =>
     have H:=HA.out;clear HA;simp only [spec_l20Both.j1] at H
     by_cases c40 : u4 = true
     case pos =>
      subst c40;have H1 : ((spec_l20Sum.f kj27 x9_1 q1).bind fun t412 => (some (t412,q7))) = some (r1,r2):=by rw [if_pos rfl] at H; exact H
      clear H;have H:=H1;clear H1;replace H:=Option.bind_eq_some_iff.mp H;obtain ⟨t412,A410,H⟩:=H;replace H : (some (t412,q7)) = some (r1,r2):=H;have A41:=Z A410;clear A410;simp only [Option.some.injEq,Prod.mk.injEq] at H;obtain ⟨rfl,rfl⟩:=H
      go_wp2_with (first | (go_at_call 98; (with_reducible refine (spec_l20Sum.calls kj27 _ _ x9_1 _ _ q1 t412 _ ?side1 ?side2 ?side3 ?side4 A41.out).mono ?_); (case side1 => repeat (first | exact (Kd.R_reads' HO_9.out).2.2 | (with_reducible refine Kd.C_alloc ?_ _) | (with_reducible refine Kd.C_drewN ?_ _) | (with_reducible refine Kd.C_drew ?_))); (case side2 => exact (Kd.R_reads' HO_9.out).2.1); (case side3 => repeat (first | exact (Kd.R_reads' p5.out).2.2 | (with_reducible refine Kd.C_alloc ?_ _) | (with_reducible refine Kd.C_drewN ?_ _) | (with_reducible refine Kd.C_drew ?_))); (case side4 => exact (Kd.R_reads' p5.out).2.1); rintro e w' ⟨rfl,⟨nd,rfl⟩⟩; (try first | exact ⟨rfl,_,World.drewN_drewN _ _ _⟩ | exact ⟨rfl,_,Eq.trans (World.drewN_drewN _ _ _) (congrArg (World.drewN _) (Nat.add_assoc _ _ _))⟩)))
      go_ret2;exact ⟨by first | rfl | (simp [errW_none,errW_some] <;> rfl) | (simp [*,errW_none,errW_some] <;> rfl),by repeat (first | (with_reducible first | exact HB.out | apply below_alloc | apply pw_below_drewN | apply below_drew1 | refine below_set ?_ r6.out | refine below_set ?_ r7.out) | exact HB.out)⟩
     replace c40:=Bool.eq_false_iff.mpr c40;subst c40;have H1 : (if 0 ≤ t407 then (if t407 < (x9_1.length : Int) then (if 0 ≤ t408 then (if t408 < (q1.length : Int) then (if (rd x9_1 t407) ≤ (rd q1 t408) then (if t407 < (q3.length : Int) then ((spec_l20Look.f kj27 a0_0 l0_1 x9_1 t407).bind fun t416 => (spec_l20Both.l0 kj27 t416 q1 (q3.set (t407 : Int).toNat true) q2 (wrap64 (q7 + 1)) a0_0 l0_1 t390 t391)) else (none)) else (if t408 < (q2.length : Int) then ((spec_l20Look.f kj27 t390 t391 q1 t408).bind fun t420 => (spec_l20Both.l0 kj27 x9_1 t420 q3 (q2.set (t408 : Int).toNat true) (wrap64 (q7 + 1)) a0_0 l0_1 t390 t391)) else (none))) else (none)) else (none)) else (none)) else (none)) = some (r1,r2):=by rw [if_neg (show ¬ (false = true) by decide)] at H; exact H
     clear H;have H:=H1;clear H1
     by_cases c42 : 0 ≤ t407
     case neg =>
      rw [if_neg c42] at H;exact absurd H (by simp)
     rw [if_pos c42] at H;have c42b0 : decide (0 ≤ t407) = true:=decide_eq_true c42;clear c42
     by_cases c43 : t407 < (x9_1.length : Int)
     case neg =>
      rw [if_neg c43] at H;exact absurd H (by simp)
     rw [if_pos c43] at H;have c43b0 : decide (t407 < (x9_1.length : Int)) = true:=decide_eq_true c43;clear c43
     by_cases c44 : 0 ≤ t408
     case neg =>
      rw [if_neg c44] at H;exact absurd H (by simp)
     rw [if_pos c44] at H;have c44b0 : decide (0 ≤ t408) = true:=decide_eq_true c44;clear c44
     by_cases c45 : t408 < (q1.length : Int)
     case neg =>
      rw [if_neg c45] at H;exact absurd H (by simp)
     rw [if_pos c45] at H;have c45b0 : decide (t408 < (q1.length : Int)) = true:=decide_eq_true c45;clear c45
     by_cases c46 : (rd x9_1 t407) ≤ (rd q1 t408)
     case pos =>
      rw [if_pos c46] at H;have c46b0 : decide ((rd x9_1 t407) ≤ (rd q1 t408)) = true:=decide_eq_true c46;clear c46
      by_cases c47 : t407 < (q3.length : Int)
      case neg =>
       rw [if_neg c47] at H;exact absurd H (by simp)
      rw [if_pos c47] at H;have c47b0 : decide (t407 < (q3.length : Int)) = true:=decide_eq_true c47;clear c47;obtain ⟨y415,hy415⟩ : ∃ y_ : List Bool,y_ = (q3.set (t407 : Int).toNat true):=⟨_,rfl⟩
      replace H : ((spec_l20Look.f kj27 a0_0 l0_1 x9_1 t407).bind fun t416 => (spec_l20Both.l0 kj27 t416 q1 y415 q2 (wrap64 (q7 + 1)) a0_0 l0_1 t390 t391)) = some (r1,r2):=by first | (rw [hy415]; with_reducible exact H) | (have H2_:=(Option.bind_some _ _).symm.trans H; rw [hy415]; with_reducible exact H2_) | (have H2_:=(Option.bind_some _ _).symm.trans H; with_reducible exact H2_) | with_reducible exact H | (rw [hy415]; exact H) | exact H
      have v4:=Z hy415;clear hy415;replace H:=Option.bind_eq_some_iff.mp H;obtain ⟨t416,A490,H⟩:=H;replace H : (spec_l20Both.l0 kj27 t416 q1 y415 q2 (wrap64 (q7 + 1)) a0_0 l0_1 t390 t391) = some (r1,r2):=H;have A49:=Z A490;clear A490;have H':=Z H;clear H;have p413 : 0 ≤ (t407 : Int):=of_decide_eq_true (by first | (with_reducible assumption) | assumption);have q413 : t407 < (x9_1.length : Int):=of_decide_eq_true (by first | (with_reducible assumption) | assumption);obtain ⟨ad413,e413,v8⟩:=Kd.at_int (Kd.R_reads' HO_9.out).2.2 t407 p413 q413;cases e413;replace p413:=eq_true p413;replace q413:=eq_true q413;have p414 : 0 ≤ (t408 : Int):=of_decide_eq_true (by first | (with_reducible assumption) | assumption);have q414 : t408 < (q1.length : Int):=of_decide_eq_true (by first | (with_reducible assumption) | assumption);obtain ⟨ad414,e414,z0⟩:=Kd.at_int (Kd.R_reads' p5.out).2.2 t408 p414 q414;cases e414;replace p414:=eq_true p414;replace q414:=eq_true q414;have p48 : 0 ≤ (t407 : Int):=of_decide_eq_true (by first | (with_reducible assumption) | assumption);have q48 : (t407 : Int) < ((q3.length : Int) : Int):=of_decide_eq_true (by first | (with_reducible assumption) | assumption);obtain ⟨go48,co48,eo48,gb48,gl48,cl48,HG48⟩:=Kd.R_form p9.out (by omega)
      (first | cases eo48 | (injection eo48 with ea_ en_ ec_; (first | subst ea_ | (injection ea_ with ea_; subst ea_)); subst ec_; clear en_))
      have GB48:=Z gb48;have GG48:=Z HG48;clear gb48 gl48 HG48;obtain ⟨hx48_0,hf48_0⟩:=Kd.R_celln false p9.out (t407 : Int) p48 q48;replace p48:=eq_true p48;replace q48:=eq_true q48;have HP50:=Kd.R_putg p9.out (t407 : Int) true
      go_wp2_with (first | (go_at_call 99; (with_reducible refine (spec_l20Look.calls kj27 a0_0 _ _ l0_1 _ _ x9_1 t407 t416 _ ?side1 ?side2 ?side3 ?side4 A49.out).mono ?_); (case side1 => repeat (first | exact (Kd.C_below r4.out HB.out) | (with_reducible refine Kd.C_alloc ?_ _) | (with_reducible refine Kd.C_drewN ?_ _) | (with_reducible refine Kd.C_drew ?_))); (case side2 => exact r5.out); (case side3 => repeat (first | exact (Kd.R_reads' HO_9.out).2.2 | (with_reducible refine Kd.C_alloc ?_ _) | (with_reducible refine Kd.C_drewN ?_ _) | (with_reducible refine Kd.C_drew ?_))); (case side4 => exact (Kd.R_reads' HO_9.out).2.1); rintro e w54 ⟨v417,rfl,ho0,hb⟩; have n0_:=Z (Kd.R_elder' HO_9.out (Kd.R_base ho0) hb); have n1_:=Z (Kd.R_elder' p5.out (Kd.R_base ho0) hb); have n2_:=Z (Kd.R_below p9.out hb); have n3_:=Z (Kd.R_below p7.out hb); have n4_:=Z (Kd.R_below p1.out hb); have n5_:=Z (Kd.R_lower (Kd.R_new' (Kd.R_new' ho0 (Kd.R_lt HO_9.out)) (Kd.R_lt p5.out)) (below_size HB.out)); have n6_:=Z (blk_below (g:=p8) (o:=.cells #[.int .i64 a0_0,.slice A0_1 l0_1.length c0_1] 25 (0,0)) p0.out hb); have n7_:=Z (blk_below (g:=q0) (o:=.cells #[.int .i64 t390,.slice Ao15 t391.length co15] 25 (0,0)) p3.out hb); have n8_:=Z (below_step HB.out hb); clear HO_9; clear p5; clear p9; clear p7; clear p1; clear p0; clear p3; clear HB; have HO_9:=n0_; have p5:=n1_; have p9:=n2_; have p7:=n3_; have p1:=n4_; have HO418:=n5_; have p0:=n6_; have p3:=n7_; have HB:=n8_; clear n0_ n1_ n2_ n3_ n4_ n5_ n6_ n7_ n8_; (try clear hb); (try clear hb2); (try clear hk); (try clear hi); (try clear ho0)))
      repeat (go_quiet (first | (go_at_call 99; (with_reducible refine (spec_l20Look.calls kj27 a0_0 _ _ l0_1 _ _ x9_1 t407 t416 _ ?side1 ?side2 ?side3 ?side4 A49.out).mono ?_); (case side1 => repeat (first | exact (Kd.C_below r4.out HB.out) | (with_reducible refine Kd.C_alloc ?_ _) | (with_reducible refine Kd.C_drewN ?_ _) | (with_reducible refine Kd.C_drew ?_))); (case side2 => exact r5.out); (case side3 => repeat (first | exact (Kd.R_reads' HO_9.out).2.2 | (with_reducible refine Kd.C_alloc ?_ _) | (with_reducible refine Kd.C_drewN ?_ _) | (with_reducible refine Kd.C_drew ?_))); (case side4 => exact (Kd.R_reads' HO_9.out).2.1); rintro e w54 ⟨v417,rfl,ho0,hb⟩; have n0_:=Z (Kd.R_elder' HO_9.out (Kd.R_base ho0) hb); have n1_:=Z (Kd.R_elder' p5.out (Kd.R_base ho0) hb); have n2_:=Z (Kd.R_below p9.out hb); have n3_:=Z (Kd.R_below p7.out hb); have n4_:=Z (Kd.R_below p1.out hb); have n5_:=Z (Kd.R_lower (Kd.R_new' (Kd.R_new' ho0 (Kd.R_lt HO_9.out)) (Kd.R_lt p5.out)) (below_size HB.out)); have n6_:=Z (blk_below (g:=p8) (o:=.cells #[.int .i64 a0_0,.slice A0_1 l0_1.length c0_1] 25 (0,0)) p0.out hb); have n7_:=Z (blk_below (g:=q0) (o:=.cells #[.int .i64 t390,.slice Ao15 t391.length co15] 25 (0,0)) p3.out hb); have n8_:=Z (below_step HB.out hb); clear HO_9; clear p5; clear p9; clear p7; clear p1; clear p0; clear p3; clear HB; have HO_9:=n0_; have p5:=n1_; have p9:=n2_; have p7:=n3_; have p1:=n4_; have HO418:=n5_; have p0:=n6_; have p3:=n7_; have HB:=n8_; clear n0_ n1_ n2_ n3_ n4_ n5_ n6_ n7_ n8_; (try clear hb); (try clear hb2); (try clear hk); (try clear hi); (try clear ho0))); try go_wp2_with (first | ((with_reducible refine gate_store (t:=4) (p:=74) rfl ?_); (try (rw [drewN_self wc]; generalize hq_ : World.drewN wc _ = wc; have n0_:=Z (Kd.R_at hq_ HO_9.out); have n1_:=Z (Kd.R_at hq_ p5.out); have n2_:=Z (Kd.R_at hq_ p9.out); have n3_:=Z (Kd.R_at hq_ p7.out); have n4_:=Z (Kd.R_at hq_ p1.out); have n5_:=Z (blk_at hq_ p0.out); have n6_:=Z (blk_at hq_ p3.out); have n7_:=Z (below_at hq_ HB.out); clear hq_ HO_9 p5 p9 p7 p1 p0 p3 HB; have HO_9:=n0_; have p5:=n1_; have p9:=n2_; have p7:=n3_; have p1:=n4_; have p0:=n5_; have p3:=n6_; have HB:=n7_; clear n0_ n1_ n2_ n3_ n4_ n5_ n6_ n7_; (try (have HP50:=Kd.R_putg p9.out (t407 : Int) true); have hz_:=Kd.R_celln false p9.out (t407 : Int) (of_eq_true p48) (of_eq_true q48); have hx_:=hz_.1; have hf_:=hz_.2; clear hz_))); refine store_event (t:=4) (p:=74) (v:=?vo_w51) (w1:=(wc.setCell ⟨go48,(t407 : Int).toNat,none⟩ (.bool true))) ?hg ?ho ?hn ?hr ?_; (case ho => rfl); (case hg => rfl); (case hn => rfl); (case hr => first | (go_simp; done) | (go_simp; rfl)); intro w51 hw; have hg : wc.grownBy w51 (some go48):=(by rw [hw]; exact HP50.2); have hp_ : Kd.R Kd.bool 4 w51 w.heap.size (fun k_ => some k_ ≠ (.slice Ao32 q2.length co32 : Value).ownBlock) (.slice (some ⟨go48,0,none⟩) q3.length co30) y415:=(by rw [hw,v4.out]; exact HP50.1); clear HP50; have n0_:=Z (Kd.R_over' (v:=(.slice (some ⟨go48,0,none⟩) q3.length co30)) HO_9.out (Kd.R_typed p9.out) (by decide) hg); have n1_:=Z (Kd.R_over' (v:=(.slice (some ⟨go48,0,none⟩) q3.length co30)) p5.out (Kd.R_typed p9.out) (by decide) hg); have n2_:=Z (hp_); have n3_:=Z (Kd.R_after (v:=(.slice (some ⟨go48,0,none⟩) q3.length co30)) (v1:=(.slice (some ⟨go48,0,none⟩) q3.length co30)) (ok:=(fun _ => True)) (Kd.R_mono p7.out (fun _ hk => ⟨trivial,hk⟩)) hg (.inl rfl)); have n4_:=Z (Kd.R_over' (v:=(.slice (some ⟨go48,0,none⟩) q3.length co30)) p1.out (Kd.R_typed p9.out) (by decide) hg); have n5_:=Z (blk_grown (g:=p8) (o:=.cells #[.int .i64 a0_0,.slice A0_1 l0_1.length c0_1] 25 (0,0)) p0.out hg (Kd.R_ne p9.out p0.out (by decide))); have n6_:=Z (blk_grown (g:=q0) (o:=.cells #[.int .i64 t390,.slice Ao15 t391.length co15] 25 (0,0)) p3.out hg (Kd.R_ne p9.out p3.out (by decide))); have n7_:=Z ((by rw [hw]; exact below_set (HB.out) GB48.out : Below w.heap.size w w51)); clear HO_9; clear p5; clear p9; clear p7; clear p1; clear p0; clear p3; clear HB; have HO_9:=n0_; have p5:=n1_; have p9:=n2_; have p7:=n3_; have p1:=n4_; have p0:=n5_; have p3:=n6_; have HB:=n7_; clear n0_ n1_ n2_ n3_ n4_ n5_ n6_ n7_; clear hg hw hp_; have hnb52:=q5.out; have hnc52:=q6.out; have u5 : w51.cell? ⟨p8,0,none⟩ = some (.int .i64 a0_0):=(blk_cell p0.out 0).trans rfl; have u6 : w51.cell? ⟨p8,1,none⟩ = some (.slice A0_1 l0_1.length c0_1):=(blk_cell p0.out 1).trans rfl; have u7:=blk_frozen p0.out 0; have u8:=blk_frozen p0.out 1) | (go_at_call 99; (with_reducible refine (spec_l20Look.calls kj27 a0_0 _ _ l0_1 _ _ x9_1 t407 t416 _ ?side1 ?side2 ?side3 ?side4 A49.out).mono ?_); (case side1 => repeat (first | exact (Kd.C_below r4.out HB.out) | (with_reducible refine Kd.C_alloc ?_ _) | (with_reducible refine Kd.C_drewN ?_ _) | (with_reducible refine Kd.C_drew ?_))); (case side2 => exact r5.out); (case side3 => repeat (first | exact (Kd.R_reads' HO_9.out).2.2 | (with_reducible refine Kd.C_alloc ?_ _) | (with_reducible refine Kd.C_drewN ?_ _) | (with_reducible refine Kd.C_drew ?_))); (case side4 => exact (Kd.R_reads' HO_9.out).2.1); rintro e w54 ⟨v417,rfl,ho0,hb⟩; have n0_:=Z (Kd.R_elder' HO_9.out (Kd.R_base ho0) hb); have n1_:=Z (Kd.R_elder' p5.out (Kd.R_base ho0) hb); have n2_:=Z (Kd.R_below p9.out hb); have n3_:=Z (Kd.R_below p7.out hb); have n4_:=Z (Kd.R_below p1.out hb); have n5_:=Z (Kd.R_lower (Kd.R_new' (Kd.R_new' ho0 (Kd.R_lt HO_9.out)) (Kd.R_lt p5.out)) (below_size HB.out)); have n6_:=Z (blk_below (g:=p8) (o:=.cells #[.int .i64 a0_0,.slice A0_1 l0_1.length c0_1] 25 (0,0)) p0.out hb); have n7_:=Z (blk_below (g:=q0) (o:=.cells #[.int .i64 t390,.slice Ao15 t391.length co15] 25 (0,0)) p3.out hb); have n8_:=Z (below_step HB.out hb); clear HO_9; clear p5; clear p9; clear p7; clear p1; clear p0; clear p3; clear HB; have HO_9:=n0_; have p5:=n1_; have p9:=n2_; have p7:=n3_; have p1:=n4_; have HO418:=n5_; have p0:=n6_; have p3:=n7_; have HB:=n8_; clear n0_ n1_ n2_ n3_ n4_ n5_ n6_ n7_ n8_; (try clear hb); (try clear hb2); (try clear hk); (try clear hi); (try clear ho0))))
      go_roundg kj27
      case measure => have:=HK1.out; have:=HJ27.out; omega
      case rel => exact ⟨(t416),(q1),(y415),(q2),(wrap64 (q7 + 1)),(by first | rfl | (simp; done) | (simp [*]; done)),H',⟨by have:=HK1.out; have:=HJ27.out; omega⟩,⟨by exact Kd.R_mono HO418.out (fun _ hk => hk.2)⟩,⟨by exact Kd.R_mono p5.out (fun _ hk => hk.2)⟩,⟨by exact p9.out⟩,⟨by exact Kd.R_mono p7.out (fun _ hk => hk.2)⟩,⟨by exact p1.out⟩,⟨by exact p0.out⟩,⟨by exact p3.out⟩,⟨by repeat (first | (with_reducible first | exact HB.out | apply below_alloc | apply pw_below_drewN | apply below_drew1 | refine below_set ?_ r6.out | refine below_set ?_ r7.out) | exact HB.out)⟩⟩
     rw [if_neg c46] at H;have c46b0 : decide ((rd x9_1 t407) ≤ (rd q1 t408)) = false:=decide_eq_false c46;clear c46
     by_cases c55 : t408 < (q2.length : Int)
     case neg =>
      rw [if_neg c55] at H;exact absurd H (by simp)
     rw [if_pos c55] at H;have c55b0 : decide (t408 < (q2.length : Int)) = true:=decide_eq_true c55;clear c55;obtain ⟨y419,hy419⟩ : ∃ y_ : List Bool,y_ = (q2.set (t408 : Int).toNat true):=⟨_,rfl⟩
     replace H : ((spec_l20Look.f kj27 t390 t391 q1 t408).bind fun t420 => (spec_l20Both.l0 kj27 x9_1 t420 q3 y419 (wrap64 (q7 + 1)) a0_0 l0_1 t390 t391)) = some (r1,r2):=by first | (rw [hy419]; with_reducible exact H) | (have H2_:=(Option.bind_some _ _).symm.trans H; rw [hy419]; with_reducible exact H2_) | (have H2_:=(Option.bind_some _ _).symm.trans H; with_reducible exact H2_) | with_reducible exact H | (rw [hy419]; exact H) | exact H
     have v5:=Z hy419;clear hy419;replace H:=Option.bind_eq_some_iff.mp H;obtain ⟨t420,A570,H⟩:=H;replace H : (spec_l20Both.l0 kj27 x9_1 t420 q3 y419 (wrap64 (q7 + 1)) a0_0 l0_1 t390 t391) = some (r1,r2):=H;have A57:=Z A570;clear A570;have H':=Z H;clear H;have p413 : 0 ≤ (t407 : Int):=of_decide_eq_true (by first | (with_reducible assumption) | assumption);have q413 : t407 < (x9_1.length : Int):=of_decide_eq_true (by first | (with_reducible assumption) | assumption);obtain ⟨ad413,e413,v8⟩:=Kd.at_int (Kd.R_reads' HO_9.out).2.2 t407 p413 q413;cases e413;replace p413:=eq_true p413;replace q413:=eq_true q413;have p414 : 0 ≤ (t408 : Int):=of_decide_eq_true (by first | (with_reducible assumption) | assumption);have q414 : t408 < (q1.length : Int):=of_decide_eq_true (by first | (with_reducible assumption) | assumption);obtain ⟨ad414,e414,z0⟩:=Kd.at_int (Kd.R_reads' p5.out).2.2 t408 p414 q414;cases e414;replace p414:=eq_true p414;replace q414:=eq_true q414;have p56 : 0 ≤ (t408 : Int):=of_decide_eq_true (by first | (with_reducible assumption) | assumption);have q56 : (t408 : Int) < ((q2.length : Int) : Int):=of_decide_eq_true (by first | (with_reducible assumption) | assumption);obtain ⟨go56,co56,eo56,gb56,gl56,cl56,HG56⟩:=Kd.R_form p7.out (by omega)
     (first | cases eo56 | (injection eo56 with ea_ en_ ec_; (first | subst ea_ | (injection ea_ with ea_; subst ea_)); subst ec_; clear en_))
     have GB56:=Z gb56;have GG56:=Z HG56;clear gb56 gl56 HG56;obtain ⟨hx56_0,hf56_0⟩:=Kd.R_celln false p7.out (t408 : Int) p56 q56;replace p56:=eq_true p56;replace q56:=eq_true q56;have HP58:=Kd.R_putg p7.out (t408 : Int) true
     go_wp2_with (first | (go_at_call 99; (with_reducible refine (spec_l20Look.calls kj27 t390 _ _ t391 _ _ q1 t408 t420 _ ?side1 ?side2 ?side3 ?side4 A57.out).mono ?_); (case side1 => repeat (first | exact (Kd.R_reads' p1.out).2.2 | (with_reducible refine Kd.C_alloc ?_ _) | (with_reducible refine Kd.C_drewN ?_ _) | (with_reducible refine Kd.C_drew ?_))); (case side2 => exact (Kd.R_reads' p1.out).2.1); (case side3 => repeat (first | exact (Kd.R_reads' p5.out).2.2 | (with_reducible refine Kd.C_alloc ?_ _) | (with_reducible refine Kd.C_drewN ?_ _) | (with_reducible refine Kd.C_drew ?_))); (case side4 => exact (Kd.R_reads' p5.out).2.1); rintro e w62 ⟨v421,rfl,ho0,hb⟩; have n0_:=Z (Kd.R_elder' HO_9.out (Kd.R_base ho0) hb); have n1_:=Z (Kd.R_elder' p5.out (Kd.R_base ho0) hb); have n2_:=Z (Kd.R_below p9.out hb); have n3_:=Z (Kd.R_below p7.out hb); have n4_:=Z (Kd.R_below p1.out hb); have n5_:=Z (Kd.R_lower (Kd.R_new' (Kd.R_new' ho0 (Kd.R_lt HO_9.out)) (Kd.R_lt p5.out)) (below_size HB.out)); have n6_:=Z (blk_below (g:=p8) (o:=.cells #[.int .i64 a0_0,.slice A0_1 l0_1.length c0_1] 25 (0,0)) p0.out hb); have n7_:=Z (blk_below (g:=q0) (o:=.cells #[.int .i64 t390,.slice Ao15 t391.length co15] 25 (0,0)) p3.out hb); have n8_:=Z (below_step HB.out hb); clear HO_9; clear p5; clear p9; clear p7; clear p1; clear p0; clear p3; clear HB; have HO_9:=n0_; have p5:=n1_; have p9:=n2_; have p7:=n3_; have p1:=n4_; have HO422:=n5_; have p0:=n6_; have p3:=n7_; have HB:=n8_; clear n0_ n1_ n2_ n3_ n4_ n5_ n6_ n7_ n8_; (try clear hb); (try clear hb2); (try clear hk); (try clear hi); (try clear ho0)))
     repeat (go_quiet (first | (go_at_call 99; (with_reducible refine (spec_l20Look.calls kj27 t390 _ _ t391 _ _ q1 t408 t420 _ ?side1 ?side2 ?side3 ?side4 A57.out).mono ?_); (case side1 => repeat (first | exact (Kd.R_reads' p1.out).2.2 | (with_reducible refine Kd.C_alloc ?_ _) | (with_reducible refine Kd.C_drewN ?_ _) | (with_reducible refine Kd.C_drew ?_))); (case side2 => exact (Kd.R_reads' p1.out).2.1); (case side3 => repeat (first | exact (Kd.R_reads' p5.out).2.2 | (with_reducible refine Kd.C_alloc ?_ _) | (with_reducible refine Kd.C_drewN ?_ _) | (with_reducible refine Kd.C_drew ?_))); (case side4 => exact (Kd.R_reads' p5.out).2.1); rintro e w62 ⟨v421,rfl,ho0,hb⟩; have n0_:=Z (Kd.R_elder' HO_9.out (Kd.R_base ho0) hb); have n1_:=Z (Kd.R_elder' p5.out (Kd.R_base ho0) hb); have n2_:=Z (Kd.R_below p9.out hb); have n3_:=Z (Kd.R_below p7.out hb); have n4_:=Z (Kd.R_below p1.out hb); have n5_:=Z (Kd.R_lower (Kd.R_new' (Kd.R_new' ho0 (Kd.R_lt HO_9.out)) (Kd.R_lt p5.out)) (below_size HB.out)); have n6_:=Z (blk_below (g:=p8) (o:=.cells #[.int .i64 a0_0,.slice A0_1 l0_1.length c0_1] 25 (0,0)) p0.out hb); have n7_:=Z (blk_below (g:=q0) (o:=.cells #[.int .i64 t390,.slice Ao15 t391.length co15] 25 (0,0)) p3.out hb); have n8_:=Z (below_step HB.out hb); clear HO_9; clear p5; clear p9; clear p7; clear p1; clear p0; clear p3; clear HB; have HO_9:=n0_; have p5:=n1_; have p9:=n2_; have p7:=n3_; have p1:=n4_; have HO422:=n5_; have p0:=n6_; have p3:=n7_; have HB:=n8_; clear n0_ n1_ n2_ n3_ n4_ n5_ n6_ n7_ n8_; (try clear hb); (try clear hb2); (try clear hk); (try clear hi); (try clear ho0))); try go_wp2_with (first | ((with_reducible refine gate_store (t:=4) (p:=81) rfl ?_); (try (rw [drewN_self wc]; generalize hq_ : World.drewN wc _ = wc; have n0_:=Z (Kd.R_at hq_ HO_9.out); have n1_:=Z (Kd.R_at hq_ p5.out); have n2_:=Z (Kd.R_at hq_ p9.out); have n3_:=Z (Kd.R_at hq_ p7.out); have n4_:=Z (Kd.R_at hq_ p1.out); have n5_:=Z (blk_at hq_ p0.out); have n6_:=Z (blk_at hq_ p3.out); have n7_:=Z (below_at hq_ HB.out); clear hq_ HO_9 p5 p9 p7 p1 p0 p3 HB; have HO_9:=n0_; have p5:=n1_; have p9:=n2_; have p7:=n3_; have p1:=n4_; have p0:=n5_; have p3:=n6_; have HB:=n7_; clear n0_ n1_ n2_ n3_ n4_ n5_ n6_ n7_; (try (have HP58:=Kd.R_putg p7.out (t408 : Int) true); have hz_:=Kd.R_celln false p7.out (t408 : Int) (of_eq_true p56) (of_eq_true q56); have hx_:=hz_.1; have hf_:=hz_.2; clear hz_))); refine store_event (t:=4) (p:=81) (v:=?vo_w59) (w1:=(wc.setCell ⟨go56,(t408 : Int).toNat,none⟩ (.bool true))) ?hg ?ho ?hn ?hr ?_; (case ho => rfl); (case hg => rfl); (case hn => rfl); (case hr => first | (go_simp; done) | (go_simp; rfl)); intro w59 hw; have hg : wc.grownBy w59 (some go56):=(by rw [hw]; exact HP58.2); have hp_ : Kd.R Kd.bool 4 w59 w.heap.size (fun k_ => some k_ ≠ (.slice Ao30 q3.length co30 : Value).ownBlock) (.slice (some ⟨go56,0,none⟩) q2.length co32) y419:=(by rw [hw,v5.out]; exact HP58.1); clear HP58; have n0_:=Z (Kd.R_over' (v:=(.slice (some ⟨go56,0,none⟩) q2.length co32)) HO_9.out (Kd.R_typed p7.out) (by decide) hg); have n1_:=Z (Kd.R_over' (v:=(.slice (some ⟨go56,0,none⟩) q2.length co32)) p5.out (Kd.R_typed p7.out) (by decide) hg); have n2_:=Z (Kd.R_after (v:=(.slice (some ⟨go56,0,none⟩) q2.length co32)) (v1:=(.slice (some ⟨go56,0,none⟩) q2.length co32)) (ok:=(fun _ => True)) (Kd.R_mono p9.out (fun _ hk => ⟨trivial,hk⟩)) hg (.inl rfl)); have n3_:=Z (hp_); have n4_:=Z (Kd.R_over' (v:=(.slice (some ⟨go56,0,none⟩) q2.length co32)) p1.out (Kd.R_typed p7.out) (by decide) hg); have n5_:=Z (blk_grown (g:=p8) (o:=.cells #[.int .i64 a0_0,.slice A0_1 l0_1.length c0_1] 25 (0,0)) p0.out hg (Kd.R_ne p7.out p0.out (by decide))); have n6_:=Z (blk_grown (g:=q0) (o:=.cells #[.int .i64 t390,.slice Ao15 t391.length co15] 25 (0,0)) p3.out hg (Kd.R_ne p7.out p3.out (by decide))); have n7_:=Z ((by rw [hw]; exact below_set (HB.out) GB56.out : Below w.heap.size w w59)); clear HO_9; clear p5; clear p9; clear p7; clear p1; clear p0; clear p3; clear HB; have HO_9:=n0_; have p5:=n1_; have p9:=n2_; have p7:=n3_; have p1:=n4_; have p0:=n5_; have p3:=n6_; have HB:=n7_; clear n0_ n1_ n2_ n3_ n4_ n5_ n6_ n7_; clear hg hw hp_; have hnb60:=q6.out; have hnc60:=q5.out; have u9 : w59.cell? ⟨q0,0,none⟩ = some (.int .i64 t390):=(blk_cell p3.out 0).trans rfl; have v0 : w59.cell? ⟨q0,1,none⟩ = some (.slice Ao15 t391.length co15):=(blk_cell p3.out 1).trans rfl; have v2:=blk_frozen p3.out 0; have v3:=blk_frozen p3.out 1) | (go_at_call 99; (with_reducible refine (spec_l20Look.calls kj27 t390 _ _ t391 _ _ q1 t408 t420 _ ?side1 ?side2 ?side3 ?side4 A57.out).mono ?_); (case side1 => repeat (first | exact (Kd.R_reads' p1.out).2.2 | (with_reducible refine Kd.C_alloc ?_ _) | (with_reducible refine Kd.C_drewN ?_ _) | (with_reducible refine Kd.C_drew ?_))); (case side2 => exact (Kd.R_reads' p1.out).2.1); (case side3 => repeat (first | exact (Kd.R_reads' p5.out).2.2 | (with_reducible refine Kd.C_alloc ?_ _) | (with_reducible refine Kd.C_drewN ?_ _) | (with_reducible refine Kd.C_drew ?_))); (case side4 => exact (Kd.R_reads' p5.out).2.1); rintro e w62 ⟨v421,rfl,ho0,hb⟩; have n0_:=Z (Kd.R_elder' HO_9.out (Kd.R_base ho0) hb); have n1_:=Z (Kd.R_elder' p5.out (Kd.R_base ho0) hb); have n2_:=Z (Kd.R_below p9.out hb); have n3_:=Z (Kd.R_below p7.out hb); have n4_:=Z (Kd.R_below p1.out hb); have n5_:=Z (Kd.R_lower (Kd.R_new' (Kd.R_new' ho0 (Kd.R_lt HO_9.out)) (Kd.R_lt p5.out)) (below_size HB.out)); have n6_:=Z (blk_below (g:=p8) (o:=.cells #[.int .i64 a0_0,.slice A0_1 l0_1.length c0_1] 25 (0,0)) p0.out hb); have n7_:=Z (blk_below (g:=q0) (o:=.cells #[.int .i64 t390,.slice Ao15 t391.length co15] 25 (0,0)) p3.out hb); have n8_:=Z (below_step HB.out hb); clear HO_9; clear p5; clear p9; clear p7; clear p1; clear p0; clear p3; clear HB; have HO_9:=n0_; have p5:=n1_; have p9:=n2_; have p7:=n3_; have p1:=n4_; have HO422:=n5_; have p0:=n6_; have p3:=n7_; have HB:=n8_; clear n0_ n1_ n2_ n3_ n4_ n5_ n6_ n7_ n8_; (try clear hb); (try clear hb2); (try clear hk); (try clear hi); (try clear ho0))))
     go_roundg kj27
     case measure => have:=HK1.out; have:=HJ27.out; omega
     case rel => exact ⟨(x9_1),(t420),(q3),(y419),(wrap64 (q7 + 1)),(by first | rfl | (simp; done) | (simp [*]; done)),H',⟨by have:=HK1.out; have:=HJ27.out; omega⟩,⟨by exact Kd.R_mono HO_9.out (fun _ hk => hk.2)⟩,⟨by exact Kd.R_mono HO422.out (fun _ hk => hk.1.2)⟩,⟨by exact Kd.R_mono p9.out (fun _ hk => hk.2)⟩,⟨by exact p7.out⟩,⟨by exact p1.out⟩,⟨by exact p0.out⟩,⟨by exact p3.out⟩,⟨by repeat (first | (with_reducible first | exact HB.out | apply below_alloc | apply pw_below_drewN | apply below_drew1 | refine below_set ?_ r6.out | refine below_set ?_ r7.out) | exact HB.out)⟩⟩
def spec_BothNear.f (k : Nat) (a0_0 : Int) (l0_1 : List (S34)) (a1 : Int) (a2 : Int) : Option (Int × Int):=(spec_l1Ok.f k a0_0 l0_1).bind fun t424 => (if t424 = true then ((spec_l1In.f a1 0 (wrap64 (a0_0 - 1))).bind fun t425 => (if t425 = true then ((spec_l1In.f a2 0 (wrap64 (a0_0 - 1))).bind fun t426 => (if t426 = true then ((spec_l20Both.f k a0_0 l0_1 a1 a2).bind fun bt427 => (some (bt427.1,bt427.2))) else (some ((-1),(-1))))) else (some ((-1),(-1))))) else (some ((-1),(-1))))
set_option maxHeartbeats 8000000 in
set_option maxRecDepth 100000 in
theorem spec_BothNear.calls (k : Nat) (a0_0 : Int) (A0_1 : Option Addr) (c0_1 : Nat) (l0_1 : List (S34)) (a1 : Int) (a2 : Int) (r1 : Int) (r2 : Int) (w : World) (hr0_1 : Kd.C k34 w A0_1 l0_1.length l0_1) (hc0_1 : l0_1.length ≤ c0_1) (h : spec_BothNear.f k a0_0 l0_1 a1 a2 = some (r1,r2)) :
  Calls Try.prog 20 #[.agg #[.int .i64 a0_0,.slice A0_1 l0_1.length c0_1],.int .i64 a1,.int .i64 a2] w fun e w' => e = .returned (.tuple #[.int .i64 r1,.int .i64 r2]) ∧ Below w.heap.size w w':=by
 have hu25:=Try.underlying25;have p3:=Z hr0_1;have p4:=Z hc0_1;clear hr0_1 hc0_1;have HB:=Z (Below.refl w.heap.size w);have H : ((spec_l1Ok.f k a0_0 l0_1).bind fun t424 => (if t424 = true then ((spec_l1In.f a1 0 (wrap64 (a0_0 - 1))).bind fun t425 => (if t425 = true then ((spec_l1In.f a2 0 (wrap64 (a0_0 - 1))).bind fun t426 => (if t426 = true then ((spec_l20Both.f k a0_0 l0_1 a1 a2).bind fun bt427 => (some (bt427.1,bt427.2))) else (some ((-1),(-1))))) else (some ((-1),(-1))))) else (some ((-1),(-1))))) = some (r1,r2):=h;clear h;replace H:=Option.bind_eq_some_iff.mp H;obtain ⟨t424,A40,H⟩:=H;replace H : (if t424 = true then ((spec_l1In.f a1 0 (wrap64 (a0_0 - 1))).bind fun t425 => (if t425 = true then ((spec_l1In.f a2 0 (wrap64 (a0_0 - 1))).bind fun t426 => (if t426 = true then ((spec_l20Both.f k a0_0 l0_1 a1 a2).bind fun bt427 => (some (bt427.1,bt427.2))) else (some ((-1),(-1))))) else (some ((-1),(-1))))) else (some ((-1),(-1)))) = some (r1,r2):=H;have A4:=Z A40;clear A40
 by_cases c5 : t424 = true
 case neg =>
  replace c5:=Bool.eq_false_iff.mpr c5;subst c5;have H1 : (some ((-1),(-1))) = some (r1,r2):=by rw [if_neg (show ¬ (false = true) by decide)] at H; exact H
  clear H;have H:=H1;clear H1;simp only [Option.some.injEq,Prod.mk.injEq] at H;obtain ⟨rfl,rfl⟩:=H
  go_enter Try.func20,Try.ntmps20
  go_wp2_with (first | ((with_reducible refine gate_dst (N:=3) rfl ?_); refine box_event ?hg (N:=3) ?hd (cs:=#[.int .i64 a0_0,.slice A0_1 l0_1.length c0_1]) (t:=25) ?hr ?_; (case hd => rfl); (case hg => rfl); (case hr => first | (go_simp; done) | (go_simp; rfl)); intro p1 hg w24 hbox hb; have n0_:=Z (below_step HB.out hb); have n1_:=Z (hbox); have n2_:=Z ((by rw [hg]; exact (below_size HB.out) : w.heap.size ≤ p1)); have n3_:=Z ((by rw [hg]; exact (below_size HB.out) : w.heap.size ≤ p1)); clear HB; have HB:=n0_; have p0:=n1_; have p5:=n2_; have p2:=n3_; clear n0_ n1_ n2_ n3_; clear hb hbox hg; have hcz25_0 : w24.cell? ⟨p1,0,none⟩ = some (.int .i64 a0_0):=(blk_cell p0.out 0).trans rfl; have hcz25_1 : w24.cell? ⟨p1,1,none⟩ = some (.slice A0_1 l0_1.length c0_1):=(blk_cell p0.out 1).trans rfl; have hfz25_0:=blk_frozen p0.out 0; have hfz25_1:=blk_frozen p0.out 1) | ((with_reducible refine gate_callee (f:=53) rfl ?_); refine goesL_ (some 9) rfl rfl Try.func53 (by kernel_rfl) rfl #[.agg #[.int .i64 a0_0,.slice A0_1 l0_1.length c0_1]] rfl (by (try simp only [List.map_toArray,List.map_cons,List.map_nil]); first | done | rfl | (simp only [List.length_drop,List.length_take]; rfl)) ?_; (with_reducible refine (spec_l1Ok.calls k a0_0 _ _ l0_1 false _ ?side1 ?side2 A4.out).mono ?_); (case side1 => repeat (first | exact (Kd.C_below p3.out HB.out) | (with_reducible refine Kd.C_alloc ?_ _) | (with_reducible refine Kd.C_drewN ?_ _) | (with_reducible refine Kd.C_drew ?_))); (case side2 => exact p4.out); rintro e w26 ⟨rfl,hb⟩; refine ⟨_,rfl,?_⟩; have n0_:=Z (blk_below (g:=p1) (o:=.cells #[.int .i64 a0_0,.slice A0_1 l0_1.length c0_1] 25 (0,0)) p0.out hb); have n1_:=Z (below_step HB.out hb); clear p0; clear HB; have p0:=n0_; have HB:=n1_; clear n0_ n1_; (try clear hb); (try clear hb2); (try clear hk); (try clear hi)))
  go_ret2;exact ⟨by first | rfl | (simp [errW_none,errW_some] <;> rfl) | (simp [*,errW_none,errW_some] <;> rfl),by repeat (first | (with_reducible first | exact HB.out | apply below_alloc | apply pw_below_drewN | apply below_drew1 | refine below_set ?_ p2.out) | exact HB.out)⟩
 subst c5;have H1 : ((spec_l1In.f a1 0 (wrap64 (a0_0 - 1))).bind fun t425 => (if t425 = true then ((spec_l1In.f a2 0 (wrap64 (a0_0 - 1))).bind fun t426 => (if t426 = true then ((spec_l20Both.f k a0_0 l0_1 a1 a2).bind fun bt427 => (some (bt427.1,bt427.2))) else (some ((-1),(-1))))) else (some ((-1),(-1))))) = some (r1,r2):=by rw [if_pos rfl] at H; exact H
 clear H;have H:=H1;clear H1;replace H:=Option.bind_eq_some_iff.mp H;obtain ⟨t425,A60,H⟩:=H;replace H : (if t425 = true then ((spec_l1In.f a2 0 (wrap64 (a0_0 - 1))).bind fun t426 => (if t426 = true then ((spec_l20Both.f k a0_0 l0_1 a1 a2).bind fun bt427 => (some (bt427.1,bt427.2))) else (some ((-1),(-1))))) else (some ((-1),(-1)))) = some (r1,r2):=H;have A6:=Z A60;clear A60
 by_cases c7 : t425 = true
 case neg =>
  replace c7:=Bool.eq_false_iff.mpr c7;subst c7;have H1 : (some ((-1),(-1))) = some (r1,r2):=by rw [if_neg (show ¬ (false = true) by decide)] at H; exact H
  clear H;have H:=H1;clear H1;simp only [Option.some.injEq,Prod.mk.injEq] at H;obtain ⟨rfl,rfl⟩:=H
  go_enter Try.func20,Try.ntmps20
  go_wp2_with (first | ((with_reducible refine gate_dst (N:=3) rfl ?_); refine box_event ?hg (N:=3) ?hd (cs:=#[.int .i64 a0_0,.slice A0_1 l0_1.length c0_1]) (t:=25) ?hr ?_; (case hd => rfl); (case hg => rfl); (case hr => first | (go_simp; done) | (go_simp; rfl)); intro p1 hg w20 hbox hb; have n0_:=Z (below_step HB.out hb); have n1_:=Z (hbox); have n2_:=Z ((by rw [hg]; exact (below_size HB.out) : w.heap.size ≤ p1)); have n3_:=Z ((by rw [hg]; exact (below_size HB.out) : w.heap.size ≤ p1)); clear HB; have HB:=n0_; have p0:=n1_; have p5:=n2_; have p2:=n3_; clear n0_ n1_ n2_ n3_; clear hb hbox hg; have hcz21_0 : w20.cell? ⟨p1,0,none⟩ = some (.int .i64 a0_0):=(blk_cell p0.out 0).trans rfl; have hcz21_1 : w20.cell? ⟨p1,1,none⟩ = some (.slice A0_1 l0_1.length c0_1):=(blk_cell p0.out 1).trans rfl; have hfz21_0:=blk_frozen p0.out 0; have hfz21_1:=blk_frozen p0.out 1) | ((with_reducible refine gate_callee (f:=53) rfl ?_); refine goesL_ (some 9) rfl rfl Try.func53 (by kernel_rfl) rfl #[.agg #[.int .i64 a0_0,.slice A0_1 l0_1.length c0_1]] rfl (by (try simp only [List.map_toArray,List.map_cons,List.map_nil]); first | done | rfl | (simp only [List.length_drop,List.length_take]; rfl)) ?_; (with_reducible refine (spec_l1Ok.calls k a0_0 _ _ l0_1 true _ ?side1 ?side2 A4.out).mono ?_); (case side1 => repeat (first | exact (Kd.C_below p3.out HB.out) | (with_reducible refine Kd.C_alloc ?_ _) | (with_reducible refine Kd.C_drewN ?_ _) | (with_reducible refine Kd.C_drew ?_))); (case side2 => exact p4.out); rintro e w22 ⟨rfl,hb⟩; refine ⟨_,rfl,?_⟩; have n0_:=Z (blk_below (g:=p1) (o:=.cells #[.int .i64 a0_0,.slice A0_1 l0_1.length c0_1] 25 (0,0)) p0.out hb); have n1_:=Z (below_step HB.out hb); clear p0; clear HB; have p0:=n0_; have HB:=n1_; clear n0_ n1_; (try clear hb); (try clear hb2); (try clear hk); (try clear hi); have hcz23_0 : w22.cell? ⟨p1,0,none⟩ = some (.int .i64 a0_0):=(blk_cell p0.out 0).trans rfl; have hcz23_1 : w22.cell? ⟨p1,1,none⟩ = some (.slice A0_1 l0_1.length c0_1):=(blk_cell p0.out 1).trans rfl; have hfz23_0:=blk_frozen p0.out 0; have hfz23_1:=blk_frozen p0.out 1) | (go_at_call 54; (with_reducible refine (spec_l1In.calls a1 0 (wrap64 (a0_0 - 1)) false _ A6.out).mono ?_); rintro e w' ⟨rfl,⟨nd,rfl⟩⟩))
  go_ret2;exact ⟨by first | rfl | (simp [errW_none,errW_some] <;> rfl) | (simp [*,errW_none,errW_some] <;> rfl),by repeat (first | (with_reducible first | exact HB.out | apply below_alloc | apply pw_below_drewN | apply below_drew1 | refine below_set ?_ p2.out) | exact HB.out)⟩
 subst c7;have H1 : ((spec_l1In.f a2 0 (wrap64 (a0_0 - 1))).bind fun t426 => (if t426 = true then ((spec_l20Both.f k a0_0 l0_1 a1 a2).bind fun bt427 => (some (bt427.1,bt427.2))) else (some ((-1),(-1))))) = some (r1,r2):=by rw [if_pos rfl] at H; exact H
 clear H;have H:=H1;clear H1;replace H:=Option.bind_eq_some_iff.mp H;obtain ⟨t426,A80,H⟩:=H;replace H : (if t426 = true then ((spec_l20Both.f k a0_0 l0_1 a1 a2).bind fun bt427 => (some (bt427.1,bt427.2))) else (some ((-1),(-1)))) = some (r1,r2):=H;have A8:=Z A80;clear A80
 by_cases c9 : t426 = true
 case neg =>
  replace c9:=Bool.eq_false_iff.mpr c9;subst c9;have H1 : (some ((-1),(-1))) = some (r1,r2):=by rw [if_neg (show ¬ (false = true) by decide)] at H; exact H
  clear H;have H:=H1;clear H1;simp only [Option.some.injEq,Prod.mk.injEq] at H;obtain ⟨rfl,rfl⟩:=H
  go_enter Try.func20,Try.ntmps20
  go_wp2_with (first | ((with_reducible refine gate_dst (N:=3) rfl ?_); refine box_event ?hg (N:=3) ?hd (cs:=#[.int .i64 a0_0,.slice A0_1 l0_1.length c0_1]) (t:=25) ?hr ?_; (case hd => rfl); (case hg => rfl); (case hr => first | (go_simp; done) | (go_simp; rfl)); intro p1 hg w16 hbox hb; have n0_:=Z (below_step HB.out hb); have n1_:=Z (hbox); have n2_:=Z ((by rw [hg]; exact (below_size HB.out) : w.heap.size ≤ p1)); have n3_:=Z ((by rw [hg]; exact (below_size HB.out) : w.heap.size ≤ p1)); clear HB; have HB:=n0_; have p0:=n1_; have p5:=n2_; have p2:=n3_; clear n0_ n1_ n2_ n3_; clear hb hbox hg; have hcz17_0 : w16.cell? ⟨p1,0,none⟩ = some (.int .i64 a0_0):=(blk_cell p0.out 0).trans rfl; have hcz17_1 : w16.cell? ⟨p1,1,none⟩ = some (.slice A0_1 l0_1.length c0_1):=(blk_cell p0.out 1).trans rfl; have hfz17_0:=blk_frozen p0.out 0; have hfz17_1:=blk_frozen p0.out 1) | ((with_reducible refine gate_callee (f:=53) rfl ?_); refine goesL_ (some 9) rfl rfl Try.func53 (by kernel_rfl) rfl #[.agg #[.int .i64 a0_0,.slice A0_1 l0_1.length c0_1]] rfl (by (try simp only [List.map_toArray,List.map_cons,List.map_nil]); first | done | rfl | (simp only [List.length_drop,List.length_take]; rfl)) ?_; (with_reducible refine (spec_l1Ok.calls k a0_0 _ _ l0_1 true _ ?side1 ?side2 A4.out).mono ?_); (case side1 => repeat (first | exact (Kd.C_below p3.out HB.out) | (with_reducible refine Kd.C_alloc ?_ _) | (with_reducible refine Kd.C_drewN ?_ _) | (with_reducible refine Kd.C_drew ?_))); (case side2 => exact p4.out); rintro e w18 ⟨rfl,hb⟩; refine ⟨_,rfl,?_⟩; have n0_:=Z (blk_below (g:=p1) (o:=.cells #[.int .i64 a0_0,.slice A0_1 l0_1.length c0_1] 25 (0,0)) p0.out hb); have n1_:=Z (below_step HB.out hb); clear p0; clear HB; have p0:=n0_; have HB:=n1_; clear n0_ n1_; (try clear hb); (try clear hb2); (try clear hk); (try clear hi); have hcz19_0 : w18.cell? ⟨p1,0,none⟩ = some (.int .i64 a0_0):=(blk_cell p0.out 0).trans rfl; have hcz19_1 : w18.cell? ⟨p1,1,none⟩ = some (.slice A0_1 l0_1.length c0_1):=(blk_cell p0.out 1).trans rfl; have hfz19_0:=blk_frozen p0.out 0; have hfz19_1:=blk_frozen p0.out 1) | (go_at_call 54; (with_reducible refine (spec_l1In.calls a1 0 (wrap64 (a0_0 - 1)) true _ A6.out).mono ?_); rintro e w' ⟨rfl,⟨nd,rfl⟩⟩) | (go_at_call 54; (with_reducible refine (spec_l1In.calls a2 0 (wrap64 (a0_0 - 1)) false _ A8.out).mono ?_); rintro e w' ⟨rfl,⟨nd,rfl⟩⟩))
  go_ret2;exact ⟨by first | rfl | (simp [errW_none,errW_some] <;> rfl) | (simp [*,errW_none,errW_some] <;> rfl),by repeat (first | (with_reducible first | exact HB.out | apply below_alloc | apply pw_below_drewN | apply below_drew1 | refine below_set ?_ p2.out) | exact HB.out)⟩
 subst c9;have H1 : ((spec_l20Both.f k a0_0 l0_1 a1 a2).bind fun bt427 => (some (bt427.1,bt427.2))) = some (r1,r2):=by rw [if_pos rfl] at H; exact H
 clear H;have H:=H1;clear H1;replace H:=Option.bind_eq_some_iff.mp H;obtain ⟨⟨t427,t428⟩,A100,H⟩:=H;replace H : (some (t427,t428)) = some (r1,r2):=H;have A10:=Z A100;clear A100;simp only [Option.some.injEq,Prod.mk.injEq] at H;obtain ⟨rfl,rfl⟩:=H
 go_enter Try.func20,Try.ntmps20
 go_wp2_with (first | ((with_reducible refine gate_dst (N:=3) rfl ?_); refine box_event ?hg (N:=3) ?hd (cs:=#[.int .i64 a0_0,.slice A0_1 l0_1.length c0_1]) (t:=25) ?hr ?_; (case hd => rfl); (case hg => rfl); (case hr => first | (go_simp; done) | (go_simp; rfl)); intro p1 hg w11 hbox hb; have n0_:=Z (below_step HB.out hb); have n1_:=Z (hbox); have n2_:=Z ((by rw [hg]; exact (below_size HB.out) : w.heap.size ≤ p1)); have n3_:=Z ((by rw [hg]; exact (below_size HB.out) : w.heap.size ≤ p1)); clear HB; have HB:=n0_; have p0:=n1_; have p5:=n2_; have p2:=n3_; clear n0_ n1_ n2_ n3_; clear hb hbox hg; have hcz12_0 : w11.cell? ⟨p1,0,none⟩ = some (.int .i64 a0_0):=(blk_cell p0.out 0).trans rfl; have hcz12_1 : w11.cell? ⟨p1,1,none⟩ = some (.slice A0_1 l0_1.length c0_1):=(blk_cell p0.out 1).trans rfl; have hfz12_0:=blk_frozen p0.out 0; have hfz12_1:=blk_frozen p0.out 1) | ((with_reducible refine gate_callee (f:=53) rfl ?_); refine goesL_ (some 9) rfl rfl Try.func53 (by kernel_rfl) rfl #[.agg #[.int .i64 a0_0,.slice A0_1 l0_1.length c0_1]] rfl (by (try simp only [List.map_toArray,List.map_cons,List.map_nil]); first | done | rfl | (simp only [List.length_drop,List.length_take]; rfl)) ?_; (with_reducible refine (spec_l1Ok.calls k a0_0 _ _ l0_1 true _ ?side1 ?side2 A4.out).mono ?_); (case side1 => repeat (first | exact (Kd.C_below p3.out HB.out) | (with_reducible refine Kd.C_alloc ?_ _) | (with_reducible refine Kd.C_drewN ?_ _) | (with_reducible refine Kd.C_drew ?_))); (case side2 => exact p4.out); rintro e w13 ⟨rfl,hb⟩; refine ⟨_,rfl,?_⟩; have n0_:=Z (blk_below (g:=p1) (o:=.cells #[.int .i64 a0_0,.slice A0_1 l0_1.length c0_1] 25 (0,0)) p0.out hb); have n1_:=Z (below_step HB.out hb); clear p0; clear HB; have p0:=n0_; have HB:=n1_; clear n0_ n1_; (try clear hb); (try clear hb2); (try clear hk); (try clear hi); have hcz14_0 : w13.cell? ⟨p1,0,none⟩ = some (.int .i64 a0_0):=(blk_cell p0.out 0).trans rfl; have hcz14_1 : w13.cell? ⟨p1,1,none⟩ = some (.slice A0_1 l0_1.length c0_1):=(blk_cell p0.out 1).trans rfl; have hfz14_0:=blk_frozen p0.out 0; have hfz14_1:=blk_frozen p0.out 1) | (go_at_call 54; (with_reducible refine (spec_l1In.calls a1 0 (wrap64 (a0_0 - 1)) true _ A6.out).mono ?_); rintro e w' ⟨rfl,⟨nd,rfl⟩⟩) | (go_at_call 54; (with_reducible refine (spec_l1In.calls a2 0 (wrap64 (a0_0 - 1)) true _ A8.out).mono ?_); rintro e w' ⟨rfl,⟨nd,rfl⟩⟩) | ((with_reducible refine gate_callee (f:=58) rfl ?_); refine goesL_ (some 30) rfl rfl Try.func58 (by kernel_rfl) rfl #[.agg #[.int .i64 a0_0,.slice A0_1 l0_1.length c0_1],.int .i64 a1,.int .i64 a2] rfl (by (try simp only [List.map_toArray,List.map_cons,List.map_nil]); first | done | rfl | (simp only [List.length_drop,List.length_take]; rfl)) ?_; (with_reducible refine (spec_l20Both.calls k a0_0 _ _ l0_1 a1 a2 t427 t428 _ ?side1 ?side2 A10.out).mono ?_); (case side1 => repeat (first | exact (Kd.C_below p3.out (by repeat (first | (with_reducible first | exact HB.out | apply below_alloc | apply pw_below_drewN | apply below_drew1 | refine below_set ?_ p2.out) | exact HB.out))) | (with_reducible refine Kd.C_alloc ?_ _) | (with_reducible refine Kd.C_drewN ?_ _) | (with_reducible refine Kd.C_drew ?_))); (case side2 => exact p4.out); rintro e w15 ⟨rfl,hb⟩; refine ⟨_,rfl,?_⟩; have n0_:=Z (blk_below (g:=p1) (o:=.cells #[.int .i64 a0_0,.slice A0_1 l0_1.length c0_1] 25 (0,0)) (by (with_reducible repeat (first | refine blk_drewN ?_ _ | refine blk_drew ?_ | refine blk_alloc ?_ _)); exact p0.out) hb); have n1_:=Z (below_step (by repeat (first | (with_reducible first | exact HB.out | apply below_alloc | apply pw_below_drewN | apply below_drew1 | refine below_set ?_ p2.out) | exact HB.out)) hb); clear p0; clear HB; have p0:=n0_; have HB:=n1_; clear n0_ n1_; (try clear hb); (try clear hb2); (try clear hk); (try clear hi)))
 go_ret2;exact ⟨by first | rfl | (simp [errW_none,errW_some] <;> rfl) | (simp [*,errW_none,errW_some] <;> rfl),by repeat (first | (with_reducible first | exact HB.out | apply below_alloc | apply pw_below_drewN | apply below_drew1 | refine below_set ?_ p2.out) | exact HB.out)⟩
def laws_toArc.f (a0_0 : Int) (a0_1 : Int) (a0_2 : Int) (a0_3 : Int) (a0_4 : Int) : Option (Int × Int × Int × Int × Int):=some (a0_0,a0_1,a0_2,a0_3,a0_4)
set_option maxHeartbeats 8000000 in
set_option maxRecDepth 100000 in
theorem laws_toArc.calls (a0_0 : Int) (a0_1 : Int) (a0_2 : Int) (a0_3 : Int) (a0_4 : Int) (r1 : Int) (r2 : Int) (r3 : Int) (r4 : Int) (r5 : Int) (w : World) (h : laws_toArc.f a0_0 a0_1 a0_2 a0_3 a0_4 = some (r1,r2,r3,r4,r5)) :
  Calls Try.prog 100 #[.agg #[.int .i64 a0_0,.int .i64 a0_1,.int .i64 a0_2,.int .i64 a0_3,.int .i64 a0_4]] w fun e w' => e = .returned (.agg #[.int .i64 r1,.int .i64 r2,.int .i64 r3,.int .i64 r4,.int .i64 r5]) ∧ Below w.heap.size w w':=by
 have hu112:=Try.underlying112;have hu34:=Try.underlying34;have HB:=Z (Below.refl w.heap.size w);have H : (some (a0_0,a0_1,a0_2,a0_3,a0_4)) = some (r1,r2,r3,r4,r5):=h;clear h;simp only [Option.some.injEq,Prod.mk.injEq] at H;obtain ⟨rfl,rfl,rfl,rfl,rfl⟩:=H
 go_enter Try.func100,Try.ntmps100
 go_wp2_with (first | ((with_reducible refine gate_dst (N:=1) rfl ?_); refine box_event ?hg (N:=1) ?hd (cs:=#[.int .i64 a0_0,.int .i64 a0_1,.int .i64 a0_2,.int .i64 a0_3,.int .i64 a0_4]) (t:=112) ?hr ?_; (case hd => rfl); (case hg => rfl); (case hr => first | (go_simp; done) | (go_simp; rfl)); intro p1 hg w2 hbox hb; have n0_:=Z (below_step HB.out hb); have n1_:=Z (hbox); have n2_:=Z ((by rw [hg]; exact (below_size HB.out) : w.heap.size ≤ p1)); have n3_:=Z ((by rw [hg]; exact (below_size HB.out) : w.heap.size ≤ p1)); clear HB; have HB:=n0_; have p0:=n1_; have GW429:=n2_; have GE429:=n3_; clear n0_ n1_ n2_ n3_; clear hb hbox hg) | ((with_reducible refine gate_dst (N:=2) rfl ?_); refine box_event ?hg (N:=2) ?hd (cs:=#[.int .i64 0,.int .i64 0,.int .i64 0,.int .i64 0,.int .i64 0]) (t:=34) ?hr ?_; (case hd => rfl); (case hg => rfl); (case hr => first | (go_simp; done) | (go_simp; rfl)); intro p4 hg w3 hbox hb; have n0_:=Z (blk_below (g:=p1) (o:=.cells #[.int .i64 a0_0,.int .i64 a0_1,.int .i64 a0_2,.int .i64 a0_3,.int .i64 a0_4] 112 (0,0)) p0.out hb); have n1_:=Z (below_step HB.out hb); have n2_:=Z (hbox); have n3_:=Z ((by rw [hg]; exact (below_size HB.out) : w.heap.size ≤ p4)); have n4_:=Z ((by rw [hg]; exact (below_size HB.out) : w.heap.size ≤ p4)); have n5_:=Z ((by rw [hg]; exact Nat.ne_of_lt (blk_lt (g:=p1) (o:=.cells #[.int .i64 a0_0,.int .i64 a0_1,.int .i64 a0_2,.int .i64 a0_3,.int .i64 a0_4] 112 (0,0)) p0.out) : p1 ≠ p4)); have n6_:=Z ((by rw [hg]; exact Nat.ne_of_gt (blk_lt (g:=p1) (o:=.cells #[.int .i64 a0_0,.int .i64 a0_1,.int .i64 a0_2,.int .i64 a0_3,.int .i64 a0_4] 112 (0,0)) p0.out) : p4 ≠ p1)); clear p0; clear HB; have p0:=n0_; have HB:=n1_; have p2:=n2_; have GW430:=n3_; have GE430:=n4_; have p7:=n5_; have p8:=n6_; clear n0_ n1_ n2_ n3_ n4_ n5_ n6_; clear hb hbox hg) | ((with_reducible refine gate_dst (N:=3) rfl ?_); refine box_event ?hg (N:=3) ?hd (cs:=#[.int .i64 0,.int .i64 0,.int .i64 0,.int .i64 0,.int .i64 0]) (t:=34) ?hr ?_; (case hd => rfl); (case hg => rfl); (case hr => first | (go_simp; done) | (go_simp; rfl)); intro p5 hg w4 hbox hb; have n0_:=Z (blk_below (g:=p1) (o:=.cells #[.int .i64 a0_0,.int .i64 a0_1,.int .i64 a0_2,.int .i64 a0_3,.int .i64 a0_4] 112 (0,0)) p0.out hb); have n1_:=Z (blk_below (g:=p4) (o:=.cells #[.int .i64 0,.int .i64 0,.int .i64 0,.int .i64 0,.int .i64 0] 34 (0,0)) p2.out hb); have n2_:=Z (below_step HB.out hb); have n3_:=Z (hbox); have n4_:=Z ((by rw [hg]; exact (below_size HB.out) : w.heap.size ≤ p5)); have n5_:=Z ((by rw [hg]; exact (below_size HB.out) : w.heap.size ≤ p5)); have n6_:=Z ((by rw [hg]; exact Nat.ne_of_lt (blk_lt (g:=p1) (o:=.cells #[.int .i64 a0_0,.int .i64 a0_1,.int .i64 a0_2,.int .i64 a0_3,.int .i64 a0_4] 112 (0,0)) p0.out) : p1 ≠ p5)); have n7_:=Z ((by rw [hg]; exact Nat.ne_of_gt (blk_lt (g:=p1) (o:=.cells #[.int .i64 a0_0,.int .i64 a0_1,.int .i64 a0_2,.int .i64 a0_3,.int .i64 a0_4] 112 (0,0)) p0.out) : p5 ≠ p1)); have n8_:=Z ((by rw [hg]; exact Nat.ne_of_lt (blk_lt (g:=p4) (o:=.cells #[.int .i64 0,.int .i64 0,.int .i64 0,.int .i64 0,.int .i64 0] 34 (0,0)) p2.out) : p4 ≠ p5)); have n9_:=Z ((by rw [hg]; exact Nat.ne_of_gt (blk_lt (g:=p4) (o:=.cells #[.int .i64 0,.int .i64 0,.int .i64 0,.int .i64 0,.int .i64 0] 34 (0,0)) p2.out) : p5 ≠ p4)); clear p0; clear p2; clear HB; have p0:=n0_; have p2:=n1_; have HB:=n2_; have p6:=n3_; have GW431:=n4_; have GE431:=n5_; have p9:=n6_; have q0:=n7_; have p3:=n8_; have q1:=n9_; clear n0_ n1_ n2_ n3_ n4_ n5_ n6_ n7_ n8_ n9_; clear hb hbox hg; have hnb5:=p7.out; have hnc5:=p8.out; have hnb6:=p9.out; have hnc6:=q0.out; have hcz7_0 : w4.cell? ⟨p1,0,none⟩ = some (.int .i64 a0_0):=(blk_cell p0.out 0).trans rfl; have hcz7_1 : w4.cell? ⟨p1,1,none⟩ = some (.int .i64 a0_1):=(blk_cell p0.out 1).trans rfl; have hcz7_2 : w4.cell? ⟨p1,2,none⟩ = some (.int .i64 a0_2):=(blk_cell p0.out 2).trans rfl; have hcz7_3 : w4.cell? ⟨p1,3,none⟩ = some (.int .i64 a0_3):=(blk_cell p0.out 3).trans rfl; have hcz7_4 : w4.cell? ⟨p1,4,none⟩ = some (.int .i64 a0_4):=(blk_cell p0.out 4).trans rfl; have hfz7_0:=blk_frozen p0.out 0; have hfz7_1:=blk_frozen p0.out 1; have hfz7_2:=blk_frozen p0.out 2; have hfz7_3:=blk_frozen p0.out 3; have hfz7_4:=blk_frozen p0.out 4; have hnb8:=q1.out; have hnc8:=p3.out; have hcz9_0 : w4.cell? ⟨p5,0,none⟩ = some (.int .i64 0):=(blk_cell p6.out 0).trans rfl; have hcz9_1 : w4.cell? ⟨p5,1,none⟩ = some (.int .i64 0):=(blk_cell p6.out 1).trans rfl; have hcz9_2 : w4.cell? ⟨p5,2,none⟩ = some (.int .i64 0):=(blk_cell p6.out 2).trans rfl; have hcz9_3 : w4.cell? ⟨p5,3,none⟩ = some (.int .i64 0):=(blk_cell p6.out 3).trans rfl; have hcz9_4 : w4.cell? ⟨p5,4,none⟩ = some (.int .i64 0):=(blk_cell p6.out 4).trans rfl; have hfz9_0:=blk_frozen p6.out 0; have hfz9_1:=blk_frozen p6.out 1; have hfz9_2:=blk_frozen p6.out 2; have hfz9_3:=blk_frozen p6.out 3; have hfz9_4:=blk_frozen p6.out 4; have hcz10_0 : w4.cell? ⟨p4,0,none⟩ = some (.int .i64 0):=(blk_cell p2.out 0).trans rfl; have hcz10_1 : w4.cell? ⟨p4,1,none⟩ = some (.int .i64 0):=(blk_cell p2.out 1).trans rfl; have hcz10_2 : w4.cell? ⟨p4,2,none⟩ = some (.int .i64 0):=(blk_cell p2.out 2).trans rfl; have hcz10_3 : w4.cell? ⟨p4,3,none⟩ = some (.int .i64 0):=(blk_cell p2.out 3).trans rfl; have hcz10_4 : w4.cell? ⟨p4,4,none⟩ = some (.int .i64 0):=(blk_cell p2.out 4).trans rfl; have hfz10_0:=blk_frozen p2.out 0; have hfz10_1:=blk_frozen p2.out 1; have hfz10_2:=blk_frozen p2.out 2; have hfz10_3:=blk_frozen p2.out 3; have hfz10_4:=blk_frozen p2.out 4))
 refine bodyPost_ret (results_cell_row rfl _ _ p4 34 #[.int .i64 a0_0,.int .i64 a0_1,.int .i64 a0_2,.int .i64 a0_3,.int .i64 a0_4] (0,0) _ rfl (by refine blk_put (cs:=#[.int .i64 a0_0,.int .i64 a0_1,.int .i64 a0_2,.int .i64 a0_3,.int .i64 0]) ?_ 4 _ rfl; refine blk_put (cs:=#[.int .i64 a0_0,.int .i64 a0_1,.int .i64 a0_2,.int .i64 0,.int .i64 0]) ?_ 3 _ rfl; refine blk_put (cs:=#[.int .i64 a0_0,.int .i64 a0_1,.int .i64 0,.int .i64 0,.int .i64 0]) ?_ 2 _ rfl; refine blk_put (cs:=#[.int .i64 a0_0,.int .i64 0,.int .i64 0,.int .i64 0,.int .i64 0]) ?_ 1 _ rfl; refine blk_put (cs:=#[.int .i64 0,.int .i64 0,.int .i64 0,.int .i64 0,.int .i64 0]) ?_ 0 _ rfl; refine blk_far ?_ p3.out _; refine blk_far ?_ p3.out _; refine blk_far ?_ p3.out _; refine blk_far ?_ p3.out _; refine blk_far ?_ p3.out _; exact p2.out) Try.underlying34 rfl (by kernel_rfl)) rfl ?_;exact ⟨by first | rfl | (simp [errW_none,errW_some] <;> rfl) | (simp [*,errW_none,errW_some] <;> rfl),by repeat (first | (with_reducible first | exact HB.out | apply below_alloc | apply pw_below_drewN | apply below_drew1 | refine below_set ?_ GE429.out | refine below_set ?_ GE430.out | refine below_set ?_ GE431.out) | exact HB.out)⟩
def laws_toArcS.l0 : Nat → List (S112) → List (S34) → Int → Option ((List (S34)))
 | 0,_,_,_ => none
 | k + 1,x0,x3,x4 => if x4 < (x0.length : Int) then (if 0 ≤ x4 then ((laws_toArc.f ((rd_T112 x0 x4).f0) ((rd_T112 x0 x4).f1) ((rd_T112 x0 x4).f2) ((rd_T112 x0 x4).f3) ((rd_T112 x0 x4).f4)).bind fun bt436 => (if x4 < (x3.length : Int) then (laws_toArcS.l0 k x0 (x3.set (x4 : Int).toNat (⟨bt436.1,bt436.2.1,bt436.2.2.1,bt436.2.2.2.1,bt436.2.2.2.2⟩ : S34)) (wrap64 (x4 + 1))) else (none))) else (none)) else (some x3)
def laws_toArcS.f (k : Nat) (l0 : List (S112)) : Option ((List (S34))):=if 0 ≤ (l0.length : Int) then (if ((l0.length : Int) : Int).toNat ≤ 7036874417766 then (laws_toArcS.l0 k l0 (List.replicate ((l0.length : Int) : Int).toNat z34) 0) else (none)) else (none)
set_option maxHeartbeats 8000000 in
set_option maxRecDepth 100000 in
theorem laws_toArcS.calls (k : Nat) (A0 : Option Addr) (c0 : Nat) (l0 : List (S112)) (r : List (S34)) (w : World) (hr0 : Kd.C k112 w A0 l0.length l0) (hc0 : l0.length ≤ c0) (h : laws_toArcS.f k l0 = some r) :
  Calls Try.prog 59 #[.slice A0 l0.length c0] w fun e w' => ∃ v0_ : Value,e = .returned (v0_) ∧ Kd.R k34 34 w' w.heap.size (fun _ => True) v0_ r ∧ Below w.heap.size w w':=by
 have hu112:=Try.underlying112;have hu34:=Try.underlying34;have HR0:=Z hr0;have HC0:=Z hc0;clear hr0 hc0;have HB:=Z (Below.refl w.heap.size w);have H : (if 0 ≤ (l0.length : Int) then (if ((l0.length : Int) : Int).toNat ≤ 7036874417766 then (laws_toArcS.l0 k l0 (List.replicate ((l0.length : Int) : Int).toNat z34) 0) else (none)) else (none)) = some r:=h;clear h
 by_cases c2 : 0 ≤ (l0.length : Int)
 case neg =>
  rw [if_neg c2] at H;exact absurd H (by simp)
 rw [if_pos c2] at H;have c2b0:=eq_true c2;have c2b1 : decide (0 ≤ (l0.length : Int)) = true:=decide_eq_true c2;clear c2
 by_cases c3 : ((l0.length : Int) : Int).toNat ≤ 7036874417766
 case neg =>
  rw [if_neg c3] at H;exact absurd H (by simp)
 rw [if_pos c3] at H;have c3b0:=eq_true c3;have c3b1 : decide (((l0.length : Int) : Int).toNat ≤ 7036874417766) = true:=decide_eq_true c3;clear c3;obtain ⟨y432,hy432⟩ : ∃ y_ : List (S34),y_ = (List.replicate ((l0.length : Int) : Int).toNat z34):=⟨_,rfl⟩
 replace H : (laws_toArcS.l0 k l0 y432 0) = some r:=by first | (rw [hy432]; with_reducible exact H) | (have H2_:=(Option.bind_some _ _).symm.trans H; rw [hy432]; with_reducible exact H2_) | (have H2_:=(Option.bind_some _ _).symm.trans H; with_reducible exact H2_) | with_reducible exact H | (rw [hy432]; exact H) | exact H
 have Ny432:=Z hy432;clear hy432;have H':=Z H;clear H
 go_enter Try.func59,Try.ntmps59
 go_wp2_with (first | ((with_reducible refine gate_dst (N:=7) rfl ?_); refine Kd.R_make k34 _ 34 rfl (N:=7) rfl 23 _ _ rfl (l0.length : Int) (by first | rfl | (go_simp; done) | (go_simp; rfl)) (by first | rfl | (go_simp; done) | (go_simp; rfl)) Try.underlying23 (.agg #[(.int .i64 0),(.int .i64 0),(.int .i64 0),(.int .i64 0),(.int .i64 0)]) 40 info34 rfl (by decide) (by omega) z34 (ok:=fun _ => True) (okp:=fun _ => True) (k34_mkM _ _ _ z34 ) (fun _ hk => hk) trivial (of_decide_eq_true (by first | (with_reducible assumption) | assumption)) (Nat.le_trans (Nat.mul_le_mul_right _ (of_decide_eq_true (by first | (with_reducible assumption) | assumption) : (l0.length : Int).toNat ≤ 7036874417766)) (by omega)) (Below.refl _ _) (Nat.le_refl _) ?_; intro v433 w4 ho5 hb hg_ hnew_; clear hg_ hnew_; (first | rw [← Ny432.out] at ho5 | (simp only [Int.reduceToNat] at ho5; rw [← Ny432.out] at ho5)); have n0_:=Z (Kd.R_lower ho5 (below_size HB.out)); have n1_:=Z (below_step HB.out hb); clear HB; have HO434:=n0_; have HB:=n1_; clear n0_ n1_; clear hb ho5))
 go_loopg [4] k (fun kq v4 w' => ∃ (x3_1 : List (S34)) (x4_1 : Int),v4 = .int .i64 x4_1 ∧ Aside0 (laws_toArcS.l0 kq l0 x3_1 x4_1 = some r) ∧ Aside0 (kq ≤ k) ∧ Aside0 (Kd.R k34 34 w' w.heap.size (fun _ => True) v433 x3_1) ∧ Aside0 (Below w.heap.size w w'))
 case atStart => exact ⟨(y432),(0),(by first | rfl | (simp; done) | (simp [*]; done)),H',⟨Nat.le_refl _⟩,⟨by (with_reducible repeat (first | apply Kd.R_alloc | apply Kd.R_drewN | apply Kd.R_drew)); exact HO434.out⟩,⟨by repeat (first | (with_reducible first | exact HB.out | apply below_alloc | apply pw_below_drewN | apply below_drew1) | exact HB.out)⟩⟩
 case round =>
  clear H'
  try clear c2
  try clear c2b0
  try clear c2b1
  try clear p2
  try clear c3
  try clear c3b0
  try clear c3b1
  try clear c5
  obtain ⟨x3_1,x4_1,rfl,HA,HK1,HO_3,HB⟩:=hrel;cases gk with
  | zero => exact absurd HA.out (by simp [laws_toArcS.l0])
  | succ k1 =>
   have H:=HA.out;clear HA;simp only [laws_toArcS.l0] at H
   by_cases c6 : x4_1 < (l0.length : Int)
   case neg =>
    rw [if_neg c6] at H;have c6b0 : decide (x4_1 < (l0.length : Int)) = false:=decide_eq_false c6;clear c6;obtain rfl:=Option.some.inj H
    go_wp2
    go_ret;exact ⟨_,by first | rfl | (simp [errW_none,errW_some] <;> rfl) | (simp [*,errW_none,errW_some] <;> rfl),by (with_reducible repeat (first | apply Kd.R_alloc | apply Kd.R_drewN | apply Kd.R_drew)); exact HO_3.out,by repeat (first | (with_reducible first | exact HB.out | apply below_alloc | apply pw_below_drewN | apply below_drew1) | exact HB.out)⟩
   rw [if_pos c6] at H;have c6b0 : decide (x4_1 < (l0.length : Int)) = true:=decide_eq_true c6;clear c6
   by_cases c7 : 0 ≤ x4_1
   case neg =>
    rw [if_neg c7] at H;exact absurd H (by simp)
   rw [if_pos c7] at H;have c7b0 : decide (0 ≤ x4_1) = true:=decide_eq_true c7;clear c7;replace H:=Option.bind_eq_some_iff.mp H;obtain ⟨⟨t436,t437,t438,t439,t440⟩,A80,H⟩:=H;replace H : (if x4_1 < (x3_1.length : Int) then (laws_toArcS.l0 k1 l0 (x3_1.set (x4_1 : Int).toNat (⟨t436,t437,t438,t439,t440⟩ : S34)) (wrap64 (x4_1 + 1))) else (none)) = some r:=H;have A8:=Z A80;clear A80
   by_cases c9 : x4_1 < (x3_1.length : Int)
   case neg =>
    rw [if_neg c9] at H;exact absurd H (by simp)
   rw [if_pos c9] at H;have c9b0 : decide (x4_1 < (x3_1.length : Int)) = true:=decide_eq_true c9;clear c9;obtain ⟨y441,hy441⟩ : ∃ y_ : List (S34),y_ = (x3_1.set (x4_1 : Int).toNat (⟨t436,t437,t438,t439,t440⟩ : S34)):=⟨_,rfl⟩
   replace H : (laws_toArcS.l0 k1 l0 y441 (wrap64 (x4_1 + 1))) = some r:=by first | (rw [hy441]; with_reducible exact H) | (have H2_:=(Option.bind_some _ _).symm.trans H; rw [hy441]; with_reducible exact H2_) | (have H2_:=(Option.bind_some _ _).symm.trans H; with_reducible exact H2_) | with_reducible exact H | (rw [hy441]; exact H) | exact H
   have Ny441:=Z hy441;clear hy441;have H':=Z H;clear H;have p435 : 0 ≤ (x4_1 : Int):=of_decide_eq_true (by first | (with_reducible assumption) | assumption);have q435 : x4_1 < (l0.length : Int):=of_decide_eq_true (by first | (with_reducible assumption) | assumption);obtain ⟨ad435,e435,p3,p4,p5,p6,p7⟩:=at_T112 HR0.out x4_1 p435 q435;cases e435;replace p3:=(HB.out.cell (World.block_lt_of_cell? w _ p3)).trans p3;replace p4:=(HB.out.cell (World.block_lt_of_cell? w _ p4)).trans p4;replace p5:=(HB.out.cell (World.block_lt_of_cell? w _ p5)).trans p5;replace p6:=(HB.out.cell (World.block_lt_of_cell? w _ p6)).trans p6;replace p7:=(HB.out.cell (World.block_lt_of_cell? w _ p7)).trans p7;replace p435:=eq_true p435;replace q435:=eq_true q435
   go_wp2_with (first | ((with_reducible refine gate_callee (f:=100) rfl ?_); refine goesL_ (some 20) rfl rfl Try.func100 (by kernel_rfl) rfl #[.agg #[.int .i64 ((rd_T112 l0 x4_1).f0),.int .i64 ((rd_T112 l0 x4_1).f1),.int .i64 ((rd_T112 l0 x4_1).f2),.int .i64 ((rd_T112 l0 x4_1).f3),.int .i64 ((rd_T112 l0 x4_1).f4)]] rfl (by (try simp only [List.map_toArray,List.map_cons,List.map_nil]); first | done | rfl | (simp only [List.length_drop,List.length_take]; rfl)) ?_; (with_reducible refine (laws_toArc.calls ((rd_T112 l0 x4_1).f0) ((rd_T112 l0 x4_1).f1) ((rd_T112 l0 x4_1).f2) ((rd_T112 l0 x4_1).f3) ((rd_T112 l0 x4_1).f4) t436 t437 t438 t439 t440 _ A8.out).mono ?_); rintro e w11 ⟨rfl,hb⟩; refine ⟨_,rfl,?_⟩; have n0_:=Z (Kd.R_below HO_3.out hb); have n1_:=Z (below_step HB.out hb); clear HO_3; clear HB; have HO_3:=n0_; have HB:=n1_; clear n0_ n1_; (try clear hb); (try clear hb2); (try clear hk); (try clear hi); have p10 : 0 ≤ (x4_1 : Int):=of_decide_eq_true (by first | (with_reducible assumption) | assumption); have q10 : (x4_1 : Int) < ((x3_1.length : Int) : Int):=of_decide_eq_true (by first | (with_reducible assumption) | assumption); obtain ⟨go10,co10,eo10,gb10,gl10,cl10,HG10⟩:=Kd.R_form HO_3.out (by omega); (first | cases eo10 | (injection eo10 with ea_ en_ ec_; (first | subst ea_ | (injection ea_ with ea_; subst ea_)); subst ec_; clear en_)); have GB10:=Z gb10; have GG10:=Z HG10; clear gb10 gl10 HG10; obtain ⟨ce10,hcl10,hM10,p1,hfr10⟩:=Kd.R_elem HO_3.out z34 (x4_1 : Int) p10 q10; obtain rfl:=k34_openM hM10; have hx10_0 : w11.cell? ⟨go10,(x4_1 : Int).toNat * 5,none⟩ = some (.int .i64 ((rd_T34 x3_1 x4_1).f0)):=p1 0 _ rfl; have hx10_1 : w11.cell? ⟨go10,(x4_1 : Int).toNat * 5 + 1,none⟩ = some (.int .i64 ((rd_T34 x3_1 x4_1).f1)):=p1 1 _ rfl; have hx10_2 : w11.cell? ⟨go10,(x4_1 : Int).toNat * 5 + 2,none⟩ = some (.int .i64 ((rd_T34 x3_1 x4_1).f2)):=p1 2 _ rfl; have hx10_3 : w11.cell? ⟨go10,(x4_1 : Int).toNat * 5 + 3,none⟩ = some (.int .i64 ((rd_T34 x3_1 x4_1).f3)):=p1 3 _ rfl; have hx10_4 : w11.cell? ⟨go10,(x4_1 : Int).toNat * 5 + 4,none⟩ = some (.int .i64 ((rd_T34 x3_1 x4_1).f4)):=p1 4 _ rfl; have hf10_0 : w11.frozen? ⟨go10,(x4_1 : Int).toNat * 5,none⟩ = false:=hfr10 0; have hf10_1 : w11.frozen? ⟨go10,(x4_1 : Int).toNat * 5 + 1,none⟩ = false:=hfr10 1; have hf10_2 : w11.frozen? ⟨go10,(x4_1 : Int).toNat * 5 + 2,none⟩ = false:=hfr10 2; have hf10_3 : w11.frozen? ⟨go10,(x4_1 : Int).toNat * 5 + 3,none⟩ = false:=hfr10 3; have hf10_4 : w11.frozen? ⟨go10,(x4_1 : Int).toNat * 5 + 4,none⟩ = false:=hfr10 4; clear hcl10 p1 hfr10; (try clear hM10); replace p10:=eq_true p10; replace q10:=eq_true q10; have HX12:=Z (show Kd.R k34 34 w11 w.heap.size (fun _ => True) (.slice (some ⟨go10,0,none⟩) x3_1.length co10) x3_1 from HO_3.out); obtain ⟨ce12,hcl12,hM12,p0,hfr12⟩:=Kd.R_elem HX12.out z34 (x4_1 : Int) (of_decide_eq_true (by first | (with_reducible assumption) | assumption)) (by have h_ : (x4_1 : Int) < ((x3_1.length : Int) : Int):=of_decide_eq_true (by first | (with_reducible assumption) | assumption); first | exact h_ | (have e_:=(Kd.R_reads' HO_3.out).1; omega) | simpa using h_); obtain rfl:=k34_openM hM12; have HP12:=Kd.R_seg HX12.out (x4_1 : Int) (of_decide_eq_true (by first | (with_reducible assumption) | assumption)) (by have h_ : (x4_1 : Int) < ((x3_1.length : Int) : Int):=of_decide_eq_true (by first | (with_reducible assumption) | assumption); first | exact h_ | (have e_:=(Kd.R_reads' HO_3.out).1; omega) | simpa using h_) (seg:=[.int .i64 t436,.int .i64 t437,.int .i64 t438,.int .i64 t439,.int .i64 t440]) (j:=0) hcl12 p0 (show 5 ≤ 5 from by decide) (x':=(⟨t436,t437,t438,t439,t440⟩ : S34)) (k34_mkM _ _ _ (⟨t436,t437,t438,t439,t440⟩ : S34) ) (fun _ hk => hk); have hx12_0:=p0 0 _ rfl; (try simp only [show (k34).sz = 5 from rfl,Nat.mul_one,Nat.add_zero] at hx12_0); have hf12_0:=hfr12 0; (try simp only [show (k34).sz = 5 from rfl,Nat.mul_one,Nat.add_zero] at hf12_0); have hx12_1:=p0 1 _ rfl; (try simp only [show (k34).sz = 5 from rfl,Nat.mul_one,Nat.add_zero] at hx12_1); have hf12_1:=hfr12 1; (try simp only [show (k34).sz = 5 from rfl,Nat.mul_one,Nat.add_zero] at hf12_1); have hx12_2:=p0 2 _ rfl; (try simp only [show (k34).sz = 5 from rfl,Nat.mul_one,Nat.add_zero] at hx12_2); have hf12_2:=hfr12 2; (try simp only [show (k34).sz = 5 from rfl,Nat.mul_one,Nat.add_zero] at hf12_2); have hx12_3:=p0 3 _ rfl; (try simp only [show (k34).sz = 5 from rfl,Nat.mul_one,Nat.add_zero] at hx12_3); have hf12_3:=hfr12 3; (try simp only [show (k34).sz = 5 from rfl,Nat.mul_one,Nat.add_zero] at hf12_3); have hx12_4:=p0 4 _ rfl; (try simp only [show (k34).sz = 5 from rfl,Nat.mul_one,Nat.add_zero] at hx12_4); have hf12_4:=hfr12 4; (try simp only [show (k34).sz = 5 from rfl,Nat.mul_one,Nat.add_zero] at hf12_4); clear hcl12 p0 hfr12; (try clear hM12)) | ((with_reducible refine gate_store (t:=34) (p:=21) rfl ?_); refine store_event (t:=34) (p:=21) (v:=?vo_w13) (w1:=(((((w11.setCell ⟨go10,(x4_1 : Int).toNat * 5,none⟩ (.int .i64 t436)).setCell ⟨go10,(x4_1 : Int).toNat * 5 + 1,none⟩ (.int .i64 t437)).setCell ⟨go10,(x4_1 : Int).toNat * 5 + 2,none⟩ (.int .i64 t438)).setCell ⟨go10,(x4_1 : Int).toNat * 5 + 3,none⟩ (.int .i64 t439)).setCell ⟨go10,(x4_1 : Int).toNat * 5 + 4,none⟩ (.int .i64 t440))) ?hg ?ho ?hn ?hr ?_; (case ho => rfl); (case hg => rfl); (case hn => rfl); (case hr => first | (go_simp; done) | (go_simp; rfl)); intro w13 hw; have hg : w11.grownBy w13 (some go10):=(by rw [hw]; exact HP12.2); have hp_ : Kd.R k34 34 w13 w.heap.size (fun _ => True) (.slice (some ⟨go10,0,none⟩) x3_1.length co10) y441:=(by rw [hw,Ny441.out]; exact HP12.1); clear HP12; have n0_:=Z (hp_); have n1_:=Z ((by rw [hw]; exact below_set (below_set (below_set (below_set (below_set (HB.out) GB10.out) GB10.out) GB10.out) GB10.out) GB10.out : Below w.heap.size w w13)); clear HO_3; clear HB; have HO_3:=n0_; have HB:=n1_; clear n0_ n1_; clear hg hw hp_))
   go_roundg k1
   case measure => have:=HK1.out; omega
   case rel => exact ⟨(y441),(wrap64 (x4_1 + 1)),(by first | rfl | (simp; done) | (simp [*]; done)),H',⟨by have:=HK1.out; omega⟩,⟨by (with_reducible repeat (first | apply Kd.R_alloc | apply Kd.R_drewN | apply Kd.R_drew)); exact HO_3.out⟩,⟨by repeat (first | (with_reducible first | exact HB.out | apply below_alloc | apply pw_below_drewN | apply below_drew1) | exact HB.out)⟩⟩
def laws_toNet.f (k : Nat) (a0_0 : Int) (l0_1 : List (S112)) : Option (Int × (List (S34))):=(laws_toArcS.f k l0_1).bind fun t445 => (some (a0_0,t445))
set_option maxHeartbeats 8000000 in
set_option maxRecDepth 100000 in
theorem laws_toNet.calls (k : Nat) (a0_0 : Int) (A0_1 : Option Addr) (c0_1 : Nat) (l0_1 : List (S112)) (r1 : Int) (r2 : List (S34)) (w : World) (hr0_1 : Kd.C k112 w A0_1 l0_1.length l0_1) (hc0_1 : l0_1.length ≤ c0_1) (h : laws_toNet.f k a0_0 l0_1 = some (r1,r2)) :
  Calls Try.prog 21 #[.agg #[.int .i64 a0_0,.slice A0_1 l0_1.length c0_1]] w fun e w' => ∃ v1_ : Value,e = .returned (.agg #[.int .i64 r1,v1_]) ∧ Kd.R k34 34 w' w.heap.size (fun _ => True) v1_ r2 ∧ Below w.heap.size w w':=by
 have hu38:=Try.underlying38;have hu25:=Try.underlying25;have HR0_1:=Z hr0_1;have HC0_1:=Z hc0_1;clear hr0_1 hc0_1;have HB:=Z (Below.refl w.heap.size w);have H : ((laws_toArcS.f k l0_1).bind fun t445 => (some (a0_0,t445))) = some (r1,r2):=h;clear h;replace H:=Option.bind_eq_some_iff.mp H;obtain ⟨t445,A20,H⟩:=H;replace H : (some (a0_0,t445)) = some (r1,r2):=H;have A2:=Z A20;clear A20;simp only [Option.some.injEq,Prod.mk.injEq] at H;obtain ⟨rfl,rfl⟩:=H
 go_enter Try.func21,Try.ntmps21
 go_wp2_with (first | ((with_reducible refine gate_dst (N:=1) rfl ?_); refine box_event ?hg (N:=1) ?hd (cs:=#[.int .i64 a0_0,.slice A0_1 l0_1.length c0_1]) (t:=38) ?hr ?_; (case hd => rfl); (case hg => rfl); (case hr => first | (go_simp; done) | (go_simp; rfl)); intro p1 hg w3 hbox hb; have n0_:=Z (below_step HB.out hb); have n1_:=Z (hbox); have n2_:=Z ((by rw [hg]; exact (below_size HB.out) : w.heap.size ≤ p1)); have n3_:=Z ((by rw [hg]; exact (below_size HB.out) : w.heap.size ≤ p1)); clear HB; have HB:=n0_; have p0:=n1_; have GW442:=n2_; have p8:=n3_; clear n0_ n1_ n2_ n3_; clear hb hbox hg) | ((with_reducible refine gate_dst (N:=2) rfl ?_); refine box_event ?hg (N:=2) ?hd (cs:=#[.int .i64 0,.slice none 0 0]) (t:=25) ?hr ?_; (case hd => rfl); (case hg => rfl); (case hr => first | (go_simp; done) | (go_simp; rfl)); intro p2 hg w4 hbox hb; have n0_:=Z (blk_below (g:=p1) (o:=.cells #[.int .i64 a0_0,.slice A0_1 l0_1.length c0_1] 38 (0,0)) p0.out hb); have n1_:=Z (below_step HB.out hb); have n2_:=Z (hbox); have n3_:=Z ((by rw [hg]; exact (below_size HB.out) : w.heap.size ≤ p2)); have n4_:=Z ((by rw [hg]; exact (below_size HB.out) : w.heap.size ≤ p2)); have n5_:=Z ((by rw [hg]; exact Nat.ne_of_lt (blk_lt (g:=p1) (o:=.cells #[.int .i64 a0_0,.slice A0_1 l0_1.length c0_1] 38 (0,0)) p0.out) : p1 ≠ p2)); have n6_:=Z ((by rw [hg]; exact Nat.ne_of_gt (blk_lt (g:=p1) (o:=.cells #[.int .i64 a0_0,.slice A0_1 l0_1.length c0_1] 38 (0,0)) p0.out) : p2 ≠ p1)); clear p0; clear HB; have p0:=n0_; have HB:=n1_; have p3:=n2_; have GW443:=n3_; have p9:=n4_; have q1:=n5_; have q2:=n6_; clear n0_ n1_ n2_ n3_ n4_ n5_ n6_; clear hb hbox hg) | ((with_reducible refine gate_dst (N:=3) rfl ?_); refine box_event ?hg (N:=3) ?hd (cs:=#[.int .i64 0,.slice none 0 0]) (t:=25) ?hr ?_; (case hd => rfl); (case hg => rfl); (case hr => first | (go_simp; done) | (go_simp; rfl)); intro p4 hg w5 hbox hb; have n0_:=Z (blk_below (g:=p1) (o:=.cells #[.int .i64 a0_0,.slice A0_1 l0_1.length c0_1] 38 (0,0)) p0.out hb); have n1_:=Z (blk_below (g:=p2) (o:=.cells #[.int .i64 0,.slice none 0 0] 25 (0,0)) p3.out hb); have n2_:=Z (below_step HB.out hb); have n3_:=Z (hbox); have n4_:=Z ((by rw [hg]; exact (below_size HB.out) : w.heap.size ≤ p4)); have n5_:=Z ((by rw [hg]; exact (below_size HB.out) : w.heap.size ≤ p4)); have n6_:=Z ((by rw [hg]; exact Nat.ne_of_lt (blk_lt (g:=p1) (o:=.cells #[.int .i64 a0_0,.slice A0_1 l0_1.length c0_1] 38 (0,0)) p0.out) : p1 ≠ p4)); have n7_:=Z ((by rw [hg]; exact Nat.ne_of_gt (blk_lt (g:=p1) (o:=.cells #[.int .i64 a0_0,.slice A0_1 l0_1.length c0_1] 38 (0,0)) p0.out) : p4 ≠ p1)); have n8_:=Z ((by rw [hg]; exact Nat.ne_of_lt (blk_lt (g:=p2) (o:=.cells #[.int .i64 0,.slice none 0 0] 25 (0,0)) p3.out) : p2 ≠ p4)); have n9_:=Z ((by rw [hg]; exact Nat.ne_of_gt (blk_lt (g:=p2) (o:=.cells #[.int .i64 0,.slice none 0 0] 25 (0,0)) p3.out) : p4 ≠ p2)); clear p0; clear p3; clear HB; have p0:=n0_; have p3:=n1_; have HB:=n2_; have p5:=n3_; have GW444:=n4_; have q0:=n5_; have p7:=n6_; have q3:=n7_; have p6:=n8_; have q4:=n9_; clear n0_ n1_ n2_ n3_ n4_ n5_ n6_ n7_ n8_ n9_; clear hb hbox hg; have hnb6:=q1.out; have hnc6:=q2.out; have hnb7:=p7.out; have hnc7:=q3.out; have hcz8_0 : w5.cell? ⟨p1,0,none⟩ = some (.int .i64 a0_0):=(blk_cell p0.out 0).trans rfl; have hcz8_1 : w5.cell? ⟨p1,1,none⟩ = some (.slice A0_1 l0_1.length c0_1):=(blk_cell p0.out 1).trans rfl; have hfz8_0:=blk_frozen p0.out 0; have hfz8_1:=blk_frozen p0.out 1; have hnb9:=q4.out; have hnc9:=p6.out; have hcz10_0 : w5.cell? ⟨p4,0,none⟩ = some (.int .i64 0):=(blk_cell p5.out 0).trans rfl; have hcz10_1 : w5.cell? ⟨p4,1,none⟩ = some (.slice none 0 0):=(blk_cell p5.out 1).trans rfl; have hfz10_0:=blk_frozen p5.out 0; have hfz10_1:=blk_frozen p5.out 1) | ((with_reducible refine gate_callee (f:=59) rfl ?_); refine goesL_ (some 9) rfl rfl Try.func59 (by kernel_rfl) rfl #[.slice A0_1 l0_1.length c0_1] rfl (by (try simp only [List.map_toArray,List.map_cons,List.map_nil]); first | done | rfl | (simp only [List.length_drop,List.length_take]; rfl)) ?_; (with_reducible refine (laws_toArcS.calls k _ _ l0_1 t445 _ ?side1 ?side2 A2.out).mono ?_); (case side1 => exact Kd.C_below HR0_1.out (by repeat (first | (with_reducible first | exact HB.out | apply below_alloc | apply pw_below_drewN | apply below_drew1 | refine below_set ?_ p8.out | refine below_set ?_ p9.out | refine below_set ?_ q0.out) | exact HB.out))); (case side2 => exact HC0_1.out); rintro e w11 ⟨v446,rfl,ho0,hb⟩; refine ⟨_,rfl,?_⟩; have n0_:=Z (Kd.R_lower ho0 (below_size (by repeat (first | (with_reducible first | exact HB.out | apply below_alloc | apply pw_below_drewN | apply below_drew1 | refine below_set ?_ p8.out | refine below_set ?_ p9.out | refine below_set ?_ q0.out) | exact HB.out)))); have n1_:=Z (blk_below (g:=p1) (o:=.cells #[.int .i64 a0_0,.slice A0_1 l0_1.length c0_1] 38 (0,0)) (by refine blk_far ?_ p7.out _; exact p0.out) hb); have n2_:=Z (blk_below (g:=p2) (o:=.cells #[.int .i64 0,.slice none 0 0] 25 (0,0)) (by refine blk_far ?_ p6.out _; exact p3.out) hb); have n3_:=Z (blk_below (g:=p4) (o:=.cells #[.int .i64 a0_0,.slice none 0 0] 25 (0,0)) (by refine blk_put (cs:=#[.int .i64 0,.slice none 0 0]) ?_ 0 _ rfl; exact p5.out) hb); have n4_:=Z (below_step (by repeat (first | (with_reducible first | exact HB.out | apply below_alloc | apply pw_below_drewN | apply below_drew1 | refine below_set ?_ p8.out | refine below_set ?_ p9.out | refine below_set ?_ q0.out) | exact HB.out)) hb); clear p0; clear p3; clear p5; clear HB; have HO447:=n0_; have p0:=n1_; have p3:=n2_; have p5:=n3_; have HB:=n4_; clear n0_ n1_ n2_ n3_ n4_; (try clear hb); (try clear hb2); (try clear hk); (try clear hi); (try clear ho0); obtain ⟨Ao12,co12,eo12⟩:=Kd.R_slice HO447.out; subst eo12; have hcz13_0 : w11.cell? ⟨p4,0,none⟩ = some (.int .i64 a0_0):=(blk_cell p5.out 0).trans rfl; have hcz13_1 : w11.cell? ⟨p4,1,none⟩ = some (.slice none 0 0):=(blk_cell p5.out 1).trans rfl; have hfz13_0:=blk_frozen p5.out 0; have hfz13_1:=blk_frozen p5.out 1; have hcz14_0 : w11.cell? ⟨p2,0,none⟩ = some (.int .i64 0):=(blk_cell p3.out 0).trans rfl; have hcz14_1 : w11.cell? ⟨p2,1,none⟩ = some (.slice none 0 0):=(blk_cell p3.out 1).trans rfl; have hfz14_0:=blk_frozen p3.out 0; have hfz14_1:=blk_frozen p3.out 1))
 refine bodyPost_ret (results_cell_row rfl _ _ p2 25 #[.int .i64 a0_0,.slice Ao12 t445.length co12] (0,0) _ rfl (by refine blk_put (cs:=#[.int .i64 a0_0,.slice none 0 0]) ?_ 1 _ rfl; refine blk_put (cs:=#[.int .i64 0,.slice none 0 0]) ?_ 0 _ rfl; refine blk_far ?_ p6.out _; exact p3.out) Try.underlying25 rfl (by kernel_rfl)) rfl ?_;exact ⟨_,by first | rfl | (simp [errW_none,errW_some] <;> rfl) | (simp [*,errW_none,errW_some] <;> rfl),by exact Kd.R_mono (Kd.R_far (p:=⟨p2,1,none⟩) (Kd.R_far (p:=⟨p2,0,none⟩) (Kd.R_far (p:=⟨p4,1,none⟩) (Kd.R_types (Kd.R_types HO447.out p5.out (by decide)) p3.out (by decide)) (fun _ hk => hk.1.2) (.slice Ao12 t445.length co12)) (fun _ hk => hk.2) (.int .i64 a0_0)) (fun _ hk => hk.2) (.slice Ao12 t445.length co12)) (fun _ hk => trivial),by repeat (first | (with_reducible first | exact HB.out | apply below_alloc | apply pw_below_drewN | apply below_drew1 | refine below_set ?_ p8.out | refine below_set ?_ p9.out | refine below_set ?_ q0.out) | exact HB.out)⟩
def impl_within.f (a0 : Int) (a1 : Int) (a2 : Int) : Option (Bool):=if a0 ≥ a1 then (some (decide (a0 ≤ a2))) else (some false)
set_option maxHeartbeats 8000000 in
set_option maxRecDepth 100000 in
theorem impl_within.calls (a0 : Int) (a1 : Int) (a2 : Int) (r : Bool) (w : World) (h : impl_within.f a0 a1 a2 = some r) :
  Calls Try.prog 74 #[.int .i64 a0,.int .i64 a1,.int .i64 a2] w fun e w' => e = .returned (.bool r) ∧ Drawn0 w w':=by
 have H : (if a0 ≥ a1 then (some (decide (a0 ≤ a2))) else (some false)) = some r:=h;clear h
 by_cases c4 : a0 ≥ a1
 case pos =>
  rw [if_pos c4] at H;have c4b0 : decide (a1 ≤ a0) = true:=decide_eq_true c4;clear c4;obtain rfl:=Option.some.inj H
  go_enter Try.func74,Try.ntmps74
  go_wp2
  go_ret;exact ⟨by first | rfl | (simp; done) | (simp [*]; done),by repeat (first | exact Drawn0.refl _ | apply Drawn0.step)⟩
 rw [if_neg c4] at H;have c4b0 : decide (a1 ≤ a0) = false:=decide_eq_false c4;clear c4;obtain rfl:=Option.some.inj H
 go_enter Try.func74,Try.ntmps74
 go_wp2
 go_ret;exact ⟨by first | rfl | (simp; done) | (simp [*]; done),by repeat (first | exact Drawn0.refl _ | apply Drawn0.step)⟩
def idxI {α : Type} (p : α → Bool) (l : List α) : Int:=match l.findIdx? p with | some i => (i : Int) | none => -1
theorem idxI_hit {α : Type} {p : α → Bool} {l : List α} (k : Nat) (hk : k < l.length) (h : p l[k] = true) (hne : ∀ j (hj : j < k),p (l[j]'(by omega)) = false) : idxI p l = k:=by
 have : l.findIdx? p = some k:=by
  rw [List.findIdx?_eq_some_iff_getElem];exact ⟨hk,h,fun j hj => by rw [hne j hj]; simp⟩
 simp [idxI,this]
theorem idxI_miss {α : Type} {p : α → Bool} {l : List α} (h : ∀ x ∈ l,p x = false) : idxI p l = -1:=by
 have : l.findIdx? p = none:=by
  rw [List.findIdx?_eq_none_iff];exact h
 simp [idxI,this]
theorem idxI_any {α : Type} (p : α → Bool) (l : List α) : decide (idxI p l ≥ 0) = l.any p:=by
 cases h : l.findIdx? p with
 | none =>
  rw [List.findIdx?_eq_none_iff] at h;simp only [idxI,List.findIdx?_eq_none_iff.2 h];rw [eq_comm]
  simpa using h
 | some i =>
  have h':=h;rw [List.findIdx?_eq_some_iff_getElem] at h';obtain ⟨hi,hp,_⟩:=h';simp only [idxI,h];have : l.any p = true:=List.any_eq_true.2 ⟨_,List.getElem_mem hi,hp⟩;rw [this];simp
set_option maxHeartbeats 8000000 in
set_option maxRecDepth 100000 in
theorem slices_IndexFunc_int_int.calls (p : Int → Bool) (g : Nat) (lb : Array Value) (eg : ∀ args w,(callFunc g args).run Try.prog w = .ok (.enter g args) w) (A0 : Option Addr) (c0 : Nat) (l0 : List Int) (w : World) (hr0 : Kd.C (Kd.int .i64) w A0 l0.length l0) (_hc0 : l0.length ≤ c0)
  (hp : ∀ (W : World) (x : Int),x ∈ l0 → Below w.heap.size w W → Calls Try.prog g (#[.int .i64 x] ++ lb) W fun e w' => e = .returned (.bool (p x)) ∧ Below W.heap.size W w') :
  Calls Try.prog 131 #[.slice A0 l0.length c0,.func (.func g) #[] lb] w fun e w' => e = .returned (.int .i64 (idxI p l0)) ∧ Below w.heap.size w w':=by
 have HR0:=Z hr0;have hlen:=hr0.2.1;clear hr0
 go_enter Try.func131,Try.ntmps131
 go_wp2
 go_loopg [5,8] l0.length (fun gg _ s8 wr => ∃ x : Int,s8 = .int .i64 x ∧ Aside0 (0 ≤ x) ∧ Aside0 (x ≤ (l0.length : Int)) ∧ Aside0 ((l0.length : Int) - x ≤ gg) ∧ Aside0 (Below w.heap.size w wr) ∧ Aside0 (∀ j (hl : j < l0.length),(j : Int) < x → p l0[j] = false))
 case atStart => exact ⟨0,rfl,⟨by omega⟩,⟨by omega⟩,⟨by omega⟩,⟨Below.refl _ w⟩,⟨fun j hj h => absurd h (by omega)⟩⟩
 case round =>
  obtain ⟨x,rfl,X0,X1,X2,BW,AA⟩:=hrel
  by_cases c2 : x < (l0.length : Int)
  case neg =>
   have c2b0 : decide (x < (l0.length : Int)) = false:=decide_eq_false c2;have E1:=Z c2;clear c2 hp
   go_wp2
   go_ret;refine ⟨?_,BW.out⟩;rw [idxI_miss (fun y hy => by
    obtain ⟨j,hj,rfl⟩:=List.getElem_of_mem hy;have h1:=E1.out;exact AA.out j hj (by omega))]
   rfl
  have c2b0 : decide (x < (l0.length : Int)) = true:=decide_eq_true c2;have h0:=X0.out;have hg:=X2.out;have hlt : x.toNat < l0.length:=by omega
  obtain ⟨ad,e,hx⟩:=Kd.at_int (Kd.C_below HR0.out BW.out) x h0 c2;cases e;have hw : wrap64 (x + 1) = x + 1:=by unfold wrap64; omega
  have HW:=Z hw;clear hw;have hcall:=hp wr l0[x.toNat] (List.getElem_mem hlt) BW.out;clear hp;have hrd : rd l0 x = l0[x.toNat]:=by simp [rd,hlt]
  rw [← hrd] at hcall;have B : Aside0 (∀ h : x.toNat < l0.length,rd l0 x = l0[x.toNat]):=⟨fun _ => hrd⟩
  clear hrd;generalize hy : rd l0 x = y at hx hcall B;clear hy;have p108:=eq_true h0;have q108:=eq_true c2;have E0:=Z h0;have E1:=Z c2;have E2:=Z hg;have E3:=Z hlt;clear h0 hg hlt c2;cases hq : p y with
  | true =>
   rw [hq] at hcall;have HQ:=Z hq;clear hq
   go_wp2_with (go_at_fn g; refine hcall.mono ?_; rintro e w' ⟨rfl,hb'⟩)
   go_ret;refine ⟨?_,below_then BW.out BW.out.size hb'⟩;have h0:=E0.out;rw [idxI_hit x.toNat E3.out (by rw [← B.out E3.out]; exact HQ.out) (fun j hj => AA.out j _ (by omega))];rw [Int.toNat_of_nonneg h0];rfl
  | false =>
   rw [hq] at hcall;have HQ:=Z hq;clear hq
   go_wp2_with (go_at_fn g; refine hcall.mono ?_; rintro e w' ⟨rfl,hb'⟩)
   have h0:=E0.out;have h1:=E1.out;have h2:=E2.out;go_roundg (l0.length - (x.toNat + 1))
   case measure => omega
   case rel =>
    refine ⟨x + 1,by first | rfl | rw [HW.out],⟨by omega⟩,⟨by omega⟩,⟨by omega⟩,⟨below_then BW.out BW.out.size hb'⟩,⟨fun j hj hl => ?_⟩⟩
    by_cases e : (j : Int) = x
    case neg => exact AA.out j hj (by omega)
    have e' : j = x.toNat:=by omega
    subst e';rw [← B.out E3.out]; exact HQ.out
set_option maxHeartbeats 8000000 in
theorem slices_ContainsFunc_int_int.calls (p : Int → Bool) (g : Nat) (lb : Array Value) (eg : ∀ args w,(callFunc g args).run Try.prog w = .ok (.enter g args) w) (A0 : Option Addr) (c0 : Nat) (l0 : List Int) (w : World) (hr0 : Kd.C (Kd.int .i64) w A0 l0.length l0) (hc0 : l0.length ≤ c0)
  (hp : ∀ (W : World) (x : Int),x ∈ l0 → Below w.heap.size w W → Calls Try.prog g (#[.int .i64 x] ++ lb) W fun e w' => e = .returned (.bool (p x)) ∧ Below W.heap.size W w') :
  Calls Try.prog 114 #[.slice A0 l0.length c0,.func (.func g) #[] lb] w fun e w' => e = .returned (.bool (l0.any p)) ∧ Below w.heap.size w w':=by
 rw [← idxI_any];have hcall:=slices_IndexFunc_int_int.calls p g lb eg A0 c0 l0 w hr0 hc0 hp;clear hp eg hr0
 go_enter Try.func114,Try.ntmps114
 go_wp2_with (go_at_call 131; refine hcall.mono ?_; rintro e w' ⟨rfl,hb'⟩)
 go_ret;exact ⟨rfl,hb'⟩
def okN (n v : Int) : Bool:=decide (0 ≤ v) && decide (v ≤ n - 1)
theorem okN_within (n x : Int) : impl_within.f x 0 (n - 1) = some (okN n x):=by
 unfold impl_within.f okN
 by_cases h : x ≥ 0
 case pos => rw [if_pos h]; simp [show (0 : Int) ≤ x from h]
 rw [if_neg h]; simp [show ¬ (0 : Int) ≤ x from h]
def impl_Net_has.f (a0_0 : Int) (_l0_1 : List S34) (l1 : List Int) : Option Bool:=if -9223372036854775807 ≤ a0_0 then if a0_0 ≤ 9223372036854775807 then some (l1.all (okN a0_0)) else none else none
set_option maxHeartbeats 8000000 in
set_option maxRecDepth 100000 in
theorem has_closure (x n : Int) (g : Nat) (v : Value) (w : World) (hn : -9223372036854775807 ≤ n) (hn2 : n ≤ 9223372036854775807) (hb : w.heap[g]? = some (.cells #[.int .i64 n,v] 25 (0,0))) :
  Calls Try.prog 115 #[.int .i64 x,.pointer (some ⟨g,0,none⟩)] w fun e w' => e = .returned (.bool (!okN n x)) ∧ Below w.heap.size w w':=by
 have hcell : w.cell? ⟨g,0,none⟩ = some (.int .i64 n):=(blk_cell hb 0).trans rfl;have hcall:=impl_within.calls x 0 (n - 1) (okN n x) w (okN_within n x);have hu:=Try.underlying25;generalize okN n x = b at hcall;clear hb
 go_enter Try.func115,Try.ntmps115
 go_wp2_with (go_at_call 74; refine hcall.mono ?_; rintro e w' ⟨rfl,⟨nd,rfl⟩⟩)
 go_ret;exact ⟨rfl,pw_below_drewN (Below.refl _ _) _⟩
set_option maxHeartbeats 8000000 in
set_option maxRecDepth 100000 in
theorem impl_Net_has.calls (a0_0 : Int) (A0_1 : Option Addr) (c0_1 : Nat) (l0_1 : List S34) (A1 : Option Addr) (c1 : Nat) (l1 : List Int) (r : Bool) (w : World) (_hr0_1 : Kd.C k34 w A0_1 l0_1.length l0_1) (_hc0_1 : l0_1.length ≤ c0_1) (hr1 : Kd.C (Kd.int .i64) w A1 l1.length l1) (hc1 : l1.length ≤ c1) (h : impl_Net_has.f a0_0 l0_1 l1 = some r) :
  Calls Try.prog 77 #[.agg #[.int .i64 a0_0,.slice A0_1 l0_1.length c0_1],.slice A1 l1.length c1] w fun e w' => e = .returned (.bool r) ∧ Below w.heap.size w w':=by
 have hn : -9223372036854775807 ≤ a0_0:=by
  apply Decidable.byContradiction
  intro c
  unfold impl_Net_has.f at h
  rw [if_neg c] at h;exact absurd h (by simp)
 have hn2 : a0_0 ≤ 9223372036854775807:=by
  apply Decidable.byContradiction
  intro c
  unfold impl_Net_has.f at h
  rw [if_pos hn,if_neg c] at h;exact absurd h (by simp)
 have hr : l1.all (okN a0_0) = r:=by
  unfold impl_Net_has.f at h
  rw [if_pos hn,if_pos hn2] at h;exact Option.some.inj h
 clear h;have hr' : (!(l1.any fun v => !okN a0_0 v)) = r:=by
  rw [← hr,List.not_any_eq_all_not]
  congr 1
  funext v
  simp
 have hcall:=slices_ContainsFunc_int_int.calls (fun v => !okN a0_0 v) 115 #[.pointer (some ⟨w.heap.size,0,none⟩)] (enters_of Try.func115 (by kernel_rfl) rfl) A1 c1 l1 (w.alloc (.cells #[.int .i64 a0_0,.slice A0_1 l0_1.length c0_1] 25)) (Kd.C_below hr1 (below_alloc (Below.refl _ _) _)) hc1
  (fun W x _ hB => has_closure x a0_0 w.heap.size (.slice A0_1 l0_1.length c0_1) W hn hn2 ((hB.block w.heap.size (by simp)).trans (heap_alloc_new w _)))
 have HN:=Z hn;have HR:=Z hr';clear hr1 hr hr' hn hn2;generalize l1.any (fun v => !okN a0_0 v) = b at hcall HR
 go_enter Try.func77,Try.ntmps77
 go_wp2_with (go_at_call 114; refine hcall.mono ?_; rintro e w' ⟨rfl,hb'⟩)
 go_ret;exact ⟨by rw [← HR.out]; rfl,below_then (below_alloc (Below.refl _ _) _) (by simp) hb'⟩
theorem rd_at_T {l : List S34} {k : Int} (h : k.toNat < l.length) : rd_T34 l k = l[k.toNat]:=by
 simp [rd_T34,h]
def encA (x : S34) : Value:=.agg #[.int .i64 x.f0,.int .i64 x.f1,.int .i64 x.f2,.int .i64 x.f3,.int .i64 x.f4]
set_option maxHeartbeats 8000000 in
set_option maxRecDepth 100000 in
theorem slices_IndexFunc_Arc.calls (p : S34 → Bool) (g : Nat) (lb : Array Value) (eg : ∀ args w,(callFunc g args).run Try.prog w = .ok (.enter g args) w) (A0 : Option Addr) (c0 : Nat) (l0 : List S34) (w : World) (hr0 : Kd.C k34 w A0 l0.length l0) (_hc0 : l0.length ≤ c0)
  (hp : ∀ (W : World) (x : S34),x ∈ l0 → Below w.heap.size w W → Calls Try.prog g (#[encA x] ++ lb) W fun e w' => e = .returned (.bool (p x)) ∧ Below W.heap.size W w') :
  Calls Try.prog 128 #[.slice A0 l0.length c0,.func (.func g) #[] lb] w fun e w' => e = .returned (.int .i64 (idxI p l0)) ∧ Below w.heap.size w w':=by
 have HR0:=Z hr0;have hlen:=hr0.2.1;clear hr0;have hu:=Try.underlying34
 go_enter Try.func128,Try.ntmps128
 go_wp2
 go_loopg [5,8] l0.length (fun gg _ s8 wr => ∃ x : Int,s8 = .int .i64 x ∧ Aside0 (0 ≤ x) ∧ Aside0 (x ≤ (l0.length : Int)) ∧ Aside0 ((l0.length : Int) - x ≤ gg) ∧ Aside0 (Below w.heap.size w wr) ∧ Aside0 (∀ j (hl : j < l0.length),(j : Int) < x → p l0[j] = false))
 case atStart => exact ⟨0,rfl,⟨by omega⟩,⟨by omega⟩,⟨by omega⟩,⟨Below.refl _ w⟩,⟨fun j hj h => absurd h (by omega)⟩⟩
 case round =>
  obtain ⟨x,rfl,X0,X1,X2,BW,AA⟩:=hrel
  by_cases c2 : x < (l0.length : Int)
  case neg =>
   have c2b0 : decide (x < (l0.length : Int)) = false:=decide_eq_false c2;have E1:=Z c2;clear c2 hp
   go_wp2
   go_ret;refine ⟨?_,BW.out⟩;rw [idxI_miss (fun y hy => by
    obtain ⟨j,hj,rfl⟩:=List.getElem_of_mem hy;have h1:=E1.out;exact AA.out j hj (by omega))]
   rfl
  have c2b0 : decide (x < (l0.length : Int)) = true:=decide_eq_true c2;have h0:=X0.out;have hg:=X2.out;have hlt : x.toNat < l0.length:=by omega
  obtain ⟨ad,e,hx0,hx1,hx2,hx3,hx4⟩:=at_T34 (Kd.C_below HR0.out BW.out) x h0 c2;cases e;have hw : wrap64 (x + 1) = x + 1:=by unfold wrap64; omega
  have HW:=Z hw;clear hw;have hcall:=hp wr l0[x.toNat] (List.getElem_mem hlt) BW.out;clear hp;have hrd : rd_T34 l0 x = l0[x.toNat]:=rd_at_T hlt;rw [← hrd] at hcall;have B : Aside0 (∀ h : x.toNat < l0.length,rd_T34 l0 x = l0[x.toNat]):=⟨fun _ => hrd⟩
  clear hrd;generalize hy : rd_T34 l0 x = y at hx0 hx1 hx2 hx3 hx4 hcall B;clear hy
  unfold encA at hcall
  have p108:=eq_true h0;have q108:=eq_true c2;have E0:=Z h0;have E1:=Z c2;have E2:=Z hg;have E3:=Z hlt;clear h0 hg hlt c2;cases hq : p y with
  | true =>
   rw [hq] at hcall;have HQ:=Z hq;clear hq
   go_wp2_with (go_at_fn g; refine hcall.mono ?_; rintro e w' ⟨rfl,hb'⟩)
   go_ret;refine ⟨?_,below_then BW.out BW.out.size hb'⟩;have h0:=E0.out;rw [idxI_hit x.toNat E3.out (by rw [← B.out E3.out]; exact HQ.out) (fun j hj => AA.out j _ (by omega))];rw [Int.toNat_of_nonneg h0];rfl
  | false =>
   rw [hq] at hcall;have HQ:=Z hq;clear hq
   go_wp2_with (go_at_fn g; refine hcall.mono ?_; rintro e w' ⟨rfl,hb'⟩)
   have h0:=E0.out;have h1:=E1.out;have h2:=E2.out;go_roundg (l0.length - (x.toNat + 1))
   case measure => omega
   case rel =>
    refine ⟨x + 1,by first | rfl | rw [HW.out],⟨by omega⟩,⟨by omega⟩,⟨by omega⟩,⟨below_then BW.out BW.out.size hb'⟩,⟨fun j hj hl => ?_⟩⟩
    by_cases e : (j : Int) = x
    case neg => exact AA.out j hj (by omega)
    have e' : j = x.toNat:=by omega
    subst e';rw [← B.out E3.out]; exact HQ.out
set_option maxHeartbeats 8000000 in
theorem slices_ContainsFunc_Arc.calls (p : S34 → Bool) (g : Nat) (lb : Array Value) (eg : ∀ args w,(callFunc g args).run Try.prog w = .ok (.enter g args) w) (A0 : Option Addr) (c0 : Nat) (l0 : List S34) (w : World) (hr0 : Kd.C k34 w A0 l0.length l0) (hc0 : l0.length ≤ c0)
  (hp : ∀ (W : World) (x : S34),x ∈ l0 → Below w.heap.size w W → Calls Try.prog g (#[encA x] ++ lb) W fun e w' => e = .returned (.bool (p x)) ∧ Below W.heap.size W w') :
  Calls Try.prog 105 #[.slice A0 l0.length c0,.func (.func g) #[] lb] w fun e w' => e = .returned (.bool (l0.any p)) ∧ Below w.heap.size w w':=by
 rw [← idxI_any];have hcall:=slices_IndexFunc_Arc.calls p g lb eg A0 c0 l0 w hr0 hc0 hp;clear hp eg hr0;have hu:=Try.underlying34
 go_enter Try.func105,Try.ntmps105
 go_wp2_with (go_at_call 128; refine hcall.mono ?_; rintro e w' ⟨rfl,hb'⟩)
 go_ret;exact ⟨rfl,hb'⟩
def impl_costOk.f (a0 : Int) : Option (Bool):=(impl_within.f a0 0 99).bind fun t196 => (some t196)
set_option maxHeartbeats 8000000 in
set_option maxRecDepth 100000 in
theorem impl_costOk.calls (a0 : Int) (r : Bool) (w : World) (h : impl_costOk.f a0 = some r) :
  Calls Try.prog 107 #[.int .i64 a0] w fun e w' => e = .returned (.bool r) ∧ Drawn0 w w':=by
 have H : ((impl_within.f a0 0 99).bind fun t196 => (some t196)) = some r:=h;clear h;replace H:=Option.bind_eq_some_iff.mp H;obtain ⟨t196,A20,H⟩:=H;replace H : (some t196) = some r:=H;have A2:=Z A20;clear A20;obtain rfl:=Option.some.inj H
 go_enter Try.func107,Try.ntmps107
 go_wp2_with (first | ((with_reducible refine gate_callee (f:=74) rfl ?_); refine goesL_ (some 4) rfl rfl Try.func74 (by kernel_rfl) rfl #[.int .i64 a0,.int .i64 0,.int .i64 99] rfl (by (try simp only [List.map_toArray,List.map_cons,List.map_nil]); first | done | rfl | (simp only [List.length_drop,List.length_take]; rfl)) ?_; (with_reducible refine (impl_within.calls a0 0 99 t196 _ A2.out).mono ?_); rintro e w' ⟨rfl,⟨nd,rfl⟩⟩; refine ⟨_,rfl,?_⟩))
 go_ret;exact ⟨by first | rfl | (simp; done) | (simp [*]; done),by repeat (first | exact Drawn0.refl _ | apply Drawn0.step)⟩
def okC (c : Int) : Bool:=decide (0 ≤ c) && decide (c ≤ 99)
theorem okC_costOk (c : Int) : impl_costOk.f c = some (okC c):=by
 unfold impl_costOk.f impl_within.f okC
 by_cases h : c ≥ 0
 case pos => rw [if_pos h]; simp [show (0 : Int) ≤ c from h]
 rw [if_neg h]; simp [show ¬ (0 : Int) ≤ c from h]
def okArc (n : Int) (a : S34) : Bool:=okN n a.f0 && okN n a.f1 && !(a.f0 == a.f1) && okC a.f2 && okC a.f3 && okN 10 a.f4
def netOkB (n : Int) (l : List S34) : Bool:=decide (1 ≤ n) && decide (n ≤ 8) && decide ((l.length : Int) ≤ 16) && l.all (okArc n)
def impl_NetOk.f (a0_0 : Int) (l0_1 : List S34) : Option Bool:=some (decide (1 ≤ a0_0) && decide (a0_0 ≤ 8) && decide ((l0_1.length : Int) ≤ 16) && l0_1.all (okArc a0_0))
theorem heap_alloc_at {W : World} {o : Obj} {k : Nat} (h : k = W.heap.size) : (W.alloc o).heap[k]? = some o:=by subst h; exact heap_alloc_new W o
theorem two_reads (W : World) (b : Nat) (x y : Int) (h : W.heap[b]? = some (.cells #[.int .i64 x,.int .i64 y] 3 (0,0))) : Kd.C (Kd.int .i64) W (some ⟨b,0,none⟩) [x,y].length [x,y] :=
 Kd.C_of_reads (d:=(0 : Int)) (h1:=fun _ => rfl) ⟨rfl,by simp,fun _ => ⟨_,rfl,fun j hj => by
  have h0 : W.cell? ⟨b,0,none⟩ = some (.int .i64 x):=(blk_cell h 0).trans rfl;have h1 : W.cell? ⟨b,1,none⟩ = some (.int .i64 y):=(blk_cell h 1).trans rfl
  match j,hj with
  | 0,_ => rw [add_plain]; exact h0
  | 1,_ => rw [add_plain]; exact h1⟩⟩
set_option maxHeartbeats 8000000 in
set_option maxRecDepth 100000 in
theorem NetOk_closure (x : S34) (n : Int) (g : Nat) (A : Option Addr) (c : Nat) (l : List S34) (w : World) (hn : 1 ≤ n) (hn2 : n ≤ 8) (hr : Kd.C k34 w A l.length l) (hc : l.length ≤ c) (hb : w.heap[g]? = some (.cells #[.int .i64 n,.slice A l.length c] 25 (0,0))) :
  Calls Try.prog 106 #[encA x,.pointer (some ⟨g,0,none⟩)] w fun e w' => e = .returned (.bool (!okArc n x)) ∧ Below w.heap.size w w':=by
 have hcell : w.cell? ⟨g,0,none⟩ = some (.int .i64 n):=(blk_cell hb 0).trans rfl;have hcell1 : w.cell? ⟨g,1,none⟩ = some (.slice A l.length c):=(blk_cell hb 1).trans rfl;have hhas:=fun (W : World) (a0 : Nat) (h1 : Below w.heap.size w W) (h2 : W.heap[a0]? = some (.cells #[.int .i64 x.f0,.int .i64 x.f1] 3 (0,0))) => impl_Net_has.calls n A c l (some ⟨a0,0,none⟩) 2 [x.f0,x.f1] ([x.f0,x.f1].all (okN n)) W (Kd.C_below hr h1) hc (two_reads W a0 x.f0 x.f1 h2) (by simp) (by unfold impl_Net_has.f; rw [if_pos (by omega),if_pos (by omega)])
 have hbl:=World.block_lt_of_cell? _ _ hcell;have hu:=Try.underlying25;have hu2:=Try.underlying34;have hc2:=fun (W : World) => impl_costOk.calls x.f2 (okC x.f2) W (okC_costOk x.f2)
 have hc3:=fun (W : World) => impl_costOk.calls x.f3 (okC x.f3) W (okC_costOk x.f3)
 have hload:=fun (W : World) => impl_within.calls x.f4 0 9 (okN 10 x.f4) W (okN_within 10 x.f4)
 clear hb hr
 unfold encA
 have hall : [x.f0,x.f1].all (okN n) = (okN n x.f0 && okN n x.f1):=by simp
 rw [hall] at hhas;clear hall
 unfold okArc
 generalize hA : (okN n x.f0 && okN n x.f1) = b1 at hhas;clear hA;generalize okN 10 x.f4 = b5 at hload;generalize okC x.f2 = b2 at hc2;generalize okC x.f3 = b3 at hc3;have HB:=Z (Below.refl w.heap.size w);have HN:=Z hn;have HC:=Z hc;clear hn hn2 hc;have bcell : ∀ {W w1 : World},Below W.heap.size W w1 → (∀ b o,b < W.heap.size → w1.cell? ⟨b,o,none⟩ = W.cell? ⟨b,o,none⟩):=fun hb b o h => hb.cell (p:=⟨b,o,none⟩) h
 have HCELL:=Z @bcell;clear bcell;have hcN:=hbl;cases b1 with
 | false =>
  go_enter Try.func106,Try.ntmps106
  go_wp2_with (go_at_call 77; refine (hhas _ _ ?h1 ?h2).mono ?_; (case h1 => repeat (first | exact Below.refl _ _ | apply below_alloc)); (case h2 => exact heap_alloc_at (by simp)); rintro e w1 ⟨rfl,hb'⟩)
  go_ret;exact ⟨rfl,below_then (below_alloc (below_alloc (Below.refl _ _) _) _) (by simp; omega) hb'⟩
 | true =>
  by_cases hft : x.f0 = x.f1
  case pos =>
   have e1 : (x.f0 == x.f1) = true:=by simpa using hft
   clear hft;rw [e1]
   go_enter Try.func106,Try.ntmps106
   go_wp2_with (go_at_call 77; refine (hhas _ _ ?h1 ?h2).mono ?_; (case h1 => repeat (first | exact Below.refl _ _ | apply below_alloc)); (case h2 => exact heap_alloc_at (by simp)); rintro e w1 ⟨rfl,hb'⟩; have hc1:=HCELL.out hb'; have HB1:=Z hb'; clear hb')
   go_ret;exact ⟨rfl,by repeat (first | apply pw_below_drewN | exact below_then (below_alloc (below_alloc (Below.refl _ _) _) _) (by simp; omega) HB1.out)⟩
  have e1 : (x.f0 == x.f1) = false:=by simpa using hft
  clear hft;rw [e1];cases b2 with
  | false =>
   go_enter Try.func106,Try.ntmps106
   go_wp2_with (first | (go_at_call 77; refine (hhas _ _ ?h1 ?h2).mono ?_; (case h1 => repeat (first | exact Below.refl _ _ | apply below_alloc)); (case h2 => exact heap_alloc_at (by simp)); rintro e w1 ⟨rfl,hb'⟩; have hc1:=HCELL.out hb'; have HB1:=Z hb'; clear hb') | (go_at_call 107; (with_reducible refine (hc2 _).mono ?_); rintro e w2 ⟨rfl,⟨nd2,rfl⟩⟩))
   go_ret;exact ⟨rfl,by repeat (first | apply pw_below_drewN | exact below_then (below_alloc (below_alloc (Below.refl _ _) _) _) (by simp; omega) HB1.out)⟩
  | true =>
   cases b3 with
   | false =>
    go_enter Try.func106,Try.ntmps106
    go_wp2_with (first | (go_at_call 77; refine (hhas _ _ ?h1 ?h2).mono ?_; (case h1 => repeat (first | exact Below.refl _ _ | apply below_alloc)); (case h2 => exact heap_alloc_at (by simp)); rintro e w1 ⟨rfl,hb'⟩; have hc1:=HCELL.out hb'; have HB1:=Z hb'; clear hb') | (go_at_call 107; (with_reducible refine (hc2 _).mono ?_); rintro e w2 ⟨rfl,⟨nd2,rfl⟩⟩) | (go_at_call 107; (with_reducible refine (hc3 _).mono ?_); rintro e w3 ⟨rfl,⟨nd3,rfl⟩⟩))
    go_ret;exact ⟨rfl,by repeat (first | apply pw_below_drewN | exact below_then (below_alloc (below_alloc (Below.refl _ _) _) _) (by simp; omega) HB1.out)⟩
   | true =>
    go_enter Try.func106,Try.ntmps106
    go_wp2_with (first | (go_at_call 77; refine (hhas _ _ ?h1 ?h2).mono ?_; (case h1 => repeat (first | exact Below.refl _ _ | apply below_alloc)); (case h2 => exact heap_alloc_at (by simp)); rintro e w1 ⟨rfl,hb'⟩; have hc1:=HCELL.out hb'; have HB1:=Z hb'; clear hb') | (go_at_call 107; (with_reducible refine (hc2 _).mono ?_); rintro e w2 ⟨rfl,⟨nd2,rfl⟩⟩) | (go_at_call 107; (with_reducible refine (hc3 _).mono ?_); rintro e w3 ⟨rfl,⟨nd3,rfl⟩⟩) | (go_at_call 74; refine (hload _).mono ?_; rintro e w4 ⟨rfl,⟨nd4,rfl⟩⟩))
    go_ret;exact ⟨by cases b5 <;> rfl,by repeat (first | apply pw_below_drewN | exact below_then (below_alloc (below_alloc (Below.refl _ _) _) _) (by simp; omega) HB1.out)⟩
set_option maxHeartbeats 8000000 in
set_option maxRecDepth 100000 in
theorem impl_NetOk.calls (a0_0 : Int) (A0_1 : Option Addr) (c0_1 : Nat) (l0_1 : List S34) (r : Bool) (w : World) (p0 : Kd.C k34 w A0_1 l0_1.length l0_1) (p1 : l0_1.length ≤ c0_1) (h : impl_NetOk.f a0_0 l0_1 = some r) :
  Calls Try.prog 63 #[.agg #[.int .i64 a0_0,.slice A0_1 l0_1.length c0_1]] w fun e w' => e = .returned (.bool r) ∧ Below w.heap.size w w':=by
 have hw1:=fun (W : World) => impl_within.calls a0_0 1 8 (decide (1 ≤ a0_0) && decide (a0_0 ≤ 8)) W (by
  unfold impl_within.f
  by_cases h : a0_0 ≥ 1
  case pos => rw [if_pos h]; simp [show (1 : Int) ≤ a0_0 from h]
  rw [if_neg h]; simp [show ¬ (1 : Int) ≤ a0_0 from h])
 obtain rfl:=Option.some.inj h;clear h;have hu:=Try.underlying25
 by_cases hn : 1 ≤ a0_0 ∧ a0_0 ≤ 8
 case neg =>
  have e0 : (decide (1 ≤ a0_0) && decide (a0_0 ≤ 8)) = false:=by
   rw [Bool.and_eq_false_iff]
   by_cases h1 : 1 ≤ a0_0
   case neg => exact .inl (decide_eq_false h1)
   exact .inr (decide_eq_false (fun h2 => hn ⟨h1,h2⟩))
  rw [e0] at hw1 ⊢;clear hn e0
  go_enter Try.func63,Try.ntmps63
  go_wp2_with (first | (go_at_call 74; refine (hw1 _).mono ?_; rintro e w1 ⟨rfl,⟨nd,rfl⟩⟩))
  go_ret;exact ⟨by simp,pw_below_drewN (below_alloc (Below.refl _ _) _) _⟩
 obtain ⟨hn1,hn2⟩:=hn;rw [decide_eq_true hn1,decide_eq_true hn2] at hw1;rw [decide_eq_true hn1,decide_eq_true hn2];have hbox:=fun (nd : Nat) => slices_ContainsFunc_Arc.calls (fun v => !okArc a0_0 v) 106 #[.pointer (some ⟨w.heap.size,0,none⟩)] (enters_of Try.func106 (by kernel_rfl) rfl) A0_1 c0_1 l0_1 ((w.alloc (.cells #[.int .i64 a0_0,.slice A0_1 l0_1.length c0_1] 25)).drewN nd) (Kd.C_below p0 (pw_below_drewN (below_alloc (Below.refl _ _) _) nd)) p1
  (fun W x _ hB => NetOk_closure x a0_0 w.heap.size A0_1 c0_1 l0_1 W hn1 hn2 (Kd.C_below p0 (below_then (pw_below_drewN (below_alloc (Below.refl _ _) _) nd) (by simp) hB)) p1 ((hB.block w.heap.size (by simp)).trans (heap_alloc_new w _)))
 have hall : (!(l0_1.any fun v => !okArc a0_0 v)) = l0_1.all (okArc a0_0):=by
  rw [List.not_any_eq_all_not]
  congr 1
  funext v
  simp
 rw [← hall];clear hall p0 p1 hn1 hn2;generalize (l0_1.any fun v => !okArc a0_0 v) = b at hbox
 by_cases hl : (l0_1.length : Int) ≤ 16
 case neg =>
  have e1 : decide ((l0_1.length : Int) ≤ 16) = false:=decide_eq_false hl;have e2 : decide (l0_1.length ≤ 16) = false:=decide_eq_false (by omega);rw [e1];clear hl
  go_enter Try.func63,Try.ntmps63
  go_wp2_with (first | (go_at_call 74; refine (hw1 _).mono ?_; rintro e w1 ⟨rfl,⟨nd,rfl⟩⟩))
  go_ret;exact ⟨rfl,pw_below_drewN (below_alloc (Below.refl _ _) _) _⟩
 have e1 : decide ((l0_1.length : Int) ≤ 16) = true:=decide_eq_true hl;have e2 : decide (l0_1.length ≤ 16) = true:=decide_eq_true (by omega);rw [e1];clear hl
 go_enter Try.func63,Try.ntmps63
 go_wp2_with (first | (go_at_call 74; refine (hw1 _).mono ?_; rintro e w1 ⟨rfl,⟨nd,rfl⟩⟩) | (go_at_call 105; refine (hbox _).mono ?_; rintro e w2 ⟨rfl,hb'⟩))
 go_ret;exact ⟨by cases b <;> rfl,below_then (pw_below_drewN (below_alloc (Below.refl _ _) _) _) (by simp) hb'⟩
def impl_nodesIn.f (a0_0 : Int) (l0_1 : List (S34)) (l1 : List Int) : Option (Bool):=(impl_NetOk.f a0_0 l0_1).bind fun t198 => (if t198 = true then ((impl_Net_has.f a0_0 l0_1 l1).bind fun t199 => (some t199)) else (some false))
set_option maxHeartbeats 8000000 in
set_option maxRecDepth 100000 in
theorem impl_nodesIn.calls (a0_0 : Int) (A0_1 : Option Addr) (c0_1 : Nat) (l0_1 : List (S34)) (A1 : Option Addr) (c1 : Nat) (l1 : List Int) (r : Bool) (w : World) (hr0_1 : Kd.C k34 w A0_1 l0_1.length l0_1) (hc0_1 : l0_1.length ≤ c0_1) (hr1 : Kd.C (Kd.int .i64) w A1 l1.length l1) (hc1 : l1.length ≤ c1) (h : impl_nodesIn.f a0_0 l0_1 l1 = some r) :
  Calls Try.prog 51 #[.agg #[.int .i64 a0_0,.slice A0_1 l0_1.length c0_1],.slice A1 l1.length c1] w fun e w' => e = .returned (.bool r) ∧ Below w.heap.size w w':=by
 have hu25:=Try.underlying25;have p2:=Z hr0_1;have p3:=Z hc0_1;clear hr0_1 hc0_1;have HR1:=Z hr1;have HC1:=Z hc1;clear hr1 hc1;have HB:=Z (Below.refl w.heap.size w);have H : ((impl_NetOk.f a0_0 l0_1).bind fun t198 => (if t198 = true then ((impl_Net_has.f a0_0 l0_1 l1).bind fun t199 => (some t199)) else (some false))) = some r:=h;clear h;replace H:=Option.bind_eq_some_iff.mp H;obtain ⟨t198,A30,H⟩:=H;replace H : (if t198 = true then ((impl_Net_has.f a0_0 l0_1 l1).bind fun t199 => (some t199)) else (some false)) = some r:=H;have A3:=Z A30;clear A30
 by_cases c4 : t198 = true
 case neg =>
  replace c4:=Bool.eq_false_iff.mpr c4;subst c4;have H1 : (some false) = some r:=by rw [if_neg (show ¬ (false = true) by decide)] at H; exact H
  clear H;have H:=H1;clear H1;obtain rfl:=Option.some.inj H
  go_enter Try.func51,Try.ntmps51
  go_wp2_with (first | ((with_reducible refine gate_dst (N:=2) rfl ?_); refine box_event ?hg (N:=2) ?hd (cs:=#[.int .i64 a0_0,.slice A0_1 l0_1.length c0_1]) (t:=25) ?hr ?_; (case hd => rfl); (case hg => rfl); (case hr => first | (go_simp; done) | (go_simp; rfl)); intro p1 hg w11 hbox hb; have n0_:=Z (below_step HB.out hb); have n1_:=Z (hbox); have n2_:=Z ((by rw [hg]; exact (below_size HB.out) : w.heap.size ≤ p1)); have n3_:=Z ((by rw [hg]; exact (below_size HB.out) : w.heap.size ≤ p1)); clear HB; have HB:=n0_; have p0:=n1_; have GW197:=n2_; have p4:=n3_; clear n0_ n1_ n2_ n3_; clear hb hbox hg; have hcz12_0 : w11.cell? ⟨p1,0,none⟩ = some (.int .i64 a0_0):=(blk_cell p0.out 0).trans rfl; have hcz12_1 : w11.cell? ⟨p1,1,none⟩ = some (.slice A0_1 l0_1.length c0_1):=(blk_cell p0.out 1).trans rfl; have hfz12_0:=blk_frozen p0.out 0; have hfz12_1:=blk_frozen p0.out 1) | ((with_reducible refine gate_callee (f:=63) rfl ?_); refine goesL_ (some 6) rfl rfl Try.func63 (by kernel_rfl) rfl #[.agg #[.int .i64 a0_0,.slice A0_1 l0_1.length c0_1]] rfl (by (try simp only [List.map_toArray,List.map_cons,List.map_nil]); first | done | rfl | (simp only [List.length_drop,List.length_take]; rfl)) ?_; (with_reducible refine (impl_NetOk.calls a0_0 _ _ l0_1 false _ ?side1 ?side2 A3.out).mono ?_); (case side1 => repeat (first | exact (Kd.C_below p2.out HB.out) | (with_reducible refine Kd.C_alloc ?_ _) | (with_reducible refine Kd.C_drewN ?_ _) | (with_reducible refine Kd.C_drew ?_))); (case side2 => exact p3.out); rintro e w13 ⟨rfl,hb⟩; refine ⟨_,rfl,?_⟩; have n0_:=Z (blk_below (g:=p1) (o:=.cells #[.int .i64 a0_0,.slice A0_1 l0_1.length c0_1] 25 (0,0)) p0.out hb); have n1_:=Z (below_step HB.out hb); clear p0; clear HB; have p0:=n0_; have HB:=n1_; clear n0_ n1_; (try clear hb); (try clear hb2); (try clear hk); (try clear hi)))
  go_ret;exact ⟨by first | rfl | (simp [errW_none,errW_some] <;> rfl) | (simp [*,errW_none,errW_some] <;> rfl),by repeat (first | (with_reducible first | exact HB.out | apply below_alloc | apply pw_below_drewN | apply below_drew1 | refine below_set ?_ p4.out) | exact HB.out)⟩
 subst c4;have H1 : ((impl_Net_has.f a0_0 l0_1 l1).bind fun t199 => (some t199)) = some r:=by rw [if_pos rfl] at H; exact H
 clear H;have H:=H1;clear H1;replace H:=Option.bind_eq_some_iff.mp H;obtain ⟨t199,A50,H⟩:=H;replace H : (some t199) = some r:=H;have A5:=Z A50;clear A50;obtain rfl:=Option.some.inj H
 go_enter Try.func51,Try.ntmps51
 go_wp2_with (first | ((with_reducible refine gate_dst (N:=2) rfl ?_); refine box_event ?hg (N:=2) ?hd (cs:=#[.int .i64 a0_0,.slice A0_1 l0_1.length c0_1]) (t:=25) ?hr ?_; (case hd => rfl); (case hg => rfl); (case hr => first | (go_simp; done) | (go_simp; rfl)); intro p1 hg w6 hbox hb; have n0_:=Z (below_step HB.out hb); have n1_:=Z (hbox); have n2_:=Z ((by rw [hg]; exact (below_size HB.out) : w.heap.size ≤ p1)); have n3_:=Z ((by rw [hg]; exact (below_size HB.out) : w.heap.size ≤ p1)); clear HB; have HB:=n0_; have p0:=n1_; have GW197:=n2_; have p4:=n3_; clear n0_ n1_ n2_ n3_; clear hb hbox hg; have hcz7_0 : w6.cell? ⟨p1,0,none⟩ = some (.int .i64 a0_0):=(blk_cell p0.out 0).trans rfl; have hcz7_1 : w6.cell? ⟨p1,1,none⟩ = some (.slice A0_1 l0_1.length c0_1):=(blk_cell p0.out 1).trans rfl; have hfz7_0:=blk_frozen p0.out 0; have hfz7_1:=blk_frozen p0.out 1) | ((with_reducible refine gate_callee (f:=63) rfl ?_); refine goesL_ (some 6) rfl rfl Try.func63 (by kernel_rfl) rfl #[.agg #[.int .i64 a0_0,.slice A0_1 l0_1.length c0_1]] rfl (by (try simp only [List.map_toArray,List.map_cons,List.map_nil]); first | done | rfl | (simp only [List.length_drop,List.length_take]; rfl)) ?_; (with_reducible refine (impl_NetOk.calls a0_0 _ _ l0_1 true _ ?side1 ?side2 A3.out).mono ?_); (case side1 => repeat (first | exact (Kd.C_below p2.out HB.out) | (with_reducible refine Kd.C_alloc ?_ _) | (with_reducible refine Kd.C_drewN ?_ _) | (with_reducible refine Kd.C_drew ?_))); (case side2 => exact p3.out); rintro e w8 ⟨rfl,hb⟩; refine ⟨_,rfl,?_⟩; have n0_:=Z (blk_below (g:=p1) (o:=.cells #[.int .i64 a0_0,.slice A0_1 l0_1.length c0_1] 25 (0,0)) p0.out hb); have n1_:=Z (below_step HB.out hb); clear p0; clear HB; have p0:=n0_; have HB:=n1_; clear n0_ n1_; (try clear hb); (try clear hb2); (try clear hk); (try clear hi); have hcz9_0 : w8.cell? ⟨p1,0,none⟩ = some (.int .i64 a0_0):=(blk_cell p0.out 0).trans rfl; have hcz9_1 : w8.cell? ⟨p1,1,none⟩ = some (.slice A0_1 l0_1.length c0_1):=(blk_cell p0.out 1).trans rfl; have hfz9_0:=blk_frozen p0.out 0; have hfz9_1:=blk_frozen p0.out 1) | (go_at_call 77; (with_reducible refine (impl_Net_has.calls a0_0 _ _ l0_1 _ _ l1 t199 _ ?side1 ?side2 ?side3 ?side4 A5.out).mono ?_); (case side1 => repeat (first | exact (Kd.C_below p2.out HB.out) | (with_reducible refine Kd.C_alloc ?_ _) | (with_reducible refine Kd.C_drewN ?_ _) | (with_reducible refine Kd.C_drew ?_))); (case side2 => exact p3.out); (case side3 => repeat (first | exact (Kd.C_below HR1.out HB.out) | (with_reducible refine Kd.C_alloc ?_ _) | (with_reducible refine Kd.C_drewN ?_ _) | (with_reducible refine Kd.C_drew ?_))); (case side4 => exact HC1.out); rintro e w10 ⟨rfl,hb⟩; have n0_:=Z (blk_below (g:=p1) (o:=.cells #[.int .i64 a0_0,.slice A0_1 l0_1.length c0_1] 25 (0,0)) p0.out hb); have n1_:=Z (below_step HB.out hb); clear p0; clear HB; have p0:=n0_; have HB:=n1_; clear n0_ n1_; (try clear hb); (try clear hb2); (try clear hk); (try clear hi)))
 go_ret;exact ⟨by first | rfl | (simp [errW_none,errW_some] <;> rfl) | (simp [*,errW_none,errW_some] <;> rfl),by repeat (first | (with_reducible first | exact HB.out | apply below_alloc | apply pw_below_drewN | apply below_drew1 | refine below_set ?_ p4.out) | exact HB.out)⟩
end Go.Proofs.Ytljdcinpjnijcaa.Pr
end
section
set_option linter.unusedVariables false
set_option linter.unusedSimpArgs false
namespace Go.Proofs.YtljdcinpjnijcaaW.PrintWords
open Go.RowKit
section
variable {P : Program} {ops : Array Oper} {rest : List Oper} {o : Oper} {a : Act} {Q : Exit → Act → World → Prop}
theorem put_event {W : World} (hgd : o.guard = none) (hN : o.dst = none) {t : TypeId} {p x : Operand} (ho : o.op = .store t p x) {g : Nat} {e : TypeId} {cur : Array Value} (hh : W.heap[g]? = some (.cells cur e (0,0))) (k : Nat) (cur' : Array Value) (u : Value) (seg : List Value)
  (haddr : a.eval p = .pointer (some ⟨g,k,none⟩)) (hx : a.eval x = u) (hu : u.cells.toList = seg) (ht : (P.info? t).map (·.size) = some seg.length) (hfit : k + seg.length ≤ cur.size) (h1 : ∀ q ∈ seg,q.oneCell' = true) (hc : cur'.toList = cur.toList.take k ++ seg ++ cur.toList.drop (k + seg.length))
  (h : ∀ w1,w1.heap[g]? = some (.cells cur' e (0,0)) → W.grownBy w1 (some g) → wpList P ops Q rest a w1) : wpList P ops Q (o :: rest) a W:=by
 obtain ⟨c2,hh2,hs2,hl2⟩:=setCells_row seg k W cur hh hfit;obtain ⟨s1,s2,s3,s4⟩:=setCells_same g seg k W;have e2 : c2 = cur':=by
  apply Array.toList_inj.1
  rw [hl2,hc]
 subst e2;have hrun:=run_store_run (P:=P) (w:=W) t u seg hh hu ht hfit h1;refine wpList_plain hgd fun K hK => ?_
 unfold Oper.wp execOp
 simp only [ho,haddr,hx,Sem.run_bind,Sem.run_pure,Result.andThen_ok,hrun]
 show K (a.put o.dst undef) _
 rw [hN];exact hK a _ (h _ hh2 ⟨s1,s2,s3,by rw [s4]; exact Nat.le_refl _,fun i _ hi => setCells_far seg k i (fun he => hi (by rw [he]))⟩)
theorem run_copy_sz (w : World) (dT sT ty elem : TypeId) (sz : Nat) (b o dLen dCap : Nat) (a : Addr) (sLen sCap : Nat) (cs : List Value)
  (hu : P.underlying dT = some (.slice elem)) (hs : (P.info? elem).map (·.size) = some sz) (hn : cs.length = Nat.min sLen dLen * sz)
  (hsrc : ∀ j v,cs[j]? = some v → w.cell? (a.add j) = some v) (hc : ∀ j,j < cs.length → (w.cell? ⟨b,o + j,none⟩).isSome = true) (hf : ∀ j,j < cs.length → w.frozen? ⟨b,o + j,none⟩ = false) (h1 : ∀ v ∈ cs,v.oneCell' = true) :
  (Builtin.copy_ #[dT,sT] ty #[.slice (some ⟨b,o,none⟩) dLen dCap,.slice (some a) sLen sCap]).run P w = .ok (goInt (Nat.min sLen dLen)) (w.setCells b o cs):=by
 have hl:=run_loadCells_list (P:=P) w a cs hsrc;have hst:=run_storeCells_cells (P:=P) b o cs 0 w (by simpa using hc) (by simpa using hf) h1;cases hq : P.info? elem with
 | none => simp [hq] at hs
 | some i =>
  have hi : i.size = sz:=by simpa [hq] using hs
  simp [Builtin.copy_,run_underlying hu,Builtin.lenOf,Builtin.firstCells,sizeOf,typeInfo,hq,hi,← hn,hl,hst]
theorem run_copy_none_sz (w : World) (dT sT ty elem : TypeId) (sz : Nat) (d a : Option Addr) (dLen dCap sLen sCap : Nat) (hu : P.underlying dT = some (.slice elem)) (hs : (P.info? elem).map (·.size) = some sz) (hn : Nat.min sLen dLen = 0) :
  (Builtin.copy_ #[dT,sT] ty #[.slice d dLen dCap,.slice a sLen sCap]).run P w = .ok (goInt 0) w:=by
 cases hq : P.info? elem with
 | none => simp [hq] at hs
 | some i =>
  have hn' : min sLen dLen = 0:=hn;cases d <;> cases a <;> simp [Builtin.copy_,run_underlying hu,Builtin.lenOf,Builtin.firstCells,sizeOf,typeInfo,hq,hn',loadCells,loadCellsFrom,storeCells]
theorem copy_run {W : World} (sz : Nat) (d s : Operand) (dT sT : TypeId) (ho : o.op = .call { callee:=.builtin .copy,args:=#[d,s],argTypes:=#[dT,sT] }) (elem : TypeId) (hu : P.underlying dT = some (.slice elem)) (hsz : (P.info? elem).map (·.size) = some sz)
  (dp sp : Option Addr) (dLen dCap sLen sCap : Nat) (hd : a.eval d = .slice dp dLen dCap) (hs : a.eval s = .slice sp sLen sCap)
  (g off : Nat) (cur : Array Value) (t : TypeId) (hg : W.heap[g]? = some (.cells cur t (0,0))) (cs : List Value) (k : Nat) (hk : Nat.min sLen dLen = k) (hn : cs.length = k * sz)
  (hpos : 0 < cs.length → dp = some ⟨g,off,none⟩ ∧ ∃ ad,sp = some ad ∧ ∀ j v,cs[j]? = some v → W.cell? (ad.add j) = some v)
  (hfit : off + cs.length ≤ cur.size) (h1 : ∀ v ∈ cs,v.oneCell' = true) (hz : 0 < sz) :
  ∃ w',(execOp a.eval o).run P W = .ok (.value (goInt k)) w' ∧ (∃ cur',w'.heap[g]? = some (.cells cur' t (0,0)) ∧ cur'.size = cur.size ∧ cur'.toList = cur.toList.take off ++ cs ++ cur.toList.drop (off + cs.length)) ∧ W.grownBy w' (some g):=by
 subst hk
 by_cases h0 : Nat.min sLen dLen = 0
 case pos =>
  obtain rfl : cs = []:=List.eq_nil_of_length_eq_zero (by rw [hn,h0,Nat.zero_mul]);have hrun:=run_copy_none_sz (P:=P) W dT sT o.type elem sz dp sp dLen dCap sLen sCap hu hsz h0;refine ⟨W,by simp [execOp,ho,resolve,invoke,builtin,hd,hs,hrun,Result.andThen,h0],⟨cur,hg,rfl,by simp⟩,⟨rfl,rfl,rfl,Nat.le_refl _,fun _ _ _ => rfl⟩⟩
 have hp : 0 < cs.length:=by rw [hn]; exact Nat.mul_pos (by omega) hz
 obtain ⟨rfl,ad,rfl,hsrc⟩:=hpos hp;obtain ⟨c2,hh2,hs2,hl2⟩:=setCells_row cs off W cur hg hfit;obtain ⟨s1,s2,s3,s4⟩:=setCells_same g cs off W;have hrun:=run_copy_sz (P:=P) W dT sT o.type elem sz g off dLen dCap ad sLen sCap cs hu hsz hn hsrc (fun j hj => by rw [cell_of_row W g _ cur t (0,0) hg]; simp; omega) (fun j _ => blk_frozen hg _) h1;exact ⟨_,by simp [execOp,ho,resolve,invoke,builtin,hd,hs,hrun,Result.andThen],⟨c2,hh2,hs2,hl2⟩,⟨s1,s2,s3,by rw [s4]; exact Nat.le_refl _,fun k _ hk => setCells_far cs off k (fun he => hk (by rw [he]))⟩⟩
theorem copy_event {W : World} (hgd : o.guard = none) (sz : Nat) (d s : Operand) (dT sT : TypeId) (ho : o.op = .call { callee:=.builtin .copy,args:=#[d,s],argTypes:=#[dT,sT] }) (elem : TypeId) (hu : P.underlying dT = some (.slice elem)) (hsz : (P.info? elem).map (·.size) = some sz)
  (dp sp : Option Addr) (dLen dCap sLen sCap : Nat) (hd : a.eval d = .slice dp dLen dCap) (hs : a.eval s = .slice sp sLen sCap)
  (g off : Nat) (cur : Array Value) (t : TypeId) (hg : W.heap[g]? = some (.cells cur t (0,0))) (cs : List Value) (k : Nat) (hk : Nat.min sLen dLen = k) (hn : cs.length = k * sz)
  (hpos : 0 < cs.length → dp = some ⟨g,off,none⟩ ∧ ∃ ad,sp = some ad ∧ ∀ j v,cs[j]? = some v → W.cell? (ad.add j) = some v)
  (hfit : off + cs.length ≤ cur.size) (h1 : ∀ v ∈ cs,v.oneCell' = true) (hz : 0 < sz)
  (h : ∀ w',(∃ cur',w'.heap[g]? = some (.cells cur' t (0,0)) ∧ cur'.size = cur.size ∧ cur'.toList = cur.toList.take off ++ cs ++ cur.toList.drop (off + cs.length)) → W.grownBy w' (some g) → wpList P ops Q rest (a.put o.dst (goInt k)) w') : wpList P ops Q (o :: rest) a W:=by
 obtain ⟨w',hr,h2,h3⟩:=copy_run sz d s dT sT ho elem hu hsz dp sp dLen dCap sLen sCap hd hs g off cur t hg cs k hk hn hpos hfit h1 hz;refine wpList_plain hgd fun K hK => ?_
 unfold Oper.wp
 rw [hr];exact hK _ _ (h w' h2 h3)
theorem copy_step {W : World} {K : Act → World → Prop} {E : Prop} (hgd : o.guard = none) (sz : Nat) (d s : Operand) (dT sT : TypeId) (ho : o.op = .call { callee:=.builtin .copy,args:=#[d,s],argTypes:=#[dT,sT] }) (elem : TypeId) (hu : P.underlying dT = some (.slice elem)) (hsz : (P.info? elem).map (·.size) = some sz)
  (dp sp : Option Addr) (dLen dCap sLen sCap : Nat) (hd : a.eval d = .slice dp dLen dCap) (hs : a.eval s = .slice sp sLen sCap)
  (g off : Nat) (cur : Array Value) (t : TypeId) (hg : W.heap[g]? = some (.cells cur t (0,0))) (cs : List Value) (k : Nat) (hk : Nat.min sLen dLen = k) (hn : cs.length = k * sz)
  (hpos : 0 < cs.length → dp = some ⟨g,off,none⟩ ∧ ∃ ad,sp = some ad ∧ ∀ j v,cs[j]? = some v → W.cell? (ad.add j) = some v)
  (hfit : off + cs.length ≤ cur.size) (h1 : ∀ v ∈ cs,v.oneCell' = true) (hz : 0 < sz)
  (h : ∀ w',(∃ cur',w'.heap[g]? = some (.cells cur' t (0,0)) ∧ cur'.size = cur.size ∧ cur'.toList = cur.toList.take off ++ cs ++ cur.toList.drop (off + cs.length)) → W.grownBy w' (some g) → K (a.put o.dst (goInt k)) w') : if Region.wanted o (yielded ops a.tmps) = true then Oper.wp P o a W K Q else E:=by
 obtain ⟨w',hr,h2,h3⟩:=copy_run sz d s dT sT ho elem hu hsz dp sp dLen dCap sLen sCap hd hs g off cur t hg cs k hk hn hpos hfit h1 hz;rw [if_pos (show Region.wanted o (yielded ops a.tmps) = true by simp [Region.wanted,hgd])]
 unfold Oper.wp
 rw [hr];exact h w' h2 h3
theorem made_take (z : Array Value) (m n : Nat) (h : m ≤ n) : (madeCells z n).toList.take m = (madeCells z m).toList:=by
 apply List.ext_getElem
 ·simp [size_madeCells]; omega
 ·intro i h1 h2;simp [madeCells]
theorem made_mem (z : Array Value) (n : Nat) (hz : 0 < z.size) : ∀ v ∈ (madeCells z n).toList,v ∈ z.toList:=by
 intro v hv;simp only [madeCells,Array.toList_map,List.mem_map] at hv;obtain ⟨i,_,rfl⟩:=hv;have h : i % z.size < z.size:=Nat.mod_lt _ hz;rw [getElem!_pos z _ h];exact Array.getElem_mem_toList h
theorem made_append (z : Array Value) (sz m n : Nat) (hz : z.size = sz) : (madeCells z (m * sz)).toList ++ (madeCells z (n * sz)).toList = (madeCells z ((m + n) * sz)).toList:=by
 apply List.ext_getElem
 ·simp [size_madeCells,Nat.add_mul]
 ·intro i h1 h2
  by_cases c : i < m * sz
  case pos =>
   rw [List.getElem_append_left (by simpa [size_madeCells] using c)];simp [madeCells]
  rw [List.getElem_append_right (by simpa [size_madeCells] using Nat.le_of_not_lt c)];have e : (i - m * sz) % sz = i % sz:=by
   have : i = (i - m * sz) + m * sz:=by omega
   conv => rhs; rw [this,Nat.add_mul_mod_self_right]
  simp [madeCells,size_madeCells,hz,e]
theorem make_event {W : World} (hgd : o.guard = none) {cs : Array Value} {t : TypeId} {n : Nat}
  (hrun : (execOp a.eval o).run P W = .ok (.value (.slice (some ⟨W.heap.size,0,none⟩) n n)) (W.alloc (.cells cs t)))
  (h : ∀ g,g = W.heap.size → ∀ w1,w1.heap[g]? = some (.cells cs t (0,0)) → Below W.heap.size W w1 → wpList P ops Q rest (a.put o.dst (.slice (some ⟨g,0,none⟩) n n)) w1) : wpList P ops Q (o :: rest) a W :=
 Kd.event_run hgd hrun (h _ rfl _ (blk_new W _) (below_alloc (Below.refl _ _) _))
end
end Go.Proofs.YtljdcinpjnijcaaW.PrintWords
end
section
namespace Go.Proofs.Ytljdcinpjnijcaa.Pr
open Go.RowKit Go.Proofs.YtljdcinpjnijcaaW.PrintWords Go.Proofs.YtljdcinpjnijcaaW.PrintLast Go.Proofs.YtljdcinpjnijcaaW.PrintMore
attribute [local go_sem] max2_int min2_int max_two min_two max_three min_three max_four min_four
set_option linter.unusedVariables false
set_option linter.unusedSimpArgs false
open List renaming setIfInBounds_toArray → J,set_cons_zero → U,set_cons_succ → V
open Go.Proofs.YtljdcinpjnijcaaW.PrintWords.Aside0 renaming mk → Z
def impl_Net_back.l0 : Nat → List (S34) → Int → Int → Int → List (S34) → Option (Int × (List (S34)))
 | 0,_,_,_,_,_ => none
 | k + 1,x14,x15,x16,s9,s3 => if x16 < x15 then (if 0 ≤ x16 then (if x16 < (x14.length : Int) then (if s3.length < 3518437208883 then (impl_Net_back.l0 k x14 x15 (wrap64 (x16 + 1)) s9 (s3 ++ [(⟨(rd_T34 x14 x16).f1,(rd_T34 x14 x16).f0,(rd_T34 x14 x16).f2,(rd_T34 x14 x16).f3,(rd_T34 x14 x16).f4⟩ : S34)])) else (none)) else (none)) else (none)) else (some (s9,s3))
def impl_Net_back.f (k : Nat) (a0_0 : Int) (l0_1 : List (S34)) : Option (Int × (List (S34))):=if 0 ≤ (l0_1.length : Int) then (if ((l0_1.length : Int) : Int).toNat ≤ 7036874417766 then (impl_Net_back.l0 k l0_1 (l0_1.length : Int) 0 a0_0 (([] : List (S34)))) else (none)) else (none)
def impl_Net_back.T1 : Bool × List (List Nat × List Nat):=(true,[([],[]),([0],[0]),([],[]),([2],[2]),([3],[3]),([4],[4]),([1,5],[1,5]),([],[]),([7,6,0,1,2,3,4,5,6,7],[6,7])])
def impl_Net_back.B1 : List Nat:=[0,1,0,4,12,28,63,0,255]
theorem impl_Net_back.tab1 : rtab .any (opsOf Try.f92 1) = impl_Net_back.T1:=by kernel_rfl
theorem impl_Net_back.bits1 : waitsOk impl_Net_back.T1.2 impl_Net_back.B1 = true:=by kernel_rfl
set_option maxHeartbeats 8000000 in
set_option maxRecDepth 100000 in
theorem impl_Net_back.calls (k : Nat) (a0_0 : Int) (A0_1 : Option Addr) (c0_1 : Nat) (l0_1 : List (S34)) (r1 : Int) (r2 : List (S34)) (w : World) (hr0_1 : Kd.C k34 w A0_1 l0_1.length l0_1) (hc0_1 : l0_1.length ≤ c0_1) (h : impl_Net_back.f k a0_0 l0_1 = some (r1,r2)) :
  Calls Try.prog 92 #[.agg #[.int .i64 a0_0,.slice A0_1 l0_1.length c0_1]] w fun e w' => ∃ v1_ : Value,e = .returned (.agg #[.int .i64 r1,v1_]) ∧ Kd.R k34 34 w' w.heap.size (fun _ => True) v1_ r2 ∧ Below w.heap.size w w':=by
 have hu25:=Try.underlying25;have hu34:=Try.underlying34;have HR0_1:=Z hr0_1;have HC0_1:=Z hc0_1;clear hr0_1 hc0_1;have HB:=Z (Below.refl w.heap.size w);have H : (if 0 ≤ (l0_1.length : Int) then (if ((l0_1.length : Int) : Int).toNat ≤ 7036874417766 then (impl_Net_back.l0 k l0_1 (l0_1.length : Int) 0 a0_0 (([] : List (S34)))) else (none)) else (none)) = some (r1,r2):=h;clear h
 by_cases c2 : 0 ≤ (l0_1.length : Int)
 case neg =>
  rw [if_neg c2] at H;exact absurd H (by simp)
 rw [if_pos c2] at H;have c2b0:=eq_true c2;have c2b1 : decide (0 ≤ (l0_1.length : Int)) = true:=decide_eq_true c2;clear c2
 by_cases c3 : ((l0_1.length : Int) : Int).toNat ≤ 7036874417766
 case neg =>
  rw [if_neg c3] at H;exact absurd H (by simp)
 rw [if_pos c3] at H;have c3b0:=eq_true c3;have c3b1 : decide (((l0_1.length : Int) : Int).toNat ≤ 7036874417766) = true:=decide_eq_true c3;clear c3;obtain ⟨y210,hy210⟩ : ∃ y_ : List (S34),y_ = (([] : List (S34))):=⟨_,rfl⟩
 replace H : (impl_Net_back.l0 k l0_1 (l0_1.length : Int) 0 a0_0 y210) = some (r1,r2):=by first | (rw [hy210]; with_reducible exact H) | (have H2_:=(Option.bind_some _ _).symm.trans H; rw [hy210]; with_reducible exact H2_) | (have H2_:=(Option.bind_some _ _).symm.trans H; with_reducible exact H2_) | with_reducible exact H | (rw [hy210]; exact H) | exact H
 have Ny210:=Z hy210;clear hy210;have H':=Z H;clear H
 go_enter Try.func92,Try.ntmps92
 try go_wp2_with (first | ((with_reducible refine gate_dst (N:=1) rfl ?_); refine box_event ?hg (N:=1) ?hd (cs:=#[.int .i64 a0_0,.slice A0_1 l0_1.length c0_1]) (t:=25) ?hr ?_; (case hd => rfl); (case hg => rfl); (case hr => first | (go_simp; done) | (go_simp; rfl)); intro q2 hg w4 hbox hb; have n0_:=Z (below_step HB.out hb); have n1_:=Z (hbox); have n2_:=Z ((by rw [hg]; exact (below_size HB.out) : w.heap.size ≤ q2)); have n3_:=Z ((by rw [hg]; exact (below_size HB.out) : w.heap.size ≤ q2)); clear HB; have HB:=n0_; have p6:=n1_; have GW208:=n2_; have t1:=n3_; clear n0_ n1_ n2_ n3_; clear hb hbox hg) | ((with_reducible refine gate_dst (N:=2) rfl ?_); refine box_event ?hg (N:=2) ?hd (cs:=#[.int .i64 0,.slice none 0 0]) (t:=25) ?hr ?_; (case hd => rfl); (case hg => rfl); (case hr => first | (go_simp; done) | (go_simp; rfl)); intro q9 hg w5 hbox hb; have n0_:=Z (blk_below (g:=q2) (o:=.cells #[.int .i64 a0_0,.slice A0_1 l0_1.length c0_1] 25 (0,0)) p6.out hb); have n1_:=Z (below_step HB.out hb); have n2_:=Z (hbox); have n3_:=Z ((by rw [hg]; exact (below_size HB.out) : w.heap.size ≤ q9)); have n4_:=Z ((by rw [hg]; exact (below_size HB.out) : w.heap.size ≤ q9)); have n5_:=Z ((by rw [hg]; exact Nat.ne_of_lt (blk_lt (g:=q2) (o:=.cells #[.int .i64 a0_0,.slice A0_1 l0_1.length c0_1] 25 (0,0)) p6.out) : q2 ≠ q9)); have n6_:=Z ((by rw [hg]; exact Nat.ne_of_gt (blk_lt (g:=q2) (o:=.cells #[.int .i64 a0_0,.slice A0_1 l0_1.length c0_1] 25 (0,0)) p6.out) : q9 ≠ q2)); clear p6; clear HB; have p6:=n0_; have HB:=n1_; have p8:=n2_; have GW209:=n3_; have t2:=n4_; have s1:=n5_; have s2:=n6_; clear n0_ n1_ n2_ n3_ n4_ n5_ n6_; clear hb hbox hg))
 have n0_:=Z (blk_drew p6.out);have n1_:=Z (blk_drew p8.out);have n2_:=Z (below_drew1 HB.out);clear p6;clear p8;clear HB;have p6:=n0_;have p8:=n1_;have HB:=n2_;clear n0_ n1_ n2_;refine start_ (n:=9) (S:=fun w' => True) (ds:=[]) #[false,false,false,false,false,false,false,false,false] (by kernel_rfl) rfl rfl trivial (fun hHeld => ?_); refine with_tabW impl_Net_back.tab1 impl_Net_back.bits1 (fun HT_ HW_ => ?_);generalize w5.drew = w6 at p6 p8 HB hHeld ⊢;refine pure_ (i:=0) (N:=some 6) (v:=?_) (a':=?_) #[true,false,false,false,false,false,false,false,false] rfl rfl (any_of HT_.out (by kernel_rfl)) (fun _ _ _ h => h) (Or.inl ⟨by rfl,?_⟩) ?_ ?_;rotate_left
 ·intro w';go_simp;with_reducible rfl
 rotate_left
 ·simp only [Act.put,J,U,V,i64_w,i32_w];rfl
 refine pure_ (i:=2) (N:=some 8) (v:=?_) (a':=?_) #[true,false,true,false,false,false,false,false,false] rfl rfl (any_of HT_.out (by kernel_rfl)) (fun _ _ _ h => h) (Or.inl ⟨by rfl,?_⟩) ?_ ?_;rotate_left
 ·intro w';go_simp;with_reducible rfl
 rotate_left
 ·simp only [Act.put,J,U,V,i64_w,i32_w];rfl
 refine inv_at [1,3,4,5,6,7,8] (fun a0_ b a w' => ∃ (v211 : Value) (p7 : Nat) (m6_ : Value) (m7_ : Value),a = putSel a0_ b [(1,7,.int .i64 a0_0),(3,9,.slice A0_1 l0_1.length c0_1),(4,10,.int .i64 (l0_1.length : Int)),(5,11,v211),(6,12,m6_),(7,3,m7_)] ∧ (w'.heap[q2]? = some (.cells #[.int .i64 a0_0,.slice A0_1 l0_1.length c0_1] 25 (0,0))) ∧ (w'.heap[q9]? = some (.cells #[.int .i64 0,.slice none 0 0] 25 (0,0))) ∧ (Below w.heap.size w w') ∧ (b 5 = true → Kd.R k34 34 w' w.heap.size (fun _ => True) v211 y210) ∧ (b 7 = true → b 8 = false → w'.heap[p7]? = some (.cells #[.int .i64 0,.slice none 0 0] 25 (0,0))) ∧ (b 7 = true → w.heap.size ≤ p7) ∧ (b 7 = true → w.heap.size ≤ p7) ∧ (b 7 = true → q2 ≠ p7) ∧ (b 7 = true → p7 ≠ q2) ∧ (b 7 = true → q9 ≠ p7) ∧ (b 7 = true → p7 ≠ q9) ∧ (b 8 = true → w'.heap[p7]? = some (.cells #[.int .i64 a0_0,v211] 25 (0,0))) ∧ (b 6 = true → (m6_ : Value) = .agg #[.int .i64 a0_0,v211]) ∧ (b 7 = true → (m7_ : Value) = .pointer (some ⟨p7,0,none⟩))) HT_.out HW_.out (by kernel_rfl) (by kernel_rfl) ?_ ?_ ?_
 ·exact ⟨.bool false,0,.bool false,.bool false,by simp only [putSel,Bool.false_eq_true,if_false],p6.out,p8.out,HB.out,fun h_ => absurd h_ (by decide),fun h_ => absurd h_ (by decide),fun h_ => absurd h_ (by decide),fun h_ => absurd h_ (by decide),fun h_ => absurd h_ (by decide),fun h_ => absurd h_ (by decide),fun h_ => absurd h_ (by decide),fun h_ => absurd h_ (by decide),fun h_ => absurd h_ (by decide),fun h_ => absurd h_ (by decide),fun h_ => absurd h_ (by decide)⟩
 ·skip
  clear p6 p8 HB;refine steps_cons ?_ ?_
  ·rintro b a w' ⟨v211,p7,m6_,m7_,ha,p9,q0,Q_HB,q3,q8,q4,q5,p1,p3,p4,p5,q6,r7,r6⟩ hb_ hon hoff;refine ⟨_,rfl,fun K hK => ?_⟩;have e6 : a.tmps[6]? = some (.pointer (some ⟨q2,0,none⟩)):=by rw [ha]; exact (putSel_off rfl).trans rfl
   replace ha:=Z ha;have p6:=Z p9;have p8:=Z q0;have HB:=Z Q_HB;have hc0_ : w'.cell? ⟨q2,0,none⟩ = some (.int .i64 a0_0):=(blk_cell p6.out 0).trans rfl;have hc1_ : w'.cell? ⟨q2,1,none⟩ = some (.slice A0_1 l0_1.length c0_1):=(blk_cell p6.out 1).trans rfl;refine value_ (w1:=w') (v:=.int .i64 a0_0) (by rfl) rfl ?_ ?_
   ·go_simp
    (try simp only [i64_w])
    try rfl
   refine hK.out _ _ ⟨v211,p7,m6_,m7_,(by rw [ha.out]; exact putSel_upk 0 hb_ rfl rfl rfl),p9,q0,Q_HB,q3,q8,q4,q5,p1,p3,p4,p5,fun h0_ => absurd ((hoff 8 (by kernel_rfl)).symm.trans h0_) (by decide),fun h0_ => absurd ((hoff 6 (by kernel_rfl)).symm.trans h0_) (by decide),r6⟩
  refine steps_cons ?_ ?_
  ·rintro b a w' ⟨v211,p7,m6_,m7_,ha,p9,q0,Q_HB,q3,q8,q4,q5,p1,p3,p4,p5,q6,r7,r6⟩ hb_ hon hoff;refine ⟨_,rfl,fun K hK => ?_⟩;have e8 : a.tmps[8]? = some (.pointer (some ⟨q2,1,none⟩)):=by rw [ha]; exact (putSel_off rfl).trans rfl
   replace ha:=Z ha;have p6:=Z p9;have p8:=Z q0;have HB:=Z Q_HB;have hc0_ : w'.cell? ⟨q2,0,none⟩ = some (.int .i64 a0_0):=(blk_cell p6.out 0).trans rfl;have hc1_ : w'.cell? ⟨q2,1,none⟩ = some (.slice A0_1 l0_1.length c0_1):=(blk_cell p6.out 1).trans rfl;refine value_ (w1:=w') (v:=.slice A0_1 l0_1.length c0_1) (by rfl) rfl ?_ ?_
   ·go_simp
    (try simp only [i64_w])
    try rfl
   refine hK.out _ _ ⟨v211,p7,m6_,m7_,(by rw [ha.out]; exact putSel_upk 1 hb_ rfl rfl rfl),p9,q0,Q_HB,fun h0_ => absurd ((hoff 5 (by kernel_rfl)).symm.trans h0_) (by decide),q8,q4,q5,p1,p3,p4,p5,fun h0_ => absurd ((hoff 8 (by kernel_rfl)).symm.trans h0_) (by decide),fun h0_ => absurd ((hoff 6 (by kernel_rfl)).symm.trans h0_) (by decide),r6⟩
  refine steps_cons ?_ ?_
  ·rintro b a w' ⟨v211,p7,m6_,m7_,ha,p9,q0,Q_HB,q3,q8,q4,q5,p1,p3,p4,p5,q6,r7,r6⟩ hb_ hon hoff;refine ⟨_,rfl,fun K hK => ?_⟩;have e9 : a.tmps[9]? = some (.slice A0_1 l0_1.length c0_1):=by rw [ha]; exact putSel_on (e:=(3,9,.slice A0_1 l0_1.length c0_1)) 1 rfl rfl (hon 3 (by kernel_rfl)) rfl
   replace ha:=Z ha;have p6:=Z p9;have p8:=Z q0;have HB:=Z Q_HB;refine value_ (w1:=w') (v:=.int .i64 (l0_1.length : Int)) (by rfl) rfl ?_ ?_
   ·go_simp
    (try simp only [i64_w])
    try rfl
   refine hK.out _ _ ⟨v211,p7,m6_,m7_,(by rw [ha.out]; exact putSel_upk 2 hb_ rfl rfl rfl),p9,q0,Q_HB,fun h0_ => absurd ((hoff 5 (by kernel_rfl)).symm.trans h0_) (by decide),q8,q4,q5,p1,p3,p4,p5,fun h0_ => absurd ((hoff 8 (by kernel_rfl)).symm.trans h0_) (by decide),fun h0_ => absurd ((hoff 6 (by kernel_rfl)).symm.trans h0_) (by decide),r6⟩
  refine steps_cons ?_ ?_
  ·rintro b a w' ⟨v211,p7,m6_,m7_,ha,p9,q0,Q_HB,q3,q8,q4,q5,p1,p3,p4,p5,q6,r7,r6⟩ hb_ hon hoff;refine ⟨_,rfl,fun K hK => ?_⟩;have e10 : a.tmps[10]? = some (.int .i64 (l0_1.length : Int)):=by rw [ha]; exact putSel_on (e:=(4,10,.int .i64 (l0_1.length : Int))) 2 rfl rfl (hon 4 (by kernel_rfl)) rfl
   replace ha:=Z ha;have p6:=Z p9;have p8:=Z q0;have HB:=Z Q_HB;refine Kd.R_make0_step k34 _ 34 (by rfl) (N:=11) rfl 23 _ _ rfl (l0_1.length : Int) (by first | rfl | (go_simp; done) | (go_simp; rfl)) (by first | rfl | (go_simp; done) | (go_simp; rfl)) Try.underlying23 (.agg #[(.int .i64 0),(.int .i64 0),(.int .i64 0),(.int .i64 0),(.int .i64 0)]) 40 info34 rfl (by decide) (by omega) z34 (ok:=fun _ => True) (okp:=fun _ => True) (k34_mkM _ _ _ z34 ) (fun _ hk => hk) trivial (of_decide_eq_true (by first | (with_reducible assumption) | assumption)) (Nat.le_trans (Nat.mul_le_mul_right _ (of_decide_eq_true (by first | (with_reducible assumption) | assumption) : (l0_1.length : Int).toNat ≤ 7036874417766)) (by omega)) (Below.refl _ _) (Nat.le_refl _) ?_;intro v211 w7 ho8 hb hg_ hnew_;clear hg_ hnew_
   (first | rw [← Ny210.out] at ho8 | (simp only [Int.reduceToNat] at ho8; rw [← Ny210.out] at ho8))
   have n0_:=Z (Kd.R_lower ho8 (below_size HB.out));have n1_:=Z (blk_below (g:=q2) (o:=.cells #[.int .i64 a0_0,.slice A0_1 l0_1.length c0_1] 25 (0,0)) p6.out hb);have n2_:=Z (blk_below (g:=q9) (o:=.cells #[.int .i64 0,.slice none 0 0] 25 (0,0)) p8.out hb);have n3_:=Z (below_step HB.out hb);have t3:=fun (h0_ : b 7 = true) (h1_ : b 8 = false) => (show w7.heap[p7]? = some (.cells #[.int .i64 0,.slice none 0 0] 25 (0,0)) from by first | exact (blk_below (g:=p7) (o:=.cells #[.int .i64 0,.slice none 0 0] 25 (0,0)) (q8 h0_ h1_) hb))
   clear p6;clear p8;clear HB;have HO212:=n0_;have p6:=n1_;have p8:=n2_;have HB:=n3_;clear n0_ n1_ n2_ n3_;clear hb ho8;obtain ⟨Ao9,co9,eo9⟩:=Kd.R_slice HO212.out
   (first | subst eo9 | (injection eo9 with f1_ f2_ f3_; have f4_:=f1_.symm; have f5_:=f3_.symm; clear f1_ f2_ f3_; subst f4_; subst f5_))
   refine hK.out _ _ ⟨.slice Ao9 y210.length co9,p7,m6_,m7_,(by rw [ha.out]; exact putSel_upk 3 hb_ rfl rfl rfl),p6.out,p8.out,HB.out,fun _ => HO212.out,t3,q4,q5,p1,p3,p4,p5,fun h0_ => absurd ((hoff 8 (by kernel_rfl)).symm.trans h0_) (by decide),fun h0_ => absurd ((hoff 6 (by kernel_rfl)).symm.trans h0_) (by decide),r6⟩
  refine steps_cons ?_ ?_
  ·rintro b a w' ⟨v211,p7,m6_,m7_,ha,p9,q0,Q_HB,q3,q8,q4,q5,p1,p3,p4,p5,q6,r7,r6⟩ hb_ hon hoff;refine ⟨_,rfl,fun K hK => ?_⟩;have e7 : a.tmps[7]? = some (.int .i64 a0_0):=by rw [ha]; exact putSel_on (e:=(1,7,.int .i64 a0_0)) 0 rfl rfl (hon 1 (by kernel_rfl)) rfl
   have e11 : a.tmps[11]? = some (v211):=by rw [ha]; exact putSel_on (e:=(5,11,v211)) 3 rfl rfl (hon 5 (by kernel_rfl)) rfl
   replace ha:=Z ha;have p6:=Z p9;have p8:=Z q0;have HB:=Z Q_HB;have HO212:=Z (q3 (hon 5 (by kernel_rfl)));obtain ⟨Ao6_0,co6_0,eo_⟩:=Kd.R_slice HO212.out;subst eo_;refine value_ (w1:=w') (v:=.agg #[.int .i64 a0_0,.slice Ao6_0 y210.length co6_0]) (by rfl) rfl ?_ ?_
   ·go_simp
    (try simp only [i64_w])
    try rfl
   refine hK.out _ _ ⟨.slice Ao6_0 y210.length co6_0,p7,(.agg #[.int .i64 a0_0,.slice Ao6_0 y210.length co6_0]),m7_,(by rw [ha.out]; exact putSel_upk 4 hb_ rfl rfl rfl),p9,q0,Q_HB,q3,q8,q4,q5,p1,p3,p4,p5,fun h0_ => absurd ((hoff 8 (by kernel_rfl)).symm.trans h0_) (by decide),fun _ => rfl,r6⟩
  refine steps_cons ?_ ?_
  ·rintro b a w' ⟨v211,p7,m6_,m7_,ha,p9,q0,Q_HB,q3,q8,q4,q5,p1,p3,p4,p5,q6,r7,r6⟩ hb_ hon hoff;refine ⟨_,rfl,fun K hK => ?_⟩;replace ha:=Z ha;have p6:=Z p9;have p8:=Z q0;have HB:=Z Q_HB;refine box_step ?hg (N:=3) ?hd (cs:=#[.int .i64 0,.slice none 0 0]) (t:=25) ?hr ?_; (case hd => rfl); (case hg => rfl); (case hr => first | (go_simp; done) | (go_simp; rfl));intro p7 hg w7 hbox hb;have n0_:=Z (blk_below (g:=q2) (o:=.cells #[.int .i64 a0_0,.slice A0_1 l0_1.length c0_1] 25 (0,0)) p6.out hb);have n1_:=Z (blk_below (g:=q9) (o:=.cells #[.int .i64 0,.slice none 0 0] 25 (0,0)) p8.out hb);have n2_:=Z (below_step HB.out hb);have n3_:=Z (hbox);have n4_:=Z ((by rw [hg]; exact (below_size HB.out) : w.heap.size ≤ p7));have n5_:=Z ((by rw [hg]; exact (below_size HB.out) : w.heap.size ≤ p7));have n6_:=Z ((by rw [hg]; exact Nat.ne_of_lt (blk_lt (g:=q2) (o:=.cells #[.int .i64 a0_0,.slice A0_1 l0_1.length c0_1] 25 (0,0)) p6.out) : q2 ≠ p7));have n7_:=Z ((by rw [hg]; exact Nat.ne_of_gt (blk_lt (g:=q2) (o:=.cells #[.int .i64 a0_0,.slice A0_1 l0_1.length c0_1] 25 (0,0)) p6.out) : p7 ≠ q2));have n8_:=Z ((by rw [hg]; exact Nat.ne_of_lt (blk_lt (g:=q9) (o:=.cells #[.int .i64 0,.slice none 0 0] 25 (0,0)) p8.out) : q9 ≠ p7));have n9_:=Z ((by rw [hg]; exact Nat.ne_of_gt (blk_lt (g:=q9) (o:=.cells #[.int .i64 0,.slice none 0 0] 25 (0,0)) p8.out) : p7 ≠ q9));have t4:=fun (h0_ : b 5 = true) => (show Kd.R k34 34 w7 w.heap.size (fun _ => True) v211 y210 from by first | exact (Kd.R_below (q3 h0_) hb) | exact Kd.R_mono (Kd.R_below (q3 h0_) hb) (fun _ h_ => by first | trivial | exact h_ | exact h_.1))
   clear p6;clear p8;clear HB;have p6:=n0_;have p8:=n1_;have HB:=n2_;have r4:=n3_;have t0:=n4_;have s0:=n5_;have q1:=n6_;have r0:=n7_;have q7:=n8_;have r5:=n9_;clear n0_ n1_ n2_ n3_ n4_ n5_ n6_ n7_ n8_ n9_;clear hb hbox hg;refine hK.out _ _ ⟨v211,p7,m6_,(.pointer (some ⟨p7,0,none⟩)),(by rw [ha.out]; exact putSel_upk 5 hb_ rfl rfl rfl),p6.out,p8.out,HB.out,t4,fun _ _ => r4.out,fun _ => t0.out,fun _ => s0.out,fun _ => q1.out,fun _ => r0.out,fun _ => q7.out,fun _ => r5.out,fun h0_ => absurd ((hoff 8 (by kernel_rfl)).symm.trans h0_) (by decide),r7,fun _ => rfl⟩
  refine steps_cons ?_ ?_
  ·rintro b a w' ⟨v211,p7,m6_,m7_,ha,p9,q0,Q_HB,q3,q8,q4,q5,p1,p3,p4,p5,q6,r7,r6⟩ hb_ hon hoff;refine ⟨_,rfl,fun K hK => ?_⟩;have e3 : a.tmps[3]? = some (m7_):=by rw [ha]; exact putSel_on (e:=(7,3,m7_)) 5 rfl rfl (hon 7 (by kernel_rfl)) rfl
   rw [r6 (hon 7 (by kernel_rfl))] at e3;have e12 : a.tmps[12]? = some (m6_):=by rw [ha]; exact putSel_on (e:=(6,12,m6_)) 4 rfl rfl (hon 6 (by kernel_rfl)) rfl
   rw [r7 (hon 6 (by kernel_rfl))] at e12;replace ha:=Z ha;have p6:=Z p9;have p8:=Z q0;have HB:=Z Q_HB;have HO212:=Z (q3 (hon 5 (by kernel_rfl)));have r4:=Z (q8 (hon 7 (by kernel_rfl)) hb_);have t0:=Z (q4 (hon 7 (by kernel_rfl)));have s0:=Z (q5 (hon 7 (by kernel_rfl)));have q1:=Z (p1 (hon 7 (by kernel_rfl)));have r0:=Z (p3 (hon 7 (by kernel_rfl)));have q7:=Z (p4 (hon 7 (by kernel_rfl)));have r5:=Z (p5 (hon 7 (by kernel_rfl)));obtain ⟨Ao12,co12,eo12⟩:=Kd.R_slice HO212.out
   (first | subst eo12 | (injection eo12 with f1_ f2_ f3_; have f4_:=f1_.symm; have f5_:=f3_.symm; clear f1_ f2_ f3_; subst f4_; subst f5_))
   have hs13 : w'.cell? ⟨p7,0,none⟩ = some (.int .i64 0):=(blk_cell r4.out 0).trans rfl;have hfs13:=blk_frozen r4.out 0;have hns13_0:=q1.out;have hns13_1:=q7.out;have hms13_0:=r0.out;have hms13_1:=r5.out;have hs14 : w'.cell? ⟨p7,1,none⟩ = some (.slice none 0 0):=(blk_cell r4.out 1).trans rfl;have hfs14:=blk_frozen r4.out 1;have hns14_0:=q1.out;have hns14_1:=q7.out;have hms14_0:=r0.out;have hms14_1:=r5.out;refine skip_ (w1:=?_) (by rfl) rfl ?_ ?_;rotate_left
   ·go_simp;rfl
   refine hK.out _ _ ⟨.slice Ao12 y210.length co12,p7,m6_,m7_,(by rw [ha.out]; exact putSel_none (v:=undef) rfl),(by refine blk_far ?_ q1.out _; refine blk_far ?_ q1.out _; exact p6.out),(by refine blk_far ?_ q7.out _; refine blk_far ?_ q7.out _; exact p8.out),(by repeat (first | (with_reducible first | exact HB.out | apply below_alloc | apply pw_below_drewN | apply below_drew1 | refine below_set ?_ t1.out | refine below_set ?_ t2.out | refine below_set ?_ s0.out) | exact HB.out)),fun _ => (Kd.R_mono (Kd.R_far (p:=⟨p7,1,none⟩) (Kd.R_far (p:=⟨p7,0,none⟩) (Kd.R_types HO212.out r4.out (by decide)) (fun _ hk => hk.2) (.int .i64 a0_0)) (fun _ hk => hk.2) (.slice Ao12 y210.length co12)) (fun _ hk => trivial)),fun _ h1_ => absurd ((up_self b 8).symm.trans h1_) (by decide),fun _ => t0.out,fun _ => s0.out,fun _ => q1.out,fun _ => r0.out,fun _ => q7.out,fun _ => r5.out,fun _ => (by refine blk_put (cs:=#[.int .i64 a0_0,.slice none 0 0]) ?_ 1 _ rfl; refine blk_put (cs:=#[.int .i64 0,.slice none 0 0]) ?_ 0 _ rfl; exact r4.out),r7,r6⟩
  exact steps_nil
 rintro b a w13 hall ⟨v211,p7,m6_,m7_,ha,p9,q0,Q_HB,q3,q8,q4,q5,p1,p3,p4,p5,q6,r7,r6⟩;clear p6 p8 HB;have hb1_:=hall 1 (by kernel_rfl);have hb3_:=hall 3 (by kernel_rfl);have hb4_:=hall 4 (by kernel_rfl);have hb5_:=hall 5 (by kernel_rfl);have hb6_:=hall 6 (by kernel_rfl);have hb7_:=hall 7 (by kernel_rfl);have hb8_:=hall 8 (by kernel_rfl);subst ha;obtain rfl:=r7 hb6_;obtain rfl:=r6 hb7_;simp only [putSel,hb1_,hb3_,hb4_,hb5_,hb6_,hb7_,hb8_,if_true,Act.put,J,U,V];have p6:=Z p9;clear p9;have p8:=Z q0;clear q0;have HB:=Z Q_HB;clear Q_HB;have HO212:=Z (q3 hb5_);clear q3;clear q8;have t0:=Z (q4 hb7_);clear q4;have s0:=Z (q5 hb7_);clear q5;have q1:=Z (p1 hb7_);clear p1;have r0:=Z (p3 hb7_);clear p3;have q7:=Z (p4 hb7_);clear p4;have r5:=Z (p5 hb7_);clear p5;have r4:=Z (q6 hb8_);clear q6;clear hall hb1_ hb3_ hb4_ hb5_ hb6_ hb7_ hb8_;obtain ⟨Ao14,co14,eo14⟩:=Kd.R_slice HO212.out
 (first | subst eo14 | (injection eo14 with f1_ f2_ f3_; have f4_:=f1_.symm; have f5_:=f3_.symm; clear f1_ f2_ f3_; subst f4_; subst f5_))
 have hnb15:=s1.out;have hnc15:=s2.out;have hnb16:=q1.out;have hnc16:=r0.out;have t5 : w13.cell? ⟨q2,0,none⟩ = some (.int .i64 a0_0):=(blk_cell p6.out 0).trans rfl;have t6 : w13.cell? ⟨q2,1,none⟩ = some (.slice A0_1 l0_1.length c0_1):=(blk_cell p6.out 1).trans rfl;have t7:=blk_frozen p6.out 0;have t8:=blk_frozen p6.out 1
 try go_wp2
 go_loopg [16] k (fun kq v16 w' => ∃ (p0 : Int) (r3 : List (S34)) (r8 : Value),v16 = .int .i64 p0 ∧ Aside0 (impl_Net_back.l0 kq l0_1 (l0_1.length : Int) p0 a0_0 r3 = some (r1,r2)) ∧ Aside0 (kq ≤ k) ∧ Aside0 (Kd.R k34 34 w' w.heap.size (fun _ => True) r8 r3) ∧ Aside0 (w'.heap[q2]? = some (.cells #[.int .i64 a0_0,(.slice A0_1 l0_1.length c0_1)] 25 (0,0))) ∧ Aside0 (w'.heap[q9]? = some (.cells #[.int .i64 0,(.slice none 0 0)] 25 (0,0))) ∧ Aside0 (w'.heap[p7]? = some (.cells #[.int .i64 a0_0,r8] 25 (0,0))) ∧ Aside0 (Below w.heap.size w w'))
 case atStart => exact ⟨(0),(y210),(.slice Ao14 y210.length co14),(by first | rfl | (simp; done) | (simp [*]; done)),H',⟨Nat.le_refl _⟩,⟨by exact HO212.out⟩,⟨by exact p6.out⟩,⟨by exact p8.out⟩,⟨by exact r4.out⟩,⟨by repeat (first | (with_reducible first | exact HB.out | apply below_alloc | apply pw_below_drewN | apply below_drew1 | refine below_set ?_ t1.out | refine below_set ?_ t2.out | refine below_set ?_ s0.out) | exact HB.out)⟩⟩
 case round =>
  clear H'
  try clear c1
  try clear c2
  try clear c2b0
  try clear c2b1
  try clear p2
  try clear c3
  try clear c3b0
  try clear c3b1
  try clear c9
  try clear c15
  try clear c16
  try clear t5
  try clear t6
  try clear t7
  try clear t8
  obtain ⟨p0,r3,r8,rfl,HA,HK1,r9,p6,p8,r4,HB⟩:=hrel;cases gk with
  | zero => exact absurd HA.out (by simp [impl_Net_back.l0])
  | succ k1 =>
   have H:=HA.out;clear HA;simp only [impl_Net_back.l0] at H
   by_cases c18 : p0 < (l0_1.length : Int)
   case neg =>
    rw [if_neg c18] at H;have c18b0 : decide (p0 < (l0_1.length : Int)) = false:=decide_eq_false c18;clear c18;simp only [Option.some.injEq,Prod.mk.injEq] at H;obtain ⟨rfl,rfl⟩:=H;have hnb33:=r0.out;have hnc33:=q1.out;have hnb34:=r5.out;have hnc34:=q7.out;have hcz35_0 : wr.cell? ⟨p7,0,none⟩ = some (.int .i64 a0_0):=(blk_cell r4.out 0).trans rfl;have hcz35_1 : wr.cell? ⟨p7,1,none⟩ = some (r8):=(blk_cell r4.out 1).trans rfl;have hfz35_0:=blk_frozen r4.out 0;have hfz35_1:=blk_frozen r4.out 1;have hnb36:=s2.out;have hnc36:=s1.out;have hcz37_0 : wr.cell? ⟨q9,0,none⟩ = some (.int .i64 0):=(blk_cell p8.out 0).trans rfl;have hcz37_1 : wr.cell? ⟨q9,1,none⟩ = some (.slice none 0 0):=(blk_cell p8.out 1).trans rfl;have hfz37_0:=blk_frozen p8.out 0;have hfz37_1:=blk_frozen p8.out 1;obtain ⟨Ao38,co38,eo38⟩:=Kd.R_slice r9.out;subst eo38
    go_wp2
    refine bodyPost_ret (results_cell_row rfl _ _ q9 25 #[.int .i64 a0_0,.slice Ao38 r3.length co38] (0,0) _ rfl (by refine blk_put (cs:=#[.int .i64 a0_0,.slice none 0 0]) ?_ 1 _ rfl; refine blk_put (cs:=#[.int .i64 0,.slice none 0 0]) ?_ 0 _ rfl; exact p8.out) Try.underlying25 rfl (by kernel_rfl)) rfl ?_;exact ⟨_,by first | rfl | (simp [errW_none,errW_some] <;> rfl) | (simp [*,errW_none,errW_some] <;> rfl),by exact Kd.R_mono (Kd.R_far (p:=⟨q9,1,none⟩) (Kd.R_far (p:=⟨q9,0,none⟩) (Kd.R_types r9.out p8.out (by decide)) (fun _ hk => hk.2) (.int .i64 a0_0)) (fun _ hk => hk.2) (.slice Ao38 r3.length co38)) (fun _ hk => trivial),by repeat (first | (with_reducible first | exact HB.out | apply below_alloc | apply pw_below_drewN | apply below_drew1 | refine below_set ?_ t1.out | refine below_set ?_ t2.out | refine below_set ?_ s0.out) | exact HB.out)⟩
   rw [if_pos c18] at H;have c18b0 : decide (p0 < (l0_1.length : Int)) = true:=decide_eq_true c18;clear c18
   by_cases c19 : 0 ≤ p0
   case neg =>
    rw [if_neg c19] at H;exact absurd H (by simp)
   rw [if_pos c19] at H;have c19b0 : decide (0 ≤ p0) = true:=decide_eq_true c19;clear c19
   by_cases c20 : p0 < (l0_1.length : Int)
   case neg =>
    rw [if_neg c20] at H;exact absurd H (by simp)
   rw [if_pos c20] at H;have c20b0 : decide (p0 < (l0_1.length : Int)) = true:=decide_eq_true c20;clear c20
   by_cases c21 : r3.length < 3518437208883
   case neg =>
    rw [if_neg c21] at H;exact absurd H (by simp)
   rw [if_pos c21] at H;have LMc21:=Z c21;clear c21;obtain ⟨y216,hy216⟩ : ∃ y_ : List (S34),y_ = (r3 ++ [(⟨(rd_T34 l0_1 p0).f1,(rd_T34 l0_1 p0).f0,(rd_T34 l0_1 p0).f2,(rd_T34 l0_1 p0).f3,(rd_T34 l0_1 p0).f4⟩ : S34)]):=⟨_,rfl⟩
   replace H : (impl_Net_back.l0 k1 l0_1 (l0_1.length : Int) (wrap64 (p0 + 1)) a0_0 y216) = some (r1,r2):=by first | (rw [hy216]; with_reducible exact H) | (have H2_:=(Option.bind_some _ _).symm.trans H; rw [hy216]; with_reducible exact H2_) | (have H2_:=(Option.bind_some _ _).symm.trans H; with_reducible exact H2_) | with_reducible exact H | (rw [hy216]; exact H) | exact H
   have Ny216:=Z hy216;clear hy216;have H':=Z H;clear H;have p214 : 0 ≤ (p0 : Int):=of_decide_eq_true (by first | (with_reducible assumption) | assumption);have q214 : p0 < (l0_1.length : Int):=of_decide_eq_true (by first | (with_reducible assumption) | assumption);obtain ⟨ad214,e214,s4,s5,s6,s7,s8⟩:=at_T34 HR0_1.out p0 p214 q214;cases e214;replace s4:=(HB.out.cell (World.block_lt_of_cell? w _ s4)).trans s4;replace s5:=(HB.out.cell (World.block_lt_of_cell? w _ s5)).trans s5;replace s6:=(HB.out.cell (World.block_lt_of_cell? w _ s6)).trans s6;replace s7:=(HB.out.cell (World.block_lt_of_cell? w _ s7)).trans s7;replace s8:=(HB.out.cell (World.block_lt_of_cell? w _ s8)).trans s8;replace p214:=eq_true p214;replace q214:=eq_true q214
   go_wp2_with (first | ((with_reducible refine gate_dst (N:=5) rfl ?_); refine box_event ?hg (N:=5) ?hd (cs:=#[.int .i64 0,.int .i64 0,.int .i64 0,.int .i64 0,.int .i64 0]) (t:=34) ?hr ?_; (case hd => rfl); (case hg => rfl); (case hr => first | (go_simp; done) | (go_simp; rfl)); intro gz hg w22 hbox hb; have n0_:=Z (Kd.R_below (Kd.R_elderB r9.out gz (Nat.le_of_eq hg.symm)) hb); have n1_:=Z (blk_below p6.out hb); have n2_:=Z (blk_below p8.out hb); have n3_:=Z (blk_below r4.out hb); have n4_:=Z (below_step HB.out hb); have n5_:=Z hbox; have n6_:=Z (show w.heap.size ≤ gz by rw [hg]; exact below_size HB.out); have n7_:=Z (show q2 ≠ gz by rw [hg]; exact Nat.ne_of_lt (blk_lt p6.out)); have n8_:=Z (show q9 ≠ gz by rw [hg]; exact Nat.ne_of_lt (blk_lt p8.out)); have n9_:=Z (show p7 ≠ gz by rw [hg]; exact Nat.ne_of_lt (blk_lt r4.out)); clear r9 p6 p8 r4 HB hb hbox hg) | ((with_reducible refine gate_store (t:=34) (p:=5) (v:=.tmp 19) rfl ?_); refine put_event rfl rfl rfl n5_.out 0 #[.int .i64 (rd_T34 l0_1 p0).f0,.int .i64 (rd_T34 l0_1 p0).f1,.int .i64 (rd_T34 l0_1 p0).f2,.int .i64 (rd_T34 l0_1 p0).f3,.int .i64 (rd_T34 l0_1 p0).f4] (.agg #[.int .i64 (rd_T34 l0_1 p0).f0,.int .i64 (rd_T34 l0_1 p0).f1,.int .i64 (rd_T34 l0_1 p0).f2,.int .i64 (rd_T34 l0_1 p0).f3,.int .i64 (rd_T34 l0_1 p0).f4]) [.int .i64 (rd_T34 l0_1 p0).f0,.int .i64 (rd_T34 l0_1 p0).f1,.int .i64 (rd_T34 l0_1 p0).f2,.int .i64 (rd_T34 l0_1 p0).f3,.int .i64 (rd_T34 l0_1 p0).f4] (by first | rfl | (go_simp; done) | (go_simp; rfl)) (by first | rfl | (go_simp; done) | (go_simp; rfl)) rfl (by kernel_rfl) (by simp) (by simp [Value.oneCell']) rfl ?_; intro w23 hc hg; have p0_:=Z (Kd.R_grown n0_.out hg (fun k hk e => hk.2 (Option.some.inj e))); have p1_:=Z (blk_grown n1_.out hg (by simpa using n7_.out)); have p2_:=Z (blk_grown n2_.out hg (by simpa using n8_.out)); have p3_:=Z (blk_grown n3_.out hg (by simpa using n9_.out)); have p4_:=Z (pw_below_grown n4_.out _ (below_size n4_.out) hg (fun k hk => by obtain rfl : gz = k:=Option.some.inj hk; exact n6_.out)); clear n0_ n1_ n2_ n3_ n4_ n5_; have n0_:=p0_; have n1_:=p1_; have n2_:=p2_; have n3_:=p3_; have n4_:=p4_; have n5_:=Z hc; clear p0_ p1_ p2_ p3_ p4_ hc hg; have hz0 : w23.cell? ⟨gz,0,none⟩ = some (.int .i64 (rd_T34 l0_1 p0).f0):=(blk_cell n5_.out 0).trans rfl; have hz1 : w23.cell? ⟨gz,1,none⟩ = some (.int .i64 (rd_T34 l0_1 p0).f1):=(blk_cell n5_.out 1).trans rfl) | ((with_reducible refine gate_store (t:=3) (p:=24) (v:=.tmp 21) rfl ?_); clear hz0 hz1; refine put_event rfl rfl rfl n5_.out 0 #[.int .i64 (rd_T34 l0_1 p0).f1,.int .i64 (rd_T34 l0_1 p0).f1,.int .i64 (rd_T34 l0_1 p0).f2,.int .i64 (rd_T34 l0_1 p0).f3,.int .i64 (rd_T34 l0_1 p0).f4] (.int .i64 (rd_T34 l0_1 p0).f1) [.int .i64 (rd_T34 l0_1 p0).f1] (by first | rfl | (go_simp; done) | (go_simp; rfl)) (by first | rfl | (go_simp; done) | (go_simp; rfl)) rfl (by kernel_rfl) (by simp) (by simp [Value.oneCell']) rfl ?_; intro w24 hc hg; have p0_:=Z (Kd.R_grown n0_.out hg (fun k hk e => hk.2 (Option.some.inj e))); have p1_:=Z (blk_grown n1_.out hg (by simpa using n7_.out)); have p2_:=Z (blk_grown n2_.out hg (by simpa using n8_.out)); have p3_:=Z (blk_grown n3_.out hg (by simpa using n9_.out)); have p4_:=Z (pw_below_grown n4_.out _ (below_size n4_.out) hg (fun k hk => by obtain rfl : gz = k:=Option.some.inj hk; exact n6_.out)); clear n0_ n1_ n2_ n3_ n4_ n5_; have n0_:=p0_; have n1_:=p1_; have n2_:=p2_; have n3_:=p3_; have n4_:=p4_; have n5_:=Z hc; clear p0_ p1_ p2_ p3_ p4_ hc hg) | ((with_reducible refine gate_store (t:=3) (p:=25) (v:=.tmp 23) rfl ?_); refine put_event rfl rfl rfl n5_.out 1 #[.int .i64 (rd_T34 l0_1 p0).f1,.int .i64 (rd_T34 l0_1 p0).f0,.int .i64 (rd_T34 l0_1 p0).f2,.int .i64 (rd_T34 l0_1 p0).f3,.int .i64 (rd_T34 l0_1 p0).f4] (.int .i64 (rd_T34 l0_1 p0).f0) [.int .i64 (rd_T34 l0_1 p0).f0] (by first | rfl | (go_simp; done) | (go_simp; rfl)) (by first | rfl | (go_simp; done) | (go_simp; rfl)) rfl (by kernel_rfl) (by simp) (by simp [Value.oneCell']) rfl ?_; intro w25 hc hg; have p0_:=Z (Kd.R_grown n0_.out hg (fun k hk e => hk.2 (Option.some.inj e))); have p1_:=Z (blk_grown n1_.out hg (by simpa using n7_.out)); have p2_:=Z (blk_grown n2_.out hg (by simpa using n8_.out)); have p3_:=Z (blk_grown n3_.out hg (by simpa using n9_.out)); have p4_:=Z (pw_below_grown n4_.out _ (below_size n4_.out) hg (fun k hk => by obtain rfl : gz = k:=Option.some.inj hk; exact n6_.out)); clear n0_ n1_ n2_ n3_ n4_ n5_; have n0_:=p0_; have n1_:=p1_; have n2_:=p2_; have n3_:=p3_; have n4_:=p4_; have n5_:=Z hc; clear p0_ p1_ p2_ p3_ p4_ hc hg; have hz0 : w25.cell? ⟨gz,0,none⟩ = some (.int .i64 (rd_T34 l0_1 p0).f1):=(blk_cell n5_.out 0).trans rfl; have hz1 : w25.cell? ⟨gz,1,none⟩ = some (.int .i64 (rd_T34 l0_1 p0).f0):=(blk_cell n5_.out 1).trans rfl; have hz2 : w25.cell? ⟨gz,2,none⟩ = some (.int .i64 (rd_T34 l0_1 p0).f2):=(blk_cell n5_.out 2).trans rfl; have hz3 : w25.cell? ⟨gz,3,none⟩ = some (.int .i64 (rd_T34 l0_1 p0).f3):=(blk_cell n5_.out 3).trans rfl; have hz4 : w25.cell? ⟨gz,4,none⟩ = some (.int .i64 (rd_T34 l0_1 p0).f4):=(blk_cell n5_.out 4).trans rfl; have hy1 : w25.cell? ⟨p7,1,none⟩ = some r8:=(blk_cell n3_.out 1).trans rfl) | ((with_reducible refine gate_builtin (b:=.append) (xs:=#[.tmp 27,.tmp 29]) rfl ?_); at_builtin; refine Kd.R_append k34 (w0:=w) w.heap.size rfl (.tmp 27) (.tmp 29) 23 34 (.agg #[(.int .i64 0),(.int .i64 0),(.int .i64 0),(.int .i64 0),(.int .i64 0)]) 40 rfl Try.underlying23 info34 rfl (by decide) (by omega) r8 r3 (⟨(rd_T34 l0_1 p0).f1,(rd_T34 l0_1 p0).f0,(rd_T34 l0_1 p0).f2,(rd_T34 l0_1 p0).f3,(rd_T34 l0_1 p0).f4⟩ : S34) [.int .i64 ((rd_T34 l0_1 p0).f1),.int .i64 ((rd_T34 l0_1 p0).f0),.int .i64 ((rd_T34 l0_1 p0).f2),.int .i64 ((rd_T34 l0_1 p0).f3),.int .i64 ((rd_T34 l0_1 p0).f4)] (fun _ => True) (fun _ => False) rfl (by first | (go_simp; done) | (go_simp; rfl)) ?aP (fun _ hk => hk.elim) (fun _ _ => trivial) ?aO ?aB ?aS ?aL ?_; (case aP => exact k34_mkM _ _ _ (⟨(rd_T34 l0_1 p0).f1,(rd_T34 l0_1 p0).f0,(rd_T34 l0_1 p0).f2,(rd_T34 l0_1 p0).f3,(rd_T34 l0_1 p0).f4⟩ : S34)); (case aB => exact n4_.out); (case aO => exact Kd.R_mono n0_.out (fun _ _ => trivial)); (case aS => exact below_size n4_.out); (case aL => have:=LMc21.out; omega); intro v798 w30 ho hb hg hat; rw [← Ny216.out] at ho; have m1_:=Z (blk_grown n1_.out hg (Kd.R_ne n0_.out n1_.out (by decide))); have m2_:=Z (blk_grown n2_.out hg (Kd.R_ne n0_.out n2_.out (by decide))); have m3_:=Z (blk_grown n3_.out hg (Kd.R_ne n0_.out n3_.out (by decide))); have m0_:=Z (Kd.R_types ho m3_.out (by decide)); have m4_:=Z hb; clear n0_ n1_ n2_ n3_ n4_ n5_ n6_ n7_ n8_ n9_ hz0 hz1 hz2 hz3 hz4 hy1 ho hb hg hat; obtain ⟨Ao31,co31,eo31⟩:=Kd.R_slice m0_.out; subst eo31) | ((with_reducible refine gate_store (t:=23) (p:=31) (v:=.tmp 30) rfl ?_); refine put_event rfl rfl rfl m3_.out 1 #[.int .i64 a0_0,.slice Ao31 y216.length co31] (.slice Ao31 y216.length co31) [.slice Ao31 y216.length co31] (by first | rfl | (go_simp; done) | (go_simp; rfl)) (by first | rfl | (go_simp; done) | (go_simp; rfl)) rfl (by kernel_rfl) (by simp) (by simp [Value.oneCell']) rfl ?_; intro w31 hc hg; have k0_:=Z (Kd.R_grown m0_.out hg (fun k hk e => hk.2 (Option.some.inj e))); have k1_:=Z (blk_grown m1_.out hg (by simpa using q1.out)); have k2_:=Z (blk_grown m2_.out hg (by simpa using q7.out)); have k3_:=Z hc; have k4_:=Z (pw_below_grown m4_.out _ (below_size m4_.out) hg (fun k hk => by obtain rfl : p7 = k:=Option.some.inj hk; exact s0.out)); clear m0_ m1_ m2_ m3_ m4_ hc hg))
   go_roundg k1
   case measure => have:=HK1.out; omega
   case rel => exact ⟨(wrap64 (p0 + 1)),(y216),(.slice Ao31 y216.length co31),(by first | rfl | (simp; done) | (simp [*]; done)),H',⟨by have:=HK1.out; omega⟩,⟨Kd.R_mono k0_.out (fun _ _ => trivial)⟩,k1_,k2_,k3_,k4_⟩
structure Sch (b : Nat) (W : World) (gs gc gd : Nat) (n : Int) (A : Option Addr) (m c cc cd N : Nat) (x : List Int) (y : List Bool) : Prop where
 obj : W.heap[gs]? = some (.cells #[.int .i64 n,.slice A m c,.slice (some ⟨gc,0,none⟩) N cc,.slice (some ⟨gd,0,none⟩) N cd] 116 (0,0))
 hc : Kd.R (Kd.int .i64) 3 W b (fun k => k = gc) (.slice (some ⟨gc,0,none⟩) N cc) x
 hd : Kd.R Kd.bool 4 W b (fun k => k = gd) (.slice (some ⟨gd,0,none⟩) N cd) y
theorem Sch.step {b : Nat} {W W1 : World} {gs gc gd : Nat} {n : Int} {A : Option Addr} {m c cc cd N : Nat} {x : List Int} {y : List Bool} (h : Sch b W gs gc gd n A m c cc cd N x y) (hk : ∀ i,i < W.heap.size → i = gs ∨ i = gc ∨ i = gd → W1.heap[i]? = W.heap[i]?) : Sch b W1 gs gc gd n A m c cc cd N x y :=
 ⟨by rw [hk gs (blk_lt h.obj) (.inl rfl)]; exact h.obj,Kd.R_step h.hc (fun k e hlt => hk k hlt (.inr (.inl e))),Kd.R_step h.hd (fun k e hlt => hk k hlt (.inr (.inr e)))⟩
theorem Sch.below {b : Nat} {W W1 : World} {gs gc gd : Nat} {n : Int} {A : Option Addr} {m c cc cd N : Nat} {x : List Int} {y : List Bool} (h : Sch b W gs gc gd n A m c cc cd N x y) (hb : Below W.heap.size W W1) : Sch b W1 gs gc gd n A m c cc cd N x y :=
 h.step (fun i hi _ => hb.block i hi)
theorem Sch.lens {b : Nat} {W : World} {gs gc gd : Nat} {n : Int} {A : Option Addr} {m c cc cd N : Nat} {x : List Int} {y : List Bool} (h : Sch b W gs gc gd n A m c cc cd N x y) : x.length = N ∧ y.length = N:=⟨(Kd.R_reads' h.hc).1.symm,(Kd.R_reads' h.hd).1.symm⟩
theorem ne_obj {w : World} {base : Nat} {ok : Nat → Prop} {g ga n c t : Nat} {xs : List Int} {cells : Array Value} (h : Kd.R (Kd.int .i64) 3 w base ok (.slice (some ⟨ga,0,none⟩) n c) xs) (hb : w.heap[g]? = some (.cells cells t (0,0))) (ht : 3 ≠ t) : g ≠ ga :=
 fun e => Kd.R_ne h hb ht (by rw [e]; rfl)
theorem ne_objB {w : World} {base : Nat} {ok : Nat → Prop} {g ga n c t : Nat} {xs : List Bool} {cells : Array Value} (h : Kd.R Kd.bool 4 w base ok (.slice (some ⟨ga,0,none⟩) n c) xs) (hb : w.heap[g]? = some (.cells cells t (0,0))) (ht : 4 ≠ t) : g ≠ ga :=
 fun e => Kd.R_ne h hb ht (by rw [e]; rfl)
theorem apartN {w : World} {base : Nat} {ok ok' : Nat → Prop} {ga na ca gb nb cb : Nat} {xs : List Int} {ys : List Bool} (h : Kd.R (Kd.int .i64) 3 w base ok (.slice (some ⟨ga,0,none⟩) na ca) xs) (k : Kd.R Kd.bool 4 w base ok' (.slice (some ⟨gb,0,none⟩) nb cb) ys) : ga ≠ gb:=by
 obtain ⟨_,_,_,q,hq,cells,hc⟩:=(Kd.R_bound k).1 gb rfl;have hq2 : q = 4:=by
  rcases List.mem_cons.1 hq with e | e
  ·exact e
  ·exact absurd e (by show q ∉ ([] : List Nat); simp)
 subst hq2;exact fun e => ne_obj h hc (by decide) e.symm
theorem Sch.ne {b : Nat} {W : World} {gs gc gd : Nat} {n : Int} {A : Option Addr} {m c cc cd N : Nat} {x : List Int} {y : List Bool} (h : Sch b W gs gc gd n A m c cc cd N x y) : gs ≠ gc ∧ gs ≠ gd ∧ gc ≠ gd:=⟨ne_obj h.hc h.obj (by decide),ne_objB h.hd h.obj (by decide),apartN h.hc h.hd⟩
def nxF (x : List Int) (y : List Bool) : Nat → Nat → Int → Int
 | 0,_,a => a
 | d + 1,i,a => nxF x y d (i + 1) (if rd x (i : Int) ≠ 99999 ∧ rdOf false y (i : Int) = false ∧ (a < 0 ∨ rd x (i : Int) < rd x a) then (i : Int) else a)
def nextV (x : List Int) (y : List Bool) : Int:=nxF x y x.length 0 (-1)
theorem nxF_bd (x : List Int) (y : List Bool) : ∀ (d i : Nat) (a : Int),-1 ≤ a → a < (i : Int) + d → a < i ∨ d = 0 → -1 ≤ nxF x y d i a ∧ nxF x y d i a < (i : Int) + d ∨ (d = 0 ∧ nxF x y d i a = a)
 | 0,i,a,_,_,_ => .inr ⟨rfl,rfl⟩
 | d + 1,i,a,h,h1,h2 => by
  unfold nxF
  left
  have ha : a < i:=by omega
  split
  ·rcases nxF_bd x y d (i + 1) (i : Int) (by omega) (by omega) (by omega) with q | ⟨q1,q2⟩
   ·omega
   ·rw [q2]; omega
  ·rcases nxF_bd x y d (i + 1) a h (by omega) (by omega) with q | ⟨q1,q2⟩
   ·omega
   ·rw [q2]; omega
theorem nextV_bd (x : List Int) (y : List Bool) : -1 ≤ nextV x y ∧ nextV x y < x.length:=by
 unfold nextV
 rcases nxF_bd x y x.length 0 (-1) (by omega) (by omega) (by omega) with q | ⟨q1,q2⟩
 ·omega
 ·rw [q2]; omega
set_option maxHeartbeats 4000000 in
set_option maxRecDepth 100000 in
theorem search_next_calls {b : Nat} {W : World} {gs gc gd : Nat} {n : Int} {A : Option Addr} {m c cc cd N : Nat} {x : List Int} {y : List Bool} (hN : N ≤ 64) (h : Sch b W gs gc gd n A m c cc cd N x y) :
  Calls Try.prog 102 #[.pointer (some ⟨gs,0,none⟩)] W fun e w' => e = .returned (.int .i64 (nextV x y)) ∧ Below W.heap.size W w':=by
 have hu:=Try.underlying116;have hu2:=Try.underlying25;obtain ⟨lx,ly⟩:=h.lens;have HS:=Z h;have HN:=Z hN;have HX:=Z lx;have HY:=Z ly;have q2 : W.cell? ⟨gs,2,none⟩ = some (.slice (some ⟨gc,0,none⟩) N cc):=(blk_cell h.obj 2).trans rfl;have HV : Aside0 (nxF x y (N - 0) 0 (-1) = nextV x y):=⟨by unfold nextV; rw [lx,Nat.sub_zero]⟩
 clear h hN lx ly
 go_enter Try.func102,Try.ntmps102
 go_wp2
 clear q2
 go_loopg [3,11] N (fun gg s3 s11 wr => ∃ (i : Nat) (a : Int),s3 = .int .i64 a ∧ s11 = .int .i64 (i : Int) ∧ Aside0 (i ≤ N) ∧ Aside0 (N - i ≤ gg) ∧ Aside0 (Below W.heap.size W wr) ∧ Aside0 (-1 ≤ a ∧ a < (i : Int)) ∧ Aside0 (nxF x y (N - i) i a = nextV x y))
 case atStart => exact ⟨0,-1,rfl,rfl,⟨by omega⟩,⟨by omega⟩,⟨by first | exact Below.refl _ _ | (repeat (first | (with_reducible first | exact Below.refl _ _ | apply below_alloc | apply pw_below_drewN | apply below_drew1)))⟩,⟨by omega⟩,HV⟩
 case round =>
  clear HV;obtain ⟨i,a,rfl,rfl,J0,J1,J2,J3,J4⟩:=hrel
  by_cases hi : i < N
  case neg =>
   have c1 : decide ((i : Int) < (N : Int)) = false:=decide_eq_false (by omega);have c2 : decide (i < N) = false:=decide_eq_false hi;have hiN : i = N:=by have:=J0.out; omega
   have h5 : a = nextV x y:=by have h:=J4.out; rw [hiN,Nat.sub_self] at h; exact h
   have H5:=Z h5;clear h5 hiN hi
   go_wp2
   go_ret;exact ⟨by rw [H5.out]; rfl,J2.out⟩
  have c1 : decide ((i : Int) < (N : Int)) = true:=decide_eq_true (by omega);have c2 : decide (i < N) = true:=decide_eq_true hi;have hS:=Sch.below HS.out J2.out;have q2 : wr.cell? ⟨gs,2,none⟩ = some (.slice (some ⟨gc,0,none⟩) N cc):=(blk_cell hS.obj 2).trans rfl;have q3 : wr.cell? ⟨gs,3,none⟩ = some (.slice (some ⟨gd,0,none⟩) N cd):=(blk_cell hS.obj 3).trans rfl;have x1 : wr.cell? ⟨gc,i,none⟩ = some (.int .i64 (rd x (i : Int))):=by have:=(Kd.R_celln 0 hS.hc (i : Int) (by omega) (by omega)).1; rwa [Int.toNat_natCast] at this
  have y1 : wr.cell? ⟨gd,i,none⟩ = some (.bool (rdOf false y (i : Int))):=by have:=(Kd.R_celln false hS.hd (i : Int) (by omega) (by omega)).1; rwa [Int.toNat_natCast] at this
  have p2 : ((0 : Int) ≤ (i : Int)) = True:=eq_true (by omega);have p3 : ((i : Int) < (N : Int)) = True:=eq_true (by omega);have HI:=Z hi;have hw : wrap64 ((i : Int) + 1) = ((i + 1 : Nat) : Int):=by have h1:=HN.out; unfold wrap64; omega
  have HW:=Z hw;obtain ⟨d,hd⟩ : ∃ d,N - i = d + 1:=⟨N - i - 1,by omega⟩
  have h5:=J4.out;rw [hd] at h5
  unfold nxF at h5
  have hd2 : N - (i + 1) = d:=by omega
  rw [← hd2] at h5;have h3:=J3.out;clear hd hd2;have x2 : 0 ≤ a → wr.cell? ⟨gc,a.toNat,none⟩ = some (.int .i64 (rd x a)):=fun ha => (Kd.R_celln 0 hS.hc a ha (by omega)).1
  clear hS;obtain ⟨v,hv⟩ : ∃ v,v = rd x (i : Int):=⟨_,rfl⟩
  obtain ⟨t,ht⟩ : ∃ t,t = rdOf false y (i : Int):=⟨_,rfl⟩
  rw [← hv] at x1 h5;rw [← ht] at y1 h5;clear hv ht
  by_cases e0 : v = 99999
  case pos =>
   subst e0;have h6 : nxF x y (N - (i + 1)) (i + 1) a = nextV x y:=by rw [if_neg (fun q => q.1 rfl)] at h5; exact h5
   have H6:=Z h6;clear h5 h6 x2 h3 hi hw y1 q3;have hw:=HW.out
   go_wp2
   have hi:=HI.out;go_roundg (N - (i + 1))
   case measure => have:=J1.out; omega
   case rel => exact ⟨i + 1,a,rfl,by first | rfl | (rw [HW.out]; done) | (simp [HW.out]; done),⟨hi⟩,⟨Nat.le_refl _⟩,⟨by first | exact J2.out | (repeat (first | (with_reducible first | exact J2.out | apply below_alloc | apply pw_below_drewN | apply below_drew1)))⟩,⟨by have:=J3.out; omega⟩,H6⟩
  have e1 : (v != 99999) = true:=bne_iff_ne.mpr e0;have e2 : (v == 99999) = false:=beq_eq_false_iff_ne.mpr e0;have e3 : (v = 99999) = False:=eq_false e0;cases t with
  | true =>
   have h6 : nxF x y (N - (i + 1)) (i + 1) a = nextV x y:=by rw [if_neg (fun q => by simp at q)] at h5; exact h5
   have H6:=Z h6;clear h5 h6 x2 h3 hi hw;have hw:=HW.out
   go_wp2
   have hi:=HI.out;go_roundg (N - (i + 1))
   case measure => have:=J1.out; omega
   case rel => exact ⟨i + 1,a,rfl,by first | rfl | (rw [HW.out]; done) | (simp [HW.out]; done),⟨hi⟩,⟨Nat.le_refl _⟩,⟨by first | exact J2.out | (repeat (first | (with_reducible first | exact J2.out | apply below_alloc | apply pw_below_drewN | apply below_drew1)))⟩,⟨by have:=J3.out; omega⟩,H6⟩
  | false =>
   by_cases ha : a < 0
   case pos =>
    have a1 : decide (a < 0) = true:=decide_eq_true ha;have a2 : (a < 0) = True:=eq_true ha;have h6 : nxF x y (N - (i + 1)) (i + 1) (i : Int) = nextV x y:=by rw [if_pos ⟨e0,rfl,.inl ha⟩] at h5; exact h5
    have H6:=Z h6;clear h5 h6 x2 h3 hi hw;have hw:=HW.out
    go_wp2
    have hi:=HI.out;go_roundg (N - (i + 1))
    case measure => have:=J1.out; omega
    case rel => exact ⟨i + 1,(i : Int),rfl,by first | rfl | (rw [HW.out]; done) | (simp [HW.out]; done),⟨hi⟩,⟨Nat.le_refl _⟩,⟨by first | exact J2.out | (repeat (first | (with_reducible first | exact J2.out | apply below_alloc | apply pw_below_drewN | apply below_drew1)))⟩,⟨by omega⟩,H6⟩
   have a1 : decide (a < 0) = false:=decide_eq_false ha;have a2 : (a < 0) = False:=eq_false ha;have a3 : ((0 : Int) ≤ a) = True:=eq_true (by omega);have a4 : (a < (N : Int)) = True:=eq_true (by omega);have x3:=x2 (by omega)
   by_cases hl : v < rd x a
   case pos =>
    have l1 : decide (v < rd x a) = true:=decide_eq_true hl;have h6 : nxF x y (N - (i + 1)) (i + 1) (i : Int) = nextV x y:=by rw [if_pos ⟨e0,rfl,.inr hl⟩] at h5; exact h5
    have H6:=Z h6;clear h5 h6 x2 h3 hi hw;have hw:=HW.out
    go_wp2
    have hi:=HI.out;go_roundg (N - (i + 1))
    case measure => have:=J1.out; omega
    case rel => exact ⟨i + 1,(i : Int),rfl,by first | rfl | (rw [HW.out]; done) | (simp [HW.out]; done),⟨hi⟩,⟨Nat.le_refl _⟩,⟨by first | exact J2.out | (repeat (first | (with_reducible first | exact J2.out | apply below_alloc | apply pw_below_drewN | apply below_drew1)))⟩,⟨by omega⟩,H6⟩
   have l1 : decide (v < rd x a) = false:=decide_eq_false hl;have h6 : nxF x y (N - (i + 1)) (i + 1) a = nextV x y:=by rw [if_neg (fun q => by rcases q.2.2 with q | q; exact ha q; exact hl q)] at h5; exact h5
   have H6:=Z h6;clear h5 h6 x2 h3 hi hw;have hw:=HW.out
   go_wp2
   have hi:=HI.out;go_roundg (N - (i + 1))
   case measure => have:=J1.out; omega
   case rel => exact ⟨i + 1,a,rfl,by first | rfl | (rw [HW.out]; done) | (simp [HW.out]; done),⟨hi⟩,⟨Nat.le_refl _⟩,⟨by first | exact J2.out | (repeat (first | (with_reducible first | exact J2.out | apply below_alloc | apply pw_below_drewN | apply below_drew1)))⟩,⟨by have:=J3.out; omega⟩,H6⟩
def bits_Mul64.f (a0 : Int) (a1 : Int) : Option (Int × Int):=some (IntKind.u64.wrap ((IntKind.u64.wrap ((IntKind.u64.wrap ((a0 / 4294967296) * (a1 / 4294967296))) + ((IntKind.u64.wrap ((IntKind.u64.wrap ((a0 / 4294967296) * (Go.bits .and .u64 a1 4294967295))) + ((IntKind.u64.wrap ((Go.bits .and .u64 a0 4294967295) * (Go.bits .and .u64 a1 4294967295))) / 4294967296))) / 4294967296))) + ((IntKind.u64.wrap ((Go.bits .and .u64 (IntKind.u64.wrap ((IntKind.u64.wrap ((a0 / 4294967296) * (Go.bits .and .u64 a1 4294967295))) + ((IntKind.u64.wrap ((Go.bits .and .u64 a0 4294967295) * (Go.bits .and .u64 a1 4294967295))) / 4294967296))) 4294967295) + (IntKind.u64.wrap ((Go.bits .and .u64 a0 4294967295) * (a1 / 4294967296))))) / 4294967296)),IntKind.u64.wrap (a0 * a1))
set_option maxHeartbeats 8000000 in
set_option maxRecDepth 100000 in
theorem bits_Mul64.calls (a0 : Int) (a1 : Int) (r1 : Int) (r2 : Int) (w : World) (h : bits_Mul64.f a0 a1 = some (r1,r2)) :
  Calls Try.prog 138 #[.int .u64 a0,.int .u64 a1] w fun e w' => e = .returned (.tuple #[.int .u64 r1,.int .u64 r2]) ∧ Drawn0 w w':=by
 have H : (some (IntKind.u64.wrap ((IntKind.u64.wrap ((IntKind.u64.wrap ((a0 / 4294967296) * (a1 / 4294967296))) + ((IntKind.u64.wrap ((IntKind.u64.wrap ((a0 / 4294967296) * (Go.bits .and .u64 a1 4294967295))) + ((IntKind.u64.wrap ((Go.bits .and .u64 a0 4294967295) * (Go.bits .and .u64 a1 4294967295))) / 4294967296))) / 4294967296))) + ((IntKind.u64.wrap ((Go.bits .and .u64 (IntKind.u64.wrap ((IntKind.u64.wrap ((a0 / 4294967296) * (Go.bits .and .u64 a1 4294967295))) + ((IntKind.u64.wrap ((Go.bits .and .u64 a0 4294967295) * (Go.bits .and .u64 a1 4294967295))) / 4294967296))) 4294967295) + (IntKind.u64.wrap ((Go.bits .and .u64 a0 4294967295) * (a1 / 4294967296))))) / 4294967296)),IntKind.u64.wrap (a0 * a1))) = some (r1,r2):=h;clear h;simp only [Option.some.injEq,Prod.mk.injEq] at H;obtain ⟨rfl,rfl⟩:=H
 go_enter Try.func138,Try.ntmps138
 go_wp2
 go_ret2;exact ⟨by first | rfl | (simp; done) | (simp [*]; done),by repeat (first | exact Drawn0.refl _ | apply Drawn0.step)⟩
def bits_Mul.f (a0 : Int) (a1 : Int) : Option (Int × Int):=(bits_Mul64.f a0 a1).bind fun bt219 => (some (bt219.1,bt219.2))
set_option maxHeartbeats 8000000 in
set_option maxRecDepth 100000 in
theorem bits_Mul.calls (a0 : Int) (a1 : Int) (r1 : Int) (r2 : Int) (w : World) (h : bits_Mul.f a0 a1 = some (r1,r2)) :
  Calls Try.prog 132 #[.int .u64 a0,.int .u64 a1] w fun e w' => e = .returned (.tuple #[.int .u64 r1,.int .u64 r2]) ∧ Drawn0 w w':=by
 have H : ((bits_Mul64.f a0 a1).bind fun bt219 => (some (bt219.1,bt219.2))) = some (r1,r2):=h;clear h;replace H:=Option.bind_eq_some_iff.mp H;obtain ⟨⟨t219,t220⟩,A30,H⟩:=H;replace H : (some (t219,t220)) = some (r1,r2):=H;have A3:=Z A30;clear A30;simp only [Option.some.injEq,Prod.mk.injEq] at H;obtain ⟨rfl,rfl⟩:=H
 go_enter Try.func132,Try.ntmps132
 go_wp2_with (first | ((with_reducible refine gate_callee (f:=138) rfl ?_); refine goesL_ (some 25) rfl rfl Try.func138 (by kernel_rfl) rfl #[.int .u64 a0,.int .u64 a1] rfl (by (try simp only [List.map_toArray,List.map_cons,List.map_nil]); first | done | rfl | (simp only [List.length_drop,List.length_take]; rfl)) ?_; (with_reducible refine (bits_Mul64.calls a0 a1 t219 t220 _ A3.out).mono ?_); rintro e w' ⟨rfl,⟨nd,rfl⟩⟩; refine ⟨_,rfl,?_⟩))
 go_ret2;exact ⟨by first | rfl | (simp; done) | (simp [*]; done),by repeat (first | exact Drawn0.refl _ | apply Drawn0.step)⟩
end Go.Proofs.Ytljdcinpjnijcaa.Pr
end
